/- Plain facts: the order of stages that turns one tableau into another. -/
import Derived.Test.YtgjpdjblchgfdaaPl8
namespace Go.Rk
open Go.Fw Go.Proofs
def at2 (xss : List (List Int)) (i j : Nat) : Int := (xss[i]?.getD [])[j]?.getD 0
theorem at2_eq {xss : List (List Int)} {i j : Nat} (hi : i < xss.length) (hj : j < xss[i].length) : at2 xss i j = xss[i][j] := by
  unfold at2; rw [List.getElem?_eq_getElem hi, Option.getD_some, List.getElem?_eq_getElem hj]; rfl
def fit1 (x y : TabD) (i n : Nat) : Bool := decide (x.2[i]?.getD 0 = y.2[n]?.getD 0)
def fit2 (x y : TabD) (i n : Nat) : Bool := decide (at2 x.1 i i = at2 y.1 n n)
def fitA (x y : TabD) (order : List Int) (i k : Nat) : Bool := decide (at2 x.1 i (order[k]?.getD 0).toNat = at2 y.1 order.length k)
def fitB (x y : TabD) (order : List Int) (i k : Nat) : Bool := decide (at2 x.1 (order[k]?.getD 0).toNat i = at2 y.1 k order.length)
def fitK (x y : TabD) (order : List Int) (i k : Nat) : Bool := fitA x y order i k && fitB x y order i k
/-- The stage i of x may stand next. -/
def fits (x y : TabD) (order : List Int) (i : Nat) : Bool :=
  (!decide ((i : Int) ∈ order)) && (fit1 x y i order.length && (fit2 x y i order.length && (List.range order.length).all (fitK x y order i)))
def firstSome {α : Type} (g : Nat → Option α) : Nat → Nat → Option α
  | _, 0 => none
  | i, m + 1 => match g i with
    | some r => some r
    | none => firstSome g (i + 1) m
theorem firstSome_none {α : Type} {g : Nat → Option α} {i m : Nat} (h : g i = none) : firstSome g i (m + 1) = firstSome g (i + 1) m := by rw [firstSome, h]
theorem firstSome_some {α : Type} {g : Nat → Option α} {i m : Nat} {r : α} (h : g i = some r) : firstSome g i (m + 1) = some r := by rw [firstSome, h]
/-- The first whole list that goes on from a list of stages; f: how many are lacking. -/
def findG (x y : TabD) : Nat → List Int → Option (List Int)
  | 0, order => some order
  | f + 1, order => firstSome (fun i => if fits x y order i = true then findG x y f (order ++ [(i : Int)]) else none) 0 x.2.length
theorem findG_len {x y : TabD} {f : Nat} {order l : List Int} (h : findG x y f order = some l) : l.length = order.length + f := by
  induction f generalizing order with
  | zero => simp only [findG, Option.some.injEq] at h; rw [← h]; rfl
  | succ f ih =>
    unfold findG at h
    have key : ∀ m i, firstSome (fun i => if fits x y order i = true then findG x y f (order ++ [(i : Int)]) else none) i m = some l → l.length = order.length + (f + 1) := by
      intro m
      induction m with
      | zero => intro i h; cases h
      | succ m ihm =>
        intro i h
        unfold firstSome at h
        split at h
        · rename_i r hr
          simp only [Option.some.injEq] at h
          subst h
          split at hr
          · have := ih hr; simp at this; omega
          · cases hr
        · exact ihm _ h
    exact key _ _ h
/-- A list of stages. -/
def OrdOk (n : Nat) (order : List Int) : Prop := ∀ o ∈ order, 0 ≤ o ∧ o < n
theorem OrdOk.snoc {n : Nat} {order : List Int} (h : OrdOk n order) {i : Nat} (hi : i < n) : OrdOk n (order ++ [(i : Int)]) := fun o ho => by
  rcases List.mem_append.1 ho with h1 | h1
  · exact h o h1
  · simp only [List.mem_singleton] at h1; omega
theorem OrdOk.get {n : Nat} {order : List Int} (h : OrdOk n order) {k : Nat} (hk : k < order.length) : 0 ≤ order[k] ∧ order[k] < n := h _ (List.getElem_mem hk)
def stageOrder (x y : TabD) : List Int × Int :=
  if isTab x = true ∧ isTab y = true then (if x.2.length = y.2.length then (match findG x y x.2.length [] with | some l => (l, 0) | none => ([], 4)) else ([], 4)) else ([], 1)
theorem stageOrder_len (x y : TabD) : (stageOrder x y).1.length ≤ 1000000 := by
  unfold stageOrder
  split
  · rename_i h
    have hx := isTab_iff h.1
    have h8 := hx.le8
    split
    · split
      · rename_i l hl
        have := findG_len hl
        simp at this
        show l.length ≤ 1000000
        omega
      · simp
    · simp
  · simp
theorem all_range_succ {p : Nat → Bool} {k : Nat} : (List.range (k + 1)).all p = ((List.range k).all p && p k) := by
  rw [List.range_succ, List.all_append]; simp
theorem fits_has {x y : TabD} {order : List Int} {i : Nat} (h : (i : Int) ∈ order) : fits x y order i = false := by unfold fits; rw [decide_eq_true h]; rfl
theorem fits_1 {x y : TabD} {order : List Int} {i : Nat} (h : fit1 x y i order.length = false) : fits x y order i = false := by unfold fits; rw [h, Bool.false_and, Bool.and_false]
theorem fits_2 {x y : TabD} {order : List Int} {i : Nat} (h : fit2 x y i order.length = false) : fits x y order i = false := by unfold fits; rw [h, Bool.false_and, Bool.and_false, Bool.and_false]
theorem fits_all {x y : TabD} {order : List Int} {i : Nat} (h0 : ¬ (i : Int) ∈ order) (h1 : fit1 x y i order.length = true) (h2 : fit2 x y i order.length = true) : fits x y order i = (List.range order.length).all (fitK x y order i) := by
  unfold fits; rw [decide_eq_false h0, h1, h2]; rfl
theorem all_range_false {p : Nat → Bool} {k n : Nat} (hk : k ≤ n) (h : (List.range k).all p = false) : (List.range n).all p = false := by
  rw [List.all_eq_false] at h ⊢
  obtain ⟨i, hi, hp⟩ := h
  exact ⟨i, List.mem_range.2 (by have := List.mem_range.1 hi; omega), hp⟩
end Go.Rk
