/- Plain facts: alike stages. -/
import Derived.Test.YtgjpdjblchgfdaaPl8
namespace Go.Rk
open Go.Fw Go.Proofs

/-- The numbers of a row, summed class by class. -/
def csGo : List Int → List Int → List Int → List Int
  | out, a :: r, c :: cs => csGo (out.set c.toNat (nm (out[c.toNat]?.getD 0 + a))) r cs
  | out, _, _ => out
def sumsL (row cls : List Int) : List Int := csGo (List.replicate cls.length 0) row cls
theorem csGo_drop {row cls : List Int} {k : Nat} (h1 : k < row.length) (h2 : k < cls.length) (out : List Int) :
    csGo out (row.drop k) (cls.drop k) = csGo (out.set cls[k].toNat (nm (out[cls[k].toNat]?.getD 0 + row[k]))) (row.drop (k + 1)) (cls.drop (k + 1)) := by
  rw [List.drop_eq_getElem_cons h1, List.drop_eq_getElem_cons h2, csGo]
theorem csGo_end {row cls : List Int} {k : Nat} (h2 : cls.length ≤ k) (out : List Int) : csGo out (row.drop k) (cls.drop k) = out := by
  rw [List.drop_eq_nil_of_le h2]
  cases row.drop k <;> rfl
theorem csGo_length (out row cls : List Int) : (csGo out row cls).length = out.length := by
  induction row generalizing out cls with
  | nil => rfl
  | cons a r ih =>
    cases cls with
    | nil => rfl
    | cons c cs => rw [csGo, ih, List.length_set]
theorem sumsL_length (row cls : List Int) : (sumsL row cls).length = cls.length := by unfold sumsL; rw [csGo_length, List.length_replicate]
theorem allN_set {xs : List Int} (h : allN xs = true) (i : Nat) (v : Int) (hv : isN v = true) : allN (xs.set i v) = true := allN_of fun x hx => by
  rcases List.mem_or_eq_of_mem_set hx with h1 | h1
  · unfold allN at h; exact List.all_eq_true.1 h x h1
  · rw [h1]; exact hv
theorem allN_zeros (n : Nat) : allN (List.replicate n 0) = true := allN_of fun x hx => by
  rw [List.eq_of_mem_replicate hx]; exact isN_of (by omega)

def firstFrom (p : Nat → Bool) : Nat → Nat → Nat
  | k, 0 => k
  | k, f + 1 => if p k = true then k else firstFrom p (k + 1) f
def leastN (p : Nat → Bool) (i : Nat) : Nat := firstFrom p 0 i
theorem firstFrom_eq {p : Nat → Bool} {f a k : Nat} (h1 : a ≤ k) (h2 : k ≤ a + f) (hp : p k = true) (hl : ∀ j, a ≤ j → j < k → p j = false) : firstFrom p a f = k := by
  induction f generalizing a with
  | zero => unfold firstFrom; omega
  | succ f ih =>
    unfold firstFrom
    by_cases e : a = k
    · subst e; rw [if_pos hp]
    · rw [hl a (Nat.le_refl _) (by omega)]
      exact ih (by omega) (by omega) (fun j h3 h4 => hl j (by omega) h4)
theorem leastN_eq {p : Nat → Bool} {i k : Nat} (hk : k ≤ i) (hp : p k = true) (hl : ∀ j, j < k → p j = false) : leastN p i = k :=
  firstFrom_eq (by omega) (by omega) hp (fun j _ h => hl j h)
theorem least_ex {p : Nat → Bool} {i : Nat} (hp : p i = true) : ∃ k, k ≤ i ∧ p k = true ∧ ∀ j, j < k → p j = false := by
  induction i using Nat.strongRecOn with
  | _ i ih =>
    by_cases h : ∃ j, j < i ∧ p j = true
    · obtain ⟨j, hj, hpj⟩ := h
      obtain ⟨k, hk, h1, h2⟩ := ih j hj hpj
      exact ⟨k, by omega, h1, h2⟩
    · exact ⟨i, Nat.le_refl _, hp, fun j hj => by
        cases hq : p j with
        | false => rfl
        | true => exact absurd ⟨j, hj, hq⟩ h⟩
theorem leastN_spec {p : Nat → Bool} {i : Nat} (hp : p i = true) : leastN p i ≤ i ∧ p (leastN p i) = true ∧ ∀ j, j < leastN p i → p j = false := by
  obtain ⟨k, hk, h1, h2⟩ := least_ex hp
  rw [leastN_eq hk h1 h2]
  exact ⟨hk, h1, h2⟩

def matchC (xss : List (List Int)) (cls : List Int) (k i : Nat) : Bool :=
  decide (cls[k]?.getD 0 = cls[i]?.getD 0) && decide (sumsL (xss[k]?.getD []) cls = sumsL (xss[i]?.getD []) cls)
theorem matchC_self (xss : List (List Int)) (cls : List Int) (i : Nat) : matchC xss cls i i = true := by simp [matchC]
def leastC (xss : List (List Int)) (cls : List Int) (i : Nat) : Nat := leastN (fun k => matchC xss cls k i) i
theorem leastC_spec (xss : List (List Int)) (cls : List Int) (i : Nat) : leastC xss cls i ≤ i ∧ matchC xss cls (leastC xss cls i) i = true ∧ ∀ j, j < leastC xss cls i → matchC xss cls j i = false :=
  leastN_spec (p := fun k => matchC xss cls k i) (matchC_self xss cls i)
/-- One round: each stage's least stage that is alike. -/
def refineL (xss : List (List Int)) (cls : List Int) : List Int := (List.range cls.length).map fun i => ((leastC xss cls i : Nat) : Int)
theorem refineL_length (xss : List (List Int)) (cls : List Int) : (refineL xss cls).length = cls.length := by simp [refineL]
theorem refineL_get {xss : List (List Int)} {cls : List Int} {i : Nat} (h : i < (refineL xss cls).length) : (refineL xss cls)[i] = ((leastC xss cls i : Nat) : Int) := by simp [refineL]
theorem refineL_get? {xss : List (List Int)} {cls : List Int} {i : Nat} (h : i < cls.length) : (refineL xss cls)[i]?.getD 0 = ((leastC xss cls i : Nat) : Int) := by
  rw [List.getElem?_eq_getElem (by rw [refineL_length]; exact h), Option.getD_some, refineL_get]
/-- Classes: numbers of stages, none above its own place. -/
def Cls (n : Nat) (cls : List Int) : Prop := cls.length = n ∧ ∀ i, i < n → 0 ≤ cls[i]?.getD 0 ∧ cls[i]?.getD 0 ≤ i
theorem cls_refine {n : Nat} (xss : List (List Int)) {cls : List Int} (h : cls.length = n) : Cls n (refineL xss cls) := ⟨by rw [refineL_length, h], fun i hi => by
  rw [refineL_get? (by omega)]
  have := (leastC_spec xss cls i).1
  omega⟩
theorem cls_zero (n : Nat) : Cls n (List.replicate n 0) := ⟨by simp, fun i hi => by rw [List.getElem?_replicate, if_pos hi]; simp⟩
theorem Cls.get {n : Nat} {cls : List Int} (h : Cls n cls) {i : Nat} (hi : i < cls.length) : 0 ≤ cls[i] ∧ cls[i] ≤ i := by
  have := h.2 i (by have := h.1; omega)
  rw [List.getElem?_eq_getElem hi] at this
  exact this

def itN (xss : List (List Int)) : List Int → Nat → List Int
  | c, 0 => c
  | c, t + 1 => itN xss (refineL xss c) t
theorem itN_length (xss : List (List Int)) (c : List Int) (t : Nat) : (itN xss c t).length = c.length := by
  induction t generalizing c with
  | zero => rfl
  | succ t ih => rw [itN, ih, refineL_length]
theorem itN_fix {xss : List (List Int)} {c : List Int} (h : refineL xss c = c) (t : Nat) : itN xss c t = c := by
  induction t with
  | zero => rfl
  | succ t ih => rw [itN, h, ih]
def alikeL (x : TabD) : List Int := itN x.1 (List.replicate x.2.length 0) x.2.length
def roots (n : Nat) (c : List Int) : Nat := (List.range n).countP fun (i : Nat) => decide (c[i]?.getD 0 = (i : Int))
theorem countP_lt {p q : Nat → Bool} {l : List Nat} (h : ∀ i ∈ l, p i = true → q i = true) (hk : ∃ k ∈ l, p k = false ∧ q k = true) : l.countP p < l.countP q := by
  induction l with
  | nil => obtain ⟨k, hk, _⟩ := hk; simp at hk
  | cons a l ih =>
    have hle : l.countP p ≤ l.countP q := List.countP_mono_left fun i hi => h i (by simp [hi])
    rw [List.countP_cons, List.countP_cons]
    obtain ⟨k, hk, h1, h2⟩ := hk
    rcases List.mem_cons.1 hk with rfl | hk
    · rw [h1, h2]; simp; omega
    · have := ih (fun i hi => h i (by simp [hi])) ⟨k, hk, h1, h2⟩
      have h3 := h a (by simp)
      cases hp : p a with
      | true => rw [h3 hp]; simp; omega
      | false => simp; split <;> omega
theorem roots_le (n : Nat) (c : List Int) : roots n c ≤ n := by
  have := List.countP_le_length (p := fun i => decide (c[i]?.getD 0 = ((i : Nat) : Int))) (l := List.range n)
  rw [List.length_range] at this
  exact this
theorem roots_lt {n : Nat} {xss : List (List Int)} {c : List Int} (hc : Cls n c) (hne : refineL xss c ≠ c) : roots n c < roots n (refineL xss c) := by
  refine countP_lt (fun i hi hp => ?_) ?_
  · have hin := List.mem_range.1 hi
    have hp := of_decide_eq_true hp
    refine decide_eq_true ?_
    rw [refineL_get? (by rw [hc.1]; exact hin)]
    have hs := leastC_spec xss c i
    have hm := hs.2.1
    unfold matchC at hm
    rw [Bool.and_eq_true] at hm
    have h1 := of_decide_eq_true hm.1
    have h2 := hc.2 (leastC xss c i) (by omega)
    omega
  · obtain ⟨i, hi, hd⟩ : ∃ i, i < n ∧ (refineL xss c)[i]?.getD 0 ≠ c[i]?.getD 0 := by
      apply Classical.byContradiction
      intro hno
      apply hne
      apply List.ext_getElem
      · exact refineL_length _ _
      · intro i h1 h2
        have hh : ¬ ((refineL xss c)[i]?.getD 0 ≠ c[i]?.getD 0) := fun hx => hno ⟨i, by rw [← hc.1]; exact h2, hx⟩
        have hh := Decidable.not_not.1 hh
        rw [List.getElem?_eq_getElem h1, List.getElem?_eq_getElem h2] at hh
        exact hh
    rw [refineL_get? (by rw [hc.1]; exact hi)] at hd
    have hs := leastC_spec xss c i
    have hm := hs.2.1
    unfold matchC at hm
    rw [Bool.and_eq_true] at hm
    have h1 := of_decide_eq_true hm.1
    have h2 := of_decide_eq_true hm.2
    refine ⟨leastC xss c i, List.mem_range.2 (by omega), decide_eq_false (by omega), decide_eq_true ?_⟩
    rw [refineL_get? (by rw [hc.1]; omega)]
    have : leastC xss c (leastC xss c i) = leastC xss c i := leastN_eq (Nat.le_refl _) (matchC_self _ _ _) fun j hj => by
      have h3 := hs.2.2 j hj
      unfold matchC at h3 ⊢
      rw [h1, h2]
      exact h3
    omega
theorem roots_zero {n : Nat} (hn : 1 ≤ n) : 1 ≤ roots n (List.replicate n 0) := by
  unfold roots
  refine List.countP_pos_iff.2 ⟨0, List.mem_range.2 hn, ?_⟩
  rw [List.getElem?_replicate, if_pos (by omega)]
  simp
def alikeStages (x : TabD) : List Int × Int := if isTab x = true then (alikeL x, 0) else ([], 1)
theorem alikeStages_len (x : TabD) : (alikeStages x).1.length ≤ 1000000 := by
  unfold alikeStages
  split
  · rename_i h
    have := (isTab_iff h).le8
    show (alikeL x).length ≤ 1000000
    unfold alikeL
    rw [itN_length, List.length_replicate]
    omega
  · simp
end Go.Rk
