/- Plain facts: the trees with n nodes, as the program lists them. -/
import Derived.Test.YtgjpdjblchgfdaaPl10
namespace Go.Rk
open Go.Fw Go.Proofs
/-- The last of the first m places with a level above 1. -/
def lastBig (t : List Int) : Nat → Option Nat
  | 0 => none
  | m + 1 => if 1 < t[m]?.getD 0 then some m else lastBig t m
/-- The last of the first m places with a level x. -/
def lastEq (t : List Int) (x : Int) : Nat → Nat
  | 0 => 0
  | m + 1 => if t[m]?.getD 0 = x then m else lastEq t x m
/-- From i on, f places: each takes the level d places ahead of it. -/
def shiftGo (d : Nat) : Nat → Nat → List Int → List Int
  | 0, _, t => t
  | f + 1, i, t => shiftGo d f (i + 1) (t.set i (t[i - d]?.getD 0))
def nextT (t : List Int) : Option (List Int) :=
  match lastBig t t.length with
  | none => none
  | some p => some (shiftGo (p - lastEq t (t[p]?.getD 0 - 1) p) (t.length - p) p t)
def treesGo : Nat → List Int → List (List Int)
  | 0, _ => []
  | f + 1, t => t :: (match nextT t with
    | none => []
    | some t' => treesGo f t')
def firstT (n : Nat) : List Int := (List.range n).map fun i => ((i : Nat) : Int)
def treesN (n : Nat) : List (List Int) := treesGo 21 (firstT n)
theorem treesN_check : ((List.range 6).all fun i => ((treesN (i + 1)).all fun t => isLev t && decide (t.length = i + 1)) && (match (treesN (i + 1)).getLast? with | some t => (nextT t).isNone | none => false)) = true := by kernel_rfl
theorem treesN_ok {n : Nat} (h0 : 1 ≤ n) (h1 : n ≤ 6) : (∀ t ∈ treesN n, Lv t ∧ t.length = n) ∧ ∀ t, (treesN n).getLast? = some t → nextT t = none := by
  have h := List.all_eq_true.1 treesN_check (n - 1) (List.mem_range.2 (by omega))
  rw [show n - 1 + 1 = n from by omega, Bool.and_eq_true] at h
  refine ⟨fun t ht => ?_, fun t ht => ?_⟩
  · have h2 := List.all_eq_true.1 h.1 t ht
    rw [Bool.and_eq_true, decide_eq_true_eq] at h2
    exact ⟨(isLev_iff h2.1).1, h2.2⟩
  · have h2 := h.2
    rw [ht] at h2
    cases hn : nextT t with
    | none => rfl
    | some t' => simp only [hn] at h2; cases h2
theorem lastBig_step {t : List Int} {m : Nat} (hm : m < t.length) (h : ¬ 1 < t[m]) : lastBig t (m + 1) = lastBig t m := by
  rw [lastBig, List.getElem?_eq_getElem hm, Option.getD_some, if_neg h]
theorem lastBig_hit {t : List Int} {m : Nat} (hm : m < t.length) (h : 1 < t[m]) : lastBig t (m + 1) = some m := by
  rw [lastBig, List.getElem?_eq_getElem hm, Option.getD_some, if_pos h]
theorem lastEq_step {t : List Int} {x : Int} {m : Nat} (hm : m < t.length) (h : t[m] ≠ x) : lastEq t x (m + 1) = lastEq t x m := by
  rw [lastEq, List.getElem?_eq_getElem hm, Option.getD_some, if_neg h]
theorem lastEq_hit {t : List Int} {x : Int} {m : Nat} (hm : m < t.length) (h : t[m] = x) : lastEq t x (m + 1) = m := by
  rw [lastEq, List.getElem?_eq_getElem hm, Option.getD_some, if_pos h]
theorem shiftGo_length (d f i : Nat) (t : List Int) : (shiftGo d f i t).length = t.length := by
  induction f generalizing i t with
  | zero => rfl
  | succ f ih => rw [shiftGo, ih, List.length_set]
theorem nextT_none {t : List Int} (h : lastBig t t.length = none) : nextT t = none := by unfold nextT; rw [h]
theorem nextT_some {t : List Int} {p : Nat} (h : lastBig t t.length = some p) (hp : p < t.length) {q : Nat} (hq : lastEq t (t[p] - 1) p = q) : nextT t = some (shiftGo (p - q) (t.length - p) p t) := by
  unfold nextT
  rw [h]
  simp only [List.getElem?_eq_getElem hp, Option.getD_some, hq]
theorem treesGo_none {t : List Int} (f : Nat) (h : nextT t = none) : treesGo (f + 1) t = [t] := by rw [treesGo, h]
theorem treesGo_some {t t' : List Int} (f : Nat) (h : nextT t = some t') : treesGo (f + 1) t = t :: treesGo f t' := by rw [treesGo, h]
theorem firstT_length (n : Nat) : (firstT n).length = n := by simp [firstT]
theorem firstT_get {n i : Nat} (h : i < (firstT n).length) : (firstT n)[i] = ((i : Nat) : Int) := by simp [firstT]
def treesTo : Nat → List (List Int)
  | 0 => []
  | n + 1 => treesTo n ++ treesN (n + 1)
theorem treesN_len : ((List.range 6).all fun i => decide ((treesN (i + 1)).length ≤ 20)) = true := by kernel_rfl
theorem treesN_le {n : Nat} (h0 : 1 ≤ n) (h1 : n ≤ 6) : (treesN n).length ≤ 20 := by
  have h := List.all_eq_true.1 treesN_len (n - 1) (List.mem_range.2 (by omega))
  rw [show n - 1 + 1 = n from by omega] at h
  exact of_decide_eq_true h
theorem treesTo_ok {n : Nat} (h : n ≤ 6) : ∀ t ∈ treesTo n, Lv t ∧ t.length ≤ n := by
  induction n with
  | zero => intro t ht; cases ht
  | succ n ih =>
    intro t ht
    rcases List.mem_append.1 ht with h1 | h1
    · have := ih (by omega) t h1; exact ⟨this.1, by omega⟩
    · have := (treesN_ok (n := n + 1) (by omega) h).1 t h1; exact ⟨this.1, by omega⟩
end Go.Rk
