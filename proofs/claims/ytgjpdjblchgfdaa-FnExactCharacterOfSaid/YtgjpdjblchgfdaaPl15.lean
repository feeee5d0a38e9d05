/- Plain facts: the order of a tableau, counted tree by tree and up to so many nodes. -/
import Derived.Test.YtgjpdjblchgfdaaPl13
namespace Go.Rk
open Go.Fw Go.Proofs
/-- The first index at which something is lacking, or -1. -/
def faultGo (x : TabD) : Int → List (List Int) → Int
  | _, [] => -1
  | i, t :: ts => if lackL x t ≠ 0 then i else faultGo x (i + 1) ts
def faultL (x : TabD) (n : Nat) : Int := faultGo x 0 (treesTo n)
theorem faultGo_drop {x : TabD} {ts : List (List Int)} {i : Nat} (h : i < ts.length) : faultGo x (i : Int) (ts.drop i) = if lackL x ts[i] ≠ 0 then (i : Int) else faultGo x ((i + 1 : Nat) : Int) (ts.drop (i + 1)) := by
  rw [List.drop_eq_getElem_cons h, faultGo]
  rfl
def allOk (x : TabD) (ts : List (List Int)) : Bool := ts.all fun t => decide (lackL x t = 0)
theorem faultGo_neg (x : TabD) (ts : List (List Int)) (i : Int) (hi : 0 ≤ i) : faultGo x i ts < 0 ↔ allOk x ts = true := by
  induction ts generalizing i with
  | nil => simp [faultGo, allOk]
  | cons t ts ih =>
    unfold faultGo
    have hall : allOk x (t :: ts) = (decide (lackL x t = 0) && allOk x ts) := rfl
    rw [hall]
    by_cases h : lackL x t = 0
    · rw [if_neg (by simpa using h), decide_eq_true h, Bool.true_and]
      exact ih (i + 1) (by omega)
    · rw [if_pos h, decide_eq_false h, Bool.false_and]
      constructor
      · intro h'; omega
      · intro h'; cases h'
theorem faultL_neg (x : TabD) (n : Nat) : faultL x n < 0 ↔ allOk x (treesTo n) = true := faultGo_neg x _ 0 (Int.le_refl _)
theorem allOk_to (x : TabD) (n : Nat) : allOk x (treesTo (n + 1)) = (allOk x (treesTo n) && allOk x (treesN (n + 1))) := by
  unfold allOk; rw [treesTo, List.all_append]
/-- As the reference counts. -/
def ordS (x : TabD) : Nat → Nat → Int
  | p, 0 => (p : Int)
  | p, f + 1 => if allOk x (treesTo (p + 1)) = true then ordS x (p + 1) f else (p : Int)
theorem ordS_step (x : TabD) {p : Nat} (h : p < 6) : ordS x p (6 - p) = if allOk x (treesTo (p + 1)) = true then ordS x (p + 1) (6 - (p + 1)) else (p : Int) := by
  rw [show 6 - p = (6 - (p + 1)) + 1 from by omega, ordS]
/-- orderGo with another end. -/
def og (x : TabD) : List (List Int) → Int → Int
  | [], d => d
  | t :: ts, d => if lackL x t ≠ 0 then (t.length : Int) - 1 else og x ts d
theorem orderGo_og (x : TabD) (ts : List (List Int)) : orderGo x ts = og x ts 6 := by
  induction ts with
  | nil => rfl
  | cons t ts ih => rw [orderGo, og, ih]
theorem og_append (x : TabD) (a b : List (List Int)) (d : Int) : og x (a ++ b) d = og x a (og x b d) := by
  induction a with
  | nil => rfl
  | cons t ts ih => rw [List.cons_append, og, og, ih]
theorem og_same {x : TabD} {n : Nat} {ts : List (List Int)} (h : ∀ t ∈ ts, t.length = n) (d : Int) : og x ts d = if allOk x ts = true then d else (n : Int) - 1 := by
  induction ts with
  | nil => rfl
  | cons t ts ih =>
    have hall : allOk x (t :: ts) = (decide (lackL x t = 0) && allOk x ts) := rfl
    rw [og, hall, ih fun t ht => h t (by simp [ht]), h t (by simp)]
    by_cases h0 : lackL x t = 0
    · rw [if_neg (by simpa using h0), decide_eq_true h0, Bool.true_and]
    · rw [if_pos h0, decide_eq_false h0, Bool.false_and]; rfl
theorem orderL_eq (x : TabD) : orderL x = ordS x 0 6 := by
  have hs : ∀ n d, 1 ≤ n → n ≤ 6 → og x (treesN n) d = if allOk x (treesN n) = true then d else (n : Int) - 1 := fun n d h0 h1 => og_same (fun t ht => ((treesN_ok h0 h1).1 t ht).2) d
  have h0 : allOk x (treesTo 0) = true := rfl
  have e : treesTo 6 = ((((([] ++ treesN 1) ++ treesN 2) ++ treesN 3) ++ treesN 4) ++ treesN 5) ++ treesN 6 := rfl
  unfold orderL
  rw [orderGo_og, e]
  rw [og_append, og_append, og_append, og_append, og_append, og_append]
  rw [hs 1 _ (by omega) (by omega), hs 2 _ (by omega) (by omega), hs 3 _ (by omega) (by omega), hs 4 _ (by omega) (by omega), hs 5 _ (by omega) (by omega), hs 6 _ (by omega) (by omega)]
  simp only [ordS, allOk_to, h0, Bool.true_and]
  cases allOk x (treesN (0 + 1)) <;> cases allOk x (treesN (1 + 1)) <;> cases allOk x (treesN (2 + 1)) <;> cases allOk x (treesN (3 + 1)) <;> cases allOk x (treesN (4 + 1)) <;> cases allOk x (treesN (5 + 1)) <;> rfl
end Go.Rk
