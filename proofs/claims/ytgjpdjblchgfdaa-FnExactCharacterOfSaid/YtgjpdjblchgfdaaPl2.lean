/- Plain facts on tableaus. -/
import Derived.Test.YtgjpdjblchgfdaaH4
import Derived.Test.YtgjpdjblchgfdaaPl1
namespace Go.Rk
open Go.Fw
def rowOk (n : Nat) (r : List Int) : Bool := decide (r.length = n) && allN r
def isTab (x : TabD) : Bool := decide (1 ≤ x.2.length ∧ x.2.length ≤ 8 ∧ x.1.length = x.2.length) && (allN x.2 && x.1.all (rowOk x.2.length))
theorem rowOk_len {n : Nat} {r : List Int} (h : r.length ≠ n) : rowOk n r = false := by simp [rowOk, h]
theorem rowOk_of {n : Nat} {r : List Int} (h : r.length = n) : rowOk n r = allN r := by simp [rowOk, h]
theorem isTab_len {x : TabD} (h : ¬ (1 ≤ x.2.length ∧ x.2.length ≤ 8 ∧ x.1.length = x.2.length)) : isTab x = false := by
  unfold isTab; rw [decide_eq_false h]; rfl
theorem isTab_last {x : TabD} (h : allN x.2 = false) : isTab x = false := by simp [isTab, h]
theorem isTab_rows {x : TabD} (h : 1 ≤ x.2.length ∧ x.2.length ≤ 8 ∧ x.1.length = x.2.length) (h2 : allN x.2 = true) : isTab x = x.1.all (rowOk x.2.length) := by
  unfold isTab; rw [decide_eq_true h, h2]; rfl
theorem all_not_any {α : Type} (p : α → Bool) (xs : List α) : (!(xs.any fun x => !p x)) = xs.all p := by
  induction xs with
  | nil => rfl
  | cons x xs ih => simp only [List.any_cons, List.all_cons, Bool.not_or, Bool.not_not] at ih ⊢; rw [ih]
theorem all_drop {α : Type} (p : α → Bool) {xs : List α} {i : Nat} (h : i < xs.length) : (xs.drop i).all p = (p xs[i] && (xs.drop (i + 1)).all p) := by
  rw [List.drop_eq_getElem_cons h, List.all_cons]

structure Tab (x : TabD) : Prop where
  pos : 1 ≤ x.2.length
  le8 : x.2.length ≤ 8
  sq : x.1.length = x.2.length
  last : allN x.2 = true
  row : ∀ r ∈ x.1, r.length = x.2.length ∧ allN r = true
theorem isTab_iff {x : TabD} (h : isTab x = true) : Tab x := by
  unfold isTab at h
  simp only [Bool.and_eq_true, decide_eq_true_eq, List.all_eq_true] at h
  obtain ⟨⟨h1, h2, h3⟩, h4, h5⟩ := h
  exact ⟨h1, h2, h3, h4, fun r hr => by
    have := h5 r hr
    unfold rowOk at this
    simpa using this⟩
attribute [irreducible] isTab rowOk

/-- Of the row at i, the numbers from i + k on are 0. -/
def zeroRow (j : Nat) (r : List Int) : Bool := (r.drop j).all fun x => decide (x = 0)
def zeroFromA (k : Nat) : Nat → List (List Int) → Bool
  | _, [] => true
  | i, r :: rs => zeroRow (i + k) r && zeroFromA k (i + 1) rs
theorem zeroFromA_drop (k : Nat) {xss : List (List Int)} {i : Nat} (h : i < xss.length) : zeroFromA k i (xss.drop i) = (zeroRow (i + k) xss[i] && zeroFromA k (i + 1) (xss.drop (i + 1))) := by
  rw [List.drop_eq_getElem_cons h, zeroFromA]
theorem zeroRow_drop {r : List Int} {j : Nat} (h : j < r.length) : zeroRow j r = (decide (r[j] = 0) && zeroRow (j + 1) r) := by
  unfold zeroRow; rw [List.drop_eq_getElem_cons h, List.all_cons]
theorem zeroRow_end {r : List Int} {j : Nat} (h : r.length ≤ j) : zeroRow j r = true := by
  unfold zeroRow; rw [List.drop_eq_nil_of_le h]; rfl
attribute [irreducible] zeroRow
def isExplicit (x : TabD) : Bool × Int := if isTab x = true then (zeroFromA 0 0 x.1, 0) else (false, 1)
def isDiagonal (x : TabD) : Bool × Int := if isTab x = true then (zeroFromA 1 0 x.1, 0) else (false, 1)
def neutralTableau : TabD := ([[0]], [0])
end Go.Rk
