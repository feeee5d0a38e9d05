/- Plain facts on the numbers of the prime field and on lists. -/
import Derived.Test.YtgjpdjblchgfdaaFw
namespace Go.Rk

/-- The number of an integer. -/
def nm (n : Int) : Int := n % 10007
def isN (a : Int) : Bool := decide (0 ≤ a ∧ a ≤ 10006)
def allN (xs : List Int) : Bool := xs.all isN

theorem nm_tmod (n : Int) : (n.tmod 10007 + 10007).tmod 10007 = nm n := by
  unfold nm
  by_cases h : 0 ≤ n
  · rw [Int.tmod_eq_emod_of_nonneg h, Int.tmod_eq_emod_of_nonneg (by omega)]
    omega
  · have h1 : n.tmod 10007 = -((-n) % 10007) := by
      rw [← Int.tmod_eq_emod_of_nonneg (by omega), Int.neg_tmod, Int.neg_neg]
    rw [h1, Int.tmod_eq_emod_of_nonneg (by omega)]
    omega
theorem tmod_bd (n : Int) : -10007 < n.tmod 10007 ∧ n.tmod 10007 < 10007 := by
  by_cases h : 0 ≤ n
  · rw [Int.tmod_eq_emod_of_nonneg h]; omega
  · have h1 : n.tmod 10007 = -((-n) % 10007) := by
      rw [← Int.tmod_eq_emod_of_nonneg (by omega), Int.neg_tmod, Int.neg_neg]
    rw [h1]; omega
theorem nm_bd (n : Int) : 0 ≤ nm n ∧ nm n ≤ 10006 := by unfold nm; omega
theorem nm_isN (n : Int) : isN (nm n) = true := by have := nm_bd n; simp [isN]; exact this
theorem isN_bd {a : Int} (h : isN a = true) : 0 ≤ a ∧ a ≤ 10006 := by simpa [isN] using h
theorem nm_of {a : Int} (h : isN a = true) : nm a = a := by have := isN_bd h; unfold nm; omega
theorem allN_get {xs : List Int} (h : allN xs = true) {i : Nat} (hi : i < xs.length) : 0 ≤ xs[i] ∧ xs[i] ≤ 10006 :=
  isN_bd (List.all_eq_true.1 h _ (List.getElem_mem hi))
theorem mul_bd {a b : Int} (h1 : 0 ≤ a) (h2 : a ≤ 10006) (h3 : 0 ≤ b) (h4 : b ≤ 10006) : 0 ≤ a * b ∧ a * b ≤ 100120036 :=
  ⟨Int.mul_nonneg h1 h3, by have := Int.mul_le_mul h2 h4 h3 (by omega : (0 : Int) ≤ 10006); omega⟩

theorem nm_add_nm (a b : Int) : nm (a + nm b) = nm (a + b) := by unfold nm; omega
theorem nm_nm (a : Int) : nm (nm a) = nm a := by unfold nm; omega
theorem nm_mul_nm (a b : Int) : nm (a * nm b) = nm (a * b) := by unfold nm; rw [Int.mul_emod, Int.emod_emod_of_dvd _ (Int.dvd_refl _), ← Int.mul_emod]
theorem nm_nm_mul (a b : Int) : nm (nm a * b) = nm (a * b) := by rw [Int.mul_comm, nm_mul_nm, Int.mul_comm]

/-! Lists -/
theorem take_snoc {α : Type} {ys : List α} {i : Nat} (h : i < ys.length) {y : α} (hy : ys[i] = y) : ys.take (i + 1) = ys.take i ++ [y] := by
  rw [List.take_succ_eq_append_getElem h, hy]

/-- The sum of a list and a multiple of another one. -/
def plusL (a b : List Int) (k : Int) : List Int := List.zipWith (fun x y => nm (x + nm k * y)) a b
theorem plusL_length (a b : List Int) (k : Int) : (plusL a b k).length = min a.length b.length := by simp [plusL]
def scaledL (a : List Int) (k : Int) : List Int := a.map fun x => nm (x * nm k)

theorem plusL_get {a b : List Int} {k : Int} {i : Nat} (h : i < (plusL a b k).length) (h1 : i < a.length) (h2 : i < b.length) : (plusL a b k)[i] = nm (a[i] + nm k * b[i]) := by simp [plusL]
theorem scaledL_length (a : List Int) (k : Int) : (scaledL a k).length = a.length := by simp [scaledL]
theorem scaledL_get {a : List Int} {k : Int} {i : Nat} (h : i < (scaledL a k).length) (h1 : i < a.length) : (scaledL a k)[i] = nm (a[i] * nm k) := by simp [scaledL]
theorem plusL_zero (xs : List Int) (k : Int) (hl : xs.length = 38) (hk : isN k = true) : plusL (List.replicate 38 0) xs k = scaledL xs k := by
  apply List.ext_getElem
  · simp [plusL, scaledL, hl]
  · intro i h1 h2
    rw [scaledL_length] at h2
    rw [plusL_get h1 (by simp; omega) h2, scaledL_get _ h2, nm_of hk, List.getElem_replicate, Int.zero_add, Int.mul_comm]

def isMap (a : List Int) : Bool := decide (a.length = 38) && allN a
def addMaps (a b : List Int) : List Int × Int := if isMap a = true ∧ isMap b = true then (plusL a b 1, 0) else ([], 1)
def multiplyMap (a : List Int) (k : Int) : List Int × Int := if isMap a = false then ([], 1) else if isN k = false then ([], 2) else (scaledL a k, 0)

theorem addMaps_len (a b : List Int) : (addMaps a b).1.length ≤ 1000000 := by
  unfold addMaps
  split
  · rename_i h
    have h1 : a.length = 38 := by have := h.1; simp [isMap] at this; exact this.1
    show (plusL a b 1).length ≤ 1000000
    rw [plusL_length]; omega
  · simp
theorem multiplyMap_len (a : List Int) (k : Int) : (multiplyMap a k).1.length ≤ 1000000 := by
  unfold multiplyMap
  split
  · simp
  · rename_i h
    have h1 : a.length = 38 := by simp [isMap] at h; exact h.1
    split
    · simp
    · show (scaledL a k).length ≤ 1000000
      rw [scaledL_length]; omega
theorem allN_nil : allN [] = true := rfl
theorem allN_cons (x : Int) (xs : List Int) : allN (x :: xs) = (isN x && allN xs) := by simp [allN]
theorem isMap_false_len {xs : List Int} (h : xs.length ≠ 38) : isMap xs = false := by simp [isMap, h]
theorem isMap_of_len {xs : List Int} (h : xs.length = 38) : isMap xs = allN xs := by simp [isMap, h]
theorem isMap_len {xs : List Int} (h : isMap xs = true) : xs.length = 38 := by simp [isMap] at h; exact h.1
theorem isMap_all {xs : List Int} (h : isMap xs = true) : allN xs = true := by simp [isMap] at h; exact h.2
theorem isN_not_any (xs : List Int) : (!(xs.any fun x => !isN x)) = allN xs := by
  induction xs with
  | nil => rfl
  | cons x xs ih => simp only [allN, List.any_cons, List.all_cons, Bool.not_or, Bool.not_not] at ih ⊢; rw [ih]
theorem isN_def (a : Int) : isN a = decide (0 ≤ a ∧ a ≤ 10006) := rfl
attribute [irreducible] isN allN isMap nm

/-- The first index at which p holds, or -1. -/
def idxFrom {α : Type} (p : α → Bool) : Int → List α → Int
  | _, [] => -1
  | i, x :: xs => if p x then i else idxFrom p (i + 1) xs
theorem idxFrom_lt {α : Type} (p : α → Bool) (xs : List α) (i : Int) (hi : 0 ≤ i) : (0 ≤ idxFrom p i xs) ↔ xs.any p = true := by
  induction xs generalizing i with
  | nil => simp [idxFrom]
  | cons x xs ih =>
    unfold idxFrom
    by_cases h : p x = true
    · simp [h, hi]
    · simp [h, ih (i + 1) (by omega)]
end Go.Rk
