/- Plain facts of this claim's lists, tableaus, trees and maps. -/
import Derived.Test.YthepgmajeljdhaaGreatDoorBase
import Derived.Test.YthepgmajeljdhaaGreatDoorHB
/- Plain facts on the numbers of the prime field and on lists. -/
namespace Go.Rk

/-- The number of an integer. -/
def nm (n : Int) : Int := n % 10007
def isN (a : Int) : Bool := decide (0 ≤ a ∧ a ≤ 10006)
def allN (xs : List Int) : Bool := xs.all isN

theorem nm_tmod (n : Int) : (n.tmod 10007 + 10007).tmod 10007 = nm n := by
  unfold nm
  by_cases h : 0 ≤ n
  · rw [Int.tmod_eq_emod_of_nonneg h, Int.tmod_eq_emod_of_nonneg (by omega)]
    omega
  · have h1 : n.tmod 10007 = -((-n) % 10007) := by
      rw [← Int.tmod_eq_emod_of_nonneg (by omega), Int.neg_tmod, Int.neg_neg]
    rw [h1, Int.tmod_eq_emod_of_nonneg (by omega)]
    omega
theorem tmod_bd (n : Int) : -10007 < n.tmod 10007 ∧ n.tmod 10007 < 10007 := by
  by_cases h : 0 ≤ n
  · rw [Int.tmod_eq_emod_of_nonneg h]; omega
  · have h1 : n.tmod 10007 = -((-n) % 10007) := by
      rw [← Int.tmod_eq_emod_of_nonneg (by omega), Int.neg_tmod, Int.neg_neg]
    rw [h1]; omega
theorem nm_bd (n : Int) : 0 ≤ nm n ∧ nm n ≤ 10006 := by unfold nm; omega
theorem nm_isN (n : Int) : isN (nm n) = true := by have := nm_bd n; simp [isN]; exact this
theorem isN_bd {a : Int} (h : isN a = true) : 0 ≤ a ∧ a ≤ 10006 := by simpa [isN] using h
theorem nm_of {a : Int} (h : isN a = true) : nm a = a := by have := isN_bd h; unfold nm; omega
theorem allN_get {xs : List Int} (h : allN xs = true) {i : Nat} (hi : i < xs.length) : 0 ≤ xs[i] ∧ xs[i] ≤ 10006 :=
  isN_bd (List.all_eq_true.1 h _ (List.getElem_mem hi))
theorem mul_bd {a b : Int} (h1 : 0 ≤ a) (h2 : a ≤ 10006) (h3 : 0 ≤ b) (h4 : b ≤ 10006) : 0 ≤ a * b ∧ a * b ≤ 100120036 :=
  ⟨Int.mul_nonneg h1 h3, by have := Int.mul_le_mul h2 h4 h3 (by omega : (0 : Int) ≤ 10006); omega⟩

theorem nm_add_nm (a b : Int) : nm (a + nm b) = nm (a + b) := by unfold nm; omega
theorem nm_nm (a : Int) : nm (nm a) = nm a := by unfold nm; omega
theorem nm_mul_nm (a b : Int) : nm (a * nm b) = nm (a * b) := by unfold nm; rw [Int.mul_emod, Int.emod_emod_of_dvd _ (Int.dvd_refl _), ← Int.mul_emod]
theorem nm_nm_mul (a b : Int) : nm (nm a * b) = nm (a * b) := by rw [Int.mul_comm, nm_mul_nm, Int.mul_comm]

/-! Lists -/
theorem take_snoc {α : Type} {ys : List α} {i : Nat} (h : i < ys.length) {y : α} (hy : ys[i] = y) : ys.take (i + 1) = ys.take i ++ [y] := by
  rw [List.take_succ_eq_append_getElem h, hy]

/-- The sum of a list and a multiple of another one. -/
def plusL (a b : List Int) (k : Int) : List Int := List.zipWith (fun x y => nm (x + nm k * y)) a b
theorem plusL_length (a b : List Int) (k : Int) : (plusL a b k).length = min a.length b.length := by simp [plusL]
def scaledL (a : List Int) (k : Int) : List Int := a.map fun x => nm (x * nm k)

theorem plusL_get {a b : List Int} {k : Int} {i : Nat} (h : i < (plusL a b k).length) (h1 : i < a.length) (h2 : i < b.length) : (plusL a b k)[i] = nm (a[i] + nm k * b[i]) := by simp [plusL]
theorem scaledL_length (a : List Int) (k : Int) : (scaledL a k).length = a.length := by simp [scaledL]
theorem scaledL_get {a : List Int} {k : Int} {i : Nat} (h : i < (scaledL a k).length) (h1 : i < a.length) : (scaledL a k)[i] = nm (a[i] * nm k) := by simp [scaledL]
theorem plusL_zero (xs : List Int) (k : Int) (hl : xs.length = 38) (hk : isN k = true) : plusL (List.replicate 38 0) xs k = scaledL xs k := by
  apply List.ext_getElem
  · simp [plusL, scaledL, hl]
  · intro i h1 h2
    rw [scaledL_length] at h2
    rw [plusL_get h1 (by simp; omega) h2, scaledL_get _ h2, nm_of hk, List.getElem_replicate, Int.zero_add, Int.mul_comm]

def isMap (a : List Int) : Bool := decide (a.length = 38) && allN a
def addMaps (a b : List Int) : List Int × Int := if isMap a = true ∧ isMap b = true then (plusL a b 1, 0) else ([], 1)
def multiplyMap (a : List Int) (k : Int) : List Int × Int := if isMap a = false then ([], 1) else if isN k = false then ([], 2) else (scaledL a k, 0)

theorem addMaps_len (a b : List Int) : (addMaps a b).1.length ≤ 1000000 := by
  unfold addMaps
  split
  · rename_i h
    have h1 : a.length = 38 := by have := h.1; simp [isMap] at this; exact this.1
    show (plusL a b 1).length ≤ 1000000
    rw [plusL_length]; omega
  · simp
theorem multiplyMap_len (a : List Int) (k : Int) : (multiplyMap a k).1.length ≤ 1000000 := by
  unfold multiplyMap
  split
  · simp
  · rename_i h
    have h1 : a.length = 38 := by simp [isMap] at h; exact h.1
    split
    · simp
    · show (scaledL a k).length ≤ 1000000
      rw [scaledL_length]; omega
theorem allN_nil : allN [] = true := rfl
theorem allN_cons (x : Int) (xs : List Int) : allN (x :: xs) = (isN x && allN xs) := by simp [allN]
theorem isMap_false_len {xs : List Int} (h : xs.length ≠ 38) : isMap xs = false := by simp [isMap, h]
theorem isMap_of_len {xs : List Int} (h : xs.length = 38) : isMap xs = allN xs := by simp [isMap, h]
theorem isMap_len {xs : List Int} (h : isMap xs = true) : xs.length = 38 := by simp [isMap] at h; exact h.1
theorem isMap_all {xs : List Int} (h : isMap xs = true) : allN xs = true := by simp [isMap] at h; exact h.2
theorem isN_not_any (xs : List Int) : (!(xs.any fun x => !isN x)) = allN xs := by
  induction xs with
  | nil => rfl
  | cons x xs ih => simp only [allN, List.any_cons, List.all_cons, Bool.not_or, Bool.not_not] at ih ⊢; rw [ih]
theorem isN_def (a : Int) : isN a = decide (0 ≤ a ∧ a ≤ 10006) := rfl
attribute [irreducible] isN allN isMap nm

/-- The first index at which p holds, or -1. -/
def idxFrom {α : Type} (p : α → Bool) : Int → List α → Int
  | _, [] => -1
  | i, x :: xs => if p x then i else idxFrom p (i + 1) xs
theorem idxFrom_lt {α : Type} (p : α → Bool) (xs : List α) (i : Int) (hi : 0 ≤ i) : (0 ≤ idxFrom p i xs) ↔ xs.any p = true := by
  induction xs generalizing i with
  | nil => simp [idxFrom]
  | cons x xs ih =>
    unfold idxFrom
    by_cases h : p x = true
    · simp [h, hi]
    · simp [h, ih (i + 1) (by omega)]
end Go.Rk
/- Plain facts on tableaus. -/
namespace Go.Rk
open Go.Fw
def rowOk (n : Nat) (r : List Int) : Bool := decide (r.length = n) && allN r
def isTab (x : TabD) : Bool := decide (1 ≤ x.2.length ∧ x.2.length ≤ 8 ∧ x.1.length = x.2.length) && (allN x.2 && x.1.all (rowOk x.2.length))
theorem rowOk_len {n : Nat} {r : List Int} (h : r.length ≠ n) : rowOk n r = false := by simp [rowOk, h]
theorem rowOk_of {n : Nat} {r : List Int} (h : r.length = n) : rowOk n r = allN r := by simp [rowOk, h]
theorem isTab_len {x : TabD} (h : ¬ (1 ≤ x.2.length ∧ x.2.length ≤ 8 ∧ x.1.length = x.2.length)) : isTab x = false := by
  unfold isTab; rw [decide_eq_false h]; rfl
theorem isTab_last {x : TabD} (h : allN x.2 = false) : isTab x = false := by simp [isTab, h]
theorem isTab_rows {x : TabD} (h : 1 ≤ x.2.length ∧ x.2.length ≤ 8 ∧ x.1.length = x.2.length) (h2 : allN x.2 = true) : isTab x = x.1.all (rowOk x.2.length) := by
  unfold isTab; rw [decide_eq_true h, h2]; rfl
theorem all_not_any {α : Type} (p : α → Bool) (xs : List α) : (!(xs.any fun x => !p x)) = xs.all p := by
  induction xs with
  | nil => rfl
  | cons x xs ih => simp only [List.any_cons, List.all_cons, Bool.not_or, Bool.not_not] at ih ⊢; rw [ih]
theorem all_drop {α : Type} (p : α → Bool) {xs : List α} {i : Nat} (h : i < xs.length) : (xs.drop i).all p = (p xs[i] && (xs.drop (i + 1)).all p) := by
  rw [List.drop_eq_getElem_cons h, List.all_cons]

structure Tab (x : TabD) : Prop where
  pos : 1 ≤ x.2.length
  le8 : x.2.length ≤ 8
  sq : x.1.length = x.2.length
  last : allN x.2 = true
  row : ∀ r ∈ x.1, r.length = x.2.length ∧ allN r = true
theorem isTab_iff {x : TabD} (h : isTab x = true) : Tab x := by
  unfold isTab at h
  simp only [Bool.and_eq_true, decide_eq_true_eq, List.all_eq_true] at h
  obtain ⟨⟨h1, h2, h3⟩, h4, h5⟩ := h
  exact ⟨h1, h2, h3, h4, fun r hr => by
    have := h5 r hr
    unfold rowOk at this
    simpa using this⟩
attribute [irreducible] isTab rowOk

/-- Of the row at i, the numbers from i + k on are 0. -/
def zeroRow (j : Nat) (r : List Int) : Bool := (r.drop j).all fun x => decide (x = 0)
def zeroFromA (k : Nat) : Nat → List (List Int) → Bool
  | _, [] => true
  | i, r :: rs => zeroRow (i + k) r && zeroFromA k (i + 1) rs
theorem zeroFromA_drop (k : Nat) {xss : List (List Int)} {i : Nat} (h : i < xss.length) : zeroFromA k i (xss.drop i) = (zeroRow (i + k) xss[i] && zeroFromA k (i + 1) (xss.drop (i + 1))) := by
  rw [List.drop_eq_getElem_cons h, zeroFromA]
theorem zeroRow_drop {r : List Int} {j : Nat} (h : j < r.length) : zeroRow j r = (decide (r[j] = 0) && zeroRow (j + 1) r) := by
  unfold zeroRow; rw [List.drop_eq_getElem_cons h, List.all_cons]
theorem zeroRow_end {r : List Int} {j : Nat} (h : r.length ≤ j) : zeroRow j r = true := by
  unfold zeroRow; rw [List.drop_eq_nil_of_le h]; rfl
attribute [irreducible] zeroRow
def isExplicit (x : TabD) : Bool × Int := if isTab x = true then (zeroFromA 0 0 x.1, 0) else (false, 1)
def isDiagonal (x : TabD) : Bool × Int := if isTab x = true then (zeroFromA 1 0 x.1, 0) else (false, 1)
def neutralTableau : TabD := ([[0]], [0])
end Go.Rk
/- How many numbers the answers hold. -/
namespace Go.Rk
open Go.Fw Go.Proofs
theorem neutralTableau_len : tabCnt neutralTableau ≤ 1000000 := by decide
end Go.Rk
/- Plain facts: sums, products, nodes, the inverse of a tableau. -/
namespace Go.Rk
open Go.Fw Go.Proofs

theorem nm_nm_add (a b : Int) : nm (nm a + b) = nm (a + b) := by rw [Int.add_comm, nm_add_nm, Int.add_comm]
theorem nm_zero : nm 0 = 0 := by unfold nm; rfl
theorem sum_take_succ {xs : List Int} {i : Nat} (h : i < xs.length) : (xs.take (i + 1)).sum = (xs.take i).sum + xs[i] := by
  rw [List.take_succ_eq_append_getElem h, List.sum_append]; simp
theorem sum_bd {xs : List Int} (h : allN xs = true) : 0 ≤ xs.sum ∧ xs.sum ≤ 10006 * xs.length := by
  induction xs with
  | nil => simp
  | cons x xs ih =>
    rw [allN_cons, Bool.and_eq_true] at h
    have h1 := isN_bd h.1
    have h2 := ih h.2
    simp only [List.sum_cons, List.length_cons]
    omega
theorem allN_take {xs : List Int} (h : allN xs = true) (i : Nat) : allN (xs.take i) = true := by
  induction xs generalizing i with
  | nil => simpa using h
  | cons x xs ih =>
    cases i with
    | zero => exact allN_nil
    | succ i =>
      rw [allN_cons, Bool.and_eq_true] at h
      rw [List.take_succ_cons, allN_cons, h.1, ih h.2]; rfl
theorem allN_ones (n : Nat) : allN (List.replicate n 1) = true := by
  induction n with
  | zero => exact allN_nil
  | succ n ih => rw [List.replicate_succ, allN_cons, ih, isN_def]; rfl

/-- The sum of products. -/
def dotL (xs ys : List Int) : Int := nm (List.zipWith (· * ·) xs ys).sum
theorem dotL_ones {xs : List Int} {n : Nat} (h : xs.length = n) : dotL xs (List.replicate n 1) = nm xs.sum := by
  subst h
  unfold dotL
  congr 1
  induction xs with
  | nil => rfl
  | cons x xs ih => simp only [List.length_cons, List.replicate_succ, List.zipWith_cons_cons, List.sum_cons, Int.mul_one, ih]

def nodesL (xss : List (List Int)) : List Int := xss.map fun r => nm r.sum
def nodesOf (x : TabD) : List Int × Int := if isTab x = true then (nodesL x.1, 0) else ([], 1)
theorem nodesOf_len (x : TabD) : (nodesOf x).1.length ≤ 1000000 := by
  unfold nodesOf
  split
  · rename_i h
    have := isTab_iff h
    have h1 := this.le8
    have h2 := this.sq
    simp [nodesL]
    omega
  · simp

/-- The inverse of a tableau. -/
def inverseL (x : TabD) : TabD := (x.1.map fun r => plusL r x.2 (-1), scaledL x.2 (-1))
def inverseTableau (x : TabD) : TabD × Int := if isTab x = true then (inverseL x, 0) else (([], []), 1)
theorem cntSS_le {xss : List (List Int)} {n : Nat} (h : ∀ r ∈ xss, r.length ≤ n) : cntSS xss ≤ n * xss.length := by
  induction xss with
  | nil => simp [cntSS]
  | cons x xss ih =>
    have h1 := h x (by simp)
    have h2 := ih fun r hr => h r (by simp [hr])
    rw [cntSS_cons, List.length_cons, Nat.mul_succ]
    omega
theorem inverseTableau_len (x : TabD) : tabCnt (inverseTableau x).1 ≤ 1000000 := by
  unfold inverseTableau
  split
  · rename_i h
    have ht := isTab_iff h
    have h1 := ht.le8
    have h2 := ht.sq
    have h3 : cntSS (inverseL x).1 ≤ 8 * (inverseL x).1.length := cntSS_le fun r hr => by
      obtain ⟨r', hr', rfl⟩ := List.mem_map.1 hr
      rw [plusL_length]; omega
    have h4 : (inverseL x).1.length = x.1.length := by simp [inverseL]
    have h5 : (inverseL x).2.length = x.2.length := by simp [inverseL, scaledL]
    unfold tabCnt
    simp only
    omega
  · decide
end Go.Rk
/- Plain facts: lists of nodes, the polynomial of nodes, powers, integrals. -/
namespace Go.Rk
open Go.Fw Go.Proofs

theorem idxFrom_mem (xs : List Int) (x : Int) : (xs.any fun y => decide (y = x)) = decide (x ∈ xs) := by
  rw [Bool.eq_iff_iff]
  simp

theorem nodup_take_succ {xs : List Int} {i : Nat} (h : i < xs.length) : (xs.take (i + 1)).Nodup ↔ (xs.take i).Nodup ∧ xs[i] ∉ xs.take i := by
  rw [List.take_succ_eq_append_getElem h, List.nodup_append]
  simp only [List.nodup_cons, List.not_mem_nil, not_false_eq_true, List.nodup_nil, and_true, true_and, List.mem_singleton]
  constructor
  · rintro ⟨h1, h2⟩
    exact ⟨h1, fun hm => h2 _ hm _ rfl rfl⟩
  · rintro ⟨h1, h2⟩
    exact ⟨h1, fun a ha b hb e => h2 (by rw [← hb, ← e]; exact ha)⟩
theorem nodup_of_take {xs : List Int} {i : Nat} (h : xs.Nodup) : (xs.take i).Nodup := List.Sublist.nodup (List.take_sublist i xs) h

/-- What is amiss with a list of nodes. -/
def nodesCode (xs : List Int) : Int := if 1 ≤ xs.length ∧ xs.length ≤ 8 ∧ allN xs = true then (if xs.Nodup then 0 else 5) else 2
theorem nodesCode_len {xs : List Int} (h : ¬ (1 ≤ xs.length ∧ xs.length ≤ 8)) : nodesCode xs = 2 := by unfold nodesCode; rw [if_neg (fun h' => h ⟨h'.1, h'.2.1⟩)]
theorem nodesCode_all {xs : List Int} (h : allN xs = false) : nodesCode xs = 2 := by unfold nodesCode; rw [if_neg (fun h' => by rw [h] at h'; cases h'.2.2)]
theorem nodesCode_dup {xs : List Int} (h : 1 ≤ xs.length ∧ xs.length ≤ 8) (h2 : allN xs = true) (h3 : ¬ xs.Nodup) : nodesCode xs = 5 := by unfold nodesCode; rw [if_pos ⟨h.1, h.2, h2⟩, if_neg h3]
theorem nodesCode_ok {xs : List Int} (h : 1 ≤ xs.length ∧ xs.length ≤ 8) (h2 : allN xs = true) (h3 : xs.Nodup) : nodesCode xs = 0 := by unfold nodesCode; rw [if_pos ⟨h.1, h.2, h2⟩, if_pos h3]
theorem nodesCode_zero {xs : List Int} (h : nodesCode xs = 0) : 1 ≤ xs.length ∧ xs.length ≤ 8 ∧ allN xs = true := by
  unfold nodesCode at h
  split at h
  · rename_i h'; exact h'
  · cases h

/-- p times (x - c). -/
def timesLin (p : List Int) (c : Int) : List Int := plusL (0 :: p) (p ++ [0]) (-c)
theorem timesLin_length (p : List Int) (c : Int) : (timesLin p c).length = p.length + 1 := by unfold timesLin; rw [plusL_length]; simp
theorem allN_plusL (a b : List Int) (k : Int) : allN (plusL a b k) = true := by
  unfold plusL
  induction a generalizing b with
  | nil => exact allN_nil
  | cons x xs ih =>
    cases b with
    | nil => exact allN_nil
    | cons y ys => rw [List.zipWith_cons_cons, allN_cons, nm_isN, ih]; rfl
theorem allN_append (a b : List Int) : allN (a ++ b) = (allN a && allN b) := by
  induction a with
  | nil => rw [List.nil_append, allN_nil, Bool.true_and]
  | cons x xs ih => rw [List.cons_append, allN_cons, allN_cons, ih, Bool.and_assoc]
theorem allN_timesLin (p : List Int) (c : Int) : allN (timesLin p c) = true := allN_plusL _ _ _
def polyGo : List Int → List Int → List Int
  | p, [] => p
  | p, c :: cs => polyGo (timesLin p c) cs
theorem polyGo_drop {xs : List Int} {i : Nat} (h : i < xs.length) (p : List Int) : polyGo p (xs.drop i) = polyGo (timesLin p xs[i]) (xs.drop (i + 1)) := by
  rw [List.drop_eq_getElem_cons h, polyGo]
theorem polyGo_length (p xs : List Int) : (polyGo p xs).length = p.length + xs.length := by
  induction xs generalizing p with
  | nil => rfl
  | cons c cs ih => rw [polyGo, ih, timesLin_length, List.length_cons]; omega
theorem allN_polyGo (p xs : List Int) (h : allN p = true) : allN (polyGo p xs) = true := by
  induction xs generalizing p with
  | nil => exact h
  | cons c cs ih => exact ih _ (allN_timesLin _ _)
def poly (xs : List Int) : List Int := polyGo [1] xs
theorem poly_length (xs : List Int) : (poly xs).length = 1 + xs.length := polyGo_length _ _
theorem allN_poly (xs : List Int) : allN (poly xs) = true := allN_polyGo _ _ (by rw [allN_cons, allN_nil, isN_def]; rfl)
def nodePolynomial (xs : List Int) : List Int × Int := if nodesCode xs = 0 then (poly xs, 0) else ([], nodesCode xs)
theorem nodePolynomial_len (xs : List Int) : (nodePolynomial xs).1.length ≤ 1000000 := by
  unfold nodePolynomial
  split
  · rename_i h
    have := nodesCode_zero h
    rw [poly_length]; omega
  · simp

/-- a to the e, times acc. -/
def powGo (a acc : Int) (e : Nat) : Int := if h : e = 0 then acc else powGo (nm (a * a)) (if e % 2 = 1 then nm (acc * a) else acc) (e / 2)
termination_by e
decreasing_by omega
theorem powGo_zero (a acc : Int) : powGo a acc 0 = acc := by rw [powGo]; rfl
theorem powGo_step (a acc : Int) {e : Nat} (h : e ≠ 0) : powGo a acc e = powGo (nm (a * a)) (if e % 2 = 1 then nm (acc * a) else acc) (e / 2) := by rw [powGo, dif_neg h]
def powN (a : Int) (e : Nat) : Int := powGo a 1 e
theorem powGo_bd (a acc : Int) (e : Nat) (h : 0 ≤ acc ∧ acc ≤ 10006) : 0 ≤ powGo a acc e ∧ powGo a acc e ≤ 10006 := by
  induction e using Nat.strongRecOn generalizing a acc with
  | _ e ih =>
    by_cases h0 : e = 0
    · subst h0; rw [powGo_zero]; exact h
    · rw [powGo_step a acc h0]
      refine ih (e / 2) (by omega) _ _ ?_
      split
      · exact nm_bd _
      · exact h
theorem powN_bd (a : Int) (e : Nat) : 0 ≤ powN a e ∧ powN a e ≤ 10006 := powGo_bd a 1 e (by omega)

/-- One term of an integral from 0 to 1. -/
def termI (n : Nat) (p : Int) : Int := nm (nm (p * powN 1 n) * powN n 10005)
theorem termI_bd (n : Nat) (p : Int) : 0 ≤ termI n p ∧ termI n p ≤ 10006 := nm_bd _
theorem termI_zero (n : Nat) : termI n 0 = 0 := by unfold termI; rw [Int.zero_mul, nm_zero, Int.zero_mul, nm_zero]
theorem termI_spec (n : Nat) (p : Int) : nm (p * nm (powN 1 n * nm (nm 1 * powN n 10005))) = termI n p := by
  unfold termI
  rw [nm_mul_nm, nm_nm_mul, Int.one_mul, ← Int.mul_assoc, nm_mul_nm, nm_nm_mul]
def sumI : Nat → List Int → Int
  | _, [] => 0
  | n, x :: xs => termI n x + sumI (n + 1) xs
theorem sumI_take_succ {xs : List Int} {i : Nat} (h : i < xs.length) (n : Nat) : sumI n (xs.take (i + 1)) = sumI n (xs.take i) + termI (n + i) xs[i] := by
  induction xs generalizing i n with
  | nil => simp at h
  | cons x xs ih =>
    cases i with
    | zero => simp [sumI]
    | succ i =>
      rw [List.take_succ_cons, List.take_succ_cons, sumI, sumI, ih (by simpa using h)]
      rw [show n + 1 + i = n + (i + 1) from by omega, Int.add_assoc]
      rfl
theorem sumI_bd (n : Nat) (xs : List Int) : 0 ≤ sumI n xs ∧ sumI n xs ≤ 10006 * xs.length := by
  induction xs generalizing n with
  | nil => simp [sumI]
  | cons x xs ih =>
    have h1 := termI_bd n x
    have h2 := ih (n + 1)
    simp only [sumI, List.length_cons]
    omega
def integ (n : Nat) (xs : List Int) : Int := nm (sumI (n + 1) xs)
theorem sumI_zeros (k n : Nat) (xs : List Int) : sumI n (List.replicate k 0 ++ xs) = sumI (n + k) xs := by
  induction k generalizing n with
  | zero => rfl
  | succ k ih => rw [List.replicate_succ, List.cons_append, sumI, termI_zero, Int.zero_add, ih, show n + 1 + k = n + (k + 1) from by omega]
theorem integ_zeros (k : Nat) (xs : List Int) : integ 0 (List.replicate k 0 ++ xs) = integ k xs := by unfold integ; rw [sumI_zeros, show 0 + 1 + k = k + 1 from by omega]

/-- Up to which degree the polynomial of the nodes is orthogonal. -/
def orthGo (p : List Int) : Nat → Nat → Int
  | k, 0 => k
  | k, n + 1 => if integ k p = 0 then orthGo p (k + 1) n else k
def orthogonalTo (xs : List Int) : Int × Int := if nodesCode xs = 0 then (orthGo (poly xs) 0 8, 0) else (0, nodesCode xs)
end Go.Rk
/- Plain facts: the reference's way to multiply a polynomial by (x - c). -/
namespace Go.Rk
open Go.Fw Go.Proofs
theorem nm_sub_nm (a b : Int) : nm (a - nm b) = nm (a - b) := by unfold nm; omega
theorem nm_add_mul (a k q : Int) : nm (a + nm k * q) = nm (a + k * q) := by rw [← nm_add_nm, nm_nm_mul, nm_add_nm]
theorem nm_fac (a c q : Int) : nm (a - nm (c * q)) = nm (a + nm (-c) * q) := by
  rw [nm_sub_nm, nm_add_mul]
  congr 1
  rw [Int.neg_mul]
  omega
def prevC (p : List Int) (i : Nat) : Int := (0 :: p)[i]?.getD 0
theorem prevC_succ {p : List Int} {i : Nat} (h : i < p.length) : prevC p (i + 1) = p[i] := by simp [prevC, List.getElem?_eq_getElem h]
theorem prevC_num {p : List Int} (hp : allN p = true) (i : Nat) : isN (prevC p i) = true := by
  unfold prevC
  cases h : (0 :: p)[i]? with
  | none => rw [isN_def]; rfl
  | some x =>
    have hm := List.mem_of_getElem? h
    have hp' : allN (0 :: p) = true := by rw [allN_cons, hp, isN_def]; rfl
    unfold allN at hp'
    exact List.all_eq_true.1 hp' x hm
/-- The list behind i rounds. -/
def facM (p : List Int) (c : Int) (i : Nat) : List Int := (timesLin p c).take i ++ prevC p i :: List.replicate (p.length - i) 0
theorem take_len {p : List Int} (c : Int) {i : Nat} (h : i ≤ p.length) : ((timesLin p c).take i).length = i := by rw [List.length_take, timesLin_length]; omega
theorem facM_len {p : List Int} (c : Int) {i : Nat} (h : i ≤ p.length) : (facM p c i).length = p.length + 1 := by
  unfold facM
  rw [List.length_append, take_len c h, List.length_cons, List.length_replicate]; omega
theorem facM_zero (p : List Int) (c : Int) : facM p c 0 = List.replicate (p.length + 1) 0 := by
  unfold facM prevC
  simp [List.replicate_succ]
theorem facM_get {p : List Int} (c : Int) {i : Nat} (h : i ≤ p.length) : (facM p c i)[i]? = some (prevC p i) := by
  unfold facM
  rw [List.getElem?_append_right (by rw [take_len c h]; omega), take_len c h, Nat.sub_self]
  rfl
theorem facM_get1 {p : List Int} (c : Int) {i : Nat} (h : i < p.length) : (facM p c i)[i + 1]? = some 0 := by
  unfold facM
  rw [List.getElem?_append_right (by rw [take_len c (by omega)]; omega), take_len c (by omega), show i + 1 - i = 1 from by omega, List.getElem?_cons_succ]
  rw [List.getElem?_replicate, if_pos (by omega)]
theorem facM_mid_get {p : List Int} (c : Int) {i : Nat} (h : i < p.length) (y : Int) : ((facM p c i).set (i + 1) y)[i]? = some (prevC p i) := by
  rw [List.getElem?_set_ne (by omega)]
  exact facM_get c (by omega)
theorem timesLin_get {p : List Int} (c : Int) {i : Nat} (h : i < p.length) (h' : i < (timesLin p c).length) : (timesLin p c)[i] = nm (prevC p i + nm (-c) * p[i]) := by
  unfold timesLin at h' ⊢
  rw [plusL_get h' (by simp; omega) (by simp; omega)]
  unfold prevC
  rw [List.getElem?_eq_getElem (show i < (0 :: p).length by simp; omega), List.getElem_append_left h]
  rfl
theorem facM_step {p : List Int} {c : Int} {i : Nat} (h : i < p.length) : ((facM p c i).set (i + 1) p[i]).set i (nm (prevC p i - nm (c * p[i]))) = facM p c (i + 1) := by
  have hl := take_len c (show i ≤ p.length by omega)
  unfold facM
  rw [List.set_append_right _ _ (by omega), hl, show i + 1 - i = 1 from by omega, show p.length - i = (p.length - (i + 1)) + 1 from by omega, List.replicate_succ, List.set_cons_succ, List.set_cons_zero]
  rw [List.set_append_right _ _ (by omega), hl, Nat.sub_self, List.set_cons_zero]
  rw [take_snoc (show i < (timesLin p c).length by rw [timesLin_length]; omega) (y := nm (prevC p i - nm (c * p[i]))) (by rw [timesLin_get c h, nm_fac]), List.append_assoc, prevC_succ h]
  rfl
theorem timesLin_last {p : List Int} (c : Int) (hp : allN p = true) (h' : p.length < (timesLin p c).length) : (timesLin p c)[p.length] = prevC p p.length := by
  unfold timesLin at h' ⊢
  rw [plusL_get h' (by simp) (by simp)]
  rw [List.getElem_append_right (Nat.le_refl _)]
  simp only [Nat.sub_self, List.getElem_cons_zero, Int.mul_zero, Int.add_zero]
  have := nm_of (prevC_num hp p.length)
  rw [← this]
  unfold prevC
  rw [List.getElem?_eq_getElem (show p.length < (0 :: p).length by simp)]
  rfl
theorem facM_end {p : List Int} {c : Int} (hp : allN p = true) : facM p c p.length = timesLin p c := by
  have hl := take_len c (Nat.le_refl p.length)
  have hlt : p.length < (timesLin p c).length := by rw [timesLin_length]; omega
  unfold facM
  rw [Nat.sub_self, List.replicate_zero, ← timesLin_last c hp hlt]
  conv => rhs; rw [← List.take_append_drop p.length (timesLin p c), List.drop_eq_getElem_cons hlt, List.drop_eq_nil_of_le (by rw [timesLin_length]; omega)]
end Go.Rk
/- Plain facts: the conditions on the quadrature, the stages and the columns. -/
namespace Go.Rk
open Go.Fw Go.Proofs

def powsL (cs : List Int) (e : Nat) : List Int := cs.map fun c => powN c e
theorem powsL_length (cs : List Int) (e : Nat) : (powsL cs e).length = cs.length := by simp [powsL]
theorem powsL_get {cs : List Int} {e i : Nat} (h : i < (powsL cs e).length) (h' : i < cs.length) : (powsL cs e)[i] = powN cs[i] e := by simp [powsL]
theorem allN_of {xs : List Int} (h : ∀ x ∈ xs, isN x = true) : allN xs = true := by unfold allN; exact List.all_eq_true.2 h
theorem isN_of {x : Int} (h : 0 ≤ x ∧ x ≤ 10006) : isN x = true := by rw [isN_def]; exact decide_eq_true h
theorem allN_powsL (cs : List Int) (e : Nat) : allN (powsL cs e) = true := allN_of fun x hx => by
  obtain ⟨c, _, rfl⟩ := List.mem_map.1 hx
  exact isN_of (powN_bd _ _)
theorem allN_nodesL (xss : List (List Int)) : allN (nodesL xss) = true := allN_of fun x hx => by
  obtain ⟨c, _, rfl⟩ := List.mem_map.1 hx
  exact nm_isN _
theorem nodesL_length (xss : List (List Int)) : (nodesL xss).length = xss.length := by simp [nodesL]
/-- Products, as numbers. -/
def mulsL (xs ys : List Int) : List Int := List.zipWith (fun x y => nm (x * y)) xs ys
theorem mulsL_length (xs ys : List Int) : (mulsL xs ys).length = min xs.length ys.length := by simp [mulsL]
theorem mulsL_get {xs ys : List Int} {i : Nat} (h : i < (mulsL xs ys).length) (h1 : i < xs.length) (h2 : i < ys.length) : (mulsL xs ys)[i] = nm (xs[i] * ys[i]) := by simp [mulsL]
theorem allN_mulsL (xs ys : List Int) : allN (mulsL xs ys) = true := by
  unfold mulsL
  induction xs generalizing ys with
  | nil => exact allN_nil
  | cons x xs ih =>
    cases ys with
    | nil => exact allN_nil
    | cons y ys => rw [List.zipWith_cons_cons, allN_cons, nm_isN, ih]; rfl
theorem nm_sum_muls (xs ys : List Int) : nm (mulsL xs ys).sum = dotL xs ys := by
  unfold mulsL dotL
  induction xs generalizing ys with
  | nil => rfl
  | cons x xs ih =>
    cases ys with
    | nil => rfl
    | cons y ys => rw [List.zipWith_cons_cons, List.zipWith_cons_cons, List.sum_cons, List.sum_cons, nm_nm_add, ← nm_add_nm, ih, nm_add_nm]
/-- A column. -/
def colL (xss : List (List Int)) (j : Nat) : List Int := xss.map fun r => r[j]?.getD 0
theorem colL_length (xss : List (List Int)) (j : Nat) : (colL xss j).length = xss.length := by simp [colL]
theorem colL_get {xss : List (List Int)} {j i : Nat} (h : i < (colL xss j).length) (h1 : i < xss.length) (h2 : j < xss[i].length) : (colL xss j)[i] = xss[i][j] := by
  simp [colL, List.getElem?_eq_getElem h2]

/-- The terms of a condition's left side. -/
def termsC (x : TabD) (kind : Int) (k i : Nat) : List Int :=
  if kind = 0 then List.zipWith (· * ·) x.2 (powsL (nodesL x.1) (k - 1))
  else if kind = 1 then List.zipWith (· * ·) (x.1[i]?.getD []) (powsL (nodesL x.1) (k - 1))
  else List.zipWith (· * ·) (mulsL x.2 (powsL (nodesL x.1) (k - 1))) (colL x.1 i)
def leftC (x : TabD) (kind : Int) (k i : Nat) : Int := nm (termsC x kind k i).sum
/-- k times the right side. -/
def rightC (x : TabD) (kind : Int) (k i : Nat) : Int :=
  if kind = 0 then 1 else if kind = 1 then powN ((nodesL x.1)[i]?.getD 0) k else nm (x.2[i]?.getD 0 * nm (1 - powN ((nodesL x.1)[i]?.getD 0) k))
def meetC (x : TabD) (kind : Int) (k i : Nat) : Bool := decide (nm (leftC x kind k i * k) = rightC x kind k i)
def meetAll (x : TabD) (kind : Int) (k : Nat) : Bool := (List.range x.2.length).all (meetC x kind k)
theorem rangeAll_false {p : Nat → Bool} {n i : Nat} (hi : i < n) (h : p i = false) : (List.range n).all p = false := by
  rw [List.all_eq_false]
  exact ⟨i, List.mem_range.2 hi, by rw [h]; decide⟩
theorem rangeAll_true {p : Nat → Bool} {n : Nat} (h : ∀ i, i < n → p i = true) : (List.range n).all p = true := List.all_eq_true.2 fun i hi => h i (List.mem_range.1 hi)
theorem rightC_bd (x : TabD) (kind : Int) (k i : Nat) : 0 ≤ rightC x kind k i ∧ rightC x kind k i ≤ 10006 := by
  unfold rightC
  split
  · omega
  split
  · exact powN_bd _ _
  · exact nm_bd _

def powF : Nat → Int → Int → Nat → Int
  | 0, _, acc, _ => acc
  | f + 1, a, acc, e => if e = 0 then acc else powF f (nm (a * a)) (if e % 2 = 1 then nm (acc * a) else acc) (e / 2)
theorem powF_eq (f : Nat) (a acc : Int) (e : Nat) (h : e < 2 ^ f) : powF f a acc e = powGo a acc e := by
  induction f generalizing a acc e with
  | zero =>
    have : e = 0 := by simp at h; omega
    subst this
    rw [powGo_zero]; rfl
  | succ f ih =>
    unfold powF
    split
    · rename_i h0; subst h0; rw [powGo_zero]
    · rename_i h0
      rw [powGo_step a acc h0]
      exact ih _ _ _ (by rw [Nat.pow_succ] at h; omega)
def fracC (k : Int) : Int := nm (nm 1 * powN (nm k) 10005)
theorem frac_tab : ((List.range 16).all fun i => decide (nm (nm 1 * powF 14 (nm ((i + 1 : Nat) : Int)) 1 10005) * ((i + 1 : Nat) : Int) % 10007 = 1)) = true := by kernel_rfl
theorem frac_ok {k : Nat} (h0 : 1 ≤ k) (h1 : k ≤ 16) : fracC k * k % 10007 = 1 := by
  have h := List.all_eq_true.1 frac_tab (k - 1) (List.mem_range.2 (by omega))
  rw [show k - 1 + 1 = k from by omega] at h
  have h2 := of_decide_eq_true h
  rw [powF_eq _ _ _ _ (by decide)] at h2
  exact h2
theorem frac_arith {q k t l r m : Int} (h : q * k = 1 + 10007 * t) (h2 : l - q * r = 10007 * m) : l * k = r + 10007 * (r * t + m * k) := by
  have h3 : l = q * r + 10007 * m := by omega
  rw [h3, Int.add_mul, Int.mul_right_comm, h, Int.add_mul, Int.mul_add, Int.one_mul, Int.mul_assoc, Int.mul_assoc, Int.mul_comm t r]
  omega
theorem frac_arith2 {q k t l r s : Int} (h : q * k = 1 + 10007 * t) (h2 : l * k = r + 10007 * s) : l - q * r = 10007 * (q * s - t * l) := by
  have h3 : l * (q * k) = l + 10007 * (t * l) := by rw [h, Int.mul_add, Int.mul_one, ← Int.mul_assoc, Int.mul_comm l 10007, Int.mul_assoc, Int.mul_comm l t]
  have h4 : l * (q * k) = q * r + 10007 * (q * s) := by
    rw [← Int.mul_assoc, Int.mul_comm l q, Int.mul_assoc, h2, Int.mul_add, ← Int.mul_assoc q 10007, Int.mul_comm q 10007, Int.mul_assoc]
  rw [Int.mul_sub]
  omega
theorem nm_sub_nm' (a b : Int) : nm (a - nm b) = nm (a - b) := by unfold nm; omega
theorem frac_iff {k : Nat} (h0 : 1 ≤ k) (h1 : k ≤ 16) {l r : Int} (hr : 0 ≤ r ∧ r ≤ 10006) : nm (l - nm (fracC k * r)) = 0 ↔ nm (l * k) = r := by
  have hq := frac_ok h0 h1
  have ht : fracC k * k = 1 + 10007 * (fracC k * k / 10007) := by omega
  rw [nm_sub_nm']
  unfold nm
  constructor
  · intro h
    have h2 : l - fracC k * r = 10007 * ((l - fracC k * r) / 10007) := by omega
    have h3 := frac_arith ht h2
    omega
  · intro h
    have h2 : l * k = r + 10007 * (l * k / 10007) := by omega
    have h3 := frac_arith2 ht h2
    omega
/-- The reference's difference of the two sides. -/
def sumC (x : TabD) (kind : Int) (k i : Nat) : Int := nm (leftC x kind k i - nm (fracC k * rightC x kind k i))
theorem sumC_iff {x : TabD} {kind : Int} {k i : Nat} (h0 : 1 ≤ k) (h1 : k ≤ 16) : sumC x kind k i ≠ 0 ↔ meetC x kind k i = false := by
  unfold sumC meetC
  rw [Ne, frac_iff h0 h1 (rightC_bd x kind k i), decide_eq_false_iff_not]
theorem fracC_bd (k : Int) : 0 ≤ fracC k ∧ fracC k ≤ 10006 := nm_bd _
theorem fracC_one (k : Int) : nm (fracC k * 1) = fracC k := by rw [Int.mul_one]; exact nm_nm _

def condGo (p : Nat → Bool) : Nat → Nat → Int
  | k, 0 => (k : Int) - 1
  | k, f + 1 => if p k = true then condGo p (k + 1) f else (k : Int) - 1
def condOrder (x : TabD) (kind : Int) : Int := condGo (meetAll x kind) 1 16
theorem condGo_bd (p : Nat → Bool) (k f : Nat) : (k : Int) - 1 ≤ condGo p k f ∧ condGo p k f ≤ (k : Int) - 1 + f := by
  induction f generalizing k with
  | zero => simp [condGo]
  | succ f ih =>
    unfold condGo
    have := ih (k + 1)
    split <;> omega
theorem condOrder_bd (x : TabD) (kind : Int) : 0 ≤ condOrder x kind ∧ condOrder x kind ≤ 16 := by
  have := condGo_bd (meetAll x kind) 1 16
  unfold condOrder; omega
def condResult (x : TabD) (kind : Int) : Int × Int := if isTab x = true then (condOrder x kind, 0) else (0, 1)
def impliedOrder (x : TabD) : Int × Int := if isTab x = true then (min (min (min 6 (condOrder x 0)) (2 * condOrder x 1 + 2)) (condOrder x 1 + condOrder x 2 + 1), 0) else (0, 1)
def meetsAssumption (x : TabD) (kind n : Int) : Bool × Int :=
  if isTab x = true then (if (0 ≤ kind ∧ kind ≤ 2) ∧ (0 ≤ n ∧ n ≤ 16) then (decide (n ≤ condOrder x kind), 0) else (false, 2)) else (false, 1)
end Go.Rk
/- Plain facts: alike stages. -/
namespace Go.Rk
open Go.Fw Go.Proofs

/-- The numbers of a row, summed class by class. -/
def csGo : List Int → List Int → List Int → List Int
  | out, a :: r, c :: cs => csGo (out.set c.toNat (nm (out[c.toNat]?.getD 0 + a))) r cs
  | out, _, _ => out
def sumsL (row cls : List Int) : List Int := csGo (List.replicate cls.length 0) row cls
theorem csGo_drop {row cls : List Int} {k : Nat} (h1 : k < row.length) (h2 : k < cls.length) (out : List Int) :
    csGo out (row.drop k) (cls.drop k) = csGo (out.set cls[k].toNat (nm (out[cls[k].toNat]?.getD 0 + row[k]))) (row.drop (k + 1)) (cls.drop (k + 1)) := by
  rw [List.drop_eq_getElem_cons h1, List.drop_eq_getElem_cons h2, csGo]
theorem csGo_end {row cls : List Int} {k : Nat} (h2 : cls.length ≤ k) (out : List Int) : csGo out (row.drop k) (cls.drop k) = out := by
  rw [List.drop_eq_nil_of_le h2]
  cases row.drop k <;> rfl
theorem csGo_length (out row cls : List Int) : (csGo out row cls).length = out.length := by
  induction row generalizing out cls with
  | nil => rfl
  | cons a r ih =>
    cases cls with
    | nil => rfl
    | cons c cs => rw [csGo, ih, List.length_set]
theorem sumsL_length (row cls : List Int) : (sumsL row cls).length = cls.length := by unfold sumsL; rw [csGo_length, List.length_replicate]
theorem allN_set {xs : List Int} (h : allN xs = true) (i : Nat) (v : Int) (hv : isN v = true) : allN (xs.set i v) = true := allN_of fun x hx => by
  rcases List.mem_or_eq_of_mem_set hx with h1 | h1
  · unfold allN at h; exact List.all_eq_true.1 h x h1
  · rw [h1]; exact hv
theorem allN_zeros (n : Nat) : allN (List.replicate n 0) = true := allN_of fun x hx => by
  rw [List.eq_of_mem_replicate hx]; exact isN_of (by omega)

def firstFrom (p : Nat → Bool) : Nat → Nat → Nat
  | k, 0 => k
  | k, f + 1 => if p k = true then k else firstFrom p (k + 1) f
def leastN (p : Nat → Bool) (i : Nat) : Nat := firstFrom p 0 i
theorem firstFrom_eq {p : Nat → Bool} {f a k : Nat} (h1 : a ≤ k) (h2 : k ≤ a + f) (hp : p k = true) (hl : ∀ j, a ≤ j → j < k → p j = false) : firstFrom p a f = k := by
  induction f generalizing a with
  | zero => unfold firstFrom; omega
  | succ f ih =>
    unfold firstFrom
    by_cases e : a = k
    · subst e; rw [if_pos hp]
    · rw [hl a (Nat.le_refl _) (by omega)]
      exact ih (by omega) (by omega) (fun j h3 h4 => hl j (by omega) h4)
theorem leastN_eq {p : Nat → Bool} {i k : Nat} (hk : k ≤ i) (hp : p k = true) (hl : ∀ j, j < k → p j = false) : leastN p i = k :=
  firstFrom_eq (by omega) (by omega) hp (fun j _ h => hl j h)
theorem least_ex {p : Nat → Bool} {i : Nat} (hp : p i = true) : ∃ k, k ≤ i ∧ p k = true ∧ ∀ j, j < k → p j = false := by
  induction i using Nat.strongRecOn with
  | _ i ih =>
    by_cases h : ∃ j, j < i ∧ p j = true
    · obtain ⟨j, hj, hpj⟩ := h
      obtain ⟨k, hk, h1, h2⟩ := ih j hj hpj
      exact ⟨k, by omega, h1, h2⟩
    · exact ⟨i, Nat.le_refl _, hp, fun j hj => by
        cases hq : p j with
        | false => rfl
        | true => exact absurd ⟨j, hj, hq⟩ h⟩
theorem leastN_spec {p : Nat → Bool} {i : Nat} (hp : p i = true) : leastN p i ≤ i ∧ p (leastN p i) = true ∧ ∀ j, j < leastN p i → p j = false := by
  obtain ⟨k, hk, h1, h2⟩ := least_ex hp
  rw [leastN_eq hk h1 h2]
  exact ⟨hk, h1, h2⟩

def matchC (xss : List (List Int)) (cls : List Int) (k i : Nat) : Bool :=
  decide (cls[k]?.getD 0 = cls[i]?.getD 0) && decide (sumsL (xss[k]?.getD []) cls = sumsL (xss[i]?.getD []) cls)
theorem matchC_self (xss : List (List Int)) (cls : List Int) (i : Nat) : matchC xss cls i i = true := by simp [matchC]
def leastC (xss : List (List Int)) (cls : List Int) (i : Nat) : Nat := leastN (fun k => matchC xss cls k i) i
theorem leastC_spec (xss : List (List Int)) (cls : List Int) (i : Nat) : leastC xss cls i ≤ i ∧ matchC xss cls (leastC xss cls i) i = true ∧ ∀ j, j < leastC xss cls i → matchC xss cls j i = false :=
  leastN_spec (p := fun k => matchC xss cls k i) (matchC_self xss cls i)
/-- One round: each stage's least stage that is alike. -/
def refineL (xss : List (List Int)) (cls : List Int) : List Int := (List.range cls.length).map fun i => ((leastC xss cls i : Nat) : Int)
theorem refineL_length (xss : List (List Int)) (cls : List Int) : (refineL xss cls).length = cls.length := by simp [refineL]
theorem refineL_get {xss : List (List Int)} {cls : List Int} {i : Nat} (h : i < (refineL xss cls).length) : (refineL xss cls)[i] = ((leastC xss cls i : Nat) : Int) := by simp [refineL]
theorem refineL_get? {xss : List (List Int)} {cls : List Int} {i : Nat} (h : i < cls.length) : (refineL xss cls)[i]?.getD 0 = ((leastC xss cls i : Nat) : Int) := by
  rw [List.getElem?_eq_getElem (by rw [refineL_length]; exact h), Option.getD_some, refineL_get]
/-- Classes: numbers of stages, none above its own place. -/
def Cls (n : Nat) (cls : List Int) : Prop := cls.length = n ∧ ∀ i, i < n → 0 ≤ cls[i]?.getD 0 ∧ cls[i]?.getD 0 ≤ i
theorem cls_refine {n : Nat} (xss : List (List Int)) {cls : List Int} (h : cls.length = n) : Cls n (refineL xss cls) := ⟨by rw [refineL_length, h], fun i hi => by
  rw [refineL_get? (by omega)]
  have := (leastC_spec xss cls i).1
  omega⟩
theorem cls_zero (n : Nat) : Cls n (List.replicate n 0) := ⟨by simp, fun i hi => by rw [List.getElem?_replicate, if_pos hi]; simp⟩
theorem Cls.get {n : Nat} {cls : List Int} (h : Cls n cls) {i : Nat} (hi : i < cls.length) : 0 ≤ cls[i] ∧ cls[i] ≤ i := by
  have := h.2 i (by have := h.1; omega)
  rw [List.getElem?_eq_getElem hi] at this
  exact this

def itN (xss : List (List Int)) : List Int → Nat → List Int
  | c, 0 => c
  | c, t + 1 => itN xss (refineL xss c) t
theorem itN_length (xss : List (List Int)) (c : List Int) (t : Nat) : (itN xss c t).length = c.length := by
  induction t generalizing c with
  | zero => rfl
  | succ t ih => rw [itN, ih, refineL_length]
theorem itN_fix {xss : List (List Int)} {c : List Int} (h : refineL xss c = c) (t : Nat) : itN xss c t = c := by
  induction t with
  | zero => rfl
  | succ t ih => rw [itN, h, ih]
def alikeL (x : TabD) : List Int := itN x.1 (List.replicate x.2.length 0) x.2.length
def roots (n : Nat) (c : List Int) : Nat := (List.range n).countP fun (i : Nat) => decide (c[i]?.getD 0 = (i : Int))
theorem countP_lt {p q : Nat → Bool} {l : List Nat} (h : ∀ i ∈ l, p i = true → q i = true) (hk : ∃ k ∈ l, p k = false ∧ q k = true) : l.countP p < l.countP q := by
  induction l with
  | nil => obtain ⟨k, hk, _⟩ := hk; simp at hk
  | cons a l ih =>
    have hle : l.countP p ≤ l.countP q := List.countP_mono_left fun i hi => h i (by simp [hi])
    rw [List.countP_cons, List.countP_cons]
    obtain ⟨k, hk, h1, h2⟩ := hk
    rcases List.mem_cons.1 hk with rfl | hk
    · rw [h1, h2]; simp; omega
    · have := ih (fun i hi => h i (by simp [hi])) ⟨k, hk, h1, h2⟩
      have h3 := h a (by simp)
      cases hp : p a with
      | true => rw [h3 hp]; simp; omega
      | false => simp; split <;> omega
theorem roots_le (n : Nat) (c : List Int) : roots n c ≤ n := by
  have := List.countP_le_length (p := fun i => decide (c[i]?.getD 0 = ((i : Nat) : Int))) (l := List.range n)
  rw [List.length_range] at this
  exact this
theorem roots_lt {n : Nat} {xss : List (List Int)} {c : List Int} (hc : Cls n c) (hne : refineL xss c ≠ c) : roots n c < roots n (refineL xss c) := by
  refine countP_lt (fun i hi hp => ?_) ?_
  · have hin := List.mem_range.1 hi
    have hp := of_decide_eq_true hp
    refine decide_eq_true ?_
    rw [refineL_get? (by rw [hc.1]; exact hin)]
    have hs := leastC_spec xss c i
    have hm := hs.2.1
    unfold matchC at hm
    rw [Bool.and_eq_true] at hm
    have h1 := of_decide_eq_true hm.1
    have h2 := hc.2 (leastC xss c i) (by omega)
    omega
  · obtain ⟨i, hi, hd⟩ : ∃ i, i < n ∧ (refineL xss c)[i]?.getD 0 ≠ c[i]?.getD 0 := by
      apply Classical.byContradiction
      intro hno
      apply hne
      apply List.ext_getElem
      · exact refineL_length _ _
      · intro i h1 h2
        have hh : ¬ ((refineL xss c)[i]?.getD 0 ≠ c[i]?.getD 0) := fun hx => hno ⟨i, by rw [← hc.1]; exact h2, hx⟩
        have hh := Decidable.not_not.1 hh
        rw [List.getElem?_eq_getElem h1, List.getElem?_eq_getElem h2] at hh
        exact hh
    rw [refineL_get? (by rw [hc.1]; exact hi)] at hd
    have hs := leastC_spec xss c i
    have hm := hs.2.1
    unfold matchC at hm
    rw [Bool.and_eq_true] at hm
    have h1 := of_decide_eq_true hm.1
    have h2 := of_decide_eq_true hm.2
    refine ⟨leastC xss c i, List.mem_range.2 (by omega), decide_eq_false (by omega), decide_eq_true ?_⟩
    rw [refineL_get? (by rw [hc.1]; omega)]
    have : leastC xss c (leastC xss c i) = leastC xss c i := leastN_eq (Nat.le_refl _) (matchC_self _ _ _) fun j hj => by
      have h3 := hs.2.2 j hj
      unfold matchC at h3 ⊢
      rw [h1, h2]
      exact h3
    omega
theorem roots_zero {n : Nat} (hn : 1 ≤ n) : 1 ≤ roots n (List.replicate n 0) := by
  unfold roots
  refine List.countP_pos_iff.2 ⟨0, List.mem_range.2 hn, ?_⟩
  rw [List.getElem?_replicate, if_pos (by omega)]
  simp
def alikeStages (x : TabD) : List Int × Int := if isTab x = true then (alikeL x, 0) else ([], 1)
theorem alikeStages_len (x : TabD) : (alikeStages x).1.length ≤ 1000000 := by
  unfold alikeStages
  split
  · rename_i h
    have := (isTab_iff h).le8
    show (alikeL x).length ≤ 1000000
    unfold alikeL
    rw [itN_length, List.length_replicate]
    omega
  · simp
end Go.Rk
/- Plain facts: level lists, their branches, the stage weights of a tree. -/
namespace Go.Rk
open Go.Fw Go.Proofs

def levAt (t : List Int) (i : Nat) : Bool := if i = 0 then decide (t[0]?.getD 1 = 0) else decide (1 ≤ t[i]?.getD 0 ∧ t[i]?.getD 0 ≤ t[i - 1]?.getD 0 + 1)
def isLev (t : List Int) : Bool := decide (1 ≤ t.length ∧ t.length ≤ 8) && (List.range t.length).all (levAt t)
theorem levAt_zero {t : List Int} (h : 0 < t.length) : levAt t 0 = decide (t[0] = 0) := by
  unfold levAt; rw [if_pos rfl, List.getElem?_eq_getElem h]; rfl
theorem levAt_pos {t : List Int} {i : Nat} (h0 : 1 ≤ i) (h : i < t.length) : levAt t i = decide (1 ≤ t[i] ∧ t[i] ≤ t[i - 1] + 1) := by
  unfold levAt; rw [if_neg (by omega), List.getElem?_eq_getElem h, List.getElem?_eq_getElem (by omega)]; rfl
theorem isLev_false {t : List Int} {i : Nat} (hi : i < t.length) (h : levAt t i = false) : isLev t = false := by
  unfold isLev; rw [rangeAll_false hi h, Bool.and_false]
theorem isLev_len {t : List Int} (h : ¬ (1 ≤ t.length ∧ t.length ≤ 8)) : isLev t = false := by unfold isLev; rw [decide_eq_false h]; rfl
theorem isLev_true {t : List Int} (h : 1 ≤ t.length ∧ t.length ≤ 8) (h2 : ∀ i, i < t.length → levAt t i = true) : isLev t = true := by
  unfold isLev; rw [decide_eq_true h, rangeAll_true h2]; rfl
/-- A level list. -/
structure Lv (t : List Int) : Prop where
  pos : 1 ≤ t.length
  at_ : ∀ i, i < t.length → levAt t i = true
theorem isLev_iff {t : List Int} (h : isLev t = true) : Lv t ∧ t.length ≤ 8 := by
  unfold isLev at h
  rw [Bool.and_eq_true, decide_eq_true_eq] at h
  exact ⟨⟨h.1.1, fun i hi => List.all_eq_true.1 h.2 i (List.mem_range.2 hi)⟩, h.1.2⟩
theorem Lv.zero {t : List Int} (h : Lv t) : t[0]'(h.pos) = 0 := by
  have := h.at_ 0 h.pos
  rw [levAt_zero h.pos] at this
  exact of_decide_eq_true this
theorem Lv.next {t : List Int} (h : Lv t) {i : Nat} (h0 : 1 ≤ i) (hi : i < t.length) : 1 ≤ t[i] ∧ t[i] ≤ t[i - 1] + 1 := by
  have := h.at_ i hi
  rw [levAt_pos h0 hi] at this
  exact of_decide_eq_true this
theorem Lv.bd {t : List Int} (h : Lv t) {i : Nat} (hi : i < t.length) : 0 ≤ t[i] ∧ t[i] ≤ i := by
  induction i with
  | zero => have := h.zero; omega
  | succ i ih =>
    have h1 := h.next (i := i + 1) (by omega) hi
    have h2 := ih (by omega)
    simp only [Nat.add_sub_cancel] at h1
    omega
theorem Lv.snoc {b : List Int} {y z : Int} (h : Lv b) (hz : b.getLast? = some z) (h1 : 1 ≤ y) (h2 : y ≤ z + 1) : Lv (b ++ [y]) := by
  have hp := h.pos
  refine ⟨by simp, fun i hi => ?_⟩
  rw [List.length_append, List.length_singleton] at hi
  by_cases hlt : i < b.length
  · have := h.at_ i hlt
    unfold levAt at this ⊢
    rw [List.getElem?_append_left hp, List.getElem?_append_left hlt, List.getElem?_append_left (by omega)]
    exact this
  · have hib : i = b.length := by omega
    subst hib
    rw [List.getLast?_eq_getElem?] at hz
    unfold levAt
    rw [if_neg (by omega), List.getElem?_append_right (Nat.le_refl _), List.getElem?_append_left (by omega), hz, Nat.sub_self]
    exact decide_eq_true ⟨h1, h2⟩
theorem Lv.one : Lv [0] := ⟨by decide, fun i hi => by
  have : i = 0 := by simp at hi; omega
  subst this
  rfl⟩

def pushB (out : List (List Int)) (l : Int) : List (List Int) :=
  if l = 1 then (out ++ [[]]).set out.length ([] ++ [l - 1]) else out.set (out.length - 1) ((out[out.length - 1]?.getD []) ++ [l - 1])
theorem pushB_one (out : List (List Int)) : pushB out 1 = out ++ [[0]] := by
  unfold pushB; rw [if_pos rfl, List.set_append_right _ _ (Nat.le_refl _), Nat.sub_self]; rfl
theorem pushB_more (init : List (List Int)) (b : List Int) {l : Int} (h : l ≠ 1) : pushB (init ++ [b]) l = init ++ [b ++ [l - 1]] := by
  unfold pushB
  rw [if_neg h]
  have e : (init ++ [b]).length - 1 = init.length := by simp
  rw [e, List.set_append_right _ _ (Nat.le_refl _), Nat.sub_self, List.getElem?_append_right (Nat.le_refl _), Nat.sub_self]
  rfl
/-- The branches of the first i levels. -/
def brI (t : List Int) : Nat → List (List Int)
  | 0 => []
  | i + 1 => if i = 0 then [] else pushB (brI t i) (t[i]?.getD 0)
def branchesL (t : List Int) : List (List Int) := brI t t.length
theorem brI_one (t : List Int) : brI t 1 = [] := by unfold brI; rw [if_pos rfl]
theorem brI_succ {t : List Int} {i : Nat} (h0 : 1 ≤ i) (h : i < t.length) : brI t (i + 1) = pushB (brI t i) t[i] := by
  rw [brI, if_neg (by omega), List.getElem?_eq_getElem h]; rfl
structure BrOk (t : List Int) (i : Nat) (out : List (List Int)) : Prop where
  one : i = 1 → out = []
  last : 2 ≤ i → ∃ init b, out = init ++ [b] ∧ b.getLast? = some (t[i - 1]?.getD 0 - 1)
  each : ∀ b ∈ out, Lv b ∧ b.length + 1 ≤ i
  len : out.length + 1 ≤ i
theorem brOk {t : List Int} (h : Lv t) {i : Nat} (h0 : 1 ≤ i) (hi : i ≤ t.length) : BrOk t i (brI t i) := by
  induction i with
  | zero => omega
  | succ i ih =>
    by_cases hz : i = 0
    · subst hz
      rw [brI_one]
      exact ⟨fun _ => rfl, fun h => by omega, fun b hb => by simp at hb, by simp⟩
    · have hi' : i < t.length := by omega
      have hk := ih (by omega) (by omega)
      rw [brI_succ (by omega) hi']
      have hl := h.next (by omega) hi'
      by_cases h1 : t[i] = 1
      · rw [h1, pushB_one]
        refine ⟨fun h => by omega, fun _ => ⟨_, _, rfl, ?_⟩, fun b hb => ?_, by have := hk.len; simp; omega⟩
        · rw [Nat.add_sub_cancel, List.getElem?_eq_getElem hi', h1]; rfl
        · rcases List.mem_append.1 hb with hb | hb
          · have := hk.each b hb
            exact ⟨this.1, by omega⟩
          · simp only [List.mem_singleton] at hb
            subst hb
            exact ⟨Lv.one, by simp; omega⟩
      · have hi2 : 2 ≤ i := by
          apply Classical.byContradiction
          intro hn
          have : i = 1 := by omega
          subst this
          have hz0 := h.zero
          simp only [Nat.sub_self] at hl
          omega
        obtain ⟨init, b, hib, hlast⟩ := hk.last hi2
        have hb := hk.each b (by rw [hib]; simp)
        have hlen := hk.len
        rw [hib] at hlen ⊢
        rw [pushB_more init b h1]
        rw [List.getElem?_eq_getElem (by omega)] at hlast
        refine ⟨fun h => by omega, fun _ => ⟨_, _, rfl, ?_⟩, fun b' hb' => ?_, by simp at hlen ⊢; omega⟩
        · rw [Nat.add_sub_cancel, List.getElem?_eq_getElem hi']; simp
        · rcases List.mem_append.1 hb' with hb' | hb'
          · have := hk.each b' (by rw [hib]; simp [hb'])
            exact ⟨this.1, by omega⟩
          · simp only [List.mem_singleton] at hb'
            subst hb'
            exact ⟨hb.1.snoc hlast (by omega) (by simp only [Option.getD_some]; omega), by simp; omega⟩
theorem branches_ok {t : List Int} (h : Lv t) : (branchesL t).length + 1 ≤ t.length ∧ ∀ b ∈ branchesL t, Lv b ∧ b.length + 1 ≤ t.length :=
  ⟨(brOk h h.pos (Nat.le_refl _)).len, (brOk h h.pos (Nat.le_refl _)).each⟩

/-- The matrix times a list. -/
def appL (x : TabD) (v : List Int) : List Int := x.1.map fun r => dotL r v
theorem appL_length (x : TabD) (v : List Int) : (appL x v).length = x.1.length := by simp [appL]
theorem allN_appL (x : TabD) (v : List Int) : allN (appL x v) = true := allN_of fun y hy => by
  obtain ⟨r, _, rfl⟩ := List.mem_map.1 hy
  exact nm_isN _
def prodGo (x : TabD) (g : List Int → List Int) : List Int → List (List Int) → List Int
  | out, [] => out
  | out, b :: bs => prodGo x g (mulsL out (appL x (g b))) bs
theorem prodGo_drop {x : TabD} {g : List Int → List Int} {bs : List (List Int)} {i : Nat} (h : i < bs.length) (out : List Int) : prodGo x g out (bs.drop i) = prodGo x g (mulsL out (appL x (g bs[i]))) (bs.drop (i + 1)) := by
  rw [List.drop_eq_getElem_cons h, prodGo]
/-- The stage weights of a tree with at most f nodes. -/
def stW (x : TabD) : Nat → List Int → List Int
  | 0, _ => List.replicate x.2.length 1
  | f + 1, t => prodGo x (stW x f) (List.replicate x.2.length 1) (branchesL t)
theorem prodGo_ok {x : TabD} (hx : x.1.length = x.2.length) (g : List Int → List Int) (bs : List (List Int)) (out : List Int) (h1 : out.length = x.2.length) (h2 : allN out = true) : (prodGo x g out bs).length = x.2.length ∧ allN (prodGo x g out bs) = true := by
  induction bs generalizing out with
  | nil => exact ⟨h1, h2⟩
  | cons b bs ih => exact ih _ (by rw [mulsL_length, appL_length]; omega) (allN_mulsL _ _)
theorem stW_ok {x : TabD} (hx : x.1.length = x.2.length) (f : Nat) (t : List Int) : (stW x f t).length = x.2.length ∧ allN (stW x f t) = true := by
  cases f with
  | zero => exact ⟨by simp [stW], allN_ones _⟩
  | succ f => exact prodGo_ok hx _ _ _ (by simp) (allN_ones _)
theorem muls_step {out w : List Int} (hl : w.length = out.length) {i : Nat} (hi : i < out.length) :
    ((mulsL out w).take i ++ out.drop i).set i (nm (out[i] * w[i])) = (mulsL out w).take (i + 1) ++ out.drop (i + 1) := by
  have hm : (mulsL out w).length = out.length := by rw [mulsL_length]; omega
  have hk : ((mulsL out w).take i).length = i := by rw [List.length_take]; omega
  rw [List.set_append_right _ _ (by omega), hk, Nat.sub_self, List.drop_eq_getElem_cons hi, List.set_cons_zero]
  rw [List.take_succ_eq_append_getElem (show i < (mulsL out w).length by omega), mulsL_get _ hi (by omega), List.append_assoc]
  rfl
theorem muls_get {out w : List Int} (hl : w.length = out.length) {i : Nat} (hi : i < out.length) : ((mulsL out w).take i ++ out.drop i)[i]? = some out[i] := by
  have hm : (mulsL out w).length = out.length := by rw [mulsL_length]; omega
  have hk : ((mulsL out w).take i).length = i := by rw [List.length_take]; omega
  rw [List.getElem?_append_right (by omega), hk, Nat.sub_self, List.getElem?_drop, Nat.add_zero, List.getElem?_eq_getElem hi]
theorem muls_len {out w : List Int} (hl : w.length = out.length) {i : Nat} (hi : i ≤ out.length) : ((mulsL out w).take i ++ out.drop i).length = out.length := by
  have hm : (mulsL out w).length = out.length := by rw [mulsL_length]; omega
  rw [List.length_append, List.length_take, List.length_drop]; omega
def weightL (x : TabD) (t : List Int) : Int := dotL x.2 (stW x 8 t)
def stageWeights (x : TabD) (t : List Int) : List Int × Int := if isTab x = true ∧ isLev t = true then (stW x 8 t, 0) else ([], 1)
def weightOf (x : TabD) (t : List Int) : Int × Int := if isTab x = true ∧ isLev t = true then (weightL x t, 0) else (0, 1)
theorem stageWeights_len (x : TabD) (t : List Int) : (stageWeights x t).1.length ≤ 1000000 := by
  unfold stageWeights
  split
  · rename_i h
    have hx := isTab_iff h.1
    have h1 := hx.le8
    have := (stW_ok hx.sq 8 t).1
    show (stW x 8 t).length ≤ 1000000
    omega
  · simp
end Go.Rk
/- Plain facts: the order of stages that turns one tableau into another. -/
namespace Go.Rk
open Go.Fw Go.Proofs
def at2 (xss : List (List Int)) (i j : Nat) : Int := (xss[i]?.getD [])[j]?.getD 0
theorem at2_eq {xss : List (List Int)} {i j : Nat} (hi : i < xss.length) (hj : j < xss[i].length) : at2 xss i j = xss[i][j] := by
  unfold at2; rw [List.getElem?_eq_getElem hi, Option.getD_some, List.getElem?_eq_getElem hj]; rfl
def fit1 (x y : TabD) (i n : Nat) : Bool := decide (x.2[i]?.getD 0 = y.2[n]?.getD 0)
def fit2 (x y : TabD) (i n : Nat) : Bool := decide (at2 x.1 i i = at2 y.1 n n)
def fitA (x y : TabD) (order : List Int) (i k : Nat) : Bool := decide (at2 x.1 i (order[k]?.getD 0).toNat = at2 y.1 order.length k)
def fitB (x y : TabD) (order : List Int) (i k : Nat) : Bool := decide (at2 x.1 (order[k]?.getD 0).toNat i = at2 y.1 k order.length)
def fitK (x y : TabD) (order : List Int) (i k : Nat) : Bool := fitA x y order i k && fitB x y order i k
/-- The stage i of x may stand next. -/
def fits (x y : TabD) (order : List Int) (i : Nat) : Bool :=
  (!decide ((i : Int) ∈ order)) && (fit1 x y i order.length && (fit2 x y i order.length && (List.range order.length).all (fitK x y order i)))
def firstSome {α : Type} (g : Nat → Option α) : Nat → Nat → Option α
  | _, 0 => none
  | i, m + 1 => match g i with
    | some r => some r
    | none => firstSome g (i + 1) m
theorem firstSome_none {α : Type} {g : Nat → Option α} {i m : Nat} (h : g i = none) : firstSome g i (m + 1) = firstSome g (i + 1) m := by rw [firstSome, h]
theorem firstSome_some {α : Type} {g : Nat → Option α} {i m : Nat} {r : α} (h : g i = some r) : firstSome g i (m + 1) = some r := by rw [firstSome, h]
/-- The first whole list that goes on from a list of stages; f: how many are lacking. -/
def findG (x y : TabD) : Nat → List Int → Option (List Int)
  | 0, order => some order
  | f + 1, order => firstSome (fun i => if fits x y order i = true then findG x y f (order ++ [(i : Int)]) else none) 0 x.2.length
theorem findG_len {x y : TabD} {f : Nat} {order l : List Int} (h : findG x y f order = some l) : l.length = order.length + f := by
  induction f generalizing order with
  | zero => simp only [findG, Option.some.injEq] at h; rw [← h]; rfl
  | succ f ih =>
    unfold findG at h
    have key : ∀ m i, firstSome (fun i => if fits x y order i = true then findG x y f (order ++ [(i : Int)]) else none) i m = some l → l.length = order.length + (f + 1) := by
      intro m
      induction m with
      | zero => intro i h; cases h
      | succ m ihm =>
        intro i h
        unfold firstSome at h
        split at h
        · rename_i r hr
          simp only [Option.some.injEq] at h
          subst h
          split at hr
          · have := ih hr; simp at this; omega
          · cases hr
        · exact ihm _ h
    exact key _ _ h
/-- A list of stages. -/
def OrdOk (n : Nat) (order : List Int) : Prop := ∀ o ∈ order, 0 ≤ o ∧ o < n
theorem OrdOk.snoc {n : Nat} {order : List Int} (h : OrdOk n order) {i : Nat} (hi : i < n) : OrdOk n (order ++ [(i : Int)]) := fun o ho => by
  rcases List.mem_append.1 ho with h1 | h1
  · exact h o h1
  · simp only [List.mem_singleton] at h1; omega
theorem OrdOk.get {n : Nat} {order : List Int} (h : OrdOk n order) {k : Nat} (hk : k < order.length) : 0 ≤ order[k] ∧ order[k] < n := h _ (List.getElem_mem hk)
def stageOrder (x y : TabD) : List Int × Int :=
  if isTab x = true ∧ isTab y = true then (if x.2.length = y.2.length then (match findG x y x.2.length [] with | some l => (l, 0) | none => ([], 4)) else ([], 4)) else ([], 1)
theorem stageOrder_len (x y : TabD) : (stageOrder x y).1.length ≤ 1000000 := by
  unfold stageOrder
  split
  · rename_i h
    have hx := isTab_iff h.1
    have h8 := hx.le8
    split
    · split
      · rename_i l hl
        have := findG_len hl
        simp at this
        show l.length ≤ 1000000
        omega
      · simp
    · simp
  · simp
theorem all_range_succ {p : Nat → Bool} {k : Nat} : (List.range (k + 1)).all p = ((List.range k).all p && p k) := by
  rw [List.range_succ, List.all_append]; simp
theorem fits_has {x y : TabD} {order : List Int} {i : Nat} (h : (i : Int) ∈ order) : fits x y order i = false := by unfold fits; rw [decide_eq_true h]; rfl
theorem fits_1 {x y : TabD} {order : List Int} {i : Nat} (h : fit1 x y i order.length = false) : fits x y order i = false := by unfold fits; rw [h, Bool.false_and, Bool.and_false]
theorem fits_2 {x y : TabD} {order : List Int} {i : Nat} (h : fit2 x y i order.length = false) : fits x y order i = false := by unfold fits; rw [h, Bool.false_and, Bool.and_false, Bool.and_false]
theorem fits_all {x y : TabD} {order : List Int} {i : Nat} (h0 : ¬ (i : Int) ∈ order) (h1 : fit1 x y i order.length = true) (h2 : fit2 x y i order.length = true) : fits x y order i = (List.range order.length).all (fitK x y order i) := by
  unfold fits; rw [decide_eq_false h0, h1, h2]; rfl
theorem all_range_false {p : Nat → Bool} {k n : Nat} (hk : k ≤ n) (h : (List.range k).all p = false) : (List.range n).all p = false := by
  rw [List.all_eq_false] at h ⊢
  obtain ⟨i, hi, hp⟩ := h
  exact ⟨i, List.mem_range.2 (by have := List.mem_range.1 hi; omega), hp⟩
end Go.Rk
/- Plain facts: the trees with n nodes, as the program lists them. -/
namespace Go.Rk
open Go.Fw Go.Proofs
/-- The last of the first m places with a level above 1. -/
def lastBig (t : List Int) : Nat → Option Nat
  | 0 => none
  | m + 1 => if 1 < t[m]?.getD 0 then some m else lastBig t m
/-- The last of the first m places with a level x. -/
def lastEq (t : List Int) (x : Int) : Nat → Nat
  | 0 => 0
  | m + 1 => if t[m]?.getD 0 = x then m else lastEq t x m
/-- From i on, f places: each takes the level d places ahead of it. -/
def shiftGo (d : Nat) : Nat → Nat → List Int → List Int
  | 0, _, t => t
  | f + 1, i, t => shiftGo d f (i + 1) (t.set i (t[i - d]?.getD 0))
def nextT (t : List Int) : Option (List Int) :=
  match lastBig t t.length with
  | none => none
  | some p => some (shiftGo (p - lastEq t (t[p]?.getD 0 - 1) p) (t.length - p) p t)
def treesGo : Nat → List Int → List (List Int)
  | 0, _ => []
  | f + 1, t => t :: (match nextT t with
    | none => []
    | some t' => treesGo f t')
def firstT (n : Nat) : List Int := (List.range n).map fun i => ((i : Nat) : Int)
def treesN (n : Nat) : List (List Int) := treesGo 21 (firstT n)
theorem treesN_check : ((List.range 6).all fun i => ((treesN (i + 1)).all fun t => isLev t && decide (t.length = i + 1)) && (match (treesN (i + 1)).getLast? with | some t => (nextT t).isNone | none => false)) = true := by kernel_rfl
theorem treesN_ok {n : Nat} (h0 : 1 ≤ n) (h1 : n ≤ 6) : (∀ t ∈ treesN n, Lv t ∧ t.length = n) ∧ ∀ t, (treesN n).getLast? = some t → nextT t = none := by
  have h := List.all_eq_true.1 treesN_check (n - 1) (List.mem_range.2 (by omega))
  rw [show n - 1 + 1 = n from by omega, Bool.and_eq_true] at h
  refine ⟨fun t ht => ?_, fun t ht => ?_⟩
  · have h2 := List.all_eq_true.1 h.1 t ht
    rw [Bool.and_eq_true, decide_eq_true_eq] at h2
    exact ⟨(isLev_iff h2.1).1, h2.2⟩
  · have h2 := h.2
    rw [ht] at h2
    cases hn : nextT t with
    | none => rfl
    | some t' => simp only [hn] at h2; cases h2
theorem lastBig_step {t : List Int} {m : Nat} (hm : m < t.length) (h : ¬ 1 < t[m]) : lastBig t (m + 1) = lastBig t m := by
  rw [lastBig, List.getElem?_eq_getElem hm, Option.getD_some, if_neg h]
theorem lastBig_hit {t : List Int} {m : Nat} (hm : m < t.length) (h : 1 < t[m]) : lastBig t (m + 1) = some m := by
  rw [lastBig, List.getElem?_eq_getElem hm, Option.getD_some, if_pos h]
theorem lastEq_step {t : List Int} {x : Int} {m : Nat} (hm : m < t.length) (h : t[m] ≠ x) : lastEq t x (m + 1) = lastEq t x m := by
  rw [lastEq, List.getElem?_eq_getElem hm, Option.getD_some, if_neg h]
theorem lastEq_hit {t : List Int} {x : Int} {m : Nat} (hm : m < t.length) (h : t[m] = x) : lastEq t x (m + 1) = m := by
  rw [lastEq, List.getElem?_eq_getElem hm, Option.getD_some, if_pos h]
theorem shiftGo_length (d f i : Nat) (t : List Int) : (shiftGo d f i t).length = t.length := by
  induction f generalizing i t with
  | zero => rfl
  | succ f ih => rw [shiftGo, ih, List.length_set]
theorem nextT_none {t : List Int} (h : lastBig t t.length = none) : nextT t = none := by unfold nextT; rw [h]
theorem nextT_some {t : List Int} {p : Nat} (h : lastBig t t.length = some p) (hp : p < t.length) {q : Nat} (hq : lastEq t (t[p] - 1) p = q) : nextT t = some (shiftGo (p - q) (t.length - p) p t) := by
  unfold nextT
  rw [h]
  simp only [List.getElem?_eq_getElem hp, Option.getD_some, hq]
theorem treesGo_none {t : List Int} (f : Nat) (h : nextT t = none) : treesGo (f + 1) t = [t] := by rw [treesGo, h]
theorem treesGo_some {t t' : List Int} (f : Nat) (h : nextT t = some t') : treesGo (f + 1) t = t :: treesGo f t' := by rw [treesGo, h]
theorem firstT_length (n : Nat) : (firstT n).length = n := by simp [firstT]
theorem firstT_get {n i : Nat} (h : i < (firstT n).length) : (firstT n)[i] = ((i : Nat) : Int) := by simp [firstT]
def treesTo : Nat → List (List Int)
  | 0 => []
  | n + 1 => treesTo n ++ treesN (n + 1)
theorem treesN_len : ((List.range 6).all fun i => decide ((treesN (i + 1)).length ≤ 20)) = true := by kernel_rfl
theorem treesN_le {n : Nat} (h0 : 1 ≤ n) (h1 : n ≤ 6) : (treesN n).length ≤ 20 := by
  have h := List.all_eq_true.1 treesN_len (n - 1) (List.mem_range.2 (by omega))
  rw [show n - 1 + 1 = n from by omega] at h
  exact of_decide_eq_true h
theorem treesTo_ok {n : Nat} (h : n ≤ 6) : ∀ t ∈ treesTo n, Lv t ∧ t.length ≤ n := by
  induction n with
  | zero => intro t ht; cases ht
  | succ n ih =>
    intro t ht
    rcases List.mem_append.1 ht with h1 | h1
    · have := ih (by omega) t h1; exact ⟨this.1, by omega⟩
    · have := (treesN_ok (n := n + 1) (by omega) h).1 t h1; exact ⟨this.1, by omega⟩
end Go.Rk
/- Plain facts: densities, what a tree lacks, the character and the order of a tableau. -/
namespace Go.Rk
open Go.Fw Go.Proofs
/-- Products, as the machine takes them. -/
def densGo (g : List Int → Int) : Int → List (List Int) → Int
  | out, [] => out
  | out, b :: bs => densGo g (IntKind.i64.wrap (out * g b)) bs
theorem densGo_drop {g : List Int → Int} {bs : List (List Int)} {i : Nat} (h : i < bs.length) (out : Int) : densGo g out (bs.drop i) = densGo g (IntKind.i64.wrap (out * g bs[i])) (bs.drop (i + 1)) := by
  rw [List.drop_eq_getElem_cons h, densGo]
def densL : Nat → List Int → Int
  | 0, _ => 0
  | f + 1, t => densGo (densL f) t.length (branchesL t)
def lackL (x : TabD) (t : List Int) : Int := nm (weightL x t - powN (nm (densL 8 t)) 10005)
def characterL (x : TabD) : List Int := 1 :: (treesTo 6).map (weightL x)
def orderGo (x : TabD) : List (List Int) → Int
  | [] => 6
  | t :: ts => if lackL x t ≠ 0 then (t.length : Int) - 1 else orderGo x ts
def orderL (x : TabD) : Int := orderGo x (treesTo 6)
theorem orderGo_drop {x : TabD} {ts : List (List Int)} {i : Nat} (h : i < ts.length) : orderGo x (ts.drop i) = if lackL x ts[i] ≠ 0 then (ts[i].length : Int) - 1 else orderGo x (ts.drop (i + 1)) := by
  rw [List.drop_eq_getElem_cons h, orderGo]
def characterOf (x : TabD) : List Int × Int := if isTab x = true then (characterL x, 0) else ([], 1)
def orderOf (x : TabD) : Int × Int := if isTab x = true then (orderL x, 0) else (0, 1)
theorem treesTo_len : (treesTo 6).length = 37 := by
  have h : decide ((treesTo 6).length = 37) = true := by kernel_rfl
  exact of_decide_eq_true h
theorem characterOf_len (x : TabD) : (characterOf x).1.length ≤ 1000000 := by
  unfold characterOf
  split
  · show (characterL x).length ≤ 1000000
    unfold characterL
    rw [List.length_cons, List.length_map, treesTo_len]
    omega
  · simp
theorem nm_frac (d : Int) : nm (nm 1 * powN (nm d) 10005) = powN (nm d) 10005 := by
  rw [nm_nm_mul, Int.one_mul]
  have := powN_bd (nm d) 10005
  exact nm_of (isN_of this)
end Go.Rk
/- Plain facts: canonical trees and all trees, the reference's way. -/
namespace Go.Rk
open Go.Fw Go.Proofs
def lessL : List Int → List Int → Bool
  | x :: xs, y :: ys => if x ≠ y then decide (x < y) else lessL xs ys
  | [], ys => decide (0 < ys.length)
  | _ :: _, [] => false
theorem lessL_drop {xs ys : List Int} {i : Nat} (h1 : i < xs.length) (h2 : i < ys.length) : lessL (xs.drop i) (ys.drop i) = if xs[i] ≠ ys[i] then decide (xs[i] < ys[i]) else lessL (xs.drop (i + 1)) (ys.drop (i + 1)) := by
  rw [List.drop_eq_getElem_cons h1, List.drop_eq_getElem_cons h2, lessL]
theorem lessL_end {xs ys : List Int} {i : Nat} (h1 : i ≤ xs.length) (h2 : i ≤ ys.length) (h : ¬ (i < xs.length ∧ i < ys.length)) : lessL (xs.drop i) (ys.drop i) = decide (xs.length < ys.length) := by
  by_cases hx : i < xs.length
  · have hy : ys.length ≤ i := by omega
    rw [List.drop_eq_getElem_cons hx, List.drop_eq_nil_of_le hy, lessL, decide_eq_false (by omega)]
  · rw [List.drop_eq_nil_of_le (by omega), lessL, List.length_drop]
    by_cases h3 : xs.length < ys.length
    · rw [decide_eq_true h3, decide_eq_true (by omega)]
    · rw [decide_eq_false h3, decide_eq_false (by omega)]
/-- Where a part is put in: ahead of the first one that is less. -/
def insAt (part : List Int) : List (List Int) → Nat
  | [] => 0
  | s :: ss => if lessL s part = true then 0 else insAt part ss + 1
theorem insAt_le (part : List Int) (ss : List (List Int)) : insAt part ss ≤ ss.length := by
  induction ss with
  | nil => simp [insAt]
  | cons s ss ih => unfold insAt; split <;> simp <;> omega
theorem insAt_drop {part : List Int} {ss : List (List Int)} {i : Nat} (h : i < ss.length) : i + insAt part (ss.drop i) = if lessL ss[i] part = true then i else (i + 1) + insAt part (ss.drop (i + 1)) := by
  rw [List.drop_eq_getElem_cons h, insAt]
  split <;> omega
def insL (part : List Int) (ss : List (List Int)) : List (List Int) := ss.take (insAt part ss) ++ ([part] ++ ss.drop (insAt part ss))
theorem insL_length (part : List Int) (ss : List (List Int)) : (insL part ss).length = ss.length + 1 := by
  have := insAt_le part ss
  unfold insL
  rw [List.length_append, List.length_append, List.length_take, List.length_drop, List.length_singleton]
  omega
def sortGo (g : List Int → List Int) : List (List Int) → List (List Int) → List (List Int)
  | ss, [] => ss
  | ss, b :: bs => sortGo g (insL (g b) ss) bs
theorem sortGo_drop {g : List Int → List Int} {bs : List (List Int)} {i : Nat} (h : i < bs.length) (ss : List (List Int)) : sortGo g ss (bs.drop i) = sortGo g (insL (g bs[i]) ss) (bs.drop (i + 1)) := by
  rw [List.drop_eq_getElem_cons h, sortGo]
theorem sortGo_ok {g : List Int → List Int} {M : Nat} (bs ss : List (List Int)) (h1 : ∀ b ∈ bs, (g b).length ≤ M) (h2 : ∀ s ∈ ss, s.length ≤ M) : (sortGo g ss bs).length = ss.length + bs.length ∧ ∀ s ∈ sortGo g ss bs, s.length ≤ M := by
  induction bs generalizing ss with
  | nil => exact ⟨rfl, h2⟩
  | cons b bs ih =>
    have := ih (insL (g b) ss) (fun b' hb => h1 b' (by simp [hb])) (fun s hs => by
      unfold insL at hs
      rcases List.mem_append.1 hs with hs | hs
      · exact h2 s (List.mem_of_mem_take hs)
      · rcases List.mem_append.1 hs with hs | hs
        · simp only [List.mem_singleton] at hs; subst hs; exact h1 b (by simp)
        · exact h2 s (List.mem_of_mem_drop hs))
    rw [sortGo]
    refine ⟨?_, this.2⟩
    rw [this.1, insL_length, List.length_cons]
    omega
def incW (x : Int) : Int := IntKind.i64.wrap (x + 1)
def canonL : Nat → List Int → List Int
  | 0, _ => []
  | f + 1, t => 0 :: ((sortGo (canonL f) [] (branchesL t)).flatten.map incW)
theorem flat_le {xss : List (List Int)} {M : Nat} (h : ∀ s ∈ xss, s.length ≤ M) : xss.flatten.length ≤ M * xss.length := by
  induction xss with
  | nil => simp
  | cons x xss ih =>
    have h1 := h x (by simp)
    have h2 := ih fun s hs => h s (by simp [hs])
    rw [List.flatten_cons, List.length_append, List.length_cons, Nat.mul_succ]
    omega
theorem ten_pos (f : Nat) : 1 ≤ 10 ^ f := by
  induction f with
  | zero => exact Nat.le_refl _
  | succ f ih => rw [Nat.pow_succ]; omega
theorem canonL_len (f : Nat) : ∀ {t : List Int}, Lv t → t.length ≤ 8 → (canonL f t).length ≤ 10 ^ f := by
  induction f with
  | zero => intro t _ _; simp [canonL]
  | succ f ih =>
    intro t ht hn
    have hb := branches_ok ht
    have hs := sortGo_ok (g := canonL f) (M := 10 ^ f) (branchesL t) [] (fun b hb' => ih (hb.2 b hb').1 (by have := (hb.2 b hb').2; omega)) (fun s hs => by simp at hs)
    have hf := flat_le hs.2
    rw [canonL, List.length_cons, List.length_map]
    rw [hs.1] at hf
    have h1 : 10 ^ f * (([] : List (List Int)).length + (branchesL t).length) ≤ 10 ^ f * 7 := Nat.mul_le_mul_left _ (by simp; omega)
    have h2 := ten_pos f
    rw [Nat.pow_succ]
    omega
def growDown (g : Int → List (List Int)) : Nat → List (List Int)
  | 0 => []
  | m + 1 => g ((m : Int) + 1) ++ growDown g m
def growL : Nat → List Int → List (List Int)
  | 0, t => if canonL 8 t = t then [t] else []
  | f + 1, t => growDown (fun l => growL f (t ++ [l])) (t.getLast?.getD 0 + 1).toNat
theorem grow_check : ((List.range 6).all fun i => decide (growL i [0] = treesN (i + 1))) = true := by kernel_rfl
theorem grow_eq {n : Nat} (h0 : 1 ≤ n) (h1 : n ≤ 6) : growL (n - 1) [0] = treesN n := by
  have h := List.all_eq_true.1 grow_check (n - 1) (List.mem_range.2 (by omega))
  have := of_decide_eq_true h
  rw [this, show n - 1 + 1 = n from by omega]
end Go.Rk
/- Plain facts: the order of a tableau, counted tree by tree and up to so many nodes. -/
namespace Go.Rk
open Go.Fw Go.Proofs
/-- The first index at which something is lacking, or -1. -/
def faultGo (x : TabD) : Int → List (List Int) → Int
  | _, [] => -1
  | i, t :: ts => if lackL x t ≠ 0 then i else faultGo x (i + 1) ts
def faultL (x : TabD) (n : Nat) : Int := faultGo x 0 (treesTo n)
theorem faultGo_drop {x : TabD} {ts : List (List Int)} {i : Nat} (h : i < ts.length) : faultGo x (i : Int) (ts.drop i) = if lackL x ts[i] ≠ 0 then (i : Int) else faultGo x ((i + 1 : Nat) : Int) (ts.drop (i + 1)) := by
  rw [List.drop_eq_getElem_cons h, faultGo]
  rfl
def allOk (x : TabD) (ts : List (List Int)) : Bool := ts.all fun t => decide (lackL x t = 0)
theorem faultGo_neg (x : TabD) (ts : List (List Int)) (i : Int) (hi : 0 ≤ i) : faultGo x i ts < 0 ↔ allOk x ts = true := by
  induction ts generalizing i with
  | nil => simp [faultGo, allOk]
  | cons t ts ih =>
    unfold faultGo
    have hall : allOk x (t :: ts) = (decide (lackL x t = 0) && allOk x ts) := rfl
    rw [hall]
    by_cases h : lackL x t = 0
    · rw [if_neg (by simpa using h), decide_eq_true h, Bool.true_and]
      exact ih (i + 1) (by omega)
    · rw [if_pos h, decide_eq_false h, Bool.false_and]
      constructor
      · intro h'; omega
      · intro h'; cases h'
theorem faultL_neg (x : TabD) (n : Nat) : faultL x n < 0 ↔ allOk x (treesTo n) = true := faultGo_neg x _ 0 (Int.le_refl _)
theorem allOk_to (x : TabD) (n : Nat) : allOk x (treesTo (n + 1)) = (allOk x (treesTo n) && allOk x (treesN (n + 1))) := by
  unfold allOk; rw [treesTo, List.all_append]
/-- As the reference counts. -/
def ordS (x : TabD) : Nat → Nat → Int
  | p, 0 => (p : Int)
  | p, f + 1 => if allOk x (treesTo (p + 1)) = true then ordS x (p + 1) f else (p : Int)
theorem ordS_step (x : TabD) {p : Nat} (h : p < 6) : ordS x p (6 - p) = if allOk x (treesTo (p + 1)) = true then ordS x (p + 1) (6 - (p + 1)) else (p : Int) := by
  rw [show 6 - p = (6 - (p + 1)) + 1 from by omega, ordS]
/-- orderGo with another end. -/
def og (x : TabD) : List (List Int) → Int → Int
  | [], d => d
  | t :: ts, d => if lackL x t ≠ 0 then (t.length : Int) - 1 else og x ts d
theorem orderGo_og (x : TabD) (ts : List (List Int)) : orderGo x ts = og x ts 6 := by
  induction ts with
  | nil => rfl
  | cons t ts ih => rw [orderGo, og, ih]
theorem og_append (x : TabD) (a b : List (List Int)) (d : Int) : og x (a ++ b) d = og x a (og x b d) := by
  induction a with
  | nil => rfl
  | cons t ts ih => rw [List.cons_append, og, og, ih]
theorem og_same {x : TabD} {n : Nat} {ts : List (List Int)} (h : ∀ t ∈ ts, t.length = n) (d : Int) : og x ts d = if allOk x ts = true then d else (n : Int) - 1 := by
  induction ts with
  | nil => rfl
  | cons t ts ih =>
    have hall : allOk x (t :: ts) = (decide (lackL x t = 0) && allOk x ts) := rfl
    rw [og, hall, ih fun t ht => h t (by simp [ht]), h t (by simp)]
    by_cases h0 : lackL x t = 0
    · rw [if_neg (by simpa using h0), decide_eq_true h0, Bool.true_and]
    · rw [if_pos h0, decide_eq_false h0, Bool.false_and]; rfl
theorem orderL_eq (x : TabD) : orderL x = ordS x 0 6 := by
  have hs : ∀ n d, 1 ≤ n → n ≤ 6 → og x (treesN n) d = if allOk x (treesN n) = true then d else (n : Int) - 1 := fun n d h0 h1 => og_same (fun t ht => ((treesN_ok h0 h1).1 t ht).2) d
  have h0 : allOk x (treesTo 0) = true := rfl
  have e : treesTo 6 = ((((([] ++ treesN 1) ++ treesN 2) ++ treesN 3) ++ treesN 4) ++ treesN 5) ++ treesN 6 := rfl
  unfold orderL
  rw [orderGo_og, e]
  rw [og_append, og_append, og_append, og_append, og_append, og_append]
  rw [hs 1 _ (by omega) (by omega), hs 2 _ (by omega) (by omega), hs 3 _ (by omega) (by omega), hs 4 _ (by omega) (by omega), hs 5 _ (by omega) (by omega), hs 6 _ (by omega) (by omega)]
  simp only [ordS, allOk_to, h0, Bool.true_and]
  cases allOk x (treesN (0 + 1)) <;> cases allOk x (treesN (1 + 1)) <;> cases allOk x (treesN (2 + 1)) <;> cases allOk x (treesN (3 + 1)) <;> cases allOk x (treesN (4 + 1)) <;> cases allOk x (treesN (5 + 1)) <;> rfl
end Go.Rk
/- Plain facts: a tableau with some of its stages, in an order. -/
namespace Go.Rk
open Go.Fw Go.Proofs
def permRow (x : TabD) (order : List Int) (i : Int) : List Int := order.map fun k => at2 x.1 i.toNat k.toNat
def permL (x : TabD) (order : List Int) : TabD := (order.map (permRow x order), order.map fun i => x.2[i.toNat]?.getD 0)
theorem permRow_length (x : TabD) (order : List Int) (i : Int) : (permRow x order i).length = order.length := by simp [permRow]
theorem permL_len1 (x : TabD) (order : List Int) : (permL x order).1.length = order.length := by simp [permL]
theorem permL_len2 (x : TabD) (order : List Int) : (permL x order).2.length = order.length := by simp [permL]
theorem permRow_get {x : TabD} {order : List Int} {i : Int} {k : Nat} (h : k < (permRow x order i).length) (hk : k < order.length) : (permRow x order i)[k] = at2 x.1 i.toNat order[k].toNat := by simp [permRow]
end Go.Rk
/- Plain facts: the stages that are used. -/
namespace Go.Rk
open Go.Fw Go.Proofs
/-- Is the stage k used, as far as u knows and one step on? -/
def hitK (x : TabD) (u : List Bool) (k : Nat) : Bool := u[k]?.getD false || (decide (x.2[k]?.getD 0 ≠ 0) || (List.range x.2.length).any fun i => u[i]?.getD false && decide (at2 x.1 i k ≠ 0))
def passGo (x : TabD) : Nat → Nat → List Bool → List Bool
  | 0, _, u => u
  | f + 1, k, u => passGo x f (k + 1) (u.set k (hitK x u k))
def passL (x : TabD) (u : List Bool) : List Bool := passGo x u.length 0 u
def itP (x : TabD) : List Bool → Nat → List Bool
  | u, 0 => u
  | u, t + 1 => itP x (passL x u) t
theorem passGo_length (x : TabD) (f k : Nat) (u : List Bool) : (passGo x f k u).length = u.length := by
  induction f generalizing k u with
  | zero => rfl
  | succ f ih => rw [passGo, ih, List.length_set]
theorem passL_length (x : TabD) (u : List Bool) : (passL x u).length = u.length := passGo_length _ _ _ _
/-- What was used stays used. -/
def Le (u u' : List Bool) : Prop := u.length = u'.length ∧ ∀ j : Nat, u[j]?.getD false = true → u'[j]?.getD false = true
theorem Le.refl (u : List Bool) : Le u u := ⟨rfl, fun _ h => h⟩
theorem Le.trans {a b c : List Bool} (h : Le a b) (h' : Le b c) : Le a c := ⟨h.1.trans h'.1, fun j hj => h'.2 j (h.2 j hj)⟩
theorem le_set {u : List Bool} {k : Nat} {b : Bool} (h : u[k]?.getD false = true → b = true) : Le u (u.set k b) := by
  refine ⟨by rw [List.length_set], fun j hj => ?_⟩
  by_cases e : k = j
  · subst e
    by_cases hk : k < u.length
    · rw [List.getElem?_set_self hk]; exact h hj
    · rw [List.getElem?_eq_none (by omega)] at hj; cases hj
  · rw [List.getElem?_set_ne e]; exact hj
theorem passGo_le (x : TabD) (f k : Nat) (u : List Bool) : Le u (passGo x f k u) := by
  induction f generalizing k u with
  | zero => exact Le.refl _
  | succ f ih =>
    rw [passGo]
    exact (le_set fun h => by unfold hitK; rw [h]; rfl).trans (ih _ _)
theorem passL_le (x : TabD) (u : List Bool) : Le u (passL x u) := passGo_le _ _ _ _
def cntB (n : Nat) (u : List Bool) : Nat := (List.range n).countP fun (j : Nat) => u[j]?.getD false
theorem cntB_le (n : Nat) (u : List Bool) : cntB n u ≤ n := by
  have := List.countP_le_length (p := fun (j : Nat) => u[j]?.getD false) (l := List.range n)
  rw [List.length_range] at this
  exact this
theorem countP_lt' {p q : Nat → Bool} {l : List Nat} (h : ∀ i ∈ l, p i = true → q i = true) (hk : ∃ k ∈ l, p k = false ∧ q k = true) : l.countP p < l.countP q := by
  induction l with
  | nil => obtain ⟨k, hk, _⟩ := hk; simp at hk
  | cons a l ih =>
    have hle : l.countP p ≤ l.countP q := List.countP_mono_left fun i hi => h i (by simp [hi])
    rw [List.countP_cons, List.countP_cons]
    obtain ⟨k, hk, h1, h2⟩ := hk
    rcases List.mem_cons.1 hk with rfl | hk
    · rw [h1, h2]; simp; omega
    · have := ih (fun i hi => h i (by simp [hi])) ⟨k, hk, h1, h2⟩
      have h3 := h a (by simp)
      cases hp : p a with
      | true => rw [h3 hp]; simp; omega
      | false => simp; split <;> omega
theorem cntB_lt {n : Nat} {u u' : List Bool} (hl : u.length = n) (h : Le u u') (hne : u' ≠ u) : cntB n u < cntB n u' := by
  refine countP_lt' (fun j _ hj => h.2 j hj) ?_
  apply Classical.byContradiction
  intro hno
  apply hne
  apply List.ext_getElem h.1.symm
  intro j h1 h2
  have hj : j < n := by omega
  have e1 : u[j]?.getD false = u[j] := by rw [List.getElem?_eq_getElem h2]; rfl
  have e2 : u'[j]?.getD false = u'[j] := by rw [List.getElem?_eq_getElem h1]; rfl
  cases hu : u[j] with
  | true => have := h.2 j (by rw [e1, hu]); rw [e2] at this; exact this
  | false =>
    cases hu' : u'[j] with
    | false => rfl
    | true => exact absurd ⟨j, List.mem_range.2 hj, by rw [e1, hu], by rw [e2, hu']⟩ hno
theorem itP_fix {x : TabD} {u : List Bool} (h : passL x u = u) (t : Nat) : itP x u t = u := by
  induction t with
  | zero => rfl
  | succ t ih => rw [itP, h, ih]
def usedL (x : TabD) : List Bool := itP x (List.replicate x.2.length false) (x.2.length + 1)
theorem itP_length (x : TabD) (u : List Bool) (t : Nat) : (itP x u t).length = u.length := by
  induction t generalizing u with
  | zero => rfl
  | succ t ih => rw [itP, ih, passL_length]
theorem usedL_length (x : TabD) : (usedL x).length = x.2.length := by unfold usedL; rw [itP_length, List.length_replicate]
/-- The used stages, in their order. -/
def usedO (u : List Bool) : List Int := ((List.range u.length).filter fun i => u[i]?.getD false).map fun i => ((i : Nat) : Int)
theorem usedO_ok {u : List Bool} : OrdOk u.length (usedO u) := fun o ho => by
  obtain ⟨i, hi, rfl⟩ := List.mem_map.1 ho
  have := List.mem_range.1 (List.mem_filter.1 hi).1
  omega
theorem usedO_len (u : List Bool) : (usedO u).length ≤ u.length := by
  unfold usedO
  rw [List.length_map]
  have := List.length_filter_le (fun (i : Nat) => u[i]?.getD false) (List.range u.length)
  rw [List.length_range] at this
  exact this
def dropL (x : TabD) : TabD := if usedO (usedL x) = [] then neutralTableau else permL x (usedO (usedL x))
def dropUnused (x : TabD) : TabD × Int := if isTab x = true then (dropL x, 0) else (([], []), 1)
end Go.Rk
/- Plain facts: what a tableau lacks at all trees with n nodes, and the first tree at which it lacks something. -/
namespace Go.Rk
open Go.Fw Go.Proofs
def tabNodes (x : TabD) (n : Int) : Int := if isTab x = true then (if 1 ≤ n ∧ n ≤ 6 then 0 else 2) else 1
theorem tabNodes_zero {x : TabD} {n : Int} (h : tabNodes x n = 0) : isTab x = true ∧ 1 ≤ n ∧ n ≤ 6 := by
  unfold tabNodes at h
  split at h
  · rename_i h1
    split at h
    · rename_i h2; exact ⟨h1, h2.1, h2.2⟩
    · omega
  · omega
def firstFault (x : TabD) (n : Int) : Int × Int := if tabNodes x n = 0 then (if faultL x n.toNat < 0 then (0, 4) else (faultL x n.toNat, 0)) else (0, tabNodes x n)
def residualsOf (x : TabD) (n : Int) : List Int × Int := if tabNodes x n = 0 then ((treesN n.toNat).map (lackL x), 0) else ([], tabNodes x n)
theorem residualsOf_len (x : TabD) (n : Int) : (residualsOf x n).1.length ≤ 1000000 := by
  unfold residualsOf
  split
  · rename_i h
    obtain ⟨_, h1, h2⟩ := tabNodes_zero h
    show ((treesN n.toNat).map (lackL x)).length ≤ 1000000
    rw [List.length_map]
    have := treesN_le (n := n.toNat) (by omega) (by omega)
    omega
  · simp
theorem faultGo_nonneg (x : TabD) (ts : List (List Int)) (i : Int) (hi : 0 ≤ i) : faultGo x i ts = -1 ∨ 0 ≤ faultGo x i ts := by
  induction ts generalizing i with
  | nil => exact Or.inl rfl
  | cons t ts ih =>
    unfold faultGo
    split
    · exact Or.inr hi
    · exact ih (i + 1) (by omega)
theorem faultGo_pos (x : TabD) {ts : List (List Int)} {i : Nat} (h : i < ts.length) (hl : lackL x ts[i] ≠ 0) : faultGo x (i : Int) (ts.drop i) = (i : Int) := by
  rw [faultGo_drop h, if_pos hl]
end Go.Rk
