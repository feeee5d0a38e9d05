/- Plain facts: lists of nodes, the polynomial of nodes, powers, integrals. -/
import Derived.Test.YtgjpdjblchgfdaaPl4
namespace Go.Rk
open Go.Fw Go.Proofs

theorem idxFrom_mem (xs : List Int) (x : Int) : (xs.any fun y => decide (y = x)) = decide (x ∈ xs) := by
  rw [Bool.eq_iff_iff]
  simp

theorem nodup_take_succ {xs : List Int} {i : Nat} (h : i < xs.length) : (xs.take (i + 1)).Nodup ↔ (xs.take i).Nodup ∧ xs[i] ∉ xs.take i := by
  rw [List.take_succ_eq_append_getElem h, List.nodup_append]
  simp only [List.nodup_cons, List.not_mem_nil, not_false_eq_true, List.nodup_nil, and_true, true_and, List.mem_singleton]
  constructor
  · rintro ⟨h1, h2⟩
    exact ⟨h1, fun hm => h2 _ hm _ rfl rfl⟩
  · rintro ⟨h1, h2⟩
    exact ⟨h1, fun a ha b hb e => h2 (by rw [← hb, ← e]; exact ha)⟩
theorem nodup_of_take {xs : List Int} {i : Nat} (h : xs.Nodup) : (xs.take i).Nodup := List.Sublist.nodup (List.take_sublist i xs) h

/-- What is amiss with a list of nodes. -/
def nodesCode (xs : List Int) : Int := if 1 ≤ xs.length ∧ xs.length ≤ 8 ∧ allN xs = true then (if xs.Nodup then 0 else 5) else 2
theorem nodesCode_len {xs : List Int} (h : ¬ (1 ≤ xs.length ∧ xs.length ≤ 8)) : nodesCode xs = 2 := by unfold nodesCode; rw [if_neg (fun h' => h ⟨h'.1, h'.2.1⟩)]
theorem nodesCode_all {xs : List Int} (h : allN xs = false) : nodesCode xs = 2 := by unfold nodesCode; rw [if_neg (fun h' => by rw [h] at h'; cases h'.2.2)]
theorem nodesCode_dup {xs : List Int} (h : 1 ≤ xs.length ∧ xs.length ≤ 8) (h2 : allN xs = true) (h3 : ¬ xs.Nodup) : nodesCode xs = 5 := by unfold nodesCode; rw [if_pos ⟨h.1, h.2, h2⟩, if_neg h3]
theorem nodesCode_ok {xs : List Int} (h : 1 ≤ xs.length ∧ xs.length ≤ 8) (h2 : allN xs = true) (h3 : xs.Nodup) : nodesCode xs = 0 := by unfold nodesCode; rw [if_pos ⟨h.1, h.2, h2⟩, if_pos h3]
theorem nodesCode_zero {xs : List Int} (h : nodesCode xs = 0) : 1 ≤ xs.length ∧ xs.length ≤ 8 ∧ allN xs = true := by
  unfold nodesCode at h
  split at h
  · rename_i h'; exact h'
  · cases h

/-- p times (x - c). -/
def timesLin (p : List Int) (c : Int) : List Int := plusL (0 :: p) (p ++ [0]) (-c)
theorem timesLin_length (p : List Int) (c : Int) : (timesLin p c).length = p.length + 1 := by unfold timesLin; rw [plusL_length]; simp
theorem allN_plusL (a b : List Int) (k : Int) : allN (plusL a b k) = true := by
  unfold plusL
  induction a generalizing b with
  | nil => exact allN_nil
  | cons x xs ih =>
    cases b with
    | nil => exact allN_nil
    | cons y ys => rw [List.zipWith_cons_cons, allN_cons, nm_isN, ih]; rfl
theorem allN_append (a b : List Int) : allN (a ++ b) = (allN a && allN b) := by
  induction a with
  | nil => rw [List.nil_append, allN_nil, Bool.true_and]
  | cons x xs ih => rw [List.cons_append, allN_cons, allN_cons, ih, Bool.and_assoc]
theorem allN_timesLin (p : List Int) (c : Int) : allN (timesLin p c) = true := allN_plusL _ _ _
def polyGo : List Int → List Int → List Int
  | p, [] => p
  | p, c :: cs => polyGo (timesLin p c) cs
theorem polyGo_drop {xs : List Int} {i : Nat} (h : i < xs.length) (p : List Int) : polyGo p (xs.drop i) = polyGo (timesLin p xs[i]) (xs.drop (i + 1)) := by
  rw [List.drop_eq_getElem_cons h, polyGo]
theorem polyGo_length (p xs : List Int) : (polyGo p xs).length = p.length + xs.length := by
  induction xs generalizing p with
  | nil => rfl
  | cons c cs ih => rw [polyGo, ih, timesLin_length, List.length_cons]; omega
theorem allN_polyGo (p xs : List Int) (h : allN p = true) : allN (polyGo p xs) = true := by
  induction xs generalizing p with
  | nil => exact h
  | cons c cs ih => exact ih _ (allN_timesLin _ _)
def poly (xs : List Int) : List Int := polyGo [1] xs
theorem poly_length (xs : List Int) : (poly xs).length = 1 + xs.length := polyGo_length _ _
theorem allN_poly (xs : List Int) : allN (poly xs) = true := allN_polyGo _ _ (by rw [allN_cons, allN_nil, isN_def]; rfl)
def nodePolynomial (xs : List Int) : List Int × Int := if nodesCode xs = 0 then (poly xs, 0) else ([], nodesCode xs)
theorem nodePolynomial_len (xs : List Int) : (nodePolynomial xs).1.length ≤ 1000000 := by
  unfold nodePolynomial
  split
  · rename_i h
    have := nodesCode_zero h
    rw [poly_length]; omega
  · simp

/-- a to the e, times acc. -/
def powGo (a acc : Int) (e : Nat) : Int := if h : e = 0 then acc else powGo (nm (a * a)) (if e % 2 = 1 then nm (acc * a) else acc) (e / 2)
termination_by e
decreasing_by omega
theorem powGo_zero (a acc : Int) : powGo a acc 0 = acc := by rw [powGo]; rfl
theorem powGo_step (a acc : Int) {e : Nat} (h : e ≠ 0) : powGo a acc e = powGo (nm (a * a)) (if e % 2 = 1 then nm (acc * a) else acc) (e / 2) := by rw [powGo, dif_neg h]
def powN (a : Int) (e : Nat) : Int := powGo a 1 e
theorem powGo_bd (a acc : Int) (e : Nat) (h : 0 ≤ acc ∧ acc ≤ 10006) : 0 ≤ powGo a acc e ∧ powGo a acc e ≤ 10006 := by
  induction e using Nat.strongRecOn generalizing a acc with
  | _ e ih =>
    by_cases h0 : e = 0
    · subst h0; rw [powGo_zero]; exact h
    · rw [powGo_step a acc h0]
      refine ih (e / 2) (by omega) _ _ ?_
      split
      · exact nm_bd _
      · exact h
theorem powN_bd (a : Int) (e : Nat) : 0 ≤ powN a e ∧ powN a e ≤ 10006 := powGo_bd a 1 e (by omega)

/-- One term of an integral from 0 to 1. -/
def termI (n : Nat) (p : Int) : Int := nm (nm (p * powN 1 n) * powN n 10005)
theorem termI_bd (n : Nat) (p : Int) : 0 ≤ termI n p ∧ termI n p ≤ 10006 := nm_bd _
theorem termI_zero (n : Nat) : termI n 0 = 0 := by unfold termI; rw [Int.zero_mul, nm_zero, Int.zero_mul, nm_zero]
theorem termI_spec (n : Nat) (p : Int) : nm (p * nm (powN 1 n * nm (nm 1 * powN n 10005))) = termI n p := by
  unfold termI
  rw [nm_mul_nm, nm_nm_mul, Int.one_mul, ← Int.mul_assoc, nm_mul_nm, nm_nm_mul]
def sumI : Nat → List Int → Int
  | _, [] => 0
  | n, x :: xs => termI n x + sumI (n + 1) xs
theorem sumI_take_succ {xs : List Int} {i : Nat} (h : i < xs.length) (n : Nat) : sumI n (xs.take (i + 1)) = sumI n (xs.take i) + termI (n + i) xs[i] := by
  induction xs generalizing i n with
  | nil => simp at h
  | cons x xs ih =>
    cases i with
    | zero => simp [sumI]
    | succ i =>
      rw [List.take_succ_cons, List.take_succ_cons, sumI, sumI, ih (by simpa using h)]
      rw [show n + 1 + i = n + (i + 1) from by omega, Int.add_assoc]
      rfl
theorem sumI_bd (n : Nat) (xs : List Int) : 0 ≤ sumI n xs ∧ sumI n xs ≤ 10006 * xs.length := by
  induction xs generalizing n with
  | nil => simp [sumI]
  | cons x xs ih =>
    have h1 := termI_bd n x
    have h2 := ih (n + 1)
    simp only [sumI, List.length_cons]
    omega
def integ (n : Nat) (xs : List Int) : Int := nm (sumI (n + 1) xs)
theorem sumI_zeros (k n : Nat) (xs : List Int) : sumI n (List.replicate k 0 ++ xs) = sumI (n + k) xs := by
  induction k generalizing n with
  | zero => rfl
  | succ k ih => rw [List.replicate_succ, List.cons_append, sumI, termI_zero, Int.zero_add, ih, show n + 1 + k = n + (k + 1) from by omega]
theorem integ_zeros (k : Nat) (xs : List Int) : integ 0 (List.replicate k 0 ++ xs) = integ k xs := by unfold integ; rw [sumI_zeros, show 0 + 1 + k = k + 1 from by omega]

/-- Up to which degree the polynomial of the nodes is orthogonal. -/
def orthGo (p : List Int) : Nat → Nat → Int
  | k, 0 => k
  | k, n + 1 => if integ k p = 0 then orthGo p (k + 1) n else k
def orthogonalTo (xs : List Int) : Int × Int := if nodesCode xs = 0 then (orthGo (poly xs) 0 8, 0) else (0, nodesCode xs)
end Go.Rk
