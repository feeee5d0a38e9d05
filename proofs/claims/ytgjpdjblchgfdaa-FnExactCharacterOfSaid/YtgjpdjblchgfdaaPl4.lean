/- Plain facts: sums, products, nodes, the inverse of a tableau. -/
import Derived.Test.YtgjpdjblchgfdaaPl2
namespace Go.Rk
open Go.Fw Go.Proofs

theorem nm_nm_add (a b : Int) : nm (nm a + b) = nm (a + b) := by rw [Int.add_comm, nm_add_nm, Int.add_comm]
theorem nm_zero : nm 0 = 0 := by unfold nm; rfl
theorem sum_take_succ {xs : List Int} {i : Nat} (h : i < xs.length) : (xs.take (i + 1)).sum = (xs.take i).sum + xs[i] := by
  rw [List.take_succ_eq_append_getElem h, List.sum_append]; simp
theorem sum_bd {xs : List Int} (h : allN xs = true) : 0 ≤ xs.sum ∧ xs.sum ≤ 10006 * xs.length := by
  induction xs with
  | nil => simp
  | cons x xs ih =>
    rw [allN_cons, Bool.and_eq_true] at h
    have h1 := isN_bd h.1
    have h2 := ih h.2
    simp only [List.sum_cons, List.length_cons]
    omega
theorem allN_take {xs : List Int} (h : allN xs = true) (i : Nat) : allN (xs.take i) = true := by
  induction xs generalizing i with
  | nil => simpa using h
  | cons x xs ih =>
    cases i with
    | zero => exact allN_nil
    | succ i =>
      rw [allN_cons, Bool.and_eq_true] at h
      rw [List.take_succ_cons, allN_cons, h.1, ih h.2]; rfl
theorem allN_ones (n : Nat) : allN (List.replicate n 1) = true := by
  induction n with
  | zero => exact allN_nil
  | succ n ih => rw [List.replicate_succ, allN_cons, ih, isN_def]; rfl

/-- The sum of products. -/
def dotL (xs ys : List Int) : Int := nm (List.zipWith (· * ·) xs ys).sum
theorem dotL_ones {xs : List Int} {n : Nat} (h : xs.length = n) : dotL xs (List.replicate n 1) = nm xs.sum := by
  subst h
  unfold dotL
  congr 1
  induction xs with
  | nil => rfl
  | cons x xs ih => simp only [List.length_cons, List.replicate_succ, List.zipWith_cons_cons, List.sum_cons, Int.mul_one, ih]

def nodesL (xss : List (List Int)) : List Int := xss.map fun r => nm r.sum
def nodesOf (x : TabD) : List Int × Int := if isTab x = true then (nodesL x.1, 0) else ([], 1)
theorem nodesOf_len (x : TabD) : (nodesOf x).1.length ≤ 1000000 := by
  unfold nodesOf
  split
  · rename_i h
    have := isTab_iff h
    have h1 := this.le8
    have h2 := this.sq
    simp [nodesL]
    omega
  · simp

/-- The inverse of a tableau. -/
def inverseL (x : TabD) : TabD := (x.1.map fun r => plusL r x.2 (-1), scaledL x.2 (-1))
def inverseTableau (x : TabD) : TabD × Int := if isTab x = true then (inverseL x, 0) else (([], []), 1)
theorem cntSS_le {xss : List (List Int)} {n : Nat} (h : ∀ r ∈ xss, r.length ≤ n) : cntSS xss ≤ n * xss.length := by
  induction xss with
  | nil => simp [cntSS]
  | cons x xss ih =>
    have h1 := h x (by simp)
    have h2 := ih fun r hr => h r (by simp [hr])
    rw [cntSS_cons, List.length_cons, Nat.mul_succ]
    omega
theorem inverseTableau_len (x : TabD) : tabCnt (inverseTableau x).1 ≤ 1000000 := by
  unfold inverseTableau
  split
  · rename_i h
    have ht := isTab_iff h
    have h1 := ht.le8
    have h2 := ht.sq
    have h3 : cntSS (inverseL x).1 ≤ 8 * (inverseL x).1.length := cntSS_le fun r hr => by
      obtain ⟨r', hr', rfl⟩ := List.mem_map.1 hr
      rw [plusL_length]; omega
    have h4 : (inverseL x).1.length = x.1.length := by simp [inverseL]
    have h5 : (inverseL x).2.length = x.2.length := by simp [inverseL, scaledL]
    unfold tabCnt
    simp only
    omega
  · decide
end Go.Rk
