/- Plain facts: the reference's way to multiply a polynomial by (x - c). -/
import Derived.Test.YtgjpdjblchgfdaaPl5
namespace Go.Rk
open Go.Fw Go.Proofs
theorem nm_sub_nm (a b : Int) : nm (a - nm b) = nm (a - b) := by unfold nm; omega
theorem nm_add_mul (a k q : Int) : nm (a + nm k * q) = nm (a + k * q) := by rw [← nm_add_nm, nm_nm_mul, nm_add_nm]
theorem nm_fac (a c q : Int) : nm (a - nm (c * q)) = nm (a + nm (-c) * q) := by
  rw [nm_sub_nm, nm_add_mul]
  congr 1
  rw [Int.neg_mul]
  omega
def prevC (p : List Int) (i : Nat) : Int := (0 :: p)[i]?.getD 0
theorem prevC_succ {p : List Int} {i : Nat} (h : i < p.length) : prevC p (i + 1) = p[i] := by simp [prevC, List.getElem?_eq_getElem h]
theorem prevC_num {p : List Int} (hp : allN p = true) (i : Nat) : isN (prevC p i) = true := by
  unfold prevC
  cases h : (0 :: p)[i]? with
  | none => rw [isN_def]; rfl
  | some x =>
    have hm := List.mem_of_getElem? h
    have hp' : allN (0 :: p) = true := by rw [allN_cons, hp, isN_def]; rfl
    unfold allN at hp'
    exact List.all_eq_true.1 hp' x hm
/-- The list behind i rounds. -/
def facM (p : List Int) (c : Int) (i : Nat) : List Int := (timesLin p c).take i ++ prevC p i :: List.replicate (p.length - i) 0
theorem take_len {p : List Int} (c : Int) {i : Nat} (h : i ≤ p.length) : ((timesLin p c).take i).length = i := by rw [List.length_take, timesLin_length]; omega
theorem facM_len {p : List Int} (c : Int) {i : Nat} (h : i ≤ p.length) : (facM p c i).length = p.length + 1 := by
  unfold facM
  rw [List.length_append, take_len c h, List.length_cons, List.length_replicate]; omega
theorem facM_zero (p : List Int) (c : Int) : facM p c 0 = List.replicate (p.length + 1) 0 := by
  unfold facM prevC
  simp [List.replicate_succ]
theorem facM_get {p : List Int} (c : Int) {i : Nat} (h : i ≤ p.length) : (facM p c i)[i]? = some (prevC p i) := by
  unfold facM
  rw [List.getElem?_append_right (by rw [take_len c h]; omega), take_len c h, Nat.sub_self]
  rfl
theorem facM_get1 {p : List Int} (c : Int) {i : Nat} (h : i < p.length) : (facM p c i)[i + 1]? = some 0 := by
  unfold facM
  rw [List.getElem?_append_right (by rw [take_len c (by omega)]; omega), take_len c (by omega), show i + 1 - i = 1 from by omega, List.getElem?_cons_succ]
  rw [List.getElem?_replicate, if_pos (by omega)]
theorem facM_mid_get {p : List Int} (c : Int) {i : Nat} (h : i < p.length) (y : Int) : ((facM p c i).set (i + 1) y)[i]? = some (prevC p i) := by
  rw [List.getElem?_set_ne (by omega)]
  exact facM_get c (by omega)
theorem timesLin_get {p : List Int} (c : Int) {i : Nat} (h : i < p.length) (h' : i < (timesLin p c).length) : (timesLin p c)[i] = nm (prevC p i + nm (-c) * p[i]) := by
  unfold timesLin at h' ⊢
  rw [plusL_get h' (by simp; omega) (by simp; omega)]
  unfold prevC
  rw [List.getElem?_eq_getElem (show i < (0 :: p).length by simp; omega), List.getElem_append_left h]
  rfl
theorem facM_step {p : List Int} {c : Int} {i : Nat} (h : i < p.length) : ((facM p c i).set (i + 1) p[i]).set i (nm (prevC p i - nm (c * p[i]))) = facM p c (i + 1) := by
  have hl := take_len c (show i ≤ p.length by omega)
  unfold facM
  rw [List.set_append_right _ _ (by omega), hl, show i + 1 - i = 1 from by omega, show p.length - i = (p.length - (i + 1)) + 1 from by omega, List.replicate_succ, List.set_cons_succ, List.set_cons_zero]
  rw [List.set_append_right _ _ (by omega), hl, Nat.sub_self, List.set_cons_zero]
  rw [take_snoc (show i < (timesLin p c).length by rw [timesLin_length]; omega) (y := nm (prevC p i - nm (c * p[i]))) (by rw [timesLin_get c h, nm_fac]), List.append_assoc, prevC_succ h]
  rfl
theorem timesLin_last {p : List Int} (c : Int) (hp : allN p = true) (h' : p.length < (timesLin p c).length) : (timesLin p c)[p.length] = prevC p p.length := by
  unfold timesLin at h' ⊢
  rw [plusL_get h' (by simp) (by simp)]
  rw [List.getElem_append_right (Nat.le_refl _)]
  simp only [Nat.sub_self, List.getElem_cons_zero, Int.mul_zero, Int.add_zero]
  have := nm_of (prevC_num hp p.length)
  rw [← this]
  unfold prevC
  rw [List.getElem?_eq_getElem (show p.length < (0 :: p).length by simp)]
  rfl
theorem facM_end {p : List Int} {c : Int} (hp : allN p = true) : facM p c p.length = timesLin p c := by
  have hl := take_len c (Nat.le_refl p.length)
  have hlt : p.length < (timesLin p c).length := by rw [timesLin_length]; omega
  unfold facM
  rw [Nat.sub_self, List.replicate_zero, ← timesLin_last c hp hlt]
  conv => rhs; rw [← List.take_append_drop p.length (timesLin p c), List.drop_eq_getElem_cons hlt, List.drop_eq_nil_of_le (by rw [timesLin_length]; omega)]
end Go.Rk
