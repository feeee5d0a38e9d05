/- Plain facts: representatives one by one. -/
import Derived.Test.YteifmffmadnifaaPlC
namespace Go.Rk
open Go.Fw Go.Proofs
theorem repsTo_pre (cls : List Int) {k m : Nat} (h : k ≤ m) : ∃ r, repsTo cls m = repsTo cls k ++ r := by
  induction m with
  | zero => exact ⟨[], by rw [show k = 0 from by omega]; simp⟩
  | succ m ih =>
    by_cases e : k = m + 1
    · exact ⟨[], by rw [e]; simp⟩
    · obtain ⟨r, hr⟩ := ih (by omega)
      exact ⟨r ++ (if isRep cls m = true then [((m : Nat) : Int)] else []), by rw [repsTo_succ, hr, List.append_assoc]⟩
theorem reps_take {cls : List Int} {k : Nat} (hk : k ≤ cls.length) : (repsL cls).take (repsTo cls k).length = repsTo cls k := by
  obtain ⟨r, hr⟩ := repsTo_pre cls hk
  unfold repsL
  rw [hr, List.take_left']
  rfl
theorem reps_get {cls : List Int} {k : Nat} (hk : k < cls.length) (h : isRep cls k = true) : ∃ hlt : (repsTo cls k).length < (repsL cls).length, (repsL cls)[(repsTo cls k).length] = ((k : Nat) : Int) := by
  obtain ⟨r, hr⟩ := repsTo_pre cls (show k + 1 ≤ cls.length from hk)
  rw [repsTo_succ, if_pos h] at hr
  have hr' : repsL cls = repsTo cls k ++ ([((k : Nat) : Int)] ++ r) := by unfold repsL; rw [hr, List.append_assoc]
  have hlt : (repsTo cls k).length < (repsL cls).length := by rw [hr']; simp
  refine ⟨hlt, ?_⟩
  have : (repsL cls)[(repsTo cls k).length]? = some ((k : Nat) : Int) := by rw [hr']; simp
  rw [List.getElem?_eq_getElem hlt] at this
  exact Option.some.inj this
theorem repsTo_succ_len {cls : List Int} {k : Nat} (h : isRep cls k = true) : (repsTo cls (k + 1)).length = (repsTo cls k).length + 1 := by rw [repsTo_succ, if_pos h]; simp
theorem repsTo_skip {cls : List Int} {k : Nat} (h : isRep cls k = false) : repsTo cls (k + 1) = repsTo cls k := by rw [repsTo_succ, if_neg (by rw [h]; decide)]; simp
theorem isRep_iff {cls : List Int} {k : Nat} (hk : k < cls.length) : isRep cls k = decide (cls[k] = ((k : Nat) : Int)) := by unfold isRep; rw [List.getElem?_eq_getElem hk]; rfl
theorem permL_get1 {x : TabD} {o : List Int} {c : Nat} (h : c < (permL x o).1.length) (hc : c < o.length) : (permL x o).1[c] = permRow x o o[c] := by simp [permL]
theorem permL_get2 {x : TabD} {o : List Int} {c : Nat} (h : c < (permL x o).2.length) (hc : c < o.length) : (permL x o).2[c] = x.2[o[c].toNat]?.getD 0 := by simp [permL]
end Go.Rk
