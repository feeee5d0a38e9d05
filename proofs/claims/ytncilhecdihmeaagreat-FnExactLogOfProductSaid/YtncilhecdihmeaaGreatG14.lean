/- Flows of infinitesimal maps, both sides. -/
import Derived.Test.YtncilhecdihmeaaGreatG13
set_option maxRecDepth 8000
namespace Go.Proofs
open Go Go.Fw Go.RowKit Go.Rk
theorem l08Flow_any {lc hc lb hb : Nat} {w : World} {vc vb : Value} {b : List Int} (s : Int) (hC : TB lc hc w vc specTab) (hB : IS lb hb w vb b) (hbl : b.length = 38) (hba : allN b = true) (hs : isN s = true) :
    Does Tryz.prog 99 [vc, vb, .int .i64 s] w fun r w' => NewI w r w' (expL (scaledL b s)) := by
  have hzC := hC.hi_le
  have hzB := hB.hi_le
  refine Does.enter Tryz.func99 Tryz.ntmps99 rfl (by rfl) ?_
  repeat' (first|refine X.O ?_|refine X.A ?_|refine X.B ?_|refine X.C ?_|refine X.D ?_|refine X.E ?_|refine X.F ?_|refine X.G ?_|refine X.H ?_|refine X.I ?_|fail)
  refine WL.step (o_make (n := 38) (by rfl) (by rfl) (by omega) (by unfold maxLen; omega) ?_)
  intro v1 w1 hown1 hbl1 hz1
  have hown1' : Own w.heap.size 2 w1 v1 (Ints zerosM) := by
    have e : Ints zerosM = List.replicate 38 (.int .i64 0) := by unfold zerosM Ints; rw [List.map_replicate]
    rw [e]; exact hown1
  repeat' (first|refine X.O ?_|refine X.A ?_|refine X.B ?_|refine X.C ?_|refine X.D ?_|refine X.E ?_|refine X.F ?_|refine X.G ?_|refine X.H ?_|refine X.I ?_|fail)
  refine WL.call (l08Add_any s (hown1'.toIS (Nat.zero_le _)) (hB.below RI.stable hbl1 hzB) (by rw [zerosM_len]; omega) (by rw [zerosM_len]; omega) (zeros_all 38) hba hs) ?_
  intro v2 w2 hN2
  rw [plus_zeros s hbl] at hN2
  have hz2 := hN2.2.size
  have hbl02 : Below w.heap.size w w2 := hbl1.trans (Below.mono hN2.2 (by omega))
  refine WL.call (l08Exp_any (hC.below RC.stable hbl02 hzC) (hN2.1.toIS (Nat.zero_le _)) (scaledL_38 hbl) (scaledL_allN _ _)) ?_
  intro v3 w3 hN3
  repeat' (first|refine X.O ?_|refine X.A ?_|refine X.B ?_|refine X.C ?_|refine X.D ?_|refine X.E ?_|refine X.F ?_|refine X.G ?_|refine X.H ?_|refine X.I ?_|fail)
  refine ⟨_, ret1 rfl (by rfl), ?_⟩
  exact hN3.trans hbl02
theorem sFlowMap_any {lb hb : Nat} {w : World} {vb : Value} {b : List Int} (hB : IS lb hb w vb b) (s : Int) :
    Does Tryz.prog 37 [vb, .int .i64 s] w fun r w' => ResI w r w' (flowMap b s) := by
  have hzB := hB.hi_le
  refine Does.enter Tryz.func37 Tryz.ntmps37 rfl (by rfl) ?_
  repeat' (first|refine X.O ?_|refine X.A ?_|refine X.B ?_|refine X.C ?_|refine X.D ?_|refine X.E ?_|refine X.F ?_|refine X.G ?_|refine X.H ?_|refine X.I ?_|fail)
  refine WL.call (l07Is_any hB) ?_
  rintro _ w1 ⟨rfl, hs1⟩
  by_cases hmb : isMap b = true
  · rw [hmb]
    repeat' (first|refine X.O ?_|refine X.A ?_|refine X.B ?_|refine X.C ?_|refine X.D ?_|refine X.E ?_|refine X.F ?_|refine X.G ?_|refine X.H ?_|refine X.I ?_|fail)
    refine WL.call (l01In_any s 0 10006 _) ?_
    rintro _ w2 ⟨rfl, hs2⟩
    have hs := hs1.trans hs2
    by_cases hr : 0 ≤ s ∧ s ≤ 10006
    · rw [decide_eq_true hr]
      have hsn : isN s = true := by simp [isN]; exact hr
      have hlb := isMap_38 hmb
      have hb0 : 0 < b.length := by omega
      have hg0 : b.getD 0 0 = b[0] := by rw [List.getD_eq_getElem?_getD, List.getElem?_eq_getElem hb0]; rfl
      have hf : flowMap b s = if b[0] ≠ 0 then ([], 5) else (expL (scaledL b s), 0) := by unfold flowMap; rw [if_pos hmb, if_pos hsn, hg0]
      repeat' (first|refine X.O ?_|refine X.A ?_|refine X.B ?_|refine X.C ?_|refine X.D ?_|refine X.E ?_|refine X.F ?_|refine X.G ?_|refine X.H ?_|refine X.I ?_|fail)
      refine WL.ixload (j := 0) (hB.still RI.stable hs) (List.getElem?_eq_getElem hb0) ?_
      rintro p3 _ rfl
      repeat' (first|refine X.O ?_|refine X.A ?_|refine X.B ?_|refine X.C ?_|refine X.D ?_|refine X.E ?_|refine X.F ?_|refine X.G ?_|refine X.H ?_|refine X.I ?_|fail)
      first|refine X.J (fun _ => ?_) (fun _ => ?_)|refine X.L (fun _ => ?_) (fun _ => ?_)|refine X.M (fun _ => ?_) (fun _ => ?_)|refine X.R (fun _ => ?_) (fun _ => ?_)|fail
      · rename_i hne
        repeat' (first|refine X.O ?_|refine X.A ?_|refine X.B ?_|refine X.C ?_|refine X.D ?_|refine X.E ?_|refine X.F ?_|refine X.G ?_|refine X.H ?_|refine X.I ?_|fail)
        refine ⟨_, ret2 rfl (by rfl) (by rfl), ?_⟩
        rw [hf, if_pos (by simpa using hne)]
        exact ResI.none _ _ (hs.below _) _
      · rename_i hne
        repeat' (first|refine X.O ?_|refine X.A ?_|refine X.B ?_|refine X.C ?_|refine X.D ?_|refine X.E ?_|refine X.F ?_|refine X.G ?_|refine X.H ?_|refine X.I ?_|fail)
        refine WL.call (l07Cuts_any _) ?_
        rintro v3 w3 ⟨hC, hbl3⟩
        have hbl03 : Below w.heap.size w w3 := (hs.below _).trans (Below.mono hbl3 (by have := hs.size; omega))
        repeat' (first|refine X.O ?_|refine X.A ?_|refine X.B ?_|refine X.C ?_|refine X.D ?_|refine X.E ?_|refine X.F ?_|refine X.G ?_|refine X.H ?_|refine X.I ?_|fail)
        refine WL.call (l08Flow_any s hC (hB.below RI.stable hbl03 hzB) hlb (isMap_all hmb) hsn) ?_
        intro v4 w4 hN4
        repeat' (first|refine X.O ?_|refine X.A ?_|refine X.B ?_|refine X.C ?_|refine X.D ?_|refine X.E ?_|refine X.F ?_|refine X.G ?_|refine X.H ?_|refine X.I ?_|fail)
        refine ⟨_, ret2 rfl (by rfl) (by rfl), ?_⟩
        rw [hf, if_neg (by simpa using hne)]
        exact ⟨v4, rfl, hN4.trans hbl03⟩
    · rw [decide_eq_false hr]
      have hsn : ¬ isN s = true := by simp [isN]; omega
      repeat' (first|refine X.O ?_|refine X.A ?_|refine X.B ?_|refine X.C ?_|refine X.D ?_|refine X.E ?_|refine X.F ?_|refine X.G ?_|refine X.H ?_|refine X.I ?_|fail)
      refine ⟨_, ret2 rfl (by rfl) (by rfl), ?_⟩
      have e : flowMap b s = ([], 2) := by unfold flowMap; rw [if_pos hmb, if_neg hsn]
      rw [e]
      exact ResI.none _ _ (hs.below _) _
  · have hf : isMap b = false := by simpa using hmb
    have e : flowMap b s = ([], 1) := by unfold flowMap; rw [if_neg hmb]
    rw [hf]
    repeat' (first|refine X.O ?_|refine X.A ?_|refine X.B ?_|refine X.C ?_|refine X.D ?_|refine X.E ?_|refine X.F ?_|refine X.G ?_|refine X.H ?_|refine X.I ?_|fail)
    refine ⟨_, ret2 rfl (by rfl) (by rfl), ?_⟩
    rw [e]
    exact ResI.none _ _ (hs1.below _) _
theorem FlowMap_any {lb hb : Nat} {w : World} {vb : Value} {b : List Int} (hB : IS lb hb w vb b) (s : Int) :
    Does Tryz.prog 38 [vb, .int .i64 s] w fun r w' => ResI w r w' (flowMap b s) := by
  have hzB := hB.hi_le
  refine Does.enter Tryz.func38 Tryz.ntmps38 rfl (by rfl) ?_
  repeat' (first|refine X.O ?_|refine X.A ?_|refine X.B ?_|refine X.C ?_|refine X.D ?_|refine X.E ?_|refine X.F ?_|refine X.G ?_|refine X.H ?_|refine X.I ?_|fail)
  refine WL.call (IsMap_any hB) ?_
  rintro _ w1 ⟨rfl, hs1⟩
  by_cases hmb : isMap b = true
  · rw [hmb]
    repeat' (first|refine X.O ?_|refine X.A ?_|refine X.B ?_|refine X.C ?_|refine X.D ?_|refine X.E ?_|refine X.F ?_|refine X.G ?_|refine X.H ?_|refine X.I ?_|fail)
    refine WL.call (IsNumber_any s _) ?_
    rintro _ w2 ⟨rfl, hs2⟩
    have hs := hs1.trans hs2
    by_cases hr : isN s = true
    · rw [hr]
      have hlb := isMap_38 hmb
      have hb0 : 0 < b.length := by omega
      have hg0 : b.getD 0 0 = b[0] := by rw [List.getD_eq_getElem?_getD, List.getElem?_eq_getElem hb0]; rfl
      have hf : flowMap b s = if b[0] ≠ 0 then ([], 5) else (expL (scaledL b s), 0) := by unfold flowMap; rw [if_pos hmb, if_pos hr, hg0]
      repeat' (first|refine X.O ?_|refine X.A ?_|refine X.B ?_|refine X.C ?_|refine X.D ?_|refine X.E ?_|refine X.F ?_|refine X.G ?_|refine X.H ?_|refine X.I ?_|fail)
      refine WL.ixload (j := 0) (hB.still RI.stable hs) (List.getElem?_eq_getElem hb0) ?_
      rintro p3 _ rfl
      repeat' (first|refine X.O ?_|refine X.A ?_|refine X.B ?_|refine X.C ?_|refine X.D ?_|refine X.E ?_|refine X.F ?_|refine X.G ?_|refine X.H ?_|refine X.I ?_|fail)
      first|refine X.J (fun _ => ?_) (fun _ => ?_)|refine X.L (fun _ => ?_) (fun _ => ?_)|refine X.M (fun _ => ?_) (fun _ => ?_)|refine X.R (fun _ => ?_) (fun _ => ?_)|fail
      · rename_i hne
        repeat' (first|refine X.O ?_|refine X.A ?_|refine X.B ?_|refine X.C ?_|refine X.D ?_|refine X.E ?_|refine X.F ?_|refine X.G ?_|refine X.H ?_|refine X.I ?_|fail)
        refine ⟨_, ret2 rfl (by rfl) (by rfl), ?_⟩
        rw [hf, if_pos (by simpa using hne)]
        exact ResI.none _ _ (hs.below _) _
      · rename_i hne
        repeat' (first|refine X.O ?_|refine X.A ?_|refine X.B ?_|refine X.C ?_|refine X.D ?_|refine X.E ?_|refine X.F ?_|refine X.G ?_|refine X.H ?_|refine X.I ?_|fail)
        refine WL.call (newForms_any _) ?_
        rintro v3 w3 ⟨hF, hbl3⟩
        have hz3 := hbl3.size
        have hbl03 : Below w.heap.size w w3 := (hs.below _).trans (Below.mono hbl3 (by have := hs.size; omega))
        repeat' (first|refine X.O ?_|refine X.A ?_|refine X.B ?_|refine X.C ?_|refine X.D ?_|refine X.E ?_|refine X.F ?_|refine X.G ?_|refine X.H ?_|refine X.I ?_|fail)
        refine WL.call (scaled_any s (hB.below RI.stable hbl03 hzB) (by omega) (isMap_all hmb)) ?_
        intro v4 w4 hN4
        have hz4 := hN4.2.size
        have hz03 := hbl03.size
        refine WL.call (expMapL_any (hF.below hN4.2 (Nat.le_refl _)) (hN4.1.toIS (Nat.zero_le _)) (scaledL_38 hlb) (scaledL_allN _ _)) ?_
        intro v5 w5 hN5
        repeat' (first|refine X.O ?_|refine X.A ?_|refine X.B ?_|refine X.C ?_|refine X.D ?_|refine X.E ?_|refine X.F ?_|refine X.G ?_|refine X.H ?_|refine X.I ?_|fail)
        refine ⟨_, ret2 rfl (by rfl) (by rfl), ?_⟩
        rw [hf, if_neg (by simpa using hne)]
        exact ⟨v5, rfl, hN5.trans (hbl03.trans (Below.mono hN4.2 (by omega)))⟩
    · have hf : isN s = false := by simpa using hr
      have e : flowMap b s = ([], 2) := by unfold flowMap; rw [if_pos hmb, if_neg hr]
      rw [hf]
      repeat' (first|refine X.O ?_|refine X.A ?_|refine X.B ?_|refine X.C ?_|refine X.D ?_|refine X.E ?_|refine X.F ?_|refine X.G ?_|refine X.H ?_|refine X.I ?_|fail)
      refine ⟨_, ret2 rfl (by rfl) (by rfl), ?_⟩
      rw [e]
      exact ResI.none _ _ (hs.below _) _
  · have hf : isMap b = false := by simpa using hmb
    have e : flowMap b s = ([], 1) := by unfold flowMap; rw [if_neg hmb]
    rw [hf]
    repeat' (first|refine X.O ?_|refine X.A ?_|refine X.B ?_|refine X.C ?_|refine X.D ?_|refine X.E ?_|refine X.F ?_|refine X.G ?_|refine X.H ?_|refine X.I ?_|fail)
    refine ⟨_, ret2 rfl (by rfl) (by rfl), ?_⟩
    rw [e]
    exact ResI.none _ _ (hs1.below _) _
end Go.Proofs
