/- Brackets of infinitesimal maps, both sides. -/
import Derived.Test.YtncilhecdihmeaaGreatG11
import Derived.Test.YtncilhecdihmeaaGreatG3
set_option maxRecDepth 8000
namespace Go.Rk
open Go.Fw Go.Proofs
theorem infTwo_eq (b c : List Int) : infTwo b c = if infCode [c, b] b ≠ 0 then infCode [c, b] b else infCode [c] c := by
  unfold infTwo infCode
  by_cases hb : isMap b = true <;> by_cases hc : isMap c = true <;> simp [hb, hc]
  by_cases h0 : b.getD 0 0 = 0 <;> by_cases h1 : c.getD 0 0 = 0 <;> simp_all
end Go.Rk
namespace Go.Proofs
open Go Go.Fw Go.RowKit Go.Rk
theorem l08Code_any {lb hb lx hx : Nat} {w : World} {vb vx : Value} {b x : List Int} (hB : IS lb hb w vb b) (hX : IS lx hx w vx x) :
    Does Tryz.prog 92 [vb, vx] w fun r w' => r = .int .i64 (infTwo b x) ∧ Still w w' := by
  refine Does.enter Tryz.func92 Tryz.ntmps92 rfl (by rfl) ?_
  repeat' (first|refine X.O ?_|refine X.A ?_|refine X.B ?_|refine X.C ?_|refine X.D ?_|refine X.E ?_|refine X.F ?_|refine X.G ?_|refine X.H ?_|refine X.I ?_|fail)
  refine WL.call (l07Is_any hB) ?_
  rintro _ w1 ⟨rfl, hs1⟩
  by_cases hmb : isMap b = true
  · rw [hmb]
    repeat' (first|refine X.O ?_|refine X.A ?_|refine X.B ?_|refine X.C ?_|refine X.D ?_|refine X.E ?_|refine X.F ?_|refine X.G ?_|refine X.H ?_|refine X.I ?_|fail)
    refine WL.call (l07Is_any (hX.still RI.stable hs1)) ?_
    rintro _ w2 ⟨rfl, hs2⟩
    have hs := hs1.trans hs2
    by_cases hmx : isMap x = true
    · rw [hmx]
      have hlb := isMap_38 hmb
      have hlx := isMap_38 hmx
      have hb0 : 0 < b.length := by omega
      have hx0 : 0 < x.length := by omega
      have hg0 : b.getD 0 0 = b[0] := by rw [List.getD_eq_getElem?_getD, List.getElem?_eq_getElem hb0]; rfl
      have hg1 : x.getD 0 0 = x[0] := by rw [List.getD_eq_getElem?_getD, List.getElem?_eq_getElem hx0]; rfl
      have hci : infTwo b x = if b[0] ≠ 0 ∨ x[0] ≠ 0 then 5 else 0 := by unfold infTwo; rw [if_pos ⟨hmb, hmx⟩, hg0, hg1]
      repeat' (first|refine X.O ?_|refine X.A ?_|refine X.B ?_|refine X.C ?_|refine X.D ?_|refine X.E ?_|refine X.F ?_|refine X.G ?_|refine X.H ?_|refine X.I ?_|fail)
      refine WL.ixload (j := 0) (hB.still RI.stable hs) (List.getElem?_eq_getElem hb0) ?_
      rintro p3 _ rfl
      repeat' (first|refine X.O ?_|refine X.A ?_|refine X.B ?_|refine X.C ?_|refine X.D ?_|refine X.E ?_|refine X.F ?_|refine X.G ?_|refine X.H ?_|refine X.I ?_|fail)
      by_cases hne : b[0] = 0
      · rw [hne]
        repeat' (first|refine X.O ?_|refine X.A ?_|refine X.B ?_|refine X.C ?_|refine X.D ?_|refine X.E ?_|refine X.F ?_|refine X.G ?_|refine X.H ?_|refine X.I ?_|fail)
        refine WL.ixload (j := 0) (hX.still RI.stable hs) (List.getElem?_eq_getElem hx0) ?_
        rintro p4 _ rfl
        repeat' (first|refine X.O ?_|refine X.A ?_|refine X.B ?_|refine X.C ?_|refine X.D ?_|refine X.E ?_|refine X.F ?_|refine X.G ?_|refine X.H ?_|refine X.I ?_|fail)
        first|refine X.J (fun _ => ?_) (fun _ => ?_)|refine X.L (fun _ => ?_) (fun _ => ?_)|refine X.M (fun _ => ?_) (fun _ => ?_)|refine X.R (fun _ => ?_) (fun _ => ?_)|fail
        · rename_i h1
          repeat' (first|refine X.O ?_|refine X.A ?_|refine X.B ?_|refine X.C ?_|refine X.D ?_|refine X.E ?_|refine X.F ?_|refine X.G ?_|refine X.H ?_|refine X.I ?_|fail)
          refine ⟨_, ret1 rfl (by rfl), ?_⟩
          exact ⟨congrArg (Value.int .i64) (by rw [hci, if_pos (Or.inr (by simpa using h1))]), hs⟩
        · rename_i h1
          repeat' (first|refine X.O ?_|refine X.A ?_|refine X.B ?_|refine X.C ?_|refine X.D ?_|refine X.E ?_|refine X.F ?_|refine X.G ?_|refine X.H ?_|refine X.I ?_|fail)
          refine ⟨_, ret1 rfl (by rfl), ?_⟩
          exact ⟨congrArg (Value.int .i64) (by rw [hci, if_neg (by simp only [not_or]; exact ⟨by simp [hne], by simpa using h1⟩)]), hs⟩
      · rw [decide_eq_true (show ¬ b[0] = 0 from hne)]
        repeat' (first|refine X.O ?_|refine X.A ?_|refine X.B ?_|refine X.C ?_|refine X.D ?_|refine X.E ?_|refine X.F ?_|refine X.G ?_|refine X.H ?_|refine X.I ?_|fail)
        refine ⟨_, ret1 rfl (by rfl), ?_⟩
        exact ⟨congrArg (Value.int .i64) (by rw [hci, if_pos (Or.inl hne)]), hs⟩
    · have hf : isMap x = false := by simpa using hmx
      rw [hf]
      repeat' (first|refine X.O ?_|refine X.A ?_|refine X.B ?_|refine X.C ?_|refine X.D ?_|refine X.E ?_|refine X.F ?_|refine X.G ?_|refine X.H ?_|refine X.I ?_|fail)
      refine ⟨_, ret1 rfl (by rfl), ?_⟩
      exact ⟨congrArg (Value.int .i64) (by unfold infTwo; rw [if_neg (by simp [hf])]), hs⟩
  · have hf : isMap b = false := by simpa using hmb
    rw [hf]
    repeat' (first|refine X.O ?_|refine X.A ?_|refine X.B ?_|refine X.C ?_|refine X.D ?_|refine X.E ?_|refine X.F ?_|refine X.G ?_|refine X.H ?_|refine X.I ?_|fail)
    refine ⟨_, ret1 rfl (by rfl), ?_⟩
    exact ⟨congrArg (Value.int .i64) (by unfold infTwo; rw [if_neg (by simp [hf])]), hs1⟩
theorem l08Bracket_any {lc hc lb hb lx hx : Nat} {w : World} {vc vb vx : Value} {b x : List Int} (hC : TB lc hc w vc specTab) (hB : IS lb hb w vb b) (hX : IS lx hx w vx x) (hbl : b.length = 38) (hxl : x.length = 38) (hba : allN b = true) (hxa : allN x = true) :
    Does Tryz.prog 93 [vc, vb, vx] w fun r w' => NewI w r w' (bracketL b x) := by
  have hzC := hC.hi_le
  have hzB := hB.hi_le
  have hzX := hX.hi_le
  refine Does.enter Tryz.func93 Tryz.ntmps93 rfl (by rfl) ?_
  repeat' (first|refine X.O ?_|refine X.A ?_|refine X.B ?_|refine X.C ?_|refine X.D ?_|refine X.E ?_|refine X.F ?_|refine X.G ?_|refine X.H ?_|refine X.I ?_|fail)
  refine WL.call (l08Act_any hC hB hX hbl hxl hba hxa) ?_
  intro v1 w1 hN1
  have hz1 := hN1.2.size
  repeat' (first|refine X.O ?_|refine X.A ?_|refine X.B ?_|refine X.C ?_|refine X.D ?_|refine X.E ?_|refine X.F ?_|refine X.G ?_|refine X.H ?_|refine X.I ?_|fail)
  refine WL.call (l08Act_any (hC.below RC.stable hN1.2 hzC) (hX.below RI.stable hN1.2 hzX) (hB.below RI.stable hN1.2 hzB) hxl hbl hxa hba) ?_
  intro v2 w2 hN2
  have hz2 := hN2.2.size
  repeat' (first|refine X.O ?_|refine X.A ?_|refine X.B ?_|refine X.C ?_|refine X.D ?_|refine X.E ?_|refine X.F ?_|refine X.G ?_|refine X.H ?_|refine X.I ?_|fail)
  refine WL.call (l08Add_any 10006 ((hN1.1.below hN2.2 (Nat.le_refl _)).toIS (Nat.zero_le _)) (hN2.1.toIS (Nat.zero_le _)) (by rw [actR_len, actR_len]; omega) (by rw [actR_len]; omega) (actR_all _ _) (actR_all _ _) (by kernel_rfl)) ?_
  intro v3 w3 hN3
  have hbl02 : Below w.heap.size w w2 := hN1.2.trans (Below.mono hN2.2 (by omega))
  rw [← plusL_neg] at hN3
  repeat' (first|refine X.O ?_|refine X.A ?_|refine X.B ?_|refine X.C ?_|refine X.D ?_|refine X.E ?_|refine X.F ?_|refine X.G ?_|refine X.H ?_|refine X.I ?_|fail)
  refine ⟨_, ret1 rfl (by rfl), ?_⟩
  exact hN3.trans hbl02
theorem sBracketOf_any {lb hb lx hx : Nat} {w : World} {vb vx : Value} {b x : List Int} (hB : IS lb hb w vb b) (hX : IS lx hx w vx x) :
    Does Tryz.prog 33 [vb, vx] w fun r w' => ResI w r w' (bracketOf b x) := by
  have hzB := hB.hi_le
  have hzX := hX.hi_le
  refine Does.enter Tryz.func33 Tryz.ntmps33 rfl (by rfl) ?_
  repeat' (first|refine X.O ?_|refine X.A ?_|refine X.B ?_|refine X.C ?_|refine X.D ?_|refine X.E ?_|refine X.F ?_|refine X.G ?_|refine X.H ?_|refine X.I ?_|fail)
  refine WL.call (l08Code_any hB hX) ?_
  rintro _ w1 ⟨rfl, hs⟩
  by_cases hc : infTwo b x = 0
  · obtain ⟨⟨hmb, hmx⟩, _, _⟩ := infTwo_zero hc
    have e : bracketOf b x = (bracketL b x, 0) := by unfold bracketOf; rw [if_pos hc]
    rw [hc]
    repeat' (first|refine X.O ?_|refine X.A ?_|refine X.B ?_|refine X.C ?_|refine X.D ?_|refine X.E ?_|refine X.F ?_|refine X.G ?_|refine X.H ?_|refine X.I ?_|fail)
    refine WL.call (l07Cuts_any _) ?_
    rintro v3 w3 ⟨hC, hbl3⟩
    have hbl03 : Below w.heap.size w w3 := (hs.below _).trans (Below.mono hbl3 (by have := hs.size; omega))
    repeat' (first|refine X.O ?_|refine X.A ?_|refine X.B ?_|refine X.C ?_|refine X.D ?_|refine X.E ?_|refine X.F ?_|refine X.G ?_|refine X.H ?_|refine X.I ?_|fail)
    refine WL.call (l08Bracket_any hC (hB.below RI.stable hbl03 hzB) (hX.below RI.stable hbl03 hzX) (isMap_38 hmb) (isMap_38 hmx) (isMap_all hmb) (isMap_all hmx)) ?_
    intro v4 w4 hN4
    repeat' (first|refine X.O ?_|refine X.A ?_|refine X.B ?_|refine X.C ?_|refine X.D ?_|refine X.E ?_|refine X.F ?_|refine X.G ?_|refine X.H ?_|refine X.I ?_|fail)
    refine ⟨_, ret2 rfl (by rfl) (by rfl), ?_⟩
    rw [e]
    exact ⟨v4, rfl, hN4.trans hbl03⟩
  · have e : bracketOf b x = ([], infTwo b x) := by unfold bracketOf; rw [if_neg hc]
    repeat' (first|refine X.O ?_|refine X.A ?_|refine X.B ?_|refine X.C ?_|refine X.D ?_|refine X.E ?_|refine X.F ?_|refine X.G ?_|refine X.H ?_|refine X.I ?_|fail)
    first|refine X.J (fun _ => ?_) (fun _ => ?_)|refine X.L (fun _ => ?_) (fun _ => ?_)|refine X.M (fun _ => ?_) (fun _ => ?_)|refine X.R (fun _ => ?_) (fun _ => ?_)|fail
    · repeat' (first|refine X.O ?_|refine X.A ?_|refine X.B ?_|refine X.C ?_|refine X.D ?_|refine X.E ?_|refine X.F ?_|refine X.G ?_|refine X.H ?_|refine X.I ?_|fail)
      refine ⟨_, ret2 rfl (by rfl) (by rfl), ?_⟩
      rw [e]
      exact ResI.none _ _ (hs.below _) _
    · rename_i hbad
      exact absurd (by simpa using hbad) hc
theorem checkBoth_any {lb hb lx hx : Nat} {w : World} {vb vx : Value} {b x : List Int} (hB : IS lb hb w vb b) (hX : IS lx hx w vx x) :
    Does Tryz.prog 94 [vb, vx] w fun r w' => r = .int .i64 (infTwo b x) ∧ Below w.heap.size w w' := by
  have hzB := hB.hi_le
  have hzX := hX.hi_le
  obtain ⟨ax, cx, hvx⟩ := hX.shape
  have hE := infTwo_eq b x
  refine Does.enter Tryz.func94 Tryz.ntmps94 rfl (by rfl) ?_
  repeat' (first|refine X.O ?_|refine X.A ?_|refine X.B ?_|refine X.C ?_|refine X.D ?_|refine X.E ?_|refine X.F ?_|refine X.G ?_|refine X.H ?_|refine X.I ?_|fail)
  refine WL.step (o_lit (us := [vx]) (by rfl) (by rfl) rfl (by decide) (one1 (by rw [hvx]; rfl)) ?_)
  intro v1 w1 hown1 hbl1 hz1 _
  refine WL.call (checkInf_any (xss := [x]) hown1 rfl (by simp) (fun i u xs hu hxs => by
    match i, hu, hxs with
    | 0, hu, hxs => simp at hu hxs; subst hu hxs; exact ⟨lx, hx, hzX, hX.below RI.stable hbl1 hzX⟩) (hB.below RI.stable hbl1 hzB) hzB (by omega)) ?_
  rintro _ w2 ⟨rfl, hbl2⟩
  have hbl02 : Below w.heap.size w w2 := hbl1.trans hbl2
  have hz2 := hbl02.size
  have hbr : [x] ++ [b] = [x, b] := rfl
  rw [hbr]
  by_cases hc : infCode [x, b] b = 0
  · rw [if_neg (by simpa using hc)] at hE
    rw [hc]
    repeat' (first|refine X.O ?_|refine X.A ?_|refine X.B ?_|refine X.C ?_|refine X.D ?_|refine X.E ?_|refine X.F ?_|refine X.G ?_|refine X.H ?_|refine X.I ?_|fail)
    refine WL.call (checkInf_any (us := []) (xss := []) (lo := w2.heap.size) (Own.nil _ _ _) rfl (by simp) (fun i u xs hu hxs => by simp at hu) (hX.below RI.stable hbl02 hzX) (by omega) (Nat.le_refl _)) ?_
    rintro _ w3 ⟨rfl, hbl3⟩
    repeat' (first|refine X.O ?_|refine X.A ?_|refine X.B ?_|refine X.C ?_|refine X.D ?_|refine X.E ?_|refine X.F ?_|refine X.G ?_|refine X.H ?_|refine X.I ?_|fail)
    refine ⟨_, ret1 rfl (by rfl), ?_⟩
    exact ⟨congrArg (Value.int .i64) (by rw [hE]; rfl), hbl02.trans (Below.mono hbl3 (by omega))⟩
  · rw [if_pos hc] at hE
    repeat' (first|refine X.O ?_|refine X.A ?_|refine X.B ?_|refine X.C ?_|refine X.D ?_|refine X.E ?_|refine X.F ?_|refine X.G ?_|refine X.H ?_|refine X.I ?_|fail)
    first|refine X.J (fun _ => ?_) (fun _ => ?_)|refine X.L (fun _ => ?_) (fun _ => ?_)|refine X.M (fun _ => ?_) (fun _ => ?_)|refine X.R (fun _ => ?_) (fun _ => ?_)|fail
    · repeat' (first|refine X.O ?_|refine X.A ?_|refine X.B ?_|refine X.C ?_|refine X.D ?_|refine X.E ?_|refine X.F ?_|refine X.G ?_|refine X.H ?_|refine X.I ?_|fail)
      refine ⟨_, ret1 rfl (by rfl), ?_⟩
      exact ⟨congrArg (Value.int .i64) hE.symm, hbl02⟩
    · rename_i hbad
      exact absurd (by simpa using hbad) hc
theorem bracket_any {lo hi lb hb lx hx : Nat} {w : World} {vf vb vx : Value} {b x : List Int} (hF : FormsI lo hi w vf) (hB : IS lb hb w vb b) (hX : IS lx hx w vx x) (hbl : b.length = 38) (hxl : x.length = 38) (hba : allN b = true) (hxa : allN x = true) :
    Does Tryz.prog 95 [vf, vb, vx] w fun r w' => NewI w r w' (bracketL b x) := by
  have hF0 := hF
  obtain ⟨vt, vt2, rfl, _, _⟩ := hF0
  have hzF := hF.hi_le
  have hzB := hB.hi_le
  have hzX := hX.hi_le
  refine Does.enter Tryz.func95 Tryz.ntmps95 rfl (by rfl) ?_
  repeat' (first|refine X.O ?_|refine X.A ?_|refine X.B ?_|refine X.C ?_|refine X.D ?_|refine X.E ?_|refine X.F ?_|refine X.G ?_|refine X.H ?_|refine X.I ?_|fail)
  refine WL.step (o_box (by rfl) ?_)
  intro w1 hb1 hbl1 hz1
  have hb1' : Blk w1 w.heap.size [vt, vt2] _ := hb1
  repeat' (first|refine X.O ?_|refine X.A ?_|refine X.B ?_|refine X.C ?_|refine X.D ?_|refine X.E ?_|refine X.F ?_|refine X.G ?_|refine X.H ?_|refine X.I ?_|fail)
  refine WP.drawn (fun w' => Below w1.heap.size w1 w') [(0, true), (1, true), (2, true), (4, true), (5, true), (6, true), (3, false), (7, false), (8, false), (9, true)] (by kernel_rfl) mixed ?_
  intro w2 hs2
  have hz2 := hs2.size
  have hS2 : Below w1.heap.size w1 w2 := hs2.below _
  refine WS.q rfl (q_loadS (by rfl) (fun w' h => hb1'.below h (by omega)) (by rfl)) hS2 ?_
  repeat' (first|refine X.U rfl ?_|refine X.V rfl ?_|refine X.W rfl ?_|refine X.Y rfl ?_|refine X.Z rfl ?_|refine WS.nil ?_|fail)
  refine WS.q rfl (q_loadS (by rfl) (fun w' h => hb1'.below h (by omega)) (by rfl)) hS2 ?_
  repeat' (first|refine X.U rfl ?_|refine X.V rfl ?_|refine X.W rfl ?_|refine X.Y rfl ?_|refine X.Z rfl ?_|refine WS.nil ?_|fail)
  have hbl02 : Below w.heap.size w w2 := hbl1.trans (Below.mono hS2 (by omega))
  refine WS.call rfl (actOnL_any (hF.below hbl02 hzF) (hB.below RI.stable hbl02 hzB) (hX.below RI.stable hbl02 hzX) hbl hxl hba hxa) ?_
  intro v3 w3 hN3
  have hz3 := hN3.2.size
  have hS3 := hS2.trans (Below.mono hN3.2 (by omega))
  refine ⟨hS3, ?_⟩
  have hbl03 : Below w.heap.size w w3 := hbl02.trans (Below.mono hN3.2 (by omega))
  refine WS.call rfl (actOnL_any (hF.below hbl03 hzF) (hX.below RI.stable hbl03 hzX) (hB.below RI.stable hbl03 hzB) hxl hbl hxa hba) ?_
  intro v4 w4 hN4
  have hz4 := hN4.2.size
  have hS4 := hS3.trans (Below.mono hN4.2 (by omega))
  refine ⟨hS4, ?_⟩
  have hbl04 : Below w.heap.size w w4 := hbl03.trans (Below.mono hN4.2 (by omega))
  refine WS.call rfl (plus_any (-1) ((hN3.1.below hN4.2 (Nat.le_refl _)).toIS (Nat.zero_le _)) (hN4.1.toIS (Nat.zero_le _)) (by rw [actR_len, actR_len]; omega) (by rw [actR_len]; omega) (actR_all _ _) (actR_all _ _)) ?_
  intro v5 w5 hN5
  have hS5 := hS4.trans (Below.mono hN5.2 (by omega))
  refine ⟨hS5, ?_⟩
  repeat' (first|refine X.U rfl ?_|refine X.V rfl ?_|refine X.W rfl ?_|refine X.Y rfl ?_|refine X.Z rfl ?_|refine WS.nil ?_|fail)
  repeat' (first|refine X.O ?_|refine X.A ?_|refine X.B ?_|refine X.C ?_|refine X.D ?_|refine X.E ?_|refine X.F ?_|refine X.G ?_|refine X.H ?_|refine X.I ?_|fail)
  refine ⟨_, ret1 rfl (by rfl), ?_⟩
  exact hN5.trans hbl04
theorem BracketOf_any {lb hb lx hx : Nat} {w : World} {vb vx : Value} {b x : List Int} (hB : IS lb hb w vb b) (hX : IS lx hx w vx x) :
    Does Tryz.prog 34 [vb, vx] w fun r w' => ResI w r w' (bracketOf b x) := by
  have hzB := hB.hi_le
  have hzX := hX.hi_le
  refine Does.enter Tryz.func34 Tryz.ntmps34 rfl (by rfl) ?_
  repeat' (first|refine X.O ?_|refine X.A ?_|refine X.B ?_|refine X.C ?_|refine X.D ?_|refine X.E ?_|refine X.F ?_|refine X.G ?_|refine X.H ?_|refine X.I ?_|fail)
  refine WL.call (checkBoth_any hB hX) ?_
  rintro _ w1 ⟨rfl, hbl1⟩
  have hz1 := hbl1.size
  by_cases hc : infTwo b x = 0
  · obtain ⟨⟨hmb, hmx⟩, _, _⟩ := infTwo_zero hc
    have e : bracketOf b x = (bracketL b x, 0) := by unfold bracketOf; rw [if_pos hc]
    rw [hc]
    repeat' (first|refine X.O ?_|refine X.A ?_|refine X.B ?_|refine X.C ?_|refine X.D ?_|refine X.E ?_|refine X.F ?_|refine X.G ?_|refine X.H ?_|refine X.I ?_|fail)
    refine WL.call (newForms_any _) ?_
    rintro v3 w3 ⟨hF, hbl3⟩
    have hbl03 : Below w.heap.size w w3 := hbl1.trans (Below.mono hbl3 (by omega))
    repeat' (first|refine X.O ?_|refine X.A ?_|refine X.B ?_|refine X.C ?_|refine X.D ?_|refine X.E ?_|refine X.F ?_|refine X.G ?_|refine X.H ?_|refine X.I ?_|fail)
    refine WL.call (bracket_any hF (hB.below RI.stable hbl03 hzB) (hX.below RI.stable hbl03 hzX) (isMap_38 hmb) (isMap_38 hmx) (isMap_all hmb) (isMap_all hmx)) ?_
    intro v4 w4 hN4
    repeat' (first|refine X.O ?_|refine X.A ?_|refine X.B ?_|refine X.C ?_|refine X.D ?_|refine X.E ?_|refine X.F ?_|refine X.G ?_|refine X.H ?_|refine X.I ?_|fail)
    refine ⟨_, ret2 rfl (by rfl) (by rfl), ?_⟩
    rw [e]
    exact ⟨v4, rfl, hN4.trans hbl03⟩
  · have e : bracketOf b x = ([], infTwo b x) := by unfold bracketOf; rw [if_neg hc]
    repeat' (first|refine X.O ?_|refine X.A ?_|refine X.B ?_|refine X.C ?_|refine X.D ?_|refine X.E ?_|refine X.F ?_|refine X.G ?_|refine X.H ?_|refine X.I ?_|fail)
    first|refine X.J (fun _ => ?_) (fun _ => ?_)|refine X.L (fun _ => ?_) (fun _ => ?_)|refine X.M (fun _ => ?_) (fun _ => ?_)|refine X.R (fun _ => ?_) (fun _ => ?_)|fail
    · repeat' (first|refine X.O ?_|refine X.A ?_|refine X.B ?_|refine X.C ?_|refine X.D ?_|refine X.E ?_|refine X.F ?_|refine X.G ?_|refine X.H ?_|refine X.I ?_|fail)
      refine ⟨_, ret2 rfl (by rfl) (by rfl), ?_⟩
      rw [e]
      exact ResI.none _ _ hbl1 _
    · rename_i hbad
      exact absurd (by simpa using hbad) hc
end Go.Proofs
