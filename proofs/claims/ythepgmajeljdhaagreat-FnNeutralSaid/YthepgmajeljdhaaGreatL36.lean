/- The law of compositions with inverses, walked. -/
import Derived.Test.YthepgmajeljdhaaGreatM9
import Derived.Test.YthepgmajeljdhaaGreatW4
import Derived.Test.YthepgmajeljdhaaGreatA4
import Derived.Test.YthepgmajeljdhaaGreatA11
import Derived.Test.YthepgmajeljdhaaGreatA49
import Derived.Test.YthepgmajeljdhaaGreatA34
import Derived.Test.YthepgmajeljdhaaGreatT2
import Derived.Test.YthepgmajeljdhaaGreatD4
import Derived.Test.YthepgmajeljdhaaGreatD8
set_option maxRecDepth 8000
namespace Go.Proofs
open Go Go.Fw Go.RowKit Go.Rk
theorem DrawInverseTableau_any {lo hi : Nat} {w : World} {v : Value} {bs : List Int} (h : IU lo hi w v bs) (hn : bs.length ≤ 4096) :
    Does Tryz.prog 24 [v] w fun r w' => (∃ x, Sm x ∧ IT (w.heap.size + 1) w'.heap.size w' r x) ∧ Chg 0 0 w w' := by
  refine Does.enter Tryz.func24 Tryz.ntmps24 rfl (by rfl) ?_
  repeat' (first|refine X.O ?_|refine X.A ?_|refine X.B ?_|refine X.C ?_|refine X.D ?_|refine X.E ?_|refine X.F ?_|refine X.G ?_|refine X.H ?_|refine X.I ?_|fail)
  refine WL.step (o_alloc ?_)
  intro w1 hb1 hbl1 hz1
  repeat' (first|refine X.O ?_|refine X.A ?_|refine X.B ?_|refine X.C ?_|refine X.D ?_|refine X.E ?_|refine X.F ?_|refine X.G ?_|refine X.H ?_|refine X.I ?_|fail)
  refine WL.call (l01From_any (h.below RU.stable hbl1 h.hi_le) hn) ?_
  rintro _ w2 ⟨rfl, hs2, hc2⟩
  have hz2 := hs2.lt
  refine WL.call (l09Spoil_any hs2 8 (by omega) (by omega)) ?_
  rintro v3 w3 ⟨⟨x, hsm, hT⟩, hd3⟩
  have hz3 := hd3.chg.size
  have hc3 : Chg 0 0 w w3 := Chg.of_below ⟨by rw [hd3.chg.os, hc2.os, hbl1.os], by rw [hd3.chg.tape, hc2.tape, hbl1.tape], by rw [hd3.chg.output, hc2.output, hbl1.output], by omega, fun k hk => by rw [hd3.chg.block k (by omega) (by omega), hc2.block k (by omega) (by omega), hbl1.block k hk]⟩
  have hb3 : Blk w3 w.heap.size _ _ := (hb1.chg0 hc2).chg hd3.chg (by omega)
  obtain ⟨a, n, c, a', n', c', rfl⟩ := hT.cells
  refine WL.step (o_storeS (vs := [.slice a n c, .slice a' n' c']) (by rfl) (by rfl) hb3 (by rfl) (by rfl) two_cells ?_)
  intro w4 hb4 hbut4
  have hz4 := hbut4.size
  repeat' (first|refine X.O ?_|refine X.A ?_|refine X.B ?_|refine X.C ?_|refine X.D ?_|refine X.E ?_|refine X.F ?_|refine X.G ?_|refine X.H ?_|refine X.I ?_|fail)
  refine ⟨_, retS rfl (by rfl) hb4 (by rfl), ⟨x, hsm, ?_⟩, ?_⟩
  · exact (hT.chg hbut4.chg (by omega)).wide (by omega) (by omega) (Nat.le_refl _)
  · exact Chg.of_below ((hc3.below (Nat.le_refl _) (Or.inr (Nat.le_refl _))).trans (hbut4.below (Nat.le_refl _)))
set_option maxHeartbeats 4000000 in
theorem FnNeutral_any {w : World} {lo hi : Nat} {v : Value} {bs : List Int} (h : IU lo hi w v bs) : Does Tryz.prog 5 [v] w fun r w' => r = .bool true ∧ Below w.heap.size w w' := by
  have hhl := h.hi_le
  refine Does.enter Tryz.func5 Tryz.ntmps5 rfl (by rfl) ?_
  repeat' (first|refine X.O ?_|refine X.A ?_|refine X.B ?_|refine X.C ?_|refine X.D ?_|refine X.E ?_|refine X.F ?_|refine X.G ?_|refine X.H ?_|refine X.I ?_|fail)
  refine WL.call (big_any h) ?_
  rintro _ w0 ⟨rfl, hs0⟩
  repeat' (first|refine X.O ?_|refine X.A ?_|refine X.B ?_|refine X.C ?_|refine X.D ?_|refine X.E ?_|refine X.F ?_|refine X.G ?_|refine X.H ?_|refine X.I ?_|fail)
  first|refine X.J (fun _ => ?_) (fun _ => ?_)|refine X.L (fun _ => ?_) (fun _ => ?_)|refine X.M (fun _ => ?_) (fun _ => ?_)|refine X.R (fun _ => ?_) (fun _ => ?_)|fail
  · repeat' (first|refine X.O ?_|refine X.A ?_|refine X.B ?_|refine X.C ?_|refine X.D ?_|refine X.E ?_|refine X.F ?_|refine X.G ?_|refine X.H ?_|refine X.I ?_|fail)
    refine ⟨_, ret1 rfl (by rfl), ?_⟩
    exact ⟨rfl, hs0.below _⟩
  rename_i hbig
  have hT : HaveT w w0 [] := ⟨hs0.below _, fun p hp => by simp at hp⟩
  repeat' (first|refine X.O ?_|refine X.A ?_|refine X.B ?_|refine X.C ?_|refine X.D ?_|refine X.E ?_|refine X.F ?_|refine X.G ?_|refine X.H ?_|refine X.I ?_|fail)
  refine WL.call (DrawInverseTableau_any (h.still RU.stable hs0) (by omega)) ?_
  rintro v1 w1 ⟨⟨x, _, hX⟩, hcX⟩
  replace hT := hT.chg hcX
  have rX : RT w1 v1 x := ⟨_, _, hX⟩
  obtain ⟨xa, xb, rfl, hxc⟩ := rX.cells
  refine WL.var (vs := [xa, xb]) (fun _ => by rfl) (by rfl) hxc ?_
  intro w2 hb2 hbl2 hz2
  replace hT := hT.add 0 rX hb2 hbl2
  repeat' (first|refine X.O ?_|refine X.A ?_|refine X.B ?_|refine X.C ?_|refine X.D ?_|refine X.E ?_|refine X.F ?_|refine X.G ?_|refine X.H ?_|refine X.I ?_|fail)
  refine WL.step (o_loadS (by rfl) (hT.blk 0 rfl) (by rfl) ?_)
  obtain ⟨_, _, iX⟩ := hT.tab 0 rfl
  refine WL.call (InverseTableau_any iX) ?_
  intro r3 w3 h3
  obtain ⟨ya, yb, rfl, rY, hyc, hc3⟩ := ResT.rt h3
  clear h3
  replace hT := hT.chg hc3
  repeat' (first|refine X.O ?_|refine X.A ?_|refine X.B ?_|refine X.C ?_|refine X.D ?_|refine X.E ?_|refine X.F ?_|refine X.G ?_|refine X.H ?_|refine X.I ?_|fail)
  refine WL.var (vs := [ya, yb]) (fun _ => by rfl) (by rfl) hyc ?_
  intro w4 hb4 hbl4 hz4
  replace hT := hT.add 1 rY hb4 hbl4
  repeat' (first|refine X.O ?_|refine X.A ?_|refine X.B ?_|refine X.C ?_|refine X.D ?_|refine X.E ?_|refine X.F ?_|refine X.G ?_|refine X.H ?_|refine X.I ?_|fail)
  refine WL.step (o_loadS (by rfl) (hT.blk 0 rfl) (by rfl) ?_)
  obtain ⟨_, _, iX⟩ := hT.tab 0 rfl
  refine WL.call (sInverseTableau_any iX) ?_
  intro r5 w5 h5
  obtain ⟨za, zb, rfl, rZ, hzc, hc5⟩ := ResT.rt h5
  clear h5
  replace hT := hT.chg hc5
  repeat' (first|refine X.O ?_|refine X.A ?_|refine X.B ?_|refine X.C ?_|refine X.D ?_|refine X.E ?_|refine X.F ?_|refine X.G ?_|refine X.H ?_|refine X.I ?_|fail)
  refine WL.var (vs := [za, zb]) (fun _ => by rfl) (by rfl) hzc ?_
  intro w6 hb6 hbl6 hz6
  replace hT := hT.add 2 rZ hb6 hbl6
  obtain ⟨code, hcode⟩ : ∃ code, (inverseTableau x).2 = code := ⟨_, rfl⟩
  rw [hcode]
  repeat' (first|refine X.O ?_|refine X.A ?_|refine X.B ?_|refine X.C ?_|refine X.D ?_|refine X.E ?_|refine X.F ?_|refine X.G ?_|refine X.H ?_|refine X.I ?_|fail)
  try (refine WL.gsplitD (by rfl) (by rfl) (by rfl) (fun hbad => False.elim (by first | exact hbad rfl | omega)) (fun _ => ?_))
  repeat' (first|refine X.O ?_|refine X.A ?_|refine X.B ?_|refine X.C ?_|refine X.D ?_|refine X.E ?_|refine X.F ?_|refine X.G ?_|refine X.H ?_|refine X.I ?_|fail)
  refine WL.step (o_loadS (by rfl) (hT.blk 1 rfl) (by rfl) ?_)
  refine WL.step (o_loadS (by rfl) (hT.blk 2 rfl) (by rfl) ?_)
  refine WL.call (likeTableau5_rd (hT.tab 1 rfl) (hT.tab 2 rfl) rfl) ?_
  rintro _ w7 ⟨rfl, hbl7⟩
  replace hT := hT.next hbl7
  repeat' (first|refine X.O ?_|refine X.A ?_|refine X.B ?_|refine X.C ?_|refine X.D ?_|refine X.E ?_|refine X.F ?_|refine X.G ?_|refine X.H ?_|refine X.I ?_|fail)
  try (refine WP.condD (by rfl) (fun hbad => False.elim (by first | exact hbad rfl | omega)) (fun _ => ?_))
  repeat' (first|refine X.O ?_|refine X.A ?_|refine X.B ?_|refine X.C ?_|refine X.D ?_|refine X.E ?_|refine X.F ?_|refine X.G ?_|refine X.H ?_|refine X.I ?_|fail)
  by_cases hx : isTab x = true
  case neg =>
    have e : inverseTableau x = (([], []), 1) := by unfold inverseTableau; rw [if_neg hx]
    rw [e] at hcode
    subst hcode
    repeat' (first|refine X.O ?_|refine X.A ?_|refine X.B ?_|refine X.C ?_|refine X.D ?_|refine X.E ?_|refine X.F ?_|refine X.G ?_|refine X.H ?_|refine X.I ?_|fail)
    refine ⟨_, ret1 rfl (by rfl), ?_⟩
    exact ⟨rfl, hT.bel⟩
  have tX := isTab_iff hx
  have e : inverseTableau x = (inverseL x, 0) := by unfold inverseTableau; rw [if_pos hx]
  rw [e] at hcode hT
  subst hcode
  obtain ⟨_, _, iB, _⟩ := (hT.tab 0 rfl).last
  obtain ⟨ab, cb, hvb⟩ := iB.shape
  subst hvb
  repeat' (first|refine X.O ?_|refine X.A ?_|refine X.B ?_|refine X.C ?_|refine X.D ?_|refine X.E ?_|refine X.F ?_|refine X.G ?_|refine X.H ?_|refine X.I ?_|fail)
  refine WL.fld (hT.blk 0 rfl) ?_
  intro p8
  repeat' (first|refine X.O ?_|refine X.A ?_|refine X.B ?_|refine X.C ?_|refine X.D ?_|refine X.E ?_|refine X.F ?_|refine X.G ?_|refine X.H ?_|refine X.I ?_|fail)
  first|refine X.J (fun _ => ?_) (fun _ => ?_)|refine X.L (fun _ => ?_) (fun _ => ?_)|refine X.M (fun _ => ?_) (fun _ => ?_)|refine X.R (fun _ => ?_) (fun _ => ?_)|fail
  · repeat' (first|refine X.O ?_|refine X.A ?_|refine X.B ?_|refine X.C ?_|refine X.D ?_|refine X.E ?_|refine X.F ?_|refine X.G ?_|refine X.H ?_|refine X.I ?_|fail)
    refine ⟨_, ret1 rfl (by rfl), ?_⟩
    exact ⟨rfl, hT.bel⟩
  rename_i h4'
  have h4 : x.2.length ≤ 4 := by omega
  have tY := inverse_tab tX
  have lY : (inverseL x).2.length = x.2.length := by unfold inverseL; rw [scaledL_length]
  have eL : composeTableaus x (inverseL x) = (composeL x (inverseL x), 0) := by
    unfold composeTableaus; rw [if_pos ⟨isTab_of tX, isTab_of tY⟩, if_neg (by omega)]
  have eR : composeTableaus (inverseL x) x = (composeL (inverseL x) x, 0) := by
    unfold composeTableaus; rw [if_pos ⟨isTab_of tY, isTab_of tX⟩, if_neg (by omega)]
  have rL : reduceTableau (composeL x (inverseL x)) = (neutralTableau, 0) := by
    unfold reduceTableau; rw [if_pos (isTab_of (compose_tab tX tY (by omega))), compose_left tX h4]
  have rR : reduceTableau (composeL (inverseL x) x) = (neutralTableau, 0) := by
    unfold reduceTableau; rw [if_pos (isTab_of (compose_tab tY tX (by omega))), compose_right tX h4]
  have eC : characterOf neutralTableau = (unitM38, 0) := by
    unfold characterOf; rw [if_pos (isTab_of neutral_tab), neutral_character]; rfl
  obtain ⟨Y, hY⟩ : ∃ Y, inverseL x = Y := ⟨_, rfl⟩
  rw [hY] at hT eL eR rL rR
  obtain ⟨CL, hCL⟩ : ∃ C, composeL x Y = C := ⟨_, rfl⟩
  obtain ⟨CR, hCR⟩ : ∃ C, composeL Y x = C := ⟨_, rfl⟩
  rw [hCL] at eL rL
  rw [hCR] at eR rR
  obtain ⟨NT, hNT⟩ : ∃ N, neutralTableau = N := ⟨_, rfl⟩
  rw [hNT] at rL rR eC
  repeat' (first|refine X.O ?_|refine X.A ?_|refine X.B ?_|refine X.C ?_|refine X.D ?_|refine X.E ?_|refine X.F ?_|refine X.G ?_|refine X.H ?_|refine X.I ?_|fail)
  refine WL.step (o_loadS (by rfl) (hT.blk 0 rfl) (by rfl) ?_)
  refine WL.step (o_loadS (by rfl) (hT.blk 1 rfl) (by rfl) ?_)
  obtain ⟨_, _, iX⟩ := hT.tab 0 rfl
  obtain ⟨_, _, iY⟩ := hT.tab 1 rfl
  refine WL.call (ComposeTableaus_any iX iY) ?_
  intro r9 w9 h9
  rw [eL] at h9
  obtain ⟨la, lb, rfl, rLt, hlc, hc9⟩ := ResT.rt h9
  clear h9
  replace hT := hT.chg hc9
  repeat' (first|refine X.O ?_|refine X.A ?_|refine X.B ?_|refine X.C ?_|refine X.D ?_|refine X.E ?_|refine X.F ?_|refine X.G ?_|refine X.H ?_|refine X.I ?_|fail)
  refine WL.var (vs := [la, lb]) (fun _ => by rfl) (by rfl) hlc ?_
  intro w10 hb10 hbl10 hz10
  replace hT := hT.add 3 rLt hb10 hbl10
  repeat' (first|refine X.O ?_|refine X.A ?_|refine X.B ?_|refine X.C ?_|refine X.D ?_|refine X.E ?_|refine X.F ?_|refine X.G ?_|refine X.H ?_|refine X.I ?_|fail)
  refine WL.step (o_loadS (by rfl) (hT.blk 1 rfl) (by rfl) ?_)
  refine WL.step (o_loadS (by rfl) (hT.blk 0 rfl) (by rfl) ?_)
  obtain ⟨_, _, iX⟩ := hT.tab 0 rfl
  obtain ⟨_, _, iY⟩ := hT.tab 1 rfl
  refine WL.call (ComposeTableaus_any iY iX) ?_
  intro r11 w11 h11
  rw [eR] at h11
  obtain ⟨ra, rb, rfl, rRt, hrc, hc11⟩ := ResT.rt h11
  clear h11
  replace hT := hT.chg hc11
  repeat' (first|refine X.O ?_|refine X.A ?_|refine X.B ?_|refine X.C ?_|refine X.D ?_|refine X.E ?_|refine X.F ?_|refine X.G ?_|refine X.H ?_|refine X.I ?_|fail)
  refine WL.var (vs := [ra, rb]) (fun _ => by rfl) (by rfl) hrc ?_
  intro w12 hb12 hbl12 hz12
  replace hT := hT.add 4 rRt hb12 hbl12
  repeat' (first|refine X.O ?_|refine X.A ?_|refine X.B ?_|refine X.C ?_|refine X.D ?_|refine X.E ?_|refine X.F ?_|refine X.G ?_|refine X.H ?_|refine X.I ?_|fail)
  refine WL.step (o_loadS (by rfl) (hT.blk 3 rfl) (by rfl) ?_)
  obtain ⟨_, _, iC⟩ := hT.tab 3 rfl
  refine WL.call (ReduceTableau_any iC) ?_
  intro r13 w13 h13
  rw [rL] at h13
  obtain ⟨pa, pb, rfl, rp, hpc, hc13⟩ := ResT.rt h13
  clear h13
  replace hT := hT.chg hc13
  repeat' (first|refine X.O ?_|refine X.A ?_|refine X.B ?_|refine X.C ?_|refine X.D ?_|refine X.E ?_|refine X.F ?_|refine X.G ?_|refine X.H ?_|refine X.I ?_|fail)
  refine WL.var (vs := [pa, pb]) (fun _ => by rfl) (by rfl) hpc ?_
  intro w14 hb14 hbl14 hz14
  replace hT := hT.add 5 rp hb14 hbl14
  repeat' (first|refine X.O ?_|refine X.A ?_|refine X.B ?_|refine X.C ?_|refine X.D ?_|refine X.E ?_|refine X.F ?_|refine X.G ?_|refine X.H ?_|refine X.I ?_|fail)
  refine WL.step (o_loadS (by rfl) (hT.blk 4 rfl) (by rfl) ?_)
  obtain ⟨_, _, iC⟩ := hT.tab 4 rfl
  refine WL.call (ReduceTableau_any iC) ?_
  intro r15 w15 h15
  rw [rR] at h15
  obtain ⟨qa, qb, rfl, rq, hqc, hc15⟩ := ResT.rt h15
  clear h15
  replace hT := hT.chg hc15
  repeat' (first|refine X.O ?_|refine X.A ?_|refine X.B ?_|refine X.C ?_|refine X.D ?_|refine X.E ?_|refine X.F ?_|refine X.G ?_|refine X.H ?_|refine X.I ?_|fail)
  refine WL.var (vs := [qa, qb]) (fun _ => by rfl) (by rfl) hqc ?_
  intro w16 hb16 hbl16 hz16
  replace hT := hT.add 6 rq hb16 hbl16
  repeat' (first|refine X.O ?_|refine X.A ?_|refine X.B ?_|refine X.C ?_|refine X.D ?_|refine X.E ?_|refine X.F ?_|refine X.G ?_|refine X.H ?_|refine X.I ?_|fail)
  refine WL.call (NeutralTableau_any _) ?_
  rintro vn w17 ⟨hN17, hc17⟩
  rw [hNT] at hN17
  replace hT := hT.chg hc17
  have rN : RT w17 vn NT := ⟨_, _, hN17.rd⟩
  obtain ⟨na, nb, rfl, hnc⟩ := rN.cells
  repeat' (first|refine X.O ?_|refine X.A ?_|refine X.B ?_|refine X.C ?_|refine X.D ?_|refine X.E ?_|refine X.F ?_|refine X.G ?_|refine X.H ?_|refine X.I ?_|fail)
  refine WL.var (vs := [na, nb]) (fun _ => by rfl) (by rfl) hnc ?_
  intro w18 hb18 hbl18 hz18
  replace hT := hT.add 7 rN hb18 hbl18
  repeat' (first|refine X.O ?_|refine X.A ?_|refine X.B ?_|refine X.C ?_|refine X.D ?_|refine X.E ?_|refine X.F ?_|refine X.G ?_|refine X.H ?_|refine X.I ?_|fail)
  refine WL.step (o_loadS (by rfl) (hT.blk 7 rfl) (by rfl) ?_)
  obtain ⟨_, _, iN⟩ := hT.tab 7 rfl
  refine WL.call (CharacterOf_any iN) ?_
  rintro r19 w19 ⟨v19, rfl, hN19⟩
  rw [eC] at hN19 ⊢
  replace hT := hT.next hN19.2
  have rC := hN19.rd
  repeat' (first|refine X.O ?_|refine X.A ?_|refine X.B ?_|refine X.C ?_|refine X.D ?_|refine X.E ?_|refine X.F ?_|refine X.G ?_|refine X.H ?_|refine X.I ?_|fail)
  refine WL.step (o_loadS (by rfl) (hT.blk 5 rfl) (by rfl) ?_)
  refine WL.step (o_loadS (by rfl) (hT.blk 7 rfl) (by rfl) ?_)
  refine WL.call (likeTableau5_rd (hT.tab 5 rfl) (hT.tab 7 rfl) rfl) ?_
  rintro _ w20 ⟨rfl, hbl20⟩
  replace hT := hT.next hbl20
  repeat' (first|refine X.O ?_|refine X.A ?_|refine X.B ?_|refine X.C ?_|refine X.D ?_|refine X.E ?_|refine X.F ?_|refine X.G ?_|refine X.H ?_|refine X.I ?_|fail)
  refine WL.step (o_loadS (by rfl) (hT.blk 6 rfl) (by rfl) ?_)
  refine WL.step (o_loadS (by rfl) (hT.blk 7 rfl) (by rfl) ?_)
  refine WL.call (likeTableau5_rd (hT.tab 6 rfl) (hT.tab 7 rfl) rfl) ?_
  rintro _ w21 ⟨rfl, hbl21⟩
  replace hT := hT.next hbl21
  repeat' (first|refine X.O ?_|refine X.A ?_|refine X.B ?_|refine X.C ?_|refine X.D ?_|refine X.E ?_|refine X.F ?_|refine X.G ?_|refine X.H ?_|refine X.I ?_|fail)
  refine WL.call (UnitMap_plain _) ?_
  intro v22 w22 hN22
  replace hT := hT.next hN22.2
  refine WL.call (likeInts_rd (((rC.below hbl20).below hbl21).below hN22.2) hN22.rd rfl) ?_
  rintro _ w23 ⟨rfl, hs23⟩
  replace hT := hT.still hs23
  repeat' (first|refine X.O ?_|refine X.A ?_|refine X.B ?_|refine X.C ?_|refine X.D ?_|refine X.E ?_|refine X.F ?_|refine X.G ?_|refine X.H ?_|refine X.I ?_|fail)
  refine ⟨_, ret1 rfl (by rfl), ?_⟩
  exact ⟨rfl, hT.bel⟩
end Go.Proofs
