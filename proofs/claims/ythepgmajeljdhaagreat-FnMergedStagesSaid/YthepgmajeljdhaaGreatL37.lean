/- The law of merged stages, walked. -/
import Derived.Test.YthepgmajeljdhaaGreatM9
import Derived.Test.YthepgmajeljdhaaGreatM0
import Derived.Test.YthepgmajeljdhaaGreatW1
import Derived.Test.YthepgmajeljdhaaGreatN3
import Derived.Test.YthepgmajeljdhaaGreatA48
import Derived.Test.YthepgmajeljdhaaGreatA44
import Derived.Test.YthepgmajeljdhaaGreatA29
import Derived.Test.YthepgmajeljdhaaGreatA21
import Derived.Test.YthepgmajeljdhaaGreatT2
import Derived.Test.YthepgmajeljdhaaGreatD8
set_option maxRecDepth 8000
namespace Go.Proofs
open Go Go.Fw Go.RowKit Go.Rk
set_option maxHeartbeats 4000000 in
theorem FnMergedStages_any {w : World} {lo hi : Nat} {v : Value} {bs : List Int} (h : IU lo hi w v bs) : Does Tryz.prog 3 [v] w fun r w' => r = .bool true ∧ Below w.heap.size w w' := by
  have hhl := h.hi_le
  refine Does.enter Tryz.func3 Tryz.ntmps3 rfl (by rfl) ?_
  repeat' (first|refine X.O ?_|refine X.A ?_|refine X.B ?_|refine X.C ?_|refine X.D ?_|refine X.E ?_|refine X.F ?_|refine X.G ?_|refine X.H ?_|refine X.I ?_|fail)
  refine WL.call (big_any h) ?_
  rintro _ w0 ⟨rfl, hs0⟩
  repeat' (first|refine X.O ?_|refine X.A ?_|refine X.B ?_|refine X.C ?_|refine X.D ?_|refine X.E ?_|refine X.F ?_|refine X.G ?_|refine X.H ?_|refine X.I ?_|fail)
  first|refine X.J (fun _ => ?_) (fun _ => ?_)|refine X.L (fun _ => ?_) (fun _ => ?_)|refine X.M (fun _ => ?_) (fun _ => ?_)|refine X.R (fun _ => ?_) (fun _ => ?_)|fail
  · repeat' (first|refine X.O ?_|refine X.A ?_|refine X.B ?_|refine X.C ?_|refine X.D ?_|refine X.E ?_|refine X.F ?_|refine X.G ?_|refine X.H ?_|refine X.I ?_|fail)
    refine ⟨_, ret1 rfl (by rfl), ?_⟩
    exact ⟨rfl, hs0.below _⟩
  rename_i hbig
  have hT : HaveT w w0 [] := ⟨hs0.below _, fun p hp => by simp at hp⟩
  repeat' (first|refine X.O ?_|refine X.A ?_|refine X.B ?_|refine X.C ?_|refine X.D ?_|refine X.E ?_|refine X.F ?_|refine X.G ?_|refine X.H ?_|refine X.I ?_|fail)
  refine WL.call (DrawMergeStages_any (h.still RU.stable hs0) (by omega)) ?_
  rintro v1 w1 ⟨⟨x, hX⟩, hcX⟩
  replace hT := hT.chg hcX
  have rX : RT w1 v1 x := ⟨_, _, hX⟩
  obtain ⟨xa, xb, rfl, hxc⟩ := rX.cells
  refine WL.var (vs := [xa, xb]) (fun _ => by rfl) (by rfl) hxc ?_
  intro w2 hb2 hbl2 hz2
  replace hT := hT.add 0 rX hb2 hbl2
  repeat' (first|refine X.O ?_|refine X.A ?_|refine X.B ?_|refine X.C ?_|refine X.D ?_|refine X.E ?_|refine X.F ?_|refine X.G ?_|refine X.H ?_|refine X.I ?_|fail)
  refine WL.step (o_loadS (by rfl) (hT.blk 0 rfl) (by rfl) ?_)
  obtain ⟨_, _, iX⟩ := hT.tab 0 rfl
  refine WL.call (MergeStages_any iX) ?_
  intro r3 w3 h3
  obtain ⟨ya, yb, rfl, rY, hyc, hc3⟩ := ResT.rt h3
  clear h3
  replace hT := hT.chg hc3
  repeat' (first|refine X.O ?_|refine X.A ?_|refine X.B ?_|refine X.C ?_|refine X.D ?_|refine X.E ?_|refine X.F ?_|refine X.G ?_|refine X.H ?_|refine X.I ?_|fail)
  refine WL.var (vs := [ya, yb]) (fun _ => by rfl) (by rfl) hyc ?_
  intro w4 hb4 hbl4 hz4
  replace hT := hT.add 1 rY hb4 hbl4
  repeat' (first|refine X.O ?_|refine X.A ?_|refine X.B ?_|refine X.C ?_|refine X.D ?_|refine X.E ?_|refine X.F ?_|refine X.G ?_|refine X.H ?_|refine X.I ?_|fail)
  refine WL.step (o_loadS (by rfl) (hT.blk 0 rfl) (by rfl) ?_)
  obtain ⟨_, _, iX⟩ := hT.tab 0 rfl
  refine WL.call (sMergeStages_any iX) ?_
  intro r5 w5 h5
  obtain ⟨za, zb, rfl, rZ, hzc, hc5⟩ := ResT.rt h5
  clear h5
  replace hT := hT.chg hc5
  repeat' (first|refine X.O ?_|refine X.A ?_|refine X.B ?_|refine X.C ?_|refine X.D ?_|refine X.E ?_|refine X.F ?_|refine X.G ?_|refine X.H ?_|refine X.I ?_|fail)
  refine WL.var (vs := [za, zb]) (fun _ => by rfl) (by rfl) hzc ?_
  intro w6 hb6 hbl6 hz6
  replace hT := hT.add 2 rZ hb6 hbl6
  obtain ⟨code, hcode⟩ : ∃ code, (mergeStages x).2 = code := ⟨_, rfl⟩
  rw [hcode]
  repeat' (first|refine X.O ?_|refine X.A ?_|refine X.B ?_|refine X.C ?_|refine X.D ?_|refine X.E ?_|refine X.F ?_|refine X.G ?_|refine X.H ?_|refine X.I ?_|fail)
  try (refine WL.gsplitD (by rfl) (by rfl) (by rfl) (fun hbad => False.elim (by first | exact hbad rfl | omega)) (fun _ => ?_))
  repeat' (first|refine X.O ?_|refine X.A ?_|refine X.B ?_|refine X.C ?_|refine X.D ?_|refine X.E ?_|refine X.F ?_|refine X.G ?_|refine X.H ?_|refine X.I ?_|fail)
  refine WL.step (o_loadS (by rfl) (hT.blk 1 rfl) (by rfl) ?_)
  refine WL.step (o_loadS (by rfl) (hT.blk 2 rfl) (by rfl) ?_)
  refine WL.call (likeTableau5_rd (hT.tab 1 rfl) (hT.tab 2 rfl) rfl) ?_
  rintro _ w7 ⟨rfl, hbl7⟩
  replace hT := hT.next hbl7
  repeat' (first|refine X.O ?_|refine X.A ?_|refine X.B ?_|refine X.C ?_|refine X.D ?_|refine X.E ?_|refine X.F ?_|refine X.G ?_|refine X.H ?_|refine X.I ?_|fail)
  try (refine WP.condD (by rfl) (fun hbad => False.elim (by first | exact hbad rfl | omega)) (fun _ => ?_))
  repeat' (first|refine X.O ?_|refine X.A ?_|refine X.B ?_|refine X.C ?_|refine X.D ?_|refine X.E ?_|refine X.F ?_|refine X.G ?_|refine X.H ?_|refine X.I ?_|fail)
  by_cases hx : isTab x = true
  case neg =>
    have e : mergeStages x = (([], []), 1) := by unfold mergeStages; rw [if_neg hx]
    rw [e] at hcode
    subst hcode
    repeat' (first|refine X.O ?_|refine X.A ?_|refine X.B ?_|refine X.C ?_|refine X.D ?_|refine X.E ?_|refine X.F ?_|refine X.G ?_|refine X.H ?_|refine X.I ?_|fail)
    refine ⟨_, ret1 rfl (by rfl), ?_⟩
    exact ⟨rfl, hT.bel⟩
  have tX := isTab_iff hx
  have e : mergeStages x = (mergeL x, 0) := by unfold mergeStages; rw [if_pos hx]
  rw [e] at hcode hT
  subst hcode
  have eD : dropUnused x = (dropL x, 0) := by unfold dropUnused; rw [if_pos hx]
  have eA : alikeStages x = (alikeL x, 0) := by unfold alikeStages; rw [if_pos hx]
  repeat' (first|refine X.O ?_|refine X.A ?_|refine X.B ?_|refine X.C ?_|refine X.D ?_|refine X.E ?_|refine X.F ?_|refine X.G ?_|refine X.H ?_|refine X.I ?_|fail)
  try (refine WP.condD (by rfl) (fun hbad => False.elim (by first | exact hbad rfl | omega)) (fun _ => ?_))
  repeat' (first|refine X.O ?_|refine X.A ?_|refine X.B ?_|refine X.C ?_|refine X.D ?_|refine X.E ?_|refine X.F ?_|refine X.G ?_|refine X.H ?_|refine X.I ?_|fail)
  refine WL.step (o_loadS (by rfl) (hT.blk 0 rfl) (by rfl) ?_)
  obtain ⟨_, _, iX⟩ := hT.tab 0 rfl
  refine WL.call (DropUnused_any iX) ?_
  intro r8 w8 h8
  rw [eD] at h8
  obtain ⟨da, db, rfl, rD, hdc, hc8⟩ := ResT.rt h8
  clear h8
  replace hT := hT.chg hc8
  repeat' (first|refine X.O ?_|refine X.A ?_|refine X.B ?_|refine X.C ?_|refine X.D ?_|refine X.E ?_|refine X.F ?_|refine X.G ?_|refine X.H ?_|refine X.I ?_|fail)
  refine WL.var (vs := [da, db]) (fun _ => by rfl) (by rfl) hdc ?_
  intro w9 hb9 hbl9 hz9
  replace hT := hT.add 3 rD hb9 hbl9
  repeat' (first|refine X.O ?_|refine X.A ?_|refine X.B ?_|refine X.C ?_|refine X.D ?_|refine X.E ?_|refine X.F ?_|refine X.G ?_|refine X.H ?_|refine X.I ?_|fail)
  refine WL.step (o_loadS (by rfl) (hT.blk 0 rfl) (by rfl) ?_)
  obtain ⟨_, _, iX⟩ := hT.tab 0 rfl
  refine WL.call (AlikeStages_any iX) ?_
  rintro r10 w10 ⟨v10, rfl, hN10⟩
  rw [eA] at hN10 ⊢
  replace hT := hT.next hN10.2
  have hH : Have w w10 [(0, v10, alikeL x)] := ⟨hT.bel, fun p hp => by rw [List.mem_singleton.1 hp]; exact hN10.rd⟩
  clear hN10
  repeat' (first|refine X.O ?_|refine X.A ?_|refine X.B ?_|refine X.C ?_|refine X.D ?_|refine X.E ?_|refine X.F ?_|refine X.G ?_|refine X.H ?_|refine X.I ?_|fail)
  refine WL.call (roll_any (h.below RU.stable hT.bel hhl) (by omega) 608 (by omega) (by omega)) ?_
  rintro _ w11 ⟨rfl, hdi, hc11⟩
  refine WL.call (tree5_any hdi) ?_
  rintro vt w12 ⟨⟨t, iT, lT, hT8⟩, hro⟩
  have hbl12 : Below w10.heap.size w10 w12 := (hc11.below (Nat.le_refl _) (Or.inr (Nat.le_refl _))).trans (hro.chg.below (by have := hc11.size; omega) (Or.inl (Nat.le_refl _)))
  replace hT := hT.next hbl12
  replace hH := (hH.next hbl12).add 1 ⟨_, _, iT⟩
  clear hbl12 hro hc11 hdi iT
  have hlev : isLev t = true := isLev_of lT hT8
  have tM : Tab (mergeL x) := mergeL_tab tX
  have tD : Tab (dropL x) := dropL_tab tX
  have eX : weightOf x t = (weightL x t, 0) := by unfold weightOf; rw [if_pos ⟨hx, hlev⟩]
  have eM : weightOf (mergeL x) t = (weightL x t, 0) := by unfold weightOf; rw [if_pos ⟨isTab_of tM, hlev⟩, merge_weight tX]
  have eU : weightOf (dropL x) t = (weightL x t, 0) := by unfold weightOf; rw [if_pos ⟨isTab_of tD, hlev⟩, drop_weight tX]
  have eS : stageWeights x t = (stW x 8 t, 0) := by unfold stageWeights; rw [if_pos ⟨hx, hlev⟩]
  have hst : ∀ i, i < x.2.length → (stW x 8 t).getD (clN (alikeL x) i) 0 = (stW x 8 t).getD i 0 := fun i hi => alike_stages tX t hi
  have h8 := tX.le8
  have lA := alikeL_length x
  have cA := alike_cls tX.pos
  have lS : (stW x 8 t).length = x.2.length := ((quo_merge tX).stW 8 t).1
  obtain ⟨S, hS⟩ : ∃ S, stW x 8 t = S := ⟨_, rfl⟩
  rw [hS] at eS hst lS
  obtain ⟨A, hA⟩ : ∃ A, alikeL x = A := ⟨_, rfl⟩
  rw [hA] at hst lA cA hH
  obtain ⟨W, hW⟩ : ∃ W, weightL x t = W := ⟨_, rfl⟩
  rw [hW] at eX eM eU
  obtain ⟨M, hM⟩ : ∃ M, mergeL x = M := ⟨_, rfl⟩
  rw [hM] at hT eM
  obtain ⟨D, hD⟩ : ∃ D, dropL x = D := ⟨_, rfl⟩
  rw [hD] at hT eU
  repeat' (first|refine X.O ?_|refine X.A ?_|refine X.B ?_|refine X.C ?_|refine X.D ?_|refine X.E ?_|refine X.F ?_|refine X.G ?_|refine X.H ?_|refine X.I ?_|fail)
  refine WL.step (o_loadS (by rfl) (hT.blk 0 rfl) (by rfl) ?_)
  repeat' (first|refine X.O ?_|refine X.A ?_|refine X.B ?_|refine X.C ?_|refine X.D ?_|refine X.E ?_|refine X.F ?_|refine X.G ?_|refine X.H ?_|refine X.I ?_|fail)
  obtain ⟨_, _, iX⟩ := hT.tab 0 rfl
  obtain ⟨_, _, iT⟩ := hH.get 1 rfl
  refine WL.call (WeightOf_any iX iT) ?_
  rintro _ w13 ⟨rfl, hc13⟩
  rw [eX]
  replace hT := hT.chg hc13
  replace hH := hH.chg hc13
  repeat' (first|refine X.O ?_|refine X.A ?_|refine X.B ?_|refine X.C ?_|refine X.D ?_|refine X.E ?_|refine X.F ?_|refine X.G ?_|refine X.H ?_|refine X.I ?_|fail)
  refine WL.step (o_loadS (by rfl) (hT.blk 1 rfl) (by rfl) ?_)
  repeat' (first|refine X.O ?_|refine X.A ?_|refine X.B ?_|refine X.C ?_|refine X.D ?_|refine X.E ?_|refine X.F ?_|refine X.G ?_|refine X.H ?_|refine X.I ?_|fail)
  obtain ⟨_, _, iX⟩ := hT.tab 1 rfl
  obtain ⟨_, _, iT⟩ := hH.get 1 rfl
  refine WL.call (WeightOf_any iX iT) ?_
  rintro _ w14 ⟨rfl, hc14⟩
  rw [eM]
  replace hT := hT.chg hc14
  replace hH := hH.chg hc14
  repeat' (first|refine X.O ?_|refine X.A ?_|refine X.B ?_|refine X.C ?_|refine X.D ?_|refine X.E ?_|refine X.F ?_|refine X.G ?_|refine X.H ?_|refine X.I ?_|fail)
  refine WL.step (o_loadS (by rfl) (hT.blk 3 rfl) (by rfl) ?_)
  repeat' (first|refine X.O ?_|refine X.A ?_|refine X.B ?_|refine X.C ?_|refine X.D ?_|refine X.E ?_|refine X.F ?_|refine X.G ?_|refine X.H ?_|refine X.I ?_|fail)
  obtain ⟨_, _, iX⟩ := hT.tab 3 rfl
  obtain ⟨_, _, iT⟩ := hH.get 1 rfl
  refine WL.call (WeightOf_any iX iT) ?_
  rintro _ w15 ⟨rfl, hc15⟩
  rw [eU]
  replace hT := hT.chg hc15
  replace hH := hH.chg hc15
  repeat' (first|refine X.O ?_|refine X.A ?_|refine X.B ?_|refine X.C ?_|refine X.D ?_|refine X.E ?_|refine X.F ?_|refine X.G ?_|refine X.H ?_|refine X.I ?_|fail)
  refine WL.step (o_loadS (by rfl) (hT.blk 0 rfl) (by rfl) ?_)
  repeat' (first|refine X.O ?_|refine X.A ?_|refine X.B ?_|refine X.C ?_|refine X.D ?_|refine X.E ?_|refine X.F ?_|refine X.G ?_|refine X.H ?_|refine X.I ?_|fail)
  obtain ⟨_, _, iX⟩ := hT.tab 0 rfl
  obtain ⟨_, _, iT⟩ := hH.get 1 rfl
  refine WL.call (StageWeights_any iX iT) ?_
  rintro r16 w16 ⟨v16, rfl, hN16⟩
  rw [eS] at hN16 ⊢
  dsimp only at hN16
  replace hT := hT.next hN16.2
  replace hH := hH.new 2 hN16
  clear hN16
  obtain ⟨la, ha, iA⟩ := hH.get 0 rfl
  obtain ⟨ls, hs, iS⟩ := hH.get 2 rfl
  obtain ⟨aA, cA', hvA⟩ := iA.shape
  obtain ⟨aS, cS', hvS⟩ := iS.shape
  subst hvA hvS
  obtain ⟨_, _, iB, _⟩ := (hT.tab 0 rfl).last
  obtain ⟨ab, cb, hvb⟩ := iB.shape
  subst hvb
  repeat' (first|refine X.O ?_|refine X.A ?_|refine X.B ?_|refine X.C ?_|refine X.D ?_|refine X.E ?_|refine X.F ?_|refine X.G ?_|refine X.H ?_|refine X.I ?_|fail)
  try (refine WL.gsplitD (by rfl) (by rfl) (by rfl) (fun hbad => False.elim (by first | exact hbad rfl | omega)) (fun _ => ?_))
  repeat' (first|refine X.O ?_|refine X.A ?_|refine X.B ?_|refine X.C ?_|refine X.D ?_|refine X.E ?_|refine X.F ?_|refine X.G ?_|refine X.H ?_|refine X.I ?_|fail)
  try (refine WL.gsplitD (by rfl) (by rfl) (by rfl) (fun hbad => False.elim (by first | exact hbad rfl | omega)) (fun _ => ?_))
  repeat' (first|refine X.O ?_|refine X.A ?_|refine X.B ?_|refine X.C ?_|refine X.D ?_|refine X.E ?_|refine X.F ?_|refine X.G ?_|refine X.H ?_|refine X.I ?_|fail)
  try (refine WL.gsplitD (by rfl) (by rfl) (by rfl) (fun hbad => False.elim (by first | exact hbad rfl | omega)) (fun _ => ?_))
  repeat' (first|refine X.O ?_|refine X.A ?_|refine X.B ?_|refine X.C ?_|refine X.D ?_|refine X.E ?_|refine X.F ?_|refine X.G ?_|refine X.H ?_|refine X.I ?_|fail)
  try (refine WL.gsplitD (by rfl) (by rfl) (by rfl) (fun hbad => False.elim (by first | exact hbad rfl | omega)) (fun _ => ?_))
  repeat' (first|refine X.O ?_|refine X.A ?_|refine X.B ?_|refine X.C ?_|refine X.D ?_|refine X.E ?_|refine X.F ?_|refine X.G ?_|refine X.H ?_|refine X.I ?_|fail)
  try (refine WL.gsplitD (by rfl) (by rfl) (by rfl) (fun hbad => False.elim (by first | exact hbad rfl | omega)) (fun _ => ?_))
  repeat' (first|refine X.O ?_|refine X.A ?_|refine X.B ?_|refine X.C ?_|refine X.D ?_|refine X.E ?_|refine X.F ?_|refine X.G ?_|refine X.H ?_|refine X.I ?_|fail)
  try (refine WL.gsplitD (by rfl) (by rfl) (by rfl) (fun hbad => False.elim (by first | exact hbad rfl | omega)) (fun _ => ?_))
  repeat' (first|refine X.O ?_|refine X.A ?_|refine X.B ?_|refine X.C ?_|refine X.D ?_|refine X.E ?_|refine X.F ?_|refine X.G ?_|refine X.H ?_|refine X.I ?_|fail)
  try (refine WL.gsplitD (by rfl) (by rfl) (by rfl) (fun hbad => False.elim (by first | exact hbad rfl | omega)) (fun _ => ?_))
  repeat' (first|refine X.O ?_|refine X.A ?_|refine X.B ?_|refine X.C ?_|refine X.D ?_|refine X.E ?_|refine X.F ?_|refine X.G ?_|refine X.H ?_|refine X.I ?_|fail)
  try (refine WL.gsplitD (by rfl) (by rfl) (by rfl) (fun hbad => False.elim (by first | exact hbad rfl | omega)) (fun _ => ?_))
  repeat' (first|refine X.O ?_|refine X.A ?_|refine X.B ?_|refine X.C ?_|refine X.D ?_|refine X.E ?_|refine X.F ?_|refine X.G ?_|refine X.H ?_|refine X.I ?_|fail)
  refine WL.fld (hT.blk 0 rfl) ?_
  intro p17
  repeat' (first|refine X.O ?_|refine X.A ?_|refine X.B ?_|refine X.C ?_|refine X.D ?_|refine X.E ?_|refine X.F ?_|refine X.G ?_|refine X.H ?_|refine X.I ?_|fail)
  try (refine WL.gsplitD (by rfl) (by rfl) (by rfl) (fun hbad => False.elim (by first | exact hbad rfl | omega)) (fun _ => ?_))
  repeat' (first|refine X.O ?_|refine X.A ?_|refine X.B ?_|refine X.C ?_|refine X.D ?_|refine X.E ?_|refine X.F ?_|refine X.G ?_|refine X.H ?_|refine X.I ?_|fail)
  refine WL.fld (hT.blk 0 rfl) ?_
  intro p18
  repeat' (first|refine X.O ?_|refine X.A ?_|refine X.B ?_|refine X.C ?_|refine X.D ?_|refine X.E ?_|refine X.F ?_|refine X.G ?_|refine X.H ?_|refine X.I ?_|fail)
  refine WP.condD (by rfl) (fun hbad => False.elim (by omega)) (fun _ => ?_)
  repeat' (first|refine X.O ?_|refine X.A ?_|refine X.B ?_|refine X.C ?_|refine X.D ?_|refine X.E ?_|refine X.F ?_|refine X.G ?_|refine X.H ?_|refine X.I ?_|fail)
  refine WP.loop (fun (k : Nat) => [(10, .slice aA A.length cA'), (19, .slice aS S.length cS'), (21, .int .i64 (k : Nat))]) (fun k y => k ≤ A.length ∧ Still w16 y) (fun k => A.length - k) 0 ⟨rfl, rfl, rfl, trivial⟩ ⟨by omega, Still.refl _⟩ ?_
  rintro k w17 ⟨hk, hs17⟩
  repeat' (first|refine X.O ?_|refine X.A ?_|refine X.B ?_|refine X.C ?_|refine X.D ?_|refine X.E ?_|refine X.F ?_|refine X.G ?_|refine X.H ?_|refine X.I ?_|fail)
  first|refine X.J (fun _ => ?_) (fun _ => ?_)|refine X.L (fun _ => ?_) (fun _ => ?_)|refine X.M (fun _ => ?_) (fun _ => ?_)|refine X.R (fun _ => ?_) (fun _ => ?_)|fail
  · rename_i hlt
    have hk1 : k < A.length := by omega
    have hk2 : k < x.2.length := by omega
    obtain ⟨hc1, hc2⟩ := clN_eq cA hk2
    rw [getD_i hk1] at hc1
    obtain ⟨q, hq⟩ : ∃ q, clN A k = q := ⟨_, rfl⟩
    have hsk := hst k hk2
    rw [hq] at hc1 hc2 hsk
    have hq1 : q < S.length := by omega
    have hk3 : k < S.length := by omega
    rw [getD_i hq1, getD_i hk3] at hsk
    repeat' (first|refine X.O ?_|refine X.A ?_|refine X.B ?_|refine X.C ?_|refine X.D ?_|refine X.E ?_|refine X.F ?_|refine X.G ?_|refine X.H ?_|refine X.I ?_|fail)
    refine WP.drawn (fun w' => w'.heap = w17.heap) [(0, true), (1, true), (2, true), (3, true), (4, true), (5, true), (6, true), (7, true), (8, true), (9, true), (10, true), (11, true), (12, true), (13, true), (14, true), (15, true), (16, true), (17, true), (18, true), (19, true), (20, true), (21, true), (22, true), (23, true), (24, true), (25, true), (26, true)] (by kernel_rfl) mixed ?_
    intro w18 hs18
    have hw18 : w18.heap = w17.heap := hs18.heap
    have iA18 := (iA.still RI.stable hs17).still RI.stable hs18
    have iS18 := (iS.still RI.stable hs17).still RI.stable hs18
    repeat' (first|refine X.U rfl ?_|refine X.V rfl ?_|refine X.W rfl ?_|refine X.Y rfl ?_|refine X.Z rfl ?_|refine WS.nil ?_|fail)
    refine WS.ixload (j := k) rfl rfl iA18 (List.getElem?_eq_getElem hk1) (fun w' hw' => same_heap (hw'.trans hw18.symm)) hw18 ?_
    intro p1 u1 hu1
    rw [show u1 = .int .i64 A[k] from hu1, hc1]
    clear hu1 u1
    repeat' (first|refine X.U rfl ?_|refine X.V rfl ?_|refine X.W rfl ?_|refine X.Y rfl ?_|refine X.Z rfl ?_|refine WS.nil ?_|fail)
    refine WS.splitD (t := 143) (by rfl) (fun hneg => absurd hneg (by omega)) (fun _ => ?_)
    repeat' (first|refine X.U rfl ?_|refine X.V rfl ?_|refine X.W rfl ?_|refine X.Y rfl ?_|refine X.Z rfl ?_|refine WS.nil ?_|fail)
    refine WS.ixload (j := k) rfl rfl iA18 (List.getElem?_eq_getElem hk1) (fun w' hw' => same_heap (hw'.trans hw18.symm)) hw18 ?_
    intro p2 u2 hu2
    rw [show u2 = .int .i64 A[k] from hu2, hc1]
    clear hu2 u2
    repeat' (first|refine X.U rfl ?_|refine X.V rfl ?_|refine X.W rfl ?_|refine X.Y rfl ?_|refine X.Z rfl ?_|refine WS.nil ?_|fail)
    refine WS.splitD (t := 151) (by rfl) (fun hneg => absurd hneg (by omega)) (fun _ => ?_)
    repeat' (first|refine X.U rfl ?_|refine X.V rfl ?_|refine X.W rfl ?_|refine X.Y rfl ?_|refine X.Z rfl ?_|refine WS.nil ?_|fail)
    refine WS.ixload (j := k) rfl rfl iA18 (List.getElem?_eq_getElem hk1) (fun w' hw' => same_heap (hw'.trans hw18.symm)) hw18 ?_
    intro p3 u3 hu3
    rw [show u3 = .int .i64 A[k] from hu3, hc1]
    clear hu3 u3
    repeat' (first|refine X.U rfl ?_|refine X.V rfl ?_|refine X.W rfl ?_|refine X.Y rfl ?_|refine X.Z rfl ?_|refine WS.nil ?_|fail)
    refine WS.ixload (j := q) rfl rfl iS18 (List.getElem?_eq_getElem hq1) (fun w' hw' => same_heap (hw'.trans hw18.symm)) hw18 ?_
    intro p4 u4 hu4
    rw [show u4 = .int .i64 S[q] from hu4, hsk]
    clear hu4 u4
    repeat' (first|refine X.U rfl ?_|refine X.V rfl ?_|refine X.W rfl ?_|refine X.Y rfl ?_|refine X.Z rfl ?_|refine WS.nil ?_|fail)
    refine WS.ixload (j := k) rfl rfl iS18 (List.getElem?_eq_getElem hk3) (fun w' hw' => same_heap (hw'.trans hw18.symm)) hw18 ?_
    intro p5 u5 hu5
    rw [show u5 = .int .i64 S[k] from hu5]
    clear hu5 u5
    repeat' (first|refine X.U rfl ?_|refine X.V rfl ?_|refine X.W rfl ?_|refine X.Y rfl ?_|refine X.Z rfl ?_|refine WS.nil ?_|fail)
    repeat' (first|refine X.O ?_|refine X.A ?_|refine X.B ?_|refine X.C ?_|refine X.D ?_|refine X.E ?_|refine X.F ?_|refine X.G ?_|refine X.H ?_|refine X.I ?_|fail)
    try (refine WP.condD (by rfl) (fun hbad => False.elim (by first | exact hbad rfl | omega)) (fun _ => ?_))
    repeat' (first|refine X.O ?_|refine X.A ?_|refine X.B ?_|refine X.C ?_|refine X.D ?_|refine X.E ?_|refine X.F ?_|refine X.G ?_|refine X.H ?_|refine X.I ?_|fail)
    exact ⟨k + 1, ⟨rfl, rfl, (by first|rfl|exact X.T (by omega)), trivial⟩, ⟨by omega, hs17.trans hs18⟩, by omega⟩
  · repeat' (first|refine X.O ?_|refine X.A ?_|refine X.B ?_|refine X.C ?_|refine X.D ?_|refine X.E ?_|refine X.F ?_|refine X.G ?_|refine X.H ?_|refine X.I ?_|fail)
    refine ⟨_, ret1 rfl (by rfl), ?_⟩
    exact ⟨rfl, hT.bel.trans (hs17.below _)⟩
end Go.Proofs
