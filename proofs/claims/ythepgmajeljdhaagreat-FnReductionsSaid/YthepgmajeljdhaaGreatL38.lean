/- The law of reductions, walked. -/
import Derived.Test.YthepgmajeljdhaaGreatM9
import Derived.Test.YthepgmajeljdhaaGreatM0
import Derived.Test.YthepgmajeljdhaaGreatW1
import Derived.Test.YthepgmajeljdhaaGreatN3
import Derived.Test.YthepgmajeljdhaaGreatA49
import Derived.Test.YthepgmajeljdhaaGreatA46
import Derived.Test.YthepgmajeljdhaaGreatA33
import Derived.Test.YthepgmajeljdhaaGreatA29
import Derived.Test.YthepgmajeljdhaaGreatT2
import Derived.Test.YthepgmajeljdhaaGreatD8
set_option maxRecDepth 8000
namespace Go.Proofs
open Go Go.Fw Go.RowKit Go.Rk
set_option maxHeartbeats 4000000 in
theorem FnReductions_any {w : World} {lo hi : Nat} {v : Value} {bs : List Int} (h : IU lo hi w v bs) : Does Tryz.prog 4 [v] w fun r w' => r = .bool true ∧ Below w.heap.size w w' := by
  have hhl := h.hi_le
  refine Does.enter Tryz.func4 Tryz.ntmps4 rfl (by rfl) ?_
  repeat' (first|refine X.O ?_|refine X.A ?_|refine X.B ?_|refine X.C ?_|refine X.D ?_|refine X.E ?_|refine X.F ?_|refine X.G ?_|refine X.H ?_|refine X.I ?_|fail)
  refine WL.call (big_any h) ?_
  rintro _ w0 ⟨rfl, hs0⟩
  repeat' (first|refine X.O ?_|refine X.A ?_|refine X.B ?_|refine X.C ?_|refine X.D ?_|refine X.E ?_|refine X.F ?_|refine X.G ?_|refine X.H ?_|refine X.I ?_|fail)
  first|refine X.J (fun _ => ?_) (fun _ => ?_)|refine X.L (fun _ => ?_) (fun _ => ?_)|refine X.M (fun _ => ?_) (fun _ => ?_)|refine X.R (fun _ => ?_) (fun _ => ?_)|fail
  · repeat' (first|refine X.O ?_|refine X.A ?_|refine X.B ?_|refine X.C ?_|refine X.D ?_|refine X.E ?_|refine X.F ?_|refine X.G ?_|refine X.H ?_|refine X.I ?_|fail)
    refine ⟨_, ret1 rfl (by rfl), ?_⟩
    exact ⟨rfl, hs0.below _⟩
  rename_i hbig
  have hT : HaveT w w0 [] := ⟨hs0.below _, fun p hp => by simp at hp⟩
  repeat' (first|refine X.O ?_|refine X.A ?_|refine X.B ?_|refine X.C ?_|refine X.D ?_|refine X.E ?_|refine X.F ?_|refine X.G ?_|refine X.H ?_|refine X.I ?_|fail)
  refine WL.call (DrawReduceTableau_any (h.still RU.stable hs0) (by omega)) ?_
  rintro v1 w1 ⟨⟨x, hX⟩, hcX⟩
  replace hT := hT.chg hcX
  have rX : RT w1 v1 x := ⟨_, _, hX⟩
  obtain ⟨xa, xb, rfl, hxc⟩ := rX.cells
  refine WL.var (vs := [xa, xb]) (fun _ => by rfl) (by rfl) hxc ?_
  intro w2 hb2 hbl2 hz2
  replace hT := hT.add 0 rX hb2 hbl2
  repeat' (first|refine X.O ?_|refine X.A ?_|refine X.B ?_|refine X.C ?_|refine X.D ?_|refine X.E ?_|refine X.F ?_|refine X.G ?_|refine X.H ?_|refine X.I ?_|fail)
  refine WL.step (o_loadS (by rfl) (hT.blk 0 rfl) (by rfl) ?_)
  obtain ⟨_, _, iX⟩ := hT.tab 0 rfl
  refine WL.call (ReduceTableau_any iX) ?_
  intro r3 w3 h3
  obtain ⟨ya, yb, rfl, rY, hyc, hc3⟩ := ResT.rt h3
  clear h3
  replace hT := hT.chg hc3
  repeat' (first|refine X.O ?_|refine X.A ?_|refine X.B ?_|refine X.C ?_|refine X.D ?_|refine X.E ?_|refine X.F ?_|refine X.G ?_|refine X.H ?_|refine X.I ?_|fail)
  refine WL.var (vs := [ya, yb]) (fun _ => by rfl) (by rfl) hyc ?_
  intro w4 hb4 hbl4 hz4
  replace hT := hT.add 1 rY hb4 hbl4
  repeat' (first|refine X.O ?_|refine X.A ?_|refine X.B ?_|refine X.C ?_|refine X.D ?_|refine X.E ?_|refine X.F ?_|refine X.G ?_|refine X.H ?_|refine X.I ?_|fail)
  refine WL.step (o_loadS (by rfl) (hT.blk 0 rfl) (by rfl) ?_)
  obtain ⟨_, _, iX⟩ := hT.tab 0 rfl
  refine WL.call (sReduceTableau_any iX) ?_
  intro r5 w5 h5
  obtain ⟨za, zb, rfl, rZ, hzc, hc5⟩ := ResT.rt h5
  clear h5
  replace hT := hT.chg hc5
  repeat' (first|refine X.O ?_|refine X.A ?_|refine X.B ?_|refine X.C ?_|refine X.D ?_|refine X.E ?_|refine X.F ?_|refine X.G ?_|refine X.H ?_|refine X.I ?_|fail)
  refine WL.var (vs := [za, zb]) (fun _ => by rfl) (by rfl) hzc ?_
  intro w6 hb6 hbl6 hz6
  replace hT := hT.add 2 rZ hb6 hbl6
  obtain ⟨code, hcode⟩ : ∃ code, (reduceTableau x).2 = code := ⟨_, rfl⟩
  rw [hcode]
  repeat' (first|refine X.O ?_|refine X.A ?_|refine X.B ?_|refine X.C ?_|refine X.D ?_|refine X.E ?_|refine X.F ?_|refine X.G ?_|refine X.H ?_|refine X.I ?_|fail)
  try (refine WL.gsplitD (by rfl) (by rfl) (by rfl) (fun hbad => False.elim (by first | exact hbad rfl | omega)) (fun _ => ?_))
  repeat' (first|refine X.O ?_|refine X.A ?_|refine X.B ?_|refine X.C ?_|refine X.D ?_|refine X.E ?_|refine X.F ?_|refine X.G ?_|refine X.H ?_|refine X.I ?_|fail)
  refine WL.step (o_loadS (by rfl) (hT.blk 1 rfl) (by rfl) ?_)
  refine WL.step (o_loadS (by rfl) (hT.blk 2 rfl) (by rfl) ?_)
  refine WL.call (likeTableau5_rd (hT.tab 1 rfl) (hT.tab 2 rfl) rfl) ?_
  rintro _ w7 ⟨rfl, hbl7⟩
  replace hT := hT.next hbl7
  repeat' (first|refine X.O ?_|refine X.A ?_|refine X.B ?_|refine X.C ?_|refine X.D ?_|refine X.E ?_|refine X.F ?_|refine X.G ?_|refine X.H ?_|refine X.I ?_|fail)
  try (refine WP.condD (by rfl) (fun hbad => False.elim (by first | exact hbad rfl | omega)) (fun _ => ?_))
  repeat' (first|refine X.O ?_|refine X.A ?_|refine X.B ?_|refine X.C ?_|refine X.D ?_|refine X.E ?_|refine X.F ?_|refine X.G ?_|refine X.H ?_|refine X.I ?_|fail)
  by_cases hx : isTab x = true
  case neg =>
    have e : reduceTableau x = (([], []), 1) := by unfold reduceTableau; rw [if_neg hx]
    rw [e] at hcode
    subst hcode
    repeat' (first|refine X.O ?_|refine X.A ?_|refine X.B ?_|refine X.C ?_|refine X.D ?_|refine X.E ?_|refine X.F ?_|refine X.G ?_|refine X.H ?_|refine X.I ?_|fail)
    refine ⟨_, ret1 rfl (by rfl), ?_⟩
    exact ⟨rfl, hT.bel⟩
  have tX := isTab_iff hx
  have e : reduceTableau x = (reduceL x, 0) := by unfold reduceTableau; rw [if_pos hx]
  rw [e] at hcode hT
  subst hcode
  have eR : isReduced (reduceL x) = (true, 0) := reduced_is tX
  have tR : Tab (reduceL x) := reduce_tab tX
  have e2 : reduceTableau (reduceL x) = (reduceL x, 0) := by unfold reduceTableau; rw [if_pos (isTab_of tR), reduce_twice tX]
  have hle := reduce_le tX
  repeat' (first|refine X.O ?_|refine X.A ?_|refine X.B ?_|refine X.C ?_|refine X.D ?_|refine X.E ?_|refine X.F ?_|refine X.G ?_|refine X.H ?_|refine X.I ?_|fail)
  try (refine WP.condD (by rfl) (fun hbad => False.elim (by first | exact hbad rfl | omega)) (fun _ => ?_))
  repeat' (first|refine X.O ?_|refine X.A ?_|refine X.B ?_|refine X.C ?_|refine X.D ?_|refine X.E ?_|refine X.F ?_|refine X.G ?_|refine X.H ?_|refine X.I ?_|fail)
  refine WL.step (o_loadS (by rfl) (hT.blk 1 rfl) (by rfl) ?_)
  obtain ⟨_, _, iX⟩ := hT.tab 1 rfl
  refine WL.call (IsReduced_any iX) ?_
  rintro _ w8 ⟨rfl, hc8⟩
  rw [eR]
  replace hT := hT.chg hc8
  repeat' (first|refine X.O ?_|refine X.A ?_|refine X.B ?_|refine X.C ?_|refine X.D ?_|refine X.E ?_|refine X.F ?_|refine X.G ?_|refine X.H ?_|refine X.I ?_|fail)
  refine WL.step (o_loadS (by rfl) (hT.blk 1 rfl) (by rfl) ?_)
  obtain ⟨_, _, iX⟩ := hT.tab 1 rfl
  refine WL.call (ReduceTableau_any iX) ?_
  intro r9 w9 h9
  rw [e2] at h9
  obtain ⟨da, db, rfl, rD, hdc, hc9⟩ := ResT.rt h9
  clear h9
  replace hT := hT.chg hc9
  repeat' (first|refine X.O ?_|refine X.A ?_|refine X.B ?_|refine X.C ?_|refine X.D ?_|refine X.E ?_|refine X.F ?_|refine X.G ?_|refine X.H ?_|refine X.I ?_|fail)
  refine WL.var (vs := [da, db]) (fun _ => by rfl) (by rfl) hdc ?_
  intro w10 hb10 hbl10 hz10
  replace hT := hT.add 3 rD hb10 hbl10
  repeat' (first|refine X.O ?_|refine X.A ?_|refine X.B ?_|refine X.C ?_|refine X.D ?_|refine X.E ?_|refine X.F ?_|refine X.G ?_|refine X.H ?_|refine X.I ?_|fail)
  refine WL.call (roll_any (h.below RU.stable hT.bel hhl) (by omega) 607 (by omega) (by omega)) ?_
  rintro _ w11 ⟨rfl, hdi, hc11⟩
  have hz11 := hc11.size
  repeat' (first|refine X.O ?_|refine X.A ?_|refine X.B ?_|refine X.C ?_|refine X.D ?_|refine X.E ?_|refine X.F ?_|refine X.G ?_|refine X.H ?_|refine X.I ?_|fail)
  obtain ⟨sb, hsb⟩ : ∃ sb, w10.heap.size = sb := ⟨_, rfl⟩
  rw [hsb] at hdi ⊢
  refine WL.call (tree5_any hdi) ?_
  rintro vt w12 ⟨⟨t, iT, lT, hT8⟩, hro⟩
  have hB : Below w10.heap.size w10 w12 := (hc11.below (Nat.le_refl _) (Or.inr (Nat.le_refl _))).trans (hro.chg.below (by omega) (Or.inl (by omega)))
  have hsbl := hdi.lt
  have hD : HaveD sb w w12 [(1, vt, t)] := ⟨hro.src, by rw [← hsb]; exact hT.bel.size, (hT.next hB).bel, fun p hp => by rw [List.mem_singleton.1 hp]; exact ⟨_, _, Or.inr hsbl, iT⟩⟩
  clear hro hc11 hdi iT
  have hlev : isLev t = true := isLev_of lT hT8
  have eX : weightOf x t = (weightL x t, 0) := by unfold weightOf; rw [if_pos ⟨hx, hlev⟩]
  have eM : weightOf (reduceL x) t = (weightL x t, 0) := by unfold weightOf; rw [if_pos ⟨isTab_of tR, hlev⟩, reduce_weight tX]
  have h8 := tX.le8
  have hp := tX.pos
  have ePW : ∀ o, sortL o = firstT x.2.length → weightOf (permL x o) t = (weightL x t, 0) := fun o ho => by
    obtain ⟨q1, q2, q3, _⟩ := order_facts ho
    unfold weightOf; rw [if_pos ⟨isTab_of (permL_tab tX q2 (fun e => by rw [e] at q1; simp at q1; omega) (by omega)), hlev⟩, perm_weight tX ho]
  obtain ⟨W, hW⟩ : ∃ W, weightL x t = W := ⟨_, rfl⟩
  rw [hW] at eX eM ePW
  obtain ⟨M, hM⟩ : ∃ M, reduceL x = M := ⟨_, rfl⟩
  rw [hM] at hT eM hle
  dsimp only at hT
  repeat' (first|refine X.O ?_|refine X.A ?_|refine X.B ?_|refine X.C ?_|refine X.D ?_|refine X.E ?_|refine X.F ?_|refine X.G ?_|refine X.H ?_|refine X.I ?_|fail)
  refine WL.step (o_loadS (by rfl) ((hT.next hB).blk 0 rfl) (by rfl) ?_)
  repeat' (first|refine X.O ?_|refine X.A ?_|refine X.B ?_|refine X.C ?_|refine X.D ?_|refine X.E ?_|refine X.F ?_|refine X.G ?_|refine X.H ?_|refine X.I ?_|fail)
  obtain ⟨_, _, iX⟩ := (hT.next hB).tab 0 rfl
  obtain ⟨_, _, iT⟩ := hD.get 1 rfl
  refine WL.call (WeightOf_any iX iT) ?_
  rintro _ w13 ⟨rfl, hc13⟩
  rw [eX]
  replace hD := hD.chg hc13
  replace hB := hB.trans (hc13.below hB.size (Or.inr (Nat.le_refl _)))
  repeat' (first|refine X.O ?_|refine X.A ?_|refine X.B ?_|refine X.C ?_|refine X.D ?_|refine X.E ?_|refine X.F ?_|refine X.G ?_|refine X.H ?_|refine X.I ?_|fail)
  refine WL.step (o_loadS (by rfl) ((hT.next hB).blk 1 rfl) (by rfl) ?_)
  repeat' (first|refine X.O ?_|refine X.A ?_|refine X.B ?_|refine X.C ?_|refine X.D ?_|refine X.E ?_|refine X.F ?_|refine X.G ?_|refine X.H ?_|refine X.I ?_|fail)
  obtain ⟨_, _, iX⟩ := (hT.next hB).tab 1 rfl
  obtain ⟨_, _, iT⟩ := hD.get 1 rfl
  refine WL.call (WeightOf_any iX iT) ?_
  rintro _ w14 ⟨rfl, hc14⟩
  rw [eM]
  replace hD := hD.chg hc14
  replace hB := hB.trans (hc14.below hB.size (Or.inr (Nat.le_refl _)))
  clear iX iT hc13 hc14
  obtain ⟨_, _, iB0, _⟩ := ((hT.next hB).tab 0 rfl).last
  obtain ⟨ab, cb, hvb⟩ := iB0.shape
  subst hvb
  obtain ⟨_, _, iB1, _⟩ := ((hT.next hB).tab 1 rfl).last
  obtain ⟨ab1, cb1, hvb1⟩ := iB1.shape
  subst hvb1
  clear iB0 iB1
  repeat' (first|refine X.O ?_|refine X.A ?_|refine X.B ?_|refine X.C ?_|refine X.D ?_|refine X.E ?_|refine X.F ?_|refine X.G ?_|refine X.H ?_|refine X.I ?_|fail)
  try (refine WL.gsplitD (by rfl) (by rfl) (by rfl) (fun hbad => False.elim (by first | exact hbad rfl | omega)) (fun _ => ?_))
  repeat' (first|refine X.O ?_|refine X.A ?_|refine X.B ?_|refine X.C ?_|refine X.D ?_|refine X.E ?_|refine X.F ?_|refine X.G ?_|refine X.H ?_|refine X.I ?_|fail)
  try (refine WL.gsplitD (by rfl) (by rfl) (by rfl) (fun hbad => False.elim (by first | exact hbad rfl | omega)) (fun _ => ?_))
  repeat' (first|refine X.O ?_|refine X.A ?_|refine X.B ?_|refine X.C ?_|refine X.D ?_|refine X.E ?_|refine X.F ?_|refine X.G ?_|refine X.H ?_|refine X.I ?_|fail)
  try (refine WL.gsplitD (by rfl) (by rfl) (by rfl) (fun hbad => False.elim (by first | exact hbad rfl | omega)) (fun _ => ?_))
  repeat' (first|refine X.O ?_|refine X.A ?_|refine X.B ?_|refine X.C ?_|refine X.D ?_|refine X.E ?_|refine X.F ?_|refine X.G ?_|refine X.H ?_|refine X.I ?_|fail)
  try (refine WL.gsplitD (by rfl) (by rfl) (by rfl) (fun hbad => False.elim (by first | exact hbad rfl | omega)) (fun _ => ?_))
  repeat' (first|refine X.O ?_|refine X.A ?_|refine X.B ?_|refine X.C ?_|refine X.D ?_|refine X.E ?_|refine X.F ?_|refine X.G ?_|refine X.H ?_|refine X.I ?_|fail)
  try (refine WL.gsplitD (by rfl) (by rfl) (by rfl) (fun hbad => False.elim (by first | exact hbad rfl | omega)) (fun _ => ?_))
  repeat' (first|refine X.O ?_|refine X.A ?_|refine X.B ?_|refine X.C ?_|refine X.D ?_|refine X.E ?_|refine X.F ?_|refine X.G ?_|refine X.H ?_|refine X.I ?_|fail)
  refine WL.step (o_loadS (by rfl) ((hT.next hB).blk 3 rfl) (by rfl) ?_)
  refine WL.step (o_loadS (by rfl) ((hT.next hB).blk 1 rfl) (by rfl) ?_)
  refine WL.call (likeTableau5_rd ((hT.next hB).tab 3 rfl) ((hT.next hB).tab 1 rfl) rfl) ?_
  rintro _ w15 ⟨rfl, hbl15⟩
  replace hD := hD.next hbl15
  replace hB := hB.trans (Below.mono hbl15 hB.size)
  clear hbl15
  have hsb15 : sb < w15.heap.size := hD.lt
  repeat' (first|refine X.O ?_|refine X.A ?_|refine X.B ?_|refine X.C ?_|refine X.D ?_|refine X.E ?_|refine X.F ?_|refine X.G ?_|refine X.H ?_|refine X.I ?_|fail)
  try (refine WL.gsplitD (by rfl) (by rfl) (by rfl) (fun hbad => False.elim (by first | exact hbad rfl | omega)) (fun _ => ?_))
  repeat' (first|refine X.O ?_|refine X.A ?_|refine X.B ?_|refine X.C ?_|refine X.D ?_|refine X.E ?_|refine X.F ?_|refine X.G ?_|refine X.H ?_|refine X.I ?_|fail)
  try (refine WL.gsplitD (by rfl) (by rfl) (by rfl) (fun hbad => False.elim (by first | exact hbad rfl | omega)) (fun _ => ?_))
  repeat' (first|refine X.O ?_|refine X.A ?_|refine X.B ?_|refine X.C ?_|refine X.D ?_|refine X.E ?_|refine X.F ?_|refine X.G ?_|refine X.H ?_|refine X.I ?_|fail)
  refine WL.fld ((hT.next hB).blk 1 rfl) ?_
  intro p16
  repeat' (first|refine X.O ?_|refine X.A ?_|refine X.B ?_|refine X.C ?_|refine X.D ?_|refine X.E ?_|refine X.F ?_|refine X.G ?_|refine X.H ?_|refine X.I ?_|fail)
  refine WL.fld ((hT.next hB).blk 0 rfl) ?_
  intro p17
  repeat' (first|refine X.O ?_|refine X.A ?_|refine X.B ?_|refine X.C ?_|refine X.D ?_|refine X.E ?_|refine X.F ?_|refine X.G ?_|refine X.H ?_|refine X.I ?_|fail)
  try (refine WP.condD (by rfl) (fun hbad => False.elim (by first | exact hbad rfl | omega)) (fun _ => ?_))
  repeat' (first|refine X.O ?_|refine X.A ?_|refine X.B ?_|refine X.C ?_|refine X.D ?_|refine X.E ?_|refine X.F ?_|refine X.G ?_|refine X.H ?_|refine X.I ?_|fail)
  refine WL.step (o_lit (us := []) (by rfl) (by rfl) rfl (by decide) one0 ?_)
  intro v18 w18 hown18 hbl18 hz18 _
  replace hD := hD.next hbl18
  have hz15 := hB.size
  replace hB := hB.trans (Below.mono hbl18 hz15)
  clear hbl18
  obtain ⟨bx, hbx⟩ : ∃ bx, w1.heap.size = bx := ⟨_, rfl⟩
  rw [hbx] at hT ⊢
  repeat' (first|refine X.O ?_|refine X.A ?_|refine X.B ?_|refine X.C ?_|refine X.D ?_|refine X.E ?_|refine X.F ?_|refine X.G ?_|refine X.H ?_|refine X.I ?_|fail)
  refine WP.loop (fun (s : Nat × Value × List Int) => [(3, .pointer (some ⟨bx, 0, none⟩)), (12, .pointer (some ⟨sb, 0, none⟩)), (13, vt), (14, .int .i64 W), (18, s.2.1), (19, .int .i64 (s.1 : Nat))]) (fun s y => s.1 ≤ x.2.length ∧ s.2.2.length = s.1 ∧ sortL s.2.2 = firstT s.1 ∧ HaveD sb w y [(1, vt, t)] ∧ Below w10.heap.size w10 y ∧ Fw.Own w15.heap.size 2 y s.2.1 (Ints s.2.2) ∧ w15.heap.size ≤ y.heap.size) (fun s => x.2.length - s.1) (0, v18, []) ⟨rfl, rfl, rfl, rfl, rfl, rfl, trivial⟩ ⟨by dsimp only; omega, rfl, sort_first.2 ⟨rfl, fun i hi => by omega⟩, hD, hB, hown18, by omega⟩ ?_
  clear hD hB hown18
  rintro ⟨k, vo, o⟩ wy ⟨hk, hol, hso, hD, hB, hown, hyz⟩
  dsimp only at hk hol hso hD hB hown hyz ⊢
  repeat' (first|refine X.O ?_|refine X.A ?_|refine X.B ?_|refine X.C ?_|refine X.D ?_|refine X.E ?_|refine X.F ?_|refine X.G ?_|refine X.H ?_|refine X.I ?_|fail)
  refine WL.fld ((hT.next hB).blk 0 rfl) ?_
  intro p19
  repeat' (first|refine X.O ?_|refine X.A ?_|refine X.B ?_|refine X.C ?_|refine X.D ?_|refine X.E ?_|refine X.F ?_|refine X.G ?_|refine X.H ?_|refine X.I ?_|fail)
  first|refine X.J (fun _ => ?_) (fun _ => ?_)|refine X.L (fun _ => ?_) (fun _ => ?_)|refine X.M (fun _ => ?_) (fun _ => ?_)|refine X.R (fun _ => ?_) (fun _ => ?_)|fail
  · rename_i hlt
    have hk1 : k < x.2.length := by omega
    repeat' (first|refine X.O ?_|refine X.A ?_|refine X.B ?_|refine X.C ?_|refine X.D ?_|refine X.E ?_|refine X.F ?_|refine X.G ?_|refine X.H ?_|refine X.I ?_|fail)
    refine WL.call (below_any hD.dice (((k : Nat) : Int) + 1) (by omega)) ?_
    rintro _ wz ⟨⟨jI, rfl, _, hj⟩, hro⟩
    have hj := hj (by omega)
    obtain ⟨j, rfl⟩ : ∃ j : Nat, jI = (j : Int) := ⟨jI.toNat, by omega⟩
    have hownz := rolled_own hown hro hsb15
    replace hD := hD.rolled hro
    replace hB := hB.trans (hro.chg.below hB.size (Or.inl (by omega)))
    have hzz := hro.chg.size
    clear hown hro
    replace hyz : w15.heap.size ≤ wz.heap.size := by omega
    clear hzz
    obtain ⟨wy, hwy⟩ : ∃ wy, wz = wy := ⟨_, rfl⟩
    subst hwy
    obtain ⟨ao, co, hvo, hco, _⟩ := hownz.shape
    rw [Ints_length] at hvo hco
    subst hvo
    have iO := hownz.toIS (Nat.le_refl _)
    repeat' (first|refine X.O ?_|refine X.A ?_|refine X.B ?_|refine X.C ?_|refine X.D ?_|refine X.E ?_|refine X.F ?_|refine X.G ?_|refine X.H ?_|refine X.I ?_|fail)
    refine WP.midB3 (fun l' y => ∃ vo', Agree l' [(3, .pointer (some ⟨bx, 0, none⟩)), (12, .pointer (some ⟨sb, 0, none⟩)), (13, vt), (14, .int .i64 W), (18, vo'), (19, .int .i64 (k : Nat))] ∧ Below wz.heap.size wz y ∧ Fw.Own wz.heap.size 2 y vo' (Ints (o.take j ++ [((k : Nat) : Int)] ++ o.drop j))) ?_ ?_
    · refine WP.forked (fun w' => Below wz.heap.size wz w') (.q 1 (.q 2 (.q 3 (.q 5 (.q 8 (.q 9 (.q 10 (.two 0 (.two 4 (.o 6 (.o 7 (.o 11 (.q 12 .nil)))) 6 (.o 4 (.o 7 (.o 11 (.q 12 .nil))))) 6 (.o 0 (.o 4 (.o 7 (.o 11 (.q 12 .nil))))))))))))) (by kernel_rfl) mixed ?_
      intro u0 hu0
      have hS0 : Below wz.heap.size wz u0 := hu0.below _
      have hzu0 := hu0.size
      refine WT.q rfl (q_s (by rfl)) hS0 ?_
      refine WT.q rfl (q_s (by rfl)) hS0 ?_
      refine WT.q rfl (q_sliceH (i := j) (by rfl) (by rfl) (by omega)) hS0 ?_
      refine WT.q rfl (q_s (by rfl)) hS0 ?_
      refine WT.q rfl (q_s (by rfl)) hS0 ?_
      refine WT.q rfl (q_s (by rfl)) hS0 ?_
      refine WT.q rfl (q_sliceL (i := j) (by rfl) (by rfl) (by omega)) hS0 ?_
      refine WT.two rfl rfl (o_lit (us := []) (by rfl) (by rfl) rfl (by decide) one0 ?_) (o_lit (us := [.int .i64 (k : Nat)]) (by rfl) (by rfl) rfl (by decide) (one1 rfl) ?_)
      · intro v1 u1 hown1 hbl1 hz1 _
        have hS1 : Below wz.heap.size wz u1 := hS0.trans (Below.mono hbl1 (by omega))
        refine ⟨hS1, ?_⟩
        refine WT.two rfl rfl (o_append (us := []) (news := Ints (o.take j)) (by rfl) (by rfl) hown1 (IS.src (SL.take (iO.below RI.stable hS1 iO.hi_le) (show j ≤ o.length by omega))) Ints_one (by rw [Ints_length, List.length_take]; simp [maxLen]; omega) (by rw [Ints_length, List.length_take]; simp; omega) (by omega) ?_) (o_lit (us := [.int .i64 (k : Nat)]) (by rfl) (by rfl) rfl (by decide) (one1 rfl) ?_)
        · intro v4 u4 hown4 hg4 hbl4 _
          have hz4 := hg4.size
          have hS4 : Below wz.heap.size wz u4 := hS1.trans (Below.mono hbl4 (by omega))
          refine ⟨hS4, ?_⟩
          rw [List.nil_append] at hown4
          refine WT.o rfl (o_lit (us := [.int .i64 (k : Nat)]) (by rfl) (by rfl) rfl (by decide) (one1 rfl) ?_)
          intro v6 u6 hown6 hbl6 hz6 _
          have hS6 : Below wz.heap.size wz u6 := hS4.trans (Below.mono hbl6 (by omega))
          refine ⟨hS6, ?_⟩
          refine WT.o rfl (o_append (us := Ints (o.take j)) (news := [.int .i64 (k : Nat)]) (by rfl) (by rfl) (hown4.below hbl6 (Nat.le_refl _)) hown6.src (one1 rfl) (by rw [Ints_length, List.length_take]; simp [maxLen]; omega) (by rw [Ints_length, List.length_take]; simp; omega) (by omega) ?_)
          intro v7 u7 hown7 hg7 hbl7 _
          have hz7 := hg7.size
          have hS7 : Below wz.heap.size wz u7 := hS6.trans (Below.mono hbl7 (by omega))
          refine ⟨hS7, ?_⟩
          have e7 : Ints (o.take j) ++ [.int .i64 (k : Nat)] = Ints (o.take j ++ [((k : Nat) : Int)]) := by rw [Ints_append]; rfl
          rw [e7] at hown7
          refine WT.o rfl (o_append (us := Ints (o.take j ++ [((k : Nat) : Int)])) (news := Ints (o.drop j)) (by rfl) (by rfl) hown7 (IS.src ((SL.drop (iO.below RI.stable hS7 iO.hi_le) (show j ≤ o.length by omega)))) Ints_one (by rw [Ints_length, Ints_length]; simp [maxLen]; omega) (by rw [Ints_length, Ints_length]; simp; omega) (by omega) ?_)
          intro v8 u8 hown8 hg8 hbl8 _
          have hz8 := hg8.size
          have hS8 : Below wz.heap.size wz u8 := hS7.trans (Below.mono hbl8 (by omega))
          refine ⟨hS8, ?_⟩
          rw [← Ints_append] at hown8
          refine WT.q rfl (q_s (by rfl)) hS8 ?_
          exact WT.nil (blkN (thenN ⟨v8, ⟨rfl, rfl, rfl, rfl, rfl, rfl, trivial⟩, hS8, hown8.lower (by omega)⟩))
        · intro v6 u6 hown6 hbl6 hz6 _
          have hS6 : Below wz.heap.size wz u6 := hS1.trans (Below.mono hbl6 (by omega))
          refine ⟨hS6, ?_⟩
          refine WT.o rfl (o_append (us := []) (news := Ints (o.take j)) (by rfl) (by rfl) (hown1.below hbl6 (Nat.le_refl _)) (IS.src (SL.take (iO.below RI.stable hS6 iO.hi_le) (show j ≤ o.length by omega))) Ints_one (by rw [Ints_length, List.length_take]; simp [maxLen]; omega) (by rw [Ints_length, List.length_take]; simp; omega) (by omega) ?_)
          intro v4 u4 hown4 hg4 hbl4 _
          have hz4 := hg4.size
          have hS4 : Below wz.heap.size wz u4 := hS6.trans (Below.mono hbl4 (by omega))
          refine ⟨hS4, ?_⟩
          rw [List.nil_append] at hown4
          have hown6' := hown6.keep (w' := u4) fun k hk => by
            obtain ⟨q1, q2⟩ := hown6.block k hk
            rw [hg4.block k q2 (fun e => by have := (hown1.block k e.symm).2; omega)]
          refine WT.o rfl (o_append (us := Ints (o.take j)) (news := [.int .i64 (k : Nat)]) (by rfl) (by rfl) hown4 hown6'.src (one1 rfl) (by rw [Ints_length, List.length_take]; simp [maxLen]; omega) (by rw [Ints_length, List.length_take]; simp; omega) (by omega) ?_)
          intro v7 u7 hown7 hg7 hbl7 _
          have hz7 := hg7.size
          have hS7 : Below wz.heap.size wz u7 := hS4.trans (Below.mono hbl7 (by omega))
          refine ⟨hS7, ?_⟩
          have e7 : Ints (o.take j) ++ [.int .i64 (k : Nat)] = Ints (o.take j ++ [((k : Nat) : Int)]) := by rw [Ints_append]; rfl
          rw [e7] at hown7
          refine WT.o rfl (o_append (us := Ints (o.take j ++ [((k : Nat) : Int)])) (news := Ints (o.drop j)) (by rfl) (by rfl) hown7 (IS.src ((SL.drop (iO.below RI.stable hS7 iO.hi_le) (show j ≤ o.length by omega)))) Ints_one (by rw [Ints_length, Ints_length]; simp [maxLen]; omega) (by rw [Ints_length, Ints_length]; simp; omega) (by omega) ?_)
          intro v8 u8 hown8 hg8 hbl8 _
          have hz8 := hg8.size
          have hS8 : Below wz.heap.size wz u8 := hS7.trans (Below.mono hbl8 (by omega))
          refine ⟨hS8, ?_⟩
          rw [← Ints_append] at hown8
          refine WT.q rfl (q_s (by rfl)) hS8 ?_
          exact WT.nil (blkN (thenN ⟨v8, ⟨rfl, rfl, rfl, rfl, rfl, rfl, trivial⟩, hS8, hown8.lower (by omega)⟩))
      · intro v6 u6 hown6 hbl6 hz6 _
        have hS6 : Below wz.heap.size wz u6 := hS0.trans (Below.mono hbl6 (by omega))
        refine ⟨hS6, ?_⟩
        refine WT.o rfl (o_lit (us := []) (by rfl) (by rfl) rfl (by decide) one0 ?_)
        intro v1 u1 hown1 hbl1 hz1 _
        have hS1 : Below wz.heap.size wz u1 := hS6.trans (Below.mono hbl1 (by omega))
        refine ⟨hS1, ?_⟩
        refine WT.o rfl (o_append (us := []) (news := Ints (o.take j)) (by rfl) (by rfl) hown1 (IS.src (SL.take (iO.below RI.stable hS1 iO.hi_le) (show j ≤ o.length by omega))) Ints_one (by rw [Ints_length, List.length_take]; simp [maxLen]; omega) (by rw [Ints_length, List.length_take]; simp; omega) (by omega) ?_)
        intro v4 u4 hown4 hg4 hbl4 _
        have hz4 := hg4.size
        have hS4 : Below wz.heap.size wz u4 := hS1.trans (Below.mono hbl4 (by omega))
        refine ⟨hS4, ?_⟩
        rw [List.nil_append] at hown4
        have hown6' := (hown6.below hbl1 (Nat.le_refl _)).keep (w' := u4) fun k hk => hbl4.block k (hown6.block k hk).2
        refine WT.o rfl (o_append (us := Ints (o.take j)) (news := [.int .i64 (k : Nat)]) (by rfl) (by rfl) hown4 hown6'.src (one1 rfl) (by rw [Ints_length, List.length_take]; simp [maxLen]; omega) (by rw [Ints_length, List.length_take]; simp; omega) (by omega) ?_)
        intro v7 u7 hown7 hg7 hbl7 _
        have hz7 := hg7.size
        have hS7 : Below wz.heap.size wz u7 := hS4.trans (Below.mono hbl7 (by omega))
        refine ⟨hS7, ?_⟩
        have e7 : Ints (o.take j) ++ [.int .i64 (k : Nat)] = Ints (o.take j ++ [((k : Nat) : Int)]) := by rw [Ints_append]; rfl
        rw [e7] at hown7
        refine WT.o rfl (o_append (us := Ints (o.take j ++ [((k : Nat) : Int)])) (news := Ints (o.drop j)) (by rfl) (by rfl) hown7 (IS.src ((SL.drop (iO.below RI.stable hS7 iO.hi_le) (show j ≤ o.length by omega)))) Ints_one (by rw [Ints_length, Ints_length]; simp [maxLen]; omega) (by rw [Ints_length, Ints_length]; simp; omega) (by omega) ?_)
        intro v8 u8 hown8 hg8 hbl8 _
        have hz8 := hg8.size
        have hS8 : Below wz.heap.size wz u8 := hS7.trans (Below.mono hbl8 (by omega))
        refine ⟨hS8, ?_⟩
        rw [← Ints_append] at hown8
        refine WT.q rfl (q_s (by rfl)) hS8 ?_
        exact WT.nil (blkN (thenN ⟨v8, ⟨rfl, rfl, rfl, rfl, rfl, rfl, trivial⟩, hS8, hown8.lower (by omega)⟩))
    rintro l' y ⟨vo', hag, hbly, howny⟩
    refine WP.frame _ hag ?_
    clear hag
    have hzy := hbly.size
    repeat' (first|refine X.O ?_|refine X.A ?_|refine X.B ?_|refine X.C ?_|refine X.D ?_|refine X.E ?_|refine X.F ?_|refine X.G ?_|refine X.H ?_|refine X.I ?_|fail)
    exact ⟨(k + 1, vo', o.take j ++ [((k : Nat) : Int)] ++ o.drop j), ⟨rfl, rfl, rfl, rfl, rfl, X.T (by dsimp only; omega), trivial⟩, ⟨by dsimp only; omega, by simp; omega, by have := order_insert hso (k := j) (by omega); exact this, hD.next hbly, hB.trans (Below.mono hbly hB.size), howny.lower (by omega), by omega⟩, by dsimp only; omega⟩
  · rename_i hlt
    have hkx : k = x.2.length := by omega
    subst hkx
    obtain ⟨l, hst, hsl, hpl, hll⟩ := order_found tX hso
    have eP : permuteStages x o = (permL x o, 0) := by unfold permuteStages; rw [if_pos hx, if_pos hso]
    have eP2 : permuteStages x l = (permL x o, 0) := by unfold permuteStages; rw [if_pos hx, if_pos hsl, hpl]
    have eW := ePW o hso
    have iO := hown.toIS (Nat.le_refl _)
    obtain ⟨Y, hY⟩ : ∃ Y, permL x o = Y := ⟨_, rfl⟩
    rw [hY] at eP eP2 eW hst
    have hH := (HaveD.have hD).add 2 ⟨_, _, iO⟩
    have hTy := hT.next hB
    clear hD hB hown iO
    repeat' (first|refine X.O ?_|refine X.A ?_|refine X.B ?_|refine X.C ?_|refine X.D ?_|refine X.E ?_|refine X.F ?_|refine X.G ?_|refine X.H ?_|refine X.I ?_|fail)
    refine WL.step (o_loadS (by rfl) (hTy.blk 0 rfl) (by rfl) ?_)
    repeat' (first|refine X.O ?_|refine X.A ?_|refine X.B ?_|refine X.C ?_|refine X.D ?_|refine X.E ?_|refine X.F ?_|refine X.G ?_|refine X.H ?_|refine X.I ?_|fail)
    obtain ⟨_, _, iX⟩ := hTy.tab 0 rfl
    obtain ⟨_, _, iO⟩ := hH.get 2 rfl
    refine WL.call (PermuteStages_any iX iO (by omega)) ?_
    intro r20 w20 h20
    rw [eP] at h20
    obtain ⟨pa, pb, rfl, rP, hpc, hc20⟩ := ResT.rt h20
    clear h20
    replace hTy := hTy.chg hc20
    replace hH := hH.chg hc20
    repeat' (first|refine X.O ?_|refine X.A ?_|refine X.B ?_|refine X.C ?_|refine X.D ?_|refine X.E ?_|refine X.F ?_|refine X.G ?_|refine X.H ?_|refine X.I ?_|fail)
    refine WL.var (vs := [pa, pb]) (fun _ => by rfl) (by rfl) hpc ?_
    intro w21 hb21 hbl21 hz21
    replace hTy := hTy.add 4 rP hb21 hbl21
    replace hH := hH.next hbl21
    repeat' (first|refine X.O ?_|refine X.A ?_|refine X.B ?_|refine X.C ?_|refine X.D ?_|refine X.E ?_|refine X.F ?_|refine X.G ?_|refine X.H ?_|refine X.I ?_|fail)
    refine WL.step (o_loadS (by rfl) (hTy.blk 4 rfl) (by rfl) ?_)
    repeat' (first|refine X.O ?_|refine X.A ?_|refine X.B ?_|refine X.C ?_|refine X.D ?_|refine X.E ?_|refine X.F ?_|refine X.G ?_|refine X.H ?_|refine X.I ?_|fail)
    obtain ⟨_, _, iX⟩ := hTy.tab 4 rfl
    obtain ⟨_, _, iT⟩ := hH.get 1 rfl
    refine WL.call (WeightOf_any iX iT) ?_
    rintro _ w22 ⟨rfl, hc22⟩
    rw [eW]
    replace hTy := hTy.chg hc22
    replace hH := hH.chg hc22
    repeat' (first|refine X.O ?_|refine X.A ?_|refine X.B ?_|refine X.C ?_|refine X.D ?_|refine X.E ?_|refine X.F ?_|refine X.G ?_|refine X.H ?_|refine X.I ?_|fail)
    refine WL.step (o_loadS (by rfl) (hTy.blk 0 rfl) (by rfl) ?_)
    refine WL.step (o_loadS (by rfl) (hTy.blk 4 rfl) (by rfl) ?_)
    obtain ⟨_, _, iX⟩ := hTy.tab 0 rfl
    obtain ⟨_, _, iY⟩ := hTy.tab 4 rfl
    refine WL.call (StageOrder_any iX iY) ?_
    rintro r23 w23 ⟨v23, rfl, hN23⟩
    rw [hst] at hN23 ⊢
    dsimp only at hN23
    replace hTy := hTy.next hN23.2
    replace hH := hH.new 3 hN23
    clear hN23
    repeat' (first|refine X.O ?_|refine X.A ?_|refine X.B ?_|refine X.C ?_|refine X.D ?_|refine X.E ?_|refine X.F ?_|refine X.G ?_|refine X.H ?_|refine X.I ?_|fail)
    try (refine WL.gsplitD (by rfl) (by rfl) (by rfl) (fun hbad => False.elim (by first | exact hbad rfl | omega)) (fun _ => ?_))
    repeat' (first|refine X.O ?_|refine X.A ?_|refine X.B ?_|refine X.C ?_|refine X.D ?_|refine X.E ?_|refine X.F ?_|refine X.G ?_|refine X.H ?_|refine X.I ?_|fail)
    try (refine WL.gsplitD (by rfl) (by rfl) (by rfl) (fun hbad => False.elim (by first | exact hbad rfl | omega)) (fun _ => ?_))
    repeat' (first|refine X.O ?_|refine X.A ?_|refine X.B ?_|refine X.C ?_|refine X.D ?_|refine X.E ?_|refine X.F ?_|refine X.G ?_|refine X.H ?_|refine X.I ?_|fail)
    try (refine WL.gsplitD (by rfl) (by rfl) (by rfl) (fun hbad => False.elim (by first | exact hbad rfl | omega)) (fun _ => ?_))
    repeat' (first|refine X.O ?_|refine X.A ?_|refine X.B ?_|refine X.C ?_|refine X.D ?_|refine X.E ?_|refine X.F ?_|refine X.G ?_|refine X.H ?_|refine X.I ?_|fail)
    try (refine WP.condD (by rfl) (fun hbad => False.elim (by first | exact hbad rfl | omega)) (fun _ => ?_))
    repeat' (first|refine X.O ?_|refine X.A ?_|refine X.B ?_|refine X.C ?_|refine X.D ?_|refine X.E ?_|refine X.F ?_|refine X.G ?_|refine X.H ?_|refine X.I ?_|fail)
    refine WL.step (o_loadS (by rfl) (hTy.blk 0 rfl) (by rfl) ?_)
    repeat' (first|refine X.O ?_|refine X.A ?_|refine X.B ?_|refine X.C ?_|refine X.D ?_|refine X.E ?_|refine X.F ?_|refine X.G ?_|refine X.H ?_|refine X.I ?_|fail)
    obtain ⟨_, _, iX⟩ := hTy.tab 0 rfl
    obtain ⟨_, _, iO⟩ := hH.get 3 rfl
    refine WL.call (PermuteStages_any iX iO (by omega)) ?_
    intro r24 w24 h24
    rw [eP2] at h24
    obtain ⟨qa, qb, rfl, rQ, hqc, hc24⟩ := ResT.rt h24
    clear h24
    replace hTy := hTy.chg hc24
    repeat' (first|refine X.O ?_|refine X.A ?_|refine X.B ?_|refine X.C ?_|refine X.D ?_|refine X.E ?_|refine X.F ?_|refine X.G ?_|refine X.H ?_|refine X.I ?_|fail)
    refine WL.var (vs := [qa, qb]) (fun _ => by rfl) (by rfl) hqc ?_
    intro w25 hb25 hbl25 hz25
    replace hTy := hTy.add 5 rQ hb25 hbl25
    repeat' (first|refine X.O ?_|refine X.A ?_|refine X.B ?_|refine X.C ?_|refine X.D ?_|refine X.E ?_|refine X.F ?_|refine X.G ?_|refine X.H ?_|refine X.I ?_|fail)
    refine WL.step (o_loadS (by rfl) (hTy.blk 5 rfl) (by rfl) ?_)
    refine WL.step (o_loadS (by rfl) (hTy.blk 4 rfl) (by rfl) ?_)
    refine WL.call (likeTableau5_rd (hTy.tab 5 rfl) (hTy.tab 4 rfl) rfl) ?_
    rintro _ w26 ⟨rfl, hbl26⟩
    replace hTy := hTy.next hbl26
    repeat' (first|refine X.O ?_|refine X.A ?_|refine X.B ?_|refine X.C ?_|refine X.D ?_|refine X.E ?_|refine X.F ?_|refine X.G ?_|refine X.H ?_|refine X.I ?_|fail)
    refine ⟨_, ret1 rfl (by rfl), ?_⟩
    exact ⟨rfl, hTy.bel⟩
end Go.Proofs
