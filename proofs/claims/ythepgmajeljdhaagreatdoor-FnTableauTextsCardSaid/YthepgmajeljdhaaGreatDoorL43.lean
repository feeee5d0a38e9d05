/- The law of the texts of tableaus, walked. -/
import Derived.Test.YthepgmajeljdhaaGreatDoorM9
import Derived.Test.YthepgmajeljdhaaGreatDoorV6
import Derived.Test.YthepgmajeljdhaaGreatDoorZJ
import Derived.Test.YthepgmajeljdhaaGreatDoorD8
set_option maxRecDepth 8000
namespace Go.Rk
open Go.Fw Go.Proofs
theorem tableauText_cases (x : TabD) : isTab x = decide ((tableauText x).2 = 0) ∧ ((tableauText x).2 = 0 → tableauText x = (tabText x, 0) ∧ isTab x = true) := by
  unfold tableauText
  by_cases h : isTab x = true
  · rw [if_pos h, h]; exact ⟨rfl, fun _ => ⟨rfl, rfl⟩⟩
  · rw [if_neg h, Bool.eq_false_iff.2 h]; exact ⟨rfl, fun h => by cases h⟩
end Go.Rk
namespace Go.Proofs
open Go Go.Fw Go.RowKit Go.Rk
set_option maxHeartbeats 4000000 in
theorem FnTableauTexts_any {w : World} {lo hi : Nat} {v : Value} {bs : List Int} (h : IU lo hi w v bs) (hSW : SW w) : Does Tryz.prog 3 [v] w fun r w' => r = .bool true ∧ Below w.heap.size w w' := by
  have hhl := h.hi_le
  refine Does.enter Tryz.func3 Tryz.ntmps3 rfl (by rfl) ?_
  repeat' (first|refine X.O ?_|refine X.A ?_|refine X.B ?_|refine X.C ?_|refine X.D ?_|refine X.E ?_|refine X.F ?_|refine X.G ?_|refine X.H ?_|refine X.I ?_|fail)
  refine WL.call (big_any h) ?_
  rintro _ w0 ⟨rfl, hs0⟩
  repeat' (first|refine X.O ?_|refine X.A ?_|refine X.B ?_|refine X.C ?_|refine X.D ?_|refine X.E ?_|refine X.F ?_|refine X.G ?_|refine X.H ?_|refine X.I ?_|fail)
  first|refine X.J (fun _ => ?_) (fun _ => ?_)|refine X.L (fun _ => ?_) (fun _ => ?_)|refine X.M (fun _ => ?_) (fun _ => ?_)|refine X.R (fun _ => ?_) (fun _ => ?_)|fail
  · repeat' (first|refine X.O ?_|refine X.A ?_|refine X.B ?_|refine X.C ?_|refine X.D ?_|refine X.E ?_|refine X.F ?_|refine X.G ?_|refine X.H ?_|refine X.I ?_|fail)
    refine ⟨_, ret1 rfl (by rfl), ?_⟩
    exact ⟨rfl, hs0.below _⟩
  rename_i hbig
  have hT : HaveT w w0 [] := ⟨hs0.below _, fun p hp => by simp at hp⟩
  repeat' (first|refine X.O ?_|refine X.A ?_|refine X.B ?_|refine X.C ?_|refine X.D ?_|refine X.E ?_|refine X.F ?_|refine X.G ?_|refine X.H ?_|refine X.I ?_|fail)
  refine WL.call (DrawTableauText_any (h.still RU.stable hs0) (by omega)) ?_
  rintro v1 w1 ⟨⟨x, _, hX⟩, hcX⟩
  replace hT := hT.chg hcX
  have rX : RT w1 v1 x := ⟨_, _, hX⟩
  obtain ⟨xa, xb, rfl, hxc⟩ := rX.cells
  refine WL.var (vs := [xa, xb]) (fun _ => by rfl) (by rfl) hxc ?_
  intro w2 hb2 hbl2 hz2
  replace hT := hT.add 0 rX hb2 hbl2
  repeat' (first|refine X.O ?_|refine X.A ?_|refine X.B ?_|refine X.C ?_|refine X.D ?_|refine X.E ?_|refine X.F ?_|refine X.G ?_|refine X.H ?_|refine X.I ?_|fail)
  refine WL.step (o_loadS (by rfl) (hT.blk 0 rfl) (by rfl) ?_)
  obtain ⟨_, _, iX⟩ := hT.tab 0 rfl
  refine WL.call (TableauText_any iX (hSW.below hT.bel).t10) ?_
  rintro _ w3 ⟨rfl, hc3⟩
  replace hT := hT.chg hc3
  repeat' (first|refine X.O ?_|refine X.A ?_|refine X.B ?_|refine X.C ?_|refine X.D ?_|refine X.E ?_|refine X.F ?_|refine X.G ?_|refine X.H ?_|refine X.I ?_|fail)
  refine WL.step (o_loadS (by rfl) (hT.blk 0 rfl) (by rfl) ?_)
  obtain ⟨_, _, iX⟩ := hT.tab 0 rfl
  refine WL.call (sTableauText_any iX) ?_
  rintro _ w4 ⟨rfl, hc4⟩
  replace hT := hT.chg hc4
  obtain ⟨he, hok⟩ := tableauText_cases x
  obtain ⟨tx, htx⟩ : ∃ tx, (tableauText x).1 = tx := ⟨_, rfl⟩
  obtain ⟨c, hc⟩ : ∃ c, (tableauText x).2 = c := ⟨_, rfl⟩
  rw [hc] at he hok
  rw [htx, hc]
  repeat' (first|refine X.O ?_|refine X.A ?_|refine X.B ?_|refine X.C ?_|refine X.D ?_|refine X.E ?_|refine X.F ?_|refine X.G ?_|refine X.H ?_|refine X.I ?_|fail)
  try (refine WL.gsplitD (by rfl) (by rfl) (by rfl) (fun hbad => False.elim (by first | exact hbad rfl | omega)) (fun _ => ?_))
  repeat' (first|refine X.O ?_|refine X.A ?_|refine X.B ?_|refine X.C ?_|refine X.D ?_|refine X.E ?_|refine X.F ?_|refine X.G ?_|refine X.H ?_|refine X.I ?_|fail)
  refine WL.step (o_textEq (by rfl) (by rfl) ?_)
  repeat' (first|refine X.O ?_|refine X.A ?_|refine X.B ?_|refine X.C ?_|refine X.D ?_|refine X.E ?_|refine X.F ?_|refine X.G ?_|refine X.H ?_|refine X.I ?_|fail)
  refine WL.step (o_loadS (by rfl) (hT.blk 0 rfl) (by rfl) ?_)
  obtain ⟨_, _, iX⟩ := hT.tab 0 rfl
  refine WL.call (IsTableau_any iX) ?_
  rintro _ w5 ⟨rfl, hc5⟩
  replace hT := hT.chg hc5
  rw [he]
  repeat' (first|refine X.O ?_|refine X.A ?_|refine X.B ?_|refine X.C ?_|refine X.D ?_|refine X.E ?_|refine X.F ?_|refine X.G ?_|refine X.H ?_|refine X.I ?_|fail)
  refine WL.step (o_neqB Tryz.underlying4 (by rfl) (by rfl) ?_)
  repeat' (first|refine X.O ?_|refine X.A ?_|refine X.B ?_|refine X.C ?_|refine X.D ?_|refine X.E ?_|refine X.F ?_|refine X.G ?_|refine X.H ?_|refine X.I ?_|fail)
  refine WP.mid (fun l' y => Agree l' [(0, v)] ∧ Below w.heap.size w y) ?_ ?_
  · first|refine X.J (fun _ => ?_) (fun _ => ?_)|refine X.L (fun _ => ?_) (fun _ => ?_)|refine X.M (fun _ => ?_) (fun _ => ?_)|refine X.R (fun _ => ?_) (fun _ => ?_)|fail
    · rename_i hc0
      obtain ⟨et, hx⟩ := hok hc0
      rw [et] at htx
      have htx : tabText x = tx := htx
      subst htx
      have htl := tabText_length (isTab_iff hx)
      repeat' (first|refine X.O ?_|refine X.A ?_|refine X.B ?_|refine X.C ?_|refine X.D ?_|refine X.E ?_|refine X.F ?_|refine X.G ?_|refine X.H ?_|refine X.I ?_|fail)
      refine WL.call (ParseTableau_any (tabText x) (by omega) (hSW.below hT.bel)) ?_
      intro r6 w6 h6
      rw [parse_text hx] at h6
      obtain ⟨ya, yb, rfl, rY, hyc, hc6⟩ := ResT.rt h6
      clear h6
      replace hT := hT.chg hc6
      repeat' (first|refine X.O ?_|refine X.A ?_|refine X.B ?_|refine X.C ?_|refine X.D ?_|refine X.E ?_|refine X.F ?_|refine X.G ?_|refine X.H ?_|refine X.I ?_|fail)
      refine WL.var (vs := [ya, yb]) (fun _ => by rfl) (by rfl) hyc ?_
      intro w7 hb7 hbl7 hz7
      replace hT := hT.add 1 rY hb7 hbl7
      repeat' (first|refine X.O ?_|refine X.A ?_|refine X.B ?_|refine X.C ?_|refine X.D ?_|refine X.E ?_|refine X.F ?_|refine X.G ?_|refine X.H ?_|refine X.I ?_|fail)
      refine WL.step (o_loadS (by rfl) (hT.blk 1 rfl) (by rfl) ?_)
      refine WL.step (o_loadS (by rfl) (hT.blk 0 rfl) (by rfl) ?_)
      refine WL.call (likeTableau5_rd (hT.tab 1 rfl) (hT.tab 0 rfl) rfl) ?_
      rintro _ w8 ⟨rfl, hbl8⟩
      replace hT := hT.next hbl8
      repeat' (first|refine X.O ?_|refine X.A ?_|refine X.B ?_|refine X.C ?_|refine X.D ?_|refine X.E ?_|refine X.F ?_|refine X.G ?_|refine X.H ?_|refine X.I ?_|fail)
      exact ⟨⟨rfl, trivial⟩, hT.bel⟩
    · repeat' (first|refine X.O ?_|refine X.A ?_|refine X.B ?_|refine X.C ?_|refine X.D ?_|refine X.E ?_|refine X.F ?_|refine X.G ?_|refine X.H ?_|refine X.I ?_|fail)
      exact ⟨⟨rfl, trivial⟩, hT.bel⟩
  clear hT he hok htx hc iX
  rintro l' w9 ⟨hag, hB9⟩
  refine WP.frame _ hag ?_
  clear hag
  repeat' (first|refine X.O ?_|refine X.A ?_|refine X.B ?_|refine X.C ?_|refine X.D ?_|refine X.E ?_|refine X.F ?_|refine X.G ?_|refine X.H ?_|refine X.I ?_|fail)
  refine WL.call (DrawParseTableau_any (h.below RU.stable hB9 hhl) (by omega)) ?_
  rintro _ w10 ⟨⟨t, rfl, htl⟩, hB10⟩
  have hT : HaveT w w10 [] := ⟨hB9.trans (Below.mono hB10 hB9.size), fun p hp => by simp at hp⟩
  repeat' (first|refine X.O ?_|refine X.A ?_|refine X.B ?_|refine X.C ?_|refine X.D ?_|refine X.E ?_|refine X.F ?_|refine X.G ?_|refine X.H ?_|refine X.I ?_|fail)
  refine WL.call (ParseTableau_any t (by omega) (hSW.below hT.bel)) ?_
  intro r11 w11 h11
  have htab := parseTab_tab (s := t)
  obtain ⟨ya, yb, rfl, rY, hyc, hc11⟩ := ResT.rt h11
  clear h11
  replace hT := hT.chg hc11
  obtain ⟨Y, hY⟩ : ∃ Y, (parseTab t).1 = Y := ⟨_, rfl⟩
  obtain ⟨c2, hc2⟩ : ∃ c2, (parseTab t).2 = c2 := ⟨_, rfl⟩
  rw [hY] at rY htab
  rw [hc2] at htab ⊢
  repeat' (first|refine X.O ?_|refine X.A ?_|refine X.B ?_|refine X.C ?_|refine X.D ?_|refine X.E ?_|refine X.F ?_|refine X.G ?_|refine X.H ?_|refine X.I ?_|fail)
  refine WL.var (vs := [ya, yb]) (fun _ => by rfl) (by rfl) hyc ?_
  intro w12 hb12 hbl12 hz12
  replace hT := hT.add 2 rY hb12 hbl12
  repeat' (first|refine X.O ?_|refine X.A ?_|refine X.B ?_|refine X.C ?_|refine X.D ?_|refine X.E ?_|refine X.F ?_|refine X.G ?_|refine X.H ?_|refine X.I ?_|fail)
  refine WL.call (sParseTableau_any t (by omega) w12) ?_
  intro r13 w13 h13
  obtain ⟨za, zb, rfl, rZ, hzc, hc13⟩ := ResT.rt h13
  clear h13
  replace hT := hT.chg hc13
  rw [hY] at rZ
  rw [hc2]
  repeat' (first|refine X.O ?_|refine X.A ?_|refine X.B ?_|refine X.C ?_|refine X.D ?_|refine X.E ?_|refine X.F ?_|refine X.G ?_|refine X.H ?_|refine X.I ?_|fail)
  refine WL.var (vs := [za, zb]) (fun _ => by rfl) (by rfl) hzc ?_
  intro w14 hb14 hbl14 hz14
  replace hT := hT.add 3 rZ hb14 hbl14
  repeat' (first|refine X.O ?_|refine X.A ?_|refine X.B ?_|refine X.C ?_|refine X.D ?_|refine X.E ?_|refine X.F ?_|refine X.G ?_|refine X.H ?_|refine X.I ?_|fail)
  try (refine WL.gsplitD (by rfl) (by rfl) (by rfl) (fun hbad => False.elim (by first | exact hbad rfl | omega)) (fun _ => ?_))
  repeat' (first|refine X.O ?_|refine X.A ?_|refine X.B ?_|refine X.C ?_|refine X.D ?_|refine X.E ?_|refine X.F ?_|refine X.G ?_|refine X.H ?_|refine X.I ?_|fail)
  refine WL.step (o_loadS (by rfl) (hT.blk 2 rfl) (by rfl) ?_)
  refine WL.step (o_loadS (by rfl) (hT.blk 3 rfl) (by rfl) ?_)
  refine WL.call (likeTableau5_rd (hT.tab 2 rfl) (hT.tab 3 rfl) rfl) ?_
  rintro _ w15 ⟨rfl, hbl15⟩
  replace hT := hT.next hbl15
  repeat' (first|refine X.O ?_|refine X.A ?_|refine X.B ?_|refine X.C ?_|refine X.D ?_|refine X.E ?_|refine X.F ?_|refine X.G ?_|refine X.H ?_|refine X.I ?_|fail)
  first|refine X.J (fun _ => ?_) (fun _ => ?_)|refine X.L (fun _ => ?_) (fun _ => ?_)|refine X.M (fun _ => ?_) (fun _ => ?_)|refine X.R (fun _ => ?_) (fun _ => ?_)|fail
  · repeat' (first|refine X.O ?_|refine X.A ?_|refine X.B ?_|refine X.C ?_|refine X.D ?_|refine X.E ?_|refine X.F ?_|refine X.G ?_|refine X.H ?_|refine X.I ?_|fail)
    refine ⟨_, ret1 rfl (by rfl), ?_⟩
    exact ⟨rfl, hT.bel⟩
  rename_i hc0
  have hYt := htab (by omega)
  obtain ⟨_, _⟩ := tableauText_cases Y
  have eY : tableauText Y = (tabText Y, 0) := by unfold tableauText; rw [if_pos hYt]
  have hYl := tabText_length (isTab_iff hYt)
  repeat' (first|refine X.O ?_|refine X.A ?_|refine X.B ?_|refine X.C ?_|refine X.D ?_|refine X.E ?_|refine X.F ?_|refine X.G ?_|refine X.H ?_|refine X.I ?_|fail)
  refine WL.step (o_loadS (by rfl) (hT.blk 2 rfl) (by rfl) ?_)
  obtain ⟨_, _, iY⟩ := hT.tab 2 rfl
  refine WL.call (TableauText_any iY (hSW.below hT.bel).t10) ?_
  rintro _ w16 ⟨rfl, hc16⟩
  replace hT := hT.chg hc16
  rw [eY]
  repeat' (first|refine X.O ?_|refine X.A ?_|refine X.B ?_|refine X.C ?_|refine X.D ?_|refine X.E ?_|refine X.F ?_|refine X.G ?_|refine X.H ?_|refine X.I ?_|fail)
  refine WL.call (ParseTableau_any (tabText Y) (by omega) (hSW.below hT.bel)) ?_
  intro r17 w17 h17
  rw [parse_text hYt] at h17
  obtain ⟨qa, qb, rfl, rQ, hqc, hc17⟩ := ResT.rt h17
  clear h17
  replace hT := hT.chg hc17
  repeat' (first|refine X.O ?_|refine X.A ?_|refine X.B ?_|refine X.C ?_|refine X.D ?_|refine X.E ?_|refine X.F ?_|refine X.G ?_|refine X.H ?_|refine X.I ?_|fail)
  refine WL.var (vs := [qa, qb]) (fun _ => by rfl) (by rfl) hqc ?_
  intro w18 hb18 hbl18 hz18
  replace hT := hT.add 4 rQ hb18 hbl18
  repeat' (first|refine X.O ?_|refine X.A ?_|refine X.B ?_|refine X.C ?_|refine X.D ?_|refine X.E ?_|refine X.F ?_|refine X.G ?_|refine X.H ?_|refine X.I ?_|fail)
  refine WL.step (o_loadS (by rfl) (hT.blk 4 rfl) (by rfl) ?_)
  refine WL.step (o_loadS (by rfl) (hT.blk 2 rfl) (by rfl) ?_)
  refine WL.call (likeTableau5_rd (hT.tab 4 rfl) (hT.tab 2 rfl) rfl) ?_
  rintro _ w19 ⟨rfl, hbl19⟩
  replace hT := hT.next hbl19
  repeat' (first|refine X.O ?_|refine X.A ?_|refine X.B ?_|refine X.C ?_|refine X.D ?_|refine X.E ?_|refine X.F ?_|refine X.G ?_|refine X.H ?_|refine X.I ?_|fail)
  refine ⟨_, ret1 rfl (by rfl), ?_⟩
  exact ⟨rfl, hT.bel⟩
end Go.Proofs
