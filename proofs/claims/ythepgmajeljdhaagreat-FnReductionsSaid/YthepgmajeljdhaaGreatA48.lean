/- Alike stages merged, with their code; reducing, both sides. -/
import Derived.Test.YthepgmajeljdhaaGreatA43
import Derived.Test.YthepgmajeljdhaaGreatA45
import Derived.Test.YthepgmajeljdhaaGreatA47
import Derived.Test.YthepgmajeljdhaaGreatA3
namespace Go.Proofs
open Go Go.Fw Go.RowKit Go.Rk
theorem MergeStages_any {lo hi : Nat} {w : World} {v : Value} {x : TabD} (h : IT lo hi w v x) : Does Tryz.prog 8 [v] w fun r w' => ResT 25 2 w r w' (mergeStages x) := by
  have hz := h.hi_le
  obtain ⟨va, vb, rfl, hA, hB⟩ := h
  refine Does.enter Tryz.func8 Tryz.ntmps8 rfl (by rfl) ?_
  repeat' (first|refine X.O ?_|refine X.A ?_|refine X.B ?_|refine X.C ?_|refine X.D ?_|refine X.E ?_|refine X.F ?_|refine X.G ?_|refine X.H ?_|refine X.I ?_|fail)
  refine WL.step (o_box (by rfl) ?_)
  intro w1 hb1 hbl1 hz1
  refine WL.step (o_alloc ?_)
  intro w2 hb2 hbl2 hz2
  have hbl12 : Below w.heap.size w w2 := hbl1.trans (Below.mono hbl2 (by omega))
  have hc2 := Chg.of_below hbl12
  replace hb1 := hb1.below hbl2 (by omega)
  have hT : IT lo hi w (.agg #[va, vb]) x := ⟨va, vb, rfl, hA, hB⟩
  replace hT := hT.chg hc2 (by omega)
  repeat' (first|refine X.O ?_|refine X.A ?_|refine X.B ?_|refine X.C ?_|refine X.D ?_|refine X.E ?_|refine X.F ?_|refine X.G ?_|refine X.H ?_|refine X.I ?_|fail)
  refine WL.step (o_loadS (by rfl) hb1 (by rfl) ?_)
  refine WL.call (IsTableau_any hT) ?_
  rintro _ w3 ⟨rfl, hc3⟩
  have hz3 := hc3.size
  replace hT := hT.chg hc3 (by omega)
  replace hb1 := hb1.chg0 hc3
  replace hb2 := hb2.chg0 hc3
  repeat' (first|refine X.O ?_|refine X.A ?_|refine X.B ?_|refine X.C ?_|refine X.D ?_|refine X.E ?_|refine X.F ?_|refine X.G ?_|refine X.H ?_|refine X.I ?_|fail)
  first|refine X.J (fun _ => ?_) (fun _ => ?_)|refine X.L (fun _ => ?_) (fun _ => ?_)|refine X.M (fun _ => ?_) (fun _ => ?_)|refine X.R (fun _ => ?_) (fun _ => ?_)|fail
  · rename_i hbad
    repeat' (first|refine X.O ?_|refine X.A ?_|refine X.B ?_|refine X.C ?_|refine X.D ?_|refine X.E ?_|refine X.F ?_|refine X.G ?_|refine X.H ?_|refine X.I ?_|fail)
    refine WL.step (o_build (us := []) (cells := [.slice none 0 0, .slice none 0 0]) (by rfl) (by kernel_rfl) ?_)
    refine WL.step (o_storeS (vs := [.slice none 0 0, .slice none 0 0]) (by rfl) (by rfl) hb2 (by rfl) (by rfl) two_cells ?_)
    intro w4 hb4 hbut4
    have hc4 := hbut4.chg
    have hz4 := hbut4.size
    repeat' (first|refine X.O ?_|refine X.A ?_|refine X.B ?_|refine X.C ?_|refine X.D ?_|refine X.E ?_|refine X.F ?_|refine X.G ?_|refine X.H ?_|refine X.I ?_|fail)
    have e : mergeStages x = (([], []), 1) := by simp [mergeStages, hbad]
    rw [e]
    refine ⟨_, retS1 rfl (by rfl) hb4 (by rfl) (by rfl), _, rfl, ?_, ?_⟩
    · exact OwT.mk (m := w.heap.size) (x := ([], [])) ⟨[], Own.nil _ _ _, fun k hk => by simp [Value.ownBlock] at hk, by omega, rfl, fun i u xs hu => by simp at hu, fun i j u u' _ hu => by simp at hu, by decide⟩ ⟨Own.nil _ _ _, fun k hk => by simp [Value.ownBlock] at hk, Nat.le_refl _⟩ (Nat.le_refl _) (by omega)
    · refine ⟨by rw [hc4.os, hc3.os, hc2.os], by rw [hc4.tape, hc3.tape, hc2.tape], by rw [hc4.output, hc3.output, hc2.output], by omega, fun k hk hd => ?_⟩
      rw [hc4.block k (by omega) (by omega), hc3.block k (by omega) (by omega), hc2.block k hk (by omega)]
  · rename_i hok
    repeat' (first|refine X.O ?_|refine X.A ?_|refine X.B ?_|refine X.C ?_|refine X.D ?_|refine X.E ?_|refine X.F ?_|refine X.G ?_|refine X.H ?_|refine X.I ?_|fail)
    refine WL.step (o_loadS (by rfl) hb1 (by rfl) ?_)
    refine WL.call (merged_any hT (isTab_iff hok)) ?_
    rintro v4 w4 ⟨oT, hc4⟩
    have hz4 := hc4.size
    replace hb2 := hb2.chg0 hc4
    obtain ⟨aq, nq, cq, ar, nr, cr, rfl⟩ := oT.cells
    refine WL.step (o_storeS (vs := [.slice aq nq cq, .slice ar nr cr]) (by rfl) (by rfl) hb2 (by rfl) (by rfl) two_cells ?_)
    intro w5 hb5 hbut5
    have hc5 := hbut5.chg
    have hz5 := hbut5.size
    repeat' (first|refine X.O ?_|refine X.A ?_|refine X.B ?_|refine X.C ?_|refine X.D ?_|refine X.E ?_|refine X.F ?_|refine X.G ?_|refine X.H ?_|refine X.I ?_|fail)
    have e : mergeStages x = (mergeL x, 0) := by simp [mergeStages, hok]
    rw [e]
    refine ⟨_, retS1 rfl (by rfl) hb5 (by rfl) (by rfl), _, rfl, ?_, ?_⟩
    · exact (oT.chg hc5 (by omega)).wide (by omega) (by omega) (by omega)
    · refine ⟨by rw [hc5.os, hc4.os, hc3.os, hc2.os], by rw [hc5.tape, hc4.tape, hc3.tape, hc2.tape], by rw [hc5.output, hc4.output, hc3.output, hc2.output], by omega, fun k hk hd => ?_⟩
      rw [hc5.block k (by omega) (by omega), hc4.block k (by omega) (by omega), hc3.block k (by omega) (by omega), hc2.block k hk (by omega)]
theorem sMergeStages_any {lo hi : Nat} {w : World} {v : Value} {x : TabD} (h : IT lo hi w v x) : Does Tryz.prog 9 [v] w fun r w' => ResT 25 2 w r w' (mergeStages x) := by
  have hz := h.hi_le
  obtain ⟨va, vb, rfl, hA, hB⟩ := h
  refine Does.enter Tryz.func9 Tryz.ntmps9 rfl (by rfl) ?_
  repeat' (first|refine X.O ?_|refine X.A ?_|refine X.B ?_|refine X.C ?_|refine X.D ?_|refine X.E ?_|refine X.F ?_|refine X.G ?_|refine X.H ?_|refine X.I ?_|fail)
  refine WL.step (o_box (by rfl) ?_)
  intro w1 hb1 hbl1 hz1
  refine WL.step (o_alloc ?_)
  intro w2 hb2 hbl2 hz2
  have hbl12 : Below w.heap.size w w2 := hbl1.trans (Below.mono hbl2 (by omega))
  have hc2 := Chg.of_below hbl12
  replace hb1 := hb1.below hbl2 (by omega)
  have hT : IT lo hi w (.agg #[va, vb]) x := ⟨va, vb, rfl, hA, hB⟩
  replace hT := hT.chg hc2 (by omega)
  repeat' (first|refine X.O ?_|refine X.A ?_|refine X.B ?_|refine X.C ?_|refine X.D ?_|refine X.E ?_|refine X.F ?_|refine X.G ?_|refine X.H ?_|refine X.I ?_|fail)
  refine WL.step (o_loadS (by rfl) hb1 (by rfl) ?_)
  refine WL.call (l09Is_any hT) ?_
  rintro _ w3 ⟨rfl, hc3⟩
  have hz3 := hc3.size
  replace hT := hT.chg hc3 (by omega)
  replace hb1 := hb1.chg0 hc3
  replace hb2 := hb2.chg0 hc3
  repeat' (first|refine X.O ?_|refine X.A ?_|refine X.B ?_|refine X.C ?_|refine X.D ?_|refine X.E ?_|refine X.F ?_|refine X.G ?_|refine X.H ?_|refine X.I ?_|fail)
  first|refine X.J (fun _ => ?_) (fun _ => ?_)|refine X.L (fun _ => ?_) (fun _ => ?_)|refine X.M (fun _ => ?_) (fun _ => ?_)|refine X.R (fun _ => ?_) (fun _ => ?_)|fail
  · rename_i hbad
    repeat' (first|refine X.O ?_|refine X.A ?_|refine X.B ?_|refine X.C ?_|refine X.D ?_|refine X.E ?_|refine X.F ?_|refine X.G ?_|refine X.H ?_|refine X.I ?_|fail)
    refine WL.step (o_build (us := []) (cells := [.slice none 0 0, .slice none 0 0]) (by rfl) (by kernel_rfl) ?_)
    refine WL.step (o_storeS (vs := [.slice none 0 0, .slice none 0 0]) (by rfl) (by rfl) hb2 (by rfl) (by rfl) two_cells ?_)
    intro w4 hb4 hbut4
    have hc4 := hbut4.chg
    have hz4 := hbut4.size
    repeat' (first|refine X.O ?_|refine X.A ?_|refine X.B ?_|refine X.C ?_|refine X.D ?_|refine X.E ?_|refine X.F ?_|refine X.G ?_|refine X.H ?_|refine X.I ?_|fail)
    have e : mergeStages x = (([], []), 1) := by simp [mergeStages, hbad]
    rw [e]
    refine ⟨_, retS1 rfl (by rfl) hb4 (by rfl) (by rfl), _, rfl, ?_, ?_⟩
    · exact OwT.mk (m := w.heap.size) (x := ([], [])) ⟨[], Own.nil _ _ _, fun k hk => by simp [Value.ownBlock] at hk, by omega, rfl, fun i u xs hu => by simp at hu, fun i j u u' _ hu => by simp at hu, by decide⟩ ⟨Own.nil _ _ _, fun k hk => by simp [Value.ownBlock] at hk, Nat.le_refl _⟩ (Nat.le_refl _) (by omega)
    · refine ⟨by rw [hc4.os, hc3.os, hc2.os], by rw [hc4.tape, hc3.tape, hc2.tape], by rw [hc4.output, hc3.output, hc2.output], by omega, fun k hk hd => ?_⟩
      rw [hc4.block k (by omega) (by omega), hc3.block k (by omega) (by omega), hc2.block k hk (by omega)]
  · rename_i hok
    repeat' (first|refine X.O ?_|refine X.A ?_|refine X.B ?_|refine X.C ?_|refine X.D ?_|refine X.E ?_|refine X.F ?_|refine X.G ?_|refine X.H ?_|refine X.I ?_|fail)
    refine WL.step (o_loadS (by rfl) hb1 (by rfl) ?_)
    refine WL.call (l10Merge_any hT (isTab_iff hok)) ?_
    rintro v4 w4 ⟨oT, hc4⟩
    have hz4 := hc4.size
    replace hb2 := hb2.chg0 hc4
    obtain ⟨aq, nq, cq, ar, nr, cr, rfl⟩ := oT.cells
    refine WL.step (o_storeS (vs := [.slice aq nq cq, .slice ar nr cr]) (by rfl) (by rfl) hb2 (by rfl) (by rfl) two_cells ?_)
    intro w5 hb5 hbut5
    have hc5 := hbut5.chg
    have hz5 := hbut5.size
    repeat' (first|refine X.O ?_|refine X.A ?_|refine X.B ?_|refine X.C ?_|refine X.D ?_|refine X.E ?_|refine X.F ?_|refine X.G ?_|refine X.H ?_|refine X.I ?_|fail)
    have e : mergeStages x = (mergeL x, 0) := by simp [mergeStages, hok]
    rw [e]
    refine ⟨_, retS1 rfl (by rfl) hb5 (by rfl) (by rfl), _, rfl, ?_, ?_⟩
    · exact (oT.chg hc5 (by omega)).wide (by omega) (by omega) (by omega)
    · refine ⟨by rw [hc5.os, hc4.os, hc3.os, hc2.os], by rw [hc5.tape, hc4.tape, hc3.tape, hc2.tape], by rw [hc5.output, hc4.output, hc3.output, hc2.output], by omega, fun k hk hd => ?_⟩
      rw [hc5.block k (by omega) (by omega), hc4.block k (by omega) (by omega), hc3.block k (by omega) (by omega), hc2.block k hk (by omega)]
theorem reduced_any {lo hi : Nat} {w : World} {v : Value} {x : TabD} (h : IT lo hi w v x) (hx : Tab x) :
    Does Tryz.prog 48 [v] w fun r w' => OwT 25 2 w.heap.size w'.heap.size w' r (reduceL x) ∧ Chg 0 0 w w' := by
  have hz := h.hi_le
  obtain ⟨va, vb, rfl, hA, hB⟩ := h
  obtain ⟨aa0, ca0, hva0⟩ := hA.shape
  obtain ⟨ab0, cb0, hvb0⟩ := hB.shape
  subst hva0 hvb0
  have hT : IT lo hi w (.agg #[.slice aa0 x.1.length ca0, .slice ab0 x.2.length cb0]) x := ⟨_, _, rfl, hA, hB⟩
  refine Does.enter Tryz.func48 Tryz.ntmps48 rfl (by rfl) ?_
  repeat' (first|refine X.O ?_|refine X.A ?_|refine X.B ?_|refine X.C ?_|refine X.D ?_|refine X.E ?_|refine X.F ?_|refine X.G ?_|refine X.H ?_|refine X.I ?_|fail)
  refine WL.step (o_box (by rfl) ?_)
  intro w1 hb1 hbl1 hz1
  refine WL.step (o_alloc ?_)
  intro w2 hb2 hbl2 hz2
  have hbl12 : Below w.heap.size w w2 := hbl1.trans (Below.mono hbl2 (by omega))
  have hb12 : Blk w2 w.heap.size [.slice aa0 x.1.length ca0, .slice ab0 x.2.length cb0] 27 := hb1.below hbl2 (by omega)
  have hT2 := hT.below hbl12 hz
  have hml := meas_le hx
  repeat' (first|refine X.O ?_|refine X.A ?_|refine X.B ?_|refine X.C ?_|refine X.D ?_|refine X.E ?_|refine X.F ?_|refine X.G ?_|refine X.H ?_|refine X.I ?_|fail)
  refine WP.loop (fun (_ : TabD × Nat × Value × Value) => [(1, .pointer (some ⟨w.heap.size, 0, none⟩)), (2, .pointer (some ⟨w1.heap.size, 0, none⟩))])
    (fun s w3 => Tab s.1 ∧ meas s.1 ≤ s.2.1 ∧ reduceL x = redN (s.2.1 + 2) s.1 ∧ s.2.2.1.oneCell' = true ∧ s.2.2.2.oneCell' = true ∧ Blk w3 w.heap.size [s.2.2.1, s.2.2.2] 27 ∧ (IT lo hi w3 (.agg #[s.2.2.1, s.2.2.2]) s.1 ∨ IT w2.heap.size w3.heap.size w3 (.agg #[s.2.2.1, s.2.2.2]) s.1) ∧ Chg w.heap.size w1.heap.size w2 w3)
    (fun s => s.2.1) (x, 18, .slice aa0 x.1.length ca0, .slice ab0 x.2.length cb0) ⟨rfl, rfl, trivial⟩ ⟨hx, by dsimp only; omega, rfl, rfl, rfl, hb12, Or.inl hT2, Chg.refl _ _ _⟩ ?_
  rintro ⟨y, t, va, vb⟩ w3 ⟨hy, hmt, hre, ho1, ho2, hb3, hTT, hc3⟩
  dsimp only at hy hmt hre ho1 ho2 hb3 hTT ⊢
  have hz3 := hc3.size
  have hb23 := hb2.chg hc3 (Or.inr (Nat.le_refl _))
  obtain ⟨lo3, hi3, hT3, hhi3⟩ : ∃ lo3 hi3, IT lo3 hi3 w3 (.agg #[va, vb]) y ∧ (hi3 ≤ w.heap.size ∨ w2.heap.size ≤ lo3) := by
    rcases hTT with h | h
    · exact ⟨lo, hi, h, Or.inl hz⟩
    · exact ⟨_, _, h, Or.inr (Nat.le_refl _)⟩
  have hz33 := hT3.hi_le
  repeat' (first|refine X.O ?_|refine X.A ?_|refine X.B ?_|refine X.C ?_|refine X.D ?_|refine X.E ?_|refine X.F ?_|refine X.G ?_|refine X.H ?_|refine X.I ?_|fail)
  refine WL.step (o_loadS (by rfl) hb3 (by rfl) ?_)
  refine WL.call (dropped_any hT3 hy) ?_
  rintro v4 w4 ⟨oT4, hc4⟩
  have hz4 := hc4.size
  refine WL.call (merged_any oT4.rd (dropL_tab hy)) ?_
  rintro v5 w5 ⟨oT5, hc5⟩
  have hz5 := hc5.size
  obtain ⟨b1, m1, c1, b2, m2, c2, hl5⟩ := oT5.cells
  subst hl5
  refine WL.step (o_alloc ?_)
  intro w6 hb6 hbl6 hz6
  refine WL.step (o_storeS (vs := [.slice b1 m1 c1, .slice b2 m2 c2]) (by rfl) (by rfl) hb6 (by rfl) (by rfl) two_cells ?_)
  intro w7 hb7 hbut7
  have hz7 := hbut7.size
  have hstep : mergeL (dropL y) = stepR y := rfl
  rw [hstep] at oT5
  have hbl57 : Below w5.heap.size w5 w7 := hbl6.trans (hbut7.below (by omega))
  have hc35 : Chg 0 0 w3 w5 := hc4.trans hc5
  have hc37 : Chg 0 0 w3 w7 := hc35.trans (Chg.of_below hbl57)
  have oT7 := oT5.chg (Chg.of_below hbl57) (by omega)
  have hb37 := hb3.chg0 hc37
  have hb27 := hb23.chg0 hc37
  have hT7 := hT3.chg hc37 (by omega)
  repeat' (first|refine X.O ?_|refine X.A ?_|refine X.B ?_|refine X.C ?_|refine X.D ?_|refine X.E ?_|refine X.F ?_|refine X.G ?_|refine X.H ?_|refine X.I ?_|fail)
  refine WL.step (o_loadS (by rfl) hb7 (by rfl) ?_)
  refine WL.step (o_loadS (by rfl) hb37 (by rfl) ?_)
  refine WL.call (tabEqual_any oT7.rd hT7) ?_
  rintro _ w8 ⟨rfl, hc8⟩
  have hz8 := hc8.size
  have hc38 := hc37.trans hc8
  have oT8 := oT7.chg hc8 (by omega)
  have hb78 := hb7.chg0 hc8
  have hb38 := hb37.chg0 hc8
  have hb28 := hb27.chg0 hc8
  repeat' (first|refine X.O ?_|refine X.A ?_|refine X.B ?_|refine X.C ?_|refine X.D ?_|refine X.E ?_|refine X.F ?_|refine X.G ?_|refine X.H ?_|refine X.I ?_|fail)
  first|refine X.J (fun _ => ?_) (fun _ => ?_)|refine X.L (fun _ => ?_) (fun _ => ?_)|refine X.M (fun _ => ?_) (fun _ => ?_)|refine X.R (fun _ => ?_) (fun _ => ?_)|fail
  · rename_i heq
    repeat' (first|refine X.O ?_|refine X.A ?_|refine X.B ?_|refine X.C ?_|refine X.D ?_|refine X.E ?_|refine X.F ?_|refine X.G ?_|refine X.H ?_|refine X.I ?_|fail)
    refine WL.step (o_loadS (by rfl) hb78 (by rfl) ?_)
    refine WL.step (o_storeS (vs := [.slice b1 m1 c1, .slice b2 m2 c2]) (by rfl) (by rfl) hb28 (by rfl) (by rfl) two_cells ?_)
    intro w9 hb9 hbut9
    have hz9 := hbut9.size
    have hc9 := hbut9.chg
    have er : reduceL x = stepR y := by rw [hre, redN_stop (heq : stepR y = y)]; exact (heq : stepR y = y).symm
    rw [er]
    repeat' (first|refine X.O ?_|refine X.A ?_|refine X.B ?_|refine X.C ?_|refine X.D ?_|refine X.E ?_|refine X.F ?_|refine X.G ?_|refine X.H ?_|refine X.I ?_|fail)
    refine ⟨_, retS rfl (by rfl) hb9 (by rfl), (oT8.chg hc9 (by omega)).wide (by omega) (by omega) (by omega), ?_⟩
    refine ⟨by rw [hc9.os, hc38.os, hc3.os, hbl12.os], by rw [hc9.tape, hc38.tape, hc3.tape, hbl12.tape], by rw [hc9.output, hc38.output, hc3.output, hbl12.output], by omega, fun k hk hd => ?_⟩
    rw [hc9.block k (by omega) (by omega), hc38.block k (by omega) (by omega), hc3.block k (by omega) (by omega), hbl12.block k hk]
  · rename_i hne
    have hlt := stepR_meas hy (hne : stepR y ≠ y)
    have hge : 2 ≤ meas y := by unfold meas; have := hy.pos; omega
    obtain ⟨t', rfl⟩ : ∃ t', t = t' + 1 := ⟨t - 1, by omega⟩
    rw [show t' + 1 + 2 = (t' + 2) + 1 from rfl, redN_step (hne : stepR y ≠ y)] at hre
    repeat' (first|refine X.O ?_|refine X.A ?_|refine X.B ?_|refine X.C ?_|refine X.D ?_|refine X.E ?_|refine X.F ?_|refine X.G ?_|refine X.H ?_|refine X.I ?_|fail)
    refine WL.step (o_loadS (by rfl) hb78 (by rfl) ?_)
    refine WL.step (o_storeS (vs := [.slice b1 m1 c1, .slice b2 m2 c2]) (by rfl) (by rfl) hb38 (by rfl) (by rfl) two_cells ?_)
    intro w9 hb9 hbut9
    have hz9 := hbut9.size
    have hc9 := hbut9.chg
    repeat' (first|refine X.O ?_|refine X.A ?_|refine X.B ?_|refine X.C ?_|refine X.D ?_|refine X.E ?_|refine X.F ?_|refine X.G ?_|refine X.H ?_|refine X.I ?_|fail)
    refine ⟨(stepR y, t', .slice b1 m1 c1, .slice b2 m2 c2), ⟨rfl, rfl, trivial⟩, ⟨stepR_tab hy, by dsimp only; omega, hre, rfl, rfl, hb9, Or.inr ((oT8.chg hc9 (by omega)).rd.wide (by omega) (by omega) (Nat.le_refl _)), ?_⟩, by dsimp only; omega⟩
    exact (hc3.trans hc38.none).thenBut hbut9 (Nat.le_refl _) (by omega)
theorem l10Reduce_any {lo hi : Nat} {w : World} {v : Value} {x : TabD} (h : IT lo hi w v x) (hx : Tab x) :
    Does Tryz.prog 49 [v] w fun r w' => OwT 25 2 w.heap.size w'.heap.size w' r (reduceL x) ∧ Chg 0 0 w w' := by
  have hz := h.hi_le
  obtain ⟨va, vb, rfl, hA, hB⟩ := h
  obtain ⟨aa0, ca0, hva0⟩ := hA.shape
  obtain ⟨ab0, cb0, hvb0⟩ := hB.shape
  subst hva0 hvb0
  have hT : IT lo hi w (.agg #[.slice aa0 x.1.length ca0, .slice ab0 x.2.length cb0]) x := ⟨_, _, rfl, hA, hB⟩
  refine Does.enter Tryz.func49 Tryz.ntmps49 rfl (by rfl) ?_
  repeat' (first|refine X.O ?_|refine X.A ?_|refine X.B ?_|refine X.C ?_|refine X.D ?_|refine X.E ?_|refine X.F ?_|refine X.G ?_|refine X.H ?_|refine X.I ?_|fail)
  refine WL.step (o_box (by rfl) ?_)
  intro w1 hb1 hbl1 hz1
  refine WL.step (o_alloc ?_)
  intro w2 hb2 hbl2 hz2
  have hbl12 : Below w.heap.size w w2 := hbl1.trans (Below.mono hbl2 (by omega))
  have hb12 : Blk w2 w.heap.size [.slice aa0 x.1.length ca0, .slice ab0 x.2.length cb0] 27 := hb1.below hbl2 (by omega)
  have hT2 := hT.below hbl12 hz
  have hml := meas_le hx
  repeat' (first|refine X.O ?_|refine X.A ?_|refine X.B ?_|refine X.C ?_|refine X.D ?_|refine X.E ?_|refine X.F ?_|refine X.G ?_|refine X.H ?_|refine X.I ?_|fail)
  refine WP.loop (fun (_ : TabD × Nat × Value × Value) => [(1, .pointer (some ⟨w.heap.size, 0, none⟩)), (2, .pointer (some ⟨w1.heap.size, 0, none⟩))])
    (fun s w3 => Tab s.1 ∧ meas s.1 ≤ s.2.1 ∧ reduceL x = redN (s.2.1 + 2) s.1 ∧ s.2.2.1.oneCell' = true ∧ s.2.2.2.oneCell' = true ∧ Blk w3 w.heap.size [s.2.2.1, s.2.2.2] 27 ∧ (IT lo hi w3 (.agg #[s.2.2.1, s.2.2.2]) s.1 ∨ IT w2.heap.size w3.heap.size w3 (.agg #[s.2.2.1, s.2.2.2]) s.1) ∧ Chg w.heap.size w1.heap.size w2 w3)
    (fun s => s.2.1) (x, 18, .slice aa0 x.1.length ca0, .slice ab0 x.2.length cb0) ⟨rfl, rfl, trivial⟩ ⟨hx, by dsimp only; omega, rfl, rfl, rfl, hb12, Or.inl hT2, Chg.refl _ _ _⟩ ?_
  rintro ⟨y, t, va, vb⟩ w3 ⟨hy, hmt, hre, ho1, ho2, hb3, hTT, hc3⟩
  dsimp only at hy hmt hre ho1 ho2 hb3 hTT ⊢
  have hz3 := hc3.size
  have hb23 := hb2.chg hc3 (Or.inr (Nat.le_refl _))
  obtain ⟨lo3, hi3, hT3, hhi3⟩ : ∃ lo3 hi3, IT lo3 hi3 w3 (.agg #[va, vb]) y ∧ (hi3 ≤ w.heap.size ∨ w2.heap.size ≤ lo3) := by
    rcases hTT with h | h
    · exact ⟨lo, hi, h, Or.inl hz⟩
    · exact ⟨_, _, h, Or.inr (Nat.le_refl _)⟩
  have hz33 := hT3.hi_le
  repeat' (first|refine X.O ?_|refine X.A ?_|refine X.B ?_|refine X.C ?_|refine X.D ?_|refine X.E ?_|refine X.F ?_|refine X.G ?_|refine X.H ?_|refine X.I ?_|fail)
  refine WL.step (o_loadS (by rfl) hb3 (by rfl) ?_)
  refine WL.call (l10Drop_any hT3 hy) ?_
  rintro v4 w4 ⟨oT4, hc4⟩
  have hz4 := hc4.size
  refine WL.call (l10Merge_any oT4.rd (dropL_tab hy)) ?_
  rintro v5 w5 ⟨oT5, hc5⟩
  have hz5 := hc5.size
  obtain ⟨b1, m1, c1, b2, m2, c2, hl5⟩ := oT5.cells
  subst hl5
  refine WL.step (o_alloc ?_)
  intro w6 hb6 hbl6 hz6
  refine WL.step (o_storeS (vs := [.slice b1 m1 c1, .slice b2 m2 c2]) (by rfl) (by rfl) hb6 (by rfl) (by rfl) two_cells ?_)
  intro w7 hb7 hbut7
  have hz7 := hbut7.size
  have hstep : mergeL (dropL y) = stepR y := rfl
  rw [hstep] at oT5
  have hbl57 : Below w5.heap.size w5 w7 := hbl6.trans (hbut7.below (by omega))
  have hc35 : Chg 0 0 w3 w5 := hc4.trans hc5
  have hc37 : Chg 0 0 w3 w7 := hc35.trans (Chg.of_below hbl57)
  have oT7 := oT5.chg (Chg.of_below hbl57) (by omega)
  have hb37 := hb3.chg0 hc37
  have hb27 := hb23.chg0 hc37
  have hT7 := hT3.chg hc37 (by omega)
  repeat' (first|refine X.O ?_|refine X.A ?_|refine X.B ?_|refine X.C ?_|refine X.D ?_|refine X.E ?_|refine X.F ?_|refine X.G ?_|refine X.H ?_|refine X.I ?_|fail)
  refine WL.step (o_loadS (by rfl) hb37 (by rfl) ?_)
  refine WL.step (o_loadS (by rfl) hb7 (by rfl) ?_)
  refine WL.call (l09Same_any hT7 oT7.rd) ?_
  rintro _ w8 ⟨rfl, hc8⟩
  have hz8 := hc8.size
  have hc38 := hc37.trans hc8
  have oT8 := oT7.chg hc8 (by omega)
  have hb78 := hb7.chg0 hc8
  have hb38 := hb37.chg0 hc8
  have hb28 := hb27.chg0 hc8
  repeat' (first|refine X.O ?_|refine X.A ?_|refine X.B ?_|refine X.C ?_|refine X.D ?_|refine X.E ?_|refine X.F ?_|refine X.G ?_|refine X.H ?_|refine X.I ?_|fail)
  first|refine X.J (fun _ => ?_) (fun _ => ?_)|refine X.L (fun _ => ?_) (fun _ => ?_)|refine X.M (fun _ => ?_) (fun _ => ?_)|refine X.R (fun _ => ?_) (fun _ => ?_)|fail
  · rename_i heq
    repeat' (first|refine X.O ?_|refine X.A ?_|refine X.B ?_|refine X.C ?_|refine X.D ?_|refine X.E ?_|refine X.F ?_|refine X.G ?_|refine X.H ?_|refine X.I ?_|fail)
    refine WL.step (o_loadS (by rfl) hb78 (by rfl) ?_)
    refine WL.step (o_storeS (vs := [.slice b1 m1 c1, .slice b2 m2 c2]) (by rfl) (by rfl) hb28 (by rfl) (by rfl) two_cells ?_)
    intro w9 hb9 hbut9
    have hz9 := hbut9.size
    have hc9 := hbut9.chg
    have er : reduceL x = stepR y := by rw [hre, redN_stop (heq.symm : stepR y = y)]; exact (heq.symm : stepR y = y).symm
    rw [er]
    repeat' (first|refine X.O ?_|refine X.A ?_|refine X.B ?_|refine X.C ?_|refine X.D ?_|refine X.E ?_|refine X.F ?_|refine X.G ?_|refine X.H ?_|refine X.I ?_|fail)
    refine ⟨_, retS rfl (by rfl) hb9 (by rfl), (oT8.chg hc9 (by omega)).wide (by omega) (by omega) (by omega), ?_⟩
    refine ⟨by rw [hc9.os, hc38.os, hc3.os, hbl12.os], by rw [hc9.tape, hc38.tape, hc3.tape, hbl12.tape], by rw [hc9.output, hc38.output, hc3.output, hbl12.output], by omega, fun k hk hd => ?_⟩
    rw [hc9.block k (by omega) (by omega), hc38.block k (by omega) (by omega), hc3.block k (by omega) (by omega), hbl12.block k hk]
  · rename_i hne
    have hlt := stepR_meas hy ((fun e => hne e.symm) : stepR y ≠ y)
    have hge : 2 ≤ meas y := by unfold meas; have := hy.pos; omega
    obtain ⟨t', rfl⟩ : ∃ t', t = t' + 1 := ⟨t - 1, by omega⟩
    rw [show t' + 1 + 2 = (t' + 2) + 1 from rfl, redN_step ((fun e => hne e.symm) : stepR y ≠ y)] at hre
    repeat' (first|refine X.O ?_|refine X.A ?_|refine X.B ?_|refine X.C ?_|refine X.D ?_|refine X.E ?_|refine X.F ?_|refine X.G ?_|refine X.H ?_|refine X.I ?_|fail)
    refine WL.step (o_loadS (by rfl) hb78 (by rfl) ?_)
    refine WL.step (o_storeS (vs := [.slice b1 m1 c1, .slice b2 m2 c2]) (by rfl) (by rfl) hb38 (by rfl) (by rfl) two_cells ?_)
    intro w9 hb9 hbut9
    have hz9 := hbut9.size
    have hc9 := hbut9.chg
    repeat' (first|refine X.O ?_|refine X.A ?_|refine X.B ?_|refine X.C ?_|refine X.D ?_|refine X.E ?_|refine X.F ?_|refine X.G ?_|refine X.H ?_|refine X.I ?_|fail)
    refine ⟨(stepR y, t', .slice b1 m1 c1, .slice b2 m2 c2), ⟨rfl, rfl, trivial⟩, ⟨stepR_tab hy, by dsimp only; omega, hre, rfl, rfl, hb9, Or.inr ((oT8.chg hc9 (by omega)).rd.wide (by omega) (by omega) (Nat.le_refl _)), ?_⟩, by dsimp only; omega⟩
    exact (hc3.trans hc38.none).thenBut hbut9 (Nat.le_refl _) (by omega)
end Go.Proofs
