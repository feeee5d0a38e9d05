/- Reduced tableaus, with their code: both sides. -/
import Derived.Test.YthepgmajeljdhaaGreatA48
namespace Go.Proofs
open Go Go.Fw Go.RowKit Go.Rk
theorem IsReduced_any {lo hi : Nat} {w : World} {v : Value} {x : TabD} (h : IT lo hi w v x) :
    Does Tryz.prog 20 [v] w fun r w' => r = .tuple #[.bool (isReduced x).1, .int .i64 (isReduced x).2] ∧ Chg 0 0 w w' := by
  have hz := h.hi_le
  obtain ⟨va, vb, rfl, hA, hB⟩ := h
  have hT : IT lo hi w (.agg #[va, vb]) x := ⟨_, _, rfl, hA, hB⟩
  refine Does.enter Tryz.func20 Tryz.ntmps20 rfl (by rfl) ?_
  repeat' (first|refine X.O ?_|refine X.A ?_|refine X.B ?_|refine X.C ?_|refine X.D ?_|refine X.E ?_|refine X.F ?_|refine X.G ?_|refine X.H ?_|refine X.I ?_|fail)
  refine WL.step (o_box (by rfl) ?_)
  intro w1 hb1 hbl1 hz1
  have hc1 := Chg.of_below hbl1
  replace hT := hT.below hbl1 hz
  repeat' (first|refine X.O ?_|refine X.A ?_|refine X.B ?_|refine X.C ?_|refine X.D ?_|refine X.E ?_|refine X.F ?_|refine X.G ?_|refine X.H ?_|refine X.I ?_|fail)
  refine WL.step (o_loadS (by rfl) hb1 (by rfl) ?_)
  refine WL.call (IsTableau_any hT) ?_
  rintro _ w2 ⟨rfl, hc2⟩
  have hz2 := hc2.size
  replace hT := hT.chg hc2 (by omega)
  replace hb1 := hb1.chg0 hc2
  unfold isReduced
  repeat' (first|refine X.O ?_|refine X.A ?_|refine X.B ?_|refine X.C ?_|refine X.D ?_|refine X.E ?_|refine X.F ?_|refine X.G ?_|refine X.H ?_|refine X.I ?_|fail)
  first|refine X.J (fun _ => ?_) (fun _ => ?_)|refine X.L (fun _ => ?_) (fun _ => ?_)|refine X.M (fun _ => ?_) (fun _ => ?_)|refine X.R (fun _ => ?_) (fun _ => ?_)|fail
  · rename_i hbad
    repeat' (first|refine X.O ?_|refine X.A ?_|refine X.B ?_|refine X.C ?_|refine X.D ?_|refine X.E ?_|refine X.F ?_|refine X.G ?_|refine X.H ?_|refine X.I ?_|fail)
    refine ⟨_, ret2 rfl (by rfl) (by rfl), ?_⟩
    rw [hbad]
    exact ⟨rfl, hc1.trans hc2⟩
  · rename_i hok
    have hx := isTab_iff hok
    rw [if_pos hok]
    repeat' (first|refine X.O ?_|refine X.A ?_|refine X.B ?_|refine X.C ?_|refine X.D ?_|refine X.E ?_|refine X.F ?_|refine X.G ?_|refine X.H ?_|refine X.I ?_|fail)
    refine WP.drawn (fun w' => Chg 0 0 w2 w') [(0, true), (2, true), (1, false), (3, false), (4, true), (5, true), (7, true), (6, false), (8, false), (9, true), (10, true), (11, true)] (by kernel_rfl) mixed ?_
    intro w3 hs3
    have hc3 : Chg 0 0 w2 w3 := Chg.of_still hs3
    have hz3 := hc3.size
    have hT3 := hT.chg hc3 (by omega)
    refine WS.q rfl (q_loadS (by rfl) (fun w' h => hb1.chg0 h) (by rfl)) hc3 ?_
    refine WS.q rfl (q_loadS (by rfl) (fun w' h => hb1.chg0 h) (by rfl)) hc3 ?_
    refine WS.call rfl (dropped_any hT3 hx) ?_
    rintro v4 w4 ⟨oT4, hc4⟩
    have hz4 := hc4.size
    have hc24 := hc3.trans hc4
    refine ⟨hc24, ?_⟩
    refine WS.call rfl (tabEqual_any oT4.rd (hT3.chg hc4 (by omega))) ?_
    rintro _ w5 ⟨rfl, hc5⟩
    have hz5 := hc5.size
    have hc25 := hc24.trans hc5
    refine ⟨hc25, ?_⟩
    refine WS.q rfl (q_s (by rfl)) hc25 ?_
    refine WS.splitD (t := 11) (by rfl) (fun heq => ?_) (fun hne => ?_)
    · refine WS.q rfl (q_loadS (by rfl) (fun w' h => hb1.chg0 h) (by rfl)) hc25 ?_
      refine WS.q rfl (q_loadS (by rfl) (fun w' h => hb1.chg0 h) (by rfl)) hc25 ?_
      refine WS.call rfl (merged_any (hT.chg hc25 (by omega)) hx) ?_
      rintro v6 w6 ⟨oT6, hc6⟩
      have hz6 := hc6.size
      have hc26 := hc25.trans hc6
      refine ⟨hc26, ?_⟩
      refine WS.call rfl (tabEqual_any oT6.rd (hT.chg hc26 (by omega))) ?_
      rintro _ w7 ⟨rfl, hc7⟩
      have hc27 := hc26.trans hc7
      refine ⟨hc27, ?_⟩
      repeat' (first|refine X.U rfl ?_|refine X.V rfl ?_|refine X.W rfl ?_|refine X.Y rfl ?_|refine X.Z rfl ?_|refine WS.nil ?_|fail)
      repeat' (first|refine X.O ?_|refine X.A ?_|refine X.B ?_|refine X.C ?_|refine X.D ?_|refine X.E ?_|refine X.F ?_|refine X.G ?_|refine X.H ?_|refine X.I ?_|fail)
      refine ⟨_, ret2 rfl (by rfl) (by rfl), ?_⟩
      rw [decide_eq_true heq, Bool.true_and]
      exact ⟨rfl, (hc1.trans hc2).trans hc27⟩
    · refine WS.q rfl (q_pass (by rfl)) hc25 ?_
      refine WS.q rfl (q_pass (by rfl)) hc25 ?_
      refine WS.op rfl (OpW.pass (by rfl) ⟨hc25, ?_⟩)
      refine WS.op rfl (OpW.pass (by rfl) ⟨hc25, ?_⟩)
      repeat' (first|refine X.U rfl ?_|refine X.V rfl ?_|refine X.W rfl ?_|refine X.Y rfl ?_|refine X.Z rfl ?_|refine WS.nil ?_|fail)
      repeat' (first|refine X.O ?_|refine X.A ?_|refine X.B ?_|refine X.C ?_|refine X.D ?_|refine X.E ?_|refine X.F ?_|refine X.G ?_|refine X.H ?_|refine X.I ?_|fail)
      refine ⟨_, ret2 rfl (by rfl) (by rfl), ?_⟩
      rw [decide_eq_false hne, Bool.false_and]
      exact ⟨rfl, (hc1.trans hc2).trans hc25⟩
theorem ReduceTableau_any {lo hi : Nat} {w : World} {v : Value} {x : TabD} (h : IT lo hi w v x) : Does Tryz.prog 18 [v] w fun r w' => ResT 25 2 w r w' (reduceTableau x) := by
  have hz := h.hi_le
  obtain ⟨va, vb, rfl, hA, hB⟩ := h
  refine Does.enter Tryz.func18 Tryz.ntmps18 rfl (by rfl) ?_
  repeat' (first|refine X.O ?_|refine X.A ?_|refine X.B ?_|refine X.C ?_|refine X.D ?_|refine X.E ?_|refine X.F ?_|refine X.G ?_|refine X.H ?_|refine X.I ?_|fail)
  refine WL.step (o_box (by rfl) ?_)
  intro w1 hb1 hbl1 hz1
  refine WL.step (o_alloc ?_)
  intro w2 hb2 hbl2 hz2
  have hbl12 : Below w.heap.size w w2 := hbl1.trans (Below.mono hbl2 (by omega))
  have hc2 := Chg.of_below hbl12
  replace hb1 := hb1.below hbl2 (by omega)
  have hT : IT lo hi w (.agg #[va, vb]) x := ⟨va, vb, rfl, hA, hB⟩
  replace hT := hT.chg hc2 (by omega)
  repeat' (first|refine X.O ?_|refine X.A ?_|refine X.B ?_|refine X.C ?_|refine X.D ?_|refine X.E ?_|refine X.F ?_|refine X.G ?_|refine X.H ?_|refine X.I ?_|fail)
  refine WL.step (o_loadS (by rfl) hb1 (by rfl) ?_)
  refine WL.call (IsTableau_any hT) ?_
  rintro _ w3 ⟨rfl, hc3⟩
  have hz3 := hc3.size
  replace hT := hT.chg hc3 (by omega)
  replace hb1 := hb1.chg0 hc3
  replace hb2 := hb2.chg0 hc3
  repeat' (first|refine X.O ?_|refine X.A ?_|refine X.B ?_|refine X.C ?_|refine X.D ?_|refine X.E ?_|refine X.F ?_|refine X.G ?_|refine X.H ?_|refine X.I ?_|fail)
  first|refine X.J (fun _ => ?_) (fun _ => ?_)|refine X.L (fun _ => ?_) (fun _ => ?_)|refine X.M (fun _ => ?_) (fun _ => ?_)|refine X.R (fun _ => ?_) (fun _ => ?_)|fail
  · rename_i hbad
    repeat' (first|refine X.O ?_|refine X.A ?_|refine X.B ?_|refine X.C ?_|refine X.D ?_|refine X.E ?_|refine X.F ?_|refine X.G ?_|refine X.H ?_|refine X.I ?_|fail)
    refine WL.step (o_build (us := []) (cells := [.slice none 0 0, .slice none 0 0]) (by rfl) (by kernel_rfl) ?_)
    refine WL.step (o_storeS (vs := [.slice none 0 0, .slice none 0 0]) (by rfl) (by rfl) hb2 (by rfl) (by rfl) two_cells ?_)
    intro w4 hb4 hbut4
    have hc4 := hbut4.chg
    have hz4 := hbut4.size
    repeat' (first|refine X.O ?_|refine X.A ?_|refine X.B ?_|refine X.C ?_|refine X.D ?_|refine X.E ?_|refine X.F ?_|refine X.G ?_|refine X.H ?_|refine X.I ?_|fail)
    have e : reduceTableau x = (([], []), 1) := by simp [reduceTableau, hbad]
    rw [e]
    refine ⟨_, retS1 rfl (by rfl) hb4 (by rfl) (by rfl), _, rfl, ?_, ?_⟩
    · exact OwT.mk (m := w.heap.size) (x := ([], [])) ⟨[], Own.nil _ _ _, fun k hk => by simp [Value.ownBlock] at hk, by omega, rfl, fun i u xs hu => by simp at hu, fun i j u u' _ hu => by simp at hu, by decide⟩ ⟨Own.nil _ _ _, fun k hk => by simp [Value.ownBlock] at hk, Nat.le_refl _⟩ (Nat.le_refl _) (by omega)
    · refine ⟨by rw [hc4.os, hc3.os, hc2.os], by rw [hc4.tape, hc3.tape, hc2.tape], by rw [hc4.output, hc3.output, hc2.output], by omega, fun k hk hd => ?_⟩
      rw [hc4.block k (by omega) (by omega), hc3.block k (by omega) (by omega), hc2.block k hk (by omega)]
  · rename_i hok
    repeat' (first|refine X.O ?_|refine X.A ?_|refine X.B ?_|refine X.C ?_|refine X.D ?_|refine X.E ?_|refine X.F ?_|refine X.G ?_|refine X.H ?_|refine X.I ?_|fail)
    refine WL.step (o_loadS (by rfl) hb1 (by rfl) ?_)
    refine WL.call (reduced_any hT (isTab_iff hok)) ?_
    rintro v4 w4 ⟨oT, hc4⟩
    have hz4 := hc4.size
    replace hb2 := hb2.chg0 hc4
    obtain ⟨aq, nq, cq, ar, nr, cr, rfl⟩ := oT.cells
    refine WL.step (o_storeS (vs := [.slice aq nq cq, .slice ar nr cr]) (by rfl) (by rfl) hb2 (by rfl) (by rfl) two_cells ?_)
    intro w5 hb5 hbut5
    have hc5 := hbut5.chg
    have hz5 := hbut5.size
    repeat' (first|refine X.O ?_|refine X.A ?_|refine X.B ?_|refine X.C ?_|refine X.D ?_|refine X.E ?_|refine X.F ?_|refine X.G ?_|refine X.H ?_|refine X.I ?_|fail)
    have e : reduceTableau x = (reduceL x, 0) := by simp [reduceTableau, hok]
    rw [e]
    refine ⟨_, retS1 rfl (by rfl) hb5 (by rfl) (by rfl), _, rfl, ?_, ?_⟩
    · exact (oT.chg hc5 (by omega)).wide (by omega) (by omega) (by omega)
    · refine ⟨by rw [hc5.os, hc4.os, hc3.os, hc2.os], by rw [hc5.tape, hc4.tape, hc3.tape, hc2.tape], by rw [hc5.output, hc4.output, hc3.output, hc2.output], by omega, fun k hk hd => ?_⟩
      rw [hc5.block k (by omega) (by omega), hc4.block k (by omega) (by omega), hc3.block k (by omega) (by omega), hc2.block k hk (by omega)]
theorem sReduceTableau_any {lo hi : Nat} {w : World} {v : Value} {x : TabD} (h : IT lo hi w v x) : Does Tryz.prog 19 [v] w fun r w' => ResT 25 2 w r w' (reduceTableau x) := by
  have hz := h.hi_le
  obtain ⟨va, vb, rfl, hA, hB⟩ := h
  refine Does.enter Tryz.func19 Tryz.ntmps19 rfl (by rfl) ?_
  repeat' (first|refine X.O ?_|refine X.A ?_|refine X.B ?_|refine X.C ?_|refine X.D ?_|refine X.E ?_|refine X.F ?_|refine X.G ?_|refine X.H ?_|refine X.I ?_|fail)
  refine WL.step (o_box (by rfl) ?_)
  intro w1 hb1 hbl1 hz1
  refine WL.step (o_alloc ?_)
  intro w2 hb2 hbl2 hz2
  have hbl12 : Below w.heap.size w w2 := hbl1.trans (Below.mono hbl2 (by omega))
  have hc2 := Chg.of_below hbl12
  replace hb1 := hb1.below hbl2 (by omega)
  have hT : IT lo hi w (.agg #[va, vb]) x := ⟨va, vb, rfl, hA, hB⟩
  replace hT := hT.chg hc2 (by omega)
  repeat' (first|refine X.O ?_|refine X.A ?_|refine X.B ?_|refine X.C ?_|refine X.D ?_|refine X.E ?_|refine X.F ?_|refine X.G ?_|refine X.H ?_|refine X.I ?_|fail)
  refine WL.step (o_loadS (by rfl) hb1 (by rfl) ?_)
  refine WL.call (l09Is_any hT) ?_
  rintro _ w3 ⟨rfl, hc3⟩
  have hz3 := hc3.size
  replace hT := hT.chg hc3 (by omega)
  replace hb1 := hb1.chg0 hc3
  replace hb2 := hb2.chg0 hc3
  repeat' (first|refine X.O ?_|refine X.A ?_|refine X.B ?_|refine X.C ?_|refine X.D ?_|refine X.E ?_|refine X.F ?_|refine X.G ?_|refine X.H ?_|refine X.I ?_|fail)
  first|refine X.J (fun _ => ?_) (fun _ => ?_)|refine X.L (fun _ => ?_) (fun _ => ?_)|refine X.M (fun _ => ?_) (fun _ => ?_)|refine X.R (fun _ => ?_) (fun _ => ?_)|fail
  · rename_i hbad
    repeat' (first|refine X.O ?_|refine X.A ?_|refine X.B ?_|refine X.C ?_|refine X.D ?_|refine X.E ?_|refine X.F ?_|refine X.G ?_|refine X.H ?_|refine X.I ?_|fail)
    refine WL.step (o_build (us := []) (cells := [.slice none 0 0, .slice none 0 0]) (by rfl) (by kernel_rfl) ?_)
    refine WL.step (o_storeS (vs := [.slice none 0 0, .slice none 0 0]) (by rfl) (by rfl) hb2 (by rfl) (by rfl) two_cells ?_)
    intro w4 hb4 hbut4
    have hc4 := hbut4.chg
    have hz4 := hbut4.size
    repeat' (first|refine X.O ?_|refine X.A ?_|refine X.B ?_|refine X.C ?_|refine X.D ?_|refine X.E ?_|refine X.F ?_|refine X.G ?_|refine X.H ?_|refine X.I ?_|fail)
    have e : reduceTableau x = (([], []), 1) := by simp [reduceTableau, hbad]
    rw [e]
    refine ⟨_, retS1 rfl (by rfl) hb4 (by rfl) (by rfl), _, rfl, ?_, ?_⟩
    · exact OwT.mk (m := w.heap.size) (x := ([], [])) ⟨[], Own.nil _ _ _, fun k hk => by simp [Value.ownBlock] at hk, by omega, rfl, fun i u xs hu => by simp at hu, fun i j u u' _ hu => by simp at hu, by decide⟩ ⟨Own.nil _ _ _, fun k hk => by simp [Value.ownBlock] at hk, Nat.le_refl _⟩ (Nat.le_refl _) (by omega)
    · refine ⟨by rw [hc4.os, hc3.os, hc2.os], by rw [hc4.tape, hc3.tape, hc2.tape], by rw [hc4.output, hc3.output, hc2.output], by omega, fun k hk hd => ?_⟩
      rw [hc4.block k (by omega) (by omega), hc3.block k (by omega) (by omega), hc2.block k hk (by omega)]
  · rename_i hok
    repeat' (first|refine X.O ?_|refine X.A ?_|refine X.B ?_|refine X.C ?_|refine X.D ?_|refine X.E ?_|refine X.F ?_|refine X.G ?_|refine X.H ?_|refine X.I ?_|fail)
    refine WL.step (o_loadS (by rfl) hb1 (by rfl) ?_)
    refine WL.call (l10Reduce_any hT (isTab_iff hok)) ?_
    rintro v4 w4 ⟨oT, hc4⟩
    have hz4 := hc4.size
    replace hb2 := hb2.chg0 hc4
    obtain ⟨aq, nq, cq, ar, nr, cr, rfl⟩ := oT.cells
    refine WL.step (o_storeS (vs := [.slice aq nq cq, .slice ar nr cr]) (by rfl) (by rfl) hb2 (by rfl) (by rfl) two_cells ?_)
    intro w5 hb5 hbut5
    have hc5 := hbut5.chg
    have hz5 := hbut5.size
    repeat' (first|refine X.O ?_|refine X.A ?_|refine X.B ?_|refine X.C ?_|refine X.D ?_|refine X.E ?_|refine X.F ?_|refine X.G ?_|refine X.H ?_|refine X.I ?_|fail)
    have e : reduceTableau x = (reduceL x, 0) := by simp [reduceTableau, hok]
    rw [e]
    refine ⟨_, retS1 rfl (by rfl) hb5 (by rfl) (by rfl), _, rfl, ?_, ?_⟩
    · exact (oT.chg hc5 (by omega)).wide (by omega) (by omega) (by omega)
    · refine ⟨by rw [hc5.os, hc4.os, hc3.os, hc2.os], by rw [hc5.tape, hc4.tape, hc3.tape, hc2.tape], by rw [hc5.output, hc4.output, hc3.output, hc2.output], by omega, fun k hk hd => ?_⟩
      rw [hc5.block k (by omega) (by omega), hc4.block k (by omega) (by omega), hc3.block k (by omega) (by omega), hc2.block k hk (by omega)]
end Go.Proofs
