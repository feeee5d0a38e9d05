/- Merging alike stages: both sides. -/
import Derived.Test.YthepgmajeljdhaaGreatA21
import Derived.Test.YthepgmajeljdhaaGreatA42
import Derived.Test.YthepgmajeljdhaaGreatH11
import Derived.Test.YthepgmajeljdhaaGreatS3
import Derived.Test.YthepgmajeljdhaaGreatPlB
namespace Go.Proofs
open Go Go.Fw Go.RowKit Go.Rk
set_option maxHeartbeats 2000000 in
theorem merged_any {lo hi : Nat} {w : World} {v : Value} {x : TabD} (h : IT lo hi w v x) (hx : Tab x) :
    Does Tryz.prog 35 [v] w fun r w' => OwT 25 2 w.heap.size w'.heap.size w' r (mergeL x) ∧ Chg 0 0 w w' := by
  have hz := h.hi_le
  obtain ⟨va, vb, rfl, hA, hB⟩ := h
  obtain ⟨aa, ca, hva⟩ := hA.shape
  subst hva
  have hT : IT lo hi w (.agg #[.slice aa x.1.length ca, vb]) x := ⟨_, _, rfl, hA, hB⟩
  have hm := hx.le8
  have hp := hx.pos
  have hsq := hx.sq
  have hcl := alikeL_length x
  have hidem := alikeL_idem hp
  refine Does.enter Tryz.func35 Tryz.ntmps35 rfl (by rfl) ?_
  repeat' (first|refine X.O ?_|refine X.A ?_|refine X.B ?_|refine X.C ?_|refine X.D ?_|refine X.E ?_|refine X.F ?_|refine X.G ?_|refine X.H ?_|refine X.I ?_|fail)
  refine WL.step (o_box (by rfl) ?_)
  intro w1 hb1 hbl1 hz1
  refine WL.step (o_alloc ?_)
  intro w2 hb2 hbl2 hz2
  have hbl12 : Below w.heap.size w w2 := hbl1.trans (Below.mono hbl2 (by omega))
  have hb12 := hb1.below hbl2 (by omega)
  have hT2 := hT.below hbl12 hz
  repeat' (first|refine X.O ?_|refine X.A ?_|refine X.B ?_|refine X.C ?_|refine X.D ?_|refine X.E ?_|refine X.F ?_|refine X.G ?_|refine X.H ?_|refine X.I ?_|fail)
  refine WL.step (o_loadS (by rfl) hb12 (by rfl) ?_)
  refine WL.call (alike_any hT2 hx) ?_
  intro vc w3 hN3
  have hz3 := hN3.2.size
  have hb13 := hb12.below hN3.2 (by omega)
  have hb23 := hb2.below hN3.2 (by omega)
  have hbl3 : Below w.heap.size w w3 := hbl12.trans (Below.mono hN3.2 (by omega))
  have hC3 := hN3.ow
  obtain ⟨cls, hcls⟩ : ∃ cls, alikeL x = cls := ⟨_, rfl⟩
  rw [hcls] at hC3 hcl hidem
  obtain ⟨ac, cc, hvc⟩ := hC3.rd.shape
  subst hvc
  clear hN3
  repeat' (first|refine X.O ?_|refine X.A ?_|refine X.B ?_|refine X.C ?_|refine X.D ?_|refine X.E ?_|refine X.F ?_|refine X.G ?_|refine X.H ?_|refine X.I ?_|fail)
  refine WL.fld hb13 ?_
  intro p1
  repeat' (first|refine X.O ?_|refine X.A ?_|refine X.B ?_|refine X.C ?_|refine X.D ?_|refine X.E ?_|refine X.F ?_|refine X.G ?_|refine X.H ?_|refine X.I ?_|fail)
  refine WL.call (classSums_any (hB.below RI.stable hbl3 hz) hC3.rd (by omega) (by omega) hx.last hidem.1) ?_
  intro vs w4 hN4
  have hz4 := hN4.2.size
  have hS4 := hN4.ow
  obtain ⟨aS, cS, hvs⟩ := hS4.rd.shape
  rw [sumsL_length] at hvs
  subst hvs
  refine WL.step (o_build (us := [.slice aS cls.length cS]) (cells := [.slice none 0 0, .slice aS cls.length cS]) (by rfl) (by kernel_rfl) ?_)
  refine WL.step (o_alloc ?_)
  intro w5 hb5 hbl5 hz5
  refine WL.step (o_storeS (vs := [.slice none 0 0, .slice aS cls.length cS]) (by rfl) (by rfl) hb5 (by rfl) (by rfl) two_cells ?_)
  intro w6 hb6 hbut6
  have hz6 := hbut6.size
  have hbl46 : Below w4.heap.size w4 w6 := hbl5.trans (hbut6.below (by omega))
  have hbl36 : Below w3.heap.size w3 w6 := hN4.2.trans (Below.mono hbl46 (by omega))
  have hbl6 : Below w.heap.size w w6 := hbl3.trans (Below.mono hbl36 (by omega))
  have hb16 := hb13.below hbl36 (by omega)
  have hb26 := hb23.below hbl36 (by omega)
  have hA6 := hA.below IS.stable hbl6 hz
  have hC6 := hC3.chg (Chg.of_below hbl36) (by omega)
  have hS6 := hS4.chg (Chg.of_below hbl46) (by omega)
  clear hN4
  repeat' (first|refine X.O ?_|refine X.A ?_|refine X.B ?_|refine X.C ?_|refine X.D ?_|refine X.E ?_|refine X.F ?_|refine X.G ?_|refine X.H ?_|refine X.I ?_|fail)
  refine WL.fld hb16 ?_
  intro p2
  repeat' (first|refine X.O ?_|refine X.A ?_|refine X.B ?_|refine X.C ?_|refine X.D ?_|refine X.E ?_|refine X.F ?_|refine X.G ?_|refine X.H ?_|refine X.I ?_|fail)
  obtain ⟨rows, hrows⟩ : ∃ rows, x.1.map (fun r => sumsL r cls) = rows := ⟨_, rfl⟩
  have hrl : rows.length = x.1.length := by rw [← hrows, List.length_map]
  refine WP.loop (fun (s : Nat × Value) => [(1, .pointer (some ⟨w.heap.size, 0, none⟩)), (2, .pointer (some ⟨w1.heap.size, 0, none⟩)), (3, .slice ac cls.length cc), (4, .pointer (some ⟨w4.heap.size, 0, none⟩)), (15, .slice aa x.1.length ca), (16, .int .i64 (x.1.length : Nat)), (17, .int .i64 (s.1 : Nat))])
    (fun s w7 => s.1 ≤ x.1.length ∧ s.2.oneCell' = true ∧ Blk w7 w4.heap.size [s.2, .slice aS cls.length cS] 27 ∧ (∃ us, OwSSv 25 2 w6.heap.size w7.heap.size w7 s.2 us (rows.take s.1)) ∧ Chg w4.heap.size w6.heap.size w6 w7)
    (fun s => x.1.length - s.1) (0, .slice none 0 0) ⟨rfl, rfl, rfl, rfl, rfl, rfl, rfl, trivial⟩ ⟨by dsimp only; omega, rfl, hb6, ⟨[], OwSSv.none (Fw.Own.nil _ _ _) (by decide)⟩, Chg.refl _ _ _⟩ ?_
  rintro ⟨i, vA⟩ w7 ⟨hi1, hone, hb7, ⟨us, oA⟩, hc7⟩
  dsimp only at hi1 hone hb7 oA ⊢
  have hz7 := hc7.size
  have hul : us.length = i := by rw [oA.len, List.length_take]; omega
  repeat' (first|refine X.O ?_|refine X.A ?_|refine X.B ?_|refine X.C ?_|refine X.D ?_|refine X.E ?_|refine X.F ?_|refine X.G ?_|refine X.H ?_|refine X.I ?_|fail)
  first|refine X.J (fun _ => ?_) (fun _ => ?_)|refine X.L (fun _ => ?_) (fun _ => ?_)|refine X.M (fun _ => ?_) (fun _ => ?_)|refine X.R (fun _ => ?_) (fun _ => ?_)|fail
  · rename_i hlt
    have hli : i < x.1.length := by omega
    have hrow := hx.row _ (List.getElem_mem hli)
    have hA7 := ISS.chg hA6 hc7 (by omega)
    have hC7 := hC6.chg hc7 (by omega)
    repeat' (first|refine X.O ?_|refine X.A ?_|refine X.B ?_|refine X.C ?_|refine X.D ?_|refine X.E ?_|refine X.F ?_|refine X.G ?_|refine X.H ?_|refine X.I ?_|fail)
    refine WL.ixload hA7 (List.getElem?_eq_getElem hli) ?_
    intro p3 u hu
    repeat' (first|refine X.O ?_|refine X.A ?_|refine X.B ?_|refine X.C ?_|refine X.D ?_|refine X.E ?_|refine X.F ?_|refine X.G ?_|refine X.H ?_|refine X.I ?_|fail)
    refine WP.drawn (fun w' => Below w6.heap.size w7 w' ∧ w7.heap.size ≤ w'.heap.size) [(0, true), (1, true), (2, true), (3, true), (4, false), (5, false), (6, false), (7, true), (1008, false)] (by kernel_rfl) mixed ?_
    intro w8 hs8
    have hz8 := hs8.size
    have hSS8 : Below w6.heap.size w7 w8 ∧ w7.heap.size ≤ w8.heap.size := ⟨hs8.below _, by omega⟩
    refine WS.fld rfl rfl (fun w' h => hb7.below h.1 (by omega)) hSS8 ?_
    intro p4
    repeat' (first|refine X.U rfl ?_|refine X.V rfl ?_|refine X.W rfl ?_|refine X.Y rfl ?_|refine X.Z rfl ?_|refine WS.nil ?_|fail)
    refine WS.call rfl (classSums_any (hu.still RI.stable hs8) (hC7.chg (Chg.of_still hs8) (by omega)).rd (by omega) (by omega) hrow.2 hidem.1) ?_
    intro vr w9 hN9
    have hz9 := hN9.2.size
    have hbl79 : Below w7.heap.size w7 w9 := (hs8.below _).trans (Below.mono hN9.2 (by omega))
    have hSS9 : Below w6.heap.size w7 w9 ∧ w7.heap.size ≤ w9.heap.size := ⟨Below.mono hbl79 (by omega), by omega⟩
    refine ⟨hSS9, ?_⟩
    obtain ⟨ar, cr, hvr, _⟩ := hN9.1.shape
    refine WS.op rfl (o_lit (us := [vr]) (by rfl) (by rfl) rfl (by decide) (one1 (by rw [hvr]; rfl)) ?_)
    intro vl w10 hl10 hbl10 hz10 _
    have hbl710 : Below w7.heap.size w7 w10 := hbl79.trans (Below.mono hbl10 (by omega))
    have hSS10 : Below w6.heap.size w7 w10 ∧ w7.heap.size ≤ w10.heap.size := ⟨Below.mono hbl710 (by omega), by omega⟩
    refine ⟨hSS10, ?_⟩
    have oA10 := oA.chg (Chg.of_below hbl710) (by omega)
    have hr10 := hN9.1.below hbl10 (Nat.le_refl _)
    refine WS.op rfl (o_append (us := us) (news := [vr]) (by rfl) (by rfl) oA10.own hl10.src (one1 (by rw [hvr]; rfl)) (by simp [hul, maxLen]; omega) (by simp [hul]; omega) (by omega) ?_)
    intro v11 w11 hown11 hg11 hbl11 _
    have hz11 := hg11.size
    have hSS11 : Below w6.heap.size w7 w11 ∧ w7.heap.size ≤ w11.heap.size := ⟨hSS10.1.trans hbl11, by omega⟩
    refine ⟨hSS11, ?_⟩
    obtain ⟨a11, c11, hv11, _⟩ := hown11.shape
    have hb11 := hb7.below hSS11.1 (by omega)
    refine WS.fldst rfl rfl hb11 hSS11 ?_ (hu := by rw [hv11]; rfl)
    intro p5 w12 hb12' hbut12
    have hz12 := hbut12.size
    refine WS.nil ?_
    have e1 : rows.take (i + 1) = rows.take i ++ [sumsL x.1[i] cls] := take_snoc (by omega) (by subst hrows; simp)
    have o11 : OwSSv 25 2 w6.heap.size w11.heap.size w11 v11 (us ++ [vr]) (rows.take (i + 1)) := by
      rw [e1]
      exact oA10.snoc (⟨hr10, fun k hk => (hr10.block k hk).2, Nat.le_refl _⟩ : OwI 2 w8.heap.size w10.heap.size w10 vr _) (by omega) (by omega) hown11 (by omega) (fun k hk hne => hg11.block k hk (fun e => hne e.symm))
    have hcc : Chg w4.heap.size w6.heap.size w11 w12 := (Chg.refl _ _ _).thenBut hbut12 (Nat.le_refl _) (by omega)
    repeat' (first|refine X.O ?_|refine X.A ?_|refine X.B ?_|refine X.C ?_|refine X.D ?_|refine X.E ?_|refine X.F ?_|refine X.G ?_|refine X.H ?_|refine X.I ?_|fail)
    exact ⟨(i + 1, v11), ⟨rfl, rfl, rfl, rfl, rfl, rfl, (by first|rfl|exact X.T (by omega)), trivial⟩, ⟨by dsimp only; omega, by rw [hv11]; rfl, hb12', ⟨_, (o11.chg hcc (by omega)).wide (Nat.le_refl _) (by omega) (Nat.le_refl _)⟩, (hc7.thenBelow hSS11.1).thenBut hbut12 (Nat.le_refl _) (by omega)⟩, by dsimp only; omega⟩
  · rename_i hge
    have hie : i = x.1.length := by omega
    rw [hie, List.take_of_length_le (by omega)] at oA
    have hC7 := hC6.chg hc7 (by omega)
    have hS7 := hS6.chg hc7 (by omega)
    have hb27 := hb26.chg hc7 (by omega)
    obtain ⟨aA, cA, hvA, _⟩ := oA.own.shape
    have hst := sumsT_tab hx hcl
    have est : sumsT x cls = (rows, sumsL x.2 cls) := by unfold sumsT; rw [hrows]
    have est2 : (sumsT x cls).2.length = cls.length := by rw [est]; exact sumsL_length _ _
    have hIT7 : IT w3.heap.size w7.heap.size w7 (.agg #[vA, .slice aS cls.length cS]) (sumsT x cls) := by
      rw [est]
      exact ⟨_, _, rfl, (oA.rd.wide IS.stable (by omega) (Nat.le_refl _) (Nat.le_refl _)), hS7.rd.wide RI.stable (Nat.le_refl _) (by omega) (Nat.le_refl _)⟩
    repeat' (first|refine X.O ?_|refine X.A ?_|refine X.B ?_|refine X.C ?_|refine X.D ?_|refine X.E ?_|refine X.F ?_|refine X.G ?_|refine X.H ?_|refine X.I ?_|fail)
    refine WP.drawn (fun w' => Below w7.heap.size w7 w' ∧ w7.heap.size ≤ w'.heap.size) [(0, true), (1, true), (2, false), (3, false), (4, false), (5, false), (1006, false)] (by kernel_rfl) mixed ?_
    intro w8 hs8
    have hz8 := hs8.size
    have hSS8 : Below w7.heap.size w7 w8 ∧ w7.heap.size ≤ w8.heap.size := ⟨hs8.below _, by omega⟩
    refine WS.q rfl (q_loadS (by rfl) (fun w' h => hb7.below h.1 hb7.lt) (by rfl)) hSS8 ?_
    repeat' (first|refine X.U rfl ?_|refine X.V rfl ?_|refine X.W rfl ?_|refine X.Y rfl ?_|refine X.Z rfl ?_|refine WS.nil ?_|fail)
    refine WS.call rfl (Values_any ac cls.length cc w8) ?_
    rintro _ w9 ⟨rfl, hb9, hbl9, hz9⟩
    have hSS9 : Below w7.heap.size w7 w9 ∧ w7.heap.size ≤ w9.heap.size := ⟨hSS8.1.trans (Below.mono hbl9 (by omega)), by omega⟩
    refine ⟨hSS9, ?_⟩
    refine WS.call rfl (Sorted_any hb9 (hC7.rd.below RI.stable hSS9.1 (by omega)) (by omega)) ?_
    intro v10 w10 hN10
    have hz10 := hN10.2.size
    have hSS10 : Below w7.heap.size w7 w10 ∧ w7.heap.size ≤ w10.heap.size := ⟨hSS9.1.trans (Below.mono hN10.2 (by omega)), by omega⟩
    refine ⟨hSS10, ?_⟩
    refine WS.call rfl (Compact_any hN10.1) ?_
    rintro v11 w11 ⟨hown11, hbl11, hz11⟩
    have hSS11 : Below w7.heap.size w7 w11 ∧ w7.heap.size ≤ w11.heap.size := ⟨hSS10.1.trans (Below.mono hbl11 (by omega)), by omega⟩
    refine ⟨hSS11, ?_⟩
    rw [compact_sorted hidem] at hown11
    have hO11 : IS w9.heap.size w11.heap.size w11 v11 (repsL cls) := (⟨hown11, fun k hk => (hown11.block k hk).2, Nat.le_refl _⟩ : OwI 2 w9.heap.size w11.heap.size w11 _ _).rd
    refine WS.call rfl (reordered_any (hIT7.below hSS11.1 (Nat.le_refl _)) hO11 hst (by rw [est2]; exact repsL_ok cls) (by have := repsL_length cls; omega)) ?_
    rintro v12 w12 ⟨oT, hc12⟩
    have hz12 := hc12.size
    have hSS12 : Below w7.heap.size w7 w12 ∧ w7.heap.size ≤ w12.heap.size := ⟨hSS11.1.trans (hc12.below (by omega) (by omega)), by omega⟩
    refine ⟨hSS12, ?_⟩
    obtain ⟨aq, nq, cq, ar, nr, cr, rfl⟩ := oT.cells
    refine WS.last rfl (o_storeS (vs := [.slice aq nq cq, .slice ar nr cr]) (by rfl) (by rfl) (hb27.below hSS12.1 hb27.lt) (by rfl) (by rfl) two_cells ?_)
    intro w13 hb13' hbut13
    have hz13 := hbut13.size
    have hc13 := hbut13.chg
    refine WS.nil ?_
    have em : permL (sumsT x cls) (repsL cls) = mergeL x := by unfold mergeL; rw [hcls]
    rw [em] at oT
    repeat' (first|refine X.O ?_|refine X.A ?_|refine X.B ?_|refine X.C ?_|refine X.D ?_|refine X.E ?_|refine X.F ?_|refine X.G ?_|refine X.H ?_|refine X.I ?_|fail)
    refine ⟨_, retS rfl (by rfl) hb13' (by rfl), (oT.chg hc13 (by omega)).wide (by omega) (by omega) (Nat.le_refl _), ?_⟩
    refine ⟨by rw [hc13.os, hSS12.1.os, hc7.os, hbl6.os], by rw [hc13.tape, hSS12.1.tape, hc7.tape, hbl6.tape], by rw [hc13.output, hSS12.1.output, hc7.output, hbl6.output], by omega, fun k hk hd => ?_⟩
    rw [hc13.block k (by omega) (by omega), hSS12.1.block k (by omega), hc7.block k (by omega) (by omega), hbl6.block k hk]
set_option maxHeartbeats 4000000 in
theorem l10Merge_any {lo hi : Nat} {w : World} {v : Value} {x : TabD} (h : IT lo hi w v x) (hx : Tab x) :
    Does Tryz.prog 37 [v] w fun r w' => OwT 25 2 w.heap.size w'.heap.size w' r (mergeL x) ∧ Chg 0 0 w w' := by
  have hz := h.hi_le
  obtain ⟨va, vb, rfl, hA, hB⟩ := h
  obtain ⟨ab, cb, hvb⟩ := hB.shape
  subst hvb
  have hT : IT lo hi w (.agg #[va, .slice ab x.2.length cb]) x := ⟨_, _, rfl, hA, hB⟩
  have hm := hx.le8
  have hp := hx.pos
  have hsq := hx.sq
  have hcl := alikeL_length x
  have hidem := alikeL_idem hp
  refine Does.enter Tryz.func37 Tryz.ntmps37 rfl (by rfl) ?_
  repeat' (first|refine X.O ?_|refine X.A ?_|refine X.B ?_|refine X.C ?_|refine X.D ?_|refine X.E ?_|refine X.F ?_|refine X.G ?_|refine X.H ?_|refine X.I ?_|fail)
  refine WL.step (o_box (by rfl) ?_)
  intro w1 hb1 hbl1 hz1
  refine WL.step (o_alloc ?_)
  intro w2 hb2 hbl2 hz2
  have hbl12 : Below w.heap.size w w2 := hbl1.trans (Below.mono hbl2 (by omega))
  have hb12 := hb1.below hbl2 (by omega)
  have hT2 := hT.below hbl12 hz
  repeat' (first|refine X.O ?_|refine X.A ?_|refine X.B ?_|refine X.C ?_|refine X.D ?_|refine X.E ?_|refine X.F ?_|refine X.G ?_|refine X.H ?_|refine X.I ?_|fail)
  refine WL.step (o_loadS (by rfl) hb12 (by rfl) ?_)
  refine WL.call (l10Alike_any hT2 hx) ?_
  intro vc w3 hN3
  have hz3 := hN3.2.size
  have hb13 := hb12.below hN3.2 (by omega)
  have hb23 := hb2.below hN3.2 (by omega)
  have hbl3 : Below w.heap.size w w3 := hbl12.trans (Below.mono hN3.2 (by omega))
  have hC3 := hN3.ow
  obtain ⟨cls, hcls⟩ : ∃ cls, alikeL x = cls := ⟨_, rfl⟩
  rw [hcls] at hC3 hcl hidem
  obtain ⟨ac, cc, hvc⟩ := hC3.rd.shape
  subst hvc
  clear hN3
  repeat' (first|refine X.O ?_|refine X.A ?_|refine X.B ?_|refine X.C ?_|refine X.D ?_|refine X.E ?_|refine X.F ?_|refine X.G ?_|refine X.H ?_|refine X.I ?_|fail)
  refine WL.step (o_loadS (by rfl) hb13 (by rfl) ?_)
  repeat' (first|refine X.O ?_|refine X.A ?_|refine X.B ?_|refine X.C ?_|refine X.D ?_|refine X.E ?_|refine X.F ?_|refine X.G ?_|refine X.H ?_|refine X.I ?_|fail)
  refine WL.call (l10Sums_any (hT.below hbl3 hz) hC3.rd hx (by rw [← hcl]; exact hidem.1)) ?_
  rintro vS w4 ⟨hS4, hbl4⟩
  have hz4 := hbl4.size
  obtain ⟨rows, hrows⟩ : ∃ rows, x.1.map (fun r => sumsL r cls) = rows := ⟨_, rfl⟩
  rw [hrows] at hS4
  have hrl : rows.length = x.1.length := by rw [← hrows, List.length_map]
  have hR4 := hS4.rd
  obtain ⟨aS, cS, hvS⟩ := hR4.shape
  subst hvS
  repeat' (first|refine X.O ?_|refine X.A ?_|refine X.B ?_|refine X.C ?_|refine X.D ?_|refine X.E ?_|refine X.F ?_|refine X.G ?_|refine X.H ?_|refine X.I ?_|fail)
  refine WL.step (o_build (us := []) (cells := [.slice none 0 0, .slice none 0 0]) (by rfl) (by kernel_rfl) ?_)
  refine WL.step (o_alloc ?_)
  intro w5 hb5 hbl5 hz5
  refine WL.step (o_storeS (vs := [.slice none 0 0, .slice none 0 0]) (by rfl) (by rfl) hb5 (by rfl) (by rfl) two_cells ?_)
  intro w6 hb6 hbut6
  have hz6 := hbut6.size
  have hbl46 : Below w4.heap.size w4 w6 := hbl5.trans (hbut6.below (by omega))
  have hbl36 : Below w3.heap.size w3 w6 := hbl4.trans (Below.mono hbl46 (by omega))
  have hbl6 : Below w.heap.size w w6 := hbl3.trans (Below.mono hbl36 (by omega))
  have hb16 := hb13.below hbl36 (by omega)
  have hb26 := hb23.below hbl36 (by omega)
  have hB6 := hB.below RI.stable hbl6 hz
  have hC6 := hC3.rd.below RI.stable hbl36 (by omega)
  have hR6 := hR4.below IS.stable hbl46 (by omega)
  obtain ⟨mz, hmz⟩ : ∃ mz, mergeL x = mz := ⟨_, rfl⟩
  have hmz' : mz = permL (sumsT x cls) (repsL cls) := by rw [← hmz]; unfold mergeL; rw [hcls]
  have est : sumsT x cls = (rows, sumsL x.2 cls) := by unfold sumsT; rw [hrows]
  have hl1 : mz.1.length = (repsL cls).length := by rw [hmz']; exact permL_len1 _ _
  have hl2 : mz.2.length = (repsL cls).length := by rw [hmz']; exact permL_len2 _ _
  have hrep8 := repsL_length cls
  rw [hmz]
  repeat' (first|refine X.O ?_|refine X.A ?_|refine X.B ?_|refine X.C ?_|refine X.D ?_|refine X.E ?_|refine X.F ?_|refine X.G ?_|refine X.H ?_|refine X.I ?_|fail)
  refine WP.loop (fun (s : Nat × Value × Value) => [(1, .pointer (some ⟨w.heap.size, 0, none⟩)), (2, .pointer (some ⟨w1.heap.size, 0, none⟩)), (3, .slice ac cls.length cc), (4, .slice aS rows.length cS), (5, .pointer (some ⟨w4.heap.size, 0, none⟩)), (6, .int .i64 (s.1 : Nat))])
    (fun s w7 => s.1 ≤ cls.length ∧ s.2.1.oneCell' = true ∧ s.2.2.oneCell' = true ∧ Blk w7 w4.heap.size [s.2.1, s.2.2] 27 ∧ (∃ us, OwSSv 25 2 w6.heap.size w7.heap.size w7 s.2.1 us (mz.1.take (repsTo cls s.1).length) ∧ ∀ (j : Nat) u, us[j]? = some u → ∀ k, u.ownBlock = some k → s.2.2.ownBlock ≠ some k) ∧ OwI 2 w6.heap.size w7.heap.size w7 s.2.2 (mz.2.take (repsTo cls s.1).length) ∧ Chg w4.heap.size w6.heap.size w6 w7)
    (fun s => cls.length - s.1) (0, .slice none 0 0, .slice none 0 0) ⟨rfl, rfl, rfl, rfl, rfl, rfl, trivial⟩ ⟨by dsimp only; omega, rfl, rfl, hb6, ⟨[], OwSSv.none (Fw.Own.nil _ _ _) (by decide), fun j u hu => by simp at hu⟩, ⟨Fw.Own.nil _ _ _, fun k hk => by simp [Value.ownBlock] at hk, Nat.le_refl _⟩, Chg.refl _ _ _⟩ ?_
  rintro ⟨i, vA, vB⟩ w7 ⟨hi1, hone1, hone2, hb7, ⟨us, oA, hap⟩, oB, hc7⟩
  dsimp only at hi1 hone1 hone2 hb7 oA hap oB ⊢
  have hz7 := hc7.size
  have hB7 := RI.chg hB6 hc7 (by omega)
  have hC7 := RI.chg hC6 hc7 (by omega)
  have hR7 := ISS.chg hR6 hc7 (by omega)
  have hb17 := hb16.chg hc7 (by omega)
  have hrmono := repsTo_mono cls hi1
  repeat' (first|refine X.O ?_|refine X.A ?_|refine X.B ?_|refine X.C ?_|refine X.D ?_|refine X.E ?_|refine X.F ?_|refine X.G ?_|refine X.H ?_|refine X.I ?_|fail)
  first|refine X.J (fun _ => ?_) (fun _ => ?_)|refine X.L (fun _ => ?_) (fun _ => ?_)|refine X.M (fun _ => ?_) (fun _ => ?_)|refine X.R (fun _ => ?_) (fun _ => ?_)|fail
  · rename_i hlt
    have hli : i < cls.length := by omega
    have hri := isRep_iff hli
    repeat' (first|refine X.O ?_|refine X.A ?_|refine X.B ?_|refine X.C ?_|refine X.D ?_|refine X.E ?_|refine X.F ?_|refine X.G ?_|refine X.H ?_|refine X.I ?_|fail)
    refine WL.ixload hC7 (List.getElem?_eq_getElem hli) ?_
    rintro q1 _ rfl
    repeat' (first|refine X.O ?_|refine X.A ?_|refine X.B ?_|refine X.C ?_|refine X.D ?_|refine X.E ?_|refine X.F ?_|refine X.G ?_|refine X.H ?_|refine X.I ?_|fail)
    first|refine X.J (fun _ => ?_) (fun _ => ?_)|refine X.L (fun _ => ?_) (fun _ => ?_)|refine X.M (fun _ => ?_) (fun _ => ?_)|refine X.R (fun _ => ?_) (fun _ => ?_)|fail
    · rename_i hne
      rw [decide_eq_false hne] at hri
      have hsk := repsTo_skip hri
      repeat' (first|refine X.O ?_|refine X.A ?_|refine X.B ?_|refine X.C ?_|refine X.D ?_|refine X.E ?_|refine X.F ?_|refine X.G ?_|refine X.H ?_|refine X.I ?_|fail)
      exact ⟨(i + 1, vA, vB), ⟨rfl, rfl, rfl, rfl, rfl, (by first|rfl|exact X.T (by omega)), trivial⟩, ⟨by dsimp only; omega, hone1, hone2, hb7, ⟨us, by dsimp only; rw [hsk]; exact oA, hap⟩, by dsimp only; rw [hsk]; exact oB, hc7⟩, by dsimp only; omega⟩
    · rename_i heq
      have heq' := Decidable.not_not.1 heq
      rw [decide_eq_true heq'] at hri
      obtain ⟨hclt, hcget⟩ := reps_get hli hri
      have hsl := repsTo_succ_len hri
      obtain ⟨c, hc⟩ : ∃ c, (repsTo cls i).length = c := ⟨_, rfl⟩
      rw [hc] at oA oB hsl hrmono
      have hclt' : c < (repsL cls).length := by rw [← hc]; exact hclt
      have hcget' : (repsL cls)[c] = ((i : Nat) : Int) := by subst hc; exact hcget
      have hvl : us.length = c := by rw [oA.len, List.length_take]; omega
      have hlia : i < rows.length := by omega
      have hrow : rows[i].length = cls.length := by subst hrows; simp [sumsL_length]
      obtain ⟨pr, hpr⟩ : ∃ pr, permRow (sumsT x cls) (repsL cls) ((i : Nat) : Int) = pr := ⟨_, rfl⟩
      have hprl : pr.length = (repsL cls).length := by rw [← hpr]; exact permRow_length _ _ _
      repeat' (first|refine X.O ?_|refine X.A ?_|refine X.B ?_|refine X.C ?_|refine X.D ?_|refine X.E ?_|refine X.F ?_|refine X.G ?_|refine X.H ?_|refine X.I ?_|fail)
      refine WL.step (o_lit (us := []) (by rfl) (by rfl) rfl (by decide) one0 ?_)
      intro v8 w8 hown8 hbl8 hz8 _
      repeat' (first|refine X.O ?_|refine X.A ?_|refine X.B ?_|refine X.C ?_|refine X.D ?_|refine X.E ?_|refine X.F ?_|refine X.G ?_|refine X.H ?_|refine X.I ?_|fail)
      refine WP.loop (fun (s : Nat × Value × Int) => [(1, .pointer (some ⟨w.heap.size, 0, none⟩)), (2, .pointer (some ⟨w1.heap.size, 0, none⟩)), (3, .slice ac cls.length cc), (4, .slice aS rows.length cS), (5, .pointer (some ⟨w4.heap.size, 0, none⟩)), (6, .int .i64 (i : Nat)), (7, s.2.1), (8, .int .i64 s.2.2), (9, .int .i64 (s.1 : Nat))])
        (fun s w9 => s.1 ≤ cls.length ∧ Fw.Own w7.heap.size 2 w9 s.2.1 (Ints (pr.take (repsTo cls s.1).length)) ∧ 0 ≤ s.2.2 ∧ s.2.2 ≤ 10006 ∧ sumGo (i : Int) 0 x.2 cls = sumGo (i : Int) s.2.2 (x.2.drop s.1) (cls.drop s.1) ∧ Below w7.heap.size w7 w9)
        (fun s => cls.length - s.1) (0, v8, 0) ⟨rfl, rfl, rfl, rfl, rfl, rfl, rfl, rfl, rfl, trivial⟩ ⟨by dsimp only; omega, by simpa [Ints, repsTo] using hown8, by dsimp only; omega, by dsimp only; omega, rfl, hbl8⟩ ?_
      rintro ⟨k, vr, sm⟩ w9 ⟨hk, hown9, hsm0, hsm1, hsum, hbl9⟩
      dsimp only at hk hown9 hsm0 hsm1 hsum ⊢
      have hz9 := hbl9.size
      have hB9 := hB7.below RI.stable hbl9 (by omega)
      have hC9 := hC7.below RI.stable hbl9 (by omega)
      have hR9 := hR7.below IS.stable hbl9 (by omega)
      have hb19 := hb17.below hbl9 (by omega)
      have hkmono := repsTo_mono cls hk
      repeat' (first|refine X.O ?_|refine X.A ?_|refine X.B ?_|refine X.C ?_|refine X.D ?_|refine X.E ?_|refine X.F ?_|refine X.G ?_|refine X.H ?_|refine X.I ?_|fail)
      first|refine X.J (fun _ => ?_) (fun _ => ?_)|refine X.L (fun _ => ?_) (fun _ => ?_)|refine X.M (fun _ => ?_) (fun _ => ?_)|refine X.R (fun _ => ?_) (fun _ => ?_)|fail
      · rename_i hltk
        have hlk : k < cls.length := by omega
        have hlkb : k < x.2.length := by omega
        have hrk := isRep_iff hlk
        have hnum := allN_get hx.last hlkb
        rw [sumGo_drop hlkb hlk] at hsum
        -- the end of a round: the sum
        repeat' (first|refine X.O ?_|refine X.A ?_|refine X.B ?_|refine X.C ?_|refine X.D ?_|refine X.E ?_|refine X.F ?_|refine X.G ?_|refine X.H ?_|refine X.I ?_|fail)
        refine WL.ixload hC9 (List.getElem?_eq_getElem hlk) ?_
        rintro q2 _ rfl
        repeat' (first|refine X.O ?_|refine X.A ?_|refine X.B ?_|refine X.C ?_|refine X.D ?_|refine X.E ?_|refine X.F ?_|refine X.G ?_|refine X.H ?_|refine X.I ?_|fail)
        refine WP.mid (fun l' w' => ∃ vr', Agree l' [(1, .pointer (some ⟨w.heap.size, 0, none⟩)), (2, .pointer (some ⟨w1.heap.size, 0, none⟩)), (3, .slice ac cls.length cc), (4, .slice aS rows.length cS), (5, .pointer (some ⟨w4.heap.size, 0, none⟩)), (6, .int .i64 (i : Nat)), (7, vr'), (8, .int .i64 sm), (9, .int .i64 (k : Nat))] ∧ Fw.Own w7.heap.size 2 w' vr' (Ints (pr.take (repsTo cls (k + 1)).length)) ∧ Below w7.heap.size w7 w') ?_ ?_
        · first|refine X.J (fun _ => ?_) (fun _ => ?_)|refine X.L (fun _ => ?_) (fun _ => ?_)|refine X.M (fun _ => ?_) (fun _ => ?_)|refine X.R (fun _ => ?_) (fun _ => ?_)|fail
          · rename_i hyk
            rw [decide_eq_true hyk] at hrk
            obtain ⟨hklt, hkget⟩ := reps_get hlk hrk
            have hksl := repsTo_succ_len hrk
            have hlkr : k < rows[i].length := by omega
            repeat' (first|refine X.O ?_|refine X.A ?_|refine X.B ?_|refine X.C ?_|refine X.D ?_|refine X.E ?_|refine X.F ?_|refine X.G ?_|refine X.H ?_|refine X.I ?_|fail)
            refine WL.ixload (j := i) hR9 (List.getElem?_eq_getElem hlia) ?_
            intro q3 u hu
            repeat' (first|refine X.O ?_|refine X.A ?_|refine X.B ?_|refine X.C ?_|refine X.D ?_|refine X.E ?_|refine X.F ?_|refine X.G ?_|refine X.H ?_|refine X.I ?_|fail)
            refine WL.ixload (j := k) hu (List.getElem?_eq_getElem hlkr) ?_
            rintro q4 _ rfl
            refine o_append1 (u := .int .i64 rows[i][k]) (fun _ => by rfl) (by rfl) hown9 rfl (by simp [Ints, hprl, maxLen]; omega) (by simp [Ints, hprl]; omega) (by omega) ?_
            intro q5 v10 w10 hown10 hbl10 _ hz10 _
            repeat' (first|refine X.O ?_|refine X.A ?_|refine X.B ?_|refine X.C ?_|refine X.D ?_|refine X.E ?_|refine X.F ?_|refine X.G ?_|refine X.H ?_|refine X.I ?_|fail)
            refine ⟨v10, ⟨rfl, rfl, rfl, rfl, rfl, rfl, rfl, rfl, rfl, trivial⟩, ?_, hbl9.trans hbl10⟩
            rw [hksl, ← Ints_snoc (show (repsTo cls k).length < pr.length by omega) (y := rows[i][k]) (by subst hpr; rw [permRow_get _ hklt, hkget, est, Int.toNat_natCast, Int.toNat_natCast, at2_eq hlia hlkr])]
            exact hown10
          · rename_i hnk
            rw [decide_eq_false hnk] at hrk
            repeat' (first|refine X.O ?_|refine X.A ?_|refine X.B ?_|refine X.C ?_|refine X.D ?_|refine X.E ?_|refine X.F ?_|refine X.G ?_|refine X.H ?_|refine X.I ?_|fail)
            exact ⟨vr, ⟨rfl, rfl, rfl, rfl, rfl, rfl, rfl, rfl, rfl, trivial⟩, by rw [repsTo_skip hrk]; exact hown9, hbl9⟩
        rintro l10 w10 ⟨vr', hag, hown10, hbl10⟩
        refine WP.frame _ hag ?_
        clear hag
        have hz10 := hbl10.size
        have hB10 := hB7.below RI.stable hbl10 (by omega)
        have hC10 := hC7.below RI.stable hbl10 (by omega)
        have hb110 := hb17.below hbl10 (by omega)
        repeat' (first|refine X.O ?_|refine X.A ?_|refine X.B ?_|refine X.C ?_|refine X.D ?_|refine X.E ?_|refine X.F ?_|refine X.G ?_|refine X.H ?_|refine X.I ?_|fail)
        refine WL.ixload hC10 (List.getElem?_eq_getElem hlk) ?_
        rintro q6 _ rfl
        repeat' (first|refine X.O ?_|refine X.A ?_|refine X.B ?_|refine X.C ?_|refine X.D ?_|refine X.E ?_|refine X.F ?_|refine X.G ?_|refine X.H ?_|refine X.I ?_|fail)
        first|refine X.J (fun _ => ?_) (fun _ => ?_)|refine X.L (fun _ => ?_) (fun _ => ?_)|refine X.M (fun _ => ?_) (fun _ => ?_)|refine X.R (fun _ => ?_) (fun _ => ?_)|fail
        · rename_i hci
          rw [if_pos hci] at hsum
          have hnb := nm_bd (sm + x.2[k])
          repeat' (first|refine X.O ?_|refine X.A ?_|refine X.B ?_|refine X.C ?_|refine X.D ?_|refine X.E ?_|refine X.F ?_|refine X.G ?_|refine X.H ?_|refine X.I ?_|fail)
          refine WL.fld hb110 ?_
          intro q7
          repeat' (first|refine X.O ?_|refine X.A ?_|refine X.B ?_|refine X.C ?_|refine X.D ?_|refine X.E ?_|refine X.F ?_|refine X.G ?_|refine X.H ?_|refine X.I ?_|fail)
          refine WL.ixload hB10 (List.getElem?_eq_getElem hlkb) ?_
          rintro q8 _ rfl
          refine WL.call (l01Add_any sm x.2[k] _ (by unfold InI; omega)) ?_
          rintro _ _ ⟨rfl, rfl⟩
          repeat' (first|refine X.O ?_|refine X.A ?_|refine X.B ?_|refine X.C ?_|refine X.D ?_|refine X.E ?_|refine X.F ?_|refine X.G ?_|refine X.H ?_|refine X.I ?_|fail)
          exact ⟨(k + 1, vr', nm (sm + x.2[k])), ⟨rfl, rfl, rfl, rfl, rfl, rfl, rfl, rfl, (by first|rfl|exact X.T (by omega)), trivial⟩, ⟨by dsimp only; omega, hown10, hnb.1, hnb.2, hsum, hbl10⟩, by dsimp only; omega⟩
        · rename_i hci
          rw [if_neg hci] at hsum
          repeat' (first|refine X.O ?_|refine X.A ?_|refine X.B ?_|refine X.C ?_|refine X.D ?_|refine X.E ?_|refine X.F ?_|refine X.G ?_|refine X.H ?_|refine X.I ?_|fail)
          exact ⟨(k + 1, vr', sm), ⟨rfl, rfl, rfl, rfl, rfl, rfl, rfl, rfl, (by first|rfl|exact X.T (by omega)), trivial⟩, ⟨by dsimp only; omega, hown10, hsm0, hsm1, hsum, hbl10⟩, by dsimp only; omega⟩
      · rename_i hgek
        have hke : k = cls.length := by omega
        rw [sumGo_end (by omega)] at hsum
        have hfull : (repsTo cls k).length = pr.length := by rw [hke, hprl]; rfl
        rw [hfull, List.take_length] at hown9
        obtain ⟨ar, cr, hvr, _⟩ := hown9.shape
        have oA9 := oA.chg (Chg.of_below hbl9) (by omega)
        have oB9 := oB.chg (Chg.of_below hbl9) (by omega)
        have hb79 := hb7.below hbl9 hb7.lt
        repeat' (first|refine X.O ?_|refine X.A ?_|refine X.B ?_|refine X.C ?_|refine X.D ?_|refine X.E ?_|refine X.F ?_|refine X.G ?_|refine X.H ?_|refine X.I ?_|fail)
        refine WL.fld hb79 ?_
        intro p1
        repeat' (first|refine X.O ?_|refine X.A ?_|refine X.B ?_|refine X.C ?_|refine X.D ?_|refine X.E ?_|refine X.F ?_|refine X.G ?_|refine X.H ?_|refine X.I ?_|fail)
        refine o_append1 (u := vr) (fun _ => by rfl) (by rfl) oA9.own (by rw [hvr]; rfl) (by simp [hvl, maxLen]; omega) (by simp [hvl]; omega) (by omega) ?_
        intro p2 v10 w10 hown10 hbl10 hf10 hz10 _
        have o10 := oA9.snoc (⟨hown9, fun k hk => (hown9.block k hk).2, Nat.le_refl _⟩ : OwI 2 w7.heap.size w9.heap.size w9 vr pr) (by omega) (by omega) hown10 (by omega) hf10
        have oB10 : OwI 2 w6.heap.size w7.heap.size w10 vB (mz.2.take c) := ⟨oB9.own.keep fun k hk => hf10 k (oB9.own.block k hk).2 (fun e => oA9.own.ne_block oB9.own oA9.ne e hk), oB9.lt, by omega⟩
        have hb710 : Blk w10 w4.heap.size [vA, vB] 27 := hb79.keep (hf10 _ (by omega) (fun e => oA9.own.off_blk hb79 (by decide) e rfl))
        have hap10 : ∀ (j : Nat) u, (us ++ [vr])[j]? = some u → ∀ k, u.ownBlock = some k → vB.ownBlock ≠ some k := fun j u hu k hk e => by
          rw [List.getElem?_append] at hu
          split at hu
          · exact hap j u hu k hk e
          · have : u = vr := by
              have hlt := (List.getElem?_eq_some_iff.1 hu).1
              simp only [List.length_singleton] at hlt
              have hj0 : j - us.length = 0 := by omega
              rw [hj0] at hu
              simpa using hu.symm
            subst this
            have h1 := (hown9.block k hk).1
            have h2 := oB.lt k e
            omega
        obtain ⟨a10, c10, hv10, _⟩ := hown10.shape
        repeat' (first|refine X.O ?_|refine X.A ?_|refine X.B ?_|refine X.C ?_|refine X.D ?_|refine X.E ?_|refine X.F ?_|refine X.G ?_|refine X.H ?_|refine X.I ?_|fail)
        refine WL.fldst hb710 ?_ (hu := by rw [hv10]; rfl)
        intro p3 w11 hb11 hbut11
        have hz11 := hbut11.size
        have hcc11 : Chg w4.heap.size w6.heap.size w10 w11 := (Chg.refl _ _ _).thenBut hbut11 (Nat.le_refl _) (by omega)
        have o11 := o10.chg hcc11 (by omega)
        have oB11 := oB10.chg hcc11 (by omega)
        have hbl710 : Below w6.heap.size w7 w10 := (Below.mono hbl9 (by omega)).trans hbl10
        have hc11 : Chg w4.heap.size w6.heap.size w6 w11 := (hc7.thenBelow hbl710).thenBut hbut11 (Nat.le_refl _) (by omega)
        repeat' (first|refine X.O ?_|refine X.A ?_|refine X.B ?_|refine X.C ?_|refine X.D ?_|refine X.E ?_|refine X.F ?_|refine X.G ?_|refine X.H ?_|refine X.I ?_|fail)
        refine WL.fld hb11 ?_
        intro p4
        repeat' (first|refine X.O ?_|refine X.A ?_|refine X.B ?_|refine X.C ?_|refine X.D ?_|refine X.E ?_|refine X.F ?_|refine X.G ?_|refine X.H ?_|refine X.I ?_|fail)
        refine o_append1K (u := .int .i64 sm) (fun _ => by rfl) (by rfl) oB11.own rfl (by simp [Ints, hl2, maxLen]; omega) (by simp [Ints, hl2]; omega) (by omega) ?_
        intro p5 v12 w12 hown12 hbl12 hf12 hz12 hk12
        obtain ⟨a12, c12, hv12, _⟩ := hown12.shape
        have hb12' := hb11.below hbl12 (by omega)
        repeat' (first|refine X.O ?_|refine X.A ?_|refine X.B ?_|refine X.C ?_|refine X.D ?_|refine X.E ?_|refine X.F ?_|refine X.G ?_|refine X.H ?_|refine X.I ?_|fail)
        refine WL.fldst hb12' ?_ (hu := by rw [hv12]; rfl)
        intro p6 w13 hb13' hbut13
        have hz13 := hbut13.size
        have hcc13 : Chg w4.heap.size w6.heap.size w12 w13 := (Chg.refl _ _ _).thenBut hbut13 (Nat.le_refl _) (by omega)
        have hc13 : Chg w4.heap.size w6.heap.size w6 w13 := (hc11.thenBelow hbl12).thenBut hbut13 (Nat.le_refl _) (by omega)
        have e1 : mz.1.take (c + 1) = mz.1.take c ++ [pr] := take_snoc (by omega) (by subst hmz'; rw [permL_get1 _ hclt', hcget']; exact hpr)
        have e2 : Ints (mz.2.take (c + 1)) = Ints (mz.2.take c) ++ [.int .i64 sm] := (Ints_snoc (show c < mz.2.length by omega) (by subst hmz'; rw [permL_get2 _ hclt', hcget', Int.toNat_natCast, est]; show (sumsL x.2 cls)[i]?.getD 0 = sm; rw [sumsL_get hli hidem.1]; exact hsum)).symm
        have o12 : OwSSv 25 2 w6.heap.size w12.heap.size w12 v10 (us ++ [vr]) (mz.1.take (c + 1)) := by
          rw [e1]
          exact (o11.keepBut2 oB11.own (fun j u hu k hk e => hap10 j u hu k hk e) (by omega) hf12).wide (Nat.le_refl _) (by omega) (Nat.le_refl _)
        have hap12 : ∀ (j : Nat) u, (us ++ [vr])[j]? = some u → ∀ k, u.ownBlock = some k → v12.ownBlock ≠ some k := fun j u' hu k hk e => by
          rcases hk12 k e with h1 | h1
          · exact hap10 j u' hu k hk h1
          · obtain ⟨xs, hx2⟩ : ∃ xs, (mz.1.take c ++ [pr])[j]? = some xs := ⟨_, List.getElem?_eq_getElem (by rw [← o10.len]; exact (List.getElem?_eq_some_iff.1 hu).1)⟩
            have := (o10.rows j u' xs hu hx2).lt k hk
            omega
        repeat' (first|refine X.O ?_|refine X.A ?_|refine X.B ?_|refine X.C ?_|refine X.D ?_|refine X.E ?_|refine X.F ?_|refine X.G ?_|refine X.H ?_|refine X.I ?_|fail)
        refine ⟨(i + 1, v10, v12), ⟨rfl, rfl, rfl, rfl, rfl, (by first|rfl|exact X.T (by omega)), trivial⟩, ⟨by dsimp only; omega, by rw [hv10]; rfl, by rw [hv12]; rfl, hb13', ⟨_, ?_, hap12⟩, ?_, hc13⟩, by dsimp only; omega⟩
        · dsimp only
          rw [hsl]
          exact (o12.chg hcc13 (by omega)).wide (Nat.le_refl _) (by omega) (Nat.le_refl _)
        · dsimp only
          rw [hsl]
          have oN : OwI 2 w6.heap.size w12.heap.size w12 v12 (mz.2.take (c + 1)) := ⟨by rw [e2]; exact hown12, fun k hk => (hown12.block k hk).2, Nat.le_refl _⟩
          exact (oN.chg hcc13 (by omega)).wide (Nat.le_refl _) (by omega) (Nat.le_refl _)
  · rename_i hge
    have hie : i = cls.length := by omega
    have hfull : (repsTo cls i).length = (repsL cls).length := by rw [hie]; rfl
    rw [hfull, List.take_of_length_le (by omega)] at oA
    rw [hfull, List.take_of_length_le (by omega)] at oB
    have hb27 := hb26.chg hc7 (by omega)
    repeat' (first|refine X.O ?_|refine X.A ?_|refine X.B ?_|refine X.C ?_|refine X.D ?_|refine X.E ?_|refine X.F ?_|refine X.G ?_|refine X.H ?_|refine X.I ?_|fail)
    refine WL.step (o_loadS (by rfl) hb7 (by rfl) ?_)
    refine WL.step (o_storeS (vs := [vA, vB]) (by rfl) (by rfl) hb27 (by rfl) (by rfl) (fun u hu => by
      simp only [List.mem_cons, List.not_mem_nil, or_false] at hu
      rcases hu with rfl | rfl
      · exact hone1
      · exact hone2) ?_)
    intro w8 hb8 hbut8
    have hz8 := hbut8.size
    have hc8 := hbut8.chg
    repeat' (first|refine X.O ?_|refine X.A ?_|refine X.B ?_|refine X.C ?_|refine X.D ?_|refine X.E ?_|refine X.F ?_|refine X.G ?_|refine X.H ?_|refine X.I ?_|fail)
    refine ⟨_, retS rfl (by rfl) hb8 (by rfl), ⟨vA, vB, us, rfl, (oA.chg hc8 (by omega)).wide (by omega) (by omega) (Nat.le_refl _), (oB.chg hc8 (by omega)).wide (by omega) (by omega) (Nat.le_refl _), hap⟩, ?_⟩
    refine ⟨by rw [hc8.os, hc7.os, hbl6.os], by rw [hc8.tape, hc7.tape, hbl6.tape], by rw [hc8.output, hc7.output, hbl6.output], by omega, fun k hk hd => ?_⟩
    rw [hc8.block k (by omega) (by omega), hc7.block k (by omega) (by omega), hbl6.block k hk]
end Go.Proofs
