/- The composition of tableaus, as the program has it. -/
import Derived.Test.YthdopepmndoamaaH8
import Derived.Test.YthdopepmndoamaaA4
import Derived.Test.YthdopepmndoamaaPl7
namespace Go.Proofs
open Go Go.Fw Go.RowKit Go.Rk
theorem stages_any {lo hi : Nat} {w : World} {v : Value} {x : TabD} (h : IT lo hi w v x) : Does Try.prog 85 [v] w fun r w' => r = .int .i64 (x.2.length : Nat) ∧ Chg 0 0 w w' := by
  obtain ⟨va, vb, rfl, hA, hB⟩ := h
  obtain ⟨a', c', hvb⟩ := hB.shape
  subst hvb
  have hm := hB.len
  unfold maxLen at hm
  refine Does.enter Try.func85 Try.ntmps85 rfl (by rfl) ?_
  repeat' (first | refine WL.step (o_s (by rfl) ?_) | refine WL.step (o_len (by rfl) ?_) | refine WL.step (o_add (by rfl) (by rfl) (by unfold InI; omega) ?_) | refine WL.step (o_sub (by rfl) (by rfl) (by unfold InI; omega) ?_) | refine WL.step (OpW.pass (by rfl) ?_) | refine WL.nil ?_ | refine thenN ?_ | refine WP.region ?_ | refine WP.seq ?_ | refine WP.block ?_ | refine thenR ?_ | refine thenX ?_ | refine blkN ?_ | refine blkHit ?_ | refine blkR ?_ | refine blkMiss (by rfl) ?_ | refine WP.ret ?_ | refine WP.exit ?_ | refine WP.skip ?_ | refine WP.label ?_ | refine WP.condT (by rfl) ?_ | refine WP.condF (by rfl) ?_ | fail)
  refine WL.step (o_box (by rfl) ?_)
  intro w1 hb1 hbl1 hz1
  repeat' (first | refine WL.step (o_s (by rfl) ?_) | refine WL.step (o_len (by rfl) ?_) | refine WL.step (o_add (by rfl) (by rfl) (by unfold InI; omega) ?_) | refine WL.step (o_sub (by rfl) (by rfl) (by unfold InI; omega) ?_) | refine WL.step (OpW.pass (by rfl) ?_) | refine WL.nil ?_ | refine thenN ?_ | refine WP.region ?_ | refine WP.seq ?_ | refine WP.block ?_ | refine thenR ?_ | refine thenX ?_ | refine blkN ?_ | refine blkHit ?_ | refine blkR ?_ | refine blkMiss (by rfl) ?_ | refine WP.ret ?_ | refine WP.exit ?_ | refine WP.skip ?_ | refine WP.label ?_ | refine WP.condT (by rfl) ?_ | refine WP.condF (by rfl) ?_ | fail)
  refine WL.fld hb1 ?_
  intro p1
  repeat' (first | refine WL.step (o_s (by rfl) ?_) | refine WL.step (o_len (by rfl) ?_) | refine WL.step (o_add (by rfl) (by rfl) (by unfold InI; omega) ?_) | refine WL.step (o_sub (by rfl) (by rfl) (by unfold InI; omega) ?_) | refine WL.step (OpW.pass (by rfl) ?_) | refine WL.nil ?_ | refine thenN ?_ | refine WP.region ?_ | refine WP.seq ?_ | refine WP.block ?_ | refine thenR ?_ | refine thenX ?_ | refine blkN ?_ | refine blkHit ?_ | refine blkR ?_ | refine blkMiss (by rfl) ?_ | refine WP.ret ?_ | refine WP.exit ?_ | refine WP.skip ?_ | refine WP.label ?_ | refine WP.condT (by rfl) ?_ | refine WP.condF (by rfl) ?_ | fail)
  refine ⟨_, ret1 rfl (by rfl), ?_⟩
  exact ⟨rfl, Chg.of_below hbl1⟩
theorem composed_any {lo hi lo' hi' : Nat} {w : World} {v v' : Value} {x y : TabD} (h : IT lo hi w v x) (h' : IT lo' hi' w v' y) (hx : Tab x) (hy : Tab y) :
    Does Try.prog 86 [v, v'] w fun r w' => OwT 28 2 w.heap.size w'.heap.size w' r (composeL x y) ∧ Chg 0 0 w w' := by
  obtain ⟨va, vb, rfl, hA, hB⟩ := h
  obtain ⟨va', vb', rfl, hA', hB'⟩ := h'
  obtain ⟨a, c, hva⟩ := hA.shape
  obtain ⟨a2, c2, hvb⟩ := hB.shape
  obtain ⟨a3, c3, hva'⟩ := hA'.shape
  obtain ⟨a4, c4, hvb'⟩ := hB'.shape
  subst hva hvb hva' hvb'
  have hm := hx.le8
  have hsq := hx.sq
  have hm' := hy.le8
  have hsq' := hy.sq
  have hAz := hA.hi_le
  have hAz' := hA'.hi_le
  have hlenR := compA_length x y
  refine Does.enter Try.func86 Try.ntmps86 rfl (by rfl) ?_
  repeat' (first | refine WL.step (o_s (by rfl) ?_) | refine WL.step (o_len (by rfl) ?_) | refine WL.step (o_add (by rfl) (by rfl) (by unfold InI; omega) ?_) | refine WL.step (o_sub (by rfl) (by rfl) (by unfold InI; omega) ?_) | refine WL.step (OpW.pass (by rfl) ?_) | refine WL.nil ?_ | refine thenN ?_ | refine WP.region ?_ | refine WP.seq ?_ | refine WP.block ?_ | refine thenR ?_ | refine thenX ?_ | refine blkN ?_ | refine blkHit ?_ | refine blkR ?_ | refine blkMiss (by rfl) ?_ | refine WP.ret ?_ | refine WP.exit ?_ | refine WP.skip ?_ | refine WP.label ?_ | refine WP.condT (by rfl) ?_ | refine WP.condF (by rfl) ?_ | fail)
  refine WL.step (o_box (by rfl) ?_)
  intro w1 hb1 hbl1 hz1
  refine WL.step (o_box (by rfl) ?_)
  intro w1' hb1' hbl1' hz1'
  refine WL.step (o_alloc ?_)
  intro w2 hb2 hbl2 hz2
  have hbl12 : Below w.heap.size w w2 := hbl1.trans ((Below.mono hbl1' (by omega)).trans (Below.mono hbl2 (by omega)))
  replace hb1 := (hb1.below hbl1' (by omega)).below hbl2 (by omega)
  replace hb1' := hb1'.below hbl2 (by omega)
  replace hA := hA.below IS.stable hbl12 hAz
  replace hB := hB.below RI.stable hbl12 hAz
  replace hA' := hA'.below IS.stable hbl12 hAz'
  replace hB' := hB'.below RI.stable hbl12 hAz'
  repeat' (first | refine WL.step (o_s (by rfl) ?_) | refine WL.step (o_len (by rfl) ?_) | refine WL.step (o_add (by rfl) (by rfl) (by unfold InI; omega) ?_) | refine WL.step (o_sub (by rfl) (by rfl) (by unfold InI; omega) ?_) | refine WL.step (OpW.pass (by rfl) ?_) | refine WL.nil ?_ | refine thenN ?_ | refine WP.region ?_ | refine WP.seq ?_ | refine WP.block ?_ | refine thenR ?_ | refine thenX ?_ | refine blkN ?_ | refine blkHit ?_ | refine blkR ?_ | refine blkMiss (by rfl) ?_ | refine WP.ret ?_ | refine WP.exit ?_ | refine WP.skip ?_ | refine WP.label ?_ | refine WP.condT (by rfl) ?_ | refine WP.condF (by rfl) ?_ | fail)
  refine WL.fld hb1 ?_
  intro p1
  refine WL.fld hb1' ?_
  intro p1'
  refine WL.step (o_lit (us := [.slice a2 x.2.length c2, .slice a4 y.2.length c4]) (by rfl) (by rfl) rfl (by decide) two_cells ?_)
  intro vl wl hownl hbll hzl _
  have iL := lit2 hownl (hB.below RI.stable hbll (by omega)) (hB'.below RI.stable hbll (by omega))
  refine WL.call (Concat_any iL (by simp [cntSS]; omega) (by simp)) ?_
  intro vs w3 hN3
  have hz3 := hN3.2.size
  obtain ⟨aq, cq, hvs, _⟩ := hN3.1.shape
  have oB := hN3.ow
  have e2 : [x.2, y.2].flatten = x.2 ++ y.2 := by simp
  rw [e2] at oB hvs
  rw [Ints_length] at hvs
  subst hvs
  refine WL.step (o_build (us := [.slice aq (x.2 ++ y.2).length cq]) (cells := [.slice none 0 0, .slice aq (x.2 ++ y.2).length cq]) (by rfl) (by kernel_rfl) ?_)
  refine WL.var (vs := [.slice none 0 0, .slice aq (x.2 ++ y.2).length cq]) (fun p => by rfl) rfl two_cells ?_
  intro w4 hb4 hbl4 hz4
  have hbl24 : Below w2.heap.size w2 w4 := hbll.trans ((Below.mono hN3.2 (by omega)).trans (Below.mono hbl4 (by omega)))
  have hbl14 : Below w.heap.size w w4 := hbl12.trans (Below.mono hbl24 (by omega))
  replace hb1 := hb1.below hbl24 (by omega)
  replace hb1' := hb1'.below hbl24 (by omega)
  replace hb2 := hb2.below hbl24 (by omega)
  replace hA := hA.below IS.stable hbl24 (by omega)
  replace hB := hB.below RI.stable hbl24 (by omega)
  replace hA' := hA'.below IS.stable hbl24 (by omega)
  replace hB' := hB'.below RI.stable hbl24 (by omega)
  replace oB := oB.chg (Chg.of_below hbl4) (by omega)
  repeat' (first | refine WL.step (o_s (by rfl) ?_) | refine WL.step (o_len (by rfl) ?_) | refine WL.step (o_add (by rfl) (by rfl) (by unfold InI; omega) ?_) | refine WL.step (o_sub (by rfl) (by rfl) (by unfold InI; omega) ?_) | refine WL.step (OpW.pass (by rfl) ?_) | refine WL.nil ?_ | refine thenN ?_ | refine WP.region ?_ | refine WP.seq ?_ | refine WP.block ?_ | refine thenR ?_ | refine thenX ?_ | refine blkN ?_ | refine blkHit ?_ | refine blkR ?_ | refine blkMiss (by rfl) ?_ | refine WP.ret ?_ | refine WP.exit ?_ | refine WP.skip ?_ | refine WP.label ?_ | refine WP.condT (by rfl) ?_ | refine WP.condF (by rfl) ?_ | fail)
  refine WL.fld hb1 ?_
  intro p2
  repeat' (first | refine WL.step (o_s (by rfl) ?_) | refine WL.step (o_len (by rfl) ?_) | refine WL.step (o_add (by rfl) (by rfl) (by unfold InI; omega) ?_) | refine WL.step (o_sub (by rfl) (by rfl) (by unfold InI; omega) ?_) | refine WL.step (OpW.pass (by rfl) ?_) | refine WL.nil ?_ | refine thenN ?_ | refine WP.region ?_ | refine WP.seq ?_ | refine WP.block ?_ | refine thenR ?_ | refine thenX ?_ | refine blkN ?_ | refine blkHit ?_ | refine blkR ?_ | refine blkMiss (by rfl) ?_ | refine WP.ret ?_ | refine WP.exit ?_ | refine WP.skip ?_ | refine WP.label ?_ | refine WP.condT (by rfl) ?_ | refine WP.condF (by rfl) ?_ | fail)
  refine WP.loop (fun (s : Nat × Value) => [(2, .pointer (some ⟨w.heap.size, 0, none⟩)), (3, .pointer (some ⟨w1.heap.size, 0, none⟩)), (4, .pointer (some ⟨w1'.heap.size, 0, none⟩)), (5, .pointer (some ⟨w3.heap.size, 0, none⟩)), (18, .slice a x.1.length c), (19, .int .i64 (x.1.length : Nat)), (20, .int .i64 (s.1 : Nat))])
    (fun s w5 => s.1 ≤ x.1.length ∧ s.2.oneCell' = true ∧ Blk w5 w3.heap.size [s.2, .slice aq (x.2 ++ y.2).length cq] 30 ∧ OwSS 28 2 w4.heap.size w5.heap.size w5 s.2 ((compA x y).take s.1) ∧ Chg w3.heap.size w4.heap.size w4 w5)
    (fun s => x.1.length - s.1) (0, .slice none 0 0) ⟨rfl, rfl, rfl, rfl, rfl, rfl, rfl, trivial⟩ ⟨by omega, rfl, hb4, OwSS.nil _ _ _ _ (by decide), Chg.refl _ _ _⟩ ?_
  rintro ⟨i, vo⟩ w5 ⟨hi1, hone, hb5, oA, hc5⟩
  dsimp only at hi1 hone hb5 oA ⊢
  have hz5 := hc5.size
  have hA5 := ISS.chg hA hc5 (by omega)
  have hB5 := RI.chg hB hc5 (by omega)
  have hA5' := ISS.chg hA' hc5 (by omega)
  have hB5' := RI.chg hB' hc5 (by omega)
  have hb15 := hb1.chg hc5 (by omega)
  have hb15' := hb1'.chg hc5 (by omega)
  repeat' (first | refine WL.step (o_s (by rfl) ?_) | refine WL.step (o_len (by rfl) ?_) | refine WL.step (o_add (by rfl) (by rfl) (by unfold InI; omega) ?_) | refine WL.step (o_sub (by rfl) (by rfl) (by unfold InI; omega) ?_) | refine WL.step (OpW.pass (by rfl) ?_) | refine WL.nil ?_ | refine thenN ?_ | refine WP.region ?_ | refine WP.seq ?_ | refine WP.block ?_ | refine thenR ?_ | refine thenX ?_ | refine blkN ?_ | refine blkHit ?_ | refine blkR ?_ | refine blkMiss (by rfl) ?_ | refine WP.ret ?_ | refine WP.exit ?_ | refine WP.skip ?_ | refine WP.label ?_ | refine WP.condT (by rfl) ?_ | refine WP.condF (by rfl) ?_ | fail)
  first | refine WP.condD (by rfl) (fun _ => ?_) (fun _ => ?_) | refine WP.condND (by rfl) (fun _ => ?_) (fun _ => ?_) | refine WP.condN (by rfl) (fun _ => ?_) (fun _ => ?_) | refine WP.cond (by rfl) (fun _ => ?_) (fun _ => ?_) | fail
  · rename_i hlt
    have hlt' : i < x.1.length := by omega
    have hri := hx.row _ (List.getElem_mem hlt')
    repeat' (first | refine WL.step (o_s (by rfl) ?_) | refine WL.step (o_len (by rfl) ?_) | refine WL.step (o_add (by rfl) (by rfl) (by unfold InI; omega) ?_) | refine WL.step (o_sub (by rfl) (by rfl) (by unfold InI; omega) ?_) | refine WL.step (OpW.pass (by rfl) ?_) | refine WL.nil ?_ | refine thenN ?_ | refine WP.region ?_ | refine WP.seq ?_ | refine WP.block ?_ | refine thenR ?_ | refine thenX ?_ | refine blkN ?_ | refine blkHit ?_ | refine blkR ?_ | refine blkMiss (by rfl) ?_ | refine WP.ret ?_ | refine WP.exit ?_ | refine WP.skip ?_ | refine WP.label ?_ | refine WP.condT (by rfl) ?_ | refine WP.condF (by rfl) ?_ | fail)
    refine WL.ixload hA5 (List.getElem?_eq_getElem hlt') ?_
    intro p5 u hu
    obtain ⟨au, cu, hvu⟩ := hu.shape
    subst hvu
    repeat' (first | refine WL.step (o_s (by rfl) ?_) | refine WL.step (o_len (by rfl) ?_) | refine WL.step (o_add (by rfl) (by rfl) (by unfold InI; omega) ?_) | refine WL.step (o_sub (by rfl) (by rfl) (by unfold InI; omega) ?_) | refine WL.step (OpW.pass (by rfl) ?_) | refine WL.nil ?_ | refine thenN ?_ | refine WP.region ?_ | refine WP.seq ?_ | refine WP.block ?_ | refine thenR ?_ | refine thenX ?_ | refine blkN ?_ | refine blkHit ?_ | refine blkR ?_ | refine blkMiss (by rfl) ?_ | refine WP.ret ?_ | refine WP.exit ?_ | refine WP.skip ?_ | refine WP.label ?_ | refine WP.condT (by rfl) ?_ | refine WP.condF (by rfl) ?_ | fail)
    refine WP.drawn (fun w' => Below w4.heap.size w5 w') [(0, true), (1, true), (2, true), (3, true), (4, false), (5, false), (6, false), (7, false), (8, false), (9, false), (10, true), (1011, false)] (by kernel_rfl) mixed ?_
    intro w6 hs6
    have hS6 : Below w5.heap.size w5 w6 := hs6.below _
    have hz6 := hs6.size
    have hT6 : Below w4.heap.size w5 w6 := Below.mono hS6 (by omega)
    refine WS.fld rfl rfl (fun w' h => hb5.below h (by omega)) hT6 ?_
    intro p6
    repeat' (first | refine WS.q rfl (q_s (by rfl)) (by first | rfl | assumption) ?_ | refine WS.q rfl (q_len (by rfl)) (by first | rfl | assumption) ?_ | refine WS.q rfl (q_add (by rfl) (by rfl) (by unfold InI; omega)) (by first | rfl | assumption) ?_ | refine WS.q rfl (q_sub (by rfl) (by rfl) (by unfold InI; omega)) (by first | rfl | assumption) ?_ | refine WS.q rfl (q_pass (by rfl)) (by first | rfl | assumption) ?_ | refine WS.nil ?_ | fail)
    refine WS.q rfl (q_loadS (by rfl) (fun w' h => hb15'.below h (by omega)) (by rfl)) hT6 ?_
    have hTy : IT lo' hi' w6 (.agg #[.slice a3 y.1.length c3, .slice a4 y.2.length c4]) y := ⟨_, _, rfl, hA5'.still IS.stable hs6, hB5'.still RI.stable hs6⟩
    refine WS.call rfl (stages_any hTy) ?_
    rintro _ w7 ⟨rfl, hc7⟩
    have hz7 := hc7.size
    have hS7 : Below w5.heap.size w5 w7 := hS6.trans (hc7.below (by omega) (by omega))
    refine ⟨Below.mono hS7 (by omega), ?_⟩
    refine WS.op rfl (o_make (by rfl) (by rfl) (by omega) (by unfold maxLen; omega) ?_)
    intro vz w8 hown8 hbl8 hz8
    have hS8 : Below w5.heap.size w5 w8 := hS7.trans (Below.mono hbl8 (by omega))
    refine ⟨Below.mono hS8 (by omega), ?_⟩
    obtain ⟨az, cz, hvz, _⟩ := hown8.shape
    rw [List.length_replicate] at hvz
    have iz : IS w7.heap.size w8.heap.size w8 vz (List.replicate y.2.length 0) := Own.is (by simpa [Ints] using hown8)
    subst hvz
    refine WS.op rfl (o_lit (us := [.slice au x.1[i].length cu, .slice az y.2.length cz]) (by rfl) (by rfl) rfl (by decide) two_cells ?_)
    intro v9 w9 hown9 hbl9 hz9 _
    have hS9 : Below w5.heap.size w5 w9 := hS8.trans (Below.mono hbl9 (by omega))
    refine ⟨Below.mono hS9 (by omega), ?_⟩
    have hu9 := hu.below RI.stable hS9 (by omega)
    refine WS.call rfl (Concat_any (lit2 hown9 hu9 (iz.below RI.stable hbl9 (by omega))) (by simp [cntSS]; omega) (by simp)) ?_
    intro vr w10 hN10
    have hz10 := hN10.2.size
    have hS10 : Below w5.heap.size w5 w10 := hS9.trans (Below.mono hN10.2 (by omega))
    refine ⟨Below.mono hS10 (by omega), ?_⟩
    have oR := hN10.ow
    have er : [x.1[i], List.replicate y.2.length 0].flatten = x.1[i] ++ List.replicate y.2.length 0 := by simp
    rw [er] at oR
    refine WS.pushRow rfl rfl rfl rfl (Below.mono hS10 (by omega)) (hb5.below hS10 (by omega)) rfl (by omega) (Nat.le_refl _) (by omega) (by omega) (oA.chg (Chg.of_below hS10) (by omega)) (by omega) (by omega) oR (by rw [List.length_take]; omega) (by decide) ?_
    intro p7 v11 v12 w11 w12 h12 hb12 oA12 hbl11 hbut12
    refine WS.nil ?_
    repeat' (first | refine WL.step (o_s (by rfl) ?_) | refine WL.step (o_len (by rfl) ?_) | refine WL.step (o_add (by rfl) (by rfl) (by unfold InI; omega) ?_) | refine WL.step (o_sub (by rfl) (by rfl) (by unfold InI; omega) ?_) | refine WL.step (OpW.pass (by rfl) ?_) | refine WL.nil ?_ | refine thenN ?_ | refine WP.region ?_ | refine WP.seq ?_ | refine WP.block ?_ | refine thenR ?_ | refine thenX ?_ | refine blkN ?_ | refine blkHit ?_ | refine blkR ?_ | refine blkMiss (by rfl) ?_ | refine WP.ret ?_ | refine WP.exit ?_ | refine WP.skip ?_ | refine WP.label ?_ | refine WP.condT (by rfl) ?_ | refine WP.condF (by rfl) ?_ | fail)
    refine ⟨(i + 1, v12), ⟨rfl, rfl, rfl, rfl, rfl, rfl, (by first | rfl | (show some (Value.int .i64 _) = some (Value.int .i64 _); refine congrArg some (congrArg (Value.int IntKind.i64) ?_); omega)), trivial⟩, ⟨by dsimp only; omega, h12, hb12, ?_, ((hc5.thenBelow (Below.mono hS10 (by omega))).thenBelow hbl11).thenBut hbut12 (Nat.le_refl _) (by omega)⟩, by dsimp only; omega⟩
    dsimp only
    rw [take_snoc (show i < (compA x y).length by omega) (compA_get_left x y hlt' (by omega))]
    exact oA12
  · rename_i hge
    have : i = x.1.length := by omega
    subst this
    repeat' (first | refine WL.step (o_s (by rfl) ?_) | refine WL.step (o_len (by rfl) ?_) | refine WL.step (o_add (by rfl) (by rfl) (by unfold InI; omega) ?_) | refine WL.step (o_sub (by rfl) (by rfl) (by unfold InI; omega) ?_) | refine WL.step (OpW.pass (by rfl) ?_) | refine WL.nil ?_ | refine thenN ?_ | refine WP.region ?_ | refine WP.seq ?_ | refine WP.block ?_ | refine thenR ?_ | refine thenX ?_ | refine blkN ?_ | refine blkHit ?_ | refine blkR ?_ | refine blkMiss (by rfl) ?_ | refine WP.ret ?_ | refine WP.exit ?_ | refine WP.skip ?_ | refine WP.label ?_ | refine WP.condT (by rfl) ?_ | refine WP.condF (by rfl) ?_ | fail)
    refine WL.fld hb15' ?_
    intro p3
    repeat' (first | refine WL.step (o_s (by rfl) ?_) | refine WL.step (o_len (by rfl) ?_) | refine WL.step (o_add (by rfl) (by rfl) (by unfold InI; omega) ?_) | refine WL.step (o_sub (by rfl) (by rfl) (by unfold InI; omega) ?_) | refine WL.step (OpW.pass (by rfl) ?_) | refine WL.nil ?_ | refine thenN ?_ | refine WP.region ?_ | refine WP.seq ?_ | refine WP.block ?_ | refine thenR ?_ | refine thenX ?_ | refine blkN ?_ | refine blkHit ?_ | refine blkR ?_ | refine blkMiss (by rfl) ?_ | refine WP.ret ?_ | refine WP.exit ?_ | refine WP.skip ?_ | refine WP.label ?_ | refine WP.condT (by rfl) ?_ | refine WP.condF (by rfl) ?_ | fail)
    refine WP.loop (fun (s : Nat × Value) => [(2, .pointer (some ⟨w.heap.size, 0, none⟩)), (3, .pointer (some ⟨w1.heap.size, 0, none⟩)), (4, .pointer (some ⟨w1'.heap.size, 0, none⟩)), (5, .pointer (some ⟨w3.heap.size, 0, none⟩)), (37, .slice a3 y.1.length c3), (38, .int .i64 (y.1.length : Nat)), (39, .int .i64 (s.1 : Nat))])
      (fun s w5 => s.1 ≤ y.1.length ∧ s.2.oneCell' = true ∧ Blk w5 w3.heap.size [s.2, .slice aq (x.2 ++ y.2).length cq] 30 ∧ OwSS 28 2 w4.heap.size w5.heap.size w5 s.2 ((compA x y).take (x.1.length + s.1)) ∧ Chg w3.heap.size w4.heap.size w4 w5)
      (fun s => y.1.length - s.1) (0, vo) ⟨rfl, rfl, rfl, rfl, rfl, rfl, rfl, trivial⟩ ⟨by omega, hone, hb5, oA, hc5⟩ ?_
    clear oA hc5 hb5 hone hz5 hA5 hB5 hA5' hB5' hb15 hb15'
    rintro ⟨j, vq⟩ w5 ⟨hj1, hone, hb5, oA, hc5⟩
    dsimp only at hj1 hone hb5 oA ⊢
    have hz5 := hc5.size
    have hB5 := RI.chg hB hc5 (by omega)
    have hA5' := ISS.chg hA' hc5 (by omega)
    have hb15 := hb1.chg hc5 (by omega)
    repeat' (first | refine WL.step (o_s (by rfl) ?_) | refine WL.step (o_len (by rfl) ?_) | refine WL.step (o_add (by rfl) (by rfl) (by unfold InI; omega) ?_) | refine WL.step (o_sub (by rfl) (by rfl) (by unfold InI; omega) ?_) | refine WL.step (OpW.pass (by rfl) ?_) | refine WL.nil ?_ | refine thenN ?_ | refine WP.region ?_ | refine WP.seq ?_ | refine WP.block ?_ | refine thenR ?_ | refine thenX ?_ | refine blkN ?_ | refine blkHit ?_ | refine blkR ?_ | refine blkMiss (by rfl) ?_ | refine WP.ret ?_ | refine WP.exit ?_ | refine WP.skip ?_ | refine WP.label ?_ | refine WP.condT (by rfl) ?_ | refine WP.condF (by rfl) ?_ | fail)
    first | refine WP.condD (by rfl) (fun _ => ?_) (fun _ => ?_) | refine WP.condND (by rfl) (fun _ => ?_) (fun _ => ?_) | refine WP.condN (by rfl) (fun _ => ?_) (fun _ => ?_) | refine WP.cond (by rfl) (fun _ => ?_) (fun _ => ?_) | fail
    · rename_i hlt
      have hlt' : j < y.1.length := by omega
      have hri := hy.row _ (List.getElem_mem hlt')
      repeat' (first | refine WL.step (o_s (by rfl) ?_) | refine WL.step (o_len (by rfl) ?_) | refine WL.step (o_add (by rfl) (by rfl) (by unfold InI; omega) ?_) | refine WL.step (o_sub (by rfl) (by rfl) (by unfold InI; omega) ?_) | refine WL.step (OpW.pass (by rfl) ?_) | refine WL.nil ?_ | refine thenN ?_ | refine WP.region ?_ | refine WP.seq ?_ | refine WP.block ?_ | refine thenR ?_ | refine thenX ?_ | refine blkN ?_ | refine blkHit ?_ | refine blkR ?_ | refine blkMiss (by rfl) ?_ | refine WP.ret ?_ | refine WP.exit ?_ | refine WP.skip ?_ | refine WP.label ?_ | refine WP.condT (by rfl) ?_ | refine WP.condF (by rfl) ?_ | fail)
      refine WL.ixload hA5' (List.getElem?_eq_getElem hlt') ?_
      intro p5 u hu
      obtain ⟨au, cu, hvu⟩ := hu.shape
      subst hvu
      repeat' (first | refine WL.step (o_s (by rfl) ?_) | refine WL.step (o_len (by rfl) ?_) | refine WL.step (o_add (by rfl) (by rfl) (by unfold InI; omega) ?_) | refine WL.step (o_sub (by rfl) (by rfl) (by unfold InI; omega) ?_) | refine WL.step (OpW.pass (by rfl) ?_) | refine WL.nil ?_ | refine thenN ?_ | refine WP.region ?_ | refine WP.seq ?_ | refine WP.block ?_ | refine thenR ?_ | refine thenX ?_ | refine blkN ?_ | refine blkHit ?_ | refine blkR ?_ | refine blkMiss (by rfl) ?_ | refine WP.ret ?_ | refine WP.exit ?_ | refine WP.skip ?_ | refine WP.label ?_ | refine WP.condT (by rfl) ?_ | refine WP.condF (by rfl) ?_ | fail)
      refine WP.drawn (fun w' => Below w4.heap.size w5 w') [(0, true), (1, true), (2, true), (3, true), (4, true), (5, false), (6, false), (7, false), (8, false), (9, true), (1010, false)] (by kernel_rfl) mixed ?_
      intro w6 hs6
      have hS6 : Below w5.heap.size w5 w6 := hs6.below _
      have hz6 := hs6.size
      have hT6 : Below w4.heap.size w5 w6 := Below.mono hS6 (by omega)
      refine WS.fld rfl rfl (fun w' h => hb5.below h (by omega)) hT6 ?_
      intro p6
      refine WS.fld rfl rfl (fun w' h => hb15.below h (by omega)) hT6 ?_
      intro p6'
      repeat' (first | refine WS.q rfl (q_s (by rfl)) (by first | rfl | assumption) ?_ | refine WS.q rfl (q_len (by rfl)) (by first | rfl | assumption) ?_ | refine WS.q rfl (q_add (by rfl) (by rfl) (by unfold InI; omega)) (by first | rfl | assumption) ?_ | refine WS.q rfl (q_sub (by rfl) (by rfl) (by unfold InI; omega)) (by first | rfl | assumption) ?_ | refine WS.q rfl (q_pass (by rfl)) (by first | rfl | assumption) ?_ | refine WS.nil ?_ | fail)
      refine WS.op rfl (o_lit (us := [.slice a2 x.2.length c2, .slice au y.1[j].length cu]) (by rfl) (by rfl) rfl (by decide) two_cells ?_)
      intro v9 w9 hown9 hbl9 hz9 _
      have hS9 : Below w5.heap.size w5 w9 := hS6.trans (Below.mono hbl9 (by omega))
      refine ⟨Below.mono hS9 (by omega), ?_⟩
      refine WS.call rfl (Concat_any (lit2 hown9 (hB5.below RI.stable hS9 (by omega)) (hu.below RI.stable hS9 (by omega))) (by simp [cntSS]; omega) (by simp)) ?_
      intro vr w10 hN10
      have hz10 := hN10.2.size
      have hS10 : Below w5.heap.size w5 w10 := hS9.trans (Below.mono hN10.2 (by omega))
      refine ⟨Below.mono hS10 (by omega), ?_⟩
      have oR := hN10.ow
      have er : [x.2, y.1[j]].flatten = x.2 ++ y.1[j] := by simp
      rw [er] at oR
      refine WS.pushRow rfl rfl rfl rfl (Below.mono hS10 (by omega)) (hb5.below hS10 (by omega)) rfl (by omega) (Nat.le_refl _) (by omega) (by omega) (oA.chg (Chg.of_below hS10) (by omega)) (by omega) (by omega) oR (by rw [List.length_take]; omega) (by decide) ?_
      intro p7 v11 v12 w11 w12 h12 hb12 oA12 hbl11 hbut12
      refine WS.nil ?_
      repeat' (first | refine WL.step (o_s (by rfl) ?_) | refine WL.step (o_len (by rfl) ?_) | refine WL.step (o_add (by rfl) (by rfl) (by unfold InI; omega) ?_) | refine WL.step (o_sub (by rfl) (by rfl) (by unfold InI; omega) ?_) | refine WL.step (OpW.pass (by rfl) ?_) | refine WL.nil ?_ | refine thenN ?_ | refine WP.region ?_ | refine WP.seq ?_ | refine WP.block ?_ | refine thenR ?_ | refine thenX ?_ | refine blkN ?_ | refine blkHit ?_ | refine blkR ?_ | refine blkMiss (by rfl) ?_ | refine WP.ret ?_ | refine WP.exit ?_ | refine WP.skip ?_ | refine WP.label ?_ | refine WP.condT (by rfl) ?_ | refine WP.condF (by rfl) ?_ | fail)
      refine ⟨(j + 1, v12), ⟨rfl, rfl, rfl, rfl, rfl, rfl, (by first | rfl | (show some (Value.int .i64 _) = some (Value.int .i64 _); refine congrArg some (congrArg (Value.int IntKind.i64) ?_); omega)), trivial⟩, ⟨by dsimp only; omega, h12, hb12, ?_, ((hc5.thenBelow (Below.mono hS10 (by omega))).thenBelow hbl11).thenBut hbut12 (Nat.le_refl _) (by omega)⟩, by dsimp only; omega⟩
      dsimp only
      rw [show x.1.length + (j + 1) = (x.1.length + j) + 1 from by omega, take_snoc (show x.1.length + j < (compA x y).length by omega) (compA_get_right x y hlt' (by omega))]
      exact oA12
    · rename_i hge
      have : j = y.1.length := by omega
      subst this
      rw [List.take_of_length_le (by omega)] at oA
      have hb25 := hb2.chg hc5 (by omega)
      repeat' (first | refine WL.step (o_s (by rfl) ?_) | refine WL.step (o_len (by rfl) ?_) | refine WL.step (o_add (by rfl) (by rfl) (by unfold InI; omega) ?_) | refine WL.step (o_sub (by rfl) (by rfl) (by unfold InI; omega) ?_) | refine WL.step (OpW.pass (by rfl) ?_) | refine WL.nil ?_ | refine thenN ?_ | refine WP.region ?_ | refine WP.seq ?_ | refine WP.block ?_ | refine thenR ?_ | refine thenX ?_ | refine blkN ?_ | refine blkHit ?_ | refine blkR ?_ | refine blkMiss (by rfl) ?_ | refine WP.ret ?_ | refine WP.exit ?_ | refine WP.skip ?_ | refine WP.label ?_ | refine WP.condT (by rfl) ?_ | refine WP.condF (by rfl) ?_ | fail)
      refine WL.step (o_loadS (by rfl) hb5 (by rfl) ?_)
      refine WL.step (o_storeS (vs := [vq, .slice aq (x.2 ++ y.2).length cq]) (by rfl) (by rfl) hb25 (by rfl) (by rfl) (two1 hone rfl) ?_)
      intro w6 hb6 hbut6
      have hc6 := hbut6.chg
      have hz6 := hbut6.size
      repeat' (first | refine WL.step (o_s (by rfl) ?_) | refine WL.step (o_len (by rfl) ?_) | refine WL.step (o_add (by rfl) (by rfl) (by unfold InI; omega) ?_) | refine WL.step (o_sub (by rfl) (by rfl) (by unfold InI; omega) ?_) | refine WL.step (OpW.pass (by rfl) ?_) | refine WL.nil ?_ | refine thenN ?_ | refine WP.region ?_ | refine WP.seq ?_ | refine WP.block ?_ | refine thenR ?_ | refine thenX ?_ | refine blkN ?_ | refine blkHit ?_ | refine blkR ?_ | refine blkMiss (by rfl) ?_ | refine WP.ret ?_ | refine WP.exit ?_ | refine WP.skip ?_ | refine WP.label ?_ | refine WP.condT (by rfl) ?_ | refine WP.condF (by rfl) ?_ | fail)
      refine ⟨_, retS rfl (by rfl) hb6 (by rfl), ?_, ?_⟩
      · have h1 : OwSS 28 2 w4.heap.size w6.heap.size w6 vq (composeL x y).1 := (oA.chg hc6 (by omega)).wide (Nat.le_refl _) (by omega) (Nat.le_refl _)
        have h2 : OwI 2 w.heap.size w4.heap.size w6 (.slice aq (x.2 ++ y.2).length cq) (composeL x y).2 := ((oB.chg hc5 (by omega)).chg hc6 (by omega)).wide (by omega) (by omega) (by omega)
        exact OwT.mk' h1 h2 (by omega) (by omega)
      · have hc : Chg 0 0 w w4 := Chg.of_below hbl14
        refine ⟨by rw [hc6.os, hc5.os, hc.os], by rw [hc6.tape, hc5.tape, hc.tape], by rw [hc6.output, hc5.output, hc.output], by omega, fun k hk hd => ?_⟩
        rw [hc6.block k (by omega) (by omega), hc5.block k (by omega) (by omega), hc.block k hk (by omega)]
end Go.Proofs
