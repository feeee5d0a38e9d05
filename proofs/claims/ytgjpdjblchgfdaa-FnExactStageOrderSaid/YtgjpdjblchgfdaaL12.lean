/- The exact law of the order of stages, walked. -/
import Derived.Test.YtgjpdjblchgfdaaH5
import Derived.Test.YtgjpdjblchgfdaaA33
namespace Go.Proofs
open Go Go.Fw Go.RowKit Go.Rk
set_option maxHeartbeats 4000000 in
theorem FnExactStageOrder_any {w : World} {la0 ha0 : Nat} {va0 : Value} {a0 : TabD} (A0 : IT la0 ha0 w va0 a0) {la1 ha1 : Nat} {va1 : Value} {a1 : TabD} (A1 : IT la1 ha1 w va1 a1) : Does Try.prog 4 [va0, va1] w fun r w' => r = .bool true ∧ Below w.heap.size w w' := by
  have hA0 := A0.hi_le
  have hA1 := A1.hi_le
  obtain ⟨ad0, nd0, cd0, ae0, ne0, ce0, hv0⟩ := A0.cells
  subst hv0
  obtain ⟨ad1, nd1, cd1, ae1, ne1, ce1, hv1⟩ := A1.cells
  subst hv1
  refine Does.enter Try.func4 Try.ntmps4 rfl (by rfl) ?_
  have hB0 : Below w.heap.size w w := Below.refl _ _
  repeat' (first | refine WL.step (o_s (by rfl) ?_) | refine WL.step (o_len (by rfl) ?_) | refine WL.step (o_add (by rfl) (by rfl) (by unfold InI; omega) ?_) | refine WL.step (o_sub (by rfl) (by rfl) (by unfold InI; omega) ?_) | refine WL.step (OpW.pass (by rfl) ?_) | refine WL.nil ?_ | refine thenN ?_ | refine WP.region ?_ | refine WP.seq ?_ | refine WP.block ?_ | refine thenR ?_ | refine thenX ?_ | refine blkN ?_ | refine blkHit ?_ | refine blkR ?_ | refine blkMiss (by rfl) ?_ | refine WP.ret ?_ | refine WP.exit ?_ | refine WP.skip ?_ | refine WP.label ?_ | refine WP.condT (by rfl) ?_ | refine WP.condF (by rfl) ?_ | fail)
  refine WL.step (o_box (by rfl) ?_)
  intro w1 BA0 hbl1 hzz1
  have hc1 := Chg.of_below hbl1
  have hz1 := hc1.size
  have hB1 : Below w.heap.size w w1 := hB0.trans (hc1.below (by omega) (by omega))
  replace A0 := IT.chg A0 hc1 (by omega)
  replace A1 := IT.chg A1 hc1 (by omega)
  repeat' (first | refine WL.step (o_s (by rfl) ?_) | refine WL.step (o_len (by rfl) ?_) | refine WL.step (o_add (by rfl) (by rfl) (by unfold InI; omega) ?_) | refine WL.step (o_sub (by rfl) (by rfl) (by unfold InI; omega) ?_) | refine WL.step (OpW.pass (by rfl) ?_) | refine WL.nil ?_ | refine thenN ?_ | refine WP.region ?_ | refine WP.seq ?_ | refine WP.block ?_ | refine thenR ?_ | refine thenX ?_ | refine blkN ?_ | refine blkHit ?_ | refine blkR ?_ | refine blkMiss (by rfl) ?_ | refine WP.ret ?_ | refine WP.exit ?_ | refine WP.skip ?_ | refine WP.label ?_ | refine WP.condT (by rfl) ?_ | refine WP.condF (by rfl) ?_ | fail)
  refine WL.step (o_box (by rfl) ?_)
  intro w2 BA1 hbl2 hzz2
  have hc2 := Chg.of_below hbl2
  have hz2 := hc2.size
  have hB2 : Below w.heap.size w w2 := hB1.trans (hc2.below (by omega) (by omega))
  replace A0 := IT.chg A0 hc2 (by omega)
  replace A1 := IT.chg A1 hc2 (by omega)
  replace BA0 := BA0.chg hc2 (by omega)
  repeat' (first | refine WL.step (o_s (by rfl) ?_) | refine WL.step (o_len (by rfl) ?_) | refine WL.step (o_add (by rfl) (by rfl) (by unfold InI; omega) ?_) | refine WL.step (o_sub (by rfl) (by rfl) (by unfold InI; omega) ?_) | refine WL.step (OpW.pass (by rfl) ?_) | refine WL.nil ?_ | refine thenN ?_ | refine WP.region ?_ | refine WP.seq ?_ | refine WP.block ?_ | refine thenR ?_ | refine thenX ?_ | refine blkN ?_ | refine blkHit ?_ | refine blkR ?_ | refine blkMiss (by rfl) ?_ | refine WP.ret ?_ | refine WP.exit ?_ | refine WP.skip ?_ | refine WP.label ?_ | refine WP.condT (by rfl) ?_ | refine WP.condF (by rfl) ?_ | fail)
  refine WL.step (o_loadS (by rfl) BA0 (by rfl) ?_)
  repeat' (first | refine WL.step (o_s (by rfl) ?_) | refine WL.step (o_len (by rfl) ?_) | refine WL.step (o_add (by rfl) (by rfl) (by unfold InI; omega) ?_) | refine WL.step (o_sub (by rfl) (by rfl) (by unfold InI; omega) ?_) | refine WL.step (OpW.pass (by rfl) ?_) | refine WL.nil ?_ | refine thenN ?_ | refine WP.region ?_ | refine WP.seq ?_ | refine WP.block ?_ | refine thenR ?_ | refine thenX ?_ | refine blkN ?_ | refine blkHit ?_ | refine blkR ?_ | refine blkMiss (by rfl) ?_ | refine WP.ret ?_ | refine WP.exit ?_ | refine WP.skip ?_ | refine WP.label ?_ | refine WP.condT (by rfl) ?_ | refine WP.condF (by rfl) ?_ | fail)
  refine WL.call (szTableau_any 1048576 A0 (by omega) (by omega)) ?_
  rintro _ w3 ⟨q0, rfl, hq0, hqb0, hc3⟩
  have hz3 := hc3.size
  have hB3 : Below w.heap.size w w3 := hB2.trans (hc3.below (by omega) (by omega))
  replace A0 := IT.chg A0 hc3 (by omega)
  replace A1 := IT.chg A1 hc3 (by omega)
  replace BA0 := BA0.chg hc3 (by omega)
  replace BA1 := BA1.chg hc3 (by omega)
  repeat' (first | refine WL.step (o_s (by rfl) ?_) | refine WL.step (o_len (by rfl) ?_) | refine WL.step (o_add (by rfl) (by rfl) (by unfold InI; omega) ?_) | refine WL.step (o_sub (by rfl) (by rfl) (by unfold InI; omega) ?_) | refine WL.step (OpW.pass (by rfl) ?_) | refine WL.nil ?_ | refine thenN ?_ | refine WP.region ?_ | refine WP.seq ?_ | refine WP.block ?_ | refine thenR ?_ | refine thenX ?_ | refine blkN ?_ | refine blkHit ?_ | refine blkR ?_ | refine blkMiss (by rfl) ?_ | refine WP.ret ?_ | refine WP.exit ?_ | refine WP.skip ?_ | refine WP.label ?_ | refine WP.condT (by rfl) ?_ | refine WP.condF (by rfl) ?_ | fail)
  first | refine WP.condD (by rfl) (fun _ => ?_) (fun _ => ?_) | refine WP.condND (by rfl) (fun _ => ?_) (fun _ => ?_) | refine WP.condN (by rfl) (fun _ => ?_) (fun _ => ?_) | refine WP.cond (by rfl) (fun _ => ?_) (fun _ => ?_) | fail
  · rename_i hbig
    repeat' (first | refine WL.step (o_s (by rfl) ?_) | refine WL.step (o_len (by rfl) ?_) | refine WL.step (o_add (by rfl) (by rfl) (by unfold InI; omega) ?_) | refine WL.step (o_sub (by rfl) (by rfl) (by unfold InI; omega) ?_) | refine WL.step (OpW.pass (by rfl) ?_) | refine WL.nil ?_ | refine thenN ?_ | refine WP.region ?_ | refine WP.seq ?_ | refine WP.block ?_ | refine thenR ?_ | refine thenX ?_ | refine blkN ?_ | refine blkHit ?_ | refine blkR ?_ | refine blkMiss (by rfl) ?_ | refine WP.ret ?_ | refine WP.exit ?_ | refine WP.skip ?_ | refine WP.label ?_ | refine WP.condT (by rfl) ?_ | refine WP.condF (by rfl) ?_ | fail)
    refine ⟨_, ret1 rfl (by rfl), ?_⟩
    exact ⟨rfl, hB3⟩
  rename_i hsm0
  have hn0 := hq0 (by omega)
  have hcn0 := hn0.cnt
  repeat' (first | refine WL.step (o_s (by rfl) ?_) | refine WL.step (o_len (by rfl) ?_) | refine WL.step (o_add (by rfl) (by rfl) (by unfold InI; omega) ?_) | refine WL.step (o_sub (by rfl) (by rfl) (by unfold InI; omega) ?_) | refine WL.step (OpW.pass (by rfl) ?_) | refine WL.nil ?_ | refine thenN ?_ | refine WP.region ?_ | refine WP.seq ?_ | refine WP.block ?_ | refine thenR ?_ | refine thenX ?_ | refine blkN ?_ | refine blkHit ?_ | refine blkR ?_ | refine blkMiss (by rfl) ?_ | refine WP.ret ?_ | refine WP.exit ?_ | refine WP.skip ?_ | refine WP.label ?_ | refine WP.condT (by rfl) ?_ | refine WP.condF (by rfl) ?_ | fail)
  refine WL.step (o_loadS (by rfl) BA1 (by rfl) ?_)
  repeat' (first | refine WL.step (o_s (by rfl) ?_) | refine WL.step (o_len (by rfl) ?_) | refine WL.step (o_add (by rfl) (by rfl) (by unfold InI; omega) ?_) | refine WL.step (o_sub (by rfl) (by rfl) (by unfold InI; omega) ?_) | refine WL.step (OpW.pass (by rfl) ?_) | refine WL.nil ?_ | refine thenN ?_ | refine WP.region ?_ | refine WP.seq ?_ | refine WP.block ?_ | refine thenR ?_ | refine thenX ?_ | refine blkN ?_ | refine blkHit ?_ | refine blkR ?_ | refine blkMiss (by rfl) ?_ | refine WP.ret ?_ | refine WP.exit ?_ | refine WP.skip ?_ | refine WP.label ?_ | refine WP.condT (by rfl) ?_ | refine WP.condF (by rfl) ?_ | fail)
  refine WL.call (szTableau_any q0 A1 (by omega) (by omega)) ?_
  rintro _ w4 ⟨q1, rfl, hq1, hqb1, hc4⟩
  have hz4 := hc4.size
  have hB4 : Below w.heap.size w w4 := hB3.trans (hc4.below (by omega) (by omega))
  replace A0 := IT.chg A0 hc4 (by omega)
  replace A1 := IT.chg A1 hc4 (by omega)
  replace BA0 := BA0.chg hc4 (by omega)
  replace BA1 := BA1.chg hc4 (by omega)
  repeat' (first | refine WL.step (o_s (by rfl) ?_) | refine WL.step (o_len (by rfl) ?_) | refine WL.step (o_add (by rfl) (by rfl) (by unfold InI; omega) ?_) | refine WL.step (o_sub (by rfl) (by rfl) (by unfold InI; omega) ?_) | refine WL.step (OpW.pass (by rfl) ?_) | refine WL.nil ?_ | refine thenN ?_ | refine WP.region ?_ | refine WP.seq ?_ | refine WP.block ?_ | refine thenR ?_ | refine thenX ?_ | refine blkN ?_ | refine blkHit ?_ | refine blkR ?_ | refine blkMiss (by rfl) ?_ | refine WP.ret ?_ | refine WP.exit ?_ | refine WP.skip ?_ | refine WP.label ?_ | refine WP.condT (by rfl) ?_ | refine WP.condF (by rfl) ?_ | fail)
  first | refine WP.condD (by rfl) (fun _ => ?_) (fun _ => ?_) | refine WP.condND (by rfl) (fun _ => ?_) (fun _ => ?_) | refine WP.condN (by rfl) (fun _ => ?_) (fun _ => ?_) | refine WP.cond (by rfl) (fun _ => ?_) (fun _ => ?_) | fail
  · rename_i hbig
    repeat' (first | refine WL.step (o_s (by rfl) ?_) | refine WL.step (o_len (by rfl) ?_) | refine WL.step (o_add (by rfl) (by rfl) (by unfold InI; omega) ?_) | refine WL.step (o_sub (by rfl) (by rfl) (by unfold InI; omega) ?_) | refine WL.step (OpW.pass (by rfl) ?_) | refine WL.nil ?_ | refine thenN ?_ | refine WP.region ?_ | refine WP.seq ?_ | refine WP.block ?_ | refine thenR ?_ | refine thenX ?_ | refine blkN ?_ | refine blkHit ?_ | refine blkR ?_ | refine blkMiss (by rfl) ?_ | refine WP.ret ?_ | refine WP.exit ?_ | refine WP.skip ?_ | refine WP.label ?_ | refine WP.condT (by rfl) ?_ | refine WP.condF (by rfl) ?_ | fail)
    refine ⟨_, ret1 rfl (by rfl), ?_⟩
    exact ⟨rfl, hB4⟩
  rename_i hsm1
  have hn1 := hq1 (by omega)
  have hcn1 := hn1.cnt
  repeat' (first | refine WL.step (o_s (by rfl) ?_) | refine WL.step (o_len (by rfl) ?_) | refine WL.step (o_add (by rfl) (by rfl) (by unfold InI; omega) ?_) | refine WL.step (o_sub (by rfl) (by rfl) (by unfold InI; omega) ?_) | refine WL.step (OpW.pass (by rfl) ?_) | refine WL.nil ?_ | refine thenN ?_ | refine WP.region ?_ | refine WP.seq ?_ | refine WP.block ?_ | refine thenR ?_ | refine thenX ?_ | refine blkN ?_ | refine blkHit ?_ | refine blkR ?_ | refine blkMiss (by rfl) ?_ | refine WP.ret ?_ | refine WP.exit ?_ | refine WP.skip ?_ | refine WP.label ?_ | refine WP.condT (by rfl) ?_ | refine WP.condF (by rfl) ?_ | fail)
  have hlen := stageOrder_len a0 a1
  have BAa := BA0
  have BAb := BA1
  refine WP.drawn (fun w' => Below w4.heap.size w4 w') [(0, true), (2, true), (1, false), (3, false), (4, false), (5, true), (6, true), (7, true), (8, true), (9, true)] (by kernel_rfl) mixed ?_
  intro w5 hst5
  have hc5 := Chg.of_still hst5
  have hS5 : Below w4.heap.size w4 w5 := hst5.below _
  have hz5 := hc5.size
  have hB5 : Below w.heap.size w w5 := hB4.trans (hc5.below (by omega) (by omega))
  replace A0 := IT.chg A0 hc5 (by omega)
  replace A1 := IT.chg A1 hc5 (by omega)
  replace BA0 := BA0.chg hc5 (by omega)
  replace BA1 := BA1.chg hc5 (by omega)
  refine WS.q rfl (q_loadS (by rfl) (fun w' h => BAa.below h BAa.lt) (by rfl)) hS5 ?_
  refine WS.q rfl (q_loadS (by rfl) (fun w' h => BAb.below h BAb.lt) (by rfl)) hS5 ?_
  refine WS.call rfl (toT A0 hn0) ?_
  intro vq0 w6 ⟨z0, hc6⟩
  have hz6 := hc6.size
  have hB6 : Below w.heap.size w w6 := hB5.trans (hc6.below (by omega) (by omega))
  replace A0 := IT.chg A0 hc6 (by omega)
  replace A1 := IT.chg A1 hc6 (by omega)
  replace BA0 := BA0.chg hc6 (by omega)
  replace BA1 := BA1.chg hc6 (by omega)
  have hS6 : Below w4.heap.size w4 w6 := hS5.trans (hc6.below (by omega) (by omega))
  refine ⟨hS6, ?_⟩
  refine WS.call rfl (toT A1 hn1) ?_
  intro vq1 w7 ⟨z1, hc7⟩
  have hz7 := hc7.size
  have hB7 : Below w.heap.size w w7 := hB6.trans (hc7.below (by omega) (by omega))
  replace A0 := IT.chg A0 hc7 (by omega)
  replace A1 := IT.chg A1 hc7 (by omega)
  replace BA0 := BA0.chg hc7 (by omega)
  replace BA1 := BA1.chg hc7 (by omega)
  replace z0 := z0.chg hc7 (by omega)
  have hS7 : Below w4.heap.size w4 w7 := hS6.trans (hc7.below (by omega) (by omega))
  refine ⟨hS7, ?_⟩
  refine WS.call rfl (sStageOrder_any z0.rd z1.rd) ?_
  rintro _ w8 ⟨vW, rfl, NW⟩
  have W := NW.ow
  have hc8 := NW.chg
  clear NW
  have hz8 := hc8.size
  have hB8 : Below w.heap.size w w8 := hB7.trans (hc8.below (by omega) (by omega))
  replace A0 := IT.chg A0 hc8 (by omega)
  replace A1 := IT.chg A1 hc8 (by omega)
  replace BA0 := BA0.chg hc8 (by omega)
  replace BA1 := BA1.chg hc8 (by omega)
  replace z0 := z0.chg hc8 (by omega)
  replace z1 := z1.chg hc8 (by omega)
  have hS8 : Below w4.heap.size w4 w8 := hS7.trans (hc8.below (by omega) (by omega))
  refine ⟨hS8, ?_⟩
  repeat' (first | refine WS.q rfl (q_s (by rfl)) (by first | rfl | assumption) ?_ | refine WS.q rfl (q_len (by rfl)) (by first | rfl | assumption) ?_ | refine WS.q rfl (q_add (by rfl) (by rfl) (by unfold InI; omega)) (by first | rfl | assumption) ?_ | refine WS.q rfl (q_sub (by rfl) (by rfl) (by unfold InI; omega)) (by first | rfl | assumption) ?_ | refine WS.q rfl (q_pass (by rfl)) (by first | rfl | assumption) ?_ | refine WS.nil ?_ | fail)
  clear BAa BAb z0 z1
  repeat' (first | refine WL.step (o_s (by rfl) ?_) | refine WL.step (o_len (by rfl) ?_) | refine WL.step (o_add (by rfl) (by rfl) (by unfold InI; omega) ?_) | refine WL.step (o_sub (by rfl) (by rfl) (by unfold InI; omega) ?_) | refine WL.step (OpW.pass (by rfl) ?_) | refine WL.nil ?_ | refine thenN ?_ | refine WP.region ?_ | refine WP.seq ?_ | refine WP.block ?_ | refine thenR ?_ | refine thenX ?_ | refine blkN ?_ | refine blkHit ?_ | refine blkR ?_ | refine blkMiss (by rfl) ?_ | refine WP.ret ?_ | refine WP.exit ?_ | refine WP.skip ?_ | refine WP.label ?_ | refine WP.condT (by rfl) ?_ | refine WP.condF (by rfl) ?_ | fail)
  refine WL.step (o_loadS (by rfl) BA0 (by rfl) ?_)
  repeat' (first | refine WL.step (o_s (by rfl) ?_) | refine WL.step (o_len (by rfl) ?_) | refine WL.step (o_add (by rfl) (by rfl) (by unfold InI; omega) ?_) | refine WL.step (o_sub (by rfl) (by rfl) (by unfold InI; omega) ?_) | refine WL.step (OpW.pass (by rfl) ?_) | refine WL.nil ?_ | refine thenN ?_ | refine WP.region ?_ | refine WP.seq ?_ | refine WP.block ?_ | refine thenR ?_ | refine thenX ?_ | refine blkN ?_ | refine blkHit ?_ | refine blkR ?_ | refine blkMiss (by rfl) ?_ | refine WP.ret ?_ | refine WP.exit ?_ | refine WP.skip ?_ | refine WP.label ?_ | refine WP.condT (by rfl) ?_ | refine WP.condF (by rfl) ?_ | fail)
  refine WL.call (toT A0 hn0) ?_
  intro vX0 w9 ⟨X0, hc9⟩
  have hz9 := hc9.size
  have hB9 : Below w.heap.size w w9 := hB8.trans (hc9.below (by omega) (by omega))
  replace A0 := IT.chg A0 hc9 (by omega)
  replace A1 := IT.chg A1 hc9 (by omega)
  replace BA0 := BA0.chg hc9 (by omega)
  replace BA1 := BA1.chg hc9 (by omega)
  replace W := W.chg hc9 (by omega)
  repeat' (first | refine WL.step (o_s (by rfl) ?_) | refine WL.step (o_len (by rfl) ?_) | refine WL.step (o_add (by rfl) (by rfl) (by unfold InI; omega) ?_) | refine WL.step (o_sub (by rfl) (by rfl) (by unfold InI; omega) ?_) | refine WL.step (OpW.pass (by rfl) ?_) | refine WL.nil ?_ | refine thenN ?_ | refine WP.region ?_ | refine WP.seq ?_ | refine WP.block ?_ | refine thenR ?_ | refine thenX ?_ | refine blkN ?_ | refine blkHit ?_ | refine blkR ?_ | refine blkMiss (by rfl) ?_ | refine WP.ret ?_ | refine WP.exit ?_ | refine WP.skip ?_ | refine WP.label ?_ | refine WP.condT (by rfl) ?_ | refine WP.condF (by rfl) ?_ | fail)
  obtain ⟨b1X0, m1X0, c1X0, b2X0, m2X0, c2X0, hlitX0⟩ := X0.cells
  subst hlitX0
  refine WL.var (vs := [.slice b1X0 m1X0 c1X0, .slice b2X0 m2X0 c2X0]) (fun p => by rfl) rfl two_cells ?_
  intro w10 BX0 hbl10 hzz10
  have hc10 := Chg.of_below hbl10
  have hz10 := hc10.size
  have hB10 : Below w.heap.size w w10 := hB9.trans (hc10.below (by omega) (by omega))
  replace A0 := IT.chg A0 hc10 (by omega)
  replace A1 := IT.chg A1 hc10 (by omega)
  replace BA0 := BA0.chg hc10 (by omega)
  replace BA1 := BA1.chg hc10 (by omega)
  replace W := W.chg hc10 (by omega)
  replace X0 := X0.chg hc10 (by omega)
  repeat' (first | refine WL.step (o_s (by rfl) ?_) | refine WL.step (o_len (by rfl) ?_) | refine WL.step (o_add (by rfl) (by rfl) (by unfold InI; omega) ?_) | refine WL.step (o_sub (by rfl) (by rfl) (by unfold InI; omega) ?_) | refine WL.step (OpW.pass (by rfl) ?_) | refine WL.nil ?_ | refine thenN ?_ | refine WP.region ?_ | refine WP.seq ?_ | refine WP.block ?_ | refine thenR ?_ | refine thenX ?_ | refine blkN ?_ | refine blkHit ?_ | refine blkR ?_ | refine blkMiss (by rfl) ?_ | refine WP.ret ?_ | refine WP.exit ?_ | refine WP.skip ?_ | refine WP.label ?_ | refine WP.condT (by rfl) ?_ | refine WP.condF (by rfl) ?_ | fail)
  refine WL.step (o_loadS (by rfl) BA1 (by rfl) ?_)
  repeat' (first | refine WL.step (o_s (by rfl) ?_) | refine WL.step (o_len (by rfl) ?_) | refine WL.step (o_add (by rfl) (by rfl) (by unfold InI; omega) ?_) | refine WL.step (o_sub (by rfl) (by rfl) (by unfold InI; omega) ?_) | refine WL.step (OpW.pass (by rfl) ?_) | refine WL.nil ?_ | refine thenN ?_ | refine WP.region ?_ | refine WP.seq ?_ | refine WP.block ?_ | refine thenR ?_ | refine thenX ?_ | refine blkN ?_ | refine blkHit ?_ | refine blkR ?_ | refine blkMiss (by rfl) ?_ | refine WP.ret ?_ | refine WP.exit ?_ | refine WP.skip ?_ | refine WP.label ?_ | refine WP.condT (by rfl) ?_ | refine WP.condF (by rfl) ?_ | fail)
  refine WL.call (toT A1 hn1) ?_
  intro vX1 w11 ⟨X1, hc11⟩
  have hz11 := hc11.size
  have hB11 : Below w.heap.size w w11 := hB10.trans (hc11.below (by omega) (by omega))
  replace A0 := IT.chg A0 hc11 (by omega)
  replace A1 := IT.chg A1 hc11 (by omega)
  replace BA0 := BA0.chg hc11 (by omega)
  replace BA1 := BA1.chg hc11 (by omega)
  replace W := W.chg hc11 (by omega)
  replace X0 := X0.chg hc11 (by omega)
  replace BX0 := BX0.chg hc11 (by omega)
  repeat' (first | refine WL.step (o_s (by rfl) ?_) | refine WL.step (o_len (by rfl) ?_) | refine WL.step (o_add (by rfl) (by rfl) (by unfold InI; omega) ?_) | refine WL.step (o_sub (by rfl) (by rfl) (by unfold InI; omega) ?_) | refine WL.step (OpW.pass (by rfl) ?_) | refine WL.nil ?_ | refine thenN ?_ | refine WP.region ?_ | refine WP.seq ?_ | refine WP.block ?_ | refine thenR ?_ | refine thenX ?_ | refine blkN ?_ | refine blkHit ?_ | refine blkR ?_ | refine blkMiss (by rfl) ?_ | refine WP.ret ?_ | refine WP.exit ?_ | refine WP.skip ?_ | refine WP.label ?_ | refine WP.condT (by rfl) ?_ | refine WP.condF (by rfl) ?_ | fail)
  obtain ⟨b1X1, m1X1, c1X1, b2X1, m2X1, c2X1, hlitX1⟩ := X1.cells
  subst hlitX1
  refine WL.var (vs := [.slice b1X1 m1X1 c1X1, .slice b2X1 m2X1 c2X1]) (fun p => by rfl) rfl two_cells ?_
  intro w12 BX1 hbl12 hzz12
  have hc12 := Chg.of_below hbl12
  have hz12 := hc12.size
  have hB12 : Below w.heap.size w w12 := hB11.trans (hc12.below (by omega) (by omega))
  replace A0 := IT.chg A0 hc12 (by omega)
  replace A1 := IT.chg A1 hc12 (by omega)
  replace BA0 := BA0.chg hc12 (by omega)
  replace BA1 := BA1.chg hc12 (by omega)
  replace W := W.chg hc12 (by omega)
  replace X0 := X0.chg hc12 (by omega)
  replace BX0 := BX0.chg hc12 (by omega)
  replace X1 := X1.chg hc12 (by omega)
  repeat' (first | refine WL.step (o_s (by rfl) ?_) | refine WL.step (o_len (by rfl) ?_) | refine WL.step (o_add (by rfl) (by rfl) (by unfold InI; omega) ?_) | refine WL.step (o_sub (by rfl) (by rfl) (by unfold InI; omega) ?_) | refine WL.step (OpW.pass (by rfl) ?_) | refine WL.nil ?_ | refine thenN ?_ | refine WP.region ?_ | refine WP.seq ?_ | refine WP.block ?_ | refine thenR ?_ | refine thenX ?_ | refine blkN ?_ | refine blkHit ?_ | refine blkR ?_ | refine blkMiss (by rfl) ?_ | refine WP.ret ?_ | refine WP.exit ?_ | refine WP.skip ?_ | refine WP.label ?_ | refine WP.condT (by rfl) ?_ | refine WP.condF (by rfl) ?_ | fail)
  refine WL.step (o_loadS (by rfl) BX0 (by rfl) ?_)
  repeat' (first | refine WL.step (o_s (by rfl) ?_) | refine WL.step (o_len (by rfl) ?_) | refine WL.step (o_add (by rfl) (by rfl) (by unfold InI; omega) ?_) | refine WL.step (o_sub (by rfl) (by rfl) (by unfold InI; omega) ?_) | refine WL.step (OpW.pass (by rfl) ?_) | refine WL.nil ?_ | refine thenN ?_ | refine WP.region ?_ | refine WP.seq ?_ | refine WP.block ?_ | refine thenR ?_ | refine thenX ?_ | refine blkN ?_ | refine blkHit ?_ | refine blkR ?_ | refine blkMiss (by rfl) ?_ | refine WP.ret ?_ | refine WP.exit ?_ | refine WP.skip ?_ | refine WP.label ?_ | refine WP.condT (by rfl) ?_ | refine WP.condF (by rfl) ?_ | fail)
  refine WL.step (o_loadS (by rfl) BX1 (by rfl) ?_)
  repeat' (first | refine WL.step (o_s (by rfl) ?_) | refine WL.step (o_len (by rfl) ?_) | refine WL.step (o_add (by rfl) (by rfl) (by unfold InI; omega) ?_) | refine WL.step (o_sub (by rfl) (by rfl) (by unfold InI; omega) ?_) | refine WL.step (OpW.pass (by rfl) ?_) | refine WL.nil ?_ | refine thenN ?_ | refine WP.region ?_ | refine WP.seq ?_ | refine WP.block ?_ | refine thenR ?_ | refine thenX ?_ | refine blkN ?_ | refine blkHit ?_ | refine blkR ?_ | refine blkMiss (by rfl) ?_ | refine WP.ret ?_ | refine WP.exit ?_ | refine WP.skip ?_ | refine WP.label ?_ | refine WP.condT (by rfl) ?_ | refine WP.condF (by rfl) ?_ | fail)
  refine WL.call (StageOrder_any X0.rd X1.rd) ?_
  rintro _ w13 ⟨vG, rfl, NG⟩
  have G := NG.ow
  have hc13 := NG.chg
  clear NG
  have hz13 := hc13.size
  have hB13 : Below w.heap.size w w13 := hB12.trans (hc13.below (by omega) (by omega))
  replace A0 := IT.chg A0 hc13 (by omega)
  replace A1 := IT.chg A1 hc13 (by omega)
  replace BA0 := BA0.chg hc13 (by omega)
  replace BA1 := BA1.chg hc13 (by omega)
  replace W := W.chg hc13 (by omega)
  replace X0 := X0.chg hc13 (by omega)
  replace BX0 := BX0.chg hc13 (by omega)
  replace X1 := X1.chg hc13 (by omega)
  replace BX1 := BX1.chg hc13 (by omega)
  repeat' (first | refine WL.step (o_s (by rfl) ?_) | refine WL.step (o_len (by rfl) ?_) | refine WL.step (o_add (by rfl) (by rfl) (by unfold InI; omega) ?_) | refine WL.step (o_sub (by rfl) (by rfl) (by unfold InI; omega) ?_) | refine WL.step (OpW.pass (by rfl) ?_) | refine WL.nil ?_ | refine thenN ?_ | refine WP.region ?_ | refine WP.seq ?_ | refine WP.block ?_ | refine thenR ?_ | refine thenX ?_ | refine blkN ?_ | refine blkHit ?_ | refine blkR ?_ | refine blkMiss (by rfl) ?_ | refine WP.ret ?_ | refine WP.exit ?_ | refine WP.skip ?_ | refine WP.label ?_ | refine WP.condT (by rfl) ?_ | refine WP.condF (by rfl) ?_ | fail)
  refine WL.call (eqI_same G.rd W.rd) ?_
  rintro _ w14 ⟨rfl, hc14⟩
  have hz14 := hc14.size
  have hB14 : Below w.heap.size w w14 := hB13.trans (hc14.below (by omega) (by omega))
  replace A0 := IT.chg A0 hc14 (by omega)
  replace A1 := IT.chg A1 hc14 (by omega)
  replace BA0 := BA0.chg hc14 (by omega)
  replace BA1 := BA1.chg hc14 (by omega)
  replace W := W.chg hc14 (by omega)
  replace X0 := X0.chg hc14 (by omega)
  replace BX0 := BX0.chg hc14 (by omega)
  replace X1 := X1.chg hc14 (by omega)
  replace BX1 := BX1.chg hc14 (by omega)
  replace G := G.chg hc14 (by omega)
  repeat' (first | refine WL.step (o_s (by rfl) ?_) | refine WL.step (o_len (by rfl) ?_) | refine WL.step (o_add (by rfl) (by rfl) (by unfold InI; omega) ?_) | refine WL.step (o_sub (by rfl) (by rfl) (by unfold InI; omega) ?_) | refine WL.step (OpW.pass (by rfl) ?_) | refine WL.nil ?_ | refine thenN ?_ | refine WP.region ?_ | refine WP.seq ?_ | refine WP.block ?_ | refine thenR ?_ | refine thenX ?_ | refine blkN ?_ | refine blkHit ?_ | refine blkR ?_ | refine blkMiss (by rfl) ?_ | refine WP.ret ?_ | refine WP.exit ?_ | refine WP.skip ?_ | refine WP.label ?_ | refine WP.condT (by rfl) ?_ | refine WP.condF (by rfl) ?_ | fail)
  try (refine WP.condD (by rfl) (fun hbad => False.elim (by first | exact hbad rfl | omega)) (fun _ => ?_))
  repeat' (first | refine WL.step (o_s (by rfl) ?_) | refine WL.step (o_len (by rfl) ?_) | refine WL.step (o_add (by rfl) (by rfl) (by unfold InI; omega) ?_) | refine WL.step (o_sub (by rfl) (by rfl) (by unfold InI; omega) ?_) | refine WL.step (OpW.pass (by rfl) ?_) | refine WL.nil ?_ | refine thenN ?_ | refine WP.region ?_ | refine WP.seq ?_ | refine WP.block ?_ | refine thenR ?_ | refine thenX ?_ | refine blkN ?_ | refine blkHit ?_ | refine blkR ?_ | refine blkMiss (by rfl) ?_ | refine WP.ret ?_ | refine WP.exit ?_ | refine WP.skip ?_ | refine WP.label ?_ | refine WP.condT (by rfl) ?_ | refine WP.condF (by rfl) ?_ | fail)
  refine WP.drawn (fun w' => Below w14.heap.size w14 w') [(0, true), (1, true), (2, false), (3, false), (4, true)] (by kernel_rfl) mixed ?_
  intro w15 hst15
  have hc15 := Chg.of_still hst15
  have hS15 : Below w14.heap.size w14 w15 := hst15.below _
  have BX := BX0
  have BA := BA0
  have hz15 := hc15.size
  have hB15 : Below w.heap.size w w15 := hB14.trans (hc15.below (by omega) (by omega))
  replace A0 := IT.chg A0 hc15 (by omega)
  replace A1 := IT.chg A1 hc15 (by omega)
  replace BA0 := BA0.chg hc15 (by omega)
  replace BA1 := BA1.chg hc15 (by omega)
  replace W := W.chg hc15 (by omega)
  replace X0 := X0.chg hc15 (by omega)
  replace BX0 := BX0.chg hc15 (by omega)
  replace X1 := X1.chg hc15 (by omega)
  replace BX1 := BX1.chg hc15 (by omega)
  replace G := G.chg hc15 (by omega)
  refine WS.q rfl (q_loadS (by rfl) (fun w' h => BX.below h BX.lt) (by rfl)) hS15 ?_
  refine WS.q rfl (q_loadS (by rfl) (fun w' h => BA.below h BA.lt) (by rfl)) hS15 ?_
  refine WS.call rfl (toT A0 hn0) ?_
  intro vt0 w16 ⟨t0, hc16⟩
  have hz16 := hc16.size
  have hB16 : Below w.heap.size w w16 := hB15.trans (hc16.below (by omega) (by omega))
  replace A0 := IT.chg A0 hc16 (by omega)
  replace A1 := IT.chg A1 hc16 (by omega)
  replace BA0 := BA0.chg hc16 (by omega)
  replace BA1 := BA1.chg hc16 (by omega)
  replace W := W.chg hc16 (by omega)
  replace X0 := X0.chg hc16 (by omega)
  replace BX0 := BX0.chg hc16 (by omega)
  replace X1 := X1.chg hc16 (by omega)
  replace BX1 := BX1.chg hc16 (by omega)
  replace G := G.chg hc16 (by omega)
  have hS16 : Below w14.heap.size w14 w16 := hS15.trans (hc16.below (by omega) (by omega))
  refine ⟨hS16, ?_⟩
  refine WS.call rfl (eqT_same X0.rd t0.rd) ?_
  rintro _ w17 ⟨rfl, hc17⟩
  have hz17 := hc17.size
  have hB17 : Below w.heap.size w w17 := hB16.trans (hc17.below (by omega) (by omega))
  replace A0 := IT.chg A0 hc17 (by omega)
  replace A1 := IT.chg A1 hc17 (by omega)
  replace BA0 := BA0.chg hc17 (by omega)
  replace BA1 := BA1.chg hc17 (by omega)
  replace W := W.chg hc17 (by omega)
  replace X0 := X0.chg hc17 (by omega)
  replace BX0 := BX0.chg hc17 (by omega)
  replace X1 := X1.chg hc17 (by omega)
  replace BX1 := BX1.chg hc17 (by omega)
  replace G := G.chg hc17 (by omega)
  replace t0 := t0.chg hc17 (by omega)
  have hS17 : Below w14.heap.size w14 w17 := hS16.trans (hc17.below (by omega) (by omega))
  refine ⟨hS17, ?_⟩
  repeat' (first | refine WS.q rfl (q_s (by rfl)) (by first | rfl | assumption) ?_ | refine WS.q rfl (q_len (by rfl)) (by first | rfl | assumption) ?_ | refine WS.q rfl (q_add (by rfl) (by rfl) (by unfold InI; omega)) (by first | rfl | assumption) ?_ | refine WS.q rfl (q_sub (by rfl) (by rfl) (by unfold InI; omega)) (by first | rfl | assumption) ?_ | refine WS.q rfl (q_pass (by rfl)) (by first | rfl | assumption) ?_ | refine WS.nil ?_ | fail)
  clear BX BA
  repeat' (first | refine WL.step (o_s (by rfl) ?_) | refine WL.step (o_len (by rfl) ?_) | refine WL.step (o_add (by rfl) (by rfl) (by unfold InI; omega) ?_) | refine WL.step (o_sub (by rfl) (by rfl) (by unfold InI; omega) ?_) | refine WL.step (OpW.pass (by rfl) ?_) | refine WL.nil ?_ | refine thenN ?_ | refine WP.region ?_ | refine WP.seq ?_ | refine WP.block ?_ | refine thenR ?_ | refine thenX ?_ | refine blkN ?_ | refine blkHit ?_ | refine blkR ?_ | refine blkMiss (by rfl) ?_ | refine WP.ret ?_ | refine WP.exit ?_ | refine WP.skip ?_ | refine WP.label ?_ | refine WP.condT (by rfl) ?_ | refine WP.condF (by rfl) ?_ | fail)
  refine WP.drawn (fun w' => Below w17.heap.size w17 w') [(0, true), (1, true), (2, false), (3, false), (4, true)] (by kernel_rfl) mixed ?_
  intro w18 hst18
  have hc18 := Chg.of_still hst18
  have hS18 : Below w17.heap.size w17 w18 := hst18.below _
  have BX := BX1
  have BA := BA1
  have hz18 := hc18.size
  have hB18 : Below w.heap.size w w18 := hB17.trans (hc18.below (by omega) (by omega))
  replace A0 := IT.chg A0 hc18 (by omega)
  replace A1 := IT.chg A1 hc18 (by omega)
  replace BA0 := BA0.chg hc18 (by omega)
  replace BA1 := BA1.chg hc18 (by omega)
  replace W := W.chg hc18 (by omega)
  replace X0 := X0.chg hc18 (by omega)
  replace BX0 := BX0.chg hc18 (by omega)
  replace X1 := X1.chg hc18 (by omega)
  replace BX1 := BX1.chg hc18 (by omega)
  replace G := G.chg hc18 (by omega)
  refine WS.q rfl (q_loadS (by rfl) (fun w' h => BX.below h BX.lt) (by rfl)) hS18 ?_
  refine WS.q rfl (q_loadS (by rfl) (fun w' h => BA.below h BA.lt) (by rfl)) hS18 ?_
  refine WS.call rfl (toT A1 hn1) ?_
  intro vt1 w19 ⟨t1, hc19⟩
  have hz19 := hc19.size
  have hB19 : Below w.heap.size w w19 := hB18.trans (hc19.below (by omega) (by omega))
  replace A0 := IT.chg A0 hc19 (by omega)
  replace A1 := IT.chg A1 hc19 (by omega)
  replace BA0 := BA0.chg hc19 (by omega)
  replace BA1 := BA1.chg hc19 (by omega)
  replace W := W.chg hc19 (by omega)
  replace X0 := X0.chg hc19 (by omega)
  replace BX0 := BX0.chg hc19 (by omega)
  replace X1 := X1.chg hc19 (by omega)
  replace BX1 := BX1.chg hc19 (by omega)
  replace G := G.chg hc19 (by omega)
  have hS19 : Below w17.heap.size w17 w19 := hS18.trans (hc19.below (by omega) (by omega))
  refine ⟨hS19, ?_⟩
  refine WS.call rfl (eqT_same X1.rd t1.rd) ?_
  rintro _ w20 ⟨rfl, hc20⟩
  have hz20 := hc20.size
  have hB20 : Below w.heap.size w w20 := hB19.trans (hc20.below (by omega) (by omega))
  replace A0 := IT.chg A0 hc20 (by omega)
  replace A1 := IT.chg A1 hc20 (by omega)
  replace BA0 := BA0.chg hc20 (by omega)
  replace BA1 := BA1.chg hc20 (by omega)
  replace W := W.chg hc20 (by omega)
  replace X0 := X0.chg hc20 (by omega)
  replace BX0 := BX0.chg hc20 (by omega)
  replace X1 := X1.chg hc20 (by omega)
  replace BX1 := BX1.chg hc20 (by omega)
  replace G := G.chg hc20 (by omega)
  replace t1 := t1.chg hc20 (by omega)
  have hS20 : Below w17.heap.size w17 w20 := hS19.trans (hc20.below (by omega) (by omega))
  refine ⟨hS20, ?_⟩
  repeat' (first | refine WS.q rfl (q_s (by rfl)) (by first | rfl | assumption) ?_ | refine WS.q rfl (q_len (by rfl)) (by first | rfl | assumption) ?_ | refine WS.q rfl (q_add (by rfl) (by rfl) (by unfold InI; omega)) (by first | rfl | assumption) ?_ | refine WS.q rfl (q_sub (by rfl) (by rfl) (by unfold InI; omega)) (by first | rfl | assumption) ?_ | refine WS.q rfl (q_pass (by rfl)) (by first | rfl | assumption) ?_ | refine WS.nil ?_ | fail)
  clear BX BA
  repeat' (first | refine WL.step (o_s (by rfl) ?_) | refine WL.step (o_len (by rfl) ?_) | refine WL.step (o_add (by rfl) (by rfl) (by unfold InI; omega) ?_) | refine WL.step (o_sub (by rfl) (by rfl) (by unfold InI; omega) ?_) | refine WL.step (OpW.pass (by rfl) ?_) | refine WL.nil ?_ | refine thenN ?_ | refine WP.region ?_ | refine WP.seq ?_ | refine WP.block ?_ | refine thenR ?_ | refine thenX ?_ | refine blkN ?_ | refine blkHit ?_ | refine blkR ?_ | refine blkMiss (by rfl) ?_ | refine WP.ret ?_ | refine WP.exit ?_ | refine WP.skip ?_ | refine WP.label ?_ | refine WP.condT (by rfl) ?_ | refine WP.condF (by rfl) ?_ | fail)
  refine WL.step (o_loadS (by rfl) BX0 (by rfl) ?_)
  repeat' (first | refine WL.step (o_s (by rfl) ?_) | refine WL.step (o_len (by rfl) ?_) | refine WL.step (o_add (by rfl) (by rfl) (by unfold InI; omega) ?_) | refine WL.step (o_sub (by rfl) (by rfl) (by unfold InI; omega) ?_) | refine WL.step (OpW.pass (by rfl) ?_) | refine WL.nil ?_ | refine thenN ?_ | refine WP.region ?_ | refine WP.seq ?_ | refine WP.block ?_ | refine thenR ?_ | refine thenX ?_ | refine blkN ?_ | refine blkHit ?_ | refine blkR ?_ | refine blkMiss (by rfl) ?_ | refine WP.ret ?_ | refine WP.exit ?_ | refine WP.skip ?_ | refine WP.label ?_ | refine WP.condT (by rfl) ?_ | refine WP.condF (by rfl) ?_ | fail)
  refine WL.call (markT_any (k := 1) X0 (by omega) (by omega)) ?_
  rintro _ w21 ⟨rfl, X0', hc21⟩
  have hz21 := hc21.size
  have hB21 : Below w.heap.size w w21 := hB20.trans (hc21.below (by omega) (by omega))
  replace A0 := IT.chg A0 hc21 (by omega)
  replace A1 := IT.chg A1 hc21 (by omega)
  replace BA0 := BA0.chg hc21 (by omega)
  replace BA1 := BA1.chg hc21 (by omega)
  replace W := W.chg hc21 (by omega)
  replace BX0 := BX0.chg hc21 (by omega)
  replace X1 := X1.chg hc21 (by omega)
  replace BX1 := BX1.chg hc21 (by omega)
  replace G := G.chg hc21 (by omega)
  clear X0
  repeat' (first | refine WL.step (o_s (by rfl) ?_) | refine WL.step (o_len (by rfl) ?_) | refine WL.step (o_add (by rfl) (by rfl) (by unfold InI; omega) ?_) | refine WL.step (o_sub (by rfl) (by rfl) (by unfold InI; omega) ?_) | refine WL.step (OpW.pass (by rfl) ?_) | refine WL.nil ?_ | refine thenN ?_ | refine WP.region ?_ | refine WP.seq ?_ | refine WP.block ?_ | refine thenR ?_ | refine thenX ?_ | refine blkN ?_ | refine blkHit ?_ | refine blkR ?_ | refine blkMiss (by rfl) ?_ | refine WP.ret ?_ | refine WP.exit ?_ | refine WP.skip ?_ | refine WP.label ?_ | refine WP.condT (by rfl) ?_ | refine WP.condF (by rfl) ?_ | fail)
  refine WL.step (o_loadS (by rfl) BX1 (by rfl) ?_)
  repeat' (first | refine WL.step (o_s (by rfl) ?_) | refine WL.step (o_len (by rfl) ?_) | refine WL.step (o_add (by rfl) (by rfl) (by unfold InI; omega) ?_) | refine WL.step (o_sub (by rfl) (by rfl) (by unfold InI; omega) ?_) | refine WL.step (OpW.pass (by rfl) ?_) | refine WL.nil ?_ | refine thenN ?_ | refine WP.region ?_ | refine WP.seq ?_ | refine WP.block ?_ | refine thenR ?_ | refine thenX ?_ | refine blkN ?_ | refine blkHit ?_ | refine blkR ?_ | refine blkMiss (by rfl) ?_ | refine WP.ret ?_ | refine WP.exit ?_ | refine WP.skip ?_ | refine WP.label ?_ | refine WP.condT (by rfl) ?_ | refine WP.condF (by rfl) ?_ | fail)
  refine WL.call (markT_any (k := 1 + (tabCnt a0 : Int)) X1 (by omega) (by omega)) ?_
  rintro _ w22 ⟨rfl, X1', hc22⟩
  have hz22 := hc22.size
  have hB22 : Below w.heap.size w w22 := hB21.trans (hc22.below (by omega) (by omega))
  replace A0 := IT.chg A0 hc22 (by omega)
  replace A1 := IT.chg A1 hc22 (by omega)
  replace BA0 := BA0.chg hc22 (by omega)
  replace BA1 := BA1.chg hc22 (by omega)
  replace W := W.chg hc22 (by omega)
  replace BX1 := BX1.chg hc22 (by omega)
  replace G := G.chg hc22 (by omega)
  clear X1
  repeat' (first | refine WL.step (o_s (by rfl) ?_) | refine WL.step (o_len (by rfl) ?_) | refine WL.step (o_add (by rfl) (by rfl) (by unfold InI; omega) ?_) | refine WL.step (o_sub (by rfl) (by rfl) (by unfold InI; omega) ?_) | refine WL.step (OpW.pass (by rfl) ?_) | refine WL.nil ?_ | refine thenN ?_ | refine WP.region ?_ | refine WP.seq ?_ | refine WP.block ?_ | refine thenR ?_ | refine thenX ?_ | refine blkN ?_ | refine blkHit ?_ | refine blkR ?_ | refine blkMiss (by rfl) ?_ | refine WP.ret ?_ | refine WP.exit ?_ | refine WP.skip ?_ | refine WP.label ?_ | refine WP.condT (by rfl) ?_ | refine WP.condF (by rfl) ?_ | fail)
  try (refine WL.gsplitD (by rfl) (by rfl) (by rfl) (fun hbad => False.elim (by first | exact hbad rfl | omega)) (fun _ => ?_))
  repeat' (first | refine WL.step (o_s (by rfl) ?_) | refine WL.step (o_len (by rfl) ?_) | refine WL.step (o_add (by rfl) (by rfl) (by unfold InI; omega) ?_) | refine WL.step (o_sub (by rfl) (by rfl) (by unfold InI; omega) ?_) | refine WL.step (OpW.pass (by rfl) ?_) | refine WL.nil ?_ | refine thenN ?_ | refine WP.region ?_ | refine WP.seq ?_ | refine WP.block ?_ | refine thenR ?_ | refine thenX ?_ | refine blkN ?_ | refine blkHit ?_ | refine blkR ?_ | refine blkMiss (by rfl) ?_ | refine WP.ret ?_ | refine WP.exit ?_ | refine WP.skip ?_ | refine WP.label ?_ | refine WP.condT (by rfl) ?_ | refine WP.condF (by rfl) ?_ | fail)
  refine WL.call (eqI_same G.rd W.rd) ?_
  rintro _ w23 ⟨rfl, hc23⟩
  have hz23 := hc23.size
  have hB23 : Below w.heap.size w w23 := hB22.trans (hc23.below (by omega) (by omega))
  replace A0 := IT.chg A0 hc23 (by omega)
  replace A1 := IT.chg A1 hc23 (by omega)
  replace BA0 := BA0.chg hc23 (by omega)
  replace BA1 := BA1.chg hc23 (by omega)
  replace W := W.chg hc23 (by omega)
  replace G := G.chg hc23 (by omega)
  repeat' (first | refine WL.step (o_s (by rfl) ?_) | refine WL.step (o_len (by rfl) ?_) | refine WL.step (o_add (by rfl) (by rfl) (by unfold InI; omega) ?_) | refine WL.step (o_sub (by rfl) (by rfl) (by unfold InI; omega) ?_) | refine WL.step (OpW.pass (by rfl) ?_) | refine WL.nil ?_ | refine thenN ?_ | refine WP.region ?_ | refine WP.seq ?_ | refine WP.block ?_ | refine thenR ?_ | refine thenX ?_ | refine blkN ?_ | refine blkHit ?_ | refine blkR ?_ | refine blkMiss (by rfl) ?_ | refine WP.ret ?_ | refine WP.exit ?_ | refine WP.skip ?_ | refine WP.label ?_ | refine WP.condT (by rfl) ?_ | refine WP.condF (by rfl) ?_ | fail)
  try (refine WP.condD (by rfl) (fun hbad => False.elim (by first | exact hbad rfl | omega)) (fun _ => ?_))
  repeat' (first | refine WL.step (o_s (by rfl) ?_) | refine WL.step (o_len (by rfl) ?_) | refine WL.step (o_add (by rfl) (by rfl) (by unfold InI; omega) ?_) | refine WL.step (o_sub (by rfl) (by rfl) (by unfold InI; omega) ?_) | refine WL.step (OpW.pass (by rfl) ?_) | refine WL.nil ?_ | refine thenN ?_ | refine WP.region ?_ | refine WP.seq ?_ | refine WP.block ?_ | refine thenR ?_ | refine thenX ?_ | refine blkN ?_ | refine blkHit ?_ | refine blkR ?_ | refine blkMiss (by rfl) ?_ | refine WP.ret ?_ | refine WP.exit ?_ | refine WP.skip ?_ | refine WP.label ?_ | refine WP.condT (by rfl) ?_ | refine WP.condF (by rfl) ?_ | fail)
  refine WL.call (markI (k := 1) G (by omega) (by omega)) ?_
  rintro _ w24 ⟨rfl, G', hc24⟩
  have hz24 := hc24.size
  have hB24 : Below w.heap.size w w24 := hB23.trans (hc24.below (by omega) (by omega))
  replace A0 := IT.chg A0 hc24 (by omega)
  replace A1 := IT.chg A1 hc24 (by omega)
  replace BA0 := BA0.chg hc24 (by omega)
  replace BA1 := BA1.chg hc24 (by omega)
  replace W := W.chg hc24 (by omega)
  clear G
  repeat' (first | refine WL.step (o_s (by rfl) ?_) | refine WL.step (o_len (by rfl) ?_) | refine WL.step (o_add (by rfl) (by rfl) (by unfold InI; omega) ?_) | refine WL.step (o_sub (by rfl) (by rfl) (by unfold InI; omega) ?_) | refine WL.step (OpW.pass (by rfl) ?_) | refine WL.nil ?_ | refine thenN ?_ | refine WP.region ?_ | refine WP.seq ?_ | refine WP.block ?_ | refine thenR ?_ | refine thenX ?_ | refine blkN ?_ | refine blkHit ?_ | refine blkR ?_ | refine blkMiss (by rfl) ?_ | refine WP.ret ?_ | refine WP.exit ?_ | refine WP.skip ?_ | refine WP.label ?_ | refine WP.condT (by rfl) ?_ | refine WP.condF (by rfl) ?_ | fail)
  refine WL.call (heldI (k := 1) G'.rd (by omega) (by omega)) ?_
  rintro _ w25 ⟨rfl, hc25⟩
  have hz25 := hc25.size
  have hB25 : Below w.heap.size w w25 := hB24.trans (hc25.below (by omega) (by omega))
  replace A0 := IT.chg A0 hc25 (by omega)
  replace A1 := IT.chg A1 hc25 (by omega)
  replace BA0 := BA0.chg hc25 (by omega)
  replace BA1 := BA1.chg hc25 (by omega)
  replace W := W.chg hc25 (by omega)
  replace G' := G'.chg hc25 (by omega)
  repeat' (first | refine WL.step (o_s (by rfl) ?_) | refine WL.step (o_len (by rfl) ?_) | refine WL.step (o_add (by rfl) (by rfl) (by unfold InI; omega) ?_) | refine WL.step (o_sub (by rfl) (by rfl) (by unfold InI; omega) ?_) | refine WL.step (OpW.pass (by rfl) ?_) | refine WL.nil ?_ | refine thenN ?_ | refine WP.region ?_ | refine WP.seq ?_ | refine WP.block ?_ | refine thenR ?_ | refine thenX ?_ | refine blkN ?_ | refine blkHit ?_ | refine blkR ?_ | refine blkMiss (by rfl) ?_ | refine WP.ret ?_ | refine WP.exit ?_ | refine WP.skip ?_ | refine WP.label ?_ | refine WP.condT (by rfl) ?_ | refine WP.condF (by rfl) ?_ | fail)
  try (refine WP.condD (by rfl) (fun hbad => False.elim (by first | exact hbad rfl | omega)) (fun _ => ?_))
  repeat' (first | refine WL.step (o_s (by rfl) ?_) | refine WL.step (o_len (by rfl) ?_) | refine WL.step (o_add (by rfl) (by rfl) (by unfold InI; omega) ?_) | refine WL.step (o_sub (by rfl) (by rfl) (by unfold InI; omega) ?_) | refine WL.step (OpW.pass (by rfl) ?_) | refine WL.nil ?_ | refine thenN ?_ | refine WP.region ?_ | refine WP.seq ?_ | refine WP.block ?_ | refine thenR ?_ | refine thenX ?_ | refine blkN ?_ | refine blkHit ?_ | refine blkR ?_ | refine blkMiss (by rfl) ?_ | refine WP.ret ?_ | refine WP.exit ?_ | refine WP.skip ?_ | refine WP.label ?_ | refine WP.condT (by rfl) ?_ | refine WP.condF (by rfl) ?_ | fail)
  try (refine WP.condD (by rfl) (fun hbad => False.elim (by first | exact hbad rfl | omega)) (fun _ => ?_))
  repeat' (first | refine WL.step (o_s (by rfl) ?_) | refine WL.step (o_len (by rfl) ?_) | refine WL.step (o_add (by rfl) (by rfl) (by unfold InI; omega) ?_) | refine WL.step (o_sub (by rfl) (by rfl) (by unfold InI; omega) ?_) | refine WL.step (OpW.pass (by rfl) ?_) | refine WL.nil ?_ | refine thenN ?_ | refine WP.region ?_ | refine WP.seq ?_ | refine WP.block ?_ | refine thenR ?_ | refine thenX ?_ | refine blkN ?_ | refine blkHit ?_ | refine blkR ?_ | refine blkMiss (by rfl) ?_ | refine WP.ret ?_ | refine WP.exit ?_ | refine WP.skip ?_ | refine WP.label ?_ | refine WP.condT (by rfl) ?_ | refine WP.condF (by rfl) ?_ | fail)
  have BAa := BA0
  have BAb := BA1
  refine WP.drawn (fun w' => Below w25.heap.size w25 w') [(0, true), (2, true), (1, false), (3, false), (4, false), (5, true), (6, true), (7, true), (8, true), (9, true)] (by kernel_rfl) mixed ?_
  intro w26 hst26
  have hc26 := Chg.of_still hst26
  have hS26 : Below w25.heap.size w25 w26 := hst26.below _
  have hz26 := hc26.size
  have hB26 : Below w.heap.size w w26 := hB25.trans (hc26.below (by omega) (by omega))
  replace A0 := IT.chg A0 hc26 (by omega)
  replace A1 := IT.chg A1 hc26 (by omega)
  replace BA0 := BA0.chg hc26 (by omega)
  replace BA1 := BA1.chg hc26 (by omega)
  replace W := W.chg hc26 (by omega)
  replace G' := G'.chg hc26 (by omega)
  refine WS.q rfl (q_loadS (by rfl) (fun w' h => BAa.below h BAa.lt) (by rfl)) hS26 ?_
  refine WS.q rfl (q_loadS (by rfl) (fun w' h => BAb.below h BAb.lt) (by rfl)) hS26 ?_
  refine WS.call rfl (toT A0 hn0) ?_
  intro vq0 w27 ⟨z0, hc27⟩
  have hz27 := hc27.size
  have hB27 : Below w.heap.size w w27 := hB26.trans (hc27.below (by omega) (by omega))
  replace A0 := IT.chg A0 hc27 (by omega)
  replace A1 := IT.chg A1 hc27 (by omega)
  replace BA0 := BA0.chg hc27 (by omega)
  replace BA1 := BA1.chg hc27 (by omega)
  replace W := W.chg hc27 (by omega)
  replace G' := G'.chg hc27 (by omega)
  have hS27 : Below w25.heap.size w25 w27 := hS26.trans (hc27.below (by omega) (by omega))
  refine ⟨hS27, ?_⟩
  refine WS.call rfl (toT A1 hn1) ?_
  intro vq1 w28 ⟨z1, hc28⟩
  have hz28 := hc28.size
  have hB28 : Below w.heap.size w w28 := hB27.trans (hc28.below (by omega) (by omega))
  replace A0 := IT.chg A0 hc28 (by omega)
  replace A1 := IT.chg A1 hc28 (by omega)
  replace BA0 := BA0.chg hc28 (by omega)
  replace BA1 := BA1.chg hc28 (by omega)
  replace W := W.chg hc28 (by omega)
  replace G' := G'.chg hc28 (by omega)
  replace z0 := z0.chg hc28 (by omega)
  have hS28 : Below w25.heap.size w25 w28 := hS27.trans (hc28.below (by omega) (by omega))
  refine ⟨hS28, ?_⟩
  refine WS.call rfl (StageOrder_any z0.rd z1.rd) ?_
  rintro _ w29 ⟨vH, rfl, NH⟩
  have H := NH.ow
  have hc29 := NH.chg
  clear NH
  have hz29 := hc29.size
  have hB29 : Below w.heap.size w w29 := hB28.trans (hc29.below (by omega) (by omega))
  replace A0 := IT.chg A0 hc29 (by omega)
  replace A1 := IT.chg A1 hc29 (by omega)
  replace BA0 := BA0.chg hc29 (by omega)
  replace BA1 := BA1.chg hc29 (by omega)
  replace W := W.chg hc29 (by omega)
  replace G' := G'.chg hc29 (by omega)
  replace z0 := z0.chg hc29 (by omega)
  replace z1 := z1.chg hc29 (by omega)
  have hS29 : Below w25.heap.size w25 w29 := hS28.trans (hc29.below (by omega) (by omega))
  refine ⟨hS29, ?_⟩
  repeat' (first | refine WS.q rfl (q_s (by rfl)) (by first | rfl | assumption) ?_ | refine WS.q rfl (q_len (by rfl)) (by first | rfl | assumption) ?_ | refine WS.q rfl (q_add (by rfl) (by rfl) (by unfold InI; omega)) (by first | rfl | assumption) ?_ | refine WS.q rfl (q_sub (by rfl) (by rfl) (by unfold InI; omega)) (by first | rfl | assumption) ?_ | refine WS.q rfl (q_pass (by rfl)) (by first | rfl | assumption) ?_ | refine WS.nil ?_ | fail)
  clear BAa BAb z0 z1
  repeat' (first | refine WL.step (o_s (by rfl) ?_) | refine WL.step (o_len (by rfl) ?_) | refine WL.step (o_add (by rfl) (by rfl) (by unfold InI; omega) ?_) | refine WL.step (o_sub (by rfl) (by rfl) (by unfold InI; omega) ?_) | refine WL.step (OpW.pass (by rfl) ?_) | refine WL.nil ?_ | refine thenN ?_ | refine WP.region ?_ | refine WP.seq ?_ | refine WP.block ?_ | refine thenR ?_ | refine thenX ?_ | refine blkN ?_ | refine blkHit ?_ | refine blkR ?_ | refine blkMiss (by rfl) ?_ | refine WP.ret ?_ | refine WP.exit ?_ | refine WP.skip ?_ | refine WP.label ?_ | refine WP.condT (by rfl) ?_ | refine WP.condF (by rfl) ?_ | fail)
  refine WL.call (eqI_same H.rd W.rd) ?_
  rintro _ w30 ⟨rfl, hc30⟩
  have hz30 := hc30.size
  have hB30 : Below w.heap.size w w30 := hB29.trans (hc30.below (by omega) (by omega))
  replace A0 := IT.chg A0 hc30 (by omega)
  replace A1 := IT.chg A1 hc30 (by omega)
  replace BA0 := BA0.chg hc30 (by omega)
  replace BA1 := BA1.chg hc30 (by omega)
  replace W := W.chg hc30 (by omega)
  replace G' := G'.chg hc30 (by omega)
  replace H := H.chg hc30 (by omega)
  repeat' (first | refine WL.step (o_s (by rfl) ?_) | refine WL.step (o_len (by rfl) ?_) | refine WL.step (o_add (by rfl) (by rfl) (by unfold InI; omega) ?_) | refine WL.step (o_sub (by rfl) (by rfl) (by unfold InI; omega) ?_) | refine WL.step (OpW.pass (by rfl) ?_) | refine WL.nil ?_ | refine thenN ?_ | refine WP.region ?_ | refine WP.seq ?_ | refine WP.block ?_ | refine thenR ?_ | refine thenX ?_ | refine blkN ?_ | refine blkHit ?_ | refine blkR ?_ | refine blkMiss (by rfl) ?_ | refine WP.ret ?_ | refine WP.exit ?_ | refine WP.skip ?_ | refine WP.label ?_ | refine WP.condT (by rfl) ?_ | refine WP.condF (by rfl) ?_ | fail)
  try (refine WP.condD (by rfl) (fun hbad => False.elim (by first | exact hbad rfl | omega)) (fun _ => ?_))
  repeat' (first | refine WL.step (o_s (by rfl) ?_) | refine WL.step (o_len (by rfl) ?_) | refine WL.step (o_add (by rfl) (by rfl) (by unfold InI; omega) ?_) | refine WL.step (o_sub (by rfl) (by rfl) (by unfold InI; omega) ?_) | refine WL.step (OpW.pass (by rfl) ?_) | refine WL.nil ?_ | refine thenN ?_ | refine WP.region ?_ | refine WP.seq ?_ | refine WP.block ?_ | refine thenR ?_ | refine thenX ?_ | refine blkN ?_ | refine blkHit ?_ | refine blkR ?_ | refine blkMiss (by rfl) ?_ | refine WP.ret ?_ | refine WP.exit ?_ | refine WP.skip ?_ | refine WP.label ?_ | refine WP.condT (by rfl) ?_ | refine WP.condF (by rfl) ?_ | fail)
  refine WL.call (heldI (k := 1) G'.rd (by omega) (by omega)) ?_
  rintro _ w31 ⟨rfl, hc31⟩
  have hz31 := hc31.size
  have hB31 : Below w.heap.size w w31 := hB30.trans (hc31.below (by omega) (by omega))
  replace A0 := IT.chg A0 hc31 (by omega)
  replace A1 := IT.chg A1 hc31 (by omega)
  replace BA0 := BA0.chg hc31 (by omega)
  replace BA1 := BA1.chg hc31 (by omega)
  replace G' := G'.chg hc31 (by omega)
  repeat' (first | refine WL.step (o_s (by rfl) ?_) | refine WL.step (o_len (by rfl) ?_) | refine WL.step (o_add (by rfl) (by rfl) (by unfold InI; omega) ?_) | refine WL.step (o_sub (by rfl) (by rfl) (by unfold InI; omega) ?_) | refine WL.step (OpW.pass (by rfl) ?_) | refine WL.nil ?_ | refine thenN ?_ | refine WP.region ?_ | refine WP.seq ?_ | refine WP.block ?_ | refine thenR ?_ | refine thenX ?_ | refine blkN ?_ | refine blkHit ?_ | refine blkR ?_ | refine blkMiss (by rfl) ?_ | refine WP.ret ?_ | refine WP.exit ?_ | refine WP.skip ?_ | refine WP.label ?_ | refine WP.condT (by rfl) ?_ | refine WP.condF (by rfl) ?_ | fail)
  try (refine WP.condD (by rfl) (fun hbad => False.elim (by first | exact hbad rfl | omega)) (fun _ => ?_))
  repeat' (first | refine WL.step (o_s (by rfl) ?_) | refine WL.step (o_len (by rfl) ?_) | refine WL.step (o_add (by rfl) (by rfl) (by unfold InI; omega) ?_) | refine WL.step (o_sub (by rfl) (by rfl) (by unfold InI; omega) ?_) | refine WL.step (OpW.pass (by rfl) ?_) | refine WL.nil ?_ | refine thenN ?_ | refine WP.region ?_ | refine WP.seq ?_ | refine WP.block ?_ | refine thenR ?_ | refine thenX ?_ | refine blkN ?_ | refine blkHit ?_ | refine blkR ?_ | refine blkMiss (by rfl) ?_ | refine WP.ret ?_ | refine WP.exit ?_ | refine WP.skip ?_ | refine WP.label ?_ | refine WP.condT (by rfl) ?_ | refine WP.condF (by rfl) ?_ | fail)
  try (refine WP.condD (by rfl) (fun hbad => False.elim (by first | exact hbad rfl | omega)) (fun _ => ?_))
  repeat' (first | refine WL.step (o_s (by rfl) ?_) | refine WL.step (o_len (by rfl) ?_) | refine WL.step (o_add (by rfl) (by rfl) (by unfold InI; omega) ?_) | refine WL.step (o_sub (by rfl) (by rfl) (by unfold InI; omega) ?_) | refine WL.step (OpW.pass (by rfl) ?_) | refine WL.nil ?_ | refine thenN ?_ | refine WP.region ?_ | refine WP.seq ?_ | refine WP.block ?_ | refine thenR ?_ | refine thenX ?_ | refine blkN ?_ | refine blkHit ?_ | refine blkR ?_ | refine blkMiss (by rfl) ?_ | refine WP.ret ?_ | refine WP.exit ?_ | refine WP.skip ?_ | refine WP.label ?_ | refine WP.condT (by rfl) ?_ | refine WP.condF (by rfl) ?_ | fail)
  refine ⟨_, ret1 rfl (by rfl), ?_⟩
  exact ⟨rfl, hB31⟩
end Go.Proofs
