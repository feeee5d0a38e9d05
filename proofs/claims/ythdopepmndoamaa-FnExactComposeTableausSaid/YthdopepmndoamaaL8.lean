/- The exact law of compositions, walked. -/
import Derived.Test.YthdopepmndoamaaT2
import Derived.Test.YthdopepmndoamaaA13
namespace Go.Proofs
open Go Go.Fw Go.RowKit Go.Rk
set_option maxHeartbeats 4000000 in
theorem FnExactComposeTableaus_any {w : World} {la0 ha0 : Nat} {va0 : Value} {a0 : TabD} (A0 : IT la0 ha0 w va0 a0) {la1 ha1 : Nat} {va1 : Value} {a1 : TabD} (A1 : IT la1 ha1 w va1 a1) : Does Try.prog 14 [va0, va1] w fun r w' => r = .bool true ∧ Below w.heap.size w w' := by
  have hA0 := A0.hi_le
  have hA1 := A1.hi_le
  obtain ⟨ad0, nd0, cd0, ae0, ne0, ce0, hv0⟩ := A0.cells
  subst hv0
  obtain ⟨ad1, nd1, cd1, ae1, ne1, ce1, hv1⟩ := A1.cells
  subst hv1
  refine Does.enter Try.func14 Try.ntmps14 rfl (by rfl) ?_
  have hB0 : Below w.heap.size w w := Below.refl _ _
  repeat' (first | refine WL.step (o_s (by rfl) ?_) | refine WL.step (o_len (by rfl) ?_) | refine WL.step (o_add (by rfl) (by rfl) (by unfold InI; omega) ?_) | refine WL.step (o_sub (by rfl) (by rfl) (by unfold InI; omega) ?_) | refine WL.step (OpW.pass (by rfl) ?_) | refine WL.nil ?_ | refine thenN ?_ | refine WP.region ?_ | refine WP.seq ?_ | refine WP.block ?_ | refine thenR ?_ | refine thenX ?_ | refine blkN ?_ | refine blkHit ?_ | refine blkR ?_ | refine blkMiss (by rfl) ?_ | refine WP.ret ?_ | refine WP.exit ?_ | refine WP.skip ?_ | refine WP.label ?_ | refine WP.condT (by rfl) ?_ | refine WP.condF (by rfl) ?_ | fail)
  refine WL.step (o_box (by rfl) ?_)
  intro w1 BA0 hbl1 hzz1
  have hc1 := Chg.of_below hbl1
  have hz1 := hc1.size
  have hB1 : Below w.heap.size w w1 := hB0.trans (hc1.below (by omega) (by omega))
  replace A0 := IT.chg A0 hc1 (by omega)
  replace A1 := IT.chg A1 hc1 (by omega)
  repeat' (first | refine WL.step (o_s (by rfl) ?_) | refine WL.step (o_len (by rfl) ?_) | refine WL.step (o_add (by rfl) (by rfl) (by unfold InI; omega) ?_) | refine WL.step (o_sub (by rfl) (by rfl) (by unfold InI; omega) ?_) | refine WL.step (OpW.pass (by rfl) ?_) | refine WL.nil ?_ | refine thenN ?_ | refine WP.region ?_ | refine WP.seq ?_ | refine WP.block ?_ | refine thenR ?_ | refine thenX ?_ | refine blkN ?_ | refine blkHit ?_ | refine blkR ?_ | refine blkMiss (by rfl) ?_ | refine WP.ret ?_ | refine WP.exit ?_ | refine WP.skip ?_ | refine WP.label ?_ | refine WP.condT (by rfl) ?_ | refine WP.condF (by rfl) ?_ | fail)
  refine WL.step (o_box (by rfl) ?_)
  intro w2 BA1 hbl2 hzz2
  have hc2 := Chg.of_below hbl2
  have hz2 := hc2.size
  have hB2 : Below w.heap.size w w2 := hB1.trans (hc2.below (by omega) (by omega))
  replace A0 := IT.chg A0 hc2 (by omega)
  replace A1 := IT.chg A1 hc2 (by omega)
  replace BA0 := BA0.chg hc2 (by omega)
  repeat' (first | refine WL.step (o_s (by rfl) ?_) | refine WL.step (o_len (by rfl) ?_) | refine WL.step (o_add (by rfl) (by rfl) (by unfold InI; omega) ?_) | refine WL.step (o_sub (by rfl) (by rfl) (by unfold InI; omega) ?_) | refine WL.step (OpW.pass (by rfl) ?_) | refine WL.nil ?_ | refine thenN ?_ | refine WP.region ?_ | refine WP.seq ?_ | refine WP.block ?_ | refine thenR ?_ | refine thenX ?_ | refine blkN ?_ | refine blkHit ?_ | refine blkR ?_ | refine blkMiss (by rfl) ?_ | refine WP.ret ?_ | refine WP.exit ?_ | refine WP.skip ?_ | refine WP.label ?_ | refine WP.condT (by rfl) ?_ | refine WP.condF (by rfl) ?_ | fail)
  refine WL.step (o_loadS (by rfl) BA0 (by rfl) ?_)
  repeat' (first | refine WL.step (o_s (by rfl) ?_) | refine WL.step (o_len (by rfl) ?_) | refine WL.step (o_add (by rfl) (by rfl) (by unfold InI; omega) ?_) | refine WL.step (o_sub (by rfl) (by rfl) (by unfold InI; omega) ?_) | refine WL.step (OpW.pass (by rfl) ?_) | refine WL.nil ?_ | refine thenN ?_ | refine WP.region ?_ | refine WP.seq ?_ | refine WP.block ?_ | refine thenR ?_ | refine thenX ?_ | refine blkN ?_ | refine blkHit ?_ | refine blkR ?_ | refine blkMiss (by rfl) ?_ | refine WP.ret ?_ | refine WP.exit ?_ | refine WP.skip ?_ | refine WP.label ?_ | refine WP.condT (by rfl) ?_ | refine WP.condF (by rfl) ?_ | fail)
  refine WL.call (szTableau_any 1048576 A0 (by omega) (by omega)) ?_
  rintro _ w3 ⟨q0, rfl, hq0, hqb0, hc3⟩
  have hz3 := hc3.size
  have hB3 : Below w.heap.size w w3 := hB2.trans (hc3.below (by omega) (by omega))
  replace A0 := IT.chg A0 hc3 (by omega)
  replace A1 := IT.chg A1 hc3 (by omega)
  replace BA0 := BA0.chg hc3 (by omega)
  replace BA1 := BA1.chg hc3 (by omega)
  repeat' (first | refine WL.step (o_s (by rfl) ?_) | refine WL.step (o_len (by rfl) ?_) | refine WL.step (o_add (by rfl) (by rfl) (by unfold InI; omega) ?_) | refine WL.step (o_sub (by rfl) (by rfl) (by unfold InI; omega) ?_) | refine WL.step (OpW.pass (by rfl) ?_) | refine WL.nil ?_ | refine thenN ?_ | refine WP.region ?_ | refine WP.seq ?_ | refine WP.block ?_ | refine thenR ?_ | refine thenX ?_ | refine blkN ?_ | refine blkHit ?_ | refine blkR ?_ | refine blkMiss (by rfl) ?_ | refine WP.ret ?_ | refine WP.exit ?_ | refine WP.skip ?_ | refine WP.label ?_ | refine WP.condT (by rfl) ?_ | refine WP.condF (by rfl) ?_ | fail)
  first | refine WP.condD (by rfl) (fun _ => ?_) (fun _ => ?_) | refine WP.condND (by rfl) (fun _ => ?_) (fun _ => ?_) | refine WP.condN (by rfl) (fun _ => ?_) (fun _ => ?_) | refine WP.cond (by rfl) (fun _ => ?_) (fun _ => ?_) | fail
  · rename_i hbig
    repeat' (first | refine WL.step (o_s (by rfl) ?_) | refine WL.step (o_len (by rfl) ?_) | refine WL.step (o_add (by rfl) (by rfl) (by unfold InI; omega) ?_) | refine WL.step (o_sub (by rfl) (by rfl) (by unfold InI; omega) ?_) | refine WL.step (OpW.pass (by rfl) ?_) | refine WL.nil ?_ | refine thenN ?_ | refine WP.region ?_ | refine WP.seq ?_ | refine WP.block ?_ | refine thenR ?_ | refine thenX ?_ | refine blkN ?_ | refine blkHit ?_ | refine blkR ?_ | refine blkMiss (by rfl) ?_ | refine WP.ret ?_ | refine WP.exit ?_ | refine WP.skip ?_ | refine WP.label ?_ | refine WP.condT (by rfl) ?_ | refine WP.condF (by rfl) ?_ | fail)
    refine ⟨_, ret1 rfl (by rfl), ?_⟩
    exact ⟨rfl, hB3⟩
  rename_i hsm0
  have hn0 := hq0 (by omega)
  have hcn0 := hn0.cnt
  repeat' (first | refine WL.step (o_s (by rfl) ?_) | refine WL.step (o_len (by rfl) ?_) | refine WL.step (o_add (by rfl) (by rfl) (by unfold InI; omega) ?_) | refine WL.step (o_sub (by rfl) (by rfl) (by unfold InI; omega) ?_) | refine WL.step (OpW.pass (by rfl) ?_) | refine WL.nil ?_ | refine thenN ?_ | refine WP.region ?_ | refine WP.seq ?_ | refine WP.block ?_ | refine thenR ?_ | refine thenX ?_ | refine blkN ?_ | refine blkHit ?_ | refine blkR ?_ | refine blkMiss (by rfl) ?_ | refine WP.ret ?_ | refine WP.exit ?_ | refine WP.skip ?_ | refine WP.label ?_ | refine WP.condT (by rfl) ?_ | refine WP.condF (by rfl) ?_ | fail)
  refine WL.step (o_loadS (by rfl) BA1 (by rfl) ?_)
  repeat' (first | refine WL.step (o_s (by rfl) ?_) | refine WL.step (o_len (by rfl) ?_) | refine WL.step (o_add (by rfl) (by rfl) (by unfold InI; omega) ?_) | refine WL.step (o_sub (by rfl) (by rfl) (by unfold InI; omega) ?_) | refine WL.step (OpW.pass (by rfl) ?_) | refine WL.nil ?_ | refine thenN ?_ | refine WP.region ?_ | refine WP.seq ?_ | refine WP.block ?_ | refine thenR ?_ | refine thenX ?_ | refine blkN ?_ | refine blkHit ?_ | refine blkR ?_ | refine blkMiss (by rfl) ?_ | refine WP.ret ?_ | refine WP.exit ?_ | refine WP.skip ?_ | refine WP.label ?_ | refine WP.condT (by rfl) ?_ | refine WP.condF (by rfl) ?_ | fail)
  refine WL.call (szTableau_any q0 A1 (by omega) (by omega)) ?_
  rintro _ w4 ⟨q1, rfl, hq1, hqb1, hc4⟩
  have hz4 := hc4.size
  have hB4 : Below w.heap.size w w4 := hB3.trans (hc4.below (by omega) (by omega))
  replace A0 := IT.chg A0 hc4 (by omega)
  replace A1 := IT.chg A1 hc4 (by omega)
  replace BA0 := BA0.chg hc4 (by omega)
  replace BA1 := BA1.chg hc4 (by omega)
  repeat' (first | refine WL.step (o_s (by rfl) ?_) | refine WL.step (o_len (by rfl) ?_) | refine WL.step (o_add (by rfl) (by rfl) (by unfold InI; omega) ?_) | refine WL.step (o_sub (by rfl) (by rfl) (by unfold InI; omega) ?_) | refine WL.step (OpW.pass (by rfl) ?_) | refine WL.nil ?_ | refine thenN ?_ | refine WP.region ?_ | refine WP.seq ?_ | refine WP.block ?_ | refine thenR ?_ | refine thenX ?_ | refine blkN ?_ | refine blkHit ?_ | refine blkR ?_ | refine blkMiss (by rfl) ?_ | refine WP.ret ?_ | refine WP.exit ?_ | refine WP.skip ?_ | refine WP.label ?_ | refine WP.condT (by rfl) ?_ | refine WP.condF (by rfl) ?_ | fail)
  first | refine WP.condD (by rfl) (fun _ => ?_) (fun _ => ?_) | refine WP.condND (by rfl) (fun _ => ?_) (fun _ => ?_) | refine WP.condN (by rfl) (fun _ => ?_) (fun _ => ?_) | refine WP.cond (by rfl) (fun _ => ?_) (fun _ => ?_) | fail
  · rename_i hbig
    repeat' (first | refine WL.step (o_s (by rfl) ?_) | refine WL.step (o_len (by rfl) ?_) | refine WL.step (o_add (by rfl) (by rfl) (by unfold InI; omega) ?_) | refine WL.step (o_sub (by rfl) (by rfl) (by unfold InI; omega) ?_) | refine WL.step (OpW.pass (by rfl) ?_) | refine WL.nil ?_ | refine thenN ?_ | refine WP.region ?_ | refine WP.seq ?_ | refine WP.block ?_ | refine thenR ?_ | refine thenX ?_ | refine blkN ?_ | refine blkHit ?_ | refine blkR ?_ | refine blkMiss (by rfl) ?_ | refine WP.ret ?_ | refine WP.exit ?_ | refine WP.skip ?_ | refine WP.label ?_ | refine WP.condT (by rfl) ?_ | refine WP.condF (by rfl) ?_ | fail)
    refine ⟨_, ret1 rfl (by rfl), ?_⟩
    exact ⟨rfl, hB4⟩
  rename_i hsm1
  have hn1 := hq1 (by omega)
  have hcn1 := hn1.cnt
  repeat' (first | refine WL.step (o_s (by rfl) ?_) | refine WL.step (o_len (by rfl) ?_) | refine WL.step (o_add (by rfl) (by rfl) (by unfold InI; omega) ?_) | refine WL.step (o_sub (by rfl) (by rfl) (by unfold InI; omega) ?_) | refine WL.step (OpW.pass (by rfl) ?_) | refine WL.nil ?_ | refine thenN ?_ | refine WP.region ?_ | refine WP.seq ?_ | refine WP.block ?_ | refine thenR ?_ | refine thenX ?_ | refine blkN ?_ | refine blkHit ?_ | refine blkR ?_ | refine blkMiss (by rfl) ?_ | refine WP.ret ?_ | refine WP.exit ?_ | refine WP.skip ?_ | refine WP.label ?_ | refine WP.condT (by rfl) ?_ | refine WP.condF (by rfl) ?_ | fail)
  have hlen := composeTableaus_len a0 a1
  refine WP.mid (fun l' w' => ∃ bb b1 m1 c1 b2 m2 c2, Agree l' [(2, .pointer (some ⟨w.heap.size, 0, none⟩)), (3, .pointer (some ⟨w1.heap.size, 0, none⟩)), (4, .bool false), (6, .pointer (some ⟨bb, 0, none⟩)), (7, .int .i64 (composeTableaus a0 a1).2)] ∧ Blk w' bb [.slice b1 m1 c1, .slice b2 m2 c2] 30 ∧ OwT 28 2 w4.heap.size w'.heap.size w' (.agg #[.slice b1 m1 c1, .slice b2 m2 c2]) (composeTableaus a0 a1).1 ∧ w4.heap.size ≤ bb ∧ Below w4.heap.size w4 w') ?_ ?_
  · refine WP.forked (fun w' => Below w4.heap.size w4 w') (.q 0 (.q 2 (.two 1 (.two 3 (.two 4 (.q 5 (.q 6 (.q 7 (.o 8 (.o 9 (.q 10 .nil)))))) 8 (.o 4 (.q 5 (.q 6 (.q 7 (.o 9 (.q 10 .nil))))))) 8 (.o 3 (.o 4 (.q 5 (.q 6 (.q 7 (.o 9 (.q 10 .nil)))))))) 8 (.o 1 (.o 3 (.o 4 (.q 5 (.q 6 (.q 7 (.o 9 (.q 10 .nil))))))))))) (by kernel_rfl) mixed ?_
    intro u0 hst
    have hS0 : Below w4.heap.size w4 u0 := hst.below _
    have hzu0 := hst.size
    have hlt0 := BA0.lt
    have hlt1 := BA1.lt
    refine WT.q rfl (q_loadS (by rfl) (fun w' h => BA0.below h hlt0) (by rfl)) hS0 ?_
    refine WT.q rfl (q_loadS (by rfl) (fun w' h => BA1.below h hlt1) (by rfl)) hS0 ?_
    have P0 := A0.chg (Chg.of_still hst) (by omega)
    have P1 := A1.chg (Chg.of_still hst) (by omega)
    refine WT.two rfl rfl (o_call (toT P0 hn0) ?_) (o_alloc ?_)
    · skip
      intro vs0 u1 ⟨s0, hcu1⟩
      have hzu1 := hcu1.size
      have hS1 : Below w4.heap.size w4 u1 := hS0.trans (hcu1.below (by omega) (by omega))
      refine ⟨hS1, ?_⟩
      replace P0 := P0.chg hcu1 (by omega)
      replace P1 := P1.chg hcu1 (by omega)
      refine WT.two rfl rfl (o_call (toT P1 hn1) ?_) (o_alloc ?_)
      · skip
        intro vs1 u2 ⟨s1, hcu2⟩
        have hzu2 := hcu2.size
        have hS2 : Below w4.heap.size w4 u2 := hS1.trans (hcu2.below (by omega) (by omega))
        refine ⟨hS2, ?_⟩
        replace P0 := P0.chg hcu2 (by omega)
        replace P1 := P1.chg hcu2 (by omega)
        replace s0 := s0.chg hcu2 (by omega)
        refine WT.two rfl rfl (o_call (sComposeTableaus_any s0.rd s1.rd) ?_) (o_alloc ?_)
        · skip
          rintro _ u3 ⟨vW, rfl, T, hcu3⟩
          have hzu3 := hcu3.size
          have hS3 : Below w4.heap.size w4 u3 := hS2.trans (hcu3.below (by omega) (by omega))
          refine ⟨hS3, ?_⟩
          replace P0 := P0.chg hcu3 (by omega)
          replace P1 := P1.chg hcu3 (by omega)
          replace s0 := s0.chg hcu3 (by omega)
          replace s1 := s1.chg hcu3 (by omega)
          obtain ⟨b1, m1, c1, b2, m2, c2, hl⟩ := T.cells
          subst hl
          refine WT.q rfl (q_s (by rfl)) hS3 ?_
          refine WT.q rfl (q_s (by rfl)) hS3 ?_
          refine WT.q rfl (q_s (by rfl)) hS3 ?_
          refine WT.o rfl (o_alloc ?_)
          intro u4 hbb hblu4 hza
          have hcu4 := Chg.of_below hblu4
          have hzu4 := hcu4.size
          have hS4 : Below w4.heap.size w4 u4 := hS3.trans (hcu4.below (by omega) (by omega))
          refine ⟨hS4, ?_⟩
          replace P0 := P0.chg hcu4 (by omega)
          replace P1 := P1.chg hcu4 (by omega)
          replace s0 := s0.chg hcu4 (by omega)
          replace s1 := s1.chg hcu4 (by omega)
          replace T := T.chg hcu4 (by omega)
          refine WT.o rfl (o_storeS (vs := [.slice b1 m1 c1, .slice b2 m2 c2]) (by rfl) (by rfl) hbb (by rfl) (by rfl) two_cells ?_)
          intro u5 hb2 hbut
          have hzb := hbut.size
          have hS5 : Below w4.heap.size w4 u5 := hS4.trans (hbut.below (by omega))
          refine ⟨hS5, ?_⟩
          replace T := T.chg hbut.chg (by omega)
          refine WT.q rfl (q_s (by rfl)) hS5 ?_
          exact WT.nil (thenN ⟨_, b1, m1, c1, b2, m2, c2, ⟨rfl, rfl, rfl, rfl, rfl, trivial⟩, hb2, T.wide (by omega) (by omega) (by omega), by omega, hS5⟩)
        · skip
          intro u3 hbb hblu3 hza
          have hcu3 := Chg.of_below hblu3
          have hzu3 := hcu3.size
          have hS3 : Below w4.heap.size w4 u3 := hS2.trans (hcu3.below (by omega) (by omega))
          refine ⟨hS3, ?_⟩
          replace P0 := P0.chg hcu3 (by omega)
          replace P1 := P1.chg hcu3 (by omega)
          replace s0 := s0.chg hcu3 (by omega)
          replace s1 := s1.chg hcu3 (by omega)
          refine WT.o rfl (o_call (sComposeTableaus_any s0.rd s1.rd) ?_)
          rintro _ u4 ⟨vW, rfl, T, hcu4⟩
          have hzu4 := hcu4.size
          have hS4 : Below w4.heap.size w4 u4 := hS3.trans (hcu4.below (by omega) (by omega))
          refine ⟨hS4, ?_⟩
          replace P0 := P0.chg hcu4 (by omega)
          replace P1 := P1.chg hcu4 (by omega)
          replace s0 := s0.chg hcu4 (by omega)
          replace s1 := s1.chg hcu4 (by omega)
          replace hbb := hbb.chg0 hcu4
          obtain ⟨b1, m1, c1, b2, m2, c2, hl⟩ := T.cells
          subst hl
          refine WT.q rfl (q_s (by rfl)) hS4 ?_
          refine WT.q rfl (q_s (by rfl)) hS4 ?_
          refine WT.q rfl (q_s (by rfl)) hS4 ?_
          refine WT.o rfl (o_storeS (vs := [.slice b1 m1 c1, .slice b2 m2 c2]) (by rfl) (by rfl) hbb (by rfl) (by rfl) two_cells ?_)
          intro u5 hb2 hbut
          have hzb := hbut.size
          have hS5 : Below w4.heap.size w4 u5 := hS4.trans (hbut.below (by omega))
          refine ⟨hS5, ?_⟩
          replace T := T.chg hbut.chg (by omega)
          refine WT.q rfl (q_s (by rfl)) hS5 ?_
          exact WT.nil (thenN ⟨_, b1, m1, c1, b2, m2, c2, ⟨rfl, rfl, rfl, rfl, rfl, trivial⟩, hb2, T.wide (by omega) (by omega) (by omega), by omega, hS5⟩)
      · skip
        intro u2 hbb hblu2 hza
        have hcu2 := Chg.of_below hblu2
        have hzu2 := hcu2.size
        have hS2 : Below w4.heap.size w4 u2 := hS1.trans (hcu2.below (by omega) (by omega))
        refine ⟨hS2, ?_⟩
        replace P0 := P0.chg hcu2 (by omega)
        replace P1 := P1.chg hcu2 (by omega)
        replace s0 := s0.chg hcu2 (by omega)
        refine WT.o rfl (o_call (toT P1 hn1) ?_)
        intro vs1 u3 ⟨s1, hcu3⟩
        have hzu3 := hcu3.size
        have hS3 : Below w4.heap.size w4 u3 := hS2.trans (hcu3.below (by omega) (by omega))
        refine ⟨hS3, ?_⟩
        replace P0 := P0.chg hcu3 (by omega)
        replace P1 := P1.chg hcu3 (by omega)
        replace s0 := s0.chg hcu3 (by omega)
        replace hbb := hbb.chg0 hcu3
        refine WT.o rfl (o_call (sComposeTableaus_any s0.rd s1.rd) ?_)
        rintro _ u4 ⟨vW, rfl, T, hcu4⟩
        have hzu4 := hcu4.size
        have hS4 : Below w4.heap.size w4 u4 := hS3.trans (hcu4.below (by omega) (by omega))
        refine ⟨hS4, ?_⟩
        replace P0 := P0.chg hcu4 (by omega)
        replace P1 := P1.chg hcu4 (by omega)
        replace s0 := s0.chg hcu4 (by omega)
        replace hbb := hbb.chg0 hcu4
        replace s1 := s1.chg hcu4 (by omega)
        obtain ⟨b1, m1, c1, b2, m2, c2, hl⟩ := T.cells
        subst hl
        refine WT.q rfl (q_s (by rfl)) hS4 ?_
        refine WT.q rfl (q_s (by rfl)) hS4 ?_
        refine WT.q rfl (q_s (by rfl)) hS4 ?_
        refine WT.o rfl (o_storeS (vs := [.slice b1 m1 c1, .slice b2 m2 c2]) (by rfl) (by rfl) hbb (by rfl) (by rfl) two_cells ?_)
        intro u5 hb2 hbut
        have hzb := hbut.size
        have hS5 : Below w4.heap.size w4 u5 := hS4.trans (hbut.below (by omega))
        refine ⟨hS5, ?_⟩
        replace T := T.chg hbut.chg (by omega)
        refine WT.q rfl (q_s (by rfl)) hS5 ?_
        exact WT.nil (thenN ⟨_, b1, m1, c1, b2, m2, c2, ⟨rfl, rfl, rfl, rfl, rfl, trivial⟩, hb2, T.wide (by omega) (by omega) (by omega), by omega, hS5⟩)
    · skip
      intro u1 hbb hblu1 hza
      have hcu1 := Chg.of_below hblu1
      have hzu1 := hcu1.size
      have hS1 : Below w4.heap.size w4 u1 := hS0.trans (hcu1.below (by omega) (by omega))
      refine ⟨hS1, ?_⟩
      replace P0 := P0.chg hcu1 (by omega)
      replace P1 := P1.chg hcu1 (by omega)
      refine WT.o rfl (o_call (toT P0 hn0) ?_)
      intro vs0 u2 ⟨s0, hcu2⟩
      have hzu2 := hcu2.size
      have hS2 : Below w4.heap.size w4 u2 := hS1.trans (hcu2.below (by omega) (by omega))
      refine ⟨hS2, ?_⟩
      replace P0 := P0.chg hcu2 (by omega)
      replace P1 := P1.chg hcu2 (by omega)
      replace hbb := hbb.chg0 hcu2
      refine WT.o rfl (o_call (toT P1 hn1) ?_)
      intro vs1 u3 ⟨s1, hcu3⟩
      have hzu3 := hcu3.size
      have hS3 : Below w4.heap.size w4 u3 := hS2.trans (hcu3.below (by omega) (by omega))
      refine ⟨hS3, ?_⟩
      replace P0 := P0.chg hcu3 (by omega)
      replace P1 := P1.chg hcu3 (by omega)
      replace hbb := hbb.chg0 hcu3
      replace s0 := s0.chg hcu3 (by omega)
      refine WT.o rfl (o_call (sComposeTableaus_any s0.rd s1.rd) ?_)
      rintro _ u4 ⟨vW, rfl, T, hcu4⟩
      have hzu4 := hcu4.size
      have hS4 : Below w4.heap.size w4 u4 := hS3.trans (hcu4.below (by omega) (by omega))
      refine ⟨hS4, ?_⟩
      replace P0 := P0.chg hcu4 (by omega)
      replace P1 := P1.chg hcu4 (by omega)
      replace hbb := hbb.chg0 hcu4
      replace s0 := s0.chg hcu4 (by omega)
      replace s1 := s1.chg hcu4 (by omega)
      obtain ⟨b1, m1, c1, b2, m2, c2, hl⟩ := T.cells
      subst hl
      refine WT.q rfl (q_s (by rfl)) hS4 ?_
      refine WT.q rfl (q_s (by rfl)) hS4 ?_
      refine WT.q rfl (q_s (by rfl)) hS4 ?_
      refine WT.o rfl (o_storeS (vs := [.slice b1 m1 c1, .slice b2 m2 c2]) (by rfl) (by rfl) hbb (by rfl) (by rfl) two_cells ?_)
      intro u5 hb2 hbut
      have hzb := hbut.size
      have hS5 : Below w4.heap.size w4 u5 := hS4.trans (hbut.below (by omega))
      refine ⟨hS5, ?_⟩
      replace T := T.chg hbut.chg (by omega)
      refine WT.q rfl (q_s (by rfl)) hS5 ?_
      exact WT.nil (thenN ⟨_, b1, m1, c1, b2, m2, c2, ⟨rfl, rfl, rfl, rfl, rfl, trivial⟩, hb2, T.wide (by omega) (by omega) (by omega), by omega, hS5⟩)
  rintro l5 w5 ⟨bW, b1W, m1W, c1W, b2W, m2W, c2W, hag, BW, W, hbW, hbl5⟩
  refine WP.frame _ hag ?_
  clear hag
  have hltW := BW.lt
  have hc5 := Chg.of_below hbl5
  have hz5 := hc5.size
  have hB5 : Below w.heap.size w w5 := hB4.trans (hc5.below (by omega) (by omega))
  replace A0 := IT.chg A0 hc5 (by omega)
  replace A1 := IT.chg A1 hc5 (by omega)
  replace BA0 := BA0.chg hc5 (by omega)
  replace BA1 := BA1.chg hc5 (by omega)
  repeat' (first | refine WL.step (o_s (by rfl) ?_) | refine WL.step (o_len (by rfl) ?_) | refine WL.step (o_add (by rfl) (by rfl) (by unfold InI; omega) ?_) | refine WL.step (o_sub (by rfl) (by rfl) (by unfold InI; omega) ?_) | refine WL.step (OpW.pass (by rfl) ?_) | refine WL.nil ?_ | refine thenN ?_ | refine WP.region ?_ | refine WP.seq ?_ | refine WP.block ?_ | refine thenR ?_ | refine thenX ?_ | refine blkN ?_ | refine blkHit ?_ | refine blkR ?_ | refine blkMiss (by rfl) ?_ | refine WP.ret ?_ | refine WP.exit ?_ | refine WP.skip ?_ | refine WP.label ?_ | refine WP.condT (by rfl) ?_ | refine WP.condF (by rfl) ?_ | fail)
  refine WL.step (o_loadS (by rfl) BA0 (by rfl) ?_)
  repeat' (first | refine WL.step (o_s (by rfl) ?_) | refine WL.step (o_len (by rfl) ?_) | refine WL.step (o_add (by rfl) (by rfl) (by unfold InI; omega) ?_) | refine WL.step (o_sub (by rfl) (by rfl) (by unfold InI; omega) ?_) | refine WL.step (OpW.pass (by rfl) ?_) | refine WL.nil ?_ | refine thenN ?_ | refine WP.region ?_ | refine WP.seq ?_ | refine WP.block ?_ | refine thenR ?_ | refine thenX ?_ | refine blkN ?_ | refine blkHit ?_ | refine blkR ?_ | refine blkMiss (by rfl) ?_ | refine WP.ret ?_ | refine WP.exit ?_ | refine WP.skip ?_ | refine WP.label ?_ | refine WP.condT (by rfl) ?_ | refine WP.condF (by rfl) ?_ | fail)
  refine WL.call (toT A0 hn0) ?_
  intro vX0 w6 ⟨X0, hc6⟩
  have hz6 := hc6.size
  have hB6 : Below w.heap.size w w6 := hB5.trans (hc6.below (by omega) (by omega))
  replace A0 := IT.chg A0 hc6 (by omega)
  replace A1 := IT.chg A1 hc6 (by omega)
  replace BA0 := BA0.chg hc6 (by omega)
  replace BA1 := BA1.chg hc6 (by omega)
  replace W := W.chg hc6 (by omega)
  replace BW := BW.chg hc6 (by omega)
  repeat' (first | refine WL.step (o_s (by rfl) ?_) | refine WL.step (o_len (by rfl) ?_) | refine WL.step (o_add (by rfl) (by rfl) (by unfold InI; omega) ?_) | refine WL.step (o_sub (by rfl) (by rfl) (by unfold InI; omega) ?_) | refine WL.step (OpW.pass (by rfl) ?_) | refine WL.nil ?_ | refine thenN ?_ | refine WP.region ?_ | refine WP.seq ?_ | refine WP.block ?_ | refine thenR ?_ | refine thenX ?_ | refine blkN ?_ | refine blkHit ?_ | refine blkR ?_ | refine blkMiss (by rfl) ?_ | refine WP.ret ?_ | refine WP.exit ?_ | refine WP.skip ?_ | refine WP.label ?_ | refine WP.condT (by rfl) ?_ | refine WP.condF (by rfl) ?_ | fail)
  obtain ⟨b1X0, m1X0, c1X0, b2X0, m2X0, c2X0, hlitX0⟩ := X0.cells
  subst hlitX0
  refine WL.var (vs := [.slice b1X0 m1X0 c1X0, .slice b2X0 m2X0 c2X0]) (fun p => by rfl) rfl two_cells ?_
  intro w7 BX0 hbl7 hzz7
  have hc7 := Chg.of_below hbl7
  have hz7 := hc7.size
  have hB7 : Below w.heap.size w w7 := hB6.trans (hc7.below (by omega) (by omega))
  replace A0 := IT.chg A0 hc7 (by omega)
  replace A1 := IT.chg A1 hc7 (by omega)
  replace BA0 := BA0.chg hc7 (by omega)
  replace BA1 := BA1.chg hc7 (by omega)
  replace W := W.chg hc7 (by omega)
  replace BW := BW.chg hc7 (by omega)
  replace X0 := X0.chg hc7 (by omega)
  repeat' (first | refine WL.step (o_s (by rfl) ?_) | refine WL.step (o_len (by rfl) ?_) | refine WL.step (o_add (by rfl) (by rfl) (by unfold InI; omega) ?_) | refine WL.step (o_sub (by rfl) (by rfl) (by unfold InI; omega) ?_) | refine WL.step (OpW.pass (by rfl) ?_) | refine WL.nil ?_ | refine thenN ?_ | refine WP.region ?_ | refine WP.seq ?_ | refine WP.block ?_ | refine thenR ?_ | refine thenX ?_ | refine blkN ?_ | refine blkHit ?_ | refine blkR ?_ | refine blkMiss (by rfl) ?_ | refine WP.ret ?_ | refine WP.exit ?_ | refine WP.skip ?_ | refine WP.label ?_ | refine WP.condT (by rfl) ?_ | refine WP.condF (by rfl) ?_ | fail)
  refine WL.step (o_loadS (by rfl) BA1 (by rfl) ?_)
  repeat' (first | refine WL.step (o_s (by rfl) ?_) | refine WL.step (o_len (by rfl) ?_) | refine WL.step (o_add (by rfl) (by rfl) (by unfold InI; omega) ?_) | refine WL.step (o_sub (by rfl) (by rfl) (by unfold InI; omega) ?_) | refine WL.step (OpW.pass (by rfl) ?_) | refine WL.nil ?_ | refine thenN ?_ | refine WP.region ?_ | refine WP.seq ?_ | refine WP.block ?_ | refine thenR ?_ | refine thenX ?_ | refine blkN ?_ | refine blkHit ?_ | refine blkR ?_ | refine blkMiss (by rfl) ?_ | refine WP.ret ?_ | refine WP.exit ?_ | refine WP.skip ?_ | refine WP.label ?_ | refine WP.condT (by rfl) ?_ | refine WP.condF (by rfl) ?_ | fail)
  refine WL.call (toT A1 hn1) ?_
  intro vX1 w8 ⟨X1, hc8⟩
  have hz8 := hc8.size
  have hB8 : Below w.heap.size w w8 := hB7.trans (hc8.below (by omega) (by omega))
  replace A0 := IT.chg A0 hc8 (by omega)
  replace A1 := IT.chg A1 hc8 (by omega)
  replace BA0 := BA0.chg hc8 (by omega)
  replace BA1 := BA1.chg hc8 (by omega)
  replace W := W.chg hc8 (by omega)
  replace BW := BW.chg hc8 (by omega)
  replace X0 := X0.chg hc8 (by omega)
  replace BX0 := BX0.chg hc8 (by omega)
  repeat' (first | refine WL.step (o_s (by rfl) ?_) | refine WL.step (o_len (by rfl) ?_) | refine WL.step (o_add (by rfl) (by rfl) (by unfold InI; omega) ?_) | refine WL.step (o_sub (by rfl) (by rfl) (by unfold InI; omega) ?_) | refine WL.step (OpW.pass (by rfl) ?_) | refine WL.nil ?_ | refine thenN ?_ | refine WP.region ?_ | refine WP.seq ?_ | refine WP.block ?_ | refine thenR ?_ | refine thenX ?_ | refine blkN ?_ | refine blkHit ?_ | refine blkR ?_ | refine blkMiss (by rfl) ?_ | refine WP.ret ?_ | refine WP.exit ?_ | refine WP.skip ?_ | refine WP.label ?_ | refine WP.condT (by rfl) ?_ | refine WP.condF (by rfl) ?_ | fail)
  obtain ⟨b1X1, m1X1, c1X1, b2X1, m2X1, c2X1, hlitX1⟩ := X1.cells
  subst hlitX1
  refine WL.var (vs := [.slice b1X1 m1X1 c1X1, .slice b2X1 m2X1 c2X1]) (fun p => by rfl) rfl two_cells ?_
  intro w9 BX1 hbl9 hzz9
  have hc9 := Chg.of_below hbl9
  have hz9 := hc9.size
  have hB9 : Below w.heap.size w w9 := hB8.trans (hc9.below (by omega) (by omega))
  replace A0 := IT.chg A0 hc9 (by omega)
  replace A1 := IT.chg A1 hc9 (by omega)
  replace BA0 := BA0.chg hc9 (by omega)
  replace BA1 := BA1.chg hc9 (by omega)
  replace W := W.chg hc9 (by omega)
  replace BW := BW.chg hc9 (by omega)
  replace X0 := X0.chg hc9 (by omega)
  replace BX0 := BX0.chg hc9 (by omega)
  replace X1 := X1.chg hc9 (by omega)
  repeat' (first | refine WL.step (o_s (by rfl) ?_) | refine WL.step (o_len (by rfl) ?_) | refine WL.step (o_add (by rfl) (by rfl) (by unfold InI; omega) ?_) | refine WL.step (o_sub (by rfl) (by rfl) (by unfold InI; omega) ?_) | refine WL.step (OpW.pass (by rfl) ?_) | refine WL.nil ?_ | refine thenN ?_ | refine WP.region ?_ | refine WP.seq ?_ | refine WP.block ?_ | refine thenR ?_ | refine thenX ?_ | refine blkN ?_ | refine blkHit ?_ | refine blkR ?_ | refine blkMiss (by rfl) ?_ | refine WP.ret ?_ | refine WP.exit ?_ | refine WP.skip ?_ | refine WP.label ?_ | refine WP.condT (by rfl) ?_ | refine WP.condF (by rfl) ?_ | fail)
  refine WL.step (o_loadS (by rfl) BX0 (by rfl) ?_)
  repeat' (first | refine WL.step (o_s (by rfl) ?_) | refine WL.step (o_len (by rfl) ?_) | refine WL.step (o_add (by rfl) (by rfl) (by unfold InI; omega) ?_) | refine WL.step (o_sub (by rfl) (by rfl) (by unfold InI; omega) ?_) | refine WL.step (OpW.pass (by rfl) ?_) | refine WL.nil ?_ | refine thenN ?_ | refine WP.region ?_ | refine WP.seq ?_ | refine WP.block ?_ | refine thenR ?_ | refine thenX ?_ | refine blkN ?_ | refine blkHit ?_ | refine blkR ?_ | refine blkMiss (by rfl) ?_ | refine WP.ret ?_ | refine WP.exit ?_ | refine WP.skip ?_ | refine WP.label ?_ | refine WP.condT (by rfl) ?_ | refine WP.condF (by rfl) ?_ | fail)
  refine WL.step (o_loadS (by rfl) BX1 (by rfl) ?_)
  repeat' (first | refine WL.step (o_s (by rfl) ?_) | refine WL.step (o_len (by rfl) ?_) | refine WL.step (o_add (by rfl) (by rfl) (by unfold InI; omega) ?_) | refine WL.step (o_sub (by rfl) (by rfl) (by unfold InI; omega) ?_) | refine WL.step (OpW.pass (by rfl) ?_) | refine WL.nil ?_ | refine thenN ?_ | refine WP.region ?_ | refine WP.seq ?_ | refine WP.block ?_ | refine thenR ?_ | refine thenX ?_ | refine blkN ?_ | refine blkHit ?_ | refine blkR ?_ | refine blkMiss (by rfl) ?_ | refine WP.ret ?_ | refine WP.exit ?_ | refine WP.skip ?_ | refine WP.label ?_ | refine WP.condT (by rfl) ?_ | refine WP.condF (by rfl) ?_ | fail)
  refine WL.call (ComposeTableaus_any X0.rd X1.rd) ?_
  rintro _ w10 ⟨vG, rfl, G, hc10⟩
  have hz10 := hc10.size
  have hB10 : Below w.heap.size w w10 := hB9.trans (hc10.below (by omega) (by omega))
  replace A0 := IT.chg A0 hc10 (by omega)
  replace A1 := IT.chg A1 hc10 (by omega)
  replace BA0 := BA0.chg hc10 (by omega)
  replace BA1 := BA1.chg hc10 (by omega)
  replace W := W.chg hc10 (by omega)
  replace BW := BW.chg hc10 (by omega)
  replace X0 := X0.chg hc10 (by omega)
  replace BX0 := BX0.chg hc10 (by omega)
  replace X1 := X1.chg hc10 (by omega)
  replace BX1 := BX1.chg hc10 (by omega)
  obtain ⟨b1G, m1G, c1G, b2G, m2G, c2G, hlitG⟩ := G.cells
  subst hlitG
  repeat' (first | refine WL.step (o_s (by rfl) ?_) | refine WL.step (o_len (by rfl) ?_) | refine WL.step (o_add (by rfl) (by rfl) (by unfold InI; omega) ?_) | refine WL.step (o_sub (by rfl) (by rfl) (by unfold InI; omega) ?_) | refine WL.step (OpW.pass (by rfl) ?_) | refine WL.nil ?_ | refine thenN ?_ | refine WP.region ?_ | refine WP.seq ?_ | refine WP.block ?_ | refine thenR ?_ | refine thenX ?_ | refine blkN ?_ | refine blkHit ?_ | refine blkR ?_ | refine blkMiss (by rfl) ?_ | refine WP.ret ?_ | refine WP.exit ?_ | refine WP.skip ?_ | refine WP.label ?_ | refine WP.condT (by rfl) ?_ | refine WP.condF (by rfl) ?_ | fail)
  refine WL.var (vs := [.slice b1G m1G c1G, .slice b2G m2G c2G]) (fun p => by rfl) rfl two_cells ?_
  intro w11 BG hbl11 hzz11
  have hc11 := Chg.of_below hbl11
  have hz11 := hc11.size
  have hB11 : Below w.heap.size w w11 := hB10.trans (hc11.below (by omega) (by omega))
  replace A0 := IT.chg A0 hc11 (by omega)
  replace A1 := IT.chg A1 hc11 (by omega)
  replace BA0 := BA0.chg hc11 (by omega)
  replace BA1 := BA1.chg hc11 (by omega)
  replace W := W.chg hc11 (by omega)
  replace BW := BW.chg hc11 (by omega)
  replace X0 := X0.chg hc11 (by omega)
  replace BX0 := BX0.chg hc11 (by omega)
  replace X1 := X1.chg hc11 (by omega)
  replace BX1 := BX1.chg hc11 (by omega)
  replace G := G.chg hc11 (by omega)
  repeat' (first | refine WL.step (o_s (by rfl) ?_) | refine WL.step (o_len (by rfl) ?_) | refine WL.step (o_add (by rfl) (by rfl) (by unfold InI; omega) ?_) | refine WL.step (o_sub (by rfl) (by rfl) (by unfold InI; omega) ?_) | refine WL.step (OpW.pass (by rfl) ?_) | refine WL.nil ?_ | refine thenN ?_ | refine WP.region ?_ | refine WP.seq ?_ | refine WP.block ?_ | refine thenR ?_ | refine thenX ?_ | refine blkN ?_ | refine blkHit ?_ | refine blkR ?_ | refine blkMiss (by rfl) ?_ | refine WP.ret ?_ | refine WP.exit ?_ | refine WP.skip ?_ | refine WP.label ?_ | refine WP.condT (by rfl) ?_ | refine WP.condF (by rfl) ?_ | fail)
  refine WL.step (o_loadS (by rfl) BG (by rfl) ?_)
  repeat' (first | refine WL.step (o_s (by rfl) ?_) | refine WL.step (o_len (by rfl) ?_) | refine WL.step (o_add (by rfl) (by rfl) (by unfold InI; omega) ?_) | refine WL.step (o_sub (by rfl) (by rfl) (by unfold InI; omega) ?_) | refine WL.step (OpW.pass (by rfl) ?_) | refine WL.nil ?_ | refine thenN ?_ | refine WP.region ?_ | refine WP.seq ?_ | refine WP.block ?_ | refine thenR ?_ | refine thenX ?_ | refine blkN ?_ | refine blkHit ?_ | refine blkR ?_ | refine blkMiss (by rfl) ?_ | refine WP.ret ?_ | refine WP.exit ?_ | refine WP.skip ?_ | refine WP.label ?_ | refine WP.condT (by rfl) ?_ | refine WP.condF (by rfl) ?_ | fail)
  refine WL.step (o_loadS (by rfl) BW (by rfl) ?_)
  repeat' (first | refine WL.step (o_s (by rfl) ?_) | refine WL.step (o_len (by rfl) ?_) | refine WL.step (o_add (by rfl) (by rfl) (by unfold InI; omega) ?_) | refine WL.step (o_sub (by rfl) (by rfl) (by unfold InI; omega) ?_) | refine WL.step (OpW.pass (by rfl) ?_) | refine WL.nil ?_ | refine thenN ?_ | refine WP.region ?_ | refine WP.seq ?_ | refine WP.block ?_ | refine thenR ?_ | refine thenX ?_ | refine blkN ?_ | refine blkHit ?_ | refine blkR ?_ | refine blkMiss (by rfl) ?_ | refine WP.ret ?_ | refine WP.exit ?_ | refine WP.skip ?_ | refine WP.label ?_ | refine WP.condT (by rfl) ?_ | refine WP.condF (by rfl) ?_ | fail)
  refine WL.call (eqT_same G.rd W.rd) ?_
  rintro _ w12 ⟨rfl, hc12⟩
  have hz12 := hc12.size
  have hB12 : Below w.heap.size w w12 := hB11.trans (hc12.below (by omega) (by omega))
  replace A0 := IT.chg A0 hc12 (by omega)
  replace A1 := IT.chg A1 hc12 (by omega)
  replace BA0 := BA0.chg hc12 (by omega)
  replace BA1 := BA1.chg hc12 (by omega)
  replace W := W.chg hc12 (by omega)
  replace BW := BW.chg hc12 (by omega)
  replace X0 := X0.chg hc12 (by omega)
  replace BX0 := BX0.chg hc12 (by omega)
  replace X1 := X1.chg hc12 (by omega)
  replace BX1 := BX1.chg hc12 (by omega)
  replace G := G.chg hc12 (by omega)
  replace BG := BG.chg hc12 (by omega)
  repeat' (first | refine WL.step (o_s (by rfl) ?_) | refine WL.step (o_len (by rfl) ?_) | refine WL.step (o_add (by rfl) (by rfl) (by unfold InI; omega) ?_) | refine WL.step (o_sub (by rfl) (by rfl) (by unfold InI; omega) ?_) | refine WL.step (OpW.pass (by rfl) ?_) | refine WL.nil ?_ | refine thenN ?_ | refine WP.region ?_ | refine WP.seq ?_ | refine WP.block ?_ | refine thenR ?_ | refine thenX ?_ | refine blkN ?_ | refine blkHit ?_ | refine blkR ?_ | refine blkMiss (by rfl) ?_ | refine WP.ret ?_ | refine WP.exit ?_ | refine WP.skip ?_ | refine WP.label ?_ | refine WP.condT (by rfl) ?_ | refine WP.condF (by rfl) ?_ | fail)
  try (refine WP.condD (by rfl) (fun hbad => False.elim (by first | exact hbad rfl | omega)) (fun _ => ?_))
  repeat' (first | refine WL.step (o_s (by rfl) ?_) | refine WL.step (o_len (by rfl) ?_) | refine WL.step (o_add (by rfl) (by rfl) (by unfold InI; omega) ?_) | refine WL.step (o_sub (by rfl) (by rfl) (by unfold InI; omega) ?_) | refine WL.step (OpW.pass (by rfl) ?_) | refine WL.nil ?_ | refine thenN ?_ | refine WP.region ?_ | refine WP.seq ?_ | refine WP.block ?_ | refine thenR ?_ | refine thenX ?_ | refine blkN ?_ | refine blkHit ?_ | refine blkR ?_ | refine blkMiss (by rfl) ?_ | refine WP.ret ?_ | refine WP.exit ?_ | refine WP.skip ?_ | refine WP.label ?_ | refine WP.condT (by rfl) ?_ | refine WP.condF (by rfl) ?_ | fail)
  refine WP.drawn (fun w' => Below w12.heap.size w12 w') [(0, true), (1, true), (2, false), (3, false), (4, true)] (by kernel_rfl) mixed ?_
  intro w13 hst13
  have hc13 := Chg.of_still hst13
  have hS13 : Below w12.heap.size w12 w13 := hst13.below _
  have BX := BX0
  have BA := BA0
  have hz13 := hc13.size
  have hB13 : Below w.heap.size w w13 := hB12.trans (hc13.below (by omega) (by omega))
  replace A0 := IT.chg A0 hc13 (by omega)
  replace A1 := IT.chg A1 hc13 (by omega)
  replace BA0 := BA0.chg hc13 (by omega)
  replace BA1 := BA1.chg hc13 (by omega)
  replace W := W.chg hc13 (by omega)
  replace BW := BW.chg hc13 (by omega)
  replace X0 := X0.chg hc13 (by omega)
  replace BX0 := BX0.chg hc13 (by omega)
  replace X1 := X1.chg hc13 (by omega)
  replace BX1 := BX1.chg hc13 (by omega)
  replace G := G.chg hc13 (by omega)
  replace BG := BG.chg hc13 (by omega)
  refine WS.q rfl (q_loadS (by rfl) (fun w' h => BX.below h BX.lt) (by rfl)) hS13 ?_
  refine WS.q rfl (q_loadS (by rfl) (fun w' h => BA.below h BA.lt) (by rfl)) hS13 ?_
  refine WS.call rfl (toT A0 hn0) ?_
  intro vt0 w14 ⟨t0, hc14⟩
  have hz14 := hc14.size
  have hB14 : Below w.heap.size w w14 := hB13.trans (hc14.below (by omega) (by omega))
  replace A0 := IT.chg A0 hc14 (by omega)
  replace A1 := IT.chg A1 hc14 (by omega)
  replace BA0 := BA0.chg hc14 (by omega)
  replace BA1 := BA1.chg hc14 (by omega)
  replace W := W.chg hc14 (by omega)
  replace BW := BW.chg hc14 (by omega)
  replace X0 := X0.chg hc14 (by omega)
  replace BX0 := BX0.chg hc14 (by omega)
  replace X1 := X1.chg hc14 (by omega)
  replace BX1 := BX1.chg hc14 (by omega)
  replace G := G.chg hc14 (by omega)
  replace BG := BG.chg hc14 (by omega)
  have hS14 : Below w12.heap.size w12 w14 := hS13.trans (hc14.below (by omega) (by omega))
  refine ⟨hS14, ?_⟩
  refine WS.call rfl (eqT_same X0.rd t0.rd) ?_
  rintro _ w15 ⟨rfl, hc15⟩
  have hz15 := hc15.size
  have hB15 : Below w.heap.size w w15 := hB14.trans (hc15.below (by omega) (by omega))
  replace A0 := IT.chg A0 hc15 (by omega)
  replace A1 := IT.chg A1 hc15 (by omega)
  replace BA0 := BA0.chg hc15 (by omega)
  replace BA1 := BA1.chg hc15 (by omega)
  replace W := W.chg hc15 (by omega)
  replace BW := BW.chg hc15 (by omega)
  replace X0 := X0.chg hc15 (by omega)
  replace BX0 := BX0.chg hc15 (by omega)
  replace X1 := X1.chg hc15 (by omega)
  replace BX1 := BX1.chg hc15 (by omega)
  replace G := G.chg hc15 (by omega)
  replace BG := BG.chg hc15 (by omega)
  replace t0 := t0.chg hc15 (by omega)
  have hS15 : Below w12.heap.size w12 w15 := hS14.trans (hc15.below (by omega) (by omega))
  refine ⟨hS15, ?_⟩
  repeat' (first | refine WS.q rfl (q_s (by rfl)) (by first | rfl | assumption) ?_ | refine WS.q rfl (q_len (by rfl)) (by first | rfl | assumption) ?_ | refine WS.q rfl (q_add (by rfl) (by rfl) (by unfold InI; omega)) (by first | rfl | assumption) ?_ | refine WS.q rfl (q_sub (by rfl) (by rfl) (by unfold InI; omega)) (by first | rfl | assumption) ?_ | refine WS.q rfl (q_pass (by rfl)) (by first | rfl | assumption) ?_ | refine WS.nil ?_ | fail)
  clear BX BA
  repeat' (first | refine WL.step (o_s (by rfl) ?_) | refine WL.step (o_len (by rfl) ?_) | refine WL.step (o_add (by rfl) (by rfl) (by unfold InI; omega) ?_) | refine WL.step (o_sub (by rfl) (by rfl) (by unfold InI; omega) ?_) | refine WL.step (OpW.pass (by rfl) ?_) | refine WL.nil ?_ | refine thenN ?_ | refine WP.region ?_ | refine WP.seq ?_ | refine WP.block ?_ | refine thenR ?_ | refine thenX ?_ | refine blkN ?_ | refine blkHit ?_ | refine blkR ?_ | refine blkMiss (by rfl) ?_ | refine WP.ret ?_ | refine WP.exit ?_ | refine WP.skip ?_ | refine WP.label ?_ | refine WP.condT (by rfl) ?_ | refine WP.condF (by rfl) ?_ | fail)
  refine WP.drawn (fun w' => Below w15.heap.size w15 w') [(0, true), (1, true), (2, false), (3, false), (4, true)] (by kernel_rfl) mixed ?_
  intro w16 hst16
  have hc16 := Chg.of_still hst16
  have hS16 : Below w15.heap.size w15 w16 := hst16.below _
  have BX := BX1
  have BA := BA1
  have hz16 := hc16.size
  have hB16 : Below w.heap.size w w16 := hB15.trans (hc16.below (by omega) (by omega))
  replace A0 := IT.chg A0 hc16 (by omega)
  replace A1 := IT.chg A1 hc16 (by omega)
  replace BA0 := BA0.chg hc16 (by omega)
  replace BA1 := BA1.chg hc16 (by omega)
  replace W := W.chg hc16 (by omega)
  replace BW := BW.chg hc16 (by omega)
  replace X0 := X0.chg hc16 (by omega)
  replace BX0 := BX0.chg hc16 (by omega)
  replace X1 := X1.chg hc16 (by omega)
  replace BX1 := BX1.chg hc16 (by omega)
  replace G := G.chg hc16 (by omega)
  replace BG := BG.chg hc16 (by omega)
  refine WS.q rfl (q_loadS (by rfl) (fun w' h => BX.below h BX.lt) (by rfl)) hS16 ?_
  refine WS.q rfl (q_loadS (by rfl) (fun w' h => BA.below h BA.lt) (by rfl)) hS16 ?_
  refine WS.call rfl (toT A1 hn1) ?_
  intro vt1 w17 ⟨t1, hc17⟩
  have hz17 := hc17.size
  have hB17 : Below w.heap.size w w17 := hB16.trans (hc17.below (by omega) (by omega))
  replace A0 := IT.chg A0 hc17 (by omega)
  replace A1 := IT.chg A1 hc17 (by omega)
  replace BA0 := BA0.chg hc17 (by omega)
  replace BA1 := BA1.chg hc17 (by omega)
  replace W := W.chg hc17 (by omega)
  replace BW := BW.chg hc17 (by omega)
  replace X0 := X0.chg hc17 (by omega)
  replace BX0 := BX0.chg hc17 (by omega)
  replace X1 := X1.chg hc17 (by omega)
  replace BX1 := BX1.chg hc17 (by omega)
  replace G := G.chg hc17 (by omega)
  replace BG := BG.chg hc17 (by omega)
  have hS17 : Below w15.heap.size w15 w17 := hS16.trans (hc17.below (by omega) (by omega))
  refine ⟨hS17, ?_⟩
  refine WS.call rfl (eqT_same X1.rd t1.rd) ?_
  rintro _ w18 ⟨rfl, hc18⟩
  have hz18 := hc18.size
  have hB18 : Below w.heap.size w w18 := hB17.trans (hc18.below (by omega) (by omega))
  replace A0 := IT.chg A0 hc18 (by omega)
  replace A1 := IT.chg A1 hc18 (by omega)
  replace BA0 := BA0.chg hc18 (by omega)
  replace BA1 := BA1.chg hc18 (by omega)
  replace W := W.chg hc18 (by omega)
  replace BW := BW.chg hc18 (by omega)
  replace X0 := X0.chg hc18 (by omega)
  replace BX0 := BX0.chg hc18 (by omega)
  replace X1 := X1.chg hc18 (by omega)
  replace BX1 := BX1.chg hc18 (by omega)
  replace G := G.chg hc18 (by omega)
  replace BG := BG.chg hc18 (by omega)
  replace t1 := t1.chg hc18 (by omega)
  have hS18 : Below w15.heap.size w15 w18 := hS17.trans (hc18.below (by omega) (by omega))
  refine ⟨hS18, ?_⟩
  repeat' (first | refine WS.q rfl (q_s (by rfl)) (by first | rfl | assumption) ?_ | refine WS.q rfl (q_len (by rfl)) (by first | rfl | assumption) ?_ | refine WS.q rfl (q_add (by rfl) (by rfl) (by unfold InI; omega)) (by first | rfl | assumption) ?_ | refine WS.q rfl (q_sub (by rfl) (by rfl) (by unfold InI; omega)) (by first | rfl | assumption) ?_ | refine WS.q rfl (q_pass (by rfl)) (by first | rfl | assumption) ?_ | refine WS.nil ?_ | fail)
  clear BX BA
  repeat' (first | refine WL.step (o_s (by rfl) ?_) | refine WL.step (o_len (by rfl) ?_) | refine WL.step (o_add (by rfl) (by rfl) (by unfold InI; omega) ?_) | refine WL.step (o_sub (by rfl) (by rfl) (by unfold InI; omega) ?_) | refine WL.step (OpW.pass (by rfl) ?_) | refine WL.nil ?_ | refine thenN ?_ | refine WP.region ?_ | refine WP.seq ?_ | refine WP.block ?_ | refine thenR ?_ | refine thenX ?_ | refine blkN ?_ | refine blkHit ?_ | refine blkR ?_ | refine blkMiss (by rfl) ?_ | refine WP.ret ?_ | refine WP.exit ?_ | refine WP.skip ?_ | refine WP.label ?_ | refine WP.condT (by rfl) ?_ | refine WP.condF (by rfl) ?_ | fail)
  refine WL.step (o_loadS (by rfl) BX0 (by rfl) ?_)
  repeat' (first | refine WL.step (o_s (by rfl) ?_) | refine WL.step (o_len (by rfl) ?_) | refine WL.step (o_add (by rfl) (by rfl) (by unfold InI; omega) ?_) | refine WL.step (o_sub (by rfl) (by rfl) (by unfold InI; omega) ?_) | refine WL.step (OpW.pass (by rfl) ?_) | refine WL.nil ?_ | refine thenN ?_ | refine WP.region ?_ | refine WP.seq ?_ | refine WP.block ?_ | refine thenR ?_ | refine thenX ?_ | refine blkN ?_ | refine blkHit ?_ | refine blkR ?_ | refine blkMiss (by rfl) ?_ | refine WP.ret ?_ | refine WP.exit ?_ | refine WP.skip ?_ | refine WP.label ?_ | refine WP.condT (by rfl) ?_ | refine WP.condF (by rfl) ?_ | fail)
  refine WL.call (markT_any (k := 1) X0 (by omega) (by omega)) ?_
  rintro _ w19 ⟨rfl, X0', hc19⟩
  have hz19 := hc19.size
  have hB19 : Below w.heap.size w w19 := hB18.trans (hc19.below (by omega) (by omega))
  replace A0 := IT.chg A0 hc19 (by omega)
  replace A1 := IT.chg A1 hc19 (by omega)
  replace BA0 := BA0.chg hc19 (by omega)
  replace BA1 := BA1.chg hc19 (by omega)
  replace W := W.chg hc19 (by omega)
  replace BW := BW.chg hc19 (by omega)
  replace BX0 := BX0.chg hc19 (by omega)
  replace X1 := X1.chg hc19 (by omega)
  replace BX1 := BX1.chg hc19 (by omega)
  replace G := G.chg hc19 (by omega)
  replace BG := BG.chg hc19 (by omega)
  clear X0
  repeat' (first | refine WL.step (o_s (by rfl) ?_) | refine WL.step (o_len (by rfl) ?_) | refine WL.step (o_add (by rfl) (by rfl) (by unfold InI; omega) ?_) | refine WL.step (o_sub (by rfl) (by rfl) (by unfold InI; omega) ?_) | refine WL.step (OpW.pass (by rfl) ?_) | refine WL.nil ?_ | refine thenN ?_ | refine WP.region ?_ | refine WP.seq ?_ | refine WP.block ?_ | refine thenR ?_ | refine thenX ?_ | refine blkN ?_ | refine blkHit ?_ | refine blkR ?_ | refine blkMiss (by rfl) ?_ | refine WP.ret ?_ | refine WP.exit ?_ | refine WP.skip ?_ | refine WP.label ?_ | refine WP.condT (by rfl) ?_ | refine WP.condF (by rfl) ?_ | fail)
  refine WL.step (o_loadS (by rfl) BX1 (by rfl) ?_)
  repeat' (first | refine WL.step (o_s (by rfl) ?_) | refine WL.step (o_len (by rfl) ?_) | refine WL.step (o_add (by rfl) (by rfl) (by unfold InI; omega) ?_) | refine WL.step (o_sub (by rfl) (by rfl) (by unfold InI; omega) ?_) | refine WL.step (OpW.pass (by rfl) ?_) | refine WL.nil ?_ | refine thenN ?_ | refine WP.region ?_ | refine WP.seq ?_ | refine WP.block ?_ | refine thenR ?_ | refine thenX ?_ | refine blkN ?_ | refine blkHit ?_ | refine blkR ?_ | refine blkMiss (by rfl) ?_ | refine WP.ret ?_ | refine WP.exit ?_ | refine WP.skip ?_ | refine WP.label ?_ | refine WP.condT (by rfl) ?_ | refine WP.condF (by rfl) ?_ | fail)
  refine WL.call (markT_any (k := 1 + (tabCnt a0 : Int)) X1 (by omega) (by omega)) ?_
  rintro _ w20 ⟨rfl, X1', hc20⟩
  have hz20 := hc20.size
  have hB20 : Below w.heap.size w w20 := hB19.trans (hc20.below (by omega) (by omega))
  replace A0 := IT.chg A0 hc20 (by omega)
  replace A1 := IT.chg A1 hc20 (by omega)
  replace BA0 := BA0.chg hc20 (by omega)
  replace BA1 := BA1.chg hc20 (by omega)
  replace W := W.chg hc20 (by omega)
  replace BW := BW.chg hc20 (by omega)
  replace BX1 := BX1.chg hc20 (by omega)
  replace G := G.chg hc20 (by omega)
  replace BG := BG.chg hc20 (by omega)
  clear X1
  repeat' (first | refine WL.step (o_s (by rfl) ?_) | refine WL.step (o_len (by rfl) ?_) | refine WL.step (o_add (by rfl) (by rfl) (by unfold InI; omega) ?_) | refine WL.step (o_sub (by rfl) (by rfl) (by unfold InI; omega) ?_) | refine WL.step (OpW.pass (by rfl) ?_) | refine WL.nil ?_ | refine thenN ?_ | refine WP.region ?_ | refine WP.seq ?_ | refine WP.block ?_ | refine thenR ?_ | refine thenX ?_ | refine blkN ?_ | refine blkHit ?_ | refine blkR ?_ | refine blkMiss (by rfl) ?_ | refine WP.ret ?_ | refine WP.exit ?_ | refine WP.skip ?_ | refine WP.label ?_ | refine WP.condT (by rfl) ?_ | refine WP.condF (by rfl) ?_ | fail)
  try (refine WL.gsplitD (by rfl) (by rfl) (by rfl) (fun hbad => False.elim (by first | exact hbad rfl | omega)) (fun _ => ?_))
  repeat' (first | refine WL.step (o_s (by rfl) ?_) | refine WL.step (o_len (by rfl) ?_) | refine WL.step (o_add (by rfl) (by rfl) (by unfold InI; omega) ?_) | refine WL.step (o_sub (by rfl) (by rfl) (by unfold InI; omega) ?_) | refine WL.step (OpW.pass (by rfl) ?_) | refine WL.nil ?_ | refine thenN ?_ | refine WP.region ?_ | refine WP.seq ?_ | refine WP.block ?_ | refine thenR ?_ | refine thenX ?_ | refine blkN ?_ | refine blkHit ?_ | refine blkR ?_ | refine blkMiss (by rfl) ?_ | refine WP.ret ?_ | refine WP.exit ?_ | refine WP.skip ?_ | refine WP.label ?_ | refine WP.condT (by rfl) ?_ | refine WP.condF (by rfl) ?_ | fail)
  refine WL.step (o_loadS (by rfl) BG (by rfl) ?_)
  repeat' (first | refine WL.step (o_s (by rfl) ?_) | refine WL.step (o_len (by rfl) ?_) | refine WL.step (o_add (by rfl) (by rfl) (by unfold InI; omega) ?_) | refine WL.step (o_sub (by rfl) (by rfl) (by unfold InI; omega) ?_) | refine WL.step (OpW.pass (by rfl) ?_) | refine WL.nil ?_ | refine thenN ?_ | refine WP.region ?_ | refine WP.seq ?_ | refine WP.block ?_ | refine thenR ?_ | refine thenX ?_ | refine blkN ?_ | refine blkHit ?_ | refine blkR ?_ | refine blkMiss (by rfl) ?_ | refine WP.ret ?_ | refine WP.exit ?_ | refine WP.skip ?_ | refine WP.label ?_ | refine WP.condT (by rfl) ?_ | refine WP.condF (by rfl) ?_ | fail)
  refine WL.step (o_loadS (by rfl) BW (by rfl) ?_)
  repeat' (first | refine WL.step (o_s (by rfl) ?_) | refine WL.step (o_len (by rfl) ?_) | refine WL.step (o_add (by rfl) (by rfl) (by unfold InI; omega) ?_) | refine WL.step (o_sub (by rfl) (by rfl) (by unfold InI; omega) ?_) | refine WL.step (OpW.pass (by rfl) ?_) | refine WL.nil ?_ | refine thenN ?_ | refine WP.region ?_ | refine WP.seq ?_ | refine WP.block ?_ | refine thenR ?_ | refine thenX ?_ | refine blkN ?_ | refine blkHit ?_ | refine blkR ?_ | refine blkMiss (by rfl) ?_ | refine WP.ret ?_ | refine WP.exit ?_ | refine WP.skip ?_ | refine WP.label ?_ | refine WP.condT (by rfl) ?_ | refine WP.condF (by rfl) ?_ | fail)
  refine WL.call (eqT_same G.rd W.rd) ?_
  rintro _ w21 ⟨rfl, hc21⟩
  have hz21 := hc21.size
  have hB21 : Below w.heap.size w w21 := hB20.trans (hc21.below (by omega) (by omega))
  replace A0 := IT.chg A0 hc21 (by omega)
  replace A1 := IT.chg A1 hc21 (by omega)
  replace BA0 := BA0.chg hc21 (by omega)
  replace BA1 := BA1.chg hc21 (by omega)
  replace W := W.chg hc21 (by omega)
  replace BW := BW.chg hc21 (by omega)
  replace G := G.chg hc21 (by omega)
  replace BG := BG.chg hc21 (by omega)
  repeat' (first | refine WL.step (o_s (by rfl) ?_) | refine WL.step (o_len (by rfl) ?_) | refine WL.step (o_add (by rfl) (by rfl) (by unfold InI; omega) ?_) | refine WL.step (o_sub (by rfl) (by rfl) (by unfold InI; omega) ?_) | refine WL.step (OpW.pass (by rfl) ?_) | refine WL.nil ?_ | refine thenN ?_ | refine WP.region ?_ | refine WP.seq ?_ | refine WP.block ?_ | refine thenR ?_ | refine thenX ?_ | refine blkN ?_ | refine blkHit ?_ | refine blkR ?_ | refine blkMiss (by rfl) ?_ | refine WP.ret ?_ | refine WP.exit ?_ | refine WP.skip ?_ | refine WP.label ?_ | refine WP.condT (by rfl) ?_ | refine WP.condF (by rfl) ?_ | fail)
  try (refine WP.condD (by rfl) (fun hbad => False.elim (by first | exact hbad rfl | omega)) (fun _ => ?_))
  repeat' (first | refine WL.step (o_s (by rfl) ?_) | refine WL.step (o_len (by rfl) ?_) | refine WL.step (o_add (by rfl) (by rfl) (by unfold InI; omega) ?_) | refine WL.step (o_sub (by rfl) (by rfl) (by unfold InI; omega) ?_) | refine WL.step (OpW.pass (by rfl) ?_) | refine WL.nil ?_ | refine thenN ?_ | refine WP.region ?_ | refine WP.seq ?_ | refine WP.block ?_ | refine thenR ?_ | refine thenX ?_ | refine blkN ?_ | refine blkHit ?_ | refine blkR ?_ | refine blkMiss (by rfl) ?_ | refine WP.ret ?_ | refine WP.exit ?_ | refine WP.skip ?_ | refine WP.label ?_ | refine WP.condT (by rfl) ?_ | refine WP.condF (by rfl) ?_ | fail)
  refine WL.step (o_loadS (by rfl) BG (by rfl) ?_)
  repeat' (first | refine WL.step (o_s (by rfl) ?_) | refine WL.step (o_len (by rfl) ?_) | refine WL.step (o_add (by rfl) (by rfl) (by unfold InI; omega) ?_) | refine WL.step (o_sub (by rfl) (by rfl) (by unfold InI; omega) ?_) | refine WL.step (OpW.pass (by rfl) ?_) | refine WL.nil ?_ | refine thenN ?_ | refine WP.region ?_ | refine WP.seq ?_ | refine WP.block ?_ | refine thenR ?_ | refine thenX ?_ | refine blkN ?_ | refine blkHit ?_ | refine blkR ?_ | refine blkMiss (by rfl) ?_ | refine WP.ret ?_ | refine WP.exit ?_ | refine WP.skip ?_ | refine WP.label ?_ | refine WP.condT (by rfl) ?_ | refine WP.condF (by rfl) ?_ | fail)
  refine WL.call (markT_any (k := 1) G (by omega) (by omega)) ?_
  rintro _ w22 ⟨rfl, G', hc22⟩
  have hz22 := hc22.size
  have hB22 : Below w.heap.size w w22 := hB21.trans (hc22.below (by omega) (by omega))
  replace A0 := IT.chg A0 hc22 (by omega)
  replace A1 := IT.chg A1 hc22 (by omega)
  replace BA0 := BA0.chg hc22 (by omega)
  replace BA1 := BA1.chg hc22 (by omega)
  replace W := W.chg hc22 (by omega)
  replace BW := BW.chg hc22 (by omega)
  replace BG := BG.chg hc22 (by omega)
  clear G
  repeat' (first | refine WL.step (o_s (by rfl) ?_) | refine WL.step (o_len (by rfl) ?_) | refine WL.step (o_add (by rfl) (by rfl) (by unfold InI; omega) ?_) | refine WL.step (o_sub (by rfl) (by rfl) (by unfold InI; omega) ?_) | refine WL.step (OpW.pass (by rfl) ?_) | refine WL.nil ?_ | refine thenN ?_ | refine WP.region ?_ | refine WP.seq ?_ | refine WP.block ?_ | refine thenR ?_ | refine thenX ?_ | refine blkN ?_ | refine blkHit ?_ | refine blkR ?_ | refine blkMiss (by rfl) ?_ | refine WP.ret ?_ | refine WP.exit ?_ | refine WP.skip ?_ | refine WP.label ?_ | refine WP.condT (by rfl) ?_ | refine WP.condF (by rfl) ?_ | fail)
  refine WL.step (o_loadS (by rfl) BG (by rfl) ?_)
  repeat' (first | refine WL.step (o_s (by rfl) ?_) | refine WL.step (o_len (by rfl) ?_) | refine WL.step (o_add (by rfl) (by rfl) (by unfold InI; omega) ?_) | refine WL.step (o_sub (by rfl) (by rfl) (by unfold InI; omega) ?_) | refine WL.step (OpW.pass (by rfl) ?_) | refine WL.nil ?_ | refine thenN ?_ | refine WP.region ?_ | refine WP.seq ?_ | refine WP.block ?_ | refine thenR ?_ | refine thenX ?_ | refine blkN ?_ | refine blkHit ?_ | refine blkR ?_ | refine blkMiss (by rfl) ?_ | refine WP.ret ?_ | refine WP.exit ?_ | refine WP.skip ?_ | refine WP.label ?_ | refine WP.condT (by rfl) ?_ | refine WP.condF (by rfl) ?_ | fail)
  refine WL.call (heldT (k := 1) G'.rd (by omega) (by omega)) ?_
  rintro _ w23 ⟨rfl, hc23⟩
  have hz23 := hc23.size
  have hB23 : Below w.heap.size w w23 := hB22.trans (hc23.below (by omega) (by omega))
  replace A0 := IT.chg A0 hc23 (by omega)
  replace A1 := IT.chg A1 hc23 (by omega)
  replace BA0 := BA0.chg hc23 (by omega)
  replace BA1 := BA1.chg hc23 (by omega)
  replace W := W.chg hc23 (by omega)
  replace BW := BW.chg hc23 (by omega)
  replace BG := BG.chg hc23 (by omega)
  replace G' := G'.chg hc23 (by omega)
  repeat' (first | refine WL.step (o_s (by rfl) ?_) | refine WL.step (o_len (by rfl) ?_) | refine WL.step (o_add (by rfl) (by rfl) (by unfold InI; omega) ?_) | refine WL.step (o_sub (by rfl) (by rfl) (by unfold InI; omega) ?_) | refine WL.step (OpW.pass (by rfl) ?_) | refine WL.nil ?_ | refine thenN ?_ | refine WP.region ?_ | refine WP.seq ?_ | refine WP.block ?_ | refine thenR ?_ | refine thenX ?_ | refine blkN ?_ | refine blkHit ?_ | refine blkR ?_ | refine blkMiss (by rfl) ?_ | refine WP.ret ?_ | refine WP.exit ?_ | refine WP.skip ?_ | refine WP.label ?_ | refine WP.condT (by rfl) ?_ | refine WP.condF (by rfl) ?_ | fail)
  try (refine WP.condD (by rfl) (fun hbad => False.elim (by first | exact hbad rfl | omega)) (fun _ => ?_))
  repeat' (first | refine WL.step (o_s (by rfl) ?_) | refine WL.step (o_len (by rfl) ?_) | refine WL.step (o_add (by rfl) (by rfl) (by unfold InI; omega) ?_) | refine WL.step (o_sub (by rfl) (by rfl) (by unfold InI; omega) ?_) | refine WL.step (OpW.pass (by rfl) ?_) | refine WL.nil ?_ | refine thenN ?_ | refine WP.region ?_ | refine WP.seq ?_ | refine WP.block ?_ | refine thenR ?_ | refine thenX ?_ | refine blkN ?_ | refine blkHit ?_ | refine blkR ?_ | refine blkMiss (by rfl) ?_ | refine WP.ret ?_ | refine WP.exit ?_ | refine WP.skip ?_ | refine WP.label ?_ | refine WP.condT (by rfl) ?_ | refine WP.condF (by rfl) ?_ | fail)
  try (refine WP.condD (by rfl) (fun hbad => False.elim (by first | exact hbad rfl | omega)) (fun _ => ?_))
  repeat' (first | refine WL.step (o_s (by rfl) ?_) | refine WL.step (o_len (by rfl) ?_) | refine WL.step (o_add (by rfl) (by rfl) (by unfold InI; omega) ?_) | refine WL.step (o_sub (by rfl) (by rfl) (by unfold InI; omega) ?_) | refine WL.step (OpW.pass (by rfl) ?_) | refine WL.nil ?_ | refine thenN ?_ | refine WP.region ?_ | refine WP.seq ?_ | refine WP.block ?_ | refine thenR ?_ | refine thenX ?_ | refine blkN ?_ | refine blkHit ?_ | refine blkR ?_ | refine blkMiss (by rfl) ?_ | refine WP.ret ?_ | refine WP.exit ?_ | refine WP.skip ?_ | refine WP.label ?_ | refine WP.condT (by rfl) ?_ | refine WP.condF (by rfl) ?_ | fail)
  refine WP.mid (fun l' w' => ∃ bb b1 m1 c1 b2 m2 c2, Agree l' [(2, .pointer (some ⟨w.heap.size, 0, none⟩)), (3, .pointer (some ⟨w1.heap.size, 0, none⟩)), (6, .pointer (some ⟨bW, 0, none⟩)), (7, .int .i64 (composeTableaus a0 a1).2), (10, .pointer (some ⟨w10.heap.size, 0, none⟩)), (13, .int .i64 (1 + (tabCnt (composeTableaus a0 a1).1 : Int))), (15, .pointer (some ⟨bb, 0, none⟩)), (16, .int .i64 (composeTableaus a0 a1).2)] ∧ Blk w' bb [.slice b1 m1 c1, .slice b2 m2 c2] 30 ∧ OwT 28 2 w23.heap.size w'.heap.size w' (.agg #[.slice b1 m1 c1, .slice b2 m2 c2]) (composeTableaus a0 a1).1 ∧ w23.heap.size ≤ bb ∧ Below w23.heap.size w23 w') ?_ ?_
  · refine WP.forked (fun w' => Below w23.heap.size w23 w') (.q 0 (.q 2 (.two 1 (.two 3 (.two 4 (.q 5 (.q 6 (.q 7 (.o 8 (.o 9 (.q 10 .nil)))))) 8 (.o 4 (.q 5 (.q 6 (.q 7 (.o 9 (.q 10 .nil))))))) 8 (.o 3 (.o 4 (.q 5 (.q 6 (.q 7 (.o 9 (.q 10 .nil)))))))) 8 (.o 1 (.o 3 (.o 4 (.q 5 (.q 6 (.q 7 (.o 9 (.q 10 .nil))))))))))) (by kernel_rfl) mixed ?_
    intro u0 hst
    have hS0 : Below w23.heap.size w23 u0 := hst.below _
    have hzu0 := hst.size
    have hlt0 := BA0.lt
    have hlt1 := BA1.lt
    refine WT.q rfl (q_loadS (by rfl) (fun w' h => BA0.below h hlt0) (by rfl)) hS0 ?_
    refine WT.q rfl (q_loadS (by rfl) (fun w' h => BA1.below h hlt1) (by rfl)) hS0 ?_
    have P0 := A0.chg (Chg.of_still hst) (by omega)
    have P1 := A1.chg (Chg.of_still hst) (by omega)
    refine WT.two rfl rfl (o_call (toT P0 hn0) ?_) (o_alloc ?_)
    · skip
      intro vs0 u1 ⟨s0, hcu1⟩
      have hzu1 := hcu1.size
      have hS1 : Below w23.heap.size w23 u1 := hS0.trans (hcu1.below (by omega) (by omega))
      refine ⟨hS1, ?_⟩
      replace P0 := P0.chg hcu1 (by omega)
      replace P1 := P1.chg hcu1 (by omega)
      refine WT.two rfl rfl (o_call (toT P1 hn1) ?_) (o_alloc ?_)
      · skip
        intro vs1 u2 ⟨s1, hcu2⟩
        have hzu2 := hcu2.size
        have hS2 : Below w23.heap.size w23 u2 := hS1.trans (hcu2.below (by omega) (by omega))
        refine ⟨hS2, ?_⟩
        replace P0 := P0.chg hcu2 (by omega)
        replace P1 := P1.chg hcu2 (by omega)
        replace s0 := s0.chg hcu2 (by omega)
        refine WT.two rfl rfl (o_call (ComposeTableaus_any s0.rd s1.rd) ?_) (o_alloc ?_)
        · skip
          rintro _ u3 ⟨vW, rfl, T, hcu3⟩
          have hzu3 := hcu3.size
          have hS3 : Below w23.heap.size w23 u3 := hS2.trans (hcu3.below (by omega) (by omega))
          refine ⟨hS3, ?_⟩
          replace P0 := P0.chg hcu3 (by omega)
          replace P1 := P1.chg hcu3 (by omega)
          replace s0 := s0.chg hcu3 (by omega)
          replace s1 := s1.chg hcu3 (by omega)
          obtain ⟨b1, m1, c1, b2, m2, c2, hl⟩ := T.cells
          subst hl
          refine WT.q rfl (q_s (by rfl)) hS3 ?_
          refine WT.q rfl (q_s (by rfl)) hS3 ?_
          refine WT.q rfl (q_s (by rfl)) hS3 ?_
          refine WT.o rfl (o_alloc ?_)
          intro u4 hbb hblu4 hza
          have hcu4 := Chg.of_below hblu4
          have hzu4 := hcu4.size
          have hS4 : Below w23.heap.size w23 u4 := hS3.trans (hcu4.below (by omega) (by omega))
          refine ⟨hS4, ?_⟩
          replace P0 := P0.chg hcu4 (by omega)
          replace P1 := P1.chg hcu4 (by omega)
          replace s0 := s0.chg hcu4 (by omega)
          replace s1 := s1.chg hcu4 (by omega)
          replace T := T.chg hcu4 (by omega)
          refine WT.o rfl (o_storeS (vs := [.slice b1 m1 c1, .slice b2 m2 c2]) (by rfl) (by rfl) hbb (by rfl) (by rfl) two_cells ?_)
          intro u5 hb2 hbut
          have hzb := hbut.size
          have hS5 : Below w23.heap.size w23 u5 := hS4.trans (hbut.below (by omega))
          refine ⟨hS5, ?_⟩
          replace T := T.chg hbut.chg (by omega)
          refine WT.q rfl (q_s (by rfl)) hS5 ?_
          exact WT.nil (thenN ⟨_, b1, m1, c1, b2, m2, c2, ⟨rfl, rfl, rfl, rfl, rfl, rfl, rfl, rfl, trivial⟩, hb2, T.wide (by omega) (by omega) (by omega), by omega, hS5⟩)
        · skip
          intro u3 hbb hblu3 hza
          have hcu3 := Chg.of_below hblu3
          have hzu3 := hcu3.size
          have hS3 : Below w23.heap.size w23 u3 := hS2.trans (hcu3.below (by omega) (by omega))
          refine ⟨hS3, ?_⟩
          replace P0 := P0.chg hcu3 (by omega)
          replace P1 := P1.chg hcu3 (by omega)
          replace s0 := s0.chg hcu3 (by omega)
          replace s1 := s1.chg hcu3 (by omega)
          refine WT.o rfl (o_call (ComposeTableaus_any s0.rd s1.rd) ?_)
          rintro _ u4 ⟨vW, rfl, T, hcu4⟩
          have hzu4 := hcu4.size
          have hS4 : Below w23.heap.size w23 u4 := hS3.trans (hcu4.below (by omega) (by omega))
          refine ⟨hS4, ?_⟩
          replace P0 := P0.chg hcu4 (by omega)
          replace P1 := P1.chg hcu4 (by omega)
          replace s0 := s0.chg hcu4 (by omega)
          replace s1 := s1.chg hcu4 (by omega)
          replace hbb := hbb.chg0 hcu4
          obtain ⟨b1, m1, c1, b2, m2, c2, hl⟩ := T.cells
          subst hl
          refine WT.q rfl (q_s (by rfl)) hS4 ?_
          refine WT.q rfl (q_s (by rfl)) hS4 ?_
          refine WT.q rfl (q_s (by rfl)) hS4 ?_
          refine WT.o rfl (o_storeS (vs := [.slice b1 m1 c1, .slice b2 m2 c2]) (by rfl) (by rfl) hbb (by rfl) (by rfl) two_cells ?_)
          intro u5 hb2 hbut
          have hzb := hbut.size
          have hS5 : Below w23.heap.size w23 u5 := hS4.trans (hbut.below (by omega))
          refine ⟨hS5, ?_⟩
          replace T := T.chg hbut.chg (by omega)
          refine WT.q rfl (q_s (by rfl)) hS5 ?_
          exact WT.nil (thenN ⟨_, b1, m1, c1, b2, m2, c2, ⟨rfl, rfl, rfl, rfl, rfl, rfl, rfl, rfl, trivial⟩, hb2, T.wide (by omega) (by omega) (by omega), by omega, hS5⟩)
      · skip
        intro u2 hbb hblu2 hza
        have hcu2 := Chg.of_below hblu2
        have hzu2 := hcu2.size
        have hS2 : Below w23.heap.size w23 u2 := hS1.trans (hcu2.below (by omega) (by omega))
        refine ⟨hS2, ?_⟩
        replace P0 := P0.chg hcu2 (by omega)
        replace P1 := P1.chg hcu2 (by omega)
        replace s0 := s0.chg hcu2 (by omega)
        refine WT.o rfl (o_call (toT P1 hn1) ?_)
        intro vs1 u3 ⟨s1, hcu3⟩
        have hzu3 := hcu3.size
        have hS3 : Below w23.heap.size w23 u3 := hS2.trans (hcu3.below (by omega) (by omega))
        refine ⟨hS3, ?_⟩
        replace P0 := P0.chg hcu3 (by omega)
        replace P1 := P1.chg hcu3 (by omega)
        replace s0 := s0.chg hcu3 (by omega)
        replace hbb := hbb.chg0 hcu3
        refine WT.o rfl (o_call (ComposeTableaus_any s0.rd s1.rd) ?_)
        rintro _ u4 ⟨vW, rfl, T, hcu4⟩
        have hzu4 := hcu4.size
        have hS4 : Below w23.heap.size w23 u4 := hS3.trans (hcu4.below (by omega) (by omega))
        refine ⟨hS4, ?_⟩
        replace P0 := P0.chg hcu4 (by omega)
        replace P1 := P1.chg hcu4 (by omega)
        replace s0 := s0.chg hcu4 (by omega)
        replace hbb := hbb.chg0 hcu4
        replace s1 := s1.chg hcu4 (by omega)
        obtain ⟨b1, m1, c1, b2, m2, c2, hl⟩ := T.cells
        subst hl
        refine WT.q rfl (q_s (by rfl)) hS4 ?_
        refine WT.q rfl (q_s (by rfl)) hS4 ?_
        refine WT.q rfl (q_s (by rfl)) hS4 ?_
        refine WT.o rfl (o_storeS (vs := [.slice b1 m1 c1, .slice b2 m2 c2]) (by rfl) (by rfl) hbb (by rfl) (by rfl) two_cells ?_)
        intro u5 hb2 hbut
        have hzb := hbut.size
        have hS5 : Below w23.heap.size w23 u5 := hS4.trans (hbut.below (by omega))
        refine ⟨hS5, ?_⟩
        replace T := T.chg hbut.chg (by omega)
        refine WT.q rfl (q_s (by rfl)) hS5 ?_
        exact WT.nil (thenN ⟨_, b1, m1, c1, b2, m2, c2, ⟨rfl, rfl, rfl, rfl, rfl, rfl, rfl, rfl, trivial⟩, hb2, T.wide (by omega) (by omega) (by omega), by omega, hS5⟩)
    · skip
      intro u1 hbb hblu1 hza
      have hcu1 := Chg.of_below hblu1
      have hzu1 := hcu1.size
      have hS1 : Below w23.heap.size w23 u1 := hS0.trans (hcu1.below (by omega) (by omega))
      refine ⟨hS1, ?_⟩
      replace P0 := P0.chg hcu1 (by omega)
      replace P1 := P1.chg hcu1 (by omega)
      refine WT.o rfl (o_call (toT P0 hn0) ?_)
      intro vs0 u2 ⟨s0, hcu2⟩
      have hzu2 := hcu2.size
      have hS2 : Below w23.heap.size w23 u2 := hS1.trans (hcu2.below (by omega) (by omega))
      refine ⟨hS2, ?_⟩
      replace P0 := P0.chg hcu2 (by omega)
      replace P1 := P1.chg hcu2 (by omega)
      replace hbb := hbb.chg0 hcu2
      refine WT.o rfl (o_call (toT P1 hn1) ?_)
      intro vs1 u3 ⟨s1, hcu3⟩
      have hzu3 := hcu3.size
      have hS3 : Below w23.heap.size w23 u3 := hS2.trans (hcu3.below (by omega) (by omega))
      refine ⟨hS3, ?_⟩
      replace P0 := P0.chg hcu3 (by omega)
      replace P1 := P1.chg hcu3 (by omega)
      replace hbb := hbb.chg0 hcu3
      replace s0 := s0.chg hcu3 (by omega)
      refine WT.o rfl (o_call (ComposeTableaus_any s0.rd s1.rd) ?_)
      rintro _ u4 ⟨vW, rfl, T, hcu4⟩
      have hzu4 := hcu4.size
      have hS4 : Below w23.heap.size w23 u4 := hS3.trans (hcu4.below (by omega) (by omega))
      refine ⟨hS4, ?_⟩
      replace P0 := P0.chg hcu4 (by omega)
      replace P1 := P1.chg hcu4 (by omega)
      replace hbb := hbb.chg0 hcu4
      replace s0 := s0.chg hcu4 (by omega)
      replace s1 := s1.chg hcu4 (by omega)
      obtain ⟨b1, m1, c1, b2, m2, c2, hl⟩ := T.cells
      subst hl
      refine WT.q rfl (q_s (by rfl)) hS4 ?_
      refine WT.q rfl (q_s (by rfl)) hS4 ?_
      refine WT.q rfl (q_s (by rfl)) hS4 ?_
      refine WT.o rfl (o_storeS (vs := [.slice b1 m1 c1, .slice b2 m2 c2]) (by rfl) (by rfl) hbb (by rfl) (by rfl) two_cells ?_)
      intro u5 hb2 hbut
      have hzb := hbut.size
      have hS5 : Below w23.heap.size w23 u5 := hS4.trans (hbut.below (by omega))
      refine ⟨hS5, ?_⟩
      replace T := T.chg hbut.chg (by omega)
      refine WT.q rfl (q_s (by rfl)) hS5 ?_
      exact WT.nil (thenN ⟨_, b1, m1, c1, b2, m2, c2, ⟨rfl, rfl, rfl, rfl, rfl, rfl, rfl, rfl, trivial⟩, hb2, T.wide (by omega) (by omega) (by omega), by omega, hS5⟩)
  rintro l24 w24 ⟨bH, b1H, m1H, c1H, b2H, m2H, c2H, hag, BH, H, hbH, hbl24⟩
  refine WP.frame _ hag ?_
  clear hag
  have hltH := BH.lt
  have hc24 := Chg.of_below hbl24
  have hz24 := hc24.size
  have hB24 : Below w.heap.size w w24 := hB23.trans (hc24.below (by omega) (by omega))
  replace A0 := IT.chg A0 hc24 (by omega)
  replace A1 := IT.chg A1 hc24 (by omega)
  replace BA0 := BA0.chg hc24 (by omega)
  replace BA1 := BA1.chg hc24 (by omega)
  replace W := W.chg hc24 (by omega)
  replace BW := BW.chg hc24 (by omega)
  replace BG := BG.chg hc24 (by omega)
  replace G' := G'.chg hc24 (by omega)
  repeat' (first | refine WL.step (o_s (by rfl) ?_) | refine WL.step (o_len (by rfl) ?_) | refine WL.step (o_add (by rfl) (by rfl) (by unfold InI; omega) ?_) | refine WL.step (o_sub (by rfl) (by rfl) (by unfold InI; omega) ?_) | refine WL.step (OpW.pass (by rfl) ?_) | refine WL.nil ?_ | refine thenN ?_ | refine WP.region ?_ | refine WP.seq ?_ | refine WP.block ?_ | refine thenR ?_ | refine thenX ?_ | refine blkN ?_ | refine blkHit ?_ | refine blkR ?_ | refine blkMiss (by rfl) ?_ | refine WP.ret ?_ | refine WP.exit ?_ | refine WP.skip ?_ | refine WP.label ?_ | refine WP.condT (by rfl) ?_ | refine WP.condF (by rfl) ?_ | fail)
  refine WL.step (o_loadS (by rfl) BH (by rfl) ?_)
  repeat' (first | refine WL.step (o_s (by rfl) ?_) | refine WL.step (o_len (by rfl) ?_) | refine WL.step (o_add (by rfl) (by rfl) (by unfold InI; omega) ?_) | refine WL.step (o_sub (by rfl) (by rfl) (by unfold InI; omega) ?_) | refine WL.step (OpW.pass (by rfl) ?_) | refine WL.nil ?_ | refine thenN ?_ | refine WP.region ?_ | refine WP.seq ?_ | refine WP.block ?_ | refine thenR ?_ | refine thenX ?_ | refine blkN ?_ | refine blkHit ?_ | refine blkR ?_ | refine blkMiss (by rfl) ?_ | refine WP.ret ?_ | refine WP.exit ?_ | refine WP.skip ?_ | refine WP.label ?_ | refine WP.condT (by rfl) ?_ | refine WP.condF (by rfl) ?_ | fail)
  refine WL.step (o_loadS (by rfl) BW (by rfl) ?_)
  repeat' (first | refine WL.step (o_s (by rfl) ?_) | refine WL.step (o_len (by rfl) ?_) | refine WL.step (o_add (by rfl) (by rfl) (by unfold InI; omega) ?_) | refine WL.step (o_sub (by rfl) (by rfl) (by unfold InI; omega) ?_) | refine WL.step (OpW.pass (by rfl) ?_) | refine WL.nil ?_ | refine thenN ?_ | refine WP.region ?_ | refine WP.seq ?_ | refine WP.block ?_ | refine thenR ?_ | refine thenX ?_ | refine blkN ?_ | refine blkHit ?_ | refine blkR ?_ | refine blkMiss (by rfl) ?_ | refine WP.ret ?_ | refine WP.exit ?_ | refine WP.skip ?_ | refine WP.label ?_ | refine WP.condT (by rfl) ?_ | refine WP.condF (by rfl) ?_ | fail)
  refine WL.call (eqT_same H.rd W.rd) ?_
  rintro _ w25 ⟨rfl, hc25⟩
  have hz25 := hc25.size
  have hB25 : Below w.heap.size w w25 := hB24.trans (hc25.below (by omega) (by omega))
  replace A0 := IT.chg A0 hc25 (by omega)
  replace A1 := IT.chg A1 hc25 (by omega)
  replace BA0 := BA0.chg hc25 (by omega)
  replace BA1 := BA1.chg hc25 (by omega)
  replace W := W.chg hc25 (by omega)
  replace BW := BW.chg hc25 (by omega)
  replace BG := BG.chg hc25 (by omega)
  replace G' := G'.chg hc25 (by omega)
  replace H := H.chg hc25 (by omega)
  replace BH := BH.chg hc25 (by omega)
  repeat' (first | refine WL.step (o_s (by rfl) ?_) | refine WL.step (o_len (by rfl) ?_) | refine WL.step (o_add (by rfl) (by rfl) (by unfold InI; omega) ?_) | refine WL.step (o_sub (by rfl) (by rfl) (by unfold InI; omega) ?_) | refine WL.step (OpW.pass (by rfl) ?_) | refine WL.nil ?_ | refine thenN ?_ | refine WP.region ?_ | refine WP.seq ?_ | refine WP.block ?_ | refine thenR ?_ | refine thenX ?_ | refine blkN ?_ | refine blkHit ?_ | refine blkR ?_ | refine blkMiss (by rfl) ?_ | refine WP.ret ?_ | refine WP.exit ?_ | refine WP.skip ?_ | refine WP.label ?_ | refine WP.condT (by rfl) ?_ | refine WP.condF (by rfl) ?_ | fail)
  try (refine WP.condD (by rfl) (fun hbad => False.elim (by first | exact hbad rfl | omega)) (fun _ => ?_))
  repeat' (first | refine WL.step (o_s (by rfl) ?_) | refine WL.step (o_len (by rfl) ?_) | refine WL.step (o_add (by rfl) (by rfl) (by unfold InI; omega) ?_) | refine WL.step (o_sub (by rfl) (by rfl) (by unfold InI; omega) ?_) | refine WL.step (OpW.pass (by rfl) ?_) | refine WL.nil ?_ | refine thenN ?_ | refine WP.region ?_ | refine WP.seq ?_ | refine WP.block ?_ | refine thenR ?_ | refine thenX ?_ | refine blkN ?_ | refine blkHit ?_ | refine blkR ?_ | refine blkMiss (by rfl) ?_ | refine WP.ret ?_ | refine WP.exit ?_ | refine WP.skip ?_ | refine WP.label ?_ | refine WP.condT (by rfl) ?_ | refine WP.condF (by rfl) ?_ | fail)
  refine WL.step (o_loadS (by rfl) BG (by rfl) ?_)
  repeat' (first | refine WL.step (o_s (by rfl) ?_) | refine WL.step (o_len (by rfl) ?_) | refine WL.step (o_add (by rfl) (by rfl) (by unfold InI; omega) ?_) | refine WL.step (o_sub (by rfl) (by rfl) (by unfold InI; omega) ?_) | refine WL.step (OpW.pass (by rfl) ?_) | refine WL.nil ?_ | refine thenN ?_ | refine WP.region ?_ | refine WP.seq ?_ | refine WP.block ?_ | refine thenR ?_ | refine thenX ?_ | refine blkN ?_ | refine blkHit ?_ | refine blkR ?_ | refine blkMiss (by rfl) ?_ | refine WP.ret ?_ | refine WP.exit ?_ | refine WP.skip ?_ | refine WP.label ?_ | refine WP.condT (by rfl) ?_ | refine WP.condF (by rfl) ?_ | fail)
  refine WL.call (heldT (k := 1) G'.rd (by omega) (by omega)) ?_
  rintro _ w26 ⟨rfl, hc26⟩
  have hz26 := hc26.size
  have hB26 : Below w.heap.size w w26 := hB25.trans (hc26.below (by omega) (by omega))
  replace A0 := IT.chg A0 hc26 (by omega)
  replace A1 := IT.chg A1 hc26 (by omega)
  replace BA0 := BA0.chg hc26 (by omega)
  replace BA1 := BA1.chg hc26 (by omega)
  replace BG := BG.chg hc26 (by omega)
  replace G' := G'.chg hc26 (by omega)
  repeat' (first | refine WL.step (o_s (by rfl) ?_) | refine WL.step (o_len (by rfl) ?_) | refine WL.step (o_add (by rfl) (by rfl) (by unfold InI; omega) ?_) | refine WL.step (o_sub (by rfl) (by rfl) (by unfold InI; omega) ?_) | refine WL.step (OpW.pass (by rfl) ?_) | refine WL.nil ?_ | refine thenN ?_ | refine WP.region ?_ | refine WP.seq ?_ | refine WP.block ?_ | refine thenR ?_ | refine thenX ?_ | refine blkN ?_ | refine blkHit ?_ | refine blkR ?_ | refine blkMiss (by rfl) ?_ | refine WP.ret ?_ | refine WP.exit ?_ | refine WP.skip ?_ | refine WP.label ?_ | refine WP.condT (by rfl) ?_ | refine WP.condF (by rfl) ?_ | fail)
  try (refine WP.condD (by rfl) (fun hbad => False.elim (by first | exact hbad rfl | omega)) (fun _ => ?_))
  repeat' (first | refine WL.step (o_s (by rfl) ?_) | refine WL.step (o_len (by rfl) ?_) | refine WL.step (o_add (by rfl) (by rfl) (by unfold InI; omega) ?_) | refine WL.step (o_sub (by rfl) (by rfl) (by unfold InI; omega) ?_) | refine WL.step (OpW.pass (by rfl) ?_) | refine WL.nil ?_ | refine thenN ?_ | refine WP.region ?_ | refine WP.seq ?_ | refine WP.block ?_ | refine thenR ?_ | refine thenX ?_ | refine blkN ?_ | refine blkHit ?_ | refine blkR ?_ | refine blkMiss (by rfl) ?_ | refine WP.ret ?_ | refine WP.exit ?_ | refine WP.skip ?_ | refine WP.label ?_ | refine WP.condT (by rfl) ?_ | refine WP.condF (by rfl) ?_ | fail)
  try (refine WP.condD (by rfl) (fun hbad => False.elim (by first | exact hbad rfl | omega)) (fun _ => ?_))
  repeat' (first | refine WL.step (o_s (by rfl) ?_) | refine WL.step (o_len (by rfl) ?_) | refine WL.step (o_add (by rfl) (by rfl) (by unfold InI; omega) ?_) | refine WL.step (o_sub (by rfl) (by rfl) (by unfold InI; omega) ?_) | refine WL.step (OpW.pass (by rfl) ?_) | refine WL.nil ?_ | refine thenN ?_ | refine WP.region ?_ | refine WP.seq ?_ | refine WP.block ?_ | refine thenR ?_ | refine thenX ?_ | refine blkN ?_ | refine blkHit ?_ | refine blkR ?_ | refine blkMiss (by rfl) ?_ | refine WP.ret ?_ | refine WP.exit ?_ | refine WP.skip ?_ | refine WP.label ?_ | refine WP.condT (by rfl) ?_ | refine WP.condF (by rfl) ?_ | fail)
  refine ⟨_, ret1 rfl (by rfl), ?_⟩
  exact ⟨rfl, hB26⟩
end Go.Proofs
