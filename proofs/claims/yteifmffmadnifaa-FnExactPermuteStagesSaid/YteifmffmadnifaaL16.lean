/- The exact law of reordered stages, walked. -/
import Derived.Test.YteifmffmadnifaaHB
import Derived.Test.YteifmffmadnifaaA46
namespace Go.Proofs
open Go Go.Fw Go.RowKit Go.Rk
theorem FnExactPermuteStages_any {w : World} {la0 ha0 : Nat} {va0 : Value} {a0 : TabD} (A0 : IT la0 ha0 w va0 a0) {la1 ha1 : Nat} {va1 : Value} {a1 : List Int} (A1 : IS la1 ha1 w va1 a1) : Does Try.prog 7 [va0, va1] w fun r w' => r = .bool true ∧ Below w.heap.size w w' := by
  have hA0 := A0.hi_le
  have hA1 := A1.hi_le
  obtain ⟨ad0, nd0, cd0, ae0, ne0, ce0, hv0⟩ := A0.cells
  subst hv0
  obtain ⟨ad1, cd1, hv1⟩ := A1.shape
  rw [hv1] at A1 ⊢
  refine Does.enter Try.func7 Try.ntmps7 rfl (by rfl) ?_
  have hB0 : Below w.heap.size w w := Below.refl _ _
  repeat' (first | refine WL.step (o_s (by rfl) ?_) | refine WL.step (o_len (by rfl) ?_) | refine WL.step (o_add (by rfl) (by rfl) (by unfold InI; omega) ?_) | refine WL.step (o_sub (by rfl) (by rfl) (by unfold InI; omega) ?_) | refine WL.step (OpW.pass (by rfl) ?_) | refine WL.nil ?_ | refine thenN ?_ | refine WP.region ?_ | refine WP.seq ?_ | refine WP.block ?_ | refine thenR ?_ | refine thenX ?_ | refine blkN ?_ | refine blkHit ?_ | refine blkR ?_ | refine blkMiss (by rfl) ?_ | refine WP.ret ?_ | refine WP.exit ?_ | refine WP.skip ?_ | refine WP.label ?_ | refine WP.condT (by rfl) ?_ | refine WP.condF (by rfl) ?_ | fail)
  refine WL.step (o_box (by rfl) ?_)
  intro w1 BA0 hbl1 hzz1
  have hc1 := Chg.of_below hbl1
  have hz1 := hc1.size
  have hB1 : Below w.heap.size w w1 := hB0.trans (hc1.below (by omega) (by omega))
  replace A0 := IT.chg A0 hc1 (by omega)
  replace A1 := RI.chg A1 hc1 (by omega)
  repeat' (first | refine WL.step (o_s (by rfl) ?_) | refine WL.step (o_len (by rfl) ?_) | refine WL.step (o_add (by rfl) (by rfl) (by unfold InI; omega) ?_) | refine WL.step (o_sub (by rfl) (by rfl) (by unfold InI; omega) ?_) | refine WL.step (OpW.pass (by rfl) ?_) | refine WL.nil ?_ | refine thenN ?_ | refine WP.region ?_ | refine WP.seq ?_ | refine WP.block ?_ | refine thenR ?_ | refine thenX ?_ | refine blkN ?_ | refine blkHit ?_ | refine blkR ?_ | refine blkMiss (by rfl) ?_ | refine WP.ret ?_ | refine WP.exit ?_ | refine WP.skip ?_ | refine WP.label ?_ | refine WP.condT (by rfl) ?_ | refine WP.condF (by rfl) ?_ | fail)
  first | refine WP.condD (by rfl) (fun _ => ?_) (fun _ => ?_) | refine WP.condND (by rfl) (fun _ => ?_) (fun _ => ?_) | refine WP.condN (by rfl) (fun _ => ?_) (fun _ => ?_) | refine WP.cond (by rfl) (fun _ => ?_) (fun _ => ?_) | fail
  · rename_i hbig
    repeat' (first | refine WL.step (o_s (by rfl) ?_) | refine WL.step (o_len (by rfl) ?_) | refine WL.step (o_add (by rfl) (by rfl) (by unfold InI; omega) ?_) | refine WL.step (o_sub (by rfl) (by rfl) (by unfold InI; omega) ?_) | refine WL.step (OpW.pass (by rfl) ?_) | refine WL.nil ?_ | refine thenN ?_ | refine WP.region ?_ | refine WP.seq ?_ | refine WP.block ?_ | refine thenR ?_ | refine thenX ?_ | refine blkN ?_ | refine blkHit ?_ | refine blkR ?_ | refine blkMiss (by rfl) ?_ | refine WP.ret ?_ | refine WP.exit ?_ | refine WP.skip ?_ | refine WP.label ?_ | refine WP.condT (by rfl) ?_ | refine WP.condF (by rfl) ?_ | fail)
    refine ⟨_, ret1 rfl (by rfl), ?_⟩
    exact ⟨rfl, hB1⟩
  rename_i hsm1
  have hn1 : a1.length ≤ 1048576 := by omega
  repeat' (first | refine WL.step (o_s (by rfl) ?_) | refine WL.step (o_len (by rfl) ?_) | refine WL.step (o_add (by rfl) (by rfl) (by unfold InI; omega) ?_) | refine WL.step (o_sub (by rfl) (by rfl) (by unfold InI; omega) ?_) | refine WL.step (OpW.pass (by rfl) ?_) | refine WL.nil ?_ | refine thenN ?_ | refine WP.region ?_ | refine WP.seq ?_ | refine WP.block ?_ | refine thenR ?_ | refine thenX ?_ | refine blkN ?_ | refine blkHit ?_ | refine blkR ?_ | refine blkMiss (by rfl) ?_ | refine WP.ret ?_ | refine WP.exit ?_ | refine WP.skip ?_ | refine WP.label ?_ | refine WP.condT (by rfl) ?_ | refine WP.condF (by rfl) ?_ | fail)
  refine WL.step (o_loadS (by rfl) BA0 (by rfl) ?_)
  repeat' (first | refine WL.step (o_s (by rfl) ?_) | refine WL.step (o_len (by rfl) ?_) | refine WL.step (o_add (by rfl) (by rfl) (by unfold InI; omega) ?_) | refine WL.step (o_sub (by rfl) (by rfl) (by unfold InI; omega) ?_) | refine WL.step (OpW.pass (by rfl) ?_) | refine WL.nil ?_ | refine thenN ?_ | refine WP.region ?_ | refine WP.seq ?_ | refine WP.block ?_ | refine thenR ?_ | refine thenX ?_ | refine blkN ?_ | refine blkHit ?_ | refine blkR ?_ | refine blkMiss (by rfl) ?_ | refine WP.ret ?_ | refine WP.exit ?_ | refine WP.skip ?_ | refine WP.label ?_ | refine WP.condT (by rfl) ?_ | refine WP.condF (by rfl) ?_ | fail)
  refine WL.call (szTableau_any 1048576 A0 (by omega) (by omega)) ?_
  rintro _ w2 ⟨q0, rfl, hq0, hqb0, hc2⟩
  have hz2 := hc2.size
  have hB2 : Below w.heap.size w w2 := hB1.trans (hc2.below (by omega) (by omega))
  replace A0 := IT.chg A0 hc2 (by omega)
  replace A1 := RI.chg A1 hc2 (by omega)
  replace BA0 := BA0.chg hc2 (by omega)
  repeat' (first | refine WL.step (o_s (by rfl) ?_) | refine WL.step (o_len (by rfl) ?_) | refine WL.step (o_add (by rfl) (by rfl) (by unfold InI; omega) ?_) | refine WL.step (o_sub (by rfl) (by rfl) (by unfold InI; omega) ?_) | refine WL.step (OpW.pass (by rfl) ?_) | refine WL.nil ?_ | refine thenN ?_ | refine WP.region ?_ | refine WP.seq ?_ | refine WP.block ?_ | refine thenR ?_ | refine thenX ?_ | refine blkN ?_ | refine blkHit ?_ | refine blkR ?_ | refine blkMiss (by rfl) ?_ | refine WP.ret ?_ | refine WP.exit ?_ | refine WP.skip ?_ | refine WP.label ?_ | refine WP.condT (by rfl) ?_ | refine WP.condF (by rfl) ?_ | fail)
  first | refine WP.condD (by rfl) (fun _ => ?_) (fun _ => ?_) | refine WP.condND (by rfl) (fun _ => ?_) (fun _ => ?_) | refine WP.condN (by rfl) (fun _ => ?_) (fun _ => ?_) | refine WP.cond (by rfl) (fun _ => ?_) (fun _ => ?_) | fail
  · rename_i hbig
    repeat' (first | refine WL.step (o_s (by rfl) ?_) | refine WL.step (o_len (by rfl) ?_) | refine WL.step (o_add (by rfl) (by rfl) (by unfold InI; omega) ?_) | refine WL.step (o_sub (by rfl) (by rfl) (by unfold InI; omega) ?_) | refine WL.step (OpW.pass (by rfl) ?_) | refine WL.nil ?_ | refine thenN ?_ | refine WP.region ?_ | refine WP.seq ?_ | refine WP.block ?_ | refine thenR ?_ | refine thenX ?_ | refine blkN ?_ | refine blkHit ?_ | refine blkR ?_ | refine blkMiss (by rfl) ?_ | refine WP.ret ?_ | refine WP.exit ?_ | refine WP.skip ?_ | refine WP.label ?_ | refine WP.condT (by rfl) ?_ | refine WP.condF (by rfl) ?_ | fail)
    refine ⟨_, ret1 rfl (by rfl), ?_⟩
    exact ⟨rfl, hB2⟩
  rename_i hsm0
  have hn0 := hq0 (by omega)
  have hcn0 := hn0.cnt
  repeat' (first | refine WL.step (o_s (by rfl) ?_) | refine WL.step (o_len (by rfl) ?_) | refine WL.step (o_add (by rfl) (by rfl) (by unfold InI; omega) ?_) | refine WL.step (o_sub (by rfl) (by rfl) (by unfold InI; omega) ?_) | refine WL.step (OpW.pass (by rfl) ?_) | refine WL.nil ?_ | refine thenN ?_ | refine WP.region ?_ | refine WP.seq ?_ | refine WP.block ?_ | refine thenR ?_ | refine thenX ?_ | refine blkN ?_ | refine blkHit ?_ | refine blkR ?_ | refine blkMiss (by rfl) ?_ | refine WP.ret ?_ | refine WP.exit ?_ | refine WP.skip ?_ | refine WP.label ?_ | refine WP.condT (by rfl) ?_ | refine WP.condF (by rfl) ?_ | fail)
  have hlen := permuteStages_len a0 a1
  refine WL.step (o_loadS (by rfl) BA0 (by rfl) ?_)
  repeat' (first | refine WL.step (o_s (by rfl) ?_) | refine WL.step (o_len (by rfl) ?_) | refine WL.step (o_add (by rfl) (by rfl) (by unfold InI; omega) ?_) | refine WL.step (o_sub (by rfl) (by rfl) (by unfold InI; omega) ?_) | refine WL.step (OpW.pass (by rfl) ?_) | refine WL.nil ?_ | refine thenN ?_ | refine WP.region ?_ | refine WP.seq ?_ | refine WP.block ?_ | refine thenR ?_ | refine thenX ?_ | refine blkN ?_ | refine blkHit ?_ | refine blkR ?_ | refine blkMiss (by rfl) ?_ | refine WP.ret ?_ | refine WP.exit ?_ | refine WP.skip ?_ | refine WP.label ?_ | refine WP.condT (by rfl) ?_ | refine WP.condF (by rfl) ?_ | fail)
  refine WL.call (toT A0 hn0) ?_
  intro vs0 w3 ⟨s0, hc3⟩
  have hz3 := hc3.size
  have hB3 : Below w.heap.size w w3 := hB2.trans (hc3.below (by omega) (by omega))
  replace A0 := IT.chg A0 hc3 (by omega)
  replace A1 := RI.chg A1 hc3 (by omega)
  replace BA0 := BA0.chg hc3 (by omega)
  repeat' (first | refine WL.step (o_s (by rfl) ?_) | refine WL.step (o_len (by rfl) ?_) | refine WL.step (o_add (by rfl) (by rfl) (by unfold InI; omega) ?_) | refine WL.step (o_sub (by rfl) (by rfl) (by unfold InI; omega) ?_) | refine WL.step (OpW.pass (by rfl) ?_) | refine WL.nil ?_ | refine thenN ?_ | refine WP.region ?_ | refine WP.seq ?_ | refine WP.block ?_ | refine thenR ?_ | refine thenX ?_ | refine blkN ?_ | refine blkHit ?_ | refine blkR ?_ | refine blkMiss (by rfl) ?_ | refine WP.ret ?_ | refine WP.exit ?_ | refine WP.skip ?_ | refine WP.label ?_ | refine WP.condT (by rfl) ?_ | refine WP.condF (by rfl) ?_ | fail)
  refine WL.call (toI A1 hn1) ?_
  intro vs1 w4 ⟨s1, hc4⟩
  have hz4 := hc4.size
  have hB4 : Below w.heap.size w w4 := hB3.trans (hc4.below (by omega) (by omega))
  replace A0 := IT.chg A0 hc4 (by omega)
  replace A1 := RI.chg A1 hc4 (by omega)
  replace BA0 := BA0.chg hc4 (by omega)
  replace s0 := s0.chg hc4 (by omega)
  repeat' (first | refine WL.step (o_s (by rfl) ?_) | refine WL.step (o_len (by rfl) ?_) | refine WL.step (o_add (by rfl) (by rfl) (by unfold InI; omega) ?_) | refine WL.step (o_sub (by rfl) (by rfl) (by unfold InI; omega) ?_) | refine WL.step (OpW.pass (by rfl) ?_) | refine WL.nil ?_ | refine thenN ?_ | refine WP.region ?_ | refine WP.seq ?_ | refine WP.block ?_ | refine thenR ?_ | refine thenX ?_ | refine blkN ?_ | refine blkHit ?_ | refine blkR ?_ | refine blkMiss (by rfl) ?_ | refine WP.ret ?_ | refine WP.exit ?_ | refine WP.skip ?_ | refine WP.label ?_ | refine WP.condT (by rfl) ?_ | refine WP.condF (by rfl) ?_ | fail)
  refine WL.call (sPermuteStages_any s0.rd s1.rd) ?_
  rintro _ w5 ⟨vW, rfl, W, hc5⟩
  have hz5 := hc5.size
  have hB5 : Below w.heap.size w w5 := hB4.trans (hc5.below (by omega) (by omega))
  replace A0 := IT.chg A0 hc5 (by omega)
  replace A1 := RI.chg A1 hc5 (by omega)
  replace BA0 := BA0.chg hc5 (by omega)
  replace s0 := s0.chg hc5 (by omega)
  replace s1 := s1.chg hc5 (by omega)
  obtain ⟨b1W, m1W, c1W, b2W, m2W, c2W, hlitW⟩ := W.cells
  subst hlitW
  repeat' (first | refine WL.step (o_s (by rfl) ?_) | refine WL.step (o_len (by rfl) ?_) | refine WL.step (o_add (by rfl) (by rfl) (by unfold InI; omega) ?_) | refine WL.step (o_sub (by rfl) (by rfl) (by unfold InI; omega) ?_) | refine WL.step (OpW.pass (by rfl) ?_) | refine WL.nil ?_ | refine thenN ?_ | refine WP.region ?_ | refine WP.seq ?_ | refine WP.block ?_ | refine thenR ?_ | refine thenX ?_ | refine blkN ?_ | refine blkHit ?_ | refine blkR ?_ | refine blkMiss (by rfl) ?_ | refine WP.ret ?_ | refine WP.exit ?_ | refine WP.skip ?_ | refine WP.label ?_ | refine WP.condT (by rfl) ?_ | refine WP.condF (by rfl) ?_ | fail)
  refine WL.var (vs := [.slice b1W m1W c1W, .slice b2W m2W c2W]) (fun p => by rfl) rfl two_cells ?_
  intro w6 BW hbl6 hzz6
  have hc6 := Chg.of_below hbl6
  have hz6 := hc6.size
  have hB6 : Below w.heap.size w w6 := hB5.trans (hc6.below (by omega) (by omega))
  replace A0 := IT.chg A0 hc6 (by omega)
  replace A1 := RI.chg A1 hc6 (by omega)
  replace BA0 := BA0.chg hc6 (by omega)
  replace s0 := s0.chg hc6 (by omega)
  replace s1 := s1.chg hc6 (by omega)
  replace W := W.chg hc6 (by omega)
  repeat' (first | refine WL.step (o_s (by rfl) ?_) | refine WL.step (o_len (by rfl) ?_) | refine WL.step (o_add (by rfl) (by rfl) (by unfold InI; omega) ?_) | refine WL.step (o_sub (by rfl) (by rfl) (by unfold InI; omega) ?_) | refine WL.step (OpW.pass (by rfl) ?_) | refine WL.nil ?_ | refine thenN ?_ | refine WP.region ?_ | refine WP.seq ?_ | refine WP.block ?_ | refine thenR ?_ | refine thenX ?_ | refine blkN ?_ | refine blkHit ?_ | refine blkR ?_ | refine blkMiss (by rfl) ?_ | refine WP.ret ?_ | refine WP.exit ?_ | refine WP.skip ?_ | refine WP.label ?_ | refine WP.condT (by rfl) ?_ | refine WP.condF (by rfl) ?_ | fail)
  refine WL.step (o_loadS (by rfl) BA0 (by rfl) ?_)
  repeat' (first | refine WL.step (o_s (by rfl) ?_) | refine WL.step (o_len (by rfl) ?_) | refine WL.step (o_add (by rfl) (by rfl) (by unfold InI; omega) ?_) | refine WL.step (o_sub (by rfl) (by rfl) (by unfold InI; omega) ?_) | refine WL.step (OpW.pass (by rfl) ?_) | refine WL.nil ?_ | refine thenN ?_ | refine WP.region ?_ | refine WP.seq ?_ | refine WP.block ?_ | refine thenR ?_ | refine thenX ?_ | refine blkN ?_ | refine blkHit ?_ | refine blkR ?_ | refine blkMiss (by rfl) ?_ | refine WP.ret ?_ | refine WP.exit ?_ | refine WP.skip ?_ | refine WP.label ?_ | refine WP.condT (by rfl) ?_ | refine WP.condF (by rfl) ?_ | fail)
  refine WL.call (toT A0 hn0) ?_
  intro vX0 w7 ⟨X0, hc7⟩
  have hz7 := hc7.size
  have hB7 : Below w.heap.size w w7 := hB6.trans (hc7.below (by omega) (by omega))
  replace A0 := IT.chg A0 hc7 (by omega)
  replace A1 := RI.chg A1 hc7 (by omega)
  replace BA0 := BA0.chg hc7 (by omega)
  replace W := W.chg hc7 (by omega)
  replace BW := BW.chg hc7 (by omega)
  repeat' (first | refine WL.step (o_s (by rfl) ?_) | refine WL.step (o_len (by rfl) ?_) | refine WL.step (o_add (by rfl) (by rfl) (by unfold InI; omega) ?_) | refine WL.step (o_sub (by rfl) (by rfl) (by unfold InI; omega) ?_) | refine WL.step (OpW.pass (by rfl) ?_) | refine WL.nil ?_ | refine thenN ?_ | refine WP.region ?_ | refine WP.seq ?_ | refine WP.block ?_ | refine thenR ?_ | refine thenX ?_ | refine blkN ?_ | refine blkHit ?_ | refine blkR ?_ | refine blkMiss (by rfl) ?_ | refine WP.ret ?_ | refine WP.exit ?_ | refine WP.skip ?_ | refine WP.label ?_ | refine WP.condT (by rfl) ?_ | refine WP.condF (by rfl) ?_ | fail)
  obtain ⟨b1X0, m1X0, c1X0, b2X0, m2X0, c2X0, hlitX0⟩ := X0.cells
  subst hlitX0
  refine WL.var (vs := [.slice b1X0 m1X0 c1X0, .slice b2X0 m2X0 c2X0]) (fun p => by rfl) rfl two_cells ?_
  intro w8 BX0 hbl8 hzz8
  have hc8 := Chg.of_below hbl8
  have hz8 := hc8.size
  have hB8 : Below w.heap.size w w8 := hB7.trans (hc8.below (by omega) (by omega))
  replace A0 := IT.chg A0 hc8 (by omega)
  replace A1 := RI.chg A1 hc8 (by omega)
  replace BA0 := BA0.chg hc8 (by omega)
  replace W := W.chg hc8 (by omega)
  replace BW := BW.chg hc8 (by omega)
  replace X0 := X0.chg hc8 (by omega)
  repeat' (first | refine WL.step (o_s (by rfl) ?_) | refine WL.step (o_len (by rfl) ?_) | refine WL.step (o_add (by rfl) (by rfl) (by unfold InI; omega) ?_) | refine WL.step (o_sub (by rfl) (by rfl) (by unfold InI; omega) ?_) | refine WL.step (OpW.pass (by rfl) ?_) | refine WL.nil ?_ | refine thenN ?_ | refine WP.region ?_ | refine WP.seq ?_ | refine WP.block ?_ | refine thenR ?_ | refine thenX ?_ | refine blkN ?_ | refine blkHit ?_ | refine blkR ?_ | refine blkMiss (by rfl) ?_ | refine WP.ret ?_ | refine WP.exit ?_ | refine WP.skip ?_ | refine WP.label ?_ | refine WP.condT (by rfl) ?_ | refine WP.condF (by rfl) ?_ | fail)
  refine WL.call (toI A1 hn1) ?_
  intro vX1 w9 ⟨X1, hc9⟩
  have hz9 := hc9.size
  have hB9 : Below w.heap.size w w9 := hB8.trans (hc9.below (by omega) (by omega))
  replace A0 := IT.chg A0 hc9 (by omega)
  replace A1 := RI.chg A1 hc9 (by omega)
  replace BA0 := BA0.chg hc9 (by omega)
  replace W := W.chg hc9 (by omega)
  replace BW := BW.chg hc9 (by omega)
  replace X0 := X0.chg hc9 (by omega)
  replace BX0 := BX0.chg hc9 (by omega)
  repeat' (first | refine WL.step (o_s (by rfl) ?_) | refine WL.step (o_len (by rfl) ?_) | refine WL.step (o_add (by rfl) (by rfl) (by unfold InI; omega) ?_) | refine WL.step (o_sub (by rfl) (by rfl) (by unfold InI; omega) ?_) | refine WL.step (OpW.pass (by rfl) ?_) | refine WL.nil ?_ | refine thenN ?_ | refine WP.region ?_ | refine WP.seq ?_ | refine WP.block ?_ | refine thenR ?_ | refine thenX ?_ | refine blkN ?_ | refine blkHit ?_ | refine blkR ?_ | refine blkMiss (by rfl) ?_ | refine WP.ret ?_ | refine WP.exit ?_ | refine WP.skip ?_ | refine WP.label ?_ | refine WP.condT (by rfl) ?_ | refine WP.condF (by rfl) ?_ | fail)
  refine WL.step (o_loadS (by rfl) BX0 (by rfl) ?_)
  repeat' (first | refine WL.step (o_s (by rfl) ?_) | refine WL.step (o_len (by rfl) ?_) | refine WL.step (o_add (by rfl) (by rfl) (by unfold InI; omega) ?_) | refine WL.step (o_sub (by rfl) (by rfl) (by unfold InI; omega) ?_) | refine WL.step (OpW.pass (by rfl) ?_) | refine WL.nil ?_ | refine thenN ?_ | refine WP.region ?_ | refine WP.seq ?_ | refine WP.block ?_ | refine thenR ?_ | refine thenX ?_ | refine blkN ?_ | refine blkHit ?_ | refine blkR ?_ | refine blkMiss (by rfl) ?_ | refine WP.ret ?_ | refine WP.exit ?_ | refine WP.skip ?_ | refine WP.label ?_ | refine WP.condT (by rfl) ?_ | refine WP.condF (by rfl) ?_ | fail)
  refine WL.call (PermuteStages_any X0.rd X1.rd) ?_
  rintro _ w10 ⟨vG, rfl, G, hc10⟩
  have hz10 := hc10.size
  have hB10 : Below w.heap.size w w10 := hB9.trans (hc10.below (by omega) (by omega))
  replace A0 := IT.chg A0 hc10 (by omega)
  replace A1 := RI.chg A1 hc10 (by omega)
  replace BA0 := BA0.chg hc10 (by omega)
  replace W := W.chg hc10 (by omega)
  replace BW := BW.chg hc10 (by omega)
  replace X0 := X0.chg hc10 (by omega)
  replace BX0 := BX0.chg hc10 (by omega)
  replace X1 := X1.chg hc10 (by omega)
  obtain ⟨b1G, m1G, c1G, b2G, m2G, c2G, hlitG⟩ := G.cells
  subst hlitG
  repeat' (first | refine WL.step (o_s (by rfl) ?_) | refine WL.step (o_len (by rfl) ?_) | refine WL.step (o_add (by rfl) (by rfl) (by unfold InI; omega) ?_) | refine WL.step (o_sub (by rfl) (by rfl) (by unfold InI; omega) ?_) | refine WL.step (OpW.pass (by rfl) ?_) | refine WL.nil ?_ | refine thenN ?_ | refine WP.region ?_ | refine WP.seq ?_ | refine WP.block ?_ | refine thenR ?_ | refine thenX ?_ | refine blkN ?_ | refine blkHit ?_ | refine blkR ?_ | refine blkMiss (by rfl) ?_ | refine WP.ret ?_ | refine WP.exit ?_ | refine WP.skip ?_ | refine WP.label ?_ | refine WP.condT (by rfl) ?_ | refine WP.condF (by rfl) ?_ | fail)
  refine WL.var (vs := [.slice b1G m1G c1G, .slice b2G m2G c2G]) (fun p => by rfl) rfl two_cells ?_
  intro w11 BG hbl11 hzz11
  have hc11 := Chg.of_below hbl11
  have hz11 := hc11.size
  have hB11 : Below w.heap.size w w11 := hB10.trans (hc11.below (by omega) (by omega))
  replace A0 := IT.chg A0 hc11 (by omega)
  replace A1 := RI.chg A1 hc11 (by omega)
  replace BA0 := BA0.chg hc11 (by omega)
  replace W := W.chg hc11 (by omega)
  replace BW := BW.chg hc11 (by omega)
  replace X0 := X0.chg hc11 (by omega)
  replace BX0 := BX0.chg hc11 (by omega)
  replace X1 := X1.chg hc11 (by omega)
  replace G := G.chg hc11 (by omega)
  repeat' (first | refine WL.step (o_s (by rfl) ?_) | refine WL.step (o_len (by rfl) ?_) | refine WL.step (o_add (by rfl) (by rfl) (by unfold InI; omega) ?_) | refine WL.step (o_sub (by rfl) (by rfl) (by unfold InI; omega) ?_) | refine WL.step (OpW.pass (by rfl) ?_) | refine WL.nil ?_ | refine thenN ?_ | refine WP.region ?_ | refine WP.seq ?_ | refine WP.block ?_ | refine thenR ?_ | refine thenX ?_ | refine blkN ?_ | refine blkHit ?_ | refine blkR ?_ | refine blkMiss (by rfl) ?_ | refine WP.ret ?_ | refine WP.exit ?_ | refine WP.skip ?_ | refine WP.label ?_ | refine WP.condT (by rfl) ?_ | refine WP.condF (by rfl) ?_ | fail)
  refine WL.step (o_loadS (by rfl) BG (by rfl) ?_)
  repeat' (first | refine WL.step (o_s (by rfl) ?_) | refine WL.step (o_len (by rfl) ?_) | refine WL.step (o_add (by rfl) (by rfl) (by unfold InI; omega) ?_) | refine WL.step (o_sub (by rfl) (by rfl) (by unfold InI; omega) ?_) | refine WL.step (OpW.pass (by rfl) ?_) | refine WL.nil ?_ | refine thenN ?_ | refine WP.region ?_ | refine WP.seq ?_ | refine WP.block ?_ | refine thenR ?_ | refine thenX ?_ | refine blkN ?_ | refine blkHit ?_ | refine blkR ?_ | refine blkMiss (by rfl) ?_ | refine WP.ret ?_ | refine WP.exit ?_ | refine WP.skip ?_ | refine WP.label ?_ | refine WP.condT (by rfl) ?_ | refine WP.condF (by rfl) ?_ | fail)
  refine WL.step (o_loadS (by rfl) BW (by rfl) ?_)
  repeat' (first | refine WL.step (o_s (by rfl) ?_) | refine WL.step (o_len (by rfl) ?_) | refine WL.step (o_add (by rfl) (by rfl) (by unfold InI; omega) ?_) | refine WL.step (o_sub (by rfl) (by rfl) (by unfold InI; omega) ?_) | refine WL.step (OpW.pass (by rfl) ?_) | refine WL.nil ?_ | refine thenN ?_ | refine WP.region ?_ | refine WP.seq ?_ | refine WP.block ?_ | refine thenR ?_ | refine thenX ?_ | refine blkN ?_ | refine blkHit ?_ | refine blkR ?_ | refine blkMiss (by rfl) ?_ | refine WP.ret ?_ | refine WP.exit ?_ | refine WP.skip ?_ | refine WP.label ?_ | refine WP.condT (by rfl) ?_ | refine WP.condF (by rfl) ?_ | fail)
  refine WL.call (eqT_same G.rd W.rd) ?_
  rintro _ w12 ⟨rfl, hc12⟩
  have hz12 := hc12.size
  have hB12 : Below w.heap.size w w12 := hB11.trans (hc12.below (by omega) (by omega))
  replace A0 := IT.chg A0 hc12 (by omega)
  replace A1 := RI.chg A1 hc12 (by omega)
  replace BA0 := BA0.chg hc12 (by omega)
  replace W := W.chg hc12 (by omega)
  replace BW := BW.chg hc12 (by omega)
  replace X0 := X0.chg hc12 (by omega)
  replace BX0 := BX0.chg hc12 (by omega)
  replace X1 := X1.chg hc12 (by omega)
  replace G := G.chg hc12 (by omega)
  replace BG := BG.chg hc12 (by omega)
  repeat' (first | refine WL.step (o_s (by rfl) ?_) | refine WL.step (o_len (by rfl) ?_) | refine WL.step (o_add (by rfl) (by rfl) (by unfold InI; omega) ?_) | refine WL.step (o_sub (by rfl) (by rfl) (by unfold InI; omega) ?_) | refine WL.step (OpW.pass (by rfl) ?_) | refine WL.nil ?_ | refine thenN ?_ | refine WP.region ?_ | refine WP.seq ?_ | refine WP.block ?_ | refine thenR ?_ | refine thenX ?_ | refine blkN ?_ | refine blkHit ?_ | refine blkR ?_ | refine blkMiss (by rfl) ?_ | refine WP.ret ?_ | refine WP.exit ?_ | refine WP.skip ?_ | refine WP.label ?_ | refine WP.condT (by rfl) ?_ | refine WP.condF (by rfl) ?_ | fail)
  try (refine WP.condD (by rfl) (fun hbad => False.elim (by first | exact hbad rfl | omega)) (fun _ => ?_))
  repeat' (first | refine WL.step (o_s (by rfl) ?_) | refine WL.step (o_len (by rfl) ?_) | refine WL.step (o_add (by rfl) (by rfl) (by unfold InI; omega) ?_) | refine WL.step (o_sub (by rfl) (by rfl) (by unfold InI; omega) ?_) | refine WL.step (OpW.pass (by rfl) ?_) | refine WL.nil ?_ | refine thenN ?_ | refine WP.region ?_ | refine WP.seq ?_ | refine WP.block ?_ | refine thenR ?_ | refine thenX ?_ | refine blkN ?_ | refine blkHit ?_ | refine blkR ?_ | refine blkMiss (by rfl) ?_ | refine WP.ret ?_ | refine WP.exit ?_ | refine WP.skip ?_ | refine WP.label ?_ | refine WP.condT (by rfl) ?_ | refine WP.condF (by rfl) ?_ | fail)
  refine WP.drawn (fun w' => Below w12.heap.size w12 w') [(0, true), (1, true), (2, false), (3, false), (4, true)] (by kernel_rfl) mixed ?_
  intro w13 hst13
  have hc13 := Chg.of_still hst13
  have hS13 : Below w12.heap.size w12 w13 := hst13.below _
  have BX := BX0
  have BA := BA0
  have hz13 := hc13.size
  have hB13 : Below w.heap.size w w13 := hB12.trans (hc13.below (by omega) (by omega))
  replace A0 := IT.chg A0 hc13 (by omega)
  replace A1 := RI.chg A1 hc13 (by omega)
  replace BA0 := BA0.chg hc13 (by omega)
  replace W := W.chg hc13 (by omega)
  replace BW := BW.chg hc13 (by omega)
  replace X0 := X0.chg hc13 (by omega)
  replace BX0 := BX0.chg hc13 (by omega)
  replace X1 := X1.chg hc13 (by omega)
  replace G := G.chg hc13 (by omega)
  replace BG := BG.chg hc13 (by omega)
  refine WS.q rfl (q_loadS (by rfl) (fun w' h => BX.below h BX.lt) (by rfl)) hS13 ?_
  refine WS.q rfl (q_loadS (by rfl) (fun w' h => BA.below h BA.lt) (by rfl)) hS13 ?_
  refine WS.call rfl (toT A0 hn0) ?_
  intro vt0 w14 ⟨t0, hc14⟩
  have hz14 := hc14.size
  have hB14 : Below w.heap.size w w14 := hB13.trans (hc14.below (by omega) (by omega))
  replace A0 := IT.chg A0 hc14 (by omega)
  replace A1 := RI.chg A1 hc14 (by omega)
  replace BA0 := BA0.chg hc14 (by omega)
  replace W := W.chg hc14 (by omega)
  replace BW := BW.chg hc14 (by omega)
  replace X0 := X0.chg hc14 (by omega)
  replace BX0 := BX0.chg hc14 (by omega)
  replace X1 := X1.chg hc14 (by omega)
  replace G := G.chg hc14 (by omega)
  replace BG := BG.chg hc14 (by omega)
  have hS14 : Below w12.heap.size w12 w14 := hS13.trans (hc14.below (by omega) (by omega))
  refine ⟨hS14, ?_⟩
  refine WS.call rfl (eqT_same X0.rd t0.rd) ?_
  rintro _ w15 ⟨rfl, hc15⟩
  have hz15 := hc15.size
  have hB15 : Below w.heap.size w w15 := hB14.trans (hc15.below (by omega) (by omega))
  replace A0 := IT.chg A0 hc15 (by omega)
  replace A1 := RI.chg A1 hc15 (by omega)
  replace BA0 := BA0.chg hc15 (by omega)
  replace W := W.chg hc15 (by omega)
  replace BW := BW.chg hc15 (by omega)
  replace X0 := X0.chg hc15 (by omega)
  replace BX0 := BX0.chg hc15 (by omega)
  replace X1 := X1.chg hc15 (by omega)
  replace G := G.chg hc15 (by omega)
  replace BG := BG.chg hc15 (by omega)
  replace t0 := t0.chg hc15 (by omega)
  have hS15 : Below w12.heap.size w12 w15 := hS14.trans (hc15.below (by omega) (by omega))
  refine ⟨hS15, ?_⟩
  repeat' (first | refine WS.q rfl (q_s (by rfl)) (by first | rfl | assumption) ?_ | refine WS.q rfl (q_len (by rfl)) (by first | rfl | assumption) ?_ | refine WS.q rfl (q_add (by rfl) (by rfl) (by unfold InI; omega)) (by first | rfl | assumption) ?_ | refine WS.q rfl (q_sub (by rfl) (by rfl) (by unfold InI; omega)) (by first | rfl | assumption) ?_ | refine WS.q rfl (q_pass (by rfl)) (by first | rfl | assumption) ?_ | refine WS.nil ?_ | fail)
  clear BX BA
  repeat' (first | refine WL.step (o_s (by rfl) ?_) | refine WL.step (o_len (by rfl) ?_) | refine WL.step (o_add (by rfl) (by rfl) (by unfold InI; omega) ?_) | refine WL.step (o_sub (by rfl) (by rfl) (by unfold InI; omega) ?_) | refine WL.step (OpW.pass (by rfl) ?_) | refine WL.nil ?_ | refine thenN ?_ | refine WP.region ?_ | refine WP.seq ?_ | refine WP.block ?_ | refine thenR ?_ | refine thenX ?_ | refine blkN ?_ | refine blkHit ?_ | refine blkR ?_ | refine blkMiss (by rfl) ?_ | refine WP.ret ?_ | refine WP.exit ?_ | refine WP.skip ?_ | refine WP.label ?_ | refine WP.condT (by rfl) ?_ | refine WP.condF (by rfl) ?_ | fail)
  refine WL.call (toI A1 hn1) ?_
  intro vt1 w16 ⟨t1, hc16⟩
  have hz16 := hc16.size
  have hB16 : Below w.heap.size w w16 := hB15.trans (hc16.below (by omega) (by omega))
  replace A0 := IT.chg A0 hc16 (by omega)
  replace A1 := RI.chg A1 hc16 (by omega)
  replace BA0 := BA0.chg hc16 (by omega)
  replace W := W.chg hc16 (by omega)
  replace BW := BW.chg hc16 (by omega)
  replace X0 := X0.chg hc16 (by omega)
  replace BX0 := BX0.chg hc16 (by omega)
  replace X1 := X1.chg hc16 (by omega)
  replace G := G.chg hc16 (by omega)
  replace BG := BG.chg hc16 (by omega)
  repeat' (first | refine WL.step (o_s (by rfl) ?_) | refine WL.step (o_len (by rfl) ?_) | refine WL.step (o_add (by rfl) (by rfl) (by unfold InI; omega) ?_) | refine WL.step (o_sub (by rfl) (by rfl) (by unfold InI; omega) ?_) | refine WL.step (OpW.pass (by rfl) ?_) | refine WL.nil ?_ | refine thenN ?_ | refine WP.region ?_ | refine WP.seq ?_ | refine WP.block ?_ | refine thenR ?_ | refine thenX ?_ | refine blkN ?_ | refine blkHit ?_ | refine blkR ?_ | refine blkMiss (by rfl) ?_ | refine WP.ret ?_ | refine WP.exit ?_ | refine WP.skip ?_ | refine WP.label ?_ | refine WP.condT (by rfl) ?_ | refine WP.condF (by rfl) ?_ | fail)
  refine WL.call (eqI_same X1.rd t1.rd) ?_
  rintro _ w17 ⟨rfl, hc17⟩
  have hz17 := hc17.size
  have hB17 : Below w.heap.size w w17 := hB16.trans (hc17.below (by omega) (by omega))
  replace A0 := IT.chg A0 hc17 (by omega)
  replace A1 := RI.chg A1 hc17 (by omega)
  replace BA0 := BA0.chg hc17 (by omega)
  replace W := W.chg hc17 (by omega)
  replace BW := BW.chg hc17 (by omega)
  replace X0 := X0.chg hc17 (by omega)
  replace BX0 := BX0.chg hc17 (by omega)
  replace X1 := X1.chg hc17 (by omega)
  replace G := G.chg hc17 (by omega)
  replace BG := BG.chg hc17 (by omega)
  replace t1 := t1.chg hc17 (by omega)
  repeat' (first | refine WL.step (o_s (by rfl) ?_) | refine WL.step (o_len (by rfl) ?_) | refine WL.step (o_add (by rfl) (by rfl) (by unfold InI; omega) ?_) | refine WL.step (o_sub (by rfl) (by rfl) (by unfold InI; omega) ?_) | refine WL.step (OpW.pass (by rfl) ?_) | refine WL.nil ?_ | refine thenN ?_ | refine WP.region ?_ | refine WP.seq ?_ | refine WP.block ?_ | refine thenR ?_ | refine thenX ?_ | refine blkN ?_ | refine blkHit ?_ | refine blkR ?_ | refine blkMiss (by rfl) ?_ | refine WP.ret ?_ | refine WP.exit ?_ | refine WP.skip ?_ | refine WP.label ?_ | refine WP.condT (by rfl) ?_ | refine WP.condF (by rfl) ?_ | fail)
  refine WL.step (o_loadS (by rfl) BX0 (by rfl) ?_)
  repeat' (first | refine WL.step (o_s (by rfl) ?_) | refine WL.step (o_len (by rfl) ?_) | refine WL.step (o_add (by rfl) (by rfl) (by unfold InI; omega) ?_) | refine WL.step (o_sub (by rfl) (by rfl) (by unfold InI; omega) ?_) | refine WL.step (OpW.pass (by rfl) ?_) | refine WL.nil ?_ | refine thenN ?_ | refine WP.region ?_ | refine WP.seq ?_ | refine WP.block ?_ | refine thenR ?_ | refine thenX ?_ | refine blkN ?_ | refine blkHit ?_ | refine blkR ?_ | refine blkMiss (by rfl) ?_ | refine WP.ret ?_ | refine WP.exit ?_ | refine WP.skip ?_ | refine WP.label ?_ | refine WP.condT (by rfl) ?_ | refine WP.condF (by rfl) ?_ | fail)
  refine WL.call (markT_any (k := 1) X0 (by omega) (by omega)) ?_
  rintro _ w18 ⟨rfl, X0', hc18⟩
  have hz18 := hc18.size
  have hB18 : Below w.heap.size w w18 := hB17.trans (hc18.below (by omega) (by omega))
  replace A0 := IT.chg A0 hc18 (by omega)
  replace A1 := RI.chg A1 hc18 (by omega)
  replace BA0 := BA0.chg hc18 (by omega)
  replace W := W.chg hc18 (by omega)
  replace BW := BW.chg hc18 (by omega)
  replace BX0 := BX0.chg hc18 (by omega)
  replace X1 := X1.chg hc18 (by omega)
  replace G := G.chg hc18 (by omega)
  replace BG := BG.chg hc18 (by omega)
  clear X0
  repeat' (first | refine WL.step (o_s (by rfl) ?_) | refine WL.step (o_len (by rfl) ?_) | refine WL.step (o_add (by rfl) (by rfl) (by unfold InI; omega) ?_) | refine WL.step (o_sub (by rfl) (by rfl) (by unfold InI; omega) ?_) | refine WL.step (OpW.pass (by rfl) ?_) | refine WL.nil ?_ | refine thenN ?_ | refine WP.region ?_ | refine WP.seq ?_ | refine WP.block ?_ | refine thenR ?_ | refine thenX ?_ | refine blkN ?_ | refine blkHit ?_ | refine blkR ?_ | refine blkMiss (by rfl) ?_ | refine WP.ret ?_ | refine WP.exit ?_ | refine WP.skip ?_ | refine WP.label ?_ | refine WP.condT (by rfl) ?_ | refine WP.condF (by rfl) ?_ | fail)
  refine WL.call (markI (k := 1 + (tabCnt a0 : Int)) X1 (by omega) (by omega)) ?_
  rintro _ w19 ⟨rfl, X1', hc19⟩
  have hz19 := hc19.size
  have hB19 : Below w.heap.size w w19 := hB18.trans (hc19.below (by omega) (by omega))
  replace A0 := IT.chg A0 hc19 (by omega)
  replace A1 := RI.chg A1 hc19 (by omega)
  replace BA0 := BA0.chg hc19 (by omega)
  replace W := W.chg hc19 (by omega)
  replace BW := BW.chg hc19 (by omega)
  replace G := G.chg hc19 (by omega)
  replace BG := BG.chg hc19 (by omega)
  clear X1
  repeat' (first | refine WL.step (o_s (by rfl) ?_) | refine WL.step (o_len (by rfl) ?_) | refine WL.step (o_add (by rfl) (by rfl) (by unfold InI; omega) ?_) | refine WL.step (o_sub (by rfl) (by rfl) (by unfold InI; omega) ?_) | refine WL.step (OpW.pass (by rfl) ?_) | refine WL.nil ?_ | refine thenN ?_ | refine WP.region ?_ | refine WP.seq ?_ | refine WP.block ?_ | refine thenR ?_ | refine thenX ?_ | refine blkN ?_ | refine blkHit ?_ | refine blkR ?_ | refine blkMiss (by rfl) ?_ | refine WP.ret ?_ | refine WP.exit ?_ | refine WP.skip ?_ | refine WP.label ?_ | refine WP.condT (by rfl) ?_ | refine WP.condF (by rfl) ?_ | fail)
  try (refine WL.gsplitD (by rfl) (by rfl) (by rfl) (fun hbad => False.elim (by first | exact hbad rfl | omega)) (fun _ => ?_))
  repeat' (first | refine WL.step (o_s (by rfl) ?_) | refine WL.step (o_len (by rfl) ?_) | refine WL.step (o_add (by rfl) (by rfl) (by unfold InI; omega) ?_) | refine WL.step (o_sub (by rfl) (by rfl) (by unfold InI; omega) ?_) | refine WL.step (OpW.pass (by rfl) ?_) | refine WL.nil ?_ | refine thenN ?_ | refine WP.region ?_ | refine WP.seq ?_ | refine WP.block ?_ | refine thenR ?_ | refine thenX ?_ | refine blkN ?_ | refine blkHit ?_ | refine blkR ?_ | refine blkMiss (by rfl) ?_ | refine WP.ret ?_ | refine WP.exit ?_ | refine WP.skip ?_ | refine WP.label ?_ | refine WP.condT (by rfl) ?_ | refine WP.condF (by rfl) ?_ | fail)
  refine WL.step (o_loadS (by rfl) BG (by rfl) ?_)
  repeat' (first | refine WL.step (o_s (by rfl) ?_) | refine WL.step (o_len (by rfl) ?_) | refine WL.step (o_add (by rfl) (by rfl) (by unfold InI; omega) ?_) | refine WL.step (o_sub (by rfl) (by rfl) (by unfold InI; omega) ?_) | refine WL.step (OpW.pass (by rfl) ?_) | refine WL.nil ?_ | refine thenN ?_ | refine WP.region ?_ | refine WP.seq ?_ | refine WP.block ?_ | refine thenR ?_ | refine thenX ?_ | refine blkN ?_ | refine blkHit ?_ | refine blkR ?_ | refine blkMiss (by rfl) ?_ | refine WP.ret ?_ | refine WP.exit ?_ | refine WP.skip ?_ | refine WP.label ?_ | refine WP.condT (by rfl) ?_ | refine WP.condF (by rfl) ?_ | fail)
  refine WL.step (o_loadS (by rfl) BW (by rfl) ?_)
  repeat' (first | refine WL.step (o_s (by rfl) ?_) | refine WL.step (o_len (by rfl) ?_) | refine WL.step (o_add (by rfl) (by rfl) (by unfold InI; omega) ?_) | refine WL.step (o_sub (by rfl) (by rfl) (by unfold InI; omega) ?_) | refine WL.step (OpW.pass (by rfl) ?_) | refine WL.nil ?_ | refine thenN ?_ | refine WP.region ?_ | refine WP.seq ?_ | refine WP.block ?_ | refine thenR ?_ | refine thenX ?_ | refine blkN ?_ | refine blkHit ?_ | refine blkR ?_ | refine blkMiss (by rfl) ?_ | refine WP.ret ?_ | refine WP.exit ?_ | refine WP.skip ?_ | refine WP.label ?_ | refine WP.condT (by rfl) ?_ | refine WP.condF (by rfl) ?_ | fail)
  refine WL.call (eqT_same G.rd W.rd) ?_
  rintro _ w20 ⟨rfl, hc20⟩
  have hz20 := hc20.size
  have hB20 : Below w.heap.size w w20 := hB19.trans (hc20.below (by omega) (by omega))
  replace A0 := IT.chg A0 hc20 (by omega)
  replace A1 := RI.chg A1 hc20 (by omega)
  replace BA0 := BA0.chg hc20 (by omega)
  replace W := W.chg hc20 (by omega)
  replace BW := BW.chg hc20 (by omega)
  replace G := G.chg hc20 (by omega)
  replace BG := BG.chg hc20 (by omega)
  repeat' (first | refine WL.step (o_s (by rfl) ?_) | refine WL.step (o_len (by rfl) ?_) | refine WL.step (o_add (by rfl) (by rfl) (by unfold InI; omega) ?_) | refine WL.step (o_sub (by rfl) (by rfl) (by unfold InI; omega) ?_) | refine WL.step (OpW.pass (by rfl) ?_) | refine WL.nil ?_ | refine thenN ?_ | refine WP.region ?_ | refine WP.seq ?_ | refine WP.block ?_ | refine thenR ?_ | refine thenX ?_ | refine blkN ?_ | refine blkHit ?_ | refine blkR ?_ | refine blkMiss (by rfl) ?_ | refine WP.ret ?_ | refine WP.exit ?_ | refine WP.skip ?_ | refine WP.label ?_ | refine WP.condT (by rfl) ?_ | refine WP.condF (by rfl) ?_ | fail)
  try (refine WP.condD (by rfl) (fun hbad => False.elim (by first | exact hbad rfl | omega)) (fun _ => ?_))
  repeat' (first | refine WL.step (o_s (by rfl) ?_) | refine WL.step (o_len (by rfl) ?_) | refine WL.step (o_add (by rfl) (by rfl) (by unfold InI; omega) ?_) | refine WL.step (o_sub (by rfl) (by rfl) (by unfold InI; omega) ?_) | refine WL.step (OpW.pass (by rfl) ?_) | refine WL.nil ?_ | refine thenN ?_ | refine WP.region ?_ | refine WP.seq ?_ | refine WP.block ?_ | refine thenR ?_ | refine thenX ?_ | refine blkN ?_ | refine blkHit ?_ | refine blkR ?_ | refine blkMiss (by rfl) ?_ | refine WP.ret ?_ | refine WP.exit ?_ | refine WP.skip ?_ | refine WP.label ?_ | refine WP.condT (by rfl) ?_ | refine WP.condF (by rfl) ?_ | fail)
  refine WL.step (o_loadS (by rfl) BG (by rfl) ?_)
  repeat' (first | refine WL.step (o_s (by rfl) ?_) | refine WL.step (o_len (by rfl) ?_) | refine WL.step (o_add (by rfl) (by rfl) (by unfold InI; omega) ?_) | refine WL.step (o_sub (by rfl) (by rfl) (by unfold InI; omega) ?_) | refine WL.step (OpW.pass (by rfl) ?_) | refine WL.nil ?_ | refine thenN ?_ | refine WP.region ?_ | refine WP.seq ?_ | refine WP.block ?_ | refine thenR ?_ | refine thenX ?_ | refine blkN ?_ | refine blkHit ?_ | refine blkR ?_ | refine blkMiss (by rfl) ?_ | refine WP.ret ?_ | refine WP.exit ?_ | refine WP.skip ?_ | refine WP.label ?_ | refine WP.condT (by rfl) ?_ | refine WP.condF (by rfl) ?_ | fail)
  refine WL.call (markT_any (k := 1) G (by omega) (by omega)) ?_
  rintro _ w21 ⟨rfl, G', hc21⟩
  have hz21 := hc21.size
  have hB21 : Below w.heap.size w w21 := hB20.trans (hc21.below (by omega) (by omega))
  replace A0 := IT.chg A0 hc21 (by omega)
  replace A1 := RI.chg A1 hc21 (by omega)
  replace BA0 := BA0.chg hc21 (by omega)
  replace W := W.chg hc21 (by omega)
  replace BW := BW.chg hc21 (by omega)
  replace BG := BG.chg hc21 (by omega)
  clear G
  repeat' (first | refine WL.step (o_s (by rfl) ?_) | refine WL.step (o_len (by rfl) ?_) | refine WL.step (o_add (by rfl) (by rfl) (by unfold InI; omega) ?_) | refine WL.step (o_sub (by rfl) (by rfl) (by unfold InI; omega) ?_) | refine WL.step (OpW.pass (by rfl) ?_) | refine WL.nil ?_ | refine thenN ?_ | refine WP.region ?_ | refine WP.seq ?_ | refine WP.block ?_ | refine thenR ?_ | refine thenX ?_ | refine blkN ?_ | refine blkHit ?_ | refine blkR ?_ | refine blkMiss (by rfl) ?_ | refine WP.ret ?_ | refine WP.exit ?_ | refine WP.skip ?_ | refine WP.label ?_ | refine WP.condT (by rfl) ?_ | refine WP.condF (by rfl) ?_ | fail)
  refine WL.step (o_loadS (by rfl) BG (by rfl) ?_)
  repeat' (first | refine WL.step (o_s (by rfl) ?_) | refine WL.step (o_len (by rfl) ?_) | refine WL.step (o_add (by rfl) (by rfl) (by unfold InI; omega) ?_) | refine WL.step (o_sub (by rfl) (by rfl) (by unfold InI; omega) ?_) | refine WL.step (OpW.pass (by rfl) ?_) | refine WL.nil ?_ | refine thenN ?_ | refine WP.region ?_ | refine WP.seq ?_ | refine WP.block ?_ | refine thenR ?_ | refine thenX ?_ | refine blkN ?_ | refine blkHit ?_ | refine blkR ?_ | refine blkMiss (by rfl) ?_ | refine WP.ret ?_ | refine WP.exit ?_ | refine WP.skip ?_ | refine WP.label ?_ | refine WP.condT (by rfl) ?_ | refine WP.condF (by rfl) ?_ | fail)
  refine WL.call (heldT (k := 1) G'.rd (by omega) (by omega)) ?_
  rintro _ w22 ⟨rfl, hc22⟩
  have hz22 := hc22.size
  have hB22 : Below w.heap.size w w22 := hB21.trans (hc22.below (by omega) (by omega))
  replace A0 := IT.chg A0 hc22 (by omega)
  replace A1 := RI.chg A1 hc22 (by omega)
  replace BA0 := BA0.chg hc22 (by omega)
  replace W := W.chg hc22 (by omega)
  replace BW := BW.chg hc22 (by omega)
  replace BG := BG.chg hc22 (by omega)
  replace G' := G'.chg hc22 (by omega)
  repeat' (first | refine WL.step (o_s (by rfl) ?_) | refine WL.step (o_len (by rfl) ?_) | refine WL.step (o_add (by rfl) (by rfl) (by unfold InI; omega) ?_) | refine WL.step (o_sub (by rfl) (by rfl) (by unfold InI; omega) ?_) | refine WL.step (OpW.pass (by rfl) ?_) | refine WL.nil ?_ | refine thenN ?_ | refine WP.region ?_ | refine WP.seq ?_ | refine WP.block ?_ | refine thenR ?_ | refine thenX ?_ | refine blkN ?_ | refine blkHit ?_ | refine blkR ?_ | refine blkMiss (by rfl) ?_ | refine WP.ret ?_ | refine WP.exit ?_ | refine WP.skip ?_ | refine WP.label ?_ | refine WP.condT (by rfl) ?_ | refine WP.condF (by rfl) ?_ | fail)
  try (refine WP.condD (by rfl) (fun hbad => False.elim (by first | exact hbad rfl | omega)) (fun _ => ?_))
  repeat' (first | refine WL.step (o_s (by rfl) ?_) | refine WL.step (o_len (by rfl) ?_) | refine WL.step (o_add (by rfl) (by rfl) (by unfold InI; omega) ?_) | refine WL.step (o_sub (by rfl) (by rfl) (by unfold InI; omega) ?_) | refine WL.step (OpW.pass (by rfl) ?_) | refine WL.nil ?_ | refine thenN ?_ | refine WP.region ?_ | refine WP.seq ?_ | refine WP.block ?_ | refine thenR ?_ | refine thenX ?_ | refine blkN ?_ | refine blkHit ?_ | refine blkR ?_ | refine blkMiss (by rfl) ?_ | refine WP.ret ?_ | refine WP.exit ?_ | refine WP.skip ?_ | refine WP.label ?_ | refine WP.condT (by rfl) ?_ | refine WP.condF (by rfl) ?_ | fail)
  try (refine WP.condD (by rfl) (fun hbad => False.elim (by first | exact hbad rfl | omega)) (fun _ => ?_))
  repeat' (first | refine WL.step (o_s (by rfl) ?_) | refine WL.step (o_len (by rfl) ?_) | refine WL.step (o_add (by rfl) (by rfl) (by unfold InI; omega) ?_) | refine WL.step (o_sub (by rfl) (by rfl) (by unfold InI; omega) ?_) | refine WL.step (OpW.pass (by rfl) ?_) | refine WL.nil ?_ | refine thenN ?_ | refine WP.region ?_ | refine WP.seq ?_ | refine WP.block ?_ | refine thenR ?_ | refine thenX ?_ | refine blkN ?_ | refine blkHit ?_ | refine blkR ?_ | refine blkMiss (by rfl) ?_ | refine WP.ret ?_ | refine WP.exit ?_ | refine WP.skip ?_ | refine WP.label ?_ | refine WP.condT (by rfl) ?_ | refine WP.condF (by rfl) ?_ | fail)
  refine WL.step (o_loadS (by rfl) BA0 (by rfl) ?_)
  repeat' (first | refine WL.step (o_s (by rfl) ?_) | refine WL.step (o_len (by rfl) ?_) | refine WL.step (o_add (by rfl) (by rfl) (by unfold InI; omega) ?_) | refine WL.step (o_sub (by rfl) (by rfl) (by unfold InI; omega) ?_) | refine WL.step (OpW.pass (by rfl) ?_) | refine WL.nil ?_ | refine thenN ?_ | refine WP.region ?_ | refine WP.seq ?_ | refine WP.block ?_ | refine thenR ?_ | refine thenX ?_ | refine blkN ?_ | refine blkHit ?_ | refine blkR ?_ | refine blkMiss (by rfl) ?_ | refine WP.ret ?_ | refine WP.exit ?_ | refine WP.skip ?_ | refine WP.label ?_ | refine WP.condT (by rfl) ?_ | refine WP.condF (by rfl) ?_ | fail)
  refine WL.call (toT A0 hn0) ?_
  intro vy0 w23 ⟨y0, hc23⟩
  have hz23 := hc23.size
  have hB23 : Below w.heap.size w w23 := hB22.trans (hc23.below (by omega) (by omega))
  replace A0 := IT.chg A0 hc23 (by omega)
  replace A1 := RI.chg A1 hc23 (by omega)
  replace BA0 := BA0.chg hc23 (by omega)
  replace W := W.chg hc23 (by omega)
  replace BW := BW.chg hc23 (by omega)
  replace BG := BG.chg hc23 (by omega)
  replace G' := G'.chg hc23 (by omega)
  repeat' (first | refine WL.step (o_s (by rfl) ?_) | refine WL.step (o_len (by rfl) ?_) | refine WL.step (o_add (by rfl) (by rfl) (by unfold InI; omega) ?_) | refine WL.step (o_sub (by rfl) (by rfl) (by unfold InI; omega) ?_) | refine WL.step (OpW.pass (by rfl) ?_) | refine WL.nil ?_ | refine thenN ?_ | refine WP.region ?_ | refine WP.seq ?_ | refine WP.block ?_ | refine thenR ?_ | refine thenX ?_ | refine blkN ?_ | refine blkHit ?_ | refine blkR ?_ | refine blkMiss (by rfl) ?_ | refine WP.ret ?_ | refine WP.exit ?_ | refine WP.skip ?_ | refine WP.label ?_ | refine WP.condT (by rfl) ?_ | refine WP.condF (by rfl) ?_ | fail)
  refine WL.call (toI A1 hn1) ?_
  intro vy1 w24 ⟨y1, hc24⟩
  have hz24 := hc24.size
  have hB24 : Below w.heap.size w w24 := hB23.trans (hc24.below (by omega) (by omega))
  replace A0 := IT.chg A0 hc24 (by omega)
  replace A1 := RI.chg A1 hc24 (by omega)
  replace BA0 := BA0.chg hc24 (by omega)
  replace W := W.chg hc24 (by omega)
  replace BW := BW.chg hc24 (by omega)
  replace BG := BG.chg hc24 (by omega)
  replace G' := G'.chg hc24 (by omega)
  replace y0 := y0.chg hc24 (by omega)
  repeat' (first | refine WL.step (o_s (by rfl) ?_) | refine WL.step (o_len (by rfl) ?_) | refine WL.step (o_add (by rfl) (by rfl) (by unfold InI; omega) ?_) | refine WL.step (o_sub (by rfl) (by rfl) (by unfold InI; omega) ?_) | refine WL.step (OpW.pass (by rfl) ?_) | refine WL.nil ?_ | refine thenN ?_ | refine WP.region ?_ | refine WP.seq ?_ | refine WP.block ?_ | refine thenR ?_ | refine thenX ?_ | refine blkN ?_ | refine blkHit ?_ | refine blkR ?_ | refine blkMiss (by rfl) ?_ | refine WP.ret ?_ | refine WP.exit ?_ | refine WP.skip ?_ | refine WP.label ?_ | refine WP.condT (by rfl) ?_ | refine WP.condF (by rfl) ?_ | fail)
  refine WL.call (PermuteStages_any y0.rd y1.rd) ?_
  rintro _ w25 ⟨vH, rfl, H, hc25⟩
  have hz25 := hc25.size
  have hB25 : Below w.heap.size w w25 := hB24.trans (hc25.below (by omega) (by omega))
  replace A0 := IT.chg A0 hc25 (by omega)
  replace A1 := RI.chg A1 hc25 (by omega)
  replace BA0 := BA0.chg hc25 (by omega)
  replace W := W.chg hc25 (by omega)
  replace BW := BW.chg hc25 (by omega)
  replace BG := BG.chg hc25 (by omega)
  replace G' := G'.chg hc25 (by omega)
  replace y0 := y0.chg hc25 (by omega)
  replace y1 := y1.chg hc25 (by omega)
  obtain ⟨b1H, m1H, c1H, b2H, m2H, c2H, hlitH⟩ := H.cells
  subst hlitH
  repeat' (first | refine WL.step (o_s (by rfl) ?_) | refine WL.step (o_len (by rfl) ?_) | refine WL.step (o_add (by rfl) (by rfl) (by unfold InI; omega) ?_) | refine WL.step (o_sub (by rfl) (by rfl) (by unfold InI; omega) ?_) | refine WL.step (OpW.pass (by rfl) ?_) | refine WL.nil ?_ | refine thenN ?_ | refine WP.region ?_ | refine WP.seq ?_ | refine WP.block ?_ | refine thenR ?_ | refine thenX ?_ | refine blkN ?_ | refine blkHit ?_ | refine blkR ?_ | refine blkMiss (by rfl) ?_ | refine WP.ret ?_ | refine WP.exit ?_ | refine WP.skip ?_ | refine WP.label ?_ | refine WP.condT (by rfl) ?_ | refine WP.condF (by rfl) ?_ | fail)
  refine WL.var (vs := [.slice b1H m1H c1H, .slice b2H m2H c2H]) (fun p => by rfl) rfl two_cells ?_
  intro w26 BH hbl26 hzz26
  have hc26 := Chg.of_below hbl26
  have hz26 := hc26.size
  have hB26 : Below w.heap.size w w26 := hB25.trans (hc26.below (by omega) (by omega))
  replace A0 := IT.chg A0 hc26 (by omega)
  replace A1 := RI.chg A1 hc26 (by omega)
  replace BA0 := BA0.chg hc26 (by omega)
  replace W := W.chg hc26 (by omega)
  replace BW := BW.chg hc26 (by omega)
  replace BG := BG.chg hc26 (by omega)
  replace G' := G'.chg hc26 (by omega)
  replace y0 := y0.chg hc26 (by omega)
  replace y1 := y1.chg hc26 (by omega)
  replace H := H.chg hc26 (by omega)
  repeat' (first | refine WL.step (o_s (by rfl) ?_) | refine WL.step (o_len (by rfl) ?_) | refine WL.step (o_add (by rfl) (by rfl) (by unfold InI; omega) ?_) | refine WL.step (o_sub (by rfl) (by rfl) (by unfold InI; omega) ?_) | refine WL.step (OpW.pass (by rfl) ?_) | refine WL.nil ?_ | refine thenN ?_ | refine WP.region ?_ | refine WP.seq ?_ | refine WP.block ?_ | refine thenR ?_ | refine thenX ?_ | refine blkN ?_ | refine blkHit ?_ | refine blkR ?_ | refine blkMiss (by rfl) ?_ | refine WP.ret ?_ | refine WP.exit ?_ | refine WP.skip ?_ | refine WP.label ?_ | refine WP.condT (by rfl) ?_ | refine WP.condF (by rfl) ?_ | fail)
  refine WL.step (o_loadS (by rfl) BH (by rfl) ?_)
  repeat' (first | refine WL.step (o_s (by rfl) ?_) | refine WL.step (o_len (by rfl) ?_) | refine WL.step (o_add (by rfl) (by rfl) (by unfold InI; omega) ?_) | refine WL.step (o_sub (by rfl) (by rfl) (by unfold InI; omega) ?_) | refine WL.step (OpW.pass (by rfl) ?_) | refine WL.nil ?_ | refine thenN ?_ | refine WP.region ?_ | refine WP.seq ?_ | refine WP.block ?_ | refine thenR ?_ | refine thenX ?_ | refine blkN ?_ | refine blkHit ?_ | refine blkR ?_ | refine blkMiss (by rfl) ?_ | refine WP.ret ?_ | refine WP.exit ?_ | refine WP.skip ?_ | refine WP.label ?_ | refine WP.condT (by rfl) ?_ | refine WP.condF (by rfl) ?_ | fail)
  refine WL.step (o_loadS (by rfl) BW (by rfl) ?_)
  repeat' (first | refine WL.step (o_s (by rfl) ?_) | refine WL.step (o_len (by rfl) ?_) | refine WL.step (o_add (by rfl) (by rfl) (by unfold InI; omega) ?_) | refine WL.step (o_sub (by rfl) (by rfl) (by unfold InI; omega) ?_) | refine WL.step (OpW.pass (by rfl) ?_) | refine WL.nil ?_ | refine thenN ?_ | refine WP.region ?_ | refine WP.seq ?_ | refine WP.block ?_ | refine thenR ?_ | refine thenX ?_ | refine blkN ?_ | refine blkHit ?_ | refine blkR ?_ | refine blkMiss (by rfl) ?_ | refine WP.ret ?_ | refine WP.exit ?_ | refine WP.skip ?_ | refine WP.label ?_ | refine WP.condT (by rfl) ?_ | refine WP.condF (by rfl) ?_ | fail)
  refine WL.call (eqT_same H.rd W.rd) ?_
  rintro _ w27 ⟨rfl, hc27⟩
  have hz27 := hc27.size
  have hB27 : Below w.heap.size w w27 := hB26.trans (hc27.below (by omega) (by omega))
  replace A0 := IT.chg A0 hc27 (by omega)
  replace A1 := RI.chg A1 hc27 (by omega)
  replace BA0 := BA0.chg hc27 (by omega)
  replace W := W.chg hc27 (by omega)
  replace BW := BW.chg hc27 (by omega)
  replace BG := BG.chg hc27 (by omega)
  replace G' := G'.chg hc27 (by omega)
  replace H := H.chg hc27 (by omega)
  replace BH := BH.chg hc27 (by omega)
  repeat' (first | refine WL.step (o_s (by rfl) ?_) | refine WL.step (o_len (by rfl) ?_) | refine WL.step (o_add (by rfl) (by rfl) (by unfold InI; omega) ?_) | refine WL.step (o_sub (by rfl) (by rfl) (by unfold InI; omega) ?_) | refine WL.step (OpW.pass (by rfl) ?_) | refine WL.nil ?_ | refine thenN ?_ | refine WP.region ?_ | refine WP.seq ?_ | refine WP.block ?_ | refine thenR ?_ | refine thenX ?_ | refine blkN ?_ | refine blkHit ?_ | refine blkR ?_ | refine blkMiss (by rfl) ?_ | refine WP.ret ?_ | refine WP.exit ?_ | refine WP.skip ?_ | refine WP.label ?_ | refine WP.condT (by rfl) ?_ | refine WP.condF (by rfl) ?_ | fail)
  try (refine WP.condD (by rfl) (fun hbad => False.elim (by first | exact hbad rfl | omega)) (fun _ => ?_))
  repeat' (first | refine WL.step (o_s (by rfl) ?_) | refine WL.step (o_len (by rfl) ?_) | refine WL.step (o_add (by rfl) (by rfl) (by unfold InI; omega) ?_) | refine WL.step (o_sub (by rfl) (by rfl) (by unfold InI; omega) ?_) | refine WL.step (OpW.pass (by rfl) ?_) | refine WL.nil ?_ | refine thenN ?_ | refine WP.region ?_ | refine WP.seq ?_ | refine WP.block ?_ | refine thenR ?_ | refine thenX ?_ | refine blkN ?_ | refine blkHit ?_ | refine blkR ?_ | refine blkMiss (by rfl) ?_ | refine WP.ret ?_ | refine WP.exit ?_ | refine WP.skip ?_ | refine WP.label ?_ | refine WP.condT (by rfl) ?_ | refine WP.condF (by rfl) ?_ | fail)
  refine WL.step (o_loadS (by rfl) BG (by rfl) ?_)
  repeat' (first | refine WL.step (o_s (by rfl) ?_) | refine WL.step (o_len (by rfl) ?_) | refine WL.step (o_add (by rfl) (by rfl) (by unfold InI; omega) ?_) | refine WL.step (o_sub (by rfl) (by rfl) (by unfold InI; omega) ?_) | refine WL.step (OpW.pass (by rfl) ?_) | refine WL.nil ?_ | refine thenN ?_ | refine WP.region ?_ | refine WP.seq ?_ | refine WP.block ?_ | refine thenR ?_ | refine thenX ?_ | refine blkN ?_ | refine blkHit ?_ | refine blkR ?_ | refine blkMiss (by rfl) ?_ | refine WP.ret ?_ | refine WP.exit ?_ | refine WP.skip ?_ | refine WP.label ?_ | refine WP.condT (by rfl) ?_ | refine WP.condF (by rfl) ?_ | fail)
  refine WL.call (heldT (k := 1) G'.rd (by omega) (by omega)) ?_
  rintro _ w28 ⟨rfl, hc28⟩
  have hz28 := hc28.size
  have hB28 : Below w.heap.size w w28 := hB27.trans (hc28.below (by omega) (by omega))
  replace A0 := IT.chg A0 hc28 (by omega)
  replace A1 := RI.chg A1 hc28 (by omega)
  replace BA0 := BA0.chg hc28 (by omega)
  replace BG := BG.chg hc28 (by omega)
  replace G' := G'.chg hc28 (by omega)
  repeat' (first | refine WL.step (o_s (by rfl) ?_) | refine WL.step (o_len (by rfl) ?_) | refine WL.step (o_add (by rfl) (by rfl) (by unfold InI; omega) ?_) | refine WL.step (o_sub (by rfl) (by rfl) (by unfold InI; omega) ?_) | refine WL.step (OpW.pass (by rfl) ?_) | refine WL.nil ?_ | refine thenN ?_ | refine WP.region ?_ | refine WP.seq ?_ | refine WP.block ?_ | refine thenR ?_ | refine thenX ?_ | refine blkN ?_ | refine blkHit ?_ | refine blkR ?_ | refine blkMiss (by rfl) ?_ | refine WP.ret ?_ | refine WP.exit ?_ | refine WP.skip ?_ | refine WP.label ?_ | refine WP.condT (by rfl) ?_ | refine WP.condF (by rfl) ?_ | fail)
  try (refine WP.condD (by rfl) (fun hbad => False.elim (by first | exact hbad rfl | omega)) (fun _ => ?_))
  repeat' (first | refine WL.step (o_s (by rfl) ?_) | refine WL.step (o_len (by rfl) ?_) | refine WL.step (o_add (by rfl) (by rfl) (by unfold InI; omega) ?_) | refine WL.step (o_sub (by rfl) (by rfl) (by unfold InI; omega) ?_) | refine WL.step (OpW.pass (by rfl) ?_) | refine WL.nil ?_ | refine thenN ?_ | refine WP.region ?_ | refine WP.seq ?_ | refine WP.block ?_ | refine thenR ?_ | refine thenX ?_ | refine blkN ?_ | refine blkHit ?_ | refine blkR ?_ | refine blkMiss (by rfl) ?_ | refine WP.ret ?_ | refine WP.exit ?_ | refine WP.skip ?_ | refine WP.label ?_ | refine WP.condT (by rfl) ?_ | refine WP.condF (by rfl) ?_ | fail)
  try (refine WP.condD (by rfl) (fun hbad => False.elim (by first | exact hbad rfl | omega)) (fun _ => ?_))
  repeat' (first | refine WL.step (o_s (by rfl) ?_) | refine WL.step (o_len (by rfl) ?_) | refine WL.step (o_add (by rfl) (by rfl) (by unfold InI; omega) ?_) | refine WL.step (o_sub (by rfl) (by rfl) (by unfold InI; omega) ?_) | refine WL.step (OpW.pass (by rfl) ?_) | refine WL.nil ?_ | refine thenN ?_ | refine WP.region ?_ | refine WP.seq ?_ | refine WP.block ?_ | refine thenR ?_ | refine thenX ?_ | refine blkN ?_ | refine blkHit ?_ | refine blkR ?_ | refine blkMiss (by rfl) ?_ | refine WP.ret ?_ | refine WP.exit ?_ | refine WP.skip ?_ | refine WP.label ?_ | refine WP.condT (by rfl) ?_ | refine WP.condF (by rfl) ?_ | fail)
  refine ⟨_, ret1 rfl (by rfl), ?_⟩
  exact ⟨rfl, hB28⟩
end Go.Proofs
