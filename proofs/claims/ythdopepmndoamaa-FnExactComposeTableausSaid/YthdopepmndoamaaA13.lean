/- ComposeTableaus, both ways. -/
import Derived.Test.YthdopepmndoamaaA12
namespace Go.Proofs
open Go Go.Fw Go.RowKit Go.Rk
theorem nilT (w : World) (lo hi : Nat) (h1 : lo ≤ hi) (h2 : hi ≤ w.heap.size) : OwT 28 2 lo hi w (.agg #[.slice none 0 0, .slice none 0 0]) ([], []) :=
  OwT.mk (m := lo) (x := ([], [])) ⟨[], Own.nil _ _ _, fun k hk => by simp [Value.ownBlock] at hk, by omega, rfl, fun i u xs hu => by simp at hu, fun i j u u' _ hu => by simp at hu, by decide⟩ ⟨Own.nil _ _ _, fun k hk => by simp [Value.ownBlock] at hk, h2⟩ (Nat.le_refl _) h1

theorem ComposeTableaus_any {lo hi lo' hi' : Nat} {w : World} {v v' : Value} {x y : TabD} (h : IT lo hi w v x) (h' : IT lo' hi' w v' y) : Does Try.prog 50 [v, v'] w fun r w' => ResT 28 2 w r w' (composeTableaus x y) := by
  obtain ⟨va, vb, rfl, hA, hB⟩ := h
  obtain ⟨va', vb', rfl, hA', hB'⟩ := h'
  obtain ⟨a2, c2, hvb⟩ := hB.shape
  obtain ⟨a4, c4, hvb'⟩ := hB'.shape
  subst hvb hvb'
  have hz0 := hB.hi_le
  have hz0' := hB'.hi_le
  refine Does.enter Try.func50 Try.ntmps50 rfl (by rfl) ?_
  repeat' (first | refine WL.step (o_s (by rfl) ?_) | refine WL.step (o_len (by rfl) ?_) | refine WL.step (o_add (by rfl) (by rfl) (by unfold InI; omega) ?_) | refine WL.step (o_sub (by rfl) (by rfl) (by unfold InI; omega) ?_) | refine WL.step (OpW.pass (by rfl) ?_) | refine WL.nil ?_ | refine thenN ?_ | refine WP.region ?_ | refine WP.seq ?_ | refine WP.block ?_ | refine thenR ?_ | refine thenX ?_ | refine blkN ?_ | refine blkHit ?_ | refine blkR ?_ | refine blkMiss (by rfl) ?_ | refine WP.ret ?_ | refine WP.exit ?_ | refine WP.skip ?_ | refine WP.label ?_ | refine WP.condT (by rfl) ?_ | refine WP.condF (by rfl) ?_ | fail)
  refine WL.step (o_box (by rfl) ?_)
  intro w1 hb1 hbl1 hz1
  refine WL.step (o_box (by rfl) ?_)
  intro w2 hb2 hbl2 hz2
  refine WL.step (o_alloc ?_)
  intro w3 hb4 hbl3 hz3
  have hbl0 : Below w.heap.size w w3 := hbl1.trans ((Below.mono hbl2 (by omega)).trans (Below.mono hbl3 (by omega)))
  have hc0 := Chg.of_below hbl0
  replace hb1 := (hb1.below hbl2 (by omega)).below hbl3 (by omega)
  replace hb2 := hb2.below hbl3 (by omega)
  have hT : IT lo hi w (.agg #[va, .slice a2 x.2.length c2]) x := ⟨_, _, rfl, hA, hB⟩
  have hT' : IT lo' hi' w (.agg #[va', .slice a4 y.2.length c4]) y := ⟨_, _, rfl, hA', hB'⟩
  replace hT := hT.chg hc0 (by omega)
  replace hT' := hT'.chg hc0 (by omega)
  repeat' (first | refine WL.step (o_s (by rfl) ?_) | refine WL.step (o_len (by rfl) ?_) | refine WL.step (o_add (by rfl) (by rfl) (by unfold InI; omega) ?_) | refine WL.step (o_sub (by rfl) (by rfl) (by unfold InI; omega) ?_) | refine WL.step (OpW.pass (by rfl) ?_) | refine WL.nil ?_ | refine thenN ?_ | refine WP.region ?_ | refine WP.seq ?_ | refine WP.block ?_ | refine thenR ?_ | refine thenX ?_ | refine blkN ?_ | refine blkHit ?_ | refine blkR ?_ | refine blkMiss (by rfl) ?_ | refine WP.ret ?_ | refine WP.exit ?_ | refine WP.skip ?_ | refine WP.label ?_ | refine WP.condT (by rfl) ?_ | refine WP.condF (by rfl) ?_ | fail)
  refine WL.step (o_loadS (by rfl) hb1 (by rfl) ?_)
  refine WL.call (IsTableau_any hT) ?_
  rintro _ w4 ⟨rfl, hc4⟩
  have hz4 := hc4.size
  replace hT := hT.chg hc4 (by omega)
  replace hT' := hT'.chg hc4 (by omega)
  replace hb1 := hb1.chg0 hc4
  replace hb2 := hb2.chg0 hc4
  replace hb4 := hb4.chg0 hc4
  have hc04 := hc0.trans hc4
  repeat' (first | refine WL.step (o_s (by rfl) ?_) | refine WL.step (o_len (by rfl) ?_) | refine WL.step (o_add (by rfl) (by rfl) (by unfold InI; omega) ?_) | refine WL.step (o_sub (by rfl) (by rfl) (by unfold InI; omega) ?_) | refine WL.step (OpW.pass (by rfl) ?_) | refine WL.nil ?_ | refine thenN ?_ | refine WP.region ?_ | refine WP.seq ?_ | refine WP.block ?_ | refine thenR ?_ | refine thenX ?_ | refine blkN ?_ | refine blkHit ?_ | refine blkR ?_ | refine blkMiss (by rfl) ?_ | refine WP.ret ?_ | refine WP.exit ?_ | refine WP.skip ?_ | refine WP.label ?_ | refine WP.condT (by rfl) ?_ | refine WP.condF (by rfl) ?_ | fail)
  first | refine WL.gsplitD (by rfl) (by rfl) (by rfl) (fun _ => ?_) (fun _ => ?_) | refine WL.gsplitND (by rfl) (by rfl) (by rfl) (fun _ => ?_) (fun _ => ?_) | refine WL.gsplitN (by rfl) (by rfl) (by rfl) (fun _ => ?_) (fun _ => ?_) | refine WL.gsplit (by rfl) (by rfl) (by rfl) (fun _ => ?_) (fun _ => ?_) | fail
  · rename_i hbad
    repeat' (first | refine WL.step (o_s (by rfl) ?_) | refine WL.step (o_len (by rfl) ?_) | refine WL.step (o_add (by rfl) (by rfl) (by unfold InI; omega) ?_) | refine WL.step (o_sub (by rfl) (by rfl) (by unfold InI; omega) ?_) | refine WL.step (OpW.pass (by rfl) ?_) | refine WL.nil ?_ | refine thenN ?_ | refine WP.region ?_ | refine WP.seq ?_ | refine WP.block ?_ | refine thenR ?_ | refine thenX ?_ | refine blkN ?_ | refine blkHit ?_ | refine blkR ?_ | refine blkMiss (by rfl) ?_ | refine WP.ret ?_ | refine WP.exit ?_ | refine WP.skip ?_ | refine WP.label ?_ | refine WP.condT (by rfl) ?_ | refine WP.condF (by rfl) ?_ | fail)
    refine WL.step (o_build (us := []) (cells := [.slice none 0 0, .slice none 0 0]) (by rfl) (by kernel_rfl) ?_)
    refine WL.step (o_storeS (vs := [.slice none 0 0, .slice none 0 0]) (by rfl) (by rfl) hb4 (by rfl) (by rfl) two_cells ?_)
    intro w9 hb9 hbut9
    have hc9 := hbut9.chg
    have hz9 := hbut9.size
    repeat' (first | refine WL.step (o_s (by rfl) ?_) | refine WL.step (o_len (by rfl) ?_) | refine WL.step (o_add (by rfl) (by rfl) (by unfold InI; omega) ?_) | refine WL.step (o_sub (by rfl) (by rfl) (by unfold InI; omega) ?_) | refine WL.step (OpW.pass (by rfl) ?_) | refine WL.nil ?_ | refine thenN ?_ | refine WP.region ?_ | refine WP.seq ?_ | refine WP.block ?_ | refine thenR ?_ | refine thenX ?_ | refine blkN ?_ | refine blkHit ?_ | refine blkR ?_ | refine blkMiss (by rfl) ?_ | refine WP.ret ?_ | refine WP.exit ?_ | refine WP.skip ?_ | refine WP.label ?_ | refine WP.condT (by rfl) ?_ | refine WP.condF (by rfl) ?_ | fail)
    have e : composeTableaus x y = (([], []), 1) := by simp [composeTableaus, hbad]
    rw [e]
    refine ⟨_, retS1 rfl (by rfl) hb9 (by rfl) (by rfl), _, rfl, nilT _ _ _ (by omega) (Nat.le_refl _), ?_⟩
    refine ⟨by rw [hc9.os, hc04.os], by rw [hc9.tape, hc04.tape], by rw [hc9.output, hc04.output], by omega, fun k hk hd => ?_⟩
    rw [hc9.block k (by omega) (by omega), hc04.block k hk (by omega)]
  rename_i hok
  repeat' (first | refine WL.step (o_s (by rfl) ?_) | refine WL.step (o_len (by rfl) ?_) | refine WL.step (o_add (by rfl) (by rfl) (by unfold InI; omega) ?_) | refine WL.step (o_sub (by rfl) (by rfl) (by unfold InI; omega) ?_) | refine WL.step (OpW.pass (by rfl) ?_) | refine WL.nil ?_ | refine thenN ?_ | refine WP.region ?_ | refine WP.seq ?_ | refine WP.block ?_ | refine thenR ?_ | refine thenX ?_ | refine blkN ?_ | refine blkHit ?_ | refine blkR ?_ | refine blkMiss (by rfl) ?_ | refine WP.ret ?_ | refine WP.exit ?_ | refine WP.skip ?_ | refine WP.label ?_ | refine WP.condT (by rfl) ?_ | refine WP.condF (by rfl) ?_ | fail)
  refine WL.step (o_loadS (by rfl) hb2 (by rfl) ?_)
  refine WL.call (IsTableau_any hT') ?_
  rintro _ w5 ⟨rfl, hc5⟩
  have hz5 := hc5.size
  replace hT := hT.chg hc5 (by omega)
  replace hT' := hT'.chg hc5 (by omega)
  replace hb1 := hb1.chg0 hc5
  replace hb2 := hb2.chg0 hc5
  replace hb4 := hb4.chg0 hc5
  have hc05 := hc04.trans hc5
  repeat' (first | refine WL.step (o_s (by rfl) ?_) | refine WL.step (o_len (by rfl) ?_) | refine WL.step (o_add (by rfl) (by rfl) (by unfold InI; omega) ?_) | refine WL.step (o_sub (by rfl) (by rfl) (by unfold InI; omega) ?_) | refine WL.step (OpW.pass (by rfl) ?_) | refine WL.nil ?_ | refine thenN ?_ | refine WP.region ?_ | refine WP.seq ?_ | refine WP.block ?_ | refine thenR ?_ | refine thenX ?_ | refine blkN ?_ | refine blkHit ?_ | refine blkR ?_ | refine blkMiss (by rfl) ?_ | refine WP.ret ?_ | refine WP.exit ?_ | refine WP.skip ?_ | refine WP.label ?_ | refine WP.condT (by rfl) ?_ | refine WP.condF (by rfl) ?_ | fail)
  first | refine WP.condD (by rfl) (fun _ => ?_) (fun _ => ?_) | refine WP.condND (by rfl) (fun _ => ?_) (fun _ => ?_) | refine WP.condN (by rfl) (fun _ => ?_) (fun _ => ?_) | refine WP.cond (by rfl) (fun _ => ?_) (fun _ => ?_) | fail
  · rename_i hbad
    repeat' (first | refine WL.step (o_s (by rfl) ?_) | refine WL.step (o_len (by rfl) ?_) | refine WL.step (o_add (by rfl) (by rfl) (by unfold InI; omega) ?_) | refine WL.step (o_sub (by rfl) (by rfl) (by unfold InI; omega) ?_) | refine WL.step (OpW.pass (by rfl) ?_) | refine WL.nil ?_ | refine thenN ?_ | refine WP.region ?_ | refine WP.seq ?_ | refine WP.block ?_ | refine thenR ?_ | refine thenX ?_ | refine blkN ?_ | refine blkHit ?_ | refine blkR ?_ | refine blkMiss (by rfl) ?_ | refine WP.ret ?_ | refine WP.exit ?_ | refine WP.skip ?_ | refine WP.label ?_ | refine WP.condT (by rfl) ?_ | refine WP.condF (by rfl) ?_ | fail)
    refine WL.step (o_build (us := []) (cells := [.slice none 0 0, .slice none 0 0]) (by rfl) (by kernel_rfl) ?_)
    refine WL.step (o_storeS (vs := [.slice none 0 0, .slice none 0 0]) (by rfl) (by rfl) hb4 (by rfl) (by rfl) two_cells ?_)
    intro w9 hb9 hbut9
    have hc9 := hbut9.chg
    have hz9 := hbut9.size
    repeat' (first | refine WL.step (o_s (by rfl) ?_) | refine WL.step (o_len (by rfl) ?_) | refine WL.step (o_add (by rfl) (by rfl) (by unfold InI; omega) ?_) | refine WL.step (o_sub (by rfl) (by rfl) (by unfold InI; omega) ?_) | refine WL.step (OpW.pass (by rfl) ?_) | refine WL.nil ?_ | refine thenN ?_ | refine WP.region ?_ | refine WP.seq ?_ | refine WP.block ?_ | refine thenR ?_ | refine thenX ?_ | refine blkN ?_ | refine blkHit ?_ | refine blkR ?_ | refine blkMiss (by rfl) ?_ | refine WP.ret ?_ | refine WP.exit ?_ | refine WP.skip ?_ | refine WP.label ?_ | refine WP.condT (by rfl) ?_ | refine WP.condF (by rfl) ?_ | fail)
    have e : composeTableaus x y = (([], []), 1) := by simp [composeTableaus, hbad]
    rw [e]
    refine ⟨_, retS1 rfl (by rfl) hb9 (by rfl) (by rfl), _, rfl, nilT _ _ _ (by omega) (Nat.le_refl _), ?_⟩
    refine ⟨by rw [hc9.os, hc05.os], by rw [hc9.tape, hc05.tape], by rw [hc9.output, hc05.output], by omega, fun k hk hd => ?_⟩
    rw [hc9.block k (by omega) (by omega), hc05.block k hk (by omega)]
  rename_i hok'
  have htx := isTab_iff hok
  have hty := isTab_iff hok'
  have hx8 := htx.le8
  have hy8 := hty.le8
  repeat' (first | refine WL.step (o_s (by rfl) ?_) | refine WL.step (o_len (by rfl) ?_) | refine WL.step (o_add (by rfl) (by rfl) (by unfold InI; omega) ?_) | refine WL.step (o_sub (by rfl) (by rfl) (by unfold InI; omega) ?_) | refine WL.step (OpW.pass (by rfl) ?_) | refine WL.nil ?_ | refine thenN ?_ | refine WP.region ?_ | refine WP.seq ?_ | refine WP.block ?_ | refine thenR ?_ | refine thenX ?_ | refine blkN ?_ | refine blkHit ?_ | refine blkR ?_ | refine blkMiss (by rfl) ?_ | refine WP.ret ?_ | refine WP.exit ?_ | refine WP.skip ?_ | refine WP.label ?_ | refine WP.condT (by rfl) ?_ | refine WP.condF (by rfl) ?_ | fail)
  refine WP.drawn (fun w' => Below w5.heap.size w5 w') [(0, true), (2, true), (1, false), (3, false), (4, true), (5, true), (6, true)] (by kernel_rfl) mixed ?_
  intro w6 hs6
  have hS6 : Below w5.heap.size w5 w6 := hs6.below _
  have hz6 := hs6.size
  have hlt1 := hb1.lt
  have hlt2 := hb2.lt
  refine WS.q rfl (q_loadS (by rfl) (fun w' h => hb1.below h hlt1) (by rfl)) hS6 ?_
  refine WS.q rfl (q_loadS (by rfl) (fun w' h => hb2.below h hlt2) (by rfl)) hS6 ?_
  refine WS.call rfl (stages_any (hT.chg (Chg.of_still hs6) (by omega))) ?_
  rintro _ w7 ⟨rfl, hc7⟩
  have hz7 := hc7.size
  have hS7 : Below w5.heap.size w5 w7 := hS6.trans (hc7.below (by omega) (by omega))
  refine ⟨hS7, ?_⟩
  refine WS.call rfl (stages_any ((hT'.chg (Chg.of_still hs6) (by omega)).chg hc7 (by omega))) ?_
  rintro _ w8 ⟨rfl, hc8⟩
  have hz8 := hc8.size
  have hS8 : Below w5.heap.size w5 w8 := hS7.trans (hc8.below (by omega) (by omega))
  refine ⟨hS8, ?_⟩
  repeat' (first | refine WS.q rfl (q_s (by rfl)) (by first | rfl | assumption) ?_ | refine WS.q rfl (q_len (by rfl)) (by first | rfl | assumption) ?_ | refine WS.q rfl (q_add (by rfl) (by rfl) (by unfold InI; omega)) (by first | rfl | assumption) ?_ | refine WS.q rfl (q_sub (by rfl) (by rfl) (by unfold InI; omega)) (by first | rfl | assumption) ?_ | refine WS.q rfl (q_pass (by rfl)) (by first | rfl | assumption) ?_ | refine WS.nil ?_ | fail)
  have hcc := Chg.of_below hS8
  replace hT := hT.chg hcc (by omega)
  replace hT' := hT'.chg hcc (by omega)
  replace hb1 := hb1.chg0 hcc
  replace hb2 := hb2.chg0 hcc
  replace hb4 := hb4.chg0 hcc
  have hc08 := hc05.trans hcc
  repeat' (first | refine WL.step (o_s (by rfl) ?_) | refine WL.step (o_len (by rfl) ?_) | refine WL.step (o_add (by rfl) (by rfl) (by unfold InI; omega) ?_) | refine WL.step (o_sub (by rfl) (by rfl) (by unfold InI; omega) ?_) | refine WL.step (OpW.pass (by rfl) ?_) | refine WL.nil ?_ | refine thenN ?_ | refine WP.region ?_ | refine WP.seq ?_ | refine WP.block ?_ | refine thenR ?_ | refine thenX ?_ | refine blkN ?_ | refine blkHit ?_ | refine blkR ?_ | refine blkMiss (by rfl) ?_ | refine WP.ret ?_ | refine WP.exit ?_ | refine WP.skip ?_ | refine WP.label ?_ | refine WP.condT (by rfl) ?_ | refine WP.condF (by rfl) ?_ | fail)
  first | refine WP.condD (by rfl) (fun _ => ?_) (fun _ => ?_) | refine WP.condND (by rfl) (fun _ => ?_) (fun _ => ?_) | refine WP.condN (by rfl) (fun _ => ?_) (fun _ => ?_) | refine WP.cond (by rfl) (fun _ => ?_) (fun _ => ?_) | fail
  · rename_i hbad
    repeat' (first | refine WL.step (o_s (by rfl) ?_) | refine WL.step (o_len (by rfl) ?_) | refine WL.step (o_add (by rfl) (by rfl) (by unfold InI; omega) ?_) | refine WL.step (o_sub (by rfl) (by rfl) (by unfold InI; omega) ?_) | refine WL.step (OpW.pass (by rfl) ?_) | refine WL.nil ?_ | refine thenN ?_ | refine WP.region ?_ | refine WP.seq ?_ | refine WP.block ?_ | refine thenR ?_ | refine thenX ?_ | refine blkN ?_ | refine blkHit ?_ | refine blkR ?_ | refine blkMiss (by rfl) ?_ | refine WP.ret ?_ | refine WP.exit ?_ | refine WP.skip ?_ | refine WP.label ?_ | refine WP.condT (by rfl) ?_ | refine WP.condF (by rfl) ?_ | fail)
    refine WL.step (o_build (us := []) (cells := [.slice none 0 0, .slice none 0 0]) (by rfl) (by kernel_rfl) ?_)
    refine WL.step (o_storeS (vs := [.slice none 0 0, .slice none 0 0]) (by rfl) (by rfl) hb4 (by rfl) (by rfl) two_cells ?_)
    intro w9 hb9 hbut9
    have hc9 := hbut9.chg
    have hz9 := hbut9.size
    repeat' (first | refine WL.step (o_s (by rfl) ?_) | refine WL.step (o_len (by rfl) ?_) | refine WL.step (o_add (by rfl) (by rfl) (by unfold InI; omega) ?_) | refine WL.step (o_sub (by rfl) (by rfl) (by unfold InI; omega) ?_) | refine WL.step (OpW.pass (by rfl) ?_) | refine WL.nil ?_ | refine thenN ?_ | refine WP.region ?_ | refine WP.seq ?_ | refine WP.block ?_ | refine thenR ?_ | refine thenX ?_ | refine blkN ?_ | refine blkHit ?_ | refine blkR ?_ | refine blkMiss (by rfl) ?_ | refine WP.ret ?_ | refine WP.exit ?_ | refine WP.skip ?_ | refine WP.label ?_ | refine WP.condT (by rfl) ?_ | refine WP.condF (by rfl) ?_ | fail)
    have e : composeTableaus x y = (([], []), 3) := by simp [composeTableaus, hok, hok', show x.2.length + y.2.length > 8 from by omega]
    rw [e]
    refine ⟨_, retS1 rfl (by rfl) hb9 (by rfl) (by rfl), _, rfl, nilT _ _ _ (by omega) (Nat.le_refl _), ?_⟩
    refine ⟨by rw [hc9.os, hc08.os], by rw [hc9.tape, hc08.tape], by rw [hc9.output, hc08.output], by omega, fun k hk hd => ?_⟩
    rw [hc9.block k (by omega) (by omega), hc08.block k hk (by omega)]
  rename_i hsm
  repeat' (first | refine WL.step (o_s (by rfl) ?_) | refine WL.step (o_len (by rfl) ?_) | refine WL.step (o_add (by rfl) (by rfl) (by unfold InI; omega) ?_) | refine WL.step (o_sub (by rfl) (by rfl) (by unfold InI; omega) ?_) | refine WL.step (OpW.pass (by rfl) ?_) | refine WL.nil ?_ | refine thenN ?_ | refine WP.region ?_ | refine WP.seq ?_ | refine WP.block ?_ | refine thenR ?_ | refine thenX ?_ | refine blkN ?_ | refine blkHit ?_ | refine blkR ?_ | refine blkMiss (by rfl) ?_ | refine WP.ret ?_ | refine WP.exit ?_ | refine WP.skip ?_ | refine WP.label ?_ | refine WP.condT (by rfl) ?_ | refine WP.condF (by rfl) ?_ | fail)
  refine WL.step (o_loadS (by rfl) hb1 (by rfl) ?_)
  refine WL.step (o_loadS (by rfl) hb2 (by rfl) ?_)
  refine WL.call (composed_any hT hT' htx hty) ?_
  rintro v9 w9 ⟨oT, hc9⟩
  have hz9 := hc9.size
  replace hb4 := hb4.chg0 hc9
  obtain ⟨aq, nq, cq, ar, nr, cr, rfl⟩ := oT.cells
  refine WL.step (o_storeS (vs := [.slice aq nq cq, .slice ar nr cr]) (by rfl) (by rfl) hb4 (by rfl) (by rfl) two_cells ?_)
  intro w10 hb10 hbut10
  have hc10 := hbut10.chg
  have hz10 := hbut10.size
  repeat' (first | refine WL.step (o_s (by rfl) ?_) | refine WL.step (o_len (by rfl) ?_) | refine WL.step (o_add (by rfl) (by rfl) (by unfold InI; omega) ?_) | refine WL.step (o_sub (by rfl) (by rfl) (by unfold InI; omega) ?_) | refine WL.step (OpW.pass (by rfl) ?_) | refine WL.nil ?_ | refine thenN ?_ | refine WP.region ?_ | refine WP.seq ?_ | refine WP.block ?_ | refine thenR ?_ | refine thenX ?_ | refine blkN ?_ | refine blkHit ?_ | refine blkR ?_ | refine blkMiss (by rfl) ?_ | refine WP.ret ?_ | refine WP.exit ?_ | refine WP.skip ?_ | refine WP.label ?_ | refine WP.condT (by rfl) ?_ | refine WP.condF (by rfl) ?_ | fail)
  have e : composeTableaus x y = (composeL x y, 0) := by
    unfold composeTableaus
    rw [if_pos ⟨hok, hok'⟩, if_neg (by omega)]
  rw [e]
  refine ⟨_, retS1 rfl (by rfl) hb10 (by rfl) (by rfl), _, rfl, ?_, ?_⟩
  · exact (oT.chg hc10 (by omega)).wide (by omega) (by omega) (by omega)
  · refine ⟨by rw [hc10.os, hc9.os, hc08.os], by rw [hc10.tape, hc9.tape, hc08.tape], by rw [hc10.output, hc9.output, hc08.output], by omega, fun k hk hd => ?_⟩
    rw [hc10.block k (by omega) (by omega), hc9.block k (by omega) (by omega), hc08.block k hk (by omega)]

theorem sComposeTableaus_any {lo hi lo' hi' : Nat} {w : World} {v v' : Value} {x y : TabD} (h : IT lo hi w v x) (h' : IT lo' hi' w v' y) : Does Try.prog 49 [v, v'] w fun r w' => ResT 28 2 w r w' (composeTableaus x y) := by
  obtain ⟨va, vb, rfl, hA, hB⟩ := h
  obtain ⟨va', vb', rfl, hA', hB'⟩ := h'
  obtain ⟨a2, c2, hvb⟩ := hB.shape
  obtain ⟨a4, c4, hvb'⟩ := hB'.shape
  subst hvb hvb'
  have hz0 := hB.hi_le
  have hz0' := hB'.hi_le
  refine Does.enter Try.func49 Try.ntmps49 rfl (by rfl) ?_
  repeat' (first | refine WL.step (o_s (by rfl) ?_) | refine WL.step (o_len (by rfl) ?_) | refine WL.step (o_add (by rfl) (by rfl) (by unfold InI; omega) ?_) | refine WL.step (o_sub (by rfl) (by rfl) (by unfold InI; omega) ?_) | refine WL.step (OpW.pass (by rfl) ?_) | refine WL.nil ?_ | refine thenN ?_ | refine WP.region ?_ | refine WP.seq ?_ | refine WP.block ?_ | refine thenR ?_ | refine thenX ?_ | refine blkN ?_ | refine blkHit ?_ | refine blkR ?_ | refine blkMiss (by rfl) ?_ | refine WP.ret ?_ | refine WP.exit ?_ | refine WP.skip ?_ | refine WP.label ?_ | refine WP.condT (by rfl) ?_ | refine WP.condF (by rfl) ?_ | fail)
  refine WL.step (o_box (by rfl) ?_)
  intro w1 hb1 hbl1 hz1
  refine WL.step (o_box (by rfl) ?_)
  intro w2 hb2 hbl2 hz2
  refine WL.step (o_alloc ?_)
  intro w3 hb4 hbl3 hz3
  have hbl0 : Below w.heap.size w w3 := hbl1.trans ((Below.mono hbl2 (by omega)).trans (Below.mono hbl3 (by omega)))
  have hc0 := Chg.of_below hbl0
  replace hb1 := (hb1.below hbl2 (by omega)).below hbl3 (by omega)
  replace hb2 := hb2.below hbl3 (by omega)
  have hT : IT lo hi w (.agg #[va, .slice a2 x.2.length c2]) x := ⟨_, _, rfl, hA, hB⟩
  have hT' : IT lo' hi' w (.agg #[va', .slice a4 y.2.length c4]) y := ⟨_, _, rfl, hA', hB'⟩
  replace hT := hT.chg hc0 (by omega)
  replace hT' := hT'.chg hc0 (by omega)
  repeat' (first | refine WL.step (o_s (by rfl) ?_) | refine WL.step (o_len (by rfl) ?_) | refine WL.step (o_add (by rfl) (by rfl) (by unfold InI; omega) ?_) | refine WL.step (o_sub (by rfl) (by rfl) (by unfold InI; omega) ?_) | refine WL.step (OpW.pass (by rfl) ?_) | refine WL.nil ?_ | refine thenN ?_ | refine WP.region ?_ | refine WP.seq ?_ | refine WP.block ?_ | refine thenR ?_ | refine thenX ?_ | refine blkN ?_ | refine blkHit ?_ | refine blkR ?_ | refine blkMiss (by rfl) ?_ | refine WP.ret ?_ | refine WP.exit ?_ | refine WP.skip ?_ | refine WP.label ?_ | refine WP.condT (by rfl) ?_ | refine WP.condF (by rfl) ?_ | fail)
  refine WL.step (o_loadS (by rfl) hb1 (by rfl) ?_)
  refine WL.call (l09Is_any hT) ?_
  rintro _ w4 ⟨rfl, hc4⟩
  have hz4 := hc4.size
  replace hT := hT.chg hc4 (by omega)
  replace hT' := hT'.chg hc4 (by omega)
  replace hb1 := hb1.chg0 hc4
  replace hb2 := hb2.chg0 hc4
  replace hb4 := hb4.chg0 hc4
  have hc04 := hc0.trans hc4
  repeat' (first | refine WL.step (o_s (by rfl) ?_) | refine WL.step (o_len (by rfl) ?_) | refine WL.step (o_add (by rfl) (by rfl) (by unfold InI; omega) ?_) | refine WL.step (o_sub (by rfl) (by rfl) (by unfold InI; omega) ?_) | refine WL.step (OpW.pass (by rfl) ?_) | refine WL.nil ?_ | refine thenN ?_ | refine WP.region ?_ | refine WP.seq ?_ | refine WP.block ?_ | refine thenR ?_ | refine thenX ?_ | refine blkN ?_ | refine blkHit ?_ | refine blkR ?_ | refine blkMiss (by rfl) ?_ | refine WP.ret ?_ | refine WP.exit ?_ | refine WP.skip ?_ | refine WP.label ?_ | refine WP.condT (by rfl) ?_ | refine WP.condF (by rfl) ?_ | fail)
  first | refine WL.gsplitD (by rfl) (by rfl) (by rfl) (fun _ => ?_) (fun _ => ?_) | refine WL.gsplitND (by rfl) (by rfl) (by rfl) (fun _ => ?_) (fun _ => ?_) | refine WL.gsplitN (by rfl) (by rfl) (by rfl) (fun _ => ?_) (fun _ => ?_) | refine WL.gsplit (by rfl) (by rfl) (by rfl) (fun _ => ?_) (fun _ => ?_) | fail
  · rename_i hbad
    repeat' (first | refine WL.step (o_s (by rfl) ?_) | refine WL.step (o_len (by rfl) ?_) | refine WL.step (o_add (by rfl) (by rfl) (by unfold InI; omega) ?_) | refine WL.step (o_sub (by rfl) (by rfl) (by unfold InI; omega) ?_) | refine WL.step (OpW.pass (by rfl) ?_) | refine WL.nil ?_ | refine thenN ?_ | refine WP.region ?_ | refine WP.seq ?_ | refine WP.block ?_ | refine thenR ?_ | refine thenX ?_ | refine blkN ?_ | refine blkHit ?_ | refine blkR ?_ | refine blkMiss (by rfl) ?_ | refine WP.ret ?_ | refine WP.exit ?_ | refine WP.skip ?_ | refine WP.label ?_ | refine WP.condT (by rfl) ?_ | refine WP.condF (by rfl) ?_ | fail)
    refine WL.step (o_build (us := []) (cells := [.slice none 0 0, .slice none 0 0]) (by rfl) (by kernel_rfl) ?_)
    refine WL.step (o_storeS (vs := [.slice none 0 0, .slice none 0 0]) (by rfl) (by rfl) hb4 (by rfl) (by rfl) two_cells ?_)
    intro w9 hb9 hbut9
    have hc9 := hbut9.chg
    have hz9 := hbut9.size
    repeat' (first | refine WL.step (o_s (by rfl) ?_) | refine WL.step (o_len (by rfl) ?_) | refine WL.step (o_add (by rfl) (by rfl) (by unfold InI; omega) ?_) | refine WL.step (o_sub (by rfl) (by rfl) (by unfold InI; omega) ?_) | refine WL.step (OpW.pass (by rfl) ?_) | refine WL.nil ?_ | refine thenN ?_ | refine WP.region ?_ | refine WP.seq ?_ | refine WP.block ?_ | refine thenR ?_ | refine thenX ?_ | refine blkN ?_ | refine blkHit ?_ | refine blkR ?_ | refine blkMiss (by rfl) ?_ | refine WP.ret ?_ | refine WP.exit ?_ | refine WP.skip ?_ | refine WP.label ?_ | refine WP.condT (by rfl) ?_ | refine WP.condF (by rfl) ?_ | fail)
    have e : composeTableaus x y = (([], []), 1) := by simp [composeTableaus, hbad]
    rw [e]
    refine ⟨_, retS1 rfl (by rfl) hb9 (by rfl) (by rfl), _, rfl, nilT _ _ _ (by omega) (Nat.le_refl _), ?_⟩
    refine ⟨by rw [hc9.os, hc04.os], by rw [hc9.tape, hc04.tape], by rw [hc9.output, hc04.output], by omega, fun k hk hd => ?_⟩
    rw [hc9.block k (by omega) (by omega), hc04.block k hk (by omega)]
  rename_i hok
  repeat' (first | refine WL.step (o_s (by rfl) ?_) | refine WL.step (o_len (by rfl) ?_) | refine WL.step (o_add (by rfl) (by rfl) (by unfold InI; omega) ?_) | refine WL.step (o_sub (by rfl) (by rfl) (by unfold InI; omega) ?_) | refine WL.step (OpW.pass (by rfl) ?_) | refine WL.nil ?_ | refine thenN ?_ | refine WP.region ?_ | refine WP.seq ?_ | refine WP.block ?_ | refine thenR ?_ | refine thenX ?_ | refine blkN ?_ | refine blkHit ?_ | refine blkR ?_ | refine blkMiss (by rfl) ?_ | refine WP.ret ?_ | refine WP.exit ?_ | refine WP.skip ?_ | refine WP.label ?_ | refine WP.condT (by rfl) ?_ | refine WP.condF (by rfl) ?_ | fail)
  refine WL.step (o_loadS (by rfl) hb2 (by rfl) ?_)
  refine WL.call (l09Is_any hT') ?_
  rintro _ w5 ⟨rfl, hc5⟩
  have hz5 := hc5.size
  replace hT := hT.chg hc5 (by omega)
  replace hT' := hT'.chg hc5 (by omega)
  replace hb1 := hb1.chg0 hc5
  replace hb2 := hb2.chg0 hc5
  replace hb4 := hb4.chg0 hc5
  have hc05 := hc04.trans hc5
  repeat' (first | refine WL.step (o_s (by rfl) ?_) | refine WL.step (o_len (by rfl) ?_) | refine WL.step (o_add (by rfl) (by rfl) (by unfold InI; omega) ?_) | refine WL.step (o_sub (by rfl) (by rfl) (by unfold InI; omega) ?_) | refine WL.step (OpW.pass (by rfl) ?_) | refine WL.nil ?_ | refine thenN ?_ | refine WP.region ?_ | refine WP.seq ?_ | refine WP.block ?_ | refine thenR ?_ | refine thenX ?_ | refine blkN ?_ | refine blkHit ?_ | refine blkR ?_ | refine blkMiss (by rfl) ?_ | refine WP.ret ?_ | refine WP.exit ?_ | refine WP.skip ?_ | refine WP.label ?_ | refine WP.condT (by rfl) ?_ | refine WP.condF (by rfl) ?_ | fail)
  first | refine WP.condD (by rfl) (fun _ => ?_) (fun _ => ?_) | refine WP.condND (by rfl) (fun _ => ?_) (fun _ => ?_) | refine WP.condN (by rfl) (fun _ => ?_) (fun _ => ?_) | refine WP.cond (by rfl) (fun _ => ?_) (fun _ => ?_) | fail
  · rename_i hbad
    repeat' (first | refine WL.step (o_s (by rfl) ?_) | refine WL.step (o_len (by rfl) ?_) | refine WL.step (o_add (by rfl) (by rfl) (by unfold InI; omega) ?_) | refine WL.step (o_sub (by rfl) (by rfl) (by unfold InI; omega) ?_) | refine WL.step (OpW.pass (by rfl) ?_) | refine WL.nil ?_ | refine thenN ?_ | refine WP.region ?_ | refine WP.seq ?_ | refine WP.block ?_ | refine thenR ?_ | refine thenX ?_ | refine blkN ?_ | refine blkHit ?_ | refine blkR ?_ | refine blkMiss (by rfl) ?_ | refine WP.ret ?_ | refine WP.exit ?_ | refine WP.skip ?_ | refine WP.label ?_ | refine WP.condT (by rfl) ?_ | refine WP.condF (by rfl) ?_ | fail)
    refine WL.step (o_build (us := []) (cells := [.slice none 0 0, .slice none 0 0]) (by rfl) (by kernel_rfl) ?_)
    refine WL.step (o_storeS (vs := [.slice none 0 0, .slice none 0 0]) (by rfl) (by rfl) hb4 (by rfl) (by rfl) two_cells ?_)
    intro w9 hb9 hbut9
    have hc9 := hbut9.chg
    have hz9 := hbut9.size
    repeat' (first | refine WL.step (o_s (by rfl) ?_) | refine WL.step (o_len (by rfl) ?_) | refine WL.step (o_add (by rfl) (by rfl) (by unfold InI; omega) ?_) | refine WL.step (o_sub (by rfl) (by rfl) (by unfold InI; omega) ?_) | refine WL.step (OpW.pass (by rfl) ?_) | refine WL.nil ?_ | refine thenN ?_ | refine WP.region ?_ | refine WP.seq ?_ | refine WP.block ?_ | refine thenR ?_ | refine thenX ?_ | refine blkN ?_ | refine blkHit ?_ | refine blkR ?_ | refine blkMiss (by rfl) ?_ | refine WP.ret ?_ | refine WP.exit ?_ | refine WP.skip ?_ | refine WP.label ?_ | refine WP.condT (by rfl) ?_ | refine WP.condF (by rfl) ?_ | fail)
    have e : composeTableaus x y = (([], []), 1) := by simp [composeTableaus, hbad]
    rw [e]
    refine ⟨_, retS1 rfl (by rfl) hb9 (by rfl) (by rfl), _, rfl, nilT _ _ _ (by omega) (Nat.le_refl _), ?_⟩
    refine ⟨by rw [hc9.os, hc05.os], by rw [hc9.tape, hc05.tape], by rw [hc9.output, hc05.output], by omega, fun k hk hd => ?_⟩
    rw [hc9.block k (by omega) (by omega), hc05.block k hk (by omega)]
  rename_i hok'
  have htx := isTab_iff hok
  have hty := isTab_iff hok'
  have hx8 := htx.le8
  have hy8 := hty.le8
  repeat' (first | refine WL.step (o_s (by rfl) ?_) | refine WL.step (o_len (by rfl) ?_) | refine WL.step (o_add (by rfl) (by rfl) (by unfold InI; omega) ?_) | refine WL.step (o_sub (by rfl) (by rfl) (by unfold InI; omega) ?_) | refine WL.step (OpW.pass (by rfl) ?_) | refine WL.nil ?_ | refine thenN ?_ | refine WP.region ?_ | refine WP.seq ?_ | refine WP.block ?_ | refine thenR ?_ | refine thenX ?_ | refine blkN ?_ | refine blkHit ?_ | refine blkR ?_ | refine blkMiss (by rfl) ?_ | refine WP.ret ?_ | refine WP.exit ?_ | refine WP.skip ?_ | refine WP.label ?_ | refine WP.condT (by rfl) ?_ | refine WP.condF (by rfl) ?_ | fail)
  refine WL.fld hb1 ?_
  intro p1
  repeat' (first | refine WL.step (o_s (by rfl) ?_) | refine WL.step (o_len (by rfl) ?_) | refine WL.step (o_add (by rfl) (by rfl) (by unfold InI; omega) ?_) | refine WL.step (o_sub (by rfl) (by rfl) (by unfold InI; omega) ?_) | refine WL.step (OpW.pass (by rfl) ?_) | refine WL.nil ?_ | refine thenN ?_ | refine WP.region ?_ | refine WP.seq ?_ | refine WP.block ?_ | refine thenR ?_ | refine thenX ?_ | refine blkN ?_ | refine blkHit ?_ | refine blkR ?_ | refine blkMiss (by rfl) ?_ | refine WP.ret ?_ | refine WP.exit ?_ | refine WP.skip ?_ | refine WP.label ?_ | refine WP.condT (by rfl) ?_ | refine WP.condF (by rfl) ?_ | fail)
  refine WL.fld hb2 ?_
  intro p2
  have hc08 := hc05
  repeat' (first | refine WL.step (o_s (by rfl) ?_) | refine WL.step (o_len (by rfl) ?_) | refine WL.step (o_add (by rfl) (by rfl) (by unfold InI; omega) ?_) | refine WL.step (o_sub (by rfl) (by rfl) (by unfold InI; omega) ?_) | refine WL.step (OpW.pass (by rfl) ?_) | refine WL.nil ?_ | refine thenN ?_ | refine WP.region ?_ | refine WP.seq ?_ | refine WP.block ?_ | refine thenR ?_ | refine thenX ?_ | refine blkN ?_ | refine blkHit ?_ | refine blkR ?_ | refine blkMiss (by rfl) ?_ | refine WP.ret ?_ | refine WP.exit ?_ | refine WP.skip ?_ | refine WP.label ?_ | refine WP.condT (by rfl) ?_ | refine WP.condF (by rfl) ?_ | fail)
  first | refine WP.condD (by rfl) (fun _ => ?_) (fun _ => ?_) | refine WP.condND (by rfl) (fun _ => ?_) (fun _ => ?_) | refine WP.condN (by rfl) (fun _ => ?_) (fun _ => ?_) | refine WP.cond (by rfl) (fun _ => ?_) (fun _ => ?_) | fail
  · rename_i hbad
    repeat' (first | refine WL.step (o_s (by rfl) ?_) | refine WL.step (o_len (by rfl) ?_) | refine WL.step (o_add (by rfl) (by rfl) (by unfold InI; omega) ?_) | refine WL.step (o_sub (by rfl) (by rfl) (by unfold InI; omega) ?_) | refine WL.step (OpW.pass (by rfl) ?_) | refine WL.nil ?_ | refine thenN ?_ | refine WP.region ?_ | refine WP.seq ?_ | refine WP.block ?_ | refine thenR ?_ | refine thenX ?_ | refine blkN ?_ | refine blkHit ?_ | refine blkR ?_ | refine blkMiss (by rfl) ?_ | refine WP.ret ?_ | refine WP.exit ?_ | refine WP.skip ?_ | refine WP.label ?_ | refine WP.condT (by rfl) ?_ | refine WP.condF (by rfl) ?_ | fail)
    refine WL.step (o_build (us := []) (cells := [.slice none 0 0, .slice none 0 0]) (by rfl) (by kernel_rfl) ?_)
    refine WL.step (o_storeS (vs := [.slice none 0 0, .slice none 0 0]) (by rfl) (by rfl) hb4 (by rfl) (by rfl) two_cells ?_)
    intro w9 hb9 hbut9
    have hc9 := hbut9.chg
    have hz9 := hbut9.size
    repeat' (first | refine WL.step (o_s (by rfl) ?_) | refine WL.step (o_len (by rfl) ?_) | refine WL.step (o_add (by rfl) (by rfl) (by unfold InI; omega) ?_) | refine WL.step (o_sub (by rfl) (by rfl) (by unfold InI; omega) ?_) | refine WL.step (OpW.pass (by rfl) ?_) | refine WL.nil ?_ | refine thenN ?_ | refine WP.region ?_ | refine WP.seq ?_ | refine WP.block ?_ | refine thenR ?_ | refine thenX ?_ | refine blkN ?_ | refine blkHit ?_ | refine blkR ?_ | refine blkMiss (by rfl) ?_ | refine WP.ret ?_ | refine WP.exit ?_ | refine WP.skip ?_ | refine WP.label ?_ | refine WP.condT (by rfl) ?_ | refine WP.condF (by rfl) ?_ | fail)
    have e : composeTableaus x y = (([], []), 3) := by simp [composeTableaus, hok, hok', show x.2.length + y.2.length > 8 from by omega]
    rw [e]
    refine ⟨_, retS1 rfl (by rfl) hb9 (by rfl) (by rfl), _, rfl, nilT _ _ _ (by omega) (Nat.le_refl _), ?_⟩
    refine ⟨by rw [hc9.os, hc08.os], by rw [hc9.tape, hc08.tape], by rw [hc9.output, hc08.output], by omega, fun k hk hd => ?_⟩
    rw [hc9.block k (by omega) (by omega), hc08.block k hk (by omega)]
  rename_i hsm
  repeat' (first | refine WL.step (o_s (by rfl) ?_) | refine WL.step (o_len (by rfl) ?_) | refine WL.step (o_add (by rfl) (by rfl) (by unfold InI; omega) ?_) | refine WL.step (o_sub (by rfl) (by rfl) (by unfold InI; omega) ?_) | refine WL.step (OpW.pass (by rfl) ?_) | refine WL.nil ?_ | refine thenN ?_ | refine WP.region ?_ | refine WP.seq ?_ | refine WP.block ?_ | refine thenR ?_ | refine thenX ?_ | refine blkN ?_ | refine blkHit ?_ | refine blkR ?_ | refine blkMiss (by rfl) ?_ | refine WP.ret ?_ | refine WP.exit ?_ | refine WP.skip ?_ | refine WP.label ?_ | refine WP.condT (by rfl) ?_ | refine WP.condF (by rfl) ?_ | fail)
  refine WL.step (o_loadS (by rfl) hb1 (by rfl) ?_)
  refine WL.step (o_loadS (by rfl) hb2 (by rfl) ?_)
  refine WL.call (l10Compose_any hT hT' htx hty) ?_
  rintro v9 w9 ⟨oT, hc9⟩
  have hz9 := hc9.size
  replace hb4 := hb4.chg0 hc9
  obtain ⟨aq, nq, cq, ar, nr, cr, rfl⟩ := oT.cells
  refine WL.step (o_storeS (vs := [.slice aq nq cq, .slice ar nr cr]) (by rfl) (by rfl) hb4 (by rfl) (by rfl) two_cells ?_)
  intro w10 hb10 hbut10
  have hc10 := hbut10.chg
  have hz10 := hbut10.size
  repeat' (first | refine WL.step (o_s (by rfl) ?_) | refine WL.step (o_len (by rfl) ?_) | refine WL.step (o_add (by rfl) (by rfl) (by unfold InI; omega) ?_) | refine WL.step (o_sub (by rfl) (by rfl) (by unfold InI; omega) ?_) | refine WL.step (OpW.pass (by rfl) ?_) | refine WL.nil ?_ | refine thenN ?_ | refine WP.region ?_ | refine WP.seq ?_ | refine WP.block ?_ | refine thenR ?_ | refine thenX ?_ | refine blkN ?_ | refine blkHit ?_ | refine blkR ?_ | refine blkMiss (by rfl) ?_ | refine WP.ret ?_ | refine WP.exit ?_ | refine WP.skip ?_ | refine WP.label ?_ | refine WP.condT (by rfl) ?_ | refine WP.condF (by rfl) ?_ | fail)
  have e : composeTableaus x y = (composeL x y, 0) := by
    unfold composeTableaus
    rw [if_pos ⟨hok, hok'⟩, if_neg (by omega)]
  rw [e]
  refine ⟨_, retS1 rfl (by rfl) hb10 (by rfl) (by rfl), _, rfl, ?_, ?_⟩
  · exact (oT.chg hc10 (by omega)).wide (by omega) (by omega) (by omega)
  · refine ⟨by rw [hc10.os, hc9.os, hc08.os], by rw [hc10.tape, hc9.tape, hc08.tape], by rw [hc10.output, hc9.output, hc08.output], by omega, fun k hk hd => ?_⟩
    rw [hc10.block k (by omega) (by omega), hc9.block k (by omega) (by omega), hc08.block k hk (by omega)]

end Go.Proofs
