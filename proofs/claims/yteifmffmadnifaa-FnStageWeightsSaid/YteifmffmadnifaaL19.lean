/- The law of stage weights, walked. -/
import Derived.Test.YteifmffmadnifaaD7
import Derived.Test.YteifmffmadnifaaD8
import Derived.Test.YteifmffmadnifaaE4
set_option maxRecDepth 8000
namespace Go.Rk
open Go.Fw Go.Proofs
theorem mul_step {out v : List Int} {i : Nat} (h1 : i < out.length) (h2 : out.length = v.length) (hi : i < v.length) : ((mulsL out v).take i ++ out.drop i).set i (nm (out[i] * v[i])) = (mulsL out v).take (i + 1) ++ out.drop (i + 1) := by
  have hm : (mulsL out v).length = out.length := by rw [mulsL_length]; omega
  have hl : ((mulsL out v).take i).length = i := by rw [List.length_take]; omega
  rw [List.set_append_right _ _ (by omega), hl, Nat.sub_self, List.drop_eq_getElem_cons h1, List.set_cons_zero, List.take_succ_eq_append_getElem (show i < (mulsL out v).length by omega), List.append_assoc, mulsL_get (by omega) h1 hi]
  rfl
theorem mul_get {out v : List Int} {i : Nat} (h1 : i < out.length) (h2 : out.length = v.length) : ((mulsL out v).take i ++ out.drop i)[i]? = some out[i] := by
  have hm : (mulsL out v).length = out.length := by rw [mulsL_length]; omega
  have hl : ((mulsL out v).take i).length = i := by rw [List.length_take]; omega
  rw [List.getElem?_append_right (by omega), hl, Nat.sub_self, List.drop_eq_getElem_cons h1]
  rfl
end Go.Rk
namespace Go.Proofs
open Go Go.Fw Go.RowKit Go.Rk
set_option maxHeartbeats 8000000 in
theorem FnStageWeights_any {w : World} {lo hi : Nat} {v : Value} {bs : List Int} (h : IU lo hi w v bs) : Does Try.prog 14 [v] w fun r w' => r = .bool true ∧ Below w.heap.size w w' := by
  have hhl := h.hi_le
  refine Does.enter Try.func14 Try.ntmps14 rfl (by rfl) ?_
  repeat' (first | refine WL.step (o_s (by rfl) ?_) | refine WL.step (o_len (by rfl) ?_) | refine WL.step (o_add (by rfl) (by rfl) (by unfold InI; omega) ?_) | refine WL.step (o_sub (by rfl) (by rfl) (by unfold InI; omega) ?_) | refine WL.step (OpW.pass (by rfl) ?_) | refine WL.nil ?_ | refine thenN ?_ | refine WP.region ?_ | refine WP.seq ?_ | refine WP.block ?_ | refine thenR ?_ | refine thenX ?_ | refine blkN ?_ | refine blkHit ?_ | refine blkR ?_ | refine blkMiss (by rfl) ?_ | refine WP.ret ?_ | refine WP.exit ?_ | refine WP.skip ?_ | refine WP.label ?_ | refine WP.condT (by rfl) ?_ | refine WP.condF (by rfl) ?_ | fail)
  refine WL.call (big_any h) ?_
  rintro _ w0 ⟨rfl, hs0⟩
  have hz0 := hs0.size
  repeat' (first | refine WL.step (o_s (by rfl) ?_) | refine WL.step (o_len (by rfl) ?_) | refine WL.step (o_add (by rfl) (by rfl) (by unfold InI; omega) ?_) | refine WL.step (o_sub (by rfl) (by rfl) (by unfold InI; omega) ?_) | refine WL.step (OpW.pass (by rfl) ?_) | refine WL.nil ?_ | refine thenN ?_ | refine WP.region ?_ | refine WP.seq ?_ | refine WP.block ?_ | refine thenR ?_ | refine thenX ?_ | refine blkN ?_ | refine blkHit ?_ | refine blkR ?_ | refine blkMiss (by rfl) ?_ | refine WP.ret ?_ | refine WP.exit ?_ | refine WP.skip ?_ | refine WP.label ?_ | refine WP.condT (by rfl) ?_ | refine WP.condF (by rfl) ?_ | fail)
  first | refine WP.condD (by rfl) (fun _ => ?_) (fun _ => ?_) | refine WP.condND (by rfl) (fun _ => ?_) (fun _ => ?_) | refine WP.condN (by rfl) (fun _ => ?_) (fun _ => ?_) | refine WP.cond (by rfl) (fun _ => ?_) (fun _ => ?_) | fail
  · repeat' (first | refine WL.step (o_s (by rfl) ?_) | refine WL.step (o_len (by rfl) ?_) | refine WL.step (o_add (by rfl) (by rfl) (by unfold InI; omega) ?_) | refine WL.step (o_sub (by rfl) (by rfl) (by unfold InI; omega) ?_) | refine WL.step (OpW.pass (by rfl) ?_) | refine WL.nil ?_ | refine thenN ?_ | refine WP.region ?_ | refine WP.seq ?_ | refine WP.block ?_ | refine thenR ?_ | refine thenX ?_ | refine blkN ?_ | refine blkHit ?_ | refine blkR ?_ | refine blkMiss (by rfl) ?_ | refine WP.ret ?_ | refine WP.exit ?_ | refine WP.skip ?_ | refine WP.label ?_ | refine WP.condT (by rfl) ?_ | refine WP.condF (by rfl) ?_ | fail)
    refine ⟨_, ret1 rfl (by rfl), ?_⟩
    exact ⟨rfl, hs0.below _⟩
  rename_i hbig
  repeat' (first | refine WL.step (o_s (by rfl) ?_) | refine WL.step (o_len (by rfl) ?_) | refine WL.step (o_add (by rfl) (by rfl) (by unfold InI; omega) ?_) | refine WL.step (o_sub (by rfl) (by rfl) (by unfold InI; omega) ?_) | refine WL.step (OpW.pass (by rfl) ?_) | refine WL.nil ?_ | refine thenN ?_ | refine WP.region ?_ | refine WP.seq ?_ | refine WP.block ?_ | refine thenR ?_ | refine thenX ?_ | refine blkN ?_ | refine blkHit ?_ | refine blkR ?_ | refine blkMiss (by rfl) ?_ | refine WP.ret ?_ | refine WP.exit ?_ | refine WP.skip ?_ | refine WP.label ?_ | refine WP.condT (by rfl) ?_ | refine WP.condF (by rfl) ?_ | fail)
  refine WL.call (DrawStageWeights_any (h.still RU.stable hs0) (by omega)) ?_
  rintro _ w1 ⟨⟨x, t, va, vt, m, rfl, hsm, htl, hT1, hI1, hm⟩, hc1⟩
  have hz1 := hc1.size
  have hml := hT1.hi_le
  have hbl1 : Below w.heap.size w w1 := (hs0.below _).trans (hc1.below (by omega) (Or.inr (Nat.le_refl _)))
  obtain ⟨ax, nx, cx, ay, ny, cy, rfl⟩ := hT1.cells
  repeat' (first | refine WL.step (o_s (by rfl) ?_) | refine WL.step (o_len (by rfl) ?_) | refine WL.step (o_add (by rfl) (by rfl) (by unfold InI; omega) ?_) | refine WL.step (o_sub (by rfl) (by rfl) (by unfold InI; omega) ?_) | refine WL.step (OpW.pass (by rfl) ?_) | refine WL.nil ?_ | refine thenN ?_ | refine WP.region ?_ | refine WP.seq ?_ | refine WP.block ?_ | refine thenR ?_ | refine thenX ?_ | refine blkN ?_ | refine blkHit ?_ | refine blkR ?_ | refine blkMiss (by rfl) ?_ | refine WP.ret ?_ | refine WP.exit ?_ | refine WP.skip ?_ | refine WP.label ?_ | refine WP.condT (by rfl) ?_ | refine WP.condF (by rfl) ?_ | fail)
  refine WL.var (vs := [.slice ax nx cx, .slice ay ny cy]) (fun _ => by rfl) (by rfl) two_cells ?_
  intro w2 hb2 hbl2 hz2
  obtain ⟨b3, hb3⟩ : ∃ b3, w1.heap.size = b3 := ⟨_, rfl⟩
  rw [hb3] at hb2 hbl2 hz2 hI1 ⊢
  have hT2 := IT.below hT1 hbl2 (by omega)
  have hI2 := hI1.below RI.stable hbl2 (Nat.le_refl _)
  have hB2 : Below w.heap.size w w2 := hbl1.trans (Below.mono hbl2 (by omega))
  clear hT1 hI1
  repeat' (first | refine WL.step (o_s (by rfl) ?_) | refine WL.step (o_len (by rfl) ?_) | refine WL.step (o_add (by rfl) (by rfl) (by unfold InI; omega) ?_) | refine WL.step (o_sub (by rfl) (by rfl) (by unfold InI; omega) ?_) | refine WL.step (OpW.pass (by rfl) ?_) | refine WL.nil ?_ | refine thenN ?_ | refine WP.region ?_ | refine WP.seq ?_ | refine WP.block ?_ | refine thenR ?_ | refine thenX ?_ | refine blkN ?_ | refine blkHit ?_ | refine blkR ?_ | refine blkMiss (by rfl) ?_ | refine WP.ret ?_ | refine WP.exit ?_ | refine WP.skip ?_ | refine WP.label ?_ | refine WP.condT (by rfl) ?_ | refine WP.condF (by rfl) ?_ | fail)
  refine WL.step (o_loadS (by rfl) hb2 (by rfl) ?_)
  repeat' (first | refine WL.step (o_s (by rfl) ?_) | refine WL.step (o_len (by rfl) ?_) | refine WL.step (o_add (by rfl) (by rfl) (by unfold InI; omega) ?_) | refine WL.step (o_sub (by rfl) (by rfl) (by unfold InI; omega) ?_) | refine WL.step (OpW.pass (by rfl) ?_) | refine WL.nil ?_ | refine thenN ?_ | refine WP.region ?_ | refine WP.seq ?_ | refine WP.block ?_ | refine thenR ?_ | refine thenX ?_ | refine blkN ?_ | refine blkHit ?_ | refine blkR ?_ | refine blkMiss (by rfl) ?_ | refine WP.ret ?_ | refine WP.exit ?_ | refine WP.skip ?_ | refine WP.label ?_ | refine WP.condT (by rfl) ?_ | refine WP.condF (by rfl) ?_ | fail)
  refine WL.call (StageWeights_any hT2 hI2) ?_
  rintro _ w3 ⟨v3, rfl, hN3⟩
  have hz3 := hN3.2.size
  have hc3 := hN3.chg
  have hb3' := hb2.chg0 hc3
  have hT3 := hT2.chg hc3 (by omega)
  have hI3 := RI.chg hI2 hc3 (by omega)
  have hB3 : Below w.heap.size w w3 := hB2.trans (hc3.below (by omega) (Or.inr (Nat.le_refl _)))
  repeat' (first | refine WL.step (o_s (by rfl) ?_) | refine WL.step (o_len (by rfl) ?_) | refine WL.step (o_add (by rfl) (by rfl) (by unfold InI; omega) ?_) | refine WL.step (o_sub (by rfl) (by rfl) (by unfold InI; omega) ?_) | refine WL.step (OpW.pass (by rfl) ?_) | refine WL.nil ?_ | refine thenN ?_ | refine WP.region ?_ | refine WP.seq ?_ | refine WP.block ?_ | refine thenR ?_ | refine thenX ?_ | refine blkN ?_ | refine blkHit ?_ | refine blkR ?_ | refine blkMiss (by rfl) ?_ | refine WP.ret ?_ | refine WP.exit ?_ | refine WP.skip ?_ | refine WP.label ?_ | refine WP.condT (by rfl) ?_ | refine WP.condF (by rfl) ?_ | fail)
  refine WL.step (o_loadS (by rfl) hb3' (by rfl) ?_)
  repeat' (first | refine WL.step (o_s (by rfl) ?_) | refine WL.step (o_len (by rfl) ?_) | refine WL.step (o_add (by rfl) (by rfl) (by unfold InI; omega) ?_) | refine WL.step (o_sub (by rfl) (by rfl) (by unfold InI; omega) ?_) | refine WL.step (OpW.pass (by rfl) ?_) | refine WL.nil ?_ | refine thenN ?_ | refine WP.region ?_ | refine WP.seq ?_ | refine WP.block ?_ | refine thenR ?_ | refine thenX ?_ | refine blkN ?_ | refine blkHit ?_ | refine blkR ?_ | refine blkMiss (by rfl) ?_ | refine WP.ret ?_ | refine WP.exit ?_ | refine WP.skip ?_ | refine WP.label ?_ | refine WP.condT (by rfl) ?_ | refine WP.condF (by rfl) ?_ | fail)
  refine WL.call (sStageWeights_any hT3 hI3) ?_
  rintro _ w4 ⟨v4, rfl, hN4⟩
  have hz4 := hN4.2.size
  have hc4 := hN4.chg
  have hb4 := hb3'.chg0 hc4
  have hT4 := hT3.chg hc4 (by omega)
  have hI4 := RI.chg hI3 hc4 (by omega)
  have hW4 := RI.chg hN3.ow.rd hc4 (by omega)
  have hB4 : Below w.heap.size w w4 := hB3.trans (hc4.below (by omega) (Or.inr (Nat.le_refl _)))
  repeat' (first | refine WL.step (o_s (by rfl) ?_) | refine WL.step (o_len (by rfl) ?_) | refine WL.step (o_add (by rfl) (by rfl) (by unfold InI; omega) ?_) | refine WL.step (o_sub (by rfl) (by rfl) (by unfold InI; omega) ?_) | refine WL.step (OpW.pass (by rfl) ?_) | refine WL.nil ?_ | refine thenN ?_ | refine WP.region ?_ | refine WP.seq ?_ | refine WP.block ?_ | refine thenR ?_ | refine thenX ?_ | refine blkN ?_ | refine blkHit ?_ | refine blkR ?_ | refine blkMiss (by rfl) ?_ | refine WP.ret ?_ | refine WP.exit ?_ | refine WP.skip ?_ | refine WP.label ?_ | refine WP.condT (by rfl) ?_ | refine WP.condF (by rfl) ?_ | fail)
  try (refine WL.gsplitD (by rfl) (by rfl) (by rfl) (fun hbad => False.elim (by first | exact hbad rfl | omega)) (fun _ => ?_))
  repeat' (first | refine WL.step (o_s (by rfl) ?_) | refine WL.step (o_len (by rfl) ?_) | refine WL.step (o_add (by rfl) (by rfl) (by unfold InI; omega) ?_) | refine WL.step (o_sub (by rfl) (by rfl) (by unfold InI; omega) ?_) | refine WL.step (OpW.pass (by rfl) ?_) | refine WL.nil ?_ | refine thenN ?_ | refine WP.region ?_ | refine WP.seq ?_ | refine WP.block ?_ | refine thenR ?_ | refine thenX ?_ | refine blkN ?_ | refine blkHit ?_ | refine blkR ?_ | refine blkMiss (by rfl) ?_ | refine WP.ret ?_ | refine WP.exit ?_ | refine WP.skip ?_ | refine WP.label ?_ | refine WP.condT (by rfl) ?_ | refine WP.condF (by rfl) ?_ | fail)
  refine WL.call (likeInts_same hW4 hN4.ow.rd) ?_
  rintro _ w5 ⟨rfl, hs5⟩
  have hz5 := hs5.size
  have hc5 := Chg.of_still hs5
  have hb5 := hb4.chg0 hc5
  have hT5 := hT4.chg hc5 (by omega)
  have hI5 := RI.chg hI4 hc5 (by omega)
  have hW5 := RI.chg hW4 hc5 (by omega)
  have hB5 : Below w.heap.size w w5 := hB4.trans (hs5.below _)
  repeat' (first | refine WL.step (o_s (by rfl) ?_) | refine WL.step (o_len (by rfl) ?_) | refine WL.step (o_add (by rfl) (by rfl) (by unfold InI; omega) ?_) | refine WL.step (o_sub (by rfl) (by rfl) (by unfold InI; omega) ?_) | refine WL.step (OpW.pass (by rfl) ?_) | refine WL.nil ?_ | refine thenN ?_ | refine WP.region ?_ | refine WP.seq ?_ | refine WP.block ?_ | refine thenR ?_ | refine thenX ?_ | refine blkN ?_ | refine blkHit ?_ | refine blkR ?_ | refine blkMiss (by rfl) ?_ | refine WP.ret ?_ | refine WP.exit ?_ | refine WP.skip ?_ | refine WP.label ?_ | refine WP.condT (by rfl) ?_ | refine WP.condF (by rfl) ?_ | fail)
  by_cases hxt : isTab x = true ∧ isLev t = true
  case neg =>
    have e : (stageWeights x t).2 = 1 := by unfold stageWeights; rw [if_neg hxt]
    rw [e]
    repeat' (first | refine WL.step (o_s (by rfl) ?_) | refine WL.step (o_len (by rfl) ?_) | refine WL.step (o_add (by rfl) (by rfl) (by unfold InI; omega) ?_) | refine WL.step (o_sub (by rfl) (by rfl) (by unfold InI; omega) ?_) | refine WL.step (OpW.pass (by rfl) ?_) | refine WL.nil ?_ | refine thenN ?_ | refine WP.region ?_ | refine WP.seq ?_ | refine WP.block ?_ | refine thenR ?_ | refine thenX ?_ | refine blkN ?_ | refine blkHit ?_ | refine blkR ?_ | refine blkMiss (by rfl) ?_ | refine WP.ret ?_ | refine WP.exit ?_ | refine WP.skip ?_ | refine WP.label ?_ | refine WP.condT (by rfl) ?_ | refine WP.condF (by rfl) ?_ | fail)
    refine ⟨_, ret1 rfl (by rfl), ?_⟩
    exact ⟨rfl, hB5⟩
  have e : stageWeights x t = (stW x 8 t, 0) := by unfold stageWeights; rw [if_pos hxt]
  rw [e] at hW5 ⊢
  dsimp only at hW5 ⊢
  have hx := isTab_iff hxt.1
  have ht := isLev_iff hxt.2
  have hok := stW_ok hx.sq 8 t
  have hle8 := hx.le8
  obtain ⟨s, hs⟩ : ∃ s, x.2.length = s := ⟨_, rfl⟩
  obtain ⟨va, vb, hvv, hA5, hB5'⟩ := hT5
  simp only [Value.agg.injEq, Array.mk.injEq, List.cons.injEq] at hvv
  obtain ⟨rfl, rfl, _⟩ := hvv
  have hT5 : IT (w0.heap.size + 1) m w5 (.agg #[.slice ax nx cx, .slice ay ny cy]) x := ⟨_, _, rfl, hA5, hB5'⟩
  obtain ⟨_, _, hys⟩ := hB5'.shape
  simp only [Value.slice.injEq] at hys
  obtain ⟨_, rfl, _⟩ := hys
  obtain ⟨_, _, hxs⟩ := hA5.shape
  simp only [Value.slice.injEq] at hxs
  obtain ⟨_, rfl, _⟩ := hxs
  repeat' (first | refine WL.step (o_s (by rfl) ?_) | refine WL.step (o_len (by rfl) ?_) | refine WL.step (o_add (by rfl) (by rfl) (by unfold InI; omega) ?_) | refine WL.step (o_sub (by rfl) (by rfl) (by unfold InI; omega) ?_) | refine WL.step (OpW.pass (by rfl) ?_) | refine WL.nil ?_ | refine thenN ?_ | refine WP.region ?_ | refine WP.seq ?_ | refine WP.block ?_ | refine thenR ?_ | refine thenX ?_ | refine blkN ?_ | refine blkHit ?_ | refine blkR ?_ | refine blkMiss (by rfl) ?_ | refine WP.ret ?_ | refine WP.exit ?_ | refine WP.skip ?_ | refine WP.label ?_ | refine WP.condT (by rfl) ?_ | refine WP.condF (by rfl) ?_ | fail)
  refine WL.step (o_lit (us := []) (by rfl) (by rfl) rfl (by decide) one0 ?_)
  intro v6 w6 hown6 hbl6 hz6 _
  obtain ⟨c0, hc0⟩ : ∃ c0, w5.heap.size = c0 := ⟨_, rfl⟩
  rw [hc0] at hown6 hbl6 hz6
  repeat' (first | refine WL.step (o_s (by rfl) ?_) | refine WL.step (o_len (by rfl) ?_) | refine WL.step (o_add (by rfl) (by rfl) (by unfold InI; omega) ?_) | refine WL.step (o_sub (by rfl) (by rfl) (by unfold InI; omega) ?_) | refine WL.step (OpW.pass (by rfl) ?_) | refine WL.nil ?_ | refine thenN ?_ | refine WP.region ?_ | refine WP.seq ?_ | refine WP.block ?_ | refine thenR ?_ | refine thenX ?_ | refine blkN ?_ | refine blkHit ?_ | refine blkR ?_ | refine blkMiss (by rfl) ?_ | refine WP.ret ?_ | refine WP.exit ?_ | refine WP.skip ?_ | refine WP.label ?_ | refine WP.condT (by rfl) ?_ | refine WP.condF (by rfl) ?_ | fail)
  refine WP.loop (fun (z : Nat × Value) => [(3, .pointer (some ⟨b3, 0, none⟩)), (4, vt), (5, v3), (9, z.2), (10, .int .i64 (z.1 : Nat))])
    (fun z w7 => z.1 ≤ s ∧ Own c0 2 w7 z.2 (Ints (List.replicate z.1 1)) ∧ Below c0 w5 w7)
    (fun z => s - z.1) (0, v6) ⟨rfl, rfl, rfl, rfl, rfl, trivial⟩ ⟨by dsimp only; omega, by simpa [Ints] using hown6, hbl6⟩ ?_
  rintro ⟨i, v7⟩ w7 ⟨hi7, hown7, hbl7⟩
  dsimp only at hi7 hown7 ⊢
  have hz7 := hbl7.size
  repeat' (first | refine WL.step (o_s (by rfl) ?_) | refine WL.step (o_len (by rfl) ?_) | refine WL.step (o_add (by rfl) (by rfl) (by unfold InI; omega) ?_) | refine WL.step (o_sub (by rfl) (by rfl) (by unfold InI; omega) ?_) | refine WL.step (OpW.pass (by rfl) ?_) | refine WL.nil ?_ | refine thenN ?_ | refine WP.region ?_ | refine WP.seq ?_ | refine WP.block ?_ | refine thenR ?_ | refine thenX ?_ | refine blkN ?_ | refine blkHit ?_ | refine blkR ?_ | refine blkMiss (by rfl) ?_ | refine WP.ret ?_ | refine WP.exit ?_ | refine WP.skip ?_ | refine WP.label ?_ | refine WP.condT (by rfl) ?_ | refine WP.condF (by rfl) ?_ | fail)
  refine WL.fld (hb5.below hbl7 (by omega)) ?_
  intro p1
  repeat' (first | refine WL.step (o_s (by rfl) ?_) | refine WL.step (o_len (by rfl) ?_) | refine WL.step (o_add (by rfl) (by rfl) (by unfold InI; omega) ?_) | refine WL.step (o_sub (by rfl) (by rfl) (by unfold InI; omega) ?_) | refine WL.step (OpW.pass (by rfl) ?_) | refine WL.nil ?_ | refine thenN ?_ | refine WP.region ?_ | refine WP.seq ?_ | refine WP.block ?_ | refine thenR ?_ | refine thenX ?_ | refine blkN ?_ | refine blkHit ?_ | refine blkR ?_ | refine blkMiss (by rfl) ?_ | refine WP.ret ?_ | refine WP.exit ?_ | refine WP.skip ?_ | refine WP.label ?_ | refine WP.condT (by rfl) ?_ | refine WP.condF (by rfl) ?_ | fail)
  first | refine WP.condD (by rfl) (fun _ => ?_) (fun _ => ?_) | refine WP.condND (by rfl) (fun _ => ?_) (fun _ => ?_) | refine WP.condN (by rfl) (fun _ => ?_) (fun _ => ?_) | refine WP.cond (by rfl) (fun _ => ?_) (fun _ => ?_) | fail
  · rename_i hlt
    repeat' (first | refine WL.step (o_s (by rfl) ?_) | refine WL.step (o_len (by rfl) ?_) | refine WL.step (o_add (by rfl) (by rfl) (by unfold InI; omega) ?_) | refine WL.step (o_sub (by rfl) (by rfl) (by unfold InI; omega) ?_) | refine WL.step (OpW.pass (by rfl) ?_) | refine WL.nil ?_ | refine thenN ?_ | refine WP.region ?_ | refine WP.seq ?_ | refine WP.block ?_ | refine thenR ?_ | refine thenX ?_ | refine blkN ?_ | refine blkHit ?_ | refine blkR ?_ | refine blkMiss (by rfl) ?_ | refine WP.ret ?_ | refine WP.exit ?_ | refine WP.skip ?_ | refine WP.label ?_ | refine WP.condT (by rfl) ?_ | refine WP.condF (by rfl) ?_ | fail)
    refine o_append1 (u := .int .i64 1) (fun _ => by rfl) (by rfl) hown7 rfl (by simp [Ints, maxLen]; omega) (by simp [Ints]; omega) (by omega) ?_
    intro p2 v8 w8 hown8 hbl8 _ hz8 _
    repeat' (first | refine WL.step (o_s (by rfl) ?_) | refine WL.step (o_len (by rfl) ?_) | refine WL.step (o_add (by rfl) (by rfl) (by unfold InI; omega) ?_) | refine WL.step (o_sub (by rfl) (by rfl) (by unfold InI; omega) ?_) | refine WL.step (OpW.pass (by rfl) ?_) | refine WL.nil ?_ | refine thenN ?_ | refine WP.region ?_ | refine WP.seq ?_ | refine WP.block ?_ | refine thenR ?_ | refine thenX ?_ | refine blkN ?_ | refine blkHit ?_ | refine blkR ?_ | refine blkMiss (by rfl) ?_ | refine WP.ret ?_ | refine WP.exit ?_ | refine WP.skip ?_ | refine WP.label ?_ | refine WP.condT (by rfl) ?_ | refine WP.condF (by rfl) ?_ | fail)
    refine ⟨(i + 1, v8), ⟨rfl, rfl, rfl, rfl, (by first | rfl | (show some (Value.int .i64 _) = some (Value.int .i64 _); refine congrArg some (congrArg (Value.int IntKind.i64) ?_); omega)), trivial⟩, ⟨by dsimp only; omega, ?_, hbl7.trans hbl8⟩, by dsimp only; omega⟩
    have e1 : Ints (List.replicate (i + 1) 1) = Ints (List.replicate i 1) ++ [.int .i64 1] := by rw [List.replicate_succ', Ints_append]; rfl
    dsimp only
    rw [e1]
    exact hown8
  rename_i hge
  have hie : i = s := by omega
  subst hie
  have hT7 := IT.below hT5 hbl7 (by omega)
  have hI7 := hI5.below RI.stable hbl7 (by omega)
  have hW7 := hW5.below RI.stable hbl7 (by omega)
  have hb7 := hb5.below hbl7 (by omega)
  have hB7 : Below w.heap.size w w7 := hB5.trans (Below.mono hbl7 (by omega))
  obtain ⟨c1, hc1'⟩ : ∃ c1, w7.heap.size = c1 := ⟨_, rfl⟩
  have oP7 : OwI 2 c0 c1 w7 v7 (List.replicate i 1) := ⟨hown7, fun k hk => by have := (hown7.block k hk).2; omega, by omega⟩
  obtain ⟨ap, np, cp, hvp⟩ : ∃ a n c, v7 = Value.slice a n c := by obtain ⟨a, c, h, _⟩ := hown7.shape; exact ⟨_, _, _, h⟩
  repeat' (first | refine WL.step (o_s (by rfl) ?_) | refine WL.step (o_len (by rfl) ?_) | refine WL.step (o_add (by rfl) (by rfl) (by unfold InI; omega) ?_) | refine WL.step (o_sub (by rfl) (by rfl) (by unfold InI; omega) ?_) | refine WL.step (OpW.pass (by rfl) ?_) | refine WL.nil ?_ | refine thenN ?_ | refine WP.region ?_ | refine WP.seq ?_ | refine WP.block ?_ | refine thenR ?_ | refine thenX ?_ | refine blkN ?_ | refine blkHit ?_ | refine blkR ?_ | refine blkMiss (by rfl) ?_ | refine WP.ret ?_ | refine WP.exit ?_ | refine WP.skip ?_ | refine WP.label ?_ | refine WP.condT (by rfl) ?_ | refine WP.condF (by rfl) ?_ | fail)
  refine WL.call (BranchesOf_any hI7 ht.1 ht.2) ?_
  rintro _ w8 ⟨v8, rfl, hS8⟩
  have hz8 := hS8.2.size
  have hc8 := Chg.of_below hS8.2
  have hS8o : OwSS 23 2 w7.heap.size w8.heap.size w8 v8 (branchesF t) := hS8.1
  rw [hc1'] at hS8o
  have hT8 := hT7.chg hc8 (by omega)
  have hI8 := RI.chg hI7 hc8 (by omega)
  have hW8 := RI.chg hW7 hc8 (by omega)
  have hb8 := hb7.chg0 hc8
  have oP8 := oP7.chg hc8 (by omega)
  have hB8 : Below w.heap.size w w8 := hB7.trans (hc8.below (by omega) (Or.inr (Nat.le_refl _)))
  have hBr := OwSS.rd hS8o
  have hbok := branchesF_ok ht.1 ht.2
  have hfin := stW_branches x ht.1 ht.2
  rw [hs] at hfin hok
  obtain ⟨br, hbr⟩ : ∃ br, branchesF t = br := ⟨_, rfl⟩
  rw [hbr] at hBr hbok hfin
  have hbrl := hBr.len
  unfold maxLen at hbrl
  obtain ⟨a8, c8, hv8⟩ := hBr.shape
  subst hv8
  repeat' (first | refine WL.step (o_s (by rfl) ?_) | refine WL.step (o_len (by rfl) ?_) | refine WL.step (o_add (by rfl) (by rfl) (by unfold InI; omega) ?_) | refine WL.step (o_sub (by rfl) (by rfl) (by unfold InI; omega) ?_) | refine WL.step (OpW.pass (by rfl) ?_) | refine WL.nil ?_ | refine thenN ?_ | refine WP.region ?_ | refine WP.seq ?_ | refine WP.block ?_ | refine thenR ?_ | refine thenX ?_ | refine blkN ?_ | refine blkHit ?_ | refine blkR ?_ | refine blkMiss (by rfl) ?_ | refine WP.ret ?_ | refine WP.exit ?_ | refine WP.skip ?_ | refine WP.label ?_ | refine WP.condT (by rfl) ?_ | refine WP.condF (by rfl) ?_ | fail)
  refine WP.loop (fun (z : Nat × List Int) => [(3, .pointer (some ⟨b3, 0, none⟩)), (4, vt), (5, v3), (9, v7), (11, .slice a8 br.length c8), (13, .int .i64 (z.1 : Nat))])
    (fun z w9 => z.1 ≤ br.length ∧ z.2.length = i ∧ allN z.2 = true ∧ prodGo x (stW x 8) z.2 (br.drop z.1) = stW x 8 t ∧ OwI 2 c0 c1 w9 v7 z.2 ∧ Chg c0 c1 w8 w9)
    (fun z => br.length - z.1) (0, List.replicate i 1) ⟨rfl, rfl, rfl, rfl, rfl, rfl, trivial⟩ ⟨by dsimp only; omega, by simp, allN_of fun y hy => by rw [List.eq_of_mem_replicate hy]; exact isN_of (by omega), hfin, oP8, Chg.refl _ _ _⟩ ?_
  rintro ⟨k, prod⟩ w9 ⟨hk1, hpl, hpa, hpg, oP9, hc9⟩
  dsimp only at hk1 hpl hpa hpg oP9 ⊢
  have hz9 := hc9.size
  have hT9 := hT8.chg hc9 (by omega)
  have hI9 := RI.chg hI8 hc9 (by omega)
  have hW9 := RI.chg hW8 hc9 (by omega)
  have hb9 := hb8.chg hc9 (by omega)
  have hBr9 := ISS.chg hBr hc9 (by omega)
  repeat' (first | refine WL.step (o_s (by rfl) ?_) | refine WL.step (o_len (by rfl) ?_) | refine WL.step (o_add (by rfl) (by rfl) (by unfold InI; omega) ?_) | refine WL.step (o_sub (by rfl) (by rfl) (by unfold InI; omega) ?_) | refine WL.step (OpW.pass (by rfl) ?_) | refine WL.nil ?_ | refine thenN ?_ | refine WP.region ?_ | refine WP.seq ?_ | refine WP.block ?_ | refine thenR ?_ | refine thenX ?_ | refine blkN ?_ | refine blkHit ?_ | refine blkR ?_ | refine blkMiss (by rfl) ?_ | refine WP.ret ?_ | refine WP.exit ?_ | refine WP.skip ?_ | refine WP.label ?_ | refine WP.condT (by rfl) ?_ | refine WP.condF (by rfl) ?_ | fail)
  first | refine WP.condD (by rfl) (fun _ => ?_) (fun _ => ?_) | refine WP.condND (by rfl) (fun _ => ?_) (fun _ => ?_) | refine WP.condN (by rfl) (fun _ => ?_) (fun _ => ?_) | refine WP.cond (by rfl) (fun _ => ?_) (fun _ => ?_) | fail
  · rename_i hltk
    have hlk : k < br.length := by omega
    have hbk := hbok _ (List.getElem_mem hlk)
    rw [prodGo_drop hlk] at hpg
    repeat' (first | refine WL.step (o_s (by rfl) ?_) | refine WL.step (o_len (by rfl) ?_) | refine WL.step (o_add (by rfl) (by rfl) (by unfold InI; omega) ?_) | refine WL.step (o_sub (by rfl) (by rfl) (by unfold InI; omega) ?_) | refine WL.step (OpW.pass (by rfl) ?_) | refine WL.nil ?_ | refine thenN ?_ | refine WP.region ?_ | refine WP.seq ?_ | refine WP.block ?_ | refine thenR ?_ | refine thenX ?_ | refine blkN ?_ | refine blkHit ?_ | refine blkR ?_ | refine blkMiss (by rfl) ?_ | refine WP.ret ?_ | refine WP.exit ?_ | refine WP.skip ?_ | refine WP.label ?_ | refine WP.condT (by rfl) ?_ | refine WP.condF (by rfl) ?_ | fail)
    refine WP.drawn (fun w' => Chg 0 0 w9 w') [(0, true), (1, true), (2, true), (3, true), (4, true), (5, false), (6, true), (7, true), (8, true), (9, true), (10, true)] (by kernel_rfl) mixed ?_
    intro w10 hs10
    have hc10 : Chg 0 0 w9 w10 := Chg.of_still hs10
    have hz10 := hc10.size
    refine WS.q rfl (q_loadS (by rfl) (fun w' h => hb9.chg0 h) (by rfl)) hc10 ?_
    repeat' (first | refine WS.q rfl (q_s (by rfl)) (by first | rfl | assumption) ?_ | refine WS.q rfl (q_len (by rfl)) (by first | rfl | assumption) ?_ | refine WS.q rfl (q_add (by rfl) (by rfl) (by unfold InI; omega)) (by first | rfl | assumption) ?_ | refine WS.q rfl (q_sub (by rfl) (by rfl) (by unfold InI; omega)) (by first | rfl | assumption) ?_ | refine WS.q rfl (q_pass (by rfl)) (by first | rfl | assumption) ?_ | refine WS.nil ?_ | fail)
    refine WS.ixload (j := k) rfl rfl (ISS.chg hBr9 hc10 (by omega)) (List.getElem?_eq_getElem hlk) (fun w' hw' k hk1 hk2 => ?_) hc10 ?_
    · have := hBr9.hi_le
      rw [hw'.block k (by omega) (by omega), hc10.block k (by omega) (by omega)]
    intro p2 u hu
    refine WS.call rfl (StageWeights_any (hT9.chg hc10 (by omega)) hu) ?_
    rintro _ w11 ⟨v11, rfl, hN11⟩
    have hz11 := hN11.2.size
    have e11 : stageWeights x br[k] = (stW x 8 br[k], 0) := by unfold stageWeights; rw [if_pos ⟨hxt.1, isLev_of hbk.1 (by omega)⟩]
    rw [e11] at hN11 ⊢
    have hcc11 := hc10.trans hN11.chg
    refine ⟨hcc11, ?_⟩
    repeat' (first | refine WS.q rfl (q_s (by rfl)) (by first | rfl | assumption) ?_ | refine WS.q rfl (q_len (by rfl)) (by first | rfl | assumption) ?_ | refine WS.q rfl (q_add (by rfl) (by rfl) (by unfold InI; omega)) (by first | rfl | assumption) ?_ | refine WS.q rfl (q_sub (by rfl) (by rfl) (by unfold InI; omega)) (by first | rfl | assumption) ?_ | refine WS.q rfl (q_pass (by rfl)) (by first | rfl | assumption) ?_ | refine WS.nil ?_ | fail)
    have hok11 := stW_ok hx.sq 8 br[k]
    rw [hs] at hok11
    obtain ⟨part, hpart⟩ : ∃ part, stW x 8 br[k] = part := ⟨_, rfl⟩
    rw [hpart] at hN11 hok11 hpg
    have hP11 := hN11.ow.rd
    obtain ⟨a11, n11, c11, rfl⟩ : ∃ a n c, v11 = Value.slice a n c := by obtain ⟨a, c, h⟩ := hP11.shape; exact ⟨_, _, _, h⟩
    have oP11 := oP9.chg hcc11 (by omega)
    have hT11 := hT9.chg hcc11 (by omega)
    have hb11 := hb9.chg0 hcc11
    have hal := appL_length x part
    have hxl : x.1.length = i := by rw [hx.sq, hs]
    repeat' (first | refine WL.step (o_s (by rfl) ?_) | refine WL.step (o_len (by rfl) ?_) | refine WL.step (o_add (by rfl) (by rfl) (by unfold InI; omega) ?_) | refine WL.step (o_sub (by rfl) (by rfl) (by unfold InI; omega) ?_) | refine WL.step (OpW.pass (by rfl) ?_) | refine WL.nil ?_ | refine thenN ?_ | refine WP.region ?_ | refine WP.seq ?_ | refine WP.block ?_ | refine thenR ?_ | refine thenX ?_ | refine blkN ?_ | refine blkHit ?_ | refine blkR ?_ | refine blkMiss (by rfl) ?_ | refine WP.ret ?_ | refine WP.exit ?_ | refine WP.skip ?_ | refine WP.label ?_ | refine WP.condT (by rfl) ?_ | refine WP.condF (by rfl) ?_ | fail)
    refine WP.loop (fun (z : Nat) => [(3, .pointer (some ⟨b3, 0, none⟩)), (4, vt), (5, v3), (9, v7), (11, .slice a8 br.length c8), (13, .int .i64 (k : Nat)), (14, .slice a11 n11 c11), (16, .int .i64 (z : Nat))])
      (fun z w12 => z ≤ i ∧ OwI 2 c0 c1 w12 v7 ((mulsL prod (appL x part)).take z ++ prod.drop z) ∧ Chg c0 c1 w11 w12)
      (fun z => i - z) 0 ⟨rfl, rfl, rfl, rfl, rfl, rfl, rfl, rfl, trivial⟩ ⟨by omega, by simpa using oP11, Chg.refl _ _ _⟩ ?_
    rintro z w12 ⟨hz1', oP12, hc12⟩
    have hz12 := hc12.size
    have hT12 := hT11.chg hc12 (by omega)
    have hb12 := hb11.chg hc12 (by omega)
    have hP12 := RI.chg hP11 hc12 (by omega)
    have hml12 : (mulsL prod (appL x part)).length = i := by rw [mulsL_length]; omega
    have hcl12 : ((mulsL prod (appL x part)).take z ++ prod.drop z).length = i := by rw [List.length_append, List.length_take, List.length_drop]; omega
    repeat' (first | refine WL.step (o_s (by rfl) ?_) | refine WL.step (o_len (by rfl) ?_) | refine WL.step (o_add (by rfl) (by rfl) (by unfold InI; omega) ?_) | refine WL.step (o_sub (by rfl) (by rfl) (by unfold InI; omega) ?_) | refine WL.step (OpW.pass (by rfl) ?_) | refine WL.nil ?_ | refine thenN ?_ | refine WP.region ?_ | refine WP.seq ?_ | refine WP.block ?_ | refine thenR ?_ | refine thenX ?_ | refine blkN ?_ | refine blkHit ?_ | refine blkR ?_ | refine blkMiss (by rfl) ?_ | refine WP.ret ?_ | refine WP.exit ?_ | refine WP.skip ?_ | refine WP.label ?_ | refine WP.condT (by rfl) ?_ | refine WP.condF (by rfl) ?_ | fail)
    refine WL.fld hb12 ?_
    intro p3
    repeat' (first | refine WL.step (o_s (by rfl) ?_) | refine WL.step (o_len (by rfl) ?_) | refine WL.step (o_add (by rfl) (by rfl) (by unfold InI; omega) ?_) | refine WL.step (o_sub (by rfl) (by rfl) (by unfold InI; omega) ?_) | refine WL.step (OpW.pass (by rfl) ?_) | refine WL.nil ?_ | refine thenN ?_ | refine WP.region ?_ | refine WP.seq ?_ | refine WP.block ?_ | refine thenR ?_ | refine thenX ?_ | refine blkN ?_ | refine blkHit ?_ | refine blkR ?_ | refine blkMiss (by rfl) ?_ | refine WP.ret ?_ | refine WP.exit ?_ | refine WP.skip ?_ | refine WP.label ?_ | refine WP.condT (by rfl) ?_ | refine WP.condF (by rfl) ?_ | fail)
    first | refine WP.condD (by rfl) (fun _ => ?_) (fun _ => ?_) | refine WP.condND (by rfl) (fun _ => ?_) (fun _ => ?_) | refine WP.condN (by rfl) (fun _ => ?_) (fun _ => ?_) | refine WP.cond (by rfl) (fun _ => ?_) (fun _ => ?_) | fail
    · rename_i hltz
      have hlz : z < i := by omega
      have hlx : z < x.1.length := by omega
      have hrow := hx.row _ (List.getElem_mem hlx)
      obtain ⟨va', vb', hvv', hA12, hB12⟩ := hT12
      simp only [Value.agg.injEq, Array.mk.injEq, List.cons.injEq] at hvv'
      obtain ⟨rfl, rfl, _⟩ := hvv'
      repeat' (first | refine WL.step (o_s (by rfl) ?_) | refine WL.step (o_len (by rfl) ?_) | refine WL.step (o_add (by rfl) (by rfl) (by unfold InI; omega) ?_) | refine WL.step (o_sub (by rfl) (by rfl) (by unfold InI; omega) ?_) | refine WL.step (OpW.pass (by rfl) ?_) | refine WL.nil ?_ | refine thenN ?_ | refine WP.region ?_ | refine WP.seq ?_ | refine WP.block ?_ | refine thenR ?_ | refine thenX ?_ | refine blkN ?_ | refine blkHit ?_ | refine blkR ?_ | refine blkMiss (by rfl) ?_ | refine WP.ret ?_ | refine WP.exit ?_ | refine WP.skip ?_ | refine WP.label ?_ | refine WP.condT (by rfl) ?_ | refine WP.condF (by rfl) ?_ | fail)
      refine WL.fld hb12 ?_
      intro p4
      repeat' (first | refine WL.step (o_s (by rfl) ?_) | refine WL.step (o_len (by rfl) ?_) | refine WL.step (o_add (by rfl) (by rfl) (by unfold InI; omega) ?_) | refine WL.step (o_sub (by rfl) (by rfl) (by unfold InI; omega) ?_) | refine WL.step (OpW.pass (by rfl) ?_) | refine WL.nil ?_ | refine thenN ?_ | refine WP.region ?_ | refine WP.seq ?_ | refine WP.block ?_ | refine thenR ?_ | refine thenX ?_ | refine blkN ?_ | refine blkHit ?_ | refine blkR ?_ | refine blkMiss (by rfl) ?_ | refine WP.ret ?_ | refine WP.exit ?_ | refine WP.skip ?_ | refine WP.label ?_ | refine WP.condT (by rfl) ?_ | refine WP.condF (by rfl) ?_ | fail)
      refine WL.ixload (j := z) hA12 (List.getElem?_eq_getElem hlx) ?_
      intro p5 ur hur
      repeat' (first | refine WL.step (o_s (by rfl) ?_) | refine WL.step (o_len (by rfl) ?_) | refine WL.step (o_add (by rfl) (by rfl) (by unfold InI; omega) ?_) | refine WL.step (o_sub (by rfl) (by rfl) (by unfold InI; omega) ?_) | refine WL.step (OpW.pass (by rfl) ?_) | refine WL.nil ?_ | refine thenN ?_ | refine WP.region ?_ | refine WP.seq ?_ | refine WP.block ?_ | refine thenR ?_ | refine thenX ?_ | refine blkN ?_ | refine blkHit ?_ | refine blkR ?_ | refine blkMiss (by rfl) ?_ | refine WP.ret ?_ | refine WP.exit ?_ | refine WP.skip ?_ | refine WP.label ?_ | refine WP.condT (by rfl) ?_ | refine WP.condF (by rfl) ?_ | fail)
      refine WL.call (DotOf_any hur hP12 (by rw [hrow.1, hok11.1, hs]) (by rw [hrow.1]; omega) hrow.2 hok11.2) ?_
      rintro _ w13 ⟨rfl, hs13⟩
      have hz13 := hs13.size
      have hc13 := Chg.of_still hs13
      have oP13 := oP12.chg hc13 (by omega)
      have hlp : z < prod.length := by omega
      have hlap : z < (appL x part).length := by omega
      have hdz : (appL x part)[z] = dotL x.1[z] part := by simp [appL]
      have hpz := allN_get hpa hlp
      have hdb := nm_bd (List.zipWith (· * ·) x.1[z] part).sum
      have hdb' : 0 ≤ dotL x.1[z] part ∧ dotL x.1[z] part ≤ 10006 := hdb
      have hmb := mul_bd hpz.1 hpz.2 hdb'.1 hdb'.2
      repeat' (first | refine WL.step (o_s (by rfl) ?_) | refine WL.step (o_len (by rfl) ?_) | refine WL.step (o_add (by rfl) (by rfl) (by unfold InI; omega) ?_) | refine WL.step (o_sub (by rfl) (by rfl) (by unfold InI; omega) ?_) | refine WL.step (OpW.pass (by rfl) ?_) | refine WL.nil ?_ | refine thenN ?_ | refine WP.region ?_ | refine WP.seq ?_ | refine WP.block ?_ | refine thenR ?_ | refine thenX ?_ | refine blkN ?_ | refine blkHit ?_ | refine blkR ?_ | refine blkMiss (by rfl) ?_ | refine WP.ret ?_ | refine WP.exit ?_ | refine WP.skip ?_ | refine WP.label ?_ | refine WP.condT (by rfl) ?_ | refine WP.condF (by rfl) ?_ | fail)
      refine WL.ixload (j := z) oP13.rd (mul_get hlp (by omega)) ?_
      rintro p6 _ rfl
      repeat' (first | refine WL.step (o_s (by rfl) ?_) | refine WL.step (o_len (by rfl) ?_) | refine WL.step (o_add (by rfl) (by rfl) (by unfold InI; omega) ?_) | refine WL.step (o_sub (by rfl) (by rfl) (by unfold InI; omega) ?_) | refine WL.step (OpW.pass (by rfl) ?_) | refine WL.nil ?_ | refine thenN ?_ | refine WP.region ?_ | refine WP.seq ?_ | refine WP.block ?_ | refine thenR ?_ | refine thenX ?_ | refine blkN ?_ | refine blkHit ?_ | refine blkR ?_ | refine blkMiss (by rfl) ?_ | refine WP.ret ?_ | refine WP.exit ?_ | refine WP.skip ?_ | refine WP.label ?_ | refine WP.condT (by rfl) ?_ | refine WP.condF (by rfl) ?_ | fail)
      refine WL.step (o_mul (a := prod[z]) (b := dotL x.1[z] part) (by rfl) (by rfl) (by unfold InI; omega) ?_)
      refine WL.call (mod5_any (prod[z] * dotL x.1[z] part) _) ?_
      rintro _ _ ⟨rfl, rfl⟩
      refine WL.ixstore (j := z) oP13.own (by rw [Ints_length]; omega) ?_
      intro p7 w14 hown14 hbl14 hz14 hf14
      rw [Ints_set, ← hdz, mul_step hlp (by omega) hlap] at hown14
      have hc14 : Chg c0 c1 w13 w14 := ⟨hbl14.os, hbl14.tape, hbl14.output, by omega, fun k hk hd => hf14 k fun e => by
        have a1 := oP13.lt k e
        have a2 := (oP13.own.block k e).1
        omega⟩
      repeat' (first | refine WL.step (o_s (by rfl) ?_) | refine WL.step (o_len (by rfl) ?_) | refine WL.step (o_add (by rfl) (by rfl) (by unfold InI; omega) ?_) | refine WL.step (o_sub (by rfl) (by rfl) (by unfold InI; omega) ?_) | refine WL.step (OpW.pass (by rfl) ?_) | refine WL.nil ?_ | refine thenN ?_ | refine WP.region ?_ | refine WP.seq ?_ | refine WP.block ?_ | refine thenR ?_ | refine thenX ?_ | refine blkN ?_ | refine blkHit ?_ | refine blkR ?_ | refine blkMiss (by rfl) ?_ | refine WP.ret ?_ | refine WP.exit ?_ | refine WP.skip ?_ | refine WP.label ?_ | refine WP.condT (by rfl) ?_ | refine WP.condF (by rfl) ?_ | fail)
      exact ⟨z + 1, ⟨rfl, rfl, rfl, rfl, rfl, rfl, rfl, (by first | rfl | (show some (Value.int .i64 _) = some (Value.int .i64 _); refine congrArg some (congrArg (Value.int IntKind.i64) ?_); omega)), trivial⟩, ⟨by omega, ⟨hown14, oP13.lt, by have := oP13.hi_le; omega⟩, (hc12.trans (Chg.none hc13)).trans hc14⟩, by omega⟩
    · rename_i hgez
      have hze : z = i := by omega
      subst hze
      rw [List.take_of_length_le (by omega), List.drop_eq_nil_of_le (by omega), List.append_nil] at oP12
      repeat' (first | refine WL.step (o_s (by rfl) ?_) | refine WL.step (o_len (by rfl) ?_) | refine WL.step (o_add (by rfl) (by rfl) (by unfold InI; omega) ?_) | refine WL.step (o_sub (by rfl) (by rfl) (by unfold InI; omega) ?_) | refine WL.step (OpW.pass (by rfl) ?_) | refine WL.nil ?_ | refine thenN ?_ | refine WP.region ?_ | refine WP.seq ?_ | refine WP.block ?_ | refine thenR ?_ | refine thenX ?_ | refine blkN ?_ | refine blkHit ?_ | refine blkR ?_ | refine blkMiss (by rfl) ?_ | refine WP.ret ?_ | refine WP.exit ?_ | refine WP.skip ?_ | refine WP.label ?_ | refine WP.condT (by rfl) ?_ | refine WP.condF (by rfl) ?_ | fail)
      exact ⟨(k + 1, mulsL prod (appL x part)), ⟨rfl, rfl, rfl, rfl, rfl, (by first | rfl | (show some (Value.int .i64 _) = some (Value.int .i64 _); refine congrArg some (congrArg (Value.int IntKind.i64) ?_); omega)), trivial⟩, ⟨by dsimp only; omega, hml12, allN_mulsL _ _, hpg, oP12, (hc9.trans (Chg.none hcc11)).trans hc12⟩, by dsimp only; omega⟩
  rename_i hgek
  rw [List.drop_eq_nil_of_le (by omega), prodGo] at hpg
  rw [hpg] at oP9
  have hB9 : Below w.heap.size w w9 := hB8.trans (hc9.below (by omega) (Or.inl (by omega)))
  obtain ⟨va', vb', hvv', hA9, hB9'⟩ := id hT9
  simp only [Value.agg.injEq, Array.mk.injEq, List.cons.injEq] at hvv'
  obtain ⟨rfl, rfl, _⟩ := hvv'
  repeat' (first | refine WL.step (o_s (by rfl) ?_) | refine WL.step (o_len (by rfl) ?_) | refine WL.step (o_add (by rfl) (by rfl) (by unfold InI; omega) ?_) | refine WL.step (o_sub (by rfl) (by rfl) (by unfold InI; omega) ?_) | refine WL.step (OpW.pass (by rfl) ?_) | refine WL.nil ?_ | refine thenN ?_ | refine WP.region ?_ | refine WP.seq ?_ | refine WP.block ?_ | refine thenR ?_ | refine thenX ?_ | refine blkN ?_ | refine blkHit ?_ | refine blkR ?_ | refine blkMiss (by rfl) ?_ | refine WP.ret ?_ | refine WP.exit ?_ | refine WP.skip ?_ | refine WP.label ?_ | refine WP.condT (by rfl) ?_ | refine WP.condF (by rfl) ?_ | fail)
  refine WL.fld hb9 ?_
  intro p8
  repeat' (first | refine WL.step (o_s (by rfl) ?_) | refine WL.step (o_len (by rfl) ?_) | refine WL.step (o_add (by rfl) (by rfl) (by unfold InI; omega) ?_) | refine WL.step (o_sub (by rfl) (by rfl) (by unfold InI; omega) ?_) | refine WL.step (OpW.pass (by rfl) ?_) | refine WL.nil ?_ | refine thenN ?_ | refine WP.region ?_ | refine WP.seq ?_ | refine WP.block ?_ | refine thenR ?_ | refine thenX ?_ | refine blkN ?_ | refine blkHit ?_ | refine blkR ?_ | refine blkMiss (by rfl) ?_ | refine WP.ret ?_ | refine WP.exit ?_ | refine WP.skip ?_ | refine WP.label ?_ | refine WP.condT (by rfl) ?_ | refine WP.condF (by rfl) ?_ | fail)
  refine WL.call (DotOf_any hB9' hW9 (by rw [hok.1, hs]) (by omega) hx.last hok.2) ?_
  rintro _ w10 ⟨rfl, hs10⟩
  have hc10 := Chg.of_still hs10
  have hz10 := hs10.size
  repeat' (first | refine WL.step (o_s (by rfl) ?_) | refine WL.step (o_len (by rfl) ?_) | refine WL.step (o_add (by rfl) (by rfl) (by unfold InI; omega) ?_) | refine WL.step (o_sub (by rfl) (by rfl) (by unfold InI; omega) ?_) | refine WL.step (OpW.pass (by rfl) ?_) | refine WL.nil ?_ | refine thenN ?_ | refine WP.region ?_ | refine WP.seq ?_ | refine WP.block ?_ | refine thenR ?_ | refine thenX ?_ | refine blkN ?_ | refine blkHit ?_ | refine blkR ?_ | refine blkMiss (by rfl) ?_ | refine WP.ret ?_ | refine WP.exit ?_ | refine WP.skip ?_ | refine WP.label ?_ | refine WP.condT (by rfl) ?_ | refine WP.condF (by rfl) ?_ | fail)
  refine WL.step (o_loadS (by rfl) (hb9.still hs10) (by rfl) ?_)
  repeat' (first | refine WL.step (o_s (by rfl) ?_) | refine WL.step (o_len (by rfl) ?_) | refine WL.step (o_add (by rfl) (by rfl) (by unfold InI; omega) ?_) | refine WL.step (o_sub (by rfl) (by rfl) (by unfold InI; omega) ?_) | refine WL.step (OpW.pass (by rfl) ?_) | refine WL.nil ?_ | refine thenN ?_ | refine WP.region ?_ | refine WP.seq ?_ | refine WP.block ?_ | refine thenR ?_ | refine thenX ?_ | refine blkN ?_ | refine blkHit ?_ | refine blkR ?_ | refine blkMiss (by rfl) ?_ | refine WP.ret ?_ | refine WP.exit ?_ | refine WP.skip ?_ | refine WP.label ?_ | refine WP.condT (by rfl) ?_ | refine WP.condF (by rfl) ?_ | fail)
  refine WL.call (WeightOf_any (hT9.chg hc10 (by omega)) (RI.chg hI9 hc10 (by omega))) ?_
  rintro _ w11 ⟨rfl, hc11⟩
  have hz11 := hc11.size
  have hwt : weightOf x t = (weightL x t, 0) := by unfold weightOf; rw [if_pos hxt]
  rw [hwt]
  repeat' (first | refine WL.step (o_s (by rfl) ?_) | refine WL.step (o_len (by rfl) ?_) | refine WL.step (o_add (by rfl) (by rfl) (by unfold InI; omega) ?_) | refine WL.step (o_sub (by rfl) (by rfl) (by unfold InI; omega) ?_) | refine WL.step (OpW.pass (by rfl) ?_) | refine WL.nil ?_ | refine thenN ?_ | refine WP.region ?_ | refine WP.seq ?_ | refine WP.block ?_ | refine thenR ?_ | refine thenX ?_ | refine blkN ?_ | refine blkHit ?_ | refine blkR ?_ | refine blkMiss (by rfl) ?_ | refine WP.ret ?_ | refine WP.exit ?_ | refine WP.skip ?_ | refine WP.label ?_ | refine WP.condT (by rfl) ?_ | refine WP.condF (by rfl) ?_ | fail)
  refine WL.call (likeInts_same (RI.chg (RI.chg oP9.rd hc10 (by omega)) hc11 (by omega)) (RI.chg (RI.chg hW9 hc10 (by omega)) hc11 (by omega))) ?_
  rintro _ w12 ⟨rfl, hs12⟩
  repeat' (first | refine WL.step (o_s (by rfl) ?_) | refine WL.step (o_len (by rfl) ?_) | refine WL.step (o_add (by rfl) (by rfl) (by unfold InI; omega) ?_) | refine WL.step (o_sub (by rfl) (by rfl) (by unfold InI; omega) ?_) | refine WL.step (OpW.pass (by rfl) ?_) | refine WL.nil ?_ | refine thenN ?_ | refine WP.region ?_ | refine WP.seq ?_ | refine WP.block ?_ | refine thenR ?_ | refine thenX ?_ | refine blkN ?_ | refine blkHit ?_ | refine blkR ?_ | refine blkMiss (by rfl) ?_ | refine WP.ret ?_ | refine WP.exit ?_ | refine WP.skip ?_ | refine WP.label ?_ | refine WP.condT (by rfl) ?_ | refine WP.condF (by rfl) ?_ | fail)
  refine ⟨_, ret1 rfl (by rfl), ?_⟩
  refine ⟨?_, ((hB9.trans (hs10.below _)).trans (hc11.below (by omega) (Or.inr (Nat.le_refl _)))).trans (hs12.below _)⟩
  exact congrArg Value.bool (decide_eq_true (show dotL x.2 (stW x 8 t) = weightL x t from rfl))
end Go.Proofs
