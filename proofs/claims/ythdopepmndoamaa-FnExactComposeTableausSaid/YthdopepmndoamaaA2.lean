/- Sums and multiples of lists, and of maps. -/
import Derived.Test.YthdopepmndoamaaA1
namespace Go.Proofs
open Go Go.Fw Go.RowKit Go.Rk

theorem Ints_snoc {ys : List Int} {i : Nat} (h : i < ys.length) {y : Int} (hy : ys[i] = y) : Ints (ys.take i) ++ [Value.int .i64 y] = Ints (ys.take (i + 1)) := by
  rw [take_snoc h hy, Ints_append]; rfl

theorem plus_any {lo hi lo' hi' : Nat} {w : World} {v v' : Value} {xs ys : List Int} (k : Int) (h : IS lo hi w v xs) (h' : IS lo' hi' w v' ys) (hl : xs.length ≤ ys.length) (hn : xs.length ≤ 1000000) (hx : allN xs = true) (hy : allN ys = true) :
    Does Try.prog 58 [v, v', .int .i64 k] w fun r w' => NewI w r w' (plusL xs ys k) := by
  obtain ⟨a, c, hv⟩ := h.shape
  obtain ⟨a', c', hv'⟩ := h'.shape
  rw [hv] at h ⊢
  rw [hv'] at h' ⊢
  refine Does.enter Try.func58 Try.ntmps58 rfl (by rfl) ?_
  repeat' (first | refine WL.step (o_s (by rfl) ?_) | refine WL.step (o_len (by rfl) ?_) | refine WL.step (o_add (by rfl) (by rfl) (by unfold InI; omega) ?_) | refine WL.step (o_sub (by rfl) (by rfl) (by unfold InI; omega) ?_) | refine WL.step (OpW.pass (by rfl) ?_) | refine WL.nil ?_ | refine thenN ?_ | refine WP.region ?_ | refine WP.seq ?_ | refine WP.block ?_ | refine thenR ?_ | refine thenX ?_ | refine blkN ?_ | refine blkHit ?_ | refine blkR ?_ | refine blkMiss (by rfl) ?_ | refine WP.ret ?_ | refine WP.exit ?_ | refine WP.skip ?_ | refine WP.label ?_ | refine WP.condT (by rfl) ?_ | refine WP.condF (by rfl) ?_ | fail)
  refine WL.step (o_lit (us := []) (by rfl) (by rfl) rfl (by decide) one0 ?_)
  intro v1 w1 hown hb1 hz1 _
  repeat' (first | refine WL.step (o_s (by rfl) ?_) | refine WL.step (o_len (by rfl) ?_) | refine WL.step (o_add (by rfl) (by rfl) (by unfold InI; omega) ?_) | refine WL.step (o_sub (by rfl) (by rfl) (by unfold InI; omega) ?_) | refine WL.step (OpW.pass (by rfl) ?_) | refine WL.nil ?_ | refine thenN ?_ | refine WP.region ?_ | refine WP.seq ?_ | refine WP.block ?_ | refine thenR ?_ | refine thenX ?_ | refine blkN ?_ | refine blkHit ?_ | refine blkR ?_ | refine blkMiss (by rfl) ?_ | refine WP.ret ?_ | refine WP.exit ?_ | refine WP.skip ?_ | refine WP.label ?_ | refine WP.condT (by rfl) ?_ | refine WP.condF (by rfl) ?_ | fail)
  refine WP.loop (fun (s : Nat × Value) => [(0, .slice a xs.length c), (1, .slice a' ys.length c'), (2, .int .i64 k), (7, s.2), (11, .slice a xs.length c), (12, .int .i64 xs.length), (13, .int .i64 s.1)])
    (fun s w2 => s.1 ≤ xs.length ∧ Own w.heap.size 2 w2 s.2 (Ints ((plusL xs ys k).take s.1)) ∧ Below w.heap.size w w2)
    (fun s => xs.length - s.1) (0, v1) ⟨rfl, rfl, rfl, rfl, rfl, rfl, rfl, trivial⟩ ⟨by omega, by simpa [Ints] using hown, hb1⟩ ?_
  rintro ⟨i, vo⟩ w2 ⟨hi, hown2, hb2⟩
  dsimp only at hi hown2 ⊢
  have hs2 := hb2.size
  repeat' (first | refine WL.step (o_s (by rfl) ?_) | refine WL.step (o_len (by rfl) ?_) | refine WL.step (o_add (by rfl) (by rfl) (by unfold InI; omega) ?_) | refine WL.step (o_sub (by rfl) (by rfl) (by unfold InI; omega) ?_) | refine WL.step (OpW.pass (by rfl) ?_) | refine WL.nil ?_ | refine thenN ?_ | refine WP.region ?_ | refine WP.seq ?_ | refine WP.block ?_ | refine thenR ?_ | refine thenX ?_ | refine blkN ?_ | refine blkHit ?_ | refine blkR ?_ | refine blkMiss (by rfl) ?_ | refine WP.ret ?_ | refine WP.exit ?_ | refine WP.skip ?_ | refine WP.label ?_ | refine WP.condT (by rfl) ?_ | refine WP.condF (by rfl) ?_ | fail)
  first | refine WP.condD (by rfl) (fun _ => ?_) (fun _ => ?_) | refine WP.condND (by rfl) (fun _ => ?_) (fun _ => ?_) | refine WP.condN (by rfl) (fun _ => ?_) (fun _ => ?_) | refine WP.cond (by rfl) (fun _ => ?_) (fun _ => ?_) | fail
  · rename_i hlt
    have hlt' : i < xs.length := by omega
    have h2 := h.below RI.stable hb2 h.hi_le
    repeat' (first | refine WL.step (o_s (by rfl) ?_) | refine WL.step (o_len (by rfl) ?_) | refine WL.step (o_add (by rfl) (by rfl) (by unfold InI; omega) ?_) | refine WL.step (o_sub (by rfl) (by rfl) (by unfold InI; omega) ?_) | refine WL.step (OpW.pass (by rfl) ?_) | refine WL.nil ?_ | refine thenN ?_ | refine WP.region ?_ | refine WP.seq ?_ | refine WP.block ?_ | refine thenR ?_ | refine thenX ?_ | refine blkN ?_ | refine blkHit ?_ | refine blkR ?_ | refine blkMiss (by rfl) ?_ | refine WP.ret ?_ | refine WP.exit ?_ | refine WP.skip ?_ | refine WP.label ?_ | refine WP.condT (by rfl) ?_ | refine WP.condF (by rfl) ?_ | fail)
    refine WL.ixload h2 (List.getElem?_eq_getElem hlt') ?_
    rintro p _ rfl
    repeat' (first | refine WL.step (o_s (by rfl) ?_) | refine WL.step (o_len (by rfl) ?_) | refine WL.step (o_add (by rfl) (by rfl) (by unfold InI; omega) ?_) | refine WL.step (o_sub (by rfl) (by rfl) (by unfold InI; omega) ?_) | refine WL.step (OpW.pass (by rfl) ?_) | refine WL.nil ?_ | refine thenN ?_ | refine WP.region ?_ | refine WP.seq ?_ | refine WP.block ?_ | refine thenR ?_ | refine thenX ?_ | refine blkN ?_ | refine blkHit ?_ | refine blkR ?_ | refine blkMiss (by rfl) ?_ | refine WP.ret ?_ | refine WP.exit ?_ | refine WP.skip ?_ | refine WP.label ?_ | refine WP.condT (by rfl) ?_ | refine WP.condF (by rfl) ?_ | fail)
    refine WP.drawn (fun w' => Below w.heap.size w w') [(0, true), (1, true), (2, true), (4, true), (5, true), (6, true), (7, true), (3, false), (8, true), (9, true), (10, false), (11, false), (12, false), (13, true)] (by kernel_rfl) mixed ?_
    intro w3 hs3
    have hb3 : Below w.heap.size w w3 := hb2.trans (hs3.below _)
    have h3' := h'.below RI.stable hb3 h'.hi_le
    have hown3 := hown2.still hs3
    have hxb := allN_get hx hlt'
    have hyb := allN_get hy (show i < ys.length by omega)
    have hkb := nm_bd k
    have hmb := mul_bd hkb.1 hkb.2 hyb.1 hyb.2
    repeat' (first | refine WS.q rfl (q_s (by rfl)) (by first | rfl | assumption) ?_ | refine WS.q rfl (q_len (by rfl)) (by first | rfl | assumption) ?_ | refine WS.q rfl (q_add (by rfl) (by rfl) (by unfold InI; omega)) (by first | rfl | assumption) ?_ | refine WS.q rfl (q_sub (by rfl) (by rfl) (by unfold InI; omega)) (by first | rfl | assumption) ?_ | refine WS.q rfl (q_pass (by rfl)) (by first | rfl | assumption) ?_ | refine WS.nil ?_ | fail)
    refine WS.ixload rfl rfl h3' (List.getElem?_eq_getElem (show i < ys.length by omega)) (fun w' hw' => same_below hb3 hw' h'.hi_le) hb3 ?_
    rintro p1 _ rfl
    refine WS.call rfl (num_any _ _) ?_
    rintro _ _ ⟨rfl, rfl⟩
    refine ⟨hb3, ?_⟩
    refine WS.q rfl (q_mul (by rfl) (by rfl) (by unfold InI; omega)) hb3 ?_
    repeat' (first | refine WS.q rfl (q_s (by rfl)) (by first | rfl | assumption) ?_ | refine WS.q rfl (q_len (by rfl)) (by first | rfl | assumption) ?_ | refine WS.q rfl (q_add (by rfl) (by rfl) (by unfold InI; omega)) (by first | rfl | assumption) ?_ | refine WS.q rfl (q_sub (by rfl) (by rfl) (by unfold InI; omega)) (by first | rfl | assumption) ?_ | refine WS.q rfl (q_pass (by rfl)) (by first | rfl | assumption) ?_ | refine WS.nil ?_ | fail)
    refine WS.call rfl (num_any _ _) ?_
    rintro _ _ ⟨rfl, rfl⟩
    refine ⟨hb3, ?_⟩
    refine WS.op rfl (o_lit (us := [.int .i64 _]) (by rfl) (by rfl) rfl (by decide) (one1 rfl) ?_)
    intro v4 w4 hown4 hb4 hz4 _
    have hb4' : Below w.heap.size w w4 := hb3.trans (Below.mono hb4 (by have := hb3.size; omega))
    refine ⟨hb4', ?_⟩
    have hown4' := hown3.below hb4 (Nat.le_refl _)
    refine WS.op rfl (o_append (by rfl) (by rfl) hown4' hown4.src (one1 rfl) (by simp [Ints, plusL_length, maxLen]; omega) (by simp [Ints, plusL_length]; omega) (by have := hb4'.size; omega) ?_)
    intro v5 w5 hown5 _ hb5 _
    have hb5' := hb4'.trans hb5
    refine ⟨hb5', ?_⟩
    repeat' (first | refine WS.q rfl (q_s (by rfl)) (by first | rfl | assumption) ?_ | refine WS.q rfl (q_len (by rfl)) (by first | rfl | assumption) ?_ | refine WS.q rfl (q_add (by rfl) (by rfl) (by unfold InI; omega)) (by first | rfl | assumption) ?_ | refine WS.q rfl (q_sub (by rfl) (by rfl) (by unfold InI; omega)) (by first | rfl | assumption) ?_ | refine WS.q rfl (q_pass (by rfl)) (by first | rfl | assumption) ?_ | refine WS.nil ?_ | fail)
    repeat' (first | refine WL.step (o_s (by rfl) ?_) | refine WL.step (o_len (by rfl) ?_) | refine WL.step (o_add (by rfl) (by rfl) (by unfold InI; omega) ?_) | refine WL.step (o_sub (by rfl) (by rfl) (by unfold InI; omega) ?_) | refine WL.step (OpW.pass (by rfl) ?_) | refine WL.nil ?_ | refine thenN ?_ | refine WP.region ?_ | refine WP.seq ?_ | refine WP.block ?_ | refine thenR ?_ | refine thenX ?_ | refine blkN ?_ | refine blkHit ?_ | refine blkR ?_ | refine blkMiss (by rfl) ?_ | refine WP.ret ?_ | refine WP.exit ?_ | refine WP.skip ?_ | refine WP.label ?_ | refine WP.condT (by rfl) ?_ | refine WP.condF (by rfl) ?_ | fail)
    refine ⟨(i + 1, v5), ⟨rfl, rfl, rfl, rfl, rfl, rfl, (by first | rfl | (show some (Value.int .i64 _) = some (Value.int .i64 _); refine congrArg some (congrArg (Value.int IntKind.i64) ?_); omega)), trivial⟩, ⟨by dsimp only; omega, ?_, hb5'⟩, by dsimp only; omega⟩
    have hlp : i < (plusL xs ys k).length := by rw [plusL_length]; omega
    dsimp only
    rw [← Ints_snoc hlp (y := nm (xs[i] + nm k * ys[i])) (by rw [plusL_get _ hlt' (by omega)])]
    exact hown5
  · rename_i hge
    have : i = xs.length := by omega
    subst this
    repeat' (first | refine WL.step (o_s (by rfl) ?_) | refine WL.step (o_len (by rfl) ?_) | refine WL.step (o_add (by rfl) (by rfl) (by unfold InI; omega) ?_) | refine WL.step (o_sub (by rfl) (by rfl) (by unfold InI; omega) ?_) | refine WL.step (OpW.pass (by rfl) ?_) | refine WL.nil ?_ | refine thenN ?_ | refine WP.region ?_ | refine WP.seq ?_ | refine WP.block ?_ | refine thenR ?_ | refine thenX ?_ | refine blkN ?_ | refine blkHit ?_ | refine blkR ?_ | refine blkMiss (by rfl) ?_ | refine WP.ret ?_ | refine WP.exit ?_ | refine WP.skip ?_ | refine WP.label ?_ | refine WP.condT (by rfl) ?_ | refine WP.condF (by rfl) ?_ | fail)
    refine ⟨_, ret1 rfl (by rfl), ?_⟩
    rw [List.take_of_length_le (by rw [plusL_length]; omega)] at hown2
    exact ⟨hown2, hb2⟩

theorem scaled_any {lo hi : Nat} {w : World} {v : Value} {xs : List Int} (k : Int) (h : IS lo hi w v xs) (hn : xs.length ≤ 1000000) (hx : allN xs = true) :
    Does Try.prog 61 [v, .int .i64 k] w fun r w' => NewI w r w' (scaledL xs k) := by
  obtain ⟨a, c, hv⟩ := h.shape
  rw [hv] at h ⊢
  have hlen : (scaledL xs k).length = xs.length := by simp [scaledL]
  refine Does.enter Try.func61 Try.ntmps61 rfl (by rfl) ?_
  repeat' (first | refine WL.step (o_s (by rfl) ?_) | refine WL.step (o_len (by rfl) ?_) | refine WL.step (o_add (by rfl) (by rfl) (by unfold InI; omega) ?_) | refine WL.step (o_sub (by rfl) (by rfl) (by unfold InI; omega) ?_) | refine WL.step (OpW.pass (by rfl) ?_) | refine WL.nil ?_ | refine thenN ?_ | refine WP.region ?_ | refine WP.seq ?_ | refine WP.block ?_ | refine thenR ?_ | refine thenX ?_ | refine blkN ?_ | refine blkHit ?_ | refine blkR ?_ | refine blkMiss (by rfl) ?_ | refine WP.ret ?_ | refine WP.exit ?_ | refine WP.skip ?_ | refine WP.label ?_ | refine WP.condT (by rfl) ?_ | refine WP.condF (by rfl) ?_ | fail)
  refine WL.step (o_lit (us := []) (by rfl) (by rfl) rfl (by decide) one0 ?_)
  intro v1 w1 hown hb1 hz1 _
  repeat' (first | refine WL.step (o_s (by rfl) ?_) | refine WL.step (o_len (by rfl) ?_) | refine WL.step (o_add (by rfl) (by rfl) (by unfold InI; omega) ?_) | refine WL.step (o_sub (by rfl) (by rfl) (by unfold InI; omega) ?_) | refine WL.step (OpW.pass (by rfl) ?_) | refine WL.nil ?_ | refine thenN ?_ | refine WP.region ?_ | refine WP.seq ?_ | refine WP.block ?_ | refine thenR ?_ | refine thenX ?_ | refine blkN ?_ | refine blkHit ?_ | refine blkR ?_ | refine blkMiss (by rfl) ?_ | refine WP.ret ?_ | refine WP.exit ?_ | refine WP.skip ?_ | refine WP.label ?_ | refine WP.condT (by rfl) ?_ | refine WP.condF (by rfl) ?_ | fail)
  refine WP.loop (fun (s : Nat × Value) => [(0, .slice a xs.length c), (1, .int .i64 k), (5, s.2), (9, .slice a xs.length c), (10, .int .i64 xs.length), (11, .int .i64 s.1)])
    (fun s w2 => s.1 ≤ xs.length ∧ Own w.heap.size 2 w2 s.2 (Ints ((scaledL xs k).take s.1)) ∧ Below w.heap.size w w2)
    (fun s => xs.length - s.1) (0, v1) ⟨rfl, rfl, rfl, rfl, rfl, rfl, trivial⟩ ⟨by omega, by simpa [Ints] using hown, hb1⟩ ?_
  rintro ⟨i, vo⟩ w2 ⟨hi, hown2, hb2⟩
  dsimp only at hi hown2 ⊢
  have hs2 := hb2.size
  repeat' (first | refine WL.step (o_s (by rfl) ?_) | refine WL.step (o_len (by rfl) ?_) | refine WL.step (o_add (by rfl) (by rfl) (by unfold InI; omega) ?_) | refine WL.step (o_sub (by rfl) (by rfl) (by unfold InI; omega) ?_) | refine WL.step (OpW.pass (by rfl) ?_) | refine WL.nil ?_ | refine thenN ?_ | refine WP.region ?_ | refine WP.seq ?_ | refine WP.block ?_ | refine thenR ?_ | refine thenX ?_ | refine blkN ?_ | refine blkHit ?_ | refine blkR ?_ | refine blkMiss (by rfl) ?_ | refine WP.ret ?_ | refine WP.exit ?_ | refine WP.skip ?_ | refine WP.label ?_ | refine WP.condT (by rfl) ?_ | refine WP.condF (by rfl) ?_ | fail)
  first | refine WP.condD (by rfl) (fun _ => ?_) (fun _ => ?_) | refine WP.condND (by rfl) (fun _ => ?_) (fun _ => ?_) | refine WP.condN (by rfl) (fun _ => ?_) (fun _ => ?_) | refine WP.cond (by rfl) (fun _ => ?_) (fun _ => ?_) | fail
  · rename_i hlt
    have hlt' : i < xs.length := by omega
    have h2 := h.below RI.stable hb2 h.hi_le
    have hxb := allN_get hx hlt'
    have hkb := nm_bd k
    have hmb := mul_bd hxb.1 hxb.2 hkb.1 hkb.2
    repeat' (first | refine WL.step (o_s (by rfl) ?_) | refine WL.step (o_len (by rfl) ?_) | refine WL.step (o_add (by rfl) (by rfl) (by unfold InI; omega) ?_) | refine WL.step (o_sub (by rfl) (by rfl) (by unfold InI; omega) ?_) | refine WL.step (OpW.pass (by rfl) ?_) | refine WL.nil ?_ | refine thenN ?_ | refine WP.region ?_ | refine WP.seq ?_ | refine WP.block ?_ | refine thenR ?_ | refine thenX ?_ | refine blkN ?_ | refine blkHit ?_ | refine blkR ?_ | refine blkMiss (by rfl) ?_ | refine WP.ret ?_ | refine WP.exit ?_ | refine WP.skip ?_ | refine WP.label ?_ | refine WP.condT (by rfl) ?_ | refine WP.condF (by rfl) ?_ | fail)
    refine WL.ixload h2 (List.getElem?_eq_getElem hlt') ?_
    rintro p _ rfl
    repeat' (first | refine WL.step (o_s (by rfl) ?_) | refine WL.step (o_len (by rfl) ?_) | refine WL.step (o_add (by rfl) (by rfl) (by unfold InI; omega) ?_) | refine WL.step (o_sub (by rfl) (by rfl) (by unfold InI; omega) ?_) | refine WL.step (OpW.pass (by rfl) ?_) | refine WL.nil ?_ | refine thenN ?_ | refine WP.region ?_ | refine WP.seq ?_ | refine WP.block ?_ | refine thenR ?_ | refine thenX ?_ | refine blkN ?_ | refine blkHit ?_ | refine blkR ?_ | refine blkMiss (by rfl) ?_ | refine WP.ret ?_ | refine WP.exit ?_ | refine WP.skip ?_ | refine WP.label ?_ | refine WP.condT (by rfl) ?_ | refine WP.condF (by rfl) ?_ | fail)
    refine WL.call (num_any _ _) ?_
    rintro _ _ ⟨rfl, rfl⟩
    refine WL.step (o_mul (by rfl) (by rfl) (by unfold InI; omega) ?_)
    refine WL.call (num_any _ _) ?_
    rintro _ _ ⟨rfl, rfl⟩
    refine o_append1 (u := .int .i64 _) (fun _ => by rfl) (by rfl) hown2 rfl (by simp [Ints, hlen, maxLen]; omega) (by simp [Ints, hlen]; omega) (by omega) ?_
    intro p5 v5 w5 hown5 hb5 _ _ _
    repeat' (first | refine WL.step (o_s (by rfl) ?_) | refine WL.step (o_len (by rfl) ?_) | refine WL.step (o_add (by rfl) (by rfl) (by unfold InI; omega) ?_) | refine WL.step (o_sub (by rfl) (by rfl) (by unfold InI; omega) ?_) | refine WL.step (OpW.pass (by rfl) ?_) | refine WL.nil ?_ | refine thenN ?_ | refine WP.region ?_ | refine WP.seq ?_ | refine WP.block ?_ | refine thenR ?_ | refine thenX ?_ | refine blkN ?_ | refine blkHit ?_ | refine blkR ?_ | refine blkMiss (by rfl) ?_ | refine WP.ret ?_ | refine WP.exit ?_ | refine WP.skip ?_ | refine WP.label ?_ | refine WP.condT (by rfl) ?_ | refine WP.condF (by rfl) ?_ | fail)
    refine ⟨(i + 1, v5), ⟨rfl, rfl, rfl, rfl, rfl, (by first | rfl | (show some (Value.int .i64 _) = some (Value.int .i64 _); refine congrArg some (congrArg (Value.int IntKind.i64) ?_); omega)), trivial⟩, ⟨by dsimp only; omega, ?_, hb2.trans hb5⟩, by dsimp only; omega⟩
    dsimp only
    rw [← Ints_snoc (show i < (scaledL xs k).length by omega) (y := nm (xs[i] * nm k)) (by rw [scaledL_get _ hlt'])]
    exact hown5
  · rename_i hge
    have : i = xs.length := by omega
    subst this
    repeat' (first | refine WL.step (o_s (by rfl) ?_) | refine WL.step (o_len (by rfl) ?_) | refine WL.step (o_add (by rfl) (by rfl) (by unfold InI; omega) ?_) | refine WL.step (o_sub (by rfl) (by rfl) (by unfold InI; omega) ?_) | refine WL.step (OpW.pass (by rfl) ?_) | refine WL.nil ?_ | refine thenN ?_ | refine WP.region ?_ | refine WP.seq ?_ | refine WP.block ?_ | refine thenR ?_ | refine thenX ?_ | refine blkN ?_ | refine blkHit ?_ | refine blkR ?_ | refine blkMiss (by rfl) ?_ | refine WP.ret ?_ | refine WP.exit ?_ | refine WP.skip ?_ | refine WP.label ?_ | refine WP.condT (by rfl) ?_ | refine WP.condF (by rfl) ?_ | fail)
    refine ⟨_, ret1 rfl (by rfl), ?_⟩
    rw [List.take_of_length_le (by omega)] at hown2
    exact ⟨hown2, hb2⟩

theorem l08Add_any {lo hi lo' hi' : Nat} {w : World} {v v' : Value} {xs ys : List Int} (k : Int) (h : IS lo hi w v xs) (h' : IS lo' hi' w v' ys) (hl : xs.length ≤ ys.length) (hn : xs.length ≤ 1000000) (hx : allN xs = true) (hy : allN ys = true) (hk : isN k = true) :
    Does Try.prog 56 [v, v', .int .i64 k] w fun r w' => NewI w r w' (plusL xs ys k) := by
  obtain ⟨a, c, hv⟩ := h.shape
  obtain ⟨a', c', hv'⟩ := h'.shape
  rw [hv] at h ⊢
  rw [hv'] at h' ⊢
  refine Does.enter Try.func56 Try.ntmps56 rfl (by rfl) ?_
  repeat' (first | refine WL.step (o_s (by rfl) ?_) | refine WL.step (o_len (by rfl) ?_) | refine WL.step (o_add (by rfl) (by rfl) (by unfold InI; omega) ?_) | refine WL.step (o_sub (by rfl) (by rfl) (by unfold InI; omega) ?_) | refine WL.step (OpW.pass (by rfl) ?_) | refine WL.nil ?_ | refine thenN ?_ | refine WP.region ?_ | refine WP.seq ?_ | refine WP.block ?_ | refine thenR ?_ | refine thenX ?_ | refine blkN ?_ | refine blkHit ?_ | refine blkR ?_ | refine blkMiss (by rfl) ?_ | refine WP.ret ?_ | refine WP.exit ?_ | refine WP.skip ?_ | refine WP.label ?_ | refine WP.condT (by rfl) ?_ | refine WP.condF (by rfl) ?_ | fail)
  refine WL.step (o_lit (us := []) (by rfl) (by rfl) rfl (by decide) one0 ?_)
  intro v1 w1 hown hb1 hz1 _
  repeat' (first | refine WL.step (o_s (by rfl) ?_) | refine WL.step (o_len (by rfl) ?_) | refine WL.step (o_add (by rfl) (by rfl) (by unfold InI; omega) ?_) | refine WL.step (o_sub (by rfl) (by rfl) (by unfold InI; omega) ?_) | refine WL.step (OpW.pass (by rfl) ?_) | refine WL.nil ?_ | refine thenN ?_ | refine WP.region ?_ | refine WP.seq ?_ | refine WP.block ?_ | refine thenR ?_ | refine thenX ?_ | refine blkN ?_ | refine blkHit ?_ | refine blkR ?_ | refine blkMiss (by rfl) ?_ | refine WP.ret ?_ | refine WP.exit ?_ | refine WP.skip ?_ | refine WP.label ?_ | refine WP.condT (by rfl) ?_ | refine WP.condF (by rfl) ?_ | fail)
  refine WP.loop (fun (s : Nat × Value) => [(0, .slice a xs.length c), (1, .slice a' ys.length c'), (2, .int .i64 k), (7, s.2), (8, .int .i64 s.1)])
    (fun s w2 => s.1 ≤ xs.length ∧ Own w.heap.size 2 w2 s.2 (Ints ((plusL xs ys k).take s.1)) ∧ Below w.heap.size w w2)
    (fun s => xs.length - s.1) (0, v1) ⟨rfl, rfl, rfl, rfl, rfl, trivial⟩ ⟨by omega, by simpa [Ints] using hown, hb1⟩ ?_
  rintro ⟨i, vo⟩ w2 ⟨hi, hown2, hb2⟩
  dsimp only at hi hown2 ⊢
  have hs2 := hb2.size
  repeat' (first | refine WL.step (o_s (by rfl) ?_) | refine WL.step (o_len (by rfl) ?_) | refine WL.step (o_add (by rfl) (by rfl) (by unfold InI; omega) ?_) | refine WL.step (o_sub (by rfl) (by rfl) (by unfold InI; omega) ?_) | refine WL.step (OpW.pass (by rfl) ?_) | refine WL.nil ?_ | refine thenN ?_ | refine WP.region ?_ | refine WP.seq ?_ | refine WP.block ?_ | refine thenR ?_ | refine thenX ?_ | refine blkN ?_ | refine blkHit ?_ | refine blkR ?_ | refine blkMiss (by rfl) ?_ | refine WP.ret ?_ | refine WP.exit ?_ | refine WP.skip ?_ | refine WP.label ?_ | refine WP.condT (by rfl) ?_ | refine WP.condF (by rfl) ?_ | fail)
  first | refine WP.condD (by rfl) (fun _ => ?_) (fun _ => ?_) | refine WP.condND (by rfl) (fun _ => ?_) (fun _ => ?_) | refine WP.condN (by rfl) (fun _ => ?_) (fun _ => ?_) | refine WP.cond (by rfl) (fun _ => ?_) (fun _ => ?_) | fail
  · rename_i hlt
    have hlt' : i < xs.length := by omega
    repeat' (first | refine WL.step (o_s (by rfl) ?_) | refine WL.step (o_len (by rfl) ?_) | refine WL.step (o_add (by rfl) (by rfl) (by unfold InI; omega) ?_) | refine WL.step (o_sub (by rfl) (by rfl) (by unfold InI; omega) ?_) | refine WL.step (OpW.pass (by rfl) ?_) | refine WL.nil ?_ | refine thenN ?_ | refine WP.region ?_ | refine WP.seq ?_ | refine WP.block ?_ | refine thenR ?_ | refine thenX ?_ | refine blkN ?_ | refine blkHit ?_ | refine blkR ?_ | refine blkMiss (by rfl) ?_ | refine WP.ret ?_ | refine WP.exit ?_ | refine WP.skip ?_ | refine WP.label ?_ | refine WP.condT (by rfl) ?_ | refine WP.condF (by rfl) ?_ | fail)
    refine WP.drawn (fun w' => Below w.heap.size w w') [(0, true), (1, true), (2, true), (3, true), (4, true), (5, true), (6, true), (7, true), (8, true), (9, true), (10, false), (11, false), (12, false), (13, false), (14, true)] (by kernel_rfl) mixed ?_
    intro w3 hs3
    have hb3 : Below w.heap.size w w3 := hb2.trans (hs3.below _)
    have h3 := h.below RI.stable hb3 h.hi_le
    have h3' := h'.below RI.stable hb3 h'.hi_le
    have hown3 := hown2.still hs3
    have hxb := allN_get hx hlt'
    have hyb := allN_get hy (show i < ys.length by omega)
    have hkb := isN_bd hk
    have hmb := mul_bd hkb.1 hkb.2 hyb.1 hyb.2
    have hmb2 := nm_bd (k * ys[i])
    repeat' (first | refine WS.q rfl (q_s (by rfl)) (by first | rfl | assumption) ?_ | refine WS.q rfl (q_len (by rfl)) (by first | rfl | assumption) ?_ | refine WS.q rfl (q_add (by rfl) (by rfl) (by unfold InI; omega)) (by first | rfl | assumption) ?_ | refine WS.q rfl (q_sub (by rfl) (by rfl) (by unfold InI; omega)) (by first | rfl | assumption) ?_ | refine WS.q rfl (q_pass (by rfl)) (by first | rfl | assumption) ?_ | refine WS.nil ?_ | fail)
    refine WS.ixload rfl rfl h3 (List.getElem?_eq_getElem hlt') (fun w' hw' => same_below hb3 hw' h.hi_le) hb3 ?_
    rintro p1 _ rfl
    repeat' (first | refine WS.q rfl (q_s (by rfl)) (by first | rfl | assumption) ?_ | refine WS.q rfl (q_len (by rfl)) (by first | rfl | assumption) ?_ | refine WS.q rfl (q_add (by rfl) (by rfl) (by unfold InI; omega)) (by first | rfl | assumption) ?_ | refine WS.q rfl (q_sub (by rfl) (by rfl) (by unfold InI; omega)) (by first | rfl | assumption) ?_ | refine WS.q rfl (q_pass (by rfl)) (by first | rfl | assumption) ?_ | refine WS.nil ?_ | fail)
    refine WS.ixload rfl rfl h3' (List.getElem?_eq_getElem (show i < ys.length by omega)) (fun w' hw' => same_below hb3 hw' h'.hi_le) hb3 ?_
    rintro p2 _ rfl
    refine WS.call rfl (l01Mul_any k ys[i] _ (by unfold InI; omega)) ?_
    rintro _ _ ⟨rfl, rfl⟩
    refine ⟨hb3, ?_⟩
    refine WS.call rfl (l01Add_any xs[i] (nm (k * ys[i])) _ (by unfold InI; omega)) ?_
    rintro _ _ ⟨rfl, rfl⟩
    refine ⟨hb3, ?_⟩
    refine WS.op rfl (o_lit (us := [.int .i64 _]) (by rfl) (by rfl) rfl (by decide) (one1 rfl) ?_)
    intro v4 w4 hown4 hb4 hz4 _
    have hb4' : Below w.heap.size w w4 := hb3.trans (Below.mono hb4 (by have := hb3.size; omega))
    refine ⟨hb4', ?_⟩
    have hown4' := hown3.below hb4 (Nat.le_refl _)
    refine WS.op rfl (o_append (by rfl) (by rfl) hown4' hown4.src (one1 rfl) (by simp [Ints, plusL_length, maxLen]; omega) (by simp [Ints, plusL_length]; omega) (by have := hb4'.size; omega) ?_)
    intro v5 w5 hown5 _ hb5 _
    have hb5' := hb4'.trans hb5
    refine ⟨hb5', ?_⟩
    repeat' (first | refine WS.q rfl (q_s (by rfl)) (by first | rfl | assumption) ?_ | refine WS.q rfl (q_len (by rfl)) (by first | rfl | assumption) ?_ | refine WS.q rfl (q_add (by rfl) (by rfl) (by unfold InI; omega)) (by first | rfl | assumption) ?_ | refine WS.q rfl (q_sub (by rfl) (by rfl) (by unfold InI; omega)) (by first | rfl | assumption) ?_ | refine WS.q rfl (q_pass (by rfl)) (by first | rfl | assumption) ?_ | refine WS.nil ?_ | fail)
    repeat' (first | refine WL.step (o_s (by rfl) ?_) | refine WL.step (o_len (by rfl) ?_) | refine WL.step (o_add (by rfl) (by rfl) (by unfold InI; omega) ?_) | refine WL.step (o_sub (by rfl) (by rfl) (by unfold InI; omega) ?_) | refine WL.step (OpW.pass (by rfl) ?_) | refine WL.nil ?_ | refine thenN ?_ | refine WP.region ?_ | refine WP.seq ?_ | refine WP.block ?_ | refine thenR ?_ | refine thenX ?_ | refine blkN ?_ | refine blkHit ?_ | refine blkR ?_ | refine blkMiss (by rfl) ?_ | refine WP.ret ?_ | refine WP.exit ?_ | refine WP.skip ?_ | refine WP.label ?_ | refine WP.condT (by rfl) ?_ | refine WP.condF (by rfl) ?_ | fail)
    refine ⟨(i + 1, v5), ⟨rfl, rfl, rfl, rfl, (by first | rfl | (show some (Value.int .i64 _) = some (Value.int .i64 _); refine congrArg some (congrArg (Value.int IntKind.i64) ?_); omega)), trivial⟩, ⟨by dsimp only; omega, ?_, hb5'⟩, by dsimp only; omega⟩
    have hlp : i < (plusL xs ys k).length := by rw [plusL_length]; omega
    dsimp only
    rw [← Ints_snoc hlp (y := nm (xs[i] + nm (k * ys[i]))) (by rw [plusL_get _ hlt' (by omega), nm_of hk, nm_add_nm])]
    exact hown5
  · rename_i hge
    have : i = xs.length := by omega
    subst this
    repeat' (first | refine WL.step (o_s (by rfl) ?_) | refine WL.step (o_len (by rfl) ?_) | refine WL.step (o_add (by rfl) (by rfl) (by unfold InI; omega) ?_) | refine WL.step (o_sub (by rfl) (by rfl) (by unfold InI; omega) ?_) | refine WL.step (OpW.pass (by rfl) ?_) | refine WL.nil ?_ | refine thenN ?_ | refine WP.region ?_ | refine WP.seq ?_ | refine WP.block ?_ | refine thenR ?_ | refine thenX ?_ | refine blkN ?_ | refine blkHit ?_ | refine blkR ?_ | refine blkMiss (by rfl) ?_ | refine WP.ret ?_ | refine WP.exit ?_ | refine WP.skip ?_ | refine WP.label ?_ | refine WP.condT (by rfl) ?_ | refine WP.condF (by rfl) ?_ | fail)
    refine ⟨_, ret1 rfl (by rfl), ?_⟩
    rw [List.take_of_length_le (by rw [plusL_length]; omega)] at hown2
    exact ⟨hown2, hb2⟩

/-- A result: a list of the call's own, and a code. -/
def ResI (w : World) (r : Value) (w' : World) (p : List Int × Int) : Prop := ∃ v, r = .tuple #[v, .int .i64 p.2] ∧ NewI w v w' p.1

theorem ResI.none (w : World) (w' : World) (hb : Below w.heap.size w w') (code : Int) : ResI w (.tuple #[.slice none 0 0, .int .i64 code]) w' ([], code) := ⟨_, rfl, Own.nil _ _ _, hb⟩

theorem NewI.trans {w w1 : World} {v : Value} {w' : World} {xs : List Int} (h : NewI w1 v w' xs) (hs : Below w.heap.size w w1) : NewI w v w' xs :=
  ⟨h.1.lower hs.size, hs.trans (Below.mono h.2 hs.size)⟩

theorem AddMaps_any {lo hi lo' hi' : Nat} {w : World} {v v' : Value} {xs ys : List Int} (h : IS lo hi w v xs) (h' : IS lo' hi' w v' ys) :
    Does Try.prog 27 [v, v'] w fun r w' => ResI w r w' (addMaps xs ys) := by
  refine Does.enter Try.func27 Try.ntmps27 rfl (by rfl) ?_
  repeat' (first | refine WL.step (o_s (by rfl) ?_) | refine WL.step (o_len (by rfl) ?_) | refine WL.step (o_add (by rfl) (by rfl) (by unfold InI; omega) ?_) | refine WL.step (o_sub (by rfl) (by rfl) (by unfold InI; omega) ?_) | refine WL.step (OpW.pass (by rfl) ?_) | refine WL.nil ?_ | refine thenN ?_ | refine WP.region ?_ | refine WP.seq ?_ | refine WP.block ?_ | refine thenR ?_ | refine thenX ?_ | refine blkN ?_ | refine blkHit ?_ | refine blkR ?_ | refine blkMiss (by rfl) ?_ | refine WP.ret ?_ | refine WP.exit ?_ | refine WP.skip ?_ | refine WP.label ?_ | refine WP.condT (by rfl) ?_ | refine WP.condF (by rfl) ?_ | fail)
  refine WL.call (IsMap_any h) ?_
  rintro _ w1 ⟨rfl, hs1⟩
  repeat' (first | refine WL.step (o_s (by rfl) ?_) | refine WL.step (o_len (by rfl) ?_) | refine WL.step (o_add (by rfl) (by rfl) (by unfold InI; omega) ?_) | refine WL.step (o_sub (by rfl) (by rfl) (by unfold InI; omega) ?_) | refine WL.step (OpW.pass (by rfl) ?_) | refine WL.nil ?_ | refine thenN ?_ | refine WP.region ?_ | refine WP.seq ?_ | refine WP.block ?_ | refine thenR ?_ | refine thenX ?_ | refine blkN ?_ | refine blkHit ?_ | refine blkR ?_ | refine blkMiss (by rfl) ?_ | refine WP.ret ?_ | refine WP.exit ?_ | refine WP.skip ?_ | refine WP.label ?_ | refine WP.condT (by rfl) ?_ | refine WP.condF (by rfl) ?_ | fail)
  first | refine WL.gsplitD (by rfl) (by rfl) (by rfl) (fun _ => ?_) (fun _ => ?_) | refine WL.gsplitND (by rfl) (by rfl) (by rfl) (fun _ => ?_) (fun _ => ?_) | refine WL.gsplitN (by rfl) (by rfl) (by rfl) (fun _ => ?_) (fun _ => ?_) | refine WL.gsplit (by rfl) (by rfl) (by rfl) (fun _ => ?_) (fun _ => ?_) | fail
  · rename_i hf
    repeat' (first | refine WL.step (o_s (by rfl) ?_) | refine WL.step (o_len (by rfl) ?_) | refine WL.step (o_add (by rfl) (by rfl) (by unfold InI; omega) ?_) | refine WL.step (o_sub (by rfl) (by rfl) (by unfold InI; omega) ?_) | refine WL.step (OpW.pass (by rfl) ?_) | refine WL.nil ?_ | refine thenN ?_ | refine WP.region ?_ | refine WP.seq ?_ | refine WP.block ?_ | refine thenR ?_ | refine thenX ?_ | refine blkN ?_ | refine blkHit ?_ | refine blkR ?_ | refine blkMiss (by rfl) ?_ | refine WP.ret ?_ | refine WP.exit ?_ | refine WP.skip ?_ | refine WP.label ?_ | refine WP.condT (by rfl) ?_ | refine WP.condF (by rfl) ?_ | fail)
    refine ⟨_, ret2 rfl (by rfl) (by rfl), ?_⟩
    rw [show addMaps xs ys = ([], 1) from by simp [addMaps, hf]]
    exact ResI.none _ _ (hs1.below _) _
  · rename_i ht
    repeat' (first | refine WL.step (o_s (by rfl) ?_) | refine WL.step (o_len (by rfl) ?_) | refine WL.step (o_add (by rfl) (by rfl) (by unfold InI; omega) ?_) | refine WL.step (o_sub (by rfl) (by rfl) (by unfold InI; omega) ?_) | refine WL.step (OpW.pass (by rfl) ?_) | refine WL.nil ?_ | refine thenN ?_ | refine WP.region ?_ | refine WP.seq ?_ | refine WP.block ?_ | refine thenR ?_ | refine thenX ?_ | refine blkN ?_ | refine blkHit ?_ | refine blkR ?_ | refine blkMiss (by rfl) ?_ | refine WP.ret ?_ | refine WP.exit ?_ | refine WP.skip ?_ | refine WP.label ?_ | refine WP.condT (by rfl) ?_ | refine WP.condF (by rfl) ?_ | fail)
    refine WL.call (IsMap_any (h'.still RI.stable hs1)) ?_
    rintro _ w2 ⟨rfl, hs2⟩
    repeat' (first | refine WL.step (o_s (by rfl) ?_) | refine WL.step (o_len (by rfl) ?_) | refine WL.step (o_add (by rfl) (by rfl) (by unfold InI; omega) ?_) | refine WL.step (o_sub (by rfl) (by rfl) (by unfold InI; omega) ?_) | refine WL.step (OpW.pass (by rfl) ?_) | refine WL.nil ?_ | refine thenN ?_ | refine WP.region ?_ | refine WP.seq ?_ | refine WP.block ?_ | refine thenR ?_ | refine thenX ?_ | refine blkN ?_ | refine blkHit ?_ | refine blkR ?_ | refine blkMiss (by rfl) ?_ | refine WP.ret ?_ | refine WP.exit ?_ | refine WP.skip ?_ | refine WP.label ?_ | refine WP.condT (by rfl) ?_ | refine WP.condF (by rfl) ?_ | fail)
    first | refine WP.condD (by rfl) (fun _ => ?_) (fun _ => ?_) | refine WP.condND (by rfl) (fun _ => ?_) (fun _ => ?_) | refine WP.condN (by rfl) (fun _ => ?_) (fun _ => ?_) | refine WP.cond (by rfl) (fun _ => ?_) (fun _ => ?_) | fail
    · rename_i hf
      repeat' (first | refine WL.step (o_s (by rfl) ?_) | refine WL.step (o_len (by rfl) ?_) | refine WL.step (o_add (by rfl) (by rfl) (by unfold InI; omega) ?_) | refine WL.step (o_sub (by rfl) (by rfl) (by unfold InI; omega) ?_) | refine WL.step (OpW.pass (by rfl) ?_) | refine WL.nil ?_ | refine thenN ?_ | refine WP.region ?_ | refine WP.seq ?_ | refine WP.block ?_ | refine thenR ?_ | refine thenX ?_ | refine blkN ?_ | refine blkHit ?_ | refine blkR ?_ | refine blkMiss (by rfl) ?_ | refine WP.ret ?_ | refine WP.exit ?_ | refine WP.skip ?_ | refine WP.label ?_ | refine WP.condT (by rfl) ?_ | refine WP.condF (by rfl) ?_ | fail)
      refine ⟨_, ret2 rfl (by rfl) (by rfl), ?_⟩
      rw [show addMaps xs ys = ([], 1) from by simp [addMaps, hf]]
      exact ResI.none _ _ ((hs1.trans hs2).below _) _
    · rename_i ht2
      have hs := hs1.trans hs2
      have l1 := isMap_len ht
      have l2 := isMap_len ht2
      repeat' (first | refine WL.step (o_s (by rfl) ?_) | refine WL.step (o_len (by rfl) ?_) | refine WL.step (o_add (by rfl) (by rfl) (by unfold InI; omega) ?_) | refine WL.step (o_sub (by rfl) (by rfl) (by unfold InI; omega) ?_) | refine WL.step (OpW.pass (by rfl) ?_) | refine WL.nil ?_ | refine thenN ?_ | refine WP.region ?_ | refine WP.seq ?_ | refine WP.block ?_ | refine thenR ?_ | refine thenX ?_ | refine blkN ?_ | refine blkHit ?_ | refine blkR ?_ | refine blkMiss (by rfl) ?_ | refine WP.ret ?_ | refine WP.exit ?_ | refine WP.skip ?_ | refine WP.label ?_ | refine WP.condT (by rfl) ?_ | refine WP.condF (by rfl) ?_ | fail)
      refine WL.call (plus_any 1 (h.still RI.stable hs) (h'.still RI.stable hs) (by omega) (by omega) (isMap_all ht) (isMap_all ht2)) ?_
      intro v3 w3 hn
      repeat' (first | refine WL.step (o_s (by rfl) ?_) | refine WL.step (o_len (by rfl) ?_) | refine WL.step (o_add (by rfl) (by rfl) (by unfold InI; omega) ?_) | refine WL.step (o_sub (by rfl) (by rfl) (by unfold InI; omega) ?_) | refine WL.step (OpW.pass (by rfl) ?_) | refine WL.nil ?_ | refine thenN ?_ | refine WP.region ?_ | refine WP.seq ?_ | refine WP.block ?_ | refine thenR ?_ | refine thenX ?_ | refine blkN ?_ | refine blkHit ?_ | refine blkR ?_ | refine blkMiss (by rfl) ?_ | refine WP.ret ?_ | refine WP.exit ?_ | refine WP.skip ?_ | refine WP.label ?_ | refine WP.condT (by rfl) ?_ | refine WP.condF (by rfl) ?_ | fail)
      refine ⟨_, ret2 rfl (by rfl) (by rfl), ?_⟩
      rw [show addMaps xs ys = (plusL xs ys 1, 0) from by simp [addMaps, ht, ht2]]
      exact ⟨v3, rfl, hn.trans (hs.below _)⟩
theorem sAddMaps_any {lo hi lo' hi' : Nat} {w : World} {v v' : Value} {xs ys : List Int} (h : IS lo hi w v xs) (h' : IS lo' hi' w v' ys) :
    Does Try.prog 25 [v, v'] w fun r w' => ResI w r w' (addMaps xs ys) := by
  refine Does.enter Try.func25 Try.ntmps25 rfl (by rfl) ?_
  repeat' (first | refine WL.step (o_s (by rfl) ?_) | refine WL.step (o_len (by rfl) ?_) | refine WL.step (o_add (by rfl) (by rfl) (by unfold InI; omega) ?_) | refine WL.step (o_sub (by rfl) (by rfl) (by unfold InI; omega) ?_) | refine WL.step (OpW.pass (by rfl) ?_) | refine WL.nil ?_ | refine thenN ?_ | refine WP.region ?_ | refine WP.seq ?_ | refine WP.block ?_ | refine thenR ?_ | refine thenX ?_ | refine blkN ?_ | refine blkHit ?_ | refine blkR ?_ | refine blkMiss (by rfl) ?_ | refine WP.ret ?_ | refine WP.exit ?_ | refine WP.skip ?_ | refine WP.label ?_ | refine WP.condT (by rfl) ?_ | refine WP.condF (by rfl) ?_ | fail)
  refine WL.call (l07Is_any h) ?_
  rintro _ w1 ⟨rfl, hs1⟩
  repeat' (first | refine WL.step (o_s (by rfl) ?_) | refine WL.step (o_len (by rfl) ?_) | refine WL.step (o_add (by rfl) (by rfl) (by unfold InI; omega) ?_) | refine WL.step (o_sub (by rfl) (by rfl) (by unfold InI; omega) ?_) | refine WL.step (OpW.pass (by rfl) ?_) | refine WL.nil ?_ | refine thenN ?_ | refine WP.region ?_ | refine WP.seq ?_ | refine WP.block ?_ | refine thenR ?_ | refine thenX ?_ | refine blkN ?_ | refine blkHit ?_ | refine blkR ?_ | refine blkMiss (by rfl) ?_ | refine WP.ret ?_ | refine WP.exit ?_ | refine WP.skip ?_ | refine WP.label ?_ | refine WP.condT (by rfl) ?_ | refine WP.condF (by rfl) ?_ | fail)
  first | refine WL.gsplitD (by rfl) (by rfl) (by rfl) (fun _ => ?_) (fun _ => ?_) | refine WL.gsplitND (by rfl) (by rfl) (by rfl) (fun _ => ?_) (fun _ => ?_) | refine WL.gsplitN (by rfl) (by rfl) (by rfl) (fun _ => ?_) (fun _ => ?_) | refine WL.gsplit (by rfl) (by rfl) (by rfl) (fun _ => ?_) (fun _ => ?_) | fail
  · rename_i hf
    repeat' (first | refine WL.step (o_s (by rfl) ?_) | refine WL.step (o_len (by rfl) ?_) | refine WL.step (o_add (by rfl) (by rfl) (by unfold InI; omega) ?_) | refine WL.step (o_sub (by rfl) (by rfl) (by unfold InI; omega) ?_) | refine WL.step (OpW.pass (by rfl) ?_) | refine WL.nil ?_ | refine thenN ?_ | refine WP.region ?_ | refine WP.seq ?_ | refine WP.block ?_ | refine thenR ?_ | refine thenX ?_ | refine blkN ?_ | refine blkHit ?_ | refine blkR ?_ | refine blkMiss (by rfl) ?_ | refine WP.ret ?_ | refine WP.exit ?_ | refine WP.skip ?_ | refine WP.label ?_ | refine WP.condT (by rfl) ?_ | refine WP.condF (by rfl) ?_ | fail)
    refine ⟨_, ret2 rfl (by rfl) (by rfl), ?_⟩
    rw [show addMaps xs ys = ([], 1) from by simp [addMaps, hf]]
    exact ResI.none _ _ (hs1.below _) _
  · rename_i ht
    repeat' (first | refine WL.step (o_s (by rfl) ?_) | refine WL.step (o_len (by rfl) ?_) | refine WL.step (o_add (by rfl) (by rfl) (by unfold InI; omega) ?_) | refine WL.step (o_sub (by rfl) (by rfl) (by unfold InI; omega) ?_) | refine WL.step (OpW.pass (by rfl) ?_) | refine WL.nil ?_ | refine thenN ?_ | refine WP.region ?_ | refine WP.seq ?_ | refine WP.block ?_ | refine thenR ?_ | refine thenX ?_ | refine blkN ?_ | refine blkHit ?_ | refine blkR ?_ | refine blkMiss (by rfl) ?_ | refine WP.ret ?_ | refine WP.exit ?_ | refine WP.skip ?_ | refine WP.label ?_ | refine WP.condT (by rfl) ?_ | refine WP.condF (by rfl) ?_ | fail)
    refine WL.call (l07Is_any (h'.still RI.stable hs1)) ?_
    rintro _ w2 ⟨rfl, hs2⟩
    repeat' (first | refine WL.step (o_s (by rfl) ?_) | refine WL.step (o_len (by rfl) ?_) | refine WL.step (o_add (by rfl) (by rfl) (by unfold InI; omega) ?_) | refine WL.step (o_sub (by rfl) (by rfl) (by unfold InI; omega) ?_) | refine WL.step (OpW.pass (by rfl) ?_) | refine WL.nil ?_ | refine thenN ?_ | refine WP.region ?_ | refine WP.seq ?_ | refine WP.block ?_ | refine thenR ?_ | refine thenX ?_ | refine blkN ?_ | refine blkHit ?_ | refine blkR ?_ | refine blkMiss (by rfl) ?_ | refine WP.ret ?_ | refine WP.exit ?_ | refine WP.skip ?_ | refine WP.label ?_ | refine WP.condT (by rfl) ?_ | refine WP.condF (by rfl) ?_ | fail)
    first | refine WP.condD (by rfl) (fun _ => ?_) (fun _ => ?_) | refine WP.condND (by rfl) (fun _ => ?_) (fun _ => ?_) | refine WP.condN (by rfl) (fun _ => ?_) (fun _ => ?_) | refine WP.cond (by rfl) (fun _ => ?_) (fun _ => ?_) | fail
    · rename_i hf
      repeat' (first | refine WL.step (o_s (by rfl) ?_) | refine WL.step (o_len (by rfl) ?_) | refine WL.step (o_add (by rfl) (by rfl) (by unfold InI; omega) ?_) | refine WL.step (o_sub (by rfl) (by rfl) (by unfold InI; omega) ?_) | refine WL.step (OpW.pass (by rfl) ?_) | refine WL.nil ?_ | refine thenN ?_ | refine WP.region ?_ | refine WP.seq ?_ | refine WP.block ?_ | refine thenR ?_ | refine thenX ?_ | refine blkN ?_ | refine blkHit ?_ | refine blkR ?_ | refine blkMiss (by rfl) ?_ | refine WP.ret ?_ | refine WP.exit ?_ | refine WP.skip ?_ | refine WP.label ?_ | refine WP.condT (by rfl) ?_ | refine WP.condF (by rfl) ?_ | fail)
      refine ⟨_, ret2 rfl (by rfl) (by rfl), ?_⟩
      rw [show addMaps xs ys = ([], 1) from by simp [addMaps, hf]]
      exact ResI.none _ _ ((hs1.trans hs2).below _) _
    · rename_i ht2
      have hs := hs1.trans hs2
      have l1 := isMap_len ht
      have l2 := isMap_len ht2
      repeat' (first | refine WL.step (o_s (by rfl) ?_) | refine WL.step (o_len (by rfl) ?_) | refine WL.step (o_add (by rfl) (by rfl) (by unfold InI; omega) ?_) | refine WL.step (o_sub (by rfl) (by rfl) (by unfold InI; omega) ?_) | refine WL.step (OpW.pass (by rfl) ?_) | refine WL.nil ?_ | refine thenN ?_ | refine WP.region ?_ | refine WP.seq ?_ | refine WP.block ?_ | refine thenR ?_ | refine thenX ?_ | refine blkN ?_ | refine blkHit ?_ | refine blkR ?_ | refine blkMiss (by rfl) ?_ | refine WP.ret ?_ | refine WP.exit ?_ | refine WP.skip ?_ | refine WP.label ?_ | refine WP.condT (by rfl) ?_ | refine WP.condF (by rfl) ?_ | fail)
      refine WL.call (l08Add_any 1 (h.still RI.stable hs) (h'.still RI.stable hs) (by omega) (by omega) (isMap_all ht) (isMap_all ht2) (by decide +kernel)) ?_
      intro v3 w3 hn
      repeat' (first | refine WL.step (o_s (by rfl) ?_) | refine WL.step (o_len (by rfl) ?_) | refine WL.step (o_add (by rfl) (by rfl) (by unfold InI; omega) ?_) | refine WL.step (o_sub (by rfl) (by rfl) (by unfold InI; omega) ?_) | refine WL.step (OpW.pass (by rfl) ?_) | refine WL.nil ?_ | refine thenN ?_ | refine WP.region ?_ | refine WP.seq ?_ | refine WP.block ?_ | refine thenR ?_ | refine thenX ?_ | refine blkN ?_ | refine blkHit ?_ | refine blkR ?_ | refine blkMiss (by rfl) ?_ | refine WP.ret ?_ | refine WP.exit ?_ | refine WP.skip ?_ | refine WP.label ?_ | refine WP.condT (by rfl) ?_ | refine WP.condF (by rfl) ?_ | fail)
      refine ⟨_, ret2 rfl (by rfl) (by rfl), ?_⟩
      rw [show addMaps xs ys = (plusL xs ys 1, 0) from by simp [addMaps, ht, ht2]]
      exact ⟨v3, rfl, hn.trans (hs.below _)⟩
theorem MultiplyMap_any {lo hi : Nat} {w : World} {v : Value} {xs : List Int} (h : IS lo hi w v xs) (k : Int) :
    Does Try.prog 32 [v, .int .i64 k] w fun r w' => ResI w r w' (multiplyMap xs k) := by
  refine Does.enter Try.func32 Try.ntmps32 rfl (by rfl) ?_
  repeat' (first | refine WL.step (o_s (by rfl) ?_) | refine WL.step (o_len (by rfl) ?_) | refine WL.step (o_add (by rfl) (by rfl) (by unfold InI; omega) ?_) | refine WL.step (o_sub (by rfl) (by rfl) (by unfold InI; omega) ?_) | refine WL.step (OpW.pass (by rfl) ?_) | refine WL.nil ?_ | refine thenN ?_ | refine WP.region ?_ | refine WP.seq ?_ | refine WP.block ?_ | refine thenR ?_ | refine thenX ?_ | refine blkN ?_ | refine blkHit ?_ | refine blkR ?_ | refine blkMiss (by rfl) ?_ | refine WP.ret ?_ | refine WP.exit ?_ | refine WP.skip ?_ | refine WP.label ?_ | refine WP.condT (by rfl) ?_ | refine WP.condF (by rfl) ?_ | fail)
  refine WL.call (IsMap_any h) ?_
  rintro _ w1 ⟨rfl, hs1⟩
  repeat' (first | refine WL.step (o_s (by rfl) ?_) | refine WL.step (o_len (by rfl) ?_) | refine WL.step (o_add (by rfl) (by rfl) (by unfold InI; omega) ?_) | refine WL.step (o_sub (by rfl) (by rfl) (by unfold InI; omega) ?_) | refine WL.step (OpW.pass (by rfl) ?_) | refine WL.nil ?_ | refine thenN ?_ | refine WP.region ?_ | refine WP.seq ?_ | refine WP.block ?_ | refine thenR ?_ | refine thenX ?_ | refine blkN ?_ | refine blkHit ?_ | refine blkR ?_ | refine blkMiss (by rfl) ?_ | refine WP.ret ?_ | refine WP.exit ?_ | refine WP.skip ?_ | refine WP.label ?_ | refine WP.condT (by rfl) ?_ | refine WP.condF (by rfl) ?_ | fail)
  first | refine WP.condD (by rfl) (fun _ => ?_) (fun _ => ?_) | refine WP.condND (by rfl) (fun _ => ?_) (fun _ => ?_) | refine WP.condN (by rfl) (fun _ => ?_) (fun _ => ?_) | refine WP.cond (by rfl) (fun _ => ?_) (fun _ => ?_) | fail
  · rename_i hf
    repeat' (first | refine WL.step (o_s (by rfl) ?_) | refine WL.step (o_len (by rfl) ?_) | refine WL.step (o_add (by rfl) (by rfl) (by unfold InI; omega) ?_) | refine WL.step (o_sub (by rfl) (by rfl) (by unfold InI; omega) ?_) | refine WL.step (OpW.pass (by rfl) ?_) | refine WL.nil ?_ | refine thenN ?_ | refine WP.region ?_ | refine WP.seq ?_ | refine WP.block ?_ | refine thenR ?_ | refine thenX ?_ | refine blkN ?_ | refine blkHit ?_ | refine blkR ?_ | refine blkMiss (by rfl) ?_ | refine WP.ret ?_ | refine WP.exit ?_ | refine WP.skip ?_ | refine WP.label ?_ | refine WP.condT (by rfl) ?_ | refine WP.condF (by rfl) ?_ | fail)
    refine ⟨_, ret2 rfl (by rfl) (by rfl), ?_⟩
    rw [show multiplyMap xs k = ([], 1) from by simp [multiplyMap, hf]]
    exact ResI.none _ _ (hs1.below _) _
  · rename_i ht
    repeat' (first | refine WL.step (o_s (by rfl) ?_) | refine WL.step (o_len (by rfl) ?_) | refine WL.step (o_add (by rfl) (by rfl) (by unfold InI; omega) ?_) | refine WL.step (o_sub (by rfl) (by rfl) (by unfold InI; omega) ?_) | refine WL.step (OpW.pass (by rfl) ?_) | refine WL.nil ?_ | refine thenN ?_ | refine WP.region ?_ | refine WP.seq ?_ | refine WP.block ?_ | refine thenR ?_ | refine thenX ?_ | refine blkN ?_ | refine blkHit ?_ | refine blkR ?_ | refine blkMiss (by rfl) ?_ | refine WP.ret ?_ | refine WP.exit ?_ | refine WP.skip ?_ | refine WP.label ?_ | refine WP.condT (by rfl) ?_ | refine WP.condF (by rfl) ?_ | fail)
    refine WL.call (IsNumber_any _ _) ?_
    rintro _ w2 ⟨rfl, hs2⟩
    repeat' (first | refine WL.step (o_s (by rfl) ?_) | refine WL.step (o_len (by rfl) ?_) | refine WL.step (o_add (by rfl) (by rfl) (by unfold InI; omega) ?_) | refine WL.step (o_sub (by rfl) (by rfl) (by unfold InI; omega) ?_) | refine WL.step (OpW.pass (by rfl) ?_) | refine WL.nil ?_ | refine thenN ?_ | refine WP.region ?_ | refine WP.seq ?_ | refine WP.block ?_ | refine thenR ?_ | refine thenX ?_ | refine blkN ?_ | refine blkHit ?_ | refine blkR ?_ | refine blkMiss (by rfl) ?_ | refine WP.ret ?_ | refine WP.exit ?_ | refine WP.skip ?_ | refine WP.label ?_ | refine WP.condT (by rfl) ?_ | refine WP.condF (by rfl) ?_ | fail)
    first | refine WP.condD (by rfl) (fun _ => ?_) (fun _ => ?_) | refine WP.condND (by rfl) (fun _ => ?_) (fun _ => ?_) | refine WP.condN (by rfl) (fun _ => ?_) (fun _ => ?_) | refine WP.cond (by rfl) (fun _ => ?_) (fun _ => ?_) | fail
    · rename_i hf
      repeat' (first | refine WL.step (o_s (by rfl) ?_) | refine WL.step (o_len (by rfl) ?_) | refine WL.step (o_add (by rfl) (by rfl) (by unfold InI; omega) ?_) | refine WL.step (o_sub (by rfl) (by rfl) (by unfold InI; omega) ?_) | refine WL.step (OpW.pass (by rfl) ?_) | refine WL.nil ?_ | refine thenN ?_ | refine WP.region ?_ | refine WP.seq ?_ | refine WP.block ?_ | refine thenR ?_ | refine thenX ?_ | refine blkN ?_ | refine blkHit ?_ | refine blkR ?_ | refine blkMiss (by rfl) ?_ | refine WP.ret ?_ | refine WP.exit ?_ | refine WP.skip ?_ | refine WP.label ?_ | refine WP.condT (by rfl) ?_ | refine WP.condF (by rfl) ?_ | fail)
      refine ⟨_, ret2 rfl (by rfl) (by rfl), ?_⟩
      rw [show multiplyMap xs k = ([], 2) from by simp [multiplyMap, ht, hf]]
      exact ResI.none _ _ ((hs1.trans hs2).below _) _
    · rename_i ht2
      have hs := hs1.trans hs2
      have l1 := isMap_len ht
      repeat' (first | refine WL.step (o_s (by rfl) ?_) | refine WL.step (o_len (by rfl) ?_) | refine WL.step (o_add (by rfl) (by rfl) (by unfold InI; omega) ?_) | refine WL.step (o_sub (by rfl) (by rfl) (by unfold InI; omega) ?_) | refine WL.step (OpW.pass (by rfl) ?_) | refine WL.nil ?_ | refine thenN ?_ | refine WP.region ?_ | refine WP.seq ?_ | refine WP.block ?_ | refine thenR ?_ | refine thenX ?_ | refine blkN ?_ | refine blkHit ?_ | refine blkR ?_ | refine blkMiss (by rfl) ?_ | refine WP.ret ?_ | refine WP.exit ?_ | refine WP.skip ?_ | refine WP.label ?_ | refine WP.condT (by rfl) ?_ | refine WP.condF (by rfl) ?_ | fail)
      refine WL.call (scaled_any k (h.still RI.stable hs) (by omega) (isMap_all ht)) ?_
      intro v3 w3 hn
      repeat' (first | refine WL.step (o_s (by rfl) ?_) | refine WL.step (o_len (by rfl) ?_) | refine WL.step (o_add (by rfl) (by rfl) (by unfold InI; omega) ?_) | refine WL.step (o_sub (by rfl) (by rfl) (by unfold InI; omega) ?_) | refine WL.step (OpW.pass (by rfl) ?_) | refine WL.nil ?_ | refine thenN ?_ | refine WP.region ?_ | refine WP.seq ?_ | refine WP.block ?_ | refine thenR ?_ | refine thenX ?_ | refine blkN ?_ | refine blkHit ?_ | refine blkR ?_ | refine blkMiss (by rfl) ?_ | refine WP.ret ?_ | refine WP.exit ?_ | refine WP.skip ?_ | refine WP.label ?_ | refine WP.condT (by rfl) ?_ | refine WP.condF (by rfl) ?_ | fail)
      refine ⟨_, ret2 rfl (by rfl) (by rfl), ?_⟩
      rw [show multiplyMap xs k = (scaledL xs k, 0) from by simp [multiplyMap, ht, ht2]]
      exact ⟨v3, rfl, hn.trans (hs.below _)⟩
theorem sMultiplyMap_any {lo hi : Nat} {w : World} {v : Value} {xs : List Int} (h : IS lo hi w v xs) (k : Int) :
    Does Try.prog 31 [v, .int .i64 k] w fun r w' => ResI w r w' (multiplyMap xs k) := by
  refine Does.enter Try.func31 Try.ntmps31 rfl (by rfl) ?_
  repeat' (first | refine WL.step (o_s (by rfl) ?_) | refine WL.step (o_len (by rfl) ?_) | refine WL.step (o_add (by rfl) (by rfl) (by unfold InI; omega) ?_) | refine WL.step (o_sub (by rfl) (by rfl) (by unfold InI; omega) ?_) | refine WL.step (OpW.pass (by rfl) ?_) | refine WL.nil ?_ | refine thenN ?_ | refine WP.region ?_ | refine WP.seq ?_ | refine WP.block ?_ | refine thenR ?_ | refine thenX ?_ | refine blkN ?_ | refine blkHit ?_ | refine blkR ?_ | refine blkMiss (by rfl) ?_ | refine WP.ret ?_ | refine WP.exit ?_ | refine WP.skip ?_ | refine WP.label ?_ | refine WP.condT (by rfl) ?_ | refine WP.condF (by rfl) ?_ | fail)
  refine WL.call (l07Is_any h) ?_
  rintro _ w1 ⟨rfl, hs1⟩
  repeat' (first | refine WL.step (o_s (by rfl) ?_) | refine WL.step (o_len (by rfl) ?_) | refine WL.step (o_add (by rfl) (by rfl) (by unfold InI; omega) ?_) | refine WL.step (o_sub (by rfl) (by rfl) (by unfold InI; omega) ?_) | refine WL.step (OpW.pass (by rfl) ?_) | refine WL.nil ?_ | refine thenN ?_ | refine WP.region ?_ | refine WP.seq ?_ | refine WP.block ?_ | refine thenR ?_ | refine thenX ?_ | refine blkN ?_ | refine blkHit ?_ | refine blkR ?_ | refine blkMiss (by rfl) ?_ | refine WP.ret ?_ | refine WP.exit ?_ | refine WP.skip ?_ | refine WP.label ?_ | refine WP.condT (by rfl) ?_ | refine WP.condF (by rfl) ?_ | fail)
  first | refine WP.condD (by rfl) (fun _ => ?_) (fun _ => ?_) | refine WP.condND (by rfl) (fun _ => ?_) (fun _ => ?_) | refine WP.condN (by rfl) (fun _ => ?_) (fun _ => ?_) | refine WP.cond (by rfl) (fun _ => ?_) (fun _ => ?_) | fail
  · rename_i hf
    repeat' (first | refine WL.step (o_s (by rfl) ?_) | refine WL.step (o_len (by rfl) ?_) | refine WL.step (o_add (by rfl) (by rfl) (by unfold InI; omega) ?_) | refine WL.step (o_sub (by rfl) (by rfl) (by unfold InI; omega) ?_) | refine WL.step (OpW.pass (by rfl) ?_) | refine WL.nil ?_ | refine thenN ?_ | refine WP.region ?_ | refine WP.seq ?_ | refine WP.block ?_ | refine thenR ?_ | refine thenX ?_ | refine blkN ?_ | refine blkHit ?_ | refine blkR ?_ | refine blkMiss (by rfl) ?_ | refine WP.ret ?_ | refine WP.exit ?_ | refine WP.skip ?_ | refine WP.label ?_ | refine WP.condT (by rfl) ?_ | refine WP.condF (by rfl) ?_ | fail)
    refine ⟨_, ret2 rfl (by rfl) (by rfl), ?_⟩
    rw [show multiplyMap xs k = ([], 1) from by simp [multiplyMap, hf]]
    exact ResI.none _ _ (hs1.below _) _
  · rename_i ht
    repeat' (first | refine WL.step (o_s (by rfl) ?_) | refine WL.step (o_len (by rfl) ?_) | refine WL.step (o_add (by rfl) (by rfl) (by unfold InI; omega) ?_) | refine WL.step (o_sub (by rfl) (by rfl) (by unfold InI; omega) ?_) | refine WL.step (OpW.pass (by rfl) ?_) | refine WL.nil ?_ | refine thenN ?_ | refine WP.region ?_ | refine WP.seq ?_ | refine WP.block ?_ | refine thenR ?_ | refine thenX ?_ | refine blkN ?_ | refine blkHit ?_ | refine blkR ?_ | refine blkMiss (by rfl) ?_ | refine WP.ret ?_ | refine WP.exit ?_ | refine WP.skip ?_ | refine WP.label ?_ | refine WP.condT (by rfl) ?_ | refine WP.condF (by rfl) ?_ | fail)
    refine WL.call (l01In_any _ _ _ _) ?_
    rintro _ w2 ⟨rfl, hs2⟩
    repeat' (first | refine WL.step (o_s (by rfl) ?_) | refine WL.step (o_len (by rfl) ?_) | refine WL.step (o_add (by rfl) (by rfl) (by unfold InI; omega) ?_) | refine WL.step (o_sub (by rfl) (by rfl) (by unfold InI; omega) ?_) | refine WL.step (OpW.pass (by rfl) ?_) | refine WL.nil ?_ | refine thenN ?_ | refine WP.region ?_ | refine WP.seq ?_ | refine WP.block ?_ | refine thenR ?_ | refine thenX ?_ | refine blkN ?_ | refine blkHit ?_ | refine blkR ?_ | refine blkMiss (by rfl) ?_ | refine WP.ret ?_ | refine WP.exit ?_ | refine WP.skip ?_ | refine WP.label ?_ | refine WP.condT (by rfl) ?_ | refine WP.condF (by rfl) ?_ | fail)
    first | refine WP.condD (by rfl) (fun _ => ?_) (fun _ => ?_) | refine WP.condND (by rfl) (fun _ => ?_) (fun _ => ?_) | refine WP.condN (by rfl) (fun _ => ?_) (fun _ => ?_) | refine WP.cond (by rfl) (fun _ => ?_) (fun _ => ?_) | fail
    · rename_i hf
      have hf' : isN k = false := by rw [isN_def, decide_eq_false hf]
      repeat' (first | refine WL.step (o_s (by rfl) ?_) | refine WL.step (o_len (by rfl) ?_) | refine WL.step (o_add (by rfl) (by rfl) (by unfold InI; omega) ?_) | refine WL.step (o_sub (by rfl) (by rfl) (by unfold InI; omega) ?_) | refine WL.step (OpW.pass (by rfl) ?_) | refine WL.nil ?_ | refine thenN ?_ | refine WP.region ?_ | refine WP.seq ?_ | refine WP.block ?_ | refine thenR ?_ | refine thenX ?_ | refine blkN ?_ | refine blkHit ?_ | refine blkR ?_ | refine blkMiss (by rfl) ?_ | refine WP.ret ?_ | refine WP.exit ?_ | refine WP.skip ?_ | refine WP.label ?_ | refine WP.condT (by rfl) ?_ | refine WP.condF (by rfl) ?_ | fail)
      refine ⟨_, ret2 rfl (by rfl) (by rfl), ?_⟩
      rw [show multiplyMap xs k = ([], 2) from by simp [multiplyMap, ht, hf']]
      exact ResI.none _ _ ((hs1.trans hs2).below _) _
    · rename_i ht2
      have ht2' : isN k = true := by rw [isN_def, decide_eq_true ht2]
      have hs := hs1.trans hs2
      have l1 := isMap_len ht
      repeat' (first | refine WL.step (o_s (by rfl) ?_) | refine WL.step (o_len (by rfl) ?_) | refine WL.step (o_add (by rfl) (by rfl) (by unfold InI; omega) ?_) | refine WL.step (o_sub (by rfl) (by rfl) (by unfold InI; omega) ?_) | refine WL.step (OpW.pass (by rfl) ?_) | refine WL.nil ?_ | refine thenN ?_ | refine WP.region ?_ | refine WP.seq ?_ | refine WP.block ?_ | refine thenR ?_ | refine thenX ?_ | refine blkN ?_ | refine blkHit ?_ | refine blkR ?_ | refine blkMiss (by rfl) ?_ | refine WP.ret ?_ | refine WP.exit ?_ | refine WP.skip ?_ | refine WP.label ?_ | refine WP.condT (by rfl) ?_ | refine WP.condF (by rfl) ?_ | fail)
      refine WL.step (o_make (n := 38) (by rfl) (by rfl) (by omega) (by decide) ?_)
      intro v3 w3 hown3 hb3 hz3
      have hi3 : IS w2.heap.size w3.heap.size w3 v3 (List.replicate 38 0) := Own.toIS (xs := List.replicate 38 0) (by simpa [Ints] using hown3) (Nat.le_refl _)
      have h2 := h.still RI.stable hs
      repeat' (first | refine WL.step (o_s (by rfl) ?_) | refine WL.step (o_len (by rfl) ?_) | refine WL.step (o_add (by rfl) (by rfl) (by unfold InI; omega) ?_) | refine WL.step (o_sub (by rfl) (by rfl) (by unfold InI; omega) ?_) | refine WL.step (OpW.pass (by rfl) ?_) | refine WL.nil ?_ | refine thenN ?_ | refine WP.region ?_ | refine WP.seq ?_ | refine WP.block ?_ | refine thenR ?_ | refine thenX ?_ | refine blkN ?_ | refine blkHit ?_ | refine blkR ?_ | refine blkMiss (by rfl) ?_ | refine WP.ret ?_ | refine WP.exit ?_ | refine WP.skip ?_ | refine WP.label ?_ | refine WP.condT (by rfl) ?_ | refine WP.condF (by rfl) ?_ | fail)
      refine WL.call (l08Add_any k hi3 (h2.below RI.stable hb3 h2.hi_le) (by simp; omega) (by simp) (by decide +kernel) (isMap_all ht) ht2') ?_
      intro v4 w4 hn
      repeat' (first | refine WL.step (o_s (by rfl) ?_) | refine WL.step (o_len (by rfl) ?_) | refine WL.step (o_add (by rfl) (by rfl) (by unfold InI; omega) ?_) | refine WL.step (o_sub (by rfl) (by rfl) (by unfold InI; omega) ?_) | refine WL.step (OpW.pass (by rfl) ?_) | refine WL.nil ?_ | refine thenN ?_ | refine WP.region ?_ | refine WP.seq ?_ | refine WP.block ?_ | refine thenR ?_ | refine thenX ?_ | refine blkN ?_ | refine blkHit ?_ | refine blkR ?_ | refine blkMiss (by rfl) ?_ | refine WP.ret ?_ | refine WP.exit ?_ | refine WP.skip ?_ | refine WP.label ?_ | refine WP.condT (by rfl) ?_ | refine WP.condF (by rfl) ?_ | fail)
      refine ⟨_, ret2 rfl (by rfl) (by rfl), ?_⟩
      rw [show multiplyMap xs k = (scaledL xs k, 0) from by simp [multiplyMap, ht, ht2']]
      rw [plusL_zero xs k l1 ht2'] at hn
      exact ⟨v4, rfl, hn.trans ((hs.below _).trans (Below.mono hb3 (by rw [hs.size]; exact Nat.le_refl _)))⟩
end Go.Proofs
