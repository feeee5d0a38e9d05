/- The nodes of a tableau. -/
import Derived.Test.YteifmffmadnifaaT1
import Derived.Test.YteifmffmadnifaaA2
import Derived.Test.YteifmffmadnifaaPlA
namespace Go.Proofs
open Go Go.Fw Go.RowKit Go.Rk

theorem l01Dot_any {lo hi lo' hi' : Nat} {w : World} {v v' : Value} {xs ys : List Int} (h : IS lo hi w v xs) (h' : IS lo' hi' w v' ys) (hl : xs.length ≤ ys.length) (hx : allN xs = true) (hy : allN ys = true) :
    Does Try.prog 177 [v, v'] w fun r w' => r = .int .i64 (dotL xs ys) ∧ Still w w' := by
  obtain ⟨a, c, hv⟩ := h.shape
  obtain ⟨a', c', hv'⟩ := h'.shape
  rw [hv] at h ⊢
  rw [hv'] at h' ⊢
  have hm := h.len
  unfold maxLen at hm
  have hpl : (List.zipWith (· * ·) xs ys).length = xs.length := by simp; omega
  refine Does.enter Try.func177 Try.ntmps177 rfl (by rfl) ?_
  repeat' (first | refine WL.step (o_s (by rfl) ?_) | refine WL.step (o_len (by rfl) ?_) | refine WL.step (o_add (by rfl) (by rfl) (by unfold InI; omega) ?_) | refine WL.step (o_sub (by rfl) (by rfl) (by unfold InI; omega) ?_) | refine WL.step (OpW.pass (by rfl) ?_) | refine WL.nil ?_ | refine thenN ?_ | refine WP.region ?_ | refine WP.seq ?_ | refine WP.block ?_ | refine thenR ?_ | refine thenX ?_ | refine blkN ?_ | refine blkHit ?_ | refine blkR ?_ | refine blkMiss (by rfl) ?_ | refine WP.ret ?_ | refine WP.exit ?_ | refine WP.skip ?_ | refine WP.label ?_ | refine WP.condT (by rfl) ?_ | refine WP.condF (by rfl) ?_ | fail)
  refine WP.loop (fun (i : Nat) => [(0, .slice a xs.length c), (1, .slice a' ys.length c'), (5, .int .i64 (nm ((List.zipWith (· * ·) xs ys).take i).sum)), (6, .int .i64 (i : Nat))]) (fun i w2 => i ≤ xs.length ∧ Still w w2)
    (fun i => xs.length - i) 0 ⟨rfl, rfl, by rw [show ((List.zipWith (· * ·) xs ys).take 0).sum = 0 from rfl, nm_zero]; rfl, rfl, trivial⟩ ⟨by omega, Still.refl _⟩ ?_
  rintro i w2 ⟨hi1, hs⟩
  have h0 := nm_bd ((List.zipWith (· * ·) xs ys).take i).sum
  repeat' (first | refine WL.step (o_s (by rfl) ?_) | refine WL.step (o_len (by rfl) ?_) | refine WL.step (o_add (by rfl) (by rfl) (by unfold InI; omega) ?_) | refine WL.step (o_sub (by rfl) (by rfl) (by unfold InI; omega) ?_) | refine WL.step (OpW.pass (by rfl) ?_) | refine WL.nil ?_ | refine thenN ?_ | refine WP.region ?_ | refine WP.seq ?_ | refine WP.block ?_ | refine thenR ?_ | refine thenX ?_ | refine blkN ?_ | refine blkHit ?_ | refine blkR ?_ | refine blkMiss (by rfl) ?_ | refine WP.ret ?_ | refine WP.exit ?_ | refine WP.skip ?_ | refine WP.label ?_ | refine WP.condT (by rfl) ?_ | refine WP.condF (by rfl) ?_ | fail)
  first | refine WP.condD (by rfl) (fun _ => ?_) (fun _ => ?_) | refine WP.condND (by rfl) (fun _ => ?_) (fun _ => ?_) | refine WP.condN (by rfl) (fun _ => ?_) (fun _ => ?_) | refine WP.cond (by rfl) (fun _ => ?_) (fun _ => ?_) | fail
  · rename_i hlt
    have hlt' : i < xs.length := by omega
    have hxb := allN_get hx hlt'
    have hyb := allN_get hy (show i < ys.length by omega)
    have hmb := mul_bd hxb.1 hxb.2 hyb.1 hyb.2
    have hmb2 := nm_bd (xs[i] * ys[i])
    have hstep := sum_take_succ (xs := List.zipWith (· * ·) xs ys) (i := i) (by omega)
    rw [List.getElem_zipWith] at hstep
    repeat' (first | refine WL.step (o_s (by rfl) ?_) | refine WL.step (o_len (by rfl) ?_) | refine WL.step (o_add (by rfl) (by rfl) (by unfold InI; omega) ?_) | refine WL.step (o_sub (by rfl) (by rfl) (by unfold InI; omega) ?_) | refine WL.step (OpW.pass (by rfl) ?_) | refine WL.nil ?_ | refine thenN ?_ | refine WP.region ?_ | refine WP.seq ?_ | refine WP.block ?_ | refine thenR ?_ | refine thenX ?_ | refine blkN ?_ | refine blkHit ?_ | refine blkR ?_ | refine blkMiss (by rfl) ?_ | refine WP.ret ?_ | refine WP.exit ?_ | refine WP.skip ?_ | refine WP.label ?_ | refine WP.condT (by rfl) ?_ | refine WP.condF (by rfl) ?_ | fail)
    refine WP.drawn (fun w' => w'.heap = w2.heap) [(0, true), (1, true), (2, true), (3, true), (4, true), (5, true), (6, true), (7, true), (8, true), (9, false), (10, false), (11, true)] (by kernel_rfl) mixed ?_
    intro w3 hs3
    have hw3 : w3.heap = w2.heap := hs3.heap
    have h3 := (h.still RI.stable hs).still RI.stable hs3
    have h3' := (h'.still RI.stable hs).still RI.stable hs3
    repeat' (first | refine WS.q rfl (q_s (by rfl)) (by first | rfl | assumption) ?_ | refine WS.q rfl (q_len (by rfl)) (by first | rfl | assumption) ?_ | refine WS.q rfl (q_add (by rfl) (by rfl) (by unfold InI; omega)) (by first | rfl | assumption) ?_ | refine WS.q rfl (q_sub (by rfl) (by rfl) (by unfold InI; omega)) (by first | rfl | assumption) ?_ | refine WS.q rfl (q_pass (by rfl)) (by first | rfl | assumption) ?_ | refine WS.nil ?_ | fail)
    refine WS.ixload rfl rfl h3 (List.getElem?_eq_getElem hlt') (fun w' hw' => same_heap (hw'.trans hw3.symm)) hw3 ?_
    rintro p1 _ rfl
    repeat' (first | refine WS.q rfl (q_s (by rfl)) (by first | rfl | assumption) ?_ | refine WS.q rfl (q_len (by rfl)) (by first | rfl | assumption) ?_ | refine WS.q rfl (q_add (by rfl) (by rfl) (by unfold InI; omega)) (by first | rfl | assumption) ?_ | refine WS.q rfl (q_sub (by rfl) (by rfl) (by unfold InI; omega)) (by first | rfl | assumption) ?_ | refine WS.q rfl (q_pass (by rfl)) (by first | rfl | assumption) ?_ | refine WS.nil ?_ | fail)
    refine WS.ixload rfl rfl h3' (List.getElem?_eq_getElem (show i < ys.length by omega)) (fun w' hw' => same_heap (hw'.trans hw3.symm)) hw3 ?_
    rintro p2 _ rfl
    refine WS.call rfl (l01Mul_any xs[i] ys[i] _ (by unfold InI; omega)) ?_
    rintro _ _ ⟨rfl, rfl⟩
    refine ⟨hw3, ?_⟩
    refine WS.call rfl (l01Add_any (nm ((List.zipWith (· * ·) xs ys).take i).sum) (nm (xs[i] * ys[i])) _ (by unfold InI; omega)) ?_
    rintro _ _ ⟨rfl, rfl⟩
    refine ⟨hw3, ?_⟩
    rw [nm_add_nm, nm_nm_add, ← hstep]
    repeat' (first | refine WS.q rfl (q_s (by rfl)) (by first | rfl | assumption) ?_ | refine WS.q rfl (q_len (by rfl)) (by first | rfl | assumption) ?_ | refine WS.q rfl (q_add (by rfl) (by rfl) (by unfold InI; omega)) (by first | rfl | assumption) ?_ | refine WS.q rfl (q_sub (by rfl) (by rfl) (by unfold InI; omega)) (by first | rfl | assumption) ?_ | refine WS.q rfl (q_pass (by rfl)) (by first | rfl | assumption) ?_ | refine WS.nil ?_ | fail)
    repeat' (first | refine WL.step (o_s (by rfl) ?_) | refine WL.step (o_len (by rfl) ?_) | refine WL.step (o_add (by rfl) (by rfl) (by unfold InI; omega) ?_) | refine WL.step (o_sub (by rfl) (by rfl) (by unfold InI; omega) ?_) | refine WL.step (OpW.pass (by rfl) ?_) | refine WL.nil ?_ | refine thenN ?_ | refine WP.region ?_ | refine WP.seq ?_ | refine WP.block ?_ | refine thenR ?_ | refine thenX ?_ | refine blkN ?_ | refine blkHit ?_ | refine blkR ?_ | refine blkMiss (by rfl) ?_ | refine WP.ret ?_ | refine WP.exit ?_ | refine WP.skip ?_ | refine WP.label ?_ | refine WP.condT (by rfl) ?_ | refine WP.condF (by rfl) ?_ | fail)
    exact ⟨i + 1, ⟨rfl, rfl, rfl, rfl, trivial⟩, ⟨by omega, hs.trans hs3⟩, by omega⟩
  · rename_i hge
    have : i = xs.length := by omega
    subst this
    repeat' (first | refine WL.step (o_s (by rfl) ?_) | refine WL.step (o_len (by rfl) ?_) | refine WL.step (o_add (by rfl) (by rfl) (by unfold InI; omega) ?_) | refine WL.step (o_sub (by rfl) (by rfl) (by unfold InI; omega) ?_) | refine WL.step (OpW.pass (by rfl) ?_) | refine WL.nil ?_ | refine thenN ?_ | refine WP.region ?_ | refine WP.seq ?_ | refine WP.block ?_ | refine thenR ?_ | refine thenX ?_ | refine blkN ?_ | refine blkHit ?_ | refine blkR ?_ | refine blkMiss (by rfl) ?_ | refine WP.ret ?_ | refine WP.exit ?_ | refine WP.skip ?_ | refine WP.label ?_ | refine WP.condT (by rfl) ?_ | refine WP.condF (by rfl) ?_ | fail)
    refine ⟨_, ret1 rfl (by rfl), ?_⟩
    refine ⟨?_, hs⟩
    rw [List.take_of_length_le (by omega)]
    rfl
theorem l09Ones_any (n : Nat) (hn : n ≤ 1000000) (w : World) : Does Try.prog 157 [.int .i64 (n : Nat)] w fun r w' => NewI w r w' (List.replicate n 1) := by
  refine Does.enter Try.func157 Try.ntmps157 rfl (by rfl) ?_
  repeat' (first | refine WL.step (o_s (by rfl) ?_) | refine WL.step (o_len (by rfl) ?_) | refine WL.step (o_add (by rfl) (by rfl) (by unfold InI; omega) ?_) | refine WL.step (o_sub (by rfl) (by rfl) (by unfold InI; omega) ?_) | refine WL.step (OpW.pass (by rfl) ?_) | refine WL.nil ?_ | refine thenN ?_ | refine WP.region ?_ | refine WP.seq ?_ | refine WP.block ?_ | refine thenR ?_ | refine thenX ?_ | refine blkN ?_ | refine blkHit ?_ | refine blkR ?_ | refine blkMiss (by rfl) ?_ | refine WP.ret ?_ | refine WP.exit ?_ | refine WP.skip ?_ | refine WP.label ?_ | refine WP.condT (by rfl) ?_ | refine WP.condF (by rfl) ?_ | fail)
  refine WL.step (o_lit (us := []) (by rfl) (by rfl) rfl (by decide) one0 ?_)
  intro v1 w1 hown hb1 hz1 _
  repeat' (first | refine WL.step (o_s (by rfl) ?_) | refine WL.step (o_len (by rfl) ?_) | refine WL.step (o_add (by rfl) (by rfl) (by unfold InI; omega) ?_) | refine WL.step (o_sub (by rfl) (by rfl) (by unfold InI; omega) ?_) | refine WL.step (OpW.pass (by rfl) ?_) | refine WL.nil ?_ | refine thenN ?_ | refine WP.region ?_ | refine WP.seq ?_ | refine WP.block ?_ | refine thenR ?_ | refine thenX ?_ | refine blkN ?_ | refine blkHit ?_ | refine blkR ?_ | refine blkMiss (by rfl) ?_ | refine WP.ret ?_ | refine WP.exit ?_ | refine WP.skip ?_ | refine WP.label ?_ | refine WP.condT (by rfl) ?_ | refine WP.condF (by rfl) ?_ | fail)
  refine WP.loop (fun (s : Nat × Value) => [(0, .int .i64 ((n - s.1 : Nat) : Int)), (3, s.2)])
    (fun s w2 => s.1 ≤ n ∧ Own w.heap.size 2 w2 s.2 (Ints (List.replicate s.1 1)) ∧ Below w.heap.size w w2)
    (fun s => n - s.1) (0, v1) ⟨(by first | rfl | (show some (Value.int .i64 _) = some (Value.int .i64 _); refine congrArg some (congrArg (Value.int IntKind.i64) ?_); omega)), rfl, trivial⟩ ⟨by omega, by simpa [Ints] using hown, hb1⟩ ?_
  rintro ⟨i, vo⟩ w2 ⟨hi, hown2, hb2⟩
  dsimp only at hi hown2 ⊢
  have hs2 := hb2.size
  repeat' (first | refine WL.step (o_s (by rfl) ?_) | refine WL.step (o_len (by rfl) ?_) | refine WL.step (o_add (by rfl) (by rfl) (by unfold InI; omega) ?_) | refine WL.step (o_sub (by rfl) (by rfl) (by unfold InI; omega) ?_) | refine WL.step (OpW.pass (by rfl) ?_) | refine WL.nil ?_ | refine thenN ?_ | refine WP.region ?_ | refine WP.seq ?_ | refine WP.block ?_ | refine thenR ?_ | refine thenX ?_ | refine blkN ?_ | refine blkHit ?_ | refine blkR ?_ | refine blkMiss (by rfl) ?_ | refine WP.ret ?_ | refine WP.exit ?_ | refine WP.skip ?_ | refine WP.label ?_ | refine WP.condT (by rfl) ?_ | refine WP.condF (by rfl) ?_ | fail)
  first | refine WP.condD (by rfl) (fun _ => ?_) (fun _ => ?_) | refine WP.condND (by rfl) (fun _ => ?_) (fun _ => ?_) | refine WP.condN (by rfl) (fun _ => ?_) (fun _ => ?_) | refine WP.cond (by rfl) (fun _ => ?_) (fun _ => ?_) | fail
  · rename_i hlt
    repeat' (first | refine WL.step (o_s (by rfl) ?_) | refine WL.step (o_len (by rfl) ?_) | refine WL.step (o_add (by rfl) (by rfl) (by unfold InI; omega) ?_) | refine WL.step (o_sub (by rfl) (by rfl) (by unfold InI; omega) ?_) | refine WL.step (OpW.pass (by rfl) ?_) | refine WL.nil ?_ | refine thenN ?_ | refine WP.region ?_ | refine WP.seq ?_ | refine WP.block ?_ | refine thenR ?_ | refine thenX ?_ | refine blkN ?_ | refine blkHit ?_ | refine blkR ?_ | refine blkMiss (by rfl) ?_ | refine WP.ret ?_ | refine WP.exit ?_ | refine WP.skip ?_ | refine WP.label ?_ | refine WP.condT (by rfl) ?_ | refine WP.condF (by rfl) ?_ | fail)
    refine o_append1 (u := .int .i64 1) (fun _ => by rfl) (by rfl) hown2 rfl (by simp [Ints, maxLen]; omega) (by simp [Ints]; omega) (by omega) ?_
    intro p5 v5 w5 hown5 hb5 _ _ _
    repeat' (first | refine WL.step (o_s (by rfl) ?_) | refine WL.step (o_len (by rfl) ?_) | refine WL.step (o_add (by rfl) (by rfl) (by unfold InI; omega) ?_) | refine WL.step (o_sub (by rfl) (by rfl) (by unfold InI; omega) ?_) | refine WL.step (OpW.pass (by rfl) ?_) | refine WL.nil ?_ | refine thenN ?_ | refine WP.region ?_ | refine WP.seq ?_ | refine WP.block ?_ | refine thenR ?_ | refine thenX ?_ | refine blkN ?_ | refine blkHit ?_ | refine blkR ?_ | refine blkMiss (by rfl) ?_ | refine WP.ret ?_ | refine WP.exit ?_ | refine WP.skip ?_ | refine WP.label ?_ | refine WP.condT (by rfl) ?_ | refine WP.condF (by rfl) ?_ | fail)
    refine ⟨(i + 1, v5), ⟨(by first | rfl | (show some (Value.int .i64 _) = some (Value.int .i64 _); refine congrArg some (congrArg (Value.int IntKind.i64) ?_); omega)), rfl, trivial⟩, ⟨by dsimp only; omega, ?_, hb2.trans hb5⟩, by dsimp only; omega⟩
    dsimp only
    rw [List.replicate_succ']
    simpa [Ints] using hown5
  · rename_i hge
    have : i = n := by omega
    subst this
    repeat' (first | refine WL.step (o_s (by rfl) ?_) | refine WL.step (o_len (by rfl) ?_) | refine WL.step (o_add (by rfl) (by rfl) (by unfold InI; omega) ?_) | refine WL.step (o_sub (by rfl) (by rfl) (by unfold InI; omega) ?_) | refine WL.step (OpW.pass (by rfl) ?_) | refine WL.nil ?_ | refine thenN ?_ | refine WP.region ?_ | refine WP.seq ?_ | refine WP.block ?_ | refine thenR ?_ | refine thenX ?_ | refine blkN ?_ | refine blkHit ?_ | refine blkR ?_ | refine blkMiss (by rfl) ?_ | refine WP.ret ?_ | refine WP.exit ?_ | refine WP.skip ?_ | refine WP.label ?_ | refine WP.condT (by rfl) ?_ | refine WP.condF (by rfl) ?_ | fail)
    refine ⟨_, ret1 rfl (by rfl), ?_⟩
    exact ⟨hown2, hb2⟩
theorem l09Times_any {lo hi lo' hi' : Nat} {w : World} {v v' : Value} {xss : List (List Int)} {ys : List Int} (h : ISS lo hi w v xss) (h' : IS lo' hi' w v' ys) (hn : xss.length ≤ 1000000) (hr : ∀ r ∈ xss, r.length ≤ ys.length ∧ allN r = true) (hy : allN ys = true) :
    Does Try.prog 159 [v, v'] w fun r w' => NewI w r w' (xss.map fun r => dotL r ys) := by
  obtain ⟨a, c, hv⟩ := h.shape
  rw [hv] at h ⊢
  generalize hres : (xss.map fun r => dotL r ys) = res
  have hlen : res.length = xss.length := by rw [← hres]; simp
  refine Does.enter Try.func159 Try.ntmps159 rfl (by rfl) ?_
  repeat' (first | refine WL.step (o_s (by rfl) ?_) | refine WL.step (o_len (by rfl) ?_) | refine WL.step (o_add (by rfl) (by rfl) (by unfold InI; omega) ?_) | refine WL.step (o_sub (by rfl) (by rfl) (by unfold InI; omega) ?_) | refine WL.step (OpW.pass (by rfl) ?_) | refine WL.nil ?_ | refine thenN ?_ | refine WP.region ?_ | refine WP.seq ?_ | refine WP.block ?_ | refine thenR ?_ | refine thenX ?_ | refine blkN ?_ | refine blkHit ?_ | refine blkR ?_ | refine blkMiss (by rfl) ?_ | refine WP.ret ?_ | refine WP.exit ?_ | refine WP.skip ?_ | refine WP.label ?_ | refine WP.condT (by rfl) ?_ | refine WP.condF (by rfl) ?_ | fail)
  refine WL.step (o_lit (us := []) (by rfl) (by rfl) rfl (by decide) one0 ?_)
  intro v1 w1 hown hb1 hz1 _
  repeat' (first | refine WL.step (o_s (by rfl) ?_) | refine WL.step (o_len (by rfl) ?_) | refine WL.step (o_add (by rfl) (by rfl) (by unfold InI; omega) ?_) | refine WL.step (o_sub (by rfl) (by rfl) (by unfold InI; omega) ?_) | refine WL.step (OpW.pass (by rfl) ?_) | refine WL.nil ?_ | refine thenN ?_ | refine WP.region ?_ | refine WP.seq ?_ | refine WP.block ?_ | refine thenR ?_ | refine thenX ?_ | refine blkN ?_ | refine blkHit ?_ | refine blkR ?_ | refine blkMiss (by rfl) ?_ | refine WP.ret ?_ | refine WP.exit ?_ | refine WP.skip ?_ | refine WP.label ?_ | refine WP.condT (by rfl) ?_ | refine WP.condF (by rfl) ?_ | fail)
  refine WP.loop (fun (s : Nat × Value) => [(0, .slice a xss.length c), (1, v'), (5, s.2), (6, .int .i64 s.1)])
    (fun s w2 => s.1 ≤ xss.length ∧ Own w.heap.size 2 w2 s.2 (Ints (res.take s.1)) ∧ Below w.heap.size w w2)
    (fun s => xss.length - s.1) (0, v1) ⟨rfl, rfl, rfl, rfl, trivial⟩ ⟨by omega, by simpa [Ints] using hown, hb1⟩ ?_
  rintro ⟨i, vo⟩ w2 ⟨hi, hown2, hb2⟩
  dsimp only at hi hown2 ⊢
  have hs2 := hb2.size
  repeat' (first | refine WL.step (o_s (by rfl) ?_) | refine WL.step (o_len (by rfl) ?_) | refine WL.step (o_add (by rfl) (by rfl) (by unfold InI; omega) ?_) | refine WL.step (o_sub (by rfl) (by rfl) (by unfold InI; omega) ?_) | refine WL.step (OpW.pass (by rfl) ?_) | refine WL.nil ?_ | refine thenN ?_ | refine WP.region ?_ | refine WP.seq ?_ | refine WP.block ?_ | refine thenR ?_ | refine thenX ?_ | refine blkN ?_ | refine blkHit ?_ | refine blkR ?_ | refine blkMiss (by rfl) ?_ | refine WP.ret ?_ | refine WP.exit ?_ | refine WP.skip ?_ | refine WP.label ?_ | refine WP.condT (by rfl) ?_ | refine WP.condF (by rfl) ?_ | fail)
  first | refine WP.condD (by rfl) (fun _ => ?_) (fun _ => ?_) | refine WP.condND (by rfl) (fun _ => ?_) (fun _ => ?_) | refine WP.condN (by rfl) (fun _ => ?_) (fun _ => ?_) | refine WP.cond (by rfl) (fun _ => ?_) (fun _ => ?_) | fail
  · rename_i hlt
    have hlt' : i < xss.length := by omega
    have h2 := h.below IS.stable hb2 h.hi_le
    have h2' := h'.below RI.stable hb2 h'.hi_le
    have hri := hr _ (List.getElem_mem hlt')
    repeat' (first | refine WL.step (o_s (by rfl) ?_) | refine WL.step (o_len (by rfl) ?_) | refine WL.step (o_add (by rfl) (by rfl) (by unfold InI; omega) ?_) | refine WL.step (o_sub (by rfl) (by rfl) (by unfold InI; omega) ?_) | refine WL.step (OpW.pass (by rfl) ?_) | refine WL.nil ?_ | refine thenN ?_ | refine WP.region ?_ | refine WP.seq ?_ | refine WP.block ?_ | refine thenR ?_ | refine thenX ?_ | refine blkN ?_ | refine blkHit ?_ | refine blkR ?_ | refine blkMiss (by rfl) ?_ | refine WP.ret ?_ | refine WP.exit ?_ | refine WP.skip ?_ | refine WP.label ?_ | refine WP.condT (by rfl) ?_ | refine WP.condF (by rfl) ?_ | fail)
    refine WL.ixload h2 (List.getElem?_eq_getElem hlt') ?_
    rintro p u hu
    repeat' (first | refine WL.step (o_s (by rfl) ?_) | refine WL.step (o_len (by rfl) ?_) | refine WL.step (o_add (by rfl) (by rfl) (by unfold InI; omega) ?_) | refine WL.step (o_sub (by rfl) (by rfl) (by unfold InI; omega) ?_) | refine WL.step (OpW.pass (by rfl) ?_) | refine WL.nil ?_ | refine thenN ?_ | refine WP.region ?_ | refine WP.seq ?_ | refine WP.block ?_ | refine thenR ?_ | refine thenX ?_ | refine blkN ?_ | refine blkHit ?_ | refine blkR ?_ | refine blkMiss (by rfl) ?_ | refine WP.ret ?_ | refine WP.exit ?_ | refine WP.skip ?_ | refine WP.label ?_ | refine WP.condT (by rfl) ?_ | refine WP.condF (by rfl) ?_ | fail)
    refine WL.call (l01Dot_any hu h2' hri.1 hri.2 hy) ?_
    rintro _ w3 ⟨rfl, hs3⟩
    have hz3 := hs3.size
    refine o_append1 (u := .int .i64 _) (fun _ => by rfl) (by rfl) (hown2.still hs3) rfl (by simp [Ints, hlen, maxLen]; omega) (by simp [Ints, hlen]; omega) (by omega) ?_
    intro p5 v5 w5 hown5 hb5 _ _ _
    repeat' (first | refine WL.step (o_s (by rfl) ?_) | refine WL.step (o_len (by rfl) ?_) | refine WL.step (o_add (by rfl) (by rfl) (by unfold InI; omega) ?_) | refine WL.step (o_sub (by rfl) (by rfl) (by unfold InI; omega) ?_) | refine WL.step (OpW.pass (by rfl) ?_) | refine WL.nil ?_ | refine thenN ?_ | refine WP.region ?_ | refine WP.seq ?_ | refine WP.block ?_ | refine thenR ?_ | refine thenX ?_ | refine blkN ?_ | refine blkHit ?_ | refine blkR ?_ | refine blkMiss (by rfl) ?_ | refine WP.ret ?_ | refine WP.exit ?_ | refine WP.skip ?_ | refine WP.label ?_ | refine WP.condT (by rfl) ?_ | refine WP.condF (by rfl) ?_ | fail)
    refine ⟨(i + 1, v5), ⟨rfl, rfl, rfl, (by first | rfl | (show some (Value.int .i64 _) = some (Value.int .i64 _); refine congrArg some (congrArg (Value.int IntKind.i64) ?_); omega)), trivial⟩, ⟨by dsimp only; omega, ?_, (hb2.trans (hs3.below _)).trans hb5⟩, by dsimp only; omega⟩
    dsimp only
    rw [← Ints_snoc (show i < res.length by omega) (y := dotL xss[i] ys) (by simp [← hres])]
    exact hown5
  · rename_i hge
    have : i = xss.length := by omega
    subst this
    repeat' (first | refine WL.step (o_s (by rfl) ?_) | refine WL.step (o_len (by rfl) ?_) | refine WL.step (o_add (by rfl) (by rfl) (by unfold InI; omega) ?_) | refine WL.step (o_sub (by rfl) (by rfl) (by unfold InI; omega) ?_) | refine WL.step (OpW.pass (by rfl) ?_) | refine WL.nil ?_ | refine thenN ?_ | refine WP.region ?_ | refine WP.seq ?_ | refine WP.block ?_ | refine thenR ?_ | refine thenX ?_ | refine blkN ?_ | refine blkHit ?_ | refine blkR ?_ | refine blkMiss (by rfl) ?_ | refine WP.ret ?_ | refine WP.exit ?_ | refine WP.skip ?_ | refine WP.label ?_ | refine WP.condT (by rfl) ?_ | refine WP.condF (by rfl) ?_ | fail)
    refine ⟨_, ret1 rfl (by rfl), ?_⟩
    rw [List.take_of_length_le (by omega)] at hown2
    exact ⟨hown2, hb2⟩
end Go.Proofs
