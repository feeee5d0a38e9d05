/- The program's conditions on the quadrature, the stages and the columns. -/
import Derived.Test.YtgjpdjblchgfdaaA3
import Derived.Test.YtgjpdjblchgfdaaA8
import Derived.Test.YtgjpdjblchgfdaaPl8
namespace Go.Proofs
open Go Go.Fw Go.RowKit Go.Rk

theorem zip_bd {xs ys : List Int} (hx : allN xs = true) (hy : allN ys = true) : 0 ≤ (List.zipWith (· * ·) xs ys).sum ∧ (List.zipWith (· * ·) xs ys).sum ≤ 100120036 * xs.length := by
  induction xs generalizing ys with
  | nil => simp
  | cons x xs ih =>
    cases ys with
    | nil => simp; omega
    | cons y ys =>
      rw [allN_cons, Bool.and_eq_true] at hx hy
      have h1 := isN_bd hx.1
      have h2 := isN_bd hy.1
      have h3 := mul_bd h1.1 h1.2 h2.1 h2.2
      have h4 := ih hx.2 hy.2
      simp only [List.zipWith_cons_cons, List.sum_cons, List.length_cons]
      omega
theorem zip_take_bd {xs ys : List Int} (hx : allN xs = true) (hy : allN ys = true) (i : Nat) : 0 ≤ ((List.zipWith (· * ·) xs ys).take i).sum ∧ ((List.zipWith (· * ·) xs ys).take i).sum ≤ 100120036 * xs.length := by
  rw [List.take_zipWith]
  have h := zip_bd (allN_take hx i) (allN_take hy i)
  have h2 : (xs.take i).length ≤ xs.length := by rw [List.length_take]; omega
  omega
theorem pow_at (a e : Int) (n : Nat) (hn : e = n) (h0 : 0 ≤ a) (h1 : a ≤ 10006) (he : n ≤ 1000000) (w : World) : Does Try.prog 141 [.int .i64 a, .int .i64 e] w fun r w' => r = .int .i64 (powN a n) ∧ Still w w' := by
  subst hn; exact pow_any a n h0 h1 he w
theorem l01Pow_at (a e : Int) (n : Nat) (hn : e = n) (h0 : 0 ≤ a) (h1 : a ≤ 10006) (he : n ≤ 1000000) (w : World) : Does Try.prog 126 [.int .i64 a, .int .i64 e] w fun r w' => r = .int .i64 (powN a n) ∧ w = w' := by
  subst hn; exact l01Pow_any a n h0 h1 he w

theorem dot_any {lo hi lo' hi' : Nat} {w : World} {v v' : Value} {xs ys : List Int} (h : IS lo hi w v xs) (h' : IS lo' hi' w v' ys) (hl : xs.length ≤ ys.length) (hn : xs.length ≤ 1000000) (hx : allN xs = true) (hy : allN ys = true) :
    Does Try.prog 103 [v, v'] w fun r w' => r = .int .i64 (dotL xs ys) ∧ Still w w' := by
  obtain ⟨a, c, hv⟩ := h.shape
  obtain ⟨a', c', hv'⟩ := h'.shape
  rw [hv] at h ⊢
  rw [hv'] at h' ⊢
  have hpl : (List.zipWith (· * ·) xs ys).length = xs.length := by simp; omega
  refine Does.enter Try.func103 Try.ntmps103 rfl (by rfl) ?_
  repeat' (first | refine WL.step (o_s (by rfl) ?_) | refine WL.step (o_len (by rfl) ?_) | refine WL.step (o_add (by rfl) (by rfl) (by unfold InI; omega) ?_) | refine WL.step (o_sub (by rfl) (by rfl) (by unfold InI; omega) ?_) | refine WL.step (OpW.pass (by rfl) ?_) | refine WL.nil ?_ | refine thenN ?_ | refine WP.region ?_ | refine WP.seq ?_ | refine WP.block ?_ | refine thenR ?_ | refine thenX ?_ | refine blkN ?_ | refine blkHit ?_ | refine blkR ?_ | refine blkMiss (by rfl) ?_ | refine WP.ret ?_ | refine WP.exit ?_ | refine WP.skip ?_ | refine WP.label ?_ | refine WP.condT (by rfl) ?_ | refine WP.condF (by rfl) ?_ | fail)
  refine WP.loop (fun (i : Nat) => [(1, .slice a' ys.length c'), (5, .int .i64 ((List.zipWith (· * ·) xs ys).take i).sum), (8, .slice a xs.length c), (9, .int .i64 (xs.length : Nat)), (10, .int .i64 (i : Nat))]) (fun i w2 => i ≤ xs.length ∧ Still w w2)
    (fun i => xs.length - i) 0 ⟨rfl, rfl, rfl, rfl, rfl, trivial⟩ ⟨by omega, Still.refl _⟩ ?_
  rintro i w2 ⟨hi1, hs⟩
  have hb := zip_take_bd hx hy i
  repeat' (first | refine WL.step (o_s (by rfl) ?_) | refine WL.step (o_len (by rfl) ?_) | refine WL.step (o_add (by rfl) (by rfl) (by unfold InI; omega) ?_) | refine WL.step (o_sub (by rfl) (by rfl) (by unfold InI; omega) ?_) | refine WL.step (OpW.pass (by rfl) ?_) | refine WL.nil ?_ | refine thenN ?_ | refine WP.region ?_ | refine WP.seq ?_ | refine WP.block ?_ | refine thenR ?_ | refine thenX ?_ | refine blkN ?_ | refine blkHit ?_ | refine blkR ?_ | refine blkMiss (by rfl) ?_ | refine WP.ret ?_ | refine WP.exit ?_ | refine WP.skip ?_ | refine WP.label ?_ | refine WP.condT (by rfl) ?_ | refine WP.condF (by rfl) ?_ | fail)
  first | refine WP.condD (by rfl) (fun _ => ?_) (fun _ => ?_) | refine WP.condND (by rfl) (fun _ => ?_) (fun _ => ?_) | refine WP.condN (by rfl) (fun _ => ?_) (fun _ => ?_) | refine WP.cond (by rfl) (fun _ => ?_) (fun _ => ?_) | fail
  · rename_i hlt
    have hlt' : i < xs.length := by omega
    have hxb := allN_get hx hlt'
    have hyb := allN_get hy (show i < ys.length by omega)
    have hmb := mul_bd hxb.1 hxb.2 hyb.1 hyb.2
    have hstep := sum_take_succ (xs := List.zipWith (· * ·) xs ys) (i := i) (by omega)
    rw [List.getElem_zipWith] at hstep
    repeat' (first | refine WL.step (o_s (by rfl) ?_) | refine WL.step (o_len (by rfl) ?_) | refine WL.step (o_add (by rfl) (by rfl) (by unfold InI; omega) ?_) | refine WL.step (o_sub (by rfl) (by rfl) (by unfold InI; omega) ?_) | refine WL.step (OpW.pass (by rfl) ?_) | refine WL.nil ?_ | refine thenN ?_ | refine WP.region ?_ | refine WP.seq ?_ | refine WP.block ?_ | refine thenR ?_ | refine thenX ?_ | refine blkN ?_ | refine blkHit ?_ | refine blkR ?_ | refine blkMiss (by rfl) ?_ | refine WP.ret ?_ | refine WP.exit ?_ | refine WP.skip ?_ | refine WP.label ?_ | refine WP.condT (by rfl) ?_ | refine WP.condF (by rfl) ?_ | fail)
    refine WL.ixload (h.still RI.stable hs) (List.getElem?_eq_getElem hlt') ?_
    rintro p1 _ rfl
    repeat' (first | refine WL.step (o_s (by rfl) ?_) | refine WL.step (o_len (by rfl) ?_) | refine WL.step (o_add (by rfl) (by rfl) (by unfold InI; omega) ?_) | refine WL.step (o_sub (by rfl) (by rfl) (by unfold InI; omega) ?_) | refine WL.step (OpW.pass (by rfl) ?_) | refine WL.nil ?_ | refine thenN ?_ | refine WP.region ?_ | refine WP.seq ?_ | refine WP.block ?_ | refine thenR ?_ | refine thenX ?_ | refine blkN ?_ | refine blkHit ?_ | refine blkR ?_ | refine blkMiss (by rfl) ?_ | refine WP.ret ?_ | refine WP.exit ?_ | refine WP.skip ?_ | refine WP.label ?_ | refine WP.condT (by rfl) ?_ | refine WP.condF (by rfl) ?_ | fail)
    refine WL.ixload (h'.still RI.stable hs) (List.getElem?_eq_getElem (show i < ys.length by omega)) ?_
    rintro p2 _ rfl
    refine WL.step (o_mul (by rfl) (by rfl) (by unfold InI; omega) ?_)
    repeat' (first | refine WL.step (o_s (by rfl) ?_) | refine WL.step (o_len (by rfl) ?_) | refine WL.step (o_add (by rfl) (by rfl) (by unfold InI; omega) ?_) | refine WL.step (o_sub (by rfl) (by rfl) (by unfold InI; omega) ?_) | refine WL.step (OpW.pass (by rfl) ?_) | refine WL.nil ?_ | refine thenN ?_ | refine WP.region ?_ | refine WP.seq ?_ | refine WP.block ?_ | refine thenR ?_ | refine thenX ?_ | refine blkN ?_ | refine blkHit ?_ | refine blkR ?_ | refine blkMiss (by rfl) ?_ | refine WP.ret ?_ | refine WP.exit ?_ | refine WP.skip ?_ | refine WP.label ?_ | refine WP.condT (by rfl) ?_ | refine WP.condF (by rfl) ?_ | fail)
    exact ⟨i + 1, ⟨rfl, (by first | rfl | (show some (Value.int .i64 _) = some (Value.int .i64 _); refine congrArg some (congrArg (Value.int IntKind.i64) ?_); omega)), rfl, rfl, (by first | rfl | (show some (Value.int .i64 _) = some (Value.int .i64 _); refine congrArg some (congrArg (Value.int IntKind.i64) ?_); omega)), trivial⟩, ⟨by omega, hs⟩, by omega⟩
  · rename_i hge
    have : i = xs.length := by omega
    subst this
    repeat' (first | refine WL.step (o_s (by rfl) ?_) | refine WL.step (o_len (by rfl) ?_) | refine WL.step (o_add (by rfl) (by rfl) (by unfold InI; omega) ?_) | refine WL.step (o_sub (by rfl) (by rfl) (by unfold InI; omega) ?_) | refine WL.step (OpW.pass (by rfl) ?_) | refine WL.nil ?_ | refine thenN ?_ | refine WP.region ?_ | refine WP.seq ?_ | refine WP.block ?_ | refine thenR ?_ | refine thenX ?_ | refine blkN ?_ | refine blkHit ?_ | refine blkR ?_ | refine blkMiss (by rfl) ?_ | refine WP.ret ?_ | refine WP.exit ?_ | refine WP.skip ?_ | refine WP.label ?_ | refine WP.condT (by rfl) ?_ | refine WP.condF (by rfl) ?_ | fail)
    refine WL.call (num_any _ _) ?_
    rintro _ _ ⟨rfl, rfl⟩
    repeat' (first | refine WL.step (o_s (by rfl) ?_) | refine WL.step (o_len (by rfl) ?_) | refine WL.step (o_add (by rfl) (by rfl) (by unfold InI; omega) ?_) | refine WL.step (o_sub (by rfl) (by rfl) (by unfold InI; omega) ?_) | refine WL.step (OpW.pass (by rfl) ?_) | refine WL.nil ?_ | refine thenN ?_ | refine WP.region ?_ | refine WP.seq ?_ | refine WP.block ?_ | refine thenR ?_ | refine thenX ?_ | refine blkN ?_ | refine blkHit ?_ | refine blkR ?_ | refine blkMiss (by rfl) ?_ | refine WP.ret ?_ | refine WP.exit ?_ | refine WP.skip ?_ | refine WP.label ?_ | refine WP.condT (by rfl) ?_ | refine WP.condF (by rfl) ?_ | fail)
    refine ⟨_, ret1 rfl (by rfl), ?_⟩
    refine ⟨?_, hs⟩
    rw [List.take_of_length_le (by omega)]
    rfl
theorem meetsWeights_any {lo hi : Nat} {w : World} {v : Value} {x : TabD} (h : IT lo hi w v x) (hx : Tab x) {k : Nat} (hk0 : 1 ≤ k) (hk1 : k ≤ 16) :
    Does Try.prog 128 [v, .int .i64 (k : Nat)] w fun r w' => r = .bool (meetAll x 0 k) ∧ Chg 0 0 w w' := by
  obtain ⟨va, vb, rfl, hA, hB⟩ := h
  obtain ⟨a', c', hvb⟩ := hB.shape
  subst hvb
  have hm := hx.le8
  have hsq := hx.sq
  refine Does.enter Try.func128 Try.ntmps128 rfl (by rfl) ?_
  repeat' (first | refine WL.step (o_s (by rfl) ?_) | refine WL.step (o_len (by rfl) ?_) | refine WL.step (o_add (by rfl) (by rfl) (by unfold InI; omega) ?_) | refine WL.step (o_sub (by rfl) (by rfl) (by unfold InI; omega) ?_) | refine WL.step (OpW.pass (by rfl) ?_) | refine WL.nil ?_ | refine thenN ?_ | refine WP.region ?_ | refine WP.seq ?_ | refine WP.block ?_ | refine thenR ?_ | refine thenX ?_ | refine blkN ?_ | refine blkHit ?_ | refine blkR ?_ | refine blkMiss (by rfl) ?_ | refine WP.ret ?_ | refine WP.exit ?_ | refine WP.skip ?_ | refine WP.label ?_ | refine WP.condT (by rfl) ?_ | refine WP.condF (by rfl) ?_ | fail)
  refine WL.step (o_box (by rfl) ?_)
  intro w1 hb1 hbl1 hz1
  have hc1 := Chg.of_below hbl1
  have hT : IT lo hi w (.agg #[va, .slice a' x.2.length c']) x := ⟨_, _, rfl, hA, hB⟩
  replace hT := hT.chg hc1 (by omega)
  replace hB := hB.below RI.stable hbl1 hB.hi_le
  repeat' (first | refine WL.step (o_s (by rfl) ?_) | refine WL.step (o_len (by rfl) ?_) | refine WL.step (o_add (by rfl) (by rfl) (by unfold InI; omega) ?_) | refine WL.step (o_sub (by rfl) (by rfl) (by unfold InI; omega) ?_) | refine WL.step (OpW.pass (by rfl) ?_) | refine WL.nil ?_ | refine thenN ?_ | refine WP.region ?_ | refine WP.seq ?_ | refine WP.block ?_ | refine thenR ?_ | refine thenX ?_ | refine blkN ?_ | refine blkHit ?_ | refine blkR ?_ | refine blkMiss (by rfl) ?_ | refine WP.ret ?_ | refine WP.exit ?_ | refine WP.skip ?_ | refine WP.label ?_ | refine WP.condT (by rfl) ?_ | refine WP.condF (by rfl) ?_ | fail)
  refine WL.step (o_loadS (by rfl) hb1 (by rfl) ?_)
  refine WL.call (nodes_any hT hx) ?_
  intro v2 w2 hN
  have hz2 := hN.2.size
  have hC := hN.ow.rd
  obtain ⟨ac, cc, hvc⟩ := hC.shape
  subst hvc
  have hnl := nodesL_length x.1
  have hbl2 : Below w.heap.size w w2 := hbl1.trans (Below.mono hN.2 (by omega))
  replace hb1 := hb1.below hN.2 (by omega)
  replace hB := hB.below RI.stable hN.2 (by have := hB.hi_le; omega)
  have hpl : (powsL (nodesL x.1) (k - 1)).length = x.2.length := by rw [powsL_length]; omega
  have hml : (mulsL x.2 (powsL (nodesL x.1) (k - 1))).length = x.2.length := by rw [mulsL_length]; omega
  have hmn := allN_mulsL x.2 (powsL (nodesL x.1) (k - 1))
  generalize hmu : mulsL x.2 (powsL (nodesL x.1) (k - 1)) = mu at hml hmn
  repeat' (first | refine WL.step (o_s (by rfl) ?_) | refine WL.step (o_len (by rfl) ?_) | refine WL.step (o_add (by rfl) (by rfl) (by unfold InI; omega) ?_) | refine WL.step (o_sub (by rfl) (by rfl) (by unfold InI; omega) ?_) | refine WL.step (OpW.pass (by rfl) ?_) | refine WL.nil ?_ | refine thenN ?_ | refine WP.region ?_ | refine WP.seq ?_ | refine WP.block ?_ | refine thenR ?_ | refine thenX ?_ | refine blkN ?_ | refine blkHit ?_ | refine blkR ?_ | refine blkMiss (by rfl) ?_ | refine WP.ret ?_ | refine WP.exit ?_ | refine WP.skip ?_ | refine WP.label ?_ | refine WP.condT (by rfl) ?_ | refine WP.condF (by rfl) ?_ | fail)
  refine WP.loop (fun (i : Nat) => [(1, .int .i64 (k : Nat)), (2, .pointer (some ⟨w.heap.size, 0, none⟩)), (5, .int .i64 (mu.take i).sum), (9, .slice ac (nodesL x.1).length cc), (10, .int .i64 ((nodesL x.1).length : Nat)), (11, .int .i64 (i : Nat))]) (fun i w3 => i ≤ x.2.length ∧ Still w2 w3)
    (fun i => x.2.length - i) 0 ⟨rfl, rfl, rfl, rfl, rfl, rfl, trivial⟩ ⟨by omega, Still.refl _⟩ ?_
  rintro i w3 ⟨hi1, hs3⟩
  have hsb := sum_bd (allN_take hmn i)
  have hil : ((mu.take i).length : Int) ≤ 8 := by have := List.length_take_le i mu; omega
  repeat' (first | refine WL.step (o_s (by rfl) ?_) | refine WL.step (o_len (by rfl) ?_) | refine WL.step (o_add (by rfl) (by rfl) (by unfold InI; omega) ?_) | refine WL.step (o_sub (by rfl) (by rfl) (by unfold InI; omega) ?_) | refine WL.step (OpW.pass (by rfl) ?_) | refine WL.nil ?_ | refine thenN ?_ | refine WP.region ?_ | refine WP.seq ?_ | refine WP.block ?_ | refine thenR ?_ | refine thenX ?_ | refine blkN ?_ | refine blkHit ?_ | refine blkR ?_ | refine blkMiss (by rfl) ?_ | refine WP.ret ?_ | refine WP.exit ?_ | refine WP.skip ?_ | refine WP.label ?_ | refine WP.condT (by rfl) ?_ | refine WP.condF (by rfl) ?_ | fail)
  first | refine WP.condD (by rfl) (fun _ => ?_) (fun _ => ?_) | refine WP.condND (by rfl) (fun _ => ?_) (fun _ => ?_) | refine WP.condN (by rfl) (fun _ => ?_) (fun _ => ?_) | refine WP.cond (by rfl) (fun _ => ?_) (fun _ => ?_) | fail
  · rename_i hlt
    have hlt' : i < x.2.length := by omega
    have hlc : i < (nodesL x.1).length := by omega
    have hcb := allN_get (allN_nodesL x.1) hlc
    have hbb := allN_get hx.last hlt'
    have hpb := powN_bd (nodesL x.1)[i] (k - 1)
    have hmb := mul_bd hbb.1 hbb.2 hpb.1 hpb.2
    have hnb := nm_bd (x.2[i] * powN (nodesL x.1)[i] (k - 1))
    have hst := sum_take_succ (xs := mu) (i := i) (by omega)
    have hget : mu[i]'(by omega) = nm (x.2[i] * powN (nodesL x.1)[i] (k - 1)) := by
      subst hmu
      rw [mulsL_get _ hlt' (by omega), powsL_get _ hlc]
    rw [hget] at hst
    repeat' (first | refine WL.step (o_s (by rfl) ?_) | refine WL.step (o_len (by rfl) ?_) | refine WL.step (o_add (by rfl) (by rfl) (by unfold InI; omega) ?_) | refine WL.step (o_sub (by rfl) (by rfl) (by unfold InI; omega) ?_) | refine WL.step (OpW.pass (by rfl) ?_) | refine WL.nil ?_ | refine thenN ?_ | refine WP.region ?_ | refine WP.seq ?_ | refine WP.block ?_ | refine thenR ?_ | refine thenX ?_ | refine blkN ?_ | refine blkHit ?_ | refine blkR ?_ | refine blkMiss (by rfl) ?_ | refine WP.ret ?_ | refine WP.exit ?_ | refine WP.skip ?_ | refine WP.label ?_ | refine WP.condT (by rfl) ?_ | refine WP.condF (by rfl) ?_ | fail)
    refine WL.ixload (hC.still RI.stable hs3) (List.getElem?_eq_getElem hlc) ?_
    rintro p1 _ rfl
    repeat' (first | refine WL.step (o_s (by rfl) ?_) | refine WL.step (o_len (by rfl) ?_) | refine WL.step (o_add (by rfl) (by rfl) (by unfold InI; omega) ?_) | refine WL.step (o_sub (by rfl) (by rfl) (by unfold InI; omega) ?_) | refine WL.step (OpW.pass (by rfl) ?_) | refine WL.nil ?_ | refine thenN ?_ | refine WP.region ?_ | refine WP.seq ?_ | refine WP.block ?_ | refine thenR ?_ | refine thenX ?_ | refine blkN ?_ | refine blkHit ?_ | refine blkR ?_ | refine blkMiss (by rfl) ?_ | refine WP.ret ?_ | refine WP.exit ?_ | refine WP.skip ?_ | refine WP.label ?_ | refine WP.condT (by rfl) ?_ | refine WP.condF (by rfl) ?_ | fail)
    refine WP.drawn (fun w' => w'.heap = w3.heap) [(0, true), (1, true), (2, true), (3, true), (4, true), (5, true), (6, true), (7, true), (8, true), (9, false), (10, true), (11, false), (12, true), (13, true)] (by kernel_rfl) mixed ?_
    intro w4 hs4
    have hw4 : w4.heap = w3.heap := hs4.heap
    have hB4 := (hB.still RI.stable hs3).still RI.stable hs4
    repeat' (first | refine WS.q rfl (q_s (by rfl)) (by first | rfl | assumption) ?_ | refine WS.q rfl (q_len (by rfl)) (by first | rfl | assumption) ?_ | refine WS.q rfl (q_add (by rfl) (by rfl) (by unfold InI; omega)) (by first | rfl | assumption) ?_ | refine WS.q rfl (q_sub (by rfl) (by rfl) (by unfold InI; omega)) (by first | rfl | assumption) ?_ | refine WS.q rfl (q_pass (by rfl)) (by first | rfl | assumption) ?_ | refine WS.nil ?_ | fail)
    refine WS.fld rfl rfl (fun w' h => (hb1.still hs3).keep (by rw [h])) hw4 ?_
    intro p2
    repeat' (first | refine WS.q rfl (q_s (by rfl)) (by first | rfl | assumption) ?_ | refine WS.q rfl (q_len (by rfl)) (by first | rfl | assumption) ?_ | refine WS.q rfl (q_add (by rfl) (by rfl) (by unfold InI; omega)) (by first | rfl | assumption) ?_ | refine WS.q rfl (q_sub (by rfl) (by rfl) (by unfold InI; omega)) (by first | rfl | assumption) ?_ | refine WS.q rfl (q_pass (by rfl)) (by first | rfl | assumption) ?_ | refine WS.nil ?_ | fail)
    refine WS.ixload rfl rfl hB4 (List.getElem?_eq_getElem hlt') (fun w' hw' => same_heap (hw'.trans hw4.symm)) hw4 ?_
    rintro p3 _ rfl
    repeat' (first | refine WS.q rfl (q_s (by rfl)) (by first | rfl | assumption) ?_ | refine WS.q rfl (q_len (by rfl)) (by first | rfl | assumption) ?_ | refine WS.q rfl (q_add (by rfl) (by rfl) (by unfold InI; omega)) (by first | rfl | assumption) ?_ | refine WS.q rfl (q_sub (by rfl) (by rfl) (by unfold InI; omega)) (by first | rfl | assumption) ?_ | refine WS.q rfl (q_pass (by rfl)) (by first | rfl | assumption) ?_ | refine WS.nil ?_ | fail)
    refine WS.call rfl (pow_at (nodesL x.1)[i] ((k : Int) - 1) (k - 1) (by omega) hcb.1 hcb.2 (by omega) _) ?_
    rintro _ w5 ⟨rfl, hs5⟩
    have hw5 : w5.heap = w3.heap := hs5.heap.trans hw4
    refine ⟨hw5, ?_⟩
    refine WS.q rfl (q_mul (by rfl) (by rfl) (by unfold InI; omega)) hw5 ?_
    refine WS.call rfl (num_any _ _) ?_
    rintro _ _ ⟨rfl, rfl⟩
    refine ⟨hw5, ?_⟩
    repeat' (first | refine WS.q rfl (q_s (by rfl)) (by first | rfl | assumption) ?_ | refine WS.q rfl (q_len (by rfl)) (by first | rfl | assumption) ?_ | refine WS.q rfl (q_add (by rfl) (by rfl) (by unfold InI; omega)) (by first | rfl | assumption) ?_ | refine WS.q rfl (q_sub (by rfl) (by rfl) (by unfold InI; omega)) (by first | rfl | assumption) ?_ | refine WS.q rfl (q_pass (by rfl)) (by first | rfl | assumption) ?_ | refine WS.nil ?_ | fail)
    repeat' (first | refine WL.step (o_s (by rfl) ?_) | refine WL.step (o_len (by rfl) ?_) | refine WL.step (o_add (by rfl) (by rfl) (by unfold InI; omega) ?_) | refine WL.step (o_sub (by rfl) (by rfl) (by unfold InI; omega) ?_) | refine WL.step (OpW.pass (by rfl) ?_) | refine WL.nil ?_ | refine thenN ?_ | refine WP.region ?_ | refine WP.seq ?_ | refine WP.block ?_ | refine thenR ?_ | refine thenX ?_ | refine blkN ?_ | refine blkHit ?_ | refine blkR ?_ | refine blkMiss (by rfl) ?_ | refine WP.ret ?_ | refine WP.exit ?_ | refine WP.skip ?_ | refine WP.label ?_ | refine WP.condT (by rfl) ?_ | refine WP.condF (by rfl) ?_ | fail)
    exact ⟨i + 1, ⟨rfl, rfl, (by first | rfl | (show some (Value.int .i64 _) = some (Value.int .i64 _); refine congrArg some (congrArg (Value.int IntKind.i64) ?_); omega)), rfl, rfl, rfl, trivial⟩, ⟨by omega, (hs3.trans hs4).trans hs5⟩, by omega⟩
  · rename_i hge
    have : i = x.2.length := by omega
    subst this
    rw [List.take_of_length_le (by omega)] at *
    repeat' (first | refine WL.step (o_s (by rfl) ?_) | refine WL.step (o_len (by rfl) ?_) | refine WL.step (o_add (by rfl) (by rfl) (by unfold InI; omega) ?_) | refine WL.step (o_sub (by rfl) (by rfl) (by unfold InI; omega) ?_) | refine WL.step (OpW.pass (by rfl) ?_) | refine WL.nil ?_ | refine thenN ?_ | refine WP.region ?_ | refine WP.seq ?_ | refine WP.block ?_ | refine thenR ?_ | refine thenX ?_ | refine blkN ?_ | refine blkHit ?_ | refine blkR ?_ | refine blkMiss (by rfl) ?_ | refine WP.ret ?_ | refine WP.exit ?_ | refine WP.skip ?_ | refine WP.label ?_ | refine WP.condT (by rfl) ?_ | refine WP.condF (by rfl) ?_ | fail)
    refine WL.step (o_mul (by rfl) (by rfl) (by
      have h1 : 0 ≤ mu.sum * (k : Int) := Int.mul_nonneg hsb.1 (by omega)
      have h2 : mu.sum * (k : Int) ≤ 80048 * 16 := Int.mul_le_mul (by omega) (by omega) (by omega) (by omega)
      unfold InI; omega) ?_)
    refine WL.call (num_any _ _) ?_
    rintro _ _ ⟨rfl, rfl⟩
    repeat' (first | refine WL.step (o_s (by rfl) ?_) | refine WL.step (o_len (by rfl) ?_) | refine WL.step (o_add (by rfl) (by rfl) (by unfold InI; omega) ?_) | refine WL.step (o_sub (by rfl) (by rfl) (by unfold InI; omega) ?_) | refine WL.step (OpW.pass (by rfl) ?_) | refine WL.nil ?_ | refine thenN ?_ | refine WP.region ?_ | refine WP.seq ?_ | refine WP.block ?_ | refine thenR ?_ | refine thenX ?_ | refine blkN ?_ | refine blkHit ?_ | refine blkR ?_ | refine blkMiss (by rfl) ?_ | refine WP.ret ?_ | refine WP.exit ?_ | refine WP.skip ?_ | refine WP.label ?_ | refine WP.condT (by rfl) ?_ | refine WP.condF (by rfl) ?_ | fail)
    refine ⟨_, ret1 rfl (by rfl), ?_⟩
    refine ⟨congrArg Value.bool ?_, (Chg.of_below hbl2).trans (Chg.of_still hs3)⟩
    have e : nm (mu.sum * (k : Int)) = nm (leftC x 0 k 0 * k) := by
      unfold leftC termsC
      rw [if_pos rfl, nm_nm_mul, ← nm_nm_mul mu.sum, ← hmu, nm_sum_muls]
      unfold dotL
      rw [nm_nm_mul]
    rw [e]
    by_cases hq : nm (leftC x 0 k 0 * k) = 1
    · rw [decide_eq_true hq]
      exact (rangeAll_true fun i _ => decide_eq_true hq).symm
    · rw [decide_eq_false hq]
      exact (rangeAll_false (i := 0) (by have := hx.pos; omega) (decide_eq_false hq)).symm
end Go.Proofs
