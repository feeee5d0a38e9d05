/- The program's condition on the columns; the order of the conditions of a kind. -/
import Derived.Test.YtgjpdjblchgfdaaA15
namespace Go.Proofs
open Go Go.Fw Go.RowKit Go.Rk

theorem meetsColumns_any {lo hi : Nat} {w : World} {v : Value} {x : TabD} (h : IT lo hi w v x) (hx : Tab x) {k : Nat} (hk0 : 1 ≤ k) (hk1 : k ≤ 16) :
    Does Try.prog 130 [v, .int .i64 (k : Nat)] w fun r w' => r = .bool (meetAll x 2 k) ∧ Chg 0 0 w w' := by
  obtain ⟨va, vb, rfl, hA, hB⟩ := h
  have hm := hx.le8
  have hsq := hx.sq
  have hnl := nodesL_length x.1
  refine Does.enter Try.func130 Try.ntmps130 rfl (by rfl) ?_
  repeat' (first | refine WL.step (o_s (by rfl) ?_) | refine WL.step (o_len (by rfl) ?_) | refine WL.step (o_add (by rfl) (by rfl) (by unfold InI; omega) ?_) | refine WL.step (o_sub (by rfl) (by rfl) (by unfold InI; omega) ?_) | refine WL.step (OpW.pass (by rfl) ?_) | refine WL.nil ?_ | refine thenN ?_ | refine WP.region ?_ | refine WP.seq ?_ | refine WP.block ?_ | refine thenR ?_ | refine thenX ?_ | refine blkN ?_ | refine blkHit ?_ | refine blkR ?_ | refine blkMiss (by rfl) ?_ | refine WP.ret ?_ | refine WP.exit ?_ | refine WP.skip ?_ | refine WP.label ?_ | refine WP.condT (by rfl) ?_ | refine WP.condF (by rfl) ?_ | fail)
  refine WL.step (o_box (by rfl) ?_)
  intro w1 hb1 hbl1 hz1
  have hc1 := Chg.of_below hbl1
  have hT : IT lo hi w (.agg #[va, vb]) x := ⟨_, _, rfl, hA, hB⟩
  have hAz := hA.hi_le
  replace hT := hT.chg hc1 (by omega)
  replace hA := hA.below IS.stable hbl1 hAz
  replace hB := hB.below RI.stable hbl1 hAz
  repeat' (first | refine WL.step (o_s (by rfl) ?_) | refine WL.step (o_len (by rfl) ?_) | refine WL.step (o_add (by rfl) (by rfl) (by unfold InI; omega) ?_) | refine WL.step (o_sub (by rfl) (by rfl) (by unfold InI; omega) ?_) | refine WL.step (OpW.pass (by rfl) ?_) | refine WL.nil ?_ | refine thenN ?_ | refine WP.region ?_ | refine WP.seq ?_ | refine WP.block ?_ | refine thenR ?_ | refine thenX ?_ | refine blkN ?_ | refine blkHit ?_ | refine blkR ?_ | refine blkMiss (by rfl) ?_ | refine WP.ret ?_ | refine WP.exit ?_ | refine WP.skip ?_ | refine WP.label ?_ | refine WP.condT (by rfl) ?_ | refine WP.condF (by rfl) ?_ | fail)
  refine WL.step (o_loadS (by rfl) hb1 (by rfl) ?_)
  refine WL.call (nodes_any hT hx) ?_
  intro v3 w2 hN
  have hz2 := hN.2.size
  have hC := hN.ow.rd
  obtain ⟨ac, cc, hvc⟩ := hC.shape
  subst hvc
  have hbl12 : Below w.heap.size w w2 := hbl1.trans (Below.mono hN.2 (by omega))
  replace hb1 := hb1.below hN.2 (by omega)
  replace hA := hA.below IS.stable hN.2 (by omega)
  replace hB := hB.below RI.stable hN.2 (by omega)
  obtain ⟨cs, hcs⟩ : ∃ cs, nodesL x.1 = cs := ⟨_, rfl⟩
  have hcn := allN_nodesL x.1
  rw [hcs] at hC hnl hcn ⊢
  repeat' (first | refine WL.step (o_s (by rfl) ?_) | refine WL.step (o_len (by rfl) ?_) | refine WL.step (o_add (by rfl) (by rfl) (by unfold InI; omega) ?_) | refine WL.step (o_sub (by rfl) (by rfl) (by unfold InI; omega) ?_) | refine WL.step (OpW.pass (by rfl) ?_) | refine WL.nil ?_ | refine thenN ?_ | refine WP.region ?_ | refine WP.seq ?_ | refine WP.block ?_ | refine thenR ?_ | refine thenX ?_ | refine blkN ?_ | refine blkHit ?_ | refine blkR ?_ | refine blkMiss (by rfl) ?_ | refine WP.ret ?_ | refine WP.exit ?_ | refine WP.skip ?_ | refine WP.label ?_ | refine WP.condT (by rfl) ?_ | refine WP.condF (by rfl) ?_ | fail)
  refine WP.loop (fun (j : Nat) => [(1, .int .i64 (k : Nat)), (2, .pointer (some ⟨w.heap.size, 0, none⟩)), (5, .slice ac cs.length cc), (13, .slice ac cs.length cc), (14, .int .i64 (cs.length : Nat)), (15, .int .i64 (j : Nat))])
    (fun j w3 => j ≤ x.2.length ∧ (∀ i, i < j → meetC x 2 k i = true) ∧ Still w2 w3)
    (fun j => x.2.length - j) 0 ⟨rfl, rfl, rfl, rfl, rfl, rfl, trivial⟩ ⟨by omega, fun j hj => absurd hj (by omega), Still.refl _⟩ ?_
  rintro j w3 ⟨hj1, hall, hs3⟩
  have hc3 : Chg 0 0 w w3 := (Chg.of_below hbl12).trans (Chg.of_still hs3)
  repeat' (first | refine WL.step (o_s (by rfl) ?_) | refine WL.step (o_len (by rfl) ?_) | refine WL.step (o_add (by rfl) (by rfl) (by unfold InI; omega) ?_) | refine WL.step (o_sub (by rfl) (by rfl) (by unfold InI; omega) ?_) | refine WL.step (OpW.pass (by rfl) ?_) | refine WL.nil ?_ | refine thenN ?_ | refine WP.region ?_ | refine WP.seq ?_ | refine WP.block ?_ | refine thenR ?_ | refine thenX ?_ | refine blkN ?_ | refine blkHit ?_ | refine blkR ?_ | refine blkMiss (by rfl) ?_ | refine WP.ret ?_ | refine WP.exit ?_ | refine WP.skip ?_ | refine WP.label ?_ | refine WP.condT (by rfl) ?_ | refine WP.condF (by rfl) ?_ | fail)
  first | refine WP.condD (by rfl) (fun _ => ?_) (fun _ => ?_) | refine WP.condND (by rfl) (fun _ => ?_) (fun _ => ?_) | refine WP.condN (by rfl) (fun _ => ?_) (fun _ => ?_) | refine WP.cond (by rfl) (fun _ => ?_) (fun _ => ?_) | fail
  · rename_i hlt
    have hlc : j < cs.length := by omega
    have hlb : j < x.2.length := by omega
    have hcb := allN_get hcn hlc
    have hbb := allN_get hx.last hlb
    have hpl : (powsL cs (k - 1)).length = x.2.length := by rw [powsL_length]; omega
    have hMl : (mulsL x.2 (powsL cs (k - 1))).length = x.2.length := by rw [mulsL_length]; omega
    have hcol : (colL x.1 j).length = x.2.length := by rw [colL_length]; omega
    obtain ⟨S, hS⟩ : ∃ S, mulsL (mulsL x.2 (powsL cs (k - 1))) (colL x.1 j) = S := ⟨_, rfl⟩
    have hSl : S.length = x.2.length := by rw [← hS, mulsL_length]; omega
    have hSn : allN S = true := by rw [← hS]; exact allN_mulsL _ _
    repeat' (first | refine WL.step (o_s (by rfl) ?_) | refine WL.step (o_len (by rfl) ?_) | refine WL.step (o_add (by rfl) (by rfl) (by unfold InI; omega) ?_) | refine WL.step (o_sub (by rfl) (by rfl) (by unfold InI; omega) ?_) | refine WL.step (OpW.pass (by rfl) ?_) | refine WL.nil ?_ | refine thenN ?_ | refine WP.region ?_ | refine WP.seq ?_ | refine WP.block ?_ | refine thenR ?_ | refine thenX ?_ | refine blkN ?_ | refine blkHit ?_ | refine blkR ?_ | refine blkMiss (by rfl) ?_ | refine WP.ret ?_ | refine WP.exit ?_ | refine WP.skip ?_ | refine WP.label ?_ | refine WP.condT (by rfl) ?_ | refine WP.condF (by rfl) ?_ | fail)
    refine WL.ixload (hC.still RI.stable hs3) (List.getElem?_eq_getElem hlc) ?_
    rintro p1 _ rfl
    repeat' (first | refine WL.step (o_s (by rfl) ?_) | refine WL.step (o_len (by rfl) ?_) | refine WL.step (o_add (by rfl) (by rfl) (by unfold InI; omega) ?_) | refine WL.step (o_sub (by rfl) (by rfl) (by unfold InI; omega) ?_) | refine WL.step (OpW.pass (by rfl) ?_) | refine WL.nil ?_ | refine thenN ?_ | refine WP.region ?_ | refine WP.seq ?_ | refine WP.block ?_ | refine thenR ?_ | refine thenX ?_ | refine blkN ?_ | refine blkHit ?_ | refine blkR ?_ | refine blkMiss (by rfl) ?_ | refine WP.ret ?_ | refine WP.exit ?_ | refine WP.skip ?_ | refine WP.label ?_ | refine WP.condT (by rfl) ?_ | refine WP.condF (by rfl) ?_ | fail)
    refine WP.loop (fun (i : Nat) => [(1, .int .i64 (k : Nat)), (2, .pointer (some ⟨w.heap.size, 0, none⟩)), (5, .slice ac cs.length cc), (6, .int .i64 (j : Nat)), (7, .int .i64 cs[j]), (8, .int .i64 (S.take i).sum), (13, .slice ac cs.length cc), (14, .int .i64 (cs.length : Nat)), (15, .int .i64 (j : Nat)), (20, .slice ac cs.length cc), (21, .int .i64 (cs.length : Nat)), (22, .int .i64 (i : Nat))])
      (fun i w4 => i ≤ x.2.length ∧ Still w3 w4)
      (fun i => x.2.length - i) 0 ⟨rfl, rfl, rfl, rfl, rfl, rfl, rfl, rfl, rfl, rfl, rfl, rfl, trivial⟩ ⟨by omega, Still.refl _⟩ ?_
    rintro i w4 ⟨hi1, hs4⟩
    have hsb := sum_bd (allN_take hSn i)
    have hil : ((S.take i).length : Int) ≤ 8 := by have := List.length_take_le i S; omega
    have hs24 := hs3.trans hs4
    repeat' (first | refine WL.step (o_s (by rfl) ?_) | refine WL.step (o_len (by rfl) ?_) | refine WL.step (o_add (by rfl) (by rfl) (by unfold InI; omega) ?_) | refine WL.step (o_sub (by rfl) (by rfl) (by unfold InI; omega) ?_) | refine WL.step (OpW.pass (by rfl) ?_) | refine WL.nil ?_ | refine thenN ?_ | refine WP.region ?_ | refine WP.seq ?_ | refine WP.block ?_ | refine thenR ?_ | refine thenX ?_ | refine blkN ?_ | refine blkHit ?_ | refine blkR ?_ | refine blkMiss (by rfl) ?_ | refine WP.ret ?_ | refine WP.exit ?_ | refine WP.skip ?_ | refine WP.label ?_ | refine WP.condT (by rfl) ?_ | refine WP.condF (by rfl) ?_ | fail)
    first | refine WP.condD (by rfl) (fun _ => ?_) (fun _ => ?_) | refine WP.condND (by rfl) (fun _ => ?_) (fun _ => ?_) | refine WP.condN (by rfl) (fun _ => ?_) (fun _ => ?_) | refine WP.cond (by rfl) (fun _ => ?_) (fun _ => ?_) | fail
    · rename_i hlti
      have hli : i < cs.length := by omega
      have hlbi : i < x.2.length := by omega
      have hlai : i < x.1.length := by omega
      have hri := hx.row _ (List.getElem_mem hlai)
      have hlr : j < x.1[i].length := by omega
      have hcbi := allN_get hcn hli
      have hbbi := allN_get hx.last hlbi
      have habi := allN_get hri.2 hlr
      have hpb := powN_bd cs[i] (k - 1)
      have hmb := mul_bd hbbi.1 hbbi.2 hpb.1 hpb.2
      have hnb := nm_bd (x.2[i] * powN cs[i] (k - 1))
      have hmb2 := mul_bd hnb.1 hnb.2 habi.1 habi.2
      have hnb2 := nm_bd (nm (x.2[i] * powN cs[i] (k - 1)) * x.1[i][j])
      have hst := sum_take_succ (xs := S) (i := i) (by omega)
      have hget : S[i]'(by omega) = nm (nm (x.2[i] * powN cs[i] (k - 1)) * x.1[i][j]) := by
        subst hS
        rw [mulsL_get _ (by omega) (by omega), mulsL_get _ hlbi (by omega), powsL_get _ hli, colL_get _ hlai hlr]
      rw [hget] at hst
      repeat' (first | refine WL.step (o_s (by rfl) ?_) | refine WL.step (o_len (by rfl) ?_) | refine WL.step (o_add (by rfl) (by rfl) (by unfold InI; omega) ?_) | refine WL.step (o_sub (by rfl) (by rfl) (by unfold InI; omega) ?_) | refine WL.step (OpW.pass (by rfl) ?_) | refine WL.nil ?_ | refine thenN ?_ | refine WP.region ?_ | refine WP.seq ?_ | refine WP.block ?_ | refine thenR ?_ | refine thenX ?_ | refine blkN ?_ | refine blkHit ?_ | refine blkR ?_ | refine blkMiss (by rfl) ?_ | refine WP.ret ?_ | refine WP.exit ?_ | refine WP.skip ?_ | refine WP.label ?_ | refine WP.condT (by rfl) ?_ | refine WP.condF (by rfl) ?_ | fail)
      refine WL.ixload (hC.still RI.stable hs24) (List.getElem?_eq_getElem hli) ?_
      rintro p2 _ rfl
      repeat' (first | refine WL.step (o_s (by rfl) ?_) | refine WL.step (o_len (by rfl) ?_) | refine WL.step (o_add (by rfl) (by rfl) (by unfold InI; omega) ?_) | refine WL.step (o_sub (by rfl) (by rfl) (by unfold InI; omega) ?_) | refine WL.step (OpW.pass (by rfl) ?_) | refine WL.nil ?_ | refine thenN ?_ | refine WP.region ?_ | refine WP.seq ?_ | refine WP.block ?_ | refine thenR ?_ | refine thenX ?_ | refine blkN ?_ | refine blkHit ?_ | refine blkR ?_ | refine blkMiss (by rfl) ?_ | refine WP.ret ?_ | refine WP.exit ?_ | refine WP.skip ?_ | refine WP.label ?_ | refine WP.condT (by rfl) ?_ | refine WP.condF (by rfl) ?_ | fail)
      refine WP.drawn (fun w' => w'.heap = w4.heap) [(0, true), (1, true), (2, true), (3, true), (4, true), (5, true), (6, true), (7, true), (8, true), (12, true), (13, true), (14, true), (15, true), (16, true), (17, true), (18, true), (19, true), (9, false), (10, true), (11, false), (20, true), (21, false), (22, true), (23, true)] (by kernel_rfl) mixed ?_
      intro w5 hs5
      have hw5 : w5.heap = w4.heap := hs5.heap
      have hb5 := hb1.still (hs24.trans hs5)
      have hA5 := hA.still IS.stable (hs24.trans hs5)
      have hB5 := hB.still RI.stable (hs24.trans hs5)
      repeat' (first | refine WS.q rfl (q_s (by rfl)) (by first | rfl | assumption) ?_ | refine WS.q rfl (q_len (by rfl)) (by first | rfl | assumption) ?_ | refine WS.q rfl (q_add (by rfl) (by rfl) (by unfold InI; omega)) (by first | rfl | assumption) ?_ | refine WS.q rfl (q_sub (by rfl) (by rfl) (by unfold InI; omega)) (by first | rfl | assumption) ?_ | refine WS.q rfl (q_pass (by rfl)) (by first | rfl | assumption) ?_ | refine WS.nil ?_ | fail)
      refine WS.fld rfl rfl (fun w' h => hb5.keep (by rw [h, hw5])) hw5 ?_
      intro p3
      repeat' (first | refine WS.q rfl (q_s (by rfl)) (by first | rfl | assumption) ?_ | refine WS.q rfl (q_len (by rfl)) (by first | rfl | assumption) ?_ | refine WS.q rfl (q_add (by rfl) (by rfl) (by unfold InI; omega)) (by first | rfl | assumption) ?_ | refine WS.q rfl (q_sub (by rfl) (by rfl) (by unfold InI; omega)) (by first | rfl | assumption) ?_ | refine WS.q rfl (q_pass (by rfl)) (by first | rfl | assumption) ?_ | refine WS.nil ?_ | fail)
      refine WS.ixload rfl rfl hB5 (List.getElem?_eq_getElem hlbi) (fun w' hw' => same_heap (hw'.trans hw5.symm)) hw5 ?_
      rintro p4 _ rfl
      repeat' (first | refine WS.q rfl (q_s (by rfl)) (by first | rfl | assumption) ?_ | refine WS.q rfl (q_len (by rfl)) (by first | rfl | assumption) ?_ | refine WS.q rfl (q_add (by rfl) (by rfl) (by unfold InI; omega)) (by first | rfl | assumption) ?_ | refine WS.q rfl (q_sub (by rfl) (by rfl) (by unfold InI; omega)) (by first | rfl | assumption) ?_ | refine WS.q rfl (q_pass (by rfl)) (by first | rfl | assumption) ?_ | refine WS.nil ?_ | fail)
      refine WS.fld rfl rfl (fun w' h => hb5.keep (by rw [h, hw5])) hw5 ?_
      intro p5
      repeat' (first | refine WS.q rfl (q_s (by rfl)) (by first | rfl | assumption) ?_ | refine WS.q rfl (q_len (by rfl)) (by first | rfl | assumption) ?_ | refine WS.q rfl (q_add (by rfl) (by rfl) (by unfold InI; omega)) (by first | rfl | assumption) ?_ | refine WS.q rfl (q_sub (by rfl) (by rfl) (by unfold InI; omega)) (by first | rfl | assumption) ?_ | refine WS.q rfl (q_pass (by rfl)) (by first | rfl | assumption) ?_ | refine WS.nil ?_ | fail)
      refine WS.ixload rfl rfl hA5 (List.getElem?_eq_getElem hlai) (fun w' hw' => same_heap (hw'.trans hw5.symm)) hw5 ?_
      intro p6 u hu
      repeat' (first | refine WS.q rfl (q_s (by rfl)) (by first | rfl | assumption) ?_ | refine WS.q rfl (q_len (by rfl)) (by first | rfl | assumption) ?_ | refine WS.q rfl (q_add (by rfl) (by rfl) (by unfold InI; omega)) (by first | rfl | assumption) ?_ | refine WS.q rfl (q_sub (by rfl) (by rfl) (by unfold InI; omega)) (by first | rfl | assumption) ?_ | refine WS.q rfl (q_pass (by rfl)) (by first | rfl | assumption) ?_ | refine WS.nil ?_ | fail)
      refine WS.ixload rfl rfl hu (List.getElem?_eq_getElem hlr) (fun w' hw' => same_heap (hw'.trans hw5.symm)) hw5 ?_
      rintro p7 _ rfl
      refine WS.call rfl (pow_at cs[i] ((k : Int) - 1) (k - 1) (by omega) hcbi.1 hcbi.2 (by omega) _) ?_
      rintro _ w6 ⟨rfl, hs6⟩
      have hw6 : w6.heap = w4.heap := hs6.heap.trans hw5
      refine ⟨hw6, ?_⟩
      refine WS.q rfl (q_mul (by rfl) (by rfl) (by unfold InI; omega)) hw6 ?_
      refine WS.call rfl (num_any _ _) ?_
      rintro _ _ ⟨rfl, rfl⟩
      refine ⟨hw6, ?_⟩
      refine WS.q rfl (q_mul (by rfl) (by rfl) (by unfold InI; omega)) hw6 ?_
      refine WS.call rfl (num_any _ _) ?_
      rintro _ _ ⟨rfl, rfl⟩
      refine ⟨hw6, ?_⟩
      repeat' (first | refine WS.q rfl (q_s (by rfl)) (by first | rfl | assumption) ?_ | refine WS.q rfl (q_len (by rfl)) (by first | rfl | assumption) ?_ | refine WS.q rfl (q_add (by rfl) (by rfl) (by unfold InI; omega)) (by first | rfl | assumption) ?_ | refine WS.q rfl (q_sub (by rfl) (by rfl) (by unfold InI; omega)) (by first | rfl | assumption) ?_ | refine WS.q rfl (q_pass (by rfl)) (by first | rfl | assumption) ?_ | refine WS.nil ?_ | fail)
      repeat' (first | refine WL.step (o_s (by rfl) ?_) | refine WL.step (o_len (by rfl) ?_) | refine WL.step (o_add (by rfl) (by rfl) (by unfold InI; omega) ?_) | refine WL.step (o_sub (by rfl) (by rfl) (by unfold InI; omega) ?_) | refine WL.step (OpW.pass (by rfl) ?_) | refine WL.nil ?_ | refine thenN ?_ | refine WP.region ?_ | refine WP.seq ?_ | refine WP.block ?_ | refine thenR ?_ | refine thenX ?_ | refine blkN ?_ | refine blkHit ?_ | refine blkR ?_ | refine blkMiss (by rfl) ?_ | refine WP.ret ?_ | refine WP.exit ?_ | refine WP.skip ?_ | refine WP.label ?_ | refine WP.condT (by rfl) ?_ | refine WP.condF (by rfl) ?_ | fail)
      exact ⟨i + 1, ⟨rfl, rfl, rfl, rfl, rfl, (by first | rfl | (show some (Value.int .i64 _) = some (Value.int .i64 _); refine congrArg some (congrArg (Value.int IntKind.i64) ?_); omega)), rfl, rfl, rfl, rfl, rfl, (by first | rfl | (show some (Value.int .i64 _) = some (Value.int .i64 _); refine congrArg some (congrArg (Value.int IntKind.i64) ?_); omega)), trivial⟩, ⟨by omega, (hs4.trans hs5).trans hs6⟩, by omega⟩
    · rename_i hgei
      have hie : i = x.2.length := by omega
      subst hie
      rw [List.take_of_length_le (by omega)] at hsb ⊢
      have h1 : 0 ≤ S.sum * (k : Int) := Int.mul_nonneg hsb.1 (by omega)
      have h2 : S.sum * (k : Int) ≤ 80048 * 16 := Int.mul_le_mul (by omega) (by omega) (by omega) (by omega)
      have hpb := powN_bd cs[j] k
      have hnb := nm_bd (1 - powN cs[j] k)
      have hmb := mul_bd hbb.1 hbb.2 hnb.1 hnb.2
      have e : meetC x 2 k j = decide (nm (S.sum * (k : Int)) = nm (x.2[j] * nm (1 - powN cs[j] k))) := by
        unfold meetC leftC rightC termsC
        rw [if_neg (by decide), if_neg (by decide), if_neg (by decide), if_neg (by decide), hcs, List.getElem?_eq_getElem hlb, List.getElem?_eq_getElem hlc, nm_nm_mul, ← nm_nm_mul S.sum, ← hS, nm_sum_muls]
        unfold dotL
        rw [nm_nm_mul]
        rfl
      repeat' (first | refine WL.step (o_s (by rfl) ?_) | refine WL.step (o_len (by rfl) ?_) | refine WL.step (o_add (by rfl) (by rfl) (by unfold InI; omega) ?_) | refine WL.step (o_sub (by rfl) (by rfl) (by unfold InI; omega) ?_) | refine WL.step (OpW.pass (by rfl) ?_) | refine WL.nil ?_ | refine thenN ?_ | refine WP.region ?_ | refine WP.seq ?_ | refine WP.block ?_ | refine thenR ?_ | refine thenX ?_ | refine blkN ?_ | refine blkHit ?_ | refine blkR ?_ | refine blkMiss (by rfl) ?_ | refine WP.ret ?_ | refine WP.exit ?_ | refine WP.skip ?_ | refine WP.label ?_ | refine WP.condT (by rfl) ?_ | refine WP.condF (by rfl) ?_ | fail)
      refine WP.drawn (fun w' => w'.heap = w4.heap) [(0, true), (1, true), (2, true), (4, true), (5, true), (6, true), (7, true), (8, true), (9, true), (10, true), (3, false), (11, false), (12, true), (13, false), (14, true), (15, false), (16, true)] (by kernel_rfl) mixed ?_
      intro w5 hs5
      have hw5 : w5.heap = w4.heap := hs5.heap
      have hb5 := hb1.still (hs24.trans hs5)
      have hB5 := hB.still RI.stable (hs24.trans hs5)
      repeat' (first | refine WS.q rfl (q_s (by rfl)) (by first | rfl | assumption) ?_ | refine WS.q rfl (q_len (by rfl)) (by first | rfl | assumption) ?_ | refine WS.q rfl (q_add (by rfl) (by rfl) (by unfold InI; omega)) (by first | rfl | assumption) ?_ | refine WS.q rfl (q_sub (by rfl) (by rfl) (by unfold InI; omega)) (by first | rfl | assumption) ?_ | refine WS.q rfl (q_pass (by rfl)) (by first | rfl | assumption) ?_ | refine WS.nil ?_ | fail)
      refine WS.q rfl (q_mul (by rfl) (by rfl) (by unfold InI; omega)) hw5 ?_
      refine WS.fld rfl rfl (fun w' h => hb5.keep (by rw [h, hw5])) hw5 ?_
      intro p3
      repeat' (first | refine WS.q rfl (q_s (by rfl)) (by first | rfl | assumption) ?_ | refine WS.q rfl (q_len (by rfl)) (by first | rfl | assumption) ?_ | refine WS.q rfl (q_add (by rfl) (by rfl) (by unfold InI; omega)) (by first | rfl | assumption) ?_ | refine WS.q rfl (q_sub (by rfl) (by rfl) (by unfold InI; omega)) (by first | rfl | assumption) ?_ | refine WS.q rfl (q_pass (by rfl)) (by first | rfl | assumption) ?_ | refine WS.nil ?_ | fail)
      refine WS.ixload rfl rfl hB5 (List.getElem?_eq_getElem hlb) (fun w' hw' => same_heap (hw'.trans hw5.symm)) hw5 ?_
      rintro p4 _ rfl
      repeat' (first | refine WS.q rfl (q_s (by rfl)) (by first | rfl | assumption) ?_ | refine WS.q rfl (q_len (by rfl)) (by first | rfl | assumption) ?_ | refine WS.q rfl (q_add (by rfl) (by rfl) (by unfold InI; omega)) (by first | rfl | assumption) ?_ | refine WS.q rfl (q_sub (by rfl) (by rfl) (by unfold InI; omega)) (by first | rfl | assumption) ?_ | refine WS.q rfl (q_pass (by rfl)) (by first | rfl | assumption) ?_ | refine WS.nil ?_ | fail)
      refine WS.call rfl (num_any _ _) ?_
      rintro _ _ ⟨rfl, rfl⟩
      refine ⟨hw5, ?_⟩
      refine WS.call rfl (pow_any cs[j] k hcb.1 hcb.2 (by omega) _) ?_
      rintro _ w6 ⟨rfl, hs6⟩
      have hw6 : w6.heap = w4.heap := hs6.heap.trans hw5
      refine ⟨hw6, ?_⟩
      repeat' (first | refine WS.q rfl (q_s (by rfl)) (by first | rfl | assumption) ?_ | refine WS.q rfl (q_len (by rfl)) (by first | rfl | assumption) ?_ | refine WS.q rfl (q_add (by rfl) (by rfl) (by unfold InI; omega)) (by first | rfl | assumption) ?_ | refine WS.q rfl (q_sub (by rfl) (by rfl) (by unfold InI; omega)) (by first | rfl | assumption) ?_ | refine WS.q rfl (q_pass (by rfl)) (by first | rfl | assumption) ?_ | refine WS.nil ?_ | fail)
      refine WS.call rfl (num_any _ _) ?_
      rintro _ _ ⟨rfl, rfl⟩
      refine ⟨hw6, ?_⟩
      refine WS.q rfl (q_mul (by rfl) (by rfl) (by unfold InI; omega)) hw6 ?_
      refine WS.call rfl (num_any _ _) ?_
      rintro _ _ ⟨rfl, rfl⟩
      refine ⟨hw6, ?_⟩
      repeat' (first | refine WS.q rfl (q_s (by rfl)) (by first | rfl | assumption) ?_ | refine WS.q rfl (q_len (by rfl)) (by first | rfl | assumption) ?_ | refine WS.q rfl (q_add (by rfl) (by rfl) (by unfold InI; omega)) (by first | rfl | assumption) ?_ | refine WS.q rfl (q_sub (by rfl) (by rfl) (by unfold InI; omega)) (by first | rfl | assumption) ?_ | refine WS.q rfl (q_pass (by rfl)) (by first | rfl | assumption) ?_ | refine WS.nil ?_ | fail)
      repeat' (first | refine WL.step (o_s (by rfl) ?_) | refine WL.step (o_len (by rfl) ?_) | refine WL.step (o_add (by rfl) (by rfl) (by unfold InI; omega) ?_) | refine WL.step (o_sub (by rfl) (by rfl) (by unfold InI; omega) ?_) | refine WL.step (OpW.pass (by rfl) ?_) | refine WL.nil ?_ | refine thenN ?_ | refine WP.region ?_ | refine WP.seq ?_ | refine WP.block ?_ | refine thenR ?_ | refine thenX ?_ | refine blkN ?_ | refine blkHit ?_ | refine blkR ?_ | refine blkMiss (by rfl) ?_ | refine WP.ret ?_ | refine WP.exit ?_ | refine WP.skip ?_ | refine WP.label ?_ | refine WP.condT (by rfl) ?_ | refine WP.condF (by rfl) ?_ | fail)
      have hs36 := (hs4.trans hs5).trans hs6
      have hc6 := hc3.trans (Chg.of_still hs36)
      first | refine WP.condD (by rfl) (fun _ => ?_) (fun _ => ?_) | refine WP.condND (by rfl) (fun _ => ?_) (fun _ => ?_) | refine WP.condN (by rfl) (fun _ => ?_) (fun _ => ?_) | refine WP.cond (by rfl) (fun _ => ?_) (fun _ => ?_) | fail
      · rename_i hne
        rw [decide_eq_false hne] at e
        repeat' (first | refine WL.step (o_s (by rfl) ?_) | refine WL.step (o_len (by rfl) ?_) | refine WL.step (o_add (by rfl) (by rfl) (by unfold InI; omega) ?_) | refine WL.step (o_sub (by rfl) (by rfl) (by unfold InI; omega) ?_) | refine WL.step (OpW.pass (by rfl) ?_) | refine WL.nil ?_ | refine thenN ?_ | refine WP.region ?_ | refine WP.seq ?_ | refine WP.block ?_ | refine thenR ?_ | refine thenX ?_ | refine blkN ?_ | refine blkHit ?_ | refine blkR ?_ | refine blkMiss (by rfl) ?_ | refine WP.ret ?_ | refine WP.exit ?_ | refine WP.skip ?_ | refine WP.label ?_ | refine WP.condT (by rfl) ?_ | refine WP.condF (by rfl) ?_ | fail)
        refine ⟨_, ret1 rfl (by rfl), ?_⟩
        exact ⟨congrArg Value.bool (rangeAll_false (i := j) (by omega) e).symm, hc6⟩
      · rename_i heq
        rw [decide_eq_true (Decidable.not_not.1 heq)] at e
        repeat' (first | refine WL.step (o_s (by rfl) ?_) | refine WL.step (o_len (by rfl) ?_) | refine WL.step (o_add (by rfl) (by rfl) (by unfold InI; omega) ?_) | refine WL.step (o_sub (by rfl) (by rfl) (by unfold InI; omega) ?_) | refine WL.step (OpW.pass (by rfl) ?_) | refine WL.nil ?_ | refine thenN ?_ | refine WP.region ?_ | refine WP.seq ?_ | refine WP.block ?_ | refine thenR ?_ | refine thenX ?_ | refine blkN ?_ | refine blkHit ?_ | refine blkR ?_ | refine blkMiss (by rfl) ?_ | refine WP.ret ?_ | refine WP.exit ?_ | refine WP.skip ?_ | refine WP.label ?_ | refine WP.condT (by rfl) ?_ | refine WP.condF (by rfl) ?_ | fail)
        refine ⟨j + 1, ⟨rfl, rfl, rfl, rfl, rfl, (by first | rfl | (show some (Value.int .i64 _) = some (Value.int .i64 _); refine congrArg some (congrArg (Value.int IntKind.i64) ?_); omega)), trivial⟩, ⟨by omega, fun m hm => ?_, hs3.trans hs36⟩, by omega⟩
        by_cases hmj : m = j
        · rw [hmj]; exact e
        · exact hall m (by omega)
  · rename_i hge2
    have : j = x.2.length := by omega
    subst this
    repeat' (first | refine WL.step (o_s (by rfl) ?_) | refine WL.step (o_len (by rfl) ?_) | refine WL.step (o_add (by rfl) (by rfl) (by unfold InI; omega) ?_) | refine WL.step (o_sub (by rfl) (by rfl) (by unfold InI; omega) ?_) | refine WL.step (OpW.pass (by rfl) ?_) | refine WL.nil ?_ | refine thenN ?_ | refine WP.region ?_ | refine WP.seq ?_ | refine WP.block ?_ | refine thenR ?_ | refine thenX ?_ | refine blkN ?_ | refine blkHit ?_ | refine blkR ?_ | refine blkMiss (by rfl) ?_ | refine WP.ret ?_ | refine WP.exit ?_ | refine WP.skip ?_ | refine WP.label ?_ | refine WP.condT (by rfl) ?_ | refine WP.condF (by rfl) ?_ | fail)
    refine ⟨_, ret1 rfl (by rfl), ?_⟩
    exact ⟨congrArg Value.bool (rangeAll_true hall).symm, hc3⟩
end Go.Proofs
