/- The program's conditions on the stages and the columns; the order of the conditions of a kind. -/
import Derived.Test.YtgjpdjblchgfdaaA14
import Derived.Test.YtgjpdjblchgfdaaH9
namespace Go.Proofs
open Go Go.Fw Go.RowKit Go.Rk

theorem meetsStages_any {lo hi : Nat} {w : World} {v : Value} {x : TabD} (h : IT lo hi w v x) (hx : Tab x) {k : Nat} (hk0 : 1 ≤ k) (hk1 : k ≤ 16) :
    Does Try.prog 129 [v, .int .i64 (k : Nat)] w fun r w' => r = .bool (meetAll x 1 k) ∧ Chg 0 0 w w' := by
  obtain ⟨va, vb, rfl, hA, hB⟩ := h
  obtain ⟨a, c, hva⟩ := hA.shape
  subst hva
  have hm := hx.le8
  have hsq := hx.sq
  have hnl := nodesL_length x.1
  have hpl : (powsL (nodesL x.1) (k - 1)).length = x.2.length := by rw [powsL_length]; omega
  refine Does.enter Try.func129 Try.ntmps129 rfl (by rfl) ?_
  repeat' (first | refine WL.step (o_s (by rfl) ?_) | refine WL.step (o_len (by rfl) ?_) | refine WL.step (o_add (by rfl) (by rfl) (by unfold InI; omega) ?_) | refine WL.step (o_sub (by rfl) (by rfl) (by unfold InI; omega) ?_) | refine WL.step (OpW.pass (by rfl) ?_) | refine WL.nil ?_ | refine thenN ?_ | refine WP.region ?_ | refine WP.seq ?_ | refine WP.block ?_ | refine thenR ?_ | refine thenX ?_ | refine blkN ?_ | refine blkHit ?_ | refine blkR ?_ | refine blkMiss (by rfl) ?_ | refine WP.ret ?_ | refine WP.exit ?_ | refine WP.skip ?_ | refine WP.label ?_ | refine WP.condT (by rfl) ?_ | refine WP.condF (by rfl) ?_ | fail)
  refine WL.step (o_box (by rfl) ?_)
  intro w1 hb1 hbl1 hz1
  have hc1 := Chg.of_below hbl1
  have hT : IT lo hi w (.agg #[.slice a x.1.length c, vb]) x := ⟨_, _, rfl, hA, hB⟩
  replace hT := hT.chg hc1 (by omega)
  replace hA := hA.below IS.stable hbl1 hA.hi_le
  repeat' (first | refine WL.step (o_s (by rfl) ?_) | refine WL.step (o_len (by rfl) ?_) | refine WL.step (o_add (by rfl) (by rfl) (by unfold InI; omega) ?_) | refine WL.step (o_sub (by rfl) (by rfl) (by unfold InI; omega) ?_) | refine WL.step (OpW.pass (by rfl) ?_) | refine WL.nil ?_ | refine thenN ?_ | refine WP.region ?_ | refine WP.seq ?_ | refine WP.block ?_ | refine thenR ?_ | refine thenX ?_ | refine blkN ?_ | refine blkHit ?_ | refine blkR ?_ | refine blkMiss (by rfl) ?_ | refine WP.ret ?_ | refine WP.exit ?_ | refine WP.skip ?_ | refine WP.label ?_ | refine WP.condT (by rfl) ?_ | refine WP.condF (by rfl) ?_ | fail)
  refine WL.step (o_lit (us := []) (by rfl) (by rfl) rfl (by decide) one0 ?_)
  intro v1 w2 hown hbl2 hz2 _
  have hbl12 : Below w.heap.size w w2 := hbl1.trans (Below.mono hbl2 (by omega))
  replace hT := hT.chg (Chg.of_below hbl2) (by omega)
  replace hA := hA.below IS.stable hbl2 (by have := hA.hi_le; omega)
  replace hb1 := hb1.below hbl2 (by omega)
  repeat' (first | refine WL.step (o_s (by rfl) ?_) | refine WL.step (o_len (by rfl) ?_) | refine WL.step (o_add (by rfl) (by rfl) (by unfold InI; omega) ?_) | refine WL.step (o_sub (by rfl) (by rfl) (by unfold InI; omega) ?_) | refine WL.step (OpW.pass (by rfl) ?_) | refine WL.nil ?_ | refine thenN ?_ | refine WP.region ?_ | refine WP.seq ?_ | refine WP.block ?_ | refine thenR ?_ | refine thenX ?_ | refine blkN ?_ | refine blkHit ?_ | refine blkR ?_ | refine blkMiss (by rfl) ?_ | refine WP.ret ?_ | refine WP.exit ?_ | refine WP.skip ?_ | refine WP.label ?_ | refine WP.condT (by rfl) ?_ | refine WP.condF (by rfl) ?_ | fail)
  refine WL.step (o_loadS (by rfl) hb1 (by rfl) ?_)
  refine WL.call (nodes_any hT hx) ?_
  intro v3 w3 hN
  have hz3 := hN.2.size
  have hC := hN.ow.rd
  obtain ⟨ac, cc, hvc⟩ := hC.shape
  subst hvc
  have hbl13 : Below w.heap.size w w3 := hbl12.trans (Below.mono hN.2 (by omega))
  replace hb1 := hb1.below hN.2 (by omega)
  replace hT := hT.chg (Chg.of_below hN.2) (by omega)
  replace hA := hA.below IS.stable hN.2 (by have := hA.hi_le; omega)
  have hown3 := hown.below hN.2 (Nat.le_refl _)
  repeat' (first | refine WL.step (o_s (by rfl) ?_) | refine WL.step (o_len (by rfl) ?_) | refine WL.step (o_add (by rfl) (by rfl) (by unfold InI; omega) ?_) | refine WL.step (o_sub (by rfl) (by rfl) (by unfold InI; omega) ?_) | refine WL.step (OpW.pass (by rfl) ?_) | refine WL.nil ?_ | refine thenN ?_ | refine WP.region ?_ | refine WP.seq ?_ | refine WP.block ?_ | refine thenR ?_ | refine thenX ?_ | refine blkN ?_ | refine blkHit ?_ | refine blkR ?_ | refine blkMiss (by rfl) ?_ | refine WP.ret ?_ | refine WP.exit ?_ | refine WP.skip ?_ | refine WP.label ?_ | refine WP.condT (by rfl) ?_ | refine WP.condF (by rfl) ?_ | fail)
  have hone : ∃ u c, v1 = .slice u 0 c := by obtain ⟨u, c, e, _⟩ := hown3.shape; exact ⟨u, c, e⟩
  refine WP.loop (fun (s : Nat × Value) => [(1, .int .i64 (k : Nat)), (2, .pointer (some ⟨w.heap.size, 0, none⟩)), (5, s.2), (12, .slice ac (nodesL x.1).length cc), (13, .int .i64 ((nodesL x.1).length : Nat)), (14, .int .i64 (s.1 : Nat))])
    (fun s w4 => s.1 ≤ x.2.length ∧ Own w1.heap.size 2 w4 s.2 (Ints ((powsL (nodesL x.1) (k - 1)).take s.1)) ∧ Below w1.heap.size w3 w4 ∧ IS w2.heap.size w3.heap.size w4 (.slice ac (nodesL x.1).length cc) (nodesL x.1) ∧ (∀ j, s.2.ownBlock = some j → j < w2.heap.size ∨ w3.heap.size ≤ j))
    (fun s => x.2.length - s.1) (0, v1) ⟨rfl, rfl, rfl, rfl, rfl, rfl, trivial⟩ ⟨by omega, by simpa [Ints] using hown3, Below.refl _ _, hC, fun j hj => .inl (hown.block j hj).2⟩ ?_
  clear hC
  rintro ⟨i, vo⟩ w4 ⟨hi1, hown4, hbl4, hC, hsep⟩
  dsimp only at hi1 hown4 hsep ⊢
  have hz4 := hbl4.size
  repeat' (first | refine WL.step (o_s (by rfl) ?_) | refine WL.step (o_len (by rfl) ?_) | refine WL.step (o_add (by rfl) (by rfl) (by unfold InI; omega) ?_) | refine WL.step (o_sub (by rfl) (by rfl) (by unfold InI; omega) ?_) | refine WL.step (OpW.pass (by rfl) ?_) | refine WL.nil ?_ | refine thenN ?_ | refine WP.region ?_ | refine WP.seq ?_ | refine WP.block ?_ | refine thenR ?_ | refine thenX ?_ | refine blkN ?_ | refine blkHit ?_ | refine blkR ?_ | refine blkMiss (by rfl) ?_ | refine WP.ret ?_ | refine WP.exit ?_ | refine WP.skip ?_ | refine WP.label ?_ | refine WP.condT (by rfl) ?_ | refine WP.condF (by rfl) ?_ | fail)
  first | refine WP.condD (by rfl) (fun _ => ?_) (fun _ => ?_) | refine WP.condND (by rfl) (fun _ => ?_) (fun _ => ?_) | refine WP.condN (by rfl) (fun _ => ?_) (fun _ => ?_) | refine WP.cond (by rfl) (fun _ => ?_) (fun _ => ?_) | fail
  · rename_i hlt
    have hlc : i < (nodesL x.1).length := by omega
    have hcb := allN_get (allN_nodesL x.1) hlc
    repeat' (first | refine WL.step (o_s (by rfl) ?_) | refine WL.step (o_len (by rfl) ?_) | refine WL.step (o_add (by rfl) (by rfl) (by unfold InI; omega) ?_) | refine WL.step (o_sub (by rfl) (by rfl) (by unfold InI; omega) ?_) | refine WL.step (OpW.pass (by rfl) ?_) | refine WL.nil ?_ | refine thenN ?_ | refine WP.region ?_ | refine WP.seq ?_ | refine WP.block ?_ | refine thenR ?_ | refine thenX ?_ | refine blkN ?_ | refine blkHit ?_ | refine blkR ?_ | refine blkMiss (by rfl) ?_ | refine WP.ret ?_ | refine WP.exit ?_ | refine WP.skip ?_ | refine WP.label ?_ | refine WP.condT (by rfl) ?_ | refine WP.condF (by rfl) ?_ | fail)
    refine WL.ixload hC (List.getElem?_eq_getElem hlc) ?_
    rintro p1 _ rfl
    repeat' (first | refine WL.step (o_s (by rfl) ?_) | refine WL.step (o_len (by rfl) ?_) | refine WL.step (o_add (by rfl) (by rfl) (by unfold InI; omega) ?_) | refine WL.step (o_sub (by rfl) (by rfl) (by unfold InI; omega) ?_) | refine WL.step (OpW.pass (by rfl) ?_) | refine WL.nil ?_ | refine thenN ?_ | refine WP.region ?_ | refine WP.seq ?_ | refine WP.block ?_ | refine thenR ?_ | refine thenX ?_ | refine blkN ?_ | refine blkHit ?_ | refine blkR ?_ | refine blkMiss (by rfl) ?_ | refine WP.ret ?_ | refine WP.exit ?_ | refine WP.skip ?_ | refine WP.label ?_ | refine WP.condT (by rfl) ?_ | refine WP.condF (by rfl) ?_ | fail)
    refine WL.call (pow_at (nodesL x.1)[i] ((k : Int) - 1) (k - 1) (by omega) hcb.1 hcb.2 (by omega) _) ?_
    rintro _ w5 ⟨rfl, hs5⟩
    have hz5 := hs5.size
    refine o_append1K (u := .int .i64 _) (fun _ => by rfl) (by rfl) (hown4.still hs5) rfl (by simp [Ints, hpl, maxLen]; omega) (by simp [Ints, hpl]; omega) (by omega) ?_
    intro v5p v5 w6 hown6 hb6 hf6 hz6 hk6
    repeat' (first | refine WL.step (o_s (by rfl) ?_) | refine WL.step (o_len (by rfl) ?_) | refine WL.step (o_add (by rfl) (by rfl) (by unfold InI; omega) ?_) | refine WL.step (o_sub (by rfl) (by rfl) (by unfold InI; omega) ?_) | refine WL.step (OpW.pass (by rfl) ?_) | refine WL.nil ?_ | refine thenN ?_ | refine WP.region ?_ | refine WP.seq ?_ | refine WP.block ?_ | refine thenR ?_ | refine thenX ?_ | refine blkN ?_ | refine blkHit ?_ | refine blkR ?_ | refine blkMiss (by rfl) ?_ | refine WP.ret ?_ | refine WP.exit ?_ | refine WP.skip ?_ | refine WP.label ?_ | refine WP.condT (by rfl) ?_ | refine WP.condF (by rfl) ?_ | fail)
    refine ⟨(i + 1, v5), ⟨rfl, rfl, rfl, rfl, rfl, (by first | rfl | (show some (Value.int .i64 _) = some (Value.int .i64 _); refine congrArg some (congrArg (Value.int IntKind.i64) ?_); omega)), trivial⟩, ⟨by dsimp only; omega, ?_, (hbl4.trans (hs5.below _)).trans (Below.mono hb6 (by omega)), ?_, fun j hj => ?_⟩, by dsimp only; omega⟩
    · dsimp only
      rw [← Ints_snoc (show i < (powsL (nodesL x.1) (k - 1)).length by omega) (y := powN (nodesL x.1)[i] (k - 1)) (powsL_get _ hlc)]
      exact hown6
    · exact (hC.still RI.stable hs5).same RI.stable (fun j h1 h2 => hf6 j (by omega) (fun e => by have := hsep j e; omega)) (by omega)
    · rcases hk6 j hj with h1 | h1
      · exact hsep j h1
      · right; omega
  rename_i hge
  have hie : i = x.2.length := by omega
  subst hie
  rw [List.take_of_length_le (by omega)] at hown4
  have hP : IS w1.heap.size w4.heap.size w4 vo (powsL (nodesL x.1) (k - 1)) := hown4.toIS (Nat.le_refl _)
  obtain ⟨ap, cp, hvp⟩ := hP.shape
  subst hvp
  have hbl14 : Below w.heap.size w w4 := hbl13.trans (Below.mono hbl4 (by omega))
  replace hb1 := hb1.below hbl4 (by omega)
  replace hT := hT.below hbl4 (by have := hA.hi_le; have := hB.hi_le; omega)
  replace hA := hA.below IS.stable hbl4 (by have := hB.hi_le; omega)
  repeat' (first | refine WL.step (o_s (by rfl) ?_) | refine WL.step (o_len (by rfl) ?_) | refine WL.step (o_add (by rfl) (by rfl) (by unfold InI; omega) ?_) | refine WL.step (o_sub (by rfl) (by rfl) (by unfold InI; omega) ?_) | refine WL.step (OpW.pass (by rfl) ?_) | refine WL.nil ?_ | refine thenN ?_ | refine WP.region ?_ | refine WP.seq ?_ | refine WP.block ?_ | refine thenR ?_ | refine thenX ?_ | refine blkN ?_ | refine blkHit ?_ | refine blkR ?_ | refine blkMiss (by rfl) ?_ | refine WP.ret ?_ | refine WP.exit ?_ | refine WP.skip ?_ | refine WP.label ?_ | refine WP.condT (by rfl) ?_ | refine WP.condF (by rfl) ?_ | fail)
  refine WL.step (o_loadS (by rfl) hb1 (by rfl) ?_)
  refine WL.call (nodes_any hT hx) ?_
  intro v6 w6 hN6
  have hz6 := hN6.2.size
  have hC := hN6.ow.rd
  obtain ⟨ad, cd, hvd⟩ := hC.shape
  subst hvd
  have hbl16 : Below w.heap.size w w6 := hbl14.trans (Below.mono hN6.2 (by omega))
  replace hb1 := hb1.below hN6.2 (by omega)
  replace hA := hA.below IS.stable hN6.2 (by have := hB.hi_le; omega)
  replace hP := hP.below RI.stable hN6.2 (Nat.le_refl _)
  repeat' (first | refine WL.step (o_s (by rfl) ?_) | refine WL.step (o_len (by rfl) ?_) | refine WL.step (o_add (by rfl) (by rfl) (by unfold InI; omega) ?_) | refine WL.step (o_sub (by rfl) (by rfl) (by unfold InI; omega) ?_) | refine WL.step (OpW.pass (by rfl) ?_) | refine WL.nil ?_ | refine thenN ?_ | refine WP.region ?_ | refine WP.seq ?_ | refine WP.block ?_ | refine thenR ?_ | refine thenX ?_ | refine blkN ?_ | refine blkHit ?_ | refine blkR ?_ | refine blkMiss (by rfl) ?_ | refine WP.ret ?_ | refine WP.exit ?_ | refine WP.skip ?_ | refine WP.label ?_ | refine WP.condT (by rfl) ?_ | refine WP.condF (by rfl) ?_ | fail)
  refine WP.loop (fun (i : Nat) => [(1, .int .i64 (k : Nat)), (2, .pointer (some ⟨w.heap.size, 0, none⟩)), (5, .slice ap (powsL (nodesL x.1) (k - 1)).length cp), (27, .slice ad (nodesL x.1).length cd), (28, .int .i64 ((nodesL x.1).length : Nat)), (29, .int .i64 (i : Nat))])
    (fun i w7 => i ≤ x.2.length ∧ (∀ j, j < i → meetC x 1 k j = true) ∧ Still w6 w7)
    (fun i => x.2.length - i) 0 ⟨rfl, rfl, rfl, rfl, rfl, rfl, trivial⟩ ⟨by omega, fun j hj => absurd hj (by omega), Still.refl _⟩ ?_
  rintro i w7 ⟨hi1, hall, hs7⟩
  have hc7 : Chg 0 0 w w7 := (Chg.of_below hbl16).trans (Chg.of_still hs7)
  repeat' (first | refine WL.step (o_s (by rfl) ?_) | refine WL.step (o_len (by rfl) ?_) | refine WL.step (o_add (by rfl) (by rfl) (by unfold InI; omega) ?_) | refine WL.step (o_sub (by rfl) (by rfl) (by unfold InI; omega) ?_) | refine WL.step (OpW.pass (by rfl) ?_) | refine WL.nil ?_ | refine thenN ?_ | refine WP.region ?_ | refine WP.seq ?_ | refine WP.block ?_ | refine thenR ?_ | refine thenX ?_ | refine blkN ?_ | refine blkHit ?_ | refine blkR ?_ | refine blkMiss (by rfl) ?_ | refine WP.ret ?_ | refine WP.exit ?_ | refine WP.skip ?_ | refine WP.label ?_ | refine WP.condT (by rfl) ?_ | refine WP.condF (by rfl) ?_ | fail)
  first | refine WP.condD (by rfl) (fun _ => ?_) (fun _ => ?_) | refine WP.condND (by rfl) (fun _ => ?_) (fun _ => ?_) | refine WP.condN (by rfl) (fun _ => ?_) (fun _ => ?_) | refine WP.cond (by rfl) (fun _ => ?_) (fun _ => ?_) | fail
  · rename_i hlt
    have hlc : i < (nodesL x.1).length := by omega
    have hla : i < x.1.length := by omega
    have hcb := allN_get (allN_nodesL x.1) hlc
    have hri := hx.row _ (List.getElem_mem hla)
    have hdb := nm_bd (List.zipWith (· * ·) x.1[i] (powsL (nodesL x.1) (k - 1))).sum
    have e : meetC x 1 k i = decide (nm (dotL x.1[i] (powsL (nodesL x.1) (k - 1)) * (k : Int)) = powN (nodesL x.1)[i] k) := by
      unfold meetC leftC rightC termsC
      rw [if_neg (by decide), if_pos rfl, if_neg (by decide), if_pos rfl, List.getElem?_eq_getElem hla, List.getElem?_eq_getElem hlc]
      rfl
    repeat' (first | refine WL.step (o_s (by rfl) ?_) | refine WL.step (o_len (by rfl) ?_) | refine WL.step (o_add (by rfl) (by rfl) (by unfold InI; omega) ?_) | refine WL.step (o_sub (by rfl) (by rfl) (by unfold InI; omega) ?_) | refine WL.step (OpW.pass (by rfl) ?_) | refine WL.nil ?_ | refine thenN ?_ | refine WP.region ?_ | refine WP.seq ?_ | refine WP.block ?_ | refine thenR ?_ | refine thenX ?_ | refine blkN ?_ | refine blkHit ?_ | refine blkR ?_ | refine blkMiss (by rfl) ?_ | refine WP.ret ?_ | refine WP.exit ?_ | refine WP.skip ?_ | refine WP.label ?_ | refine WP.condT (by rfl) ?_ | refine WP.condF (by rfl) ?_ | fail)
    refine WL.ixload (hC.still RI.stable hs7) (List.getElem?_eq_getElem hlc) ?_
    rintro p1 _ rfl
    repeat' (first | refine WL.step (o_s (by rfl) ?_) | refine WL.step (o_len (by rfl) ?_) | refine WL.step (o_add (by rfl) (by rfl) (by unfold InI; omega) ?_) | refine WL.step (o_sub (by rfl) (by rfl) (by unfold InI; omega) ?_) | refine WL.step (OpW.pass (by rfl) ?_) | refine WL.nil ?_ | refine thenN ?_ | refine WP.region ?_ | refine WP.seq ?_ | refine WP.block ?_ | refine thenR ?_ | refine thenX ?_ | refine blkN ?_ | refine blkHit ?_ | refine blkR ?_ | refine blkMiss (by rfl) ?_ | refine WP.ret ?_ | refine WP.exit ?_ | refine WP.skip ?_ | refine WP.label ?_ | refine WP.condT (by rfl) ?_ | refine WP.condF (by rfl) ?_ | fail)
    refine WL.fld (hb1.still hs7) ?_
    intro p2
    repeat' (first | refine WL.step (o_s (by rfl) ?_) | refine WL.step (o_len (by rfl) ?_) | refine WL.step (o_add (by rfl) (by rfl) (by unfold InI; omega) ?_) | refine WL.step (o_sub (by rfl) (by rfl) (by unfold InI; omega) ?_) | refine WL.step (OpW.pass (by rfl) ?_) | refine WL.nil ?_ | refine thenN ?_ | refine WP.region ?_ | refine WP.seq ?_ | refine WP.block ?_ | refine thenR ?_ | refine thenX ?_ | refine blkN ?_ | refine blkHit ?_ | refine blkR ?_ | refine blkMiss (by rfl) ?_ | refine WP.ret ?_ | refine WP.exit ?_ | refine WP.skip ?_ | refine WP.label ?_ | refine WP.condT (by rfl) ?_ | refine WP.condF (by rfl) ?_ | fail)
    refine WL.ixload (hA.still IS.stable hs7) (List.getElem?_eq_getElem hla) ?_
    intro p3 u hu
    repeat' (first | refine WL.step (o_s (by rfl) ?_) | refine WL.step (o_len (by rfl) ?_) | refine WL.step (o_add (by rfl) (by rfl) (by unfold InI; omega) ?_) | refine WL.step (o_sub (by rfl) (by rfl) (by unfold InI; omega) ?_) | refine WL.step (OpW.pass (by rfl) ?_) | refine WL.nil ?_ | refine thenN ?_ | refine WP.region ?_ | refine WP.seq ?_ | refine WP.block ?_ | refine thenR ?_ | refine thenX ?_ | refine blkN ?_ | refine blkHit ?_ | refine blkR ?_ | refine blkMiss (by rfl) ?_ | refine WP.ret ?_ | refine WP.exit ?_ | refine WP.skip ?_ | refine WP.label ?_ | refine WP.condT (by rfl) ?_ | refine WP.condF (by rfl) ?_ | fail)
    refine WL.call (dot_any hu (hP.still RI.stable hs7) (by omega) (by omega) hri.2 (allN_powsL _ _)) ?_
    rintro _ w8 ⟨rfl, hs8⟩
    have h1 : 0 ≤ dotL x.1[i] (powsL (nodesL x.1) (k - 1)) * (k : Int) := Int.mul_nonneg hdb.1 (by omega)
    have h2 : dotL x.1[i] (powsL (nodesL x.1) (k - 1)) * (k : Int) ≤ 10006 * 16 := Int.mul_le_mul hdb.2 (by omega) (by omega) (by omega)
    repeat' (first | refine WL.step (o_s (by rfl) ?_) | refine WL.step (o_len (by rfl) ?_) | refine WL.step (o_add (by rfl) (by rfl) (by unfold InI; omega) ?_) | refine WL.step (o_sub (by rfl) (by rfl) (by unfold InI; omega) ?_) | refine WL.step (OpW.pass (by rfl) ?_) | refine WL.nil ?_ | refine thenN ?_ | refine WP.region ?_ | refine WP.seq ?_ | refine WP.block ?_ | refine thenR ?_ | refine thenX ?_ | refine blkN ?_ | refine blkHit ?_ | refine blkR ?_ | refine blkMiss (by rfl) ?_ | refine WP.ret ?_ | refine WP.exit ?_ | refine WP.skip ?_ | refine WP.label ?_ | refine WP.condT (by rfl) ?_ | refine WP.condF (by rfl) ?_ | fail)
    refine WL.step (o_mul (by rfl) (by rfl) (by unfold InI; omega) ?_)
    refine WL.call (num_any _ _) ?_
    rintro _ _ ⟨rfl, rfl⟩
    repeat' (first | refine WL.step (o_s (by rfl) ?_) | refine WL.step (o_len (by rfl) ?_) | refine WL.step (o_add (by rfl) (by rfl) (by unfold InI; omega) ?_) | refine WL.step (o_sub (by rfl) (by rfl) (by unfold InI; omega) ?_) | refine WL.step (OpW.pass (by rfl) ?_) | refine WL.nil ?_ | refine thenN ?_ | refine WP.region ?_ | refine WP.seq ?_ | refine WP.block ?_ | refine thenR ?_ | refine thenX ?_ | refine blkN ?_ | refine blkHit ?_ | refine blkR ?_ | refine blkMiss (by rfl) ?_ | refine WP.ret ?_ | refine WP.exit ?_ | refine WP.skip ?_ | refine WP.label ?_ | refine WP.condT (by rfl) ?_ | refine WP.condF (by rfl) ?_ | fail)
    refine WL.call (pow_any (nodesL x.1)[i] k hcb.1 hcb.2 (by omega) _) ?_
    rintro _ w9 ⟨rfl, hs9⟩
    have hs79 := (hs7.trans hs8).trans hs9
    have hc9 : Chg 0 0 w w9 := (Chg.of_below hbl16).trans (Chg.of_still hs79)
    repeat' (first | refine WL.step (o_s (by rfl) ?_) | refine WL.step (o_len (by rfl) ?_) | refine WL.step (o_add (by rfl) (by rfl) (by unfold InI; omega) ?_) | refine WL.step (o_sub (by rfl) (by rfl) (by unfold InI; omega) ?_) | refine WL.step (OpW.pass (by rfl) ?_) | refine WL.nil ?_ | refine thenN ?_ | refine WP.region ?_ | refine WP.seq ?_ | refine WP.block ?_ | refine thenR ?_ | refine thenX ?_ | refine blkN ?_ | refine blkHit ?_ | refine blkR ?_ | refine blkMiss (by rfl) ?_ | refine WP.ret ?_ | refine WP.exit ?_ | refine WP.skip ?_ | refine WP.label ?_ | refine WP.condT (by rfl) ?_ | refine WP.condF (by rfl) ?_ | fail)
    first | refine WP.condD (by rfl) (fun _ => ?_) (fun _ => ?_) | refine WP.condND (by rfl) (fun _ => ?_) (fun _ => ?_) | refine WP.condN (by rfl) (fun _ => ?_) (fun _ => ?_) | refine WP.cond (by rfl) (fun _ => ?_) (fun _ => ?_) | fail
    · rename_i hne
      rw [decide_eq_false hne] at e
      repeat' (first | refine WL.step (o_s (by rfl) ?_) | refine WL.step (o_len (by rfl) ?_) | refine WL.step (o_add (by rfl) (by rfl) (by unfold InI; omega) ?_) | refine WL.step (o_sub (by rfl) (by rfl) (by unfold InI; omega) ?_) | refine WL.step (OpW.pass (by rfl) ?_) | refine WL.nil ?_ | refine thenN ?_ | refine WP.region ?_ | refine WP.seq ?_ | refine WP.block ?_ | refine thenR ?_ | refine thenX ?_ | refine blkN ?_ | refine blkHit ?_ | refine blkR ?_ | refine blkMiss (by rfl) ?_ | refine WP.ret ?_ | refine WP.exit ?_ | refine WP.skip ?_ | refine WP.label ?_ | refine WP.condT (by rfl) ?_ | refine WP.condF (by rfl) ?_ | fail)
      refine ⟨_, ret1 rfl (by rfl), ?_⟩
      exact ⟨congrArg Value.bool (rangeAll_false (i := i) (by omega) e).symm, hc9⟩
    · rename_i heq
      rw [decide_eq_true (Decidable.not_not.1 heq)] at e
      repeat' (first | refine WL.step (o_s (by rfl) ?_) | refine WL.step (o_len (by rfl) ?_) | refine WL.step (o_add (by rfl) (by rfl) (by unfold InI; omega) ?_) | refine WL.step (o_sub (by rfl) (by rfl) (by unfold InI; omega) ?_) | refine WL.step (OpW.pass (by rfl) ?_) | refine WL.nil ?_ | refine thenN ?_ | refine WP.region ?_ | refine WP.seq ?_ | refine WP.block ?_ | refine thenR ?_ | refine thenX ?_ | refine blkN ?_ | refine blkHit ?_ | refine blkR ?_ | refine blkMiss (by rfl) ?_ | refine WP.ret ?_ | refine WP.exit ?_ | refine WP.skip ?_ | refine WP.label ?_ | refine WP.condT (by rfl) ?_ | refine WP.condF (by rfl) ?_ | fail)
      refine ⟨i + 1, ⟨rfl, rfl, rfl, rfl, rfl, (by first | rfl | (show some (Value.int .i64 _) = some (Value.int .i64 _); refine congrArg some (congrArg (Value.int IntKind.i64) ?_); omega)), trivial⟩, ⟨by omega, fun j hj => ?_, hs79⟩, by omega⟩
      by_cases hji : j = i
      · rw [hji]; exact e
      · exact hall j (by omega)
  · rename_i hge2
    have : i = x.2.length := by omega
    subst this
    repeat' (first | refine WL.step (o_s (by rfl) ?_) | refine WL.step (o_len (by rfl) ?_) | refine WL.step (o_add (by rfl) (by rfl) (by unfold InI; omega) ?_) | refine WL.step (o_sub (by rfl) (by rfl) (by unfold InI; omega) ?_) | refine WL.step (OpW.pass (by rfl) ?_) | refine WL.nil ?_ | refine thenN ?_ | refine WP.region ?_ | refine WP.seq ?_ | refine WP.block ?_ | refine thenR ?_ | refine thenX ?_ | refine blkN ?_ | refine blkHit ?_ | refine blkR ?_ | refine blkMiss (by rfl) ?_ | refine WP.ret ?_ | refine WP.exit ?_ | refine WP.skip ?_ | refine WP.label ?_ | refine WP.condT (by rfl) ?_ | refine WP.condF (by rfl) ?_ | fail)
    refine ⟨_, ret1 rfl (by rfl), ?_⟩
    exact ⟨congrArg Value.bool (rangeAll_true hall).symm, hc7⟩
end Go.Proofs
