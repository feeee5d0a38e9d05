/- Alike stages, the reference's. -/
import Derived.Test.YteifmffmadnifaaA22
namespace Go.Proofs
open Go Go.Fw Go.RowKit Go.Rk
/-- What a call gives: a new slice of slices. -/
def _root_.Go.Fw.NewSS (e e2 : TypeId) (w : World) (r : Value) (w' : World) (xss : List (List Int)) : Prop := OwSS e e2 w.heap.size w'.heap.size w' r xss ∧ Below w.heap.size w w'
theorem _root_.Go.Fw.OwSSv.none {e e2 lo : Nat} {w : World} {v : Value} (hown : Own lo e w v []) (h : e ≠ e2) : OwSSv e e2 lo w.heap.size w v [] [] :=
  ⟨hown, fun k hk => (hown.block k hk).2, Nat.le_refl _, rfl, fun i u xs hu => by simp at hu, fun i j u u' _ hu => by simp at hu, h⟩
theorem l10Sums_any {lo hi lo' hi' : Nat} {w : World} {v v' : Value} {x : TabD} {cls : List Int} (h : IT lo hi w v x) (h' : IS lo' hi' w v' cls) (hx : Tab x) (hc : Cls x.2.length cls) :
    Does Try.prog 143 [v, v'] w fun r w' => NewSS 23 2 w r w' (x.1.map fun r => sumsL r cls) := by
  have hz := h.hi_le
  have hz' := h'.hi_le
  obtain ⟨va, vb, rfl, hA, hB⟩ := h
  obtain ⟨aa, ca, hva⟩ := hA.shape
  subst hva
  obtain ⟨ac, cc, hvc⟩ := h'.shape
  subst hvc
  have hm := hx.le8
  have hsq := hx.sq
  have hcl := hc.1
  obtain ⟨res, hres⟩ : ∃ res, (x.1.map fun r => sumsL r cls) = res := ⟨_, rfl⟩
  have hrl : res.length = x.1.length := by rw [← hres]; simp
  rw [hres]
  refine Does.enter Try.func143 Try.ntmps143 rfl (by rfl) ?_
  repeat' (first | refine WL.step (o_s (by rfl) ?_) | refine WL.step (o_len (by rfl) ?_) | refine WL.step (o_add (by rfl) (by rfl) (by unfold InI; omega) ?_) | refine WL.step (o_sub (by rfl) (by rfl) (by unfold InI; omega) ?_) | refine WL.step (OpW.pass (by rfl) ?_) | refine WL.nil ?_ | refine thenN ?_ | refine WP.region ?_ | refine WP.seq ?_ | refine WP.block ?_ | refine thenR ?_ | refine thenX ?_ | refine blkN ?_ | refine blkHit ?_ | refine blkR ?_ | refine blkMiss (by rfl) ?_ | refine WP.ret ?_ | refine WP.exit ?_ | refine WP.skip ?_ | refine WP.label ?_ | refine WP.condT (by rfl) ?_ | refine WP.condF (by rfl) ?_ | fail)
  refine WL.step (o_box (by rfl) ?_)
  intro w1 hb1 hbl1 hz1
  repeat' (first | refine WL.step (o_s (by rfl) ?_) | refine WL.step (o_len (by rfl) ?_) | refine WL.step (o_add (by rfl) (by rfl) (by unfold InI; omega) ?_) | refine WL.step (o_sub (by rfl) (by rfl) (by unfold InI; omega) ?_) | refine WL.step (OpW.pass (by rfl) ?_) | refine WL.nil ?_ | refine thenN ?_ | refine WP.region ?_ | refine WP.seq ?_ | refine WP.block ?_ | refine thenR ?_ | refine thenX ?_ | refine blkN ?_ | refine blkHit ?_ | refine blkR ?_ | refine blkMiss (by rfl) ?_ | refine WP.ret ?_ | refine WP.exit ?_ | refine WP.skip ?_ | refine WP.label ?_ | refine WP.condT (by rfl) ?_ | refine WP.condF (by rfl) ?_ | fail)
  refine WL.step (o_lit (us := []) (by rfl) (by rfl) rfl (by decide) one0 ?_)
  intro v2 w2 hown2 hbl2 hz2 _
  have hbl12 : Below w.heap.size w w2 := hbl1.trans (Below.mono hbl2 (by omega))
  have hC2 := h'.below RI.stable hbl12 hz'
  have hA2 := hA.below IS.stable hbl12 hz
  have hb2 := hb1.below hbl2 (by omega)
  repeat' (first | refine WL.step (o_s (by rfl) ?_) | refine WL.step (o_len (by rfl) ?_) | refine WL.step (o_add (by rfl) (by rfl) (by unfold InI; omega) ?_) | refine WL.step (o_sub (by rfl) (by rfl) (by unfold InI; omega) ?_) | refine WL.step (OpW.pass (by rfl) ?_) | refine WL.nil ?_ | refine thenN ?_ | refine WP.region ?_ | refine WP.seq ?_ | refine WP.block ?_ | refine thenR ?_ | refine thenX ?_ | refine blkN ?_ | refine blkHit ?_ | refine blkR ?_ | refine blkMiss (by rfl) ?_ | refine WP.ret ?_ | refine WP.exit ?_ | refine WP.skip ?_ | refine WP.label ?_ | refine WP.condT (by rfl) ?_ | refine WP.condF (by rfl) ?_ | fail)
  refine WP.loop (fun (s : Nat × Value) => [(1, .slice ac cls.length cc), (2, .pointer (some ⟨w.heap.size, 0, none⟩)), (5, s.2), (6, .int .i64 (s.1 : Nat))])
    (fun s w3 => s.1 ≤ cls.length ∧ (∃ vs, OwSSv 23 2 w1.heap.size w3.heap.size w3 s.2 vs (res.take s.1)) ∧ Below w1.heap.size w2 w3)
    (fun s => cls.length - s.1) (0, v2) ⟨rfl, rfl, rfl, rfl, trivial⟩ ⟨by dsimp only; omega, ⟨[], by simpa using OwSSv.none hown2 (by decide)⟩, Below.refl _ _⟩ ?_
  rintro ⟨i, vo⟩ w3 ⟨hi1, ⟨vs, oA⟩, hbl3⟩
  dsimp only at hi1 oA ⊢
  have hz3 := hbl3.size
  repeat' (first | refine WL.step (o_s (by rfl) ?_) | refine WL.step (o_len (by rfl) ?_) | refine WL.step (o_add (by rfl) (by rfl) (by unfold InI; omega) ?_) | refine WL.step (o_sub (by rfl) (by rfl) (by unfold InI; omega) ?_) | refine WL.step (OpW.pass (by rfl) ?_) | refine WL.nil ?_ | refine thenN ?_ | refine WP.region ?_ | refine WP.seq ?_ | refine WP.block ?_ | refine thenR ?_ | refine thenX ?_ | refine blkN ?_ | refine blkHit ?_ | refine blkR ?_ | refine blkMiss (by rfl) ?_ | refine WP.ret ?_ | refine WP.exit ?_ | refine WP.skip ?_ | refine WP.label ?_ | refine WP.condT (by rfl) ?_ | refine WP.condF (by rfl) ?_ | fail)
  first | refine WP.condD (by rfl) (fun _ => ?_) (fun _ => ?_) | refine WP.condND (by rfl) (fun _ => ?_) (fun _ => ?_) | refine WP.condN (by rfl) (fun _ => ?_) (fun _ => ?_) | refine WP.cond (by rfl) (fun _ => ?_) (fun _ => ?_) | fail
  · rename_i hlt
    have hli : i < cls.length := by omega
    have hlia : i < x.1.length := by omega
    have hrow := hx.row _ (List.getElem_mem hlia)
    have hC3 := hC2.below RI.stable hbl3 (by omega)
    have hA3 := hA2.below IS.stable hbl3 (by omega)
    have hb3 := hb2.below hbl3 (by omega)
    repeat' (first | refine WL.step (o_s (by rfl) ?_) | refine WL.step (o_len (by rfl) ?_) | refine WL.step (o_add (by rfl) (by rfl) (by unfold InI; omega) ?_) | refine WL.step (o_sub (by rfl) (by rfl) (by unfold InI; omega) ?_) | refine WL.step (OpW.pass (by rfl) ?_) | refine WL.nil ?_ | refine thenN ?_ | refine WP.region ?_ | refine WP.seq ?_ | refine WP.block ?_ | refine thenR ?_ | refine thenX ?_ | refine blkN ?_ | refine blkHit ?_ | refine blkR ?_ | refine blkMiss (by rfl) ?_ | refine WP.ret ?_ | refine WP.exit ?_ | refine WP.skip ?_ | refine WP.label ?_ | refine WP.condT (by rfl) ?_ | refine WP.condF (by rfl) ?_ | fail)
    refine WL.step (o_make (n := cls.length) (by rfl) (by rfl) (by omega) (by unfold maxLen; omega) ?_)
    intro v4 w4 hown4 hbl4 hz4
    have e0 : List.replicate cls.length (Value.int .i64 0) = Ints (List.replicate cls.length 0) := by simp [Ints]
    rw [e0] at hown4
    repeat' (first | refine WL.step (o_s (by rfl) ?_) | refine WL.step (o_len (by rfl) ?_) | refine WL.step (o_add (by rfl) (by rfl) (by unfold InI; omega) ?_) | refine WL.step (o_sub (by rfl) (by rfl) (by unfold InI; omega) ?_) | refine WL.step (OpW.pass (by rfl) ?_) | refine WL.nil ?_ | refine thenN ?_ | refine WP.region ?_ | refine WP.seq ?_ | refine WP.block ?_ | refine thenR ?_ | refine thenX ?_ | refine blkN ?_ | refine blkHit ?_ | refine blkR ?_ | refine blkMiss (by rfl) ?_ | refine WP.ret ?_ | refine WP.exit ?_ | refine WP.skip ?_ | refine WP.label ?_ | refine WP.condT (by rfl) ?_ | refine WP.condF (by rfl) ?_ | fail)
    refine WP.loop (fun (s : Nat × List Int) => [(1, .slice ac cls.length cc), (2, .pointer (some ⟨w.heap.size, 0, none⟩)), (5, vo), (6, .int .i64 (i : Nat)), (7, v4), (8, .int .i64 (s.1 : Nat))])
      (fun s w5 => s.1 ≤ cls.length ∧ s.2.length = cls.length ∧ allN s.2 = true ∧ sumsL x.1[i] cls = csGo s.2 (x.1[i].drop s.1) (cls.drop s.1) ∧ Own w3.heap.size 2 w5 v4 (Ints s.2) ∧ Below w3.heap.size w3 w5)
      (fun s => cls.length - s.1) (0, List.replicate cls.length 0) ⟨rfl, rfl, rfl, rfl, rfl, rfl, trivial⟩ ⟨by dsimp only; omega, by simp, allN_zeros _, rfl, hown4, hbl4⟩ ?_
    rintro ⟨k, out⟩ w5 ⟨hk, hol, hon, heq, hown5, hb5⟩
    dsimp only at hk hol hon heq hown5 ⊢
    have hz5 := hb5.size
    repeat' (first | refine WL.step (o_s (by rfl) ?_) | refine WL.step (o_len (by rfl) ?_) | refine WL.step (o_add (by rfl) (by rfl) (by unfold InI; omega) ?_) | refine WL.step (o_sub (by rfl) (by rfl) (by unfold InI; omega) ?_) | refine WL.step (OpW.pass (by rfl) ?_) | refine WL.nil ?_ | refine thenN ?_ | refine WP.region ?_ | refine WP.seq ?_ | refine WP.block ?_ | refine thenR ?_ | refine thenX ?_ | refine blkN ?_ | refine blkHit ?_ | refine blkR ?_ | refine blkMiss (by rfl) ?_ | refine WP.ret ?_ | refine WP.exit ?_ | refine WP.skip ?_ | refine WP.label ?_ | refine WP.condT (by rfl) ?_ | refine WP.condF (by rfl) ?_ | fail)
    first | refine WP.condD (by rfl) (fun _ => ?_) (fun _ => ?_) | refine WP.condND (by rfl) (fun _ => ?_) (fun _ => ?_) | refine WP.condN (by rfl) (fun _ => ?_) (fun _ => ?_) | refine WP.cond (by rfl) (fun _ => ?_) (fun _ => ?_) | fail
    · rename_i hltk
      have hlc : k < cls.length := by omega
      have hlr : k < x.1[i].length := by have := hrow.1; omega
      have hcb := hc.get hlc
      have hlo : cls[k].toNat < out.length := by omega
      have hrb := allN_get hrow.2 hlr
      have hob := allN_get hon hlo
      rw [csGo_drop hlr hlc, List.getElem?_eq_getElem hlo, Option.getD_some] at heq
      repeat' (first | refine WL.step (o_s (by rfl) ?_) | refine WL.step (o_len (by rfl) ?_) | refine WL.step (o_add (by rfl) (by rfl) (by unfold InI; omega) ?_) | refine WL.step (o_sub (by rfl) (by rfl) (by unfold InI; omega) ?_) | refine WL.step (OpW.pass (by rfl) ?_) | refine WL.nil ?_ | refine thenN ?_ | refine WP.region ?_ | refine WP.seq ?_ | refine WP.block ?_ | refine thenR ?_ | refine thenX ?_ | refine blkN ?_ | refine blkHit ?_ | refine blkR ?_ | refine blkMiss (by rfl) ?_ | refine WP.ret ?_ | refine WP.exit ?_ | refine WP.skip ?_ | refine WP.label ?_ | refine WP.condT (by rfl) ?_ | refine WP.condF (by rfl) ?_ | fail)
      refine WP.drawn (fun w' => w'.heap = w5.heap) [(0, true), (1, true), (2, true), (3, true), (4, true), (5, true), (6, true), (7, true), (8, true), (9, true), (10, true), (11, true), (12, true), (13, true), (14, true), (15, true), (16, true), (17, true), (18, true), (19, true), (20, false), (21, true), (1022, false)] (by kernel_rfl) mixed ?_
      intro w6 hs6
      have hw6 : w6.heap = w5.heap := hs6.heap
      have hC6 := (hC3.below RI.stable hb5 (by omega)).still RI.stable hs6
      have hA6 := (hA3.below IS.stable hb5 (by omega)).still IS.stable hs6
      have hb6 := (hb3.below hb5 (by omega)).still hs6
      have hown6 := hown5.still hs6
      repeat' (first | refine WS.q rfl (q_s (by rfl)) (by first | rfl | assumption) ?_ | refine WS.q rfl (q_len (by rfl)) (by first | rfl | assumption) ?_ | refine WS.q rfl (q_add (by rfl) (by rfl) (by unfold InI; omega)) (by first | rfl | assumption) ?_ | refine WS.q rfl (q_sub (by rfl) (by rfl) (by unfold InI; omega)) (by first | rfl | assumption) ?_ | refine WS.q rfl (q_pass (by rfl)) (by first | rfl | assumption) ?_ | refine WS.nil ?_ | fail)
      refine WS.ixload rfl rfl hC6 (List.getElem?_eq_getElem hlc) (fun w' hw' => same_heap (hw'.trans hw6.symm)) hw6 ?_
      rintro p2 _ rfl
      repeat' (first | refine WS.q rfl (q_s (by rfl)) (by first | rfl | assumption) ?_ | refine WS.q rfl (q_len (by rfl)) (by first | rfl | assumption) ?_ | refine WS.q rfl (q_add (by rfl) (by rfl) (by unfold InI; omega)) (by first | rfl | assumption) ?_ | refine WS.q rfl (q_sub (by rfl) (by rfl) (by unfold InI; omega)) (by first | rfl | assumption) ?_ | refine WS.q rfl (q_pass (by rfl)) (by first | rfl | assumption) ?_ | refine WS.nil ?_ | fail)
      refine WS.ixload rfl rfl hC6 (List.getElem?_eq_getElem hlc) (fun w' hw' => same_heap (hw'.trans hw6.symm)) hw6 ?_
      rintro p3 _ rfl
      refine WS.ixload (j := cls[k].toNat) rfl rfl (Own.is hown6) (List.getElem?_eq_getElem hlo) (fun w' hw' => same_heap (hw'.trans hw6.symm)) hw6 ?_
      rintro p4 _ rfl
      refine WS.fld rfl rfl (fun w' h => hb6.keep (by rw [h, hw6])) hw6 ?_
      intro p5
      repeat' (first | refine WS.q rfl (q_s (by rfl)) (by first | rfl | assumption) ?_ | refine WS.q rfl (q_len (by rfl)) (by first | rfl | assumption) ?_ | refine WS.q rfl (q_add (by rfl) (by rfl) (by unfold InI; omega)) (by first | rfl | assumption) ?_ | refine WS.q rfl (q_sub (by rfl) (by rfl) (by unfold InI; omega)) (by first | rfl | assumption) ?_ | refine WS.q rfl (q_pass (by rfl)) (by first | rfl | assumption) ?_ | refine WS.nil ?_ | fail)
      refine WS.ixload rfl rfl hA6 (List.getElem?_eq_getElem hlia) (fun w' hw' => same_heap (hw'.trans hw6.symm)) hw6 ?_
      intro p6 u hu
      repeat' (first | refine WS.q rfl (q_s (by rfl)) (by first | rfl | assumption) ?_ | refine WS.q rfl (q_len (by rfl)) (by first | rfl | assumption) ?_ | refine WS.q rfl (q_add (by rfl) (by rfl) (by unfold InI; omega)) (by first | rfl | assumption) ?_ | refine WS.q rfl (q_sub (by rfl) (by rfl) (by unfold InI; omega)) (by first | rfl | assumption) ?_ | refine WS.q rfl (q_pass (by rfl)) (by first | rfl | assumption) ?_ | refine WS.nil ?_ | fail)
      refine WS.ixload rfl rfl hu (List.getElem?_eq_getElem hlr) (fun w' hw' => same_heap (hw'.trans hw6.symm)) hw6 ?_
      rintro p7 _ rfl
      refine WS.call rfl (l01Add_any out[cls[k].toNat] x.1[i][k] _ (by unfold InI; omega)) ?_
      rintro _ _ ⟨rfl, rfl⟩
      refine ⟨hw6, ?_⟩
      refine WS.ixstore (j := cls[k].toNat) rfl rfl hw6 hown6 (by rw [Ints_length]; exact hlo) ?_
      intro p8 w7 hown7 hbl7 hz7 _
      rw [Ints_set] at hown7
      refine WS.nil ?_
      repeat' (first | refine WL.step (o_s (by rfl) ?_) | refine WL.step (o_len (by rfl) ?_) | refine WL.step (o_add (by rfl) (by rfl) (by unfold InI; omega) ?_) | refine WL.step (o_sub (by rfl) (by rfl) (by unfold InI; omega) ?_) | refine WL.step (OpW.pass (by rfl) ?_) | refine WL.nil ?_ | refine thenN ?_ | refine WP.region ?_ | refine WP.seq ?_ | refine WP.block ?_ | refine thenR ?_ | refine thenX ?_ | refine blkN ?_ | refine blkHit ?_ | refine blkR ?_ | refine blkMiss (by rfl) ?_ | refine WP.ret ?_ | refine WP.exit ?_ | refine WP.skip ?_ | refine WP.label ?_ | refine WP.condT (by rfl) ?_ | refine WP.condF (by rfl) ?_ | fail)
      exact ⟨(k + 1, out.set cls[k].toNat (nm (out[cls[k].toNat] + x.1[i][k]))), ⟨rfl, rfl, rfl, rfl, rfl, (by first | rfl | (show some (Value.int .i64 _) = some (Value.int .i64 _); refine congrArg some (congrArg (Value.int IntKind.i64) ?_); omega)), trivial⟩, ⟨by dsimp only; omega, by rw [List.length_set]; exact hol, allN_set hon _ _ (nm_isN _), heq, hown7, (hb5.trans (hs6.below _)).trans hbl7⟩, by dsimp only; omega⟩
    · rename_i hge
      rw [csGo_end (by omega)] at heq
      have oA5 := oA.chg (Chg.of_below hb5) (by omega)
      have hvl : vs.length = i := by rw [oA.len, List.length_take]; omega
      obtain ⟨a5, c5, hv5, _⟩ := hown5.shape
      repeat' (first | refine WL.step (o_s (by rfl) ?_) | refine WL.step (o_len (by rfl) ?_) | refine WL.step (o_add (by rfl) (by rfl) (by unfold InI; omega) ?_) | refine WL.step (o_sub (by rfl) (by rfl) (by unfold InI; omega) ?_) | refine WL.step (OpW.pass (by rfl) ?_) | refine WL.nil ?_ | refine thenN ?_ | refine WP.region ?_ | refine WP.seq ?_ | refine WP.block ?_ | refine thenR ?_ | refine thenX ?_ | refine blkN ?_ | refine blkHit ?_ | refine blkR ?_ | refine blkMiss (by rfl) ?_ | refine WP.ret ?_ | refine WP.exit ?_ | refine WP.skip ?_ | refine WP.label ?_ | refine WP.condT (by rfl) ?_ | refine WP.condF (by rfl) ?_ | fail)
      refine o_append1 (u := v4) (fun _ => by rfl) (by rfl) oA5.own (by rw [hv5]; rfl) (by simp [hvl, maxLen]; omega) (by simp [hvl]; omega) (by omega) ?_
      intro p9 v8 w8 hown8 hbl8 hf8 hz8 _
      have sn := oA5.snoc (⟨hown5, fun k hk => (hown5.block k hk).2, Nat.le_refl _⟩ : OwI _ _ _ _ _ _) (Nat.le_refl _) (by omega) hown8 (by omega) hf8
      repeat' (first | refine WL.step (o_s (by rfl) ?_) | refine WL.step (o_len (by rfl) ?_) | refine WL.step (o_add (by rfl) (by rfl) (by unfold InI; omega) ?_) | refine WL.step (o_sub (by rfl) (by rfl) (by unfold InI; omega) ?_) | refine WL.step (OpW.pass (by rfl) ?_) | refine WL.nil ?_ | refine thenN ?_ | refine WP.region ?_ | refine WP.seq ?_ | refine WP.block ?_ | refine thenR ?_ | refine thenX ?_ | refine blkN ?_ | refine blkHit ?_ | refine blkR ?_ | refine blkMiss (by rfl) ?_ | refine WP.ret ?_ | refine WP.exit ?_ | refine WP.skip ?_ | refine WP.label ?_ | refine WP.condT (by rfl) ?_ | refine WP.condF (by rfl) ?_ | fail)
      refine ⟨(i + 1, v8), ⟨rfl, rfl, rfl, (by first | rfl | (show some (Value.int .i64 _) = some (Value.int .i64 _); refine congrArg some (congrArg (Value.int IntKind.i64) ?_); omega)), trivial⟩, ⟨by dsimp only; omega, ⟨vs ++ [v4], ?_⟩, (hbl3.trans (Below.mono hb5 (by omega))).trans hbl8⟩, by dsimp only; omega⟩
      have e : res.take (i + 1) = res.take i ++ [out] := take_snoc (by omega) (by subst hres; rw [List.getElem_map]; exact heq)
      dsimp only
      rw [e]
      exact sn
  · rename_i hge
    have hie : i = cls.length := by omega
    subst hie
    rw [List.take_of_length_le (by omega)] at oA
    repeat' (first | refine WL.step (o_s (by rfl) ?_) | refine WL.step (o_len (by rfl) ?_) | refine WL.step (o_add (by rfl) (by rfl) (by unfold InI; omega) ?_) | refine WL.step (o_sub (by rfl) (by rfl) (by unfold InI; omega) ?_) | refine WL.step (OpW.pass (by rfl) ?_) | refine WL.nil ?_ | refine thenN ?_ | refine WP.region ?_ | refine WP.seq ?_ | refine WP.block ?_ | refine thenR ?_ | refine thenX ?_ | refine blkN ?_ | refine blkHit ?_ | refine blkR ?_ | refine blkMiss (by rfl) ?_ | refine WP.ret ?_ | refine WP.exit ?_ | refine WP.skip ?_ | refine WP.label ?_ | refine WP.condT (by rfl) ?_ | refine WP.condF (by rfl) ?_ | fail)
    refine ⟨_, ret1 rfl (by rfl), ?_⟩
    exact ⟨⟨vs, oA.wide (by omega) (Nat.le_refl _) (Nat.le_refl _)⟩, hbl12.trans (Below.mono hbl3 (by omega))⟩
theorem l10Alike_any {lo hi : Nat} {w : World} {v : Value} {x : TabD} (h : IT lo hi w v x) (hx : Tab x) :
    Does Try.prog 142 [v] w fun r w' => NewI w r w' (alikeL x) := by
  have hz := h.hi_le
  obtain ⟨va, vb, rfl, hA, hB⟩ := h
  obtain ⟨ab, cb, hvb⟩ := hB.shape
  subst hvb
  have hT : IT lo hi w (.agg #[va, .slice ab x.2.length cb]) x := ⟨_, _, rfl, hA, hB⟩
  have hm := hx.le8
  have hp := hx.pos
  have hsq := hx.sq
  refine Does.enter Try.func142 Try.ntmps142 rfl (by rfl) ?_
  repeat' (first | refine WL.step (o_s (by rfl) ?_) | refine WL.step (o_len (by rfl) ?_) | refine WL.step (o_add (by rfl) (by rfl) (by unfold InI; omega) ?_) | refine WL.step (o_sub (by rfl) (by rfl) (by unfold InI; omega) ?_) | refine WL.step (OpW.pass (by rfl) ?_) | refine WL.nil ?_ | refine thenN ?_ | refine WP.region ?_ | refine WP.seq ?_ | refine WP.block ?_ | refine thenR ?_ | refine thenX ?_ | refine blkN ?_ | refine blkHit ?_ | refine blkR ?_ | refine blkMiss (by rfl) ?_ | refine WP.ret ?_ | refine WP.exit ?_ | refine WP.skip ?_ | refine WP.label ?_ | refine WP.condT (by rfl) ?_ | refine WP.condF (by rfl) ?_ | fail)
  refine WL.step (o_box (by rfl) ?_)
  intro w1 hb1 hbl1 hz1
  replace hT := hT.below hbl1 hz
  repeat' (first | refine WL.step (o_s (by rfl) ?_) | refine WL.step (o_len (by rfl) ?_) | refine WL.step (o_add (by rfl) (by rfl) (by unfold InI; omega) ?_) | refine WL.step (o_sub (by rfl) (by rfl) (by unfold InI; omega) ?_) | refine WL.step (OpW.pass (by rfl) ?_) | refine WL.nil ?_ | refine thenN ?_ | refine WP.region ?_ | refine WP.seq ?_ | refine WP.block ?_ | refine thenR ?_ | refine thenX ?_ | refine blkN ?_ | refine blkHit ?_ | refine blkR ?_ | refine blkMiss (by rfl) ?_ | refine WP.ret ?_ | refine WP.exit ?_ | refine WP.skip ?_ | refine WP.label ?_ | refine WP.condT (by rfl) ?_ | refine WP.condF (by rfl) ?_ | fail)
  refine WL.fld hb1 ?_
  intro p0
  repeat' (first | refine WL.step (o_s (by rfl) ?_) | refine WL.step (o_len (by rfl) ?_) | refine WL.step (o_add (by rfl) (by rfl) (by unfold InI; omega) ?_) | refine WL.step (o_sub (by rfl) (by rfl) (by unfold InI; omega) ?_) | refine WL.step (OpW.pass (by rfl) ?_) | refine WL.nil ?_ | refine thenN ?_ | refine WP.region ?_ | refine WP.seq ?_ | refine WP.block ?_ | refine thenR ?_ | refine thenX ?_ | refine blkN ?_ | refine blkHit ?_ | refine blkR ?_ | refine blkMiss (by rfl) ?_ | refine WP.ret ?_ | refine WP.exit ?_ | refine WP.skip ?_ | refine WP.label ?_ | refine WP.condT (by rfl) ?_ | refine WP.condF (by rfl) ?_ | fail)
  refine WL.step (o_make (n := x.2.length) (by rfl) (by rfl) (by omega) (by unfold maxLen; omega) ?_)
  intro v2 w2 hown2 hbl2 hz2
  have e0 : List.replicate x.2.length (Value.int .i64 0) = Ints (List.replicate x.2.length 0) := by simp [Ints]
  rw [e0] at hown2
  repeat' (first | refine WL.step (o_s (by rfl) ?_) | refine WL.step (o_len (by rfl) ?_) | refine WL.step (o_add (by rfl) (by rfl) (by unfold InI; omega) ?_) | refine WL.step (o_sub (by rfl) (by rfl) (by unfold InI; omega) ?_) | refine WL.step (OpW.pass (by rfl) ?_) | refine WL.nil ?_ | refine thenN ?_ | refine WP.region ?_ | refine WP.seq ?_ | refine WP.block ?_ | refine thenR ?_ | refine thenX ?_ | refine blkN ?_ | refine blkHit ?_ | refine blkR ?_ | refine blkMiss (by rfl) ?_ | refine WP.ret ?_ | refine WP.exit ?_ | refine WP.skip ?_ | refine WP.label ?_ | refine WP.condT (by rfl) ?_ | refine WP.condF (by rfl) ?_ | fail)
  refine WP.loop (fun (s : List Int × Value × Nat) => [(1, .pointer (some ⟨w.heap.size, 0, none⟩)), (3, s.2.1), (4, .int .i64 (s.2.2 : Nat))])
    (fun s w3 => Cls x.2.length s.1 ∧ s.2.2 ≤ x.2.length ∧ alikeL x = itN x.1 s.1 (x.2.length - s.2.2) ∧ Own w1.heap.size 2 w3 s.2.1 (Ints s.1) ∧ Below w1.heap.size w1 w3)
    (fun s => x.2.length - s.2.2) (List.replicate x.2.length 0, v2, 0) ⟨rfl, rfl, rfl, trivial⟩ ⟨cls_zero _, by dsimp only; omega, rfl, hown2, hbl2⟩ ?_
  rintro ⟨cls, vc, t⟩ w3 ⟨hcls, ht, hal, hown3, hbl3⟩
  dsimp only at hcls ht hal hown3 ⊢
  have hz3 := hbl3.size
  have hcl := hcls.1
  have hC3 := Own.is hown3
  obtain ⟨ac, cc, hvc⟩ := hC3.shape
  subst hvc
  have hb3 := hb1.below hbl3 (by omega)
  have hT3 := hT.below hbl3 (by omega)
  repeat' (first | refine WL.step (o_s (by rfl) ?_) | refine WL.step (o_len (by rfl) ?_) | refine WL.step (o_add (by rfl) (by rfl) (by unfold InI; omega) ?_) | refine WL.step (o_sub (by rfl) (by rfl) (by unfold InI; omega) ?_) | refine WL.step (OpW.pass (by rfl) ?_) | refine WL.nil ?_ | refine thenN ?_ | refine WP.region ?_ | refine WP.seq ?_ | refine WP.block ?_ | refine thenR ?_ | refine thenX ?_ | refine blkN ?_ | refine blkHit ?_ | refine blkR ?_ | refine blkMiss (by rfl) ?_ | refine WP.ret ?_ | refine WP.exit ?_ | refine WP.skip ?_ | refine WP.label ?_ | refine WP.condT (by rfl) ?_ | refine WP.condF (by rfl) ?_ | fail)
  refine WL.fld hb3 ?_
  intro p1
  repeat' (first | refine WL.step (o_s (by rfl) ?_) | refine WL.step (o_len (by rfl) ?_) | refine WL.step (o_add (by rfl) (by rfl) (by unfold InI; omega) ?_) | refine WL.step (o_sub (by rfl) (by rfl) (by unfold InI; omega) ?_) | refine WL.step (OpW.pass (by rfl) ?_) | refine WL.nil ?_ | refine thenN ?_ | refine WP.region ?_ | refine WP.seq ?_ | refine WP.block ?_ | refine thenR ?_ | refine thenX ?_ | refine blkN ?_ | refine blkHit ?_ | refine blkR ?_ | refine blkMiss (by rfl) ?_ | refine WP.ret ?_ | refine WP.exit ?_ | refine WP.skip ?_ | refine WP.label ?_ | refine WP.condT (by rfl) ?_ | refine WP.condF (by rfl) ?_ | fail)
  first | refine WP.condD (by rfl) (fun _ => ?_) (fun _ => ?_) | refine WP.condND (by rfl) (fun _ => ?_) (fun _ => ?_) | refine WP.condN (by rfl) (fun _ => ?_) (fun _ => ?_) | refine WP.cond (by rfl) (fun _ => ?_) (fun _ => ?_) | fail
  · rename_i hltt
    repeat' (first | refine WL.step (o_s (by rfl) ?_) | refine WL.step (o_len (by rfl) ?_) | refine WL.step (o_add (by rfl) (by rfl) (by unfold InI; omega) ?_) | refine WL.step (o_sub (by rfl) (by rfl) (by unfold InI; omega) ?_) | refine WL.step (OpW.pass (by rfl) ?_) | refine WL.nil ?_ | refine thenN ?_ | refine WP.region ?_ | refine WP.seq ?_ | refine WP.block ?_ | refine thenR ?_ | refine thenX ?_ | refine blkN ?_ | refine blkHit ?_ | refine blkR ?_ | refine blkMiss (by rfl) ?_ | refine WP.ret ?_ | refine WP.exit ?_ | refine WP.skip ?_ | refine WP.label ?_ | refine WP.condT (by rfl) ?_ | refine WP.condF (by rfl) ?_ | fail)
    refine WL.step (o_loadS (by rfl) hb3 (by rfl) ?_)
    repeat' (first | refine WL.step (o_s (by rfl) ?_) | refine WL.step (o_len (by rfl) ?_) | refine WL.step (o_add (by rfl) (by rfl) (by unfold InI; omega) ?_) | refine WL.step (o_sub (by rfl) (by rfl) (by unfold InI; omega) ?_) | refine WL.step (OpW.pass (by rfl) ?_) | refine WL.nil ?_ | refine thenN ?_ | refine WP.region ?_ | refine WP.seq ?_ | refine WP.block ?_ | refine thenR ?_ | refine thenX ?_ | refine blkN ?_ | refine blkHit ?_ | refine blkR ?_ | refine blkMiss (by rfl) ?_ | refine WP.ret ?_ | refine WP.exit ?_ | refine WP.skip ?_ | refine WP.label ?_ | refine WP.condT (by rfl) ?_ | refine WP.condF (by rfl) ?_ | fail)
    refine WL.call (l10Sums_any hT3 hC3 hx hcls) ?_
    rintro v4 w4 ⟨oS, hbl4⟩
    have hz4 := hbl4.size
    obtain ⟨sa, cs', hvs⟩ := oS.rd.shape
    subst hvs
    refine WL.step (o_lit (us := []) (by rfl) (by rfl) rfl (by decide) one0 ?_)
    intro v5 w5 hown5 hbl5 hz5 _
    repeat' (first | refine WL.step (o_s (by rfl) ?_) | refine WL.step (o_len (by rfl) ?_) | refine WL.step (o_add (by rfl) (by rfl) (by unfold InI; omega) ?_) | refine WL.step (o_sub (by rfl) (by rfl) (by unfold InI; omega) ?_) | refine WL.step (OpW.pass (by rfl) ?_) | refine WL.nil ?_ | refine thenN ?_ | refine WP.region ?_ | refine WP.seq ?_ | refine WP.block ?_ | refine thenR ?_ | refine thenX ?_ | refine blkN ?_ | refine blkHit ?_ | refine blkR ?_ | refine blkMiss (by rfl) ?_ | refine WP.ret ?_ | refine WP.exit ?_ | refine WP.skip ?_ | refine WP.label ?_ | refine WP.condT (by rfl) ?_ | refine WP.condF (by rfl) ?_ | fail)
    have hS5 := (oS.chg (Chg.of_below hbl5) (by omega)).rd
    have hbl35 : Below w3.heap.size w3 w5 := hbl4.trans (Below.mono hbl5 (by omega))
    have hC5 := hC3.below RI.stable hbl35 (Nat.le_refl _)
    have hrl := refineL_length x.1 cls
    obtain ⟨nx, hnx⟩ : ∃ nx, refineL x.1 cls = nx := ⟨_, rfl⟩
    obtain ⟨sm, hsm⟩ : ∃ sm, (x.1.map fun r => sumsL r cls) = sm := ⟨_, rfl⟩
    have hsml : sm.length = x.1.length := by rw [← hsm]; simp
    rw [hnx] at hrl
    rw [hsm] at hS5 ⊢
    refine WP.loop (fun (s : Nat × Value) => [(1, .pointer (some ⟨w.heap.size, 0, none⟩)), (3, .slice ac cls.length cc), (4, .int .i64 (t : Nat)), (5, .slice sa sm.length cs'), (6, s.2), (7, .int .i64 (s.1 : Nat))])
      (fun s w6 => s.1 ≤ cls.length ∧ Own w4.heap.size 2 w6 s.2 (Ints (nx.take s.1)) ∧ Below w4.heap.size w5 w6)
      (fun s => cls.length - s.1) (0, v5) ⟨rfl, rfl, rfl, rfl, rfl, rfl, trivial⟩ ⟨by dsimp only; omega, by simpa [Ints] using hown5, Below.refl _ _⟩ ?_
    rintro ⟨i, vn⟩ w6 ⟨hi1, hown6, hbl6⟩
    dsimp only at hi1 hown6 ⊢
    have hz6 := hbl6.size
    repeat' (first | refine WL.step (o_s (by rfl) ?_) | refine WL.step (o_len (by rfl) ?_) | refine WL.step (o_add (by rfl) (by rfl) (by unfold InI; omega) ?_) | refine WL.step (o_sub (by rfl) (by rfl) (by unfold InI; omega) ?_) | refine WL.step (OpW.pass (by rfl) ?_) | refine WL.nil ?_ | refine thenN ?_ | refine WP.region ?_ | refine WP.seq ?_ | refine WP.block ?_ | refine thenR ?_ | refine thenX ?_ | refine blkN ?_ | refine blkHit ?_ | refine blkR ?_ | refine blkMiss (by rfl) ?_ | refine WP.ret ?_ | refine WP.exit ?_ | refine WP.skip ?_ | refine WP.label ?_ | refine WP.condT (by rfl) ?_ | refine WP.condF (by rfl) ?_ | fail)
    first | refine WP.condD (by rfl) (fun _ => ?_) (fun _ => ?_) | refine WP.condND (by rfl) (fun _ => ?_) (fun _ => ?_) | refine WP.condN (by rfl) (fun _ => ?_) (fun _ => ?_) | refine WP.cond (by rfl) (fun _ => ?_) (fun _ => ?_) | fail
    · rename_i hlt
      have hli : i < cls.length := by omega
      have hlia : i < x.1.length := by omega
      have hC6 := hC5.below RI.stable hbl6 (by omega)
      have hS6 := hS5.below IS.stable hbl6 (by omega)
      repeat' (first | refine WL.step (o_s (by rfl) ?_) | refine WL.step (o_len (by rfl) ?_) | refine WL.step (o_add (by rfl) (by rfl) (by unfold InI; omega) ?_) | refine WL.step (o_sub (by rfl) (by rfl) (by unfold InI; omega) ?_) | refine WL.step (OpW.pass (by rfl) ?_) | refine WL.nil ?_ | refine thenN ?_ | refine WP.region ?_ | refine WP.seq ?_ | refine WP.block ?_ | refine thenR ?_ | refine thenX ?_ | refine blkN ?_ | refine blkHit ?_ | refine blkR ?_ | refine blkMiss (by rfl) ?_ | refine WP.ret ?_ | refine WP.exit ?_ | refine WP.skip ?_ | refine WP.label ?_ | refine WP.condT (by rfl) ?_ | refine WP.condF (by rfl) ?_ | fail)
      refine WP.loop (fun (s : Nat × Nat) => [(1, .pointer (some ⟨w.heap.size, 0, none⟩)), (3, .slice ac cls.length cc), (4, .int .i64 (t : Nat)), (5, .slice sa sm.length cs'), (6, vn), (7, .int .i64 (i : Nat)), (8, .int .i64 (s.2 : Nat)), (9, .int .i64 ((s.1 : Nat) - 1))])
        (fun s w7 => s.1 ≤ i ∧ s.1 ≤ s.2 ∧ s.2 ≤ i ∧ matchC x.1 cls s.2 i = true ∧ (∀ j, s.1 ≤ j → j < s.2 → matchC x.1 cls j i = false) ∧ Still w6 w7)
        (fun s => s.1) (i, i) ⟨rfl, rfl, rfl, rfl, rfl, rfl, rfl, rfl, trivial⟩ ⟨Nat.le_refl _, Nat.le_refl _, Nat.le_refl _, matchC_self _ _ _, fun j h1 h2 => by dsimp only at h1 h2; omega, Still.refl _⟩ ?_
      rintro ⟨m, q⟩ w7 ⟨hm1, hm2, hm3, hmt, hnom, hs7⟩
      dsimp only at hm1 hm2 hm3 hmt hnom ⊢
      repeat' (first | refine WL.step (o_s (by rfl) ?_) | refine WL.step (o_len (by rfl) ?_) | refine WL.step (o_add (by rfl) (by rfl) (by unfold InI; omega) ?_) | refine WL.step (o_sub (by rfl) (by rfl) (by unfold InI; omega) ?_) | refine WL.step (OpW.pass (by rfl) ?_) | refine WL.nil ?_ | refine thenN ?_ | refine WP.region ?_ | refine WP.seq ?_ | refine WP.block ?_ | refine thenR ?_ | refine thenX ?_ | refine blkN ?_ | refine blkHit ?_ | refine blkR ?_ | refine blkMiss (by rfl) ?_ | refine WP.ret ?_ | refine WP.exit ?_ | refine WP.skip ?_ | refine WP.label ?_ | refine WP.condT (by rfl) ?_ | refine WP.condF (by rfl) ?_ | fail)
      first | refine WP.condD (by rfl) (fun _ => ?_) (fun _ => ?_) | refine WP.condND (by rfl) (fun _ => ?_) (fun _ => ?_) | refine WP.condN (by rfl) (fun _ => ?_) (fun _ => ?_) | refine WP.cond (by rfl) (fun _ => ?_) (fun _ => ?_) | fail
      · rename_i hge0
        have hmpos : 1 ≤ m := by omega
        have hlk : m - 1 < cls.length := by omega
        have hlka : m - 1 < x.1.length := by omega
        have hmk := matchC_eq hlka hlia hlk hli
        have hks : sm[m - 1]'(by omega) = sumsL x.1[m - 1] cls := by subst hsm; rw [List.getElem_map]
        have his : sm[i]'(by omega) = sumsL x.1[i] cls := by subst hsm; rw [List.getElem_map]
        rw [← hks, ← his] at hmk
        repeat' (first | refine WL.step (o_s (by rfl) ?_) | refine WL.step (o_len (by rfl) ?_) | refine WL.step (o_add (by rfl) (by rfl) (by unfold InI; omega) ?_) | refine WL.step (o_sub (by rfl) (by rfl) (by unfold InI; omega) ?_) | refine WL.step (OpW.pass (by rfl) ?_) | refine WL.nil ?_ | refine thenN ?_ | refine WP.region ?_ | refine WP.seq ?_ | refine WP.block ?_ | refine thenR ?_ | refine thenX ?_ | refine blkN ?_ | refine blkHit ?_ | refine blkR ?_ | refine blkMiss (by rfl) ?_ | refine WP.ret ?_ | refine WP.exit ?_ | refine WP.skip ?_ | refine WP.label ?_ | refine WP.condT (by rfl) ?_ | refine WP.condF (by rfl) ?_ | fail)
        refine WP.drawn (fun w' => w'.heap = w7.heap) [(0, true), (1, true), (2, true), (3, true), (4, true), (5, true), (6, true), (7, true), (8, true), (9, true), (10, true), (11, true), (12, true), (13, true), (14, true), (15, true), (16, true), (17, true), (18, false), (19, true)] (by kernel_rfl) mixed ?_
        intro w8 hs8
        have hw8 : w8.heap = w7.heap := hs8.heap
        have hC8 := hC6.still RI.stable (hs7.trans hs8)
        have hS8 := hS6.still IS.stable (hs7.trans hs8)
        repeat' (first | refine WS.q rfl (q_s (by rfl)) (by first | rfl | assumption) ?_ | refine WS.q rfl (q_len (by rfl)) (by first | rfl | assumption) ?_ | refine WS.q rfl (q_add (by rfl) (by rfl) (by unfold InI; omega)) (by first | rfl | assumption) ?_ | refine WS.q rfl (q_sub (by rfl) (by rfl) (by unfold InI; omega)) (by first | rfl | assumption) ?_ | refine WS.q rfl (q_pass (by rfl)) (by first | rfl | assumption) ?_ | refine WS.nil ?_ | fail)
        refine WS.ixload (j := m - 1) rfl rfl hC8 (List.getElem?_eq_getElem hlk) (fun w' hw' => same_heap (hw'.trans hw8.symm)) hw8 ?_
        rintro p2 _ rfl
        repeat' (first | refine WS.q rfl (q_s (by rfl)) (by first | rfl | assumption) ?_ | refine WS.q rfl (q_len (by rfl)) (by first | rfl | assumption) ?_ | refine WS.q rfl (q_add (by rfl) (by rfl) (by unfold InI; omega)) (by first | rfl | assumption) ?_ | refine WS.q rfl (q_sub (by rfl) (by rfl) (by unfold InI; omega)) (by first | rfl | assumption) ?_ | refine WS.q rfl (q_pass (by rfl)) (by first | rfl | assumption) ?_ | refine WS.nil ?_ | fail)
        refine WS.ixload rfl rfl hC8 (List.getElem?_eq_getElem hli) (fun w' hw' => same_heap (hw'.trans hw8.symm)) hw8 ?_
        rintro p3 _ rfl
        repeat' (first | refine WS.q rfl (q_s (by rfl)) (by first | rfl | assumption) ?_ | refine WS.q rfl (q_len (by rfl)) (by first | rfl | assumption) ?_ | refine WS.q rfl (q_add (by rfl) (by rfl) (by unfold InI; omega)) (by first | rfl | assumption) ?_ | refine WS.q rfl (q_sub (by rfl) (by rfl) (by unfold InI; omega)) (by first | rfl | assumption) ?_ | refine WS.q rfl (q_pass (by rfl)) (by first | rfl | assumption) ?_ | refine WS.nil ?_ | fail)
        refine WS.splitD (t := 47) (by rfl) (fun heq => ?_) (fun hne => ?_)
        · rw [decide_eq_true heq, Bool.true_and] at hmk
          repeat' (first | refine WS.q rfl (q_s (by rfl)) (by first | rfl | assumption) ?_ | refine WS.q rfl (q_len (by rfl)) (by first | rfl | assumption) ?_ | refine WS.q rfl (q_add (by rfl) (by rfl) (by unfold InI; omega)) (by first | rfl | assumption) ?_ | refine WS.q rfl (q_sub (by rfl) (by rfl) (by unfold InI; omega)) (by first | rfl | assumption) ?_ | refine WS.q rfl (q_pass (by rfl)) (by first | rfl | assumption) ?_ | refine WS.nil ?_ | fail)
          refine WS.ixload (j := m - 1) rfl rfl hS8 (List.getElem?_eq_getElem (by omega)) (fun w' hw' => same_heap (hw'.trans hw8.symm)) hw8 ?_
          intro p4 uk huk
          repeat' (first | refine WS.q rfl (q_s (by rfl)) (by first | rfl | assumption) ?_ | refine WS.q rfl (q_len (by rfl)) (by first | rfl | assumption) ?_ | refine WS.q rfl (q_add (by rfl) (by rfl) (by unfold InI; omega)) (by first | rfl | assumption) ?_ | refine WS.q rfl (q_sub (by rfl) (by rfl) (by unfold InI; omega)) (by first | rfl | assumption) ?_ | refine WS.q rfl (q_pass (by rfl)) (by first | rfl | assumption) ?_ | refine WS.nil ?_ | fail)
          refine WS.ixload (j := i) rfl rfl hS8 (List.getElem?_eq_getElem (by omega)) (fun w' hw' => same_heap (hw'.trans hw8.symm)) hw8 ?_
          intro p5 ui hui
          refine WS.call rfl (l01Same_any huk hui) ?_
          rintro _ w9 ⟨rfl, hs9⟩
          have hw9 : w9.heap = w7.heap := hs9.heap.trans hw8
          have hs69 := (hs7.trans hs8).trans hs9
          refine ⟨hw9, ?_⟩
          rw [← hmk]
          repeat' (first | refine WS.q rfl (q_s (by rfl)) (by first | rfl | assumption) ?_ | refine WS.q rfl (q_len (by rfl)) (by first | rfl | assumption) ?_ | refine WS.q rfl (q_add (by rfl) (by rfl) (by unfold InI; omega)) (by first | rfl | assumption) ?_ | refine WS.q rfl (q_sub (by rfl) (by rfl) (by unfold InI; omega)) (by first | rfl | assumption) ?_ | refine WS.q rfl (q_pass (by rfl)) (by first | rfl | assumption) ?_ | refine WS.nil ?_ | fail)
          repeat' (first | refine WL.step (o_s (by rfl) ?_) | refine WL.step (o_len (by rfl) ?_) | refine WL.step (o_add (by rfl) (by rfl) (by unfold InI; omega) ?_) | refine WL.step (o_sub (by rfl) (by rfl) (by unfold InI; omega) ?_) | refine WL.step (OpW.pass (by rfl) ?_) | refine WL.nil ?_ | refine thenN ?_ | refine WP.region ?_ | refine WP.seq ?_ | refine WP.block ?_ | refine thenR ?_ | refine thenX ?_ | refine blkN ?_ | refine blkHit ?_ | refine blkR ?_ | refine blkMiss (by rfl) ?_ | refine WP.ret ?_ | refine WP.exit ?_ | refine WP.skip ?_ | refine WP.label ?_ | refine WP.condT (by rfl) ?_ | refine WP.condF (by rfl) ?_ | fail)
          first | refine WP.condD (by rfl) (fun _ => ?_) (fun _ => ?_) | refine WP.condND (by rfl) (fun _ => ?_) (fun _ => ?_) | refine WP.condN (by rfl) (fun _ => ?_) (fun _ => ?_) | refine WP.cond (by rfl) (fun _ => ?_) (fun _ => ?_) | fail
          · rename_i htm
            repeat' (first | refine WL.step (o_s (by rfl) ?_) | refine WL.step (o_len (by rfl) ?_) | refine WL.step (o_add (by rfl) (by rfl) (by unfold InI; omega) ?_) | refine WL.step (o_sub (by rfl) (by rfl) (by unfold InI; omega) ?_) | refine WL.step (OpW.pass (by rfl) ?_) | refine WL.nil ?_ | refine thenN ?_ | refine WP.region ?_ | refine WP.seq ?_ | refine WP.block ?_ | refine thenR ?_ | refine thenX ?_ | refine blkN ?_ | refine blkHit ?_ | refine blkR ?_ | refine blkMiss (by rfl) ?_ | refine WP.ret ?_ | refine WP.exit ?_ | refine WP.skip ?_ | refine WP.label ?_ | refine WP.condT (by rfl) ?_ | refine WP.condF (by rfl) ?_ | fail)
            exact ⟨(m - 1, m - 1), ⟨rfl, rfl, rfl, rfl, rfl, rfl, (by first | rfl | (show some (Value.int .i64 _) = some (Value.int .i64 _); refine congrArg some (congrArg (Value.int IntKind.i64) ?_); omega)), (by first | rfl | (show some (Value.int .i64 _) = some (Value.int .i64 _); refine congrArg some (congrArg (Value.int IntKind.i64) ?_); omega)), trivial⟩, ⟨by dsimp only; omega, Nat.le_refl _, by dsimp only; omega, htm, fun j h1 h2 => by dsimp only at h1 h2; omega, hs69⟩, by dsimp only; omega⟩
          · rename_i hfm
            have hfm' : matchC x.1 cls (m - 1) i = false := hfm
            repeat' (first | refine WL.step (o_s (by rfl) ?_) | refine WL.step (o_len (by rfl) ?_) | refine WL.step (o_add (by rfl) (by rfl) (by unfold InI; omega) ?_) | refine WL.step (o_sub (by rfl) (by rfl) (by unfold InI; omega) ?_) | refine WL.step (OpW.pass (by rfl) ?_) | refine WL.nil ?_ | refine thenN ?_ | refine WP.region ?_ | refine WP.seq ?_ | refine WP.block ?_ | refine thenR ?_ | refine thenX ?_ | refine blkN ?_ | refine blkHit ?_ | refine blkR ?_ | refine blkMiss (by rfl) ?_ | refine WP.ret ?_ | refine WP.exit ?_ | refine WP.skip ?_ | refine WP.label ?_ | refine WP.condT (by rfl) ?_ | refine WP.condF (by rfl) ?_ | fail)
            refine ⟨(m - 1, q), ⟨rfl, rfl, rfl, rfl, rfl, rfl, rfl, (by first | rfl | (show some (Value.int .i64 _) = some (Value.int .i64 _); refine congrArg some (congrArg (Value.int IntKind.i64) ?_); omega)), trivial⟩, ⟨by dsimp only; omega, by dsimp only; omega, hm3, hmt, fun j h1 h2 => ?_, hs69⟩, by dsimp only; omega⟩
            dsimp only at h1 h2
            by_cases hj : j = m - 1
            · rw [hj]; exact hfm'
            · exact hnom j (by omega) h2
        · have hfm' : matchC x.1 cls (m - 1) i = false := by rw [hmk, decide_eq_false hne]; rfl
          repeat' (first | refine WS.q rfl (q_s (by rfl)) (by first | rfl | assumption) ?_ | refine WS.q rfl (q_len (by rfl)) (by first | rfl | assumption) ?_ | refine WS.q rfl (q_add (by rfl) (by rfl) (by unfold InI; omega)) (by first | rfl | assumption) ?_ | refine WS.q rfl (q_sub (by rfl) (by rfl) (by unfold InI; omega)) (by first | rfl | assumption) ?_ | refine WS.q rfl (q_pass (by rfl)) (by first | rfl | assumption) ?_ | refine WS.nil ?_ | fail)
          refine WS.op rfl (OpW.pass (by rfl) ⟨hw8, ?_⟩)
          repeat' (first | refine WS.q rfl (q_s (by rfl)) (by first | rfl | assumption) ?_ | refine WS.q rfl (q_len (by rfl)) (by first | rfl | assumption) ?_ | refine WS.q rfl (q_add (by rfl) (by rfl) (by unfold InI; omega)) (by first | rfl | assumption) ?_ | refine WS.q rfl (q_sub (by rfl) (by rfl) (by unfold InI; omega)) (by first | rfl | assumption) ?_ | refine WS.q rfl (q_pass (by rfl)) (by first | rfl | assumption) ?_ | refine WS.nil ?_ | fail)
          repeat' (first | refine WL.step (o_s (by rfl) ?_) | refine WL.step (o_len (by rfl) ?_) | refine WL.step (o_add (by rfl) (by rfl) (by unfold InI; omega) ?_) | refine WL.step (o_sub (by rfl) (by rfl) (by unfold InI; omega) ?_) | refine WL.step (OpW.pass (by rfl) ?_) | refine WL.nil ?_ | refine thenN ?_ | refine WP.region ?_ | refine WP.seq ?_ | refine WP.block ?_ | refine thenR ?_ | refine thenX ?_ | refine blkN ?_ | refine blkHit ?_ | refine blkR ?_ | refine blkMiss (by rfl) ?_ | refine WP.ret ?_ | refine WP.exit ?_ | refine WP.skip ?_ | refine WP.label ?_ | refine WP.condT (by rfl) ?_ | refine WP.condF (by rfl) ?_ | fail)
          refine ⟨(m - 1, q), ⟨rfl, rfl, rfl, rfl, rfl, rfl, rfl, (by first | rfl | (show some (Value.int .i64 _) = some (Value.int .i64 _); refine congrArg some (congrArg (Value.int IntKind.i64) ?_); omega)), trivial⟩, ⟨by dsimp only; omega, by dsimp only; omega, hm3, hmt, fun j h1 h2 => ?_, hs7.trans hs8⟩, by dsimp only; omega⟩
          dsimp only at h1 h2
          by_cases hj : j = m - 1
          · rw [hj]; exact hfm'
          · exact hnom j (by omega) h2
      · rename_i hneg
        have hleast : leastC x.1 cls i = q := leastN_eq hm3 hmt (fun j hj => hnom j (by omega) hj)
        have hz7 := hs7.size
        repeat' (first | refine WL.step (o_s (by rfl) ?_) | refine WL.step (o_len (by rfl) ?_) | refine WL.step (o_add (by rfl) (by rfl) (by unfold InI; omega) ?_) | refine WL.step (o_sub (by rfl) (by rfl) (by unfold InI; omega) ?_) | refine WL.step (OpW.pass (by rfl) ?_) | refine WL.nil ?_ | refine thenN ?_ | refine WP.region ?_ | refine WP.seq ?_ | refine WP.block ?_ | refine thenR ?_ | refine thenX ?_ | refine blkN ?_ | refine blkHit ?_ | refine blkR ?_ | refine blkMiss (by rfl) ?_ | refine WP.ret ?_ | refine WP.exit ?_ | refine WP.skip ?_ | refine WP.label ?_ | refine WP.condT (by rfl) ?_ | refine WP.condF (by rfl) ?_ | fail)
        refine o_append1 (u := .int .i64 _) (fun _ => by rfl) (by rfl) (hown6.still hs7) rfl (by simp [Ints, hrl, maxLen]; omega) (by simp [Ints, hrl]; omega) (by omega) ?_
        intro p7 v11 w11 hown11 hb11 _ _ _
        repeat' (first | refine WL.step (o_s (by rfl) ?_) | refine WL.step (o_len (by rfl) ?_) | refine WL.step (o_add (by rfl) (by rfl) (by unfold InI; omega) ?_) | refine WL.step (o_sub (by rfl) (by rfl) (by unfold InI; omega) ?_) | refine WL.step (OpW.pass (by rfl) ?_) | refine WL.nil ?_ | refine thenN ?_ | refine WP.region ?_ | refine WP.seq ?_ | refine WP.block ?_ | refine thenR ?_ | refine thenX ?_ | refine blkN ?_ | refine blkHit ?_ | refine blkR ?_ | refine blkMiss (by rfl) ?_ | refine WP.ret ?_ | refine WP.exit ?_ | refine WP.skip ?_ | refine WP.label ?_ | refine WP.condT (by rfl) ?_ | refine WP.condF (by rfl) ?_ | fail)
        refine ⟨(i + 1, v11), ⟨rfl, rfl, rfl, rfl, rfl, (by first | rfl | (show some (Value.int .i64 _) = some (Value.int .i64 _); refine congrArg some (congrArg (Value.int IntKind.i64) ?_); omega)), trivial⟩, ⟨by dsimp only; omega, ?_, (hbl6.trans (hs7.below _)).trans hb11⟩, by dsimp only; omega⟩
        dsimp only
        rw [← Ints_snoc (show i < nx.length by omega) (y := ((q : Nat) : Int)) (by subst hnx; rw [refineL_get, hleast])]
        exact hown11
    · rename_i hge
      have hie : i = cls.length := by omega
      subst hie
      rw [List.take_of_length_le (by omega)] at hown6
      repeat' (first | refine WL.step (o_s (by rfl) ?_) | refine WL.step (o_len (by rfl) ?_) | refine WL.step (o_add (by rfl) (by rfl) (by unfold InI; omega) ?_) | refine WL.step (o_sub (by rfl) (by rfl) (by unfold InI; omega) ?_) | refine WL.step (OpW.pass (by rfl) ?_) | refine WL.nil ?_ | refine thenN ?_ | refine WP.region ?_ | refine WP.seq ?_ | refine WP.block ?_ | refine thenR ?_ | refine thenX ?_ | refine blkN ?_ | refine blkHit ?_ | refine blkR ?_ | refine blkMiss (by rfl) ?_ | refine WP.ret ?_ | refine WP.exit ?_ | refine WP.skip ?_ | refine WP.label ?_ | refine WP.condT (by rfl) ?_ | refine WP.condF (by rfl) ?_ | fail)
      refine ⟨(nx, vn, t + 1), ⟨rfl, rfl, (by first | rfl | (show some (Value.int .i64 _) = some (Value.int .i64 _); refine congrArg some (congrArg (Value.int IntKind.i64) ?_); omega)), trivial⟩, ⟨by rw [← hnx]; exact cls_refine _ hcl, by dsimp only; omega, ?_, hown6.lower (by omega), ((hbl3.trans (Below.mono hbl35 (by omega))).trans (Below.mono hbl6 (by omega)))⟩, by dsimp only; omega⟩
      dsimp only
      rw [hal, show x.2.length - t = (x.2.length - (t + 1)) + 1 from by omega, itN, hnx]
  · rename_i hget
    have htn : t = x.2.length := by omega
    subst htn
    rw [Nat.sub_self] at hal
    repeat' (first | refine WL.step (o_s (by rfl) ?_) | refine WL.step (o_len (by rfl) ?_) | refine WL.step (o_add (by rfl) (by rfl) (by unfold InI; omega) ?_) | refine WL.step (o_sub (by rfl) (by rfl) (by unfold InI; omega) ?_) | refine WL.step (OpW.pass (by rfl) ?_) | refine WL.nil ?_ | refine thenN ?_ | refine WP.region ?_ | refine WP.seq ?_ | refine WP.block ?_ | refine thenR ?_ | refine thenX ?_ | refine blkN ?_ | refine blkHit ?_ | refine blkR ?_ | refine blkMiss (by rfl) ?_ | refine WP.ret ?_ | refine WP.exit ?_ | refine WP.skip ?_ | refine WP.label ?_ | refine WP.condT (by rfl) ?_ | refine WP.condF (by rfl) ?_ | fail)
    refine ⟨_, ret1 rfl (by rfl), ?_⟩
    rw [hal]
    exact ⟨hown3.lower (by omega), hbl1.trans (Below.mono hbl3 (by omega))⟩
end Go.Proofs
