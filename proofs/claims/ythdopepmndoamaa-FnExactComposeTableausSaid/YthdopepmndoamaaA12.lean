/- The composition of tableaus, as the reference has it. -/
import Derived.Test.YthdopepmndoamaaA11
namespace Go.Fw
open Go Go.RowKit
section
variable {P : Program} {N : Nat} {S : World → Prop} {l : Fr} {ops : Array Oper}
variable {d : Nat} {ty : TypeId} {pos : String} {af : Array Edge} {g : Option (Nat × Bool)}
theorem q_build {t : TypeId} {parts : Array (Nat × Operand)} {us cells : List Value} (hx : evs l (parts.toList.map (·.2)) = some us) (hb : P.built t ((parts.toList.map (·.1)).zip us) = some cells.toArray)
    (hg : wantedL ops l g = some true := by rfl) (hd : Nat.blt d N = true := by rfl) : QW P N ops S ⟨some d, .build t parts, ty, pos, af, g⟩ l d (.agg cells.toArray) :=
  QW.mk (fun fr ha w _ => by
    have hm := evs_map ha hx
    have hp : (parts.map fun (i, x) => (i, fr.eval x)).toList = (parts.toList.map (·.1)).zip us := by
      rw [Array.toList_map, ← hm, List.map_map]
      induction parts.toList with
      | nil => rfl
      | cons x r ih => simp [ih]
    have hr := run_build (P := P) w t (parts.map fun (i, x) => (i, fr.eval x)) cells.toArray (by rw [hp]; exact hb)
    simp only [execOp, Sem.run_bind, hr, Result.andThen_ok, Sem.run_pure]) hg hd
end
theorem Own.ne_blk {lo b : Nat} {e tt : TypeId} {w : World} {v : Value} {us cs : List Value} (h : Own lo e w v us) (hb : Blk w b cs tt) (hne : e ≠ tt) {k : Nat} (hk : v.ownBlock = some k) : k ≠ b := fun he => by
  obtain ⟨cur, hc⟩ := h.elem hk
  subst he
  unfold Blk at hb
  rw [hc] at hb
  simp only [Option.some.injEq, Obj.cells.injEq] at hb
  exact hne hb.2.1
end Go.Fw
namespace Go.Proofs
open Go Go.Fw Go.RowKit Go.Rk
theorem l01Own_any {lo hi : Nat} {w : World} {v : Value} {xs : List Int} (h : IS lo hi w v xs) (hn : xs.length ≤ 1000000) : Does Try.prog 105 [v] w fun r w' => NewI w r w' xs := by
  refine Does.enter Try.func105 Try.ntmps105 rfl (by rfl) ?_
  repeat' (first | refine WL.step (o_s (by rfl) ?_) | refine WL.step (o_len (by rfl) ?_) | refine WL.step (o_add (by rfl) (by rfl) (by unfold InI; omega) ?_) | refine WL.step (o_sub (by rfl) (by rfl) (by unfold InI; omega) ?_) | refine WL.step (OpW.pass (by rfl) ?_) | refine WL.nil ?_ | refine thenN ?_ | refine WP.region ?_ | refine WP.seq ?_ | refine WP.block ?_ | refine thenR ?_ | refine thenX ?_ | refine blkN ?_ | refine blkHit ?_ | refine blkR ?_ | refine blkMiss (by rfl) ?_ | refine WP.ret ?_ | refine WP.exit ?_ | refine WP.skip ?_ | refine WP.label ?_ | refine WP.condT (by rfl) ?_ | refine WP.condF (by rfl) ?_ | fail)
  refine WL.step (o_lit (us := []) (by rfl) (by rfl) rfl (by decide) one0 ?_)
  intro v1 w1 hown1 hbl1 hz1 _
  repeat' (first | refine WL.step (o_s (by rfl) ?_) | refine WL.step (o_len (by rfl) ?_) | refine WL.step (o_add (by rfl) (by rfl) (by unfold InI; omega) ?_) | refine WL.step (o_sub (by rfl) (by rfl) (by unfold InI; omega) ?_) | refine WL.step (OpW.pass (by rfl) ?_) | refine WL.nil ?_ | refine thenN ?_ | refine WP.region ?_ | refine WP.seq ?_ | refine WP.block ?_ | refine thenR ?_ | refine thenX ?_ | refine blkN ?_ | refine blkHit ?_ | refine blkR ?_ | refine blkMiss (by rfl) ?_ | refine WP.ret ?_ | refine WP.exit ?_ | refine WP.skip ?_ | refine WP.label ?_ | refine WP.condT (by rfl) ?_ | refine WP.condF (by rfl) ?_ | fail)
  refine WL.step (o_append (news := Ints xs) (by rfl) (by rfl) hown1 (IS.src (h.below RI.stable hbl1 h.hi_le)) Ints_one (by simp [Ints, maxLen]; omega) (by simp [Ints]; omega) (by omega) ?_)
  intro v2 w2 hown2 _ hbl2 _
  repeat' (first | refine WL.step (o_s (by rfl) ?_) | refine WL.step (o_len (by rfl) ?_) | refine WL.step (o_add (by rfl) (by rfl) (by unfold InI; omega) ?_) | refine WL.step (o_sub (by rfl) (by rfl) (by unfold InI; omega) ?_) | refine WL.step (OpW.pass (by rfl) ?_) | refine WL.nil ?_ | refine thenN ?_ | refine WP.region ?_ | refine WP.seq ?_ | refine WP.block ?_ | refine thenR ?_ | refine thenX ?_ | refine blkN ?_ | refine blkHit ?_ | refine blkR ?_ | refine blkMiss (by rfl) ?_ | refine WP.ret ?_ | refine WP.exit ?_ | refine WP.skip ?_ | refine WP.label ?_ | refine WP.condT (by rfl) ?_ | refine WP.condF (by rfl) ?_ | fail)
  refine ⟨_, ret1 rfl (by rfl), ?_⟩
  exact ⟨hown2, hbl1.trans (Below.mono hbl2 (by omega))⟩
theorem l10Compose_any {lo hi lo' hi' : Nat} {w : World} {v v' : Value} {x y : TabD} (h : IT lo hi w v x) (h' : IT lo' hi' w v' y) (hx : Tab x) (hy : Tab y) :
    Does Try.prog 84 [v, v'] w fun r w' => OwT 28 2 w.heap.size w'.heap.size w' r (composeL x y) ∧ Chg 0 0 w w' := by
  obtain ⟨va, vb, rfl, hA, hB⟩ := h
  obtain ⟨va', vb', rfl, hA', hB'⟩ := h'
  obtain ⟨a, c, hva⟩ := hA.shape
  obtain ⟨a2, c2, hvb⟩ := hB.shape
  obtain ⟨a3, c3, hva'⟩ := hA'.shape
  obtain ⟨a4, c4, hvb'⟩ := hB'.shape
  subst hva hvb hva' hvb'
  have hm := hx.le8
  have hsq := hx.sq
  have hm' := hy.le8
  have hsq' := hy.sq
  have hAz := hA.hi_le
  have hAz' := hA'.hi_le
  have hlenR := compA_length x y
  refine Does.enter Try.func84 Try.ntmps84 rfl (by rfl) ?_
  repeat' (first | refine WL.step (o_s (by rfl) ?_) | refine WL.step (o_len (by rfl) ?_) | refine WL.step (o_add (by rfl) (by rfl) (by unfold InI; omega) ?_) | refine WL.step (o_sub (by rfl) (by rfl) (by unfold InI; omega) ?_) | refine WL.step (OpW.pass (by rfl) ?_) | refine WL.nil ?_ | refine thenN ?_ | refine WP.region ?_ | refine WP.seq ?_ | refine WP.block ?_ | refine thenR ?_ | refine thenX ?_ | refine blkN ?_ | refine blkHit ?_ | refine blkR ?_ | refine blkMiss (by rfl) ?_ | refine WP.ret ?_ | refine WP.exit ?_ | refine WP.skip ?_ | refine WP.label ?_ | refine WP.condT (by rfl) ?_ | refine WP.condF (by rfl) ?_ | fail)
  refine WL.step (o_box (by rfl) ?_)
  intro w1 hb1 hbl1 hz1
  refine WL.step (o_box (by rfl) ?_)
  intro w1' hb1' hbl1' hz1'
  refine WL.step (o_alloc ?_)
  intro w2 hb2 hbl2 hz2
  have hbl12 : Below w.heap.size w w2 := hbl1.trans ((Below.mono hbl1' (by omega)).trans (Below.mono hbl2 (by omega)))
  replace hb1 := (hb1.below hbl1' (by omega)).below hbl2 (by omega)
  replace hb1' := hb1'.below hbl2 (by omega)
  replace hA := hA.below IS.stable hbl12 hAz
  replace hB := hB.below RI.stable hbl12 hAz
  replace hA' := hA'.below IS.stable hbl12 hAz'
  replace hB' := hB'.below RI.stable hbl12 hAz'
  repeat' (first | refine WL.step (o_s (by rfl) ?_) | refine WL.step (o_len (by rfl) ?_) | refine WL.step (o_add (by rfl) (by rfl) (by unfold InI; omega) ?_) | refine WL.step (o_sub (by rfl) (by rfl) (by unfold InI; omega) ?_) | refine WL.step (OpW.pass (by rfl) ?_) | refine WL.nil ?_ | refine thenN ?_ | refine WP.region ?_ | refine WP.seq ?_ | refine WP.block ?_ | refine thenR ?_ | refine thenX ?_ | refine blkN ?_ | refine blkHit ?_ | refine blkR ?_ | refine blkMiss (by rfl) ?_ | refine WP.ret ?_ | refine WP.exit ?_ | refine WP.skip ?_ | refine WP.label ?_ | refine WP.condT (by rfl) ?_ | refine WP.condF (by rfl) ?_ | fail)
  refine WP.mid (fun l' w' => ∃ b aq cq, Agree l' [(2, .pointer (some ⟨w.heap.size, 0, none⟩)), (3, .pointer (some ⟨w1.heap.size, 0, none⟩)), (4, .pointer (some ⟨w1'.heap.size, 0, none⟩)), (5, .pointer (some ⟨b, 0, none⟩))] ∧
    Blk w' b [.slice none 0 0, .slice aq (x.2 ++ y.2).length cq] 30 ∧ Own w2.heap.size 2 w' (.slice aq (x.2 ++ y.2).length cq) (Ints (x.2 ++ y.2)) ∧ w2.heap.size ≤ b ∧ Below w2.heap.size w2 w') ?_ ?_
  · refine WP.forked (fun w' => Below w2.heap.size w2 w') (.q 0 (.q 1 (.q 3 (.q 4 (.two 2 (.two 5 (.q 6 (.o 7 (.o 8 .nil))) 7 (.o 5 (.q 6 (.o 8 .nil)))) 7 (.o 2 (.o 5 (.q 6 (.o 8 .nil))))))))) (by kernel_rfl) mixed ?_
    intro w3 hs3
    have hz3 := hs3.size
    have hS3 : Below w2.heap.size w2 w3 := hs3.below _
    refine WT.fld rfl rfl (fun w' h => hb1.below h hb1.lt) hS3 ?_
    intro p1
    refine WT.fld rfl rfl (fun w' h => hb1'.below h hb1'.lt) hS3 ?_
    intro p2
    have hB3 := hB.still RI.stable hs3
    have hB3' := hB'.still RI.stable hs3
    refine WT.two rfl rfl (o_call (l01Own_any hB3 (by omega)) ?_) (o_alloc ?_)
    · intro v4 w4 hN4
      have hz4 := hN4.2.size
      have hS4 : Below w2.heap.size w2 w4 := hS3.trans (Below.mono hN4.2 (by omega))
      refine ⟨hS4, ?_⟩
      have hB4' := hB3'.below RI.stable hN4.2 hB3'.hi_le
      refine WT.two rfl rfl (o_append (news := Ints y.2) (by rfl) (by rfl) hN4.1 (IS.src hB4') Ints_one (by simp [Ints, maxLen]; omega) (by simp [Ints]; omega) (by omega) ?_) (o_alloc ?_)
      · intro v5 w5 hown5 hg5 hbl5 _
        have hz5 := hg5.size
        have hS5 : Below w2.heap.size w2 w5 := hS4.trans (Below.mono hbl5 (by omega))
        refine ⟨hS5, ?_⟩
        rw [← Ints_append] at hown5
        obtain ⟨aq, cq, hvq, _⟩ := hown5.shape
        rw [Ints_length] at hvq
        subst hvq
        refine WT.q rfl (q_build (us := [.slice aq (x.2 ++ y.2).length cq]) (cells := [.slice none 0 0, .slice aq (x.2 ++ y.2).length cq]) (by rfl) (by kernel_rfl)) hS5 ?_
        refine WT.o rfl (o_alloc ?_)
        intro w6 hb6 hbl6 hz6
        have hS6 : Below w2.heap.size w2 w6 := hS5.trans (Below.mono hbl6 (by omega))
        refine ⟨hS6, ?_⟩
        refine WT.o rfl (o_storeS (vs := [.slice none 0 0, .slice aq (x.2 ++ y.2).length cq]) (by rfl) (by rfl) hb6 (by rfl) (by rfl) two_cells ?_)
        intro w7 hb7 hbut7
        have hS7 : Below w2.heap.size w2 w7 := hS6.trans (hbut7.below (by omega))
        refine ⟨hS7, ?_⟩
        refine WT.nil (thenN ?_)
        have ho6 := hown5.below hbl6 (Nat.le_refl _)
        exact ⟨_, aq, cq, ⟨rfl, rfl, rfl, rfl, trivial⟩, hb7, (ho6.keep fun k hk => hbut7.block k (ho6.ne_blk hb6 (by decide) hk)).lower (by omega), by omega, hS7⟩
      · intro w5 hb5 hbl5 hz5
        have hS5 : Below w2.heap.size w2 w5 := hS4.trans (Below.mono hbl5 (by omega))
        refine ⟨hS5, ?_⟩
        refine WT.o rfl (o_append (news := Ints y.2) (by rfl) (by rfl) (hN4.1.below hbl5 (Nat.le_refl _)) (IS.src (hB4'.below RI.stable hbl5 (by omega))) Ints_one (by simp [Ints, maxLen]; omega) (by simp [Ints]; omega) (by omega) ?_)
        intro v6 w6 hown6 hg6 hbl6 _
        have hz6 := hg6.size
        have hS6 : Below w2.heap.size w2 w6 := hS5.trans (Below.mono hbl6 (by omega))
        refine ⟨hS6, ?_⟩
        have hb6 : Blk w6 w4.heap.size _ _ := hb5.keep (hg6.block _ (by omega) (fun e => ((hN4.1.below hbl5 (Nat.le_refl _)).ne_blk hb5 (by decide) e.symm) rfl))
        rw [← Ints_append] at hown6
        obtain ⟨aq, cq, hvq, _⟩ := hown6.shape
        rw [Ints_length] at hvq
        subst hvq
        refine WT.q rfl (q_build (us := [.slice aq (x.2 ++ y.2).length cq]) (cells := [.slice none 0 0, .slice aq (x.2 ++ y.2).length cq]) (by rfl) (by kernel_rfl)) hS6 ?_
        refine WT.o rfl (o_storeS (vs := [.slice none 0 0, .slice aq (x.2 ++ y.2).length cq]) (by rfl) (by rfl) hb6 (by rfl) (by rfl) two_cells ?_)
        intro w7 hb7 hbut7
        have hS7 : Below w2.heap.size w2 w7 := hS6.trans (hbut7.below (by omega))
        refine ⟨hS7, ?_⟩
        refine WT.nil (thenN ?_)
        exact ⟨_, aq, cq, ⟨rfl, rfl, rfl, rfl, trivial⟩, hb7, (hown6.keep fun k hk => hbut7.block k (hown6.ne_blk hb6 (by decide) hk)).lower (by omega), by omega, hS7⟩
    · intro w4 hb4 hbl4 hz4
      have hS4 : Below w2.heap.size w2 w4 := hS3.trans (Below.mono hbl4 (by omega))
      refine ⟨hS4, ?_⟩
      refine WT.o rfl (o_call (l01Own_any (hB3.below RI.stable hbl4 (by omega)) (by omega)) ?_)
      intro v5 w5 hN5
      have hz5 := hN5.2.size
      have hS5 : Below w2.heap.size w2 w5 := hS4.trans (Below.mono hN5.2 (by omega))
      refine ⟨hS5, ?_⟩
      have hb5 := hb4.below hN5.2 hb4.lt
      refine WT.o rfl (o_append (news := Ints y.2) (by rfl) (by rfl) hN5.1 (IS.src ((hB3'.below RI.stable hbl4 (by omega)).below RI.stable hN5.2 (by omega))) Ints_one (by simp [Ints, maxLen]; omega) (by simp [Ints]; omega) (by omega) ?_)
      intro v6 w6 hown6 hg6 hbl6 _
      have hz6 := hg6.size
      have hS6 : Below w2.heap.size w2 w6 := hS5.trans (Below.mono hbl6 (by omega))
      refine ⟨hS6, ?_⟩
      have hb6 := hb5.below hbl6 (by omega)
      rw [← Ints_append] at hown6
      obtain ⟨aq, cq, hvq, _⟩ := hown6.shape
      rw [Ints_length] at hvq
      subst hvq
      refine WT.q rfl (q_build (us := [.slice aq (x.2 ++ y.2).length cq]) (cells := [.slice none 0 0, .slice aq (x.2 ++ y.2).length cq]) (by rfl) (by kernel_rfl)) hS6 ?_
      refine WT.o rfl (o_storeS (vs := [.slice none 0 0, .slice aq (x.2 ++ y.2).length cq]) (by rfl) (by rfl) hb6 (by rfl) (by rfl) two_cells ?_)
      intro w7 hb7 hbut7
      have hS7 : Below w2.heap.size w2 w7 := hS6.trans (hbut7.below (by omega))
      refine ⟨hS7, ?_⟩
      refine WT.nil (thenN ?_)
      exact ⟨_, aq, cq, ⟨rfl, rfl, rfl, rfl, trivial⟩, hb7, (hown6.keep fun k hk => hbut7.block k (hown6.ne_blk hb6 (by decide) hk)).lower (by omega), by omega, hS7⟩
  rintro l4 w4 ⟨b3, aq, cq, hag, hb4, oB, hb3, hbl24⟩
  refine WP.frame _ hag ?_
  clear hag
  have hb3lt := hb4.lt
  have hz24 := hbl24.size
  have hbl14 : Below w.heap.size w w4 := hbl12.trans (Below.mono hbl24 (by omega))
  replace hb1 := hb1.below hbl24 hb1.lt
  replace hb1' := hb1'.below hbl24 hb1'.lt
  replace hb2 := hb2.below hbl24 hb2.lt
  replace hA := hA.below IS.stable hbl24 (by omega)
  replace hB := hB.below RI.stable hbl24 (by omega)
  replace hA' := hA'.below IS.stable hbl24 (by omega)
  replace hB' := hB'.below RI.stable hbl24 (by omega)
  repeat' (first | refine WL.step (o_s (by rfl) ?_) | refine WL.step (o_len (by rfl) ?_) | refine WL.step (o_add (by rfl) (by rfl) (by unfold InI; omega) ?_) | refine WL.step (o_sub (by rfl) (by rfl) (by unfold InI; omega) ?_) | refine WL.step (OpW.pass (by rfl) ?_) | refine WL.nil ?_ | refine thenN ?_ | refine WP.region ?_ | refine WP.seq ?_ | refine WP.block ?_ | refine thenR ?_ | refine thenX ?_ | refine blkN ?_ | refine blkHit ?_ | refine blkR ?_ | refine blkMiss (by rfl) ?_ | refine WP.ret ?_ | refine WP.exit ?_ | refine WP.skip ?_ | refine WP.label ?_ | refine WP.condT (by rfl) ?_ | refine WP.condF (by rfl) ?_ | fail)
  refine WP.loop (fun (s : Nat × Value) => [(2, .pointer (some ⟨w.heap.size, 0, none⟩)), (3, .pointer (some ⟨w1.heap.size, 0, none⟩)), (4, .pointer (some ⟨w1'.heap.size, 0, none⟩)), (5, .pointer (some ⟨b3, 0, none⟩)), (6, .int .i64 (s.1 : Nat))])
    (fun s w5 => s.1 ≤ x.1.length ∧ s.2.oneCell' = true ∧ Blk w5 b3 [s.2, .slice aq (x.2 ++ y.2).length cq] 30 ∧ OwSS 28 2 w4.heap.size w5.heap.size w5 s.2 ((compA x y).take s.1) ∧ Chg b3 (b3 + 1) w4 w5)
    (fun s => x.1.length - s.1) (0, .slice none 0 0) ⟨rfl, rfl, rfl, rfl, rfl, trivial⟩ ⟨by omega, rfl, hb4, OwSS.nil _ _ _ _ (by decide), Chg.refl _ _ _⟩ ?_
  rintro ⟨i, vo⟩ w5 ⟨hi1, hone, hb5, oA, hc5⟩
  dsimp only at hi1 hone hb5 oA ⊢
  have hz5 := hc5.size
  have hA5 := ISS.chg hA hc5 (by omega)
  have hB5' := RI.chg hB' hc5 (by omega)
  have hb15 := hb1.chg hc5 (by omega)
  have hb15' := hb1'.chg hc5 (by omega)
  repeat' (first | refine WL.step (o_s (by rfl) ?_) | refine WL.step (o_len (by rfl) ?_) | refine WL.step (o_add (by rfl) (by rfl) (by unfold InI; omega) ?_) | refine WL.step (o_sub (by rfl) (by rfl) (by unfold InI; omega) ?_) | refine WL.step (OpW.pass (by rfl) ?_) | refine WL.nil ?_ | refine thenN ?_ | refine WP.region ?_ | refine WP.seq ?_ | refine WP.block ?_ | refine thenR ?_ | refine thenX ?_ | refine blkN ?_ | refine blkHit ?_ | refine blkR ?_ | refine blkMiss (by rfl) ?_ | refine WP.ret ?_ | refine WP.exit ?_ | refine WP.skip ?_ | refine WP.label ?_ | refine WP.condT (by rfl) ?_ | refine WP.condF (by rfl) ?_ | fail)
  refine WL.fld hb15 ?_
  intro p2
  repeat' (first | refine WL.step (o_s (by rfl) ?_) | refine WL.step (o_len (by rfl) ?_) | refine WL.step (o_add (by rfl) (by rfl) (by unfold InI; omega) ?_) | refine WL.step (o_sub (by rfl) (by rfl) (by unfold InI; omega) ?_) | refine WL.step (OpW.pass (by rfl) ?_) | refine WL.nil ?_ | refine thenN ?_ | refine WP.region ?_ | refine WP.seq ?_ | refine WP.block ?_ | refine thenR ?_ | refine thenX ?_ | refine blkN ?_ | refine blkHit ?_ | refine blkR ?_ | refine blkMiss (by rfl) ?_ | refine WP.ret ?_ | refine WP.exit ?_ | refine WP.skip ?_ | refine WP.label ?_ | refine WP.condT (by rfl) ?_ | refine WP.condF (by rfl) ?_ | fail)
  first | refine WP.condD (by rfl) (fun _ => ?_) (fun _ => ?_) | refine WP.condND (by rfl) (fun _ => ?_) (fun _ => ?_) | refine WP.condN (by rfl) (fun _ => ?_) (fun _ => ?_) | refine WP.cond (by rfl) (fun _ => ?_) (fun _ => ?_) | fail
  · rename_i hlt
    have hlt' : i < x.1.length := by omega
    have hri := hx.row _ (List.getElem_mem hlt')
    repeat' (first | refine WL.step (o_s (by rfl) ?_) | refine WL.step (o_len (by rfl) ?_) | refine WL.step (o_add (by rfl) (by rfl) (by unfold InI; omega) ?_) | refine WL.step (o_sub (by rfl) (by rfl) (by unfold InI; omega) ?_) | refine WL.step (OpW.pass (by rfl) ?_) | refine WL.nil ?_ | refine thenN ?_ | refine WP.region ?_ | refine WP.seq ?_ | refine WP.block ?_ | refine thenR ?_ | refine thenX ?_ | refine blkN ?_ | refine blkHit ?_ | refine blkR ?_ | refine blkMiss (by rfl) ?_ | refine WP.ret ?_ | refine WP.exit ?_ | refine WP.skip ?_ | refine WP.label ?_ | refine WP.condT (by rfl) ?_ | refine WP.condF (by rfl) ?_ | fail)
    refine WP.drawn (fun w' => Below w4.heap.size w5 w') [(0, true), (1, true), (2, true), (3, true), (4, true), (5, true), (6, true), (8, true), (9, true), (10, true), (7, false), (11, false), (12, false), (13, false), (14, true), (1015, false)] (by kernel_rfl) mixed ?_
    intro w6 hs6
    have hS6 : Below w5.heap.size w5 w6 := hs6.below _
    have hz6 := hs6.size
    have hT6 : Below w4.heap.size w5 w6 := Below.mono hS6 (by omega)
    refine WS.fld rfl rfl (fun w' h => hb5.below h (by omega)) hT6 ?_
    intro p6
    refine WS.fld rfl rfl (fun w' h => hb15.below h (by omega)) hT6 ?_
    intro p7
    repeat' (first | refine WS.q rfl (q_s (by rfl)) (by first | rfl | assumption) ?_ | refine WS.q rfl (q_len (by rfl)) (by first | rfl | assumption) ?_ | refine WS.q rfl (q_add (by rfl) (by rfl) (by unfold InI; omega)) (by first | rfl | assumption) ?_ | refine WS.q rfl (q_sub (by rfl) (by rfl) (by unfold InI; omega)) (by first | rfl | assumption) ?_ | refine WS.q rfl (q_pass (by rfl)) (by first | rfl | assumption) ?_ | refine WS.nil ?_ | fail)
    refine WS.ixload rfl rfl (hA5.still IS.stable hs6) (List.getElem?_eq_getElem hlt') (fun w' hw' => same_below hT6 hw' (by omega)) hT6 ?_
    intro p5 u hu
    refine WS.fld rfl rfl (fun w' h => hb15'.below h (by omega)) hT6 ?_
    intro p8
    repeat' (first | refine WS.q rfl (q_s (by rfl)) (by first | rfl | assumption) ?_ | refine WS.q rfl (q_len (by rfl)) (by first | rfl | assumption) ?_ | refine WS.q rfl (q_add (by rfl) (by rfl) (by unfold InI; omega)) (by first | rfl | assumption) ?_ | refine WS.q rfl (q_sub (by rfl) (by rfl) (by unfold InI; omega)) (by first | rfl | assumption) ?_ | refine WS.q rfl (q_pass (by rfl)) (by first | rfl | assumption) ?_ | refine WS.nil ?_ | fail)
    refine WS.call rfl (l01Own_any hu (by omega)) ?_
    intro v7 w7 hN7
    have hz7 := hN7.2.size
    have hS7 : Below w5.heap.size w5 w7 := hS6.trans (Below.mono hN7.2 (by omega))
    refine ⟨Below.mono hS7 (by omega), ?_⟩
    refine WS.op rfl (o_appendN (n := y.2.length) (by rfl) (by rfl) hN7.1 rfl (by rw [Ints_length]; unfold maxLen; omega) (by rw [Ints_length]; omega) (by omega) ?_)
    intro vr w10 hown10 hg10 hbl10
    have hz10 := hg10.size
    have hS10 : Below w5.heap.size w5 w10 := hS7.trans (Below.mono hbl10 (by omega))
    refine ⟨Below.mono hS10 (by omega), ?_⟩
    have oR : OwI 2 w6.heap.size w10.heap.size w10 vr (x.1[i] ++ List.replicate y.2.length 0) := ⟨by rw [Ints_append]; simpa [Ints] using hown10, fun k hk => (hown10.block k hk).2, Nat.le_refl _⟩
    refine WS.pushRow rfl rfl rfl rfl (Below.mono hS10 (by omega)) (hb5.below hS10 (by omega)) rfl (by omega) (Nat.le_refl _) (by omega) (by omega) (oA.chg (Chg.of_below hS10) (by omega)) (by omega) (by omega) oR (by rw [List.length_take]; omega) (by decide) ?_
    intro p9 v11 v12 w11 w12 h12 hb12 oA12 hbl11 hbut12
    refine WS.nil ?_
    repeat' (first | refine WL.step (o_s (by rfl) ?_) | refine WL.step (o_len (by rfl) ?_) | refine WL.step (o_add (by rfl) (by rfl) (by unfold InI; omega) ?_) | refine WL.step (o_sub (by rfl) (by rfl) (by unfold InI; omega) ?_) | refine WL.step (OpW.pass (by rfl) ?_) | refine WL.nil ?_ | refine thenN ?_ | refine WP.region ?_ | refine WP.seq ?_ | refine WP.block ?_ | refine thenR ?_ | refine thenX ?_ | refine blkN ?_ | refine blkHit ?_ | refine blkR ?_ | refine blkMiss (by rfl) ?_ | refine WP.ret ?_ | refine WP.exit ?_ | refine WP.skip ?_ | refine WP.label ?_ | refine WP.condT (by rfl) ?_ | refine WP.condF (by rfl) ?_ | fail)
    refine ⟨(i + 1, v12), ⟨rfl, rfl, rfl, rfl, (by first | rfl | (show some (Value.int .i64 _) = some (Value.int .i64 _); refine congrArg some (congrArg (Value.int IntKind.i64) ?_); omega)), trivial⟩, ⟨by dsimp only; omega, h12, hb12, ?_, ((hc5.thenBelow (Below.mono hS10 (by omega))).thenBelow hbl11).thenBut hbut12 (Nat.le_refl _) (by omega)⟩, by dsimp only; omega⟩
    dsimp only
    rw [take_snoc (show i < (compA x y).length by omega) (compA_get_left x y hlt' (by omega))]
    exact oA12
  · rename_i hge
    have : i = x.1.length := by omega
    subst this
    repeat' (first | refine WL.step (o_s (by rfl) ?_) | refine WL.step (o_len (by rfl) ?_) | refine WL.step (o_add (by rfl) (by rfl) (by unfold InI; omega) ?_) | refine WL.step (o_sub (by rfl) (by rfl) (by unfold InI; omega) ?_) | refine WL.step (OpW.pass (by rfl) ?_) | refine WL.nil ?_ | refine thenN ?_ | refine WP.region ?_ | refine WP.seq ?_ | refine WP.block ?_ | refine thenR ?_ | refine thenX ?_ | refine blkN ?_ | refine blkHit ?_ | refine blkR ?_ | refine blkMiss (by rfl) ?_ | refine WP.ret ?_ | refine WP.exit ?_ | refine WP.skip ?_ | refine WP.label ?_ | refine WP.condT (by rfl) ?_ | refine WP.condF (by rfl) ?_ | fail)
    refine WP.loop (fun (s : Nat × Value) => [(2, .pointer (some ⟨w.heap.size, 0, none⟩)), (3, .pointer (some ⟨w1.heap.size, 0, none⟩)), (4, .pointer (some ⟨w1'.heap.size, 0, none⟩)), (5, .pointer (some ⟨b3, 0, none⟩)), (7, .int .i64 (s.1 : Nat))])
      (fun s w5 => s.1 ≤ y.1.length ∧ s.2.oneCell' = true ∧ Blk w5 b3 [s.2, .slice aq (x.2 ++ y.2).length cq] 30 ∧ OwSS 28 2 w4.heap.size w5.heap.size w5 s.2 ((compA x y).take (x.1.length + s.1)) ∧ Chg b3 (b3 + 1) w4 w5)
      (fun s => y.1.length - s.1) (0, vo) ⟨rfl, rfl, rfl, rfl, rfl, trivial⟩ ⟨by omega, hone, hb5, oA, hc5⟩ ?_
    clear oA hc5 hb5 hone hz5 hA5 hB5' hb15 hb15'
    rintro ⟨j, vq⟩ w5 ⟨hj1, hone, hb5, oA, hc5⟩
    dsimp only at hj1 hone hb5 oA ⊢
    have hz5 := hc5.size
    have hB5 := RI.chg hB hc5 (by omega)
    have hA5' := ISS.chg hA' hc5 (by omega)
    have hb15 := hb1.chg hc5 (by omega)
    have hb15' := hb1'.chg hc5 (by omega)
    repeat' (first | refine WL.step (o_s (by rfl) ?_) | refine WL.step (o_len (by rfl) ?_) | refine WL.step (o_add (by rfl) (by rfl) (by unfold InI; omega) ?_) | refine WL.step (o_sub (by rfl) (by rfl) (by unfold InI; omega) ?_) | refine WL.step (OpW.pass (by rfl) ?_) | refine WL.nil ?_ | refine thenN ?_ | refine WP.region ?_ | refine WP.seq ?_ | refine WP.block ?_ | refine thenR ?_ | refine thenX ?_ | refine blkN ?_ | refine blkHit ?_ | refine blkR ?_ | refine blkMiss (by rfl) ?_ | refine WP.ret ?_ | refine WP.exit ?_ | refine WP.skip ?_ | refine WP.label ?_ | refine WP.condT (by rfl) ?_ | refine WP.condF (by rfl) ?_ | fail)
    refine WL.fld hb15' ?_
    intro p2'
    repeat' (first | refine WL.step (o_s (by rfl) ?_) | refine WL.step (o_len (by rfl) ?_) | refine WL.step (o_add (by rfl) (by rfl) (by unfold InI; omega) ?_) | refine WL.step (o_sub (by rfl) (by rfl) (by unfold InI; omega) ?_) | refine WL.step (OpW.pass (by rfl) ?_) | refine WL.nil ?_ | refine thenN ?_ | refine WP.region ?_ | refine WP.seq ?_ | refine WP.block ?_ | refine thenR ?_ | refine thenX ?_ | refine blkN ?_ | refine blkHit ?_ | refine blkR ?_ | refine blkMiss (by rfl) ?_ | refine WP.ret ?_ | refine WP.exit ?_ | refine WP.skip ?_ | refine WP.label ?_ | refine WP.condT (by rfl) ?_ | refine WP.condF (by rfl) ?_ | fail)
    first | refine WP.condD (by rfl) (fun _ => ?_) (fun _ => ?_) | refine WP.condND (by rfl) (fun _ => ?_) (fun _ => ?_) | refine WP.condN (by rfl) (fun _ => ?_) (fun _ => ?_) | refine WP.cond (by rfl) (fun _ => ?_) (fun _ => ?_) | fail
    · rename_i hlt
      have hlt' : j < y.1.length := by omega
      have hri := hy.row _ (List.getElem_mem hlt')
      repeat' (first | refine WL.step (o_s (by rfl) ?_) | refine WL.step (o_len (by rfl) ?_) | refine WL.step (o_add (by rfl) (by rfl) (by unfold InI; omega) ?_) | refine WL.step (o_sub (by rfl) (by rfl) (by unfold InI; omega) ?_) | refine WL.step (OpW.pass (by rfl) ?_) | refine WL.nil ?_ | refine thenN ?_ | refine WP.region ?_ | refine WP.seq ?_ | refine WP.block ?_ | refine thenR ?_ | refine thenX ?_ | refine blkN ?_ | refine blkHit ?_ | refine blkR ?_ | refine blkMiss (by rfl) ?_ | refine WP.ret ?_ | refine WP.exit ?_ | refine WP.skip ?_ | refine WP.label ?_ | refine WP.condT (by rfl) ?_ | refine WP.condF (by rfl) ?_ | fail)
      refine WP.drawn (fun w' => Below w4.heap.size w5 w') [(0, true), (1, true), (2, true), (3, true), (5, true), (6, true), (7, true), (8, true), (9, true), (4, false), (10, false), (11, false), (12, false), (13, true), (1014, false)] (by kernel_rfl) mixed ?_
      intro w6 hs6
      have hS6 : Below w5.heap.size w5 w6 := hs6.below _
      have hz6 := hs6.size
      have hT6 : Below w4.heap.size w5 w6 := Below.mono hS6 (by omega)
      refine WS.fld rfl rfl (fun w' h => hb5.below h (by omega)) hT6 ?_
      intro p6
      refine WS.fld rfl rfl (fun w' h => hb15.below h (by omega)) hT6 ?_
      intro p7
      refine WS.fld rfl rfl (fun w' h => hb15'.below h (by omega)) hT6 ?_
      intro p8
      repeat' (first | refine WS.q rfl (q_s (by rfl)) (by first | rfl | assumption) ?_ | refine WS.q rfl (q_len (by rfl)) (by first | rfl | assumption) ?_ | refine WS.q rfl (q_add (by rfl) (by rfl) (by unfold InI; omega)) (by first | rfl | assumption) ?_ | refine WS.q rfl (q_sub (by rfl) (by rfl) (by unfold InI; omega)) (by first | rfl | assumption) ?_ | refine WS.q rfl (q_pass (by rfl)) (by first | rfl | assumption) ?_ | refine WS.nil ?_ | fail)
      refine WS.ixload rfl rfl (hA5'.still IS.stable hs6) (List.getElem?_eq_getElem hlt') (fun w' hw' => same_below hT6 hw' (by omega)) hT6 ?_
      intro p5 u hu
      refine WS.call rfl (l01Own_any (hB5.still RI.stable hs6) (by omega)) ?_
      intro v7 w7 hN7
      have hz7 := hN7.2.size
      have hS7 : Below w5.heap.size w5 w7 := hS6.trans (Below.mono hN7.2 (by omega))
      refine ⟨Below.mono hS7 (by omega), ?_⟩
      refine WS.op rfl (o_append (news := Ints y.1[j]) (by rfl) (by rfl) hN7.1 (IS.src (hu.below RI.stable hN7.2 (by omega))) Ints_one (by rw [Ints_length, Ints_length]; unfold maxLen; omega) (by rw [Ints_length, Ints_length]; omega) (by omega) ?_)
      intro vr w10 hown10 hg10 hbl10 _
      have hz10 := hg10.size
      have hS10 : Below w5.heap.size w5 w10 := hS7.trans (Below.mono hbl10 (by omega))
      refine ⟨Below.mono hS10 (by omega), ?_⟩
      have oR : OwI 2 w6.heap.size w10.heap.size w10 vr (x.2 ++ y.1[j]) := ⟨by rw [Ints_append]; exact hown10, fun k hk => (hown10.block k hk).2, Nat.le_refl _⟩
      refine WS.pushRow rfl rfl rfl rfl (Below.mono hS10 (by omega)) (hb5.below hS10 (by omega)) rfl (by omega) (Nat.le_refl _) (by omega) (by omega) (oA.chg (Chg.of_below hS10) (by omega)) (by omega) (by omega) oR (by rw [List.length_take]; omega) (by decide) ?_
      intro p9 v11 v12 w11 w12 h12 hb12 oA12 hbl11 hbut12
      refine WS.nil ?_
      repeat' (first | refine WL.step (o_s (by rfl) ?_) | refine WL.step (o_len (by rfl) ?_) | refine WL.step (o_add (by rfl) (by rfl) (by unfold InI; omega) ?_) | refine WL.step (o_sub (by rfl) (by rfl) (by unfold InI; omega) ?_) | refine WL.step (OpW.pass (by rfl) ?_) | refine WL.nil ?_ | refine thenN ?_ | refine WP.region ?_ | refine WP.seq ?_ | refine WP.block ?_ | refine thenR ?_ | refine thenX ?_ | refine blkN ?_ | refine blkHit ?_ | refine blkR ?_ | refine blkMiss (by rfl) ?_ | refine WP.ret ?_ | refine WP.exit ?_ | refine WP.skip ?_ | refine WP.label ?_ | refine WP.condT (by rfl) ?_ | refine WP.condF (by rfl) ?_ | fail)
      refine ⟨(j + 1, v12), ⟨rfl, rfl, rfl, rfl, (by first | rfl | (show some (Value.int .i64 _) = some (Value.int .i64 _); refine congrArg some (congrArg (Value.int IntKind.i64) ?_); omega)), trivial⟩, ⟨by dsimp only; omega, h12, hb12, ?_, ((hc5.thenBelow (Below.mono hS10 (by omega))).thenBelow hbl11).thenBut hbut12 (Nat.le_refl _) (by omega)⟩, by dsimp only; omega⟩
      dsimp only
      rw [show x.1.length + (j + 1) = (x.1.length + j) + 1 from by omega, take_snoc (show x.1.length + j < (compA x y).length by omega) (compA_get_right x y hlt' (by omega))]
      exact oA12
    · rename_i hge
      have : j = y.1.length := by omega
      subst this
      rw [List.take_of_length_le (by omega)] at oA
      have hb25 := hb2.chg hc5 (by omega)
      have oB5 : Own w2.heap.size 2 w5 (.slice aq (x.2 ++ y.2).length cq) (Ints (x.2 ++ y.2)) := oB.keep fun k hk => hc5.block k (oB.block k hk).2 (by have := oB.ne_blk hb4 (by decide) hk; omega)
      repeat' (first | refine WL.step (o_s (by rfl) ?_) | refine WL.step (o_len (by rfl) ?_) | refine WL.step (o_add (by rfl) (by rfl) (by unfold InI; omega) ?_) | refine WL.step (o_sub (by rfl) (by rfl) (by unfold InI; omega) ?_) | refine WL.step (OpW.pass (by rfl) ?_) | refine WL.nil ?_ | refine thenN ?_ | refine WP.region ?_ | refine WP.seq ?_ | refine WP.block ?_ | refine thenR ?_ | refine thenX ?_ | refine blkN ?_ | refine blkHit ?_ | refine blkR ?_ | refine blkMiss (by rfl) ?_ | refine WP.ret ?_ | refine WP.exit ?_ | refine WP.skip ?_ | refine WP.label ?_ | refine WP.condT (by rfl) ?_ | refine WP.condF (by rfl) ?_ | fail)
      refine WL.step (o_loadS (by rfl) hb5 (by rfl) ?_)
      refine WL.step (o_storeS (vs := [vq, .slice aq (x.2 ++ y.2).length cq]) (by rfl) (by rfl) hb25 (by rfl) (by rfl) (two1 hone rfl) ?_)
      intro w6 hb6 hbut6
      have hc6 := hbut6.chg
      have hz6 := hbut6.size
      repeat' (first | refine WL.step (o_s (by rfl) ?_) | refine WL.step (o_len (by rfl) ?_) | refine WL.step (o_add (by rfl) (by rfl) (by unfold InI; omega) ?_) | refine WL.step (o_sub (by rfl) (by rfl) (by unfold InI; omega) ?_) | refine WL.step (OpW.pass (by rfl) ?_) | refine WL.nil ?_ | refine thenN ?_ | refine WP.region ?_ | refine WP.seq ?_ | refine WP.block ?_ | refine thenR ?_ | refine thenX ?_ | refine blkN ?_ | refine blkHit ?_ | refine blkR ?_ | refine blkMiss (by rfl) ?_ | refine WP.ret ?_ | refine WP.exit ?_ | refine WP.skip ?_ | refine WP.label ?_ | refine WP.condT (by rfl) ?_ | refine WP.condF (by rfl) ?_ | fail)
      refine ⟨_, retS rfl (by rfl) hb6 (by rfl), ?_, ?_⟩
      · have h1 : OwSS 28 2 w4.heap.size w6.heap.size w6 vq (composeL x y).1 := (oA.chg hc6 (by omega)).wide (Nat.le_refl _) (by omega) (Nat.le_refl _)
        have h2 : OwI 2 w.heap.size w4.heap.size w6 (.slice aq (x.2 ++ y.2).length cq) (composeL x y).2 :=
          ⟨(oB5.keep fun k hk => hbut6.block k (by have := (oB5.block k hk).1; omega)).lower (by omega), fun k hk => (oB.block k hk).2, by omega⟩
        exact OwT.mk' h1 h2 (by omega) (by omega)
      · have hc : Chg 0 0 w w4 := Chg.of_below hbl14
        refine ⟨by rw [hc6.os, hc5.os, hc.os], by rw [hc6.tape, hc5.tape, hc.tape], by rw [hc6.output, hc5.output, hc.output], by omega, fun k hk hd => ?_⟩
        rw [hc6.block k (by omega) (by omega), hc5.block k (by omega) (by omega), hc.block k hk (by omega)]
end Go.Proofs
