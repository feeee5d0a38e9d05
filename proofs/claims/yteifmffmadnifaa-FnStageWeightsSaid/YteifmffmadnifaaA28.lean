/- The branches of a tree: the reference's way. -/
import Derived.Test.YteifmffmadnifaaHB
import Derived.Test.YteifmffmadnifaaA27
namespace Go.Fw
open Go Go.RowKit
theorem Own.raise {lo : Nat} {e : TypeId} {w : World} {v : Value} {us : List Value} (h : Own lo e w v us) {g : Nat} (hg : v.ownBlock = some g) : Own g e w v us := by
  obtain ⟨h1, ⟨rfl, h0⟩ | ⟨g', cap, cur, rfl, hb, rest⟩⟩ := h
  · simp [Value.ownBlock] at hg
  · simp [Value.ownBlock] at hg
    subst hg
    exact ⟨h1, .inr ⟨g', cap, cur, rfl, Nat.le_refl _, rest⟩⟩
end Go.Fw
namespace Go.Proofs
open Go Go.Fw Go.RowKit Go.Rk
theorem pushB_set (out : List (List Int)) (l : Int) (h : l = 1 ∨ out ≠ []) {o' : List (List Int)} (ho : o' = if l = 1 then out ++ [[]] else out) : pushB out l = o'.set (o'.length - 1) ((o'[o'.length - 1]?.getD []) ++ [l - 1]) := by
  unfold pushB
  by_cases h1 : l = 1
  · rw [if_pos h1] at ho ⊢
    subst ho
    simp
  · rw [if_neg h1] at ho ⊢
    subst ho
    rfl
theorem l03Parts_any {lo hi : Nat} {w : World} {v : Value} {t : List Int} (h : IS lo hi w v t) (ht : Lv t) (hn : t.length ≤ 8) : Does Try.prog 158 [v] w fun r w' => NewSS 23 2 w r w' (branchesL t) := by
  obtain ⟨a, c, hv⟩ := h.shape
  subst hv
  have hz := h.hi_le
  have hp := ht.pos
  refine Does.enter Try.func158 Try.ntmps158 rfl (by rfl) ?_
  repeat' (first | refine WL.step (o_s (by rfl) ?_) | refine WL.step (o_len (by rfl) ?_) | refine WL.step (o_add (by rfl) (by rfl) (by unfold InI; omega) ?_) | refine WL.step (o_sub (by rfl) (by rfl) (by unfold InI; omega) ?_) | refine WL.step (OpW.pass (by rfl) ?_) | refine WL.nil ?_ | refine thenN ?_ | refine WP.region ?_ | refine WP.seq ?_ | refine WP.block ?_ | refine thenR ?_ | refine thenX ?_ | refine blkN ?_ | refine blkHit ?_ | refine blkR ?_ | refine blkMiss (by rfl) ?_ | refine WP.ret ?_ | refine WP.exit ?_ | refine WP.skip ?_ | refine WP.label ?_ | refine WP.condT (by rfl) ?_ | refine WP.condF (by rfl) ?_ | fail)
  refine WL.step (o_lit (us := []) (by rfl) (by rfl) rfl (by decide) one0 ?_)
  intro v1 w1 hown1 hbl1 hz1 _
  repeat' (first | refine WL.step (o_s (by rfl) ?_) | refine WL.step (o_len (by rfl) ?_) | refine WL.step (o_add (by rfl) (by rfl) (by unfold InI; omega) ?_) | refine WL.step (o_sub (by rfl) (by rfl) (by unfold InI; omega) ?_) | refine WL.step (OpW.pass (by rfl) ?_) | refine WL.nil ?_ | refine thenN ?_ | refine WP.region ?_ | refine WP.seq ?_ | refine WP.block ?_ | refine thenR ?_ | refine thenX ?_ | refine blkN ?_ | refine blkHit ?_ | refine blkR ?_ | refine blkMiss (by rfl) ?_ | refine WP.ret ?_ | refine WP.exit ?_ | refine WP.skip ?_ | refine WP.label ?_ | refine WP.condT (by rfl) ?_ | refine WP.condF (by rfl) ?_ | fail)
  refine WP.loop (fun (s : Nat × Value) => [(0, .slice a t.length c), (3, s.2), (4, .int .i64 (s.1 : Nat))])
    (fun s w2 => 1 ≤ s.1 ∧ s.1 ≤ t.length ∧ (∃ vs, OwSSv 23 2 w.heap.size w2.heap.size w2 s.2 vs (brI t s.1)) ∧ Below w.heap.size w w2)
    (fun s => t.length - s.1) (1, v1) ⟨rfl, rfl, rfl, trivial⟩ ⟨Nat.le_refl _, hp, ⟨[], by rw [brI_one]; exact OwSSv.none hown1 (by decide)⟩, hbl1⟩ ?_
  rintro ⟨i, vo⟩ w2 ⟨hi0, hi1, ⟨vs, oA⟩, hbl2⟩
  dsimp only at hi0 hi1 oA ⊢
  have hz2 := hbl2.size
  repeat' (first | refine WL.step (o_s (by rfl) ?_) | refine WL.step (o_len (by rfl) ?_) | refine WL.step (o_add (by rfl) (by rfl) (by unfold InI; omega) ?_) | refine WL.step (o_sub (by rfl) (by rfl) (by unfold InI; omega) ?_) | refine WL.step (OpW.pass (by rfl) ?_) | refine WL.nil ?_ | refine thenN ?_ | refine WP.region ?_ | refine WP.seq ?_ | refine WP.block ?_ | refine thenR ?_ | refine thenX ?_ | refine blkN ?_ | refine blkHit ?_ | refine blkR ?_ | refine blkMiss (by rfl) ?_ | refine WP.ret ?_ | refine WP.exit ?_ | refine WP.skip ?_ | refine WP.label ?_ | refine WP.condT (by rfl) ?_ | refine WP.condF (by rfl) ?_ | fail)
  first | refine WP.condD (by rfl) (fun _ => ?_) (fun _ => ?_) | refine WP.condND (by rfl) (fun _ => ?_) (fun _ => ?_) | refine WP.condN (by rfl) (fun _ => ?_) (fun _ => ?_) | refine WP.cond (by rfl) (fun _ => ?_) (fun _ => ?_) | fail
  · rename_i hlt
    have hlt' : i < t.length := by omega
    have hok := brOk ht hi0 hi1
    have hlev := ht.next hi0 hlt'
    have hbd := ht.bd hlt'
    have hsucc := brI_succ (t := t) hi0 hlt'
    obtain ⟨out, hout⟩ : ∃ out, brI t i = out := ⟨_, rfl⟩
    rw [hout] at oA hok hsucc
    have hlen := hok.len
    have hvl : vs.length = out.length := oA.len
    have hne : t[i] = 1 ∨ out ≠ [] := by
      by_cases h1 : t[i] = 1
      · exact .inl h1
      · right
        have hi2 : 2 ≤ i := by
          apply Classical.byContradiction
          intro hno
          have hb := ht.bd (show i - 1 < t.length by omega)
          omega
        obtain ⟨init, b, hib, _⟩ := hok.last hi2
        rw [hib]; simp
    have hpush := pushB_set out t[i] hne rfl
    repeat' (first | refine WL.step (o_s (by rfl) ?_) | refine WL.step (o_len (by rfl) ?_) | refine WL.step (o_add (by rfl) (by rfl) (by unfold InI; omega) ?_) | refine WL.step (o_sub (by rfl) (by rfl) (by unfold InI; omega) ?_) | refine WL.step (OpW.pass (by rfl) ?_) | refine WL.nil ?_ | refine thenN ?_ | refine WP.region ?_ | refine WP.seq ?_ | refine WP.block ?_ | refine thenR ?_ | refine thenX ?_ | refine blkN ?_ | refine blkHit ?_ | refine blkR ?_ | refine blkMiss (by rfl) ?_ | refine WP.ret ?_ | refine WP.exit ?_ | refine WP.skip ?_ | refine WP.label ?_ | refine WP.condT (by rfl) ?_ | refine WP.condF (by rfl) ?_ | fail)
    refine WL.ixload (h.below RI.stable hbl2 hz) (List.getElem?_eq_getElem hlt') ?_
    rintro p1 _ rfl
    repeat' (first | refine WL.step (o_s (by rfl) ?_) | refine WL.step (o_len (by rfl) ?_) | refine WL.step (o_add (by rfl) (by rfl) (by unfold InI; omega) ?_) | refine WL.step (o_sub (by rfl) (by rfl) (by unfold InI; omega) ?_) | refine WL.step (OpW.pass (by rfl) ?_) | refine WL.nil ?_ | refine thenN ?_ | refine WP.region ?_ | refine WP.seq ?_ | refine WP.block ?_ | refine thenR ?_ | refine thenX ?_ | refine blkN ?_ | refine blkHit ?_ | refine blkR ?_ | refine blkMiss (by rfl) ?_ | refine WP.ret ?_ | refine WP.exit ?_ | refine WP.skip ?_ | refine WP.label ?_ | refine WP.condT (by rfl) ?_ | refine WP.condF (by rfl) ?_ | fail)
    refine WP.mid (fun l' w' => ∃ vo' vs', Agree l' [(0, .slice a t.length c), (3, vo'), (4, .int .i64 (i : Nat))] ∧ OwSSv 23 2 w.heap.size w'.heap.size w' vo' vs' (if t[i] = 1 then out ++ [[]] else out) ∧ Below w.heap.size w w') ?_ ?_
    · first | refine WP.condD (by rfl) (fun _ => ?_) (fun _ => ?_) | refine WP.condND (by rfl) (fun _ => ?_) (fun _ => ?_) | refine WP.condN (by rfl) (fun _ => ?_) (fun _ => ?_) | refine WP.cond (by rfl) (fun _ => ?_) (fun _ => ?_) | fail
      · rename_i hone
        rw [if_pos hone]
        repeat' (first | refine WL.step (o_s (by rfl) ?_) | refine WL.step (o_len (by rfl) ?_) | refine WL.step (o_add (by rfl) (by rfl) (by unfold InI; omega) ?_) | refine WL.step (o_sub (by rfl) (by rfl) (by unfold InI; omega) ?_) | refine WL.step (OpW.pass (by rfl) ?_) | refine WL.nil ?_ | refine thenN ?_ | refine WP.region ?_ | refine WP.seq ?_ | refine WP.block ?_ | refine thenR ?_ | refine thenX ?_ | refine blkN ?_ | refine blkHit ?_ | refine blkR ?_ | refine blkMiss (by rfl) ?_ | refine WP.ret ?_ | refine WP.exit ?_ | refine WP.skip ?_ | refine WP.label ?_ | refine WP.condT (by rfl) ?_ | refine WP.condF (by rfl) ?_ | fail)
        refine WL.step (o_lit (us := []) (by rfl) (by rfl) rfl (by decide) one0 ?_)
        intro v3 w3 hown3 hbl3 hz3 hv3
        have oA3 := oA.chg (Chg.of_below hbl3) (by omega)
        refine o_append1 (u := v3) (fun _ => by rfl) (by rfl) oA3.own (by rw [hv3]; rfl) (by simp [hvl, maxLen]; omega) (by simp [hvl]; omega) (by omega) ?_
        intro p2 v4 w4 hown4 hbl4 hf4 hz4 _
        have o4 := oA3.snoc (⟨hown3, fun k hk => (hown3.block k hk).2, Nat.le_refl _⟩ : OwI 2 w2.heap.size w3.heap.size w3 v3 []) (Nat.le_refl _) (by omega) hown4 (by omega) hf4
        repeat' (first | refine WL.step (o_s (by rfl) ?_) | refine WL.step (o_len (by rfl) ?_) | refine WL.step (o_add (by rfl) (by rfl) (by unfold InI; omega) ?_) | refine WL.step (o_sub (by rfl) (by rfl) (by unfold InI; omega) ?_) | refine WL.step (OpW.pass (by rfl) ?_) | refine WL.nil ?_ | refine thenN ?_ | refine WP.region ?_ | refine WP.seq ?_ | refine WP.block ?_ | refine thenR ?_ | refine thenX ?_ | refine blkN ?_ | refine blkHit ?_ | refine blkR ?_ | refine blkMiss (by rfl) ?_ | refine WP.ret ?_ | refine WP.exit ?_ | refine WP.skip ?_ | refine WP.label ?_ | refine WP.condT (by rfl) ?_ | refine WP.condF (by rfl) ?_ | fail)
        exact ⟨v4, _, ⟨rfl, rfl, rfl, trivial⟩, o4, (hbl2.trans (Below.mono hbl3 (by omega))).trans hbl4⟩
      · rename_i hmore
        rw [if_neg hmore]
        repeat' (first | refine WL.step (o_s (by rfl) ?_) | refine WL.step (o_len (by rfl) ?_) | refine WL.step (o_add (by rfl) (by rfl) (by unfold InI; omega) ?_) | refine WL.step (o_sub (by rfl) (by rfl) (by unfold InI; omega) ?_) | refine WL.step (OpW.pass (by rfl) ?_) | refine WL.nil ?_ | refine thenN ?_ | refine WP.region ?_ | refine WP.seq ?_ | refine WP.block ?_ | refine thenR ?_ | refine thenX ?_ | refine blkN ?_ | refine blkHit ?_ | refine blkR ?_ | refine blkMiss (by rfl) ?_ | refine WP.ret ?_ | refine WP.exit ?_ | refine WP.skip ?_ | refine WP.label ?_ | refine WP.condT (by rfl) ?_ | refine WP.condF (by rfl) ?_ | fail)
        exact ⟨vo, _, ⟨rfl, rfl, rfl, trivial⟩, oA, hbl2⟩
    rintro l3 w3 ⟨vo3, vs3, hag, o3, hbl3⟩
    refine WP.frame _ hag ?_
    clear hag
    have hrows : ∀ b ∈ (if t[i] = 1 then out ++ [[]] else out), b.length ≤ 8 := fun b hb => by
      split at hb
      · rcases List.mem_append.1 hb with hb | hb
        · have := (hok.each b hb).2; omega
        · simp only [List.mem_singleton] at hb; subst hb; simp
      · have := (hok.each b hb).2; omega
    have holen : 1 ≤ (if t[i] = 1 then out ++ [[]] else out).length ∧ (if t[i] = 1 then out ++ [[]] else out).length ≤ 9 := by
      split
      · simp; omega
      · rename_i h1
        rcases hne with h2 | h2
        · exact absurd h2 h1
        · have := List.length_pos_iff.2 h2
          omega
    obtain ⟨o', ho'⟩ : ∃ o', (if t[i] = 1 then out ++ [[]] else out) = o' := ⟨_, rfl⟩
    rw [ho'] at o3 hrows holen hpush
    have hvl3 : vs3.length = o'.length := o3.len
    have hz3 := hbl3.size
    obtain ⟨g, cg, hv3, hg1, hg2, _, _, hob⟩ := o3.own.cell (i := 0) (List.getElem?_eq_getElem (show 0 < vs3.length by omega))
    rw [hvl3] at hv3
    subst hv3
    have hvi : o'.length - 1 < vs3.length := by omega
    have hxi : o'.length - 1 < o'.length := by omega
    have hrow := o3.rows (o'.length - 1) vs3[o'.length - 1] o'[o'.length - 1] (List.getElem?_eq_getElem hvi) (List.getElem?_eq_getElem hxi)
    have hrl := hrows _ (List.getElem_mem hxi)
    obtain ⟨u, hu⟩ : ∃ u, vs3[o'.length - 1] = u := ⟨_, rfl⟩
    rw [hu] at hrow
    have hug : u.ownBlock ≠ some g := o3.own.ne_block hrow.own o3.ne hob
    repeat' (first | refine WL.step (o_s (by rfl) ?_) | refine WL.step (o_len (by rfl) ?_) | refine WL.step (o_add (by rfl) (by rfl) (by unfold InI; omega) ?_) | refine WL.step (o_sub (by rfl) (by rfl) (by unfold InI; omega) ?_) | refine WL.step (OpW.pass (by rfl) ?_) | refine WL.nil ?_ | refine thenN ?_ | refine WP.region ?_ | refine WP.seq ?_ | refine WP.block ?_ | refine thenR ?_ | refine thenX ?_ | refine blkN ?_ | refine blkHit ?_ | refine blkR ?_ | refine blkMiss (by rfl) ?_ | refine WP.ret ?_ | refine WP.exit ?_ | refine WP.skip ?_ | refine WP.label ?_ | refine WP.condT (by rfl) ?_ | refine WP.condF (by rfl) ?_ | fail)
    refine WP.drawn (fun w' => Below w.heap.size w w' ∧ w3.heap.size ≤ w'.heap.size ∧ ∀ k, k < w3.heap.size → u.ownBlock ≠ some k → w'.heap[k]? = w3.heap[k]?) [(0, true), (1, true), (2, true), (3, true), (4, true), (5, true), (6, true), (7, true), (8, true), (9, true), (10, true), (11, false), (12, false), (13, true), (1014, false)] (by kernel_rfl) mixed ?_
    intro w4 hs4
    have hz4 := hs4.size
    have hS4 : Below w.heap.size w w4 ∧ w3.heap.size ≤ w4.heap.size ∧ ∀ k, k < w3.heap.size → u.ownBlock ≠ some k → w4.heap[k]? = w3.heap[k]? := ⟨hbl3.trans (hs4.below _), by omega, fun k _ _ => by rw [hs4.heap]⟩
    have own4 := o3.own.still hs4
    repeat' (first | refine WS.q rfl (q_s (by rfl)) (by first | rfl | assumption) ?_ | refine WS.q rfl (q_len (by rfl)) (by first | rfl | assumption) ?_ | refine WS.q rfl (q_add (by rfl) (by rfl) (by unfold InI; omega)) (by first | rfl | assumption) ?_ | refine WS.q rfl (q_sub (by rfl) (by rfl) (by unfold InI; omega)) (by first | rfl | assumption) ?_ | refine WS.q rfl (q_pass (by rfl)) (by first | rfl | assumption) ?_ | refine WS.nil ?_ | fail)
    refine WS.ixload (R := fun _ _ _ u x => u = x) (xs := vs3) (a := u) (j := o'.length - 1) (lo := g) (hi := g + 1) rfl rfl ?_ (by rw [List.getElem?_eq_getElem hvi, hu]) (fun w' hw' k hk1 hk2 => ?_) hS4 ?_
    · exact (own4.raise hob).toSL rfl (Nat.le_refl _) (fun k hk => by rw [hob] at hk; simp only [Option.some.injEq] at hk; omega) (by omega) (fun i u x hu hx => by rw [hu] at hx; simpa using hx)
    · obtain rfl : k = g := by omega
      rw [hw'.2.2 k (by omega) hug, hS4.2.2 k (by omega) hug]
    intro p2 u' hu'
    rw [show u' = u from hu']
    repeat' (first | refine WS.q rfl (q_s (by rfl)) (by first | rfl | assumption) ?_ | refine WS.q rfl (q_len (by rfl)) (by first | rfl | assumption) ?_ | refine WS.q rfl (q_add (by rfl) (by rfl) (by unfold InI; omega)) (by first | rfl | assumption) ?_ | refine WS.q rfl (q_sub (by rfl) (by rfl) (by unfold InI; omega)) (by first | rfl | assumption) ?_ | refine WS.q rfl (q_pass (by rfl)) (by first | rfl | assumption) ?_ | refine WS.nil ?_ | fail)
    refine WS.ixload rfl rfl (h.below RI.stable hS4.1 hz) (List.getElem?_eq_getElem hlt') (fun w' hw' => same_below hS4.1 hw'.1 hz) hS4 ?_
    rintro p3 _ rfl
    repeat' (first | refine WS.q rfl (q_s (by rfl)) (by first | rfl | assumption) ?_ | refine WS.q rfl (q_len (by rfl)) (by first | rfl | assumption) ?_ | refine WS.q rfl (q_add (by rfl) (by rfl) (by unfold InI; omega)) (by first | rfl | assumption) ?_ | refine WS.q rfl (q_sub (by rfl) (by rfl) (by unfold InI; omega)) (by first | rfl | assumption) ?_ | refine WS.q rfl (q_pass (by rfl)) (by first | rfl | assumption) ?_ | refine WS.nil ?_ | fail)
    refine WS.op rfl (o_lit (us := [.int .i64 (t[i] - 1)]) (by rfl) (by rfl) rfl (by decide) (one1 rfl) ?_)
    intro v5 w5 hown5 hbl5 hz5 _
    have hS5 : Below w.heap.size w w5 ∧ w3.heap.size ≤ w5.heap.size ∧ ∀ k, k < w3.heap.size → u.ownBlock ≠ some k → w5.heap[k]? = w3.heap[k]? := ⟨hS4.1.trans (Below.mono hbl5 (by omega)), by omega, fun k hk hk2 => by rw [hbl5.block k (by omega)]; exact hS4.2.2 k hk hk2⟩
    refine ⟨hS5, ?_⟩
    refine WS.op rfl (o_appendK (us := Ints o'[o'.length - 1]) (news := [.int .i64 (t[i] - 1)]) (by rfl) (by rfl) ((hrow.own.still hs4).below hbl5 (Nat.le_refl _)) hown5.src (one1 rfl) (by simp [Ints, maxLen]; omega) (by simp [Ints]; omega) (by omega) (by simp) ?_)
    intro v6 w6 hown6 hg6 hbl6 hk6
    have hz6 := hg6.size
    have hf6 : ∀ k, k < w3.heap.size → u.ownBlock ≠ some k → w6.heap[k]? = w3.heap[k]? := fun k hk hk2 => by rw [hg6.block k (by omega) (fun e => hk2 e.symm)]; exact hS5.2.2 k hk hk2
    have hS6 : Below w.heap.size w w6 ∧ w3.heap.size ≤ w6.heap.size ∧ ∀ k, k < w3.heap.size → u.ownBlock ≠ some k → w6.heap[k]? = w3.heap[k]? := ⟨hS5.1.trans hbl6, by omega, hf6⟩
    refine ⟨hS6, ?_⟩
    obtain ⟨a6, c6, hv6, _⟩ := hown6.shape
    have own6' := o3.own.keep (w' := w6) fun k hk => hf6 k (o3.own.block k hk).2 (o3.own.ne_block hrow.own o3.ne hk)
    refine WS.ixstore (j := o'.length - 1) rfl rfl hS6 own6' hvi ?_ (hu := by rw [hv6]; rfl)
    intro p5 w7 hown7 hbl7 hz7 hf7
    have oN := o3.pushRow (zs := o'[o'.length - 1] ++ [t[i] - 1]) (by rw [List.getElem?_eq_getElem hvi, hu]) (List.getElem?_eq_getElem hxi) (by rw [Ints_append]; exact hown6) hf6 (by omega) (fun k hk => (hk6 k hk).imp id (fun h => by omega)) hown7 hf7 hz7
    have hB : brI t (i + 1) = o'.set (o'.length - 1) (o'[o'.length - 1] ++ [t[i] - 1]) := by
      rw [hsucc, hpush, List.getElem?_eq_getElem hxi]
      rfl
    rw [← hB] at oN
    refine WS.nil ?_
    repeat' (first | refine WL.step (o_s (by rfl) ?_) | refine WL.step (o_len (by rfl) ?_) | refine WL.step (o_add (by rfl) (by rfl) (by unfold InI; omega) ?_) | refine WL.step (o_sub (by rfl) (by rfl) (by unfold InI; omega) ?_) | refine WL.step (OpW.pass (by rfl) ?_) | refine WL.nil ?_ | refine thenN ?_ | refine WP.region ?_ | refine WP.seq ?_ | refine WP.block ?_ | refine thenR ?_ | refine thenX ?_ | refine blkN ?_ | refine blkHit ?_ | refine blkR ?_ | refine blkMiss (by rfl) ?_ | refine WP.ret ?_ | refine WP.exit ?_ | refine WP.skip ?_ | refine WP.label ?_ | refine WP.condT (by rfl) ?_ | refine WP.condF (by rfl) ?_ | fail)
    exact ⟨(i + 1, .slice (some ⟨g, 0, none⟩) o'.length cg), ⟨rfl, rfl, (by first | rfl | (show some (Value.int .i64 _) = some (Value.int .i64 _); refine congrArg some (congrArg (Value.int IntKind.i64) ?_); omega)), trivial⟩, ⟨by dsimp only; omega, by dsimp only; omega, ⟨_, oN⟩, hS6.1.trans hbl7⟩, by dsimp only; omega⟩
  · rename_i hge
    have hie : i = t.length := by omega
    rw [hie] at oA
    repeat' (first | refine WL.step (o_s (by rfl) ?_) | refine WL.step (o_len (by rfl) ?_) | refine WL.step (o_add (by rfl) (by rfl) (by unfold InI; omega) ?_) | refine WL.step (o_sub (by rfl) (by rfl) (by unfold InI; omega) ?_) | refine WL.step (OpW.pass (by rfl) ?_) | refine WL.nil ?_ | refine thenN ?_ | refine WP.region ?_ | refine WP.seq ?_ | refine WP.block ?_ | refine thenR ?_ | refine thenX ?_ | refine blkN ?_ | refine blkHit ?_ | refine blkR ?_ | refine blkMiss (by rfl) ?_ | refine WP.ret ?_ | refine WP.exit ?_ | refine WP.skip ?_ | refine WP.label ?_ | refine WP.condT (by rfl) ?_ | refine WP.condF (by rfl) ?_ | fail)
    refine ⟨_, ret1 rfl (by rfl), ?_⟩
    exact ⟨⟨vs, oA⟩, hbl2⟩
end Go.Proofs
