/- The branches of a tree: the program's way and the reference's. -/
import Derived.Test.YteifmffmadnifaaA25
import Derived.Test.YteifmffmadnifaaA23
import Derived.Test.YteifmffmadnifaaA26
namespace Go.Fw
open Go Go.RowKit
/-- A row grows by one, in place or anew, and is put back. -/
theorem OwSSv.pushRow {e e2 lo hi i : Nat} {w w1 w2 : World} {v v' u : Value} {vs : List Value} {xss : List (List Int)} {ys zs : List Int} (h : OwSSv e e2 lo hi w v vs xss) (hu : vs[i]? = some u) (hx : xss[i]? = some ys)
    (o1 : Own lo e2 w1 v' (Ints zs)) (f1 : ∀ k, k < w.heap.size → u.ownBlock ≠ some k → w1.heap[k]? = w.heap[k]?) (z1 : w.heap.size ≤ w1.heap.size) (b1 : ∀ k, v'.ownBlock = some k → u.ownBlock = some k ∨ w.heap.size ≤ k)
    (o2 : Own lo e w2 v (vs.set i v')) (f2 : ∀ k, v.ownBlock ≠ some k → w2.heap[k]? = w1.heap[k]?) (z2 : w2.heap.size = w1.heap.size) : OwSSv e e2 lo w2.heap.size w2 v (vs.set i v') (xss.set i zs) := by
  have hi' : i < vs.length := (List.getElem?_eq_some_iff.1 hu).1
  have hxi : i < xss.length := (List.getElem?_eq_some_iff.1 hx).1
  have hru := h.rows i u ys hu hx
  have hhi := h.hi_le
  have own1 : Own lo e w1 v vs := h.own.keep fun k hk => f1 k (h.own.block k hk).2 (h.own.ne_block hru.own h.ne hk)
  refine ⟨o2, fun k hk => (o2.block k hk).2, Nat.le_refl _, by simpa using h.len, fun j u' xs' hu' hx' => ?_, fun j j' u1 u2 hne h1 h2 k hk => ?_, h.ne⟩
  · by_cases hij : i = j
    · subst hij
      rw [List.getElem?_set_self hi'] at hu'
      rw [List.getElem?_set_self hxi] at hx'
      simp only [Option.some.injEq] at hu' hx'
      subst hu' hx'
      exact ⟨o1.keep fun k hk => f2 k fun e' => own1.ne_block o1 h.ne e' hk, fun k hk => by rw [z2]; exact (o1.block k hk).2, Nat.le_refl _⟩
    · rw [List.getElem?_set_ne hij] at hx' hu'
      have hr := h.rows j u' xs' hu' hx'
      have hr1 : Own lo e2 w1 u' (Ints xs') := hr.own.keep fun k hk => f1 k (hr.own.block k hk).2 (fun e' => h.apart j i u' u (fun e => hij e.symm) hu' hu k hk e')
      exact ⟨hr1.keep fun k hk => f2 k fun e' => own1.ne_block hr1 h.ne e' hk, fun k hk => by have := hr.lt k hk; omega, Nat.le_refl _⟩
  · by_cases hij : i = j
    · subst hij
      rw [List.getElem?_set_self hi'] at h1
      rw [List.getElem?_set_ne hne] at h2
      simp only [Option.some.injEq] at h1
      subst h1
      obtain ⟨xs2, hx2⟩ : ∃ xs, xss[j']? = some xs := ⟨_, List.getElem?_eq_getElem (by rw [← h.len]; exact (List.getElem?_eq_some_iff.1 h2).1)⟩
      rcases b1 k hk with hb | hb
      · exact h.apart i j' u u2 hne hu h2 k hb
      · intro e'
        have := (h.rows j' u2 xs2 h2 hx2).lt k e'
        omega
    · rw [List.getElem?_set_ne hij] at h1
      by_cases hij' : i = j'
      · subst hij'
        rw [List.getElem?_set_self hi'] at h2
        simp only [Option.some.injEq] at h2
        subst h2
        obtain ⟨xs1, hx1⟩ : ∃ xs, xss[j]? = some xs := ⟨_, List.getElem?_eq_getElem (by rw [← h.len]; exact (List.getElem?_eq_some_iff.1 h1).1)⟩
        intro e'
        rcases b1 k e' with hb | hb
        · exact h.apart j i u1 u hne h1 hu k hk hb
        · have := (h.rows j u1 xs1 h1 hx1).lt k hk
          omega
      · rw [List.getElem?_set_ne hij'] at h2
        exact h.apart j j' u1 u2 hne h1 h2 k hk
/-- The empty row. -/
theorem OwI.nil (e : TypeId) (lo : Nat) (w : World) : OwI e lo w.heap.size w (.slice none 0 0) [] := ⟨Own.nil _ _ _, fun k hk => by simp [Value.ownBlock] at hk, Nat.le_refl _⟩
end Go.Fw
namespace Go.Proofs
open Go Go.Fw Go.RowKit Go.Rk
theorem branchesOf_any {lo hi : Nat} {w : World} {v : Value} {t : List Int} (h : IS lo hi w v t) (ht : Lv t) (hn : t.length ≤ 8) : Does Try.prog 112 [v] w fun r w' => NewSS 23 2 w r w' (branchesL t) := by
  obtain ⟨a, c, hv⟩ := h.shape
  subst hv
  have hz := h.hi_le
  have hp := ht.pos
  have hdl : (t.drop 1).length = t.length - 1 := List.length_drop
  refine Does.enter Try.func112 Try.ntmps112 rfl (by rfl) ?_
  repeat' (first | refine WL.step (o_s (by rfl) ?_) | refine WL.step (o_len (by rfl) ?_) | refine WL.step (o_add (by rfl) (by rfl) (by unfold InI; omega) ?_) | refine WL.step (o_sub (by rfl) (by rfl) (by unfold InI; omega) ?_) | refine WL.step (OpW.pass (by rfl) ?_) | refine WL.nil ?_ | refine thenN ?_ | refine WP.region ?_ | refine WP.seq ?_ | refine WP.block ?_ | refine thenR ?_ | refine thenX ?_ | refine blkN ?_ | refine blkHit ?_ | refine blkR ?_ | refine blkMiss (by rfl) ?_ | refine WP.ret ?_ | refine WP.exit ?_ | refine WP.skip ?_ | refine WP.label ?_ | refine WP.condT (by rfl) ?_ | refine WP.condF (by rfl) ?_ | fail)
  refine WL.step (o_lit (us := []) (by rfl) (by rfl) rfl (by decide) one0 ?_)
  intro v1 w1 hown1 hbl1 hz1 _
  repeat' (first | refine WL.step (o_s (by rfl) ?_) | refine WL.step (o_len (by rfl) ?_) | refine WL.step (o_add (by rfl) (by rfl) (by unfold InI; omega) ?_) | refine WL.step (o_sub (by rfl) (by rfl) (by unfold InI; omega) ?_) | refine WL.step (OpW.pass (by rfl) ?_) | refine WL.nil ?_ | refine thenN ?_ | refine WP.region ?_ | refine WP.seq ?_ | refine WP.block ?_ | refine thenR ?_ | refine thenX ?_ | refine blkN ?_ | refine blkHit ?_ | refine blkR ?_ | refine blkMiss (by rfl) ?_ | refine WP.ret ?_ | refine WP.exit ?_ | refine WP.skip ?_ | refine WP.label ?_ | refine WP.condT (by rfl) ?_ | refine WP.condF (by rfl) ?_ | fail)
  refine WL.step (o_sliceL (i := 1) (by rfl) (by rfl) hp ?_)
  have hd := (h.below RI.stable hbl1 hz).drop (i := 1) hp
  repeat' (first | refine WL.step (o_s (by rfl) ?_) | refine WL.step (o_len (by rfl) ?_) | refine WL.step (o_add (by rfl) (by rfl) (by unfold InI; omega) ?_) | refine WL.step (o_sub (by rfl) (by rfl) (by unfold InI; omega) ?_) | refine WL.step (OpW.pass (by rfl) ?_) | refine WL.nil ?_ | refine thenN ?_ | refine WP.region ?_ | refine WP.seq ?_ | refine WP.block ?_ | refine thenR ?_ | refine thenX ?_ | refine blkN ?_ | refine blkHit ?_ | refine blkR ?_ | refine blkMiss (by rfl) ?_ | refine WP.ret ?_ | refine WP.exit ?_ | refine WP.skip ?_ | refine WP.label ?_ | refine WP.condT (by rfl) ?_ | refine WP.condF (by rfl) ?_ | fail)
  refine WP.loop (fun (s : Nat × Value) => [(3, s.2), (8, .slice (lowAddr a c 1) (t.length - 1) (c - 1)), (9, .int .i64 ((t.length - 1 : Nat) : Int)), (10, .int .i64 (s.1 : Nat))])
    (fun s w2 => s.1 ≤ t.length - 1 ∧ (∃ vs, OwSSv 23 2 w.heap.size w2.heap.size w2 s.2 vs (brI t (s.1 + 1))) ∧ Below w.heap.size w w2)
    (fun s => t.length - 1 - s.1) (0, v1) ⟨rfl, rfl, rfl, rfl, trivial⟩ ⟨by dsimp only; omega, ⟨[], by rw [brI_one]; exact OwSSv.none hown1 (by decide)⟩, hbl1⟩ ?_
  rintro ⟨i, vo⟩ w2 ⟨hi1, ⟨vs, oA⟩, hbl2⟩
  dsimp only at hi1 oA ⊢
  have hz2 := hbl2.size
  repeat' (first | refine WL.step (o_s (by rfl) ?_) | refine WL.step (o_len (by rfl) ?_) | refine WL.step (o_add (by rfl) (by rfl) (by unfold InI; omega) ?_) | refine WL.step (o_sub (by rfl) (by rfl) (by unfold InI; omega) ?_) | refine WL.step (OpW.pass (by rfl) ?_) | refine WL.nil ?_ | refine thenN ?_ | refine WP.region ?_ | refine WP.seq ?_ | refine WP.block ?_ | refine thenR ?_ | refine thenX ?_ | refine blkN ?_ | refine blkHit ?_ | refine blkR ?_ | refine blkMiss (by rfl) ?_ | refine WP.ret ?_ | refine WP.exit ?_ | refine WP.skip ?_ | refine WP.label ?_ | refine WP.condT (by rfl) ?_ | refine WP.condF (by rfl) ?_ | fail)
  first | refine WP.condD (by rfl) (fun _ => ?_) (fun _ => ?_) | refine WP.condND (by rfl) (fun _ => ?_) (fun _ => ?_) | refine WP.condN (by rfl) (fun _ => ?_) (fun _ => ?_) | refine WP.cond (by rfl) (fun _ => ?_) (fun _ => ?_) | fail
  · rename_i hlt
    have hlt' : i + 1 < t.length := by omega
    have hok := brOk ht (i := i + 1) (by omega) (by omega)
    have hlev := ht.next (i := i + 1) (by omega) hlt'
    have hbd := ht.bd hlt'
    have hsucc := brI_succ (t := t) (i := i + 1) (by omega) hlt'
    obtain ⟨out, hout⟩ : ∃ out, brI t (i + 1) = out := ⟨_, rfl⟩
    rw [hout] at oA hok hsucc
    have hlen := hok.len
    have hvl : vs.length = out.length := oA.len
    have hget : (t.drop 1)[i]? = some t[i + 1] := by rw [List.getElem?_drop, Nat.add_comm, List.getElem?_eq_getElem hlt']
    repeat' (first | refine WL.step (o_s (by rfl) ?_) | refine WL.step (o_len (by rfl) ?_) | refine WL.step (o_add (by rfl) (by rfl) (by unfold InI; omega) ?_) | refine WL.step (o_sub (by rfl) (by rfl) (by unfold InI; omega) ?_) | refine WL.step (OpW.pass (by rfl) ?_) | refine WL.nil ?_ | refine thenN ?_ | refine WP.region ?_ | refine WP.seq ?_ | refine WP.block ?_ | refine thenR ?_ | refine thenX ?_ | refine blkN ?_ | refine blkHit ?_ | refine blkR ?_ | refine blkMiss (by rfl) ?_ | refine WP.ret ?_ | refine WP.exit ?_ | refine WP.skip ?_ | refine WP.label ?_ | refine WP.condT (by rfl) ?_ | refine WP.condF (by rfl) ?_ | fail)
    refine WL.ixload (hd.same RI.stable (same_below hbl1 hbl2 hz) (by omega)) hget ?_
    rintro p1 _ rfl
    repeat' (first | refine WL.step (o_s (by rfl) ?_) | refine WL.step (o_len (by rfl) ?_) | refine WL.step (o_add (by rfl) (by rfl) (by unfold InI; omega) ?_) | refine WL.step (o_sub (by rfl) (by rfl) (by unfold InI; omega) ?_) | refine WL.step (OpW.pass (by rfl) ?_) | refine WL.nil ?_ | refine thenN ?_ | refine WP.region ?_ | refine WP.seq ?_ | refine WP.block ?_ | refine thenR ?_ | refine thenX ?_ | refine blkN ?_ | refine blkHit ?_ | refine blkR ?_ | refine blkMiss (by rfl) ?_ | refine WP.ret ?_ | refine WP.exit ?_ | refine WP.skip ?_ | refine WP.label ?_ | refine WP.condT (by rfl) ?_ | refine WP.condF (by rfl) ?_ | fail)
    first | refine WP.condD (by rfl) (fun _ => ?_) (fun _ => ?_) | refine WP.condND (by rfl) (fun _ => ?_) (fun _ => ?_) | refine WP.condN (by rfl) (fun _ => ?_) (fun _ => ?_) | refine WP.cond (by rfl) (fun _ => ?_) (fun _ => ?_) | fail
    · rename_i hone
      obtain ⟨a2, c2, hvo, _⟩ := oA.own.shape
      repeat' (first | refine WL.step (o_s (by rfl) ?_) | refine WL.step (o_len (by rfl) ?_) | refine WL.step (o_add (by rfl) (by rfl) (by unfold InI; omega) ?_) | refine WL.step (o_sub (by rfl) (by rfl) (by unfold InI; omega) ?_) | refine WL.step (OpW.pass (by rfl) ?_) | refine WL.nil ?_ | refine thenN ?_ | refine WP.region ?_ | refine WP.seq ?_ | refine WP.block ?_ | refine thenR ?_ | refine thenX ?_ | refine blkN ?_ | refine blkHit ?_ | refine blkR ?_ | refine blkMiss (by rfl) ?_ | refine WP.ret ?_ | refine WP.exit ?_ | refine WP.skip ?_ | refine WP.label ?_ | refine WP.condT (by rfl) ?_ | refine WP.condF (by rfl) ?_ | fail)
      refine o_append1 (u := .slice none 0 0) (fun _ => by rfl) (by rfl) oA.own rfl (by simp [hvl, maxLen]; omega) (by simp [hvl]; omega) (by omega) ?_
      intro p2 v3 w3 hown3 hbl3 hf3 hz3 _
      have o3 := oA.snoc (OwI.nil 2 w2.heap.size w2) (Nat.le_refl _) (by omega) hown3 (by omega) hf3
      obtain ⟨a3, c3, hv3, _⟩ := hown3.shape
      rw [List.length_append, List.length_singleton, hvl] at hv3
      subst hv3
      have hvi : out.length < (vs ++ [Value.slice none 0 0]).length := by simp; omega
      have hgv : (vs ++ [Value.slice none 0 0])[out.length]? = some (.slice none 0 0) := by rw [← hvl]; simp
      have hgx : (out ++ [[]])[out.length]? = some [] := by simp
      repeat' (first | refine WL.step (o_s (by rfl) ?_) | refine WL.step (o_len (by rfl) ?_) | refine WL.step (o_add (by rfl) (by rfl) (by unfold InI; omega) ?_) | refine WL.step (o_sub (by rfl) (by rfl) (by unfold InI; omega) ?_) | refine WL.step (OpW.pass (by rfl) ?_) | refine WL.nil ?_ | refine thenN ?_ | refine WP.region ?_ | refine WP.seq ?_ | refine WP.block ?_ | refine thenR ?_ | refine thenX ?_ | refine blkN ?_ | refine blkHit ?_ | refine blkR ?_ | refine blkMiss (by rfl) ?_ | refine WP.ret ?_ | refine WP.exit ?_ | refine WP.skip ?_ | refine WP.label ?_ | refine WP.condT (by rfl) ?_ | refine WP.condF (by rfl) ?_ | fail)
      refine WL.ixload (R := fun _ _ _ u x => u = x) (xs := vs ++ [.slice none 0 0]) (j := out.length) (lo := w.heap.size) (hi := w3.heap.size) ?_ hgv ?_
      · exact o3.own.toSL rfl (Nat.le_refl _) o3.lt o3.hi_le (fun i u x hu hx => by rw [hu] at hx; simpa using hx)
      rintro p3 _ rfl
      repeat' (first | refine WL.step (o_s (by rfl) ?_) | refine WL.step (o_len (by rfl) ?_) | refine WL.step (o_add (by rfl) (by rfl) (by unfold InI; omega) ?_) | refine WL.step (o_sub (by rfl) (by rfl) (by unfold InI; omega) ?_) | refine WL.step (OpW.pass (by rfl) ?_) | refine WL.nil ?_ | refine thenN ?_ | refine WP.region ?_ | refine WP.seq ?_ | refine WP.block ?_ | refine thenR ?_ | refine thenX ?_ | refine blkN ?_ | refine blkHit ?_ | refine blkR ?_ | refine blkMiss (by rfl) ?_ | refine WP.ret ?_ | refine WP.exit ?_ | refine WP.skip ?_ | refine WP.label ?_ | refine WP.condT (by rfl) ?_ | refine WP.condF (by rfl) ?_ | fail)
      refine o_append1K (u := .int .i64 _) (us := []) (fun _ => by rfl) (by rfl) (Own.nil w3 w.heap.size 2) rfl (by simp [maxLen]) (by simp) (by omega) ?_
      intro p4 v4 w4 hown4 hbl4 hf4 hz4 hk4
      obtain ⟨a4, c4, hv4, _⟩ := hown4.shape
      have own3' := o3.own.keep (w' := w4) fun k hk => hf4 k (o3.own.block k hk).2 (by simp [Value.ownBlock])
      refine WL.ixstore (j := out.length) own3' (by omega) ?_ (hu := by rw [hv4]; rfl)
      intro p5 w5 hown5 hbl5 hz5 hf5
      have oN := o3.pushRow (zs := [t[i + 1] - 1]) hgv hgx hown4 hf4 (by omega) hk4 hown5 hf5 hz5
      repeat' (first | refine WL.step (o_s (by rfl) ?_) | refine WL.step (o_len (by rfl) ?_) | refine WL.step (o_add (by rfl) (by rfl) (by unfold InI; omega) ?_) | refine WL.step (o_sub (by rfl) (by rfl) (by unfold InI; omega) ?_) | refine WL.step (OpW.pass (by rfl) ?_) | refine WL.nil ?_ | refine thenN ?_ | refine WP.region ?_ | refine WP.seq ?_ | refine WP.block ?_ | refine thenR ?_ | refine thenX ?_ | refine blkN ?_ | refine blkHit ?_ | refine blkR ?_ | refine blkMiss (by rfl) ?_ | refine WP.ret ?_ | refine WP.exit ?_ | refine WP.skip ?_ | refine WP.label ?_ | refine WP.condT (by rfl) ?_ | refine WP.condF (by rfl) ?_ | fail)
      have hB : brI t (i + 1 + 1) = (out ++ [[]]).set out.length [t[i + 1] - 1] := by
        rw [hsucc]
        unfold pushB
        rw [if_pos hone]
        rfl
      rw [← hB] at oN
      exact ⟨(i + 1, .slice a3 (out.length + 1) c3), ⟨rfl, rfl, rfl, (by first | rfl | (show some (Value.int .i64 _) = some (Value.int .i64 _); refine congrArg some (congrArg (Value.int IntKind.i64) ?_); omega)), trivial⟩, ⟨by dsimp only; omega, ⟨_, oN⟩, ((hbl2.trans hbl3).trans hbl4).trans hbl5⟩, by dsimp only; omega⟩
    · rename_i hmore
      have hi2 : 2 ≤ i + 1 := by
        apply Classical.byContradiction
        intro hno
        have hb := ht.bd (show i < t.length by omega)
        have hlev2 := hlev
        simp only [Nat.add_sub_cancel] at hlev2
        omega
      obtain ⟨init, b, hib, hlast⟩ := hok.last hi2
      have hpos : 1 ≤ out.length := by rw [hib]; simp
      obtain ⟨a3, c3, hv3, _⟩ := oA.own.shape
      rw [hvl] at hv3
      subst hv3
      have hvi : out.length - 1 < vs.length := by omega
      have hxi : out.length - 1 < out.length := by omega
      have hrow := oA.rows (out.length - 1) vs[out.length - 1] out[out.length - 1] (List.getElem?_eq_getElem hvi) (List.getElem?_eq_getElem hxi)
      have hrl := (hok.each out[out.length - 1] (List.getElem_mem hxi)).2
      obtain ⟨u, hu⟩ : ∃ u, vs[out.length - 1] = u := ⟨_, rfl⟩
      rw [hu] at hrow
      repeat' (first | refine WL.step (o_s (by rfl) ?_) | refine WL.step (o_len (by rfl) ?_) | refine WL.step (o_add (by rfl) (by rfl) (by unfold InI; omega) ?_) | refine WL.step (o_sub (by rfl) (by rfl) (by unfold InI; omega) ?_) | refine WL.step (OpW.pass (by rfl) ?_) | refine WL.nil ?_ | refine thenN ?_ | refine WP.region ?_ | refine WP.seq ?_ | refine WP.block ?_ | refine thenR ?_ | refine thenX ?_ | refine blkN ?_ | refine blkHit ?_ | refine blkR ?_ | refine blkMiss (by rfl) ?_ | refine WP.ret ?_ | refine WP.exit ?_ | refine WP.skip ?_ | refine WP.label ?_ | refine WP.condT (by rfl) ?_ | refine WP.condF (by rfl) ?_ | fail)
      refine WL.ixload (R := fun _ _ _ u x => u = x) (xs := vs) (a := u) (j := out.length - 1) (lo := w.heap.size) (hi := w2.heap.size) ?_ (by rw [List.getElem?_eq_getElem hvi, hu]) ?_
      · exact oA.own.toSL rfl (Nat.le_refl _) oA.lt oA.hi_le (fun i u x hu hx => by rw [hu] at hx; simpa using hx)
      rintro p3 _ rfl
      repeat' (first | refine WL.step (o_s (by rfl) ?_) | refine WL.step (o_len (by rfl) ?_) | refine WL.step (o_add (by rfl) (by rfl) (by unfold InI; omega) ?_) | refine WL.step (o_sub (by rfl) (by rfl) (by unfold InI; omega) ?_) | refine WL.step (OpW.pass (by rfl) ?_) | refine WL.nil ?_ | refine thenN ?_ | refine WP.region ?_ | refine WP.seq ?_ | refine WP.block ?_ | refine thenR ?_ | refine thenX ?_ | refine blkN ?_ | refine blkHit ?_ | refine blkR ?_ | refine blkMiss (by rfl) ?_ | refine WP.ret ?_ | refine WP.exit ?_ | refine WP.skip ?_ | refine WP.label ?_ | refine WP.condT (by rfl) ?_ | refine WP.condF (by rfl) ?_ | fail)
      refine o_append1K (u := .int .i64 _) (fun _ => by rfl) (by rfl) hrow.own rfl (by simp [Ints, maxLen]; omega) (by simp [Ints]; omega) (by omega) ?_
      intro p4 v4 w4 hown4 hbl4 hf4 hz4 hk4
      obtain ⟨a4, c4, hv4, _⟩ := hown4.shape
      have own3' := oA.own.keep (w' := w4) fun k hk => hf4 k (oA.own.block k hk).2 (oA.own.ne_block hrow.own oA.ne hk)
      refine WL.ixstore (j := out.length - 1) own3' hvi ?_ (hu := by rw [hv4]; rfl)
      intro p5 w5 hown5 hbl5 hz5 hf5
      have oN := oA.pushRow (zs := out[out.length - 1] ++ [t[i + 1] - 1]) (by rw [List.getElem?_eq_getElem hvi, hu]) (List.getElem?_eq_getElem hxi) (by rw [Ints_append]; exact hown4) hf4 (by omega) hk4 hown5 hf5 hz5
      repeat' (first | refine WL.step (o_s (by rfl) ?_) | refine WL.step (o_len (by rfl) ?_) | refine WL.step (o_add (by rfl) (by rfl) (by unfold InI; omega) ?_) | refine WL.step (o_sub (by rfl) (by rfl) (by unfold InI; omega) ?_) | refine WL.step (OpW.pass (by rfl) ?_) | refine WL.nil ?_ | refine thenN ?_ | refine WP.region ?_ | refine WP.seq ?_ | refine WP.block ?_ | refine thenR ?_ | refine thenX ?_ | refine blkN ?_ | refine blkHit ?_ | refine blkR ?_ | refine blkMiss (by rfl) ?_ | refine WP.ret ?_ | refine WP.exit ?_ | refine WP.skip ?_ | refine WP.label ?_ | refine WP.condT (by rfl) ?_ | refine WP.condF (by rfl) ?_ | fail)
      have hB : brI t (i + 1 + 1) = out.set (out.length - 1) (out[out.length - 1] ++ [t[i + 1] - 1]) := by
        rw [hsucc]
        unfold pushB
        rw [if_neg hmore, List.getElem?_eq_getElem hxi]
        rfl
      rw [← hB] at oN
      exact ⟨(i + 1, .slice a3 out.length c3), ⟨rfl, rfl, rfl, (by first | rfl | (show some (Value.int .i64 _) = some (Value.int .i64 _); refine congrArg some (congrArg (Value.int IntKind.i64) ?_); omega)), trivial⟩, ⟨by dsimp only; omega, ⟨_, oN⟩, (hbl2.trans hbl4).trans hbl5⟩, by dsimp only; omega⟩
  · rename_i hge
    have hie : i + 1 = t.length := by omega
    rw [hie] at oA
    repeat' (first | refine WL.step (o_s (by rfl) ?_) | refine WL.step (o_len (by rfl) ?_) | refine WL.step (o_add (by rfl) (by rfl) (by unfold InI; omega) ?_) | refine WL.step (o_sub (by rfl) (by rfl) (by unfold InI; omega) ?_) | refine WL.step (OpW.pass (by rfl) ?_) | refine WL.nil ?_ | refine thenN ?_ | refine WP.region ?_ | refine WP.seq ?_ | refine WP.block ?_ | refine thenR ?_ | refine thenX ?_ | refine blkN ?_ | refine blkHit ?_ | refine blkR ?_ | refine blkMiss (by rfl) ?_ | refine WP.ret ?_ | refine WP.exit ?_ | refine WP.skip ?_ | refine WP.label ?_ | refine WP.condT (by rfl) ?_ | refine WP.condF (by rfl) ?_ | fail)
    refine ⟨_, ret1 rfl (by rfl), ?_⟩
    exact ⟨⟨vs, oA⟩, hbl2⟩
end Go.Proofs
