/- slices.Sorted of slices.Values: a new slice with the same numbers, in order. -/
import Derived.Lib.SlKeysI
import Derived.Shelf.SortM.SortNone
import Derived.Test.YteifmffmadnifaaS2
namespace Go.Proofs
open Go Go.Fw Go.RowKit
theorem SqInts.of {lo hi : Nat} {w : World} {v : Value} {xs : List Int} (h : IS lo hi w v xs) : SqInts w.heap.size w v xs := by
  obtain ⟨hz, a, c, rfl, hl, hn, h⟩ := h
  by_cases h0 : xs.length = 0
  · have : xs = [] := List.eq_nil_of_length_eq_zero h0
    subst this
    exact .inl ⟨⟨a, c, rfl⟩, rfl⟩
  · obtain ⟨b, o, u, ha, _, hb2, _, _⟩ := h 0 xs[0] (List.getElem?_eq_getElem (by omega))
    refine .inr ⟨b, o, c, by rw [ha], by omega, fun j hj => ?_⟩
    obtain ⟨b', o', u', ha', _, _, hc, hr⟩ := h j xs[j] (List.getElem?_eq_getElem hj)
    rw [ha] at ha'
    simp only [Option.some.injEq, Addr.mk.injEq] at ha'
    obtain ⟨rfl, rfl, _⟩ := ha'
    rw [hc, List.getElem?_eq_getElem hj]
    exact congrArg some hr
theorem Values_any (a : Option Addr) (n c : Nat) (w : World) : Does Try.prog 141 [.slice a n c] w fun r w' => r = .func (.func 185) #[] #[.pointer (some ⟨w.heap.size, 0, none⟩)] ∧ Blk w' w.heap.size [.slice a n c] 23 ∧ Below w.heap.size w w' ∧ w'.heap.size = w.heap.size + 1 := by
  refine Does.enter Try.func141 Try.ntmps141 rfl (by rfl) ?_
  repeat' (first | refine WL.step (o_s (by rfl) ?_) | refine WL.step (o_len (by rfl) ?_) | refine WL.step (o_add (by rfl) (by rfl) (by unfold InI; omega) ?_) | refine WL.step (o_sub (by rfl) (by rfl) (by unfold InI; omega) ?_) | refine WL.step (OpW.pass (by rfl) ?_) | refine WL.nil ?_ | refine thenN ?_ | refine WP.region ?_ | refine WP.seq ?_ | refine WP.block ?_ | refine thenR ?_ | refine thenX ?_ | refine blkN ?_ | refine blkHit ?_ | refine blkR ?_ | refine blkMiss (by rfl) ?_ | refine WP.ret ?_ | refine WP.exit ?_ | refine WP.skip ?_ | refine WP.label ?_ | refine WP.condT (by rfl) ?_ | refine WP.condF (by rfl) ?_ | fail)
  refine WL.step (o_box (by rfl) ?_)
  intro w1 hb1 hbl1 hz1
  repeat' (first | refine WL.step (o_s (by rfl) ?_) | refine WL.step (o_len (by rfl) ?_) | refine WL.step (o_add (by rfl) (by rfl) (by unfold InI; omega) ?_) | refine WL.step (o_sub (by rfl) (by rfl) (by unfold InI; omega) ?_) | refine WL.step (OpW.pass (by rfl) ?_) | refine WL.nil ?_ | refine thenN ?_ | refine WP.region ?_ | refine WP.seq ?_ | refine WP.block ?_ | refine thenR ?_ | refine thenX ?_ | refine blkN ?_ | refine blkHit ?_ | refine blkR ?_ | refine blkMiss (by rfl) ?_ | refine WP.ret ?_ | refine WP.exit ?_ | refine WP.skip ?_ | refine WP.label ?_ | refine WP.condT (by rfl) ?_ | refine WP.condF (by rfl) ?_ | fail)
  refine ⟨_, ret1 rfl (by rfl), ?_⟩
  exact ⟨rfl, hb1, hbl1, hz1⟩
theorem AppendSeq_any {lo hi b : Nat} {w : World} {v : Value} {xs : List Int} (hb : Blk w b [v] 23) (h : IS lo hi w v xs) (hn : xs.length ≤ 1048576) :
    Does Try.prog 200 [.slice none 0 0, .func (.func 185) #[] #[.pointer (some ⟨b, 0, none⟩)]] w fun r w' => NewI w r w' xs := by
  refine (callsIn_wide (n := 3)).1 ?_
  refine (sqAppend_in Fence.wide 3 trivial trivial rfl (Nat.le_refl _) b v xs (by unfold maxLen; omega) (by omega) w hb.lt (hb.cell (j := 0) rfl) (SqInts.of h)).mono ?_
  rintro e w' ⟨r, rfl, h1, h2, h3⟩
  refine ⟨r, rfl, ?_, h3⟩
  unfold Fw.Own
  rw [Ints_length]
  exact h1
theorem Collect_any {lo hi b : Nat} {w : World} {v : Value} {xs : List Int} (hb : Blk w b [v] 23) (h : IS lo hi w v xs) (hn : xs.length ≤ 1048576) :
    Does Try.prog 183 [.func (.func 185) #[] #[.pointer (some ⟨b, 0, none⟩)]] w fun r w' => NewI w r w' xs := by
  refine Does.enter Try.func183 Try.ntmps183 rfl (by rfl) ?_
  repeat' (first | refine WL.step (o_s (by rfl) ?_) | refine WL.step (o_len (by rfl) ?_) | refine WL.step (o_add (by rfl) (by rfl) (by unfold InI; omega) ?_) | refine WL.step (o_sub (by rfl) (by rfl) (by unfold InI; omega) ?_) | refine WL.step (OpW.pass (by rfl) ?_) | refine WL.nil ?_ | refine thenN ?_ | refine WP.region ?_ | refine WP.seq ?_ | refine WP.block ?_ | refine thenR ?_ | refine thenX ?_ | refine blkN ?_ | refine blkHit ?_ | refine blkR ?_ | refine blkMiss (by rfl) ?_ | refine WP.ret ?_ | refine WP.exit ?_ | refine WP.skip ?_ | refine WP.label ?_ | refine WP.condT (by rfl) ?_ | refine WP.condF (by rfl) ?_ | fail)
  refine WL.call (AppendSeq_any hb h hn) ?_
  intro r w1 h1
  repeat' (first | refine WL.step (o_s (by rfl) ?_) | refine WL.step (o_len (by rfl) ?_) | refine WL.step (o_add (by rfl) (by rfl) (by unfold InI; omega) ?_) | refine WL.step (o_sub (by rfl) (by rfl) (by unfold InI; omega) ?_) | refine WL.step (OpW.pass (by rfl) ?_) | refine WL.nil ?_ | refine thenN ?_ | refine WP.region ?_ | refine WP.seq ?_ | refine WP.block ?_ | refine thenR ?_ | refine thenX ?_ | refine blkN ?_ | refine blkHit ?_ | refine blkR ?_ | refine blkMiss (by rfl) ?_ | refine WP.ret ?_ | refine WP.exit ?_ | refine WP.skip ?_ | refine WP.label ?_ | refine WP.condT (by rfl) ?_ | refine WP.condF (by rfl) ?_ | fail)
  refine ⟨_, ret1 rfl (by rfl), ?_⟩
  exact h1
theorem Sort_any {lo : Nat} {w : World} {v : Value} {xs : List Int} (h : Fw.Own lo 2 w v (Ints xs)) (hn : xs.length ≤ 1048576) :
    Does Try.prog 184 [v] w fun r w' => r = .tuple #[] ∧ Fw.Own lo 2 w' v (Ints (xs.mergeSort fun x y => decide (x ≤ y))) ∧ Below lo w w' := by
  have hlen : (xs.mergeSort fun x y => decide (x ≤ y)).length = xs.length := List.length_mergeSort _
  unfold Fw.Own at h ⊢
  rw [Ints_length] at h ⊢
  obtain ⟨hl, ⟨rfl, h0⟩ | ⟨g, cap, cur, rfl, hbase, hg, h1, h2, h3, h4⟩⟩ := h
  · have : xs = [] := List.eq_nil_of_length_eq_zero h0
    subst this
    refine Calls.mono (AnyM.slices_Sort_int_none Try.laySort none 0 w) ?_
    rintro e w' ⟨rfl, rfl⟩
    exact ⟨_, rfl, rfl, ⟨by simp [Ints], .inl ⟨rfl, by simp⟩⟩, Below.refl _ _⟩
  · have hH : Go.Sort.Holds encZ w g 0 xs.toArray := holds_of_block_i hg (by simpa [Ints] using h4)
    refine Calls.mono (AnyM.slices_Sort_int Try.laySort g 0 cap xs w hH (Array.getElem?_eq_some_iff.1 hg).1 (by omega)) ?_
    rintro e w' ⟨rfl, n, os, rfl⟩
    refine ⟨_, rfl, rfl, ?_, ?_⟩
    · have := ownsRow_sorted_i (n := n) (os := os) hlen hbase hg h1 h2 h3
      rw [hlen]
      exact this
    · exact (Below.refl lo w).grown (grownBy_sorted_i _) (by have := (Array.getElem?_eq_some_iff.1 hg).1; omega) (fun j hj => by cases hj; exact hbase)
theorem Sorted_any {lo hi b : Nat} {w : World} {v : Value} {xs : List Int} (hb : Blk w b [v] 23) (h : IS lo hi w v xs) (hn : xs.length ≤ 1048576) :
    Does Try.prog 140 [.func (.func 185) #[] #[.pointer (some ⟨b, 0, none⟩)]] w fun r w' => NewI w r w' (xs.mergeSort fun x y => decide (x ≤ y)) := by
  refine Does.enter Try.func140 Try.ntmps140 rfl (by rfl) ?_
  repeat' (first | refine WL.step (o_s (by rfl) ?_) | refine WL.step (o_len (by rfl) ?_) | refine WL.step (o_add (by rfl) (by rfl) (by unfold InI; omega) ?_) | refine WL.step (o_sub (by rfl) (by rfl) (by unfold InI; omega) ?_) | refine WL.step (OpW.pass (by rfl) ?_) | refine WL.nil ?_ | refine thenN ?_ | refine WP.region ?_ | refine WP.seq ?_ | refine WP.block ?_ | refine thenR ?_ | refine thenX ?_ | refine blkN ?_ | refine blkHit ?_ | refine blkR ?_ | refine blkMiss (by rfl) ?_ | refine WP.ret ?_ | refine WP.exit ?_ | refine WP.skip ?_ | refine WP.label ?_ | refine WP.condT (by rfl) ?_ | refine WP.condF (by rfl) ?_ | fail)
  refine WL.call (Collect_any hb h hn) ?_
  intro r w1 h1
  repeat' (first | refine WL.step (o_s (by rfl) ?_) | refine WL.step (o_len (by rfl) ?_) | refine WL.step (o_add (by rfl) (by rfl) (by unfold InI; omega) ?_) | refine WL.step (o_sub (by rfl) (by rfl) (by unfold InI; omega) ?_) | refine WL.step (OpW.pass (by rfl) ?_) | refine WL.nil ?_ | refine thenN ?_ | refine WP.region ?_ | refine WP.seq ?_ | refine WP.block ?_ | refine thenR ?_ | refine thenX ?_ | refine blkN ?_ | refine blkHit ?_ | refine blkR ?_ | refine blkMiss (by rfl) ?_ | refine WP.ret ?_ | refine WP.exit ?_ | refine WP.skip ?_ | refine WP.label ?_ | refine WP.condT (by rfl) ?_ | refine WP.condF (by rfl) ?_ | fail)
  refine WL.call (Sort_any h1.1 hn) ?_
  rintro _ w2 ⟨rfl, h2, hb2⟩
  repeat' (first | refine WL.step (o_s (by rfl) ?_) | refine WL.step (o_len (by rfl) ?_) | refine WL.step (o_add (by rfl) (by rfl) (by unfold InI; omega) ?_) | refine WL.step (o_sub (by rfl) (by rfl) (by unfold InI; omega) ?_) | refine WL.step (OpW.pass (by rfl) ?_) | refine WL.nil ?_ | refine thenN ?_ | refine WP.region ?_ | refine WP.seq ?_ | refine WP.block ?_ | refine thenR ?_ | refine thenX ?_ | refine blkN ?_ | refine blkHit ?_ | refine blkR ?_ | refine blkMiss (by rfl) ?_ | refine WP.ret ?_ | refine WP.exit ?_ | refine WP.skip ?_ | refine WP.label ?_ | refine WP.condT (by rfl) ?_ | refine WP.condF (by rfl) ?_ | fail)
  refine ⟨_, ret1 rfl (by rfl), ?_⟩
  exact ⟨h2, h1.2.trans hb2⟩
end Go.Proofs
