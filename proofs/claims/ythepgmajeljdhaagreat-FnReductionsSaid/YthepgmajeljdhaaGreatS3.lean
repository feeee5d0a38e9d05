/- slices.Sorted of slices.Values: a new slice with the same numbers, in order. -/
import Derived.Lib.SlKeysI
import Derived.Shelf.SortM.SortNone
import Derived.Test.YthepgmajeljdhaaGreatS2
namespace Go.Proofs
open Go Go.Fw Go.RowKit
theorem SqInts.of {lo hi : Nat} {w : World} {v : Value} {xs : List Int} (h : IS lo hi w v xs) : SqInts w.heap.size w v xs := by
  obtain ⟨hz, a, c, rfl, hl, hn, h⟩ := h
  by_cases h0 : xs.length = 0
  · have : xs = [] := List.eq_nil_of_length_eq_zero h0
    subst this
    exact .inl ⟨⟨a, c, rfl⟩, rfl⟩
  · obtain ⟨b, o, u, ha, _, hb2, _, _⟩ := h 0 xs[0] (List.getElem?_eq_getElem (by omega))
    refine .inr ⟨b, o, c, by rw [ha], by omega, fun j hj => ?_⟩
    obtain ⟨b', o', u', ha', _, _, hc, hr⟩ := h j xs[j] (List.getElem?_eq_getElem hj)
    rw [ha] at ha'
    simp only [Option.some.injEq, Addr.mk.injEq] at ha'
    obtain ⟨rfl, rfl, _⟩ := ha'
    rw [hc, List.getElem?_eq_getElem hj]
    exact congrArg some hr
theorem Values_any (a : Option Addr) (n c : Nat) (w : World) : Does Tryz.prog 73 [.slice a n c] w fun r w' => r = .func (.func 110) #[] #[.pointer (some ⟨w.heap.size, 0, none⟩)] ∧ Blk w' w.heap.size [.slice a n c] 25 ∧ Below w.heap.size w w' ∧ w'.heap.size = w.heap.size + 1 := by
  refine Does.enter Tryz.func73 Tryz.ntmps73 rfl (by rfl) ?_
  repeat' (first|refine X.O ?_|refine X.A ?_|refine X.B ?_|refine X.C ?_|refine X.D ?_|refine X.E ?_|refine X.F ?_|refine X.G ?_|refine X.H ?_|refine X.I ?_|fail)
  refine WL.step (o_box (by rfl) ?_)
  intro w1 hb1 hbl1 hz1
  repeat' (first|refine X.O ?_|refine X.A ?_|refine X.B ?_|refine X.C ?_|refine X.D ?_|refine X.E ?_|refine X.F ?_|refine X.G ?_|refine X.H ?_|refine X.I ?_|fail)
  refine ⟨_, ret1 rfl (by rfl), ?_⟩
  exact ⟨rfl, hb1, hbl1, hz1⟩
theorem AppendSeq_any {lo hi b : Nat} {w : World} {v : Value} {xs : List Int} (hb : Blk w b [v] 25) (h : IS lo hi w v xs) (hn : xs.length ≤ 1048576) :
    Does Tryz.prog 126 [.slice none 0 0, .func (.func 110) #[] #[.pointer (some ⟨b, 0, none⟩)]] w fun r w' => NewI w r w' xs := by
  refine (callsIn_wide (n := 3)).1 ?_
  refine (sqAppend_in Fence.wide 3 trivial trivial rfl (Nat.le_refl _) b v xs (by unfold maxLen; omega) (by omega) w hb.lt (hb.cell (j := 0) rfl) (SqInts.of h)).mono ?_
  rintro e w' ⟨r, rfl, h1, h2, h3⟩
  refine ⟨r, rfl, ?_, h3⟩
  unfold Fw.Own
  rw [Ints_length]
  exact h1
theorem Collect_any {lo hi b : Nat} {w : World} {v : Value} {xs : List Int} (hb : Blk w b [v] 25) (h : IS lo hi w v xs) (hn : xs.length ≤ 1048576) :
    Does Tryz.prog 108 [.func (.func 110) #[] #[.pointer (some ⟨b, 0, none⟩)]] w fun r w' => NewI w r w' xs := by
  refine Does.enter Tryz.func108 Tryz.ntmps108 rfl (by rfl) ?_
  repeat' (first|refine X.O ?_|refine X.A ?_|refine X.B ?_|refine X.C ?_|refine X.D ?_|refine X.E ?_|refine X.F ?_|refine X.G ?_|refine X.H ?_|refine X.I ?_|fail)
  refine WL.call (AppendSeq_any hb h hn) ?_
  intro r w1 h1
  repeat' (first|refine X.O ?_|refine X.A ?_|refine X.B ?_|refine X.C ?_|refine X.D ?_|refine X.E ?_|refine X.F ?_|refine X.G ?_|refine X.H ?_|refine X.I ?_|fail)
  refine ⟨_, ret1 rfl (by rfl), ?_⟩
  exact h1
theorem Sort_any {lo : Nat} {w : World} {v : Value} {xs : List Int} (h : Fw.Own lo 2 w v (Ints xs)) (hn : xs.length ≤ 1048576) :
    Does Tryz.prog 109 [v] w fun r w' => r = .tuple #[] ∧ Fw.Own lo 2 w' v (Ints (xs.mergeSort fun x y => decide (x ≤ y))) ∧ Below lo w w' := by
  have hlen : (xs.mergeSort fun x y => decide (x ≤ y)).length = xs.length := List.length_mergeSort _
  unfold Fw.Own at h ⊢
  rw [Ints_length] at h ⊢
  obtain ⟨hl, ⟨rfl, h0⟩ | ⟨g, cap, cur, rfl, hbase, hg, h1, h2, h3, h4⟩⟩ := h
  · have : xs = [] := List.eq_nil_of_length_eq_zero h0
    subst this
    refine Calls.mono (AnyM.slices_Sort_int_none Tryz.laySort none 0 w) ?_
    rintro e w' ⟨rfl, rfl⟩
    exact ⟨_, rfl, rfl, ⟨by simp [Ints], .inl ⟨rfl, by simp⟩⟩, Below.refl _ _⟩
  · have hH : Go.Sort.Holds encZ w g 0 xs.toArray := holds_of_block_i hg (by simpa [Ints] using h4)
    refine Calls.mono (AnyM.slices_Sort_int Tryz.laySort g 0 cap xs w hH (Array.getElem?_eq_some_iff.1 hg).1 (by omega)) ?_
    rintro e w' ⟨rfl, n, os, rfl⟩
    refine ⟨_, rfl, rfl, ?_, ?_⟩
    · have := ownsRow_sorted_i (n := n) (os := os) hlen hbase hg h1 h2 h3
      rw [hlen]
      exact this
    · exact (Below.refl lo w).grown (grownBy_sorted_i _) (by have := (Array.getElem?_eq_some_iff.1 hg).1; omega) (fun j hj => by cases hj; exact hbase)
theorem Sorted_any {lo hi b : Nat} {w : World} {v : Value} {xs : List Int} (hb : Blk w b [v] 25) (h : IS lo hi w v xs) (hn : xs.length ≤ 1048576) :
    Does Tryz.prog 72 [.func (.func 110) #[] #[.pointer (some ⟨b, 0, none⟩)]] w fun r w' => NewI w r w' (xs.mergeSort fun x y => decide (x ≤ y)) := by
  refine Does.enter Tryz.func72 Tryz.ntmps72 rfl (by rfl) ?_
  repeat' (first|refine X.O ?_|refine X.A ?_|refine X.B ?_|refine X.C ?_|refine X.D ?_|refine X.E ?_|refine X.F ?_|refine X.G ?_|refine X.H ?_|refine X.I ?_|fail)
  refine WL.call (Collect_any hb h hn) ?_
  intro r w1 h1
  repeat' (first|refine X.O ?_|refine X.A ?_|refine X.B ?_|refine X.C ?_|refine X.D ?_|refine X.E ?_|refine X.F ?_|refine X.G ?_|refine X.H ?_|refine X.I ?_|fail)
  refine WL.call (Sort_any h1.1 hn) ?_
  rintro _ w2 ⟨rfl, h2, hb2⟩
  repeat' (first|refine X.O ?_|refine X.A ?_|refine X.B ?_|refine X.C ?_|refine X.D ?_|refine X.E ?_|refine X.F ?_|refine X.G ?_|refine X.H ?_|refine X.I ?_|fail)
  refine ⟨_, ret1 rfl (by rfl), ?_⟩
  exact ⟨h2, h1.2.trans hb2⟩
end Go.Proofs
