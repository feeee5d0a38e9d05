/- What is at hand in a law's walk: tableaus in variables; likeTableau5. -/
import Derived.Test.YthepgmajeljdhaaGreatDoorA3
import Derived.Test.YthepgmajeljdhaaGreatDoorM0
import Derived.Test.YthepgmajeljdhaaGreatDoorA1
set_option maxRecDepth 8000
namespace Go.Proofs
open Go Go.Fw Go.RowKit Go.Rk
/-- A tableau that reads in a world. -/
def RT (w : World) (v : Value) (x : TabD) : Prop := ∃ lo hi, IT lo hi w v x
theorem RT.below {w w' : World} {v : Value} {x : TabD} (h : RT w v x) (hb : Below w.heap.size w w') : RT w' v x := by
  obtain ⟨lo, hi, h⟩ := h
  exact ⟨lo, hi, h.below hb h.hi_le⟩
theorem RT.cells {w : World} {v : Value} {x : TabD} (h : RT w v x) : ∃ va vb, v = .agg #[va, vb] ∧ (∀ y ∈ [va, vb], y.oneCell' = true) := by
  obtain ⟨lo, hi, va, vb, rfl, h1, h2⟩ := h
  obtain ⟨a1, c1, rfl⟩ := h1.shape
  obtain ⟨a2, c2, rfl⟩ := h2.shape
  exact ⟨_, _, rfl, fun y hy => by
    simp only [List.mem_cons, List.not_mem_nil, or_false] at hy
    rcases hy with rfl | rfl <;> rfl⟩
theorem RT.last {w : World} {va vb : Value} {x : TabD} (h : RT w (.agg #[va, vb]) x) : ∃ lo hi, IS lo hi w vb x.2 ∧ ISS lo hi w va x.1 := by
  obtain ⟨lo, hi, va', vb', he, h1, h2⟩ := h
  have e2 : [va, vb] = [va', vb'] := by
    simp only [Value.agg.injEq] at he
    exact congrArg Array.toList he
  simp only [List.cons.injEq, and_true] at e2
  rw [e2.1, e2.2]
  exact ⟨lo, hi, h2, h1⟩
theorem ResT.rt {e e2 : TypeId} {w w' : World} {r : Value} {p : TabD × Int} (h : ResT e e2 w r w' p) : ∃ va vb, r = .tuple #[.agg #[va, vb], .int .i64 p.2] ∧ RT w' (.agg #[va, vb]) p.1 ∧ (∀ y ∈ [va, vb], y.oneCell' = true) ∧ Chg 0 0 w w' := by
  obtain ⟨v, rfl, h1, h2⟩ := h
  have h3 : RT w' v p.1 := ⟨_, _, h1.rd⟩
  obtain ⟨va, vb, rfl, hc⟩ := h3.cells
  exact ⟨va, vb, rfl, h3, hc, h2⟩
abbrev ItemT := Nat × Nat × Value × Value × TabD
def lkT : List ItemT → Nat → Option (Nat × Value × Value × TabD)
  | [], _ => none
  | p :: l, k => bif Nat.beq p.1 k then some p.2 else lkT l k
theorem lkT_mem : ∀ {l : List ItemT} {k : Nat} {q : Nat × Value × Value × TabD}, lkT l k = some q → ∃ m, (m, q) ∈ l
  | p :: l, k, q, h => by
    unfold lkT at h
    cases hb : Nat.beq p.1 k with
    | true => rw [hb] at h; simp only [cond_true, Option.some.injEq] at h; exact ⟨p.1, by rw [← h]; simp⟩
    | false => rw [hb] at h; obtain ⟨m, hm⟩ := lkT_mem h; exact ⟨m, List.mem_cons_of_mem _ hm⟩
/-- Tableaus that stand in variables, by numbers. -/
structure HaveT (w w1 : World) (l : List ItemT) : Prop where
  bel : Below w.heap.size w w1
  var : ∀ p ∈ l, Blk w1 p.2.1 [p.2.2.1, p.2.2.2.1] 27 ∧ RT w1 (.agg #[p.2.2.1, p.2.2.2.1]) p.2.2.2.2
section
variable {w w1 w2 : World} {l : List ItemT} {b : Nat} {va vb : Value} {x : TabD}
theorem HaveT.blk (h : HaveT w w1 l) (k : Nat) (e : lkT l k = some (b, va, vb, x)) : Blk w1 b [va, vb] 27 := by
  obtain ⟨m, hm⟩ := lkT_mem e
  exact (h.var _ hm).1
theorem HaveT.tab (h : HaveT w w1 l) (k : Nat) (e : lkT l k = some (b, va, vb, x)) : RT w1 (.agg #[va, vb]) x := by
  obtain ⟨m, hm⟩ := lkT_mem e
  exact (h.var _ hm).2
theorem HaveT.next (h : HaveT w w1 l) (hb : Below w1.heap.size w1 w2) : HaveT w w2 l := ⟨h.bel.trans (Below.mono hb h.bel.size), fun p hp => by
  obtain ⟨h1, h2⟩ := h.var p hp
  exact ⟨h1.below hb h1.lt, h2.below hb⟩⟩
theorem HaveT.add (h : HaveT w w1 l) (k : Nat) (hr : RT w1 (.agg #[va, vb]) x) (hb : Blk w2 w1.heap.size [va, vb] 27) (hbl : Below w1.heap.size w1 w2) : HaveT w w2 ((k, w1.heap.size, va, vb, x) :: l) :=
  have h2 := h.next hbl
  ⟨h2.bel, fun p hp => by
    rcases List.mem_cons.1 hp with rfl | hp
    · exact ⟨hb, hr.below hbl⟩
    · exact h2.var p hp⟩
theorem HaveT.still (h : HaveT w w1 l) (hs : Still w1 w2) : HaveT w w2 l := h.next (hs.below _)
theorem HaveT.chg (h : HaveT w w1 l) (hc : Chg 0 0 w1 w2) : HaveT w w2 l := h.next (hc.below (Nat.le_refl _) (Or.inr (Nat.le_refl _)))
end
theorem likeRows5_eq {lo hi lo' hi' : Nat} {w : World} {v v' : Value} {xss yss : List (List Int)} (h : ISS lo hi w v xss) (h' : ISS lo' hi' w v' yss) (e : xss = yss) :
    Does Tryz.prog 37 [v, v'] w fun r w' => r = .bool true ∧ Still w w' := by
  subst e
  have hm := h.len
  unfold maxLen at hm
  obtain ⟨a, c, hv⟩ := h.shape
  obtain ⟨a', c', hv'⟩ := h'.shape
  subst hv hv'
  refine Does.enter Tryz.func37 Tryz.ntmps37 rfl (by rfl) ?_
  repeat' (first|refine X.O ?_|refine X.A ?_|refine X.B ?_|refine X.C ?_|refine X.D ?_|refine X.E ?_|refine X.F ?_|refine X.G ?_|refine X.H ?_|refine X.I ?_|fail)
  try (refine WP.condD (by rfl) (fun hbad => False.elim (by first | exact hbad rfl | omega)) (fun _ => ?_))
  repeat' (first|refine X.O ?_|refine X.A ?_|refine X.B ?_|refine X.C ?_|refine X.D ?_|refine X.E ?_|refine X.F ?_|refine X.G ?_|refine X.H ?_|refine X.I ?_|fail)
  refine WP.loop (fun (i : Nat) => [(0, .slice a xss.length c), (1, .slice a' xss.length c'), (5, .int .i64 (i : Nat))])
    (fun i w2 => i ≤ xss.length ∧ Still w w2)
    (fun i => xss.length - i) 0 ⟨rfl, rfl, rfl, trivial⟩ ⟨by omega, Still.refl _⟩ ?_
  rintro i w2 ⟨hi1, hs2⟩
  repeat' (first|refine X.O ?_|refine X.A ?_|refine X.B ?_|refine X.C ?_|refine X.D ?_|refine X.E ?_|refine X.F ?_|refine X.G ?_|refine X.H ?_|refine X.I ?_|fail)
  first|refine X.J (fun _ => ?_) (fun _ => ?_)|refine X.L (fun _ => ?_) (fun _ => ?_)|refine X.M (fun _ => ?_) (fun _ => ?_)|refine X.R (fun _ => ?_) (fun _ => ?_)|fail
  · rename_i hlt
    have hli : i < xss.length := by omega
    repeat' (first|refine X.O ?_|refine X.A ?_|refine X.B ?_|refine X.C ?_|refine X.D ?_|refine X.E ?_|refine X.F ?_|refine X.G ?_|refine X.H ?_|refine X.I ?_|fail)
    refine WP.drawn (fun w' => w'.heap = w2.heap) [(0, true), (1, true), (2, true), (3, true), (4, true), (5, true), (6, true), (7, true), (8, false), (9, true)] (by kernel_rfl) mixed ?_
    intro w3 hs3
    have hw3 : w3.heap = w2.heap := hs3.heap
    have hs23 := hs2.trans hs3
    repeat' (first|refine X.U rfl ?_|refine X.V rfl ?_|refine X.W rfl ?_|refine X.Y rfl ?_|refine X.Z rfl ?_|refine WS.nil ?_|fail)
    refine WS.ixload (j := i) rfl rfl (h.still IS.stable hs23) (List.getElem?_eq_getElem hli) (fun w' hw' => same_heap (hw'.trans hw3.symm)) hw3 ?_
    intro p1 u1 hu1
    repeat' (first|refine X.U rfl ?_|refine X.V rfl ?_|refine X.W rfl ?_|refine X.Y rfl ?_|refine X.Z rfl ?_|refine WS.nil ?_|fail)
    refine WS.ixload (j := i) rfl rfl (h'.still IS.stable hs23) (List.getElem?_eq_getElem hli) (fun w' hw' => same_heap (hw'.trans hw3.symm)) hw3 ?_
    intro p2 u2 hu2
    refine WS.call rfl (likeInts_rd ⟨_, _, hu1⟩ ⟨_, _, hu2⟩ rfl) ?_
    rintro _ w4 ⟨rfl, hs4⟩
    have hw4 : w4.heap = w2.heap := hs4.heap.trans hw3
    refine ⟨hw4, ?_⟩
    repeat' (first|refine X.U rfl ?_|refine X.V rfl ?_|refine X.W rfl ?_|refine X.Y rfl ?_|refine X.Z rfl ?_|refine WS.nil ?_|fail)
    repeat' (first|refine X.O ?_|refine X.A ?_|refine X.B ?_|refine X.C ?_|refine X.D ?_|refine X.E ?_|refine X.F ?_|refine X.G ?_|refine X.H ?_|refine X.I ?_|fail)
    exact ⟨i + 1, ⟨rfl, rfl, (by first|rfl|exact X.T (by omega)), trivial⟩, ⟨by omega, hs23.trans hs4⟩, by omega⟩
  · repeat' (first|refine X.O ?_|refine X.A ?_|refine X.B ?_|refine X.C ?_|refine X.D ?_|refine X.E ?_|refine X.F ?_|refine X.G ?_|refine X.H ?_|refine X.I ?_|fail)
    refine ⟨_, ret1 rfl (by rfl), ?_⟩
    exact ⟨rfl, hs2⟩
theorem likeTableau5_rd {w : World} {v v' : Value} {x y : TabD} (h : RT w v x) (h' : RT w v' y) (e : x = y) : Does Tryz.prog 11 [v, v'] w fun r w' => r = .bool true ∧ Below w.heap.size w w' := by
  subst e
  obtain ⟨va, vb, rfl, hc⟩ := h.cells
  obtain ⟨va', vb', rfl, hc'⟩ := h'.cells
  obtain ⟨l1, h1, hB, hA⟩ := h.last
  obtain ⟨l2, h2, hB', hA'⟩ := h'.last
  have z1 := hA.hi_le
  have z2 := hA'.hi_le
  refine Does.enter Tryz.func11 Tryz.ntmps11 rfl (by rfl) ?_
  repeat' (first|refine X.O ?_|refine X.A ?_|refine X.B ?_|refine X.C ?_|refine X.D ?_|refine X.E ?_|refine X.F ?_|refine X.G ?_|refine X.H ?_|refine X.I ?_|fail)
  refine WL.step (o_box (by rfl) ?_)
  intro w1 hb1 hbl1 hz1
  refine WL.step (o_box (by rfl) ?_)
  intro w2 hb2 hbl2 hz2
  have hbl02 : Below w.heap.size w w2 := hbl1.trans (Below.mono hbl2 (by omega))
  have hb1' : Blk w2 w.heap.size [va, vb] 27 := Blk.below hb1 hbl2 (by omega)
  have hb2' : Blk w2 w1.heap.size [va', vb'] 27 := hb2
  repeat' (first|refine X.O ?_|refine X.A ?_|refine X.B ?_|refine X.C ?_|refine X.D ?_|refine X.E ?_|refine X.F ?_|refine X.G ?_|refine X.H ?_|refine X.I ?_|fail)
  refine WL.fld hb1' ?_
  intro p1
  refine WL.fld hb2' ?_
  intro p2
  refine WL.call (likeRows5_eq (hA.below IS.stable hbl02 z1) (hA'.below IS.stable hbl02 z2) rfl) ?_
  rintro _ w3 ⟨rfl, hs3⟩
  have hbl03 := hbl02.trans (hs3.below _)
  repeat' (first|refine X.O ?_|refine X.A ?_|refine X.B ?_|refine X.C ?_|refine X.D ?_|refine X.E ?_|refine X.F ?_|refine X.G ?_|refine X.H ?_|refine X.I ?_|fail)
  refine WL.fld (hb1'.still hs3) ?_
  intro p3
  refine WL.fld (hb2'.still hs3) ?_
  intro p4
  refine WL.call (likeInts_rd ⟨_, _, hB.below RI.stable hbl03 z1⟩ ⟨_, _, hB'.below RI.stable hbl03 z2⟩ rfl) ?_
  rintro _ w4 ⟨rfl, hs4⟩
  repeat' (first|refine X.O ?_|refine X.A ?_|refine X.B ?_|refine X.C ?_|refine X.D ?_|refine X.E ?_|refine X.F ?_|refine X.G ?_|refine X.H ?_|refine X.I ?_|fail)
  refine ⟨_, ret1 rfl (by rfl), ?_⟩
  exact ⟨rfl, hbl03.trans (hs4.below _)⟩
end Go.Proofs
/- UnitMap, the program's, by itself. -/
set_option maxRecDepth 8000
namespace Go.Proofs
open Go Go.Fw Go.RowKit Go.Rk
end Go.Proofs
