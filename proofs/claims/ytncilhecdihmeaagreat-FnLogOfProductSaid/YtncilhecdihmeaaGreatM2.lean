/- Short words of the laws: act9, bracket9, plus9; drawn pairs of maps. -/
import Derived.Test.YtncilhecdihmeaaGreatM1
import Derived.Test.YtncilhecdihmeaaGreatG26
import Derived.Test.YtncilhecdihmeaaGreatG12
set_option maxRecDepth 8000
namespace Go.Proofs
open Go Go.Fw Go.RowKit Go.Rk
theorem act9_any {lb hb lx hx : Nat} {w : World} {vb vx : Value} {b x y : List Int} (hB : IS lb hb w vb b) (hX : IS lx hx w vx x) (e : actOn b x = (y, 0)) :
    Does Tryz.prog 66 [vb, vx] w fun r w' => NewI w r w' y := by
  refine Does.enter Tryz.func66 Tryz.ntmps66 rfl (by rfl) ?_
  repeat' (first|refine X.O ?_|refine X.A ?_|refine X.B ?_|refine X.C ?_|refine X.D ?_|refine X.E ?_|refine X.F ?_|refine X.G ?_|refine X.H ?_|refine X.I ?_|fail)
  refine WL.call (ActOn_any hB hX) ?_
  rintro _ w1 ⟨v1, rfl, hN⟩
  rw [e] at hN ⊢
  repeat' (first|refine X.O ?_|refine X.A ?_|refine X.B ?_|refine X.C ?_|refine X.D ?_|refine X.E ?_|refine X.F ?_|refine X.G ?_|refine X.H ?_|refine X.I ?_|fail)
  try (refine WP.condD (by rfl) (fun hbad => False.elim (by first | exact hbad rfl | omega)) (fun _ => ?_))
  repeat' (first|refine X.O ?_|refine X.A ?_|refine X.B ?_|refine X.C ?_|refine X.D ?_|refine X.E ?_|refine X.F ?_|refine X.G ?_|refine X.H ?_|refine X.I ?_|fail)
  refine ⟨_, ret1 rfl (by rfl), ?_⟩
  exact hN
theorem bracket9_any {lb hb lx hx : Nat} {w : World} {vb vx : Value} {b x y : List Int} (hB : IS lb hb w vb b) (hX : IS lx hx w vx x) (e : bracketOf b x = (y, 0)) :
    Does Tryz.prog 65 [vb, vx] w fun r w' => NewI w r w' y := by
  refine Does.enter Tryz.func65 Tryz.ntmps65 rfl (by rfl) ?_
  repeat' (first|refine X.O ?_|refine X.A ?_|refine X.B ?_|refine X.C ?_|refine X.D ?_|refine X.E ?_|refine X.F ?_|refine X.G ?_|refine X.H ?_|refine X.I ?_|fail)
  refine WL.call (BracketOf_any hB hX) ?_
  rintro _ w1 ⟨v1, rfl, hN⟩
  rw [e] at hN ⊢
  repeat' (first|refine X.O ?_|refine X.A ?_|refine X.B ?_|refine X.C ?_|refine X.D ?_|refine X.E ?_|refine X.F ?_|refine X.G ?_|refine X.H ?_|refine X.I ?_|fail)
  try (refine WP.condD (by rfl) (fun hbad => False.elim (by first | exact hbad rfl | omega)) (fun _ => ?_))
  repeat' (first|refine X.O ?_|refine X.A ?_|refine X.B ?_|refine X.C ?_|refine X.D ?_|refine X.E ?_|refine X.F ?_|refine X.G ?_|refine X.H ?_|refine X.I ?_|fail)
  refine ⟨_, ret1 rfl (by rfl), ?_⟩
  exact hN
theorem l08Draw_any {sb : Nat} {w : World} (h : Srce sb w) : Does Tryz.prog 117 [.pointer (some ⟨sb, 0, none⟩)] w fun r w' => (∃ xs, OwD w.heap.size w' r xs) ∧ Drew sb w w' := by
  have hlt := h.lt
  refine Does.enter Tryz.func117 Tryz.ntmps117 rfl (by rfl) ?_
  repeat' (first|refine X.O ?_|refine X.A ?_|refine X.B ?_|refine X.C ?_|refine X.D ?_|refine X.E ?_|refine X.F ?_|refine X.G ?_|refine X.H ?_|refine X.I ?_|fail)
  refine WL.call (l07DrawAny_own h) ?_
  rintro v1 w1 ⟨⟨xs, hx⟩, hd1⟩
  have hz1 := hd1.chg.size
  repeat' (first|refine X.O ?_|refine X.A ?_|refine X.B ?_|refine X.C ?_|refine X.D ?_|refine X.E ?_|refine X.F ?_|refine X.G ?_|refine X.H ?_|refine X.I ?_|fail)
  refine WL.call (l01Next_any hd1.src 20 (by omega)) ?_
  rintro _ w2 ⟨⟨y, rfl, _, _⟩, hd2⟩
  have hd02 := hd1.trans hd2
  have hz2 := hd2.chg.size
  have hx2 := hx.drew hd2 hlt
  repeat' (first|refine X.O ?_|refine X.A ?_|refine X.B ?_|refine X.C ?_|refine X.D ?_|refine X.E ?_|refine X.F ?_|refine X.G ?_|refine X.H ?_|refine X.I ?_|fail)
  first|refine X.J (fun _ => ?_) (fun _ => ?_)|refine X.L (fun _ => ?_) (fun _ => ?_)|refine X.M (fun _ => ?_) (fun _ => ?_)|refine X.R (fun _ => ?_) (fun _ => ?_)|fail
  · repeat' (first|refine X.O ?_|refine X.A ?_|refine X.B ?_|refine X.C ?_|refine X.D ?_|refine X.E ?_|refine X.F ?_|refine X.G ?_|refine X.H ?_|refine X.I ?_|fail)
    refine WL.ixstoreD (z0 := 0) hx2 ?_
    intro p w3 hx3 hbl3 hz3 _
    repeat' (first|refine X.O ?_|refine X.A ?_|refine X.B ?_|refine X.C ?_|refine X.D ?_|refine X.E ?_|refine X.F ?_|refine X.G ?_|refine X.H ?_|refine X.I ?_|fail)
    refine ⟨_, ret1 rfl (by rfl), ?_⟩
    exact ⟨⟨_, hx3⟩, hd02.into hbl3 (Nat.le_refl _) hlt⟩
  · repeat' (first|refine X.O ?_|refine X.A ?_|refine X.B ?_|refine X.C ?_|refine X.D ?_|refine X.E ?_|refine X.F ?_|refine X.G ?_|refine X.H ?_|refine X.I ?_|fail)
    refine ⟨_, ret1 rfl (by rfl), ?_⟩
    exact ⟨⟨_, hx2⟩, hd02⟩
theorem l08DrawTwo_any {lo hi : Nat} {w : World} {v : Value} {bs : List Int} (h : IU lo hi w v bs) (hn : bs.length ≤ 4096) :
    Does Tryz.prog 114 [v] w fun r w' => (∃ v5 v6 xs ys, r = .tuple #[v5, v6] ∧ IS w.heap.size w'.heap.size w' v5 xs ∧ IS w.heap.size w'.heap.size w' v6 ys) ∧ Below w.heap.size w w' := by
  refine Does.enter Tryz.func114 Tryz.ntmps114 rfl (by rfl) ?_
  repeat' (first|refine X.O ?_|refine X.A ?_|refine X.B ?_|refine X.C ?_|refine X.D ?_|refine X.E ?_|refine X.F ?_|refine X.G ?_|refine X.H ?_|refine X.I ?_|fail)
  refine WL.call (l01From_any h hn) ?_
  rintro _ w1 ⟨rfl, hsrc1, hc1⟩
  have hz1 := hc1.size
  have hlt1 := hsrc1.lt
  have hbl1 : Below w.heap.size w w1 := hc1.below (by omega) (Or.inr (Nat.le_refl _))
  obtain ⟨sb, hsb⟩ : ∃ sb, w.heap.size = sb := ⟨_, rfl⟩
  rw [hsb] at hsrc1 hlt1 ⊢
  have fin : ∀ wz, Drew sb w1 wz → Below sb w wz := fun wz hd => by
    rw [hsb] at hbl1
    exact hbl1.trans (hd.chg.below (by omega) (Or.inl (Nat.le_refl _)))
  repeat' (first|refine X.O ?_|refine X.A ?_|refine X.B ?_|refine X.C ?_|refine X.D ?_|refine X.E ?_|refine X.F ?_|refine X.G ?_|refine X.H ?_|refine X.I ?_|fail)
  refine WL.call (l08Draw_any hsrc1) ?_
  rintro v5 w2 ⟨⟨xs, hx⟩, hd2⟩
  have hz2 := hd2.chg.size
  repeat' (first|refine X.O ?_|refine X.A ?_|refine X.B ?_|refine X.C ?_|refine X.D ?_|refine X.E ?_|refine X.F ?_|refine X.G ?_|refine X.H ?_|refine X.I ?_|fail)
  refine WL.call (l08Draw_any hd2.src) ?_
  rintro v6 w3 ⟨⟨ys, hy⟩, hd3⟩
  have hz3 := hd3.chg.size
  have hx3 := hx.drew hd3 hlt1
  repeat' (first|refine X.O ?_|refine X.A ?_|refine X.B ?_|refine X.C ?_|refine X.D ?_|refine X.E ?_|refine X.F ?_|refine X.G ?_|refine X.H ?_|refine X.I ?_|fail)
  refine ⟨_, ret2 rfl (by rfl) (by rfl), ?_⟩
  exact ⟨⟨_, _, _, _, rfl, hx3.toIS (by omega), hy.toIS (by omega)⟩, fin _ (hd2.trans hd3)⟩
theorem DrawBracketOf_any {lo hi : Nat} {w : World} {v : Value} {bs : List Int} (h : IU lo hi w v bs) (hn : bs.length ≤ 4096) :
    Does Tryz.prog 63 [v] w fun r w' => (∃ v5 v6 xs ys, r = .tuple #[v5, v6] ∧ IS w.heap.size w'.heap.size w' v5 xs ∧ IS w.heap.size w'.heap.size w' v6 ys) ∧ Below w.heap.size w w' := by
  refine Does.enter Tryz.func63 Tryz.ntmps63 rfl (by rfl) ?_
  repeat' (first|refine X.O ?_|refine X.A ?_|refine X.B ?_|refine X.C ?_|refine X.D ?_|refine X.E ?_|refine X.F ?_|refine X.G ?_|refine X.H ?_|refine X.I ?_|fail)
  refine WL.call (l08DrawTwo_any h hn) ?_
  rintro _ w1 ⟨⟨v5, v6, xs, ys, rfl, hx, hy⟩, hbl⟩
  repeat' (first|refine X.O ?_|refine X.A ?_|refine X.B ?_|refine X.C ?_|refine X.D ?_|refine X.E ?_|refine X.F ?_|refine X.G ?_|refine X.H ?_|refine X.I ?_|fail)
  refine ⟨_, ret2 rfl (by rfl) (by rfl), ?_⟩
  exact ⟨⟨_, _, _, _, rfl, hx, hy⟩, hbl⟩
theorem DrawLogOfProduct_any {lo hi : Nat} {w : World} {v : Value} {bs : List Int} (h : IU lo hi w v bs) (hn : bs.length ≤ 4096) :
    Does Tryz.prog 70 [v] w fun r w' => (∃ v5 v6 xs ys, r = .tuple #[v5, v6] ∧ IS w.heap.size w'.heap.size w' v5 xs ∧ IS w.heap.size w'.heap.size w' v6 ys) ∧ Below w.heap.size w w' := by
  refine Does.enter Tryz.func70 Tryz.ntmps70 rfl (by rfl) ?_
  repeat' (first|refine X.O ?_|refine X.A ?_|refine X.B ?_|refine X.C ?_|refine X.D ?_|refine X.E ?_|refine X.F ?_|refine X.G ?_|refine X.H ?_|refine X.I ?_|fail)
  refine WL.call (l08DrawTwo_any h hn) ?_
  rintro _ w1 ⟨⟨v5, v6, xs, ys, rfl, hx, hy⟩, hbl⟩
  repeat' (first|refine X.O ?_|refine X.A ?_|refine X.B ?_|refine X.C ?_|refine X.D ?_|refine X.E ?_|refine X.F ?_|refine X.G ?_|refine X.H ?_|refine X.I ?_|fail)
  refine ⟨_, ret2 rfl (by rfl) (by rfl), ?_⟩
  exact ⟨⟨_, _, _, _, rfl, hx, hy⟩, hbl⟩
end Go.Proofs
/- What is at hand in a law's walk: lists that are read, and that nothing old has turned. -/
set_option maxRecDepth 8000
namespace Go.Proofs
open Go Go.Fw Go.RowKit Go.Rk
theorem act9_rd {w : World} {vb vx : Value} {b x y : List Int} (hB : RD w vb b) (hX : RD w vx x) (e : actOn b x = (y, 0)) : Does Tryz.prog 66 [vb, vx] w fun r w' => NewI w r w' y := by
  obtain ⟨_, _, hB⟩ := hB; obtain ⟨_, _, hX⟩ := hX; exact act9_any hB hX e
theorem bracket9_rd {w : World} {vb vx : Value} {b x y : List Int} (hB : RD w vb b) (hX : RD w vx x) (e : bracketOf b x = (y, 0)) : Does Tryz.prog 65 [vb, vx] w fun r w' => NewI w r w' y := by
  obtain ⟨_, _, hB⟩ := hB; obtain ⟨_, _, hX⟩ := hX; exact bracket9_any hB hX e
end Go.Proofs
