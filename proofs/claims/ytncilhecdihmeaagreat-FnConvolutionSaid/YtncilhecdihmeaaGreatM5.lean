/- Drawn maps: DrawConvolve; the laws' conv9 and others over lists at hand. -/
import Derived.Test.YtncilhecdihmeaaGreatM4
set_option maxRecDepth 8000
namespace Go.Proofs
open Go Go.Fw Go.RowKit Go.Rk
theorem DrawConvolve_any {lo hi : Nat} {w : World} {v : Value} {bs : List Int} (h : IU lo hi w v bs) (hn : bs.length ≤ 4096) :
    Does Tryz.prog 45 [v] w fun r w' => (∃ v5 v6 xs ys, r = .tuple #[v5, v6] ∧ IS w.heap.size w'.heap.size w' v5 xs ∧ IS w.heap.size w'.heap.size w' v6 ys) ∧ Below w.heap.size w w' := by
  refine Does.enter Tryz.func45 Tryz.ntmps45 rfl (by rfl) ?_
  repeat' (first|refine X.O ?_|refine X.A ?_|refine X.B ?_|refine X.C ?_|refine X.D ?_|refine X.E ?_|refine X.F ?_|refine X.G ?_|refine X.H ?_|refine X.I ?_|fail)
  refine WL.call (l01From_any h hn) ?_
  rintro _ w1 ⟨rfl, hsrc1, hc1⟩
  have hz1 := hc1.size
  have hlt1 := hsrc1.lt
  have hbl1 : Below w.heap.size w w1 := hc1.below (by omega) (Or.inr (Nat.le_refl _))
  obtain ⟨sb, hsb⟩ : ∃ sb, w.heap.size = sb := ⟨_, rfl⟩
  rw [hsb] at hsrc1 hlt1 ⊢
  have fin : ∀ wz, Drew sb w1 wz → Below sb w wz := fun wz hd => by
    rw [hsb] at hbl1
    exact hbl1.trans (hd.chg.below (by omega) (Or.inl (Nat.le_refl _)))
  repeat' (first|refine X.O ?_|refine X.A ?_|refine X.B ?_|refine X.C ?_|refine X.D ?_|refine X.E ?_|refine X.F ?_|refine X.G ?_|refine X.H ?_|refine X.I ?_|fail)
  refine WL.call (l07DrawAny_own hsrc1) ?_
  rintro v5 w2 ⟨⟨xs, hx⟩, hd2⟩
  have hz2 := hd2.chg.size
  repeat' (first|refine X.O ?_|refine X.A ?_|refine X.B ?_|refine X.C ?_|refine X.D ?_|refine X.E ?_|refine X.F ?_|refine X.G ?_|refine X.H ?_|refine X.I ?_|fail)
  refine WL.call (l07DrawAny_own hd2.src) ?_
  rintro v6 w3 ⟨⟨ys, hy⟩, hd3⟩
  have hz3 := hd3.chg.size
  have hx3 := (hx.drew hd3 hlt1).toIS (lo' := sb) (by omega)
  have hx2 := hx.toIS (lo' := w1.heap.size) (Nat.le_refl _)
  have hx3' := RI.chg hx2 hd3.chg (Or.inr (by omega))
  have hd13 := hd2.trans hd3
  repeat' (first|refine X.O ?_|refine X.A ?_|refine X.B ?_|refine X.C ?_|refine X.D ?_|refine X.E ?_|refine X.F ?_|refine X.G ?_|refine X.H ?_|refine X.I ?_|fail)
  refine WL.call (l01Next_any hd13.src 4 (by omega)) ?_
  rintro _ w4 ⟨⟨c, rfl, _, _⟩, hd4⟩
  have hz4 := hd4.chg.size
  have hx4 := RI.chg hx3' hd4.chg (Or.inr (by omega))
  have hy4 := hy.drew hd4 (by omega)
  have hd14 := hd13.trans hd4
  repeat' (first|refine X.O ?_|refine X.A ?_|refine X.B ?_|refine X.C ?_|refine X.D ?_|refine X.E ?_|refine X.F ?_|refine X.G ?_|refine X.H ?_|refine X.I ?_|fail)
  first|refine X.J (fun _ => ?_) (fun _ => ?_)|refine X.L (fun _ => ?_) (fun _ => ?_)|refine X.M (fun _ => ?_) (fun _ => ?_)|refine X.R (fun _ => ?_) (fun _ => ?_)|fail
  · repeat' (first|refine X.O ?_|refine X.A ?_|refine X.B ?_|refine X.C ?_|refine X.D ?_|refine X.E ?_|refine X.F ?_|refine X.G ?_|refine X.H ?_|refine X.I ?_|fail)
    refine WL.call (l01Number_any hd14.src) ?_
    rintro _ w5 ⟨⟨k, rfl, _, _⟩, hd5⟩
    have hz5 := hd5.chg.size
    have hx5 := RI.chg hx4 hd5.chg (Or.inr (by omega))
    have hy5 := hy4.drew hd5 (by omega)
    have hd15 := hd14.trans hd5
    repeat' (first|refine X.O ?_|refine X.A ?_|refine X.B ?_|refine X.C ?_|refine X.D ?_|refine X.E ?_|refine X.F ?_|refine X.G ?_|refine X.H ?_|refine X.I ?_|fail)
    refine WL.ixstoreD (z0 := k) hy5 ?_
    intro p w6 hy6 hbl6 hz6 _
    have hx6 := hx5.below RI.stable hbl6 (by omega)
    repeat' (first|refine X.O ?_|refine X.A ?_|refine X.B ?_|refine X.C ?_|refine X.D ?_|refine X.E ?_|refine X.F ?_|refine X.G ?_|refine X.H ?_|refine X.I ?_|fail)
    refine ⟨_, ret2 rfl (by rfl) (by rfl), ?_⟩
    exact ⟨⟨_, _, _, _, rfl, hx6.wide RI.stable (by omega) (by omega) (Nat.le_refl _), hy6.toIS (by omega)⟩, fin _ (hd15.into hbl6 (by omega) (by omega))⟩
  · repeat' (first|refine X.O ?_|refine X.A ?_|refine X.B ?_|refine X.C ?_|refine X.D ?_|refine X.E ?_|refine X.F ?_|refine X.G ?_|refine X.H ?_|refine X.I ?_|fail)
    refine ⟨_, ret2 rfl (by rfl) (by rfl), ?_⟩
    exact ⟨⟨_, _, _, _, rfl, hx4.wide RI.stable (by omega) (by omega) (Nat.le_refl _), hy4.toIS (by omega)⟩, fin _ hd14⟩
theorem conv9_rd {w : World} {vb vx : Value} {b x : List Int} (hB : RD w vb b) (hX : RD w vx x) (hb : Chr b) (hx : isMap x = true) : Does Tryz.prog 57 [vb, vx] w fun r w' => NewI w r w' (convR modR cutLit b x) := by
  obtain ⟨_, _, hB⟩ := hB; obtain ⟨_, _, hX⟩ := hX; exact conv9_any hB hX (conv_ok hb hx)
theorem ScaleMap_rd {w : World} {va : Value} {a : List Int} {k : Int} (hA : RD w va a) (ha : isMap a = true) (hk : isN k = true) : Does Tryz.prog 55 [va, .int .i64 k] w fun r w' => ∃ v, r = .tuple #[v, .int .i64 0] ∧ NewI w v w' (scaleML a k) := by
  obtain ⟨_, _, hA⟩ := hA
  have := ScaleMap_any hA k
  rwa [scale_ok ha hk] at this
theorem InverseMap_rd {w : World} {va : Value} {a : List Int} (hA : RD w va a) (ha : Chr a) : Does Tryz.prog 52 [va] w fun r w' => ∃ v, r = .tuple #[v, .int .i64 0] ∧ NewI w v w' (invL a) := by
  obtain ⟨_, _, hA⟩ := hA
  have := InverseMap_any hA
  rwa [inverse_ok ha] at this
theorem IsCharacter_rd {w : World} {va : Value} {a : List Int} (hA : RD w va a) (ha : Chr a) : Does Tryz.prog 58 [va] w fun r w' => r = .bool true ∧ Still w w' := by
  obtain ⟨_, _, hA⟩ := hA; exact IsCharacter_any hA ha
end Go.Proofs
