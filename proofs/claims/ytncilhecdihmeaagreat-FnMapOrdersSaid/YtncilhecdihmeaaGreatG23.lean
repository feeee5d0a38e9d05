/- Drawn maps: DrawOrderOfMap. -/
import Derived.Test.YtncilhecdihmeaaGreatG22
set_option maxRecDepth 8000
namespace Go.Proofs
open Go Go.Fw Go.RowKit Go.Rk
theorem DrawOrderOfMap_any {lo hi : Nat} {w : World} {v : Value} {bs : List Int} (h : IU lo hi w v bs) (hn : bs.length ≤ 4096) :
    Does Tryz.prog 27 [v] w fun r w' => (∃ xs, IS w.heap.size w'.heap.size w' r xs ∧ xs.length ≤ 38) ∧ Below w.heap.size w w' := by
  refine Does.enter Tryz.func27 Tryz.ntmps27 rfl (by rfl) ?_
  repeat' (first|refine X.O ?_|refine X.A ?_|refine X.B ?_|refine X.C ?_|refine X.D ?_|refine X.E ?_|refine X.F ?_|refine X.G ?_|refine X.H ?_|refine X.I ?_|fail)
  refine WL.call (l01From_any h hn) ?_
  rintro _ w1 ⟨rfl, hsrc1, hc1⟩
  have hz1 := hc1.size
  have hlt1 := hsrc1.lt
  have hbl1 : Below w.heap.size w w1 := hc1.below (by omega) (Or.inr (Nat.le_refl _))
  obtain ⟨sb, hsb⟩ : ∃ sb, w.heap.size = sb := ⟨_, rfl⟩
  rw [hsb] at hsrc1 hlt1 ⊢
  have fin : ∀ wz, Drew sb w1 wz → Below sb w wz := fun wz hd => by
    rw [hsb] at hbl1
    exact hbl1.trans (hd.chg.below (by omega) (Or.inl (Nat.le_refl _)))
  repeat' (first|refine X.O ?_|refine X.A ?_|refine X.B ?_|refine X.C ?_|refine X.D ?_|refine X.E ?_|refine X.F ?_|refine X.G ?_|refine X.H ?_|refine X.I ?_|fail)
  refine WL.call (l07DrawAny_any hsrc1) ?_
  rintro v5 w2 ⟨⟨xs, hx, hx1, hx38⟩, hd2⟩
  have hz2 := hd2.chg.size
  repeat' (first|refine X.O ?_|refine X.A ?_|refine X.B ?_|refine X.C ?_|refine X.D ?_|refine X.E ?_|refine X.F ?_|refine X.G ?_|refine X.H ?_|refine X.I ?_|fail)
  refine WL.call (l01Next_any hd2.src 2 (by omega)) ?_
  rintro _ w4 ⟨⟨c, rfl, _, _⟩, hd4⟩
  have hz4 := hd4.chg.size
  have hx4 := RI.chg hx hd4.chg (Or.inr (by omega))
  have hd14 := hd2.trans hd4
  repeat' (first|refine X.O ?_|refine X.A ?_|refine X.B ?_|refine X.C ?_|refine X.D ?_|refine X.E ?_|refine X.F ?_|refine X.G ?_|refine X.H ?_|refine X.I ?_|fail)
  first|refine X.J (fun _ => ?_) (fun _ => ?_)|refine X.L (fun _ => ?_) (fun _ => ?_)|refine X.M (fun _ => ?_) (fun _ => ?_)|refine X.R (fun _ => ?_) (fun _ => ?_)|fail
  · repeat' (first|refine X.O ?_|refine X.A ?_|refine X.B ?_|refine X.C ?_|refine X.D ?_|refine X.E ?_|refine X.F ?_|refine X.G ?_|refine X.H ?_|refine X.I ?_|fail)
    refine WL.call (l07Exact_any _) ?_
    intro v7 w5 hN5
    have hz5 := hN5.2.size
    obtain ⟨a7, c7, hv7, _⟩ := hN5.1.shape
    rw [Ints_length, exactL_len] at hv7
    subst hv7
    have hd15 := hd14.into hN5.2 (by omega) (by omega)
    repeat' (first|refine X.O ?_|refine X.A ?_|refine X.B ?_|refine X.C ?_|refine X.D ?_|refine X.E ?_|refine X.F ?_|refine X.G ?_|refine X.H ?_|refine X.I ?_|fail)
    refine WL.call (l01Next_any hd15.src 37 (by omega)) ?_
    rintro _ w6 ⟨⟨j, rfl, _, hj⟩, hd6⟩
    have hjx := hj (by omega)
    have hz6 := hd6.chg.size
    have hown6 := drew_own hN5.1 hd6 (by omega)
    repeat' (first|refine X.O ?_|refine X.A ?_|refine X.B ?_|refine X.C ?_|refine X.D ?_|refine X.E ?_|refine X.F ?_|refine X.G ?_|refine X.H ?_|refine X.I ?_|fail)
    refine WL.call (l01Number_any (hd15.trans hd6).src) ?_
    rintro _ w7 ⟨⟨k, rfl, hk0, hk1⟩, hd7⟩
    have hz7 := hd7.chg.size
    have hown7 := drew_own hown6 hd7 (by omega)
    refine WL.ixstore (j := j.toNat + 1) (u := .int .i64 k) hown7 (by rw [Ints_length, exactL_len]; omega) ?_
    intro p1 w8 hown8 hbl8 hz8 hf8
    rw [Ints_set] at hown8
    have hd18 := ((hd15.trans hd6).trans hd7).into hbl8 (by omega) (by omega)
    repeat' (first|refine X.O ?_|refine X.A ?_|refine X.B ?_|refine X.C ?_|refine X.D ?_|refine X.E ?_|refine X.F ?_|refine X.G ?_|refine X.H ?_|refine X.I ?_|fail)
    refine ⟨_, ret1 rfl (by rfl), ?_⟩
    exact ⟨⟨_, hown8.toIS (lo' := sb) (by omega), by rw [List.length_set, exactL_len]; omega⟩, fin _ hd18⟩
  · repeat' (first|refine X.O ?_|refine X.A ?_|refine X.B ?_|refine X.C ?_|refine X.D ?_|refine X.E ?_|refine X.F ?_|refine X.G ?_|refine X.H ?_|refine X.I ?_|fail)
    refine ⟨_, ret1 rfl (by rfl), ?_⟩
    exact ⟨⟨_, hx4.wide RI.stable (by omega) (by omega) (Nat.le_refl _), hx38⟩, fin _ hd14⟩
end Go.Proofs
