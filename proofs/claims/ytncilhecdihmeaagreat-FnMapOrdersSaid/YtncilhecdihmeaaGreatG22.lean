/- Drawn maps: l01Spoil, l07DrawAny, DrawAgreeTo, DrawOrderOfMap. -/
import Derived.Test.YtncilhecdihmeaaGreatG21
import Derived.Test.YtncilhecdihmeaaGreatD4
set_option maxRecDepth 8000
namespace Go.Proofs
open Go Go.Fw Go.RowKit Go.Rk
theorem l01Spoil_any {sb : Nat} {w : World} (h : Srce sb w) : Does Tryz.prog 129 [.pointer (some ⟨sb, 0, none⟩)] w fun r w' => (∃ y, r = .int .i64 y) ∧ Drew sb w w' := by
  have hlt := h.lt
  refine Does.enter Tryz.func129 Tryz.ntmps129 rfl (by rfl) ?_
  repeat' (first|refine X.O ?_|refine X.A ?_|refine X.B ?_|refine X.C ?_|refine X.D ?_|refine X.E ?_|refine X.F ?_|refine X.G ?_|refine X.H ?_|refine X.I ?_|fail)
  refine WL.call (l01Next_any h 30 (by omega)) ?_
  rintro _ w1 ⟨⟨y, rfl, _, _⟩, hd1⟩
  have hz1 := hd1.chg.size
  repeat' (first|refine X.O ?_|refine X.A ?_|refine X.B ?_|refine X.C ?_|refine X.D ?_|refine X.E ?_|refine X.F ?_|refine X.G ?_|refine X.H ?_|refine X.I ?_|fail)
  first|refine X.J (fun _ => ?_) (fun _ => ?_)|refine X.L (fun _ => ?_) (fun _ => ?_)|refine X.M (fun _ => ?_) (fun _ => ?_)|refine X.R (fun _ => ?_) (fun _ => ?_)|fail
  · repeat' (first|refine X.O ?_|refine X.A ?_|refine X.B ?_|refine X.C ?_|refine X.D ?_|refine X.E ?_|refine X.F ?_|refine X.G ?_|refine X.H ?_|refine X.I ?_|fail)
    refine WL.step (o_lit (us := Ints [-1, 10007, 1099511627776, -4611686018427387904]) (by rfl) (by rfl) rfl (by decide) (fun u hu => by
      obtain ⟨z, _, rfl⟩ := List.mem_map.1 hu
      rfl) ?_)
    intro v2 w2 hown2 hbl2 hz2 _
    have hd2 := hd1.into hbl2 (by omega) (by omega)
    refine WL.call (l01Pick_any hd2.src (hown2.toIS (Nat.le_refl _)) (by omega) (by simp)) ?_
    rintro _ w3 ⟨⟨k, rfl, _⟩, hd3⟩
    repeat' (first|refine X.O ?_|refine X.A ?_|refine X.B ?_|refine X.C ?_|refine X.D ?_|refine X.E ?_|refine X.F ?_|refine X.G ?_|refine X.H ?_|refine X.I ?_|fail)
    refine ⟨_, ret1 rfl (by rfl), ?_⟩
    exact ⟨⟨k, rfl⟩, hd2.trans hd3⟩
  · repeat' (first|refine X.O ?_|refine X.A ?_|refine X.B ?_|refine X.C ?_|refine X.D ?_|refine X.E ?_|refine X.F ?_|refine X.G ?_|refine X.H ?_|refine X.I ?_|fail)
    refine WL.call (l01Number_any hd1.src) ?_
    rintro _ w2 ⟨⟨k, rfl, _, _⟩, hd2⟩
    repeat' (first|refine X.O ?_|refine X.A ?_|refine X.B ?_|refine X.C ?_|refine X.D ?_|refine X.E ?_|refine X.F ?_|refine X.G ?_|refine X.H ?_|refine X.I ?_|fail)
    refine ⟨_, ret1 rfl (by rfl), ?_⟩
    exact ⟨⟨k, rfl⟩, hd1.trans hd2⟩
theorem l07DrawAny_any {sb : Nat} {w : World} (h : Srce sb w) : Does Tryz.prog 80 [.pointer (some ⟨sb, 0, none⟩)] w fun r w' => (∃ xs, IS w.heap.size w'.heap.size w' r xs ∧ 1 ≤ xs.length ∧ xs.length ≤ 38) ∧ Drew sb w w' := by
  have hlt := h.lt
  refine Does.enter Tryz.func80 Tryz.ntmps80 rfl (by rfl) ?_
  repeat' (first|refine X.O ?_|refine X.A ?_|refine X.B ?_|refine X.C ?_|refine X.D ?_|refine X.E ?_|refine X.F ?_|refine X.G ?_|refine X.H ?_|refine X.I ?_|fail)
  refine WL.call (l07Draw_any h 1 (by kernel_rfl)) ?_
  rintro v1 w1 ⟨⟨xs, hown1, h1, h38⟩, hd1⟩
  have hz1 := hd1.chg.size
  obtain ⟨a1, c1, hv1, _⟩ := hown1.shape
  rw [Ints_length, h38] at hv1
  subst hv1
  repeat' (first|refine X.O ?_|refine X.A ?_|refine X.B ?_|refine X.C ?_|refine X.D ?_|refine X.E ?_|refine X.F ?_|refine X.G ?_|refine X.H ?_|refine X.I ?_|fail)
  refine WL.call (l01Next_any hd1.src 24 (by omega)) ?_
  rintro _ w2 ⟨⟨y, rfl, _, _⟩, hd2⟩
  have hd02 := hd1.trans hd2
  have hz2 := hd02.chg.size
  have hown2 := drew_own hown1 hd2 hlt
  repeat' (first|refine X.O ?_|refine X.A ?_|refine X.B ?_|refine X.C ?_|refine X.D ?_|refine X.E ?_|refine X.F ?_|refine X.G ?_|refine X.H ?_|refine X.I ?_|fail)
  first|refine X.J (fun _ => ?_) (fun _ => ?_)|refine X.L (fun _ => ?_) (fun _ => ?_)|refine X.M (fun _ => ?_) (fun _ => ?_)|refine X.R (fun _ => ?_) (fun _ => ?_)|fail
  · repeat' (first|refine X.O ?_|refine X.A ?_|refine X.B ?_|refine X.C ?_|refine X.D ?_|refine X.E ?_|refine X.F ?_|refine X.G ?_|refine X.H ?_|refine X.I ?_|fail)
    refine WL.call (l01Next_any hd02.src 3 (by omega)) ?_
    rintro _ w3 ⟨⟨k, rfl, _, _⟩, hd3⟩
    have hown3 := drew_own hown2 hd3 hlt
    have hd03 := hd02.trans hd3
    have hz3 := hd03.chg.size
    refine WL.ixstore (j := 0) (u := .int .i64 k) hown3 (by rw [Ints_length]; omega) ?_
    intro p1 w4 hown4 hbl4 hz4 hf4
    rw [Ints_set] at hown4
    repeat' (first|refine X.O ?_|refine X.A ?_|refine X.B ?_|refine X.C ?_|refine X.D ?_|refine X.E ?_|refine X.F ?_|refine X.G ?_|refine X.H ?_|refine X.I ?_|fail)
    refine ⟨_, ret1 rfl (by rfl), ?_⟩
    exact ⟨⟨_, hown4.toIS (Nat.le_refl _), by rw [List.length_set]; omega, by rw [List.length_set]; omega⟩, hd03.into hbl4 (Nat.le_refl _) hlt⟩
  · repeat' (first|refine X.O ?_|refine X.A ?_|refine X.B ?_|refine X.C ?_|refine X.D ?_|refine X.E ?_|refine X.F ?_|refine X.G ?_|refine X.H ?_|refine X.I ?_|fail)
    first|refine X.J (fun _ => ?_) (fun _ => ?_)|refine X.L (fun _ => ?_) (fun _ => ?_)|refine X.M (fun _ => ?_) (fun _ => ?_)|refine X.R (fun _ => ?_) (fun _ => ?_)|fail
    · repeat' (first|refine X.O ?_|refine X.A ?_|refine X.B ?_|refine X.C ?_|refine X.D ?_|refine X.E ?_|refine X.F ?_|refine X.G ?_|refine X.H ?_|refine X.I ?_|fail)
      refine WL.call (l01Next_any hd02.src 38 (by omega)) ?_
      rintro _ w3 ⟨⟨j, rfl, _, hj⟩, hd3⟩
      have hj37 := hj (by omega)
      have hown3 := drew_own hown2 hd3 hlt
      have hd03 := hd02.trans hd3
      repeat' (first|refine X.O ?_|refine X.A ?_|refine X.B ?_|refine X.C ?_|refine X.D ?_|refine X.E ?_|refine X.F ?_|refine X.G ?_|refine X.H ?_|refine X.I ?_|fail)
      refine WL.call (l01Spoil_any hd03.src) ?_
      rintro _ w4 ⟨⟨k, rfl⟩, hd4⟩
      have hown4 := drew_own hown3 hd4 hlt
      have hd04 := hd03.trans hd4
      have hz4 := hd04.chg.size
      refine WL.ixstore (j := j.toNat) (u := .int .i64 k) hown4 (by rw [Ints_length]; omega) ?_
      intro p1 w5 hown5 hbl5 hz5 hf5
      rw [Ints_set] at hown5
      repeat' (first|refine X.O ?_|refine X.A ?_|refine X.B ?_|refine X.C ?_|refine X.D ?_|refine X.E ?_|refine X.F ?_|refine X.G ?_|refine X.H ?_|refine X.I ?_|fail)
      refine ⟨_, ret1 rfl (by rfl), ?_⟩
      exact ⟨⟨_, hown5.toIS (Nat.le_refl _), by rw [List.length_set]; omega, by rw [List.length_set]; omega⟩, hd04.into hbl5 (Nat.le_refl _) hlt⟩
    · repeat' (first|refine X.O ?_|refine X.A ?_|refine X.B ?_|refine X.C ?_|refine X.D ?_|refine X.E ?_|refine X.F ?_|refine X.G ?_|refine X.H ?_|refine X.I ?_|fail)
      first|refine X.J (fun _ => ?_) (fun _ => ?_)|refine X.L (fun _ => ?_) (fun _ => ?_)|refine X.M (fun _ => ?_) (fun _ => ?_)|refine X.R (fun _ => ?_) (fun _ => ?_)|fail
      · repeat' (first|refine X.O ?_|refine X.A ?_|refine X.B ?_|refine X.C ?_|refine X.D ?_|refine X.E ?_|refine X.F ?_|refine X.G ?_|refine X.H ?_|refine X.I ?_|fail)
        refine WL.step (o_sliceL (i := 1) (by rfl) (by rfl) (by omega) ?_)
        repeat' (first|refine X.O ?_|refine X.A ?_|refine X.B ?_|refine X.C ?_|refine X.D ?_|refine X.E ?_|refine X.F ?_|refine X.G ?_|refine X.H ?_|refine X.I ?_|fail)
        refine ⟨_, ret1 rfl (by rfl), ?_⟩
        exact ⟨⟨_, (hown2.toIS (Nat.le_refl _)).drop (i := 1) (by omega), by rw [List.length_drop]; omega, by rw [List.length_drop]; omega⟩, hd02⟩
      · repeat' (first|refine X.O ?_|refine X.A ?_|refine X.B ?_|refine X.C ?_|refine X.D ?_|refine X.E ?_|refine X.F ?_|refine X.G ?_|refine X.H ?_|refine X.I ?_|fail)
        refine ⟨_, ret1 rfl (by rfl), ?_⟩
        exact ⟨⟨_, hown2.toIS (Nat.le_refl _), by omega, by omega⟩, hd02⟩
theorem DrawAgreeTo_any {lo hi : Nat} {w : World} {v : Value} {bs : List Int} (h : IU lo hi w v bs) (hn : bs.length ≤ 4096) :
    Does Tryz.prog 22 [v] w fun r w' => (∃ v5 v6 xs ys, r = .tuple #[v5, v6] ∧ IS w.heap.size w'.heap.size w' v5 xs ∧ IS w.heap.size w'.heap.size w' v6 ys ∧ xs.length ≤ 38 ∧ ys.length ≤ 38) ∧ Below w.heap.size w w' := by
  refine Does.enter Tryz.func22 Tryz.ntmps22 rfl (by rfl) ?_
  repeat' (first|refine X.O ?_|refine X.A ?_|refine X.B ?_|refine X.C ?_|refine X.D ?_|refine X.E ?_|refine X.F ?_|refine X.G ?_|refine X.H ?_|refine X.I ?_|fail)
  refine WL.call (l01From_any h hn) ?_
  rintro _ w1 ⟨rfl, hsrc1, hc1⟩
  have hz1 := hc1.size
  have hlt1 := hsrc1.lt
  have hbl1 : Below w.heap.size w w1 := hc1.below (by omega) (Or.inr (Nat.le_refl _))
  obtain ⟨sb, hsb⟩ : ∃ sb, w.heap.size = sb := ⟨_, rfl⟩
  rw [hsb] at hsrc1 hlt1 ⊢
  repeat' (first|refine X.O ?_|refine X.A ?_|refine X.B ?_|refine X.C ?_|refine X.D ?_|refine X.E ?_|refine X.F ?_|refine X.G ?_|refine X.H ?_|refine X.I ?_|fail)
  refine WL.call (l07DrawAny_any hsrc1) ?_
  rintro v5 w2 ⟨⟨xs, hx, hx1, hx38⟩, hd2⟩
  have hz2 := hd2.chg.size
  repeat' (first|refine X.O ?_|refine X.A ?_|refine X.B ?_|refine X.C ?_|refine X.D ?_|refine X.E ?_|refine X.F ?_|refine X.G ?_|refine X.H ?_|refine X.I ?_|fail)
  refine WL.call (l07DrawAny_any hd2.src) ?_
  rintro v6 w3 ⟨⟨ys, hy, hy1, hy38⟩, hd3⟩
  have hz3 := hd3.chg.size
  have hx3 := RI.chg hx hd3.chg (Or.inr (by omega))
  have hd13 := hd2.trans hd3
  repeat' (first|refine X.O ?_|refine X.A ?_|refine X.B ?_|refine X.C ?_|refine X.D ?_|refine X.E ?_|refine X.F ?_|refine X.G ?_|refine X.H ?_|refine X.I ?_|fail)
  refine WL.call (l01Next_any hd13.src 3 (by omega)) ?_
  rintro _ w4 ⟨⟨c, rfl, _, _⟩, hd4⟩
  have hz4 := hd4.chg.size
  have hx4 := RI.chg hx3 hd4.chg (Or.inr (by omega))
  have hy4 := RI.chg hy hd4.chg (Or.inr (by omega))
  have hd14 := hd13.trans hd4
  have fin : ∀ wz, Drew sb w1 wz → Below sb w wz := fun wz hd => by
    rw [hsb] at hbl1
    exact hbl1.trans (hd.chg.below (by omega) (Or.inl (Nat.le_refl _)))
  repeat' (first|refine X.O ?_|refine X.A ?_|refine X.B ?_|refine X.C ?_|refine X.D ?_|refine X.E ?_|refine X.F ?_|refine X.G ?_|refine X.H ?_|refine X.I ?_|fail)
  first|refine X.J (fun _ => ?_) (fun _ => ?_)|refine X.L (fun _ => ?_) (fun _ => ?_)|refine X.M (fun _ => ?_) (fun _ => ?_)|refine X.R (fun _ => ?_) (fun _ => ?_)|fail
  · repeat' (first|refine X.O ?_|refine X.A ?_|refine X.B ?_|refine X.C ?_|refine X.D ?_|refine X.E ?_|refine X.F ?_|refine X.G ?_|refine X.H ?_|refine X.I ?_|fail)
    refine WL.call (l01Own_grow hx4 (by omega)) ?_
    intro v7 w5 hN5
    have hz5 := hN5.2.size
    obtain ⟨a7, c7, hv7, _⟩ := hN5.1.shape
    rw [Ints_length] at hv7
    subst hv7
    have hd15 := hd14.into hN5.2 (by omega) (by omega)
    have hx5 := hx4.below RI.stable hN5.2 (by omega)
    repeat' (first|refine X.O ?_|refine X.A ?_|refine X.B ?_|refine X.C ?_|refine X.D ?_|refine X.E ?_|refine X.F ?_|refine X.G ?_|refine X.H ?_|refine X.I ?_|fail)
    refine WL.call (l01Next_any hd15.src (xs.length : Nat) (by omega)) ?_
    rintro _ w6 ⟨⟨j, rfl, _, hj⟩, hd6⟩
    have hjx := hj (by omega)
    have hz6 := hd6.chg.size
    have hown6 := drew_own hN5.1 hd6 (by omega)
    have hx6 := RI.chg hx5 hd6.chg (Or.inr (by omega))
    repeat' (first|refine X.O ?_|refine X.A ?_|refine X.B ?_|refine X.C ?_|refine X.D ?_|refine X.E ?_|refine X.F ?_|refine X.G ?_|refine X.H ?_|refine X.I ?_|fail)
    refine WL.call (l01Number_any (hd15.trans hd6).src) ?_
    rintro _ w7 ⟨⟨k, rfl, hk0, hk1⟩, hd7⟩
    have hz7 := hd7.chg.size
    have hown7 := drew_own hown6 hd7 (by omega)
    have hx7 := RI.chg hx6 hd7.chg (Or.inr (by omega))
    refine WL.ixstore (j := j.toNat) (u := .int .i64 k) hown7 (by rw [Ints_length]; omega) ?_
    intro p1 w8 hown8 hbl8 hz8 hf8
    rw [Ints_set] at hown8
    have hd18 := ((hd15.trans hd6).trans hd7).into hbl8 (by omega) (by omega)
    have hx8 := hx7.below RI.stable hbl8 (by omega)
    repeat' (first|refine X.O ?_|refine X.A ?_|refine X.B ?_|refine X.C ?_|refine X.D ?_|refine X.E ?_|refine X.F ?_|refine X.G ?_|refine X.H ?_|refine X.I ?_|fail)
    refine ⟨_, ret2 rfl (by rfl) (by rfl), ?_⟩
    exact ⟨⟨_, _, _, _, rfl, hx8.wide RI.stable (by omega) (by omega) (Nat.le_refl _), (hown8.toIS (lo' := sb) (by omega)), hx38, by rw [List.length_set]; exact hx38⟩, fin _ hd18⟩
  · repeat' (first|refine X.O ?_|refine X.A ?_|refine X.B ?_|refine X.C ?_|refine X.D ?_|refine X.E ?_|refine X.F ?_|refine X.G ?_|refine X.H ?_|refine X.I ?_|fail)
    refine ⟨_, ret2 rfl (by rfl) (by rfl), ?_⟩
    exact ⟨⟨_, _, _, _, rfl, hx4.wide RI.stable (by omega) (by omega) (Nat.le_refl _), hy4.wide RI.stable (by omega) (by omega) (Nat.le_refl _), hx38, hy38⟩, fin _ hd14⟩
end Go.Proofs
