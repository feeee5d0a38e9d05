/- Exponentials and flows of infinitesimal maps, both sides. -/
import Derived.Test.YtncilhecdihmeaaGreatG12
import Derived.Test.YtncilhecdihmeaaGreatG4
set_option maxRecDepth 8000
namespace Go.Rk
open Go.Fw Go.Proofs
theorem facInv_isN (k : Nat) : isN (facInv k) = true := by have := powN_bd (nm (facZ k)) 10005; unfold facInv; simp [isN]; omega
theorem facInv_frac (k : Nat) : nm (nm 1 * powN (nm (facZ k)) 10005) = facInv k := by
  have := powN_bd (nm (facZ k)) 10005
  rw [show nm 1 = 1 from by kernel_rfl, Int.one_mul]
  unfold facInv nm at *
  omega
theorem infTwo_one (b : List Int) : infTwo b b = infCode [b] b := by
  unfold infTwo infCode
  by_cases hb : isMap b = true <;> simp [hb]
theorem scaledL_38 {b : List Int} {s : Int} (h : b.length = 38) : (scaledL b s).length = 38 := by rw [scaledL_length, h]
theorem scaledL_allN (b : List Int) (s : Int) : allN (scaledL b s) = true := allN_of fun y hy => by
  obtain ⟨z, _, rfl⟩ := List.mem_map.1 hy
  exact nm_isN _
/-- Nothing plus s times b. -/
theorem zerosM_len : zerosM.length = 38 := List.length_replicate
theorem plus_zeros {b : List Int} (s : Int) (h : b.length = 38) : plusL zerosM b s = scaledL b s := by
  have hl := plusL_38 (k := s) zerosM_len h
  refine List.ext_getElem (by rw [hl, scaledL_38 h]) fun i h1 h2 => ?_
  have hi : i < 38 := by omega
  rw [plusL_get h1 (by rw [zerosM_len]; exact hi) (by omega)]
  have hz : zerosM[i]'(by rw [zerosM_len]; exact hi) = 0 := List.getElem_replicate _
  rw [hz, Int.zero_add, Int.mul_comm]
  exact (List.getElem_map (fun x => nm (x * nm s))).symm
end Go.Rk
namespace Go.Proofs
open Go Go.Fw Go.RowKit Go.Rk
theorem l03Factorial_any (n : Nat) (h1 : 1 ≤ n) (h6 : n ≤ 6) (w : World) : Does Tryz.prog 139 [.int .i64 (n : Nat)] w fun r w' => r = .int .i64 (facZ n) ∧ w = w' := by
  refine Does.enter Tryz.func139 Tryz.ntmps139 rfl (by rfl) ?_
  repeat' (first|refine X.O ?_|refine X.A ?_|refine X.B ?_|refine X.C ?_|refine X.D ?_|refine X.E ?_|refine X.F ?_|refine X.G ?_|refine X.H ?_|refine X.I ?_|fail)
  refine WP.loop (fun (i : Nat) => [(0, .int .i64 (n : Nat)), (3, .int .i64 (facZ (i + 1))), (4, .int .i64 ((i + 2 : Nat)))]) (fun i w2 => i + 1 ≤ n ∧ w = w2) (fun i => n - i) 0 ⟨rfl, X.T (by rfl), rfl, trivial⟩ ⟨by omega, rfl⟩ ?_
  rintro i _ ⟨hi, rfl⟩
  repeat' (first|refine X.O ?_|refine X.A ?_|refine X.B ?_|refine X.C ?_|refine X.D ?_|refine X.E ?_|refine X.F ?_|refine X.G ?_|refine X.H ?_|refine X.I ?_|fail)
  first|refine X.J (fun _ => ?_) (fun _ => ?_)|refine X.L (fun _ => ?_) (fun _ => ?_)|refine X.M (fun _ => ?_) (fun _ => ?_)|refine X.R (fun _ => ?_) (fun _ => ?_)|fail
  · rename_i hlt
    have hb := facZ_bd (k := i + 1 + 1) (by omega)
    have hm : facZ (i + 1) * ((i + 2 : Nat) : Int) = facZ (i + 1 + 1) := rfl
    repeat' (first|refine X.O ?_|refine X.A ?_|refine X.B ?_|refine X.C ?_|refine X.D ?_|refine X.E ?_|refine X.F ?_|refine X.G ?_|refine X.H ?_|refine X.I ?_|fail)
    refine WL.step (o_mul (by rfl) (by rfl) (by rw [hm]; unfold InI; omega) ?_)
    rw [hm]
    repeat' (first|refine X.O ?_|refine X.A ?_|refine X.B ?_|refine X.C ?_|refine X.D ?_|refine X.E ?_|refine X.F ?_|refine X.G ?_|refine X.H ?_|refine X.I ?_|fail)
    exact ⟨i + 1, ⟨rfl, rfl, (by first|rfl|exact X.T (by omega)), trivial⟩, ⟨by omega, rfl⟩, by omega⟩
  · rename_i hge
    have hin : i + 1 = n := by omega
    subst hin
    repeat' (first|refine X.O ?_|refine X.A ?_|refine X.B ?_|refine X.C ?_|refine X.D ?_|refine X.E ?_|refine X.F ?_|refine X.G ?_|refine X.H ?_|refine X.I ?_|fail)
    refine ⟨_, ret1 rfl (by rfl), ?_⟩
    exact ⟨rfl, rfl⟩
theorem factorial_any (n : Nat) (h1 : 1 ≤ n) (h6 : n ≤ 6) (w : World) : Does Tryz.prog 140 [.int .i64 (n : Nat)] w fun r w' => r = .int .i64 (facZ n) ∧ w = w' := by
  refine Does.enter Tryz.func140 Tryz.ntmps140 rfl (by rfl) ?_
  repeat' (first|refine X.O ?_|refine X.A ?_|refine X.B ?_|refine X.C ?_|refine X.D ?_|refine X.E ?_|refine X.F ?_|refine X.G ?_|refine X.H ?_|refine X.I ?_|fail)
  refine WP.loop (fun (i : Nat) => [(0, .int .i64 (n : Nat)), (3, .int .i64 (facZ (i + 1))), (4, .int .i64 ((i + 2 : Nat)))]) (fun i w2 => i + 1 ≤ n ∧ w = w2) (fun i => n - i) 0 ⟨rfl, X.T (by rfl), rfl, trivial⟩ ⟨by omega, rfl⟩ ?_
  rintro i _ ⟨hi, rfl⟩
  repeat' (first|refine X.O ?_|refine X.A ?_|refine X.B ?_|refine X.C ?_|refine X.D ?_|refine X.E ?_|refine X.F ?_|refine X.G ?_|refine X.H ?_|refine X.I ?_|fail)
  first|refine X.J (fun _ => ?_) (fun _ => ?_)|refine X.L (fun _ => ?_) (fun _ => ?_)|refine X.M (fun _ => ?_) (fun _ => ?_)|refine X.R (fun _ => ?_) (fun _ => ?_)|fail
  · rename_i hlt
    have hb := facZ_bd (k := i + 1 + 1) (by omega)
    have hm : facZ (i + 1) * ((i + 2 : Nat) : Int) = facZ (i + 1 + 1) := rfl
    repeat' (first|refine X.O ?_|refine X.A ?_|refine X.B ?_|refine X.C ?_|refine X.D ?_|refine X.E ?_|refine X.F ?_|refine X.G ?_|refine X.H ?_|refine X.I ?_|fail)
    refine WL.step (o_mul (by rfl) (by rfl) (by rw [hm]; unfold InI; omega) ?_)
    rw [hm]
    repeat' (first|refine X.O ?_|refine X.A ?_|refine X.B ?_|refine X.C ?_|refine X.D ?_|refine X.E ?_|refine X.F ?_|refine X.G ?_|refine X.H ?_|refine X.I ?_|fail)
    exact ⟨i + 1, ⟨rfl, rfl, (by first|rfl|exact X.T (by omega)), trivial⟩, ⟨by omega, rfl⟩, by omega⟩
  · rename_i hge
    have hin : i + 1 = n := by omega
    subst hin
    repeat' (first|refine X.O ?_|refine X.A ?_|refine X.B ?_|refine X.C ?_|refine X.D ?_|refine X.E ?_|refine X.F ?_|refine X.G ?_|refine X.H ?_|refine X.I ?_|fail)
    refine ⟨_, ret1 rfl (by rfl), ?_⟩
    exact ⟨rfl, rfl⟩
theorem l08Exp_any {lc hc lb hb : Nat} {w : World} {vc vb : Value} {b : List Int} (hC : TB lc hc w vc specTab) (hB : IS lb hb w vb b) (hbl : b.length = 38) (hba : allN b = true) :
    Does Tryz.prog 96 [vc, vb] w fun r w' => NewI w r w' (expL b) := by
  have hzC := hC.hi_le
  have hzB := hB.hi_le
  refine Does.enter Tryz.func96 Tryz.ntmps96 rfl (by rfl) ?_
  repeat' (first|refine X.O ?_|refine X.A ?_|refine X.B ?_|refine X.C ?_|refine X.D ?_|refine X.E ?_|refine X.F ?_|refine X.G ?_|refine X.H ?_|refine X.I ?_|fail)
  refine WL.call (l07Unit_any _) ?_
  intro v1 w1 hN1
  have hz1 := hN1.2.size
  refine WL.call (l07Unit_any _) ?_
  intro v2 w2 hN2
  have hz2 := hN2.2.size
  have hbl02 : Below w.heap.size w w2 := hN1.2.trans (Below.mono hN2.2 (by omega))
  repeat' (first|refine X.O ?_|refine X.A ?_|refine X.B ?_|refine X.C ?_|refine X.D ?_|refine X.E ?_|refine X.F ?_|refine X.G ?_|refine X.H ?_|refine X.I ?_|fail)
  refine WP.loop (fun (s : Nat × Value × Value) => [(0, vc), (1, vb), (5, s.2.1), (6, s.2.2), (7, .int .i64 ((s.1 + 1 : Nat)))])
    (fun s w3 => s.1 ≤ 6 ∧ Own w.heap.size 2 w3 s.2.1 (Ints (expSt b s.1).1) ∧ Own w.heap.size 2 w3 s.2.2 (Ints (expSt b s.1).2) ∧ Below w.heap.size w w3)
    (fun s => 6 - s.1) (0, v1, v2) ⟨rfl, rfl, rfl, rfl, rfl, trivial⟩ ⟨by dsimp only; omega, hN1.1.below hN2.2 (Nat.le_refl _), hN2.1.lower (by omega), hbl02⟩ ?_
  rintro ⟨i, v5, v6⟩ w3 ⟨hi1, h5, h6, hbl3⟩
  dsimp only at hi1 h5 h6 ⊢
  have hz3 := hbl3.size
  have hok := expSt_ok b i
  repeat' (first|refine X.O ?_|refine X.A ?_|refine X.B ?_|refine X.C ?_|refine X.D ?_|refine X.E ?_|refine X.F ?_|refine X.G ?_|refine X.H ?_|refine X.I ?_|fail)
  first|refine X.J (fun _ => ?_) (fun _ => ?_)|refine X.L (fun _ => ?_) (fun _ => ?_)|refine X.M (fun _ => ?_) (fun _ => ?_)|refine X.R (fun _ => ?_) (fun _ => ?_)|fail
  · rename_i hlt
    have hi6 : i < 6 := by omega
    repeat' (first|refine X.O ?_|refine X.A ?_|refine X.B ?_|refine X.C ?_|refine X.D ?_|refine X.E ?_|refine X.F ?_|refine X.G ?_|refine X.H ?_|refine X.I ?_|fail)
    refine WL.call (l08Act_any (hC.below RC.stable hbl3 hzC) (hB.below RI.stable hbl3 hzB) (h6.toIS (Nat.zero_le _)) hbl hok.2.1 hba hok.2.2.2) ?_
    intro v7 w7 hN7
    have hz7 := hN7.2.size
    repeat' (first|refine X.O ?_|refine X.A ?_|refine X.B ?_|refine X.C ?_|refine X.D ?_|refine X.E ?_|refine X.F ?_|refine X.G ?_|refine X.H ?_|refine X.I ?_|fail)
    refine WL.call (l03Factorial_any (i + 1) (by omega) (by omega) _) ?_
    rintro _ _ ⟨rfl, rfl⟩
    refine WL.call (l01Frac_any 1 (facZ (i + 1)) _) ?_
    rintro _ _ ⟨rfl, rfl⟩
    rw [facInv_frac]
    refine WL.call (l08Add_any (facInv (i + 1)) ((h5.below hN7.2 (Nat.le_refl _)).toIS (Nat.zero_le _)) (hN7.1.toIS (Nat.zero_le _)) (by rw [actR_len, hok.1]; omega) (by rw [hok.1]; omega) hok.2.2.1 (actR_all _ _) (facInv_isN _)) ?_
    intro v8 w8 hN8
    have hz8 := hN8.2.size
    repeat' (first|refine X.O ?_|refine X.A ?_|refine X.B ?_|refine X.C ?_|refine X.D ?_|refine X.E ?_|refine X.F ?_|refine X.G ?_|refine X.H ?_|refine X.I ?_|fail)
    exact ⟨(i + 1, v8, v7), ⟨rfl, rfl, rfl, rfl, (by first|rfl|exact X.T (by omega)), trivial⟩, ⟨by dsimp only; omega, hN8.1.lower (by omega), (hN7.1.below hN8.2 (Nat.le_refl _)).lower (by omega), (hbl3.trans (Below.mono hN7.2 (by omega))).trans (Below.mono hN8.2 (by omega))⟩, by dsimp only; omega⟩
  · rename_i hge
    have hie : i = 6 := by omega
    subst hie
    repeat' (first|refine X.O ?_|refine X.A ?_|refine X.B ?_|refine X.C ?_|refine X.D ?_|refine X.E ?_|refine X.F ?_|refine X.G ?_|refine X.H ?_|refine X.I ?_|fail)
    refine ⟨_, ret1 rfl (by rfl), ?_⟩
    exact ⟨h5, hbl3⟩
theorem expMapL_any {lo hi lb hb : Nat} {w : World} {vf vb : Value} {b : List Int} (hF : FormsI lo hi w vf) (hB : IS lb hb w vb b) (hbl : b.length = 38) (hba : allN b = true) :
    Does Tryz.prog 97 [vf, vb] w fun r w' => NewI w r w' (expL b) := by
  have hF0 := hF
  obtain ⟨vt, vt2, rfl, _, _⟩ := hF0
  have hzF := hF.hi_le
  have hzB := hB.hi_le
  refine Does.enter Tryz.func97 Tryz.ntmps97 rfl (by rfl) ?_
  repeat' (first|refine X.O ?_|refine X.A ?_|refine X.B ?_|refine X.C ?_|refine X.D ?_|refine X.E ?_|refine X.F ?_|refine X.G ?_|refine X.H ?_|refine X.I ?_|fail)
  refine WL.step (o_box (by rfl) ?_)
  intro w0 hb1 hbl0 hz0
  have hb1' : Blk w0 w.heap.size [vt, vt2] _ := hb1
  repeat' (first|refine X.O ?_|refine X.A ?_|refine X.B ?_|refine X.C ?_|refine X.D ?_|refine X.E ?_|refine X.F ?_|refine X.G ?_|refine X.H ?_|refine X.I ?_|fail)
  refine WL.call (UnitMap_any _) ?_
  intro v1 w1 hN1
  have hz1 := hN1.2.size
  refine WL.call (UnitMap_any _) ?_
  intro v2 w2 hN2
  have hz2 := hN2.2.size
  have hbl02 : Below w0.heap.size w0 w2 := hN1.2.trans (Below.mono hN2.2 (by omega))
  repeat' (first|refine X.O ?_|refine X.A ?_|refine X.B ?_|refine X.C ?_|refine X.D ?_|refine X.E ?_|refine X.F ?_|refine X.G ?_|refine X.H ?_|refine X.I ?_|fail)
  refine WP.loop (fun (s : Nat × Value × Value) => [(1, vb), (2, .pointer (some ⟨w.heap.size, 0, none⟩)), (5, s.2.1), (6, s.2.2), (7, .int .i64 ((s.1 + 1 : Nat)))])
    (fun s w3 => s.1 ≤ 6 ∧ Own w0.heap.size 2 w3 s.2.1 (Ints (expSt b s.1).1) ∧ Own w0.heap.size 2 w3 s.2.2 (Ints (expSt b s.1).2) ∧ Below w0.heap.size w0 w3)
    (fun s => 6 - s.1) (0, v1, v2) ⟨rfl, rfl, rfl, rfl, rfl, trivial⟩ ⟨by dsimp only; omega, hN1.1.below hN2.2 (Nat.le_refl _), hN2.1.lower (by omega), hbl02⟩ ?_
  rintro ⟨i, v5, v6⟩ w3 ⟨hi1, h5, h6, hbl3⟩
  dsimp only at hi1 h5 h6 ⊢
  have hz3 := hbl3.size
  have hok := expSt_ok b i
  have hbl03 : Below w.heap.size w w3 := hbl0.trans (Below.mono hbl3 (by omega))
  repeat' (first|refine X.O ?_|refine X.A ?_|refine X.B ?_|refine X.C ?_|refine X.D ?_|refine X.E ?_|refine X.F ?_|refine X.G ?_|refine X.H ?_|refine X.I ?_|fail)
  first|refine X.J (fun _ => ?_) (fun _ => ?_)|refine X.L (fun _ => ?_) (fun _ => ?_)|refine X.M (fun _ => ?_) (fun _ => ?_)|refine X.R (fun _ => ?_) (fun _ => ?_)|fail
  · rename_i hlt
    have hi6 : i < 6 := by omega
    have hfb := facZ_bd (k := i + 1) (by omega)
    have hfn := facZ_nm (k := i + 1) (by omega)
    have hfi : powN (facZ (i + 1)) 10005 = facInv (i + 1) := by unfold facInv; rw [hfn]
    repeat' (first|refine X.O ?_|refine X.A ?_|refine X.B ?_|refine X.C ?_|refine X.D ?_|refine X.E ?_|refine X.F ?_|refine X.G ?_|refine X.H ?_|refine X.I ?_|fail)
    refine WL.step (o_loadS (by rfl) (hb1'.below hbl3 (by omega)) (by rfl) ?_)
    repeat' (first|refine X.O ?_|refine X.A ?_|refine X.B ?_|refine X.C ?_|refine X.D ?_|refine X.E ?_|refine X.F ?_|refine X.G ?_|refine X.H ?_|refine X.I ?_|fail)
    refine WL.call (actOnL_any (hF.below hbl03 hzF) (hB.below RI.stable hbl03 hzB) (h6.toIS (Nat.zero_le _)) hbl hok.2.1 hba hok.2.2.2) ?_
    intro v7 w7 hN7
    have hz7 := hN7.2.size
    repeat' (first|refine X.O ?_|refine X.A ?_|refine X.B ?_|refine X.C ?_|refine X.D ?_|refine X.E ?_|refine X.F ?_|refine X.G ?_|refine X.H ?_|refine X.I ?_|fail)
    refine WL.call (factorial_any (i + 1) (by omega) (by omega) _) ?_
    rintro _ _ ⟨rfl, rfl⟩
    refine WL.call (inv_any (facZ (i + 1)) (by omega) (by omega) _) ?_
    rintro _ w7' ⟨rfl, hs7⟩
    rw [hfi]
    have hz7' := hs7.size
    have hN7' := hN7.1.still hs7
    refine WL.call (plus_any (facInv (i + 1)) (((h5.below hN7.2 (Nat.le_refl _)).still hs7).toIS (Nat.zero_le _)) (hN7'.toIS (Nat.zero_le _)) (by rw [actR_len, hok.1]; omega) (by rw [hok.1]; omega) hok.2.2.1 (actR_all _ _)) ?_
    intro v8 w8 hN8
    have hz8 := hN8.2.size
    repeat' (first|refine X.O ?_|refine X.A ?_|refine X.B ?_|refine X.C ?_|refine X.D ?_|refine X.E ?_|refine X.F ?_|refine X.G ?_|refine X.H ?_|refine X.I ?_|fail)
    exact ⟨(i + 1, v8, v7), ⟨rfl, rfl, rfl, rfl, (by first|rfl|exact X.T (by omega)), trivial⟩, ⟨by dsimp only; omega, hN8.1.lower (by omega), (hN7'.below hN8.2 (Nat.le_refl _)).lower (by omega), ((hbl3.trans (Below.mono hN7.2 (by omega))).trans (hs7.below _)).trans (Below.mono hN8.2 (by omega))⟩, by dsimp only; omega⟩
  · rename_i hge
    have hie : i = 6 := by omega
    subst hie
    repeat' (first|refine X.O ?_|refine X.A ?_|refine X.B ?_|refine X.C ?_|refine X.D ?_|refine X.E ?_|refine X.F ?_|refine X.G ?_|refine X.H ?_|refine X.I ?_|fail)
    refine ⟨_, ret1 rfl (by rfl), ?_⟩
    exact ⟨h5.lower (by omega), hbl03⟩
theorem sExpMap_any {lb hb : Nat} {w : World} {vb : Value} {b : List Int} (hB : IS lb hb w vb b) :
    Does Tryz.prog 35 [vb] w fun r w' => ResI w r w' (expMap b) := by
  have hzB := hB.hi_le
  refine Does.enter Tryz.func35 Tryz.ntmps35 rfl (by rfl) ?_
  repeat' (first|refine X.O ?_|refine X.A ?_|refine X.B ?_|refine X.C ?_|refine X.D ?_|refine X.E ?_|refine X.F ?_|refine X.G ?_|refine X.H ?_|refine X.I ?_|fail)
  refine WL.call (l08Code_any hB hB) ?_
  rintro _ w1 ⟨rfl, hs⟩
  by_cases hc : infTwo b b = 0
  · obtain ⟨⟨hmb, _⟩, _, _⟩ := infTwo_zero hc
    have e : expMap b = (expL b, 0) := by unfold expMap; rw [if_pos hc]
    rw [hc]
    repeat' (first|refine X.O ?_|refine X.A ?_|refine X.B ?_|refine X.C ?_|refine X.D ?_|refine X.E ?_|refine X.F ?_|refine X.G ?_|refine X.H ?_|refine X.I ?_|fail)
    refine WL.call (l07Cuts_any _) ?_
    rintro v3 w3 ⟨hC, hbl3⟩
    have hbl03 : Below w.heap.size w w3 := (hs.below _).trans (Below.mono hbl3 (by have := hs.size; omega))
    repeat' (first|refine X.O ?_|refine X.A ?_|refine X.B ?_|refine X.C ?_|refine X.D ?_|refine X.E ?_|refine X.F ?_|refine X.G ?_|refine X.H ?_|refine X.I ?_|fail)
    refine WL.call (l08Exp_any hC (hB.below RI.stable hbl03 hzB) (isMap_38 hmb) (isMap_all hmb)) ?_
    intro v4 w4 hN4
    repeat' (first|refine X.O ?_|refine X.A ?_|refine X.B ?_|refine X.C ?_|refine X.D ?_|refine X.E ?_|refine X.F ?_|refine X.G ?_|refine X.H ?_|refine X.I ?_|fail)
    refine ⟨_, ret2 rfl (by rfl) (by rfl), ?_⟩
    rw [e]
    exact ⟨v4, rfl, hN4.trans hbl03⟩
  · have e : expMap b = ([], infTwo b b) := by unfold expMap; rw [if_neg hc]
    repeat' (first|refine X.O ?_|refine X.A ?_|refine X.B ?_|refine X.C ?_|refine X.D ?_|refine X.E ?_|refine X.F ?_|refine X.G ?_|refine X.H ?_|refine X.I ?_|fail)
    first|refine X.J (fun _ => ?_) (fun _ => ?_)|refine X.L (fun _ => ?_) (fun _ => ?_)|refine X.M (fun _ => ?_) (fun _ => ?_)|refine X.R (fun _ => ?_) (fun _ => ?_)|fail
    · repeat' (first|refine X.O ?_|refine X.A ?_|refine X.B ?_|refine X.C ?_|refine X.D ?_|refine X.E ?_|refine X.F ?_|refine X.G ?_|refine X.H ?_|refine X.I ?_|fail)
      refine ⟨_, ret2 rfl (by rfl) (by rfl), ?_⟩
      rw [e]
      exact ResI.none _ _ (hs.below _) _
    · rename_i hbad
      exact absurd (by simpa using hbad) hc
theorem ExpMap_any {lb hb : Nat} {w : World} {vb : Value} {b : List Int} (hB : IS lb hb w vb b) :
    Does Tryz.prog 36 [vb] w fun r w' => ResI w r w' (expMap b) := by
  have hzB := hB.hi_le
  refine Does.enter Tryz.func36 Tryz.ntmps36 rfl (by rfl) ?_
  repeat' (first|refine X.O ?_|refine X.A ?_|refine X.B ?_|refine X.C ?_|refine X.D ?_|refine X.E ?_|refine X.F ?_|refine X.G ?_|refine X.H ?_|refine X.I ?_|fail)
  refine WL.call (checkInf_any (us := []) (xss := []) (lo := w.heap.size) (Own.nil _ _ _) rfl (by simp) (fun i u xs hu hxs => by simp at hu) hB hzB (Nat.le_refl _)) ?_
  rintro _ w1 ⟨rfl, hbl1⟩
  have hz1 := hbl1.size
  rw [List.nil_append, ← infTwo_one]
  by_cases hc : infTwo b b = 0
  · obtain ⟨⟨hmb, _⟩, _, _⟩ := infTwo_zero hc
    have e : expMap b = (expL b, 0) := by unfold expMap; rw [if_pos hc]
    rw [hc]
    repeat' (first|refine X.O ?_|refine X.A ?_|refine X.B ?_|refine X.C ?_|refine X.D ?_|refine X.E ?_|refine X.F ?_|refine X.G ?_|refine X.H ?_|refine X.I ?_|fail)
    refine WL.call (newForms_any _) ?_
    rintro v3 w3 ⟨hF, hbl3⟩
    have hbl03 : Below w.heap.size w w3 := hbl1.trans (Below.mono hbl3 (by omega))
    repeat' (first|refine X.O ?_|refine X.A ?_|refine X.B ?_|refine X.C ?_|refine X.D ?_|refine X.E ?_|refine X.F ?_|refine X.G ?_|refine X.H ?_|refine X.I ?_|fail)
    refine WL.call (expMapL_any hF (hB.below RI.stable hbl03 hzB) (isMap_38 hmb) (isMap_all hmb)) ?_
    intro v4 w4 hN4
    repeat' (first|refine X.O ?_|refine X.A ?_|refine X.B ?_|refine X.C ?_|refine X.D ?_|refine X.E ?_|refine X.F ?_|refine X.G ?_|refine X.H ?_|refine X.I ?_|fail)
    refine ⟨_, ret2 rfl (by rfl) (by rfl), ?_⟩
    rw [e]
    exact ⟨v4, rfl, hN4.trans hbl03⟩
  · have e : expMap b = ([], infTwo b b) := by unfold expMap; rw [if_neg hc]
    repeat' (first|refine X.O ?_|refine X.A ?_|refine X.B ?_|refine X.C ?_|refine X.D ?_|refine X.E ?_|refine X.F ?_|refine X.G ?_|refine X.H ?_|refine X.I ?_|fail)
    first|refine X.J (fun _ => ?_) (fun _ => ?_)|refine X.L (fun _ => ?_) (fun _ => ?_)|refine X.M (fun _ => ?_) (fun _ => ?_)|refine X.R (fun _ => ?_) (fun _ => ?_)|fail
    · repeat' (first|refine X.O ?_|refine X.A ?_|refine X.B ?_|refine X.C ?_|refine X.D ?_|refine X.E ?_|refine X.F ?_|refine X.G ?_|refine X.H ?_|refine X.I ?_|fail)
      refine ⟨_, ret2 rfl (by rfl) (by rfl), ?_⟩
      rw [e]
      exact ResI.none _ _ hbl1 _
    · rename_i hbad
      exact absurd (by simpa using hbad) hc
end Go.Proofs
