/- Exponentials and flows of infinitesimal maps, both sides. -/
import Derived.Test.YtncilhecdihmeaaGreatG12
import Derived.Test.YtncilhecdihmeaaGreatG4
set_option maxRecDepth 8000
namespace Go.Rk
open Go.Fw Go.Proofs
theorem facInv_isN (k : Nat) : isN (facInv k) = true := by have := powN_bd (nm (facZ k)) 10005; unfold facInv; simp [isN]; omega
theorem facInv_frac (k : Nat) : nm (nm 1 * powN (nm (facZ k)) 10005) = facInv k := by
  have := powN_bd (nm (facZ k)) 10005
  rw [show nm 1 = 1 from by kernel_rfl, Int.one_mul]
  unfold facInv nm at *
  omega
theorem infTwo_one (b : List Int) : infTwo b b = infCode [b] b := by
  unfold infTwo infCode
  by_cases hb : isMap b = true <;> simp [hb]
theorem scaledL_38 {b : List Int} {s : Int} (h : b.length = 38) : (scaledL b s).length = 38 := by rw [scaledL_length, h]
theorem scaledL_allN (b : List Int) (s : Int) : allN (scaledL b s) = true := allN_of fun y hy => by
  obtain ⟨z, _, rfl⟩ := List.mem_map.1 hy
  exact nm_isN _
/-- Nothing plus s times b. -/
theorem zerosM_len : zerosM.length = 38 := List.length_replicate
theorem plus_zeros {b : List Int} (s : Int) (h : b.length = 38) : plusL zerosM b s = scaledL b s := by
  have hl := plusL_38 (k := s) zerosM_len h
  refine List.ext_getElem (by rw [hl, scaledL_38 h]) fun i h1 h2 => ?_
  have hi : i < 38 := by omega
  rw [plusL_get h1 (by rw [zerosM_len]; exact hi) (by omega)]
  have hz : zerosM[i]'(by rw [zerosM_len]; exact hi) = 0 := List.getElem_replicate _
  rw [hz, Int.zero_add, Int.mul_comm]
  exact (List.getElem_map (fun x => nm (x * nm s))).symm
end Go.Rk
namespace Go.Proofs
open Go Go.Fw Go.RowKit Go.Rk
theorem l03Factorial_any (n : Nat) (h1 : 1 ≤ n) (h6 : n ≤ 6) (w : World) : Does Tryz.prog 139 [.int .i64 (n : Nat)] w fun r w' => r = .int .i64 (facZ n) ∧ w = w' := by
  refine Does.enter Tryz.func139 Tryz.ntmps139 rfl (by rfl) ?_
  repeat' (first|refine X.O ?_|refine X.A ?_|refine X.B ?_|refine X.C ?_|refine X.D ?_|refine X.E ?_|refine X.F ?_|refine X.G ?_|refine X.H ?_|refine X.I ?_|fail)
  refine WP.loop (fun (i : Nat) => [(0, .int .i64 (n : Nat)), (3, .int .i64 (facZ (i + 1))), (4, .int .i64 ((i + 2 : Nat)))]) (fun i w2 => i + 1 ≤ n ∧ w = w2) (fun i => n - i) 0 ⟨rfl, X.T (by rfl), rfl, trivial⟩ ⟨by omega, rfl⟩ ?_
  rintro i _ ⟨hi, rfl⟩
  repeat' (first|refine X.O ?_|refine X.A ?_|refine X.B ?_|refine X.C ?_|refine X.D ?_|refine X.E ?_|refine X.F ?_|refine X.G ?_|refine X.H ?_|refine X.I ?_|fail)
  first|refine X.J (fun _ => ?_) (fun _ => ?_)|refine X.L (fun _ => ?_) (fun _ => ?_)|refine X.M (fun _ => ?_) (fun _ => ?_)|refine X.R (fun _ => ?_) (fun _ => ?_)|fail
  · rename_i hlt
    have hb := facZ_bd (k := i + 1 + 1) (by omega)
    have hm : facZ (i + 1) * ((i + 2 : Nat) : Int) = facZ (i + 1 + 1) := rfl
    repeat' (first|refine X.O ?_|refine X.A ?_|refine X.B ?_|refine X.C ?_|refine X.D ?_|refine X.E ?_|refine X.F ?_|refine X.G ?_|refine X.H ?_|refine X.I ?_|fail)
    refine WL.step (o_mul (by rfl) (by rfl) (by rw [hm]; unfold InI; omega) ?_)
    rw [hm]
    repeat' (first|refine X.O ?_|refine X.A ?_|refine X.B ?_|refine X.C ?_|refine X.D ?_|refine X.E ?_|refine X.F ?_|refine X.G ?_|refine X.H ?_|refine X.I ?_|fail)
    exact ⟨i + 1, ⟨rfl, rfl, (by first|rfl|exact X.T (by omega)), trivial⟩, ⟨by omega, rfl⟩, by omega⟩
  · rename_i hge
    have hin : i + 1 = n := by omega
    subst hin
    repeat' (first|refine X.O ?_|refine X.A ?_|refine X.B ?_|refine X.C ?_|refine X.D ?_|refine X.E ?_|refine X.F ?_|refine X.G ?_|refine X.H ?_|refine X.I ?_|fail)
    refine ⟨_, ret1 rfl (by rfl), ?_⟩
    exact ⟨rfl, rfl⟩
theorem factorial_any (n : Nat) (h1 : 1 ≤ n) (h6 : n ≤ 6) (w : World) : Does Tryz.prog 140 [.int .i64 (n : Nat)] w fun r w' => r = .int .i64 (facZ n) ∧ w = w' := by
  refine Does.enter Tryz.func140 Tryz.ntmps140 rfl (by rfl) ?_
  repeat' (first|refine X.O ?_|refine X.A ?_|refine X.B ?_|refine X.C ?_|refine X.D ?_|refine X.E ?_|refine X.F ?_|refine X.G ?_|refine X.H ?_|refine X.I ?_|fail)
  refine WP.loop (fun (i : Nat) => [(0, .int .i64 (n : Nat)), (3, .int .i64 (facZ (i + 1))), (4, .int .i64 ((i + 2 : Nat)))]) (fun i w2 => i + 1 ≤ n ∧ w = w2) (fun i => n - i) 0 ⟨rfl, X.T (by rfl), rfl, trivial⟩ ⟨by omega, rfl⟩ ?_
  rintro i _ ⟨hi, rfl⟩
  repeat' (first|refine X.O ?_|refine X.A ?_|refine X.B ?_|refine X.C ?_|refine X.D ?_|refine X.E ?_|refine X.F ?_|refine X.G ?_|refine X.H ?_|refine X.I ?_|fail)
  first|refine X.J (fun _ => ?_) (fun _ => ?_)|refine X.L (fun _ => ?_) (fun _ => ?_)|refine X.M (fun _ => ?_) (fun _ => ?_)|refine X.R (fun _ => ?_) (fun _ => ?_)|fail
  · rename_i hlt
    have hb := facZ_bd (k := i + 1 + 1) (by omega)
    have hm : facZ (i + 1) * ((i + 2 : Nat) : Int) = facZ (i + 1 + 1) := rfl
    repeat' (first|refine X.O ?_|refine X.A ?_|refine X.B ?_|refine X.C ?_|refine X.D ?_|refine X.E ?_|refine X.F ?_|refine X.G ?_|refine X.H ?_|refine X.I ?_|fail)
    refine WL.step (o_mul (by rfl) (by rfl) (by rw [hm]; unfold InI; omega) ?_)
    rw [hm]
    repeat' (first|refine X.O ?_|refine X.A ?_|refine X.B ?_|refine X.C ?_|refine X.D ?_|refine X.E ?_|refine X.F ?_|refine X.G ?_|refine X.H ?_|refine X.I ?_|fail)
    exact ⟨i + 1, ⟨rfl, rfl, (by first|rfl|exact X.T (by omega)), trivial⟩, ⟨by omega, rfl⟩, by omega⟩
  · rename_i hge
    have hin : i + 1 = n := by omega
    subst hin
    repeat' (first|refine X.O ?_|refine X.A ?_|refine X.B ?_|refine X.C ?_|refine X.D ?_|refine X.E ?_|refine X.F ?_|refine X.G ?_|refine X.H ?_|refine X.I ?_|fail)
    refine ⟨_, ret1 rfl (by rfl), ?_⟩
    exact ⟨rfl, rfl⟩
theorem l08Exp_any {lc hc lb hb : Nat} {w : World} {vc vb : Value} {b : List Int} (hC : TB lc hc w vc specTab) (hB : IS lb hb w vb b) (hbl : b.length = 38) (hba : allN b = true) :
    Does Tryz.prog 96 [vc, vb] w fun r w' => NewI w r w' (expL b) := by
  have hzC := hC.hi_le
  have hzB := hB.hi_le
  refine Does.enter Tryz.func96 Tryz.ntmps96 rfl (by rfl) ?_
  repeat' (first|refine X.O ?_|refine X.A ?_|refine X.B ?_|refine X.C ?_|refine X.D ?_|refine X.E ?_|refine X.F ?_|refine X.G ?_|refine X.H ?_|refine X.I ?_|fail)
  refine WL.call (l07Unit_any _) ?_
  intro v1 w1 hN1
  have hz1 := hN1.2.size
  refine WL.call (l07Unit_any _) ?_
  intro v2 w2 hN2
  have hz2 := hN2.2.size
  have hbl02 : Below w.heap.size w w2 := hN1.2.trans (Below.mono hN2.2 (by omega))
  repeat' (first|refine X.O ?_|refine X.A ?_|refine X.B ?_|refine X.C ?_|refine X.D ?_|refine X.E ?_|refine X.F ?_|refine X.G ?_|refine X.H ?_|refine X.I ?_|fail)
  refine WP.loop (fun (s : Nat × Value × Value) => [(0, vc), (1, vb), (5, s.2.1), (6, s.2.2), (7, .int .i64 ((s.1 + 1 : Nat)))])
    (fun s w3 => s.1 ≤ 6 ∧ Own w.heap.size 2 w3 s.2.1 (Ints (expSt b s.1).1) ∧ Own w.heap.size 2 w3 s.2.2 (Ints (expSt b s.1).2) ∧ Below w.heap.size w w3)
    (fun s => 6 - s.1) (0, v1, v2) ⟨rfl, rfl, rfl, rfl, rfl, trivial⟩ ⟨by dsimp only; omega, hN1.1.below hN2.2 (Nat.le_refl _), hN2.1.lower (by omega), hbl02⟩ ?_
  rintro ⟨i, v5, v6⟩ w3 ⟨hi1, h5, h6, hbl3⟩
  dsimp only at hi1 h5 h6 ⊢
  have hz3 := hbl3.size
  have hok := expSt_ok b i
  repeat' (first|refine X.O ?_|refine X.A ?_|refine X.B ?_|refine X.C ?_|refine X.D ?_|refine X.E ?_|refine X.F ?_|refine X.G ?_|refine X.H ?_|refine X.I ?_|fail)
  first|refine X.J (fun _ => ?_) (fun _ => ?_)|refine X.L (fun _ => ?_) (fun _ => ?_)|refine X.M (fun _ => ?_) (fun _ => ?_)|refine X.R (fun _ => ?_) (fun _ => ?_)|fail
  · rename_i hlt
    have hi6 : i < 6 := by omega
    repeat' (first|refine X.O ?_|refine X.A ?_|refine X.B ?_|refine X.C ?_|refine X.D ?_|refine X.E ?_|refine X.F ?_|refine X.G ?_|refine X.H ?_|refine X.I ?_|fail)
    refine WL.call (l08Act_any (hC.below RC.stable hbl3 hzC) (hB.below RI.stable hbl3 hzB) (h6.toIS (Nat.zero_le _)) hbl hok.2.1 hba hok.2.2.2) ?_
    intro v7 w7 hN7
    have hz7 := hN7.2.size
    repeat' (first|refine X.O ?_|refine X.A ?_|refine X.B ?_|refine X.C ?_|refine X.D ?_|refine X.E ?_|refine X.F ?_|refine X.G ?_|refine X.H ?_|refine X.I ?_|fail)
    refine WL.call (l03Factorial_any (i + 1) (by omega) (by omega) _) ?_
    rintro _ _ ⟨rfl, rfl⟩
    refine WL.call (l01Frac_any 1 (facZ (i + 1)) _) ?_
    rintro _ _ ⟨rfl, rfl⟩
    rw [facInv_frac]
    refine WL.call (l08Add_any (facInv (i + 1)) ((h5.below hN7.2 (Nat.le_refl _)).toIS (Nat.zero_le _)) (hN7.1.toIS (Nat.zero_le _)) (by rw [actR_len, hok.1]; omega) (by rw [hok.1]; omega) hok.2.2.1 (actR_all _ _) (facInv_isN _)) ?_
    intro v8 w8 hN8
    have hz8 := hN8.2.size
    repeat' (first|refine X.O ?_|refine X.A ?_|refine X.B ?_|refine X.C ?_|refine X.D ?_|refine X.E ?_|refine X.F ?_|refine X.G ?_|refine X.H ?_|refine X.I ?_|fail)
    exact ⟨(i + 1, v8, v7), ⟨rfl, rfl, rfl, rfl, (by first|rfl|exact X.T (by omega)), trivial⟩, ⟨by dsimp only; omega, hN8.1.lower (by omega), (hN7.1.below hN8.2 (Nat.le_refl _)).lower (by omega), (hbl3.trans (Below.mono hN7.2 (by omega))).trans (Below.mono hN8.2 (by omega))⟩, by dsimp only; omega⟩
  · rename_i hge
    have hie : i = 6 := by omega
    subst hie
    repeat' (first|refine X.O ?_|refine X.A ?_|refine X.B ?_|refine X.C ?_|refine X.D ?_|refine X.E ?_|refine X.F ?_|refine X.G ?_|refine X.H ?_|refine X.I ?_|fail)
    refine ⟨_, ret1 rfl (by rfl), ?_⟩
    exact ⟨h5, hbl3⟩
theorem expMapL_any {lo hi lb hb : Nat} {w : World} {vf vb : Value} {b : List Int} (hF : FormsI lo hi w vf) (hB : IS lb hb w vb b) (hbl : b.length = 38) (hba : allN b = true) :
    Does Tryz.prog 97 [vf, vb] w fun r w' => NewI w r w' (expL b) := by
  have hF0 := hF
  obtain ⟨vt, vt2, rfl, _, _⟩ := hF0
  have hzF := hF.hi_le
  have hzB := hB.hi_le
  refine Does.enter Tryz.func97 Tryz.ntmps97 rfl (by rfl) ?_
  repeat' (first|refine X.O ?_|refine X.A ?_|refine X.B ?_|refine X.C ?_|refine X.D ?_|refine X.E ?_|refine X.F ?_|refine X.G ?_|refine X.H ?_|refine X.I ?_|fail)
  refine WL.step (o_box (by rfl) ?_)
  intro w0 hb1 hbl0 hz0
  have hb1' : Blk w0 w.heap.size [vt, vt2] _ := hb1
  repeat' (first|refine X.O ?_|refine X.A ?_|refine X.B ?_|refine X.C ?_|refine X.D ?_|refine X.E ?_|refine X.F ?_|refine X.G ?_|refine X.H ?_|refine X.I ?_|fail)
  refine WL.call (UnitMap_any _) ?_
  intro v1 w1 hN1
  have hz1 := hN1.2.size
  refine WL.call (UnitMap_any _) ?_
  intro v2 w2 hN2
  have hz2 := hN2.2.size
  have hbl02 : Below w0.heap.size w0 w2 := hN1.2.trans (Below.mono hN2.2 (by omega))
  repeat' (first|refine X.O ?_|refine X.A ?_|refine X.B ?_|refine X.C ?_|refine X.D ?_|refine X.E ?_|refine X.F ?_|refine X.G ?_|refine X.H ?_|refine X.I ?_|fail)
  refine WP.loop (fun (s : Nat × Value × Value) => [(1, vb), (2, .pointer (some ⟨w.heap.size, 0, none⟩)), (5, s.2.1), (6, s.2.2), (7, .int .i64 ((s.1 + 1 : Nat)))])
    (fun s w3 => s.1 ≤ 6 ∧ Own w0.heap.size 2 w3 s.2.1 (Ints (expSt b s.1).1) ∧ Own w0.heap.size 2 w3 s.2.2 (Ints (expSt b s.1).2) ∧ Below w0.heap.size w0 w3)
    (fun s => 6 - s.1) (0, v1, v2) ⟨rfl, rfl, rfl, rfl, rfl, trivial⟩ ⟨by dsimp only; omega, hN1.1.below hN2.2 (Nat.le_refl _), hN2.1.lower (by omega), hbl02⟩ ?_
  rintro ⟨i, v5, v6⟩ w3 ⟨hi1, h5, h6, hbl3⟩
  dsimp only at hi1 h5 h6 ⊢
  have hz3 := hbl3.size
  have hok := expSt_ok b i
  have hbl03 : Below w.heap.size w w3 := hbl0.trans (Below.mono hbl3 (by omega))
  repeat' (first|refine X.O ?_|refine X.A ?_|refine X.B ?_|refine X.C ?_|refine X.D ?_|refine X.E ?_|refine X.F ?_|refine X.G ?_|refine X.H ?_|refine X.I ?_|fail)
  first|refine X.J (fun _ => ?_) (fun _ => ?_)|refine X.L (fun _ => ?_) (fun _ => ?_)|refine X.M (fun _ => ?_) (fun _ => ?_)|refine X.R (fun _ => ?_) (fun _ => ?_)|fail
  · rename_i hlt
    have hi6 : i < 6 := by omega
    have hfb := facZ_bd (k := i + 1) (by omega)
    have hfn := facZ_nm (k := i + 1) (by omega)
    have hfi : powN (facZ (i + 1)) 10005 = facInv (i + 1) := by unfold facInv; rw [hfn]
    repeat' (first|refine X.O ?_|refine X.A ?_|refine X.B ?_|refine X.C ?_|refine X.D ?_|refine X.E ?_|refine X.F ?_|refine X.G ?_|refine X.H ?_|refine X.I ?_|fail)
    refine WL.step (o_loadS (by rfl) (hb1'.below hbl3 (by omega)) (by rfl) ?_)
    repeat' (first|refine X.O ?_|refine X.A ?_|refine X.B ?_|refine X.C ?_|refine X.D ?_|refine X.E ?_|refine X.F ?_|refine X.G ?_|refine X.H ?_|refine X.I ?_|fail)
    refine WL.call (actOnL_any (hF.below hbl03 hzF) (hB.below RI.stable hbl03 hzB) (h6.toIS (Nat.zero_le _)) hbl hok.2.1 hba hok.2.2.2) ?_
    intro v7 w7 hN7
    have hz7 := hN7.2.size
    repeat' (first|refine X.O ?_|refine X.A ?_|refine X.B ?_|refine X.C ?_|refine X.D ?_|refine X.E ?_|refine X.F ?_|refine X.G ?_|refine X.H ?_|refine X.I ?_|fail)
    refine WL.call (factorial_any (i + 1) (by omega) (by omega) _) ?_
    rintro _ _ ⟨rfl, rfl⟩
    refine WL.call (inv_any (facZ (i + 1)) (by omega) (by omega) _) ?_
    rintro _ w7' ⟨rfl, hs7⟩
    rw [hfi]
    have hz7' := hs7.size
    have hN7' := hN7.1.still hs7
    refine WL.call (plus_any (facInv (i + 1)) (((h5.below hN7.2 (Nat.le_refl _)).still hs7).toIS (Nat.zero_le _)) (hN7'.toIS (Nat.zero_le _)) (by rw [actR_len, hok.1]; omega) (by rw [hok.1]; omega) hok.2.2.1 (actR_all _ _)) ?_
    intro v8 w8 hN8
    have hz8 := hN8.2.size
    repeat' (first|refine X.O ?_|refine X.A ?_|refine X.B ?_|refine X.C ?_|refine X.D ?_|refine X.E ?_|refine X.F ?_|refine X.G ?_|refine X.H ?_|refine X.I ?_|fail)
    exact ⟨(i + 1, v8, v7), ⟨rfl, rfl, rfl, rfl, (by first|rfl|exact X.T (by omega)), trivial⟩, ⟨by dsimp only; omega, hN8.1.lower (by omega), (hN7'.below hN8.2 (Nat.le_refl _)).lower (by omega), ((hbl3.trans (Below.mono hN7.2 (by omega))).trans (hs7.below _)).trans (Below.mono hN8.2 (by omega))⟩, by dsimp only; omega⟩
  · rename_i hge
    have hie : i = 6 := by omega
    subst hie
    repeat' (first|refine X.O ?_|refine X.A ?_|refine X.B ?_|refine X.C ?_|refine X.D ?_|refine X.E ?_|refine X.F ?_|refine X.G ?_|refine X.H ?_|refine X.I ?_|fail)
    refine ⟨_, ret1 rfl (by rfl), ?_⟩
    exact ⟨h5.lower (by omega), hbl03⟩
theorem sExpMap_any {lb hb : Nat} {w : World} {vb : Value} {b : List Int} (hB : IS lb hb w vb b) :
    Does Tryz.prog 35 [vb] w fun r w' => ResI w r w' (expMap b) := by
  have hzB := hB.hi_le
  refine Does.enter Tryz.func35 Tryz.ntmps35 rfl (by rfl) ?_
  repeat' (first|refine X.O ?_|refine X.A ?_|refine X.B ?_|refine X.C ?_|refine X.D ?_|refine X.E ?_|refine X.F ?_|refine X.G ?_|refine X.H ?_|refine X.I ?_|fail)
  refine WL.call (l08Code_any hB hB) ?_
  rintro _ w1 ⟨rfl, hs⟩
  by_cases hc : infTwo b b = 0
  · obtain ⟨⟨hmb, _⟩, _, _⟩ := infTwo_zero hc
    have e : expMap b = (expL b, 0) := by unfold expMap; rw [if_pos hc]
    rw [hc]
    repeat' (first|refine X.O ?_|refine X.A ?_|refine X.B ?_|refine X.C ?_|refine X.D ?_|refine X.E ?_|refine X.F ?_|refine X.G ?_|refine X.H ?_|refine X.I ?_|fail)
    refine WL.call (l07Cuts_any _) ?_
    rintro v3 w3 ⟨hC, hbl3⟩
    have hbl03 : Below w.heap.size w w3 := (hs.below _).trans (Below.mono hbl3 (by have := hs.size; omega))
    repeat' (first|refine X.O ?_|refine X.A ?_|refine X.B ?_|refine X.C ?_|refine X.D ?_|refine X.E ?_|refine X.F ?_|refine X.G ?_|refine X.H ?_|refine X.I ?_|fail)
    refine WL.call (l08Exp_any hC (hB.below RI.stable hbl03 hzB) (isMap_38 hmb) (isMap_all hmb)) ?_
    intro v4 w4 hN4
    repeat' (first|refine X.O ?_|refine X.A ?_|refine X.B ?_|refine X.C ?_|refine X.D ?_|refine X.E ?_|refine X.F ?_|refine X.G ?_|refine X.H ?_|refine X.I ?_|fail)
    refine ⟨_, ret2 rfl (by rfl) (by rfl), ?_⟩
    rw [e]
    exact ⟨v4, rfl, hN4.trans hbl03⟩
  · have e : expMap b = ([], infTwo b b) := by unfold expMap; rw [if_neg hc]
    repeat' (first|refine X.O ?_|refine X.A ?_|refine X.B ?_|refine X.C ?_|refine X.D ?_|refine X.E ?_|refine X.F ?_|refine X.G ?_|refine X.H ?_|refine X.I ?_|fail)
    first|refine X.J (fun _ => ?_) (fun _ => ?_)|refine X.L (fun _ => ?_) (fun _ => ?_)|refine X.M (fun _ => ?_) (fun _ => ?_)|refine X.R (fun _ => ?_) (fun _ => ?_)|fail
    · repeat' (first|refine X.O ?_|refine X.A ?_|refine X.B ?_|refine X.C ?_|refine X.D ?_|refine X.E ?_|refine X.F ?_|refine X.G ?_|refine X.H ?_|refine X.I ?_|fail)
      refine ⟨_, ret2 rfl (by rfl) (by rfl), ?_⟩
      rw [e]
      exact ResI.none _ _ (hs.below _) _
    · rename_i hbad
      exact absurd (by simpa using hbad) hc
theorem ExpMap_any {lb hb : Nat} {w : World} {vb : Value} {b : List Int} (hB : IS lb hb w vb b) :
    Does Tryz.prog 36 [vb] w fun r w' => ResI w r w' (expMap b) := by
  have hzB := hB.hi_le
  refine Does.enter Tryz.func36 Tryz.ntmps36 rfl (by rfl) ?_
  repeat' (first|refine X.O ?_|refine X.A ?_|refine X.B ?_|refine X.C ?_|refine X.D ?_|refine X.E ?_|refine X.F ?_|refine X.G ?_|refine X.H ?_|refine X.I ?_|fail)
  refine WL.call (checkInf_any (us := []) (xss := []) (lo := w.heap.size) (Own.nil _ _ _) rfl (by simp) (fun i u xs hu hxs => by simp at hu) hB hzB (Nat.le_refl _)) ?_
  rintro _ w1 ⟨rfl, hbl1⟩
  have hz1 := hbl1.size
  rw [List.nil_append, ← infTwo_one]
  by_cases hc : infTwo b b = 0
  · obtain ⟨⟨hmb, _⟩, _, _⟩ := infTwo_zero hc
    have e : expMap b = (expL b, 0) := by unfold expMap; rw [if_pos hc]
    rw [hc]
    repeat' (first|refine X.O ?_|refine X.A ?_|refine X.B ?_|refine X.C ?_|refine X.D ?_|refine X.E ?_|refine X.F ?_|refine X.G ?_|refine X.H ?_|refine X.I ?_|fail)
    refine WL.call (newForms_any _) ?_
    rintro v3 w3 ⟨hF, hbl3⟩
    have hbl03 : Below w.heap.size w w3 := hbl1.trans (Below.mono hbl3 (by omega))
    repeat' (first|refine X.O ?_|refine X.A ?_|refine X.B ?_|refine X.C ?_|refine X.D ?_|refine X.E ?_|refine X.F ?_|refine X.G ?_|refine X.H ?_|refine X.I ?_|fail)
    refine WL.call (expMapL_any hF (hB.below RI.stable hbl03 hzB) (isMap_38 hmb) (isMap_all hmb)) ?_
    intro v4 w4 hN4
    repeat' (first|refine X.O ?_|refine X.A ?_|refine X.B ?_|refine X.C ?_|refine X.D ?_|refine X.E ?_|refine X.F ?_|refine X.G ?_|refine X.H ?_|refine X.I ?_|fail)
    refine ⟨_, ret2 rfl (by rfl) (by rfl), ?_⟩
    rw [e]
    exact ⟨v4, rfl, hN4.trans hbl03⟩
  · have e : expMap b = ([], infTwo b b) := by unfold expMap; rw [if_neg hc]
    repeat' (first|refine X.O ?_|refine X.A ?_|refine X.B ?_|refine X.C ?_|refine X.D ?_|refine X.E ?_|refine X.F ?_|refine X.G ?_|refine X.H ?_|refine X.I ?_|fail)
    first|refine X.J (fun _ => ?_) (fun _ => ?_)|refine X.L (fun _ => ?_) (fun _ => ?_)|refine X.M (fun _ => ?_) (fun _ => ?_)|refine X.R (fun _ => ?_) (fun _ => ?_)|fail
    · repeat' (first|refine X.O ?_|refine X.A ?_|refine X.B ?_|refine X.C ?_|refine X.D ?_|refine X.E ?_|refine X.F ?_|refine X.G ?_|refine X.H ?_|refine X.I ?_|fail)
      refine ⟨_, ret2 rfl (by rfl) (by rfl), ?_⟩
      rw [e]
      exact ResI.none _ _ hbl1 _
    · rename_i hbad
      exact absurd (by simpa using hbad) hc
end Go.Proofs
set_option maxRecDepth 8000
namespace Go.Rk
open Go.Fw Go.Proofs
theorem logSt_step {a : List Int} (ha : a.length = 38) (n : Nat) {i : Nat} (h1 : i < (logSt a (n + 1)).length) (h0 : i < (logSt a n).length) (he : i < (expL (logSt a n)).length) (hp : i < placesN.length) (hai : i < a.length) :
    (logSt a (n + 1))[i] = if placesN[i] = ((n + 1 : Nat) : Int) then nm ((logSt a n)[i] + nm (a[i] + nm (-1) * (expL (logSt a n))[i])) else (logSt a n)[i] := by
  have hpl : i < (plusL a (expL (logSt a n)) (-1)).length := by rw [plusL_38 ha (expL_len _)]; omega
  have hk : i < (keepL (fun m => decide (m = ((n + 1 : Nat) : Int))) (plusL a (expL (logSt a n)) (-1))).length := by rw [keepL_len (plusL_38 ha (expL_len _))]; omega
  have hb := allN_get (logSt_ok ha n).2 h0
  show (plusL (logSt a n) (keepL (fun m => decide (m = ((n + 1 : Nat) : Int))) (plusL a (expL (logSt a n)) (-1))) 1)[i] = _
  rw [plusL_get h1 h0 hk, keepL_get hk hp hpl, plusL_get hpl hai he, show nm 1 = 1 from by kernel_rfl, Int.one_mul]
  by_cases h : placesN[i] = ((n + 1 : Nat) : Int)
  · rw [if_pos (by simpa using h), if_pos h]
    rfl
  · rw [if_neg (by simpa using h), if_neg h, Int.add_zero]
    unfold nm; omega
theorem logSt_zero {a : List Int} (ha : a.length = 38) : ∀ (n i : Nat) (hi : i < (logSt a n).length) (hp : i < placesN.length), ((n : Int) < placesN[i] ∨ placesN[i] = 0) → (logSt a n)[i] = 0
  | 0, i, hi, _, _ => List.getElem_replicate _
  | n + 1, i, hi, hp, h => by
    have h38 : i < 38 := by rw [(logSt_ok ha (n + 1)).1] at hi; exact hi
    rw [logSt_step ha n hi (by rw [(logSt_ok ha n).1]; exact h38) (by rw [expL_len]; exact h38) hp (by omega), if_neg (by omega)]
    exact logSt_zero ha n i _ hp (by omega)
theorem logSt_new {a : List Int} (ha : a.length = 38) (n : Nat) {i : Nat} (h1 : i < (logSt a (n + 1)).length) (he : i < (expL (logSt a n)).length) (hp : i < placesN.length) (hai : i < a.length) (h : placesN[i] = ((n + 1 : Nat) : Int)) :
    (logSt a (n + 1))[i] = nm (a[i] - (expL (logSt a n))[i]) := by
  have h0 : i < (logSt a n).length := by rw [(logSt_ok ha n).1]; omega
  rw [logSt_step ha n h1 h0 he hp hai, if_pos h, logSt_zero ha n i h0 hp (by omega), Int.zero_add, nm_nm, show nm (-1) = 10006 from by kernel_rfl]
  unfold nm; omega
theorem logSt_old {a : List Int} (ha : a.length = 38) (n : Nat) {i : Nat} (h1 : i < (logSt a (n + 1)).length) (h0 : i < (logSt a n).length) (hp : i < placesN.length) (h : placesN[i] ≠ ((n + 1 : Nat) : Int)) :
    (logSt a (n + 1))[i] = (logSt a n)[i] := by
  have h38 : i < 38 := by rw [(logSt_ok ha n).1] at h0; exact h0
  rw [logSt_step ha n h1 h0 (by rw [expL_len]; exact h38) hp (by omega), if_neg h]
theorem mix_set {α : Type} {X O : List α} (hl : X.length = O.length) {k : Nat} (hk : k < X.length) : (X.take k ++ O.drop k).set k X[k] = X.take (k + 1) ++ O.drop (k + 1) := by
  have h1 : (X.take k).length = k := by rw [List.length_take]; omega
  have hko : k < O.length := by omega
  rw [List.set_append_right _ _ (by omega), h1, Nat.sub_self, List.drop_eq_getElem_cons hko, List.set_cons_zero, List.take_succ_eq_append_getElem hk, List.append_assoc]
  rfl
theorem mix_same {α : Type} {X O : List α} (hl : X.length = O.length) {k : Nat} (hk : k < X.length) (h : X[k] = O[k]'(by omega)) : X.take k ++ O.drop k = X.take (k + 1) ++ O.drop (k + 1) := by
  have hko : k < O.length := by omega
  rw [List.drop_eq_getElem_cons hko, List.take_succ_eq_append_getElem hk, List.append_assoc, h]
  rfl
theorem mix_len {α : Type} {X O : List α} (hl : X.length = O.length) (k : Nat) : (X.take k ++ O.drop k).length = X.length := by
  rw [List.length_append, List.length_take, List.length_drop]; omega
end Go.Rk
namespace Go.Proofs
open Go Go.Fw Go.RowKit Go.Rk
set_option maxHeartbeats 1000000 in
theorem l08Log_any {lc hc la ha : Nat} {w : World} {vc va : Value} {a : List Int} (hC : TB lc hc w vc specTab) (hA : IS la ha w va a) (hal : a.length = 38) (haa : allN a = true) :
    Does Tryz.prog 102 [vc, va] w fun r w' => NewI w r w' (logL a) := by
  have hzC := hC.hi_le
  have hzA := hA.hi_le
  have htl := treesTo_len
  have hpl := placesN_len
  refine Does.enter Tryz.func102 Tryz.ntmps102 rfl (by rfl) ?_
  repeat' (first|refine X.O ?_|refine X.A ?_|refine X.B ?_|refine X.C ?_|refine X.D ?_|refine X.E ?_|refine X.F ?_|refine X.G ?_|refine X.H ?_|refine X.I ?_|fail)
  refine WL.call (l03All_any 6 (by omega) _) ?_
  rintro v1 w1 ⟨⟨vs1, o1⟩, hbl1⟩
  have hz1 := hbl1.size
  have hT1 := o1.rd
  obtain ⟨at1, ct, hvt⟩ := hT1.shape
  rw [htl] at hvt
  subst hvt
  repeat' (first|refine X.O ?_|refine X.A ?_|refine X.B ?_|refine X.C ?_|refine X.D ?_|refine X.E ?_|refine X.F ?_|refine X.G ?_|refine X.H ?_|refine X.I ?_|fail)
  refine WL.step (o_make (n := 38) (by rfl) (by rfl) (by omega) (by unfold maxLen; omega) ?_)
  intro v2 w2 hown2 hbl2 hz2
  have hown2' : Own w1.heap.size 2 w2 v2 (Ints (logSt a 0)) := by
    have e : Ints (logSt a 0) = List.replicate 38 (.int .i64 0) := by show Ints (List.replicate 38 0) = _; unfold Ints; rw [List.map_replicate]
    rw [e]; exact hown2
  obtain ⟨a2, c2, hv2, _⟩ := hown2.shape
  rw [List.length_replicate] at hv2
  subst hv2
  repeat' (first|refine X.O ?_|refine X.A ?_|refine X.B ?_|refine X.C ?_|refine X.D ?_|refine X.E ?_|refine X.F ?_|refine X.G ?_|refine X.H ?_|refine X.I ?_|fail)
  refine WP.loop (fun (n : Nat) => [(0, vc), (1, va), (5, .slice at1 37 ct), (6, .slice a2 38 c2), (7, .int .i64 ((n + 1 : Nat)))])
    (fun n w3 => n ≤ 6 ∧ Own w1.heap.size 2 w3 (.slice a2 38 c2) (Ints (logSt a n)) ∧ Below w1.heap.size w1 w3)
    (fun n => 6 - n) 0 ⟨rfl, rfl, rfl, rfl, rfl, trivial⟩ ⟨by omega, hown2', hbl2⟩ ?_
  rintro n w3 ⟨hn1, hown3, hbl3⟩
  have hz3 := hbl3.size
  have hbl03 : Below w.heap.size w w3 := hbl1.trans (Below.mono hbl3 (by omega))
  have hok := logSt_ok hal n
  have hok1 := logSt_ok hal (n + 1)
  repeat' (first|refine X.O ?_|refine X.A ?_|refine X.B ?_|refine X.C ?_|refine X.D ?_|refine X.E ?_|refine X.F ?_|refine X.G ?_|refine X.H ?_|refine X.I ?_|fail)
  first|refine X.J (fun _ => ?_) (fun _ => ?_)|refine X.L (fun _ => ?_) (fun _ => ?_)|refine X.M (fun _ => ?_) (fun _ => ?_)|refine X.R (fun _ => ?_) (fun _ => ?_)|fail
  · rename_i hlt
    have hn6 : n < 6 := by omega
    repeat' (first|refine X.O ?_|refine X.A ?_|refine X.B ?_|refine X.C ?_|refine X.D ?_|refine X.E ?_|refine X.F ?_|refine X.G ?_|refine X.H ?_|refine X.I ?_|fail)
    refine WL.call (l08Exp_any (hC.below RC.stable hbl03 hzC) (hown3.toIS (Nat.zero_le _)) hok.1 hok.2) ?_
    intro v4 w4 hN4
    have hz4 := hN4.2.size
    have hel := expL_len (logSt a n)
    have hea := expL_all (logSt a n)
    have h0n : (logSt a (n + 1))[0]'(by omega) = (logSt a n)[0]'(by omega) := logSt_old hal n _ _ (by omega) (by
      have : placesN[0]'(by omega) = 0 := rfl
      rw [this]; omega)
    have hown4 : Own w1.heap.size 2 w4 (.slice a2 38 c2) (Ints ((logSt a (n + 1)).take 1 ++ (logSt a n).drop 1)) := by
      have h1 := mix_same (X := logSt a (n + 1)) (O := logSt a n) (by omega) (k := 0) (by omega) h0n
      rw [List.take_zero, List.drop_zero, List.nil_append] at h1
      rw [← h1]
      exact hown3.below hN4.2 (Nat.le_refl _)
    repeat' (first|refine X.O ?_|refine X.A ?_|refine X.B ?_|refine X.C ?_|refine X.D ?_|refine X.E ?_|refine X.F ?_|refine X.G ?_|refine X.H ?_|refine X.I ?_|fail)
    refine WP.loop (fun (j : Nat) => [(0, vc), (1, va), (5, .slice at1 37 ct), (6, .slice a2 38 c2), (7, .int .i64 ((n + 1 : Nat))), (8, v4), (9, .int .i64 (j : Nat))])
      (fun j w5 => j ≤ 37 ∧ Own w1.heap.size 2 w5 (.slice a2 38 c2) (Ints ((logSt a (n + 1)).take (j + 1) ++ (logSt a n).drop (j + 1))) ∧ Own w3.heap.size 2 w5 v4 (Ints (expL (logSt a n))) ∧ Below w1.heap.size w1 w5)
      (fun j => 37 - j) 0 ⟨rfl, rfl, rfl, rfl, rfl, rfl, rfl, trivial⟩ ⟨by omega, hown4, hN4.1, hbl3.trans (Below.mono hN4.2 (by omega))⟩ ?_
    rintro j w5 ⟨hj1, hown5, hE5, hbl5⟩
    have hz5 := hbl5.size
    have hbl05 : Below w.heap.size w w5 := hbl1.trans (Below.mono hbl5 (by omega))
    repeat' (first|refine X.O ?_|refine X.A ?_|refine X.B ?_|refine X.C ?_|refine X.D ?_|refine X.E ?_|refine X.F ?_|refine X.G ?_|refine X.H ?_|refine X.I ?_|fail)
    first|refine X.J (fun _ => ?_) (fun _ => ?_)|refine X.L (fun _ => ?_) (fun _ => ?_)|refine X.M (fun _ => ?_) (fun _ => ?_)|refine X.R (fun _ => ?_) (fun _ => ?_)|fail
    · rename_i hltj
      have hlT : j < (treesTo 6).length := by omega
      have hpj := placesN_get (i := j + 1) (by omega) (by omega) (by simpa using hlT)
      simp only [Nat.add_sub_cancel] at hpj
      have hja : j + 1 < a.length := by omega
      have hje : j + 1 < (expL (logSt a n)).length := by omega
      have hjn : j + 1 < (logSt a (n + 1)).length := by omega
      have hjo : j + 1 < (logSt a n).length := by omega
      have hll : (logSt a (n + 1)).length = (logSt a n).length := by omega
      repeat' (first|refine X.O ?_|refine X.A ?_|refine X.B ?_|refine X.C ?_|refine X.D ?_|refine X.E ?_|refine X.F ?_|refine X.G ?_|refine X.H ?_|refine X.I ?_|fail)
      refine WL.ixload (j := j) (hT1.below IS.stable hbl5 (Nat.le_refl _)) (List.getElem?_eq_getElem hlT) ?_
      intro p1 u hu
      obtain ⟨au, cu, hvu⟩ := hu.shape
      subst hvu
      repeat' (first|refine X.O ?_|refine X.A ?_|refine X.B ?_|refine X.C ?_|refine X.D ?_|refine X.E ?_|refine X.F ?_|refine X.G ?_|refine X.H ?_|refine X.I ?_|fail)
      first|refine X.J (fun _ => ?_) (fun _ => ?_)|refine X.L (fun _ => ?_) (fun _ => ?_)|refine X.M (fun _ => ?_) (fun _ => ?_)|refine X.R (fun _ => ?_) (fun _ => ?_)|fail
      · rename_i heq
        have hpn : placesN[j + 1]'(by omega) = ((n + 1 : Nat) : Int) := by rw [hpj]; exact heq
        have hnew := logSt_new hal n hjn hje (by omega) hja hpn
        have hab := allN_get haa hja
        have heb := allN_get hea hje
        repeat' (first|refine X.O ?_|refine X.A ?_|refine X.B ?_|refine X.C ?_|refine X.D ?_|refine X.E ?_|refine X.F ?_|refine X.G ?_|refine X.H ?_|refine X.I ?_|fail)
        refine WP.drawn (fun w' => w'.heap = w5.heap) [(0, true), (1, true), (2, true), (3, true), (4, true), (5, true), (6, true), (7, true), (8, true), (9, true), (10, true), (11, true), (12, true), (13, false), (14, true), (1015, false)] (by kernel_rfl) mixed ?_
        intro w6 hs6
        have hw6 : w6.heap = w5.heap := hs6.heap
        repeat' (first|refine X.U rfl ?_|refine X.V rfl ?_|refine X.W rfl ?_|refine X.Y rfl ?_|refine X.Z rfl ?_|refine WS.nil ?_|fail)
        refine WS.ixload (j := j + 1) rfl rfl ((hA.below RI.stable hbl05 hzA).still RI.stable hs6) (List.getElem?_eq_getElem hja) (fun w' hw' => same_heap (hw'.trans hw6.symm)) hw6 ?_
        rintro q1 _ rfl
        repeat' (first|refine X.U rfl ?_|refine X.V rfl ?_|refine X.W rfl ?_|refine X.Y rfl ?_|refine X.Z rfl ?_|refine WS.nil ?_|fail)
        refine WS.ixload (j := j + 1) rfl rfl ((hE5.still hs6).toIS (Nat.zero_le _)) (List.getElem?_eq_getElem hje) (fun w' hw' => same_heap (hw'.trans hw6.symm)) hw6 ?_
        rintro q2 _ rfl
        have hcall : Does Tryz.prog 141 [.int .i64 a[j + 1], .int .i64 (expL (logSt a n))[j + 1]] w6 fun v w' => v = .int .i64 ((logSt a (n + 1))[j + 1]) ∧ w6 = w' := by
          rw [hnew]
          exact l01Sub_any a[j + 1] (expL (logSt a n))[j + 1] _ (by unfold InI; omega)
        refine WS.call rfl hcall ?_
        rintro _ _ ⟨rfl, rfl⟩
        refine ⟨hw6, ?_⟩
        have hown6 := hown5.still hs6
        refine WS.ixstore (j := j + 1) (u := .int .i64 ((logSt a (n + 1))[j + 1])) rfl rfl hw6 hown6 (by rw [Ints_length, mix_len hll]; omega) ?_
        intro q3 w7 hown7 hbl7 hz7 hf7
        rw [Ints_set, mix_set hll hjn] at hown7
        refine WS.nil ?_
        repeat' (first|refine X.O ?_|refine X.A ?_|refine X.B ?_|refine X.C ?_|refine X.D ?_|refine X.E ?_|refine X.F ?_|refine X.G ?_|refine X.H ?_|refine X.I ?_|fail)
        refine ⟨j + 1, ⟨rfl, rfl, rfl, rfl, rfl, rfl, (by first|rfl|exact X.T (by omega)), trivial⟩, ⟨by omega, hown7, ?_, (hbl5.trans (hs6.below _)).trans hbl7⟩, by omega⟩
        have hE6 := hE5.still hs6
        exact hE6.keep fun k hk => hf7 k fun e => by
          have h1 := (hE6.block k hk).1
          have h2 := (hown3.block k e).2
          omega
      · rename_i hne
        have hpn : placesN[j + 1]'(by omega) ≠ ((n + 1 : Nat) : Int) := by rw [hpj]; exact hne
        have hold := logSt_old hal n hjn hjo (by omega) hpn
        rw [mix_same hll hjn hold] at hown5
        repeat' (first|refine X.O ?_|refine X.A ?_|refine X.B ?_|refine X.C ?_|refine X.D ?_|refine X.E ?_|refine X.F ?_|refine X.G ?_|refine X.H ?_|refine X.I ?_|fail)
        exact ⟨j + 1, ⟨rfl, rfl, rfl, rfl, rfl, rfl, (by first|rfl|exact X.T (by omega)), trivial⟩, ⟨by omega, hown5, hE5, hbl5⟩, by omega⟩
    · rename_i hgej
      have hje : j = 37 := by omega
      subst hje
      rw [List.take_of_length_le (by omega), List.drop_of_length_le (by omega), List.append_nil] at hown5
      repeat' (first|refine X.O ?_|refine X.A ?_|refine X.B ?_|refine X.C ?_|refine X.D ?_|refine X.E ?_|refine X.F ?_|refine X.G ?_|refine X.H ?_|refine X.I ?_|fail)
      exact ⟨n + 1, ⟨rfl, rfl, rfl, rfl, (by first|rfl|exact X.T (by omega)), trivial⟩, ⟨by omega, hown5, hbl5⟩, by omega⟩
  · rename_i hge
    have hne : n = 6 := by omega
    subst hne
    repeat' (first|refine X.O ?_|refine X.A ?_|refine X.B ?_|refine X.C ?_|refine X.D ?_|refine X.E ?_|refine X.F ?_|refine X.G ?_|refine X.H ?_|refine X.I ?_|fail)
    refine ⟨_, ret1 rfl (by rfl), ?_⟩
    exact ⟨hown3.lower (by omega), hbl03⟩
theorem logCl_any {b : Nat} {n : Int} {w : World} {tt : TypeId} (h : Blk w b [.int .i64 n] tt) (m : Int) : Does Tryz.prog 142 [.int .i64 m, .pointer (some ⟨b, 0, none⟩)] w fun r w' => r = .bool (decide (m = n)) ∧ w' = w := by
  refine Does.enter Tryz.func142 Tryz.ntmps142 rfl (by rfl) ?_
  repeat' (first|refine X.O ?_|refine X.A ?_|refine X.B ?_|refine X.C ?_|refine X.D ?_|refine X.E ?_|refine X.F ?_|refine X.G ?_|refine X.H ?_|refine X.I ?_|fail)
  refine WL.step (o_load (by rfl) (h.cell (j := 0) rfl) ?_)
  repeat' (first|refine X.O ?_|refine X.A ?_|refine X.B ?_|refine X.C ?_|refine X.D ?_|refine X.E ?_|refine X.F ?_|refine X.G ?_|refine X.H ?_|refine X.I ?_|fail)
  refine ⟨_, ret1 rfl (by rfl), ?_⟩
  exact ⟨rfl, rfl⟩
set_option maxHeartbeats 1000000 in
theorem logMapL_any {lo hi la ha : Nat} {w : World} {vf va : Value} {a : List Int} (hF : FormsI lo hi w vf) (hA : IS la ha w va a) (hal : a.length = 38) (haa : allN a = true) :
    Does Tryz.prog 103 [vf, va] w fun r w' => NewI w r w' (logL a) := by
  have hF0 := hF
  obtain ⟨vt, vt2, rfl, _, _⟩ := hF0
  have hzF := hF.hi_le
  have hzA := hA.hi_le
  refine Does.enter Tryz.func103 Tryz.ntmps103 rfl (by rfl) ?_
  repeat' (first|refine X.O ?_|refine X.A ?_|refine X.B ?_|refine X.C ?_|refine X.D ?_|refine X.E ?_|refine X.F ?_|refine X.G ?_|refine X.H ?_|refine X.I ?_|fail)
  refine WL.step (o_box (by rfl) ?_)
  intro w0 hb1 hbl0 hz0
  have hb1' : Blk w0 w.heap.size [vt, vt2] _ := hb1
  repeat' (first|refine X.O ?_|refine X.A ?_|refine X.B ?_|refine X.C ?_|refine X.D ?_|refine X.E ?_|refine X.F ?_|refine X.G ?_|refine X.H ?_|refine X.I ?_|fail)
  refine WL.step (o_make (n := 38) (by rfl) (by rfl) (by omega) (by unfold maxLen; omega) ?_)
  intro v2 w2 hown2 hbl2 hz2
  have hown2' : Own w0.heap.size 2 w2 v2 (Ints (logSt a 0)) := by
    have e : Ints (logSt a 0) = List.replicate 38 (.int .i64 0) := by show Ints (List.replicate 38 0) = _; unfold Ints; rw [List.map_replicate]
    rw [e]; exact hown2
  repeat' (first|refine X.O ?_|refine X.A ?_|refine X.B ?_|refine X.C ?_|refine X.D ?_|refine X.E ?_|refine X.F ?_|refine X.G ?_|refine X.H ?_|refine X.I ?_|fail)
  refine WL.step (o_alloc ?_)
  intro w3 hb3 hbl3 hz3
  refine WL.step (o_store (by rfl) (by rfl) (hb3.cell (j := 0) rfl) (hb3.free 0) ?_)
  have hb4 : Blk _ w2.heap.size [.int .i64 ((0 + 1 : Nat))] _ := hb3.set 0 (.int .i64 1)
  have hbut4 := But.setCell w3 w2.heap.size 0 (.int .i64 1)
  obtain ⟨w4, hw4⟩ : ∃ w4, w3.setCell ⟨w2.heap.size, 0, none⟩ (.int .i64 1) = w4 := ⟨_, rfl⟩
  rw [hw4] at hb4 hbut4 ⊢
  have hbl24 : Below w2.heap.size w2 w4 := hbl3.trans (hbut4.below (Nat.le_refl _))
  have hz24 := hbl24.size
  repeat' (first|refine X.O ?_|refine X.A ?_|refine X.B ?_|refine X.C ?_|refine X.D ?_|refine X.E ?_|refine X.F ?_|refine X.G ?_|refine X.H ?_|refine X.I ?_|fail)
  refine WP.loop (fun (s : Nat × Value × Nat) => [(1, va), (2, .pointer (some ⟨w.heap.size, 0, none⟩)), (5, s.2.1), (6, .pointer (some ⟨s.2.2, 0, none⟩))])
    (fun s w5 => s.1 ≤ 6 ∧ Own w0.heap.size 2 w5 s.2.1 (Ints (logSt a s.1)) ∧ (∃ tt, Blk w5 s.2.2 [.int .i64 ((s.1 + 1 : Nat))] tt) ∧ w0.heap.size ≤ s.2.2 ∧ s.2.1.ownBlock ≠ some s.2.2 ∧ Below w0.heap.size w0 w5)
    (fun s => 6 - s.1) (0, v2, w2.heap.size) ⟨rfl, rfl, rfl, rfl, trivial⟩ ⟨by dsimp only; omega, hown2'.below hbl24 (Nat.le_refl _), ⟨_, hb4⟩, by dsimp only; omega, fun e => Nat.lt_irrefl _ (hown2.block w2.heap.size e).2, hbl2.trans (Below.mono hbl24 (by omega))⟩ ?_
  rintro ⟨n, vo, kb⟩ w5 ⟨hn1, hown5, ⟨tt5, hb5⟩, hkb, hne5, hbl5⟩
  dsimp only at hn1 hown5 hb5 hkb hne5 ⊢
  have hz5 := hbl5.size
  have hbl05 : Below w.heap.size w w5 := hbl0.trans (Below.mono hbl5 (by omega))
  have hok := logSt_ok hal n
  have hkb5 := hb5.lt
  repeat' (first|refine X.O ?_|refine X.A ?_|refine X.B ?_|refine X.C ?_|refine X.D ?_|refine X.E ?_|refine X.F ?_|refine X.G ?_|refine X.H ?_|refine X.I ?_|fail)
  refine WL.step (o_load (by rfl) (hb5.cell (j := 0) rfl) ?_)
  repeat' (first|refine X.O ?_|refine X.A ?_|refine X.B ?_|refine X.C ?_|refine X.D ?_|refine X.E ?_|refine X.F ?_|refine X.G ?_|refine X.H ?_|refine X.I ?_|fail)
  first|refine X.J (fun _ => ?_) (fun _ => ?_)|refine X.L (fun _ => ?_) (fun _ => ?_)|refine X.M (fun _ => ?_) (fun _ => ?_)|refine X.R (fun _ => ?_) (fun _ => ?_)|fail
  · rename_i hlt
    have hn6 : n < 6 := by omega
    repeat' (first|refine X.O ?_|refine X.A ?_|refine X.B ?_|refine X.C ?_|refine X.D ?_|refine X.E ?_|refine X.F ?_|refine X.G ?_|refine X.H ?_|refine X.I ?_|fail)
    refine WP.drawn (fun w' => Below w5.heap.size w5 w') [(0, true), (1, true), (2, true), (3, true), (6, true), (4, false), (5, false), (7, false), (8, true)] (by kernel_rfl) mixed ?_
    intro w6 hs6
    have hz6 := hs6.size
    have hS6 : Below w5.heap.size w5 w6 := hs6.below _
    have hbF : ∀ w', Below w5.heap.size w5 w' → Blk w' w.heap.size [vt, vt2] _ := fun w' h => (hb1'.below hbl5 (by omega)).below h (by omega)
    refine WS.q rfl (q_loadS (by rfl) hbF (by rfl)) hS6 ?_
    repeat' (first|refine X.U rfl ?_|refine X.V rfl ?_|refine X.W rfl ?_|refine X.Y rfl ?_|refine X.Z rfl ?_|refine WS.nil ?_|fail)
    refine WS.q rfl (q_loadS (by rfl) hbF (by rfl)) hS6 ?_
    repeat' (first|refine X.U rfl ?_|refine X.V rfl ?_|refine X.W rfl ?_|refine X.Y rfl ?_|refine X.Z rfl ?_|refine WS.nil ?_|fail)
    have hbl06 : Below w.heap.size w w6 := hbl05.trans (Below.mono hS6 (by have := hbl05.size; omega))
    refine WS.call rfl (expMapL_any (hF.below hbl06 hzF) ((hown5.still hs6).toIS (Nat.zero_le _)) hok.1 hok.2) ?_
    intro v7 w7 hN7
    have hz7 := hN7.2.size
    have hS7 := hS6.trans (Below.mono hN7.2 (by omega))
    refine ⟨hS7, ?_⟩
    have hz05 := hbl05.size
    have hbl07 : Below w.heap.size w w7 := hbl06.trans (Below.mono hN7.2 (by omega))
    refine WS.call rfl (plus_any (-1) (hA.below RI.stable hbl07 hzA) (hN7.1.toIS (Nat.zero_le _)) (by rw [hal, expL_len]; omega) (by omega) haa (expL_all _)) ?_
    intro v8 w8 hN8
    have hz8 := hN8.2.size
    have hS8 := hS7.trans (Below.mono hN8.2 (by omega))
    refine ⟨hS8, ?_⟩
    have hbl08 : Below w.heap.size w w8 := hbl07.trans (Below.mono hN8.2 (by omega))
    have hb8 := hb5.below hS8 (by omega)
    refine WS.call rfl (keep_any (f := 142) (cap := .pointer (some ⟨kb, 0, none⟩)) (p := fun m => decide (m = ((n + 1 : Nat) : Int))) (hF.below hbl08 hzF) (hN8.1.toIS (Nat.zero_le _)) (plusL_38 hal (expL_len _)) (fun m w' hb => logCl_any (hb8.below hb (by omega)) m)) ?_
    intro v9 w9 hN9
    have hz9 := hN9.2.size
    have hS9 := hS8.trans (Below.mono hN9.2 (by omega))
    refine ⟨hS9, ?_⟩
    repeat' (first|refine X.U rfl ?_|refine X.V rfl ?_|refine X.W rfl ?_|refine X.Y rfl ?_|refine X.Z rfl ?_|refine WS.nil ?_|fail)
    repeat' (first|refine X.O ?_|refine X.A ?_|refine X.B ?_|refine X.C ?_|refine X.D ?_|refine X.E ?_|refine X.F ?_|refine X.G ?_|refine X.H ?_|refine X.I ?_|fail)
    have hkal := keepL_all (p := fun m => decide (m = ((n + 1 : Nat) : Int))) (plusL_all a (expL (logSt a n)) (-1))
    have hkll := keepL_len (p := fun m => decide (m = ((n + 1 : Nat) : Int))) (plusL_38 (k := -1) hal (expL_len (logSt a n)))
    refine WL.call (plus_any 1 ((hown5.below hS9 (Nat.le_refl _)).toIS (Nat.zero_le _)) (hN9.1.toIS (Nat.zero_le _)) (by rw [hok.1, hkll]; omega) (by omega) hok.2 hkal) ?_
    intro v10 w10 hN10
    have hz10 := hN10.2.size
    have hT10 : Below w5.heap.size w5 w10 := hS9.trans (Below.mono hN10.2 (by omega))
    have hb10 := hb5.below hT10 (by omega)
    repeat' (first|refine X.O ?_|refine X.A ?_|refine X.B ?_|refine X.C ?_|refine X.D ?_|refine X.E ?_|refine X.F ?_|refine X.G ?_|refine X.H ?_|refine X.I ?_|fail)
    refine WL.step (o_load (by rfl) (hb10.cell (j := 0) rfl) ?_)
    repeat' (first|refine X.O ?_|refine X.A ?_|refine X.B ?_|refine X.C ?_|refine X.D ?_|refine X.E ?_|refine X.F ?_|refine X.G ?_|refine X.H ?_|refine X.I ?_|fail)
    refine WL.step (o_alloc ?_)
    intro w11 hb11 hbl11 hz11
    refine WL.step (o_store (by rfl) (by rfl) (hb11.cell (j := 0) rfl) (hb11.free 0) ?_)
    have hb12 : Blk _ w10.heap.size [.int .i64 ((n + 1 : Nat))] _ := hb11.set 0 (.int .i64 ((n + 1 : Nat)))
    have hbut12 := But.setCell w11 w10.heap.size 0 (.int .i64 ((n + 1 : Nat)))
    obtain ⟨w12, hw12⟩ : ∃ w12, w11.setCell ⟨w10.heap.size, 0, none⟩ (.int .i64 ((n + 1 : Nat))) = w12 := ⟨_, rfl⟩
    rw [hw12] at hb12 hbut12 ⊢
    have hbl1012 : Below w10.heap.size w10 w12 := hbl11.trans (hbut12.below (Nat.le_refl _))
    have hz12 := hbl1012.size
    repeat' (first|refine X.O ?_|refine X.A ?_|refine X.B ?_|refine X.C ?_|refine X.D ?_|refine X.E ?_|refine X.F ?_|refine X.G ?_|refine X.H ?_|refine X.I ?_|fail)
    refine WL.step (o_load (by rfl) (hb12.cell (j := 0) rfl) ?_)
    repeat' (first|refine X.O ?_|refine X.A ?_|refine X.B ?_|refine X.C ?_|refine X.D ?_|refine X.E ?_|refine X.F ?_|refine X.G ?_|refine X.H ?_|refine X.I ?_|fail)
    refine WL.step (o_store (by rfl) (by rfl) (hb12.cell (j := 0) rfl) (hb12.free 0) ?_)
    have hb13 : Blk _ w10.heap.size [.int .i64 (((n + 1 : Nat) : Int) + 1)] _ := hb12.set 0 (.int .i64 (((n + 1 : Nat) : Int) + 1))
    have hbut13 := But.setCell w12 w10.heap.size 0 (.int .i64 (((n + 1 : Nat) : Int) + 1))
    obtain ⟨w13, hw13⟩ : ∃ w13, w12.setCell ⟨w10.heap.size, 0, none⟩ (.int .i64 (((n + 1 : Nat) : Int) + 1)) = w13 := ⟨_, rfl⟩
    rw [hw13] at hb13 hbut13 ⊢
    have hbl1013 : Below w10.heap.size w10 w13 := hbl1012.trans (hbut13.below (Nat.le_refl _))
    repeat' (first|refine X.O ?_|refine X.A ?_|refine X.B ?_|refine X.C ?_|refine X.D ?_|refine X.E ?_|refine X.F ?_|refine X.G ?_|refine X.H ?_|refine X.I ?_|fail)
    refine ⟨(n + 1, v10, w10.heap.size), ⟨rfl, rfl, rfl, rfl, trivial⟩, ⟨by dsimp only; omega, (hN10.1.below hbl1013 (Nat.le_refl _)).lower (by omega), ⟨_, hb13⟩, by dsimp only; omega, fun e => Nat.lt_irrefl _ (hN10.1.block w10.heap.size e).2, (hbl5.trans (Below.mono hT10 (by omega))).trans (Below.mono hbl1013 (by omega))⟩, by dsimp only; omega⟩
  · rename_i hge
    have hne : n = 6 := by omega
    subst hne
    repeat' (first|refine X.O ?_|refine X.A ?_|refine X.B ?_|refine X.C ?_|refine X.D ?_|refine X.E ?_|refine X.F ?_|refine X.G ?_|refine X.H ?_|refine X.I ?_|fail)
    refine ⟨_, ret1 rfl (by rfl), ?_⟩
    exact ⟨hown5.lower (by omega), hbl05⟩
theorem sLogMap_any {la ha : Nat} {w : World} {va : Value} {a : List Int} (hA : IS la ha w va a) :
    Does Tryz.prog 39 [va] w fun r w' => ResI w r w' (logMap a) := by
  have hzA := hA.hi_le
  refine Does.enter Tryz.func39 Tryz.ntmps39 rfl (by rfl) ?_
  repeat' (first|refine X.O ?_|refine X.A ?_|refine X.B ?_|refine X.C ?_|refine X.D ?_|refine X.E ?_|refine X.F ?_|refine X.G ?_|refine X.H ?_|refine X.I ?_|fail)
  refine WL.call (l07Code_any hA hA) ?_
  rintro _ w1 ⟨rfl, hs⟩
  rw [chTwo_self]
  by_cases hc : chCode a = 0
  · have hm := (chCode_zero hc).1
    have e : logMap a = (logL a, 0) := by unfold logMap; rw [if_pos hc]
    rw [hc]
    repeat' (first|refine X.O ?_|refine X.A ?_|refine X.B ?_|refine X.C ?_|refine X.D ?_|refine X.E ?_|refine X.F ?_|refine X.G ?_|refine X.H ?_|refine X.I ?_|fail)
    refine WL.call (l07Cuts_any _) ?_
    rintro v3 w3 ⟨hC, hbl3⟩
    have hbl03 : Below w.heap.size w w3 := (hs.below _).trans (Below.mono hbl3 (by have := hs.size; omega))
    repeat' (first|refine X.O ?_|refine X.A ?_|refine X.B ?_|refine X.C ?_|refine X.D ?_|refine X.E ?_|refine X.F ?_|refine X.G ?_|refine X.H ?_|refine X.I ?_|fail)
    refine WL.call (l08Log_any hC (hA.below RI.stable hbl03 hzA) (isMap_38 hm) (isMap_all hm)) ?_
    intro v4 w4 hN4
    repeat' (first|refine X.O ?_|refine X.A ?_|refine X.B ?_|refine X.C ?_|refine X.D ?_|refine X.E ?_|refine X.F ?_|refine X.G ?_|refine X.H ?_|refine X.I ?_|fail)
    refine ⟨_, ret2 rfl (by rfl) (by rfl), ?_⟩
    rw [e]
    exact ⟨v4, rfl, hN4.trans hbl03⟩
  · have e : logMap a = ([], chCode a) := by unfold logMap; rw [if_neg hc]
    repeat' (first|refine X.O ?_|refine X.A ?_|refine X.B ?_|refine X.C ?_|refine X.D ?_|refine X.E ?_|refine X.F ?_|refine X.G ?_|refine X.H ?_|refine X.I ?_|fail)
    first|refine X.J (fun _ => ?_) (fun _ => ?_)|refine X.L (fun _ => ?_) (fun _ => ?_)|refine X.M (fun _ => ?_) (fun _ => ?_)|refine X.R (fun _ => ?_) (fun _ => ?_)|fail
    · repeat' (first|refine X.O ?_|refine X.A ?_|refine X.B ?_|refine X.C ?_|refine X.D ?_|refine X.E ?_|refine X.F ?_|refine X.G ?_|refine X.H ?_|refine X.I ?_|fail)
      refine ⟨_, ret2 rfl (by rfl) (by rfl), ?_⟩
      rw [e]
      exact ResI.none _ _ (hs.below _) _
    · rename_i hbad
      exact absurd (by simpa using hbad) hc
theorem LogMap_any {la ha : Nat} {w : World} {va : Value} {a : List Int} (hA : IS la ha w va a) :
    Does Tryz.prog 40 [va] w fun r w' => ResI w r w' (logMap a) := by
  have hzA := hA.hi_le
  refine Does.enter Tryz.func40 Tryz.ntmps40 rfl (by rfl) ?_
  repeat' (first|refine X.O ?_|refine X.A ?_|refine X.B ?_|refine X.C ?_|refine X.D ?_|refine X.E ?_|refine X.F ?_|refine X.G ?_|refine X.H ?_|refine X.I ?_|fail)
  refine WL.call (checkCharacter_any hA) ?_
  rintro _ w1 ⟨rfl, hs⟩
  by_cases hc : chCode a = 0
  · have hm := (chCode_zero hc).1
    have e : logMap a = (logL a, 0) := by unfold logMap; rw [if_pos hc]
    rw [hc]
    repeat' (first|refine X.O ?_|refine X.A ?_|refine X.B ?_|refine X.C ?_|refine X.D ?_|refine X.E ?_|refine X.F ?_|refine X.G ?_|refine X.H ?_|refine X.I ?_|fail)
    refine WL.call (newForms_any _) ?_
    rintro v3 w3 ⟨hF, hbl3⟩
    have hbl03 : Below w.heap.size w w3 := (hs.below _).trans (Below.mono hbl3 (by have := hs.size; omega))
    repeat' (first|refine X.O ?_|refine X.A ?_|refine X.B ?_|refine X.C ?_|refine X.D ?_|refine X.E ?_|refine X.F ?_|refine X.G ?_|refine X.H ?_|refine X.I ?_|fail)
    refine WL.call (logMapL_any hF (hA.below RI.stable hbl03 hzA) (isMap_38 hm) (isMap_all hm)) ?_
    intro v4 w4 hN4
    repeat' (first|refine X.O ?_|refine X.A ?_|refine X.B ?_|refine X.C ?_|refine X.D ?_|refine X.E ?_|refine X.F ?_|refine X.G ?_|refine X.H ?_|refine X.I ?_|fail)
    refine ⟨_, ret2 rfl (by rfl) (by rfl), ?_⟩
    rw [e]
    exact ⟨v4, rfl, hN4.trans hbl03⟩
  · have e : logMap a = ([], chCode a) := by unfold logMap; rw [if_neg hc]
    repeat' (first|refine X.O ?_|refine X.A ?_|refine X.B ?_|refine X.C ?_|refine X.D ?_|refine X.E ?_|refine X.F ?_|refine X.G ?_|refine X.H ?_|refine X.I ?_|fail)
    first|refine X.J (fun _ => ?_) (fun _ => ?_)|refine X.L (fun _ => ?_) (fun _ => ?_)|refine X.M (fun _ => ?_) (fun _ => ?_)|refine X.R (fun _ => ?_) (fun _ => ?_)|fail
    · repeat' (first|refine X.O ?_|refine X.A ?_|refine X.B ?_|refine X.C ?_|refine X.D ?_|refine X.E ?_|refine X.F ?_|refine X.G ?_|refine X.H ?_|refine X.I ?_|fail)
      refine ⟨_, ret2 rfl (by rfl) (by rfl), ?_⟩
      rw [e]
      exact ResI.none _ _ (hs.below _) _
    · rename_i hbad
      exact absurd (by simpa using hbad) hc
end Go.Proofs
