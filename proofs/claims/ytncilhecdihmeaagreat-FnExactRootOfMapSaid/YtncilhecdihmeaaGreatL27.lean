/- RootOfMap: the exact law, walked. -/
import Derived.Test.YtncilhecdihmeaaGreatG16
set_option maxRecDepth 8000
namespace Go.Proofs
open Go Go.Fw Go.RowKit Go.Rk
theorem FnExactRootOfMap_any {w : World} {la0 ha0 : Nat} {va0 : Value} {a0 : List Int} (A0 : IS la0 ha0 w va0 a0) (a1 : Int) : Does Tryz.prog 10 [va0, .int .i64 a1] w fun r w' => r = .bool true ∧ Below w.heap.size w w' := by
  have hA0 := A0.hi_le
  obtain ⟨ad0, cd0, hv0⟩ := A0.shape
  rw [hv0] at A0 ⊢
  refine Does.enter Tryz.func10 Tryz.ntmps10 rfl (by rfl) ?_
  have hB0 : Below w.heap.size w w := Below.refl _ _
  repeat' (first|refine X.O ?_|refine X.A ?_|refine X.B ?_|refine X.C ?_|refine X.D ?_|refine X.E ?_|refine X.F ?_|refine X.G ?_|refine X.H ?_|refine X.I ?_|fail)
  first|refine X.J (fun _ => ?_) (fun _ => ?_)|refine X.L (fun _ => ?_) (fun _ => ?_)|refine X.M (fun _ => ?_) (fun _ => ?_)|refine X.R (fun _ => ?_) (fun _ => ?_)|fail
  · rename_i hbig
    repeat' (first|refine X.O ?_|refine X.A ?_|refine X.B ?_|refine X.C ?_|refine X.D ?_|refine X.E ?_|refine X.F ?_|refine X.G ?_|refine X.H ?_|refine X.I ?_|fail)
    refine ⟨_, ret1 rfl (by rfl), ?_⟩
    exact ⟨rfl, hB0⟩
  rename_i hsm0
  have hn0 : a0.length ≤ 1048576 := by omega
  repeat' (first|refine X.O ?_|refine X.A ?_|refine X.B ?_|refine X.C ?_|refine X.D ?_|refine X.E ?_|refine X.F ?_|refine X.G ?_|refine X.H ?_|refine X.I ?_|fail)
  have hlen := rootOfMap_len a0 a1
  refine WL.call (toI A0 hn0) ?_
  intro vs0 w1 ⟨s0, hc1⟩
  have hz1 := hc1.size
  have hB1 : Below w.heap.size w w1 := hB0.trans (hc1.below (by omega) (by omega))
  replace A0 := RI.chg A0 hc1 (by omega)
  repeat' (first|refine X.O ?_|refine X.A ?_|refine X.B ?_|refine X.C ?_|refine X.D ?_|refine X.E ?_|refine X.F ?_|refine X.G ?_|refine X.H ?_|refine X.I ?_|fail)
  refine WL.call (sRootOfMap_any s0.rd a1) ?_
  rintro _ w2 ⟨vW, rfl, NW⟩
  have W := NW.ow
  have hc2 := NW.chg
  clear NW
  have hz2 := hc2.size
  have hB2 : Below w.heap.size w w2 := hB1.trans (hc2.below (by omega) (by omega))
  replace A0 := RI.chg A0 hc2 (by omega)
  replace s0 := s0.chg hc2 (by omega)
  repeat' (first|refine X.O ?_|refine X.A ?_|refine X.B ?_|refine X.C ?_|refine X.D ?_|refine X.E ?_|refine X.F ?_|refine X.G ?_|refine X.H ?_|refine X.I ?_|fail)
  refine WL.call (toI A0 hn0) ?_
  intro vX0 w3 ⟨X0, hc3⟩
  have hz3 := hc3.size
  have hB3 : Below w.heap.size w w3 := hB2.trans (hc3.below (by omega) (by omega))
  replace A0 := RI.chg A0 hc3 (by omega)
  replace W := W.chg hc3 (by omega)
  repeat' (first|refine X.O ?_|refine X.A ?_|refine X.B ?_|refine X.C ?_|refine X.D ?_|refine X.E ?_|refine X.F ?_|refine X.G ?_|refine X.H ?_|refine X.I ?_|fail)
  refine WL.call (RootOfMap_any X0.rd a1) ?_
  rintro _ w4 ⟨vG, rfl, NG⟩
  have G := NG.ow
  have hc4 := NG.chg
  clear NG
  have hz4 := hc4.size
  have hB4 : Below w.heap.size w w4 := hB3.trans (hc4.below (by omega) (by omega))
  replace A0 := RI.chg A0 hc4 (by omega)
  replace W := W.chg hc4 (by omega)
  replace X0 := X0.chg hc4 (by omega)
  repeat' (first|refine X.O ?_|refine X.A ?_|refine X.B ?_|refine X.C ?_|refine X.D ?_|refine X.E ?_|refine X.F ?_|refine X.G ?_|refine X.H ?_|refine X.I ?_|fail)
  refine WL.call (eqI_same G.rd W.rd) ?_
  rintro _ w5 ⟨rfl, hc5⟩
  have hz5 := hc5.size
  have hB5 : Below w.heap.size w w5 := hB4.trans (hc5.below (by omega) (by omega))
  replace A0 := RI.chg A0 hc5 (by omega)
  replace W := W.chg hc5 (by omega)
  replace X0 := X0.chg hc5 (by omega)
  replace G := G.chg hc5 (by omega)
  repeat' (first|refine X.O ?_|refine X.A ?_|refine X.B ?_|refine X.C ?_|refine X.D ?_|refine X.E ?_|refine X.F ?_|refine X.G ?_|refine X.H ?_|refine X.I ?_|fail)
  try (refine WP.condD (by rfl) (fun hbad => False.elim (by first | exact hbad rfl | omega)) (fun _ => ?_))
  repeat' (first|refine X.O ?_|refine X.A ?_|refine X.B ?_|refine X.C ?_|refine X.D ?_|refine X.E ?_|refine X.F ?_|refine X.G ?_|refine X.H ?_|refine X.I ?_|fail)
  refine WL.call (toI A0 hn0) ?_
  intro vt0 w6 ⟨t0, hc6⟩
  have hz6 := hc6.size
  have hB6 : Below w.heap.size w w6 := hB5.trans (hc6.below (by omega) (by omega))
  replace A0 := RI.chg A0 hc6 (by omega)
  replace W := W.chg hc6 (by omega)
  replace X0 := X0.chg hc6 (by omega)
  replace G := G.chg hc6 (by omega)
  repeat' (first|refine X.O ?_|refine X.A ?_|refine X.B ?_|refine X.C ?_|refine X.D ?_|refine X.E ?_|refine X.F ?_|refine X.G ?_|refine X.H ?_|refine X.I ?_|fail)
  refine WL.call (eqI_same X0.rd t0.rd) ?_
  rintro _ w7 ⟨rfl, hc7⟩
  have hz7 := hc7.size
  have hB7 : Below w.heap.size w w7 := hB6.trans (hc7.below (by omega) (by omega))
  replace A0 := RI.chg A0 hc7 (by omega)
  replace W := W.chg hc7 (by omega)
  replace X0 := X0.chg hc7 (by omega)
  replace G := G.chg hc7 (by omega)
  replace t0 := t0.chg hc7 (by omega)
  repeat' (first|refine X.O ?_|refine X.A ?_|refine X.B ?_|refine X.C ?_|refine X.D ?_|refine X.E ?_|refine X.F ?_|refine X.G ?_|refine X.H ?_|refine X.I ?_|fail)
  refine WL.call (markI (k := 1) X0 (by omega) (by omega)) ?_
  rintro _ w8 ⟨rfl, X0', hc8⟩
  have hz8 := hc8.size
  have hB8 : Below w.heap.size w w8 := hB7.trans (hc8.below (by omega) (by omega))
  replace A0 := RI.chg A0 hc8 (by omega)
  replace W := W.chg hc8 (by omega)
  replace G := G.chg hc8 (by omega)
  clear X0
  repeat' (first|refine X.O ?_|refine X.A ?_|refine X.B ?_|refine X.C ?_|refine X.D ?_|refine X.E ?_|refine X.F ?_|refine X.G ?_|refine X.H ?_|refine X.I ?_|fail)
  try (refine WL.gsplitD (by rfl) (by rfl) (by rfl) (fun hbad => False.elim (by first | exact hbad rfl | omega)) (fun _ => ?_))
  repeat' (first|refine X.O ?_|refine X.A ?_|refine X.B ?_|refine X.C ?_|refine X.D ?_|refine X.E ?_|refine X.F ?_|refine X.G ?_|refine X.H ?_|refine X.I ?_|fail)
  refine WL.call (eqI_same G.rd W.rd) ?_
  rintro _ w9 ⟨rfl, hc9⟩
  have hz9 := hc9.size
  have hB9 : Below w.heap.size w w9 := hB8.trans (hc9.below (by omega) (by omega))
  replace A0 := RI.chg A0 hc9 (by omega)
  replace W := W.chg hc9 (by omega)
  replace G := G.chg hc9 (by omega)
  repeat' (first|refine X.O ?_|refine X.A ?_|refine X.B ?_|refine X.C ?_|refine X.D ?_|refine X.E ?_|refine X.F ?_|refine X.G ?_|refine X.H ?_|refine X.I ?_|fail)
  try (refine WP.condD (by rfl) (fun hbad => False.elim (by first | exact hbad rfl | omega)) (fun _ => ?_))
  repeat' (first|refine X.O ?_|refine X.A ?_|refine X.B ?_|refine X.C ?_|refine X.D ?_|refine X.E ?_|refine X.F ?_|refine X.G ?_|refine X.H ?_|refine X.I ?_|fail)
  refine WL.call (markI (k := 1) G (by omega) (by omega)) ?_
  rintro _ w10 ⟨rfl, G', hc10⟩
  have hz10 := hc10.size
  have hB10 : Below w.heap.size w w10 := hB9.trans (hc10.below (by omega) (by omega))
  replace A0 := RI.chg A0 hc10 (by omega)
  replace W := W.chg hc10 (by omega)
  clear G
  repeat' (first|refine X.O ?_|refine X.A ?_|refine X.B ?_|refine X.C ?_|refine X.D ?_|refine X.E ?_|refine X.F ?_|refine X.G ?_|refine X.H ?_|refine X.I ?_|fail)
  refine WL.call (heldI (k := 1) G'.rd (by omega) (by omega)) ?_
  rintro _ w11 ⟨rfl, hc11⟩
  have hz11 := hc11.size
  have hB11 : Below w.heap.size w w11 := hB10.trans (hc11.below (by omega) (by omega))
  replace A0 := RI.chg A0 hc11 (by omega)
  replace W := W.chg hc11 (by omega)
  replace G' := G'.chg hc11 (by omega)
  repeat' (first|refine X.O ?_|refine X.A ?_|refine X.B ?_|refine X.C ?_|refine X.D ?_|refine X.E ?_|refine X.F ?_|refine X.G ?_|refine X.H ?_|refine X.I ?_|fail)
  try (refine WP.condD (by rfl) (fun hbad => False.elim (by first | exact hbad rfl | omega)) (fun _ => ?_))
  repeat' (first|refine X.O ?_|refine X.A ?_|refine X.B ?_|refine X.C ?_|refine X.D ?_|refine X.E ?_|refine X.F ?_|refine X.G ?_|refine X.H ?_|refine X.I ?_|fail)
  try (refine WP.condD (by rfl) (fun hbad => False.elim (by first | exact hbad rfl | omega)) (fun _ => ?_))
  repeat' (first|refine X.O ?_|refine X.A ?_|refine X.B ?_|refine X.C ?_|refine X.D ?_|refine X.E ?_|refine X.F ?_|refine X.G ?_|refine X.H ?_|refine X.I ?_|fail)
  refine WL.call (toI A0 hn0) ?_
  intro vy0 w12 ⟨y0, hc12⟩
  have hz12 := hc12.size
  have hB12 : Below w.heap.size w w12 := hB11.trans (hc12.below (by omega) (by omega))
  replace A0 := RI.chg A0 hc12 (by omega)
  replace W := W.chg hc12 (by omega)
  replace G' := G'.chg hc12 (by omega)
  repeat' (first|refine X.O ?_|refine X.A ?_|refine X.B ?_|refine X.C ?_|refine X.D ?_|refine X.E ?_|refine X.F ?_|refine X.G ?_|refine X.H ?_|refine X.I ?_|fail)
  refine WL.call (RootOfMap_any y0.rd a1) ?_
  rintro _ w13 ⟨vH, rfl, NH⟩
  have H := NH.ow
  have hc13 := NH.chg
  clear NH
  have hz13 := hc13.size
  have hB13 : Below w.heap.size w w13 := hB12.trans (hc13.below (by omega) (by omega))
  replace A0 := RI.chg A0 hc13 (by omega)
  replace W := W.chg hc13 (by omega)
  replace G' := G'.chg hc13 (by omega)
  replace y0 := y0.chg hc13 (by omega)
  repeat' (first|refine X.O ?_|refine X.A ?_|refine X.B ?_|refine X.C ?_|refine X.D ?_|refine X.E ?_|refine X.F ?_|refine X.G ?_|refine X.H ?_|refine X.I ?_|fail)
  refine WL.call (eqI_same H.rd W.rd) ?_
  rintro _ w14 ⟨rfl, hc14⟩
  have hz14 := hc14.size
  have hB14 : Below w.heap.size w w14 := hB13.trans (hc14.below (by omega) (by omega))
  replace A0 := RI.chg A0 hc14 (by omega)
  replace W := W.chg hc14 (by omega)
  replace G' := G'.chg hc14 (by omega)
  replace H := H.chg hc14 (by omega)
  repeat' (first|refine X.O ?_|refine X.A ?_|refine X.B ?_|refine X.C ?_|refine X.D ?_|refine X.E ?_|refine X.F ?_|refine X.G ?_|refine X.H ?_|refine X.I ?_|fail)
  try (refine WP.condD (by rfl) (fun hbad => False.elim (by first | exact hbad rfl | omega)) (fun _ => ?_))
  repeat' (first|refine X.O ?_|refine X.A ?_|refine X.B ?_|refine X.C ?_|refine X.D ?_|refine X.E ?_|refine X.F ?_|refine X.G ?_|refine X.H ?_|refine X.I ?_|fail)
  refine WL.call (heldI (k := 1) G'.rd (by omega) (by omega)) ?_
  rintro _ w15 ⟨rfl, hc15⟩
  have hz15 := hc15.size
  have hB15 : Below w.heap.size w w15 := hB14.trans (hc15.below (by omega) (by omega))
  replace A0 := RI.chg A0 hc15 (by omega)
  replace G' := G'.chg hc15 (by omega)
  repeat' (first|refine X.O ?_|refine X.A ?_|refine X.B ?_|refine X.C ?_|refine X.D ?_|refine X.E ?_|refine X.F ?_|refine X.G ?_|refine X.H ?_|refine X.I ?_|fail)
  try (refine WP.condD (by rfl) (fun hbad => False.elim (by first | exact hbad rfl | omega)) (fun _ => ?_))
  repeat' (first|refine X.O ?_|refine X.A ?_|refine X.B ?_|refine X.C ?_|refine X.D ?_|refine X.E ?_|refine X.F ?_|refine X.G ?_|refine X.H ?_|refine X.I ?_|fail)
  try (refine WP.condD (by rfl) (fun hbad => False.elim (by first | exact hbad rfl | omega)) (fun _ => ?_))
  repeat' (first|refine X.O ?_|refine X.A ?_|refine X.B ?_|refine X.C ?_|refine X.D ?_|refine X.E ?_|refine X.F ?_|refine X.G ?_|refine X.H ?_|refine X.I ?_|fail)
  refine ⟨_, ret1 rfl (by rfl), ?_⟩
  exact ⟨rfl, hB15⟩
end Go.Proofs
