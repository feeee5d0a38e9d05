/- LogOfProduct: the exact law, walked. -/
import Derived.Test.YtncilhecdihmeaaGreatG19
set_option maxRecDepth 8000
namespace Go.Proofs
open Go Go.Fw Go.RowKit Go.Rk
theorem FnExactLogOfProduct_any {w : World} {la0 ha0 : Nat} {va0 : Value} {a0 : List Int} (A0 : IS la0 ha0 w va0 a0) {la1 ha1 : Nat} {va1 : Value} {a1 : List Int} (A1 : IS la1 ha1 w va1 a1) : Does Tryz.prog 11 [va0, va1] w fun r w' => r = .bool true ∧ Below w.heap.size w w' := by
  have hA0 := A0.hi_le
  have hA1 := A1.hi_le
  obtain ⟨ad0, cd0, hv0⟩ := A0.shape
  rw [hv0] at A0 ⊢
  obtain ⟨ad1, cd1, hv1⟩ := A1.shape
  rw [hv1] at A1 ⊢
  refine Does.enter Tryz.func11 Tryz.ntmps11 rfl (by rfl) ?_
  have hB0 : Below w.heap.size w w := Below.refl _ _
  repeat' (first|refine X.O ?_|refine X.A ?_|refine X.B ?_|refine X.C ?_|refine X.D ?_|refine X.E ?_|refine X.F ?_|refine X.G ?_|refine X.H ?_|refine X.I ?_|fail)
  first|refine X.J (fun _ => ?_) (fun _ => ?_)|refine X.L (fun _ => ?_) (fun _ => ?_)|refine X.M (fun _ => ?_) (fun _ => ?_)|refine X.R (fun _ => ?_) (fun _ => ?_)|fail
  · rename_i hbig
    repeat' (first|refine X.O ?_|refine X.A ?_|refine X.B ?_|refine X.C ?_|refine X.D ?_|refine X.E ?_|refine X.F ?_|refine X.G ?_|refine X.H ?_|refine X.I ?_|fail)
    refine ⟨_, ret1 rfl (by rfl), ?_⟩
    exact ⟨rfl, hB0⟩
  rename_i hsm0
  have hn0 : a0.length ≤ 1048576 := by omega
  repeat' (first|refine X.O ?_|refine X.A ?_|refine X.B ?_|refine X.C ?_|refine X.D ?_|refine X.E ?_|refine X.F ?_|refine X.G ?_|refine X.H ?_|refine X.I ?_|fail)
  first|refine X.J (fun _ => ?_) (fun _ => ?_)|refine X.L (fun _ => ?_) (fun _ => ?_)|refine X.M (fun _ => ?_) (fun _ => ?_)|refine X.R (fun _ => ?_) (fun _ => ?_)|fail
  · rename_i hbig
    repeat' (first|refine X.O ?_|refine X.A ?_|refine X.B ?_|refine X.C ?_|refine X.D ?_|refine X.E ?_|refine X.F ?_|refine X.G ?_|refine X.H ?_|refine X.I ?_|fail)
    refine ⟨_, ret1 rfl (by rfl), ?_⟩
    exact ⟨rfl, hB0⟩
  rename_i hsm1
  have hn1 : a1.length ≤ 1048576 := by omega
  repeat' (first|refine X.O ?_|refine X.A ?_|refine X.B ?_|refine X.C ?_|refine X.D ?_|refine X.E ?_|refine X.F ?_|refine X.G ?_|refine X.H ?_|refine X.I ?_|fail)
  have hlen := logOfProduct_len a0 a1
  refine WL.call (toI A0 hn0) ?_
  intro vs0 w1 ⟨s0, hc1⟩
  have hz1 := hc1.size
  have hB1 : Below w.heap.size w w1 := hB0.trans (hc1.below (by omega) (by omega))
  replace A0 := RI.chg A0 hc1 (by omega)
  replace A1 := RI.chg A1 hc1 (by omega)
  repeat' (first|refine X.O ?_|refine X.A ?_|refine X.B ?_|refine X.C ?_|refine X.D ?_|refine X.E ?_|refine X.F ?_|refine X.G ?_|refine X.H ?_|refine X.I ?_|fail)
  refine WL.call (toI A1 hn1) ?_
  intro vs1 w2 ⟨s1, hc2⟩
  have hz2 := hc2.size
  have hB2 : Below w.heap.size w w2 := hB1.trans (hc2.below (by omega) (by omega))
  replace A0 := RI.chg A0 hc2 (by omega)
  replace A1 := RI.chg A1 hc2 (by omega)
  replace s0 := s0.chg hc2 (by omega)
  repeat' (first|refine X.O ?_|refine X.A ?_|refine X.B ?_|refine X.C ?_|refine X.D ?_|refine X.E ?_|refine X.F ?_|refine X.G ?_|refine X.H ?_|refine X.I ?_|fail)
  refine WL.call (sLogOfProduct_any s0.rd s1.rd) ?_
  rintro _ w3 ⟨vW, rfl, NW⟩
  have W := NW.ow
  have hc3 := NW.chg
  clear NW
  have hz3 := hc3.size
  have hB3 : Below w.heap.size w w3 := hB2.trans (hc3.below (by omega) (by omega))
  replace A0 := RI.chg A0 hc3 (by omega)
  replace A1 := RI.chg A1 hc3 (by omega)
  replace s0 := s0.chg hc3 (by omega)
  replace s1 := s1.chg hc3 (by omega)
  repeat' (first|refine X.O ?_|refine X.A ?_|refine X.B ?_|refine X.C ?_|refine X.D ?_|refine X.E ?_|refine X.F ?_|refine X.G ?_|refine X.H ?_|refine X.I ?_|fail)
  refine WL.call (toI A0 hn0) ?_
  intro vX0 w4 ⟨X0, hc4⟩
  have hz4 := hc4.size
  have hB4 : Below w.heap.size w w4 := hB3.trans (hc4.below (by omega) (by omega))
  replace A0 := RI.chg A0 hc4 (by omega)
  replace A1 := RI.chg A1 hc4 (by omega)
  replace W := W.chg hc4 (by omega)
  repeat' (first|refine X.O ?_|refine X.A ?_|refine X.B ?_|refine X.C ?_|refine X.D ?_|refine X.E ?_|refine X.F ?_|refine X.G ?_|refine X.H ?_|refine X.I ?_|fail)
  refine WL.call (toI A1 hn1) ?_
  intro vX1 w5 ⟨X1, hc5⟩
  have hz5 := hc5.size
  have hB5 : Below w.heap.size w w5 := hB4.trans (hc5.below (by omega) (by omega))
  replace A0 := RI.chg A0 hc5 (by omega)
  replace A1 := RI.chg A1 hc5 (by omega)
  replace W := W.chg hc5 (by omega)
  replace X0 := X0.chg hc5 (by omega)
  repeat' (first|refine X.O ?_|refine X.A ?_|refine X.B ?_|refine X.C ?_|refine X.D ?_|refine X.E ?_|refine X.F ?_|refine X.G ?_|refine X.H ?_|refine X.I ?_|fail)
  refine WL.call (LogOfProduct_any X0.rd X1.rd) ?_
  rintro _ w6 ⟨vG, rfl, NG⟩
  have G := NG.ow
  have hc6 := NG.chg
  clear NG
  have hz6 := hc6.size
  have hB6 : Below w.heap.size w w6 := hB5.trans (hc6.below (by omega) (by omega))
  replace A0 := RI.chg A0 hc6 (by omega)
  replace A1 := RI.chg A1 hc6 (by omega)
  replace W := W.chg hc6 (by omega)
  replace X0 := X0.chg hc6 (by omega)
  replace X1 := X1.chg hc6 (by omega)
  repeat' (first|refine X.O ?_|refine X.A ?_|refine X.B ?_|refine X.C ?_|refine X.D ?_|refine X.E ?_|refine X.F ?_|refine X.G ?_|refine X.H ?_|refine X.I ?_|fail)
  refine WL.call (eqI_same G.rd W.rd) ?_
  rintro _ w7 ⟨rfl, hc7⟩
  have hz7 := hc7.size
  have hB7 : Below w.heap.size w w7 := hB6.trans (hc7.below (by omega) (by omega))
  replace A0 := RI.chg A0 hc7 (by omega)
  replace A1 := RI.chg A1 hc7 (by omega)
  replace W := W.chg hc7 (by omega)
  replace X0 := X0.chg hc7 (by omega)
  replace X1 := X1.chg hc7 (by omega)
  replace G := G.chg hc7 (by omega)
  repeat' (first|refine X.O ?_|refine X.A ?_|refine X.B ?_|refine X.C ?_|refine X.D ?_|refine X.E ?_|refine X.F ?_|refine X.G ?_|refine X.H ?_|refine X.I ?_|fail)
  try (refine WP.condD (by rfl) (fun hbad => False.elim (by first | exact hbad rfl | omega)) (fun _ => ?_))
  repeat' (first|refine X.O ?_|refine X.A ?_|refine X.B ?_|refine X.C ?_|refine X.D ?_|refine X.E ?_|refine X.F ?_|refine X.G ?_|refine X.H ?_|refine X.I ?_|fail)
  refine WL.call (toI A0 hn0) ?_
  intro vt0 w8 ⟨t0, hc8⟩
  have hz8 := hc8.size
  have hB8 : Below w.heap.size w w8 := hB7.trans (hc8.below (by omega) (by omega))
  replace A0 := RI.chg A0 hc8 (by omega)
  replace A1 := RI.chg A1 hc8 (by omega)
  replace W := W.chg hc8 (by omega)
  replace X0 := X0.chg hc8 (by omega)
  replace X1 := X1.chg hc8 (by omega)
  replace G := G.chg hc8 (by omega)
  repeat' (first|refine X.O ?_|refine X.A ?_|refine X.B ?_|refine X.C ?_|refine X.D ?_|refine X.E ?_|refine X.F ?_|refine X.G ?_|refine X.H ?_|refine X.I ?_|fail)
  refine WL.call (eqI_same X0.rd t0.rd) ?_
  rintro _ w9 ⟨rfl, hc9⟩
  have hz9 := hc9.size
  have hB9 : Below w.heap.size w w9 := hB8.trans (hc9.below (by omega) (by omega))
  replace A0 := RI.chg A0 hc9 (by omega)
  replace A1 := RI.chg A1 hc9 (by omega)
  replace W := W.chg hc9 (by omega)
  replace X0 := X0.chg hc9 (by omega)
  replace X1 := X1.chg hc9 (by omega)
  replace G := G.chg hc9 (by omega)
  replace t0 := t0.chg hc9 (by omega)
  repeat' (first|refine X.O ?_|refine X.A ?_|refine X.B ?_|refine X.C ?_|refine X.D ?_|refine X.E ?_|refine X.F ?_|refine X.G ?_|refine X.H ?_|refine X.I ?_|fail)
  refine WL.call (toI A1 hn1) ?_
  intro vt1 w10 ⟨t1, hc10⟩
  have hz10 := hc10.size
  have hB10 : Below w.heap.size w w10 := hB9.trans (hc10.below (by omega) (by omega))
  replace A0 := RI.chg A0 hc10 (by omega)
  replace A1 := RI.chg A1 hc10 (by omega)
  replace W := W.chg hc10 (by omega)
  replace X0 := X0.chg hc10 (by omega)
  replace X1 := X1.chg hc10 (by omega)
  replace G := G.chg hc10 (by omega)
  repeat' (first|refine X.O ?_|refine X.A ?_|refine X.B ?_|refine X.C ?_|refine X.D ?_|refine X.E ?_|refine X.F ?_|refine X.G ?_|refine X.H ?_|refine X.I ?_|fail)
  refine WL.call (eqI_same X1.rd t1.rd) ?_
  rintro _ w11 ⟨rfl, hc11⟩
  have hz11 := hc11.size
  have hB11 : Below w.heap.size w w11 := hB10.trans (hc11.below (by omega) (by omega))
  replace A0 := RI.chg A0 hc11 (by omega)
  replace A1 := RI.chg A1 hc11 (by omega)
  replace W := W.chg hc11 (by omega)
  replace X0 := X0.chg hc11 (by omega)
  replace X1 := X1.chg hc11 (by omega)
  replace G := G.chg hc11 (by omega)
  replace t1 := t1.chg hc11 (by omega)
  repeat' (first|refine X.O ?_|refine X.A ?_|refine X.B ?_|refine X.C ?_|refine X.D ?_|refine X.E ?_|refine X.F ?_|refine X.G ?_|refine X.H ?_|refine X.I ?_|fail)
  refine WL.call (markI (k := 1) X0 (by omega) (by omega)) ?_
  rintro _ w12 ⟨rfl, X0', hc12⟩
  have hz12 := hc12.size
  have hB12 : Below w.heap.size w w12 := hB11.trans (hc12.below (by omega) (by omega))
  replace A0 := RI.chg A0 hc12 (by omega)
  replace A1 := RI.chg A1 hc12 (by omega)
  replace W := W.chg hc12 (by omega)
  replace X1 := X1.chg hc12 (by omega)
  replace G := G.chg hc12 (by omega)
  clear X0
  repeat' (first|refine X.O ?_|refine X.A ?_|refine X.B ?_|refine X.C ?_|refine X.D ?_|refine X.E ?_|refine X.F ?_|refine X.G ?_|refine X.H ?_|refine X.I ?_|fail)
  refine WL.call (markI (k := 1 + (a0.length : Int)) X1 (by omega) (by omega)) ?_
  rintro _ w13 ⟨rfl, X1', hc13⟩
  have hz13 := hc13.size
  have hB13 : Below w.heap.size w w13 := hB12.trans (hc13.below (by omega) (by omega))
  replace A0 := RI.chg A0 hc13 (by omega)
  replace A1 := RI.chg A1 hc13 (by omega)
  replace W := W.chg hc13 (by omega)
  replace G := G.chg hc13 (by omega)
  clear X1
  repeat' (first|refine X.O ?_|refine X.A ?_|refine X.B ?_|refine X.C ?_|refine X.D ?_|refine X.E ?_|refine X.F ?_|refine X.G ?_|refine X.H ?_|refine X.I ?_|fail)
  try (refine WL.gsplitD (by rfl) (by rfl) (by rfl) (fun hbad => False.elim (by first | exact hbad rfl | omega)) (fun _ => ?_))
  repeat' (first|refine X.O ?_|refine X.A ?_|refine X.B ?_|refine X.C ?_|refine X.D ?_|refine X.E ?_|refine X.F ?_|refine X.G ?_|refine X.H ?_|refine X.I ?_|fail)
  refine WL.call (eqI_same G.rd W.rd) ?_
  rintro _ w14 ⟨rfl, hc14⟩
  have hz14 := hc14.size
  have hB14 : Below w.heap.size w w14 := hB13.trans (hc14.below (by omega) (by omega))
  replace A0 := RI.chg A0 hc14 (by omega)
  replace A1 := RI.chg A1 hc14 (by omega)
  replace W := W.chg hc14 (by omega)
  replace G := G.chg hc14 (by omega)
  repeat' (first|refine X.O ?_|refine X.A ?_|refine X.B ?_|refine X.C ?_|refine X.D ?_|refine X.E ?_|refine X.F ?_|refine X.G ?_|refine X.H ?_|refine X.I ?_|fail)
  try (refine WP.condD (by rfl) (fun hbad => False.elim (by first | exact hbad rfl | omega)) (fun _ => ?_))
  repeat' (first|refine X.O ?_|refine X.A ?_|refine X.B ?_|refine X.C ?_|refine X.D ?_|refine X.E ?_|refine X.F ?_|refine X.G ?_|refine X.H ?_|refine X.I ?_|fail)
  refine WL.call (markI (k := 1) G (by omega) (by omega)) ?_
  rintro _ w15 ⟨rfl, G', hc15⟩
  have hz15 := hc15.size
  have hB15 : Below w.heap.size w w15 := hB14.trans (hc15.below (by omega) (by omega))
  replace A0 := RI.chg A0 hc15 (by omega)
  replace A1 := RI.chg A1 hc15 (by omega)
  replace W := W.chg hc15 (by omega)
  clear G
  repeat' (first|refine X.O ?_|refine X.A ?_|refine X.B ?_|refine X.C ?_|refine X.D ?_|refine X.E ?_|refine X.F ?_|refine X.G ?_|refine X.H ?_|refine X.I ?_|fail)
  refine WL.call (heldI (k := 1) G'.rd (by omega) (by omega)) ?_
  rintro _ w16 ⟨rfl, hc16⟩
  have hz16 := hc16.size
  have hB16 : Below w.heap.size w w16 := hB15.trans (hc16.below (by omega) (by omega))
  replace A0 := RI.chg A0 hc16 (by omega)
  replace A1 := RI.chg A1 hc16 (by omega)
  replace W := W.chg hc16 (by omega)
  replace G' := G'.chg hc16 (by omega)
  repeat' (first|refine X.O ?_|refine X.A ?_|refine X.B ?_|refine X.C ?_|refine X.D ?_|refine X.E ?_|refine X.F ?_|refine X.G ?_|refine X.H ?_|refine X.I ?_|fail)
  try (refine WP.condD (by rfl) (fun hbad => False.elim (by first | exact hbad rfl | omega)) (fun _ => ?_))
  repeat' (first|refine X.O ?_|refine X.A ?_|refine X.B ?_|refine X.C ?_|refine X.D ?_|refine X.E ?_|refine X.F ?_|refine X.G ?_|refine X.H ?_|refine X.I ?_|fail)
  try (refine WP.condD (by rfl) (fun hbad => False.elim (by first | exact hbad rfl | omega)) (fun _ => ?_))
  repeat' (first|refine X.O ?_|refine X.A ?_|refine X.B ?_|refine X.C ?_|refine X.D ?_|refine X.E ?_|refine X.F ?_|refine X.G ?_|refine X.H ?_|refine X.I ?_|fail)
  refine WL.call (toI A0 hn0) ?_
  intro vy0 w17 ⟨y0, hc17⟩
  have hz17 := hc17.size
  have hB17 : Below w.heap.size w w17 := hB16.trans (hc17.below (by omega) (by omega))
  replace A0 := RI.chg A0 hc17 (by omega)
  replace A1 := RI.chg A1 hc17 (by omega)
  replace W := W.chg hc17 (by omega)
  replace G' := G'.chg hc17 (by omega)
  repeat' (first|refine X.O ?_|refine X.A ?_|refine X.B ?_|refine X.C ?_|refine X.D ?_|refine X.E ?_|refine X.F ?_|refine X.G ?_|refine X.H ?_|refine X.I ?_|fail)
  refine WL.call (toI A1 hn1) ?_
  intro vy1 w18 ⟨y1, hc18⟩
  have hz18 := hc18.size
  have hB18 : Below w.heap.size w w18 := hB17.trans (hc18.below (by omega) (by omega))
  replace A0 := RI.chg A0 hc18 (by omega)
  replace A1 := RI.chg A1 hc18 (by omega)
  replace W := W.chg hc18 (by omega)
  replace G' := G'.chg hc18 (by omega)
  replace y0 := y0.chg hc18 (by omega)
  repeat' (first|refine X.O ?_|refine X.A ?_|refine X.B ?_|refine X.C ?_|refine X.D ?_|refine X.E ?_|refine X.F ?_|refine X.G ?_|refine X.H ?_|refine X.I ?_|fail)
  refine WL.call (LogOfProduct_any y0.rd y1.rd) ?_
  rintro _ w19 ⟨vH, rfl, NH⟩
  have H := NH.ow
  have hc19 := NH.chg
  clear NH
  have hz19 := hc19.size
  have hB19 : Below w.heap.size w w19 := hB18.trans (hc19.below (by omega) (by omega))
  replace A0 := RI.chg A0 hc19 (by omega)
  replace A1 := RI.chg A1 hc19 (by omega)
  replace W := W.chg hc19 (by omega)
  replace G' := G'.chg hc19 (by omega)
  replace y0 := y0.chg hc19 (by omega)
  replace y1 := y1.chg hc19 (by omega)
  repeat' (first|refine X.O ?_|refine X.A ?_|refine X.B ?_|refine X.C ?_|refine X.D ?_|refine X.E ?_|refine X.F ?_|refine X.G ?_|refine X.H ?_|refine X.I ?_|fail)
  refine WL.call (eqI_same H.rd W.rd) ?_
  rintro _ w20 ⟨rfl, hc20⟩
  have hz20 := hc20.size
  have hB20 : Below w.heap.size w w20 := hB19.trans (hc20.below (by omega) (by omega))
  replace A0 := RI.chg A0 hc20 (by omega)
  replace A1 := RI.chg A1 hc20 (by omega)
  replace W := W.chg hc20 (by omega)
  replace G' := G'.chg hc20 (by omega)
  replace H := H.chg hc20 (by omega)
  repeat' (first|refine X.O ?_|refine X.A ?_|refine X.B ?_|refine X.C ?_|refine X.D ?_|refine X.E ?_|refine X.F ?_|refine X.G ?_|refine X.H ?_|refine X.I ?_|fail)
  try (refine WP.condD (by rfl) (fun hbad => False.elim (by first | exact hbad rfl | omega)) (fun _ => ?_))
  repeat' (first|refine X.O ?_|refine X.A ?_|refine X.B ?_|refine X.C ?_|refine X.D ?_|refine X.E ?_|refine X.F ?_|refine X.G ?_|refine X.H ?_|refine X.I ?_|fail)
  refine WL.call (heldI (k := 1) G'.rd (by omega) (by omega)) ?_
  rintro _ w21 ⟨rfl, hc21⟩
  have hz21 := hc21.size
  have hB21 : Below w.heap.size w w21 := hB20.trans (hc21.below (by omega) (by omega))
  replace A0 := RI.chg A0 hc21 (by omega)
  replace A1 := RI.chg A1 hc21 (by omega)
  replace G' := G'.chg hc21 (by omega)
  repeat' (first|refine X.O ?_|refine X.A ?_|refine X.B ?_|refine X.C ?_|refine X.D ?_|refine X.E ?_|refine X.F ?_|refine X.G ?_|refine X.H ?_|refine X.I ?_|fail)
  try (refine WP.condD (by rfl) (fun hbad => False.elim (by first | exact hbad rfl | omega)) (fun _ => ?_))
  repeat' (first|refine X.O ?_|refine X.A ?_|refine X.B ?_|refine X.C ?_|refine X.D ?_|refine X.E ?_|refine X.F ?_|refine X.G ?_|refine X.H ?_|refine X.I ?_|fail)
  try (refine WP.condD (by rfl) (fun hbad => False.elim (by first | exact hbad rfl | omega)) (fun _ => ?_))
  repeat' (first|refine X.O ?_|refine X.A ?_|refine X.B ?_|refine X.C ?_|refine X.D ?_|refine X.E ?_|refine X.F ?_|refine X.G ?_|refine X.H ?_|refine X.I ?_|fail)
  refine ⟨_, ret1 rfl (by rfl), ?_⟩
  exact ⟨rfl, hB21⟩
end Go.Proofs
