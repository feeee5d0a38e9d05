/- The law of convolutions, walked. -/
import Derived.Test.YtncilhecdihmeaaGreatM5
import Derived.Test.YtncilhecdihmeaaGreatD8
set_option maxRecDepth 8000
namespace Go.Proofs
open Go Go.Fw Go.RowKit Go.Rk
theorem sIsMap_any {lo hi : Nat} {w : World} {v : Value} {xs : List Int} (h : IS lo hi w v xs) : Does Tryz.prog 49 [v] w fun r w' => r = .bool (isMap xs) ∧ Still w w' := by
  refine Does.enter Tryz.func49 Tryz.ntmps49 rfl (by rfl) ?_
  repeat' (first|refine X.O ?_|refine X.A ?_|refine X.B ?_|refine X.C ?_|refine X.D ?_|refine X.E ?_|refine X.F ?_|refine X.G ?_|refine X.H ?_|refine X.I ?_|fail)
  refine WL.call (l07Is_any h) ?_
  rintro _ w1 ⟨rfl, hs1⟩
  repeat' (first|refine X.O ?_|refine X.A ?_|refine X.B ?_|refine X.C ?_|refine X.D ?_|refine X.E ?_|refine X.F ?_|refine X.G ?_|refine X.H ?_|refine X.I ?_|fail)
  refine ⟨_, ret1 rfl (by rfl), ?_⟩
  exact ⟨rfl, hs1⟩
set_option maxHeartbeats 4000000 in
theorem FnConvolution_any {w : World} {lo hi : Nat} {v : Value} {bs : List Int} (h : IU lo hi w v bs) : Does Tryz.prog 12 [v] w fun r w' => r = .bool true ∧ Below w.heap.size w w' := by
  have hhl := h.hi_le
  refine Does.enter Tryz.func12 Tryz.ntmps12 rfl (by rfl) ?_
  repeat' (first|refine X.O ?_|refine X.A ?_|refine X.B ?_|refine X.C ?_|refine X.D ?_|refine X.E ?_|refine X.F ?_|refine X.G ?_|refine X.H ?_|refine X.I ?_|fail)
  refine WL.call (big_any h) ?_
  rintro _ w0 ⟨rfl, hs0⟩
  repeat' (first|refine X.O ?_|refine X.A ?_|refine X.B ?_|refine X.C ?_|refine X.D ?_|refine X.E ?_|refine X.F ?_|refine X.G ?_|refine X.H ?_|refine X.I ?_|fail)
  first|refine X.J (fun _ => ?_) (fun _ => ?_)|refine X.L (fun _ => ?_) (fun _ => ?_)|refine X.M (fun _ => ?_) (fun _ => ?_)|refine X.R (fun _ => ?_) (fun _ => ?_)|fail
  · repeat' (first|refine X.O ?_|refine X.A ?_|refine X.B ?_|refine X.C ?_|refine X.D ?_|refine X.E ?_|refine X.F ?_|refine X.G ?_|refine X.H ?_|refine X.I ?_|fail)
    refine ⟨_, ret1 rfl (by rfl), ?_⟩
    exact ⟨rfl, hs0.below _⟩
  rename_i hbig
  repeat' (first|refine X.O ?_|refine X.A ?_|refine X.B ?_|refine X.C ?_|refine X.D ?_|refine X.E ?_|refine X.F ?_|refine X.G ?_|refine X.H ?_|refine X.I ?_|fail)
  refine WL.call (DrawConvolve_any (h.still RU.stable hs0) (by omega)) ?_
  rintro _ w1 ⟨⟨va, vb, a, b, rfl, hA, hB⟩, hbl1⟩
  have hH : Have w w1 [(0, va, a), (1, vb, b)] := ⟨(hs0.below _).trans (Below.mono hbl1 (by have := hs0.size; omega)), fun p hp => by
    simp only [List.mem_cons, List.not_mem_nil, or_false] at hp
    rcases hp with rfl | rfl
    · exact ⟨_, _, hA⟩
    · exact ⟨_, _, hB⟩⟩
  repeat' (first|refine X.O ?_|refine X.A ?_|refine X.B ?_|refine X.C ?_|refine X.D ?_|refine X.E ?_|refine X.F ?_|refine X.G ?_|refine X.H ?_|refine X.I ?_|fail)
  refine WL.call (Convolve_any hA hB) ?_
  rintro _ w2 ⟨vx, rfl, hN2⟩
  replace hH := hH.new 2 hN2
  repeat' (first|refine X.O ?_|refine X.A ?_|refine X.B ?_|refine X.C ?_|refine X.D ?_|refine X.E ?_|refine X.F ?_|refine X.G ?_|refine X.H ?_|refine X.I ?_|fail)
  refine WL.call (sConvolve_any (hA.below RI.stable hN2.2 hA.hi_le) (hB.below RI.stable hN2.2 hB.hi_le)) ?_
  rintro _ w3 ⟨vy, rfl, hN3⟩
  have hX2 := hN2.1.toIS (Nat.zero_le _)
  replace hH := hH.next hN3.2
  clear hA hB
  by_cases hc : chTwo a b = 0
  case neg =>
    have e : convMap a b = ([], chTwo a b) := by unfold convMap; rw [if_neg hc]
    rw [e] at hX2 ⊢
    obtain ⟨a2, c2, hv2⟩ := hX2.shape
    subst hv2
    obtain ⟨g, hg⟩ : ∃ g, chTwo a b = g := ⟨_, rfl⟩
    rw [hg] at hc ⊢
    repeat' (first|refine X.O ?_|refine X.A ?_|refine X.B ?_|refine X.C ?_|refine X.D ?_|refine X.E ?_|refine X.F ?_|refine X.G ?_|refine X.H ?_|refine X.I ?_|fail)
    try (refine WL.gsplitD (by rfl) (by rfl) (by rfl) (fun hbad => False.elim (by first | exact hbad rfl | omega)) (fun _ => ?_))
    repeat' (first|refine X.O ?_|refine X.A ?_|refine X.B ?_|refine X.C ?_|refine X.D ?_|refine X.E ?_|refine X.F ?_|refine X.G ?_|refine X.H ?_|refine X.I ?_|fail)
    obtain ⟨_, _, hA⟩ := hH.get 0 rfl
    refine WL.call (IsMap_any hA) ?_
    rintro _ w4 ⟨rfl, hs4⟩
    repeat' (first|refine X.O ?_|refine X.A ?_|refine X.B ?_|refine X.C ?_|refine X.D ?_|refine X.E ?_|refine X.F ?_|refine X.G ?_|refine X.H ?_|refine X.I ?_|fail)
    refine WL.call (sIsMap_any (hA.still RI.stable hs4)) ?_
    rintro _ w5 ⟨rfl, hs5⟩
    replace hH := (hH.still hs4).still hs5
    refine WL.step (o_neqB Tryz.underlying4 (by rfl) (by rfl) ?_)
    repeat' (first|refine X.O ?_|refine X.A ?_|refine X.B ?_|refine X.C ?_|refine X.D ?_|refine X.E ?_|refine X.F ?_|refine X.G ?_|refine X.H ?_|refine X.I ?_|fail)
    try (refine WP.condD (by rfl) (fun hbad => False.elim (by first | exact hbad rfl | omega)) (fun _ => ?_))
    repeat' (first|refine X.O ?_|refine X.A ?_|refine X.B ?_|refine X.C ?_|refine X.D ?_|refine X.E ?_|refine X.F ?_|refine X.G ?_|refine X.H ?_|refine X.I ?_|fail)
    first|refine X.J (fun _ => ?_) (fun _ => ?_)|refine X.L (fun _ => ?_) (fun _ => ?_)|refine X.M (fun _ => ?_) (fun _ => ?_)|refine X.R (fun _ => ?_) (fun _ => ?_)|fail
    · repeat' (first|refine X.O ?_|refine X.A ?_|refine X.B ?_|refine X.C ?_|refine X.D ?_|refine X.E ?_|refine X.F ?_|refine X.G ?_|refine X.H ?_|refine X.I ?_|fail)
      refine ⟨_, ret1 rfl (by rfl), ?_⟩
      exact ⟨rfl, hH.bel⟩
    · rename_i hz
      exact absurd (by simpa using hz) hc
  obtain ⟨cA, mB⟩ := chTwo_zero hc
  have e := conv_ok cA mB
  rw [e] at hH hX2 ⊢
  clear e hN2 hN3 hX2
  repeat' (first|refine X.O ?_|refine X.A ?_|refine X.B ?_|refine X.C ?_|refine X.D ?_|refine X.E ?_|refine X.F ?_|refine X.G ?_|refine X.H ?_|refine X.I ?_|fail)
  try (refine WL.gsplitD (by rfl) (by rfl) (by rfl) (fun hbad => False.elim (by first | exact hbad rfl | omega)) (fun _ => ?_))
  repeat' (first|refine X.O ?_|refine X.A ?_|refine X.B ?_|refine X.C ?_|refine X.D ?_|refine X.E ?_|refine X.F ?_|refine X.G ?_|refine X.H ?_|refine X.I ?_|fail)
  obtain ⟨_, _, hA⟩ := hH.get 0 rfl
  refine WL.call (IsMap_any hA) ?_
  rintro _ w4 ⟨rfl, hs4⟩
  repeat' (first|refine X.O ?_|refine X.A ?_|refine X.B ?_|refine X.C ?_|refine X.D ?_|refine X.E ?_|refine X.F ?_|refine X.G ?_|refine X.H ?_|refine X.I ?_|fail)
  refine WL.call (sIsMap_any (hA.still RI.stable hs4)) ?_
  rintro _ w5 ⟨rfl, hs5⟩
  clear hA
  replace hH := (hH.still hs4).still hs5
  refine WL.step (o_neqB Tryz.underlying4 (by rfl) (by rfl) ?_)
  repeat' (first|refine X.O ?_|refine X.A ?_|refine X.B ?_|refine X.C ?_|refine X.D ?_|refine X.E ?_|refine X.F ?_|refine X.G ?_|refine X.H ?_|refine X.I ?_|fail)
  try (refine WP.condD (by rfl) (fun hbad => False.elim (by first | exact hbad rfl | omega)) (fun _ => ?_))
  repeat' (first|refine X.O ?_|refine X.A ?_|refine X.B ?_|refine X.C ?_|refine X.D ?_|refine X.E ?_|refine X.F ?_|refine X.G ?_|refine X.H ?_|refine X.I ?_|fail)
  try (refine WP.condD (by rfl) (fun hbad => False.elim (by first | exact hbad rfl | omega)) (fun _ => ?_))
  repeat' (first|refine X.O ?_|refine X.A ?_|refine X.B ?_|refine X.C ?_|refine X.D ?_|refine X.E ?_|refine X.F ?_|refine X.G ?_|refine X.H ?_|refine X.I ?_|fail)
  refine WL.call (roll_any (h.below RU.stable hH.bel hhl) (by omega) 1071 (by omega) (by omega)) ?_
  rintro _ w6 ⟨rfl, hdi, hc6⟩
  replace hH := hH.roll hdi hc6
  repeat' (first|refine X.O ?_|refine X.A ?_|refine X.B ?_|refine X.C ?_|refine X.D ?_|refine X.E ?_|refine X.F ?_|refine X.G ?_|refine X.H ?_|refine X.I ?_|fail)
  refine WL.call (map9_any hH.dice 1 (by kernel_rfl)) ?_
  rintro ve w7 ⟨⟨e, hE, hem, he1⟩, hro⟩
  have cE : Chr e := ⟨hem, he1⟩
  replace hH := hH.map9 hro 3 hE
  repeat' (first|refine X.O ?_|refine X.A ?_|refine X.B ?_|refine X.C ?_|refine X.D ?_|refine X.E ?_|refine X.F ?_|refine X.G ?_|refine X.H ?_|refine X.I ?_|fail)
  refine WL.call (InverseMap_rd (hH.get 0 rfl) cA) ?_
  rintro _ w8 ⟨vi, rfl, hN8⟩
  replace hH := hH.new 4 hN8
  repeat' (first|refine X.O ?_|refine X.A ?_|refine X.B ?_|refine X.C ?_|refine X.D ?_|refine X.E ?_|refine X.F ?_|refine X.G ?_|refine X.H ?_|refine X.I ?_|fail)
  refine WL.call (UnitMap_any _) ?_
  intro vu w9 hN9
  replace hH := hH.new 5 hN9
  repeat' (first|refine X.O ?_|refine X.A ?_|refine X.B ?_|refine X.C ?_|refine X.D ?_|refine X.E ?_|refine X.F ?_|refine X.G ?_|refine X.H ?_|refine X.I ?_|fail)
  refine WL.call (below_any hH.dice 10007 (by omega)) ?_
  rintro _ w10 ⟨⟨k, rfl, _, hk⟩, hd10⟩
  have hk := hk (by omega)
  have hkn : isN k = true := isN_of ⟨hk.1, by omega⟩
  replace hH := (hH.rolled hd10).have
  have cX : isMap (convR modR cutLit a b) = true := conv_map a mB
  repeat' (first|refine X.O ?_|refine X.A ?_|refine X.B ?_|refine X.C ?_|refine X.D ?_|refine X.E ?_|refine X.F ?_|refine X.G ?_|refine X.H ?_|refine X.I ?_|fail)
  refine WL.call (ScaleMap_rd (hH.get 2 rfl) cX hkn) ?_
  rintro _ w11 ⟨v11, rfl, hN11⟩
  replace hH := hH.new 6 hN11
  repeat' (first|refine X.O ?_|refine X.A ?_|refine X.B ?_|refine X.C ?_|refine X.D ?_|refine X.E ?_|refine X.F ?_|refine X.G ?_|refine X.H ?_|refine X.I ?_|fail)
  refine WL.call (ScaleMap_rd (hH.get 0 rfl) cA.map hkn) ?_
  rintro _ w12 ⟨v12, rfl, hN12⟩
  replace hH := hH.new 7 hN12
  repeat' (first|refine X.O ?_|refine X.A ?_|refine X.B ?_|refine X.C ?_|refine X.D ?_|refine X.E ?_|refine X.F ?_|refine X.G ?_|refine X.H ?_|refine X.I ?_|fail)
  refine WL.call (ScaleMap_rd (hH.get 1 rfl) mB hkn) ?_
  rintro _ w13 ⟨v13, rfl, hN13⟩
  replace hH := hH.new 8 hN13
  repeat' (first|refine X.O ?_|refine X.A ?_|refine X.B ?_|refine X.C ?_|refine X.D ?_|refine X.E ?_|refine X.F ?_|refine X.G ?_|refine X.H ?_|refine X.I ?_|fail)
  refine WL.call (whole9_rd (hH.get 2 rfl) (convR_len _ _)) ?_
  rintro _ _ ⟨rfl, rfl⟩
  repeat' (first|refine X.O ?_|refine X.A ?_|refine X.B ?_|refine X.C ?_|refine X.D ?_|refine X.E ?_|refine X.F ?_|refine X.G ?_|refine X.H ?_|refine X.I ?_|fail)
  try (refine WP.condD (by rfl) (fun hbad => False.elim (by first | exact hbad rfl | omega)) (fun _ => ?_))
  repeat' (first|refine X.O ?_|refine X.A ?_|refine X.B ?_|refine X.C ?_|refine X.D ?_|refine X.E ?_|refine X.F ?_|refine X.G ?_|refine X.H ?_|refine X.I ?_|fail)
  refine WL.call (conv9_rd (hH.get 3 rfl) (hH.get 2 rfl) cE cX) ?_
  intro v14 w14 hN14
  replace hH := hH.new 9 hN14
  repeat' (first|refine X.O ?_|refine X.A ?_|refine X.B ?_|refine X.C ?_|refine X.D ?_|refine X.E ?_|refine X.F ?_|refine X.G ?_|refine X.H ?_|refine X.I ?_|fail)
  refine WL.call (conv9_rd (hH.get 3 rfl) (hH.get 0 rfl) cE cA.map) ?_
  intro v15 w15 hN15
  replace hH := hH.new 10 hN15
  repeat' (first|refine X.O ?_|refine X.A ?_|refine X.B ?_|refine X.C ?_|refine X.D ?_|refine X.E ?_|refine X.F ?_|refine X.G ?_|refine X.H ?_|refine X.I ?_|fail)
  refine WL.call (conv9_rd (hH.get 10 rfl) (hH.get 1 rfl) cA.conv mB) ?_
  intro v16 w16 hN16
  replace hH := hH.new 11 hN16
  repeat' (first|refine X.O ?_|refine X.A ?_|refine X.B ?_|refine X.C ?_|refine X.D ?_|refine X.E ?_|refine X.F ?_|refine X.G ?_|refine X.H ?_|refine X.I ?_|fail)
  refine WL.call (likeInts_rd (hH.get 9 rfl) (hH.get 11 rfl) (conv_assoc cE cA mB)) ?_
  rintro _ w17 ⟨rfl, hs17⟩
  replace hH := hH.still hs17
  repeat' (first|refine X.O ?_|refine X.A ?_|refine X.B ?_|refine X.C ?_|refine X.D ?_|refine X.E ?_|refine X.F ?_|refine X.G ?_|refine X.H ?_|refine X.I ?_|fail)
  refine WL.call (conv9_rd (hH.get 4 rfl) (hH.get 0 rfl) (invL_chr a) cA.map) ?_
  intro v18 w18 hN18
  replace hH := hH.new 12 hN18
  repeat' (first|refine X.O ?_|refine X.A ?_|refine X.B ?_|refine X.C ?_|refine X.D ?_|refine X.E ?_|refine X.F ?_|refine X.G ?_|refine X.H ?_|refine X.I ?_|fail)
  refine WL.call (likeInts_rd (hH.get 12 rfl) (hH.get 5 rfl) (inv_L cA)) ?_
  rintro _ w19 ⟨rfl, hs19⟩
  replace hH := hH.still hs19
  repeat' (first|refine X.O ?_|refine X.A ?_|refine X.B ?_|refine X.C ?_|refine X.D ?_|refine X.E ?_|refine X.F ?_|refine X.G ?_|refine X.H ?_|refine X.I ?_|fail)
  refine WL.call (conv9_rd (hH.get 0 rfl) (hH.get 4 rfl) cA (invL_chr a).map) ?_
  intro v20 w20 hN20
  replace hH := hH.new 13 hN20
  repeat' (first|refine X.O ?_|refine X.A ?_|refine X.B ?_|refine X.C ?_|refine X.D ?_|refine X.E ?_|refine X.F ?_|refine X.G ?_|refine X.H ?_|refine X.I ?_|fail)
  refine WL.call (likeInts_rd (hH.get 13 rfl) (hH.get 5 rfl) (inv_right cA)) ?_
  rintro _ w21 ⟨rfl, hs21⟩
  replace hH := hH.still hs21
  repeat' (first|refine X.O ?_|refine X.A ?_|refine X.B ?_|refine X.C ?_|refine X.D ?_|refine X.E ?_|refine X.F ?_|refine X.G ?_|refine X.H ?_|refine X.I ?_|fail)
  refine WL.call (conv9_rd (hH.get 5 rfl) (hH.get 1 rfl) unit_chr mB) ?_
  intro v22 w22 hN22
  replace hH := hH.new 14 hN22
  repeat' (first|refine X.O ?_|refine X.A ?_|refine X.B ?_|refine X.C ?_|refine X.D ?_|refine X.E ?_|refine X.F ?_|refine X.G ?_|refine X.H ?_|refine X.I ?_|fail)
  refine WL.call (likeInts_rd (hH.get 14 rfl) (hH.get 1 rfl) (conv_unitL mB)) ?_
  rintro _ w23 ⟨rfl, hs23⟩
  replace hH := hH.still hs23
  repeat' (first|refine X.O ?_|refine X.A ?_|refine X.B ?_|refine X.C ?_|refine X.D ?_|refine X.E ?_|refine X.F ?_|refine X.G ?_|refine X.H ?_|refine X.I ?_|fail)
  refine WL.call (conv9_rd (hH.get 0 rfl) (hH.get 5 rfl) cA unit_chr.map) ?_
  intro v24 w24 hN24
  replace hH := hH.new 15 hN24
  repeat' (first|refine X.O ?_|refine X.A ?_|refine X.B ?_|refine X.C ?_|refine X.D ?_|refine X.E ?_|refine X.F ?_|refine X.G ?_|refine X.H ?_|refine X.I ?_|fail)
  refine WL.call (likeInts_rd (hH.get 15 rfl) (hH.get 0 rfl) (conv_unitR cA)) ?_
  rintro _ w25 ⟨rfl, hs25⟩
  replace hH := hH.still hs25
  repeat' (first|refine X.O ?_|refine X.A ?_|refine X.B ?_|refine X.C ?_|refine X.D ?_|refine X.E ?_|refine X.F ?_|refine X.G ?_|refine X.H ?_|refine X.I ?_|fail)
  refine WL.call (conv9_rd (hH.get 4 rfl) (hH.get 2 rfl) (invL_chr a) cX) ?_
  intro v26 w26 hN26
  replace hH := hH.new 16 hN26
  repeat' (first|refine X.O ?_|refine X.A ?_|refine X.B ?_|refine X.C ?_|refine X.D ?_|refine X.E ?_|refine X.F ?_|refine X.G ?_|refine X.H ?_|refine X.I ?_|fail)
  refine WL.call (likeInts_rd (hH.get 16 rfl) (hH.get 1 rfl) (conv_back cA mB)) ?_
  rintro _ w27 ⟨rfl, hs27⟩
  replace hH := hH.still hs27
  repeat' (first|refine X.O ?_|refine X.A ?_|refine X.B ?_|refine X.C ?_|refine X.D ?_|refine X.E ?_|refine X.F ?_|refine X.G ?_|refine X.H ?_|refine X.I ?_|fail)
  refine WL.call (conv9_rd (hH.get 7 rfl) (hH.get 8 rfl) cA.scale (scaleML_map mB)) ?_
  intro v28 w28 hN28
  replace hH := hH.new 17 hN28
  repeat' (first|refine X.O ?_|refine X.A ?_|refine X.B ?_|refine X.C ?_|refine X.D ?_|refine X.E ?_|refine X.F ?_|refine X.G ?_|refine X.H ?_|refine X.I ?_|fail)
  refine WL.call (likeInts_rd (hH.get 17 rfl) (hH.get 6 rfl) (scale_conv cA mB hkn)) ?_
  rintro _ w29 ⟨rfl, hs29⟩
  replace hH := hH.still hs29
  repeat' (first|refine X.O ?_|refine X.A ?_|refine X.B ?_|refine X.C ?_|refine X.D ?_|refine X.E ?_|refine X.F ?_|refine X.G ?_|refine X.H ?_|refine X.I ?_|fail)
  refine WL.call (IsCharacter_rd (hH.get 4 rfl) (invL_chr a)) ?_
  rintro _ w30 ⟨rfl, hs30⟩
  replace hH := hH.still hs30
  repeat' (first|refine X.O ?_|refine X.A ?_|refine X.B ?_|refine X.C ?_|refine X.D ?_|refine X.E ?_|refine X.F ?_|refine X.G ?_|refine X.H ?_|refine X.I ?_|fail)
  refine ⟨_, ret1 rfl (by rfl), ?_⟩
  exact ⟨rfl, hH.bel⟩
end Go.Proofs
