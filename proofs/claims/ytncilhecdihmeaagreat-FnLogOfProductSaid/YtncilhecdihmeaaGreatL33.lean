/- The law of logarithms of products, walked. -/
import Derived.Test.YtncilhecdihmeaaGreatM3
import Derived.Test.YtncilhecdihmeaaGreatM2
import Derived.Test.YtncilhecdihmeaaGreatG19
import Derived.Test.YtncilhecdihmeaaGreatG29
import Derived.Test.YtncilhecdihmeaaGreatF9
import Derived.Test.YtncilhecdihmeaaGreatD8
set_option maxRecDepth 8000
namespace Go.Rk
open Go.Fw Go.Proofs
theorem expOk {b : List Int} (hb : Inf b) : expMap b = (expL b, 0) := by unfold expMap; rw [if_pos (hb.two hb)]
theorem expChr (b : List Int) : Chr (expL b) := ⟨expL_map b, expL_first b⟩
theorem product_ok {b c : List Int} (hb : Inf b) (hc : Inf c) : logOfProduct b c = (logL (convR modR cutLit (expL b) (expL c)), 0) := by unfold logOfProduct; rw [if_pos (hb.two hc)]
theorem agree_ok {a b : List Int} (ha : isMap a = true) (hb : isMap b = true) : agreeTo a b = (agreeL a b, 0) := by unfold agreeTo; rw [if_pos ⟨ha, hb⟩]
end Go.Rk
namespace Go.Proofs
open Go Go.Fw Go.RowKit Go.Rk
theorem NumberOf_any (p q : Int) (hp : -1000 ≤ p ∧ p ≤ 1000) (hq : 1 ≤ q ∧ q ≤ 1000) (w : World) : Does Tryz.prog 71 [.int .i64 p, .int .i64 q] w fun r w' => r = .tuple #[.int .i64 (nm (nm p * powN (nm q) 10005)), .int .i64 0] ∧ Still w w' := by
  refine Does.enter Tryz.func71 Tryz.ntmps71 rfl (by rfl) ?_
  repeat' (first|refine X.O ?_|refine X.A ?_|refine X.B ?_|refine X.C ?_|refine X.D ?_|refine X.E ?_|refine X.F ?_|refine X.G ?_|refine X.H ?_|refine X.I ?_|fail)
  refine WL.call (inRange_any _ _ _ _) ?_
  rintro _ w1 ⟨rfl, hs1⟩
  rw [decide_eq_true (by omega)]
  repeat' (first|refine X.O ?_|refine X.A ?_|refine X.B ?_|refine X.C ?_|refine X.D ?_|refine X.E ?_|refine X.F ?_|refine X.G ?_|refine X.H ?_|refine X.I ?_|fail)
  refine WL.call (inRange_any _ _ _ _) ?_
  rintro _ w2 ⟨rfl, hs2⟩
  rw [decide_eq_true (by omega)]
  have hs12 := hs1.trans hs2
  repeat' (first|refine X.O ?_|refine X.A ?_|refine X.B ?_|refine X.C ?_|refine X.D ?_|refine X.E ?_|refine X.F ?_|refine X.G ?_|refine X.H ?_|refine X.I ?_|fail)
  refine WL.step (o_rem (by rfl) (by rfl) (by omega) ?_)
  have ht : q.tmod 10007 = q := by rw [Int.tmod_eq_emod_of_nonneg (by omega)]; omega
  rw [ht]
  repeat' (first|refine X.O ?_|refine X.A ?_|refine X.B ?_|refine X.C ?_|refine X.D ?_|refine X.E ?_|refine X.F ?_|refine X.G ?_|refine X.H ?_|refine X.I ?_|fail)
  refine WP.condD (by rfl) (fun (hbad : q = 0) => False.elim (by omega)) (fun _ => ?_)
  repeat' (first|refine X.O ?_|refine X.A ?_|refine X.B ?_|refine X.C ?_|refine X.D ?_|refine X.E ?_|refine X.F ?_|refine X.G ?_|refine X.H ?_|refine X.I ?_|fail)
  refine WL.call (num_any _ _) ?_
  rintro _ _ ⟨rfl, rfl⟩
  repeat' (first|refine X.O ?_|refine X.A ?_|refine X.B ?_|refine X.C ?_|refine X.D ?_|refine X.E ?_|refine X.F ?_|refine X.G ?_|refine X.H ?_|refine X.I ?_|fail)
  refine WL.call (num_any _ _) ?_
  rintro _ _ ⟨rfl, rfl⟩
  have hnq := nm_bd q
  have hnp := nm_bd p
  repeat' (first|refine X.O ?_|refine X.A ?_|refine X.B ?_|refine X.C ?_|refine X.D ?_|refine X.E ?_|refine X.F ?_|refine X.G ?_|refine X.H ?_|refine X.I ?_|fail)
  refine WL.call (inv_any _ hnq.1 hnq.2 _) ?_
  rintro _ w3 ⟨rfl, hs3⟩
  have hpb := powN_bd (nm q) 10005
  repeat' (first|refine X.O ?_|refine X.A ?_|refine X.B ?_|refine X.C ?_|refine X.D ?_|refine X.E ?_|refine X.F ?_|refine X.G ?_|refine X.H ?_|refine X.I ?_|fail)
  refine WL.step (o_mul (by rfl) (by rfl) (mul_in hnp.1 hnp.2 hpb.1 hpb.2) ?_)
  refine WL.call (num_any _ _) ?_
  rintro _ _ ⟨rfl, rfl⟩
  repeat' (first|refine X.O ?_|refine X.A ?_|refine X.B ?_|refine X.C ?_|refine X.D ?_|refine X.E ?_|refine X.F ?_|refine X.G ?_|refine X.H ?_|refine X.I ?_|fail)
  refine ⟨_, ret2 rfl (by rfl) (by rfl), ?_⟩
  exact ⟨rfl, hs12.trans hs3⟩
theorem expMap_rd {w : World} {vb : Value} {b : List Int} (hB : RD w vb b) (hb : Inf b) : Does Tryz.prog 36 [vb] w fun r w' => ∃ v, r = .tuple #[v, .int .i64 0] ∧ NewI w v w' (expL b) := by
  obtain ⟨_, _, hB⟩ := hB
  have := ExpMap_any hB
  rwa [expOk hb] at this
theorem agreeTo_rd {w : World} {va vb : Value} {a b : List Int} (hA : RD w va a) (hB : RD w vb b) (ha : isMap a = true) (hb : isMap b = true) : Does Tryz.prog 23 [va, vb] w fun r w' => r = .tuple #[.int .i64 (agreeL a b), .int .i64 0] ∧ Chg 0 0 w w' := by
  obtain ⟨_, _, hA⟩ := hA; obtain ⟨_, _, hB⟩ := hB
  have := AgreeTo_any hA hB
  rwa [agree_ok ha hb] at this
set_option maxHeartbeats 4000000 in
theorem FnLogOfProduct_any {w : World} {lo hi : Nat} {v : Value} {bs : List Int} (h : IU lo hi w v bs) : Does Tryz.prog 16 [v] w fun r w' => r = .bool true ∧ Below w.heap.size w w' := by
  have hhl := h.hi_le
  refine Does.enter Tryz.func16 Tryz.ntmps16 rfl (by rfl) ?_
  repeat' (first|refine X.O ?_|refine X.A ?_|refine X.B ?_|refine X.C ?_|refine X.D ?_|refine X.E ?_|refine X.F ?_|refine X.G ?_|refine X.H ?_|refine X.I ?_|fail)
  refine WL.call (big_any h) ?_
  rintro _ w0 ⟨rfl, hs0⟩
  repeat' (first|refine X.O ?_|refine X.A ?_|refine X.B ?_|refine X.C ?_|refine X.D ?_|refine X.E ?_|refine X.F ?_|refine X.G ?_|refine X.H ?_|refine X.I ?_|fail)
  first|refine X.J (fun _ => ?_) (fun _ => ?_)|refine X.L (fun _ => ?_) (fun _ => ?_)|refine X.M (fun _ => ?_) (fun _ => ?_)|refine X.R (fun _ => ?_) (fun _ => ?_)|fail
  · repeat' (first|refine X.O ?_|refine X.A ?_|refine X.B ?_|refine X.C ?_|refine X.D ?_|refine X.E ?_|refine X.F ?_|refine X.G ?_|refine X.H ?_|refine X.I ?_|fail)
    refine ⟨_, ret1 rfl (by rfl), ?_⟩
    exact ⟨rfl, hs0.below _⟩
  rename_i hbig
  repeat' (first|refine X.O ?_|refine X.A ?_|refine X.B ?_|refine X.C ?_|refine X.D ?_|refine X.E ?_|refine X.F ?_|refine X.G ?_|refine X.H ?_|refine X.I ?_|fail)
  refine WL.call (DrawLogOfProduct_any (h.still RU.stable hs0) (by omega)) ?_
  rintro _ w1 ⟨⟨vb, vc, b, c, rfl, hB, hC⟩, hbl1⟩
  have hH : Have w w1 [(0, vb, b), (1, vc, c)] := ⟨(hs0.below _).trans (Below.mono hbl1 (by have := hs0.size; omega)), fun p hp => by
    simp only [List.mem_cons, List.not_mem_nil, or_false] at hp
    rcases hp with rfl | rfl
    · exact ⟨_, _, hB⟩
    · exact ⟨_, _, hC⟩⟩
  repeat' (first|refine X.O ?_|refine X.A ?_|refine X.B ?_|refine X.C ?_|refine X.D ?_|refine X.E ?_|refine X.F ?_|refine X.G ?_|refine X.H ?_|refine X.I ?_|fail)
  refine WL.call (LogOfProduct_any hB hC) ?_
  rintro _ w2 ⟨vx, rfl, hN2⟩
  replace hH := hH.new 2 hN2
  repeat' (first|refine X.O ?_|refine X.A ?_|refine X.B ?_|refine X.C ?_|refine X.D ?_|refine X.E ?_|refine X.F ?_|refine X.G ?_|refine X.H ?_|refine X.I ?_|fail)
  refine WL.call (sLogOfProduct_any (hB.below RI.stable hN2.2 hB.hi_le) (hC.below RI.stable hN2.2 hC.hi_le)) ?_
  rintro _ w3 ⟨vy, rfl, hN3⟩
  have hX2 := hN2.1.toIS (Nat.zero_le _)
  replace hH := hH.next hN3.2
  clear hB hC
  by_cases hc : infTwo b c = 0
  case neg =>
    have e : logOfProduct b c = ([], infTwo b c) := by unfold logOfProduct; rw [if_neg hc]
    rw [e] at hX2 ⊢
    obtain ⟨a2, c2, hv2⟩ := hX2.shape
    subst hv2
    obtain ⟨g, hg⟩ : ∃ g, infTwo b c = g := ⟨_, rfl⟩
    rw [hg] at hc ⊢
    repeat' (first|refine X.O ?_|refine X.A ?_|refine X.B ?_|refine X.C ?_|refine X.D ?_|refine X.E ?_|refine X.F ?_|refine X.G ?_|refine X.H ?_|refine X.I ?_|fail)
    try (refine WP.condD (by rfl) (fun hbad => False.elim (by first | exact hbad rfl | omega)) (fun _ => ?_))
    repeat' (first|refine X.O ?_|refine X.A ?_|refine X.B ?_|refine X.C ?_|refine X.D ?_|refine X.E ?_|refine X.F ?_|refine X.G ?_|refine X.H ?_|refine X.I ?_|fail)
    first|refine X.J (fun _ => ?_) (fun _ => ?_)|refine X.L (fun _ => ?_) (fun _ => ?_)|refine X.M (fun _ => ?_) (fun _ => ?_)|refine X.R (fun _ => ?_) (fun _ => ?_)|fail
    · repeat' (first|refine X.O ?_|refine X.A ?_|refine X.B ?_|refine X.C ?_|refine X.D ?_|refine X.E ?_|refine X.F ?_|refine X.G ?_|refine X.H ?_|refine X.I ?_|fail)
      refine ⟨_, ret1 rfl (by rfl), ?_⟩
      exact ⟨rfl, hH.bel⟩
    · rename_i hz
      exact absurd (by simpa using hz) hc
  obtain ⟨iB, iC⟩ := inf_of hc
  have e := product_ok iB iC
  obtain ⟨hag, hex⟩ := product_begin iB iC
  have hcl : (convR modR cutLit (expL b) (expL c)).length = 38 := convR_len _ _
  obtain ⟨G, hX⟩ : ∃ G, logL (convR modR cutLit (expL b) (expL c)) = G := ⟨_, rfl⟩
  have iX : Inf G := by rw [← hX]; exact ⟨logL_map hcl, logL_first hcl⟩
  rw [hX] at hag hex e
  rw [show (logOfProduct b c).1 = G from by rw [e]] at hH
  rw [show (logOfProduct b c).2 = 0 from by rw [e]]
  clear e hN2 hN3 hX2 hX
  repeat' (first|refine X.O ?_|refine X.A ?_|refine X.B ?_|refine X.C ?_|refine X.D ?_|refine X.E ?_|refine X.F ?_|refine X.G ?_|refine X.H ?_|refine X.I ?_|fail)
  try (refine WP.condD (by rfl) (fun hbad => False.elim (by first | exact hbad rfl | omega)) (fun _ => ?_))
  repeat' (first|refine X.O ?_|refine X.A ?_|refine X.B ?_|refine X.C ?_|refine X.D ?_|refine X.E ?_|refine X.F ?_|refine X.G ?_|refine X.H ?_|refine X.I ?_|fail)
  try (refine WP.condD (by rfl) (fun hbad => False.elim (by first | exact hbad rfl | omega)) (fun _ => ?_))
  repeat' (first|refine X.O ?_|refine X.A ?_|refine X.B ?_|refine X.C ?_|refine X.D ?_|refine X.E ?_|refine X.F ?_|refine X.G ?_|refine X.H ?_|refine X.I ?_|fail)
  refine WL.call (NumberOf_any 1 2 (by omega) (by omega) _) ?_
  rintro _ w4 ⟨rfl, hs4⟩
  replace hH := hH.still hs4
  rw [show nm (nm 1 * powN (nm 2) 10005) = 5004 from by kernel_rfl]
  repeat' (first|refine X.O ?_|refine X.A ?_|refine X.B ?_|refine X.C ?_|refine X.D ?_|refine X.E ?_|refine X.F ?_|refine X.G ?_|refine X.H ?_|refine X.I ?_|fail)
  refine WL.call (NumberOf_any 1 12 (by omega) (by omega) _) ?_
  rintro _ w5 ⟨rfl, hs5⟩
  replace hH := hH.still hs5
  rw [show nm (nm 1 * powN (nm 12) 10005) = 834 from by kernel_rfl]
  repeat' (first|refine X.O ?_|refine X.A ?_|refine X.B ?_|refine X.C ?_|refine X.D ?_|refine X.E ?_|refine X.F ?_|refine X.G ?_|refine X.H ?_|refine X.I ?_|fail)
  refine WL.call (NumberOf_any (-1) 24 (by omega) (by omega) _) ?_
  rintro _ w6 ⟨rfl, hs6⟩
  replace hH := hH.still hs6
  rw [show nm (nm (-1) * powN (nm 24) 10005) = 9590 from by kernel_rfl]
  repeat' (first|refine X.O ?_|refine X.A ?_|refine X.B ?_|refine X.C ?_|refine X.D ?_|refine X.E ?_|refine X.F ?_|refine X.G ?_|refine X.H ?_|refine X.I ?_|fail)
  refine WL.call (bracket9_rd (hH.get 0 rfl) (hH.get 1 rfl) (bracket_ok iB iC)) ?_
  intro v7 w7 hN7
  replace hH := hH.new 3 hN7
  repeat' (first|refine X.O ?_|refine X.A ?_|refine X.B ?_|refine X.C ?_|refine X.D ?_|refine X.E ?_|refine X.F ?_|refine X.G ?_|refine X.H ?_|refine X.I ?_|fail)
  refine WL.call (plus9_rd (hH.get 0 rfl) (hH.get 1 rfl) iB.map iC.map (k' := 1) (by kernel_rfl)) ?_
  intro v8 w8 hN8
  replace hH := hH.new 4 hN8
  repeat' (first|refine X.O ?_|refine X.A ?_|refine X.B ?_|refine X.C ?_|refine X.D ?_|refine X.E ?_|refine X.F ?_|refine X.G ?_|refine X.H ?_|refine X.I ?_|fail)
  have i4 := iB.p9 1 iC
  refine WL.call (plus9_rd (hH.get 4 rfl) (hH.get 3 rfl) i4.map (Inf.br b c).map (k' := 5004) (by kernel_rfl)) ?_
  intro v9 w9 hN9
  replace hH := hH.new 5 hN9
  repeat' (first|refine X.O ?_|refine X.A ?_|refine X.B ?_|refine X.C ?_|refine X.D ?_|refine X.E ?_|refine X.F ?_|refine X.G ?_|refine X.H ?_|refine X.I ?_|fail)
  have i5 := i4.p9 5004 (Inf.br b c)
  refine WL.call (bracket9_rd (hH.get 0 rfl) (hH.get 3 rfl) (bracket_ok iB (Inf.br b c))) ?_
  intro v10 w10 hN10
  replace hH := hH.new 6 hN10
  repeat' (first|refine X.O ?_|refine X.A ?_|refine X.B ?_|refine X.C ?_|refine X.D ?_|refine X.E ?_|refine X.F ?_|refine X.G ?_|refine X.H ?_|refine X.I ?_|fail)
  refine WL.call (plus9_rd (hH.get 5 rfl) (hH.get 6 rfl) i5.map (Inf.br b (bracketL b c)).map (k' := 834) (by kernel_rfl)) ?_
  intro v11 w11 hN11
  replace hH := hH.new 7 hN11
  repeat' (first|refine X.O ?_|refine X.A ?_|refine X.B ?_|refine X.C ?_|refine X.D ?_|refine X.E ?_|refine X.F ?_|refine X.G ?_|refine X.H ?_|refine X.I ?_|fail)
  have i7 := i5.p9 834 (Inf.br b (bracketL b c))
  refine WL.call (bracket9_rd (hH.get 1 rfl) (hH.get 0 rfl) (bracket_ok iC iB)) ?_
  intro v12 w12 hN12
  replace hH := hH.new 8 hN12
  repeat' (first|refine X.O ?_|refine X.A ?_|refine X.B ?_|refine X.C ?_|refine X.D ?_|refine X.E ?_|refine X.F ?_|refine X.G ?_|refine X.H ?_|refine X.I ?_|fail)
  refine WL.call (bracket9_rd (hH.get 1 rfl) (hH.get 8 rfl) (bracket_ok iC (Inf.br c b))) ?_
  intro v13 w13 hN13
  replace hH := hH.new 9 hN13
  repeat' (first|refine X.O ?_|refine X.A ?_|refine X.B ?_|refine X.C ?_|refine X.D ?_|refine X.E ?_|refine X.F ?_|refine X.G ?_|refine X.H ?_|refine X.I ?_|fail)
  refine WL.call (plus9_rd (hH.get 7 rfl) (hH.get 9 rfl) i7.map (Inf.br c (bracketL c b)).map (k' := 834) (by kernel_rfl)) ?_
  intro v14 w14 hN14
  replace hH := hH.new 10 hN14
  repeat' (first|refine X.O ?_|refine X.A ?_|refine X.B ?_|refine X.C ?_|refine X.D ?_|refine X.E ?_|refine X.F ?_|refine X.G ?_|refine X.H ?_|refine X.I ?_|fail)
  have i10 := i7.p9 834 (Inf.br c (bracketL c b))
  refine WL.call (bracket9_rd (hH.get 0 rfl) (hH.get 3 rfl) (bracket_ok iB (Inf.br b c))) ?_
  intro v15 w15 hN15
  replace hH := hH.new 11 hN15
  repeat' (first|refine X.O ?_|refine X.A ?_|refine X.B ?_|refine X.C ?_|refine X.D ?_|refine X.E ?_|refine X.F ?_|refine X.G ?_|refine X.H ?_|refine X.I ?_|fail)
  refine WL.call (bracket9_rd (hH.get 1 rfl) (hH.get 11 rfl) (bracket_ok iC (Inf.br b (bracketL b c)))) ?_
  intro v16 w16 hN16
  replace hH := hH.new 12 hN16
  repeat' (first|refine X.O ?_|refine X.A ?_|refine X.B ?_|refine X.C ?_|refine X.D ?_|refine X.E ?_|refine X.F ?_|refine X.G ?_|refine X.H ?_|refine X.I ?_|fail)
  refine WL.call (plus9_rd (hH.get 10 rfl) (hH.get 12 rfl) i10.map (Inf.br c (bracketL b (bracketL b c))).map (k' := 9590) (by kernel_rfl)) ?_
  intro v17 w17 hN17
  replace hH := hH.new 13 hN17
  repeat' (first|refine X.O ?_|refine X.A ?_|refine X.B ?_|refine X.C ?_|refine X.D ?_|refine X.E ?_|refine X.F ?_|refine X.G ?_|refine X.H ?_|refine X.I ?_|fail)
  have iS := sumL_inf iB iC
  obtain ⟨S, hS⟩ : ∃ S, sumL b c = S := ⟨_, rfl⟩
  rw [show plusL (plusL (plusL (plusL (plusL b (scaledL c 1) 1) (scaledL (bracketL b c) 5004) 1) (scaledL (bracketL b (bracketL b c)) 834) 1) (scaledL (bracketL c (bracketL c b)) 834) 1) (scaledL (bracketL c (bracketL b (bracketL b c))) 9590) 1 = S from hS] at hH
  rw [hS] at iS hag
  refine WL.call (agreeTo_rd (hH.get 2 rfl) (hH.get 13 rfl) iX.map iS.map) ?_
  rintro _ w18 ⟨rfl, hc18⟩
  replace hH := hH.chg hc18
  obtain ⟨g, hg⟩ : ∃ g, agreeL G S = g := ⟨_, rfl⟩
  rw [hg] at hag ⊢
  repeat' (first|refine X.O ?_|refine X.A ?_|refine X.B ?_|refine X.C ?_|refine X.D ?_|refine X.E ?_|refine X.F ?_|refine X.G ?_|refine X.H ?_|refine X.I ?_|fail)
  refine WL.call (expMap_rd (hH.get 0 rfl) iB) ?_
  rintro _ w19 ⟨v19, rfl, hN19⟩
  replace hH := hH.new 14 hN19
  repeat' (first|refine X.O ?_|refine X.A ?_|refine X.B ?_|refine X.C ?_|refine X.D ?_|refine X.E ?_|refine X.F ?_|refine X.G ?_|refine X.H ?_|refine X.I ?_|fail)
  refine WL.call (expMap_rd (hH.get 1 rfl) iC) ?_
  rintro _ w20 ⟨v20, rfl, hN20⟩
  replace hH := hH.new 15 hN20
  repeat' (first|refine X.O ?_|refine X.A ?_|refine X.B ?_|refine X.C ?_|refine X.D ?_|refine X.E ?_|refine X.F ?_|refine X.G ?_|refine X.H ?_|refine X.I ?_|fail)
  refine WL.call (expMap_rd (hH.get 2 rfl) iX) ?_
  rintro _ w21 ⟨v21, rfl, hN21⟩
  replace hH := hH.new 16 hN21
  repeat' (first|refine X.O ?_|refine X.A ?_|refine X.B ?_|refine X.C ?_|refine X.D ?_|refine X.E ?_|refine X.F ?_|refine X.G ?_|refine X.H ?_|refine X.I ?_|fail)
  rw [decide_eq_true (show g ≥ 4 from hag)]
  repeat' (first|refine X.O ?_|refine X.A ?_|refine X.B ?_|refine X.C ?_|refine X.D ?_|refine X.E ?_|refine X.F ?_|refine X.G ?_|refine X.H ?_|refine X.I ?_|fail)
  refine WL.call (conv9_rd (hH.get 14 rfl) (hH.get 15 rfl) (expChr b) (expChr c).map) ?_
  intro v22 w22 hN22
  replace hH := hH.new 17 hN22
  repeat' (first|refine X.O ?_|refine X.A ?_|refine X.B ?_|refine X.C ?_|refine X.D ?_|refine X.E ?_|refine X.F ?_|refine X.G ?_|refine X.H ?_|refine X.I ?_|fail)
  refine WL.call (likeInts_rd (hH.get 17 rfl) (hH.get 16 rfl) hex) ?_
  rintro _ w23 ⟨rfl, hs23⟩
  replace hH := hH.still hs23
  repeat' (first|refine X.O ?_|refine X.A ?_|refine X.B ?_|refine X.C ?_|refine X.D ?_|refine X.E ?_|refine X.F ?_|refine X.G ?_|refine X.H ?_|refine X.I ?_|fail)
  refine ⟨_, ret1 rfl (by rfl), ?_⟩
  exact ⟨rfl, hH.bel⟩
end Go.Proofs
