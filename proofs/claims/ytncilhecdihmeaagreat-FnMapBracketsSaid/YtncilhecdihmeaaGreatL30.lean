/- The law of brackets and actions of maps, walked. -/
import Derived.Test.YtncilhecdihmeaaGreatM3
import Derived.Test.YtncilhecdihmeaaGreatD8
set_option maxRecDepth 8000
namespace Go.Proofs
open Go Go.Fw Go.RowKit Go.Rk
set_option maxHeartbeats 4000000 in
theorem FnMapBrackets_any {w : World} {lo hi : Nat} {v : Value} {bs : List Int} (h : IU lo hi w v bs) : Does Tryz.prog 14 [v] w fun r w' => r = .bool true ∧ Below w.heap.size w w' := by
  have hhl := h.hi_le
  refine Does.enter Tryz.func14 Tryz.ntmps14 rfl (by rfl) ?_
  repeat' (first|refine X.O ?_|refine X.A ?_|refine X.B ?_|refine X.C ?_|refine X.D ?_|refine X.E ?_|refine X.F ?_|refine X.G ?_|refine X.H ?_|refine X.I ?_|fail)
  refine WL.call (big_any h) ?_
  rintro _ w0 ⟨rfl, hs0⟩
  repeat' (first|refine X.O ?_|refine X.A ?_|refine X.B ?_|refine X.C ?_|refine X.D ?_|refine X.E ?_|refine X.F ?_|refine X.G ?_|refine X.H ?_|refine X.I ?_|fail)
  first|refine X.J (fun _ => ?_) (fun _ => ?_)|refine X.L (fun _ => ?_) (fun _ => ?_)|refine X.M (fun _ => ?_) (fun _ => ?_)|refine X.R (fun _ => ?_) (fun _ => ?_)|fail
  · repeat' (first|refine X.O ?_|refine X.A ?_|refine X.B ?_|refine X.C ?_|refine X.D ?_|refine X.E ?_|refine X.F ?_|refine X.G ?_|refine X.H ?_|refine X.I ?_|fail)
    refine ⟨_, ret1 rfl (by rfl), ?_⟩
    exact ⟨rfl, hs0.below _⟩
  rename_i hbig
  repeat' (first|refine X.O ?_|refine X.A ?_|refine X.B ?_|refine X.C ?_|refine X.D ?_|refine X.E ?_|refine X.F ?_|refine X.G ?_|refine X.H ?_|refine X.I ?_|fail)
  refine WL.call (DrawBracketOf_any (h.still RU.stable hs0) (by omega)) ?_
  rintro _ w1 ⟨⟨vb, vc, b, c, rfl, hB, hC⟩, hbl1⟩
  have hH : Have w w1 [(0, vb, b), (1, vc, c)] := ⟨(hs0.below _).trans (Below.mono hbl1 (by have := hs0.size; omega)), fun p hp => by
    simp only [List.mem_cons, List.not_mem_nil, or_false] at hp
    rcases hp with rfl | rfl
    · exact ⟨_, _, hB⟩
    · exact ⟨_, _, hC⟩⟩
  repeat' (first|refine X.O ?_|refine X.A ?_|refine X.B ?_|refine X.C ?_|refine X.D ?_|refine X.E ?_|refine X.F ?_|refine X.G ?_|refine X.H ?_|refine X.I ?_|fail)
  refine WL.call (BracketOf_any hB hC) ?_
  rintro _ w2 ⟨vx, rfl, hN2⟩
  replace hH := hH.new 2 hN2
  repeat' (first|refine X.O ?_|refine X.A ?_|refine X.B ?_|refine X.C ?_|refine X.D ?_|refine X.E ?_|refine X.F ?_|refine X.G ?_|refine X.H ?_|refine X.I ?_|fail)
  refine WL.call (sBracketOf_any (hB.below RI.stable hN2.2 hB.hi_le) (hC.below RI.stable hN2.2 hC.hi_le)) ?_
  rintro _ w3 ⟨vy, rfl, hN3⟩
  have hX2 := hN2.1.toIS (Nat.zero_le _)
  replace hH := hH.next hN3.2
  clear hB hC
  by_cases hc : infTwo b c = 0
  case neg =>
    have e : bracketOf b c = ([], infTwo b c) := by unfold bracketOf; rw [if_neg hc]
    rw [e] at hX2 ⊢
    obtain ⟨a2, c2, hv2⟩ := hX2.shape
    subst hv2
    obtain ⟨g, hg⟩ : ∃ g, infTwo b c = g := ⟨_, rfl⟩
    rw [hg] at hc ⊢
    repeat' (first|refine X.O ?_|refine X.A ?_|refine X.B ?_|refine X.C ?_|refine X.D ?_|refine X.E ?_|refine X.F ?_|refine X.G ?_|refine X.H ?_|refine X.I ?_|fail)
    try (refine WP.condD (by rfl) (fun hbad => False.elim (by first | exact hbad rfl | omega)) (fun _ => ?_))
    repeat' (first|refine X.O ?_|refine X.A ?_|refine X.B ?_|refine X.C ?_|refine X.D ?_|refine X.E ?_|refine X.F ?_|refine X.G ?_|refine X.H ?_|refine X.I ?_|fail)
    first|refine X.J (fun _ => ?_) (fun _ => ?_)|refine X.L (fun _ => ?_) (fun _ => ?_)|refine X.M (fun _ => ?_) (fun _ => ?_)|refine X.R (fun _ => ?_) (fun _ => ?_)|fail
    · repeat' (first|refine X.O ?_|refine X.A ?_|refine X.B ?_|refine X.C ?_|refine X.D ?_|refine X.E ?_|refine X.F ?_|refine X.G ?_|refine X.H ?_|refine X.I ?_|fail)
      refine ⟨_, ret1 rfl (by rfl), ?_⟩
      exact ⟨rfl, hH.bel⟩
    · rename_i hz
      exact absurd (by simpa using hz) hc
  obtain ⟨iB, iC⟩ := inf_of hc
  have e := bracket_ok iB iC
  rw [e] at hH hX2 ⊢
  clear e hN2 hN3 hX2
  repeat' (first|refine X.O ?_|refine X.A ?_|refine X.B ?_|refine X.C ?_|refine X.D ?_|refine X.E ?_|refine X.F ?_|refine X.G ?_|refine X.H ?_|refine X.I ?_|fail)
  try (refine WP.condD (by rfl) (fun hbad => False.elim (by first | exact hbad rfl | omega)) (fun _ => ?_))
  repeat' (first|refine X.O ?_|refine X.A ?_|refine X.B ?_|refine X.C ?_|refine X.D ?_|refine X.E ?_|refine X.F ?_|refine X.G ?_|refine X.H ?_|refine X.I ?_|fail)
  try (refine WP.condD (by rfl) (fun hbad => False.elim (by first | exact hbad rfl | omega)) (fun _ => ?_))
  repeat' (first|refine X.O ?_|refine X.A ?_|refine X.B ?_|refine X.C ?_|refine X.D ?_|refine X.E ?_|refine X.F ?_|refine X.G ?_|refine X.H ?_|refine X.I ?_|fail)
  refine WL.call (roll_any (h.below RU.stable hH.bel hhl) (by omega) 1082 (by omega) (by omega)) ?_
  rintro _ w4 ⟨rfl, hdi, hc4⟩
  replace hH := hH.roll hdi hc4
  repeat' (first|refine X.O ?_|refine X.A ?_|refine X.B ?_|refine X.C ?_|refine X.D ?_|refine X.E ?_|refine X.F ?_|refine X.G ?_|refine X.H ?_|refine X.I ?_|fail)
  refine WL.call (map9_any hH.dice 0 (by kernel_rfl)) ?_
  rintro ve w5 ⟨⟨e, hE, hem, he0⟩, hro⟩
  have iE : Inf e := ⟨hem, he0⟩
  replace hH := (hH.map9 hro 3 hE).have
  repeat' (first|refine X.O ?_|refine X.A ?_|refine X.B ?_|refine X.C ?_|refine X.D ?_|refine X.E ?_|refine X.F ?_|refine X.G ?_|refine X.H ?_|refine X.I ?_|fail)
  refine WL.step (o_make (n := 38) (by rfl) (by rfl) (by omega) (by unfold maxLen; omega) ?_)
  intro vz w6 hown6 hbl6 hz6
  have hown6' : Own w5.heap.size 2 w6 vz (Ints zerosM) := by
    have e : Ints zerosM = List.replicate 38 (.int .i64 0) := by unfold zerosM Ints; rw [List.map_replicate]
    rw [e]; exact hown6
  replace hH := hH.new 4 (show NewI w5 vz w6 zerosM from ⟨hown6', hbl6⟩)
  repeat' (first|refine X.O ?_|refine X.A ?_|refine X.B ?_|refine X.C ?_|refine X.D ?_|refine X.E ?_|refine X.F ?_|refine X.G ?_|refine X.H ?_|refine X.I ?_|fail)
  refine WL.call (whole9_rd (hH.get 2 rfl) (bracketL_38 b c)) ?_
  rintro _ _ ⟨rfl, rfl⟩
  repeat' (first|refine X.O ?_|refine X.A ?_|refine X.B ?_|refine X.C ?_|refine X.D ?_|refine X.E ?_|refine X.F ?_|refine X.G ?_|refine X.H ?_|refine X.I ?_|fail)
  refine WL.call (bracket9_rd (hH.get 1 rfl) (hH.get 0 rfl) (bracket_ok iC iB)) ?_
  intro v7 w7 hN7
  replace hH := hH.new 5 hN7
  refine WL.call (plus9_rd (hH.get 2 rfl) (hH.get 5 rfl) (bracketL_map b c) (bracketL_map c b) (k' := 1) (by kernel_rfl)) ?_
  intro v8 w8 hN8
  replace hH := hH.new 6 hN8
  repeat' (first|refine X.O ?_|refine X.A ?_|refine X.B ?_|refine X.C ?_|refine X.D ?_|refine X.E ?_|refine X.F ?_|refine X.G ?_|refine X.H ?_|refine X.I ?_|fail)
  refine WL.call (likeInts_rd (hH.get 6 rfl) (hH.get 4 rfl) (anti iB.map iB.first iC.map iC.first)) ?_
  rintro _ w9 ⟨rfl, hs9⟩
  replace hH := hH.still hs9
  repeat' (first|refine X.O ?_|refine X.A ?_|refine X.B ?_|refine X.C ?_|refine X.D ?_|refine X.E ?_|refine X.F ?_|refine X.G ?_|refine X.H ?_|refine X.I ?_|fail)
  try (refine WP.condD (by rfl) (fun hbad => False.elim (by first | exact hbad rfl | omega)) (fun _ => ?_))
  repeat' (first|refine X.O ?_|refine X.A ?_|refine X.B ?_|refine X.C ?_|refine X.D ?_|refine X.E ?_|refine X.F ?_|refine X.G ?_|refine X.H ?_|refine X.I ?_|fail)
  refine WL.call (bracket9_rd (hH.get 1 rfl) (hH.get 3 rfl) (bracket_ok iC iE)) ?_
  intro v10 w10 hN10
  replace hH := hH.new 7 hN10
  repeat' (first|refine X.O ?_|refine X.A ?_|refine X.B ?_|refine X.C ?_|refine X.D ?_|refine X.E ?_|refine X.F ?_|refine X.G ?_|refine X.H ?_|refine X.I ?_|fail)
  refine WL.call (bracket9_rd (hH.get 0 rfl) (hH.get 7 rfl) (bracket_ok iB (Inf.br c e))) ?_
  intro v11 w11 hN11
  replace hH := hH.new 8 hN11
  repeat' (first|refine X.O ?_|refine X.A ?_|refine X.B ?_|refine X.C ?_|refine X.D ?_|refine X.E ?_|refine X.F ?_|refine X.G ?_|refine X.H ?_|refine X.I ?_|fail)
  refine WL.call (bracket9_rd (hH.get 3 rfl) (hH.get 0 rfl) (bracket_ok iE iB)) ?_
  intro v12 w12 hN12
  replace hH := hH.new 9 hN12
  repeat' (first|refine X.O ?_|refine X.A ?_|refine X.B ?_|refine X.C ?_|refine X.D ?_|refine X.E ?_|refine X.F ?_|refine X.G ?_|refine X.H ?_|refine X.I ?_|fail)
  refine WL.call (bracket9_rd (hH.get 1 rfl) (hH.get 9 rfl) (bracket_ok iC (Inf.br e b))) ?_
  intro v13 w13 hN13
  replace hH := hH.new 10 hN13
  repeat' (first|refine X.O ?_|refine X.A ?_|refine X.B ?_|refine X.C ?_|refine X.D ?_|refine X.E ?_|refine X.F ?_|refine X.G ?_|refine X.H ?_|refine X.I ?_|fail)
  refine WL.call (bracket9_rd (hH.get 0 rfl) (hH.get 1 rfl) (bracket_ok iB iC)) ?_
  intro v14 w14 hN14
  replace hH := hH.new 11 hN14
  repeat' (first|refine X.O ?_|refine X.A ?_|refine X.B ?_|refine X.C ?_|refine X.D ?_|refine X.E ?_|refine X.F ?_|refine X.G ?_|refine X.H ?_|refine X.I ?_|fail)
  refine WL.call (bracket9_rd (hH.get 3 rfl) (hH.get 11 rfl) (bracket_ok iE (Inf.br b c))) ?_
  intro v15 w15 hN15
  replace hH := hH.new 12 hN15
  repeat' (first|refine X.O ?_|refine X.A ?_|refine X.B ?_|refine X.C ?_|refine X.D ?_|refine X.E ?_|refine X.F ?_|refine X.G ?_|refine X.H ?_|refine X.I ?_|fail)
  refine WL.call (whole9_rd (hH.get 8 rfl) (bracketL_38 _ _)) ?_
  rintro _ _ ⟨rfl, rfl⟩
  repeat' (first|refine X.O ?_|refine X.A ?_|refine X.B ?_|refine X.C ?_|refine X.D ?_|refine X.E ?_|refine X.F ?_|refine X.G ?_|refine X.H ?_|refine X.I ?_|fail)
  refine WL.call (whole9_rd (hH.get 10 rfl) (bracketL_38 _ _)) ?_
  rintro _ _ ⟨rfl, rfl⟩
  repeat' (first|refine X.O ?_|refine X.A ?_|refine X.B ?_|refine X.C ?_|refine X.D ?_|refine X.E ?_|refine X.F ?_|refine X.G ?_|refine X.H ?_|refine X.I ?_|fail)
  refine WL.call (whole9_rd (hH.get 12 rfl) (bracketL_38 _ _)) ?_
  rintro _ _ ⟨rfl, rfl⟩
  repeat' (first|refine X.O ?_|refine X.A ?_|refine X.B ?_|refine X.C ?_|refine X.D ?_|refine X.E ?_|refine X.F ?_|refine X.G ?_|refine X.H ?_|refine X.I ?_|fail)
  refine WL.call (plus9_rd (hH.get 8 rfl) (hH.get 10 rfl) (bracketL_map _ _) (bracketL_map _ _) (k' := 1) (by kernel_rfl)) ?_
  intro v16 w16 hN16
  replace hH := hH.new 13 hN16
  repeat' (first|refine X.O ?_|refine X.A ?_|refine X.B ?_|refine X.C ?_|refine X.D ?_|refine X.E ?_|refine X.F ?_|refine X.G ?_|refine X.H ?_|refine X.I ?_|fail)
  refine WL.call (plus9_rd (hH.get 13 rfl) (hH.get 12 rfl) (plusL_map (bracketL_38 _ _) (scaledL_length' (bracketL_38 _ _))) (bracketL_map _ _) (k' := 1) (by kernel_rfl)) ?_
  intro v17 w17 hN17
  replace hH := hH.new 14 hN17
  repeat' (first|refine X.O ?_|refine X.A ?_|refine X.B ?_|refine X.C ?_|refine X.D ?_|refine X.E ?_|refine X.F ?_|refine X.G ?_|refine X.H ?_|refine X.I ?_|fail)
  refine WL.call (likeInts_rd (hH.get 14 rfl) (hH.get 4 rfl) (jacobi iB.map iB.first iC.map iC.first iE.map iE.first)) ?_
  rintro _ w18 ⟨rfl, hs18⟩
  replace hH := hH.still hs18
  repeat' (first|refine X.O ?_|refine X.A ?_|refine X.B ?_|refine X.C ?_|refine X.D ?_|refine X.E ?_|refine X.F ?_|refine X.G ?_|refine X.H ?_|refine X.I ?_|fail)
  try (refine WP.condD (by rfl) (fun hbad => False.elim (by first | exact hbad rfl | omega)) (fun _ => ?_))
  repeat' (first|refine X.O ?_|refine X.A ?_|refine X.B ?_|refine X.C ?_|refine X.D ?_|refine X.E ?_|refine X.F ?_|refine X.G ?_|refine X.H ?_|refine X.I ?_|fail)
  refine WL.call (act9_rd (hH.get 1 rfl) (hH.get 3 rfl) (act_ok iC iE.map)) ?_
  intro v19 w19 hN19
  replace hH := hH.new 15 hN19
  repeat' (first|refine X.O ?_|refine X.A ?_|refine X.B ?_|refine X.C ?_|refine X.D ?_|refine X.E ?_|refine X.F ?_|refine X.G ?_|refine X.H ?_|refine X.I ?_|fail)
  refine WL.call (act9_rd (hH.get 0 rfl) (hH.get 15 rfl) (act_ok iB (Inf.act c e).map)) ?_
  intro v20 w20 hN20
  replace hH := hH.new 16 hN20
  repeat' (first|refine X.O ?_|refine X.A ?_|refine X.B ?_|refine X.C ?_|refine X.D ?_|refine X.E ?_|refine X.F ?_|refine X.G ?_|refine X.H ?_|refine X.I ?_|fail)
  refine WL.call (act9_rd (hH.get 0 rfl) (hH.get 1 rfl) (act_ok iB iC.map)) ?_
  intro v21 w21 hN21
  replace hH := hH.new 17 hN21
  repeat' (first|refine X.O ?_|refine X.A ?_|refine X.B ?_|refine X.C ?_|refine X.D ?_|refine X.E ?_|refine X.F ?_|refine X.G ?_|refine X.H ?_|refine X.I ?_|fail)
  refine WL.call (act9_rd (hH.get 17 rfl) (hH.get 3 rfl) (act_ok (Inf.act b c) iE.map)) ?_
  intro v22 w22 hN22
  replace hH := hH.new 18 hN22
  repeat' (first|refine X.O ?_|refine X.A ?_|refine X.B ?_|refine X.C ?_|refine X.D ?_|refine X.E ?_|refine X.F ?_|refine X.G ?_|refine X.H ?_|refine X.I ?_|fail)
  refine WL.call (plus9_rd (hH.get 16 rfl) (hH.get 18 rfl) (Inf.act _ _).map (Inf.act _ _).map (k' := 10006) (by kernel_rfl)) ?_
  intro v23 w23 hN23
  replace hH := hH.new 19 hN23
  repeat' (first|refine X.O ?_|refine X.A ?_|refine X.B ?_|refine X.C ?_|refine X.D ?_|refine X.E ?_|refine X.F ?_|refine X.G ?_|refine X.H ?_|refine X.I ?_|fail)
  refine WL.call (act9_rd (hH.get 0 rfl) (hH.get 3 rfl) (act_ok iB iE.map)) ?_
  intro v24 w24 hN24
  replace hH := hH.new 20 hN24
  repeat' (first|refine X.O ?_|refine X.A ?_|refine X.B ?_|refine X.C ?_|refine X.D ?_|refine X.E ?_|refine X.F ?_|refine X.G ?_|refine X.H ?_|refine X.I ?_|fail)
  refine WL.call (act9_rd (hH.get 1 rfl) (hH.get 20 rfl) (act_ok iC (Inf.act b e).map)) ?_
  intro v25 w25 hN25
  replace hH := hH.new 21 hN25
  repeat' (first|refine X.O ?_|refine X.A ?_|refine X.B ?_|refine X.C ?_|refine X.D ?_|refine X.E ?_|refine X.F ?_|refine X.G ?_|refine X.H ?_|refine X.I ?_|fail)
  refine WL.call (act9_rd (hH.get 1 rfl) (hH.get 0 rfl) (act_ok iC iB.map)) ?_
  intro v26 w26 hN26
  replace hH := hH.new 22 hN26
  repeat' (first|refine X.O ?_|refine X.A ?_|refine X.B ?_|refine X.C ?_|refine X.D ?_|refine X.E ?_|refine X.F ?_|refine X.G ?_|refine X.H ?_|refine X.I ?_|fail)
  refine WL.call (act9_rd (hH.get 22 rfl) (hH.get 3 rfl) (act_ok (Inf.act c b) iE.map)) ?_
  intro v27 w27 hN27
  replace hH := hH.new 23 hN27
  repeat' (first|refine X.O ?_|refine X.A ?_|refine X.B ?_|refine X.C ?_|refine X.D ?_|refine X.E ?_|refine X.F ?_|refine X.G ?_|refine X.H ?_|refine X.I ?_|fail)
  refine WL.call (plus9_rd (hH.get 21 rfl) (hH.get 23 rfl) (Inf.act _ _).map (Inf.act _ _).map (k' := 10006) (by kernel_rfl)) ?_
  intro v28 w28 hN28
  replace hH := hH.new 24 hN28
  repeat' (first|refine X.O ?_|refine X.A ?_|refine X.B ?_|refine X.C ?_|refine X.D ?_|refine X.E ?_|refine X.F ?_|refine X.G ?_|refine X.H ?_|refine X.I ?_|fail)
  refine WL.call (whole9_rd (hH.get 19 rfl) (plusL_38 (actR_len _ _) (scaledL_length' (actR_len _ _)))) ?_
  rintro _ _ ⟨rfl, rfl⟩
  repeat' (first|refine X.O ?_|refine X.A ?_|refine X.B ?_|refine X.C ?_|refine X.D ?_|refine X.E ?_|refine X.F ?_|refine X.G ?_|refine X.H ?_|refine X.I ?_|fail)
  refine WL.call (likeInts_rd (hH.get 19 rfl) (hH.get 24 rfl) (preLie iB.map iB.first iC.map iC.first iE.map iE.first)) ?_
  rintro _ w29 ⟨rfl, hs29⟩
  replace hH := hH.still hs29
  repeat' (first|refine X.O ?_|refine X.A ?_|refine X.B ?_|refine X.C ?_|refine X.D ?_|refine X.E ?_|refine X.F ?_|refine X.G ?_|refine X.H ?_|refine X.I ?_|fail)
  refine ⟨_, ret1 rfl (by rfl), ?_⟩
  exact ⟨rfl, hH.bel⟩
end Go.Proofs
