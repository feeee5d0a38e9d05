/- The law of exponentials and logarithms, walked. -/
import Derived.Test.YtncilhecdihmeaaGreatM7
import Derived.Test.YtncilhecdihmeaaGreatD8
set_option maxRecDepth 8000
namespace Go.Proofs
open Go Go.Fw Go.RowKit Go.Rk
theorem FlowMap_rd {w : World} {vb : Value} {b : List Int} {s : Int} (hB : RD w vb b) (hb : Inf b) (hs : isN s = true) : Does Tryz.prog 38 [vb, .int .i64 s] w fun r w' => ∃ v, r = .tuple #[v, .int .i64 0] ∧ NewI w v w' (expL (scaledL b s)) := by
  obtain ⟨_, _, hB⟩ := hB
  have := FlowMap_any hB s
  rwa [flow_ok hb hs] at this
theorem ExpMap_rd {w : World} {vb : Value} {b : List Int} (hB : RD w vb b) (hb : Inf b) : Does Tryz.prog 36 [vb] w fun r w' => ∃ v, r = .tuple #[v, .int .i64 0] ∧ NewI w v w' (expL b) := by
  obtain ⟨_, _, hB⟩ := hB
  have := ExpMap_any hB
  rwa [exp_ok hb] at this
theorem LogMap_rd {w : World} {vb : Value} {b : List Int} (hB : RD w vb b) (hb : Chr b) : Does Tryz.prog 40 [vb] w fun r w' => ∃ v, r = .tuple #[v, .int .i64 0] ∧ NewI w v w' (logL b) := by
  obtain ⟨_, _, hB⟩ := hB
  have := LogMap_any hB
  rwa [log_ok hb] at this
set_option maxHeartbeats 4000000 in
theorem FnExpLog_any {w : World} {lo hi : Nat} {v : Value} {bs : List Int} (h : IU lo hi w v bs) : Does Tryz.prog 15 [v] w fun r w' => r = .bool true ∧ Below w.heap.size w w' := by
  have hhl := h.hi_le
  refine Does.enter Tryz.func15 Tryz.ntmps15 rfl (by rfl) ?_
  repeat' (first|refine X.O ?_|refine X.A ?_|refine X.B ?_|refine X.C ?_|refine X.D ?_|refine X.E ?_|refine X.F ?_|refine X.G ?_|refine X.H ?_|refine X.I ?_|fail)
  refine WL.call (big_any h) ?_
  rintro _ w0 ⟨rfl, hs0⟩
  repeat' (first|refine X.O ?_|refine X.A ?_|refine X.B ?_|refine X.C ?_|refine X.D ?_|refine X.E ?_|refine X.F ?_|refine X.G ?_|refine X.H ?_|refine X.I ?_|fail)
  first|refine X.J (fun _ => ?_) (fun _ => ?_)|refine X.L (fun _ => ?_) (fun _ => ?_)|refine X.M (fun _ => ?_) (fun _ => ?_)|refine X.R (fun _ => ?_) (fun _ => ?_)|fail
  · repeat' (first|refine X.O ?_|refine X.A ?_|refine X.B ?_|refine X.C ?_|refine X.D ?_|refine X.E ?_|refine X.F ?_|refine X.G ?_|refine X.H ?_|refine X.I ?_|fail)
    refine ⟨_, ret1 rfl (by rfl), ?_⟩
    exact ⟨rfl, hs0.below _⟩
  rename_i hbig
  repeat' (first|refine X.O ?_|refine X.A ?_|refine X.B ?_|refine X.C ?_|refine X.D ?_|refine X.E ?_|refine X.F ?_|refine X.G ?_|refine X.H ?_|refine X.I ?_|fail)
  refine WL.call (DrawFlowMap_any (h.still RU.stable hs0) (by omega)) ?_
  rintro _ w1 ⟨⟨vb, b, s, rfl, hB⟩, hbl1⟩
  have hH : Have w w1 [(0, vb, b)] := ⟨(hs0.below _).trans (Below.mono hbl1 (by have := hs0.size; omega)), fun p hp => by
    simp only [List.mem_cons, List.not_mem_nil, or_false] at hp
    rcases hp with rfl
    exact ⟨_, _, hB⟩⟩
  repeat' (first|refine X.O ?_|refine X.A ?_|refine X.B ?_|refine X.C ?_|refine X.D ?_|refine X.E ?_|refine X.F ?_|refine X.G ?_|refine X.H ?_|refine X.I ?_|fail)
  refine WL.call (FlowMap_any hB s) ?_
  rintro _ w2 ⟨vx, rfl, hN2⟩
  replace hH := hH.new 1 hN2
  repeat' (first|refine X.O ?_|refine X.A ?_|refine X.B ?_|refine X.C ?_|refine X.D ?_|refine X.E ?_|refine X.F ?_|refine X.G ?_|refine X.H ?_|refine X.I ?_|fail)
  refine WL.call (sFlowMap_any (hB.below RI.stable hN2.2 hB.hi_le) s) ?_
  rintro _ w3 ⟨vy, rfl, hN3⟩
  have hX2 := hN2.1.toIS (Nat.zero_le _)
  replace hH := hH.next hN3.2
  clear hB
  repeat' (first|refine X.O ?_|refine X.A ?_|refine X.B ?_|refine X.C ?_|refine X.D ?_|refine X.E ?_|refine X.F ?_|refine X.G ?_|refine X.H ?_|refine X.I ?_|fail)
  try (refine WP.condD (by rfl) (fun hbad => False.elim (by first | exact hbad rfl | omega)) (fun _ => ?_))
  repeat' (first|refine X.O ?_|refine X.A ?_|refine X.B ?_|refine X.C ?_|refine X.D ?_|refine X.E ?_|refine X.F ?_|refine X.G ?_|refine X.H ?_|refine X.I ?_|fail)
  refine WP.midE (fun l' x => Agree l' [(0, v)] ∧ Below w.heap.size w x) ?_ ?_
  · by_cases hc : (flowMap b s).2 = 0
    case neg =>
      rw [flow_bad hc] at hX2
      obtain ⟨a2, c2, hv2⟩ := hX2.shape
      subst hv2
      first|refine X.J (fun _ => ?_) (fun _ => ?_)|refine X.L (fun _ => ?_) (fun _ => ?_)|refine X.M (fun _ => ?_) (fun _ => ?_)|refine X.R (fun _ => ?_) (fun _ => ?_)|fail
      · rename_i hz
        exact absurd (by simpa using hz) hc
      · repeat' (first|refine X.O ?_|refine X.A ?_|refine X.B ?_|refine X.C ?_|refine X.D ?_|refine X.E ?_|refine X.F ?_|refine X.G ?_|refine X.H ?_|refine X.I ?_|fail)
        try (refine WP.condD (by rfl) (fun hbad => False.elim (by first | exact hbad rfl | omega)) (fun _ => ?_))
        repeat' (first|refine X.O ?_|refine X.A ?_|refine X.B ?_|refine X.C ?_|refine X.D ?_|refine X.E ?_|refine X.F ?_|refine X.G ?_|refine X.H ?_|refine X.I ?_|fail)
        exact ⟨⟨rfl, trivial⟩, hH.bel⟩
    obtain ⟨iB, hsn⟩ := flow_zero hc
    have hsb := isN_bd hsn
    have e := flow_ok iB hsn
    rw [e] at hH ⊢
    clear e hN2 hN3 hX2
    refine WP.condD (Q := _) (by rfl) (fun _ => ?_) (fun hbad => False.elim (hbad rfl))
    repeat' (first|refine X.O ?_|refine X.A ?_|refine X.B ?_|refine X.C ?_|refine X.D ?_|refine X.E ?_|refine X.F ?_|refine X.G ?_|refine X.H ?_|refine X.I ?_|fail)
    refine WL.call (roll_any (h.below RU.stable hH.bel hhl) (by omega) 1081 (by omega) (by omega)) ?_
    rintro _ w6 ⟨rfl, hdi, hc6⟩
    replace hH := hH.roll hdi hc6
    repeat' (first|refine X.O ?_|refine X.A ?_|refine X.B ?_|refine X.C ?_|refine X.D ?_|refine X.E ?_|refine X.F ?_|refine X.G ?_|refine X.H ?_|refine X.I ?_|fail)
    refine WL.call (below_any hH.dice 10007 (by omega)) ?_
    rintro _ w7 ⟨⟨t, rfl, _, ht⟩, hd7⟩
    have ht := ht (by omega)
    have htn : isN t = true := isN_of ⟨ht.1, by omega⟩
    replace hH := (hH.rolled hd7).have
    repeat' (first|refine X.O ?_|refine X.A ?_|refine X.B ?_|refine X.C ?_|refine X.D ?_|refine X.E ?_|refine X.F ?_|refine X.G ?_|refine X.H ?_|refine X.I ?_|fail)
    refine WL.call (FlowMap_rd (hH.get 0 rfl) iB htn) ?_
    rintro _ w8 ⟨v8, rfl, hN8⟩
    replace hH := hH.new 2 hN8
    repeat' (first|refine X.O ?_|refine X.A ?_|refine X.B ?_|refine X.C ?_|refine X.D ?_|refine X.E ?_|refine X.F ?_|refine X.G ?_|refine X.H ?_|refine X.I ?_|fail)
    refine WL.call (mod9_any _ _) ?_
    rintro _ _ ⟨rfl, rfl⟩
    repeat' (first|refine X.O ?_|refine X.A ?_|refine X.B ?_|refine X.C ?_|refine X.D ?_|refine X.E ?_|refine X.F ?_|refine X.G ?_|refine X.H ?_|refine X.I ?_|fail)
    refine WL.call (FlowMap_rd (hH.get 0 rfl) iB (nm_isN _)) ?_
    rintro _ w9 ⟨v9, rfl, hN9⟩
    replace hH := hH.new 3 hN9
    repeat' (first|refine X.O ?_|refine X.A ?_|refine X.B ?_|refine X.C ?_|refine X.D ?_|refine X.E ?_|refine X.F ?_|refine X.G ?_|refine X.H ?_|refine X.I ?_|fail)
    refine WL.call (ExpMap_rd (hH.get 0 rfl) iB) ?_
    rintro _ w10 ⟨v10, rfl, hN10⟩
    replace hH := hH.new 4 hN10
    repeat' (first|refine X.O ?_|refine X.A ?_|refine X.B ?_|refine X.C ?_|refine X.D ?_|refine X.E ?_|refine X.F ?_|refine X.G ?_|refine X.H ?_|refine X.I ?_|fail)
    refine WL.call (LogMap_rd (hH.get 4 rfl) (expL_chr b)) ?_
    rintro _ w11 ⟨v11, rfl, hN11⟩
    replace hH := hH.new 5 hN11
    repeat' (first|refine X.O ?_|refine X.A ?_|refine X.B ?_|refine X.C ?_|refine X.D ?_|refine X.E ?_|refine X.F ?_|refine X.G ?_|refine X.H ?_|refine X.I ?_|fail)
    refine WL.call (conv9_rd (hH.get 1 rfl) (hH.get 2 rfl) (expL_chr _) (expL_chr _).map) ?_
    intro v12 w12 hN12
    replace hH := hH.new 6 hN12
    repeat' (first|refine X.O ?_|refine X.A ?_|refine X.B ?_|refine X.C ?_|refine X.D ?_|refine X.E ?_|refine X.F ?_|refine X.G ?_|refine X.H ?_|refine X.I ?_|fail)
    refine WL.call (likeInts_rd (hH.get 6 rfl) (hH.get 3 rfl) (by rw [flow_add iB.map iB.first, scaledL_nm])) ?_
    rintro _ w13 ⟨rfl, hs13⟩
    replace hH := hH.still hs13
    repeat' (first|refine X.O ?_|refine X.A ?_|refine X.B ?_|refine X.C ?_|refine X.D ?_|refine X.E ?_|refine X.F ?_|refine X.G ?_|refine X.H ?_|refine X.I ?_|fail)
    refine WL.call (likeInts_rd (hH.get 5 rfl) (hH.get 0 rfl) (log_exp iB.map iB.first)) ?_
    rintro _ w14 ⟨rfl, hs14⟩
    replace hH := hH.still hs14
    repeat' (first|refine X.O ?_|refine X.A ?_|refine X.B ?_|refine X.C ?_|refine X.D ?_|refine X.E ?_|refine X.F ?_|refine X.G ?_|refine X.H ?_|refine X.I ?_|fail)
    refine WL.call (IsCharacter_rd (hH.get 1 rfl) (expL_chr _)) ?_
    rintro _ w15 ⟨rfl, hs15⟩
    replace hH := hH.still hs15
    repeat' (first|refine X.O ?_|refine X.A ?_|refine X.B ?_|refine X.C ?_|refine X.D ?_|refine X.E ?_|refine X.F ?_|refine X.G ?_|refine X.H ?_|refine X.I ?_|fail)
    try (refine WP.condD (by rfl) (fun hbad => False.elim (by first | exact hbad rfl | omega)) (fun _ => ?_))
    repeat' (first|refine X.O ?_|refine X.A ?_|refine X.B ?_|refine X.C ?_|refine X.D ?_|refine X.E ?_|refine X.F ?_|refine X.G ?_|refine X.H ?_|refine X.I ?_|fail)
    exact ⟨⟨rfl, trivial⟩, hH.bel⟩
  · rintro l' w4 ⟨hag, hB4⟩
    refine WP.frame _ hag ?_
    clear hag hH hN2 hN3 hX2
    repeat' (first|refine X.O ?_|refine X.A ?_|refine X.B ?_|refine X.C ?_|refine X.D ?_|refine X.E ?_|refine X.F ?_|refine X.G ?_|refine X.H ?_|refine X.I ?_|fail)
    refine WL.call (DrawRootOfMap_any (h.below RU.stable hB4 hhl) (by omega)) ?_
    rintro _ w5 ⟨⟨va, a, k, rfl, hA⟩, hbl5⟩
    have hH : Have w w5 [(0, va, a)] := ⟨hB4.trans (Below.mono hbl5 hB4.size), fun p hp => by
      simp only [List.mem_cons, List.not_mem_nil, or_false] at hp
      rcases hp with rfl
      exact ⟨_, _, hA⟩⟩
    repeat' (first|refine X.O ?_|refine X.A ?_|refine X.B ?_|refine X.C ?_|refine X.D ?_|refine X.E ?_|refine X.F ?_|refine X.G ?_|refine X.H ?_|refine X.I ?_|fail)
    refine WL.call (RootOfMap_any hA k) ?_
    rintro _ w6 ⟨vx6, rfl, hN6⟩
    replace hH := hH.new 1 hN6
    repeat' (first|refine X.O ?_|refine X.A ?_|refine X.B ?_|refine X.C ?_|refine X.D ?_|refine X.E ?_|refine X.F ?_|refine X.G ?_|refine X.H ?_|refine X.I ?_|fail)
    refine WL.call (sRootOfMap_any (hA.below RI.stable hN6.2 hA.hi_le) k) ?_
    rintro _ w7 ⟨vy7, rfl, hN7⟩
    have hX6 := hN6.1.toIS (Nat.zero_le _)
    replace hH := hH.next hN7.2
    clear hA
    repeat' (first|refine X.O ?_|refine X.A ?_|refine X.B ?_|refine X.C ?_|refine X.D ?_|refine X.E ?_|refine X.F ?_|refine X.G ?_|refine X.H ?_|refine X.I ?_|fail)
    try (refine WP.condD (by rfl) (fun hbad => False.elim (by first | exact hbad rfl | omega)) (fun _ => ?_))
    repeat' (first|refine X.O ?_|refine X.A ?_|refine X.B ?_|refine X.C ?_|refine X.D ?_|refine X.E ?_|refine X.F ?_|refine X.G ?_|refine X.H ?_|refine X.I ?_|fail)
    by_cases hc : (rootOfMap a k).2 = 0
    case neg =>
      rw [root_bad hc] at hX6
      obtain ⟨a2, c2, hv2⟩ := hX6.shape
      subst hv2
      first|refine X.J (fun _ => ?_) (fun _ => ?_)|refine X.L (fun _ => ?_) (fun _ => ?_)|refine X.M (fun _ => ?_) (fun _ => ?_)|refine X.R (fun _ => ?_) (fun _ => ?_)|fail
      · repeat' (first|refine X.O ?_|refine X.A ?_|refine X.B ?_|refine X.C ?_|refine X.D ?_|refine X.E ?_|refine X.F ?_|refine X.G ?_|refine X.H ?_|refine X.I ?_|fail)
        refine ⟨_, ret1 rfl (by rfl), ?_⟩
        exact ⟨rfl, hH.bel⟩
      · rename_i hz
        exact absurd (by simpa using hz) hc
    obtain ⟨cA, hk1, hk2⟩ := root_zero hc
    have e := root_ok cA ⟨hk1, hk2⟩
    rw [e] at hH ⊢
    clear e hN6 hN7 hX6
    try (refine WP.condD (by rfl) (fun hbad => False.elim (by first | exact hbad rfl | omega)) (fun _ => ?_))
    repeat' (first|refine X.O ?_|refine X.A ?_|refine X.B ?_|refine X.C ?_|refine X.D ?_|refine X.E ?_|refine X.F ?_|refine X.G ?_|refine X.H ?_|refine X.I ?_|fail)
    refine WL.call (PowerOfMap_rd (hH.get 1 rfl) (expL_chr _) (by omega) hk2) ?_
    rintro _ w8 ⟨v8, rfl, hN8⟩
    replace hH := hH.new 2 hN8
    repeat' (first|refine X.O ?_|refine X.A ?_|refine X.B ?_|refine X.C ?_|refine X.D ?_|refine X.E ?_|refine X.F ?_|refine X.G ?_|refine X.H ?_|refine X.I ?_|fail)
    refine WL.call (LogMap_rd (hH.get 0 rfl) cA) ?_
    rintro _ w9 ⟨v9, rfl, hN9⟩
    replace hH := hH.new 3 hN9
    repeat' (first|refine X.O ?_|refine X.A ?_|refine X.B ?_|refine X.C ?_|refine X.D ?_|refine X.E ?_|refine X.F ?_|refine X.G ?_|refine X.H ?_|refine X.I ?_|fail)
    refine WL.call (ExpMap_rd (hH.get 3 rfl) (logL_inf cA.len)) ?_
    rintro _ w10 ⟨v10, rfl, hN10⟩
    replace hH := hH.new 4 hN10
    repeat' (first|refine X.O ?_|refine X.A ?_|refine X.B ?_|refine X.C ?_|refine X.D ?_|refine X.E ?_|refine X.F ?_|refine X.G ?_|refine X.H ?_|refine X.I ?_|fail)
    refine WL.call (likeInts_rd (hH.get 2 rfl) (hH.get 0 rfl) (by rw [powZ_pos hk1]; exact root_pow cA.map cA.first hk1 hk2)) ?_
    rintro _ w11 ⟨rfl, hs11⟩
    replace hH := hH.still hs11
    repeat' (first|refine X.O ?_|refine X.A ?_|refine X.B ?_|refine X.C ?_|refine X.D ?_|refine X.E ?_|refine X.F ?_|refine X.G ?_|refine X.H ?_|refine X.I ?_|fail)
    refine WL.call (likeInts_rd (hH.get 4 rfl) (hH.get 0 rfl) (exp_log cA.map cA.first)) ?_
    rintro _ w12 ⟨rfl, hs12⟩
    replace hH := hH.still hs12
    repeat' (first|refine X.O ?_|refine X.A ?_|refine X.B ?_|refine X.C ?_|refine X.D ?_|refine X.E ?_|refine X.F ?_|refine X.G ?_|refine X.H ?_|refine X.I ?_|fail)
    refine WL.call (IsInfinitesimal_rd (hH.get 3 rfl) (logL_inf cA.len)) ?_
    rintro _ w13 ⟨rfl, hs13⟩
    replace hH := hH.still hs13
    repeat' (first|refine X.O ?_|refine X.A ?_|refine X.B ?_|refine X.C ?_|refine X.D ?_|refine X.E ?_|refine X.F ?_|refine X.G ?_|refine X.H ?_|refine X.I ?_|fail)
    refine ⟨_, ret1 rfl (by rfl), ?_⟩
    exact ⟨rfl, hH.bel⟩
end Go.Proofs
