/- The law of the orders of maps, walked. -/
import Derived.Test.YtncilhecdihmeaaGreatG24
import Derived.Test.YtncilhecdihmeaaGreatD8
set_option maxRecDepth 8000
namespace Go.Fw
open Go Go.RowKit
section
variable {P : Program} {N : Nat} {Q : Exit → Fr → World → Prop} {l : Fr} {w : World}
theorem WP.midB2 {c : Code} {id : Nat} {K : Fr → World → Prop} (M : Fr → World → Prop) (hx : WP P N c (inBlockE id (thenE M Q)) l w) (hk : ∀ l w, M l w → K l w) : WP P N c (inBlockE id (thenE K Q)) l w := fun a ha => by
  refine wp_mono (hx a ha) ?_
  intro e a' w' he
  cases e with
  | normal => obtain ⟨l', hl, hK⟩ := he; exact ⟨l', hl, hk _ _ hK⟩
  | exit id' =>
    obtain ⟨l', hl, hK⟩ := he
    simp only [inBlockE] at hK
    refine ⟨l', hl, ?_⟩
    simp only [inBlockE]
    split
    · rename_i e; rw [if_pos e] at hK; exact hk _ _ hK
    · rename_i e; rw [if_neg e] at hK; exact hK
  | goto n => exact he
  | ret => exact he
  | panic c => exact he
  | outgrown => exact he
end
end Go.Fw
namespace Go.Proofs
open Go Go.Fw Go.RowKit Go.Rk
theorem exactL_map : isMap exactL = true := by unfold isMap; rw [Bool.and_eq_true, decide_eq_true_eq]; exact ⟨exactL_len, exactL_all⟩
set_option maxHeartbeats 4000000 in
theorem FnMapOrders_any {w : World} {lo hi : Nat} {v : Value} {bs : List Int} (h : IU lo hi w v bs) : Does Tryz.prog 4 [v] w fun r w' => r = .bool true ∧ Below w.heap.size w w' := by
  have hhl := h.hi_le
  refine Does.enter Tryz.func4 Tryz.ntmps4 rfl (by rfl) ?_
  repeat' (first|refine X.O ?_|refine X.A ?_|refine X.B ?_|refine X.C ?_|refine X.D ?_|refine X.E ?_|refine X.F ?_|refine X.G ?_|refine X.H ?_|refine X.I ?_|fail)
  refine WL.call (big_any h) ?_
  rintro _ w0 ⟨rfl, hs0⟩
  have hz0 := hs0.size
  repeat' (first|refine X.O ?_|refine X.A ?_|refine X.B ?_|refine X.C ?_|refine X.D ?_|refine X.E ?_|refine X.F ?_|refine X.G ?_|refine X.H ?_|refine X.I ?_|fail)
  first|refine X.J (fun _ => ?_) (fun _ => ?_)|refine X.L (fun _ => ?_) (fun _ => ?_)|refine X.M (fun _ => ?_) (fun _ => ?_)|refine X.R (fun _ => ?_) (fun _ => ?_)|fail
  · repeat' (first|refine X.O ?_|refine X.A ?_|refine X.B ?_|refine X.C ?_|refine X.D ?_|refine X.E ?_|refine X.F ?_|refine X.G ?_|refine X.H ?_|refine X.I ?_|fail)
    refine ⟨_, ret1 rfl (by rfl), ?_⟩
    exact ⟨rfl, hs0.below _⟩
  rename_i hbig
  repeat' (first|refine X.O ?_|refine X.A ?_|refine X.B ?_|refine X.C ?_|refine X.D ?_|refine X.E ?_|refine X.F ?_|refine X.G ?_|refine X.H ?_|refine X.I ?_|fail)
  refine WL.call (DrawAgreeTo_any (h.still RU.stable hs0) (by omega)) ?_
  rintro _ w1 ⟨⟨va, vb, a, b, rfl, hA, hB, hal, hbl⟩, hbl1⟩
  have hz1 := hbl1.size
  have hB1 : Below w.heap.size w w1 := (hs0.below _).trans (Below.mono hbl1 (by omega))
  repeat' (first|refine X.O ?_|refine X.A ?_|refine X.B ?_|refine X.C ?_|refine X.D ?_|refine X.E ?_|refine X.F ?_|refine X.G ?_|refine X.H ?_|refine X.I ?_|fail)
  refine WL.call (AgreeTo_any hA hB) ?_
  rintro _ w2 ⟨rfl, hc2⟩
  have hz2 := hc2.size
  have hA2 := RI.chg hA hc2 (Or.inr (by omega))
  have hBB2 := RI.chg hB hc2 (Or.inr (by omega))
  have hB2 : Below w.heap.size w w2 := hB1.trans (hc2.below (by omega) (Or.inr (Nat.le_refl _)))
  repeat' (first|refine X.O ?_|refine X.A ?_|refine X.B ?_|refine X.C ?_|refine X.D ?_|refine X.E ?_|refine X.F ?_|refine X.G ?_|refine X.H ?_|refine X.I ?_|fail)
  refine WL.call (sAgreeTo_any hA2 hBB2) ?_
  rintro _ w3 ⟨rfl, hc3⟩
  have hz3 := hc3.size
  have hA3 := RI.chg hA2 hc3 (Or.inr (by omega))
  have hBB3 := RI.chg hBB2 hc3 (Or.inr (by omega))
  have hB3 : Below w.heap.size w w3 := hB2.trans (hc3.below (by omega) (Or.inr (Nat.le_refl _)))
  by_cases hm : isMap a = true ∧ isMap b = true
  case neg =>
    have e : agreeTo a b = (0, 1) := by unfold agreeTo; rw [if_neg hm]
    rw [e]
    repeat' (first|refine X.O ?_|refine X.A ?_|refine X.B ?_|refine X.C ?_|refine X.D ?_|refine X.E ?_|refine X.F ?_|refine X.G ?_|refine X.H ?_|refine X.I ?_|fail)
    refine ⟨_, ret1 rfl (by rfl), ?_⟩
    exact ⟨rfl, hB3⟩
  have e : agreeTo a b = (agreeL a b, 0) := by unfold agreeTo; rw [if_pos hm]
  rw [e]
  have hla := isMap_38 hm.1
  have hlb := isMap_38 hm.2
  have htr := fun (n : Int) (h6 : n ≤ 6) => trunc_agree hla hlb h6
  obtain ⟨g, hg⟩ : ∃ g, agreeL a b = g := ⟨_, rfl⟩
  rw [hg] at htr ⊢
  have htm : ∀ (x : List Int) (n : Nat), isMap x = true → n ≤ 6 → truncateMap x (n : Nat) = (keepL (fun m => decide (m ≤ ((n : Nat) : Int))) x, 0) := fun x n hx hn => by unfold truncateMap; rw [if_pos hx, if_pos (by omega)]
  repeat' (first|refine X.O ?_|refine X.A ?_|refine X.B ?_|refine X.C ?_|refine X.D ?_|refine X.E ?_|refine X.F ?_|refine X.G ?_|refine X.H ?_|refine X.I ?_|fail)
  try (refine WP.condD (by rfl) (fun hbad => False.elim (by first | exact hbad rfl | omega)) (fun _ => ?_))
  repeat' (first|refine X.O ?_|refine X.A ?_|refine X.B ?_|refine X.C ?_|refine X.D ?_|refine X.E ?_|refine X.F ?_|refine X.G ?_|refine X.H ?_|refine X.I ?_|fail)
  refine WP.midB2 (fun l' x => Agree l' [(0, v)] ∧ Below w.heap.size w x) ?_ ?_
  · refine WP.loop (fun (n : Nat) => [(0, v), (3, va), (4, vb), (5, .int .i64 g), (9, .int .i64 (n : Nat))])
      (fun n w4 => n ≤ 7 ∧ IS w0.heap.size w1.heap.size w4 va a ∧ IS w0.heap.size w1.heap.size w4 vb b ∧ Below w.heap.size w w4)
      (fun n => 7 - n) 0 ⟨rfl, rfl, rfl, rfl, rfl, trivial⟩ ⟨by omega, hA3, hBB3, hB3⟩ ?_
    rintro n w4 ⟨hn7, hA4, hBB4, hB4⟩
    have hz4 := hA4.hi_le
    have hz04 := hB4.size
    repeat' (first|refine X.O ?_|refine X.A ?_|refine X.B ?_|refine X.C ?_|refine X.D ?_|refine X.E ?_|refine X.F ?_|refine X.G ?_|refine X.H ?_|refine X.I ?_|fail)
    first|refine X.J (fun _ => ?_) (fun _ => ?_)|refine X.L (fun _ => ?_) (fun _ => ?_)|refine X.M (fun _ => ?_) (fun _ => ?_)|refine X.R (fun _ => ?_) (fun _ => ?_)|fail
    · rename_i hn6'
      have hn6 : n ≤ 6 := by omega
      repeat' (first|refine X.O ?_|refine X.A ?_|refine X.B ?_|refine X.C ?_|refine X.D ?_|refine X.E ?_|refine X.F ?_|refine X.G ?_|refine X.H ?_|refine X.I ?_|fail)
      refine WL.call (TruncateMap_any hA4 (n : Nat)) ?_
      rintro _ w5 ⟨v5, rfl, hN5⟩
      rw [htm a n hm.1 hn6] at hN5 ⊢
      have hz5 := hN5.2.size
      have hB5 := hB4.trans (Below.mono hN5.2 (by omega))
      have hA5 := hA4.below RI.stable hN5.2 hz4
      have hBB5 := hBB4.below RI.stable hN5.2 hz4
      repeat' (first|refine X.O ?_|refine X.A ?_|refine X.B ?_|refine X.C ?_|refine X.D ?_|refine X.E ?_|refine X.F ?_|refine X.G ?_|refine X.H ?_|refine X.I ?_|fail)
      refine WL.call (TruncateMap_any hBB5 (n : Nat)) ?_
      rintro _ w6 ⟨v6, rfl, hN6⟩
      rw [htm b n hm.2 hn6] at hN6 ⊢
      have hz6 := hN6.2.size
      have hB6 := hB5.trans (Below.mono hN6.2 (by omega))
      have hA6 := hA5.below RI.stable hN6.2 (by omega)
      have hBB6 := hBB5.below RI.stable hN6.2 (by omega)
      repeat' (first|refine X.O ?_|refine X.A ?_|refine X.B ?_|refine X.C ?_|refine X.D ?_|refine X.E ?_|refine X.F ?_|refine X.G ?_|refine X.H ?_|refine X.I ?_|fail)
      refine WL.call (likeInts_any ((hN5.1.below hN6.2 (Nat.le_refl _)).toIS (Nat.zero_le _)) (hN6.1.toIS (Nat.zero_le _))) ?_
      rintro _ w7 ⟨rfl, hs7⟩
      have hB7 := hB6.trans (hs7.below _)
      have hiff := htr (n : Nat) (by omega)
      have hA7 := hA6.still RI.stable hs7
      have hBB7 := hBB6.still RI.stable hs7
      by_cases hng : ((n : Nat) : Int) ≤ g
      · rw [decide_eq_true (hiff.2 hng)]
        repeat' (first|refine X.O ?_|refine X.A ?_|refine X.B ?_|refine X.C ?_|refine X.D ?_|refine X.E ?_|refine X.F ?_|refine X.G ?_|refine X.H ?_|refine X.I ?_|fail)
        rw [decide_eq_true hng]
        refine WL.step (o_neqB Tryz.underlying4 (by rfl) (by rfl) ?_)
        repeat' (first|refine X.O ?_|refine X.A ?_|refine X.B ?_|refine X.C ?_|refine X.D ?_|refine X.E ?_|refine X.F ?_|refine X.G ?_|refine X.H ?_|refine X.I ?_|fail)
        exact ⟨n + 1, ⟨rfl, rfl, rfl, rfl, (by first|rfl|exact X.T (by omega)), trivial⟩, ⟨by omega, hA7, hBB7, hB7⟩, by omega⟩
      · rw [decide_eq_false (fun hq => hng (hiff.1 hq))]
        repeat' (first|refine X.O ?_|refine X.A ?_|refine X.B ?_|refine X.C ?_|refine X.D ?_|refine X.E ?_|refine X.F ?_|refine X.G ?_|refine X.H ?_|refine X.I ?_|fail)
        rw [decide_eq_false hng]
        refine WL.step (o_neqB Tryz.underlying4 (by rfl) (by rfl) ?_)
        repeat' (first|refine X.O ?_|refine X.A ?_|refine X.B ?_|refine X.C ?_|refine X.D ?_|refine X.E ?_|refine X.F ?_|refine X.G ?_|refine X.H ?_|refine X.I ?_|fail)
        exact ⟨n + 1, ⟨rfl, rfl, rfl, rfl, (by first|rfl|exact X.T (by omega)), trivial⟩, ⟨by omega, hA7, hBB7, hB7⟩, by omega⟩
    · repeat' (first|refine X.O ?_|refine X.A ?_|refine X.B ?_|refine X.C ?_|refine X.D ?_|refine X.E ?_|refine X.F ?_|refine X.G ?_|refine X.H ?_|refine X.I ?_|fail)
      exact ⟨⟨rfl, trivial⟩, hB4⟩
  · rintro l' w8 ⟨hag, hB8⟩
    refine WP.frame _ hag ?_
    clear hag
    have hz8 := hB8.size
    repeat' (first|refine X.O ?_|refine X.A ?_|refine X.B ?_|refine X.C ?_|refine X.D ?_|refine X.E ?_|refine X.F ?_|refine X.G ?_|refine X.H ?_|refine X.I ?_|fail)
    refine WL.call (DrawOrderOfMap_any (h.below RU.stable hB8 hhl) (by omega)) ?_
    rintro vm w9 ⟨⟨m, hM, _⟩, hbl9⟩
    have hz9 := hbl9.size
    have hB9 := hB8.trans (Below.mono hbl9 (by omega))
    repeat' (first|refine X.O ?_|refine X.A ?_|refine X.B ?_|refine X.C ?_|refine X.D ?_|refine X.E ?_|refine X.F ?_|refine X.G ?_|refine X.H ?_|refine X.I ?_|fail)
    refine WL.call (OrderOfMap_any hM) ?_
    rintro _ w10 ⟨rfl, hc10⟩
    have hz10 := hc10.size
    have hM10 := RI.chg hM hc10 (Or.inr (by omega))
    have hB10 := hB9.trans (hc10.below (by omega) (Or.inr (Nat.le_refl _)))
    repeat' (first|refine X.O ?_|refine X.A ?_|refine X.B ?_|refine X.C ?_|refine X.D ?_|refine X.E ?_|refine X.F ?_|refine X.G ?_|refine X.H ?_|refine X.I ?_|fail)
    refine WL.call (sOrderOfMap_any hM10) ?_
    rintro _ w11 ⟨rfl, hc11⟩
    have hz11 := hc11.size
    have hM11 := RI.chg hM10 hc11 (Or.inr (by omega))
    have hB11 := hB10.trans (hc11.below (by omega) (Or.inr (Nat.le_refl _)))
    by_cases hc : chCode m = 0
    case neg =>
      have e2 : orderOfMap m = (0, chCode m) := by unfold orderOfMap; rw [if_neg hc]
      rw [e2]
      obtain ⟨q, hq⟩ : ∃ q, chCode m = q := ⟨_, rfl⟩
      rw [hq] at hc ⊢
      repeat' (first|refine X.O ?_|refine X.A ?_|refine X.B ?_|refine X.C ?_|refine X.D ?_|refine X.E ?_|refine X.F ?_|refine X.G ?_|refine X.H ?_|refine X.I ?_|fail)
      try (refine WL.gsplitD (by rfl) (by rfl) (by rfl) (fun hbad => False.elim (by first | exact hbad rfl | omega)) (fun _ => ?_))
      repeat' (first|refine X.O ?_|refine X.A ?_|refine X.B ?_|refine X.C ?_|refine X.D ?_|refine X.E ?_|refine X.F ?_|refine X.G ?_|refine X.H ?_|refine X.I ?_|fail)
      try (refine WP.condD (by rfl) (fun hbad => False.elim (by first | exact hbad rfl | omega)) (fun _ => ?_))
      repeat' (first|refine X.O ?_|refine X.A ?_|refine X.B ?_|refine X.C ?_|refine X.D ?_|refine X.E ?_|refine X.F ?_|refine X.G ?_|refine X.H ?_|refine X.I ?_|fail)
      first|refine X.J (fun _ => ?_) (fun _ => ?_)|refine X.L (fun _ => ?_) (fun _ => ?_)|refine X.M (fun _ => ?_) (fun _ => ?_)|refine X.R (fun _ => ?_) (fun _ => ?_)|fail
      · repeat' (first|refine X.O ?_|refine X.A ?_|refine X.B ?_|refine X.C ?_|refine X.D ?_|refine X.E ?_|refine X.F ?_|refine X.G ?_|refine X.H ?_|refine X.I ?_|fail)
        refine ⟨_, ret1 rfl (by rfl), ?_⟩
        exact ⟨rfl, hB11⟩
      · rename_i hz
        exact absurd (by simpa using hz) hc
    have hmm := (chCode_zero hc).1
    have e2 : orderOfMap m = (agreeL m exactL, 0) := by unfold orderOfMap; rw [if_pos hc]
    rw [e2]
    obtain ⟨p, hp⟩ : ∃ p, agreeL m exactL = p := ⟨_, rfl⟩
    rw [hp]
    repeat' (first|refine X.O ?_|refine X.A ?_|refine X.B ?_|refine X.C ?_|refine X.D ?_|refine X.E ?_|refine X.F ?_|refine X.G ?_|refine X.H ?_|refine X.I ?_|fail)
    try (refine WP.condD (by rfl) (fun hbad => False.elim (by first | exact hbad rfl | omega)) (fun _ => ?_))
    repeat' (first|refine X.O ?_|refine X.A ?_|refine X.B ?_|refine X.C ?_|refine X.D ?_|refine X.E ?_|refine X.F ?_|refine X.G ?_|refine X.H ?_|refine X.I ?_|fail)
    refine WL.call (ExactMap_any _) ?_
    intro v12 w12 hN12
    have hz12 := hN12.2.size
    have hB12 := hB11.trans (Below.mono hN12.2 (by omega))
    refine WL.call (AgreeTo_any (hM11.below RI.stable hN12.2 (by omega)) (hN12.1.toIS (Nat.zero_le _))) ?_
    rintro _ w13 ⟨rfl, hc13⟩
    have hB13 := hB12.trans (hc13.below (by have := hB12.size; omega) (Or.inr (Nat.le_refl _)))
    have e3 : agreeTo m exactL = (p, 0) := by unfold agreeTo; rw [if_pos ⟨hmm, exactL_map⟩, hp]
    rw [e3]
    repeat' (first|refine X.O ?_|refine X.A ?_|refine X.B ?_|refine X.C ?_|refine X.D ?_|refine X.E ?_|refine X.F ?_|refine X.G ?_|refine X.H ?_|refine X.I ?_|fail)
    rw [decide_eq_true (show p = p from rfl)]
    repeat' (first|refine X.O ?_|refine X.A ?_|refine X.B ?_|refine X.C ?_|refine X.D ?_|refine X.E ?_|refine X.F ?_|refine X.G ?_|refine X.H ?_|refine X.I ?_|fail)
    refine ⟨_, ret1 rfl (by rfl), ?_⟩
    exact ⟨rfl, hB13⟩
end Go.Proofs
