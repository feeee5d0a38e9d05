/- The law of actions, walked. -/
import Derived.Test.YtncilhecdihmeaaQ3
import Derived.Test.YtncilhecdihmeaaD8
set_option maxRecDepth 8000
namespace Go.Proofs
open Go Go.Fw Go.RowKit Go.Rk
theorem TreeAt_small (i : Nat) (hi : i < 37) (w : World) : Does Try.prog 23 [.int .i64 (i : Nat)] w fun r w' => ∃ v, r = .tuple #[v, .int .i64 0] ∧ IS w.heap.size w'.heap.size w' v (T37 i) ∧ Chg 0 0 w w' := by
  have hl : i < (treesTo 6).length := by rw [treesTo_len]; exact hi
  obtain ⟨r, hr⟩ := treesTo8_pre (n := 6) (by omega)
  have h8 : i < (treesTo8 8).length := by rw [hr, List.length_append]; omega
  have e : (treesTo8 8)[i] = T37 i := by
    rw [← T37_get hl]
    simp only [hr]
    exact List.getElem_append_left hl
  have := TreeAt_any i h8 (by omega) w
  rwa [e] at this
theorem unitAt_38 (i : Nat) : (unitAt i).length = 38 := by unfold unitAt; rw [List.length_set]; exact List.length_replicate
theorem unitAt_map {i : Nat} : isMap (unitAt i) = true := by
  unfold isMap
  rw [Bool.and_eq_true, decide_eq_true_eq]
  exact ⟨unitAt_38 i, allN_set (zeros_all 38) _ _ (by kernel_rfl)⟩
theorem unit_act (i k : Nat) : actOn (unitAt i) (unitAt k) = (actR modR cutLit (unitAt i) (unitAt k), 0) := by
  have h : infCode [unitAt k, unitAt i] (unitAt i) = 0 := by
    unfold infCode
    rw [if_pos (by simp [unitAt_map]), if_neg (by
      have : (unitAt i).getD 0 0 = 0 := by
        rw [List.getD_eq_getElem?_getD, List.getElem?_eq_getElem (by rw [unitAt_38]; omega), Option.getD_some]
        unfold unitAt
        rw [List.getElem_set_ne (by omega)]
        exact List.getElem_replicate _
      rw [this]; simp)]
  unfold actOn; rw [if_pos h]
set_option maxHeartbeats 4000000 in
theorem FnActions_any {w : World} {lo hi : Nat} {v : Value} {bs : List Int} (h : IU lo hi w v bs) : Does Try.prog 7 [v] w fun r w' => r = .bool true ∧ Below w.heap.size w w' := by
  have hhl := h.hi_le
  refine Does.enter Try.func7 Try.ntmps7 rfl (by rfl) ?_
  repeat' (first|refine X.O ?_|refine X.A ?_|refine X.B ?_|refine X.C ?_|refine X.D ?_|refine X.E ?_|refine X.F ?_|refine X.G ?_|refine X.H ?_|refine X.I ?_|fail)
  refine WL.call (big_any h) ?_
  rintro _ w0 ⟨rfl, hs0⟩
  repeat' (first|refine X.O ?_|refine X.A ?_|refine X.B ?_|refine X.C ?_|refine X.D ?_|refine X.E ?_|refine X.F ?_|refine X.G ?_|refine X.H ?_|refine X.I ?_|fail)
  first|refine X.J (fun _ => ?_) (fun _ => ?_)|refine X.L (fun _ => ?_) (fun _ => ?_)|refine X.M (fun _ => ?_) (fun _ => ?_)|refine X.R (fun _ => ?_) (fun _ => ?_)|fail
  · repeat' (first|refine X.O ?_|refine X.A ?_|refine X.B ?_|refine X.C ?_|refine X.D ?_|refine X.E ?_|refine X.F ?_|refine X.G ?_|refine X.H ?_|refine X.I ?_|fail)
    refine ⟨_, ret1 rfl (by rfl), ?_⟩
    exact ⟨rfl, hs0.below _⟩
  rename_i hbig
  have hH : Have w w0 [] := ⟨hs0.below _, fun p hp => by simp at hp⟩
  repeat' (first|refine X.O ?_|refine X.A ?_|refine X.B ?_|refine X.C ?_|refine X.D ?_|refine X.E ?_|refine X.F ?_|refine X.G ?_|refine X.H ?_|refine X.I ?_|fail)
  refine WL.call (roll_any (h.below RU.stable hH.bel hhl) (by omega) 1083 (by omega) (by omega)) ?_
  rintro _ w1 ⟨rfl, hdi, hc1⟩
  replace hH := hH.roll hdi hc1
  repeat' (first|refine X.O ?_|refine X.A ?_|refine X.B ?_|refine X.C ?_|refine X.D ?_|refine X.E ?_|refine X.F ?_|refine X.G ?_|refine X.H ?_|refine X.I ?_|fail)
  refine WL.call (below_any hH.dice 9 (by omega)) ?_
  rintro _ w2 ⟨⟨i', rfl, _, hi'⟩, hd2⟩
  have hi' := hi' (by omega)
  replace hH := hH.rolled hd2
  obtain ⟨i, hie⟩ : ∃ i : Nat, i' = i := ⟨i'.toNat, by omega⟩
  subst hie
  have hi9 : i < 9 := by omega
  repeat' (first|refine X.O ?_|refine X.A ?_|refine X.B ?_|refine X.C ?_|refine X.D ?_|refine X.E ?_|refine X.F ?_|refine X.G ?_|refine X.H ?_|refine X.I ?_|fail)
  refine WL.call (below_any hH.dice 9 (by omega)) ?_
  rintro _ w3 ⟨⟨k', rfl, _, hk'⟩, hd3⟩
  have hk' := hk' (by omega)
  replace hH := (hH.rolled hd3).have
  obtain ⟨k, hke⟩ : ∃ k : Nat, k' = k := ⟨k'.toNat, by omega⟩
  subst hke
  have hk9 : k < 9 := by omega
  repeat' (first|refine X.O ?_|refine X.A ?_|refine X.B ?_|refine X.C ?_|refine X.D ?_|refine X.E ?_|refine X.F ?_|refine X.G ?_|refine X.H ?_|refine X.I ?_|fail)
  refine WL.call (TreeAt_small i (by omega) _) ?_
  rintro _ w4 ⟨vi, rfl, hI4, hc4⟩
  replace hH := (hH.chg hc4).add 0 ⟨_, _, hI4⟩
  repeat' (first|refine X.O ?_|refine X.A ?_|refine X.B ?_|refine X.C ?_|refine X.D ?_|refine X.E ?_|refine X.F ?_|refine X.G ?_|refine X.H ?_|refine X.I ?_|fail)
  refine WL.call (TreeAt_small k (by omega) _) ?_
  rintro _ w5 ⟨vk, rfl, hK5, hc5⟩
  replace hH := (hH.chg hc5).add 1 ⟨_, _, hK5⟩
  repeat' (first|refine X.O ?_|refine X.A ?_|refine X.B ?_|refine X.C ?_|refine X.D ?_|refine X.E ?_|refine X.F ?_|refine X.G ?_|refine X.H ?_|refine X.I ?_|fail)
  refine WP.midE (fun l' x => ∃ a1 c1 a2 c2, Agree l' [(4, .int .i64 (i : Nat)), (5, .int .i64 (k : Nat)), (6, vi), (7, .int .i64 0), (8, vk), (9, .int .i64 0), (10, .slice a1 38 c1), (11, .slice a2 38 c2)] ∧ Own w5.heap.size 2 x (.slice a1 38 c1) (Ints zerosM) ∧ Own w5.heap.size 2 x (.slice a2 38 c2) (Ints zerosM) ∧ (∀ q, (Value.slice a1 38 c1).ownBlock = some q → (Value.slice a2 38 c2).ownBlock ≠ some q) ∧ Below w5.heap.size w5 x) ?_ ?_
  · have ez : Ints zerosM = List.replicate 38 (.int .i64 0) := by unfold zerosM Ints; rw [List.map_replicate]
    refine WP.forkedL (fun w' => True) [] (.two 0 (.q 2 (.o 1 (.q 3 .nil))) 1 (.o 0 (.q 2 (.q 3 .nil)))) (by kernel_rfl) mixed ?_
    intro w6 hs6
    have hz6 := hs6.size
    refine WV.two rfl rfl (o_make (n := 38) (by rfl) (by rfl) (by omega) (by unfold maxLen; omega) ?_) (o_make (n := 38) (by rfl) (by rfl) (by omega) (by unfold maxLen; omega) ?_)
    · intro v7 w7 hown7 hbl7 hz7
      refine ⟨trivial, ?_⟩
      refine WV.q rfl (q_s (by rfl)) trivial ?_
      refine WV.o rfl (o_make (n := 38) (by rfl) (by rfl) (by omega) (by unfold maxLen; omega) ?_)
      intro v8 w8 hown8 hbl8 hz8
      refine ⟨trivial, ?_⟩
      refine WV.q rfl (q_s (by rfl)) trivial ?_
      refine WV.nil (thenN ?_)
      have h7 := hown7.below hbl8 (Nat.le_refl _)
      obtain ⟨a1, c1, hv1, _⟩ := hown7.shape
      obtain ⟨a2, c2, hv2, _⟩ := hown8.shape
      rw [List.length_replicate] at hv1 hv2
      subst hv1 hv2
      exact ⟨a1, c1, a2, c2, ⟨rfl, rfl, rfl, rfl, rfl, rfl, rfl, rfl, trivial⟩, by rw [ez]; exact h7.lower (by omega), by rw [ez]; exact hown8.lower (by omega), fun q h1 h2 => by
        have := (hown7.block q h1).2
        have := (hown8.block q h2).1
        omega, ((hs6.below _).trans (Below.mono hbl7 (by omega))).trans (Below.mono hbl8 (by omega))⟩
    · intro v7 w7 hown7 hbl7 hz7
      refine ⟨trivial, ?_⟩
      refine WV.o rfl (o_make (n := 38) (by rfl) (by rfl) (by omega) (by unfold maxLen; omega) ?_)
      intro v8 w8 hown8 hbl8 hz8
      refine ⟨trivial, ?_⟩
      refine WV.q rfl (q_s (by rfl)) trivial ?_
      refine WV.q rfl (q_s (by rfl)) trivial ?_
      refine WV.nil (thenN ?_)
      have h7 := hown7.below hbl8 (Nat.le_refl _)
      obtain ⟨a2, c2, hv2, _⟩ := hown7.shape
      obtain ⟨a1, c1, hv1, _⟩ := hown8.shape
      rw [List.length_replicate] at hv1 hv2
      subst hv1 hv2
      exact ⟨a1, c1, a2, c2, ⟨rfl, rfl, rfl, rfl, rfl, rfl, rfl, rfl, trivial⟩, by rw [ez]; exact hown8.lower (by omega), by rw [ez]; exact h7.lower (by omega), fun q h1 h2 => by
        have := (hown7.block q h2).2
        have := (hown8.block q h1).1
        omega, ((hs6.below _).trans (Below.mono hbl7 (by omega))).trans (Below.mono hbl8 (by omega))⟩
  · rintro l' w6 ⟨a1, c1, a2, c2, hag, hB6, hX6, hap, hbl6⟩
    refine WP.frame _ hag ?_
    clear hag
    have hz6 := hbl6.size
    have hzl : zerosM.length = 38 := List.length_replicate
    repeat' (first|refine X.O ?_|refine X.A ?_|refine X.B ?_|refine X.C ?_|refine X.D ?_|refine X.E ?_|refine X.F ?_|refine X.G ?_|refine X.H ?_|refine X.I ?_|fail)
    refine WL.ixstore (j := i + 1) (u := .int .i64 1) hB6 (by rw [Ints_length, hzl]; omega) ?_
    intro p1 w7 hB7 hbl7 hz7 hf7
    rw [Ints_set] at hB7
    have hX7 := hX6.keep (w' := w7) fun q hq => hf7 q fun e => hap q e hq
    repeat' (first|refine X.O ?_|refine X.A ?_|refine X.B ?_|refine X.C ?_|refine X.D ?_|refine X.E ?_|refine X.F ?_|refine X.G ?_|refine X.H ?_|refine X.I ?_|fail)
    refine WL.ixstore (j := k + 1) (u := .int .i64 1) hX7 (by rw [Ints_length, hzl]; omega) ?_
    intro p2 w8 hX8 hbl8 hz8 hf8
    rw [Ints_set] at hX8
    have hB8 := hB7.keep (w' := w8) fun q hq => hf8 q fun e => hap q hq e
    have eb : zerosM.set (i + 1) 1 = unitAt i := rfl
    have ex : zerosM.set (k + 1) 1 = unitAt k := rfl
    rw [eb] at hB8
    rw [ex] at hX8
    have hbl58 : Below w5.heap.size w5 w8 := (hbl6.trans hbl7).trans hbl8
    have hz8 := hbl58.size
    replace hH := ((hH.next hbl58).add 2 ⟨_, _, hB8.toIS (Nat.zero_le _)⟩).add 3 ⟨_, _, hX8.toIS (Nat.zero_le _)⟩
    have hfact := fun n (hn : n < 37) h2 => actions (n := n) (k := k) (i := i) hn hk9 hi9 h2
    have hYl := actR_len (unitAt i) (unitAt k)
    have hact := unit_act i k
    repeat' (first|refine X.O ?_|refine X.A ?_|refine X.B ?_|refine X.C ?_|refine X.D ?_|refine X.E ?_|refine X.F ?_|refine X.G ?_|refine X.H ?_|refine X.I ?_|fail)
    refine WL.call (ActOn_any (hB8.toIS (Nat.zero_le _)) (hX8.toIS (Nat.zero_le _))) ?_
    rintro _ w9 ⟨vy, rfl, hN9⟩
    rw [hact] at hN9 ⊢
    obtain ⟨Y, hY⟩ : ∃ Y, actR modR cutLit (unitAt i) (unitAt k) = Y := ⟨_, rfl⟩
    simp only [hY] at hfact hYl
    rw [hY] at hN9
    replace hH := hH.new 4 hN9
    obtain ⟨a9, c9, hv9, _⟩ := hN9.1.shape
    rw [Ints_length, hYl] at hv9
    subst hv9
    clear hN9 hact
    repeat' (first|refine X.O ?_|refine X.A ?_|refine X.B ?_|refine X.C ?_|refine X.D ?_|refine X.E ?_|refine X.F ?_|refine X.G ?_|refine X.H ?_|refine X.I ?_|fail)
    try (refine WP.condD (by rfl) (fun hbad => False.elim (by first | exact hbad rfl | omega)) (fun _ => ?_))
    repeat' (first|refine X.O ?_|refine X.A ?_|refine X.B ?_|refine X.C ?_|refine X.D ?_|refine X.E ?_|refine X.F ?_|refine X.G ?_|refine X.H ?_|refine X.I ?_|fail)
    refine WP.loop (fun (n : Nat) => [(6, vi), (8, vk), (12, .slice a9 38 c9), (14, .int .i64 (n : Nat))])
      (fun n x => n ≤ 37 ∧ Have w x [(4, .slice a9 38 c9, Y), (1, vk, T37 k), (0, vi, T37 i)])
      (fun n => 37 - n) 0 ⟨rfl, rfl, rfl, rfl, trivial⟩ ⟨by omega, ⟨hH.bel, fun p hp => by
        simp only [List.mem_cons, List.not_mem_nil, or_false] at hp
        rcases hp with rfl | rfl | rfl
        · exact hH.get 4 rfl
        · exact hH.get 1 rfl
        · exact hH.get 0 rfl⟩⟩ ?_
    rintro n w10 ⟨hn1, hH10⟩
    repeat' (first|refine X.O ?_|refine X.A ?_|refine X.B ?_|refine X.C ?_|refine X.D ?_|refine X.E ?_|refine X.F ?_|refine X.G ?_|refine X.H ?_|refine X.I ?_|fail)
    first|refine X.J (fun _ => ?_) (fun _ => ?_)|refine X.L (fun _ => ?_) (fun _ => ?_)|refine X.M (fun _ => ?_) (fun _ => ?_)|refine X.R (fun _ => ?_) (fun _ => ?_)|fail
    · rename_i hlt
      have hn37 : n < 37 := by omega
      have hly : n + 1 < Y.length := by omega
      have hf := hfact n hn37 hly
      repeat' (first|refine X.O ?_|refine X.A ?_|refine X.B ?_|refine X.C ?_|refine X.D ?_|refine X.E ?_|refine X.F ?_|refine X.G ?_|refine X.H ?_|refine X.I ?_|fail)
      refine WL.call (TreeAt_small n hn37 _) ?_
      rintro _ w11 ⟨vn, rfl, hT11, hc11⟩
      have hH11 := (hH10.chg hc11).add 5 ⟨_, _, hT11⟩
      obtain ⟨_, _, hK11⟩ := hH11.get 1 rfl
      obtain ⟨_, _, hI11⟩ := hH11.get 0 rfl
      repeat' (first|refine X.O ?_|refine X.A ?_|refine X.B ?_|refine X.C ?_|refine X.D ?_|refine X.E ?_|refine X.F ?_|refine X.G ?_|refine X.H ?_|refine X.I ?_|fail)
      refine WL.call (CountCutsTo_any hT11 hK11 hI11 hn37 (by omega) (by omega)) ?_
      rintro _ w12 ⟨rfl, hbl12⟩
      have hH12 := hH11.next hbl12
      obtain ⟨_, _, hY12⟩ := hH12.get 4 rfl
      obtain ⟨C, hC⟩ : ∃ C, cntP k i (pairs37.getD n []) = C := ⟨_, rfl⟩
      rw [hC] at hf ⊢
      repeat' (first|refine X.O ?_|refine X.A ?_|refine X.B ?_|refine X.C ?_|refine X.D ?_|refine X.E ?_|refine X.F ?_|refine X.G ?_|refine X.H ?_|refine X.I ?_|fail)
      refine WP.drawn (fun w' => w'.heap = w12.heap) [(0, true), (1, true), (2, true), (3, true), (4, true), (5, true), (6, true), (7, true), (8, true), (9, true), (10, true), (11, true), (12, true), (13, false), (14, true), (15, true)] (by kernel_rfl) mixed ?_
      intro w13 hs13
      have hw13 : w13.heap = w12.heap := hs13.heap
      repeat' (first|refine X.U rfl ?_|refine X.V rfl ?_|refine X.W rfl ?_|refine X.Y rfl ?_|refine X.Z rfl ?_|refine WS.nil ?_|fail)
      refine WS.ixload (j := n + 1) rfl rfl (hY12.still RI.stable hs13) (List.getElem?_eq_getElem hly) (fun w' hw' => same_heap (hw'.trans hw13.symm)) hw13 ?_
      rintro p3 _ rfl
      repeat' (first|refine X.U rfl ?_|refine X.V rfl ?_|refine X.W rfl ?_|refine X.Y rfl ?_|refine X.Z rfl ?_|refine WS.nil ?_|fail)
      refine WS.call rfl (mod9_any _ _) ?_
      rintro _ _ ⟨rfl, rfl⟩
      refine ⟨hw13, ?_⟩
      rw [hf]
      repeat' (first|refine X.U rfl ?_|refine X.V rfl ?_|refine X.W rfl ?_|refine X.Y rfl ?_|refine X.Z rfl ?_|refine WS.nil ?_|fail)
      repeat' (first|refine X.O ?_|refine X.A ?_|refine X.B ?_|refine X.C ?_|refine X.D ?_|refine X.E ?_|refine X.F ?_|refine X.G ?_|refine X.H ?_|refine X.I ?_|fail)
      try (refine WP.condD (by rfl) (fun hbad => False.elim (by first | exact hbad rfl | omega)) (fun _ => ?_))
      repeat' (first|refine X.O ?_|refine X.A ?_|refine X.B ?_|refine X.C ?_|refine X.D ?_|refine X.E ?_|refine X.F ?_|refine X.G ?_|refine X.H ?_|refine X.I ?_|fail)
      have hH13 := hH12.still hs13
      exact ⟨n + 1, ⟨rfl, rfl, rfl, (by first|rfl|exact X.T (by omega)), trivial⟩, ⟨by omega, ⟨hH13.bel, fun p hp => by
        simp only [List.mem_cons, List.not_mem_nil, or_false] at hp
        rcases hp with rfl | rfl | rfl
        · exact hH13.get 4 rfl
        · exact hH13.get 1 rfl
        · exact hH13.get 0 rfl⟩⟩, by omega⟩
    · repeat' (first|refine X.O ?_|refine X.A ?_|refine X.B ?_|refine X.C ?_|refine X.D ?_|refine X.E ?_|refine X.F ?_|refine X.G ?_|refine X.H ?_|refine X.I ?_|fail)
      refine ⟨_, ret1 rfl (by rfl), ?_⟩
      exact ⟨rfl, hH10.bel⟩
end Go.Proofs
