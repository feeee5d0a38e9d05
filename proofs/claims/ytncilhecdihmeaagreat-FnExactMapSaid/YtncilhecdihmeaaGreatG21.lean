/- Drawn maps: l07Draw. -/
import Derived.Test.YtncilhecdihmeaaGreatG4
import Derived.Test.YtncilhecdihmeaaGreatD1
set_option maxRecDepth 8000
namespace Go.Rk
theorem zerosM_38 : zerosM.length = 38 := List.length_replicate
end Go.Rk
namespace Go.Proofs
open Go Go.Fw Go.RowKit Go.Rk
theorem drew_own {sb lo : Nat} {w w' : World} {v : Value} {us : List Value} (h : Own lo 2 w v us) (hd : Drew sb w w') (hs : sb < lo) : Own lo 2 w' v us :=
  h.keep fun k hk => hd.chg.block k (h.block k hk).2 (by have := (h.block k hk).1; omega)
theorem _root_.Go.Fw.Drew.into {sb B : Nat} {w a c : World} (h : Drew sb w a) (h' : Below B a c) (hB : w.heap.size ≤ B) (hs : sb < B) : Drew sb w c :=
  ⟨h.src.below h' hs, ⟨h'.os.trans h.chg.os, h'.tape.trans h.chg.tape, h'.output.trans h.chg.output, Nat.le_trans h.chg.size h'.size, fun k hk hd => (h'.block k (by omega)).trans (h.chg.block k hk hd)⟩⟩
set_option maxHeartbeats 1000000 in
theorem l07Draw_any {sb : Nat} {w : World} (h : Srce sb w) (n : Int) (hn : isN n = true) :
    Does Tryz.prog 128 [.pointer (some ⟨sb, 0, none⟩), .int .i64 n] w fun r w' => (∃ xs, Own w.heap.size 2 w' r (Ints xs) ∧ 1 ≤ xs.length ∧ xs.length = 38) ∧ Drew sb w w' := by
  have hlt := h.lt
  refine Does.enter Tryz.func128 Tryz.ntmps128 rfl (by rfl) ?_
  repeat' (first|refine X.O ?_|refine X.A ?_|refine X.B ?_|refine X.C ?_|refine X.D ?_|refine X.E ?_|refine X.F ?_|refine X.G ?_|refine X.H ?_|refine X.I ?_|fail)
  refine WL.step (o_lit (us := [.int .i64 n]) (by rfl) (by rfl) rfl (by decide) (one1 rfl) ?_)
  intro v1 w1 hown1 hbl1 hz1 _
  have hd1 : Drew sb w w1 := (Drew.refl h).thenBelow hbl1 hlt
  repeat' (first|refine X.O ?_|refine X.A ?_|refine X.B ?_|refine X.C ?_|refine X.D ?_|refine X.E ?_|refine X.F ?_|refine X.G ?_|refine X.H ?_|refine X.I ?_|fail)
  refine WL.call (l01Next_any hd1.src 6 (by omega)) ?_
  rintro _ w2 ⟨⟨y, rfl, _, hy⟩, hd2⟩
  have hy6 := hy (by omega)
  have hd02 := hd1.trans hd2
  have hz2 := hd2.chg.size
  have hown2 := drew_own hown1 hd2 hlt
  repeat' (first|refine X.O ?_|refine X.A ?_|refine X.B ?_|refine X.C ?_|refine X.D ?_|refine X.E ?_|refine X.F ?_|refine X.G ?_|refine X.H ?_|refine X.I ?_|fail)
  first|refine X.J (fun _ => ?_) (fun _ => ?_)|refine X.L (fun _ => ?_) (fun _ => ?_)|refine X.M (fun _ => ?_) (fun _ => ?_)|refine X.R (fun _ => ?_) (fun _ => ?_)|fail
  · rename_i hy0
    repeat' (first|refine X.O ?_|refine X.A ?_|refine X.B ?_|refine X.C ?_|refine X.D ?_|refine X.E ?_|refine X.F ?_|refine X.G ?_|refine X.H ?_|refine X.I ?_|fail)
    refine WL.call (l07Exact_any _) ?_
    intro v3 w3 hN3
    have hz3 := hN3.2.size
    have hd03 := hd02.into hN3.2 (by omega) (by omega)
    obtain ⟨a3, c3, hv3, _⟩ := hN3.1.shape
    repeat' (first|refine X.O ?_|refine X.A ?_|refine X.B ?_|refine X.C ?_|refine X.D ?_|refine X.E ?_|refine X.F ?_|refine X.G ?_|refine X.H ?_|refine X.I ?_|fail)
    refine WL.ixstore (j := 0) (u := .int .i64 n) hN3.1 (by rw [Ints_length, exactL_len]; omega) ?_
    intro p1 w4 hown4 hbl4 hz4 hf4
    rw [Ints_set] at hown4
    have hlen4 : (exactL.set 0 n).length = 38 := by rw [List.length_set, exactL_len]
    have hd04 : Drew sb w w4 := hd03.into hbl4 (by omega) (by omega)
    have hn4 : allN (exactL.set 0 n) = true := allN_set exactL_all 0 n hn
    obtain ⟨E, hE⟩ : ∃ E, exactL.set 0 n = E := ⟨_, rfl⟩
    rw [hE] at hown4 hlen4 hn4
    have hd4z := hd04.chg.size
    repeat' (first|refine X.O ?_|refine X.A ?_|refine X.B ?_|refine X.C ?_|refine X.D ?_|refine X.E ?_|refine X.F ?_|refine X.G ?_|refine X.H ?_|refine X.I ?_|fail)
    refine WL.call (l01Next_any hd04.src 2 (by omega)) ?_
    rintro _ w5 ⟨⟨y5, rfl, _, _⟩, hd5⟩
    have hd05 := hd04.trans hd5
    have hown5 := drew_own (hown4.lower (show w.heap.size ≤ w2.heap.size by omega)) hd5 hlt
    have hz5 := hd05.chg.size
    repeat' (first|refine X.O ?_|refine X.A ?_|refine X.B ?_|refine X.C ?_|refine X.D ?_|refine X.E ?_|refine X.F ?_|refine X.G ?_|refine X.H ?_|refine X.I ?_|fail)
    refine WP.midE (fun l' x => ∃ v6 X6, Agree l' [(0, .pointer (some ⟨sb, 0, none⟩)), (5, v6)] ∧ Own w.heap.size 2 x v6 (Ints X6) ∧ X6.length = 38 ∧ Drew sb w x) ?_ ?_
    · first|refine X.J (fun _ => ?_) (fun _ => ?_)|refine X.L (fun _ => ?_) (fun _ => ?_)|refine X.M (fun _ => ?_) (fun _ => ?_)|refine X.R (fun _ => ?_) (fun _ => ?_)|fail
      · repeat' (first|refine X.O ?_|refine X.A ?_|refine X.B ?_|refine X.C ?_|refine X.D ?_|refine X.E ?_|refine X.F ?_|refine X.G ?_|refine X.H ?_|refine X.I ?_|fail)
        refine WL.call (l01Number_any hd05.src) ?_
        rintro _ w6 ⟨⟨k, rfl, hk0, hk1⟩, hd6⟩
        have hown6 := drew_own hown5 hd6 hlt
        have hz6 := hd6.chg.size
        refine WL.call (l07Scale_any (hown6.toIS (Nat.zero_le _)) hlen4 hn4 (k := k) (by simp [isN]; omega)) ?_
        intro v7 w7 hN7
        repeat' (first|refine X.O ?_|refine X.A ?_|refine X.B ?_|refine X.C ?_|refine X.D ?_|refine X.E ?_|refine X.F ?_|refine X.G ?_|refine X.H ?_|refine X.I ?_|fail)
        exact ⟨v7, _, ⟨rfl, rfl, trivial⟩, hN7.1.lower (by omega), scaleML_len hlen4, (hd05.trans hd6).into hN7.2 (by omega) (by omega)⟩
      · repeat' (first|refine X.O ?_|refine X.A ?_|refine X.B ?_|refine X.C ?_|refine X.D ?_|refine X.E ?_|refine X.F ?_|refine X.G ?_|refine X.H ?_|refine X.I ?_|fail)
        exact ⟨v3, E, ⟨rfl, rfl, trivial⟩, hown5, hlen4, hd05⟩
    · rintro l' w6 ⟨v6, X6, hag, hown6, hX6, hd06⟩
      refine WP.frame _ hag ?_
      clear hag
      have hz6 := hd06.chg.size
      repeat' (first|refine X.O ?_|refine X.A ?_|refine X.B ?_|refine X.C ?_|refine X.D ?_|refine X.E ?_|refine X.F ?_|refine X.G ?_|refine X.H ?_|refine X.I ?_|fail)
      refine WL.call (l01Next_any hd06.src 3 (by omega)) ?_
      rintro _ w7 ⟨⟨c7, rfl, _, hc7⟩, hd7⟩
      have hc73 := hc7 (by omega)
      have hown7 := drew_own hown6 hd7 hlt
      have hd07 := hd06.trans hd7
      repeat' (first|refine X.O ?_|refine X.A ?_|refine X.B ?_|refine X.C ?_|refine X.D ?_|refine X.E ?_|refine X.F ?_|refine X.G ?_|refine X.H ?_|refine X.I ?_|fail)
      refine WP.loop (fun (s : Nat × List Int) => [(0, .pointer (some ⟨sb, 0, none⟩)), (5, v6), (6, .int .i64 (s.1 : Nat))])
        (fun s w8 => s.2.length = 38 ∧ s.1 ≤ 3 ∧ Own w.heap.size 2 w8 v6 (Ints s.2) ∧ Drew sb w w8) (fun s => s.1) (c7.toNat, X6) ⟨rfl, rfl, X.T (by dsimp only; omega), trivial⟩ ⟨hX6, by dsimp only; omega, hown7, hd07⟩ ?_
      rintro ⟨m, Y⟩ w8 ⟨hY, hm3, hown8, hd08⟩
      dsimp only at hY hm3 hown8 ⊢
      repeat' (first|refine X.O ?_|refine X.A ?_|refine X.B ?_|refine X.C ?_|refine X.D ?_|refine X.E ?_|refine X.F ?_|refine X.G ?_|refine X.H ?_|refine X.I ?_|fail)
      first|refine X.J (fun _ => ?_) (fun _ => ?_)|refine X.L (fun _ => ?_) (fun _ => ?_)|refine X.M (fun _ => ?_) (fun _ => ?_)|refine X.R (fun _ => ?_) (fun _ => ?_)|fail
      · rename_i hm
        repeat' (first|refine X.O ?_|refine X.A ?_|refine X.B ?_|refine X.C ?_|refine X.D ?_|refine X.E ?_|refine X.F ?_|refine X.G ?_|refine X.H ?_|refine X.I ?_|fail)
        refine WL.call (l01Next_any hd08.src 37 (by omega)) ?_
        rintro _ w9 ⟨⟨j, rfl, _, hj⟩, hd9⟩
        have hj37 := hj (by omega)
        have hown9 := drew_own hown8 hd9 hlt
        have hd09 := hd08.trans hd9
        repeat' (first|refine X.O ?_|refine X.A ?_|refine X.B ?_|refine X.C ?_|refine X.D ?_|refine X.E ?_|refine X.F ?_|refine X.G ?_|refine X.H ?_|refine X.I ?_|fail)
        refine WL.call (l01Number_any hd09.src) ?_
        rintro _ w10 ⟨⟨k, rfl, hk0, hk1⟩, hd10⟩
        have hown10 := drew_own hown9 hd10 hlt
        have hd010 := hd09.trans hd10
        refine WL.ixstore (j := j.toNat + 1) (u := .int .i64 k) hown10 (by rw [Ints_length]; omega) ?_
        intro p2 w11 hown11 hbl11 hz11 hf11
        rw [Ints_set] at hown11
        repeat' (first|refine X.O ?_|refine X.A ?_|refine X.B ?_|refine X.C ?_|refine X.D ?_|refine X.E ?_|refine X.F ?_|refine X.G ?_|refine X.H ?_|refine X.I ?_|fail)
        exact ⟨(m - 1, Y.set (j.toNat + 1) k), ⟨rfl, rfl, (by first|rfl|exact X.T (by omega)), trivial⟩, ⟨by dsimp only; rw [List.length_set]; exact hY, by dsimp only; omega, hown11, hd010.into hbl11 (Nat.le_refl _) hlt⟩, by dsimp only; omega⟩
      · repeat' (first|refine X.O ?_|refine X.A ?_|refine X.B ?_|refine X.C ?_|refine X.D ?_|refine X.E ?_|refine X.F ?_|refine X.G ?_|refine X.H ?_|refine X.I ?_|fail)
        refine ⟨_, ret1 rfl (by rfl), ?_⟩
        exact ⟨⟨Y, hown8, by omega, hY⟩, hd08⟩
  · rename_i hy0
    repeat' (first|refine X.O ?_|refine X.A ?_|refine X.B ?_|refine X.C ?_|refine X.D ?_|refine X.E ?_|refine X.F ?_|refine X.G ?_|refine X.H ?_|refine X.I ?_|fail)
    first|refine X.J (fun _ => ?_) (fun _ => ?_)|refine X.L (fun _ => ?_) (fun _ => ?_)|refine X.M (fun _ => ?_) (fun _ => ?_)|refine X.R (fun _ => ?_) (fun _ => ?_)|fail
    · rename_i hy1
      repeat' (first|refine X.O ?_|refine X.A ?_|refine X.B ?_|refine X.C ?_|refine X.D ?_|refine X.E ?_|refine X.F ?_|refine X.G ?_|refine X.H ?_|refine X.I ?_|fail)
      refine WL.step (o_make (n := 38) (by rfl) (by rfl) (by omega) (by unfold maxLen; omega) ?_)
      intro v3 w3 hown3 hbl3 hz3
      have hown3' : Own w2.heap.size 2 w3 v3 (Ints zerosM) := by
        have e : Ints zerosM = List.replicate 38 (.int .i64 0) := by unfold zerosM Ints; rw [List.map_replicate]
        rw [e]; exact hown3
      have hd03 := hd02.into hbl3 (by omega) (by omega)
      repeat' (first|refine X.O ?_|refine X.A ?_|refine X.B ?_|refine X.C ?_|refine X.D ?_|refine X.E ?_|refine X.F ?_|refine X.G ?_|refine X.H ?_|refine X.I ?_|fail)
      refine WL.ixstore (j := 0) (u := .int .i64 n) hown3' (by rw [Ints_length, zerosM_38]; omega) ?_
      intro p1 w4 hown4 hbl4 hz4 hf4
      rw [Ints_set] at hown4
      have hlen4 : (zerosM.set 0 n).length = 38 := by rw [List.length_set, zerosM_38]
      have hd04 : Drew sb w w4 := hd03.into hbl4 (by omega) (by omega)
      obtain ⟨E, hE⟩ : ∃ E, zerosM.set 0 n = E := ⟨_, rfl⟩
      rw [hE] at hown4 hlen4
      repeat' (first|refine X.O ?_|refine X.A ?_|refine X.B ?_|refine X.C ?_|refine X.D ?_|refine X.E ?_|refine X.F ?_|refine X.G ?_|refine X.H ?_|refine X.I ?_|fail)
      refine WL.call (l01Next_any hd04.src 4 (by omega)) ?_
      rintro _ w7 ⟨⟨c7, rfl, _, hc7⟩, hd7⟩
      have hc73 := hc7 (by omega)
      have hown7 := drew_own (hown4.lower (show w.heap.size ≤ w2.heap.size by omega)) hd7 hlt
      have hd07 := hd04.trans hd7
      repeat' (first|refine X.O ?_|refine X.A ?_|refine X.B ?_|refine X.C ?_|refine X.D ?_|refine X.E ?_|refine X.F ?_|refine X.G ?_|refine X.H ?_|refine X.I ?_|fail)
      refine WP.loop (fun (s : Nat × List Int) => [(0, .pointer (some ⟨sb, 0, none⟩)), (5, v3), (7, .int .i64 (s.1 : Nat))])
        (fun s w8 => s.2.length = 38 ∧ s.1 ≤ 4 ∧ Own w.heap.size 2 w8 v3 (Ints s.2) ∧ Drew sb w w8) (fun s => s.1) ((1 + c7).toNat, E) ⟨rfl, rfl, X.T (by dsimp only; omega), trivial⟩ ⟨hlen4, by dsimp only; omega, hown7, hd07⟩ ?_
      rintro ⟨m, Y⟩ w8 ⟨hY, hm3, hown8, hd08⟩
      dsimp only at hY hm3 hown8 ⊢
      repeat' (first|refine X.O ?_|refine X.A ?_|refine X.B ?_|refine X.C ?_|refine X.D ?_|refine X.E ?_|refine X.F ?_|refine X.G ?_|refine X.H ?_|refine X.I ?_|fail)
      first|refine X.J (fun _ => ?_) (fun _ => ?_)|refine X.L (fun _ => ?_) (fun _ => ?_)|refine X.M (fun _ => ?_) (fun _ => ?_)|refine X.R (fun _ => ?_) (fun _ => ?_)|fail
      · rename_i hm
        repeat' (first|refine X.O ?_|refine X.A ?_|refine X.B ?_|refine X.C ?_|refine X.D ?_|refine X.E ?_|refine X.F ?_|refine X.G ?_|refine X.H ?_|refine X.I ?_|fail)
        refine WL.call (l01Next_any hd08.src 8 (by omega)) ?_
        rintro _ w9 ⟨⟨j, rfl, _, hj⟩, hd9⟩
        have hj37 := hj (by omega)
        have hown9 := drew_own hown8 hd9 hlt
        have hd09 := hd08.trans hd9
        repeat' (first|refine X.O ?_|refine X.A ?_|refine X.B ?_|refine X.C ?_|refine X.D ?_|refine X.E ?_|refine X.F ?_|refine X.G ?_|refine X.H ?_|refine X.I ?_|fail)
        refine WL.call (l01Number_any hd09.src) ?_
        rintro _ w10 ⟨⟨k, rfl, hk0, hk1⟩, hd10⟩
        have hown10 := drew_own hown9 hd10 hlt
        have hd010 := hd09.trans hd10
        refine WL.ixstore (j := j.toNat + 1) (u := .int .i64 k) hown10 (by rw [Ints_length]; omega) ?_
        intro p2 w11 hown11 hbl11 hz11 hf11
        rw [Ints_set] at hown11
        repeat' (first|refine X.O ?_|refine X.A ?_|refine X.B ?_|refine X.C ?_|refine X.D ?_|refine X.E ?_|refine X.F ?_|refine X.G ?_|refine X.H ?_|refine X.I ?_|fail)
        exact ⟨(m - 1, Y.set (j.toNat + 1) k), ⟨rfl, rfl, (by first|rfl|exact X.T (by omega)), trivial⟩, ⟨by dsimp only; rw [List.length_set]; exact hY, by dsimp only; omega, hown11, hd010.into hbl11 (Nat.le_refl _) hlt⟩, by dsimp only; omega⟩
      · repeat' (first|refine X.O ?_|refine X.A ?_|refine X.B ?_|refine X.C ?_|refine X.D ?_|refine X.E ?_|refine X.F ?_|refine X.G ?_|refine X.H ?_|refine X.I ?_|fail)
        refine ⟨_, ret1 rfl (by rfl), ?_⟩
        exact ⟨⟨Y, hown8, by omega, hY⟩, hd08⟩
    · rename_i hy1
      repeat' (first|refine X.O ?_|refine X.A ?_|refine X.B ?_|refine X.C ?_|refine X.D ?_|refine X.E ?_|refine X.F ?_|refine X.G ?_|refine X.H ?_|refine X.I ?_|fail)
      refine WL.call (l01List_any hd02.src 37 (by omega)) ?_
      rintro v3 w3 ⟨⟨xs, hO3, hx37, _⟩, hd3⟩
      have hown3 := drew_own hown2 hd3 hlt
      have hd03 := hd02.trans hd3
      have hz3 := hd03.chg.size
      refine WL.step (o_append (by rfl) (by rfl) hown3 hO3.own.src (fun u hu => by
        obtain ⟨z, _, rfl⟩ := List.mem_map.1 hu
        rfl) (by rw [Ints_length, hx37]; simp [maxLen]) (by rw [Ints_length, hx37]; simp) (by omega) ?_)
      intro v4 w4 hown4 _ hbl4 _
      repeat' (first|refine X.O ?_|refine X.A ?_|refine X.B ?_|refine X.C ?_|refine X.D ?_|refine X.E ?_|refine X.F ?_|refine X.G ?_|refine X.H ?_|refine X.I ?_|fail)
      refine ⟨_, ret1 rfl (by rfl), ?_⟩
      exact ⟨⟨n :: xs, hown4, by simp, by simp [hx37]⟩, hd03.into hbl4 (Nat.le_refl _) hlt⟩
end Go.Proofs
/- Drawn maps: l01Spoil, l07DrawAny, DrawAgreeTo, DrawOrderOfMap. -/
set_option maxRecDepth 8000
namespace Go.Proofs
open Go Go.Fw Go.RowKit Go.Rk
theorem l01Spoil_any {sb : Nat} {w : World} (h : Srce sb w) : Does Tryz.prog 129 [.pointer (some ⟨sb, 0, none⟩)] w fun r w' => (∃ y, r = .int .i64 y) ∧ Drew sb w w' := by
  have hlt := h.lt
  refine Does.enter Tryz.func129 Tryz.ntmps129 rfl (by rfl) ?_
  repeat' (first|refine X.O ?_|refine X.A ?_|refine X.B ?_|refine X.C ?_|refine X.D ?_|refine X.E ?_|refine X.F ?_|refine X.G ?_|refine X.H ?_|refine X.I ?_|fail)
  refine WL.call (l01Next_any h 30 (by omega)) ?_
  rintro _ w1 ⟨⟨y, rfl, _, _⟩, hd1⟩
  have hz1 := hd1.chg.size
  repeat' (first|refine X.O ?_|refine X.A ?_|refine X.B ?_|refine X.C ?_|refine X.D ?_|refine X.E ?_|refine X.F ?_|refine X.G ?_|refine X.H ?_|refine X.I ?_|fail)
  first|refine X.J (fun _ => ?_) (fun _ => ?_)|refine X.L (fun _ => ?_) (fun _ => ?_)|refine X.M (fun _ => ?_) (fun _ => ?_)|refine X.R (fun _ => ?_) (fun _ => ?_)|fail
  · repeat' (first|refine X.O ?_|refine X.A ?_|refine X.B ?_|refine X.C ?_|refine X.D ?_|refine X.E ?_|refine X.F ?_|refine X.G ?_|refine X.H ?_|refine X.I ?_|fail)
    refine WL.step (o_lit (us := Ints [-1, 10007, 1099511627776, -4611686018427387904]) (by rfl) (by rfl) rfl (by decide) (fun u hu => by
      obtain ⟨z, _, rfl⟩ := List.mem_map.1 hu
      rfl) ?_)
    intro v2 w2 hown2 hbl2 hz2 _
    have hd2 := hd1.into hbl2 (by omega) (by omega)
    refine WL.call (l01Pick_any hd2.src (hown2.toIS (Nat.le_refl _)) (by omega) (by simp)) ?_
    rintro _ w3 ⟨⟨k, rfl, _⟩, hd3⟩
    repeat' (first|refine X.O ?_|refine X.A ?_|refine X.B ?_|refine X.C ?_|refine X.D ?_|refine X.E ?_|refine X.F ?_|refine X.G ?_|refine X.H ?_|refine X.I ?_|fail)
    refine ⟨_, ret1 rfl (by rfl), ?_⟩
    exact ⟨⟨k, rfl⟩, hd2.trans hd3⟩
  · repeat' (first|refine X.O ?_|refine X.A ?_|refine X.B ?_|refine X.C ?_|refine X.D ?_|refine X.E ?_|refine X.F ?_|refine X.G ?_|refine X.H ?_|refine X.I ?_|fail)
    refine WL.call (l01Number_any hd1.src) ?_
    rintro _ w2 ⟨⟨k, rfl, _, _⟩, hd2⟩
    repeat' (first|refine X.O ?_|refine X.A ?_|refine X.B ?_|refine X.C ?_|refine X.D ?_|refine X.E ?_|refine X.F ?_|refine X.G ?_|refine X.H ?_|refine X.I ?_|fail)
    refine ⟨_, ret1 rfl (by rfl), ?_⟩
    exact ⟨⟨k, rfl⟩, hd1.trans hd2⟩
theorem l07DrawAny_any {sb : Nat} {w : World} (h : Srce sb w) : Does Tryz.prog 80 [.pointer (some ⟨sb, 0, none⟩)] w fun r w' => (∃ xs, IS w.heap.size w'.heap.size w' r xs ∧ 1 ≤ xs.length ∧ xs.length ≤ 38) ∧ Drew sb w w' := by
  have hlt := h.lt
  refine Does.enter Tryz.func80 Tryz.ntmps80 rfl (by rfl) ?_
  repeat' (first|refine X.O ?_|refine X.A ?_|refine X.B ?_|refine X.C ?_|refine X.D ?_|refine X.E ?_|refine X.F ?_|refine X.G ?_|refine X.H ?_|refine X.I ?_|fail)
  refine WL.call (l07Draw_any h 1 (by kernel_rfl)) ?_
  rintro v1 w1 ⟨⟨xs, hown1, h1, h38⟩, hd1⟩
  have hz1 := hd1.chg.size
  obtain ⟨a1, c1, hv1, _⟩ := hown1.shape
  rw [Ints_length, h38] at hv1
  subst hv1
  repeat' (first|refine X.O ?_|refine X.A ?_|refine X.B ?_|refine X.C ?_|refine X.D ?_|refine X.E ?_|refine X.F ?_|refine X.G ?_|refine X.H ?_|refine X.I ?_|fail)
  refine WL.call (l01Next_any hd1.src 24 (by omega)) ?_
  rintro _ w2 ⟨⟨y, rfl, _, _⟩, hd2⟩
  have hd02 := hd1.trans hd2
  have hz2 := hd02.chg.size
  have hown2 := drew_own hown1 hd2 hlt
  repeat' (first|refine X.O ?_|refine X.A ?_|refine X.B ?_|refine X.C ?_|refine X.D ?_|refine X.E ?_|refine X.F ?_|refine X.G ?_|refine X.H ?_|refine X.I ?_|fail)
  first|refine X.J (fun _ => ?_) (fun _ => ?_)|refine X.L (fun _ => ?_) (fun _ => ?_)|refine X.M (fun _ => ?_) (fun _ => ?_)|refine X.R (fun _ => ?_) (fun _ => ?_)|fail
  · repeat' (first|refine X.O ?_|refine X.A ?_|refine X.B ?_|refine X.C ?_|refine X.D ?_|refine X.E ?_|refine X.F ?_|refine X.G ?_|refine X.H ?_|refine X.I ?_|fail)
    refine WL.call (l01Next_any hd02.src 3 (by omega)) ?_
    rintro _ w3 ⟨⟨k, rfl, _, _⟩, hd3⟩
    have hown3 := drew_own hown2 hd3 hlt
    have hd03 := hd02.trans hd3
    have hz3 := hd03.chg.size
    refine WL.ixstore (j := 0) (u := .int .i64 k) hown3 (by rw [Ints_length]; omega) ?_
    intro p1 w4 hown4 hbl4 hz4 hf4
    rw [Ints_set] at hown4
    repeat' (first|refine X.O ?_|refine X.A ?_|refine X.B ?_|refine X.C ?_|refine X.D ?_|refine X.E ?_|refine X.F ?_|refine X.G ?_|refine X.H ?_|refine X.I ?_|fail)
    refine ⟨_, ret1 rfl (by rfl), ?_⟩
    exact ⟨⟨_, hown4.toIS (Nat.le_refl _), by rw [List.length_set]; omega, by rw [List.length_set]; omega⟩, hd03.into hbl4 (Nat.le_refl _) hlt⟩
  · repeat' (first|refine X.O ?_|refine X.A ?_|refine X.B ?_|refine X.C ?_|refine X.D ?_|refine X.E ?_|refine X.F ?_|refine X.G ?_|refine X.H ?_|refine X.I ?_|fail)
    first|refine X.J (fun _ => ?_) (fun _ => ?_)|refine X.L (fun _ => ?_) (fun _ => ?_)|refine X.M (fun _ => ?_) (fun _ => ?_)|refine X.R (fun _ => ?_) (fun _ => ?_)|fail
    · repeat' (first|refine X.O ?_|refine X.A ?_|refine X.B ?_|refine X.C ?_|refine X.D ?_|refine X.E ?_|refine X.F ?_|refine X.G ?_|refine X.H ?_|refine X.I ?_|fail)
      refine WL.call (l01Next_any hd02.src 38 (by omega)) ?_
      rintro _ w3 ⟨⟨j, rfl, _, hj⟩, hd3⟩
      have hj37 := hj (by omega)
      have hown3 := drew_own hown2 hd3 hlt
      have hd03 := hd02.trans hd3
      repeat' (first|refine X.O ?_|refine X.A ?_|refine X.B ?_|refine X.C ?_|refine X.D ?_|refine X.E ?_|refine X.F ?_|refine X.G ?_|refine X.H ?_|refine X.I ?_|fail)
      refine WL.call (l01Spoil_any hd03.src) ?_
      rintro _ w4 ⟨⟨k, rfl⟩, hd4⟩
      have hown4 := drew_own hown3 hd4 hlt
      have hd04 := hd03.trans hd4
      have hz4 := hd04.chg.size
      refine WL.ixstore (j := j.toNat) (u := .int .i64 k) hown4 (by rw [Ints_length]; omega) ?_
      intro p1 w5 hown5 hbl5 hz5 hf5
      rw [Ints_set] at hown5
      repeat' (first|refine X.O ?_|refine X.A ?_|refine X.B ?_|refine X.C ?_|refine X.D ?_|refine X.E ?_|refine X.F ?_|refine X.G ?_|refine X.H ?_|refine X.I ?_|fail)
      refine ⟨_, ret1 rfl (by rfl), ?_⟩
      exact ⟨⟨_, hown5.toIS (Nat.le_refl _), by rw [List.length_set]; omega, by rw [List.length_set]; omega⟩, hd04.into hbl5 (Nat.le_refl _) hlt⟩
    · repeat' (first|refine X.O ?_|refine X.A ?_|refine X.B ?_|refine X.C ?_|refine X.D ?_|refine X.E ?_|refine X.F ?_|refine X.G ?_|refine X.H ?_|refine X.I ?_|fail)
      first|refine X.J (fun _ => ?_) (fun _ => ?_)|refine X.L (fun _ => ?_) (fun _ => ?_)|refine X.M (fun _ => ?_) (fun _ => ?_)|refine X.R (fun _ => ?_) (fun _ => ?_)|fail
      · repeat' (first|refine X.O ?_|refine X.A ?_|refine X.B ?_|refine X.C ?_|refine X.D ?_|refine X.E ?_|refine X.F ?_|refine X.G ?_|refine X.H ?_|refine X.I ?_|fail)
        refine WL.step (o_sliceL (i := 1) (by rfl) (by rfl) (by omega) ?_)
        repeat' (first|refine X.O ?_|refine X.A ?_|refine X.B ?_|refine X.C ?_|refine X.D ?_|refine X.E ?_|refine X.F ?_|refine X.G ?_|refine X.H ?_|refine X.I ?_|fail)
        refine ⟨_, ret1 rfl (by rfl), ?_⟩
        exact ⟨⟨_, (hown2.toIS (Nat.le_refl _)).drop (i := 1) (by omega), by rw [List.length_drop]; omega, by rw [List.length_drop]; omega⟩, hd02⟩
      · repeat' (first|refine X.O ?_|refine X.A ?_|refine X.B ?_|refine X.C ?_|refine X.D ?_|refine X.E ?_|refine X.F ?_|refine X.G ?_|refine X.H ?_|refine X.I ?_|fail)
        refine ⟨_, ret1 rfl (by rfl), ?_⟩
        exact ⟨⟨_, hown2.toIS (Nat.le_refl _), by omega, by omega⟩, hd02⟩
theorem DrawAgreeTo_any {lo hi : Nat} {w : World} {v : Value} {bs : List Int} (h : IU lo hi w v bs) (hn : bs.length ≤ 4096) :
    Does Tryz.prog 22 [v] w fun r w' => (∃ v5 v6 xs ys, r = .tuple #[v5, v6] ∧ IS w.heap.size w'.heap.size w' v5 xs ∧ IS w.heap.size w'.heap.size w' v6 ys ∧ xs.length ≤ 38 ∧ ys.length ≤ 38) ∧ Below w.heap.size w w' := by
  refine Does.enter Tryz.func22 Tryz.ntmps22 rfl (by rfl) ?_
  repeat' (first|refine X.O ?_|refine X.A ?_|refine X.B ?_|refine X.C ?_|refine X.D ?_|refine X.E ?_|refine X.F ?_|refine X.G ?_|refine X.H ?_|refine X.I ?_|fail)
  refine WL.call (l01From_any h hn) ?_
  rintro _ w1 ⟨rfl, hsrc1, hc1⟩
  have hz1 := hc1.size
  have hlt1 := hsrc1.lt
  have hbl1 : Below w.heap.size w w1 := hc1.below (by omega) (Or.inr (Nat.le_refl _))
  obtain ⟨sb, hsb⟩ : ∃ sb, w.heap.size = sb := ⟨_, rfl⟩
  rw [hsb] at hsrc1 hlt1 ⊢
  repeat' (first|refine X.O ?_|refine X.A ?_|refine X.B ?_|refine X.C ?_|refine X.D ?_|refine X.E ?_|refine X.F ?_|refine X.G ?_|refine X.H ?_|refine X.I ?_|fail)
  refine WL.call (l07DrawAny_any hsrc1) ?_
  rintro v5 w2 ⟨⟨xs, hx, hx1, hx38⟩, hd2⟩
  have hz2 := hd2.chg.size
  repeat' (first|refine X.O ?_|refine X.A ?_|refine X.B ?_|refine X.C ?_|refine X.D ?_|refine X.E ?_|refine X.F ?_|refine X.G ?_|refine X.H ?_|refine X.I ?_|fail)
  refine WL.call (l07DrawAny_any hd2.src) ?_
  rintro v6 w3 ⟨⟨ys, hy, hy1, hy38⟩, hd3⟩
  have hz3 := hd3.chg.size
  have hx3 := RI.chg hx hd3.chg (Or.inr (by omega))
  have hd13 := hd2.trans hd3
  repeat' (first|refine X.O ?_|refine X.A ?_|refine X.B ?_|refine X.C ?_|refine X.D ?_|refine X.E ?_|refine X.F ?_|refine X.G ?_|refine X.H ?_|refine X.I ?_|fail)
  refine WL.call (l01Next_any hd13.src 3 (by omega)) ?_
  rintro _ w4 ⟨⟨c, rfl, _, _⟩, hd4⟩
  have hz4 := hd4.chg.size
  have hx4 := RI.chg hx3 hd4.chg (Or.inr (by omega))
  have hy4 := RI.chg hy hd4.chg (Or.inr (by omega))
  have hd14 := hd13.trans hd4
  have fin : ∀ wz, Drew sb w1 wz → Below sb w wz := fun wz hd => by
    rw [hsb] at hbl1
    exact hbl1.trans (hd.chg.below (by omega) (Or.inl (Nat.le_refl _)))
  repeat' (first|refine X.O ?_|refine X.A ?_|refine X.B ?_|refine X.C ?_|refine X.D ?_|refine X.E ?_|refine X.F ?_|refine X.G ?_|refine X.H ?_|refine X.I ?_|fail)
  first|refine X.J (fun _ => ?_) (fun _ => ?_)|refine X.L (fun _ => ?_) (fun _ => ?_)|refine X.M (fun _ => ?_) (fun _ => ?_)|refine X.R (fun _ => ?_) (fun _ => ?_)|fail
  · repeat' (first|refine X.O ?_|refine X.A ?_|refine X.B ?_|refine X.C ?_|refine X.D ?_|refine X.E ?_|refine X.F ?_|refine X.G ?_|refine X.H ?_|refine X.I ?_|fail)
    refine WL.call (l01Own_grow hx4 (by omega)) ?_
    intro v7 w5 hN5
    have hz5 := hN5.2.size
    obtain ⟨a7, c7, hv7, _⟩ := hN5.1.shape
    rw [Ints_length] at hv7
    subst hv7
    have hd15 := hd14.into hN5.2 (by omega) (by omega)
    have hx5 := hx4.below RI.stable hN5.2 (by omega)
    repeat' (first|refine X.O ?_|refine X.A ?_|refine X.B ?_|refine X.C ?_|refine X.D ?_|refine X.E ?_|refine X.F ?_|refine X.G ?_|refine X.H ?_|refine X.I ?_|fail)
    refine WL.call (l01Next_any hd15.src (xs.length : Nat) (by omega)) ?_
    rintro _ w6 ⟨⟨j, rfl, _, hj⟩, hd6⟩
    have hjx := hj (by omega)
    have hz6 := hd6.chg.size
    have hown6 := drew_own hN5.1 hd6 (by omega)
    have hx6 := RI.chg hx5 hd6.chg (Or.inr (by omega))
    repeat' (first|refine X.O ?_|refine X.A ?_|refine X.B ?_|refine X.C ?_|refine X.D ?_|refine X.E ?_|refine X.F ?_|refine X.G ?_|refine X.H ?_|refine X.I ?_|fail)
    refine WL.call (l01Number_any (hd15.trans hd6).src) ?_
    rintro _ w7 ⟨⟨k, rfl, hk0, hk1⟩, hd7⟩
    have hz7 := hd7.chg.size
    have hown7 := drew_own hown6 hd7 (by omega)
    have hx7 := RI.chg hx6 hd7.chg (Or.inr (by omega))
    refine WL.ixstore (j := j.toNat) (u := .int .i64 k) hown7 (by rw [Ints_length]; omega) ?_
    intro p1 w8 hown8 hbl8 hz8 hf8
    rw [Ints_set] at hown8
    have hd18 := ((hd15.trans hd6).trans hd7).into hbl8 (by omega) (by omega)
    have hx8 := hx7.below RI.stable hbl8 (by omega)
    repeat' (first|refine X.O ?_|refine X.A ?_|refine X.B ?_|refine X.C ?_|refine X.D ?_|refine X.E ?_|refine X.F ?_|refine X.G ?_|refine X.H ?_|refine X.I ?_|fail)
    refine ⟨_, ret2 rfl (by rfl) (by rfl), ?_⟩
    exact ⟨⟨_, _, _, _, rfl, hx8.wide RI.stable (by omega) (by omega) (Nat.le_refl _), (hown8.toIS (lo' := sb) (by omega)), hx38, by rw [List.length_set]; exact hx38⟩, fin _ hd18⟩
  · repeat' (first|refine X.O ?_|refine X.A ?_|refine X.B ?_|refine X.C ?_|refine X.D ?_|refine X.E ?_|refine X.F ?_|refine X.G ?_|refine X.H ?_|refine X.I ?_|fail)
    refine ⟨_, ret2 rfl (by rfl) (by rfl), ?_⟩
    exact ⟨⟨_, _, _, _, rfl, hx4.wide RI.stable (by omega) (by omega) (Nat.le_refl _), hy4.wide RI.stable (by omega) (by omega) (Nat.le_refl _), hx38, hy38⟩, fin _ hd14⟩
end Go.Proofs
