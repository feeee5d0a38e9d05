/- Drawn maps: l07Draw. -/
import Derived.Test.YtncilhecdihmeaaGreatG4
import Derived.Test.YtncilhecdihmeaaGreatD1
set_option maxRecDepth 8000
namespace Go.Rk
theorem zerosM_38 : zerosM.length = 38 := List.length_replicate
end Go.Rk
namespace Go.Proofs
open Go Go.Fw Go.RowKit Go.Rk
theorem drew_own {sb lo : Nat} {w w' : World} {v : Value} {us : List Value} (h : Own lo 2 w v us) (hd : Drew sb w w') (hs : sb < lo) : Own lo 2 w' v us :=
  h.keep fun k hk => hd.chg.block k (h.block k hk).2 (by have := (h.block k hk).1; omega)
theorem _root_.Go.Fw.Drew.into {sb B : Nat} {w a c : World} (h : Drew sb w a) (h' : Below B a c) (hB : w.heap.size ≤ B) (hs : sb < B) : Drew sb w c :=
  ⟨h.src.below h' hs, ⟨h'.os.trans h.chg.os, h'.tape.trans h.chg.tape, h'.output.trans h.chg.output, Nat.le_trans h.chg.size h'.size, fun k hk hd => (h'.block k (by omega)).trans (h.chg.block k hk hd)⟩⟩
set_option maxHeartbeats 1000000 in
theorem l07Draw_any {sb : Nat} {w : World} (h : Srce sb w) (n : Int) (hn : isN n = true) :
    Does Tryz.prog 128 [.pointer (some ⟨sb, 0, none⟩), .int .i64 n] w fun r w' => (∃ xs, Own w.heap.size 2 w' r (Ints xs) ∧ 1 ≤ xs.length ∧ xs.length = 38) ∧ Drew sb w w' := by
  have hlt := h.lt
  refine Does.enter Tryz.func128 Tryz.ntmps128 rfl (by rfl) ?_
  repeat' (first|refine X.O ?_|refine X.A ?_|refine X.B ?_|refine X.C ?_|refine X.D ?_|refine X.E ?_|refine X.F ?_|refine X.G ?_|refine X.H ?_|refine X.I ?_|fail)
  refine WL.step (o_lit (us := [.int .i64 n]) (by rfl) (by rfl) rfl (by decide) (one1 rfl) ?_)
  intro v1 w1 hown1 hbl1 hz1 _
  have hd1 : Drew sb w w1 := (Drew.refl h).thenBelow hbl1 hlt
  repeat' (first|refine X.O ?_|refine X.A ?_|refine X.B ?_|refine X.C ?_|refine X.D ?_|refine X.E ?_|refine X.F ?_|refine X.G ?_|refine X.H ?_|refine X.I ?_|fail)
  refine WL.call (l01Next_any hd1.src 6 (by omega)) ?_
  rintro _ w2 ⟨⟨y, rfl, _, hy⟩, hd2⟩
  have hy6 := hy (by omega)
  have hd02 := hd1.trans hd2
  have hz2 := hd2.chg.size
  have hown2 := drew_own hown1 hd2 hlt
  repeat' (first|refine X.O ?_|refine X.A ?_|refine X.B ?_|refine X.C ?_|refine X.D ?_|refine X.E ?_|refine X.F ?_|refine X.G ?_|refine X.H ?_|refine X.I ?_|fail)
  first|refine X.J (fun _ => ?_) (fun _ => ?_)|refine X.L (fun _ => ?_) (fun _ => ?_)|refine X.M (fun _ => ?_) (fun _ => ?_)|refine X.R (fun _ => ?_) (fun _ => ?_)|fail
  · rename_i hy0
    repeat' (first|refine X.O ?_|refine X.A ?_|refine X.B ?_|refine X.C ?_|refine X.D ?_|refine X.E ?_|refine X.F ?_|refine X.G ?_|refine X.H ?_|refine X.I ?_|fail)
    refine WL.call (l07Exact_any _) ?_
    intro v3 w3 hN3
    have hz3 := hN3.2.size
    have hd03 := hd02.into hN3.2 (by omega) (by omega)
    obtain ⟨a3, c3, hv3, _⟩ := hN3.1.shape
    repeat' (first|refine X.O ?_|refine X.A ?_|refine X.B ?_|refine X.C ?_|refine X.D ?_|refine X.E ?_|refine X.F ?_|refine X.G ?_|refine X.H ?_|refine X.I ?_|fail)
    refine WL.ixstore (j := 0) (u := .int .i64 n) hN3.1 (by rw [Ints_length, exactL_len]; omega) ?_
    intro p1 w4 hown4 hbl4 hz4 hf4
    rw [Ints_set] at hown4
    have hlen4 : (exactL.set 0 n).length = 38 := by rw [List.length_set, exactL_len]
    have hd04 : Drew sb w w4 := hd03.into hbl4 (by omega) (by omega)
    have hn4 : allN (exactL.set 0 n) = true := allN_set exactL_all 0 n hn
    obtain ⟨E, hE⟩ : ∃ E, exactL.set 0 n = E := ⟨_, rfl⟩
    rw [hE] at hown4 hlen4 hn4
    have hd4z := hd04.chg.size
    repeat' (first|refine X.O ?_|refine X.A ?_|refine X.B ?_|refine X.C ?_|refine X.D ?_|refine X.E ?_|refine X.F ?_|refine X.G ?_|refine X.H ?_|refine X.I ?_|fail)
    refine WL.call (l01Next_any hd04.src 2 (by omega)) ?_
    rintro _ w5 ⟨⟨y5, rfl, _, _⟩, hd5⟩
    have hd05 := hd04.trans hd5
    have hown5 := drew_own (hown4.lower (show w.heap.size ≤ w2.heap.size by omega)) hd5 hlt
    have hz5 := hd05.chg.size
    repeat' (first|refine X.O ?_|refine X.A ?_|refine X.B ?_|refine X.C ?_|refine X.D ?_|refine X.E ?_|refine X.F ?_|refine X.G ?_|refine X.H ?_|refine X.I ?_|fail)
    refine WP.midE (fun l' x => ∃ v6 X6, Agree l' [(0, .pointer (some ⟨sb, 0, none⟩)), (5, v6)] ∧ Own w.heap.size 2 x v6 (Ints X6) ∧ X6.length = 38 ∧ Drew sb w x) ?_ ?_
    · first|refine X.J (fun _ => ?_) (fun _ => ?_)|refine X.L (fun _ => ?_) (fun _ => ?_)|refine X.M (fun _ => ?_) (fun _ => ?_)|refine X.R (fun _ => ?_) (fun _ => ?_)|fail
      · repeat' (first|refine X.O ?_|refine X.A ?_|refine X.B ?_|refine X.C ?_|refine X.D ?_|refine X.E ?_|refine X.F ?_|refine X.G ?_|refine X.H ?_|refine X.I ?_|fail)
        refine WL.call (l01Number_any hd05.src) ?_
        rintro _ w6 ⟨⟨k, rfl, hk0, hk1⟩, hd6⟩
        have hown6 := drew_own hown5 hd6 hlt
        have hz6 := hd6.chg.size
        refine WL.call (l07Scale_any (hown6.toIS (Nat.zero_le _)) hlen4 hn4 (k := k) (by simp [isN]; omega)) ?_
        intro v7 w7 hN7
        repeat' (first|refine X.O ?_|refine X.A ?_|refine X.B ?_|refine X.C ?_|refine X.D ?_|refine X.E ?_|refine X.F ?_|refine X.G ?_|refine X.H ?_|refine X.I ?_|fail)
        exact ⟨v7, _, ⟨rfl, rfl, trivial⟩, hN7.1.lower (by omega), scaleML_len hlen4, (hd05.trans hd6).into hN7.2 (by omega) (by omega)⟩
      · repeat' (first|refine X.O ?_|refine X.A ?_|refine X.B ?_|refine X.C ?_|refine X.D ?_|refine X.E ?_|refine X.F ?_|refine X.G ?_|refine X.H ?_|refine X.I ?_|fail)
        exact ⟨v3, E, ⟨rfl, rfl, trivial⟩, hown5, hlen4, hd05⟩
    · rintro l' w6 ⟨v6, X6, hag, hown6, hX6, hd06⟩
      refine WP.frame _ hag ?_
      clear hag
      have hz6 := hd06.chg.size
      repeat' (first|refine X.O ?_|refine X.A ?_|refine X.B ?_|refine X.C ?_|refine X.D ?_|refine X.E ?_|refine X.F ?_|refine X.G ?_|refine X.H ?_|refine X.I ?_|fail)
      refine WL.call (l01Next_any hd06.src 3 (by omega)) ?_
      rintro _ w7 ⟨⟨c7, rfl, _, hc7⟩, hd7⟩
      have hc73 := hc7 (by omega)
      have hown7 := drew_own hown6 hd7 hlt
      have hd07 := hd06.trans hd7
      repeat' (first|refine X.O ?_|refine X.A ?_|refine X.B ?_|refine X.C ?_|refine X.D ?_|refine X.E ?_|refine X.F ?_|refine X.G ?_|refine X.H ?_|refine X.I ?_|fail)
      refine WP.loop (fun (s : Nat × List Int) => [(0, .pointer (some ⟨sb, 0, none⟩)), (5, v6), (6, .int .i64 (s.1 : Nat))])
        (fun s w8 => s.2.length = 38 ∧ s.1 ≤ 3 ∧ Own w.heap.size 2 w8 v6 (Ints s.2) ∧ Drew sb w w8) (fun s => s.1) (c7.toNat, X6) ⟨rfl, rfl, X.T (by dsimp only; omega), trivial⟩ ⟨hX6, by dsimp only; omega, hown7, hd07⟩ ?_
      rintro ⟨m, Y⟩ w8 ⟨hY, hm3, hown8, hd08⟩
      dsimp only at hY hm3 hown8 ⊢
      repeat' (first|refine X.O ?_|refine X.A ?_|refine X.B ?_|refine X.C ?_|refine X.D ?_|refine X.E ?_|refine X.F ?_|refine X.G ?_|refine X.H ?_|refine X.I ?_|fail)
      first|refine X.J (fun _ => ?_) (fun _ => ?_)|refine X.L (fun _ => ?_) (fun _ => ?_)|refine X.M (fun _ => ?_) (fun _ => ?_)|refine X.R (fun _ => ?_) (fun _ => ?_)|fail
      · rename_i hm
        repeat' (first|refine X.O ?_|refine X.A ?_|refine X.B ?_|refine X.C ?_|refine X.D ?_|refine X.E ?_|refine X.F ?_|refine X.G ?_|refine X.H ?_|refine X.I ?_|fail)
        refine WL.call (l01Next_any hd08.src 37 (by omega)) ?_
        rintro _ w9 ⟨⟨j, rfl, _, hj⟩, hd9⟩
        have hj37 := hj (by omega)
        have hown9 := drew_own hown8 hd9 hlt
        have hd09 := hd08.trans hd9
        repeat' (first|refine X.O ?_|refine X.A ?_|refine X.B ?_|refine X.C ?_|refine X.D ?_|refine X.E ?_|refine X.F ?_|refine X.G ?_|refine X.H ?_|refine X.I ?_|fail)
        refine WL.call (l01Number_any hd09.src) ?_
        rintro _ w10 ⟨⟨k, rfl, hk0, hk1⟩, hd10⟩
        have hown10 := drew_own hown9 hd10 hlt
        have hd010 := hd09.trans hd10
        refine WL.ixstore (j := j.toNat + 1) (u := .int .i64 k) hown10 (by rw [Ints_length]; omega) ?_
        intro p2 w11 hown11 hbl11 hz11 hf11
        rw [Ints_set] at hown11
        repeat' (first|refine X.O ?_|refine X.A ?_|refine X.B ?_|refine X.C ?_|refine X.D ?_|refine X.E ?_|refine X.F ?_|refine X.G ?_|refine X.H ?_|refine X.I ?_|fail)
        exact ⟨(m - 1, Y.set (j.toNat + 1) k), ⟨rfl, rfl, (by first|rfl|exact X.T (by omega)), trivial⟩, ⟨by dsimp only; rw [List.length_set]; exact hY, by dsimp only; omega, hown11, hd010.into hbl11 (Nat.le_refl _) hlt⟩, by dsimp only; omega⟩
      · repeat' (first|refine X.O ?_|refine X.A ?_|refine X.B ?_|refine X.C ?_|refine X.D ?_|refine X.E ?_|refine X.F ?_|refine X.G ?_|refine X.H ?_|refine X.I ?_|fail)
        refine ⟨_, ret1 rfl (by rfl), ?_⟩
        exact ⟨⟨Y, hown8, by omega, hY⟩, hd08⟩
  · rename_i hy0
    repeat' (first|refine X.O ?_|refine X.A ?_|refine X.B ?_|refine X.C ?_|refine X.D ?_|refine X.E ?_|refine X.F ?_|refine X.G ?_|refine X.H ?_|refine X.I ?_|fail)
    first|refine X.J (fun _ => ?_) (fun _ => ?_)|refine X.L (fun _ => ?_) (fun _ => ?_)|refine X.M (fun _ => ?_) (fun _ => ?_)|refine X.R (fun _ => ?_) (fun _ => ?_)|fail
    · rename_i hy1
      repeat' (first|refine X.O ?_|refine X.A ?_|refine X.B ?_|refine X.C ?_|refine X.D ?_|refine X.E ?_|refine X.F ?_|refine X.G ?_|refine X.H ?_|refine X.I ?_|fail)
      refine WL.step (o_make (n := 38) (by rfl) (by rfl) (by omega) (by unfold maxLen; omega) ?_)
      intro v3 w3 hown3 hbl3 hz3
      have hown3' : Own w2.heap.size 2 w3 v3 (Ints zerosM) := by
        have e : Ints zerosM = List.replicate 38 (.int .i64 0) := by unfold zerosM Ints; rw [List.map_replicate]
        rw [e]; exact hown3
      have hd03 := hd02.into hbl3 (by omega) (by omega)
      repeat' (first|refine X.O ?_|refine X.A ?_|refine X.B ?_|refine X.C ?_|refine X.D ?_|refine X.E ?_|refine X.F ?_|refine X.G ?_|refine X.H ?_|refine X.I ?_|fail)
      refine WL.ixstore (j := 0) (u := .int .i64 n) hown3' (by rw [Ints_length, zerosM_38]; omega) ?_
      intro p1 w4 hown4 hbl4 hz4 hf4
      rw [Ints_set] at hown4
      have hlen4 : (zerosM.set 0 n).length = 38 := by rw [List.length_set, zerosM_38]
      have hd04 : Drew sb w w4 := hd03.into hbl4 (by omega) (by omega)
      obtain ⟨E, hE⟩ : ∃ E, zerosM.set 0 n = E := ⟨_, rfl⟩
      rw [hE] at hown4 hlen4
      repeat' (first|refine X.O ?_|refine X.A ?_|refine X.B ?_|refine X.C ?_|refine X.D ?_|refine X.E ?_|refine X.F ?_|refine X.G ?_|refine X.H ?_|refine X.I ?_|fail)
      refine WL.call (l01Next_any hd04.src 4 (by omega)) ?_
      rintro _ w7 ⟨⟨c7, rfl, _, hc7⟩, hd7⟩
      have hc73 := hc7 (by omega)
      have hown7 := drew_own (hown4.lower (show w.heap.size ≤ w2.heap.size by omega)) hd7 hlt
      have hd07 := hd04.trans hd7
      repeat' (first|refine X.O ?_|refine X.A ?_|refine X.B ?_|refine X.C ?_|refine X.D ?_|refine X.E ?_|refine X.F ?_|refine X.G ?_|refine X.H ?_|refine X.I ?_|fail)
      refine WP.loop (fun (s : Nat × List Int) => [(0, .pointer (some ⟨sb, 0, none⟩)), (5, v3), (7, .int .i64 (s.1 : Nat))])
        (fun s w8 => s.2.length = 38 ∧ s.1 ≤ 4 ∧ Own w.heap.size 2 w8 v3 (Ints s.2) ∧ Drew sb w w8) (fun s => s.1) ((1 + c7).toNat, E) ⟨rfl, rfl, X.T (by dsimp only; omega), trivial⟩ ⟨hlen4, by dsimp only; omega, hown7, hd07⟩ ?_
      rintro ⟨m, Y⟩ w8 ⟨hY, hm3, hown8, hd08⟩
      dsimp only at hY hm3 hown8 ⊢
      repeat' (first|refine X.O ?_|refine X.A ?_|refine X.B ?_|refine X.C ?_|refine X.D ?_|refine X.E ?_|refine X.F ?_|refine X.G ?_|refine X.H ?_|refine X.I ?_|fail)
      first|refine X.J (fun _ => ?_) (fun _ => ?_)|refine X.L (fun _ => ?_) (fun _ => ?_)|refine X.M (fun _ => ?_) (fun _ => ?_)|refine X.R (fun _ => ?_) (fun _ => ?_)|fail
      · rename_i hm
        repeat' (first|refine X.O ?_|refine X.A ?_|refine X.B ?_|refine X.C ?_|refine X.D ?_|refine X.E ?_|refine X.F ?_|refine X.G ?_|refine X.H ?_|refine X.I ?_|fail)
        refine WL.call (l01Next_any hd08.src 8 (by omega)) ?_
        rintro _ w9 ⟨⟨j, rfl, _, hj⟩, hd9⟩
        have hj37 := hj (by omega)
        have hown9 := drew_own hown8 hd9 hlt
        have hd09 := hd08.trans hd9
        repeat' (first|refine X.O ?_|refine X.A ?_|refine X.B ?_|refine X.C ?_|refine X.D ?_|refine X.E ?_|refine X.F ?_|refine X.G ?_|refine X.H ?_|refine X.I ?_|fail)
        refine WL.call (l01Number_any hd09.src) ?_
        rintro _ w10 ⟨⟨k, rfl, hk0, hk1⟩, hd10⟩
        have hown10 := drew_own hown9 hd10 hlt
        have hd010 := hd09.trans hd10
        refine WL.ixstore (j := j.toNat + 1) (u := .int .i64 k) hown10 (by rw [Ints_length]; omega) ?_
        intro p2 w11 hown11 hbl11 hz11 hf11
        rw [Ints_set] at hown11
        repeat' (first|refine X.O ?_|refine X.A ?_|refine X.B ?_|refine X.C ?_|refine X.D ?_|refine X.E ?_|refine X.F ?_|refine X.G ?_|refine X.H ?_|refine X.I ?_|fail)
        exact ⟨(m - 1, Y.set (j.toNat + 1) k), ⟨rfl, rfl, (by first|rfl|exact X.T (by omega)), trivial⟩, ⟨by dsimp only; rw [List.length_set]; exact hY, by dsimp only; omega, hown11, hd010.into hbl11 (Nat.le_refl _) hlt⟩, by dsimp only; omega⟩
      · repeat' (first|refine X.O ?_|refine X.A ?_|refine X.B ?_|refine X.C ?_|refine X.D ?_|refine X.E ?_|refine X.F ?_|refine X.G ?_|refine X.H ?_|refine X.I ?_|fail)
        refine ⟨_, ret1 rfl (by rfl), ?_⟩
        exact ⟨⟨Y, hown8, by omega, hY⟩, hd08⟩
    · rename_i hy1
      repeat' (first|refine X.O ?_|refine X.A ?_|refine X.B ?_|refine X.C ?_|refine X.D ?_|refine X.E ?_|refine X.F ?_|refine X.G ?_|refine X.H ?_|refine X.I ?_|fail)
      refine WL.call (l01List_any hd02.src 37 (by omega)) ?_
      rintro v3 w3 ⟨⟨xs, hO3, hx37, _⟩, hd3⟩
      have hown3 := drew_own hown2 hd3 hlt
      have hd03 := hd02.trans hd3
      have hz3 := hd03.chg.size
      refine WL.step (o_append (by rfl) (by rfl) hown3 hO3.own.src (fun u hu => by
        obtain ⟨z, _, rfl⟩ := List.mem_map.1 hu
        rfl) (by rw [Ints_length, hx37]; simp [maxLen]) (by rw [Ints_length, hx37]; simp) (by omega) ?_)
      intro v4 w4 hown4 _ hbl4 _
      repeat' (first|refine X.O ?_|refine X.A ?_|refine X.B ?_|refine X.C ?_|refine X.D ?_|refine X.E ?_|refine X.F ?_|refine X.G ?_|refine X.H ?_|refine X.I ?_|fail)
      refine ⟨_, ret1 rfl (by rfl), ?_⟩
      exact ⟨⟨n :: xs, hown4, by simp, by simp [hx37]⟩, hd03.into hbl4 (Nat.le_refl _) hlt⟩
end Go.Proofs
