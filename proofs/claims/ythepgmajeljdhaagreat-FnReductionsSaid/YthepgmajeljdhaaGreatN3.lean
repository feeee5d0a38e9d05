/- Drawn tableaus for the laws of merging and reducing; drawn trees. -/
import Derived.Test.YthepgmajeljdhaaGreatN2
import Derived.Test.YthepgmajeljdhaaGreatA4
import Derived.Test.YthepgmajeljdhaaGreatM0
import Derived.Test.YthepgmajeljdhaaGreatW4
set_option maxRecDepth 8000
namespace Go.Proofs
open Go Go.Fw Go.RowKit Go.Rk
theorem DrawMergeStages_any {lo hi : Nat} {w : World} {v : Value} {bs : List Int} (h : IU lo hi w v bs) (hn : bs.length ≤ 4096) :
    Does Tryz.prog 7 [v] w fun r w' => (∃ x, IT (w.heap.size + 1) w'.heap.size w' r x) ∧ Chg 0 0 w w' := by
  refine Does.enter Tryz.func7 Tryz.ntmps7 rfl (by rfl) ?_
  repeat' (first|refine X.O ?_|refine X.A ?_|refine X.B ?_|refine X.C ?_|refine X.D ?_|refine X.E ?_|refine X.F ?_|refine X.G ?_|refine X.H ?_|refine X.I ?_|fail)
  refine WL.step (o_alloc ?_)
  intro w1 hb1 hbl1 hz1
  repeat' (first|refine X.O ?_|refine X.A ?_|refine X.B ?_|refine X.C ?_|refine X.D ?_|refine X.E ?_|refine X.F ?_|refine X.G ?_|refine X.H ?_|refine X.I ?_|fail)
  refine WL.call (l01From_any (h.below RU.stable hbl1 h.hi_le) hn) ?_
  rintro _ w2 ⟨rfl, hs2, hc2⟩
  have hz2 := hs2.lt
  refine WL.call (l10Loose_any hs2) ?_
  rintro v3 w3 ⟨⟨x, hT⟩, hd3⟩
  have hz3 := hd3.chg.size
  have hc3 : Chg 0 0 w w3 := Chg.of_below ⟨by rw [hd3.chg.os, hc2.os, hbl1.os], by rw [hd3.chg.tape, hc2.tape, hbl1.tape], by rw [hd3.chg.output, hc2.output, hbl1.output], by omega, fun k hk => by rw [hd3.chg.block k (by omega) (by omega), hc2.block k (by omega) (by omega), hbl1.block k hk]⟩
  have hb3 : Blk w3 w.heap.size _ _ := (hb1.chg0 hc2).chg hd3.chg (by omega)
  obtain ⟨a, n, c, a', n', c', rfl⟩ := hT.cells
  refine WL.step (o_storeS (vs := [.slice a n c, .slice a' n' c']) (by rfl) (by rfl) hb3 (by rfl) (by rfl) two_cells ?_)
  intro w4 hb4 hbut4
  have hz4 := hbut4.size
  repeat' (first|refine X.O ?_|refine X.A ?_|refine X.B ?_|refine X.C ?_|refine X.D ?_|refine X.E ?_|refine X.F ?_|refine X.G ?_|refine X.H ?_|refine X.I ?_|fail)
  refine ⟨_, retS rfl (by rfl) hb4 (by rfl), ⟨x, ?_⟩, ?_⟩
  · exact (hT.chg hbut4.chg (by omega)).wide (by omega) (by omega) (Nat.le_refl _)
  · exact Chg.of_below ((hc3.below (Nat.le_refl _) (Or.inr (Nat.le_refl _))).trans (hbut4.below (Nat.le_refl _)))
theorem DrawReduceTableau_any {lo hi : Nat} {w : World} {v : Value} {bs : List Int} (h : IU lo hi w v bs) (hn : bs.length ≤ 4096) :
    Does Tryz.prog 17 [v] w fun r w' => (∃ x, IT (w.heap.size + 1) w'.heap.size w' r x) ∧ Chg 0 0 w w' := by
  refine Does.enter Tryz.func17 Tryz.ntmps17 rfl (by rfl) ?_
  repeat' (first|refine X.O ?_|refine X.A ?_|refine X.B ?_|refine X.C ?_|refine X.D ?_|refine X.E ?_|refine X.F ?_|refine X.G ?_|refine X.H ?_|refine X.I ?_|fail)
  refine WL.step (o_alloc ?_)
  intro w1 hb1 hbl1 hz1
  repeat' (first|refine X.O ?_|refine X.A ?_|refine X.B ?_|refine X.C ?_|refine X.D ?_|refine X.E ?_|refine X.F ?_|refine X.G ?_|refine X.H ?_|refine X.I ?_|fail)
  refine WL.call (l01From_any (h.below RU.stable hbl1 h.hi_le) hn) ?_
  rintro _ w2 ⟨rfl, hs2, hc2⟩
  have hz2 := hs2.lt
  repeat' (first|refine X.O ?_|refine X.A ?_|refine X.B ?_|refine X.C ?_|refine X.D ?_|refine X.E ?_|refine X.F ?_|refine X.G ?_|refine X.H ?_|refine X.I ?_|fail)
  refine WL.call (l01Next_any hs2 4 (by omega)) ?_
  rintro _ w3 ⟨⟨c0, rfl, _, _⟩, hd3⟩
  have hz3 := hd3.chg.size
  have hc3 : Chg 0 0 w w3 := Chg.of_below ⟨by rw [hd3.chg.os, hc2.os, hbl1.os], by rw [hd3.chg.tape, hc2.tape, hbl1.tape], by rw [hd3.chg.output, hc2.output, hbl1.output], by omega, fun k hk => by rw [hd3.chg.block k (by omega) (by omega), hc2.block k (by omega) (by omega), hbl1.block k hk]⟩
  have hb3 : Blk w3 w.heap.size _ _ := (hb1.chg0 hc2).chg hd3.chg (by omega)
  repeat' (first|refine X.O ?_|refine X.A ?_|refine X.B ?_|refine X.C ?_|refine X.D ?_|refine X.E ?_|refine X.F ?_|refine X.G ?_|refine X.H ?_|refine X.I ?_|fail)
  first|refine X.J (fun _ => ?_) (fun _ => ?_)|refine X.L (fun _ => ?_) (fun _ => ?_)|refine X.M (fun _ => ?_) (fun _ => ?_)|refine X.R (fun _ => ?_) (fun _ => ?_)|fail
  · repeat' (first|refine X.O ?_|refine X.A ?_|refine X.B ?_|refine X.C ?_|refine X.D ?_|refine X.E ?_|refine X.F ?_|refine X.G ?_|refine X.H ?_|refine X.I ?_|fail)
    refine WL.call (l09Draw_tab hd3.src 3 (by omega) (by omega)) ?_
    rintro v4 w4 ⟨⟨x, tX, hT⟩, hd4⟩
    have hz4 := hd4.chg.size
    have hc4 : Chg 0 0 w w4 := Chg.of_below ⟨by rw [hd4.chg.os, hc3.os], by rw [hd4.chg.tape, hc3.tape], by rw [hd4.chg.output, hc3.output], by omega, fun k hk => by rw [hd4.chg.block k (by omega) (by omega), hc3.block k (by omega) (by omega)]⟩
    have hb4 := hb3.chg hd4.chg (by omega)
    have iT := hT.rd
    obtain ⟨a, n, c, a', n', c', rfl⟩ := iT.cells
    refine WL.var (vs := [.slice a n c, .slice a' n' c']) (fun _ => by rfl) (by rfl) two_cells ?_
    intro w5 hb5 hbl5 hz5
    have hb45 := hb4.below hbl5 (by omega)
    have iT5 := iT.below hbl5 iT.hi_le
    repeat' (first|refine X.O ?_|refine X.A ?_|refine X.B ?_|refine X.C ?_|refine X.D ?_|refine X.E ?_|refine X.F ?_|refine X.G ?_|refine X.H ?_|refine X.I ?_|fail)
    refine WP.drawn (fun w' => Below w5.heap.size w5 w') [(0, true), (1, true), (2, false), (3, false), (1004, false)] (by kernel_rfl) mixed ?_
    intro w6 hs6
    have hz6 := hs6.size
    have hS6 : Below w5.heap.size w5 w6 := hs6.below _
    refine WS.q rfl (q_loadS (by rfl) (fun w' h => hb5.below h (by omega)) (by rfl)) hS6 ?_
    refine WS.q rfl (q_loadS (by rfl) (fun w' h => hb5.below h (by omega)) (by rfl)) hS6 ?_
    have iT6 := iT5.below hS6 iT5.hi_le
    refine WS.call rfl (l10Inverse_any iT6 tX) ?_
    rintro v7 w7 ⟨hT7, hc7⟩
    have hS7 : Below w5.heap.size w5 w7 := hS6.trans (hc7.below (by omega) (Or.inr (Nat.le_refl _)))
    refine ⟨hS7, ?_⟩
    have iT7 := iT5.below hS7 iT5.hi_le
    refine WS.call rfl (l10Compose_any iT7 hT7.rd tX (inverse_tab tX)) ?_
    rintro v8 w8 ⟨hT8, hc8⟩
    have hz7 := hS7.size
    have hS8 : Below w5.heap.size w5 w8 := hS7.trans (hc8.below (by omega) (Or.inr (Nat.le_refl _)))
    have hz8 := hS8.size
    refine ⟨hS8, ?_⟩
    have iT8 := hT8.rd
    obtain ⟨a, n, c, a', n', c', rfl⟩ := iT8.cells
    refine WS.last rfl (o_storeS (vs := [.slice a n c, .slice a' n' c']) (by rfl) (by rfl) (hb45.below hS8 (by omega)) (by rfl) (by rfl) two_cells ?_)
    intro w9 hb9 hbut9
    have hz9 := hbut9.size
    refine WS.nil ?_
    repeat' (first|refine X.O ?_|refine X.A ?_|refine X.B ?_|refine X.C ?_|refine X.D ?_|refine X.E ?_|refine X.F ?_|refine X.G ?_|refine X.H ?_|refine X.I ?_|fail)
    refine ⟨_, retS rfl (by rfl) hb9 (by rfl), ⟨_, (iT8.chg hbut9.chg (by omega)).wide (by omega) (by omega) (Nat.le_refl _)⟩, ?_⟩
    exact Chg.of_below ((((hc4.below (Nat.le_refl _) (Or.inr (Nat.le_refl _))).trans (Below.mono hbl5 (by omega))).trans (Below.mono hS8 (by omega))).trans (hbut9.below (Nat.le_refl _)))
  · repeat' (first|refine X.O ?_|refine X.A ?_|refine X.B ?_|refine X.C ?_|refine X.D ?_|refine X.E ?_|refine X.F ?_|refine X.G ?_|refine X.H ?_|refine X.I ?_|fail)
    refine WL.call (l10Loose_any hd3.src) ?_
    rintro v4 w4 ⟨⟨x, hT⟩, hd4⟩
    have hz4 := hd4.chg.size
    have hc4 : Chg 0 0 w w4 := Chg.of_below ⟨by rw [hd4.chg.os, hc3.os], by rw [hd4.chg.tape, hc3.tape], by rw [hd4.chg.output, hc3.output], by omega, fun k hk => by rw [hd4.chg.block k (by omega) (by omega), hc3.block k (by omega) (by omega)]⟩
    have hb4 := hb3.chg hd4.chg (by omega)
    obtain ⟨a, n, c, a', n', c', rfl⟩ := hT.cells
    refine WL.step (o_storeS (vs := [.slice a n c, .slice a' n' c']) (by rfl) (by rfl) hb4 (by rfl) (by rfl) two_cells ?_)
    intro w5 hb5 hbut5
    have hz5 := hbut5.size
    repeat' (first|refine X.O ?_|refine X.A ?_|refine X.B ?_|refine X.C ?_|refine X.D ?_|refine X.E ?_|refine X.F ?_|refine X.G ?_|refine X.H ?_|refine X.I ?_|fail)
    refine ⟨_, retS rfl (by rfl) hb5 (by rfl), ⟨x, (hT.chg hbut5.chg (by omega)).wide (by omega) (by omega) (Nat.le_refl _)⟩, ?_⟩
    exact Chg.of_below ((hc4.below (Nat.le_refl _) (Or.inr (Nat.le_refl _))).trans (hbut5.below (Nat.le_refl _)))
theorem tree5_any {sb : Nat} {w : World} (h : Dice sb w) : Does Tryz.prog 13 [.pointer (some ⟨sb, 0, none⟩), .int .i64 7] w fun r w' => (∃ t, IS w.heap.size w'.heap.size w' r t ∧ Lv t ∧ t.length ≤ 8) ∧ Rolled sb w w' := by
  have hlt := h.lt
  refine Does.enter Tryz.func13 Tryz.ntmps13 rfl (by rfl) ?_
  repeat' (first|refine X.O ?_|refine X.A ?_|refine X.B ?_|refine X.C ?_|refine X.D ?_|refine X.E ?_|refine X.F ?_|refine X.G ?_|refine X.H ?_|refine X.I ?_|fail)
  refine WL.step (o_lit (us := [.int .i64 0]) (by rfl) (by rfl) rfl (by decide) (one1 rfl) ?_)
  intro v1 w1 hown1 hbl1 hz1 _
  have hd1 : Rolled sb w w1 := (Rolled.refl h).thenBelow hbl1 hlt
  repeat' (first|refine X.O ?_|refine X.A ?_|refine X.B ?_|refine X.C ?_|refine X.D ?_|refine X.E ?_|refine X.F ?_|refine X.G ?_|refine X.H ?_|refine X.I ?_|fail)
  refine WL.call (below_any hd1.src 7 (by omega)) ?_
  rintro _ w2 ⟨⟨n0, rfl, _, hn0⟩, hd2⟩
  have hn0 := hn0 (by omega)
  have hd02 := hd1.trans hd2
  have hown2 := rolled_own hown1 hd2 hlt
  repeat' (first|refine X.O ?_|refine X.A ?_|refine X.B ?_|refine X.C ?_|refine X.D ?_|refine X.E ?_|refine X.F ?_|refine X.G ?_|refine X.H ?_|refine X.I ?_|fail)
  refine WP.loop (fun (s : Nat × Value × List Int) => [(0, .pointer (some ⟨sb, 0, none⟩)), (5, s.2.1), (6, .int .i64 (s.1 : Nat))])
    (fun s y => s.1 + s.2.2.length ≤ 7 ∧ Lv s.2.2 ∧ Own w.heap.size 2 y s.2.1 (Ints s.2.2) ∧ Rolled sb w y)
    (fun s => s.1) (n0.toNat, v1, [0]) ⟨rfl, rfl, X.T (by dsimp only; omega), trivial⟩ ⟨by simp; omega, Lv.one, hown2, hd02⟩ ?_
  clear hown1 hbl1 hz1 hd1 hd2 hd02 hown2
  rintro ⟨n, vt, t⟩ w3 ⟨hn, hlv, hown, hd⟩
  dsimp only at hn hlv hown hd ⊢
  obtain ⟨at', ct, hvt, _⟩ := hown.shape
  rw [Ints_length] at hvt
  have hz3 := hd.chg.size
  have hp := hlv.pos
  subst hvt
  repeat' (first|refine X.O ?_|refine X.A ?_|refine X.B ?_|refine X.C ?_|refine X.D ?_|refine X.E ?_|refine X.F ?_|refine X.G ?_|refine X.H ?_|refine X.I ?_|fail)
  first|refine X.J (fun _ => ?_) (fun _ => ?_)|refine X.L (fun _ => ?_) (fun _ => ?_)|refine X.M (fun _ => ?_) (fun _ => ?_)|refine X.R (fun _ => ?_) (fun _ => ?_)|fail
  · rename_i hpos
    have hli : t.length - 1 < t.length := by omega
    have hbd := hlv.bd hli
    repeat' (first|refine X.O ?_|refine X.A ?_|refine X.B ?_|refine X.C ?_|refine X.D ?_|refine X.E ?_|refine X.F ?_|refine X.G ?_|refine X.H ?_|refine X.I ?_|fail)
    refine WL.ixload (j := t.length - 1) (hown.toIS (Nat.le_refl _)) (List.getElem?_eq_getElem hli) ?_
    intro p1 u' hu'
    rw [show u' = .int .i64 t[t.length - 1] from hu']
    clear hu' u'
    repeat' (first|refine X.O ?_|refine X.A ?_|refine X.B ?_|refine X.C ?_|refine X.D ?_|refine X.E ?_|refine X.F ?_|refine X.G ?_|refine X.H ?_|refine X.I ?_|fail)
    refine WL.call (below_any hd.src (t[t.length - 1] + 1) (by omega)) ?_
    rintro _ w4 ⟨⟨y, rfl, _, hy⟩, hd4⟩
    have hy := hy (by omega)
    have hown4 := rolled_own hown hd4 hlt
    have hd04 := hd.trans hd4
    have hz4 := hd04.chg.size
    repeat' (first|refine X.O ?_|refine X.A ?_|refine X.B ?_|refine X.C ?_|refine X.D ?_|refine X.E ?_|refine X.F ?_|refine X.G ?_|refine X.H ?_|refine X.I ?_|fail)
    refine o_append1 (u := .int .i64 (1 + y)) (fun _ => by rfl) (by rfl) hown4 rfl (by rw [Ints_length]; unfold maxLen; omega) (by rw [Ints_length]; omega) (by omega) ?_
    intro p2 v5 w5 hown5 hbl5 _ hz5 _
    repeat' (first|refine X.O ?_|refine X.A ?_|refine X.B ?_|refine X.C ?_|refine X.D ?_|refine X.E ?_|refine X.F ?_|refine X.G ?_|refine X.H ?_|refine X.I ?_|fail)
    have e : t ++ [1 + y] = t ++ [1 + y] := rfl
    exact ⟨(n - 1, v5, t ++ [1 + y]), ⟨rfl, rfl, X.T (by dsimp only; omega), trivial⟩, ⟨by simp; omega, hlv.snoc (z := t[t.length - 1]) (by rw [List.getLast?_eq_getElem?]; exact List.getElem?_eq_getElem hli) (by omega) (by omega), by dsimp only; rw [Ints_append]; exact hown5, hd04.into hbl5 (Nat.le_refl _) hlt⟩, by dsimp only; omega⟩
  · repeat' (first|refine X.O ?_|refine X.A ?_|refine X.B ?_|refine X.C ?_|refine X.D ?_|refine X.E ?_|refine X.F ?_|refine X.G ?_|refine X.H ?_|refine X.I ?_|fail)
    refine ⟨_, ret1 rfl (by rfl), ?_⟩
    exact ⟨⟨t, hown.toIS (Nat.le_refl _), hlv, by omega⟩, hd⟩
end Go.Proofs
