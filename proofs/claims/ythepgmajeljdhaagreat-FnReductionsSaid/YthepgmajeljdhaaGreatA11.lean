/- The composition of tableaus, as the program has it. -/
import Derived.Test.YthepgmajeljdhaaGreatH8
import Derived.Test.YthepgmajeljdhaaGreatA4
import Derived.Test.YthepgmajeljdhaaGreatPl7
namespace Go.Proofs
open Go Go.Fw Go.RowKit Go.Rk
theorem stages_any {lo hi : Nat} {w : World} {v : Value} {x : TabD} (h : IT lo hi w v x) : Does Tryz.prog 53 [v] w fun r w' => r = .int .i64 (x.2.length : Nat) ∧ Chg 0 0 w w' := by
  obtain ⟨va, vb, rfl, hA, hB⟩ := h
  obtain ⟨a', c', hvb⟩ := hB.shape
  subst hvb
  have hm := hB.len
  unfold maxLen at hm
  refine Does.enter Tryz.func53 Tryz.ntmps53 rfl (by rfl) ?_
  repeat' (first|refine X.O ?_|refine X.A ?_|refine X.B ?_|refine X.C ?_|refine X.D ?_|refine X.E ?_|refine X.F ?_|refine X.G ?_|refine X.H ?_|refine X.I ?_|fail)
  refine WL.step (o_box (by rfl) ?_)
  intro w1 hb1 hbl1 hz1
  repeat' (first|refine X.O ?_|refine X.A ?_|refine X.B ?_|refine X.C ?_|refine X.D ?_|refine X.E ?_|refine X.F ?_|refine X.G ?_|refine X.H ?_|refine X.I ?_|fail)
  refine WL.fld hb1 ?_
  intro p1
  repeat' (first|refine X.O ?_|refine X.A ?_|refine X.B ?_|refine X.C ?_|refine X.D ?_|refine X.E ?_|refine X.F ?_|refine X.G ?_|refine X.H ?_|refine X.I ?_|fail)
  refine ⟨_, ret1 rfl (by rfl), ?_⟩
  exact ⟨rfl, Chg.of_below hbl1⟩
theorem composed_any {lo hi lo' hi' : Nat} {w : World} {v v' : Value} {x y : TabD} (h : IT lo hi w v x) (h' : IT lo' hi' w v' y) (hx : Tab x) (hy : Tab y) :
    Does Tryz.prog 57 [v, v'] w fun r w' => OwT 25 2 w.heap.size w'.heap.size w' r (composeL x y) ∧ Chg 0 0 w w' := by
  obtain ⟨va, vb, rfl, hA, hB⟩ := h
  obtain ⟨va', vb', rfl, hA', hB'⟩ := h'
  obtain ⟨a, c, hva⟩ := hA.shape
  obtain ⟨a2, c2, hvb⟩ := hB.shape
  obtain ⟨a3, c3, hva'⟩ := hA'.shape
  obtain ⟨a4, c4, hvb'⟩ := hB'.shape
  subst hva hvb hva' hvb'
  have hm := hx.le8
  have hsq := hx.sq
  have hm' := hy.le8
  have hsq' := hy.sq
  have hAz := hA.hi_le
  have hAz' := hA'.hi_le
  have hlenR := compA_length x y
  refine Does.enter Tryz.func57 Tryz.ntmps57 rfl (by rfl) ?_
  repeat' (first|refine X.O ?_|refine X.A ?_|refine X.B ?_|refine X.C ?_|refine X.D ?_|refine X.E ?_|refine X.F ?_|refine X.G ?_|refine X.H ?_|refine X.I ?_|fail)
  refine WL.step (o_box (by rfl) ?_)
  intro w1 hb1 hbl1 hz1
  refine WL.step (o_box (by rfl) ?_)
  intro w1' hb1' hbl1' hz1'
  refine WL.step (o_alloc ?_)
  intro w2 hb2 hbl2 hz2
  have hbl12 : Below w.heap.size w w2 := hbl1.trans ((Below.mono hbl1' (by omega)).trans (Below.mono hbl2 (by omega)))
  replace hb1 := (hb1.below hbl1' (by omega)).below hbl2 (by omega)
  replace hb1' := hb1'.below hbl2 (by omega)
  replace hA := hA.below IS.stable hbl12 hAz
  replace hB := hB.below RI.stable hbl12 hAz
  replace hA' := hA'.below IS.stable hbl12 hAz'
  replace hB' := hB'.below RI.stable hbl12 hAz'
  repeat' (first|refine X.O ?_|refine X.A ?_|refine X.B ?_|refine X.C ?_|refine X.D ?_|refine X.E ?_|refine X.F ?_|refine X.G ?_|refine X.H ?_|refine X.I ?_|fail)
  refine WL.fld hb1 ?_
  intro p1
  refine WL.fld hb1' ?_
  intro p1'
  refine WL.step (o_lit (us := [.slice a2 x.2.length c2, .slice a4 y.2.length c4]) (by rfl) (by rfl) rfl (by decide) two_cells ?_)
  intro vl wl hownl hbll hzl _
  have iL := lit2 hownl (hB.below RI.stable hbll (by omega)) (hB'.below RI.stable hbll (by omega))
  refine WL.call (Concat_any iL (by simp [cntSS]; omega) (by simp)) ?_
  intro vs w3 hN3
  have hz3 := hN3.2.size
  obtain ⟨aq, cq, hvs, _⟩ := hN3.1.shape
  have oB := hN3.ow
  have e2 : [x.2, y.2].flatten = x.2 ++ y.2 := by simp
  rw [e2] at oB hvs
  rw [Ints_length] at hvs
  subst hvs
  refine WL.step (o_build (us := [.slice aq (x.2 ++ y.2).length cq]) (cells := [.slice none 0 0, .slice aq (x.2 ++ y.2).length cq]) (by rfl) (by kernel_rfl) ?_)
  refine WL.var (vs := [.slice none 0 0, .slice aq (x.2 ++ y.2).length cq]) (fun p => by rfl) rfl two_cells ?_
  intro w4 hb4 hbl4 hz4
  have hbl24 : Below w2.heap.size w2 w4 := hbll.trans ((Below.mono hN3.2 (by omega)).trans (Below.mono hbl4 (by omega)))
  have hbl14 : Below w.heap.size w w4 := hbl12.trans (Below.mono hbl24 (by omega))
  replace hb1 := hb1.below hbl24 (by omega)
  replace hb1' := hb1'.below hbl24 (by omega)
  replace hb2 := hb2.below hbl24 (by omega)
  replace hA := hA.below IS.stable hbl24 (by omega)
  replace hB := hB.below RI.stable hbl24 (by omega)
  replace hA' := hA'.below IS.stable hbl24 (by omega)
  replace hB' := hB'.below RI.stable hbl24 (by omega)
  replace oB := oB.chg (Chg.of_below hbl4) (by omega)
  repeat' (first|refine X.O ?_|refine X.A ?_|refine X.B ?_|refine X.C ?_|refine X.D ?_|refine X.E ?_|refine X.F ?_|refine X.G ?_|refine X.H ?_|refine X.I ?_|fail)
  refine WL.fld hb1 ?_
  intro p2
  repeat' (first|refine X.O ?_|refine X.A ?_|refine X.B ?_|refine X.C ?_|refine X.D ?_|refine X.E ?_|refine X.F ?_|refine X.G ?_|refine X.H ?_|refine X.I ?_|fail)
  refine WP.loop (fun (s : Nat × Value) => [(2, .pointer (some ⟨w.heap.size, 0, none⟩)), (3, .pointer (some ⟨w1.heap.size, 0, none⟩)), (4, .pointer (some ⟨w1'.heap.size, 0, none⟩)), (5, .pointer (some ⟨w3.heap.size, 0, none⟩)), (18, .slice a x.1.length c), (19, .int .i64 (x.1.length : Nat)), (20, .int .i64 (s.1 : Nat))])
    (fun s w5 => s.1 ≤ x.1.length ∧ s.2.oneCell' = true ∧ Blk w5 w3.heap.size [s.2, .slice aq (x.2 ++ y.2).length cq] 27 ∧ OwSS 25 2 w4.heap.size w5.heap.size w5 s.2 ((compA x y).take s.1) ∧ Chg w3.heap.size w4.heap.size w4 w5)
    (fun s => x.1.length - s.1) (0, .slice none 0 0) ⟨rfl, rfl, rfl, rfl, rfl, rfl, rfl, trivial⟩ ⟨by omega, rfl, hb4, OwSS.nil _ _ _ _ (by decide), Chg.refl _ _ _⟩ ?_
  rintro ⟨i, vo⟩ w5 ⟨hi1, hone, hb5, oA, hc5⟩
  dsimp only at hi1 hone hb5 oA ⊢
  have hz5 := hc5.size
  have hA5 := ISS.chg hA hc5 (by omega)
  have hB5 := RI.chg hB hc5 (by omega)
  have hA5' := ISS.chg hA' hc5 (by omega)
  have hB5' := RI.chg hB' hc5 (by omega)
  have hb15 := hb1.chg hc5 (by omega)
  have hb15' := hb1'.chg hc5 (by omega)
  repeat' (first|refine X.O ?_|refine X.A ?_|refine X.B ?_|refine X.C ?_|refine X.D ?_|refine X.E ?_|refine X.F ?_|refine X.G ?_|refine X.H ?_|refine X.I ?_|fail)
  first|refine X.J (fun _ => ?_) (fun _ => ?_)|refine X.L (fun _ => ?_) (fun _ => ?_)|refine X.M (fun _ => ?_) (fun _ => ?_)|refine X.R (fun _ => ?_) (fun _ => ?_)|fail
  · rename_i hlt
    have hlt' : i < x.1.length := by omega
    have hri := hx.row _ (List.getElem_mem hlt')
    repeat' (first|refine X.O ?_|refine X.A ?_|refine X.B ?_|refine X.C ?_|refine X.D ?_|refine X.E ?_|refine X.F ?_|refine X.G ?_|refine X.H ?_|refine X.I ?_|fail)
    refine WL.ixload hA5 (List.getElem?_eq_getElem hlt') ?_
    intro p5 u hu
    obtain ⟨au, cu, hvu⟩ := hu.shape
    subst hvu
    repeat' (first|refine X.O ?_|refine X.A ?_|refine X.B ?_|refine X.C ?_|refine X.D ?_|refine X.E ?_|refine X.F ?_|refine X.G ?_|refine X.H ?_|refine X.I ?_|fail)
    refine WP.drawn (fun w' => Below w4.heap.size w5 w') [(0, true), (1, true), (2, true), (3, true), (4, false), (5, false), (6, false), (7, false), (8, false), (9, false), (10, true), (1011, false)] (by kernel_rfl) mixed ?_
    intro w6 hs6
    have hS6 : Below w5.heap.size w5 w6 := hs6.below _
    have hz6 := hs6.size
    have hT6 : Below w4.heap.size w5 w6 := Below.mono hS6 (by omega)
    refine WS.fld rfl rfl (fun w' h => hb5.below h (by omega)) hT6 ?_
    intro p6
    repeat' (first|refine X.U rfl ?_|refine X.V rfl ?_|refine X.W rfl ?_|refine X.Y rfl ?_|refine X.Z rfl ?_|refine WS.nil ?_|fail)
    refine WS.q rfl (q_loadS (by rfl) (fun w' h => hb15'.below h (by omega)) (by rfl)) hT6 ?_
    have hTy : IT lo' hi' w6 (.agg #[.slice a3 y.1.length c3, .slice a4 y.2.length c4]) y := ⟨_, _, rfl, hA5'.still IS.stable hs6, hB5'.still RI.stable hs6⟩
    refine WS.call rfl (stages_any hTy) ?_
    rintro _ w7 ⟨rfl, hc7⟩
    have hz7 := hc7.size
    have hS7 : Below w5.heap.size w5 w7 := hS6.trans (hc7.below (by omega) (by omega))
    refine ⟨Below.mono hS7 (by omega), ?_⟩
    refine WS.op rfl (o_make (by rfl) (by rfl) (by omega) (by unfold maxLen; omega) ?_)
    intro vz w8 hown8 hbl8 hz8
    have hS8 : Below w5.heap.size w5 w8 := hS7.trans (Below.mono hbl8 (by omega))
    refine ⟨Below.mono hS8 (by omega), ?_⟩
    obtain ⟨az, cz, hvz, _⟩ := hown8.shape
    rw [List.length_replicate] at hvz
    have iz : IS w7.heap.size w8.heap.size w8 vz (List.replicate y.2.length 0) := Own.is (by simpa [Ints] using hown8)
    subst hvz
    refine WS.op rfl (o_lit (us := [.slice au x.1[i].length cu, .slice az y.2.length cz]) (by rfl) (by rfl) rfl (by decide) two_cells ?_)
    intro v9 w9 hown9 hbl9 hz9 _
    have hS9 : Below w5.heap.size w5 w9 := hS8.trans (Below.mono hbl9 (by omega))
    refine ⟨Below.mono hS9 (by omega), ?_⟩
    have hu9 := hu.below RI.stable hS9 (by omega)
    refine WS.call rfl (Concat_any (lit2 hown9 hu9 (iz.below RI.stable hbl9 (by omega))) (by simp [cntSS]; omega) (by simp)) ?_
    intro vr w10 hN10
    have hz10 := hN10.2.size
    have hS10 : Below w5.heap.size w5 w10 := hS9.trans (Below.mono hN10.2 (by omega))
    refine ⟨Below.mono hS10 (by omega), ?_⟩
    have oR := hN10.ow
    have er : [x.1[i], List.replicate y.2.length 0].flatten = x.1[i] ++ List.replicate y.2.length 0 := by simp
    rw [er] at oR
    refine WS.pushRow rfl rfl rfl rfl (Below.mono hS10 (by omega)) (hb5.below hS10 (by omega)) rfl (by omega) (Nat.le_refl _) (by omega) (by omega) (oA.chg (Chg.of_below hS10) (by omega)) (by omega) (by omega) oR (by rw [List.length_take]; omega) (by decide) ?_
    intro p7 v11 v12 w11 w12 h12 hb12 oA12 hbl11 hbut12
    refine WS.nil ?_
    repeat' (first|refine X.O ?_|refine X.A ?_|refine X.B ?_|refine X.C ?_|refine X.D ?_|refine X.E ?_|refine X.F ?_|refine X.G ?_|refine X.H ?_|refine X.I ?_|fail)
    refine ⟨(i + 1, v12), ⟨rfl, rfl, rfl, rfl, rfl, rfl, (by first|rfl|exact X.T (by omega)), trivial⟩, ⟨by dsimp only; omega, h12, hb12, ?_, ((hc5.thenBelow (Below.mono hS10 (by omega))).thenBelow hbl11).thenBut hbut12 (Nat.le_refl _) (by omega)⟩, by dsimp only; omega⟩
    dsimp only
    rw [take_snoc (show i < (compA x y).length by omega) (compA_get_left x y hlt' (by omega))]
    exact oA12
  · rename_i hge
    have : i = x.1.length := by omega
    subst this
    repeat' (first|refine X.O ?_|refine X.A ?_|refine X.B ?_|refine X.C ?_|refine X.D ?_|refine X.E ?_|refine X.F ?_|refine X.G ?_|refine X.H ?_|refine X.I ?_|fail)
    refine WL.fld hb15' ?_
    intro p3
    repeat' (first|refine X.O ?_|refine X.A ?_|refine X.B ?_|refine X.C ?_|refine X.D ?_|refine X.E ?_|refine X.F ?_|refine X.G ?_|refine X.H ?_|refine X.I ?_|fail)
    refine WP.loop (fun (s : Nat × Value) => [(2, .pointer (some ⟨w.heap.size, 0, none⟩)), (3, .pointer (some ⟨w1.heap.size, 0, none⟩)), (4, .pointer (some ⟨w1'.heap.size, 0, none⟩)), (5, .pointer (some ⟨w3.heap.size, 0, none⟩)), (37, .slice a3 y.1.length c3), (38, .int .i64 (y.1.length : Nat)), (39, .int .i64 (s.1 : Nat))])
      (fun s w5 => s.1 ≤ y.1.length ∧ s.2.oneCell' = true ∧ Blk w5 w3.heap.size [s.2, .slice aq (x.2 ++ y.2).length cq] 27 ∧ OwSS 25 2 w4.heap.size w5.heap.size w5 s.2 ((compA x y).take (x.1.length + s.1)) ∧ Chg w3.heap.size w4.heap.size w4 w5)
      (fun s => y.1.length - s.1) (0, vo) ⟨rfl, rfl, rfl, rfl, rfl, rfl, rfl, trivial⟩ ⟨by omega, hone, hb5, oA, hc5⟩ ?_
    clear oA hc5 hb5 hone hz5 hA5 hB5 hA5' hB5' hb15 hb15'
    rintro ⟨j, vq⟩ w5 ⟨hj1, hone, hb5, oA, hc5⟩
    dsimp only at hj1 hone hb5 oA ⊢
    have hz5 := hc5.size
    have hB5 := RI.chg hB hc5 (by omega)
    have hA5' := ISS.chg hA' hc5 (by omega)
    have hb15 := hb1.chg hc5 (by omega)
    repeat' (first|refine X.O ?_|refine X.A ?_|refine X.B ?_|refine X.C ?_|refine X.D ?_|refine X.E ?_|refine X.F ?_|refine X.G ?_|refine X.H ?_|refine X.I ?_|fail)
    first|refine X.J (fun _ => ?_) (fun _ => ?_)|refine X.L (fun _ => ?_) (fun _ => ?_)|refine X.M (fun _ => ?_) (fun _ => ?_)|refine X.R (fun _ => ?_) (fun _ => ?_)|fail
    · rename_i hlt
      have hlt' : j < y.1.length := by omega
      have hri := hy.row _ (List.getElem_mem hlt')
      repeat' (first|refine X.O ?_|refine X.A ?_|refine X.B ?_|refine X.C ?_|refine X.D ?_|refine X.E ?_|refine X.F ?_|refine X.G ?_|refine X.H ?_|refine X.I ?_|fail)
      refine WL.ixload hA5' (List.getElem?_eq_getElem hlt') ?_
      intro p5 u hu
      obtain ⟨au, cu, hvu⟩ := hu.shape
      subst hvu
      repeat' (first|refine X.O ?_|refine X.A ?_|refine X.B ?_|refine X.C ?_|refine X.D ?_|refine X.E ?_|refine X.F ?_|refine X.G ?_|refine X.H ?_|refine X.I ?_|fail)
      refine WP.drawn (fun w' => Below w4.heap.size w5 w') [(0, true), (1, true), (2, true), (3, true), (4, true), (5, false), (6, false), (7, false), (8, false), (9, true), (1010, false)] (by kernel_rfl) mixed ?_
      intro w6 hs6
      have hS6 : Below w5.heap.size w5 w6 := hs6.below _
      have hz6 := hs6.size
      have hT6 : Below w4.heap.size w5 w6 := Below.mono hS6 (by omega)
      refine WS.fld rfl rfl (fun w' h => hb5.below h (by omega)) hT6 ?_
      intro p6
      refine WS.fld rfl rfl (fun w' h => hb15.below h (by omega)) hT6 ?_
      intro p6'
      repeat' (first|refine X.U rfl ?_|refine X.V rfl ?_|refine X.W rfl ?_|refine X.Y rfl ?_|refine X.Z rfl ?_|refine WS.nil ?_|fail)
      refine WS.op rfl (o_lit (us := [.slice a2 x.2.length c2, .slice au y.1[j].length cu]) (by rfl) (by rfl) rfl (by decide) two_cells ?_)
      intro v9 w9 hown9 hbl9 hz9 _
      have hS9 : Below w5.heap.size w5 w9 := hS6.trans (Below.mono hbl9 (by omega))
      refine ⟨Below.mono hS9 (by omega), ?_⟩
      refine WS.call rfl (Concat_any (lit2 hown9 (hB5.below RI.stable hS9 (by omega)) (hu.below RI.stable hS9 (by omega))) (by simp [cntSS]; omega) (by simp)) ?_
      intro vr w10 hN10
      have hz10 := hN10.2.size
      have hS10 : Below w5.heap.size w5 w10 := hS9.trans (Below.mono hN10.2 (by omega))
      refine ⟨Below.mono hS10 (by omega), ?_⟩
      have oR := hN10.ow
      have er : [x.2, y.1[j]].flatten = x.2 ++ y.1[j] := by simp
      rw [er] at oR
      refine WS.pushRow rfl rfl rfl rfl (Below.mono hS10 (by omega)) (hb5.below hS10 (by omega)) rfl (by omega) (Nat.le_refl _) (by omega) (by omega) (oA.chg (Chg.of_below hS10) (by omega)) (by omega) (by omega) oR (by rw [List.length_take]; omega) (by decide) ?_
      intro p7 v11 v12 w11 w12 h12 hb12 oA12 hbl11 hbut12
      refine WS.nil ?_
      repeat' (first|refine X.O ?_|refine X.A ?_|refine X.B ?_|refine X.C ?_|refine X.D ?_|refine X.E ?_|refine X.F ?_|refine X.G ?_|refine X.H ?_|refine X.I ?_|fail)
      refine ⟨(j + 1, v12), ⟨rfl, rfl, rfl, rfl, rfl, rfl, (by first|rfl|exact X.T (by omega)), trivial⟩, ⟨by dsimp only; omega, h12, hb12, ?_, ((hc5.thenBelow (Below.mono hS10 (by omega))).thenBelow hbl11).thenBut hbut12 (Nat.le_refl _) (by omega)⟩, by dsimp only; omega⟩
      dsimp only
      rw [show x.1.length + (j + 1) = (x.1.length + j) + 1 from by omega, take_snoc (show x.1.length + j < (compA x y).length by omega) (compA_get_right x y hlt' (by omega))]
      exact oA12
    · rename_i hge
      have : j = y.1.length := by omega
      subst this
      rw [List.take_of_length_le (by omega)] at oA
      have hb25 := hb2.chg hc5 (by omega)
      repeat' (first|refine X.O ?_|refine X.A ?_|refine X.B ?_|refine X.C ?_|refine X.D ?_|refine X.E ?_|refine X.F ?_|refine X.G ?_|refine X.H ?_|refine X.I ?_|fail)
      refine WL.step (o_loadS (by rfl) hb5 (by rfl) ?_)
      refine WL.step (o_storeS (vs := [vq, .slice aq (x.2 ++ y.2).length cq]) (by rfl) (by rfl) hb25 (by rfl) (by rfl) (two1 hone rfl) ?_)
      intro w6 hb6 hbut6
      have hc6 := hbut6.chg
      have hz6 := hbut6.size
      repeat' (first|refine X.O ?_|refine X.A ?_|refine X.B ?_|refine X.C ?_|refine X.D ?_|refine X.E ?_|refine X.F ?_|refine X.G ?_|refine X.H ?_|refine X.I ?_|fail)
      refine ⟨_, retS rfl (by rfl) hb6 (by rfl), ?_, ?_⟩
      · have h1 : OwSS 25 2 w4.heap.size w6.heap.size w6 vq (composeL x y).1 := (oA.chg hc6 (by omega)).wide (Nat.le_refl _) (by omega) (Nat.le_refl _)
        have h2 : OwI 2 w.heap.size w4.heap.size w6 (.slice aq (x.2 ++ y.2).length cq) (composeL x y).2 := ((oB.chg hc5 (by omega)).chg hc6 (by omega)).wide (by omega) (by omega) (by omega)
        exact OwT.mk' h1 h2 (by omega) (by omega)
      · have hc : Chg 0 0 w w4 := Chg.of_below hbl14
        refine ⟨by rw [hc6.os, hc5.os, hc.os], by rw [hc6.tape, hc5.tape, hc.tape], by rw [hc6.output, hc5.output, hc.output], by omega, fun k hk hd => ?_⟩
        rw [hc6.block k (by omega) (by omega), hc5.block k (by omega) (by omega), hc.block k hk (by omega)]
end Go.Proofs
/- The composition of tableaus, as the reference has it. -/
namespace Go.Fw
open Go Go.RowKit
section
variable {P : Program} {N : Nat} {S : World → Prop} {l : Fr} {ops : Array Oper}
variable {d : Nat} {ty : TypeId} {pos : String} {af : Array Edge} {g : Option (Nat × Bool)}
theorem q_build {t : TypeId} {parts : Array (Nat × Operand)} {us cells : List Value} (hx : evs l (parts.toList.map (·.2)) = some us) (hb : P.built t ((parts.toList.map (·.1)).zip us) = some cells.toArray)
    (hg : wantedL ops l g = some true := by rfl) (hd : Nat.blt d N = true := by rfl) : QW P N ops S ⟨some d, .build t parts, ty, pos, af, g⟩ l d (.agg cells.toArray) :=
  QW.mk (fun fr ha w _ => by
    have hm := evs_map ha hx
    have hp : (parts.map fun (i, x) => (i, fr.eval x)).toList = (parts.toList.map (·.1)).zip us := by
      rw [Array.toList_map, ← hm, List.map_map]
      induction parts.toList with
      | nil => rfl
      | cons x r ih => simp [ih]
    have hr := run_build (P := P) w t (parts.map fun (i, x) => (i, fr.eval x)) cells.toArray (by rw [hp]; exact hb)
    simp only [execOp, Sem.run_bind, hr, Result.andThen_ok, Sem.run_pure]) hg hd
end
theorem Own.ne_blk {lo b : Nat} {e tt : TypeId} {w : World} {v : Value} {us cs : List Value} (h : Own lo e w v us) (hb : Blk w b cs tt) (hne : e ≠ tt) {k : Nat} (hk : v.ownBlock = some k) : k ≠ b := fun he => by
  obtain ⟨cur, hc⟩ := h.elem hk
  subst he
  unfold Blk at hb
  rw [hc] at hb
  simp only [Option.some.injEq, Obj.cells.injEq] at hb
  exact hne hb.2.1
end Go.Fw
namespace Go.Proofs
open Go Go.Fw Go.RowKit Go.Rk
theorem l01Own_any {lo hi : Nat} {w : World} {v : Value} {xs : List Int} (h : IS lo hi w v xs) (hn : xs.length ≤ 1000000) : Does Tryz.prog 61 [v] w fun r w' => NewI w r w' xs := by
  refine Does.enter Tryz.func61 Tryz.ntmps61 rfl (by rfl) ?_
  repeat' (first|refine X.O ?_|refine X.A ?_|refine X.B ?_|refine X.C ?_|refine X.D ?_|refine X.E ?_|refine X.F ?_|refine X.G ?_|refine X.H ?_|refine X.I ?_|fail)
  refine WL.step (o_lit (us := []) (by rfl) (by rfl) rfl (by decide) one0 ?_)
  intro v1 w1 hown1 hbl1 hz1 _
  repeat' (first|refine X.O ?_|refine X.A ?_|refine X.B ?_|refine X.C ?_|refine X.D ?_|refine X.E ?_|refine X.F ?_|refine X.G ?_|refine X.H ?_|refine X.I ?_|fail)
  refine WL.step (o_append (news := Ints xs) (by rfl) (by rfl) hown1 (IS.src (h.below RI.stable hbl1 h.hi_le)) Ints_one (by simp [Ints, maxLen]; omega) (by simp [Ints]; omega) (by omega) ?_)
  intro v2 w2 hown2 _ hbl2 _
  repeat' (first|refine X.O ?_|refine X.A ?_|refine X.B ?_|refine X.C ?_|refine X.D ?_|refine X.E ?_|refine X.F ?_|refine X.G ?_|refine X.H ?_|refine X.I ?_|fail)
  refine ⟨_, ret1 rfl (by rfl), ?_⟩
  exact ⟨hown2, hbl1.trans (Below.mono hbl2 (by omega))⟩
theorem l10Compose_any {lo hi lo' hi' : Nat} {w : World} {v v' : Value} {x y : TabD} (h : IT lo hi w v x) (h' : IT lo' hi' w v' y) (hx : Tab x) (hy : Tab y) :
    Does Tryz.prog 46 [v, v'] w fun r w' => OwT 25 2 w.heap.size w'.heap.size w' r (composeL x y) ∧ Chg 0 0 w w' := by
  obtain ⟨va, vb, rfl, hA, hB⟩ := h
  obtain ⟨va', vb', rfl, hA', hB'⟩ := h'
  obtain ⟨a, c, hva⟩ := hA.shape
  obtain ⟨a2, c2, hvb⟩ := hB.shape
  obtain ⟨a3, c3, hva'⟩ := hA'.shape
  obtain ⟨a4, c4, hvb'⟩ := hB'.shape
  subst hva hvb hva' hvb'
  have hm := hx.le8
  have hsq := hx.sq
  have hm' := hy.le8
  have hsq' := hy.sq
  have hAz := hA.hi_le
  have hAz' := hA'.hi_le
  have hlenR := compA_length x y
  refine Does.enter Tryz.func46 Tryz.ntmps46 rfl (by rfl) ?_
  repeat' (first|refine X.O ?_|refine X.A ?_|refine X.B ?_|refine X.C ?_|refine X.D ?_|refine X.E ?_|refine X.F ?_|refine X.G ?_|refine X.H ?_|refine X.I ?_|fail)
  refine WL.step (o_box (by rfl) ?_)
  intro w1 hb1 hbl1 hz1
  refine WL.step (o_box (by rfl) ?_)
  intro w1' hb1' hbl1' hz1'
  refine WL.step (o_alloc ?_)
  intro w2 hb2 hbl2 hz2
  have hbl12 : Below w.heap.size w w2 := hbl1.trans ((Below.mono hbl1' (by omega)).trans (Below.mono hbl2 (by omega)))
  replace hb1 := (hb1.below hbl1' (by omega)).below hbl2 (by omega)
  replace hb1' := hb1'.below hbl2 (by omega)
  replace hA := hA.below IS.stable hbl12 hAz
  replace hB := hB.below RI.stable hbl12 hAz
  replace hA' := hA'.below IS.stable hbl12 hAz'
  replace hB' := hB'.below RI.stable hbl12 hAz'
  repeat' (first|refine X.O ?_|refine X.A ?_|refine X.B ?_|refine X.C ?_|refine X.D ?_|refine X.E ?_|refine X.F ?_|refine X.G ?_|refine X.H ?_|refine X.I ?_|fail)
  refine WP.mid (fun l' w' => ∃ b aq cq, Agree l' [(2, .pointer (some ⟨w.heap.size, 0, none⟩)), (3, .pointer (some ⟨w1.heap.size, 0, none⟩)), (4, .pointer (some ⟨w1'.heap.size, 0, none⟩)), (5, .pointer (some ⟨b, 0, none⟩))] ∧
    Blk w' b [.slice none 0 0, .slice aq (x.2 ++ y.2).length cq] 27 ∧ Own w2.heap.size 2 w' (.slice aq (x.2 ++ y.2).length cq) (Ints (x.2 ++ y.2)) ∧ w2.heap.size ≤ b ∧ Below w2.heap.size w2 w') ?_ ?_
  · refine WP.forked (fun w' => Below w2.heap.size w2 w') (.q 0 (.q 1 (.q 3 (.q 4 (.two 2 (.two 5 (.q 6 (.o 7 (.o 8 .nil))) 7 (.o 5 (.q 6 (.o 8 .nil)))) 7 (.o 2 (.o 5 (.q 6 (.o 8 .nil))))))))) (by kernel_rfl) mixed ?_
    intro w3 hs3
    have hz3 := hs3.size
    have hS3 : Below w2.heap.size w2 w3 := hs3.below _
    refine WT.fld rfl rfl (fun w' h => hb1.below h hb1.lt) hS3 ?_
    intro p1
    refine WT.fld rfl rfl (fun w' h => hb1'.below h hb1'.lt) hS3 ?_
    intro p2
    have hB3 := hB.still RI.stable hs3
    have hB3' := hB'.still RI.stable hs3
    refine WT.two rfl rfl (o_call (l01Own_any hB3 (by omega)) ?_) (o_alloc ?_)
    · intro v4 w4 hN4
      have hz4 := hN4.2.size
      have hS4 : Below w2.heap.size w2 w4 := hS3.trans (Below.mono hN4.2 (by omega))
      refine ⟨hS4, ?_⟩
      have hB4' := hB3'.below RI.stable hN4.2 hB3'.hi_le
      refine WT.two rfl rfl (o_append (news := Ints y.2) (by rfl) (by rfl) hN4.1 (IS.src hB4') Ints_one (by simp [Ints, maxLen]; omega) (by simp [Ints]; omega) (by omega) ?_) (o_alloc ?_)
      · intro v5 w5 hown5 hg5 hbl5 _
        have hz5 := hg5.size
        have hS5 : Below w2.heap.size w2 w5 := hS4.trans (Below.mono hbl5 (by omega))
        refine ⟨hS5, ?_⟩
        rw [← Ints_append] at hown5
        obtain ⟨aq, cq, hvq, _⟩ := hown5.shape
        rw [Ints_length] at hvq
        subst hvq
        refine WT.q rfl (q_build (us := [.slice aq (x.2 ++ y.2).length cq]) (cells := [.slice none 0 0, .slice aq (x.2 ++ y.2).length cq]) (by rfl) (by kernel_rfl)) hS5 ?_
        refine WT.o rfl (o_alloc ?_)
        intro w6 hb6 hbl6 hz6
        have hS6 : Below w2.heap.size w2 w6 := hS5.trans (Below.mono hbl6 (by omega))
        refine ⟨hS6, ?_⟩
        refine WT.o rfl (o_storeS (vs := [.slice none 0 0, .slice aq (x.2 ++ y.2).length cq]) (by rfl) (by rfl) hb6 (by rfl) (by rfl) two_cells ?_)
        intro w7 hb7 hbut7
        have hS7 : Below w2.heap.size w2 w7 := hS6.trans (hbut7.below (by omega))
        refine ⟨hS7, ?_⟩
        refine WT.nil (thenN ?_)
        have ho6 := hown5.below hbl6 (Nat.le_refl _)
        exact ⟨_, aq, cq, ⟨rfl, rfl, rfl, rfl, trivial⟩, hb7, (ho6.keep fun k hk => hbut7.block k (ho6.ne_blk hb6 (by decide) hk)).lower (by omega), by omega, hS7⟩
      · intro w5 hb5 hbl5 hz5
        have hS5 : Below w2.heap.size w2 w5 := hS4.trans (Below.mono hbl5 (by omega))
        refine ⟨hS5, ?_⟩
        refine WT.o rfl (o_append (news := Ints y.2) (by rfl) (by rfl) (hN4.1.below hbl5 (Nat.le_refl _)) (IS.src (hB4'.below RI.stable hbl5 (by omega))) Ints_one (by simp [Ints, maxLen]; omega) (by simp [Ints]; omega) (by omega) ?_)
        intro v6 w6 hown6 hg6 hbl6 _
        have hz6 := hg6.size
        have hS6 : Below w2.heap.size w2 w6 := hS5.trans (Below.mono hbl6 (by omega))
        refine ⟨hS6, ?_⟩
        have hb6 : Blk w6 w4.heap.size _ _ := hb5.keep (hg6.block _ (by omega) (fun e => ((hN4.1.below hbl5 (Nat.le_refl _)).ne_blk hb5 (by decide) e.symm) rfl))
        rw [← Ints_append] at hown6
        obtain ⟨aq, cq, hvq, _⟩ := hown6.shape
        rw [Ints_length] at hvq
        subst hvq
        refine WT.q rfl (q_build (us := [.slice aq (x.2 ++ y.2).length cq]) (cells := [.slice none 0 0, .slice aq (x.2 ++ y.2).length cq]) (by rfl) (by kernel_rfl)) hS6 ?_
        refine WT.o rfl (o_storeS (vs := [.slice none 0 0, .slice aq (x.2 ++ y.2).length cq]) (by rfl) (by rfl) hb6 (by rfl) (by rfl) two_cells ?_)
        intro w7 hb7 hbut7
        have hS7 : Below w2.heap.size w2 w7 := hS6.trans (hbut7.below (by omega))
        refine ⟨hS7, ?_⟩
        refine WT.nil (thenN ?_)
        exact ⟨_, aq, cq, ⟨rfl, rfl, rfl, rfl, trivial⟩, hb7, (hown6.keep fun k hk => hbut7.block k (hown6.ne_blk hb6 (by decide) hk)).lower (by omega), by omega, hS7⟩
    · intro w4 hb4 hbl4 hz4
      have hS4 : Below w2.heap.size w2 w4 := hS3.trans (Below.mono hbl4 (by omega))
      refine ⟨hS4, ?_⟩
      refine WT.o rfl (o_call (l01Own_any (hB3.below RI.stable hbl4 (by omega)) (by omega)) ?_)
      intro v5 w5 hN5
      have hz5 := hN5.2.size
      have hS5 : Below w2.heap.size w2 w5 := hS4.trans (Below.mono hN5.2 (by omega))
      refine ⟨hS5, ?_⟩
      have hb5 := hb4.below hN5.2 hb4.lt
      refine WT.o rfl (o_append (news := Ints y.2) (by rfl) (by rfl) hN5.1 (IS.src ((hB3'.below RI.stable hbl4 (by omega)).below RI.stable hN5.2 (by omega))) Ints_one (by simp [Ints, maxLen]; omega) (by simp [Ints]; omega) (by omega) ?_)
      intro v6 w6 hown6 hg6 hbl6 _
      have hz6 := hg6.size
      have hS6 : Below w2.heap.size w2 w6 := hS5.trans (Below.mono hbl6 (by omega))
      refine ⟨hS6, ?_⟩
      have hb6 := hb5.below hbl6 (by omega)
      rw [← Ints_append] at hown6
      obtain ⟨aq, cq, hvq, _⟩ := hown6.shape
      rw [Ints_length] at hvq
      subst hvq
      refine WT.q rfl (q_build (us := [.slice aq (x.2 ++ y.2).length cq]) (cells := [.slice none 0 0, .slice aq (x.2 ++ y.2).length cq]) (by rfl) (by kernel_rfl)) hS6 ?_
      refine WT.o rfl (o_storeS (vs := [.slice none 0 0, .slice aq (x.2 ++ y.2).length cq]) (by rfl) (by rfl) hb6 (by rfl) (by rfl) two_cells ?_)
      intro w7 hb7 hbut7
      have hS7 : Below w2.heap.size w2 w7 := hS6.trans (hbut7.below (by omega))
      refine ⟨hS7, ?_⟩
      refine WT.nil (thenN ?_)
      exact ⟨_, aq, cq, ⟨rfl, rfl, rfl, rfl, trivial⟩, hb7, (hown6.keep fun k hk => hbut7.block k (hown6.ne_blk hb6 (by decide) hk)).lower (by omega), by omega, hS7⟩
  rintro l4 w4 ⟨b3, aq, cq, hag, hb4, oB, hb3, hbl24⟩
  refine WP.frame _ hag ?_
  clear hag
  have hb3lt := hb4.lt
  have hz24 := hbl24.size
  have hbl14 : Below w.heap.size w w4 := hbl12.trans (Below.mono hbl24 (by omega))
  replace hb1 := hb1.below hbl24 hb1.lt
  replace hb1' := hb1'.below hbl24 hb1'.lt
  replace hb2 := hb2.below hbl24 hb2.lt
  replace hA := hA.below IS.stable hbl24 (by omega)
  replace hB := hB.below RI.stable hbl24 (by omega)
  replace hA' := hA'.below IS.stable hbl24 (by omega)
  replace hB' := hB'.below RI.stable hbl24 (by omega)
  repeat' (first|refine X.O ?_|refine X.A ?_|refine X.B ?_|refine X.C ?_|refine X.D ?_|refine X.E ?_|refine X.F ?_|refine X.G ?_|refine X.H ?_|refine X.I ?_|fail)
  refine WP.loop (fun (s : Nat × Value) => [(2, .pointer (some ⟨w.heap.size, 0, none⟩)), (3, .pointer (some ⟨w1.heap.size, 0, none⟩)), (4, .pointer (some ⟨w1'.heap.size, 0, none⟩)), (5, .pointer (some ⟨b3, 0, none⟩)), (6, .int .i64 (s.1 : Nat))])
    (fun s w5 => s.1 ≤ x.1.length ∧ s.2.oneCell' = true ∧ Blk w5 b3 [s.2, .slice aq (x.2 ++ y.2).length cq] 27 ∧ OwSS 25 2 w4.heap.size w5.heap.size w5 s.2 ((compA x y).take s.1) ∧ Chg b3 (b3 + 1) w4 w5)
    (fun s => x.1.length - s.1) (0, .slice none 0 0) ⟨rfl, rfl, rfl, rfl, rfl, trivial⟩ ⟨by omega, rfl, hb4, OwSS.nil _ _ _ _ (by decide), Chg.refl _ _ _⟩ ?_
  rintro ⟨i, vo⟩ w5 ⟨hi1, hone, hb5, oA, hc5⟩
  dsimp only at hi1 hone hb5 oA ⊢
  have hz5 := hc5.size
  have hA5 := ISS.chg hA hc5 (by omega)
  have hB5' := RI.chg hB' hc5 (by omega)
  have hb15 := hb1.chg hc5 (by omega)
  have hb15' := hb1'.chg hc5 (by omega)
  repeat' (first|refine X.O ?_|refine X.A ?_|refine X.B ?_|refine X.C ?_|refine X.D ?_|refine X.E ?_|refine X.F ?_|refine X.G ?_|refine X.H ?_|refine X.I ?_|fail)
  refine WL.fld hb15 ?_
  intro p2
  repeat' (first|refine X.O ?_|refine X.A ?_|refine X.B ?_|refine X.C ?_|refine X.D ?_|refine X.E ?_|refine X.F ?_|refine X.G ?_|refine X.H ?_|refine X.I ?_|fail)
  first|refine X.J (fun _ => ?_) (fun _ => ?_)|refine X.L (fun _ => ?_) (fun _ => ?_)|refine X.M (fun _ => ?_) (fun _ => ?_)|refine X.R (fun _ => ?_) (fun _ => ?_)|fail
  · rename_i hlt
    have hlt' : i < x.1.length := by omega
    have hri := hx.row _ (List.getElem_mem hlt')
    repeat' (first|refine X.O ?_|refine X.A ?_|refine X.B ?_|refine X.C ?_|refine X.D ?_|refine X.E ?_|refine X.F ?_|refine X.G ?_|refine X.H ?_|refine X.I ?_|fail)
    refine WP.drawn (fun w' => Below w4.heap.size w5 w') [(0, true), (1, true), (2, true), (3, true), (4, true), (5, true), (6, true), (8, true), (9, true), (10, true), (7, false), (11, false), (12, false), (13, false), (14, true), (1015, false)] (by kernel_rfl) mixed ?_
    intro w6 hs6
    have hS6 : Below w5.heap.size w5 w6 := hs6.below _
    have hz6 := hs6.size
    have hT6 : Below w4.heap.size w5 w6 := Below.mono hS6 (by omega)
    refine WS.fld rfl rfl (fun w' h => hb5.below h (by omega)) hT6 ?_
    intro p6
    refine WS.fld rfl rfl (fun w' h => hb15.below h (by omega)) hT6 ?_
    intro p7
    repeat' (first|refine X.U rfl ?_|refine X.V rfl ?_|refine X.W rfl ?_|refine X.Y rfl ?_|refine X.Z rfl ?_|refine WS.nil ?_|fail)
    refine WS.ixload rfl rfl (hA5.still IS.stable hs6) (List.getElem?_eq_getElem hlt') (fun w' hw' => same_below hT6 hw' (by omega)) hT6 ?_
    intro p5 u hu
    refine WS.fld rfl rfl (fun w' h => hb15'.below h (by omega)) hT6 ?_
    intro p8
    repeat' (first|refine X.U rfl ?_|refine X.V rfl ?_|refine X.W rfl ?_|refine X.Y rfl ?_|refine X.Z rfl ?_|refine WS.nil ?_|fail)
    refine WS.call rfl (l01Own_any hu (by omega)) ?_
    intro v7 w7 hN7
    have hz7 := hN7.2.size
    have hS7 : Below w5.heap.size w5 w7 := hS6.trans (Below.mono hN7.2 (by omega))
    refine ⟨Below.mono hS7 (by omega), ?_⟩
    refine WS.op rfl (o_appendN (n := y.2.length) (by rfl) (by rfl) hN7.1 rfl (by rw [Ints_length]; unfold maxLen; omega) (by rw [Ints_length]; omega) (by omega) ?_)
    intro vr w10 hown10 hg10 hbl10
    have hz10 := hg10.size
    have hS10 : Below w5.heap.size w5 w10 := hS7.trans (Below.mono hbl10 (by omega))
    refine ⟨Below.mono hS10 (by omega), ?_⟩
    have oR : OwI 2 w6.heap.size w10.heap.size w10 vr (x.1[i] ++ List.replicate y.2.length 0) := ⟨by rw [Ints_append]; simpa [Ints] using hown10, fun k hk => (hown10.block k hk).2, Nat.le_refl _⟩
    refine WS.pushRow rfl rfl rfl rfl (Below.mono hS10 (by omega)) (hb5.below hS10 (by omega)) rfl (by omega) (Nat.le_refl _) (by omega) (by omega) (oA.chg (Chg.of_below hS10) (by omega)) (by omega) (by omega) oR (by rw [List.length_take]; omega) (by decide) ?_
    intro p9 v11 v12 w11 w12 h12 hb12 oA12 hbl11 hbut12
    refine WS.nil ?_
    repeat' (first|refine X.O ?_|refine X.A ?_|refine X.B ?_|refine X.C ?_|refine X.D ?_|refine X.E ?_|refine X.F ?_|refine X.G ?_|refine X.H ?_|refine X.I ?_|fail)
    refine ⟨(i + 1, v12), ⟨rfl, rfl, rfl, rfl, (by first|rfl|exact X.T (by omega)), trivial⟩, ⟨by dsimp only; omega, h12, hb12, ?_, ((hc5.thenBelow (Below.mono hS10 (by omega))).thenBelow hbl11).thenBut hbut12 (Nat.le_refl _) (by omega)⟩, by dsimp only; omega⟩
    dsimp only
    rw [take_snoc (show i < (compA x y).length by omega) (compA_get_left x y hlt' (by omega))]
    exact oA12
  · rename_i hge
    have : i = x.1.length := by omega
    subst this
    repeat' (first|refine X.O ?_|refine X.A ?_|refine X.B ?_|refine X.C ?_|refine X.D ?_|refine X.E ?_|refine X.F ?_|refine X.G ?_|refine X.H ?_|refine X.I ?_|fail)
    refine WP.loop (fun (s : Nat × Value) => [(2, .pointer (some ⟨w.heap.size, 0, none⟩)), (3, .pointer (some ⟨w1.heap.size, 0, none⟩)), (4, .pointer (some ⟨w1'.heap.size, 0, none⟩)), (5, .pointer (some ⟨b3, 0, none⟩)), (7, .int .i64 (s.1 : Nat))])
      (fun s w5 => s.1 ≤ y.1.length ∧ s.2.oneCell' = true ∧ Blk w5 b3 [s.2, .slice aq (x.2 ++ y.2).length cq] 27 ∧ OwSS 25 2 w4.heap.size w5.heap.size w5 s.2 ((compA x y).take (x.1.length + s.1)) ∧ Chg b3 (b3 + 1) w4 w5)
      (fun s => y.1.length - s.1) (0, vo) ⟨rfl, rfl, rfl, rfl, rfl, trivial⟩ ⟨by omega, hone, hb5, oA, hc5⟩ ?_
    clear oA hc5 hb5 hone hz5 hA5 hB5' hb15 hb15'
    rintro ⟨j, vq⟩ w5 ⟨hj1, hone, hb5, oA, hc5⟩
    dsimp only at hj1 hone hb5 oA ⊢
    have hz5 := hc5.size
    have hB5 := RI.chg hB hc5 (by omega)
    have hA5' := ISS.chg hA' hc5 (by omega)
    have hb15 := hb1.chg hc5 (by omega)
    have hb15' := hb1'.chg hc5 (by omega)
    repeat' (first|refine X.O ?_|refine X.A ?_|refine X.B ?_|refine X.C ?_|refine X.D ?_|refine X.E ?_|refine X.F ?_|refine X.G ?_|refine X.H ?_|refine X.I ?_|fail)
    refine WL.fld hb15' ?_
    intro p2'
    repeat' (first|refine X.O ?_|refine X.A ?_|refine X.B ?_|refine X.C ?_|refine X.D ?_|refine X.E ?_|refine X.F ?_|refine X.G ?_|refine X.H ?_|refine X.I ?_|fail)
    first|refine X.J (fun _ => ?_) (fun _ => ?_)|refine X.L (fun _ => ?_) (fun _ => ?_)|refine X.M (fun _ => ?_) (fun _ => ?_)|refine X.R (fun _ => ?_) (fun _ => ?_)|fail
    · rename_i hlt
      have hlt' : j < y.1.length := by omega
      have hri := hy.row _ (List.getElem_mem hlt')
      repeat' (first|refine X.O ?_|refine X.A ?_|refine X.B ?_|refine X.C ?_|refine X.D ?_|refine X.E ?_|refine X.F ?_|refine X.G ?_|refine X.H ?_|refine X.I ?_|fail)
      refine WP.drawn (fun w' => Below w4.heap.size w5 w') [(0, true), (1, true), (2, true), (3, true), (5, true), (6, true), (7, true), (8, true), (9, true), (4, false), (10, false), (11, false), (12, false), (13, true), (1014, false)] (by kernel_rfl) mixed ?_
      intro w6 hs6
      have hS6 : Below w5.heap.size w5 w6 := hs6.below _
      have hz6 := hs6.size
      have hT6 : Below w4.heap.size w5 w6 := Below.mono hS6 (by omega)
      refine WS.fld rfl rfl (fun w' h => hb5.below h (by omega)) hT6 ?_
      intro p6
      refine WS.fld rfl rfl (fun w' h => hb15.below h (by omega)) hT6 ?_
      intro p7
      refine WS.fld rfl rfl (fun w' h => hb15'.below h (by omega)) hT6 ?_
      intro p8
      repeat' (first|refine X.U rfl ?_|refine X.V rfl ?_|refine X.W rfl ?_|refine X.Y rfl ?_|refine X.Z rfl ?_|refine WS.nil ?_|fail)
      refine WS.ixload rfl rfl (hA5'.still IS.stable hs6) (List.getElem?_eq_getElem hlt') (fun w' hw' => same_below hT6 hw' (by omega)) hT6 ?_
      intro p5 u hu
      refine WS.call rfl (l01Own_any (hB5.still RI.stable hs6) (by omega)) ?_
      intro v7 w7 hN7
      have hz7 := hN7.2.size
      have hS7 : Below w5.heap.size w5 w7 := hS6.trans (Below.mono hN7.2 (by omega))
      refine ⟨Below.mono hS7 (by omega), ?_⟩
      refine WS.op rfl (o_append (news := Ints y.1[j]) (by rfl) (by rfl) hN7.1 (IS.src (hu.below RI.stable hN7.2 (by omega))) Ints_one (by rw [Ints_length, Ints_length]; unfold maxLen; omega) (by rw [Ints_length, Ints_length]; omega) (by omega) ?_)
      intro vr w10 hown10 hg10 hbl10 _
      have hz10 := hg10.size
      have hS10 : Below w5.heap.size w5 w10 := hS7.trans (Below.mono hbl10 (by omega))
      refine ⟨Below.mono hS10 (by omega), ?_⟩
      have oR : OwI 2 w6.heap.size w10.heap.size w10 vr (x.2 ++ y.1[j]) := ⟨by rw [Ints_append]; exact hown10, fun k hk => (hown10.block k hk).2, Nat.le_refl _⟩
      refine WS.pushRow rfl rfl rfl rfl (Below.mono hS10 (by omega)) (hb5.below hS10 (by omega)) rfl (by omega) (Nat.le_refl _) (by omega) (by omega) (oA.chg (Chg.of_below hS10) (by omega)) (by omega) (by omega) oR (by rw [List.length_take]; omega) (by decide) ?_
      intro p9 v11 v12 w11 w12 h12 hb12 oA12 hbl11 hbut12
      refine WS.nil ?_
      repeat' (first|refine X.O ?_|refine X.A ?_|refine X.B ?_|refine X.C ?_|refine X.D ?_|refine X.E ?_|refine X.F ?_|refine X.G ?_|refine X.H ?_|refine X.I ?_|fail)
      refine ⟨(j + 1, v12), ⟨rfl, rfl, rfl, rfl, (by first|rfl|exact X.T (by omega)), trivial⟩, ⟨by dsimp only; omega, h12, hb12, ?_, ((hc5.thenBelow (Below.mono hS10 (by omega))).thenBelow hbl11).thenBut hbut12 (Nat.le_refl _) (by omega)⟩, by dsimp only; omega⟩
      dsimp only
      rw [show x.1.length + (j + 1) = (x.1.length + j) + 1 from by omega, take_snoc (show x.1.length + j < (compA x y).length by omega) (compA_get_right x y hlt' (by omega))]
      exact oA12
    · rename_i hge
      have : j = y.1.length := by omega
      subst this
      rw [List.take_of_length_le (by omega)] at oA
      have hb25 := hb2.chg hc5 (by omega)
      have oB5 : Own w2.heap.size 2 w5 (.slice aq (x.2 ++ y.2).length cq) (Ints (x.2 ++ y.2)) := oB.keep fun k hk => hc5.block k (oB.block k hk).2 (by have := oB.ne_blk hb4 (by decide) hk; omega)
      repeat' (first|refine X.O ?_|refine X.A ?_|refine X.B ?_|refine X.C ?_|refine X.D ?_|refine X.E ?_|refine X.F ?_|refine X.G ?_|refine X.H ?_|refine X.I ?_|fail)
      refine WL.step (o_loadS (by rfl) hb5 (by rfl) ?_)
      refine WL.step (o_storeS (vs := [vq, .slice aq (x.2 ++ y.2).length cq]) (by rfl) (by rfl) hb25 (by rfl) (by rfl) (two1 hone rfl) ?_)
      intro w6 hb6 hbut6
      have hc6 := hbut6.chg
      have hz6 := hbut6.size
      repeat' (first|refine X.O ?_|refine X.A ?_|refine X.B ?_|refine X.C ?_|refine X.D ?_|refine X.E ?_|refine X.F ?_|refine X.G ?_|refine X.H ?_|refine X.I ?_|fail)
      refine ⟨_, retS rfl (by rfl) hb6 (by rfl), ?_, ?_⟩
      · have h1 : OwSS 25 2 w4.heap.size w6.heap.size w6 vq (composeL x y).1 := (oA.chg hc6 (by omega)).wide (Nat.le_refl _) (by omega) (Nat.le_refl _)
        have h2 : OwI 2 w.heap.size w4.heap.size w6 (.slice aq (x.2 ++ y.2).length cq) (composeL x y).2 :=
          ⟨(oB5.keep fun k hk => hbut6.block k (by have := (oB5.block k hk).1; omega)).lower (by omega), fun k hk => (oB.block k hk).2, by omega⟩
        exact OwT.mk' h1 h2 (by omega) (by omega)
      · have hc : Chg 0 0 w w4 := Chg.of_below hbl14
        refine ⟨by rw [hc6.os, hc5.os, hc.os], by rw [hc6.tape, hc5.tape, hc.tape], by rw [hc6.output, hc5.output, hc.output], by omega, fun k hk hd => ?_⟩
        rw [hc6.block k (by omega) (by omega), hc5.block k (by omega) (by omega), hc.block k hk (by omega)]
end Go.Proofs
/- ComposeTableaus, both ways. -/
namespace Go.Proofs
open Go Go.Fw Go.RowKit Go.Rk
theorem nilT (w : World) (lo hi : Nat) (h1 : lo ≤ hi) (h2 : hi ≤ w.heap.size) : OwT 25 2 lo hi w (.agg #[.slice none 0 0, .slice none 0 0]) ([], []) :=
  OwT.mk (m := lo) (x := ([], [])) ⟨[], Own.nil _ _ _, fun k hk => by simp [Value.ownBlock] at hk, by omega, rfl, fun i u xs hu => by simp at hu, fun i j u u' _ hu => by simp at hu, by decide⟩ ⟨Own.nil _ _ _, fun k hk => by simp [Value.ownBlock] at hk, h2⟩ (Nat.le_refl _) h1

theorem ComposeTableaus_any {lo hi lo' hi' : Nat} {w : World} {v v' : Value} {x y : TabD} (h : IT lo hi w v x) (h' : IT lo' hi' w v' y) : Does Tryz.prog 27 [v, v'] w fun r w' => ResT 25 2 w r w' (composeTableaus x y) := by
  obtain ⟨va, vb, rfl, hA, hB⟩ := h
  obtain ⟨va', vb', rfl, hA', hB'⟩ := h'
  obtain ⟨a2, c2, hvb⟩ := hB.shape
  obtain ⟨a4, c4, hvb'⟩ := hB'.shape
  subst hvb hvb'
  have hz0 := hB.hi_le
  have hz0' := hB'.hi_le
  refine Does.enter Tryz.func27 Tryz.ntmps27 rfl (by rfl) ?_
  repeat' (first|refine X.O ?_|refine X.A ?_|refine X.B ?_|refine X.C ?_|refine X.D ?_|refine X.E ?_|refine X.F ?_|refine X.G ?_|refine X.H ?_|refine X.I ?_|fail)
  refine WL.step (o_box (by rfl) ?_)
  intro w1 hb1 hbl1 hz1
  refine WL.step (o_box (by rfl) ?_)
  intro w2 hb2 hbl2 hz2
  refine WL.step (o_alloc ?_)
  intro w3 hb4 hbl3 hz3
  have hbl0 : Below w.heap.size w w3 := hbl1.trans ((Below.mono hbl2 (by omega)).trans (Below.mono hbl3 (by omega)))
  have hc0 := Chg.of_below hbl0
  replace hb1 := (hb1.below hbl2 (by omega)).below hbl3 (by omega)
  replace hb2 := hb2.below hbl3 (by omega)
  have hT : IT lo hi w (.agg #[va, .slice a2 x.2.length c2]) x := ⟨_, _, rfl, hA, hB⟩
  have hT' : IT lo' hi' w (.agg #[va', .slice a4 y.2.length c4]) y := ⟨_, _, rfl, hA', hB'⟩
  replace hT := hT.chg hc0 (by omega)
  replace hT' := hT'.chg hc0 (by omega)
  repeat' (first|refine X.O ?_|refine X.A ?_|refine X.B ?_|refine X.C ?_|refine X.D ?_|refine X.E ?_|refine X.F ?_|refine X.G ?_|refine X.H ?_|refine X.I ?_|fail)
  refine WL.step (o_loadS (by rfl) hb1 (by rfl) ?_)
  refine WL.call (IsTableau_any hT) ?_
  rintro _ w4 ⟨rfl, hc4⟩
  have hz4 := hc4.size
  replace hT := hT.chg hc4 (by omega)
  replace hT' := hT'.chg hc4 (by omega)
  replace hb1 := hb1.chg0 hc4
  replace hb2 := hb2.chg0 hc4
  replace hb4 := hb4.chg0 hc4
  have hc04 := hc0.trans hc4
  repeat' (first|refine X.O ?_|refine X.A ?_|refine X.B ?_|refine X.C ?_|refine X.D ?_|refine X.E ?_|refine X.F ?_|refine X.G ?_|refine X.H ?_|refine X.I ?_|fail)
  first | refine WL.gsplitD (by rfl) (by rfl) (by rfl) (fun _ => ?_) (fun _ => ?_) | refine WL.gsplitND (by rfl) (by rfl) (by rfl) (fun _ => ?_) (fun _ => ?_) | refine WL.gsplitN (by rfl) (by rfl) (by rfl) (fun _ => ?_) (fun _ => ?_) | refine WL.gsplit (by rfl) (by rfl) (by rfl) (fun _ => ?_) (fun _ => ?_) | fail
  · rename_i hbad
    repeat' (first|refine X.O ?_|refine X.A ?_|refine X.B ?_|refine X.C ?_|refine X.D ?_|refine X.E ?_|refine X.F ?_|refine X.G ?_|refine X.H ?_|refine X.I ?_|fail)
    refine WL.step (o_build (us := []) (cells := [.slice none 0 0, .slice none 0 0]) (by rfl) (by kernel_rfl) ?_)
    refine WL.step (o_storeS (vs := [.slice none 0 0, .slice none 0 0]) (by rfl) (by rfl) hb4 (by rfl) (by rfl) two_cells ?_)
    intro w9 hb9 hbut9
    have hc9 := hbut9.chg
    have hz9 := hbut9.size
    repeat' (first|refine X.O ?_|refine X.A ?_|refine X.B ?_|refine X.C ?_|refine X.D ?_|refine X.E ?_|refine X.F ?_|refine X.G ?_|refine X.H ?_|refine X.I ?_|fail)
    have e : composeTableaus x y = (([], []), 1) := by simp [composeTableaus, hbad]
    rw [e]
    refine ⟨_, retS1 rfl (by rfl) hb9 (by rfl) (by rfl), _, rfl, nilT _ _ _ (by omega) (Nat.le_refl _), ?_⟩
    refine ⟨by rw [hc9.os, hc04.os], by rw [hc9.tape, hc04.tape], by rw [hc9.output, hc04.output], by omega, fun k hk hd => ?_⟩
    rw [hc9.block k (by omega) (by omega), hc04.block k hk (by omega)]
  rename_i hok
  repeat' (first|refine X.O ?_|refine X.A ?_|refine X.B ?_|refine X.C ?_|refine X.D ?_|refine X.E ?_|refine X.F ?_|refine X.G ?_|refine X.H ?_|refine X.I ?_|fail)
  refine WL.step (o_loadS (by rfl) hb2 (by rfl) ?_)
  refine WL.call (IsTableau_any hT') ?_
  rintro _ w5 ⟨rfl, hc5⟩
  have hz5 := hc5.size
  replace hT := hT.chg hc5 (by omega)
  replace hT' := hT'.chg hc5 (by omega)
  replace hb1 := hb1.chg0 hc5
  replace hb2 := hb2.chg0 hc5
  replace hb4 := hb4.chg0 hc5
  have hc05 := hc04.trans hc5
  repeat' (first|refine X.O ?_|refine X.A ?_|refine X.B ?_|refine X.C ?_|refine X.D ?_|refine X.E ?_|refine X.F ?_|refine X.G ?_|refine X.H ?_|refine X.I ?_|fail)
  first|refine X.J (fun _ => ?_) (fun _ => ?_)|refine X.L (fun _ => ?_) (fun _ => ?_)|refine X.M (fun _ => ?_) (fun _ => ?_)|refine X.R (fun _ => ?_) (fun _ => ?_)|fail
  · rename_i hbad
    repeat' (first|refine X.O ?_|refine X.A ?_|refine X.B ?_|refine X.C ?_|refine X.D ?_|refine X.E ?_|refine X.F ?_|refine X.G ?_|refine X.H ?_|refine X.I ?_|fail)
    refine WL.step (o_build (us := []) (cells := [.slice none 0 0, .slice none 0 0]) (by rfl) (by kernel_rfl) ?_)
    refine WL.step (o_storeS (vs := [.slice none 0 0, .slice none 0 0]) (by rfl) (by rfl) hb4 (by rfl) (by rfl) two_cells ?_)
    intro w9 hb9 hbut9
    have hc9 := hbut9.chg
    have hz9 := hbut9.size
    repeat' (first|refine X.O ?_|refine X.A ?_|refine X.B ?_|refine X.C ?_|refine X.D ?_|refine X.E ?_|refine X.F ?_|refine X.G ?_|refine X.H ?_|refine X.I ?_|fail)
    have e : composeTableaus x y = (([], []), 1) := by simp [composeTableaus, hbad]
    rw [e]
    refine ⟨_, retS1 rfl (by rfl) hb9 (by rfl) (by rfl), _, rfl, nilT _ _ _ (by omega) (Nat.le_refl _), ?_⟩
    refine ⟨by rw [hc9.os, hc05.os], by rw [hc9.tape, hc05.tape], by rw [hc9.output, hc05.output], by omega, fun k hk hd => ?_⟩
    rw [hc9.block k (by omega) (by omega), hc05.block k hk (by omega)]
  rename_i hok'
  have htx := isTab_iff hok
  have hty := isTab_iff hok'
  have hx8 := htx.le8
  have hy8 := hty.le8
  repeat' (first|refine X.O ?_|refine X.A ?_|refine X.B ?_|refine X.C ?_|refine X.D ?_|refine X.E ?_|refine X.F ?_|refine X.G ?_|refine X.H ?_|refine X.I ?_|fail)
  refine WP.drawn (fun w' => Below w5.heap.size w5 w') [(0, true), (2, true), (1, false), (3, false), (4, true), (5, true), (6, true)] (by kernel_rfl) mixed ?_
  intro w6 hs6
  have hS6 : Below w5.heap.size w5 w6 := hs6.below _
  have hz6 := hs6.size
  have hlt1 := hb1.lt
  have hlt2 := hb2.lt
  refine WS.q rfl (q_loadS (by rfl) (fun w' h => hb1.below h hlt1) (by rfl)) hS6 ?_
  refine WS.q rfl (q_loadS (by rfl) (fun w' h => hb2.below h hlt2) (by rfl)) hS6 ?_
  refine WS.call rfl (stages_any (hT.chg (Chg.of_still hs6) (by omega))) ?_
  rintro _ w7 ⟨rfl, hc7⟩
  have hz7 := hc7.size
  have hS7 : Below w5.heap.size w5 w7 := hS6.trans (hc7.below (by omega) (by omega))
  refine ⟨hS7, ?_⟩
  refine WS.call rfl (stages_any ((hT'.chg (Chg.of_still hs6) (by omega)).chg hc7 (by omega))) ?_
  rintro _ w8 ⟨rfl, hc8⟩
  have hz8 := hc8.size
  have hS8 : Below w5.heap.size w5 w8 := hS7.trans (hc8.below (by omega) (by omega))
  refine ⟨hS8, ?_⟩
  repeat' (first|refine X.U rfl ?_|refine X.V rfl ?_|refine X.W rfl ?_|refine X.Y rfl ?_|refine X.Z rfl ?_|refine WS.nil ?_|fail)
  have hcc := Chg.of_below hS8
  replace hT := hT.chg hcc (by omega)
  replace hT' := hT'.chg hcc (by omega)
  replace hb1 := hb1.chg0 hcc
  replace hb2 := hb2.chg0 hcc
  replace hb4 := hb4.chg0 hcc
  have hc08 := hc05.trans hcc
  repeat' (first|refine X.O ?_|refine X.A ?_|refine X.B ?_|refine X.C ?_|refine X.D ?_|refine X.E ?_|refine X.F ?_|refine X.G ?_|refine X.H ?_|refine X.I ?_|fail)
  first|refine X.J (fun _ => ?_) (fun _ => ?_)|refine X.L (fun _ => ?_) (fun _ => ?_)|refine X.M (fun _ => ?_) (fun _ => ?_)|refine X.R (fun _ => ?_) (fun _ => ?_)|fail
  · rename_i hbad
    repeat' (first|refine X.O ?_|refine X.A ?_|refine X.B ?_|refine X.C ?_|refine X.D ?_|refine X.E ?_|refine X.F ?_|refine X.G ?_|refine X.H ?_|refine X.I ?_|fail)
    refine WL.step (o_build (us := []) (cells := [.slice none 0 0, .slice none 0 0]) (by rfl) (by kernel_rfl) ?_)
    refine WL.step (o_storeS (vs := [.slice none 0 0, .slice none 0 0]) (by rfl) (by rfl) hb4 (by rfl) (by rfl) two_cells ?_)
    intro w9 hb9 hbut9
    have hc9 := hbut9.chg
    have hz9 := hbut9.size
    repeat' (first|refine X.O ?_|refine X.A ?_|refine X.B ?_|refine X.C ?_|refine X.D ?_|refine X.E ?_|refine X.F ?_|refine X.G ?_|refine X.H ?_|refine X.I ?_|fail)
    have e : composeTableaus x y = (([], []), 3) := by simp [composeTableaus, hok, hok', show x.2.length + y.2.length > 8 from by omega]
    rw [e]
    refine ⟨_, retS1 rfl (by rfl) hb9 (by rfl) (by rfl), _, rfl, nilT _ _ _ (by omega) (Nat.le_refl _), ?_⟩
    refine ⟨by rw [hc9.os, hc08.os], by rw [hc9.tape, hc08.tape], by rw [hc9.output, hc08.output], by omega, fun k hk hd => ?_⟩
    rw [hc9.block k (by omega) (by omega), hc08.block k hk (by omega)]
  rename_i hsm
  repeat' (first|refine X.O ?_|refine X.A ?_|refine X.B ?_|refine X.C ?_|refine X.D ?_|refine X.E ?_|refine X.F ?_|refine X.G ?_|refine X.H ?_|refine X.I ?_|fail)
  refine WL.step (o_loadS (by rfl) hb1 (by rfl) ?_)
  refine WL.step (o_loadS (by rfl) hb2 (by rfl) ?_)
  refine WL.call (composed_any hT hT' htx hty) ?_
  rintro v9 w9 ⟨oT, hc9⟩
  have hz9 := hc9.size
  replace hb4 := hb4.chg0 hc9
  obtain ⟨aq, nq, cq, ar, nr, cr, rfl⟩ := oT.cells
  refine WL.step (o_storeS (vs := [.slice aq nq cq, .slice ar nr cr]) (by rfl) (by rfl) hb4 (by rfl) (by rfl) two_cells ?_)
  intro w10 hb10 hbut10
  have hc10 := hbut10.chg
  have hz10 := hbut10.size
  repeat' (first|refine X.O ?_|refine X.A ?_|refine X.B ?_|refine X.C ?_|refine X.D ?_|refine X.E ?_|refine X.F ?_|refine X.G ?_|refine X.H ?_|refine X.I ?_|fail)
  have e : composeTableaus x y = (composeL x y, 0) := by
    unfold composeTableaus
    rw [if_pos ⟨hok, hok'⟩, if_neg (by omega)]
  rw [e]
  refine ⟨_, retS1 rfl (by rfl) hb10 (by rfl) (by rfl), _, rfl, ?_, ?_⟩
  · exact (oT.chg hc10 (by omega)).wide (by omega) (by omega) (by omega)
  · refine ⟨by rw [hc10.os, hc9.os, hc08.os], by rw [hc10.tape, hc9.tape, hc08.tape], by rw [hc10.output, hc9.output, hc08.output], by omega, fun k hk hd => ?_⟩
    rw [hc10.block k (by omega) (by omega), hc9.block k (by omega) (by omega), hc08.block k hk (by omega)]


end Go.Proofs
