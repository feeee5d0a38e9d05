/- Tableaus: the explicit and the diagonal ones; the neutral one. -/
import Derived.Test.YthepgmajeljdhaaGreatDoorT1
namespace Go.Proofs
open Go Go.Fw Go.RowKit Go.Rk

theorem _root_.Go.Rk.Tab.rowLen {x : TabD} (h : Tab x) {i : Nat} (hi : i < x.1.length) : x.1[i].length = x.2.length := (h.row _ (List.getElem_mem hi)).1

theorem zeroFrom_any {lo hi : Nat} {w : World} {v : Value} {x : TabD} (h : IT lo hi w v x) (hx : Tab x) (k : Nat) (hk : k ≤ 1000) : Does Tryz.prog 51 [v, .int .i64 (k : Nat)] w fun r w' => r = .bool (zeroFromA k 0 x.1) ∧ Chg 0 0 w w' := by
  obtain ⟨va, vb, rfl, hA, hB⟩ := h
  obtain ⟨a, c, hva⟩ := hA.shape
  subst hva
  have hm : x.1.length ≤ 8 := by have := hx.le8; have := hx.sq; omega
  refine Does.enter Tryz.func51 Tryz.ntmps51 rfl (by rfl) ?_
  repeat' (first|refine X.O ?_|refine X.A ?_|refine X.B ?_|refine X.C ?_|refine X.D ?_|refine X.E ?_|refine X.F ?_|refine X.G ?_|refine X.H ?_|refine X.I ?_|fail)
  refine WL.step (o_box (by rfl) ?_)
  intro w1 hb1 hbl1 hz1
  replace hA := hA.below IS.stable hbl1 hA.hi_le
  have hc1 := Chg.of_below hbl1
  repeat' (first|refine X.O ?_|refine X.A ?_|refine X.B ?_|refine X.C ?_|refine X.D ?_|refine X.E ?_|refine X.F ?_|refine X.G ?_|refine X.H ?_|refine X.I ?_|fail)
  refine WL.fld hb1 ?_
  intro p1
  repeat' (first|refine X.O ?_|refine X.A ?_|refine X.B ?_|refine X.C ?_|refine X.D ?_|refine X.E ?_|refine X.F ?_|refine X.G ?_|refine X.H ?_|refine X.I ?_|fail)
  refine WP.loop (fun i => [(1, .int .i64 (k : Nat)), (9, .slice a x.1.length c), (10, .int .i64 (x.1.length : Nat)), (11, .int .i64 (i : Nat))]) (fun i w3 => i ≤ x.1.length ∧ zeroFromA k 0 x.1 = zeroFromA k i (x.1.drop i) ∧ Still w1 w3)
    (fun i => x.1.length - i) 0 ⟨rfl, rfl, rfl, rfl, trivial⟩ ⟨by omega, by simp, Still.refl _⟩ ?_
  rintro i w3 ⟨hi1, hq, hs3⟩
  replace hA := hA.still IS.stable hs3
  have hc3 := hc1.trans (Chg.of_still hs3)
  repeat' (first|refine X.O ?_|refine X.A ?_|refine X.B ?_|refine X.C ?_|refine X.D ?_|refine X.E ?_|refine X.F ?_|refine X.G ?_|refine X.H ?_|refine X.I ?_|fail)
  first|refine X.J (fun _ => ?_) (fun _ => ?_)|refine X.L (fun _ => ?_) (fun _ => ?_)|refine X.M (fun _ => ?_) (fun _ => ?_)|refine X.R (fun _ => ?_) (fun _ => ?_)|fail
  · rename_i hlt
    have hlt' : i < x.1.length := by omega
    repeat' (first|refine X.O ?_|refine X.A ?_|refine X.B ?_|refine X.C ?_|refine X.D ?_|refine X.E ?_|refine X.F ?_|refine X.G ?_|refine X.H ?_|refine X.I ?_|fail)
    refine WL.ixload hA (List.getElem?_eq_getElem hlt') ?_
    intro p5 u hu
    obtain ⟨ad, cd, hv⟩ := hu.shape
    subst hv
    have hmu := hu.len
    unfold maxLen at hmu
    rw [zeroFromA_drop _ hlt'] at hq
    repeat' (first|refine X.O ?_|refine X.A ?_|refine X.B ?_|refine X.C ?_|refine X.D ?_|refine X.E ?_|refine X.F ?_|refine X.G ?_|refine X.H ?_|refine X.I ?_|fail)
    generalize hrow : x.1[i] = row at hu hmu hq ⊢
    refine WP.loop (fun (j : Nat) => [(1, .int .i64 (k : Nat)), (6, .slice ad row.length cd), (7, .int .i64 ((i + k + j : Nat) : Int)), (9, .slice a x.1.length c), (10, .int .i64 (x.1.length : Nat)), (11, .int .i64 (i : Nat))]) (fun j w4 => zeroRow (i + k) row = zeroRow (i + k + j) row ∧ (j = 0 ∨ i + k + j ≤ row.length) ∧ Still w3 w4)
      (fun j => row.length - j) 0 ⟨rfl, rfl, (by first|rfl|exact X.T (by omega)), rfl, rfl, rfl, trivial⟩ ⟨rfl, .inl rfl, Still.refl _⟩ ?_
    rintro j w4 ⟨hqj, hj, hs4⟩
    replace hA := hA.still IS.stable hs4
    replace hu := hu.still RI.stable hs4
    have hc4 := hc3.trans (Chg.of_still hs4)
    repeat' (first|refine X.O ?_|refine X.A ?_|refine X.B ?_|refine X.C ?_|refine X.D ?_|refine X.E ?_|refine X.F ?_|refine X.G ?_|refine X.H ?_|refine X.I ?_|fail)
    first|refine X.J (fun _ => ?_) (fun _ => ?_)|refine X.L (fun _ => ?_) (fun _ => ?_)|refine X.M (fun _ => ?_) (fun _ => ?_)|refine X.R (fun _ => ?_) (fun _ => ?_)|fail
    · rename_i hltj
      have hltj' : i + k + j < row.length := by omega
      rw [zeroRow_drop hltj'] at hqj
      repeat' (first|refine X.O ?_|refine X.A ?_|refine X.B ?_|refine X.C ?_|refine X.D ?_|refine X.E ?_|refine X.F ?_|refine X.G ?_|refine X.H ?_|refine X.I ?_|fail)
      refine WL.ixload hu (List.getElem?_eq_getElem hltj') ?_
      rintro p6 _ rfl
      repeat' (first|refine X.O ?_|refine X.A ?_|refine X.B ?_|refine X.C ?_|refine X.D ?_|refine X.E ?_|refine X.F ?_|refine X.G ?_|refine X.H ?_|refine X.I ?_|fail)
      first|refine X.J (fun _ => ?_) (fun _ => ?_)|refine X.L (fun _ => ?_) (fun _ => ?_)|refine X.M (fun _ => ?_) (fun _ => ?_)|refine X.R (fun _ => ?_) (fun _ => ?_)|fail
      · rename_i hne
        repeat' (first|refine X.O ?_|refine X.A ?_|refine X.B ?_|refine X.C ?_|refine X.D ?_|refine X.E ?_|refine X.F ?_|refine X.G ?_|refine X.H ?_|refine X.I ?_|fail)
        refine ⟨_, ret1 rfl (by rfl), ?_⟩
        exact ⟨by rw [hq, hqj, decide_eq_false hne]; rfl, hc4⟩
      · rename_i heq
        rw [decide_eq_true (Decidable.not_not.1 heq), Bool.true_and] at hqj
        repeat' (first|refine X.O ?_|refine X.A ?_|refine X.B ?_|refine X.C ?_|refine X.D ?_|refine X.E ?_|refine X.F ?_|refine X.G ?_|refine X.H ?_|refine X.I ?_|fail)
        exact ⟨j + 1, ⟨rfl, rfl, (by first|rfl|exact X.T (by omega)), rfl, rfl, rfl, trivial⟩, ⟨hqj, .inr (by omega), hs4⟩, by omega⟩
    · rename_i hgej
      rw [zeroRow_end (r := row) (j := i + k + j) (by omega)] at hqj
      rw [hqj, Bool.true_and] at hq
      repeat' (first|refine X.O ?_|refine X.A ?_|refine X.B ?_|refine X.C ?_|refine X.D ?_|refine X.E ?_|refine X.F ?_|refine X.G ?_|refine X.H ?_|refine X.I ?_|fail)
      exact ⟨i + 1, ⟨rfl, rfl, rfl, rfl, trivial⟩, ⟨by omega, hq, hs3.trans hs4⟩, by omega⟩
  · rename_i hge
    have : i = x.1.length := by omega
    subst this
    repeat' (first|refine X.O ?_|refine X.A ?_|refine X.B ?_|refine X.C ?_|refine X.D ?_|refine X.E ?_|refine X.F ?_|refine X.G ?_|refine X.H ?_|refine X.I ?_|fail)
    refine ⟨_, ret1 rfl (by rfl), ?_⟩
    rw [List.drop_length] at hq
    exact ⟨by rw [hq]; rfl, hc3⟩
theorem IsExplicit_any {lo hi : Nat} {w : World} {v : Value} {x : TabD} (h : IT lo hi w v x) : Does Tryz.prog 19 [v] w fun r w' => r = .tuple #[.bool (isExplicit x).1, .int .i64 (isExplicit x).2] ∧ Chg 0 0 w w' := by
  obtain ⟨va, vb, rfl, hA, hB⟩ := h
  refine Does.enter Tryz.func19 Tryz.ntmps19 rfl (by rfl) ?_
  repeat' (first|refine X.O ?_|refine X.A ?_|refine X.B ?_|refine X.C ?_|refine X.D ?_|refine X.E ?_|refine X.F ?_|refine X.G ?_|refine X.H ?_|refine X.I ?_|fail)
  refine WL.step (o_box (by rfl) ?_)
  intro w1 hb1 hbl1 hz1
  have hc1 := Chg.of_below hbl1
  have hT : IT lo hi w (.agg #[va, vb]) x := ⟨va, vb, rfl, hA, hB⟩
  replace hT := hT.chg hc1 (by omega)
  repeat' (first|refine X.O ?_|refine X.A ?_|refine X.B ?_|refine X.C ?_|refine X.D ?_|refine X.E ?_|refine X.F ?_|refine X.G ?_|refine X.H ?_|refine X.I ?_|fail)
  refine WL.step (o_loadS (by rfl) hb1 (by rfl) ?_)
  refine WL.call (IsTableau_any hT) ?_
  rintro _ w2 ⟨rfl, hc2⟩
  replace hT := hT.chg hc2 (by omega)
  replace hb1 := hb1.chg0 hc2
  repeat' (first|refine X.O ?_|refine X.A ?_|refine X.B ?_|refine X.C ?_|refine X.D ?_|refine X.E ?_|refine X.F ?_|refine X.G ?_|refine X.H ?_|refine X.I ?_|fail)
  first|refine X.J (fun _ => ?_) (fun _ => ?_)|refine X.L (fun _ => ?_) (fun _ => ?_)|refine X.M (fun _ => ?_) (fun _ => ?_)|refine X.R (fun _ => ?_) (fun _ => ?_)|fail
  · rename_i hbad
    repeat' (first|refine X.O ?_|refine X.A ?_|refine X.B ?_|refine X.C ?_|refine X.D ?_|refine X.E ?_|refine X.F ?_|refine X.G ?_|refine X.H ?_|refine X.I ?_|fail)
    refine ⟨_, ret2 rfl (by rfl) (by rfl), ?_⟩
    exact ⟨by simp [isExplicit, hbad], hc1.trans hc2⟩
  · rename_i hok
    repeat' (first|refine X.O ?_|refine X.A ?_|refine X.B ?_|refine X.C ?_|refine X.D ?_|refine X.E ?_|refine X.F ?_|refine X.G ?_|refine X.H ?_|refine X.I ?_|fail)
    refine WL.step (o_loadS (by rfl) hb1 (by rfl) ?_)
    refine WL.call (zeroFrom_any hT (isTab_iff hok) 0 (by omega)) ?_
    rintro _ w3 ⟨rfl, hc3⟩
    repeat' (first|refine X.O ?_|refine X.A ?_|refine X.B ?_|refine X.C ?_|refine X.D ?_|refine X.E ?_|refine X.F ?_|refine X.G ?_|refine X.H ?_|refine X.I ?_|fail)
    refine ⟨_, ret2 rfl (by rfl) (by rfl), ?_⟩
    exact ⟨by simp [isExplicit, hok], (hc1.trans hc2).trans hc3⟩
theorem IsDiagonal_any {lo hi : Nat} {w : World} {v : Value} {x : TabD} (h : IT lo hi w v x) : Does Tryz.prog 20 [v] w fun r w' => r = .tuple #[.bool (isDiagonal x).1, .int .i64 (isDiagonal x).2] ∧ Chg 0 0 w w' := by
  obtain ⟨va, vb, rfl, hA, hB⟩ := h
  refine Does.enter Tryz.func20 Tryz.ntmps20 rfl (by rfl) ?_
  repeat' (first|refine X.O ?_|refine X.A ?_|refine X.B ?_|refine X.C ?_|refine X.D ?_|refine X.E ?_|refine X.F ?_|refine X.G ?_|refine X.H ?_|refine X.I ?_|fail)
  refine WL.step (o_box (by rfl) ?_)
  intro w1 hb1 hbl1 hz1
  have hc1 := Chg.of_below hbl1
  have hT : IT lo hi w (.agg #[va, vb]) x := ⟨va, vb, rfl, hA, hB⟩
  replace hT := hT.chg hc1 (by omega)
  repeat' (first|refine X.O ?_|refine X.A ?_|refine X.B ?_|refine X.C ?_|refine X.D ?_|refine X.E ?_|refine X.F ?_|refine X.G ?_|refine X.H ?_|refine X.I ?_|fail)
  refine WL.step (o_loadS (by rfl) hb1 (by rfl) ?_)
  refine WL.call (IsTableau_any hT) ?_
  rintro _ w2 ⟨rfl, hc2⟩
  replace hT := hT.chg hc2 (by omega)
  replace hb1 := hb1.chg0 hc2
  repeat' (first|refine X.O ?_|refine X.A ?_|refine X.B ?_|refine X.C ?_|refine X.D ?_|refine X.E ?_|refine X.F ?_|refine X.G ?_|refine X.H ?_|refine X.I ?_|fail)
  first|refine X.J (fun _ => ?_) (fun _ => ?_)|refine X.L (fun _ => ?_) (fun _ => ?_)|refine X.M (fun _ => ?_) (fun _ => ?_)|refine X.R (fun _ => ?_) (fun _ => ?_)|fail
  · rename_i hbad
    repeat' (first|refine X.O ?_|refine X.A ?_|refine X.B ?_|refine X.C ?_|refine X.D ?_|refine X.E ?_|refine X.F ?_|refine X.G ?_|refine X.H ?_|refine X.I ?_|fail)
    refine ⟨_, ret2 rfl (by rfl) (by rfl), ?_⟩
    exact ⟨by simp [isDiagonal, hbad], hc1.trans hc2⟩
  · rename_i hok
    repeat' (first|refine X.O ?_|refine X.A ?_|refine X.B ?_|refine X.C ?_|refine X.D ?_|refine X.E ?_|refine X.F ?_|refine X.G ?_|refine X.H ?_|refine X.I ?_|fail)
    refine WL.step (o_loadS (by rfl) hb1 (by rfl) ?_)
    refine WL.call (zeroFrom_any hT (isTab_iff hok) 1 (by omega)) ?_
    rintro _ w3 ⟨rfl, hc3⟩
    repeat' (first|refine X.O ?_|refine X.A ?_|refine X.B ?_|refine X.C ?_|refine X.D ?_|refine X.E ?_|refine X.F ?_|refine X.G ?_|refine X.H ?_|refine X.I ?_|fail)
    refine ⟨_, ret2 rfl (by rfl) (by rfl), ?_⟩
    exact ⟨by simp [isDiagonal, hok], (hc1.trans hc2).trans hc3⟩
end Go.Proofs
