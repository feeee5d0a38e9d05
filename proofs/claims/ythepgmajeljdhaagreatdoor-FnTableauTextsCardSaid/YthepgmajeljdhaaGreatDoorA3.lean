/- The nodes of a tableau. -/
import Derived.Test.YthepgmajeljdhaaGreatDoorT1
import Derived.Test.YthepgmajeljdhaaGreatDoorA1
import Derived.Test.YthepgmajeljdhaaGreatDoorPlA
namespace Go.Proofs
open Go Go.Fw Go.RowKit Go.Rk

theorem nodes_any {lo hi : Nat} {w : World} {v : Value} {x : TabD} (h : IT lo hi w v x) (hx : Tab x) : Does Tryz.prog 52 [v] w fun r w' => NewI w r w' (nodesL x.1) := by
  obtain ⟨va, vb, rfl, hA, hB⟩ := h
  obtain ⟨a, c, hva⟩ := hA.shape
  subst hva
  have hm := hx.le8
  have hsq := hx.sq
  generalize hres : nodesL x.1 = res
  have hlen : res.length = x.1.length := by rw [← hres]; simp [nodesL]
  refine Does.enter Tryz.func52 Tryz.ntmps52 rfl (by rfl) ?_
  repeat' (first|refine X.O ?_|refine X.A ?_|refine X.B ?_|refine X.C ?_|refine X.D ?_|refine X.E ?_|refine X.F ?_|refine X.G ?_|refine X.H ?_|refine X.I ?_|fail)
  refine WL.step (o_box (by rfl) ?_)
  intro w0 hb0 hbl0 hz0
  repeat' (first|refine X.O ?_|refine X.A ?_|refine X.B ?_|refine X.C ?_|refine X.D ?_|refine X.E ?_|refine X.F ?_|refine X.G ?_|refine X.H ?_|refine X.I ?_|fail)
  refine WL.step (o_lit (us := []) (by rfl) (by rfl) rfl (by decide) one0 ?_)
  intro v1 w1 hown hbl1 hz1 _
  have hb1 := hb0.below hbl1 (by omega)
  have hbl : Below w.heap.size w w1 := hbl0.trans (Below.mono hbl1 (by omega))
  have hAz := hA.hi_le
  replace hA := hA.below IS.stable hbl hA.hi_le
  repeat' (first|refine X.O ?_|refine X.A ?_|refine X.B ?_|refine X.C ?_|refine X.D ?_|refine X.E ?_|refine X.F ?_|refine X.G ?_|refine X.H ?_|refine X.I ?_|fail)
  refine WL.fld hb1 ?_
  intro p1
  repeat' (first|refine X.O ?_|refine X.A ?_|refine X.B ?_|refine X.C ?_|refine X.D ?_|refine X.E ?_|refine X.F ?_|refine X.G ?_|refine X.H ?_|refine X.I ?_|fail)
  refine WP.loop (fun (s : Nat × Value) => [(3, s.2), (11, .slice a x.1.length c), (12, .int .i64 (x.1.length : Nat)), (13, .int .i64 (s.1 : Nat))])
    (fun s w2 => s.1 ≤ x.1.length ∧ Own w0.heap.size 2 w2 s.2 (Ints (res.take s.1)) ∧ Below w.heap.size w w2 ∧ ISS lo hi w2 (.slice a x.1.length c) x.1 ∧ w0.heap.size ≤ w2.heap.size)
    (fun s => x.1.length - s.1) (0, v1) ⟨rfl, rfl, rfl, rfl, trivial⟩ ⟨by omega, by simpa [Ints] using hown, hbl, hA, by omega⟩ ?_
  clear hA
  rintro ⟨i, vo⟩ w2 ⟨hi1, hown2, hb2, hA, hzz⟩
  dsimp only at hi1 hown2 ⊢
  have hs2 := hb2.size
  repeat' (first|refine X.O ?_|refine X.A ?_|refine X.B ?_|refine X.C ?_|refine X.D ?_|refine X.E ?_|refine X.F ?_|refine X.G ?_|refine X.H ?_|refine X.I ?_|fail)
  first|refine X.J (fun _ => ?_) (fun _ => ?_)|refine X.L (fun _ => ?_) (fun _ => ?_)|refine X.M (fun _ => ?_) (fun _ => ?_)|refine X.R (fun _ => ?_) (fun _ => ?_)|fail
  · rename_i hlt
    have hlt' : i < x.1.length := by omega
    have hri := hx.row _ (List.getElem_mem hlt')
    repeat' (first|refine X.O ?_|refine X.A ?_|refine X.B ?_|refine X.C ?_|refine X.D ?_|refine X.E ?_|refine X.F ?_|refine X.G ?_|refine X.H ?_|refine X.I ?_|fail)
    refine WL.ixload hA (List.getElem?_eq_getElem hlt') ?_
    intro p5 u hu
    obtain ⟨ad, cd, hv⟩ := hu.shape
    subst hv
    have hgetres : res[i]'(by omega) = nm (x.1[i]).sum := by simp [← hres, nodesL]
    have hrl := hri.1
    repeat' (first|refine X.O ?_|refine X.A ?_|refine X.B ?_|refine X.C ?_|refine X.D ?_|refine X.E ?_|refine X.F ?_|refine X.G ?_|refine X.H ?_|refine X.I ?_|fail)
    refine WP.loop (fun (j : Nat) => [(3, vo), (6, .int .i64 (x.1[i].take j).sum), (11, .slice a x.1.length c), (12, .int .i64 (x.1.length : Nat)), (13, .int .i64 (i : Nat)), (17, .slice ad x.1[i].length cd), (18, .int .i64 (x.1[i].length : Nat)), (19, .int .i64 (j : Nat))])
      (fun j w3 => j ≤ x.1[i].length ∧ Still w2 w3) (fun j => x.1[i].length - j) 0 ⟨rfl, rfl, rfl, rfl, rfl, rfl, rfl, rfl, trivial⟩ ⟨by omega, Still.refl _⟩ ?_
    rintro j w3 ⟨hj, hs3⟩
    have hsb := sum_bd (allN_take hri.2 j)
    have hjl : ((x.1[i].take j).length : Int) ≤ 8 := by have := List.length_take_le j x.1[i]; omega
    repeat' (first|refine X.O ?_|refine X.A ?_|refine X.B ?_|refine X.C ?_|refine X.D ?_|refine X.E ?_|refine X.F ?_|refine X.G ?_|refine X.H ?_|refine X.I ?_|fail)
    first|refine X.J (fun _ => ?_) (fun _ => ?_)|refine X.L (fun _ => ?_) (fun _ => ?_)|refine X.M (fun _ => ?_) (fun _ => ?_)|refine X.R (fun _ => ?_) (fun _ => ?_)|fail
    · rename_i hltj
      have hltj' : j < x.1[i].length := by omega
      have hxb := allN_get hri.2 hltj'
      repeat' (first|refine X.O ?_|refine X.A ?_|refine X.B ?_|refine X.C ?_|refine X.D ?_|refine X.E ?_|refine X.F ?_|refine X.G ?_|refine X.H ?_|refine X.I ?_|fail)
      refine WL.ixload (hu.still RI.stable hs3) (List.getElem?_eq_getElem hltj') ?_
      rintro p6 _ rfl
      have hst := sum_take_succ hltj'
      repeat' (first|refine X.O ?_|refine X.A ?_|refine X.B ?_|refine X.C ?_|refine X.D ?_|refine X.E ?_|refine X.F ?_|refine X.G ?_|refine X.H ?_|refine X.I ?_|fail)
      exact ⟨j + 1, ⟨rfl, (by first|rfl|exact X.T (by omega)), rfl, rfl, rfl, rfl, rfl, rfl, trivial⟩, ⟨by omega, hs3⟩, by omega⟩
    · rename_i hgej
      have : j = x.1[i].length := by omega
      subst this
      rw [List.take_length] at *
      repeat' (first|refine X.O ?_|refine X.A ?_|refine X.B ?_|refine X.C ?_|refine X.D ?_|refine X.E ?_|refine X.F ?_|refine X.G ?_|refine X.H ?_|refine X.I ?_|fail)
      refine WL.call (num_any _ _) ?_
      rintro _ _ ⟨rfl, rfl⟩
      have hz3 := hs3.size
      refine o_append1 (u := .int .i64 _) (fun _ => by rfl) (by rfl) (hown2.still hs3) rfl (by simp [Ints, hlen, maxLen]; omega) (by simp [Ints, hlen]; omega) (by omega) ?_
      intro v5p v5 w5 hown5 hb5 _ hz5 _
      repeat' (first|refine X.O ?_|refine X.A ?_|refine X.B ?_|refine X.C ?_|refine X.D ?_|refine X.E ?_|refine X.F ?_|refine X.G ?_|refine X.H ?_|refine X.I ?_|fail)
      refine ⟨(i + 1, v5), ⟨rfl, rfl, rfl, (by first|rfl|exact X.T (by omega)), trivial⟩, ⟨by dsimp only; omega, ?_, (hb2.trans (hs3.below _)).trans (Below.mono hb5 (by omega)), (hA.still IS.stable hs3).below IS.stable hb5 (by omega), by omega⟩, by dsimp only; omega⟩
      dsimp only
      rw [← Ints_snoc (show i < res.length by omega) (y := nm x.1[i].sum) hgetres]
      exact hown5
  · rename_i hge
    have : i = x.1.length := by omega
    subst this
    repeat' (first|refine X.O ?_|refine X.A ?_|refine X.B ?_|refine X.C ?_|refine X.D ?_|refine X.E ?_|refine X.F ?_|refine X.G ?_|refine X.H ?_|refine X.I ?_|fail)
    refine ⟨_, ret1 rfl (by rfl), ?_⟩
    rw [List.take_of_length_le (by omega)] at hown2
    exact ⟨hown2.lower (by omega), hb2⟩
theorem NodesOf_any {lo hi : Nat} {w : World} {v : Value} {x : TabD} (h : IT lo hi w v x) : Does Tryz.prog 21 [v] w fun r w' => ResI w r w' (nodesOf x) := by
  obtain ⟨va, vb, rfl, hA, hB⟩ := h
  refine Does.enter Tryz.func21 Tryz.ntmps21 rfl (by rfl) ?_
  repeat' (first|refine X.O ?_|refine X.A ?_|refine X.B ?_|refine X.C ?_|refine X.D ?_|refine X.E ?_|refine X.F ?_|refine X.G ?_|refine X.H ?_|refine X.I ?_|fail)
  refine WL.step (o_box (by rfl) ?_)
  intro w1 hb1 hbl1 hz1
  have hc1 := Chg.of_below hbl1
  have hT : IT lo hi w (.agg #[va, vb]) x := ⟨va, vb, rfl, hA, hB⟩
  replace hT := hT.chg hc1 (by omega)
  repeat' (first|refine X.O ?_|refine X.A ?_|refine X.B ?_|refine X.C ?_|refine X.D ?_|refine X.E ?_|refine X.F ?_|refine X.G ?_|refine X.H ?_|refine X.I ?_|fail)
  refine WL.step (o_loadS (by rfl) hb1 (by rfl) ?_)
  refine WL.call (IsTableau_any hT) ?_
  rintro _ w2 ⟨rfl, hc2⟩
  have hz2 := hc2.size
  have hbl2 : Below w.heap.size w w2 := hbl1.trans (hc2.below (by omega) (by omega))
  replace hT := hT.chg hc2 (by omega)
  replace hb1 := hb1.chg0 hc2
  repeat' (first|refine X.O ?_|refine X.A ?_|refine X.B ?_|refine X.C ?_|refine X.D ?_|refine X.E ?_|refine X.F ?_|refine X.G ?_|refine X.H ?_|refine X.I ?_|fail)
  first|refine X.J (fun _ => ?_) (fun _ => ?_)|refine X.L (fun _ => ?_) (fun _ => ?_)|refine X.M (fun _ => ?_) (fun _ => ?_)|refine X.R (fun _ => ?_) (fun _ => ?_)|fail
  · rename_i hbad
    repeat' (first|refine X.O ?_|refine X.A ?_|refine X.B ?_|refine X.C ?_|refine X.D ?_|refine X.E ?_|refine X.F ?_|refine X.G ?_|refine X.H ?_|refine X.I ?_|fail)
    refine ⟨_, ret2 rfl (by rfl) (by rfl), ?_⟩
    have e : nodesOf x = ([], 1) := by simp [nodesOf, hbad]
    rw [e]
    exact ResI.none w w2 hbl2 1
  · rename_i hok
    repeat' (first|refine X.O ?_|refine X.A ?_|refine X.B ?_|refine X.C ?_|refine X.D ?_|refine X.E ?_|refine X.F ?_|refine X.G ?_|refine X.H ?_|refine X.I ?_|fail)
    refine WL.step (o_loadS (by rfl) hb1 (by rfl) ?_)
    refine WL.call (nodes_any hT (isTab_iff hok)) ?_
    intro v3 w3 hN
    repeat' (first|refine X.O ?_|refine X.A ?_|refine X.B ?_|refine X.C ?_|refine X.D ?_|refine X.E ?_|refine X.F ?_|refine X.G ?_|refine X.H ?_|refine X.I ?_|fail)
    refine ⟨_, ret2 rfl (by rfl) (by rfl), ?_⟩
    have e : nodesOf x = (nodesL x.1, 0) := by simp [nodesOf, hok]
    rw [e]
    exact ⟨_, rfl, hN.trans hbl2⟩
end Go.Proofs
