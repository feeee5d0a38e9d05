/- A list that has each stage once, both sides; the stages reordered, with their code. -/
import Derived.Test.YthepgmajeljdhaaGreatA42
import Derived.Test.YthepgmajeljdhaaGreatA45
import Derived.Test.YthepgmajeljdhaaGreatA3
import Derived.Test.YthepgmajeljdhaaGreatA5
import Derived.Test.YthepgmajeljdhaaGreatS3
import Derived.Test.YthepgmajeljdhaaGreatPlB
namespace Go.Proofs
open Go Go.Fw Go.RowKit Go.Rk
theorem isOrder_any {lo hi lo' hi' : Nat} {w : World} {v v' : Value} {x : TabD} {o : List Int} (h : IT lo hi w v x) (h' : IS lo' hi' w v' o) (hm : x.2.length ≤ 1048576) (hn : o.length ≤ 1048576) :
    Does Tryz.prog 51 [v, v'] w fun r w' => r = .bool (decide (sortL o = firstT x.2.length)) ∧ Chg 0 0 w w' := by
  have hz := h.hi_le
  have hz' := h'.hi_le
  obtain ⟨va, vb, rfl, hA, hB⟩ := h
  obtain ⟨ao, co, hvo⟩ := h'.shape
  subst hvo
  have hT : IT lo hi w (.agg #[va, vb]) x := ⟨_, _, rfl, hA, hB⟩
  refine Does.enter Tryz.func51 Tryz.ntmps51 rfl (by rfl) ?_
  repeat' (first|refine X.O ?_|refine X.A ?_|refine X.B ?_|refine X.C ?_|refine X.D ?_|refine X.E ?_|refine X.F ?_|refine X.G ?_|refine X.H ?_|refine X.I ?_|fail)
  refine WL.step (o_box (by rfl) ?_)
  intro w1 hb1 hbl1 hz1
  replace hT := hT.below hbl1 hz
  replace h' := h'.below RI.stable hbl1 hz'
  repeat' (first|refine X.O ?_|refine X.A ?_|refine X.B ?_|refine X.C ?_|refine X.D ?_|refine X.E ?_|refine X.F ?_|refine X.G ?_|refine X.H ?_|refine X.I ?_|fail)
  refine WP.drawn (fun w' => Below w1.heap.size w1 w') [(0, true), (3, true), (1, false), (2, false), (4, false), (5, false), (6, true)] (by kernel_rfl) mixed ?_
  intro w2 hs2
  have hz2 := hs2.size
  have hS2 : Below w1.heap.size w1 w2 := hs2.below _
  repeat' (first|refine X.U rfl ?_|refine X.V rfl ?_|refine X.W rfl ?_|refine X.Y rfl ?_|refine X.Z rfl ?_|refine WS.nil ?_|fail)
  refine WS.q rfl (q_loadS (by rfl) (fun w' h => hb1.below h hb1.lt) (by rfl)) hS2 ?_
  refine WS.call rfl (Values_any ao o.length co w2) ?_
  rintro _ w3 ⟨rfl, hb3, hbl3, hz3⟩
  have hS3 : Below w1.heap.size w1 w3 := hS2.trans (Below.mono hbl3 (by omega))
  refine ⟨hS3, ?_⟩
  refine WS.call rfl (Sorted_any hb3 (h'.below RI.stable hS3 (by omega)) hn) ?_
  intro v4 w4 hN4
  have hz4 := hN4.2.size
  have hS4 : Below w1.heap.size w1 w4 := hS3.trans (Below.mono hN4.2 (by omega))
  refine ⟨hS4, ?_⟩
  refine WS.call rfl (allStages_any (hT.below hS4 (by omega)) hm) ?_
  intro v5 w5 hN5
  have hz5 := hN5.2.size
  have hS5 : Below w1.heap.size w1 w5 := hS4.trans (Below.mono hN5.2 (by omega))
  refine ⟨hS5, ?_⟩
  refine WS.call rfl (Equal_any (hN4.ow.rd.below RI.stable hN5.2 (Nat.le_refl _)) hN5.ow.rd) ?_
  rintro _ w6 ⟨rfl, hs6⟩
  have hS6 : Below w1.heap.size w1 w6 := hS5.trans (hs6.below _)
  refine ⟨hS6, ?_⟩
  repeat' (first|refine X.U rfl ?_|refine X.V rfl ?_|refine X.W rfl ?_|refine X.Y rfl ?_|refine X.Z rfl ?_|refine WS.nil ?_|fail)
  repeat' (first|refine X.O ?_|refine X.A ?_|refine X.B ?_|refine X.C ?_|refine X.D ?_|refine X.E ?_|refine X.F ?_|refine X.G ?_|refine X.H ?_|refine X.I ?_|fail)
  refine ⟨_, ret1 rfl (by rfl), ?_⟩
  exact ⟨rfl, Chg.of_below (hbl1.trans (Below.mono hS6 (by omega)))⟩
theorem PermuteStages_any {lo hi lo' hi' : Nat} {w : World} {v v' : Value} {x : TabD} {o : List Int} (h : IT lo hi w v x) (h' : IS lo' hi' w v' o) (hn : o.length ≤ 1048576 := by omega) :
    Does Tryz.prog 22 [v, v'] w fun r w' => ResT 25 2 w r w' (permuteStages x o) := by
  have hz := h.hi_le
  have hz' := h'.hi_le
  obtain ⟨va, vb, rfl, hA, hB⟩ := h
  obtain ⟨abx, cbx, hvb⟩ := hB.shape
  subst hvb
  refine Does.enter Tryz.func22 Tryz.ntmps22 rfl (by rfl) ?_
  repeat' (first|refine X.O ?_|refine X.A ?_|refine X.B ?_|refine X.C ?_|refine X.D ?_|refine X.E ?_|refine X.F ?_|refine X.G ?_|refine X.H ?_|refine X.I ?_|fail)
  refine WL.step (o_box (by rfl) ?_)
  intro w1 hb1 hbl1 hz1
  refine WL.step (o_alloc ?_)
  intro w2 hb2 hbl2 hz2
  have hbl12 : Below w.heap.size w w2 := hbl1.trans (Below.mono hbl2 (by omega))
  have hc2 := Chg.of_below hbl12
  replace hb1 := hb1.below hbl2 (by omega)
  have hT : IT lo hi w (.agg #[va, .slice abx x.2.length cbx]) x := ⟨_, _, rfl, hA, hB⟩
  replace hT := hT.chg hc2 (by omega)
  have hO := RI.chg h' hc2 (by omega)
  repeat' (first|refine X.O ?_|refine X.A ?_|refine X.B ?_|refine X.C ?_|refine X.D ?_|refine X.E ?_|refine X.F ?_|refine X.G ?_|refine X.H ?_|refine X.I ?_|fail)
  refine WL.step (o_loadS (by rfl) hb1 (by rfl) ?_)
  refine WL.call (IsTableau_any hT) ?_
  rintro _ w3 ⟨rfl, hc3⟩
  have hz3 := hc3.size
  replace hT := hT.chg hc3 (by omega)
  replace hO := RI.chg hO hc3 (by omega)
  replace hb1 := hb1.chg0 hc3
  replace hb2 := hb2.chg0 hc3
  have hc03 := hc2.trans hc3
  repeat' (first|refine X.O ?_|refine X.A ?_|refine X.B ?_|refine X.C ?_|refine X.D ?_|refine X.E ?_|refine X.F ?_|refine X.G ?_|refine X.H ?_|refine X.I ?_|fail)
  first|refine X.J (fun _ => ?_) (fun _ => ?_)|refine X.L (fun _ => ?_) (fun _ => ?_)|refine X.M (fun _ => ?_) (fun _ => ?_)|refine X.R (fun _ => ?_) (fun _ => ?_)|fail
  · rename_i hbad
    have e : permuteStages x o = (([], []), 1) := by simp [permuteStages, hbad]
    have hfin : ∀ w5, Chg w1.heap.size (w1.heap.size + 1) w3 w5 → w3.heap.size ≤ w5.heap.size → Chg 0 0 w w5 := fun w5 hc5 hz5 => ⟨by rw [hc5.os, hc03.os], by rw [hc5.tape, hc03.tape], by rw [hc5.output, hc03.output], by omega, fun k hk hd => by rw [hc5.block k (by omega) (by omega), hc03.block k hk (by omega)]⟩
    repeat' (first|refine X.O ?_|refine X.A ?_|refine X.B ?_|refine X.C ?_|refine X.D ?_|refine X.E ?_|refine X.F ?_|refine X.G ?_|refine X.H ?_|refine X.I ?_|fail)
    refine WL.step (o_build (us := []) (cells := [.slice none 0 0, .slice none 0 0]) (by rfl) (by kernel_rfl) ?_)
    refine WL.step (o_storeS (vs := [.slice none 0 0, .slice none 0 0]) (by rfl) (by rfl) hb2 (by rfl) (by rfl) two_cells ?_)
    intro w5 hb5 hbut5
    have hc5 := hbut5.chg
    have hz5 := hbut5.size
    repeat' (first|refine X.O ?_|refine X.A ?_|refine X.B ?_|refine X.C ?_|refine X.D ?_|refine X.E ?_|refine X.F ?_|refine X.G ?_|refine X.H ?_|refine X.I ?_|fail)
    rw [e]
    refine ⟨_, retS1 rfl (by rfl) hb5 (by rfl) (by rfl), _, rfl, ?_, ?_⟩
    · exact OwT.mk (m := w.heap.size) (x := ([], [])) ⟨[], Own.nil _ _ _, fun k hk => by simp [Value.ownBlock] at hk, by omega, rfl, fun i u xs hu => by simp at hu, fun i j u u' _ hu => by simp at hu, by decide⟩ ⟨Own.nil _ _ _, fun k hk => by simp [Value.ownBlock] at hk, Nat.le_refl _⟩ (Nat.le_refl _) (by omega)
    · exact hfin _ hc5 (by omega)
  · rename_i hok
    have hx := isTab_iff hok
    repeat' (first|refine X.O ?_|refine X.A ?_|refine X.B ?_|refine X.C ?_|refine X.D ?_|refine X.E ?_|refine X.F ?_|refine X.G ?_|refine X.H ?_|refine X.I ?_|fail)
    refine WL.step (o_loadS (by rfl) hb1 (by rfl) ?_)
    repeat' (first|refine X.O ?_|refine X.A ?_|refine X.B ?_|refine X.C ?_|refine X.D ?_|refine X.E ?_|refine X.F ?_|refine X.G ?_|refine X.H ?_|refine X.I ?_|fail)
    refine WL.call (isOrder_any hT hO (by have := hx.le8; omega) hn) ?_
    rintro _ w4 ⟨rfl, hc4⟩
    have hz4 := hc4.size
    replace hT := hT.chg hc4 (by omega)
    replace hO := RI.chg hO hc4 (by omega)
    replace hb1 := hb1.chg0 hc4
    replace hb2 := hb2.chg0 hc4
    have hc04 := hc03.trans hc4
    repeat' (first|refine X.O ?_|refine X.A ?_|refine X.B ?_|refine X.C ?_|refine X.D ?_|refine X.E ?_|refine X.F ?_|refine X.G ?_|refine X.H ?_|refine X.I ?_|fail)
    first|refine X.J (fun _ => ?_) (fun _ => ?_)|refine X.L (fun _ => ?_) (fun _ => ?_)|refine X.M (fun _ => ?_) (fun _ => ?_)|refine X.R (fun _ => ?_) (fun _ => ?_)|fail
    · rename_i hno
      have e : permuteStages x o = (([], []), 2) := by simp [permuteStages, hok, hno]
      have hfin : ∀ w5, Chg w1.heap.size (w1.heap.size + 1) w4 w5 → w4.heap.size ≤ w5.heap.size → Chg 0 0 w w5 := fun w5 hc5 hz5 => ⟨by rw [hc5.os, hc04.os], by rw [hc5.tape, hc04.tape], by rw [hc5.output, hc04.output], by omega, fun k hk hd => by rw [hc5.block k (by omega) (by omega), hc04.block k hk (by omega)]⟩
      repeat' (first|refine X.O ?_|refine X.A ?_|refine X.B ?_|refine X.C ?_|refine X.D ?_|refine X.E ?_|refine X.F ?_|refine X.G ?_|refine X.H ?_|refine X.I ?_|fail)
      refine WL.step (o_build (us := []) (cells := [.slice none 0 0, .slice none 0 0]) (by rfl) (by kernel_rfl) ?_)
      refine WL.step (o_storeS (vs := [.slice none 0 0, .slice none 0 0]) (by rfl) (by rfl) hb2 (by rfl) (by rfl) two_cells ?_)
      intro w5 hb5 hbut5
      have hc5 := hbut5.chg
      have hz5 := hbut5.size
      repeat' (first|refine X.O ?_|refine X.A ?_|refine X.B ?_|refine X.C ?_|refine X.D ?_|refine X.E ?_|refine X.F ?_|refine X.G ?_|refine X.H ?_|refine X.I ?_|fail)
      rw [e]
      refine ⟨_, retS1 rfl (by rfl) hb5 (by rfl) (by rfl), _, rfl, ?_, ?_⟩
      · exact OwT.mk (m := w.heap.size) (x := ([], [])) ⟨[], Own.nil _ _ _, fun k hk => by simp [Value.ownBlock] at hk, by omega, rfl, fun i u xs hu => by simp at hu, fun i j u u' _ hu => by simp at hu, by decide⟩ ⟨Own.nil _ _ _, fun k hk => by simp [Value.ownBlock] at hk, Nat.le_refl _⟩ (Nat.le_refl _) (by omega)
      · exact hfin _ hc5 (by omega)
    · rename_i hyes
      obtain ⟨hol, hord⟩ := sort_ok hyes
      have e : permuteStages x o = (permL x o, 0) := by simp [permuteStages, hok, hyes]
      repeat' (first|refine X.O ?_|refine X.A ?_|refine X.B ?_|refine X.C ?_|refine X.D ?_|refine X.E ?_|refine X.F ?_|refine X.G ?_|refine X.H ?_|refine X.I ?_|fail)
      refine WL.step (o_loadS (by rfl) hb1 (by rfl) ?_)
      repeat' (first|refine X.O ?_|refine X.A ?_|refine X.B ?_|refine X.C ?_|refine X.D ?_|refine X.E ?_|refine X.F ?_|refine X.G ?_|refine X.H ?_|refine X.I ?_|fail)
      refine WL.call (reordered_any hT hO hx hord (by have := hx.le8; omega)) ?_
      rintro v5 w5 ⟨oT, hc5⟩
      have hz5 := hc5.size
      replace hb2 := hb2.chg0 hc5
      obtain ⟨aq, nq, cq, ar, nr, cr, rfl⟩ := oT.cells
      refine WL.step (o_storeS (vs := [.slice aq nq cq, .slice ar nr cr]) (by rfl) (by rfl) hb2 (by rfl) (by rfl) two_cells ?_)
      intro w6 hb6 hbut6
      have hc6 := hbut6.chg
      have hz6 := hbut6.size
      repeat' (first|refine X.O ?_|refine X.A ?_|refine X.B ?_|refine X.C ?_|refine X.D ?_|refine X.E ?_|refine X.F ?_|refine X.G ?_|refine X.H ?_|refine X.I ?_|fail)
      rw [e]
      refine ⟨_, retS1 rfl (by rfl) hb6 (by rfl) (by rfl), _, rfl, ?_, ?_⟩
      · exact (oT.chg hc6 (by omega)).wide (by omega) (by omega) (by omega)
      · refine ⟨by rw [hc6.os, hc5.os, hc04.os], by rw [hc6.tape, hc5.tape, hc04.tape], by rw [hc6.output, hc5.output, hc04.output], by omega, fun k hk hd => ?_⟩
        rw [hc6.block k (by omega) (by omega), hc5.block k (by omega) (by omega), hc04.block k hk (by omega)]
end Go.Proofs
