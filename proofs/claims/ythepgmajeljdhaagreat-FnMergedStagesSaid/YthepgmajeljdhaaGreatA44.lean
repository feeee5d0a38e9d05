/- The stages that are used, both sides, with their code. -/
import Derived.Test.YthepgmajeljdhaaGreatA43
import Derived.Test.YthepgmajeljdhaaGreatA3
import Derived.Test.YthepgmajeljdhaaGreatPlB
namespace Go.Rk
open Go.Fw Go.Proofs
theorem dropUnused_len (x : TabD) : tabCnt (dropUnused x).1 ≤ 1000000 := by
  unfold dropUnused
  split
  · rename_i h
    have := tab_cnt (dropL_tab (isTab_iff h))
    show tabCnt (dropL x) ≤ 1000000
    omega
  · decide
end Go.Rk
namespace Go.Proofs
open Go Go.Fw Go.RowKit Go.Rk
theorem DropUnused_any {lo hi : Nat} {w : World} {v : Value} {x : TabD} (h : IT lo hi w v x) : Does Tryz.prog 11 [v] w fun r w' => ResT 25 2 w r w' (dropUnused x) := by
  have hz := h.hi_le
  obtain ⟨va, vb, rfl, hA, hB⟩ := h
  refine Does.enter Tryz.func11 Tryz.ntmps11 rfl (by rfl) ?_
  repeat' (first|refine X.O ?_|refine X.A ?_|refine X.B ?_|refine X.C ?_|refine X.D ?_|refine X.E ?_|refine X.F ?_|refine X.G ?_|refine X.H ?_|refine X.I ?_|fail)
  refine WL.step (o_box (by rfl) ?_)
  intro w1 hb1 hbl1 hz1
  refine WL.step (o_alloc ?_)
  intro w2 hb2 hbl2 hz2
  have hbl12 : Below w.heap.size w w2 := hbl1.trans (Below.mono hbl2 (by omega))
  have hc2 := Chg.of_below hbl12
  replace hb1 := hb1.below hbl2 (by omega)
  have hT : IT lo hi w (.agg #[va, vb]) x := ⟨va, vb, rfl, hA, hB⟩
  replace hT := hT.chg hc2 (by omega)
  repeat' (first|refine X.O ?_|refine X.A ?_|refine X.B ?_|refine X.C ?_|refine X.D ?_|refine X.E ?_|refine X.F ?_|refine X.G ?_|refine X.H ?_|refine X.I ?_|fail)
  refine WL.step (o_loadS (by rfl) hb1 (by rfl) ?_)
  refine WL.call (IsTableau_any hT) ?_
  rintro _ w3 ⟨rfl, hc3⟩
  have hz3 := hc3.size
  replace hT := hT.chg hc3 (by omega)
  replace hb1 := hb1.chg0 hc3
  replace hb2 := hb2.chg0 hc3
  repeat' (first|refine X.O ?_|refine X.A ?_|refine X.B ?_|refine X.C ?_|refine X.D ?_|refine X.E ?_|refine X.F ?_|refine X.G ?_|refine X.H ?_|refine X.I ?_|fail)
  first|refine X.J (fun _ => ?_) (fun _ => ?_)|refine X.L (fun _ => ?_) (fun _ => ?_)|refine X.M (fun _ => ?_) (fun _ => ?_)|refine X.R (fun _ => ?_) (fun _ => ?_)|fail
  · rename_i hbad
    repeat' (first|refine X.O ?_|refine X.A ?_|refine X.B ?_|refine X.C ?_|refine X.D ?_|refine X.E ?_|refine X.F ?_|refine X.G ?_|refine X.H ?_|refine X.I ?_|fail)
    refine WL.step (o_build (us := []) (cells := [.slice none 0 0, .slice none 0 0]) (by rfl) (by kernel_rfl) ?_)
    refine WL.step (o_storeS (vs := [.slice none 0 0, .slice none 0 0]) (by rfl) (by rfl) hb2 (by rfl) (by rfl) two_cells ?_)
    intro w4 hb4 hbut4
    have hc4 := hbut4.chg
    have hz4 := hbut4.size
    repeat' (first|refine X.O ?_|refine X.A ?_|refine X.B ?_|refine X.C ?_|refine X.D ?_|refine X.E ?_|refine X.F ?_|refine X.G ?_|refine X.H ?_|refine X.I ?_|fail)
    have e : dropUnused x = (([], []), 1) := by simp [dropUnused, hbad]
    rw [e]
    refine ⟨_, retS1 rfl (by rfl) hb4 (by rfl) (by rfl), _, rfl, ?_, ?_⟩
    · exact OwT.mk (m := w.heap.size) (x := ([], [])) ⟨[], Own.nil _ _ _, fun k hk => by simp [Value.ownBlock] at hk, by omega, rfl, fun i u xs hu => by simp at hu, fun i j u u' _ hu => by simp at hu, by decide⟩ ⟨Own.nil _ _ _, fun k hk => by simp [Value.ownBlock] at hk, Nat.le_refl _⟩ (Nat.le_refl _) (by omega)
    · refine ⟨by rw [hc4.os, hc3.os, hc2.os], by rw [hc4.tape, hc3.tape, hc2.tape], by rw [hc4.output, hc3.output, hc2.output], by omega, fun k hk hd => ?_⟩
      rw [hc4.block k (by omega) (by omega), hc3.block k (by omega) (by omega), hc2.block k hk (by omega)]
  · rename_i hok
    repeat' (first|refine X.O ?_|refine X.A ?_|refine X.B ?_|refine X.C ?_|refine X.D ?_|refine X.E ?_|refine X.F ?_|refine X.G ?_|refine X.H ?_|refine X.I ?_|fail)
    refine WL.step (o_loadS (by rfl) hb1 (by rfl) ?_)
    refine WL.call (dropped_any hT (isTab_iff hok)) ?_
    rintro v4 w4 ⟨oT, hc4⟩
    have hz4 := hc4.size
    replace hb2 := hb2.chg0 hc4
    obtain ⟨aq, nq, cq, ar, nr, cr, rfl⟩ := oT.cells
    refine WL.step (o_storeS (vs := [.slice aq nq cq, .slice ar nr cr]) (by rfl) (by rfl) hb2 (by rfl) (by rfl) two_cells ?_)
    intro w5 hb5 hbut5
    have hc5 := hbut5.chg
    have hz5 := hbut5.size
    repeat' (first|refine X.O ?_|refine X.A ?_|refine X.B ?_|refine X.C ?_|refine X.D ?_|refine X.E ?_|refine X.F ?_|refine X.G ?_|refine X.H ?_|refine X.I ?_|fail)
    have e : dropUnused x = (dropL x, 0) := by simp [dropUnused, hok]
    rw [e]
    refine ⟨_, retS1 rfl (by rfl) hb5 (by rfl) (by rfl), _, rfl, ?_, ?_⟩
    · exact (oT.chg hc5 (by omega)).wide (by omega) (by omega) (by omega)
    · refine ⟨by rw [hc5.os, hc4.os, hc3.os, hc2.os], by rw [hc5.tape, hc4.tape, hc3.tape, hc2.tape], by rw [hc5.output, hc4.output, hc3.output, hc2.output], by omega, fun k hk hd => ?_⟩
      rw [hc5.block k (by omega) (by omega), hc4.block k (by omega) (by omega), hc3.block k (by omega) (by omega), hc2.block k hk (by omega)]
end Go.Proofs
