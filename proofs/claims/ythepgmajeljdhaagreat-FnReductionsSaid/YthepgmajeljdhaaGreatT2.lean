/- Tableaus: the explicit and the diagonal ones; the neutral one. -/
import Derived.Test.YthepgmajeljdhaaGreatT1
namespace Go.Proofs
open Go Go.Fw Go.RowKit Go.Rk

theorem _root_.Go.Rk.Tab.rowLen {x : TabD} (h : Tab x) {i : Nat} (hi : i < x.1.length) : x.1[i].length = x.2.length := (h.row _ (List.getElem_mem hi)).1

theorem NeutralTableau_any (w : World) : Does Tryz.prog 28 [] w fun r w' => OwT 25 2 w.heap.size w'.heap.size w' r neutralTableau ∧ Chg 0 0 w w' := by
  refine Does.enter Tryz.func28 Tryz.ntmps28 rfl (by rfl) ?_
  repeat' (first|refine X.O ?_|refine X.A ?_|refine X.B ?_|refine X.C ?_|refine X.D ?_|refine X.E ?_|refine X.F ?_|refine X.G ?_|refine X.H ?_|refine X.I ?_|fail)
  refine WL.step (o_alloc ?_)
  intro w1 hb1 hbl1 hz1
  have hc1 := Chg.of_below hbl1
  repeat' (first|refine X.O ?_|refine X.A ?_|refine X.B ?_|refine X.C ?_|refine X.D ?_|refine X.E ?_|refine X.F ?_|refine X.G ?_|refine X.H ?_|refine X.I ?_|fail)
  refine WL.step (o_lit (us := [.int .i64 0]) (by rfl) (by rfl) rfl (by decide) (one1 rfl) ?_)
  intro v2 w2 hown2 hbl2 hz2 hv2
  have hc2 := Chg.of_below hbl2
  refine WL.step (o_lit (us := [v2]) (by rfl) (by rfl) rfl (by decide) (one1 (by rw [hv2]; rfl)) ?_)
  intro v3 w3 hown3 hbl3 hz3 hv3
  have hc3 := Chg.of_below hbl3
  refine WL.step (o_lit (us := [.int .i64 0]) (by rfl) (by rfl) rfl (by decide) (one1 rfl) ?_)
  intro v4 w4 hown4 hbl4 hz4 hv4
  have hc4 := Chg.of_below hbl4
  refine WL.step (o_build (us := [v3, v4]) (cells := [v3, v4]) (by rfl) (by rw [hv3, hv4]; kernel_rfl) ?_)
  have hb4 := ((hb1.chg0 hc2).chg0 hc3).chg0 hc4
  have s3 : v3.oneCell' = true := by rw [hv3]; rfl
  have s4 : v4.oneCell' = true := by rw [hv4]; rfl
  refine WL.step (o_storeS (vs := [v3, v4]) (by rfl) (by rfl) hb4 (by rfl) (by rfl) (fun u hu => by
    simp only [List.mem_cons, List.not_mem_nil, or_false] at hu
    rcases hu with rfl | rfl
    · exact s3
    · exact s4) ?_)
  intro w5 hb5 hbut5
  have hc5 := hbut5.chg
  have hz5 := hbut5.size
  repeat' (first|refine X.O ?_|refine X.A ?_|refine X.B ?_|refine X.C ?_|refine X.D ?_|refine X.E ?_|refine X.F ?_|refine X.G ?_|refine X.H ?_|refine X.I ?_|fail)
  refine ⟨_, retS rfl (by rfl) hb5 (by rfl), ?_, ?_⟩
  · have o2 : OwI 2 w1.heap.size w2.heap.size w2 v2 [0] := ⟨hown2, fun k hk => (hown2.block k hk).2, Nat.le_refl _⟩
    have h0 : OwSSv 25 2 w1.heap.size w3.heap.size w3 v3 [v2] [[0]] :=
      ⟨hown3.lower (by omega), fun k hk => (hown3.block k hk).2, Nat.le_refl _, rfl, fun i u xs hu hx => by
        obtain rfl : u = v2 := by have := List.mem_of_getElem? hu; simpa using this
        obtain rfl : xs = [0] := by have := List.mem_of_getElem? hx; simpa using this
        exact (o2.chg hc3 (by omega)).wide (Nat.le_refl _) (by omega) (Nat.le_refl _), fun i j u u' hne hu hu' k hk => by
        have a1 := (List.getElem?_eq_some_iff.1 hu).1
        have a2 := (List.getElem?_eq_some_iff.1 hu').1
        simp at a1 a2
        omega, by decide⟩
    have oA : OwSS 25 2 w.heap.size w3.heap.size w5 v3 [[0]] := (OwSS.chg (OwSS.chg ⟨_, h0⟩ hc4 (by omega)) hc5 (by omega)).wide (by omega) (Nat.le_refl _) (by omega)
    have o4 : OwI 2 w3.heap.size w4.heap.size w4 v4 [0] := ⟨hown4, fun k hk => (hown4.block k hk).2, Nat.le_refl _⟩
    have oB : OwI 2 w3.heap.size w5.heap.size w5 v4 [0] := (o4.chg hc5 (by omega)).wide (Nat.le_refl _) (by omega) (by omega)
    exact OwT.mk (x := neutralTableau) oA oB (by omega) (by omega)
  · refine ⟨by rw [hc5.os, hc4.os, hc3.os, hc2.os, hc1.os], by rw [hc5.tape, hc4.tape, hc3.tape, hc2.tape, hc1.tape], by rw [hc5.output, hc4.output, hc3.output, hc2.output, hc1.output], by omega, fun k hk hd => ?_⟩
    rw [hc5.block k (by omega) (by omega), hc4.block k (by omega) (by omega), hc3.block k (by omega) (by omega), hc2.block k (by omega) (by omega), hc1.block k hk (by omega)]
theorem sNeutralTableau_any (w : World) : Does Tryz.prog 120 [] w fun r w' => OwT 25 2 w.heap.size w'.heap.size w' r neutralTableau ∧ Chg 0 0 w w' := by
  refine Does.enter Tryz.func120 Tryz.ntmps120 rfl (by rfl) ?_
  repeat' (first|refine X.O ?_|refine X.A ?_|refine X.B ?_|refine X.C ?_|refine X.D ?_|refine X.E ?_|refine X.F ?_|refine X.G ?_|refine X.H ?_|refine X.I ?_|fail)
  refine WL.step (o_alloc ?_)
  intro w1 hb1 hbl1 hz1
  have hc1 := Chg.of_below hbl1
  repeat' (first|refine X.O ?_|refine X.A ?_|refine X.B ?_|refine X.C ?_|refine X.D ?_|refine X.E ?_|refine X.F ?_|refine X.G ?_|refine X.H ?_|refine X.I ?_|fail)
  refine WL.step (o_lit (us := [.int .i64 0]) (by rfl) (by rfl) rfl (by decide) (one1 rfl) ?_)
  intro v2 w2 hown2 hbl2 hz2 hv2
  have hc2 := Chg.of_below hbl2
  refine WL.step (o_lit (us := [v2]) (by rfl) (by rfl) rfl (by decide) (one1 (by rw [hv2]; rfl)) ?_)
  intro v3 w3 hown3 hbl3 hz3 hv3
  have hc3 := Chg.of_below hbl3
  refine WL.step (o_lit (us := [.int .i64 0]) (by rfl) (by rfl) rfl (by decide) (one1 rfl) ?_)
  intro v4 w4 hown4 hbl4 hz4 hv4
  have hc4 := Chg.of_below hbl4
  refine WL.step (o_build (us := [v3, v4]) (cells := [v3, v4]) (by rfl) (by rw [hv3, hv4]; kernel_rfl) ?_)
  have hb4 := ((hb1.chg0 hc2).chg0 hc3).chg0 hc4
  have s3 : v3.oneCell' = true := by rw [hv3]; rfl
  have s4 : v4.oneCell' = true := by rw [hv4]; rfl
  refine WL.step (o_storeS (vs := [v3, v4]) (by rfl) (by rfl) hb4 (by rfl) (by rfl) (fun u hu => by
    simp only [List.mem_cons, List.not_mem_nil, or_false] at hu
    rcases hu with rfl | rfl
    · exact s3
    · exact s4) ?_)
  intro w5 hb5 hbut5
  have hc5 := hbut5.chg
  have hz5 := hbut5.size
  repeat' (first|refine X.O ?_|refine X.A ?_|refine X.B ?_|refine X.C ?_|refine X.D ?_|refine X.E ?_|refine X.F ?_|refine X.G ?_|refine X.H ?_|refine X.I ?_|fail)
  refine ⟨_, retS rfl (by rfl) hb5 (by rfl), ?_, ?_⟩
  · have o2 : OwI 2 w1.heap.size w2.heap.size w2 v2 [0] := ⟨hown2, fun k hk => (hown2.block k hk).2, Nat.le_refl _⟩
    have h0 : OwSSv 25 2 w1.heap.size w3.heap.size w3 v3 [v2] [[0]] :=
      ⟨hown3.lower (by omega), fun k hk => (hown3.block k hk).2, Nat.le_refl _, rfl, fun i u xs hu hx => by
        obtain rfl : u = v2 := by have := List.mem_of_getElem? hu; simpa using this
        obtain rfl : xs = [0] := by have := List.mem_of_getElem? hx; simpa using this
        exact (o2.chg hc3 (by omega)).wide (Nat.le_refl _) (by omega) (Nat.le_refl _), fun i j u u' hne hu hu' k hk => by
        have a1 := (List.getElem?_eq_some_iff.1 hu).1
        have a2 := (List.getElem?_eq_some_iff.1 hu').1
        simp at a1 a2
        omega, by decide⟩
    have oA : OwSS 25 2 w.heap.size w3.heap.size w5 v3 [[0]] := (OwSS.chg (OwSS.chg ⟨_, h0⟩ hc4 (by omega)) hc5 (by omega)).wide (by omega) (Nat.le_refl _) (by omega)
    have o4 : OwI 2 w3.heap.size w4.heap.size w4 v4 [0] := ⟨hown4, fun k hk => (hown4.block k hk).2, Nat.le_refl _⟩
    have oB : OwI 2 w3.heap.size w5.heap.size w5 v4 [0] := (o4.chg hc5 (by omega)).wide (Nat.le_refl _) (by omega) (by omega)
    exact OwT.mk (x := neutralTableau) oA oB (by omega) (by omega)
  · refine ⟨by rw [hc5.os, hc4.os, hc3.os, hc2.os, hc1.os], by rw [hc5.tape, hc4.tape, hc3.tape, hc2.tape, hc1.tape], by rw [hc5.output, hc4.output, hc3.output, hc2.output, hc1.output], by omega, fun k hk hd => ?_⟩
    rw [hc5.block k (by omega) (by omega), hc4.block k (by omega) (by omega), hc3.block k (by omega) (by omega), hc2.block k (by omega) (by omega), hc1.block k hk (by omega)]
end Go.Proofs
