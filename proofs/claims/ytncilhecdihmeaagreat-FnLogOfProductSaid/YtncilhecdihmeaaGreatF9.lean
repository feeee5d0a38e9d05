/- Maps compared, truncated and taken apart: AgreeTo, TruncateMap, PartOfMap, the reference's ScaleMap. -/
import Derived.Test.YtncilhecdihmeaaGreatF8
set_option maxRecDepth 8000
namespace Go.Proofs
open Go Go.Fw Go.RowKit Go.Rk
theorem AgreeTo_any {la ha lb hb : Nat} {w : World} {va vb : Value} {a b : List Int} (hA : IS la ha w va a) (hB : IS lb hb w vb b) :
    Does Tryz.prog 23 [va, vb] w fun r w' => r = .tuple #[.int .i64 (agreeTo a b).1, .int .i64 (agreeTo a b).2] ∧ Chg 0 0 w w' := by
  refine Does.enter Tryz.func23 Tryz.ntmps23 rfl (by rfl) ?_
  repeat' (first|refine X.O ?_|refine X.A ?_|refine X.B ?_|refine X.C ?_|refine X.D ?_|refine X.E ?_|refine X.F ?_|refine X.G ?_|refine X.H ?_|refine X.I ?_|fail)
  refine WL.call (IsMap_any hA) ?_
  rintro _ w1 ⟨rfl, hs1⟩
  have hz1 := hs1.size
  by_cases h1 : isMap a = true
  · rw [h1]
    repeat' (first|refine X.O ?_|refine X.A ?_|refine X.B ?_|refine X.C ?_|refine X.D ?_|refine X.E ?_|refine X.F ?_|refine X.G ?_|refine X.H ?_|refine X.I ?_|fail)
    refine WL.call (IsMap_any (hB.still RI.stable hs1)) ?_
    rintro _ w2 ⟨rfl, hs2⟩
    have hs12 := hs1.trans hs2
    by_cases h2 : isMap b = true
    · rw [h2]
      repeat' (first|refine X.O ?_|refine X.A ?_|refine X.B ?_|refine X.C ?_|refine X.D ?_|refine X.E ?_|refine X.F ?_|refine X.G ?_|refine X.H ?_|refine X.I ?_|fail)
      refine WL.call (newForms_any _) ?_
      rintro v3 w3 ⟨⟨vt, vc, rfl, hT, _⟩, hbl3⟩
      have hz12 := hs12.size
      have hA3 := (hA.still RI.stable hs12).below RI.stable hbl3 (by have := hA.hi_le; omega)
      have hB3 := (hB.still RI.stable hs12).below RI.stable hbl3 (by have := hB.hi_le; omega)
      repeat' (first|refine X.O ?_|refine X.A ?_|refine X.B ?_|refine X.C ?_|refine X.D ?_|refine X.E ?_|refine X.F ?_|refine X.G ?_|refine X.H ?_|refine X.I ?_|fail)
      refine WL.call (agreeTo_any hT hA3 hB3 (isMap_38 h1) (isMap_38 h2)) ?_
      rintro _ w4 ⟨rfl, hbl4⟩
      repeat' (first|refine X.O ?_|refine X.A ?_|refine X.B ?_|refine X.C ?_|refine X.D ?_|refine X.E ?_|refine X.F ?_|refine X.G ?_|refine X.H ?_|refine X.I ?_|fail)
      refine ⟨_, ret2 rfl (by rfl) (by rfl), ?_⟩
      have e : agreeTo a b = (agreeL a b, 0) := by unfold agreeTo; rw [if_pos ⟨h1, h2⟩]
      exact ⟨by rw [e], ((Chg.of_still hs12).trans (Chg.of_below hbl3)).trans (Chg.of_below hbl4)⟩
    · rw [Bool.not_eq_true] at h2
      have e : agreeTo a b = (0, 1) := by unfold agreeTo; rw [if_neg (fun h => by rw [h2] at h; cases h.2)]
      rw [h2]
      repeat' (first|refine X.O ?_|refine X.A ?_|refine X.B ?_|refine X.C ?_|refine X.D ?_|refine X.E ?_|refine X.F ?_|refine X.G ?_|refine X.H ?_|refine X.I ?_|fail)
      refine ⟨_, ret2 rfl (by rfl) (by rfl), ?_⟩
      exact ⟨by rw [e], Chg.of_still hs12⟩
  · rw [Bool.not_eq_true] at h1
    have e : agreeTo a b = (0, 1) := by unfold agreeTo; rw [if_neg (fun h => by rw [h1] at h; cases h.1)]
    rw [h1]
    repeat' (first|refine X.O ?_|refine X.A ?_|refine X.B ?_|refine X.C ?_|refine X.D ?_|refine X.E ?_|refine X.F ?_|refine X.G ?_|refine X.H ?_|refine X.I ?_|fail)
    refine ⟨_, ret2 rfl (by rfl) (by rfl), ?_⟩
    exact ⟨by rw [e], Chg.of_still hs1⟩
def nodesCode (a : List Int) (n : Int) : Int := if isMap a = true then (if 0 ≤ n ∧ n ≤ 6 then 0 else 2) else 1
theorem checkNodes_any {lo hi : Nat} {w : World} {v : Value} {a : List Int} (h : IS lo hi w v a) (n : Int) : Does Tryz.prog 85 [v, .int .i64 n] w fun r w' => r = .int .i64 (nodesCode a n) ∧ Still w w' := by
  refine Does.enter Tryz.func85 Tryz.ntmps85 rfl (by rfl) ?_
  repeat' (first|refine X.O ?_|refine X.A ?_|refine X.B ?_|refine X.C ?_|refine X.D ?_|refine X.E ?_|refine X.F ?_|refine X.G ?_|refine X.H ?_|refine X.I ?_|fail)
  refine WL.call (IsMap_any h) ?_
  rintro _ w1 ⟨rfl, hs1⟩
  by_cases h1 : isMap a = true
  · rw [h1]
    repeat' (first|refine X.O ?_|refine X.A ?_|refine X.B ?_|refine X.C ?_|refine X.D ?_|refine X.E ?_|refine X.F ?_|refine X.G ?_|refine X.H ?_|refine X.I ?_|fail)
    refine WL.call (inRange_any n 0 6 _) ?_
    rintro _ w2 ⟨rfl, hs2⟩
    by_cases h2 : 0 ≤ n ∧ n ≤ 6
    · rw [decide_eq_true h2]
      repeat' (first|refine X.O ?_|refine X.A ?_|refine X.B ?_|refine X.C ?_|refine X.D ?_|refine X.E ?_|refine X.F ?_|refine X.G ?_|refine X.H ?_|refine X.I ?_|fail)
      refine ⟨_, ret1 rfl (by rfl), ?_⟩
      exact ⟨by unfold nodesCode; rw [if_pos h1, if_pos h2], hs1.trans hs2⟩
    · rw [decide_eq_false h2]
      repeat' (first|refine X.O ?_|refine X.A ?_|refine X.B ?_|refine X.C ?_|refine X.D ?_|refine X.E ?_|refine X.F ?_|refine X.G ?_|refine X.H ?_|refine X.I ?_|fail)
      refine ⟨_, ret1 rfl (by rfl), ?_⟩
      exact ⟨by unfold nodesCode; rw [if_pos h1, if_neg h2], hs1.trans hs2⟩
  · rw [Bool.not_eq_true] at h1
    rw [h1]
    repeat' (first|refine X.O ?_|refine X.A ?_|refine X.B ?_|refine X.C ?_|refine X.D ?_|refine X.E ?_|refine X.F ?_|refine X.G ?_|refine X.H ?_|refine X.I ?_|fail)
    refine ⟨_, ret1 rfl (by rfl), ?_⟩
    exact ⟨by unfold nodesCode; rw [if_neg (by rw [h1]; decide)], hs1⟩
theorem truncCl_any {b : Nat} {n : Int} {w : World} {tt : TypeId} (h : Blk w b [.int .i64 n] tt) (m : Int) : Does Tryz.prog 87 [.int .i64 m, .pointer (some ⟨b, 0, none⟩)] w fun r w' => r = .bool (decide (m ≤ n)) ∧ w' = w := by
  refine Does.enter Tryz.func87 Tryz.ntmps87 rfl (by rfl) ?_
  repeat' (first|refine X.O ?_|refine X.A ?_|refine X.B ?_|refine X.C ?_|refine X.D ?_|refine X.E ?_|refine X.F ?_|refine X.G ?_|refine X.H ?_|refine X.I ?_|fail)
  refine WL.step (o_load (by rfl) (h.cell (j := 0) rfl) ?_)
  repeat' (first|refine X.O ?_|refine X.A ?_|refine X.B ?_|refine X.C ?_|refine X.D ?_|refine X.E ?_|refine X.F ?_|refine X.G ?_|refine X.H ?_|refine X.I ?_|fail)
  refine ⟨_, ret1 rfl (by rfl), ?_⟩
  exact ⟨rfl, rfl⟩
theorem TruncateMap_any {lo hi : Nat} {w : World} {v : Value} {a : List Int} (h : IS lo hi w v a) (n : Int) :
    Does Tryz.prog 25 [v, .int .i64 n] w fun r w' => ResI w r w' (truncateMap a n) := by
  have hz := h.hi_le
  refine Does.enter Tryz.func25 Tryz.ntmps25 rfl (by rfl) ?_
  repeat' (first|refine X.O ?_|refine X.A ?_|refine X.B ?_|refine X.C ?_|refine X.D ?_|refine X.E ?_|refine X.F ?_|refine X.G ?_|refine X.H ?_|refine X.I ?_|fail)
  refine WL.step (o_box (by rfl) ?_)
  intro w1 hb1 hbl1 hz1
  have hb1' : Blk w1 w.heap.size [.int .i64 n] _ := hb1
  repeat' (first|refine X.O ?_|refine X.A ?_|refine X.B ?_|refine X.C ?_|refine X.D ?_|refine X.E ?_|refine X.F ?_|refine X.G ?_|refine X.H ?_|refine X.I ?_|fail)
  refine WL.step (o_load (by rfl) (hb1'.cell (j := 0) rfl) ?_)
  refine WL.call (checkNodes_any (h.below RI.stable hbl1 hz) n) ?_
  rintro _ w2 ⟨rfl, hs2⟩
  have hz2 := hs2.size
  have hbl02 : Below w.heap.size w w2 := hbl1.trans (hs2.below _)
  by_cases h0 : nodesCode a n = 0
  · rw [h0]
    have hc : isMap a = true ∧ 0 ≤ n ∧ n ≤ 6 := by
      unfold nodesCode at h0
      split at h0
      · rename_i h1; split at h0
        · rename_i h2; exact ⟨h1, h2⟩
        · omega
      · omega
    repeat' (first|refine X.O ?_|refine X.A ?_|refine X.B ?_|refine X.C ?_|refine X.D ?_|refine X.E ?_|refine X.F ?_|refine X.G ?_|refine X.H ?_|refine X.I ?_|fail)
    refine WL.call (newForms_any _) ?_
    rintro v3 w3 ⟨hF, hbl3⟩
    have hz3 := hbl3.size
    have hbl03 : Below w.heap.size w w3 := hbl02.trans (Below.mono hbl3 (by omega))
    have hb3 := (hb1'.still hs2).below hbl3 (by omega)
    repeat' (first|refine X.O ?_|refine X.A ?_|refine X.B ?_|refine X.C ?_|refine X.D ?_|refine X.E ?_|refine X.F ?_|refine X.G ?_|refine X.H ?_|refine X.I ?_|fail)
    refine WL.call (keep_any (f := 87) (cap := .pointer (some ⟨w.heap.size, 0, none⟩)) (p := fun m => decide (m ≤ n)) hF (h.below RI.stable hbl03 hz) (isMap_38 hc.1) (fun m w' hb => truncCl_any (hb3.below hb (by omega)) m)) ?_
    intro v4 w4 hN4
    repeat' (first|refine X.O ?_|refine X.A ?_|refine X.B ?_|refine X.C ?_|refine X.D ?_|refine X.E ?_|refine X.F ?_|refine X.G ?_|refine X.H ?_|refine X.I ?_|fail)
    refine ⟨_, ret2 rfl (by rfl) (by rfl), ?_⟩
    have e : truncateMap a n = (keepL (fun m => decide (m ≤ n)) a, 0) := by unfold truncateMap; rw [if_pos hc.1, if_pos hc.2]
    rw [e]
    exact ⟨v4, rfl, hN4.trans hbl03⟩
  · repeat' (first|refine X.O ?_|refine X.A ?_|refine X.B ?_|refine X.C ?_|refine X.D ?_|refine X.E ?_|refine X.F ?_|refine X.G ?_|refine X.H ?_|refine X.I ?_|fail)
    first|refine X.J (fun _ => ?_) (fun _ => ?_)|refine X.L (fun _ => ?_) (fun _ => ?_)|refine X.M (fun _ => ?_) (fun _ => ?_)|refine X.R (fun _ => ?_) (fun _ => ?_)|fail
    · repeat' (first|refine X.O ?_|refine X.A ?_|refine X.B ?_|refine X.C ?_|refine X.D ?_|refine X.E ?_|refine X.F ?_|refine X.G ?_|refine X.H ?_|refine X.I ?_|fail)
      refine ⟨_, ret2 rfl (by rfl) (by rfl), ?_⟩
      have e : truncateMap a n = ([], nodesCode a n) := by
        unfold truncateMap nodesCode at *
        split
        · rename_i h1; rw [if_pos h1] at h0; split
          · rename_i h2; rw [if_pos h2] at h0; exact absurd rfl h0
          · rfl
        · rfl
      rw [e]
      exact ResI.none _ _ hbl02 _
    · rename_i hbad
      exact absurd (by simpa using hbad) h0
end Go.Proofs
