/- Roots of maps, both sides. -/
import Derived.Test.YtncilhecdihmeaaGreatG15
set_option maxRecDepth 8000
namespace Go.Proofs
open Go Go.Fw Go.RowKit Go.Rk
theorem FormsI.slices {lo hi : Nat} {w : World} {vt vc : Value} (h : FormsI lo hi w (.agg #[vt, vc])) : ∀ x ∈ [vt, vc], x.oneCell' = true := fun x hx => by
  obtain ⟨vt', vc', he, h1, h2⟩ := h
  obtain ⟨a1, c1, hv1⟩ := h1.shape
  obtain ⟨a2, c2, hv2⟩ := h2.shape
  simp only [Value.agg.injEq] at he
  have he2 : [vt, vc] = [vt', vc'] := congrArg Array.toList he
  rw [he2] at hx
  simp only [List.mem_cons, List.not_mem_nil, or_false] at hx
  rcases hx with rfl | rfl
  · rw [hv1]; rfl
  · rw [hv2]; rfl
theorem sRootOfMap_any {la ha : Nat} {w : World} {va : Value} {a : List Int} (hA : IS la ha w va a) (k : Int) :
    Does Tryz.prog 41 [va, .int .i64 k] w fun r w' => ResI w r w' (rootOfMap a k) := by
  have hzA := hA.hi_le
  refine Does.enter Tryz.func41 Tryz.ntmps41 rfl (by rfl) ?_
  repeat' (first|refine X.O ?_|refine X.A ?_|refine X.B ?_|refine X.C ?_|refine X.D ?_|refine X.E ?_|refine X.F ?_|refine X.G ?_|refine X.H ?_|refine X.I ?_|fail)
  refine WL.call (l07Is_any hA) ?_
  rintro _ w1 ⟨rfl, hs1⟩
  by_cases hm : isMap a = true
  · rw [hm]
    repeat' (first|refine X.O ?_|refine X.A ?_|refine X.B ?_|refine X.C ?_|refine X.D ?_|refine X.E ?_|refine X.F ?_|refine X.G ?_|refine X.H ?_|refine X.I ?_|fail)
    refine WL.call (l01In_any k 1 100 _) ?_
    rintro _ w2 ⟨rfl, hs2⟩
    have hs := hs1.trans hs2
    by_cases hr : 1 ≤ k ∧ k ≤ 100
    · rw [decide_eq_true hr]
      have hnm : nm k = k := by unfold nm; omega
      have hl := isMap_38 hm
      have h0 : 0 < a.length := by omega
      have hg0 : a.getD 0 0 = a[0] := by rw [List.getD_eq_getElem?_getD, List.getElem?_eq_getElem h0]; rfl
      have hf : rootOfMap a k = if a[0] ≠ 1 then ([], 5) else (expL (scaledL (logL a) (powN k 10005)), 0) := by unfold rootOfMap; rw [if_pos hm, if_pos hr, hg0, hnm]
      repeat' (first|refine X.O ?_|refine X.A ?_|refine X.B ?_|refine X.C ?_|refine X.D ?_|refine X.E ?_|refine X.F ?_|refine X.G ?_|refine X.H ?_|refine X.I ?_|fail)
      refine WL.ixload (j := 0) (hA.still RI.stable hs) (List.getElem?_eq_getElem h0) ?_
      rintro p3 _ rfl
      repeat' (first|refine X.O ?_|refine X.A ?_|refine X.B ?_|refine X.C ?_|refine X.D ?_|refine X.E ?_|refine X.F ?_|refine X.G ?_|refine X.H ?_|refine X.I ?_|fail)
      first|refine X.J (fun _ => ?_) (fun _ => ?_)|refine X.L (fun _ => ?_) (fun _ => ?_)|refine X.M (fun _ => ?_) (fun _ => ?_)|refine X.R (fun _ => ?_) (fun _ => ?_)|fail
      · rename_i hne
        repeat' (first|refine X.O ?_|refine X.A ?_|refine X.B ?_|refine X.C ?_|refine X.D ?_|refine X.E ?_|refine X.F ?_|refine X.G ?_|refine X.H ?_|refine X.I ?_|fail)
        refine ⟨_, ret2 rfl (by rfl) (by rfl), ?_⟩
        rw [hf, if_pos (by simpa using hne)]
        exact ResI.none _ _ (hs.below _) _
      · rename_i hne
        have hpb := powN_bd k 10005
        repeat' (first|refine X.O ?_|refine X.A ?_|refine X.B ?_|refine X.C ?_|refine X.D ?_|refine X.E ?_|refine X.F ?_|refine X.G ?_|refine X.H ?_|refine X.I ?_|fail)
        refine WL.call (l07Cuts_any _) ?_
        rintro v3 w3 ⟨hC, hbl3⟩
        have hbl03 : Below w.heap.size w w3 := (hs.below _).trans (Below.mono hbl3 (by have := hs.size; omega))
        have hz03 := hbl03.size
        repeat' (first|refine X.O ?_|refine X.A ?_|refine X.B ?_|refine X.C ?_|refine X.D ?_|refine X.E ?_|refine X.F ?_|refine X.G ?_|refine X.H ?_|refine X.I ?_|fail)
        refine WL.call (l08Log_any hC (hA.below RI.stable hbl03 hzA) hl (isMap_all hm)) ?_
        intro v4 w4 hN4
        have hz4 := hN4.2.size
        have hbl04 : Below w.heap.size w w4 := hbl03.trans (Below.mono hN4.2 (by omega))
        repeat' (first|refine X.O ?_|refine X.A ?_|refine X.B ?_|refine X.C ?_|refine X.D ?_|refine X.E ?_|refine X.F ?_|refine X.G ?_|refine X.H ?_|refine X.I ?_|fail)
        refine WL.call (l01Inv_any k (by omega) (by omega) _) ?_
        rintro _ _ ⟨rfl, rfl⟩
        refine WL.call (l08Flow_any (powN k 10005) (hC.below RC.stable hN4.2 (Nat.le_refl _)) (hN4.1.toIS (Nat.zero_le _)) (logL_len hl) (logSt_ok hl 6).2 (by simp [isN]; exact hpb)) ?_
        intro v5 w5 hN5
        repeat' (first|refine X.O ?_|refine X.A ?_|refine X.B ?_|refine X.C ?_|refine X.D ?_|refine X.E ?_|refine X.F ?_|refine X.G ?_|refine X.H ?_|refine X.I ?_|fail)
        refine ⟨_, ret2 rfl (by rfl) (by rfl), ?_⟩
        rw [hf, if_neg (by simpa using hne)]
        exact ⟨v5, rfl, hN5.trans hbl04⟩
    · rw [decide_eq_false hr]
      repeat' (first|refine X.O ?_|refine X.A ?_|refine X.B ?_|refine X.C ?_|refine X.D ?_|refine X.E ?_|refine X.F ?_|refine X.G ?_|refine X.H ?_|refine X.I ?_|fail)
      refine ⟨_, ret2 rfl (by rfl) (by rfl), ?_⟩
      have e : rootOfMap a k = ([], 2) := by unfold rootOfMap; rw [if_pos hm, if_neg hr]
      rw [e]
      exact ResI.none _ _ (hs.below _) _
  · have hf : isMap a = false := by simpa using hm
    have e : rootOfMap a k = ([], 1) := by unfold rootOfMap; rw [if_neg hm]
    rw [hf]
    repeat' (first|refine X.O ?_|refine X.A ?_|refine X.B ?_|refine X.C ?_|refine X.D ?_|refine X.E ?_|refine X.F ?_|refine X.G ?_|refine X.H ?_|refine X.I ?_|fail)
    refine ⟨_, ret2 rfl (by rfl) (by rfl), ?_⟩
    rw [e]
    exact ResI.none _ _ (hs1.below _) _
theorem RootOfMap_any {la ha : Nat} {w : World} {va : Value} {a : List Int} (hA : IS la ha w va a) (k : Int) :
    Does Tryz.prog 42 [va, .int .i64 k] w fun r w' => ResI w r w' (rootOfMap a k) := by
  have hzA := hA.hi_le
  refine Does.enter Tryz.func42 Tryz.ntmps42 rfl (by rfl) ?_
  repeat' (first|refine X.O ?_|refine X.A ?_|refine X.B ?_|refine X.C ?_|refine X.D ?_|refine X.E ?_|refine X.F ?_|refine X.G ?_|refine X.H ?_|refine X.I ?_|fail)
  refine WL.call (IsMap_any hA) ?_
  rintro _ w1 ⟨rfl, hs1⟩
  by_cases hm : isMap a = true
  · rw [hm]
    repeat' (first|refine X.O ?_|refine X.A ?_|refine X.B ?_|refine X.C ?_|refine X.D ?_|refine X.E ?_|refine X.F ?_|refine X.G ?_|refine X.H ?_|refine X.I ?_|fail)
    refine WL.call (inRange_any k 1 100 _) ?_
    rintro _ w2 ⟨rfl, hs2⟩
    have hs := hs1.trans hs2
    by_cases hr : 1 ≤ k ∧ k ≤ 100
    · rw [decide_eq_true hr]
      have hnm : nm k = k := by unfold nm; omega
      have hl := isMap_38 hm
      have h0 : 0 < a.length := by omega
      have hg0 : a.getD 0 0 = a[0] := by rw [List.getD_eq_getElem?_getD, List.getElem?_eq_getElem h0]; rfl
      have hf : rootOfMap a k = if a[0] ≠ 1 then ([], 5) else (expL (scaledL (logL a) (powN k 10005)), 0) := by unfold rootOfMap; rw [if_pos hm, if_pos hr, hg0, hnm]
      repeat' (first|refine X.O ?_|refine X.A ?_|refine X.B ?_|refine X.C ?_|refine X.D ?_|refine X.E ?_|refine X.F ?_|refine X.G ?_|refine X.H ?_|refine X.I ?_|fail)
      refine WL.ixload (j := 0) (hA.still RI.stable hs) (List.getElem?_eq_getElem h0) ?_
      rintro p3 _ rfl
      repeat' (first|refine X.O ?_|refine X.A ?_|refine X.B ?_|refine X.C ?_|refine X.D ?_|refine X.E ?_|refine X.F ?_|refine X.G ?_|refine X.H ?_|refine X.I ?_|fail)
      first|refine X.J (fun _ => ?_) (fun _ => ?_)|refine X.L (fun _ => ?_) (fun _ => ?_)|refine X.M (fun _ => ?_) (fun _ => ?_)|refine X.R (fun _ => ?_) (fun _ => ?_)|fail
      · rename_i hne
        repeat' (first|refine X.O ?_|refine X.A ?_|refine X.B ?_|refine X.C ?_|refine X.D ?_|refine X.E ?_|refine X.F ?_|refine X.G ?_|refine X.H ?_|refine X.I ?_|fail)
        refine ⟨_, ret2 rfl (by rfl) (by rfl), ?_⟩
        rw [hf, if_pos (by simpa using hne)]
        exact ResI.none _ _ (hs.below _) _
      · rename_i hne
        repeat' (first|refine X.O ?_|refine X.A ?_|refine X.B ?_|refine X.C ?_|refine X.D ?_|refine X.E ?_|refine X.F ?_|refine X.G ?_|refine X.H ?_|refine X.I ?_|fail)
        refine WL.call (newForms_any _) ?_
        rintro v3 w3 ⟨hF, hbl3⟩
        have hbl03 : Below w.heap.size w w3 := (hs.below _).trans (Below.mono hbl3 (by have := hs.size; omega))
        have hz03 := hbl03.size
        have hF0 := hF
        obtain ⟨vt, vt2, rfl, _, _⟩ := hF0
        refine WL.var (vs := [vt, vt2]) (fun _ => by rfl) (by rfl) hF.slices ?_
        intro w4 hb4 hbl4 hz4
        have hbl04 : Below w.heap.size w w4 := hbl03.trans (Below.mono hbl4 (by omega))
        repeat' (first|refine X.O ?_|refine X.A ?_|refine X.B ?_|refine X.C ?_|refine X.D ?_|refine X.E ?_|refine X.F ?_|refine X.G ?_|refine X.H ?_|refine X.I ?_|fail)
        refine WP.drawn (fun w' => Below w4.heap.size w4 w') [(0, true), (1, true), (2, true), (4, true), (3, false), (5, false), (6, false), (7, false), (8, true), (9, true)] (by kernel_rfl) mixed ?_
        intro w5 hs5
        have hz5 := hs5.size
        have hS5 : Below w4.heap.size w4 w5 := hs5.below _
        refine WS.q rfl (q_loadS (by rfl) (fun w' h => hb4.below h (by omega)) (by rfl)) hS5 ?_
        refine WS.q rfl (q_loadS (by rfl) (fun w' h => hb4.below h (by omega)) (by rfl)) hS5 ?_
        repeat' (first|refine X.U rfl ?_|refine X.V rfl ?_|refine X.W rfl ?_|refine X.Y rfl ?_|refine X.Z rfl ?_|refine WS.nil ?_|fail)
        have hbl05 : Below w.heap.size w w5 := hbl04.trans (Below.mono hS5 (by omega))
        have hF5 := (hF.below hbl4 (Nat.le_refl _)).below hS5 (by omega)
        refine WS.call rfl (logMapL_any hF5 (hA.below RI.stable hbl05 hzA) hl (isMap_all hm)) ?_
        intro v6 w6 hN6
        have hz6 := hN6.2.size
        have hS6 := hS5.trans (Below.mono hN6.2 (by omega))
        refine ⟨hS6, ?_⟩
        refine WS.call rfl (inv_any k (by omega) (by omega) _) ?_
        rintro _ w7 ⟨rfl, hs7⟩
        have hz7 := hs7.size
        have hS7 := hS6.trans (hs7.below _)
        refine ⟨hS7, ?_⟩
        refine WS.call rfl (scaled_any (powN k 10005) ((hN6.1.still hs7).toIS (Nat.zero_le _)) (by rw [logL_len hl]; omega) (logSt_ok hl 6).2) ?_
        intro v8 w8 hN8
        have hz8 := hN8.2.size
        have hS8 := hS7.trans (Below.mono hN8.2 (by omega))
        refine ⟨hS8, ?_⟩
        have hbl08 : Below w.heap.size w w8 := hbl04.trans (Below.mono hS8 (by omega))
        refine WS.call rfl (expMapL_any ((hF.below hbl4 (Nat.le_refl _)).below hS8 (by omega)) (hN8.1.toIS (Nat.zero_le _)) (scaledL_38 (logL_len hl)) (scaledL_allN _ _)) ?_
        intro v9 w9 hN9
        have hS9 := hS8.trans (Below.mono hN9.2 (by omega))
        refine ⟨hS9, ?_⟩
        repeat' (first|refine X.U rfl ?_|refine X.V rfl ?_|refine X.W rfl ?_|refine X.Y rfl ?_|refine X.Z rfl ?_|refine WS.nil ?_|fail)
        repeat' (first|refine X.O ?_|refine X.A ?_|refine X.B ?_|refine X.C ?_|refine X.D ?_|refine X.E ?_|refine X.F ?_|refine X.G ?_|refine X.H ?_|refine X.I ?_|fail)
        refine ⟨_, ret2 rfl (by rfl) (by rfl), ?_⟩
        rw [hf, if_neg (by simpa using hne)]
        exact ⟨v9, rfl, hN9.trans hbl08⟩
    · rw [decide_eq_false hr]
      repeat' (first|refine X.O ?_|refine X.A ?_|refine X.B ?_|refine X.C ?_|refine X.D ?_|refine X.E ?_|refine X.F ?_|refine X.G ?_|refine X.H ?_|refine X.I ?_|fail)
      refine ⟨_, ret2 rfl (by rfl) (by rfl), ?_⟩
      have e : rootOfMap a k = ([], 2) := by unfold rootOfMap; rw [if_pos hm, if_neg hr]
      rw [e]
      exact ResI.none _ _ (hs.below _) _
  · have hf : isMap a = false := by simpa using hm
    have e : rootOfMap a k = ([], 1) := by unfold rootOfMap; rw [if_neg hm]
    rw [hf]
    repeat' (first|refine X.O ?_|refine X.A ?_|refine X.B ?_|refine X.C ?_|refine X.D ?_|refine X.E ?_|refine X.F ?_|refine X.G ?_|refine X.H ?_|refine X.I ?_|fail)
    refine ⟨_, ret2 rfl (by rfl) (by rfl), ?_⟩
    rw [e]
    exact ResI.none _ _ (hs1.below _) _
end Go.Proofs
