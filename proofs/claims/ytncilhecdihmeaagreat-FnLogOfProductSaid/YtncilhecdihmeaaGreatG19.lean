/- The logarithm of a product, both sides. -/
import Derived.Test.YtncilhecdihmeaaGreatG18
import Derived.Test.YtncilhecdihmeaaGreatG13
set_option maxRecDepth 8000
namespace Go.Proofs
open Go Go.Fw Go.RowKit Go.Rk
theorem sLogOfProduct_any {lb hb lx hx : Nat} {w : World} {vb vx : Value} {b x : List Int} (hB : IS lb hb w vb b) (hX : IS lx hx w vx x) :
    Does Tryz.prog 43 [vb, vx] w fun r w' => ResI w r w' (logOfProduct b x) := by
  have hzB := hB.hi_le
  have hzX := hX.hi_le
  refine Does.enter Tryz.func43 Tryz.ntmps43 rfl (by rfl) ?_
  repeat' (first|refine X.O ?_|refine X.A ?_|refine X.B ?_|refine X.C ?_|refine X.D ?_|refine X.E ?_|refine X.F ?_|refine X.G ?_|refine X.H ?_|refine X.I ?_|fail)
  refine WL.call (l08Code_any hB hX) ?_
  rintro _ w1 ⟨rfl, hs⟩
  by_cases hc : infTwo b x = 0
  · obtain ⟨⟨hmb, hmx⟩, _, _⟩ := infTwo_zero hc
    have e : logOfProduct b x = (logL (convR modR cutLit (expL b) (expL x)), 0) := by unfold logOfProduct; rw [if_pos hc]
    rw [hc]
    repeat' (first|refine X.O ?_|refine X.A ?_|refine X.B ?_|refine X.C ?_|refine X.D ?_|refine X.E ?_|refine X.F ?_|refine X.G ?_|refine X.H ?_|refine X.I ?_|fail)
    refine WL.call (l07Cuts_any _) ?_
    rintro v3 w3 ⟨hC, hbl3⟩
    have hbl03 : Below w.heap.size w w3 := (hs.below _).trans (Below.mono hbl3 (by have := hs.size; omega))
    have hz03 := hbl03.size
    repeat' (first|refine X.O ?_|refine X.A ?_|refine X.B ?_|refine X.C ?_|refine X.D ?_|refine X.E ?_|refine X.F ?_|refine X.G ?_|refine X.H ?_|refine X.I ?_|fail)
    refine WL.call (l08Exp_any hC (hB.below RI.stable hbl03 hzB) (isMap_38 hmb) (isMap_all hmb)) ?_
    intro v4 w4 hN4
    have hz4 := hN4.2.size
    have hbl04 : Below w.heap.size w w4 := hbl03.trans (Below.mono hN4.2 (by omega))
    have hC4 := hC.below RC.stable hN4.2 (Nat.le_refl _)
    repeat' (first|refine X.O ?_|refine X.A ?_|refine X.B ?_|refine X.C ?_|refine X.D ?_|refine X.E ?_|refine X.F ?_|refine X.G ?_|refine X.H ?_|refine X.I ?_|fail)
    refine WL.call (l08Exp_any hC4 (hX.below RI.stable hbl04 hzX) (isMap_38 hmx) (isMap_all hmx)) ?_
    intro v5 w5 hN5
    have hz5 := hN5.2.size
    have hbl05 : Below w.heap.size w w5 := hbl04.trans (Below.mono hN5.2 (by omega))
    have hC5 := hC4.below RC.stable hN5.2 (by omega)
    refine WL.call (l07Conv_any hC5 ((hN4.1.below hN5.2 (Nat.le_refl _)).toIS (Nat.zero_le _)) (hN5.1.toIS (Nat.zero_le _)) (expL_len _) (expL_len _) (expL_all _) (expL_all _) (expL_zero _ _)) ?_
    intro v6 w6 hN6
    have hz6 := hN6.2.size
    have hbl06 : Below w.heap.size w w6 := hbl05.trans (Below.mono hN6.2 (by omega))
    refine WL.call (l08Log_any (hC5.below RC.stable hN6.2 (by omega)) (hN6.1.toIS (Nat.zero_le _)) (convR_len _ _) (convR_all (expL_all _) (by rw [expL_len]; omega))) ?_
    intro v7 w7 hN7
    repeat' (first|refine X.O ?_|refine X.A ?_|refine X.B ?_|refine X.C ?_|refine X.D ?_|refine X.E ?_|refine X.F ?_|refine X.G ?_|refine X.H ?_|refine X.I ?_|fail)
    refine ⟨_, ret2 rfl (by rfl) (by rfl), ?_⟩
    rw [e]
    exact ⟨v7, rfl, hN7.trans hbl06⟩
  · have e : logOfProduct b x = ([], infTwo b x) := by unfold logOfProduct; rw [if_neg hc]
    repeat' (first|refine X.O ?_|refine X.A ?_|refine X.B ?_|refine X.C ?_|refine X.D ?_|refine X.E ?_|refine X.F ?_|refine X.G ?_|refine X.H ?_|refine X.I ?_|fail)
    first|refine X.J (fun _ => ?_) (fun _ => ?_)|refine X.L (fun _ => ?_) (fun _ => ?_)|refine X.M (fun _ => ?_) (fun _ => ?_)|refine X.R (fun _ => ?_) (fun _ => ?_)|fail
    · repeat' (first|refine X.O ?_|refine X.A ?_|refine X.B ?_|refine X.C ?_|refine X.D ?_|refine X.E ?_|refine X.F ?_|refine X.G ?_|refine X.H ?_|refine X.I ?_|fail)
      refine ⟨_, ret2 rfl (by rfl) (by rfl), ?_⟩
      rw [e]
      exact ResI.none _ _ (hs.below _) _
    · rename_i hbad
      exact absurd (by simpa using hbad) hc
theorem LogOfProduct_any {lb hb lx hx : Nat} {w : World} {vb vx : Value} {b x : List Int} (hB : IS lb hb w vb b) (hX : IS lx hx w vx x) :
    Does Tryz.prog 44 [vb, vx] w fun r w' => ResI w r w' (logOfProduct b x) := by
  have hzB := hB.hi_le
  have hzX := hX.hi_le
  refine Does.enter Tryz.func44 Tryz.ntmps44 rfl (by rfl) ?_
  repeat' (first|refine X.O ?_|refine X.A ?_|refine X.B ?_|refine X.C ?_|refine X.D ?_|refine X.E ?_|refine X.F ?_|refine X.G ?_|refine X.H ?_|refine X.I ?_|fail)
  refine WL.call (checkBoth_any hB hX) ?_
  rintro _ w1 ⟨rfl, hbl1⟩
  have hz1 := hbl1.size
  by_cases hc : infTwo b x = 0
  · obtain ⟨⟨hmb, hmx⟩, _, _⟩ := infTwo_zero hc
    have e : logOfProduct b x = (logL (convR modR cutLit (expL b) (expL x)), 0) := by unfold logOfProduct; rw [if_pos hc]
    rw [hc]
    repeat' (first|refine X.O ?_|refine X.A ?_|refine X.B ?_|refine X.C ?_|refine X.D ?_|refine X.E ?_|refine X.F ?_|refine X.G ?_|refine X.H ?_|refine X.I ?_|fail)
    refine WL.call (newForms_any _) ?_
    rintro v3 w3 ⟨hF, hbl3⟩
    have hbl03 : Below w.heap.size w w3 := hbl1.trans (Below.mono hbl3 (by omega))
    have hz03 := hbl03.size
    have hF0 := hF
    obtain ⟨vt, vt2, rfl, _, _⟩ := hF0
    refine WL.var (vs := [vt, vt2]) (fun _ => by rfl) (by rfl) hF.slices ?_
    intro w4 hb4 hbl4 hz4
    have hbl04 : Below w.heap.size w w4 := hbl03.trans (Below.mono hbl4 (by omega))
    have hF4 := hF.below hbl4 (Nat.le_refl _)
    repeat' (first|refine X.O ?_|refine X.A ?_|refine X.B ?_|refine X.C ?_|refine X.D ?_|refine X.E ?_|refine X.F ?_|refine X.G ?_|refine X.H ?_|refine X.I ?_|fail)
    refine WP.drawn (fun w' => Below w4.heap.size w4 w') [(0, true), (1, true), (2, true), (3, true), (5, true), (6, true), (4, false), (7, false), (8, false), (9, false), (10, true), (11, true)] (by kernel_rfl) mixed ?_
    intro w5 hs5
    have hz5 := hs5.size
    have hS5 : Below w4.heap.size w4 w5 := hs5.below _
    refine WS.q rfl (q_loadS (by rfl) (fun w' h => hb4.below h (by omega)) (by rfl)) hS5 ?_
    refine WS.q rfl (q_loadS (by rfl) (fun w' h => hb4.below h (by omega)) (by rfl)) hS5 ?_
    refine WS.q rfl (q_loadS (by rfl) (fun w' h => hb4.below h (by omega)) (by rfl)) hS5 ?_
    repeat' (first|refine X.U rfl ?_|refine X.V rfl ?_|refine X.W rfl ?_|refine X.Y rfl ?_|refine X.Z rfl ?_|refine WS.nil ?_|fail)
    refine WS.q rfl (q_loadS (by rfl) (fun w' h => hb4.below h (by omega)) (by rfl)) hS5 ?_
    repeat' (first|refine X.U rfl ?_|refine X.V rfl ?_|refine X.W rfl ?_|refine X.Y rfl ?_|refine X.Z rfl ?_|refine WS.nil ?_|fail)
    have hbl05 : Below w.heap.size w w5 := hbl04.trans (Below.mono hS5 (by omega))
    refine WS.call rfl (expMapL_any (hF4.below hS5 (by omega)) (hB.below RI.stable hbl05 hzB) (isMap_38 hmb) (isMap_all hmb)) ?_
    intro v6 w6 hN6
    have hz6 := hN6.2.size
    have hS6 := hS5.trans (Below.mono hN6.2 (by omega))
    refine ⟨hS6, ?_⟩
    have hbl06 : Below w.heap.size w w6 := hbl04.trans (Below.mono hS6 (by omega))
    refine WS.call rfl (expMapL_any (hF4.below hS6 (by omega)) (hX.below RI.stable hbl06 hzX) (isMap_38 hmx) (isMap_all hmx)) ?_
    intro v7 w7 hN7
    have hz7 := hN7.2.size
    have hS7 := hS6.trans (Below.mono hN7.2 (by omega))
    refine ⟨hS7, ?_⟩
    refine WS.call rfl (convolve_any (hF4.below hS7 (by omega)) ((hN6.1.below hN7.2 (Nat.le_refl _)).toIS (Nat.zero_le _)) (hN7.1.toIS (Nat.zero_le _)) (expL_len _) (expL_len _) (expL_all _) (expL_all _)) ?_
    intro v8 w8 hN8
    have hz8 := hN8.2.size
    have hS8 := hS7.trans (Below.mono hN8.2 (by omega))
    refine ⟨hS8, ?_⟩
    have hbl08 : Below w.heap.size w w8 := hbl04.trans (Below.mono hS8 (by omega))
    refine WS.call rfl (logMapL_any (hF4.below hS8 (by omega)) (hN8.1.toIS (Nat.zero_le _)) (convR_len _ _) (convR_all (expL_all _) (by rw [expL_len]; omega))) ?_
    intro v9 w9 hN9
    have hS9 := hS8.trans (Below.mono hN9.2 (by omega))
    refine ⟨hS9, ?_⟩
    repeat' (first|refine X.U rfl ?_|refine X.V rfl ?_|refine X.W rfl ?_|refine X.Y rfl ?_|refine X.Z rfl ?_|refine WS.nil ?_|fail)
    repeat' (first|refine X.O ?_|refine X.A ?_|refine X.B ?_|refine X.C ?_|refine X.D ?_|refine X.E ?_|refine X.F ?_|refine X.G ?_|refine X.H ?_|refine X.I ?_|fail)
    refine ⟨_, ret2 rfl (by rfl) (by rfl), ?_⟩
    rw [e]
    exact ⟨v9, rfl, hN9.trans hbl08⟩
  · have e : logOfProduct b x = ([], infTwo b x) := by unfold logOfProduct; rw [if_neg hc]
    repeat' (first|refine X.O ?_|refine X.A ?_|refine X.B ?_|refine X.C ?_|refine X.D ?_|refine X.E ?_|refine X.F ?_|refine X.G ?_|refine X.H ?_|refine X.I ?_|fail)
    first|refine X.J (fun _ => ?_) (fun _ => ?_)|refine X.L (fun _ => ?_) (fun _ => ?_)|refine X.M (fun _ => ?_) (fun _ => ?_)|refine X.R (fun _ => ?_) (fun _ => ?_)|fail
    · repeat' (first|refine X.O ?_|refine X.A ?_|refine X.B ?_|refine X.C ?_|refine X.D ?_|refine X.E ?_|refine X.F ?_|refine X.G ?_|refine X.H ?_|refine X.I ?_|fail)
      refine ⟨_, ret2 rfl (by rfl) (by rfl), ?_⟩
      rw [e]
      exact ResI.none _ _ hbl1 _
    · rename_i hbad
      exact absurd (by simpa using hbad) hc
end Go.Proofs
