/- Convolve, the program's. -/
import Derived.Test.YtncilhecdihmeaaGreatM1
import Derived.Test.YtncilhecdihmeaaGreatG18
import Derived.Test.YtncilhecdihmeaaGreatG25
set_option maxRecDepth 8000
namespace Go.Rk
open Go.Fw Go.Proofs
def convMap (a b : List Int) : List Int × Int := if chTwo a b = 0 then (convR modR cutLit a b, 0) else ([], chTwo a b)
theorem chTwo_zero {a b : List Int} (h : chTwo a b = 0) : Chr a ∧ isMap b = true := by
  unfold chTwo at h; split at h
  · rename_i h1; split at h
    · omega
    · exact ⟨⟨h1.1, by omega⟩, h1.2⟩
  · omega
theorem Chr.two {a b : List Int} (h : Chr a) (hb : isMap b = true) : chTwo a b = 0 := by unfold chTwo; rw [if_pos ⟨h.map, hb⟩, if_neg (by rw [h.first]; simp)]
theorem conv_ok {a b : List Int} (h : Chr a) (hb : isMap b = true) : convMap a b = (convR modR cutLit a b, 0) := by unfold convMap; rw [if_pos (h.two hb)]
theorem conv_bad {a b : List Int} {k : Int} (h : chTwo a b = k) (hk : k ≠ 0) : convMap a b = ([], k) := by unfold convMap; rw [h, if_neg hk]
end Go.Rk
namespace Go.Proofs
open Go Go.Fw Go.RowKit Go.Rk
theorem Convolve_any {la ha lb hb : Nat} {w : World} {va vb : Value} {a b : List Int} (hA : IS la ha w va a) (hB : IS lb hb w vb b) :
    Does Tryz.prog 46 [va, vb] w fun r w' => ResI w r w' (convMap a b) := by
  have hzA := hA.hi_le
  have hzB := hB.hi_le
  refine Does.enter Tryz.func46 Tryz.ntmps46 rfl (by rfl) ?_
  repeat' (first|refine X.O ?_|refine X.A ?_|refine X.B ?_|refine X.C ?_|refine X.D ?_|refine X.E ?_|refine X.F ?_|refine X.G ?_|refine X.H ?_|refine X.I ?_|fail)
  refine WL.call (IsMap_any hA) ?_
  rintro _ w1 ⟨rfl, hs1⟩
  by_cases h1 : isMap a = true
  case neg =>
    have e : convMap a b = ([], 1) := conv_bad (by unfold chTwo; rw [if_neg (fun h => h1 h.1)]) (by decide)
    rw [Bool.not_eq_true] at h1
    rw [h1, e]
    repeat' (first|refine X.O ?_|refine X.A ?_|refine X.B ?_|refine X.C ?_|refine X.D ?_|refine X.E ?_|refine X.F ?_|refine X.G ?_|refine X.H ?_|refine X.I ?_|fail)
    refine ⟨_, ret2 rfl (by rfl) (by rfl), ?_⟩
    exact ResI.none _ _ (hs1.below _) _
  rw [h1]
  repeat' (first|refine X.O ?_|refine X.A ?_|refine X.B ?_|refine X.C ?_|refine X.D ?_|refine X.E ?_|refine X.F ?_|refine X.G ?_|refine X.H ?_|refine X.I ?_|fail)
  refine WL.call (IsMap_any (hB.still RI.stable hs1)) ?_
  rintro _ w2 ⟨rfl, hs2⟩
  have hs12 := hs1.trans hs2
  have hz2 := hs12.size
  by_cases h2 : isMap b = true
  case neg =>
    have e : convMap a b = ([], 1) := conv_bad (by unfold chTwo; rw [if_neg (fun h => h2 h.2)]) (by decide)
    rw [Bool.not_eq_true] at h2
    rw [h2, e]
    repeat' (first|refine X.O ?_|refine X.A ?_|refine X.B ?_|refine X.C ?_|refine X.D ?_|refine X.E ?_|refine X.F ?_|refine X.G ?_|refine X.H ?_|refine X.I ?_|fail)
    refine ⟨_, ret2 rfl (by rfl) (by rfl), ?_⟩
    exact ResI.none _ _ (hs12.below _) _
  rw [h2]
  have hl := isMap_38 h1
  repeat' (first|refine X.O ?_|refine X.A ?_|refine X.B ?_|refine X.C ?_|refine X.D ?_|refine X.E ?_|refine X.F ?_|refine X.G ?_|refine X.H ?_|refine X.I ?_|fail)
  refine WL.ixload (j := 0) (hA.still RI.stable hs12) (List.getElem?_eq_getElem (by omega)) ?_
  rintro p _ rfl
  have hg := getD_get (a := a) (by omega)
  repeat' (first|refine X.O ?_|refine X.A ?_|refine X.B ?_|refine X.C ?_|refine X.D ?_|refine X.E ?_|refine X.F ?_|refine X.G ?_|refine X.H ?_|refine X.I ?_|fail)
  first|refine X.J (fun _ => ?_) (fun _ => ?_)|refine X.L (fun _ => ?_) (fun _ => ?_)|refine X.M (fun _ => ?_) (fun _ => ?_)|refine X.R (fun _ => ?_) (fun _ => ?_)|fail
  · rename_i hne
    have e : convMap a b = ([], 5) := conv_bad (by unfold chTwo; rw [if_pos ⟨h1, h2⟩, hg, if_pos hne]) (by decide)
    rw [e]
    repeat' (first|refine X.O ?_|refine X.A ?_|refine X.B ?_|refine X.C ?_|refine X.D ?_|refine X.E ?_|refine X.F ?_|refine X.G ?_|refine X.H ?_|refine X.I ?_|fail)
    refine ⟨_, ret2 rfl (by rfl) (by rfl), ?_⟩
    exact ResI.none _ _ (hs12.below _) _
  · rename_i hne
    have hch : Chr a := ⟨h1, by rw [hg]; exact Decidable.not_not.1 hne⟩
    rw [conv_ok hch h2]
    repeat' (first|refine X.O ?_|refine X.A ?_|refine X.B ?_|refine X.C ?_|refine X.D ?_|refine X.E ?_|refine X.F ?_|refine X.G ?_|refine X.H ?_|refine X.I ?_|fail)
    refine WL.call (newForms_any _) ?_
    rintro v3 w3 ⟨hF, hbl3⟩
    have hbl03 : Below w.heap.size w w3 := (hs12.below _).trans (Below.mono hbl3 (by omega))
    repeat' (first|refine X.O ?_|refine X.A ?_|refine X.B ?_|refine X.C ?_|refine X.D ?_|refine X.E ?_|refine X.F ?_|refine X.G ?_|refine X.H ?_|refine X.I ?_|fail)
    refine WL.call (convolve_any hF (hA.below RI.stable hbl03 hzA) (hB.below RI.stable hbl03 hzB) hl (isMap_38 h2) (isMap_all h1) (isMap_all h2)) ?_
    intro v4 w4 hN4
    repeat' (first|refine X.O ?_|refine X.A ?_|refine X.B ?_|refine X.C ?_|refine X.D ?_|refine X.E ?_|refine X.F ?_|refine X.G ?_|refine X.H ?_|refine X.I ?_|fail)
    refine ⟨_, ret2 rfl (by rfl) (by rfl), ?_⟩
    exact ⟨v4, rfl, hN4.trans hbl03⟩
theorem conv9_any {lb hb lx hx : Nat} {w : World} {vb vx : Value} {b x y : List Int} (hB : IS lb hb w vb b) (hX : IS lx hx w vx x) (e : convMap b x = (y, 0)) :
    Does Tryz.prog 57 [vb, vx] w fun r w' => NewI w r w' y := by
  refine Does.enter Tryz.func57 Tryz.ntmps57 rfl (by rfl) ?_
  repeat' (first|refine X.O ?_|refine X.A ?_|refine X.B ?_|refine X.C ?_|refine X.D ?_|refine X.E ?_|refine X.F ?_|refine X.G ?_|refine X.H ?_|refine X.I ?_|fail)
  refine WL.call (Convolve_any hB hX) ?_
  rintro _ w1 ⟨v1, rfl, hN⟩
  rw [e] at hN ⊢
  repeat' (first|refine X.O ?_|refine X.A ?_|refine X.B ?_|refine X.C ?_|refine X.D ?_|refine X.E ?_|refine X.F ?_|refine X.G ?_|refine X.H ?_|refine X.I ?_|fail)
  try (refine WP.condD (by rfl) (fun hbad => False.elim (by first | exact hbad rfl | omega)) (fun _ => ?_))
  repeat' (first|refine X.O ?_|refine X.A ?_|refine X.B ?_|refine X.C ?_|refine X.D ?_|refine X.E ?_|refine X.F ?_|refine X.G ?_|refine X.H ?_|refine X.I ?_|fail)
  refine ⟨_, ret1 rfl (by rfl), ?_⟩
  exact hN
theorem conv9_rd {w : World} {vb vx : Value} {b x : List Int} (hB : RD w vb b) (hX : RD w vx x) (hb : Chr b) (hx : isMap x = true) : Does Tryz.prog 57 [vb, vx] w fun r w' => NewI w r w' (convR modR cutLit b x) := by
  obtain ⟨_, _, hB⟩ := hB; obtain ⟨_, _, hX⟩ := hX; exact conv9_any hB hX (conv_ok hb hx)
end Go.Proofs
