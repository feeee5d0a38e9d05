/- Plain facts: flows add up, roots have their powers, and how the logarithm of a product begins. -/
import Derived.Test.YtncilhecdihmeaaGreatG27
namespace Go.Rk
open Go.Fw Go.Proofs
def facK : List Int := [1, 1, 5004, 1668, 417, 8089, 3016]
def facKB : Bool := (List.range 7).all fun k => facInv k == facK.getD k 0
theorem facKB_true : facKB = true := by kernel_rfl
theorem facK_ok {k : Nat} (h : k < 7) : facInv k = facK.getD k 0 := beq_iff_eq.1 (List.all_eq_true.1 facKB_true k (List.mem_range.2 h))
section
variable {R S : Type} (o : Rg R)
def expStep (tab : List (List RowD)) (b : List R) (k : Int) (p : List R × List R) : List R × List R := (addR o k p.1 (actR o tab b p.2), actR o tab b p.2)
def expGo (tab : List (List RowD)) (b u : List R) : Nat → List R × List R
  | 0 => (u, u)
  | n + 1 => expStep o tab b (facK.getD (n + 1) 0) (expGo tab b u n)
def expR (tab : List (List RowD)) (u b : List R) : List R := (expGo o tab b u 6).1
end
section
variable {R S : Type} {o : Rg R} {o' : Rg S} {h : R → S} (H : Hom o o' h)
include H
theorem Hom.expGo (tab : List (List RowD)) (b u : List R) : ∀ n, (Go.Rk.expGo o tab b u n).1.map h = (Go.Rk.expGo o' tab (b.map h) (u.map h) n).1 ∧ (Go.Rk.expGo o tab b u n).2.map h = (Go.Rk.expGo o' tab (b.map h) (u.map h) n).2
  | 0 => ⟨rfl, rfl⟩
  | n + 1 => by
    have ih := Hom.expGo tab b u n
    constructor
    · show (Go.Rk.addR o _ _ (actR o tab b _)).map h = Go.Rk.addR o' _ _ (actR o' tab _ _)
      rw [H.addR, H.act, ih.1, ih.2]
    · show (actR o tab b _).map h = actR o' tab _ _
      rw [H.act, ih.2]
theorem Hom.exp (tab : List (List RowD)) (u b : List R) : (expR o tab u b).map h = expR o' tab (u.map h) (b.map h) := (H.expGo tab b u 6).1
end
theorem expGo_St (b : List Int) : ∀ n, n < 7 → expGo modR cutLit b unitM n = expSt b n
  | 0, _ => rfl
  | n + 1, h => by
    rw [expGo, expGo_St b n (by omega), expStep, expSt, plusL_addR, facK_ok h]
theorem expL_expR (b : List Int) : expL b = expR modR cutLit unitM b := by unfold expL expR; rw [expGo_St b 6 (by omega)]
/-! Flows. -/
def flowB : Bool := eqPolys (convR polyR cutLit (expR polyR cutLit (unitR polyR) (scaleR polyR (varP 111) mA0)) (expR polyR cutLit (unitR polyR) (scaleR polyR (varP 112) mA0))) (expR polyR cutLit (unitR polyR) (scaleR polyR (addP (varP 111) (varP 112)) mA0))
theorem flowB_true : flowB = true := by kernel_rfl
theorem scaleR_mod (b : List Int) (s : Int) : scaleR modR (s % 10007) b = scaledL b s := (scaledL_scaleR b s).symm
theorem flow_add {b : List Int} (hb : isMap b = true) (b0 : b.getD 0 0 = 0) (s t : Int) : convR modR cutLit (expL (scaledL b s)) (expL (scaledL b t)) = expL (scaledL b (s + t)) := by
  have h := congrArg (List.map (hP (val3 b [] [] s t))) (eqPolys_eq flowB_true)
  have H := homP (val3 b [] [] s t)
  have ha : mA0.map (hP (val3 b [] [] s t)) = b := map3a hb (inf_first b0)
  have hs : hP (val3 b [] [] s t) (addP (varP 111) (varP 112)) = (s + t) % 10007 := by
    rw [show addP (varP 111) (varP 112) = polyR.add (varP 111) (varP 112) from rfl, H.add, val3_x, val3_y]
    show (s % 10007 + t % 10007) % 10007 = _
    rw [← Int.add_emod]
  rw [H.conv, H.exp, H.exp, H.exp, H.scale, H.scale, H.scale, H.unit, ha, hs, val3_x, val3_y, scaleR_mod, scaleR_mod, scaleR_mod, unitR_M, ← expL_expR, ← expL_expR, ← expL_expR] at h
  exact h
/-! Roots. -/
theorem scaledL_zero {b : List Int} (hb : b.length = 38) : scaledL b 0 = zerosM := by
  refine List.ext_getElem (by rw [scaledL_38 hb, zerosM_len]) fun i h1 h2 => ?_
  have hz : zerosM[i]'h2 = 0 := List.getElem_replicate _
  rw [hz, scaledL_get h1 (by rw [zerosM_len] at h2; omega), show nm 0 = 0 from by kernel_rfl, Int.mul_zero]
  exact show nm 0 = 0 from by kernel_rfl
theorem exp_zero : expL zerosM = unitM := by rw [expL_expR]; kernel_rfl
theorem scaledL_one {b : List Int} (hb : isMap b = true) : scaledL b 1 = b := by
  refine List.ext_getElem (by rw [scaledL_length]) fun i h1 h2 => ?_
  have h3 := allN_get (isMap_all hb) h2
  rw [scaledL_get h1 h2, show nm 1 = 1 from by kernel_rfl, Int.mul_one]
  unfold nm; omega
theorem scaledL_nm (b : List Int) (s : Int) : scaledL b (nm s) = scaledL b s := by
  unfold scaledL
  congr 1
  funext x
  rw [show nm (nm s) = nm s from by unfold nm; omega]
theorem pow_flow {b : List Int} (hb : isMap b = true) (b0 : b.getD 0 0 = 0) (s : Int) : ∀ n : Nat, powMapL (expL (scaledL b s)) n = expL (scaledL b ((n : Nat) * s))
  | 0 => by
    rw [show ((0 : Nat) : Int) * s = 0 from Int.zero_mul s, scaledL_zero (isMap_38 hb), exp_zero]; rfl
  | n + 1 => by
    rw [powMapL, pow_flow hb b0 s n, flow_add hb b0, show ((n + 1 : Nat) : Int) * s = ((n : Nat) : Int) * s + s from by rw [Int.natCast_add, Int.add_mul]; simp]
def invKB : Bool := (List.range 100).all fun k => nm (((k + 1 : Nat) : Int) * powN (nm ((k + 1 : Nat) : Int)) 10005) == 1
theorem invKB_true : invKB = true := by kernel_rfl
theorem inv_k {k : Int} (h1 : 1 ≤ k) (h2 : k ≤ 100) : nm (k * powN (nm k) 10005) = 1 := by
  have h := beq_iff_eq.1 (List.all_eq_true.1 invKB_true (k.toNat - 1) (List.mem_range.2 (by omega)))
  rwa [show ((k.toNat - 1 + 1 : Nat) : Int) = k from by omega] at h
/-- A root has its power. -/
theorem root_pow {a : List Int} {k : Int} (ha : isMap a = true) (a0 : a.getD 0 0 = 1) (h1 : 1 ≤ k) (h2 : k ≤ 100) : powMapL (expL (scaledL (logL a) (powN (nm k) 10005))) k.toNat = a := by
  have hl := isMap_38 ha
  rw [pow_flow (logL_map hl) (logL_first hl), ← scaledL_nm, show ((k.toNat : Nat) : Int) = k from by omega, inv_k h1 h2, scaledL_one (logL_map hl), exp_log ha a0]
end Go.Rk
