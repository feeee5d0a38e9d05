/- Plain facts: brackets and actions of infinitesimal maps. -/
import Derived.Test.YtncilhecdihmeaaGreatG25
namespace Go.Rk
open Go.Fw Go.Proofs
def mA0 : List Poly := mapP (numP 0) 0
def mB0 : List Poly := mapP (numP 0) 37
def mC0 : List Poly := mapP (numP 0) 74
section
variable {R : Type} (o : Rg R)
/-- a + k b, as the laws compute it. -/
def p9 (a b : List R) (k : Int) : List R := addR o 1 a (scaleR o (o.num k) b)
def nullR : List R := List.replicate 38 (o.num 0)
end
section
variable {R S : Type} {o : Rg R} {o' : Rg S} {h : R → S} (H : Hom o o' h)
include H
theorem Hom.p9 (a b : List R) (k : Int) : (Go.Rk.p9 o a b k).map h = Go.Rk.p9 o' (a.map h) (b.map h) k := by
  unfold Go.Rk.p9; rw [H.addR, H.scale, H.num]
theorem Hom.null : (nullR o).map h = nullR o' := by unfold nullR; rw [List.map_replicate, H.num]
end
def antiB : Bool := eqPolys (p9 polyR (brR polyR cutLit mA0 mB0) (brR polyR cutLit mB0 mA0) 1) (nullR polyR)
theorem antiB_true : antiB = true := by kernel_rfl
def jacobiG {R : Type} (o : Rg R) (b c e : List R) : List R :=
  p9 o (p9 o (brR o cutLit b (brR o cutLit c e)) (brR o cutLit c (brR o cutLit e b)) 1) (brR o cutLit e (brR o cutLit b c)) 1
def jacobiB : Bool := eqPolys (jacobiG polyR mA0 mB0 mC0) (nullR polyR)
theorem jacobiB_true : jacobiB = true := by kernel_rfl
def preG {R : Type} (o : Rg R) (b c e : List R) : List R := p9 o (actR o cutLit b (actR o cutLit c e)) (actR o cutLit (actR o cutLit b c) e) 10006
def preB : Bool := eqPolys (preG polyR mA0 mB0 mC0) (preG polyR mB0 mA0 mC0)
theorem preB_true : preB = true := by kernel_rfl
/-! The same over numbers. -/
theorem plusL_addR (a b : List Int) (k : Int) : plusL a b k = addR modR k a b := by
  unfold plusL addR
  congr 1
  funext x y
  show nm (x + nm k * y) = (x + k % 10007 * y % 10007) % 10007
  unfold nm
  rw [Int.add_emod_emod]
theorem scaledL_scaleR (a : List Int) (k : Int) : scaledL a k = scaleR modR (modR.num k) a := by
  unfold scaledL scaleR
  congr 1
  funext x
  show nm (x * nm k) = x * (k % 10007) % 10007
  unfold nm; rfl
theorem bracketL_brR (b c : List Int) : bracketL b c = brR modR cutLit b c := by
  unfold bracketL brR; rw [plusL_neg, plusL_addR]
theorem p9_plusL (a b : List Int) (k : Int) : p9 modR a b k = plusL a (scaledL b k) 1 := by
  unfold p9; rw [plusL_addR, scaledL_scaleR]
theorem nullR_zeros : nullR modR = zerosM := rfl
section
variable {b c e : List Int}
theorem inf_first {a b c : List Int} {x y : Int} {z : List Int} (h : z.getD 0 0 = 0) : hP (val3 a b c x y) (numP 0) = z.getD 0 0 := by rw [h]; exact hP_zero _
theorem hA0 (hb : isMap b = true) (b0 : b.getD 0 0 = 0) : mA0.map (hP (val3 b c e 0 0)) = b := map3a hb (inf_first b0)
theorem hB0 (hc : isMap c = true) (c0 : c.getD 0 0 = 0) : mB0.map (hP (val3 b c e 0 0)) = c := map3b hc (inf_first c0)
theorem hC0 (he : isMap e = true) (e0 : e.getD 0 0 = 0) : mC0.map (hP (val3 b c e 0 0)) = e := map3c he (inf_first e0)
/-- Brackets change their sign with the order. -/
theorem anti (hb : isMap b = true) (b0 : b.getD 0 0 = 0) (hc : isMap c = true) (c0 : c.getD 0 0 = 0) : plusL (bracketL b c) (scaledL (bracketL c b) 1) 1 = zerosM := by
  have h := congrArg (List.map (hP (val3 b c [] 0 0))) (eqPolys_eq antiB_true)
  have H := homP (val3 b c [] 0 0)
  rw [H.p9, H.br, H.br, H.null, hA0 hb b0, hB0 hc c0, ← bracketL_brR, ← bracketL_brR, p9_plusL, nullR_zeros] at h
  exact h
/-- The identity of Jacobi. -/
theorem jacobi (hb : isMap b = true) (b0 : b.getD 0 0 = 0) (hc : isMap c = true) (c0 : c.getD 0 0 = 0) (he : isMap e = true) (e0 : e.getD 0 0 = 0) :
    plusL (plusL (bracketL b (bracketL c e)) (scaledL (bracketL c (bracketL e b)) 1) 1) (scaledL (bracketL e (bracketL b c)) 1) 1 = zerosM := by
  have h := congrArg (List.map (hP (val3 b c e 0 0))) (eqPolys_eq jacobiB_true)
  have H := homP (val3 b c e 0 0)
  unfold jacobiG at h
  rw [H.p9, H.p9, H.br, H.br, H.br, H.br, H.br, H.br, H.null, hA0 hb b0, hB0 hc c0, hC0 he e0] at h
  simp only [← bracketL_brR, p9_plusL] at h
  exact h
/-- The identity of grafting. -/
theorem preLie (hb : isMap b = true) (b0 : b.getD 0 0 = 0) (hc : isMap c = true) (c0 : c.getD 0 0 = 0) (he : isMap e = true) (e0 : e.getD 0 0 = 0) :
    plusL (actR modR cutLit b (actR modR cutLit c e)) (scaledL (actR modR cutLit (actR modR cutLit b c) e) 10006) 1 =
      plusL (actR modR cutLit c (actR modR cutLit b e)) (scaledL (actR modR cutLit (actR modR cutLit c b) e) 10006) 1 := by
  have h := congrArg (List.map (hP (val3 b c e 0 0))) (eqPolys_eq preB_true)
  have H := homP (val3 b c e 0 0)
  unfold preG at h
  simp only [H.p9, H.act] at h
  rw [hA0 hb b0, hB0 hc c0, hC0 he e0] at h
  simp only [p9_plusL] at h
  exact h
end
/-- A map without a first value. -/
structure Inf (b : List Int) : Prop where
  map : isMap b = true
  first : b.getD 0 0 = 0
theorem getD_of {a : List Int} {i : Nat} (h : i < a.length) : a.getD i 0 = a[i] := by rw [List.getD_eq_getElem?_getD, List.getElem?_eq_getElem h]; rfl
theorem plusL_at {x y : List Int} {k : Int} {i : Nat} (hx : x.length = 38) (hy : y.length = 38) (hi : i < 38) : (plusL x y k).getD i 0 = nm (x.getD i 0 + nm k * y.getD i 0) := by
  rw [getD_of (by rw [plusL_38 hx hy]; exact hi), plusL_get (by rw [plusL_38 hx hy]; exact hi) (by omega) (by omega), getD_of (by omega), getD_of (by omega)]
theorem plusL_map {a b : List Int} {k : Int} (ha : a.length = 38) (hb : b.length = 38) : isMap (plusL a b k) = true := mapOf (plusL_38 ha hb) (plusL_all _ _ _)
theorem bracketL_38 (b c : List Int) : (bracketL b c).length = 38 := plusL_38 (actR_len _ _) (actR_len _ _)
theorem bracketL_map (b c : List Int) : isMap (bracketL b c) = true := mapOf (bracketL_38 b c) (plusL_all _ _ _)
theorem actR_first (b x : List Int) : (actR modR cutLit b x).getD 0 0 = 0 := rfl
theorem bracketL_first (b c : List Int) : (bracketL b c).getD 0 0 = 0 := by
  unfold bracketL
  rw [plusL_at (actR_len _ _) (actR_len _ _) (by omega), actR_first, actR_first, Int.mul_zero]
  exact show nm (0 + 0) = 0 from by kernel_rfl
theorem Inf.len {b : List Int} (h : Inf b) : b.length = 38 := isMap_38 h.map
theorem Inf.br (b c : List Int) : Inf (bracketL b c) := ⟨bracketL_map b c, bracketL_first b c⟩
theorem Inf.act (b c : List Int) : Inf (actR modR cutLit b c) := ⟨mapOf (actR_len _ _) (actR_all _ _), rfl⟩
theorem Inf.two {b c : List Int} (hb : Inf b) (hc : Inf c) : infTwo b c = 0 := by
  unfold infTwo
  rw [if_pos ⟨hb.map, hc.map⟩, if_neg (by rw [hb.first, hc.first]; simp)]
theorem bracket_ok {b c : List Int} (hb : Inf b) (hc : Inf c) : bracketOf b c = (bracketL b c, 0) := by unfold bracketOf; rw [if_pos (hb.two hc)]
theorem act_ok {b c : List Int} (hb : Inf b) (hc : isMap c = true) : actOn b c = (actR modR cutLit b c, 0) := by
  have h : infCode [c, b] b = 0 := by
    unfold infCode
    rw [if_pos (by simp [hc, hb.map]), if_neg (by rw [hb.first]; simp)]
  unfold actOn; rw [if_pos h]
theorem inf_of {b c : List Int} (h : infTwo b c = 0) : Inf b ∧ Inf c := by
  obtain ⟨⟨h1, h2⟩, h3, h4⟩ := infTwo_zero h
  exact ⟨⟨h1, h3⟩, ⟨h2, h4⟩⟩
theorem scaledL_length' {b : List Int} {k : Int} (h : b.length = 38) : (scaledL b k).length = 38 := by rw [scaledL_length, h]
end Go.Rk
