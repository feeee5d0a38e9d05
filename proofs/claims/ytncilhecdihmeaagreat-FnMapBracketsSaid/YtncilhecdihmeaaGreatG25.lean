/- Plain facts: polynomial identities of maps: convolutions, inverses, scaled maps. -/
import Derived.Test.YtncilhecdihmeaaGreatG3
namespace Go.Rk
open Go.Fw Go.Proofs
/-! Inverses and scaled maps in any ring of numbers. -/
section
variable {R S : Type} (o : Rg R)
def negRow (out a : List R) : List RowD → R
  | [] => o.num 0
  | r :: rs => match r.2.2 with
    | 0 => negRow out a rs
    | t + 1 => o.add (o.mul (o.num (-r.1)) (o.mul (prodR o out r.2.1) (a.getD (t + 1) (o.num 0)))) (negRow out a rs)
def invGo (a : List R) : List R → List (List RowD) → List R
  | out, [] => out
  | out, rs :: tab => invGo a (out ++ [negRow o out a rs]) tab
def invR (tab : List (List RowD)) (a : List R) : List R := invGo o a [o.num 1] tab
def powR (k : R) : Nat → R
  | 0 => o.num 1
  | n + 1 => o.mul (powR k n) k
def gradeR (ns : List Nat) (a : List R) (k : R) : List R := List.zipWith (fun n x => o.mul x (powR o k n)) ns a
def unitR : List R := o.num 1 :: List.replicate 37 (o.num 0)
def plusR (a b : List R) (k : Int) : List R := addR o k a b
def brR (tab : List (List RowD)) (b c : List R) : List R := addR o 10006 (actR o tab b c) (actR o tab c b)
end
section
variable {R S : Type} {o : Rg R} {o' : Rg S} {h : R → S} (H : Hom o o' h)
include H
theorem Hom.negRow (out a : List R) : ∀ rs, h (Go.Rk.negRow o out a rs) = Go.Rk.negRow o' (out.map h) (a.map h) rs
  | [] => H.num 0
  | (n, c, 0) :: rs => by
    show h (Go.Rk.negRow o out a rs) = Go.Rk.negRow o' (out.map h) (a.map h) rs
    exact Hom.negRow out a rs
  | (n, c, t + 1) :: rs => by
    show h (o.add (o.mul (o.num (-n)) (o.mul (prodR o out c) (a.getD (t + 1) (o.num 0)))) (Go.Rk.negRow o out a rs)) = o'.add (o'.mul (o'.num (-n)) (o'.mul (prodR o' (out.map h) c) ((a.map h).getD (t + 1) (o'.num 0)))) (Go.Rk.negRow o' (out.map h) (a.map h) rs)
    rw [H.add, H.mul, H.mul, H.num, H.prod, H.get, Hom.negRow out a rs]
theorem Hom.invGo (a : List R) : ∀ (tab : List (List RowD)) (out : List R), (Go.Rk.invGo o a out tab).map h = Go.Rk.invGo o' (a.map h) (out.map h) tab
  | [], _ => rfl
  | rs :: tab, out => by
    rw [Go.Rk.invGo, Hom.invGo a tab, Go.Rk.invGo, List.map_append, List.map_singleton, H.negRow]
theorem Hom.inv (tab : List (List RowD)) (a : List R) : (invR o tab a).map h = invR o' tab (a.map h) := by
  unfold invR; rw [H.invGo, List.map_singleton, H.num]
theorem Hom.pow (k : R) : ∀ n, h (powR o k n) = powR o' (h k) n
  | 0 => H.num 1
  | n + 1 => by rw [powR, powR, H.mul, Hom.pow k n]
theorem Hom.grade (ns : List Nat) (a : List R) (k : R) : (gradeR o ns a k).map h = gradeR o' ns (a.map h) (h k) := by
  unfold gradeR
  induction a generalizing ns with
  | nil => simp
  | cons x a ih => cases ns with
    | nil => simp
    | cons n ns => simp only [List.zipWith_cons_cons, List.map_cons, H.mul, H.pow, ih ns]
theorem Hom.unit : (unitR o).map h = unitR o' := by unfold unitR; rw [List.map_cons, List.map_replicate, H.num, H.num]
theorem Hom.br (tab : List (List RowD)) (b c : List R) : (brR o tab b c).map h = brR o' tab (b.map h) (c.map h) := by
  unfold brR; rw [H.addR, H.act, H.act]
end
/-! Maps of variables. -/
/-- 37 variables, from the n-th on. -/
def varsP (n : Nat) : List Poly := (List.range 37).map fun i => varP (n + i)
def mapP (x : Poly) (n : Nat) : List Poly := x :: varsP n
/-- What the variables are: the values of three maps behind the first one, and two numbers. -/
def val3 (a b c : List Int) (x y : Int) (i : Nat) : Int :=
  if i < 37 then a.getD (i + 1) 0 else if i < 74 then b.getD (i - 37 + 1) 0 else if i < 111 then c.getD (i - 74 + 1) 0 else if i = 111 then x else y
theorem mapP_map {v : Nat → Int} {p : Poly} {n : Nat} {a : List Int} (ha : isMap a = true) (h0 : hP v p = a.getD 0 0) (hv : ∀ i, i < 37 → v (n + i) = a.getD (i + 1) 0) : (mapP p n).map (hP v) = a := by
  have hl := isMap_38 ha
  apply List.ext_getElem
  · simp [mapP, varsP, hl]
  · intro i h1 h2
    cases i with
    | zero =>
      rw [List.getD_eq_getElem?_getD, List.getElem?_eq_getElem h2] at h0
      exact h0
    | succ i =>
      have h3 := allN_get (isMap_all ha) h2
      have h4 := hv i (by omega)
      rw [List.getD_eq_getElem?_getD, List.getElem?_eq_getElem h2] at h4
      simp only [mapP, varsP, List.map_cons, List.getElem_cons_succ, List.getElem_map, List.getElem_range, hP_var]
      rw [h4]
      show a[i + 1] % 10007 = a[i + 1]
      omega
section
variable {a b c : List Int} {x y : Int} {p : Poly}
theorem map3a (ha : isMap a = true) (h0 : hP (val3 a b c x y) p = a.getD 0 0) : (mapP p 0).map (hP (val3 a b c x y)) = a :=
  mapP_map ha h0 fun i hi => by unfold val3; rw [Nat.zero_add, if_pos hi]
theorem map3b (hb : isMap b = true) (h0 : hP (val3 a b c x y) p = b.getD 0 0) : (mapP p 37).map (hP (val3 a b c x y)) = b :=
  mapP_map hb h0 fun i hi => by unfold val3; rw [if_neg (by omega), if_pos (by omega), Nat.add_sub_cancel_left]
theorem map3c (hc : isMap c = true) (h0 : hP (val3 a b c x y) p = c.getD 0 0) : (mapP p 74).map (hP (val3 a b c x y)) = c :=
  mapP_map hc h0 fun i hi => by unfold val3; rw [if_neg (by omega), if_neg (by omega), if_pos (by omega), Nat.add_sub_cancel_left]
theorem val3_x : hP (val3 a b c x y) (varP 111) = x % 10007 := by rw [hP_var]; unfold val3; rfl
theorem val3_y : hP (val3 a b c x y) (varP 112) = y % 10007 := by rw [hP_var]; unfold val3; rfl
end
theorem hP_num (v : Nat → Int) (n : Int) : hP v (numP n) = n % 10007 := (homP v).num n
theorem hP_one (v : Nat → Int) : hP v (numP 1) = 1 := hP_num v 1
theorem hP_zero (v : Nat → Int) : hP v (numP 0) = 0 := hP_num v 0
theorem map_first {a : List Int} (h : isMap a = true) : a.getD 0 0 % 10007 = a.getD 0 0 := by
  have hl := isMap_38 h
  rw [List.getD_eq_getElem?_getD, List.getElem?_eq_getElem (by omega : 0 < a.length)]
  have := allN_get (isMap_all h) (by omega : 0 < a.length)
  show a[0] % 10007 = a[0]
  omega
/-! Convolutions. -/
def mA1 : List Poly := mapP (numP 1) 0
def mB1 : List Poly := mapP (numP 1) 37
def mC (p : Poly) : List Poly := mapP p 74
def placesK : List Nat := [0, 1, 2, 3, 3, 4, 4, 4, 4, 5, 5, 5, 5, 5, 5, 5, 5, 5, 6, 6, 6, 6, 6, 6, 6, 6, 6, 6, 6, 6, 6, 6, 6, 6, 6, 6, 6, 6]
def assocB : Bool := eqPolys (convR polyR cutLit mA1 (convR polyR cutLit mB1 (mC (varP 111)))) (convR polyR cutLit (convR polyR cutLit mA1 mB1) (mC (varP 111)))
theorem assocB_true : assocB = true := by kernel_rfl
def unitLB : Bool := eqPolys (convR polyR cutLit (unitR polyR) (mC (varP 111))) (mC (varP 111))
theorem unitLB_true : unitLB = true := by kernel_rfl
def unitRB : Bool := eqPolys (convR polyR cutLit mA1 (unitR polyR)) mA1
theorem unitRB_true : unitRB = true := by kernel_rfl
def invB : Bool := eqPolys (convR polyR cutLit (invR polyR cutLit mA1) mA1) (unitR polyR)
theorem invB_true : invB = true := by kernel_rfl
def scaleB : Bool := eqPolys (convR polyR cutLit (gradeR polyR placesK mA1 (varP 112)) (gradeR polyR placesK (mC (varP 111)) (varP 112))) (gradeR polyR placesK (convR polyR cutLit mA1 (mC (varP 111))) (varP 112))
theorem scaleB_true : scaleB = true := by kernel_rfl
end Go.Rk
