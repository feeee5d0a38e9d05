/- Sums and products by tables of cuts, in any ring of numbers; polynomials modulo 10007 as lists. -/
import Derived.Test.YtncilhecdihmeaaF1
namespace Go.Rk
/-- Numbers: how they are added and multiplied, and those of integers. -/
structure Rg (R : Type) where
  add : R → R → R
  mul : R → R → R
  num : Int → R
structure Hom {R S : Type} (o : Rg R) (o' : Rg S) (h : R → S) : Prop where
  add : ∀ x y, h (o.add x y) = o'.add (h x) (h y)
  mul : ∀ x y, h (o.mul x y) = o'.mul (h x) (h y)
  num : ∀ n, h (o.num n) = o'.num n
def modR : Rg Int := ⟨fun x y => (x + y) % 10007, fun x y => x * y % 10007, fun n => n % 10007⟩
section
variable {R S : Type} (o : Rg R)
def prodR (a : List R) : List Nat → R
  | [] => o.num 1
  | k :: c => o.mul (a.getD k (o.num 0)) (prodR a c)
def rowR (a b : List R) : List RowD → R
  | [] => o.num 0
  | r :: rs => o.add (o.mul (o.num r.1) (o.mul (prodR o a r.2.1) (b.getD r.2.2 (o.num 0)))) (rowR a b rs)
/-- The convolution of a character and a map. -/
def convR (tab : List (List RowD)) (a b : List R) : List R := b.getD 0 (o.num 0) :: tab.map (rowR o a b)
def actRow (b x : List R) : List RowD → R
  | [] => o.num 0
  | r :: rs => match r.2.1 with
    | [k] => o.add (o.mul (o.num r.1) (o.mul (b.getD k (o.num 0)) (x.getD r.2.2 (o.num 0)))) (actRow b x rs)
    | _ => actRow b x rs
/-- An infinitesimal map acts on a map. -/
def actR (tab : List (List RowD)) (b x : List R) : List R := o.num 0 :: tab.map (actRow o b x)
def addR (k : Int) (a b : List R) : List R := List.zipWith (fun x y => o.add x (o.mul (o.num k) y)) a b
def scaleR (k : R) (a : List R) : List R := a.map fun x => o.mul x k
end
section
variable {R S : Type} {o : Rg R} {o' : Rg S} {h : R → S} (H : Hom o o' h)
include H
theorem Hom.get (a : List R) (k : Nat) : h (a.getD k (o.num 0)) = (a.map h).getD k (o'.num 0) := by
  rw [List.getD_eq_getElem?_getD, List.getD_eq_getElem?_getD, List.getElem?_map]
  cases a[k]? with
  | none => exact H.num 0
  | some x => rfl
theorem Hom.prod (a : List R) : ∀ c, h (prodR o a c) = prodR o' (a.map h) c
  | [] => H.num 1
  | k :: c => by rw [prodR, prodR, H.mul, H.get, Hom.prod a c]
theorem Hom.row (a b : List R) : ∀ r, h (rowR o a b r) = rowR o' (a.map h) (b.map h) r
  | [] => H.num 0
  | r :: rs => by rw [rowR, rowR, H.add, H.mul, H.mul, H.num, H.prod, H.get, Hom.row a b rs]
theorem Hom.conv (tab : List (List RowD)) (a b : List R) : (convR o tab a b).map h = convR o' tab (a.map h) (b.map h) := by
  unfold convR
  rw [List.map_cons, H.get, List.map_map]
  congr 1
  exact List.map_congr_left fun r _ => H.row a b r
theorem Hom.actRow (b x : List R) : ∀ r, h (Go.Rk.actRow o b x r) = Go.Rk.actRow o' (b.map h) (x.map h) r
  | [] => H.num 0
  | (n, [], t) :: rs => by rw [Go.Rk.actRow, Go.Rk.actRow]; exact Hom.actRow b x rs
  | (n, [k], t) :: rs => by
    show h (o.add _ _) = o'.add _ _
    rw [H.add, H.mul, H.mul, H.num, H.get, H.get, Hom.actRow b x rs]
  | (n, k :: k2 :: ks, t) :: rs => by rw [Go.Rk.actRow, Go.Rk.actRow]; exact Hom.actRow b x rs
theorem Hom.act (tab : List (List RowD)) (b x : List R) : (actR o tab b x).map h = actR o' tab (b.map h) (x.map h) := by
  unfold actR
  rw [List.map_cons, H.num, List.map_map]
  congr 1
  exact List.map_congr_left fun r _ => H.actRow b x r
theorem Hom.addR (k : Int) (a b : List R) : (Go.Rk.addR o k a b).map h = Go.Rk.addR o' k (a.map h) (b.map h) := by
  unfold Go.Rk.addR
  induction a generalizing b with
  | nil => simp
  | cons x a ih => cases b with
    | nil => simp
    | cons y b => simp only [List.zipWith_cons_cons, List.map_cons, H.add, H.mul, H.num, ih b]
theorem Hom.scale (k : R) (a : List R) : (scaleR o k a).map h = scaleR o' (h k) (a.map h) := by
  unfold scaleR
  rw [List.map_map, List.map_map]
  exact List.map_congr_left fun x _ => H.mul x k
end
/-! Polynomials. -/
abbrev Mono := List Nat
abbrev Poly := List (Mono × Int)
def evM (v : Nat → Int) : Mono → Int
  | [] => 1
  | i :: m => v i * evM v m
def evP (v : Nat → Int) : Poly → Int
  | [] => 0
  | t :: q => t.2 * evM v t.1 + evP v q
def insM (i : Nat) : Mono → Mono
  | [] => [i]
  | j :: m => if Nat.ble i j = true then i :: j :: m else j :: insM i m
def mulM (a b : Mono) : Mono := a.foldr insM b
theorem evM_ins (v : Nat → Int) (i : Nat) : ∀ m, evM v (insM i m) = v i * evM v m
  | [] => rfl
  | j :: m => by
    unfold insM
    split
    · rfl
    · rw [evM, evM_ins v i m, evM, Int.mul_left_comm]
theorem evM_mul (v : Nat → Int) (b : Mono) : ∀ a, evM v (mulM a b) = evM v a * evM v b
  | [] => by simp [mulM, evM]
  | i :: a => by
    show evM v (insM i (mulM a b)) = _
    rw [evM_ins, evM_mul v b a, evM, Int.mul_assoc]
def gtM : Mono → Mono → Bool
  | [], _ => false
  | _ :: _, [] => true
  | x :: a, y :: b => bif Nat.beq x y then gtM a b else Nat.blt x y
def eqM : Mono → Mono → Bool
  | [], [] => true
  | x :: a, y :: b => bif Nat.beq x y then eqM a b else false
  | _, _ => false
theorem eqM_eq : ∀ {a b : Mono}, eqM a b = true → a = b
  | [], [], _ => rfl
  | [], _ :: _, h => by simp [eqM] at h
  | _ :: _, [], h => by simp [eqM] at h
  | x :: a, y :: b, h => by
    unfold eqM at h
    cases hb : Nat.beq x y with
    | false => rw [hb] at h; cases h
    | true => rw [hb] at h; rw [Nat.eq_of_beq_eq_true hb, eqM_eq h]
def consP (m : Mono) (c : Int) (q : Poly) : Poly := bif c == 0 then q else (m, c) :: q
def addG : Nat → Poly → Poly → Poly
  | 0, a, b => a ++ b
  | _ + 1, [], b => b
  | _ + 1, a, [] => a
  | n + 1, x :: a, y :: b => bif eqM x.1 y.1 then consP x.1 ((x.2 + y.2) % 10007) (addG n a b) else bif gtM x.1 y.1 then x :: addG n a (y :: b) else y :: addG n (x :: a) b
def addP (a b : Poly) : Poly := addG (a.length + b.length) a b
def mulT (m : Mono) (c : Int) : Poly → Poly
  | [] => []
  | t :: q => (mulM m t.1, c * t.2 % 10007) :: mulT m c q
def mulP : Poly → Poly → Poly
  | [], _ => []
  | t :: a, b => addP (mulT t.1 t.2 b) (mulP a b)
def numP (n : Int) : Poly := consP [] (n % 10007) []
def varP (i : Nat) : Poly := [([i], 1)]
def polyR : Rg Poly := ⟨addP, mulP, numP⟩
theorem evP_cons (v : Nat → Int) (m : Mono) (c : Int) (q : Poly) : evP v (consP m c q) = c * evM v m + evP v q := by
  unfold consP
  cases h : c == 0 with
  | true => rw [beq_iff_eq] at h; subst h; simp
  | false => rfl
theorem evP_append (v : Nat → Int) (a b : Poly) : evP v (a ++ b) = evP v a + evP v b := by
  induction a with
  | nil => simp [evP]
  | cons t a ih => rw [List.cons_append, evP, ih, evP, Int.add_assoc]
theorem evP_addG (v : Nat → Int) : ∀ (n : Nat) (a b : Poly), evP v (addG n a b) % 10007 = (evP v a + evP v b) % 10007
  | 0, a, b => by rw [addG, evP_append]
  | _ + 1, [], b => by simp [addG, evP]
  | _ + 1, _ :: _, [] => by simp [addG, evP]
  | n + 1, x :: a, y :: b => by
    unfold addG
    cases he : eqM x.1 y.1 with
    | true =>
      have h1 := evP_addG v n a b
      show evP v (consP _ _ _) % 10007 = _
      rw [evP_cons, evP, evP, ← eqM_eq he, Int.add_emod, h1, ← Int.add_emod, Int.add_emod, Int.mul_emod, Int.emod_emod, ← Int.mul_emod, ← Int.add_emod, Int.add_mul]
      congr 1; omega
    | false =>
      cases hg : gtM x.1 y.1 with
      | true =>
        have h1 := evP_addG v n a (y :: b)
        show evP v (x :: _) % 10007 = _
        rw [evP, Int.add_emod, h1, ← Int.add_emod]
        simp only [evP]
        congr 1; omega
      | false =>
        have h1 := evP_addG v n (x :: a) b
        show evP v (y :: _) % 10007 = _
        rw [evP, Int.add_emod, h1, ← Int.add_emod, evP, evP]
        congr 1; omega
theorem evP_mulT (v : Nat → Int) (m : Mono) (c : Int) : ∀ q, evP v (mulT m c q) % 10007 = c * evM v m * evP v q % 10007
  | [] => by simp [mulT, evP]
  | t :: q => by
    have h1 := evP_mulT v m c q
    rw [mulT, evP, evM_mul, Int.add_emod, h1, ← Int.add_emod, Int.add_emod, Int.mul_emod, Int.emod_emod, ← Int.mul_emod, ← Int.add_emod, evP, Int.mul_add]
    congr 2
    rw [Int.mul_assoc c t.2, Int.mul_assoc c (evM v m), ← Int.mul_assoc t.2, ← Int.mul_assoc (evM v m), Int.mul_comm t.2 (evM v m)]
theorem evP_mul (v : Nat → Int) (b : Poly) : ∀ a, evP v (mulP a b) % 10007 = evP v a * evP v b % 10007
  | [] => by simp [mulP, evP]
  | t :: a => by
    have h1 := evP_mul v b a
    have h2 := evP_mulT v t.1 t.2 b
    rw [mulP, addP, evP_addG, Int.add_emod, h1, h2, ← Int.add_emod, evP, Int.add_mul]
/-- What a polynomial is at some numbers. -/
def hP (v : Nat → Int) (q : Poly) : Int := evP v q % 10007
theorem homP (v : Nat → Int) : Hom polyR modR (hP v) := by
  refine ⟨fun x y => ?_, fun x y => ?_, fun n => ?_⟩
  · show evP v (addP x y) % 10007 = (evP v x % 10007 + evP v y % 10007) % 10007
    rw [addP, evP_addG, Int.add_emod]
  · show evP v (mulP x y) % 10007 = evP v x % 10007 * (evP v y % 10007) % 10007
    rw [evP_mul, Int.mul_emod]
  · show evP v (numP n) % 10007 = n % 10007
    rw [numP, evP_cons]
    simp [evM, evP]
theorem hP_var (v : Nat → Int) (i : Nat) : hP v (varP i) = v i % 10007 := by simp [hP, varP, evP, evM]
def eqPoly : Poly → Poly → Bool
  | [], [] => true
  | x :: a, y :: b => bif eqM x.1 y.1 then (bif x.2 == y.2 then eqPoly a b else false) else false
  | _, _ => false
theorem eqPoly_eq : ∀ {a b : Poly}, eqPoly a b = true → a = b
  | [], [], _ => rfl
  | [], _ :: _, h => by simp [eqPoly] at h
  | _ :: _, [], h => by simp [eqPoly] at h
  | x :: a, y :: b, h => by
    unfold eqPoly at h
    cases h1 : eqM x.1 y.1 with
    | false => rw [h1] at h; cases h
    | true =>
      cases h2 : x.2 == y.2 with
      | false => rw [h1, h2] at h; cases h
      | true =>
        rw [h1, h2] at h
        rw [beq_iff_eq] at h2
        rw [eqPoly_eq h, show x = y from Prod.ext (eqM_eq h1) h2]
def eqPolys : List Poly → List Poly → Bool
  | [], [] => true
  | x :: a, y :: b => bif eqPoly x y then eqPolys a b else false
  | _, _ => false
theorem eqPolys_eq : ∀ {a b : List Poly}, eqPolys a b = true → a = b
  | [], [], _ => rfl
  | [], _ :: _, h => by simp [eqPolys] at h
  | _ :: _, [], h => by simp [eqPolys] at h
  | x :: a, y :: b, h => by
    unfold eqPolys at h
    cases h1 : eqPoly x y with
    | false => rw [h1] at h; cases h
    | true => rw [h1] at h; rw [eqPoly_eq h1, eqPolys_eq h]
end Go.Rk
