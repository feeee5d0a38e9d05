/- Plain facts: polynomial identities of maps: convolutions, inverses, scaled maps. -/
import Derived.Test.YtncilhecdihmeaaGreatG3
namespace Go.Rk
open Go.Fw Go.Proofs
/-! Inverses and scaled maps in any ring of numbers. -/
section
variable {R S : Type} (o : Rg R)
def negRow (out a : List R) : List RowD → R
  | [] => o.num 0
  | r :: rs => match r.2.2 with
    | 0 => negRow out a rs
    | t + 1 => o.add (o.mul (o.num (-r.1)) (o.mul (prodR o out r.2.1) (a.getD (t + 1) (o.num 0)))) (negRow out a rs)
def invGo (a : List R) : List R → List (List RowD) → List R
  | out, [] => out
  | out, rs :: tab => invGo a (out ++ [negRow o out a rs]) tab
def invR (tab : List (List RowD)) (a : List R) : List R := invGo o a [o.num 1] tab
def powR (k : R) : Nat → R
  | 0 => o.num 1
  | n + 1 => o.mul (powR k n) k
def gradeR (ns : List Nat) (a : List R) (k : R) : List R := List.zipWith (fun n x => o.mul x (powR o k n)) ns a
def unitR : List R := o.num 1 :: List.replicate 37 (o.num 0)
def plusR (a b : List R) (k : Int) : List R := addR o k a b
def brR (tab : List (List RowD)) (b c : List R) : List R := addR o 10006 (actR o tab b c) (actR o tab c b)
end
section
variable {R S : Type} {o : Rg R} {o' : Rg S} {h : R → S} (H : Hom o o' h)
include H
theorem Hom.negRow (out a : List R) : ∀ rs, h (Go.Rk.negRow o out a rs) = Go.Rk.negRow o' (out.map h) (a.map h) rs
  | [] => H.num 0
  | (n, c, 0) :: rs => by
    show h (Go.Rk.negRow o out a rs) = Go.Rk.negRow o' (out.map h) (a.map h) rs
    exact Hom.negRow out a rs
  | (n, c, t + 1) :: rs => by
    show h (o.add (o.mul (o.num (-n)) (o.mul (prodR o out c) (a.getD (t + 1) (o.num 0)))) (Go.Rk.negRow o out a rs)) = o'.add (o'.mul (o'.num (-n)) (o'.mul (prodR o' (out.map h) c) ((a.map h).getD (t + 1) (o'.num 0)))) (Go.Rk.negRow o' (out.map h) (a.map h) rs)
    rw [H.add, H.mul, H.mul, H.num, H.prod, H.get, Hom.negRow out a rs]
theorem Hom.invGo (a : List R) : ∀ (tab : List (List RowD)) (out : List R), (Go.Rk.invGo o a out tab).map h = Go.Rk.invGo o' (a.map h) (out.map h) tab
  | [], _ => rfl
  | rs :: tab, out => by
    rw [Go.Rk.invGo, Hom.invGo a tab, Go.Rk.invGo, List.map_append, List.map_singleton, H.negRow]
theorem Hom.inv (tab : List (List RowD)) (a : List R) : (invR o tab a).map h = invR o' tab (a.map h) := by
  unfold invR; rw [H.invGo, List.map_singleton, H.num]
theorem Hom.pow (k : R) : ∀ n, h (powR o k n) = powR o' (h k) n
  | 0 => H.num 1
  | n + 1 => by rw [powR, powR, H.mul, Hom.pow k n]
theorem Hom.grade (ns : List Nat) (a : List R) (k : R) : (gradeR o ns a k).map h = gradeR o' ns (a.map h) (h k) := by
  unfold gradeR
  induction a generalizing ns with
  | nil => simp
  | cons x a ih => cases ns with
    | nil => simp
    | cons n ns => simp only [List.zipWith_cons_cons, List.map_cons, H.mul, H.pow, ih ns]
theorem Hom.unit : (unitR o).map h = unitR o' := by unfold unitR; rw [List.map_cons, List.map_replicate, H.num, H.num]
theorem Hom.br (tab : List (List RowD)) (b c : List R) : (brR o tab b c).map h = brR o' tab (b.map h) (c.map h) := by
  unfold brR; rw [H.addR, H.act, H.act]
end
/-! Maps of variables. -/
/-- 37 variables, from the n-th on. -/
def varsP (n : Nat) : List Poly := (List.range 37).map fun i => varP (n + i)
def mapP (x : Poly) (n : Nat) : List Poly := x :: varsP n
/-- What the variables are: the values of three maps behind the first one, and two numbers. -/
def val3 (a b c : List Int) (x y : Int) (i : Nat) : Int :=
  if i < 37 then a.getD (i + 1) 0 else if i < 74 then b.getD (i - 37 + 1) 0 else if i < 111 then c.getD (i - 74 + 1) 0 else if i = 111 then x else y
theorem mapP_map {v : Nat → Int} {p : Poly} {n : Nat} {a : List Int} (ha : isMap a = true) (h0 : hP v p = a.getD 0 0) (hv : ∀ i, i < 37 → v (n + i) = a.getD (i + 1) 0) : (mapP p n).map (hP v) = a := by
  have hl := isMap_38 ha
  apply List.ext_getElem
  · simp [mapP, varsP, hl]
  · intro i h1 h2
    cases i with
    | zero =>
      rw [List.getD_eq_getElem?_getD, List.getElem?_eq_getElem h2] at h0
      exact h0
    | succ i =>
      have h3 := allN_get (isMap_all ha) h2
      have h4 := hv i (by omega)
      rw [List.getD_eq_getElem?_getD, List.getElem?_eq_getElem h2] at h4
      simp only [mapP, varsP, List.map_cons, List.getElem_cons_succ, List.getElem_map, List.getElem_range, hP_var]
      rw [h4]
      show a[i + 1] % 10007 = a[i + 1]
      omega
section
variable {a b c : List Int} {x y : Int} {p : Poly}
theorem map3a (ha : isMap a = true) (h0 : hP (val3 a b c x y) p = a.getD 0 0) : (mapP p 0).map (hP (val3 a b c x y)) = a :=
  mapP_map ha h0 fun i hi => by unfold val3; rw [Nat.zero_add, if_pos hi]
theorem map3b (hb : isMap b = true) (h0 : hP (val3 a b c x y) p = b.getD 0 0) : (mapP p 37).map (hP (val3 a b c x y)) = b :=
  mapP_map hb h0 fun i hi => by unfold val3; rw [if_neg (by omega), if_pos (by omega), Nat.add_sub_cancel_left]
theorem map3c (hc : isMap c = true) (h0 : hP (val3 a b c x y) p = c.getD 0 0) : (mapP p 74).map (hP (val3 a b c x y)) = c :=
  mapP_map hc h0 fun i hi => by unfold val3; rw [if_neg (by omega), if_neg (by omega), if_pos (by omega), Nat.add_sub_cancel_left]
theorem val3_x : hP (val3 a b c x y) (varP 111) = x % 10007 := by rw [hP_var]; unfold val3; rfl
theorem val3_y : hP (val3 a b c x y) (varP 112) = y % 10007 := by rw [hP_var]; unfold val3; rfl
end
theorem hP_num (v : Nat → Int) (n : Int) : hP v (numP n) = n % 10007 := (homP v).num n
theorem hP_one (v : Nat → Int) : hP v (numP 1) = 1 := hP_num v 1
theorem hP_zero (v : Nat → Int) : hP v (numP 0) = 0 := hP_num v 0
theorem map_first {a : List Int} (h : isMap a = true) : a.getD 0 0 % 10007 = a.getD 0 0 := by
  have hl := isMap_38 h
  rw [List.getD_eq_getElem?_getD, List.getElem?_eq_getElem (by omega : 0 < a.length)]
  have := allN_get (isMap_all h) (by omega : 0 < a.length)
  show a[0] % 10007 = a[0]
  omega
/-! Convolutions. -/
def mA1 : List Poly := mapP (numP 1) 0
def mB1 : List Poly := mapP (numP 1) 37
def mC (p : Poly) : List Poly := mapP p 74
def placesK : List Nat := [0, 1, 2, 3, 3, 4, 4, 4, 4, 5, 5, 5, 5, 5, 5, 5, 5, 5, 6, 6, 6, 6, 6, 6, 6, 6, 6, 6, 6, 6, 6, 6, 6, 6, 6, 6, 6, 6]
def assocB : Bool := eqPolys (convR polyR cutLit mA1 (convR polyR cutLit mB1 (mC (varP 111)))) (convR polyR cutLit (convR polyR cutLit mA1 mB1) (mC (varP 111)))
theorem assocB_true : assocB = true := by kernel_rfl
def unitLB : Bool := eqPolys (convR polyR cutLit (unitR polyR) (mC (varP 111))) (mC (varP 111))
theorem unitLB_true : unitLB = true := by kernel_rfl
def unitRB : Bool := eqPolys (convR polyR cutLit mA1 (unitR polyR)) mA1
theorem unitRB_true : unitRB = true := by kernel_rfl
def invB : Bool := eqPolys (convR polyR cutLit (invR polyR cutLit mA1) mA1) (unitR polyR)
theorem invB_true : invB = true := by kernel_rfl
def scaleB : Bool := eqPolys (convR polyR cutLit (gradeR polyR placesK mA1 (varP 112)) (gradeR polyR placesK (mC (varP 111)) (varP 112))) (gradeR polyR placesK (convR polyR cutLit mA1 (mC (varP 111))) (varP 112))
theorem scaleB_true : scaleB = true := by kernel_rfl
/-! The same over numbers. -/
/-- A map whose first value is 1. -/
structure Chr (a : List Int) : Prop where
  map : isMap a = true
  first : a.getD 0 0 = 1
theorem Chr.len {a : List Int} (h : Chr a) : a.length = 38 := isMap_38 h.map
theorem mapOf {a : List Int} (h : a.length = 38) (h2 : allN a = true) : isMap a = true := by unfold isMap; rw [Bool.and_eq_true, decide_eq_true_eq]; exact ⟨h, h2⟩
theorem unitR_M : unitR modR = unitM := rfl
theorem unit_chr : Chr unitM := ⟨mapOf unitM_len unitM_all, rfl⟩
theorem conv_map (a : List Int) {b : List Int} (hb : isMap b = true) : isMap (convR modR cutLit a b) = true := mapOf (convR_len _ _) (convR_all (isMap_all hb) (by rw [isMap_38 hb]; omega))
theorem conv_first {a b : List Int} : (convR modR cutLit a b).getD 0 0 = b.getD 0 0 := rfl
theorem Chr.conv {a b : List Int} (hb : Chr b) : Chr (convR modR cutLit a b) := ⟨conv_map a hb.map, hb.first⟩
section
variable {a b c : List Int} {x y : Int}
theorem hA1 (ha : Chr a) : mA1.map (hP (val3 a b c x y)) = a := map3a ha.map (by rw [ha.first]; exact hP_one _)
theorem hB1 (hb : Chr b) : mB1.map (hP (val3 a b c x y)) = b := map3b hb.map (by rw [hb.first]; exact hP_one _)
theorem hCx (hc : isMap c = true) : (mC (varP 111)).map (hP (val3 a b c (c.getD 0 0) y)) = c := map3c hc (by rw [val3_x]; exact map_first hc)
/-- Convolutions are associative. -/
theorem conv_assoc (ha : Chr a) (hb : Chr b) (hc : isMap c = true) : convR modR cutLit a (convR modR cutLit b c) = convR modR cutLit (convR modR cutLit a b) c := by
  have h := congrArg (List.map (hP (val3 a b c (c.getD 0 0) 0))) (eqPolys_eq assocB_true)
  have H := homP (val3 a b c (c.getD 0 0) 0)
  rw [H.conv, H.conv, H.conv, H.conv, hA1 ha, hB1 hb, hCx hc] at h
  exact h
theorem conv_unitL (hc : isMap c = true) : convR modR cutLit unitM c = c := by
  have h := congrArg (List.map (hP (val3 [] [] c (c.getD 0 0) 0))) (eqPolys_eq unitLB_true)
  have H := homP (val3 [] [] c (c.getD 0 0) 0)
  rw [H.conv, H.unit, hCx hc, unitR_M] at h
  exact h
theorem conv_unitR (ha : Chr a) : convR modR cutLit a unitM = a := by
  have h := congrArg (List.map (hP (val3 a [] [] 0 0))) (eqPolys_eq unitRB_true)
  have H := homP (val3 a [] [] 0 0)
  rw [H.conv, H.unit, hA1 ha, unitR_M] at h
  exact h
theorem inv_left (ha : Chr a) : convR modR cutLit (invR modR cutLit a) a = unitM := by
  have h := congrArg (List.map (hP (val3 a [] [] 0 0))) (eqPolys_eq invB_true)
  have H := homP (val3 a [] [] 0 0)
  rw [H.conv, H.inv, H.unit, hA1 ha, unitR_M] at h
  exact h
end
/-! The inverse, entry by entry. -/
def invTerm (out a : List Int) (r : RowD) : Int := if r.2.2 = 0 then 0 else convTerm out a r
def invSum (out a : List Int) : List RowD → Int
  | [] => 0
  | r :: rs => invTerm out a r + invSum out a rs
theorem invSum_append (out a : List Int) : ∀ x c, invSum out a (x ++ c) = invSum out a x + invSum out a c
  | [], c => by simp [invSum]
  | r :: x, c => by rw [List.cons_append, invSum, invSum, invSum_append out a x c, Int.add_assoc]
theorem invTerm_bd (out a : List Int) (r : RowD) : 0 ≤ invTerm out a r ∧ invTerm out a r ≤ 10006 := by
  unfold invTerm; split
  · omega
  · exact convTerm_bd _ _ _
theorem invSum_bd (out a : List Int) : ∀ rs, 0 ≤ invSum out a rs ∧ invSum out a rs ≤ 10006 * rs.length
  | [] => by simp [invSum]
  | r :: rs => by
    have h1 := invTerm_bd out a r
    have h2 := invSum_bd out a rs
    rw [invSum, List.length_cons]; omega
theorem negRow_sum (out a : List Int) : ∀ rs, negRow modR out a rs = nm (-(invSum out a rs))
  | [] => by
    show (0 : Int) % 10007 = nm (-0)
    unfold nm; rfl
  | (n, c, 0) :: rs => by
    show negRow modR out a rs = nm (-(0 + invSum out a rs))
    rw [negRow_sum out a rs, Int.zero_add]
  | (n, c, t + 1) :: rs => by
    show ((-n) % 10007 * (prodR modR out c * a.getD (t + 1) (0 % 10007) % 10007) % 10007 + negRow modR out a rs) % 10007 = nm (-(nm (n * nm (prodR modR out c * a.getD (t + 1) 0)) + invSum out a rs))
    rw [negRow_sum out a rs, show ((0 : Int) % 10007) = 0 from rfl]
    generalize prodR modR out c * a.getD (t + 1) 0 = q
    generalize invSum out a rs = s
    have h1 : (-n) % 10007 * (q % 10007) % 10007 = (-(n * (q % 10007))) % 10007 := by rw [Int.mul_emod, Int.emod_emod, ← Int.mul_emod, Int.neg_mul]
    rw [h1]
    unfold nm
    generalize n * (q % 10007) = z
    omega
theorem invGo_len (a : List Int) : ∀ (tab : List (List RowD)) (out : List Int), (invGo modR a out tab).length = out.length + tab.length
  | [], _ => rfl
  | rs :: tab, out => by rw [invGo, invGo_len a tab, List.length_append]; simp only [List.length_cons, List.length_nil]; omega
theorem invGo_take (a : List Int) : ∀ (tab : List (List RowD)) (out : List Int), (invGo modR a out tab).take out.length = out
  | [], out => by rw [invGo, List.take_length]
  | rs :: tab, out => by
    have h := invGo_take a tab (out ++ [negRow modR out a rs])
    rw [invGo]
    have h2 := congrArg (List.take out.length) h
    rw [List.take_take, List.take_left', Nat.min_eq_left (by rw [List.length_append]; omega)] at h2
    · exact h2
    · rfl
theorem invGo_get (a : List Int) : ∀ (tab : List (List RowD)) (out : List Int) (i : Nat) (h : i < tab.length) (h2 : out.length + i < (invGo modR a out tab).length), (invGo modR a out tab)[out.length + i] = negRow modR ((invGo modR a out tab).take (out.length + i)) a tab[i]
  | [], _, _, h, _ => by simp at h
  | rs :: tab, out, 0, _, h2 => by
    have h := invGo_take a tab (out ++ [negRow modR out a rs])
    have h3 := invGo_take a (rs :: tab) out
    simp only [Nat.add_zero, h3, List.getElem_cons_zero]
    have h4 : (invGo modR a out (rs :: tab))[out.length]? = ((invGo modR a out (rs :: tab)).take (out.length + 1))[out.length]? := by rw [List.getElem?_take, if_pos (by omega)]
    rw [List.length_append, List.length_singleton] at h
    rw [show invGo modR a out (rs :: tab) = invGo modR a (out ++ [negRow modR out a rs]) tab from rfl, h, List.getElem?_append_right (Nat.le_refl _), Nat.sub_self] at h4
    have h5 := (List.getElem?_eq_some_iff.1 (h4.trans rfl)).2
    exact h5
  | rs :: tab, out, i + 1, h, h2 => by
    have ih := invGo_get a tab (out ++ [negRow modR out a rs]) i (by simpa using h) (by
      rw [invGo_len, List.length_append, List.length_singleton]; simp at h; omega)
    have e : (out ++ [negRow modR out a rs]).length + i = out.length + (i + 1) := by rw [List.length_append, List.length_singleton]; omega
    simp only [e] at ih
    exact ih
def invL (a : List Int) : List Int := invR modR cutLit a
theorem invL_len (a : List Int) : (invL a).length = 38 := by unfold invL invR; rw [invGo_len, cutLit_len]; rfl
theorem invL_get (a : List Int) {i : Nat} (h : i < cutLit.length) (h2 : i + 1 < (invL a).length) : (invL a)[i + 1] = nm (-(invSum ((invL a).take (i + 1)) a cutLit[i])) := by
  have e := invGo_get a cutLit [modR.num 1] i h (by rw [invGo_len, cutLit_len]; rw [cutLit_len] at h; simp; omega)
  simp only [List.length_singleton, Nat.add_comm 1 i] at e
  rw [← negRow_sum]
  exact e
theorem invL_zero (a : List Int) : (invL a).take 1 = [1] := invGo_take a cutLit [modR.num 1]
theorem invL_all (a : List Int) : allN (invL a) = true := allN_of fun y hy => by
  obtain ⟨i, hi, rfl⟩ := List.getElem_of_mem hy
  cases i with
  | zero =>
    have h := invL_zero a
    have h1 : (invL a)[0]? = ((invL a).take 1)[0]? := by rw [List.getElem?_take, if_pos (by omega)]
    rw [h] at h1
    rw [(List.getElem?_eq_some_iff.1 (h1.trans rfl)).2]
    exact show isN 1 = true from by kernel_rfl
  | succ i => rw [invL_get a (by rw [invL_len] at hi; rw [cutLit_len]; omega) hi]; exact nm_isN _
theorem invL_chr (a : List Int) : Chr (invL a) := ⟨mapOf (invL_len a) (invL_all a), by
  have h := congrArg (fun l => l.getD 0 0) (invL_zero a)
  simp only [List.getD_eq_getElem?_getD, List.getElem?_take] at h ⊢
  simpa using h⟩
theorem inv_L {a : List Int} (ha : Chr a) : convR modR cutLit (invL a) a = unitM := by unfold invL; exact inv_left ha
/-- The inverse is one on both sides. -/
theorem inv_right {a : List Int} (ha : Chr a) : convR modR cutLit a (invL a) = unitM := by
  have h2 := inv_L (invL_chr a)
  have h3 := conv_assoc (invL_chr (invL a)) (invL_chr a) ha.map
  rw [inv_L ha, h2, conv_unitR (invL_chr _), conv_unitL ha.map] at h3
  rw [h3] at h2
  exact h2
theorem conv_back {a b : List Int} (ha : Chr a) (hb : isMap b = true) : convR modR cutLit (invL a) (convR modR cutLit a b) = b := by
  rw [conv_assoc (invL_chr a) ha hb, inv_L ha, conv_unitL hb]
/-- The powers of a map. -/
def powMapL (a : List Int) : Nat → List Int
  | 0 => unitM
  | n + 1 => convR modR cutLit (powMapL a n) a
theorem powMapL_chr {a : List Int} (ha : Chr a) : ∀ n, Chr (powMapL a n)
  | 0 => unit_chr
  | n + 1 => by rw [powMapL]; exact ha.conv
def powZ (a : List Int) (k : Int) : List Int := if k < 0 then powMapL (invL a) (-k).toNat else powMapL a k.toNat
/-! Scaled maps. -/
theorem powN_R (k : Int) {n : Nat} (h : n ≤ 6) : powN k n = powR modR k n := by
  have e1 : ∀ x y : Int, modR.mul x y = nm (x * y) := fun x y => by unfold nm; rfl
  have e2 : modR.num 1 = 1 := rfl
  have e3 : ∀ x, nm (nm x) = nm x := fun x => by unfold nm; omega
  have h7 : n = 0 ∨ n = 1 ∨ n = 2 ∨ n = 3 ∨ n = 4 ∨ n = 5 ∨ n = 6 := by omega
  rcases h7 with rfl | rfl | rfl | rfl | rfl | rfl | rfl <;>
    simp [powN, powGo_step, powGo_zero, powR, e1, e2, e3, nm_mul_nm, nm_nm_mul, Int.mul_assoc]
theorem placesK_eq : placesN = placesK.map fun (k : Nat) => (k : Int) := by kernel_rfl
theorem scaleML_grade (a : List Int) (k : Int) : scaleML a k = gradeR modR placesK a k := by
  have h6 : ∀ n ∈ placesK, n ≤ 6 := by decide
  unfold scaleML gradeR
  rw [placesK_eq]
  generalize placesK = ns at h6 ⊢
  induction ns generalizing a with
  | nil => rfl
  | cons n ns ih =>
    cases a with
    | nil => rfl
    | cons x a =>
      have e1 : modR.mul x (powR modR k n) = nm (x * powR modR k n) := by unfold nm; rfl
      simp only [List.map_cons, List.zipWith_cons_cons, Int.toNat_natCast, e1]
      rw [powN_R k (h6 n (by simp)), ih a fun m hm => h6 m (by simp [hm])]
/-- Scaling keeps convolutions. -/
theorem scale_conv {a b : List Int} {k : Int} (ha : Chr a) (hb : isMap b = true) (hk : isN k = true) : convR modR cutLit (scaleML a k) (scaleML b k) = scaleML (convR modR cutLit a b) k := by
  have h := congrArg (List.map (hP (val3 a [] b (b.getD 0 0) k))) (eqPolys_eq scaleB_true)
  have H := homP (val3 a [] b (b.getD 0 0) k)
  have hk2 : k % 10007 = k := by have := isN_bd hk; omega
  rw [H.conv, H.grade, H.grade, H.grade, H.conv, hA1 ha, hCx hb, val3_y, hk2, ← scaleML_grade, ← scaleML_grade, ← scaleML_grade] at h
  exact h
end Go.Rk
