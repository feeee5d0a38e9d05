/- Plain facts: exponentials and logarithms undo each other. -/
import Derived.Test.YtncilhecdihmeaaGreatG26
import Derived.Test.YtncilhecdihmeaaGreatG13
namespace Go.Rk
open Go.Fw Go.Proofs
theorem placesK_len : placesK.length = 38 := rfl
theorem placesK_le {i : Nat} (h : i < 38) : placesK.getD i 0 ≤ 6 := by
  have : ((List.range 38).all fun i => Nat.ble (placesK.getD i 0) 6) = true := by decide
  exact Nat.le_of_ble_eq_true (List.all_eq_true.1 this i (List.mem_range.2 h))
theorem placesK_pos {i : Nat} (h : i < 38) (h0 : i ≠ 0) : 1 ≤ placesK.getD i 0 := by
  have : ((List.range 38).all fun i => i == 0 || Nat.ble 1 (placesK.getD i 0)) = true := by decide
  have h1 := List.all_eq_true.1 this i (List.mem_range.2 h)
  rw [Bool.or_eq_true, beq_iff_eq] at h1
  rcases h1 with h1 | h1
  · exact absurd h1 h0
  · exact Nat.le_of_ble_eq_true h1
theorem placesN_K {i : Nat} (h : i < placesN.length) : placesN[i] = ((placesK.getD i 0 : Nat) : Int) := by
  have h2 : i < placesK.length := by rw [placesN_len] at h; exact h
  simp only [placesK_eq, List.getElem_map, List.getD_eq_getElem?_getD, List.getElem?_eq_getElem h2, Option.getD_some]
/-- Two maps agree up to a number of nodes. -/
def AgU (n : Nat) (a b : List Int) : Prop := ∀ i, i < 38 → placesK.getD i 0 ≤ n → a.getD i 0 = b.getD i 0
theorem AgU.eq {a b : List Int} (h : AgU 6 a b) (ha : a.length = 38) (hb : b.length = 38) : a = b := by
  refine List.ext_getElem (by omega) fun i h1 h2 => ?_
  have := h i (by omega) (placesK_le (by omega))
  rwa [getD_of h1, getD_of h2] at this
theorem AgU.refl (n : Nat) (a : List Int) : AgU n a a := fun _ _ _ => rfl
theorem AgU.mono {n m : Nat} {a b : List Int} (h : AgU n a b) (hm : m ≤ n) : AgU m a b := fun i hi hp => h i hi (by omega)
theorem AgU.trans {n : Nat} {a b c : List Int} (h : AgU n a b) (h' : AgU n b c) : AgU n a c := fun i hi hp => (h i hi hp).trans (h' i hi hp)
theorem AgU.symm {n : Nat} {a b : List Int} (h : AgU n a b) : AgU n b a := fun i hi hp => (h i hi hp).symm
/-- The cuts with one tree cut off: it is the whole, or both parts are smaller. -/
def gradeB : Bool := (List.range 37).all fun i => (cutLit.getD i []).all fun r => match r.2.1 with
  | [k] => (Nat.beq k (i + 1) && Nat.beq r.2.2 0) || (Nat.blt (placesK.getD k 0) (placesK.getD (i + 1) 0) && Nat.blt (placesK.getD r.2.2 0) (placesK.getD (i + 1) 0))
  | _ => true
theorem gradeB_true : gradeB = true := by kernel_rfl
theorem grade_ok {i k t : Nat} {n : Int} (hi : i < 37) (h : (n, [k], t) ∈ cutLit.getD i []) : (k = i + 1 ∧ t = 0) ∨ (placesK.getD k 0 < placesK.getD (i + 1) 0 ∧ placesK.getD t 0 < placesK.getD (i + 1) 0) := by
  have h1 := List.all_eq_true.1 (List.all_eq_true.1 gradeB_true i (List.mem_range.2 hi)) _ h
  replace h1 : ((Nat.beq k (i + 1) && Nat.beq t 0) || (Nat.blt (placesK.getD k 0) (placesK.getD (i + 1) 0) && Nat.blt (placesK.getD t 0) (placesK.getD (i + 1) 0))) = true := h1
  rw [Bool.or_eq_true, Bool.and_eq_true, Bool.and_eq_true] at h1
  rcases h1 with ⟨h2, h3⟩ | ⟨h2, h3⟩
  · exact Or.inl ⟨Nat.eq_of_beq_eq_true h2, Nat.eq_of_beq_eq_true h3⟩
  · refine Or.inr ⟨?_, ?_⟩
    · simpa [Nat.blt_eq] using h2
    · simpa [Nat.blt_eq] using h3
theorem actSum_congr {b b' x x' : List Int} : ∀ {rs : List RowD}, (∀ r ∈ rs, actTerm b x r = actTerm b' x' r) → actSum b x rs = actSum b' x' rs
  | [], _ => rfl
  | r :: rs, h => by rw [actSum, actSum, h r (by simp), actSum_congr fun r hr => h r (by simp [hr])]
theorem actR_getD (b x : List Int) {i : Nat} (h : i < 37) : (actR modR cutLit b x).getD (i + 1) 0 = nm (actSum b x (cutLit.getD i [])) := by
  have h1 : i < cutLit.length := by rw [cutLit_len]; exact h
  rw [getD_of (by rw [actR_len]; omega), actR_get b x h1, List.getD_eq_getElem?_getD, List.getElem?_eq_getElem h1]; rfl
theorem actR_zero (b x : List Int) : (actR modR cutLit b x).getD 0 0 = 0 := rfl
/-- An action on a map without a first value looks one number of nodes further. -/
theorem act_grade {n : Nat} {b b' x x' : List Int} (hb : AgU n b b') (hx : AgU n x x') (h0 : x.getD 0 0 = 0) (h0' : x'.getD 0 0 = 0) : AgU (n + 1) (actR modR cutLit b x) (actR modR cutLit b' x') := by
  intro i hi hp
  cases i with
  | zero => rfl
  | succ i =>
    rw [actR_getD b x (by omega), actR_getD b' x' (by omega)]
    congr 1
    refine actSum_congr fun r hr => ?_
    obtain ⟨m, c, t⟩ := r
    cases c with
    | nil => rfl
    | cons k c => cases c with
      | cons k2 c => rfl
      | nil =>
        have hrow : cutLit.getD i [] ∈ cutLit := by
          have h1 : i < cutLit.length := by rw [cutLit_len]; omega
          rw [List.getD_eq_getElem?_getD, List.getElem?_eq_getElem h1]; exact List.getElem_mem h1
        have hb2 := (cutLit_row hrow).2 _ hr
        show nm (m * nm (b.getD k 0 * x.getD t 0)) = nm (m * nm (b'.getD k 0 * x'.getD t 0))
        rcases grade_ok (by omega) hr with ⟨_, rfl⟩ | ⟨h1, h2⟩
        · rw [h0, h0', Int.mul_zero, Int.mul_zero]
        · have hk := hb2.2.2.2 k (by simp)
          have ht := hb2.2.1
          rw [hb k (by omega) (by omega), hx t ht (by omega)]
/-! Exponentials. -/
def actUnitB : Bool := eqPolys (actR polyR cutLit mA0 (unitR polyR)) mA0
theorem actUnitB_true : actUnitB = true := by kernel_rfl
theorem act_unit {b : List Int} (hb : isMap b = true) (b0 : b.getD 0 0 = 0) : actR modR cutLit b unitM = b := by
  have h := congrArg (List.map (hP (val3 b [] [] 0 0))) (eqPolys_eq actUnitB_true)
  have H := homP (val3 b [] [] 0 0)
  rw [H.act, H.unit, hA0 hb b0] at h
  exact h
/-- The powers of which an exponential is made. -/
def powE (b : List Int) (n : Nat) : List Int := (expSt b n).2
theorem powE_succ (b : List Int) (n : Nat) : powE b (n + 1) = actR modR cutLit b (powE b n) := rfl
theorem powE_one {b : List Int} (hb : isMap b = true) (b0 : b.getD 0 0 = 0) : powE b 1 = b := act_unit hb b0
theorem powE_zero (b : List Int) (n : Nat) : (powE b (n + 1)).getD 0 0 = 0 := rfl
section
variable {n : Nat} {b b' : List Int} (hb : isMap b = true) (b0 : b.getD 0 0 = 0) (hb' : isMap b' = true) (b0' : b'.getD 0 0 = 0) (h : AgU n b b')
include hb b0 hb' b0' h
theorem powE_grade : ∀ m, AgU n (powE b (m + 1)) (powE b' (m + 1)) ∧ AgU (n + 1) (powE b (m + 2)) (powE b' (m + 2))
  | 0 => by
    have h1 : AgU n (powE b 1) (powE b' 1) := by rw [powE_one hb b0, powE_one hb' b0']; exact h
    exact ⟨h1, by rw [powE_succ b 1, powE_succ b' 1]; exact act_grade h h1 rfl rfl⟩
  | m + 1 => by
    have ih := powE_grade m
    have h1 : AgU n (powE b (m + 2)) (powE b' (m + 2)) := ih.2.mono (by omega)
    exact ⟨h1, by rw [powE_succ b (m + 2), powE_succ b' (m + 2)]; exact act_grade h h1 rfl rfl⟩
theorem expSt_grade {i : Nat} (hi : i < 38) (hp : placesK.getD i 0 ≤ n + 1) : ∀ m, ((expSt b (m + 1)).1.getD i 0 - b.getD i 0) % 10007 = ((expSt b' (m + 1)).1.getD i 0 - b'.getD i 0) % 10007
  | 0 => by
    have e1 : (expSt b 1).1 = plusL unitM b (facInv 1) := by
      show plusL unitM (actR modR cutLit b unitM) _ = _
      rw [act_unit hb b0]
    have e2 : (expSt b' 1).1 = plusL unitM b' (facInv 1) := by
      show plusL unitM (actR modR cutLit b' unitM) _ = _
      rw [act_unit hb' b0']
    have e3 : nm (facInv 1) = 1 := by kernel_rfl
    rw [e1, e2, plusL_at unitM_len (isMap_38 hb) hi, plusL_at unitM_len (isMap_38 hb') hi, e3]
    unfold nm; omega
  | m + 1 => by
    have ih := expSt_grade hi hp m
    have hk := (powE_grade hb b0 hb' b0' h m).2 i hi hp
    have o1 := expSt_ok b (m + 1)
    have o2 := expSt_ok b' (m + 1)
    have e1 : (expSt b (m + 2)).1 = plusL (expSt b (m + 1)).1 (powE b (m + 2)) (facInv (m + 2)) := rfl
    have e2 : (expSt b' (m + 2)).1 = plusL (expSt b' (m + 1)).1 (powE b' (m + 2)) (facInv (m + 2)) := rfl
    have l1 : (powE b (m + 2)).length = 38 := (expSt_ok b (m + 2)).2.1
    have l2 : (powE b' (m + 2)).length = 38 := (expSt_ok b' (m + 2)).2.1
    rw [e1, e2, plusL_at o1.1 l1 hi, plusL_at o2.1 l2 hi, hk]
    generalize nm (facInv (m + 2)) * (powE b' (m + 2)).getD i 0 = q
    generalize (expSt b (m + 1)).1.getD i 0 = s at ih ⊢
    generalize (expSt b' (m + 1)).1.getD i 0 = s' at ih ⊢
    unfold nm; omega
theorem expL_grade {i : Nat} (hi : i < 38) (hp : placesK.getD i 0 ≤ n + 1) : ((expL b).getD i 0 - b.getD i 0) % 10007 = ((expL b').getD i 0 - b'.getD i 0) % 10007 := expSt_grade hb b0 hb' b0' h hi hp 5
end
theorem getD_bd {b : List Int} (hb : isMap b = true) {i : Nat} (hi : i < 38) : 0 ≤ b.getD i 0 ∧ b.getD i 0 ≤ 10006 := by
  have hl := isMap_38 hb
  rw [getD_of (by omega)]; exact allN_get (isMap_all hb) (by omega)
theorem expL_map (b : List Int) : isMap (expL b) = true := isMap_of (expL_len b) (expL_all b)
/-- Exponentials that agree are those of maps that agree. -/
theorem exp_inj {b b' : List Int} (hb : isMap b = true) (b0 : b.getD 0 0 = 0) (hb' : isMap b' = true) (b0' : b'.getD 0 0 = 0) : ∀ m, AgU m (expL b) (expL b') → AgU m b b'
  | 0, _ => fun i hi hp => by
    have : i = 0 := Classical.byContradiction fun hne => by have := placesK_pos hi hne; omega
    subst this; rw [b0, b0']
  | m + 1, h => by
    have ih := exp_inj hb b0 hb' b0' m (h.mono (by omega))
    intro i hi hp
    have e := expL_grade hb b0 hb' b0' ih hi hp
    rw [h i hi hp] at e
    have h1 := getD_bd hb hi
    have h2 := getD_bd hb' hi
    omega
/-! Logarithms. -/
theorem keepL_getD {p : Int → Bool} {a : List Int} (ha : a.length = 38) {i : Nat} (hi : i < 38) : (keepL p a).getD i 0 = if p ((placesK.getD i 0 : Nat) : Int) = true then a.getD i 0 else 0 := by
  rw [getD_of (by rw [keepL_len ha]; exact hi), keepL_get (by rw [keepL_len ha]; exact hi) (by rw [placesN_len]; exact hi) (by omega), placesN_K, getD_of (by omega)]
theorem logSt_map {a : List Int} (ha : a.length = 38) (n : Nat) : isMap (logSt a n) = true := isMap_of (logSt_ok ha n).1 (logSt_ok ha n).2
theorem logSt_at {a : List Int} (ha : a.length = 38) (n : Nat) {i : Nat} (hi : i < 38) : (logSt a (n + 1)).getD i 0 = if placesK.getD i 0 = n + 1 then nm ((logSt a n).getD i 0 + nm (a.getD i 0 + nm (-1) * (expL (logSt a n)).getD i 0)) else (logSt a n).getD i 0 := by
  have h1 := logSt_ok ha n
  have h2 : (plusL a (expL (logSt a n)) (-1)).length = 38 := plusL_38 ha (expL_len _)
  rw [logSt, plusL_at h1.1 (keepL_len h2) hi, keepL_getD h2 hi, plusL_at ha (expL_len _) hi]
  by_cases hp : placesK.getD i 0 = n + 1
  · rw [if_pos hp, if_pos (by simp only [decide_eq_true_eq]; omega), show nm 1 = 1 from by kernel_rfl, Int.one_mul]
  · rw [if_neg hp, if_neg (by simp only [decide_eq_true_eq]; omega), Int.mul_zero, Int.add_zero]
    have := getD_bd (logSt_map ha n) hi
    unfold nm; omega
theorem logSt_first {a : List Int} (ha : a.length = 38) : ∀ n, (logSt a n).getD 0 0 = 0
  | 0 => rfl
  | n + 1 => by rw [logSt_at ha n (by omega), if_neg (by simp [placesK]), logSt_first ha n]
theorem expSt_first (b : List Int) : ∀ n, (expSt b n).1.getD 0 0 = 1
  | 0 => rfl
  | n + 1 => by
    have h := expSt_ok b n
    rw [expSt, plusL_at h.1 (actR_len _ _) (by omega), expSt_first b n, actR_zero, Int.mul_zero]
    exact show nm (1 + 0) = 1 from by kernel_rfl
theorem expL_first (b : List Int) : (expL b).getD 0 0 = 1 := expSt_first b 6
theorem exp_logSt {a : List Int} (ha : isMap a = true) (a0 : a.getD 0 0 = 1) : ∀ n, AgU n (expL (logSt a n)) a
  | 0 => fun i hi hp => by
    have : i = 0 := Classical.byContradiction fun hne => by have := placesK_pos hi hne; omega
    subst this
    rw [a0, expL_first]
  | n + 1 => by
    have hl := isMap_38 ha
    have ih := exp_logSt ha a0 n
    have hm1 := logSt_map hl n
    have hm2 := logSt_map hl (n + 1)
    have hag : AgU n (logSt a (n + 1)) (logSt a n) := fun i hi hp => by rw [logSt_at hl n hi, if_neg (by omega)]
    intro i hi hp
    have e := expL_grade hm2 (logSt_first hl _) hm1 (logSt_first hl _) hag hi hp
    have b1 := getD_bd (expL_map (logSt a (n + 1))) hi
    have b2 := getD_bd (expL_map (logSt a n)) hi
    have b3 := getD_bd ha hi
    by_cases hq : placesK.getD i 0 = n + 1
    · rw [logSt_at hl n hi, if_pos hq] at e
      have e1 : nm (-1) = 10006 := by kernel_rfl
      rw [e1] at e
      generalize (expL (logSt a (n + 1))).getD i 0 = p at e b1 ⊢
      generalize (expL (logSt a n)).getD i 0 = q at e b2
      generalize (logSt a n).getD i 0 = s at e
      unfold nm at e; omega
    · rw [logSt_at hl n hi, if_neg hq] at e
      have e2 := ih i hi (by omega)
      rw [e2] at e b2
      generalize (expL (logSt a (n + 1))).getD i 0 = p at e b1 ⊢
      omega
theorem exp_log {a : List Int} (ha : isMap a = true) (a0 : a.getD 0 0 = 1) : expL (logL a) = a := (exp_logSt ha a0 6).eq (expL_len _) (isMap_38 ha)
theorem logL_map {a : List Int} (ha : a.length = 38) : isMap (logL a) = true := logSt_map ha 6
theorem logL_first {a : List Int} (ha : a.length = 38) : (logL a).getD 0 0 = 0 := logSt_first ha 6
theorem log_exp {b : List Int} (hb : isMap b = true) (b0 : b.getD 0 0 = 0) : logL (expL b) = b := by
  have h1 : expL (logL (expL b)) = expL b := exp_log (expL_map b) (expL_first b)
  exact (exp_inj (logL_map (expL_len b)) (logL_first (expL_len b)) hb b0 6 (by rw [h1]; exact AgU.refl _ _)).eq (logL_len (expL_len b)) (isMap_38 hb)
end Go.Rk
