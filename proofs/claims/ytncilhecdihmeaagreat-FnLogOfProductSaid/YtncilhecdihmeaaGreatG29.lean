/- Plain facts: how the logarithm of a product begins. -/
import Derived.Test.YtncilhecdihmeaaGreatG28
import Derived.Test.YtncilhecdihmeaaGreatG20
namespace Go.Rk
open Go.Fw Go.Proofs
/-! The first nine values of maps. -/
def tab8 : List (List RowD) := cutLit.take 8
def smallB : Bool := tab8.all fun rs => rs.all fun r => Nat.blt r.2.2 9 && r.2.1.all fun k => Nat.blt k 9
theorem smallB_true : smallB = true := by kernel_rfl
theorem small_row {rs : List RowD} {r : RowD} (h : rs ∈ tab8) (h2 : r ∈ rs) : r.2.2 < 9 ∧ ∀ k ∈ r.2.1, k < 9 := by
  have h1 := List.all_eq_true.1 (List.all_eq_true.1 smallB_true rs h) r h2
  rw [Bool.and_eq_true] at h1
  exact ⟨by simpa [Nat.blt_eq] using h1.1, fun k hk => by simpa [Nat.blt_eq] using List.all_eq_true.1 h1.2 k hk⟩
section
variable {R : Type} (o : Rg R)
theorem getD_take {a : List R} {k : Nat} {z : R} (h : k < 9) : (a.take 9).getD k z = a.getD k z := by
  rw [List.getD_eq_getElem?_getD, List.getD_eq_getElem?_getD, List.getElem?_take, if_pos h]
theorem prodR_take (a : List R) : ∀ {c : List Nat}, (∀ k ∈ c, k < 9) → prodR o (a.take 9) c = prodR o a c
  | [], _ => rfl
  | k :: c, h => by rw [prodR, prodR, getD_take (h k (by simp)), prodR_take a fun k hk => h k (by simp [hk])]
theorem rowR_take (a b : List R) : ∀ {rs : List RowD}, (∀ r ∈ rs, r.2.2 < 9 ∧ ∀ k ∈ r.2.1, k < 9) → rowR o (a.take 9) (b.take 9) rs = rowR o a b rs
  | [], _ => rfl
  | r :: rs, h => by
    have h1 := h r (by simp)
    rw [rowR, rowR, prodR_take o a h1.2, getD_take h1.1, rowR_take a b fun r hr => h r (by simp [hr])]
theorem actRow_take (b x : List R) : ∀ {rs : List RowD}, (∀ r ∈ rs, r.2.2 < 9 ∧ ∀ k ∈ r.2.1, k < 9) → actRow o (b.take 9) (x.take 9) rs = actRow o b x rs
  | [], _ => rfl
  | (n, [], t) :: rs, h => by rw [actRow, actRow]; exact actRow_take b x fun r hr => h r (by simp [hr])
  | (n, [k], t) :: rs, h => by
    have h1 := h (n, [k], t) (by simp)
    show o.add (o.mul (o.num n) (o.mul ((b.take 9).getD k (o.num 0)) ((x.take 9).getD t (o.num 0)))) (actRow o (b.take 9) (x.take 9) rs) = o.add (o.mul (o.num n) (o.mul (b.getD k (o.num 0)) (x.getD t (o.num 0)))) (actRow o b x rs)
    rw [getD_take (h1.2 k (by simp)), getD_take h1.1, actRow_take b x fun r hr => h r (by simp [hr])]
  | (n, k :: k2 :: ks, t) :: rs, h => by rw [actRow, actRow]; exact actRow_take b x fun r hr => h r (by simp [hr])
theorem conv_take (a b : List R) : (convR o cutLit a b).take 9 = convR o tab8 (a.take 9) (b.take 9) := by
  unfold convR
  rw [List.take_succ_cons, getD_take (by omega), ← List.map_take]
  congr 1
  exact List.map_congr_left fun rs h => (rowR_take o a b fun r hr => small_row h hr).symm
theorem act_take (b x : List R) : (actR o cutLit b x).take 9 = actR o tab8 (b.take 9) (x.take 9) := by
  unfold actR
  rw [List.take_succ_cons, ← List.map_take]
  congr 1
  exact List.map_congr_left fun rs h => (actRow_take o b x fun r hr => small_row h hr).symm
theorem addR_take (k : Int) (a b : List R) : (addR o k a b).take 9 = addR o k (a.take 9) (b.take 9) := by unfold addR; rw [List.take_zipWith]
theorem scaleR_take (k : R) (a : List R) : (scaleR o k a).take 9 = scaleR o k (a.take 9) := by unfold scaleR; rw [List.map_take]
theorem br_take (b c : List R) : (brR o cutLit b c).take 9 = brR o tab8 (b.take 9) (c.take 9) := by unfold brR; rw [addR_take, act_take, act_take]
theorem p9_take (a b : List R) (k : Int) : (p9 o a b k).take 9 = p9 o (a.take 9) (b.take 9) k := by unfold p9; rw [addR_take, scaleR_take]
theorem expGo_take (b u : List R) : ∀ n, (expGo o cutLit b u n).1.take 9 = (expGo o tab8 (b.take 9) (u.take 9) n).1 ∧ (expGo o cutLit b u n).2.take 9 = (expGo o tab8 (b.take 9) (u.take 9) n).2
  | 0 => ⟨rfl, rfl⟩
  | n + 1 => by
    have ih := expGo_take b u n
    constructor
    · show (addR o _ _ (actR o cutLit b _)).take 9 = addR o _ _ (actR o tab8 _ _)
      rw [addR_take, act_take, ih.1, ih.2]
    · show (actR o cutLit b _).take 9 = actR o tab8 _ _
      rw [act_take, ih.2]
theorem exp_take (u b : List R) : (expR o cutLit u b).take 9 = expR o tab8 (u.take 9) (b.take 9) := (expGo_take o b u 6).1
/-- The beginning of the logarithm of a product. -/
def sumG (tab : List (List RowD)) (b c : List R) : List R :=
  p9 o (p9 o (p9 o (p9 o (p9 o b c 1) (brR o tab b c) 5004) (brR o tab b (brR o tab b c)) 834) (brR o tab c (brR o tab c b)) 834) (brR o tab c (brR o tab b (brR o tab b c))) 9590
theorem sum_take (b c : List R) : (sumG o cutLit b c).take 9 = sumG o tab8 (b.take 9) (c.take 9) := by
  unfold sumG; simp only [p9_take, br_take]
end
section
variable {R S : Type} {o : Rg R} {o' : Rg S} {h : R → S} (H : Hom o o' h)
include H
theorem Hom.sum (tab : List (List RowD)) (b c : List R) : (sumG o tab b c).map h = sumG o' tab (b.map h) (c.map h) := by
  unfold sumG; simp only [H.p9, H.br]
end
def bchB : Bool := eqPolys (expR polyR tab8 ((unitR polyR).take 9) (sumG polyR tab8 (mA0.take 9) (mB0.take 9))) (convR polyR tab8 (expR polyR tab8 ((unitR polyR).take 9) (mA0.take 9)) (expR polyR tab8 ((unitR polyR).take 9) (mB0.take 9)))
theorem bchB_true : bchB = true := by kernel_rfl
/-- The beginning, as the law computes it. -/
def sumL (b c : List Int) : List Int :=
  plusL (plusL (plusL (plusL (plusL b (scaledL c 1) 1) (scaledL (bracketL b c) 5004) 1) (scaledL (bracketL b (bracketL b c)) 834) 1) (scaledL (bracketL c (bracketL c b)) 834) 1) (scaledL (bracketL c (bracketL b (bracketL b c))) 9590) 1
theorem sumL_G (b c : List Int) : sumL b c = sumG modR cutLit b c := by
  unfold sumL sumG; simp only [← bracketL_brR, p9_plusL]
theorem bch {b c : List Int} (hb : isMap b = true) (b0 : b.getD 0 0 = 0) (hc : isMap c = true) (c0 : c.getD 0 0 = 0) : (expL (sumL b c)).take 9 = (convR modR cutLit (expL b) (expL c)).take 9 := by
  have h := congrArg (List.map (hP (val3 b c [] 0 0))) (eqPolys_eq bchB_true)
  have H := homP (val3 b c [] 0 0)
  rw [H.exp, H.conv, H.exp, H.exp, H.sum, List.map_take, List.map_take, List.map_take, H.unit, hA0 hb b0, hB0 hc c0, unitR_M] at h
  rw [sumL_G, expL_expR, expL_expR, expL_expR, exp_take, conv_take, exp_take, exp_take, sum_take]
  exact h
theorem placesK_9 {i : Nat} (hi : i < 38) (hp : placesK.getD i 0 ≤ 4) : i < 9 := by
  have : ((List.range 38).all fun i => Nat.blt 4 (placesK.getD i 0) || Nat.blt i 9) = true := by decide
  have h1 := List.all_eq_true.1 this i (List.mem_range.2 hi)
  rw [Bool.or_eq_true] at h1
  rcases h1 with h1 | h1
  · rw [Nat.blt_eq] at h1; omega
  · rwa [Nat.blt_eq] at h1
theorem agU_take {a b : List Int} (h : a.take 9 = b.take 9) : AgU 4 a b := fun i hi hp => by
  rw [← getD_take (a := a) (placesK_9 hi hp), ← getD_take (a := b) (placesK_9 hi hp), h]
theorem scaledL_first {b : List Int} (k : Int) (hb : b.length = 38) (b0 : b.getD 0 0 = 0) : (scaledL b k).getD 0 0 = 0 := by
  rw [getD_of (by omega)] at b0
  rw [getD_of (by rw [scaledL_38 hb]; omega), scaledL_get (by rw [scaledL_38 hb]; omega) (by omega), b0, Int.zero_mul]
  exact show nm 0 = 0 from by kernel_rfl
theorem plusL_first {a b : List Int} (ha : a.length = 38) (hb : b.length = 38) (a0 : a.getD 0 0 = 0) (b0 : b.getD 0 0 = 0) : (plusL a b 1).getD 0 0 = 0 := by
  rw [plusL_at ha hb (by omega), a0, b0, Int.mul_zero]
  exact show nm (0 + 0) = 0 from by kernel_rfl
theorem Inf.p9 {a b : List Int} (k : Int) (ha : Inf a) (hb : Inf b) : Inf (plusL a (scaledL b k) 1) :=
  ⟨plusL_map ha.len (scaledL_38 hb.len), plusL_first ha.len (scaledL_38 hb.len) ha.first (scaledL_first k hb.len hb.first)⟩
theorem sumL_inf {b c : List Int} (hb : Inf b) (hc : Inf c) : Inf (sumL b c) :=
  ((((hb.p9 1 hc).p9 5004 (Inf.br _ _)).p9 834 (Inf.br _ _)).p9 834 (Inf.br _ _)).p9 9590 (Inf.br _ _)
theorem agree_of {n : Nat} {a b : List Int} (h : AgU n a b) (ha : a.length = 38) (hb : b.length = 38) (hn : n ≤ 6) : (n : Int) ≤ agreeL a b := by
  rw [← trunc_agree ha hb (by omega)]
  refine List.ext_getElem (by rw [keepL_len ha, keepL_len hb]) fun i h1 h2 => ?_
  have hl : i < 38 := by rw [keepL_len ha] at h1; exact h1
  rw [keepL_get h1 (by rw [placesN_len]; exact hl) (by omega), keepL_get h2 (by rw [placesN_len]; exact hl) (by omega), placesN_K]
  by_cases hp : placesK.getD i 0 ≤ n
  · have e := h i hl hp
    rw [getD_of (by omega), getD_of (by omega)] at e
    rw [e]
  · rw [if_neg (by simp only [decide_eq_true_eq]; omega), if_neg (by simp only [decide_eq_true_eq]; omega)]
/-- The logarithm of a product. -/
theorem product_begin {b c : List Int} (hb : Inf b) (hc : Inf c) : 4 ≤ agreeL (logL (convR modR cutLit (expL b) (expL c))) (sumL b c) ∧ convR modR cutLit (expL b) (expL c) = expL (logL (convR modR cutLit (expL b) (expL c))) := by
  have hcv : isMap (convR modR cutLit (expL b) (expL c)) = true := isMap_of (convR_len _ _) (convR_all (expL_all _) (by rw [expL_len]; omega))
  have hc0 : (convR modR cutLit (expL b) (expL c)).getD 0 0 = 1 := by
    show (expL c).getD 0 _ = 1
    exact expL_first c
  have e := exp_log hcv hc0
  refine ⟨?_, e.symm⟩
  have hs := sumL_inf hb hc
  have h1 := bch hb.map hb.first hc.map hc.first
  rw [← e] at h1
  have hl := isMap_38 hcv
  refine agree_of (n := 4) ?_ (logL_len hl) hs.len (by omega)
  refine exp_inj (logL_map hl) (logL_first hl) hs.map hs.first 4 (agU_take ?_)
  exact h1.symm
end Go.Rk
