/- Plain facts: exponentials, logarithms and convolutions of maps as lists. -/
import Derived.Test.YtncilhecdihmeaaG2
namespace Go.Rk
open Go.Fw Go.Proofs
def unitM : List Int := 1 :: List.replicate 37 0
theorem unitM_len : unitM.length = 38 := rfl
theorem unitM_all : allN unitM = true := by kernel_rfl
theorem isN_zero : isN 0 = true := by kernel_rfl
theorem nm_def (z : Int) : z % 10007 = nm z := by unfold nm; rfl
def facZ : Nat → Int
  | 0 => 1
  | n + 1 => facZ n * ((n + 1 : Nat) : Int)
/-- The inverse of a factorial. -/
def facInv (k : Nat) : Int := powN (nm (facZ k)) 10005
theorem facZ_bd {k : Nat} (h : k ≤ 6) : 1 ≤ facZ k ∧ facZ k ≤ 720 := by
  have : ((List.range 7).all fun k => decide (1 ≤ facZ k ∧ facZ k ≤ 720)) = true := by decide
  exact of_decide_eq_true (List.all_eq_true.1 this k (List.mem_range.2 (by omega)))
theorem facZ_nm {k : Nat} (h : k ≤ 6) : nm (facZ k) = facZ k := by have := facZ_bd h; unfold nm; omega
theorem plusL_all (a b : List Int) (k : Int) : allN (plusL a b k) = true := allN_plusL a b k
theorem plusL_38 {a b : List Int} {k : Int} (ha : a.length = 38) (hb : b.length = 38) : (plusL a b k).length = 38 := by rw [plusL_length, ha, hb]; rfl
/-- The sum so far, and the last power. -/
def expSt (b : List Int) : Nat → List Int × List Int
  | 0 => (unitM, unitM)
  | n + 1 => (plusL (expSt b n).1 (actR modR cutLit b (expSt b n).2) (facInv (n + 1)), actR modR cutLit b (expSt b n).2)
def expL (b : List Int) : List Int := (expSt b 6).1
theorem expSt_ok (b : List Int) : ∀ n, (expSt b n).1.length = 38 ∧ (expSt b n).2.length = 38 ∧ allN (expSt b n).1 = true ∧ allN (expSt b n).2 = true
  | 0 => ⟨rfl, rfl, unitM_all, unitM_all⟩
  | n + 1 => by
    have h := expSt_ok b n
    exact ⟨plusL_38 h.1 (actR_len _ _), actR_len _ _, plusL_all _ _ _, actR_all _ _⟩
theorem expL_len (b : List Int) : (expL b).length = 38 := (expSt_ok b 6).1
theorem expL_all (b : List Int) : allN (expL b) = true := (expSt_ok b 6).2.2.1
theorem keepL_all {p : Int → Bool} {a : List Int} (h : allN a = true) : allN (keepL p a) = true := allN_of fun y hy => by
  obtain ⟨i, hi, rfl⟩ := List.getElem_of_mem hy
  have hl : i < placesN.length ∧ i < a.length := by
    unfold keepL at hi; rw [List.length_zipWith] at hi; omega
  rw [keepL_get hi hl.1 hl.2]
  split
  · have := allN_get h hl.2; simp [isN]; exact this
  · exact isN_zero
/-- The logarithm, up to a number of nodes. -/
def logSt (a : List Int) : Nat → List Int
  | 0 => List.replicate 38 0
  | n + 1 => plusL (logSt a n) (keepL (fun m => decide (m = ((n + 1 : Nat) : Int))) (plusL a (expL (logSt a n)) (-1))) 1
def logL (a : List Int) : List Int := logSt a 6
theorem zeros_all (n : Nat) : allN (List.replicate n 0) = true := allN_of fun y hy => by rw [(List.mem_replicate.1 hy).2]; exact isN_zero
theorem logSt_ok {a : List Int} (ha : a.length = 38) : ∀ n, (logSt a n).length = 38 ∧ allN (logSt a n) = true
  | 0 => ⟨rfl, zeros_all 38⟩
  | n + 1 => by
    have h := logSt_ok ha n
    exact ⟨plusL_38 h.1 (keepL_len (plusL_38 ha (expL_len _))), plusL_all _ _ _⟩
/-- The values of a map, multiplied. -/
def valGo (a : List Int) : Int → List Nat → Int
  | out, [] => out
  | out, k :: c => valGo a (nm (out * a.getD k 0)) c
theorem prodR_isN (a : List Int) (c : List Nat) : 0 ≤ prodR modR a c ∧ prodR modR a c ≤ 10006 := by
  cases c with
  | nil => show 0 ≤ (1 : Int) % 10007 ∧ (1 : Int) % 10007 ≤ 10006; omega
  | cons k c => show 0 ≤ (_ : Int) % 10007 ∧ (_ : Int) % 10007 ≤ 10006; omega
theorem valGo_prod (a : List Int) : ∀ (c : List Nat) (out : Int), 0 ≤ out → out ≤ 10006 → valGo a out c = nm (out * prodR modR a c)
  | [], out, h0, h1 => by
    show out = nm (out * ((1 : Int) % 10007))
    rw [show (1 : Int) % 10007 = 1 from rfl, Int.mul_one]
    unfold nm; omega
  | k :: c, out, _, _ => by
    rw [valGo, valGo_prod a c _ (nm_bd _).1 (nm_bd _).2, nm_nm_mul]
    show _ = nm (out * (a.getD k ((0 : Int) % 10007) * prodR modR a c % 10007))
    rw [show ((0 : Int) % 10007) = 0 from rfl, nm_def, nm_mul_nm, Int.mul_assoc]
def convTerm (a b : List Int) (r : RowD) : Int := nm (r.1 * nm (prodR modR a r.2.1 * b.getD r.2.2 0))
def convSum (a b : List Int) : List RowD → Int
  | [] => 0
  | r :: rs => convTerm a b r + convSum a b rs
theorem convSum_append (a b : List Int) : ∀ x c, convSum a b (x ++ c) = convSum a b x + convSum a b c
  | [], c => by simp [convSum]
  | r :: x, c => by rw [List.cons_append, convSum, convSum, convSum_append a b x c, Int.add_assoc]
theorem convTerm_bd (a b : List Int) (r : RowD) : 0 ≤ convTerm a b r ∧ convTerm a b r ≤ 10006 := nm_bd _
theorem convSum_bd (a b : List Int) : ∀ rs, 0 ≤ convSum a b rs ∧ convSum a b rs ≤ 10006 * rs.length
  | [] => by simp [convSum]
  | r :: rs => by
    have h1 := convTerm_bd a b r
    have h2 := convSum_bd a b rs
    rw [convSum, List.length_cons]; omega
theorem rowR_sum (a b : List Int) : ∀ rs, rowR modR a b rs = nm (convSum a b rs)
  | [] => by simp [rowR, convSum, modR, nm]
  | r :: rs => by
    have h := rowR_sum a b rs
    show ((r.1 % 10007) * (prodR modR a r.2.1 * b.getD r.2.2 ((0 : Int) % 10007) % 10007) % 10007 + rowR modR a b rs) % 10007 = _
    rw [h, show ((0 : Int) % 10007) = 0 from rfl]
    show _ = nm (nm (r.1 * nm (prodR modR a r.2.1 * b.getD r.2.2 0)) + convSum a b rs)
    unfold nm
    rw [Int.add_emod_emod, Int.mul_emod r.1, Int.mul_emod (r.1 % 10007), Int.emod_emod]
theorem convR_len (a b : List Int) : (convR modR cutLit a b).length = 38 := by unfold convR; rw [List.length_cons, List.length_map, cutLit_len]
theorem convR_get (a b : List Int) {i : Nat} (h : i < cutLit.length) (h2 : i + 1 < (convR modR cutLit a b).length) : (convR modR cutLit a b)[i + 1] = nm (convSum a b cutLit[i]) := by
  simp only [convR, List.getElem_cons_succ, List.getElem_map]
  exact rowR_sum _ _ _
theorem convR_zero {a b : List Int} (hb : 0 < b.length) : (convR modR cutLit a b)[0]'(by rw [convR_len]; omega) = b[0] := by
  show b.getD 0 _ = _
  rw [List.getD_eq_getElem?_getD, List.getElem?_eq_getElem hb]; rfl
theorem convR_all {a b : List Int} (hb : allN b = true) (hb0 : 0 < b.length) : allN (convR modR cutLit a b) = true := allN_of fun y hy => by
  obtain ⟨i, hi, rfl⟩ := List.getElem_of_mem hy
  cases i with
  | zero => rw [convR_zero hb0]; have := allN_get hb hb0; simp [isN]; exact this
  | succ i =>
    rw [convR_len] at hi
    rw [convR_get a b (by rw [cutLit_len]; omega)]; exact nm_isN _
def zerosM : List Int := List.replicate 38 0
def bracketL (b c : List Int) : List Int := plusL (actR modR cutLit b c) (actR modR cutLit c b) (-1)
theorem plusL_neg (a b : List Int) : plusL a b (-1) = plusL a b 10006 := by unfold plusL; rw [show nm (-1) = nm 10006 from by kernel_rfl]
/-- The code of two maps that have to be infinitesimal. -/
def infTwo (b c : List Int) : Int := if isMap b = true ∧ isMap c = true then (if b.getD 0 0 ≠ 0 ∨ c.getD 0 0 ≠ 0 then 5 else 0) else 1
def bracketOf (b c : List Int) : List Int × Int := if infTwo b c = 0 then (bracketL b c, 0) else ([], infTwo b c)
def chCode (a : List Int) : Int := if isMap a = true then (if a.getD 0 0 ≠ 1 then 5 else 0) else 1
def expMap (b : List Int) : List Int × Int := if infTwo b b = 0 then (expL b, 0) else ([], infTwo b b)
def logMap (a : List Int) : List Int × Int := if chCode a = 0 then (logL a, 0) else ([], chCode a)
def flowMap (b : List Int) (s : Int) : List Int × Int := if isMap b = true then (if isN s = true then (if b.getD 0 0 ≠ 0 then ([], 5) else (expL (scaledL b s), 0)) else ([], 2)) else ([], 1)
def rootOfMap (a : List Int) (k : Int) : List Int × Int := if isMap a = true then (if 1 ≤ k ∧ k ≤ 100 then (if a.getD 0 0 ≠ 1 then ([], 5) else (expL (scaledL (logL a) (powN (nm k) 10005)), 0)) else ([], 2)) else ([], 1)
def logOfProduct (b c : List Int) : List Int × Int := if infTwo b c = 0 then (logL (convR modR cutLit (expL b) (expL c)), 0) else ([], infTwo b c)
theorem logL_len {a : List Int} (h : a.length = 38) : (logL a).length = 38 := (logSt_ok h 6).1
theorem bracketOf_len (b c : List Int) : (bracketOf b c).1.length ≤ 1000000 := by
  unfold bracketOf; split
  · show (plusL _ _ _).length ≤ _; rw [plusL_38 (actR_len _ _) (actR_len _ _)]; omega
  · simp
theorem expMap_len (b : List Int) : (expMap b).1.length ≤ 1000000 := by
  unfold expMap; split
  · show (expL b).length ≤ _; rw [expL_len]; omega
  · simp
theorem chCode_zero {a : List Int} (h : chCode a = 0) : isMap a = true ∧ a.getD 0 0 = 1 := by
  unfold chCode at h; split at h
  · rename_i h1; split at h
    · omega
    · exact ⟨h1, by omega⟩
  · omega
theorem infTwo_zero {b c : List Int} (h : infTwo b c = 0) : (isMap b = true ∧ isMap c = true) ∧ b.getD 0 0 = 0 ∧ c.getD 0 0 = 0 := by
  unfold infTwo at h; split at h
  · rename_i h1; split at h
    · omega
    · exact ⟨h1, by omega, by omega⟩
  · omega
theorem logMap_len (a : List Int) : (logMap a).1.length ≤ 1000000 := by
  unfold logMap; split
  · rename_i h; show (logL a).length ≤ _; rw [logL_len (isMap_38 (chCode_zero h).1)]; omega
  · simp
theorem flowMap_len (b : List Int) (s : Int) : (flowMap b s).1.length ≤ 1000000 := by
  unfold flowMap; split
  · split
    · split
      · simp
      · show (expL _).length ≤ _; rw [expL_len]; omega
    · simp
  · simp
theorem rootOfMap_len (a : List Int) (k : Int) : (rootOfMap a k).1.length ≤ 1000000 := by
  unfold rootOfMap; split
  · split
    · split
      · simp
      · show (expL _).length ≤ _; rw [expL_len]; omega
    · simp
  · simp
theorem logOfProduct_len (b c : List Int) : (logOfProduct b c).1.length ≤ 1000000 := by
  unfold logOfProduct; split
  · show (logL _).length ≤ _; rw [logL_len (convR_len _ _)]; omega
  · simp
end Go.Rk
