/- Plain facts: one tree cut off above a node, and the table of cuts. -/
import Derived.Test.YtncilhecdihmeaaM1
import Derived.Test.YtncilhecdihmeaaD5
namespace Go.Rk
open Go.Fw Go.Proofs
theorem getDAt {a : List Int} {i : Nat} (h : i < a.length) : a.getD i 0 = a[i] := by rw [List.getD_eq_getElem?_getD, List.getElem?_eq_getElem h]; rfl
def endGo (t : List Int) (x : Int) : Nat → Nat → Nat
  | 0, e => e
  | f + 1, e => if e < t.length ∧ x < t.getD e 0 then endGo t x f (e + 1) else e
/-- Where the branch over a node ends. -/
def endA (t : List Int) (n : Nat) : Nat := endGo t (t.getD n 0) t.length (n + 1)
def brA (t : List Int) (n : Nat) : List Int := ((t.take (endA t n)).drop n).map fun x => x - t.getD n 0
def restA (t : List Int) (n : Nat) : List Int := t.take n ++ t.drop (endA t n)
def cutA (t : List Int) (n : Nat) : List Int × List Int := (canonI 8 (restA t n), canonI 8 (brA t n))
theorem endGo_le (t : List Int) (x : Int) : ∀ f e, e ≤ t.length → e ≤ endGo t x f e ∧ endGo t x f e ≤ t.length
  | 0, e, h => ⟨Nat.le_refl _, h⟩
  | f + 1, e, h => by
    unfold endGo
    split
    · rename_i h1
      have := endGo_le t x f (e + 1) (by omega)
      omega
    · omega
theorem endA_bd {t : List Int} {n : Nat} (h : n < t.length) : n + 1 ≤ endA t n ∧ endA t n ≤ t.length := endGo_le t _ _ _ (by omega)
theorem endGo_stop {t : List Int} {x : Int} {f e : Nat} (h : ¬ (e < t.length ∧ x < t.getD e 0)) : endGo t x f e = e := by
  cases f with
  | zero => rfl
  | succ f => unfold endGo; rw [if_neg h]
theorem endGo_step {t : List Int} {x : Int} {f e : Nat} (h : e < t.length ∧ x < t.getD e 0) : endGo t x (f + 1) e = endGo t x f (e + 1) := by rw [endGo, if_pos h]
def trees37 : List (List Int) := [[0], [0, 1], [0, 1, 2], [0, 1, 1], [0, 1, 2, 3], [0, 1, 2, 2], [0, 1, 2, 1], [0, 1, 1, 1], [0, 1, 2, 3, 4],
  [0, 1, 2, 3, 3], [0, 1, 2, 3, 2], [0, 1, 2, 3, 1], [0, 1, 2, 2, 2], [0, 1, 2, 2, 1], [0, 1, 2, 1, 2], [0, 1, 2, 1, 1],
  [0, 1, 1, 1, 1], [0, 1, 2, 3, 4, 5], [0, 1, 2, 3, 4, 4], [0, 1, 2, 3, 4, 3], [0, 1, 2, 3, 4, 2], [0, 1, 2, 3, 4, 1],
  [0, 1, 2, 3, 3, 3], [0, 1, 2, 3, 3, 2], [0, 1, 2, 3, 3, 1], [0, 1, 2, 3, 2, 3], [0, 1, 2, 3, 2, 2],
  [0, 1, 2, 3, 2, 1], [0, 1, 2, 3, 1, 2], [0, 1, 2, 3, 1, 1], [0, 1, 2, 2, 2, 2], [0, 1, 2, 2, 2, 1],
  [0, 1, 2, 2, 1, 2], [0, 1, 2, 2, 1, 1], [0, 1, 2, 1, 2, 1], [0, 1, 2, 1, 1, 1], [0, 1, 1, 1, 1, 1]]
def pairs37 : List (List (Nat × Nat)) := [[], [(0, 0)], [(0, 1), (1, 0)], [(1, 0), (1, 0)], [(0, 2), (1, 1), (2, 0)], [(0, 3), (2, 0), (2, 0)],
  [(1, 1), (3, 0), (2, 0)], [(3, 0), (3, 0), (3, 0)], [(0, 4), (1, 2), (2, 1), (4, 0)],
  [(0, 5), (1, 3), (4, 0), (4, 0)], [(0, 6), (2, 1), (5, 0), (4, 0)], [(1, 2), (3, 1), (6, 0), (4, 0)],
  [(0, 7), (5, 0), (5, 0), (5, 0)], [(1, 3), (6, 0), (6, 0), (5, 0)], [(2, 1), (6, 0), (2, 1), (6, 0)],
  [(3, 1), (7, 0), (6, 0), (6, 0)], [(7, 0), (7, 0), (7, 0), (7, 0)], [(0, 8), (1, 4), (2, 2), (4, 1), (8, 0)],
  [(0, 9), (1, 5), (2, 3), (8, 0), (8, 0)], [(0, 10), (1, 6), (4, 1), (9, 0), (8, 0)],
  [(0, 11), (2, 2), (5, 1), (10, 0), (8, 0)], [(1, 4), (3, 2), (6, 1), (11, 0), (8, 0)],
  [(0, 12), (1, 7), (9, 0), (9, 0), (9, 0)], [(0, 13), (2, 3), (10, 0), (10, 0), (9, 0)],
  [(1, 5), (3, 3), (11, 0), (11, 0), (9, 0)], [(0, 14), (4, 1), (10, 0), (4, 1), (10, 0)],
  [(0, 15), (5, 1), (12, 0), (10, 0), (10, 0)], [(1, 6), (6, 1), (13, 0), (11, 0), (10, 0)],
  [(2, 2), (6, 1), (14, 0), (4, 1), (11, 0)], [(3, 2), (7, 1), (15, 0), (11, 0), (11, 0)],
  [(0, 16), (12, 0), (12, 0), (12, 0), (12, 0)], [(1, 7), (13, 0), (13, 0), (13, 0), (12, 0)],
  [(2, 3), (14, 0), (14, 0), (5, 1), (13, 0)], [(3, 3), (15, 0), (15, 0), (13, 0), (13, 0)],
  [(6, 1), (15, 0), (6, 1), (15, 0), (14, 0)], [(7, 1), (16, 0), (15, 0), (15, 0), (15, 0)],
  [(16, 0), (16, 0), (16, 0), (16, 0), (16, 0)]]
theorem trees37_eq : treesTo 6 = trees37 := by kernel_rfl
/-- A tree, by its number. -/
def T37 (i : Nat) : List Int := trees37.getD i []
theorem trees37_len : trees37.length = 37 := rfl
theorem T37_get {i : Nat} (h : i < (treesTo 6).length) : (treesTo 6)[i] = T37 i := by
  unfold T37
  rw [List.getD_eq_getElem?_getD, ← trees37_eq, List.getElem?_eq_getElem h]; rfl
theorem T37_mem {i : Nat} (h : i < 37) : T37 i ∈ treesTo 6 := by
  rw [← T37_get (by rw [treesTo_len]; exact h)]; exact List.getElem_mem _
def injB : Bool := (List.range 37).all fun a => (List.range 37).all fun b => Nat.beq a b || T37 a != T37 b
theorem injB_true : injB = true := by kernel_rfl
theorem T37_inj {a b : Nat} (ha : a < 37) (hb : b < 37) (h : T37 a = T37 b) : a = b := by
  have h1 := List.all_eq_true.1 (List.all_eq_true.1 injB_true a (List.mem_range.2 ha)) b (List.mem_range.2 hb)
  rw [Bool.or_eq_true] at h1
  rcases h1 with h1 | h1
  · exact Nat.eq_of_beq_eq_true h1
  · rw [h] at h1; simp at h1
/-- What the program meets at a tree: it is canonical, and so are the parts' forms; they are levels of at most 8 nodes. -/
def cutsB : Bool := (List.range 37).all fun n => let t := T37 n
  canonI 8 t == t && isLev t && decide (t.length ≤ 6) && decide ((pairs37.getD n []).length + 1 = t.length) &&
  (List.range (t.length - 1)).all fun j => let p := (pairs37.getD n []).getD j (0, 0)
    decide (p.1 < 37 ∧ p.2 < 37) && isLev (restA t (j + 1)) && isLev (brA t (j + 1)) && decide ((restA t (j + 1)).length ≤ 8 ∧ (brA t (j + 1)).length ≤ 8) && cutA t (j + 1) == (T37 p.1, T37 p.2)
theorem cutsB_true : cutsB = true := by kernel_rfl
theorem cuts_tree {n : Nat} (h : n < 37) : canonI 8 (T37 n) = T37 n ∧ isLev (T37 n) = true ∧ (T37 n).length ≤ 6 ∧ (pairs37.getD n []).length + 1 = (T37 n).length := by
  have h1 := List.all_eq_true.1 cutsB_true n (List.mem_range.2 h)
  simp only [Bool.and_eq_true, decide_eq_true_eq, beq_iff_eq] at h1
  exact ⟨h1.1.1.1.1, h1.1.1.1.2, h1.1.1.2, h1.1.2⟩
theorem cuts_node {n j : Nat} (h : n < 37) (hj : j + 1 < (T37 n).length) : isLev (restA (T37 n) (j + 1)) = true ∧ isLev (brA (T37 n) (j + 1)) = true ∧ (restA (T37 n) (j + 1)).length ≤ 8 ∧ (brA (T37 n) (j + 1)).length ≤ 8 ∧
    ∃ p, (pairs37.getD n [])[j]? = some p ∧ p.1 < 37 ∧ p.2 < 37 ∧ cutA (T37 n) (j + 1) = (T37 p.1, T37 p.2) := by
  have h0 := (cuts_tree h).2.2.2
  have h1 := List.all_eq_true.1 cutsB_true n (List.mem_range.2 h)
  simp only [Bool.and_eq_true, decide_eq_true_eq, beq_iff_eq] at h1
  have h2 := List.all_eq_true.1 h1.2 j (List.mem_range.2 (by omega))
  simp only [Bool.and_eq_true, decide_eq_true_eq, beq_iff_eq] at h2
  refine ⟨h2.1.1.1.2, h2.1.1.2, h2.1.2.1, h2.1.2.2, (pairs37.getD n [])[j]'(by omega), List.getElem?_eq_getElem _, ?_⟩
  have e : (pairs37.getD n []).getD j (0, 0) = (pairs37.getD n [])[j]'(by omega) := by rw [List.getD_eq_getElem?_getD, List.getElem?_eq_getElem (by omega)]; rfl
  rw [e] at h2
  exact ⟨h2.1.1.1.1.1, h2.1.1.1.1.2, h2.2⟩
/-- How many of some cuts are a given one. -/
def cntP (k i : Nat) : List (Nat × Nat) → Nat
  | [] => 0
  | p :: l => (bif Nat.beq p.1 k && Nat.beq p.2 i then 1 else 0) + cntP k i l
theorem cntP_append (k i : Nat) : ∀ a b, cntP k i (a ++ b) = cntP k i a + cntP k i b
  | [], b => by simp [cntP]
  | p :: a, b => by rw [List.cons_append, cntP, cntP, cntP_append k i a b, Nat.add_assoc]
theorem cntP_le (k i : Nat) : ∀ l, cntP k i l ≤ l.length
  | [] => by simp [cntP]
  | p :: l => by
    have := cntP_le k i l
    rw [cntP, List.length_cons]
    cases Nat.beq p.1 k && Nat.beq p.2 i <;> simp <;> omega
/-- The action of one tree's map on another one's. -/
def sumU (i k : Nat) : List RowD → Int
  | [] => 0
  | r :: rs => (match r.2.1 with
    | [c] => bif Nat.beq c (i + 1) && Nat.beq r.2.2 (k + 1) then r.1 else 0
    | _ => 0) + sumU i k rs
def unitAt (i : Nat) : List Int := zerosM.set (i + 1) 1
theorem unitAt_get {i c : Nat} (hi : i < 37) (hc : c < 38) : (unitAt i).getD c 0 = if c = i + 1 then 1 else 0 := by
  have hz : zerosM.length = 38 := List.length_replicate
  unfold unitAt
  rw [List.getD_eq_getElem?_getD, List.getElem?_eq_getElem (by rw [List.length_set, hz]; exact hc), Option.getD_some, List.getElem_set]
  by_cases h : c = i + 1
  · rw [if_pos h, if_pos h.symm]
  · rw [if_neg h, if_neg (fun e => h e.symm)]
    exact List.getElem_replicate _
theorem actTerm_unit {i k : Nat} (hi : i < 37) (hk : k < 37) {r : RowD} (hr1 : 1 ≤ r.1 ∧ r.1 ≤ 100) (ht : r.2.2 < 38) (hc : ∀ c ∈ r.2.1, c < 38) :
    actTerm (unitAt i) (unitAt k) r = (match r.2.1 with
      | [c] => bif Nat.beq c (i + 1) && Nat.beq r.2.2 (k + 1) then r.1 else 0
      | _ => 0) := by
  obtain ⟨m, cs, t⟩ := r
  match cs, hc with
  | [], _ => rfl
  | _ :: _ :: _, _ => rfl
  | [c], hc =>
    have hc1 := hc c (by simp)
    dsimp only at hr1 ht
    show nm (m * nm ((unitAt i).getD c 0 * (unitAt k).getD t 0)) = bif Nat.beq c (i + 1) && Nat.beq t (k + 1) then m else 0
    rw [unitAt_get hi hc1, unitAt_get hk ht]
    by_cases h1 : c = i + 1
    · by_cases h2 : t = k + 1
      · subst h1 h2
        rw [if_pos rfl, if_pos rfl, Nat.beq_refl, Nat.beq_refl]
        show nm (m * nm (1 * 1)) = m
        unfold nm; omega
      · rw [if_neg h2, Int.mul_zero]
        have : Nat.beq t (k + 1) = false := by rw [← Bool.not_eq_true]; exact fun e => h2 (Nat.eq_of_beq_eq_true e)
        rw [this, Bool.and_false]
        show nm (m * nm 0) = 0
        unfold nm; omega
    · rw [if_neg h1, Int.zero_mul]
      have : Nat.beq c (i + 1) = false := by rw [← Bool.not_eq_true]; exact fun e => h1 (Nat.eq_of_beq_eq_true e)
      rw [this, Bool.false_and]
      show nm (m * nm 0) = 0
      unfold nm; omega
theorem actSum_unit {i k : Nat} (hi : i < 37) (hk : k < 37) : ∀ {rs : List RowD}, (∀ r ∈ rs, (1 ≤ r.1 ∧ r.1 ≤ 100) ∧ r.2.2 < 38 ∧ ∀ c ∈ r.2.1, c < 38) → actSum (unitAt i) (unitAt k) rs = sumU i k rs
  | [], _ => rfl
  | r :: rs, h => by
    have h1 := h r (by simp)
    rw [actSum, sumU, actTerm_unit hi hk h1.1 h1.2.1 h1.2.2, actSum_unit hi hk fun r hr => h r (by simp [hr])]
def actionsB : Bool := (List.range 37).all fun n => (List.range 9).all fun k => (List.range 9).all fun i => sumU i k (cutLit.getD n []) == (cntP k i (pairs37.getD n []) : Int)
theorem actionsB_true : actionsB = true := by kernel_rfl
/-- One tree's map acts on another one's by the numbers of cuts that leave both. -/
theorem actions {n k i : Nat} (hn : n < 37) (hk : k < 9) (hi : i < 9) (h2 : n + 1 < (actR modR cutLit (unitAt i) (unitAt k)).length) : (actR modR cutLit (unitAt i) (unitAt k))[n + 1] = nm (cntP k i (pairs37.getD n []) : Int) := by
  have hl : n < cutLit.length := by rw [cutLit_len]; exact hn
  have h1 := List.all_eq_true.1 (List.all_eq_true.1 (List.all_eq_true.1 actionsB_true n (List.mem_range.2 hn)) k (List.mem_range.2 hk)) i (List.mem_range.2 hi)
  rw [beq_iff_eq, List.getD_eq_getElem?_getD, List.getElem?_eq_getElem hl] at h1
  rw [actR_get _ _ hl h2, ← h1]
  congr 1
  obtain ⟨_, hr⟩ := cutLit_row (List.getElem_mem hl)
  exact actSum_unit (by omega) (by omega) fun r hr' => ⟨(hr r hr').1, (hr r hr').2.1, fun c hc => ((hr r hr').2.2.2 c hc).2⟩
end Go.Rk
