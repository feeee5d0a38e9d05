/- Plain facts: canonical trees and all trees, the reference's way. -/
import Derived.Test.YtgjpdjblchgfdaaPl13
namespace Go.Rk
open Go.Fw Go.Proofs
def lessL : List Int → List Int → Bool
  | x :: xs, y :: ys => if x ≠ y then decide (x < y) else lessL xs ys
  | [], ys => decide (0 < ys.length)
  | _ :: _, [] => false
theorem lessL_drop {xs ys : List Int} {i : Nat} (h1 : i < xs.length) (h2 : i < ys.length) : lessL (xs.drop i) (ys.drop i) = if xs[i] ≠ ys[i] then decide (xs[i] < ys[i]) else lessL (xs.drop (i + 1)) (ys.drop (i + 1)) := by
  rw [List.drop_eq_getElem_cons h1, List.drop_eq_getElem_cons h2, lessL]
theorem lessL_end {xs ys : List Int} {i : Nat} (h1 : i ≤ xs.length) (h2 : i ≤ ys.length) (h : ¬ (i < xs.length ∧ i < ys.length)) : lessL (xs.drop i) (ys.drop i) = decide (xs.length < ys.length) := by
  by_cases hx : i < xs.length
  · have hy : ys.length ≤ i := by omega
    rw [List.drop_eq_getElem_cons hx, List.drop_eq_nil_of_le hy, lessL, decide_eq_false (by omega)]
  · rw [List.drop_eq_nil_of_le (by omega), lessL, List.length_drop]
    by_cases h3 : xs.length < ys.length
    · rw [decide_eq_true h3, decide_eq_true (by omega)]
    · rw [decide_eq_false h3, decide_eq_false (by omega)]
/-- Where a part is put in: ahead of the first one that is less. -/
def insAt (part : List Int) : List (List Int) → Nat
  | [] => 0
  | s :: ss => if lessL s part = true then 0 else insAt part ss + 1
theorem insAt_le (part : List Int) (ss : List (List Int)) : insAt part ss ≤ ss.length := by
  induction ss with
  | nil => simp [insAt]
  | cons s ss ih => unfold insAt; split <;> simp <;> omega
theorem insAt_drop {part : List Int} {ss : List (List Int)} {i : Nat} (h : i < ss.length) : i + insAt part (ss.drop i) = if lessL ss[i] part = true then i else (i + 1) + insAt part (ss.drop (i + 1)) := by
  rw [List.drop_eq_getElem_cons h, insAt]
  split <;> omega
def insL (part : List Int) (ss : List (List Int)) : List (List Int) := ss.take (insAt part ss) ++ ([part] ++ ss.drop (insAt part ss))
theorem insL_length (part : List Int) (ss : List (List Int)) : (insL part ss).length = ss.length + 1 := by
  have := insAt_le part ss
  unfold insL
  rw [List.length_append, List.length_append, List.length_take, List.length_drop, List.length_singleton]
  omega
def sortGo (g : List Int → List Int) : List (List Int) → List (List Int) → List (List Int)
  | ss, [] => ss
  | ss, b :: bs => sortGo g (insL (g b) ss) bs
theorem sortGo_drop {g : List Int → List Int} {bs : List (List Int)} {i : Nat} (h : i < bs.length) (ss : List (List Int)) : sortGo g ss (bs.drop i) = sortGo g (insL (g bs[i]) ss) (bs.drop (i + 1)) := by
  rw [List.drop_eq_getElem_cons h, sortGo]
theorem sortGo_ok {g : List Int → List Int} {M : Nat} (bs ss : List (List Int)) (h1 : ∀ b ∈ bs, (g b).length ≤ M) (h2 : ∀ s ∈ ss, s.length ≤ M) : (sortGo g ss bs).length = ss.length + bs.length ∧ ∀ s ∈ sortGo g ss bs, s.length ≤ M := by
  induction bs generalizing ss with
  | nil => exact ⟨rfl, h2⟩
  | cons b bs ih =>
    have := ih (insL (g b) ss) (fun b' hb => h1 b' (by simp [hb])) (fun s hs => by
      unfold insL at hs
      rcases List.mem_append.1 hs with hs | hs
      · exact h2 s (List.mem_of_mem_take hs)
      · rcases List.mem_append.1 hs with hs | hs
        · simp only [List.mem_singleton] at hs; subst hs; exact h1 b (by simp)
        · exact h2 s (List.mem_of_mem_drop hs))
    rw [sortGo]
    refine ⟨?_, this.2⟩
    rw [this.1, insL_length, List.length_cons]
    omega
def incW (x : Int) : Int := IntKind.i64.wrap (x + 1)
def canonL : Nat → List Int → List Int
  | 0, _ => []
  | f + 1, t => 0 :: ((sortGo (canonL f) [] (branchesL t)).flatten.map incW)
theorem flat_le {xss : List (List Int)} {M : Nat} (h : ∀ s ∈ xss, s.length ≤ M) : xss.flatten.length ≤ M * xss.length := by
  induction xss with
  | nil => simp
  | cons x xss ih =>
    have h1 := h x (by simp)
    have h2 := ih fun s hs => h s (by simp [hs])
    rw [List.flatten_cons, List.length_append, List.length_cons, Nat.mul_succ]
    omega
theorem ten_pos (f : Nat) : 1 ≤ 10 ^ f := by
  induction f with
  | zero => exact Nat.le_refl _
  | succ f ih => rw [Nat.pow_succ]; omega
theorem canonL_len (f : Nat) : ∀ {t : List Int}, Lv t → t.length ≤ 8 → (canonL f t).length ≤ 10 ^ f := by
  induction f with
  | zero => intro t _ _; simp [canonL]
  | succ f ih =>
    intro t ht hn
    have hb := branches_ok ht
    have hs := sortGo_ok (g := canonL f) (M := 10 ^ f) (branchesL t) [] (fun b hb' => ih (hb.2 b hb').1 (by have := (hb.2 b hb').2; omega)) (fun s hs => by simp at hs)
    have hf := flat_le hs.2
    rw [canonL, List.length_cons, List.length_map]
    rw [hs.1] at hf
    have h1 : 10 ^ f * (([] : List (List Int)).length + (branchesL t).length) ≤ 10 ^ f * 7 := Nat.mul_le_mul_left _ (by simp; omega)
    have h2 := ten_pos f
    rw [Nat.pow_succ]
    omega
def growDown (g : Int → List (List Int)) : Nat → List (List Int)
  | 0 => []
  | m + 1 => g ((m : Int) + 1) ++ growDown g m
def growL : Nat → List Int → List (List Int)
  | 0, t => if canonL 8 t = t then [t] else []
  | f + 1, t => growDown (fun l => growL f (t ++ [l])) (t.getLast?.getD 0 + 1).toNat
theorem grow_check : ((List.range 6).all fun i => decide (growL i [0] = treesN (i + 1))) = true := by kernel_rfl
theorem grow_eq {n : Nat} (h0 : 1 ≤ n) (h1 : n ≤ 6) : growL (n - 1) [0] = treesN n := by
  have h := List.all_eq_true.1 grow_check (n - 1) (List.mem_range.2 (by omega))
  have := of_decide_eq_true h
  rw [this, show n - 1 + 1 = n from by omega]
end Go.Rk
