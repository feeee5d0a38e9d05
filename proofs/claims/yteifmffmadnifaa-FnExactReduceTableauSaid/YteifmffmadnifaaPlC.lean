/- Plain facts: a list that has each stage once. -/
import Derived.Test.YteifmffmadnifaaPlB
namespace Go.Rk
open Go.Fw Go.Proofs
def sortL (xs : List Int) : List Int := xs.mergeSort fun x y => decide (x ≤ y)
theorem sortL_length (xs : List Int) : (sortL xs).length = xs.length := List.length_mergeSort _
theorem firstT_mem {n : Nat} {v : Int} : v ∈ firstT n ↔ 0 ≤ v ∧ v < n := by
  unfold firstT
  rw [List.mem_map]
  constructor
  · rintro ⟨i, hi, rfl⟩
    have := List.mem_range.1 hi
    omega
  · rintro ⟨h0, h1⟩
    exact ⟨v.toNat, List.mem_range.2 (by omega), by omega⟩
theorem firstT_succ (n : Nat) : firstT (n + 1) = firstT n ++ [((n : Nat) : Int)] := by unfold firstT; rw [List.range_succ, List.map_append]; rfl
theorem firstT_incr (n : Nat) : (firstT n).Pairwise (· < ·) := by
  unfold firstT
  rw [List.pairwise_map]
  exact List.Pairwise.imp (fun h => by omega) List.pairwise_lt_range
theorem perm_first {n : Nat} {xs : List Int} (hl : xs.length = n) (h : ∀ i : Nat, i < n → ((i : Nat) : Int) ∈ xs) : xs.Perm (firstT n) := by
  induction n generalizing xs with
  | zero =>
    have : xs = [] := List.eq_nil_of_length_eq_zero hl
    subst this
    exact List.Perm.refl _
  | succ n ih =>
    have hm := h n (by omega)
    have h1 := List.perm_cons_erase hm
    have hle : (xs.erase ((n : Nat) : Int)).length = n := by rw [List.length_erase_of_mem hm]; omega
    have h2 := ih hle fun i hi => (List.mem_erase_of_ne (by omega)).2 (h i (by omega))
    rw [firstT_succ]
    exact (h1.trans (h2.cons _)).trans (List.perm_append_singleton _ _).symm
theorem sort_first {n : Nat} {xs : List Int} : sortL xs = firstT n ↔ xs.length = n ∧ ∀ i : Nat, i < n → ((i : Nat) : Int) ∈ xs := by
  constructor
  · intro h
    have hl := sortL_length xs
    rw [h, firstT_length] at hl
    refine ⟨hl.symm, fun i hi => ?_⟩
    have : ((i : Nat) : Int) ∈ sortL xs := by rw [h]; exact firstT_mem.2 (by omega)
    unfold sortL at this
    exact List.mem_mergeSort.1 this
  · rintro ⟨hl, h⟩
    have hp := perm_first hl h
    have hs : (sortL xs).Pairwise (· ≤ ·) := by
      have := List.pairwise_mergeSort (le := fun (x y : Int) => decide (x ≤ y)) (fun a b c h1 h2 => by simp at h1 h2 ⊢; omega) (fun a b => by simp; omega) xs
      exact List.Pairwise.imp (fun h => by simpa using h) this
    have hp2 : (sortL xs).Perm (firstT n) := (List.mergeSort_perm xs _).trans hp
    have hne : (sortL xs).Pairwise (· ≠ ·) := (hp2.pairwise_iff (fun h => Ne.symm h)).2 (List.Pairwise.imp (fun h => by omega) (firstT_incr n))
    refine incr_ext ?_ (firstT_incr n) fun v => hp2.mem_iff
    exact List.Pairwise.imp₂ (fun a b (h1 : a ≤ b) (h2 : a ≠ b) => by omega) hs hne
def permuteStages (x : TabD) (o : List Int) : TabD × Int := if isTab x = true then (if sortL o = firstT x.2.length then (permL x o, 0) else (([], []), 2)) else (([], []), 1)
theorem sort_ok {n : Nat} {o : List Int} (h : sortL o = firstT n) : o.length = n ∧ OrdOk n o := by
  refine ⟨(sort_first.1 h).1, fun v hv => ?_⟩
  have : v ∈ sortL o := List.mem_mergeSort.2 hv
  rw [h, firstT_mem] at this
  exact this
theorem permuteStages_len (x : TabD) (o : List Int) : tabCnt (permuteStages x o).1 ≤ 1000000 := by
  unfold permuteStages
  split
  · rename_i h
    have hx := isTab_iff h
    split
    · rename_i h2
      obtain ⟨h3, h4⟩ := sort_ok h2
      have h8 := hx.le8
      have hp := hx.pos
      have := tab_cnt (permL_tab hx h4 (fun e => by rw [e] at h3; simp at h3; omega) (by omega))
      show tabCnt (permL x o) ≤ 1000000
      omega
    · decide
  · decide
end Go.Rk
