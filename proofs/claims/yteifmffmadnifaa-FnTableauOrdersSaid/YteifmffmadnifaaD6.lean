/- Plain facts: what a tableau's order says of its faults and residuals. -/
import Derived.Test.YteifmffmadnifaaD5
namespace Go.Rk
open Go.Fw Go.Proofs
theorem inv_check : ((treesTo 6).all fun t => decide (nm (powN (nm (densL 8 t)) 10005 * nm (densL 8 t)) = 1)) = true := by kernel_rfl
theorem inv_ok {t : List Int} (h : t ∈ treesTo 6) : nm (powN (nm (densL 8 t)) 10005 * nm (densL 8 t)) = 1 := of_decide_eq_true (List.all_eq_true.1 inv_check t h)
theorem treesN_sub {n : Nat} (h0 : 1 ≤ n) (h1 : n ≤ 6) {t : List Int} (h : t ∈ treesN n) : t ∈ treesTo 6 := by
  have e : ∀ k, ∃ r, treesTo (n + k) = treesTo n ++ r := fun k => by
    induction k with
    | zero => exact ⟨[], by rw [Nat.add_zero, List.append_nil]⟩
    | succ k ih => obtain ⟨r, hr⟩ := ih; exact ⟨r ++ treesN (n + k + 1), by rw [show n + (k + 1) = n + k + 1 from rfl, treesTo, hr, List.append_assoc]⟩
  obtain ⟨r, hr⟩ := e (6 - n)
  rw [show n + (6 - n) = 6 from by omega] at hr
  rw [hr]
  refine List.mem_append.2 (Or.inl ?_)
  obtain ⟨m, rfl⟩ : ∃ m, n = m + 1 := ⟨n - 1, by omega⟩
  rw [treesTo]
  exact List.mem_append.2 (Or.inr h)
theorem nm_back (w q d : Int) : nm ((w - nm (w - q)) * d) = nm (q * d) := by
  have h : w - nm (w - q) = q + 10007 * ((w - q) / 10007) := by unfold nm; omega
  rw [h, Int.add_mul]
  unfold nm
  rw [show 10007 * ((w - q) / 10007) * d = 10007 * ((w - q) / 10007 * d) from Int.mul_assoc _ _ _]
  exact Int.add_mul_emod_self_left _ _ _
theorem lack_one {x : TabD} {t : List Int} (h : t ∈ treesTo 6) : nm ((weightL x t - lackL x t) * nm (densL 8 t)) = 1 := by
  unfold lackL
  rw [nm_back]
  exact inv_ok h
theorem lack_bd (x : TabD) (t : List Int) : 0 ≤ lackL x t ∧ lackL x t ≤ 10006 := nm_bd _
theorem weight_bd (x : TabD) (t : List Int) : 0 ≤ weightL x t ∧ weightL x t ≤ 10006 := nm_bd _
theorem ord_bd (x : TabD) : 0 ≤ orderL x ∧ orderL x ≤ 6 := by
  have h : ∀ f p : Nat, p + f = 6 → 0 ≤ ordS x p f ∧ ordS x p f ≤ 6 := fun f => by
    induction f with
    | zero => intro p hp; rw [ordS]; omega
    | succ f ih => intro p hp; rw [ordS]; split; exact ih (p + 1) (by omega); omega
  rw [orderL_eq]
  exact h 6 0 rfl
theorem ok_mono (x : TabD) {n : Nat} (h : allOk x (treesTo (n + 1)) = true) : allOk x (treesTo n) = true := by rw [allOk_to, Bool.and_eq_true] at h; exact h.1
theorem ord_ok (x : TabD) : ∀ (f p : Nat), p + f = 6 → allOk x (treesTo p) = true → ∀ n : Nat, p ≤ n → n ≤ 6 → (allOk x (treesTo n) = true ↔ (n : Int) ≤ ordS x p f) := fun f => by
  induction f with
  | zero => intro p hp hok n h1 h2; rw [ordS, show n = p from by omega]; exact ⟨fun _ => Int.le_refl _, fun _ => hok⟩
  | succ f ih =>
    intro p hp hok n h1 h2
    rw [ordS]
    by_cases h3 : allOk x (treesTo (p + 1)) = true
    · rw [if_pos h3]
      by_cases h4 : p + 1 ≤ n
      · exact ih (p + 1) (by omega) h3 n h4 h2
      · have e : n = p := by omega
        subst e
        refine ⟨fun _ => ?_, fun _ => hok⟩
        have := (ih (n + 1) (by omega) h3 (n + 1) (by omega) (by omega)).1 h3
        omega
    · rw [if_neg h3]
      by_cases h4 : p + 1 ≤ n
      · refine ⟨fun h => absurd ?_ h3, fun h => by omega⟩
        have mono : ∀ k m, m = p + 1 + k → allOk x (treesTo m) = true → allOk x (treesTo (p + 1)) = true := fun k => by
          induction k with
          | zero => intro m hm h; rw [hm] at h; exact h
          | succ k ihk => intro m hm h; exact ihk _ rfl (ok_mono x (by rw [hm] at h; exact h))
        exact mono (n - (p + 1)) n (by omega) h
      · have e : n = p := by omega
        subst e
        exact ⟨fun _ => Int.le_refl _, fun _ => hok⟩
theorem ok_iff (x : TabD) {n : Nat} (h : n ≤ 6) : allOk x (treesTo n) = true ↔ (n : Int) ≤ orderL x := by
  rw [orderL_eq]
  exact ord_ok x 6 0 rfl rfl n (Nat.zero_le _) h
theorem okN_le (x : TabD) {n : Nat} (h0 : 1 ≤ n) (h : n ≤ 6) (hp : (n : Int) ≤ orderL x) : allOk x (treesN n) = true := by
  obtain ⟨m, rfl⟩ : ∃ m, n = m + 1 := ⟨n - 1, by omega⟩
  have := (ok_iff x h).2 hp
  rw [allOk_to, Bool.and_eq_true] at this
  exact this.2
theorem okN_gt (x : TabD) {n : Nat} (h0 : 1 ≤ n) (h : n ≤ 6) (hp : (n : Int) = orderL x + 1) : allOk x (treesN n) = false := by
  obtain ⟨m, rfl⟩ : ∃ m, n = m + 1 := ⟨n - 1, by omega⟩
  have h1 := (ok_iff x (n := m) (by omega)).2 (by omega)
  have h2 : ¬ allOk x (treesTo (m + 1)) = true := fun hh => by have := (ok_iff x h).1 hh; omega
  rw [allOk_to, h1, Bool.true_and] at h2
  cases hh : allOk x (treesN (m + 1))
  · rfl
  · exact absurd hh h2
theorem fault_at (x : TabD) : ∀ (ts : List (List Int)) (j : Nat), allOk x ts = false → ∃ k t, faultGo x (j : Int) ts = ((j + k : Nat) : Int) ∧ ts[k]? = some t ∧ lackL x t ≠ 0
  | [], _, h => by cases h
  | t :: ts, j, h => by
    rw [faultGo]
    by_cases h0 : lackL x t = 0
    · rw [if_neg (by simpa using h0)]
      have hall : allOk x (t :: ts) = (decide (lackL x t = 0) && allOk x ts) := rfl
      rw [hall, decide_eq_true h0, Bool.true_and] at h
      obtain ⟨k, t', h1, h2, h3⟩ := fault_at x ts (j + 1) h
      refine ⟨k + 1, t', ?_, h2, h3⟩
      rw [show j + (k + 1) = j + 1 + k from by omega, ← h1]
      rfl
    · rw [if_pos h0]
      exact ⟨0, t, rfl, rfl, h0⟩
theorem treesTo8_len : (treesTo8 8).length ≤ 200 := by
  have h : decide ((treesTo8 8).length ≤ 200) = true := by kernel_rfl
  exact of_decide_eq_true h
/-- The first fault of a tableau of the order n - 1. -/
theorem fault_len (x : TabD) {n : Nat} (h0 : 1 ≤ n) (h : n ≤ 6) (hp : (n : Int) = orderL x + 1) :
    ∃ i : Nat, faultL x n = (i : Int) ∧ ∃ hi : i < (treesTo8 8).length, ((treesTo8 8)[i]).length = n := by
  obtain ⟨m, rfl⟩ : ∃ m, n = m + 1 := ⟨n - 1, by omega⟩
  have h1 := (ok_iff x (n := m) (by omega)).2 (by omega)
  have h2 : allOk x (treesTo (m + 1)) = false := by
    cases hh : allOk x (treesTo (m + 1))
    · rfl
    · have := (ok_iff x h).1 hh; omega
  obtain ⟨k, t, h3, h4, h5⟩ := fault_at x _ 0 h2
  rw [Nat.zero_add] at h3
  obtain ⟨r, hr⟩ := treesTo8_pre h
  have hk := (List.getElem?_eq_some_iff.1 h4).1
  have hk8 : k < (treesTo8 8).length := by rw [hr, List.length_append]; omega
  refine ⟨k, h3, hk8, ?_⟩
  have e : (treesTo8 8)[k]? = some t := by rw [hr, List.getElem?_append_left hk]; exact h4
  rw [List.getElem?_eq_getElem hk8, Option.some.injEq] at e
  rw [e]
  rw [treesTo, List.getElem?_append] at h4
  split at h4
  · have := List.all_eq_true.1 h1 t (List.mem_of_getElem? h4)
    exact absurd (of_decide_eq_true this) h5
  · exact ((treesN_ok h0 h).1 t (List.mem_of_getElem? h4)).2
theorem firstFault_le (x : TabD) {n : Nat} (hx : isTab x = true) (h0 : 1 ≤ n) (h : n ≤ 6) (hp : (n : Int) ≤ orderL x) : firstFault x (n : Nat) = (0, 4) := by
  have ht : tabNodes x (n : Nat) = 0 := by unfold tabNodes; rw [if_pos hx, if_pos ⟨by omega, by omega⟩]
  unfold firstFault
  rw [if_pos ht, Int.toNat_natCast, if_pos ((faultL_neg x n).2 ((ok_iff x h).2 hp))]
theorem firstFault_gt (x : TabD) {n : Nat} (hx : isTab x = true) (h0 : 1 ≤ n) (h : n ≤ 6) (hp : ¬ (n : Int) ≤ orderL x) : firstFault x (n : Nat) = (faultL x n, 0) := by
  have ht : tabNodes x (n : Nat) = 0 := by unfold tabNodes; rw [if_pos hx, if_pos ⟨by omega, by omega⟩]
  unfold firstFault
  rw [if_pos ht, Int.toNat_natCast, if_neg fun hh => hp ((ok_iff x h).1 ((faultL_neg x n).1 hh))]
theorem residualsOf_in (x : TabD) {n : Nat} (hx : isTab x = true) (h0 : 1 ≤ n) (h : n ≤ 6) : residualsOf x (n : Nat) = ((treesN n).map (lackL x), 0) := by
  have ht : tabNodes x (n : Nat) = 0 := by unfold tabNodes; rw [if_pos hx, if_pos ⟨by omega, by omega⟩]
  unfold residualsOf
  rw [if_pos ht, Int.toNat_natCast]
theorem isLev_of {t : List Int} (h : Lv t) (h8 : t.length ≤ 8) : isLev t = true := by
  unfold isLev
  rw [Bool.and_eq_true, decide_eq_true_eq]
  exact ⟨⟨h.pos, h8⟩, List.all_eq_true.2 fun i hi => h.at_ i (List.mem_range.1 hi)⟩
theorem allOk_take (x : TabD) {ts : List (List Int)} {i : Nat} (h : i < ts.length) : allOk x (ts.take (i + 1)) = (allOk x (ts.take i) && decide (lackL x ts[i] = 0)) := by
  unfold allOk
  rw [List.take_succ_eq_append_getElem h, List.all_append]
  simp
end Go.Rk
