/- Plain facts: maps that agree up to a number of nodes, and their truncations. -/
import Derived.Test.YtncilhecdihmeaaGreatF8
namespace Go.Rk
open Go.Fw Go.Proofs
def truncZ (n : Int) (ns a : List Int) : List Int := List.zipWith (fun m x => if decide (m ≤ n) = true then x else 0) ns a
theorem truncZ_far {n : Int} : ∀ (ns a b : List Int), (∀ m ∈ ns, n < m) → a.length = b.length → truncZ n ns a = truncZ n ns b
  | [], _, _, _, _ => rfl
  | _ :: _, [], [], _, _ => rfl
  | _ :: _, [], _ :: _, _, h => by simp at h
  | _ :: _, _ :: _, [], _, h => by simp at h
  | m :: ns, x :: a, y :: b, hf, h => by
    have h1 := hf m (by simp)
    have h2 := truncZ_far ns a b (fun m hm => hf m (by simp [hm])) (by simpa using h)
    unfold truncZ at h2 ⊢
    rw [List.zipWith_cons_cons, List.zipWith_cons_cons, h2, if_neg (by simp; omega), if_neg (by simp; omega)]
theorem truncZ_iff {n : Int} (hn : n ≤ 6) : ∀ (ns a b : List Int), ns.Pairwise (· ≤ ·) → ns.length = a.length → ns.length = b.length → (truncZ n ns a = truncZ n ns b ↔ n ≤ agGo ns a b)
  | [], [], [], _, _, _ => ⟨fun _ => hn, fun _ => rfl⟩
  | [], _ :: _, _, _, h, _ => by simp at h
  | [], _, _ :: _, _, _, h => by simp at h
  | _ :: _, [], _, _, h, _ => by simp at h
  | _ :: _, _, [], _, _, h => by simp at h
  | m :: ns, x :: a, y :: b, hp, h1, h2 => by
    have hp' := List.pairwise_cons.1 hp
    have ih := truncZ_iff hn ns a b hp'.2 (by simpa using h1) (by simpa using h2)
    rw [agGo]
    have e : ∀ (x : Int) (a : List Int), truncZ n (m :: ns) (x :: a) = (if decide (m ≤ n) = true then x else 0) :: truncZ n ns a := fun _ _ => rfl
    rw [e, e]
    by_cases hxy : x = y
    · subst hxy
      have hx : (if x ≠ x then m - 1 else agGo ns a b) = agGo ns a b := if_neg (by simp)
      rw [hx, ← ih]
      constructor
      · intro h; exact (List.cons.inj h).2
      · intro h; rw [h]
    · rw [if_pos hxy]
      by_cases hm : m ≤ n
      · rw [if_pos (by simpa using hm), if_pos (by simpa using hm)]
        constructor
        · intro h; exact absurd (List.cons.inj h).1 hxy
        · intro h; omega
      · rw [if_neg (by simpa using hm), if_neg (by simpa using hm)]
        constructor
        · intro _; omega
        · intro _
          rw [truncZ_far ns a b (fun m' hm' => by have := hp'.1 m' hm'; omega) (by simp at h1 h2; omega)]
theorem placesN_sorted : placesN.Pairwise (· ≤ ·) := by
  have h : (placesN == [0, 1, 2, 3, 3, 4, 4, 4, 4, 5, 5, 5, 5, 5, 5, 5, 5, 5, 6, 6, 6, 6, 6, 6, 6, 6, 6, 6, 6, 6, 6, 6, 6, 6, 6, 6, 6, 6]) = true := by kernel_rfl
  rw [beq_iff_eq] at h
  rw [h]
  decide
/-- Two maps have the same truncation just where they agree. -/
theorem trunc_agree {a b : List Int} (ha : a.length = 38) (hb : b.length = 38) {n : Int} (hn : n ≤ 6) : keepL (fun m => decide (m ≤ n)) a = keepL (fun m => decide (m ≤ n)) b ↔ n ≤ agreeL a b :=
  truncZ_iff hn placesN a b placesN_sorted (by rw [placesN_len, ha]) (by rw [placesN_len, hb])
end Go.Rk
