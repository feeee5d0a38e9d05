/- Plain facts: the numbers of a line, the tableau of a text. -/
import Derived.Test.YthepgmajeljdhaaGreatDoorZE
namespace Go.Rk
open Go.Fw Go.Proofs
def goodN (p : List UInt8) : Bool := decide ((parseNum p).2 = 0)
def numN (p : List UInt8) : Int := (parseNum p).1
/-- The numbers of a line between blanks, and whether it is one. -/
def readL (s : List UInt8) : List Int × Bool := if (split1 32 s).all goodN = true then ((split1 32 s).map numN, true) else ([], false)
def rowsL (s : List UInt8) : List (List Int) := (split1 59 s).map fun r => (readL r).1
def fineL (s : List UInt8) : Bool := (split1 59 s).all fun r => (readL r).2
def tabIf (a b : List UInt8) : TabD × Int := if (readL b).2 = true ∧ fineL a = true ∧ isTab (rowsL a, (readL b).1) = true then ((rowsL a, (readL b).1), 0) else (([], []), 6)
/-- The tableau of a text, and a code. -/
def parseTab (s : List UInt8) : TabD × Int := if (split1 124 s).length = 2 then tabIf ((split1 124 s)[0]?.getD []) ((split1 124 s)[1]?.getD []) else (([], []), 6)
theorem readL_bad {s : List UInt8} {i : Nat} (h : i < (split1 32 s).length) (hb : goodN (split1 32 s)[i] = false) : readL s = ([], false) := by
  unfold readL
  rw [if_neg]
  intro ha
  have := List.all_eq_true.1 ha _ (List.getElem_mem h)
  rw [hb] at this
  cases this
theorem readL_good {s : List UInt8} (h : ∀ i (hi : i < (split1 32 s).length), goodN (split1 32 s)[i] = true) : readL s = ((split1 32 s).map numN, true) := by
  unfold readL
  rw [if_pos]
  refine List.all_eq_true.2 fun p hp => ?_
  obtain ⟨i, hi, rfl⟩ := List.getElem_of_mem hp
  exact h i hi
theorem fineL_bad {s : List UInt8} {i : Nat} (h : i < (split1 59 s).length) (hb : (readL (split1 59 s)[i]).2 = false) : fineL s = false := by
  unfold fineL
  rw [Bool.eq_false_iff]
  intro ha
  have := List.all_eq_true.1 ha _ (List.getElem_mem h)
  rw [hb] at this
  cases this
theorem fineL_good {s : List UInt8} (h : ∀ i (hi : i < (split1 59 s).length), (readL (split1 59 s)[i]).2 = true) : fineL s = true := by
  unfold fineL
  refine List.all_eq_true.2 fun p hp => ?_
  obtain ⟨i, hi, rfl⟩ := List.getElem_of_mem hp
  exact h i hi
theorem split1_length (b : UInt8) : ∀ s : List UInt8, (split1 b s).length ≤ s.length + 1
  | [] => by simp [split1]
  | c :: r => by
    have ih := split1_length b r
    have hp := List.length_pos_iff.2 (split1_ne b r)
    unfold split1
    split
    · simp only [List.length_cons]; omega
    · simp only [List.length_cons, List.length_tail]; omega
theorem split1_part {b : UInt8} : ∀ {s p : List UInt8}, p ∈ split1 b s → p.length ≤ s.length
  | [], p, h => by simp [split1] at h; simp [h]
  | c :: r, p, h => by
    have hne := split1_ne b r
    obtain ⟨hd, tl, he⟩ := List.exists_cons_of_ne_nil hne
    unfold split1 at h
    split at h
    · rcases List.mem_cons.1 h with h | h
      · subst h; simp
      · have := split1_part h
        simp only [List.length_cons]; omega
    · rw [he] at h
      rcases List.mem_cons.1 h with h | h
      · have : (split1 b r).headD [] ∈ split1 b r := by rw [he]; simp
        have := split1_part this
        rw [he] at this
        subst h
        simp only [List.headD_cons, List.length_cons] at this ⊢
        omega
      · have : p ∈ split1 b r := by rw [he]; simp only [List.tail_cons] at h; exact List.mem_cons_of_mem _ h
        have := split1_part this
        simp only [List.length_cons]; omega
theorem split1_mem {b c : UInt8} (hcb : c ≠ b) : ∀ {s : List UInt8}, c ∈ s → ∃ p ∈ split1 b s, c ∈ p
  | x :: r, h => by
    obtain ⟨hd, tl, he⟩ := List.exists_cons_of_ne_nil (split1_ne b r)
    unfold split1
    rcases List.mem_cons.1 h with h | h
    · subst h
      rw [if_neg hcb]
      exact ⟨_, List.mem_cons_self, List.mem_cons_self⟩
    · obtain ⟨p, hp, hc⟩ := split1_mem hcb h
      split
      · exact ⟨p, List.mem_cons_of_mem _ hp, hc⟩
      · rw [he] at hp ⊢
        rcases List.mem_cons.1 hp with h1 | h1
        · subst h1
          exact ⟨_, List.mem_cons_self, List.mem_cons_of_mem _ hc⟩
        · exact ⟨p, List.mem_cons_of_mem _ h1, hc⟩
theorem index1_join {b : UInt8} : ∀ {s : List UInt8} {i : Nat}, Lib.index s [b] = (i : Int) → s = s.take i ++ b :: s.drop (i + 1)
  | [], i, h => by have : Lib.index [] [b] = -1 := rfl; rw [this] at h; omega
  | c :: r, i, h => by
    rw [index1] at h
    by_cases hc : c = b
    · rw [if_pos hc] at h
      have : i = 0 := by omega
      subst this
      subst hc
      simp
    · rw [if_neg hc] at h
      rcases index1_cases b r with h1 | ⟨j, h1⟩
      · rw [h1, if_pos rfl] at h; omega
      · rw [h1, if_neg (by omega)] at h
        have e : i = j + 1 := by omega
        subst e
        have := index1_join h1
        simp only [List.take_succ_cons, List.drop_succ_cons, List.cons_append]
        rw [← this]
theorem cut_join {s u v : List UInt8} {b : UInt8} (h : Lib.cut s [b] = (u, v, true)) : s = u ++ b :: v := by
  rcases index1_cases b s with h1 | ⟨i, h1⟩
  · unfold Lib.cut at h; rw [h1] at h; simp at h
  · have hj := index1_join h1
    unfold Lib.cut at h
    rw [if_pos (by rw [h1]; omega), h1] at h
    simp only [Prod.mk.injEq, and_true] at h
    obtain ⟨h2, h3⟩ := h
    simp at h2 h3
    rw [← h2, ← h3]
    exact hj
theorem cut_length {s u v : List UInt8} {b : UInt8} (h : Lib.cut s [b] = (u, v, true)) : u.length + v.length + 1 = s.length := by
  rw [cut_join h]
  simp only [List.length_append, List.length_cons]
  omega
theorem finP_bad {p q : Int} {n : Bool} (h : p = -1 ∨ q = -1) : (finP p q n).2 ≠ 0 := by
  unfold finP
  rw [if_pos (by omega)]
  decide
theorem body_length (t : List UInt8) : (bodyL t).length ≤ t.length := by
  unfold bodyL
  split
  · simp
  · exact Nat.le_refl _
theorem num_bad {c : UInt8} {t : List UInt8} (hc : isDig c = false) (h45 : c ≠ 45) (h47 : c ≠ 47) (h : c ∈ t) : goodN t = false := by
  unfold goodN
  refine decide_eq_false ?_
  have hb : c ∈ bodyL t := by
    unfold bodyL
    split
    · rename_i hn
      cases t with
      | nil => cases hn
      | cons x r =>
        have hx : x = 45 := by simpa [negL] using hn
        rcases List.mem_cons.1 h with h | h
        · subst h; exact absurd hx h45
        · exact h
    · exact h
  rcases parse_cut t with ⟨_, h2⟩ | ⟨u, v, h1, h2⟩
  · rw [h2]
    exact finP_bad (Or.inl (value_bad hc hb))
  · rw [h2]
    rw [cut_join h1] at hb
    rcases List.mem_append.1 hb with h | h
    · exact finP_bad (Or.inl (value_bad hc h))
    · rcases List.mem_cons.1 h with h | h
      · exact absurd h h47
      · exact finP_bad (Or.inr (value_bad hc h))
theorem readL_bar {s : List UInt8} (h : 124 ∈ s) : readL s = ([], false) := by
  obtain ⟨p, hp, hc⟩ := split1_mem (b := 32) (by decide) h
  obtain ⟨i, hi, rfl⟩ := List.getElem_of_mem hp
  exact readL_bad hi (num_bad (by decide) (by decide) (by decide) hc)
theorem parseTab_cut (s : List UInt8) : (Lib.cut s [124] = (s, [], false) ∧ parseTab s = (([], []), 6)) ∨ ∃ u v, Lib.cut s [124] = (u, v, true) ∧ parseTab s = tabIf u v := by
  rcases cut_parts 124 s with ⟨c1, c2⟩ | ⟨u, v, c1, c2⟩
  · exact Or.inl ⟨c1, by unfold parseTab; rw [c2]; rfl⟩
  · refine Or.inr ⟨u, v, c1, ?_⟩
    unfold parseTab
    rw [c2]
    by_cases hl : (split1 124 v).length = 1
    · have hv : split1 124 v = [v] := by
        rcases index1_cases 124 v with h | ⟨i, h⟩
        · exact split1_miss h
        · rw [split1_hit h] at hl
          have := List.length_pos_iff.2 (split1_ne 124 (v.drop (i + 1)))
          simp at hl
          exact absurd hl (split1_ne 124 _)
      rw [hv]; simp
    · have hb := readL_bar (split1_two hl)
      rw [if_neg (by simp only [List.length_cons]; omega)]
      unfold tabIf
      rw [hb, if_neg (by simp)]
theorem parseTab_tab {s : List UInt8} (h : (parseTab s).2 = 0) : isTab (parseTab s).1 = true := by
  unfold parseTab at h ⊢
  split
  · rename_i h2
    rw [if_pos h2] at h
    unfold tabIf at h ⊢
    split
    · rename_i h3; exact h3.2.2
    · rename_i h3; rw [if_neg h3] at h; cases h
  · rename_i h2; rw [if_neg h2] at h; cases h
end Go.Rk
