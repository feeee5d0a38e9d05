/- Plain facts: texts in parts between one byte. -/
import Derived.Test.YthepgmajeljdhaaGreatDoorZ0
import Derived.Lib.SplitLaws
namespace Go.Rk
open Go.Fw Go.Proofs
/-- The parts of a text between the bytes b. -/
def split1 (b : UInt8) : List UInt8 → List (List UInt8)
  | [] => [[]]
  | c :: r => if c = b then [] :: split1 b r else (c :: (split1 b r).headD []) :: (split1 b r).tail
theorem split1_ne (b : UInt8) : ∀ l, split1 b l ≠ []
  | [] => by simp [split1]
  | c :: r => by unfold split1; split <;> simp
theorem split1_at {b : UInt8} : ∀ {l : List UInt8} {m : Nat}, (∀ k (h : k < l.length), k < m → l[k] ≠ b) → l[m]? = some b → split1 b l = l.take m :: split1 b (l.drop (m + 1))
  | [], m, _, h => by simp at h
  | c :: r, 0, _, h => by
    simp only [List.getElem?_cons_zero, Option.some.injEq] at h
    subst h
    simp [split1]
  | c :: r, m + 1, h0, h => by
    have hc : c ≠ b := h0 0 (by simp) (by omega)
    simp only [List.getElem?_cons_succ] at h
    have ih := split1_at (l := r) (m := m) (fun k hk hm => by have := h0 (k + 1) (by simp; omega) (by omega); simpa using this) h
    rw [split1, if_neg hc, ih]
    simp
theorem split1_none {b : UInt8} : ∀ {l : List UInt8}, (∀ k (h : k < l.length), l[k] ≠ b) → split1 b l = [l]
  | [], _ => rfl
  | c :: r, h0 => by
    have hc : c ≠ b := h0 0 (by simp)
    have ih := split1_none (l := r) (fun k hk => by have := h0 (k + 1) (by simp; omega); simpa using this)
    rw [split1, if_neg hc, ih]
    simp
theorem index1 (b c : UInt8) (r : List UInt8) : Lib.index (c :: r) [b] = if c = b then 0 else if Lib.index r [b] = -1 then -1 else Lib.index r [b] + 1 := by
  rw [show Lib.index (c :: r) [b] = (if [b].isPrefixOf (c :: r) then 0 else if Lib.index r [b] == -1 then -1 else Lib.index r [b] + 1) from rfl]
  by_cases h : c = b
  · subst h; simp
  · have h' : (b == c) = false := by simpa using fun e : b = c => h e.symm
    simp [List.isPrefixOf, h, h']
theorem index1_cases (b : UInt8) : ∀ r : List UInt8, Lib.index r [b] = -1 ∨ ∃ i : Nat, Lib.index r [b] = i
  | [] => Or.inl rfl
  | c :: r => by
    rw [index1]
    rcases index1_cases b r with h | ⟨i, h⟩
    · rw [h]
      split
      · exact Or.inr ⟨0, rfl⟩
      · exact Or.inl rfl
    · rw [h]
      split
      · exact Or.inr ⟨0, rfl⟩
      · rw [if_neg (by omega)]
        exact Or.inr ⟨i + 1, by omega⟩
theorem index1_none {b : UInt8} : ∀ {r : List UInt8}, Lib.index r [b] = -1 → r.count b = 0
  | [], _ => rfl
  | c :: r, h => by
    rw [index1] at h
    by_cases hc : c = b
    · rw [if_pos hc] at h; cases h
    · rw [if_neg hc] at h
      rw [List.count_cons_of_ne (by simpa using hc)]
      refine index1_none ?_
      rcases index1_cases b r with h1 | ⟨i, h1⟩
      · exact h1
      · rw [h1, if_neg (by omega)] at h; omega
theorem splitK_one (b : UInt8) : ∀ s : List UInt8, Lib.splitK [b] 0 (s.count b) s = split1 b s
  | [] => rfl
  | c :: r => by
    have ih := splitK_one b r
    by_cases hc : c = b
    · subst hc
      have e : Lib.index (c :: r) [c] = 0 := by rw [index1, if_pos rfl]
      rw [List.count_cons_self, Lib.splitK, e]
      rw [split1, if_pos rfl, ← ih]
      simp
    · rw [List.count_cons_of_ne (by simpa using hc), split1, if_neg hc, ← ih]
      rcases index1_cases b r with h | ⟨i, h⟩
      · rw [index1_none h]
        simp [Lib.splitK]
      · obtain ⟨n, hn⟩ : ∃ n, r.count b = n := ⟨_, rfl⟩
        rw [hn]
        cases n with
        | zero => simp [Lib.splitK]
        | succ k =>
          have e : Lib.index (c :: r) [b] = (i : Int) + 1 := by rw [index1, if_neg hc, h, if_neg (by omega)]
          rw [Lib.splitK, Lib.splitK, e, h]
          have h1 : ((i : Int) + 1 == -1) = false := beq_eq_false_iff_ne.2 (by omega)
          have h2 : ((i : Int) == -1) = false := beq_eq_false_iff_ne.2 (by omega)
          rw [h1, h2]
          have e3 : ((i : Int) + 1).toNat = i + 1 := by omega
          simp [e3]
/-- What strings.Split gives at one byte. -/
theorem splitB_one (b : UInt8) (s : List UInt8) : Lib.splitB ⟨#[b]⟩ 0 (Lib.countB ⟨s.toArray⟩ ⟨#[b]⟩) ⟨s.toArray⟩ = (split1 b s).map fun l => (⟨l.toArray⟩ : ByteArray) := by
  have h := Lib.splitB_data ⟨#[b]⟩ 0 (Lib.countB ⟨s.toArray⟩ ⟨#[b]⟩) ⟨s.toArray⟩
  have e : Lib.countB ⟨s.toArray⟩ ⟨#[b]⟩ = s.count b := Lib.count_one b s
  rw [e] at h ⊢
  have h2 : (Lib.splitB ⟨#[b]⟩ 0 (s.count b) ⟨s.toArray⟩).map (·.data.toList) = split1 b s := h.trans (splitK_one b s)
  rw [← h2, List.map_map]
  have : ((fun l => (⟨l.toArray⟩ : ByteArray)) ∘ fun (x : ByteArray) => x.data.toList) = id := by funext x; rfl
  rw [this, List.map_id]
end Go.Rk
