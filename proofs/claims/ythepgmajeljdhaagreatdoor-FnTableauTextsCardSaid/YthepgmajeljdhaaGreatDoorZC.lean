/- Plain facts: a text cut at one byte, and its parts. -/
import Derived.Test.YthepgmajeljdhaaGreatDoorZP
import Derived.Test.YthepgmajeljdhaaGreatDoorZV
import Derived.Lib.IndexMore
namespace Go.Rk
open Go.Fw Go.Proofs
theorem split1_hit {b : UInt8} : ∀ {s : List UInt8} {i : Nat}, Lib.index s [b] = (i : Int) → split1 b s = s.take i :: split1 b (s.drop (i + 1))
  | [], i, h => by have : Lib.index [] [b] = -1 := rfl; rw [this] at h; omega
  | c :: r, i, h => by
    rw [index1] at h
    by_cases hc : c = b
    · rw [if_pos hc] at h
      have : i = 0 := by omega
      subst this
      rw [split1, if_pos hc]
      simp
    · rw [if_neg hc] at h
      rcases index1_cases b r with h1 | ⟨j, h1⟩
      · rw [h1, if_pos rfl] at h; omega
      · rw [h1, if_neg (by omega)] at h
        have e : i = j + 1 := by omega
        subst e
        rw [split1, if_neg hc, split1_hit h1]
        simp
theorem split1_miss {b : UInt8} {s : List UInt8} (h : Lib.index s [b] = -1) : split1 b s = [s] := by
  rw [← splitK_one, index1_none h]; rfl
/-- A text cut at the first byte b: its first part and the rest. -/
theorem cut_parts (b : UInt8) (s : List UInt8) : (Lib.cut s [b] = (s, [], false) ∧ split1 b s = [s]) ∨ ∃ u v, Lib.cut s [b] = (u, v, true) ∧ split1 b s = u :: split1 b v := by
  rcases index1_cases b s with h | ⟨i, h⟩
  · refine Or.inl ⟨?_, split1_miss h⟩
    unfold Lib.cut
    rw [h]; rfl
  · refine Or.inr ⟨s.take i, s.drop (i + 1), ?_, split1_hit h⟩
    unfold Lib.cut
    rw [if_pos (by rw [h]; omega), h]
    simp
theorem digGo_none {c : UInt8} (hc : isDig c = false) : ∀ {l : List UInt8}, c ∈ l → ∀ n, digGo n l = none
  | x :: l, h, n => by
    rw [digGo]
    rcases List.mem_cons.1 h with h | h
    · subst h; rw [if_neg (by rw [hc]; simp)]
    · split
      · exact digGo_none hc h _
      · rfl
/-- What holds a byte that is no digit is no number. -/
theorem value_bad {c : UInt8} {l : List UInt8} (hc : isDig c = false) (h : c ∈ l) : valueL l = -1 := by
  unfold valueL
  split
  · rfl
  · rw [digGo_none hc h]; rfl
theorem split1_two {b : UInt8} {s : List UInt8} (h : (split1 b s).length ≠ 1) : b ∈ s := by
  rcases index1_cases b s with h1 | ⟨i, h1⟩
  · rw [split1_miss h1] at h; simp at h
  · refine Classical.byContradiction fun hn => ?_
    have : split1 b s = [s] := split1_none fun k hk e => hn (by rw [← e]; exact List.getElem_mem hk)
    rw [this] at h; simp at h
end Go.Rk
