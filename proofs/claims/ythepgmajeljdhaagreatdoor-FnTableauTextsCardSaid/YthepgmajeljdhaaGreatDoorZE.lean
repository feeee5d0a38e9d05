/- Plain facts: the number of a text, as the program reckons it. -/
import Derived.Test.YthepgmajeljdhaaGreatDoorZC
import Derived.Test.YthepgmajeljdhaaGreatDoorZ7
namespace Go.Rk
open Go.Fw Go.Proofs
/-- The text behind the sign. -/
def bodyL (t : List UInt8) : List UInt8 := if negL t = true then t.drop 1 else t
theorem parts_body (t : List UInt8) : ∃ hd tl, split1 47 (bodyL t) = hd :: tl ∧ parseNum t = parseParts (split1 47 t) ∧ (split1 47 t).length = tl.length + 1 ∧ (split1 47 t)[1]? = tl[0]? ∧ (if negL ((split1 47 t).headD []) = true then ((split1 47 t).headD []).drop 1 else (split1 47 t).headD []) = hd := by
  rw [parts_neg]
  unfold bodyL
  cases hn : negL t with
  | false =>
    obtain ⟨hd, tl, h⟩ := List.exists_cons_of_ne_nil (split1_ne 47 t)
    refine ⟨hd, tl, by simpa using h, rfl, by rw [h]; rfl, by rw [h]; rfl, by rw [h]; rfl⟩
  | true =>
    cases t with
    | nil => cases hn
    | cons c r =>
      have hc : c = 45 := by simpa [negL] using hn
      subst hc
      obtain ⟨hd, tl, h⟩ := List.exists_cons_of_ne_nil (split1_ne 47 r)
      have e : split1 47 (45 :: r) = (45 :: hd) :: tl := by rw [split1, if_neg (by decide), h]; rfl
      exact ⟨hd, tl, by simpa using h, rfl, by rw [e]; rfl, by rw [e]; rfl, by rw [e]; rfl⟩
def finP (p q : Int) (neg : Bool) : Int × Int :=
  if p < 0 ∨ q < 1 ∨ (p = 0 ∧ neg = true) then (0, 6) else if q.tmod 10007 = 0 then (0, 5) else (nm (nm ((if neg = true then -1 else 1) * p) * powN (nm q) 10005), 0)
theorem parse_parts (t : List UInt8) : ∃ hd tl, split1 47 (bodyL t) = hd :: tl ∧ parseNum t = if 1 < tl.length then (0, 6) else finP (valueL hd) (if tl.length = 1 then valueL (tl[0]?.getD []) else 1) (negL t) := by
  obtain ⟨hd, tl, h1, h2, h3, h4, h5⟩ := parts_body t
  refine ⟨hd, tl, h1, ?_⟩
  rw [h2]
  unfold parseParts finP
  simp only []
  rw [h5, h3, h4, parts_neg]
  by_cases hl : 1 < tl.length
  · rw [if_pos hl, if_pos (Or.inl (by omega))]
  · rw [if_neg hl]
    by_cases h1' : tl.length = 1
    · rw [if_pos h1', if_pos (show tl.length + 1 = 2 by omega)]
      by_cases hc : valueL hd < 0 ∨ valueL (tl[0]?.getD []) < 1 ∨ (valueL hd = 0 ∧ negL t = true)
      · rw [if_pos hc, if_pos (Or.inr hc)]
      · rw [if_neg hc, if_neg (by rintro (h | h); omega; exact hc h)]
    · rw [if_neg h1', if_neg (show ¬ tl.length + 1 = 2 by omega)]
      by_cases hc : valueL hd < 0 ∨ (1 : Int) < 1 ∨ (valueL hd = 0 ∧ negL t = true)
      · rw [if_pos hc, if_pos (Or.inr hc)]
      · rw [if_neg hc, if_neg (by rintro (h | h); omega; exact hc h)]
theorem parse_cut (t : List UInt8) : (Lib.cut (bodyL t) [47] = (bodyL t, [], false) ∧ parseNum t = finP (valueL (bodyL t)) 1 (negL t)) ∨ ∃ u v, Lib.cut (bodyL t) [47] = (u, v, true) ∧ parseNum t = finP (valueL u) (valueL v) (negL t) := by
  obtain ⟨hd, tl, h1, h2⟩ := parse_parts t
  rcases cut_parts 47 (bodyL t) with ⟨c1, c2⟩ | ⟨u, v, c1, c2⟩
  · rw [c2] at h1
    simp only [List.cons.injEq] at h1
    obtain ⟨rfl, rfl⟩ := h1
    exact Or.inl ⟨c1, by rw [h2]; simp⟩
  · rw [c2] at h1
    simp only [List.cons.injEq] at h1
    obtain ⟨rfl, rfl⟩ := h1
    refine Or.inr ⟨u, v, c1, ?_⟩
    rw [h2]
    by_cases hl : (split1 47 v).length = 1
    · have hv : split1 47 v = [v] := by
        rcases index1_cases 47 v with h | ⟨i, h⟩
        · exact split1_miss h
        · rw [split1_hit h] at hl
          have := List.length_pos_iff.2 (split1_ne 47 (v.drop (i + 1)))
          simp at hl
          exact absurd hl (split1_ne 47 _)
      rw [hv]; simp
    · have hm := split1_two hl
      have hb : valueL v = -1 := value_bad (by decide) hm
      have hp := List.length_pos_iff.2 (split1_ne 47 v)
      rw [if_pos (by omega), hb]
      unfold finP
      rw [if_pos (Or.inr (Or.inl (by omega)))]
end Go.Rk
