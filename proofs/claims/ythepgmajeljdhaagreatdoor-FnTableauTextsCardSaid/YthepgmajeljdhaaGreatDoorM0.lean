/- The dice of the laws: roll, below, mod9; what is at hand in a law's walk. -/
import Derived.Test.YthepgmajeljdhaaGreatDoorD1
import Derived.Test.YthepgmajeljdhaaGreatDoorG24
set_option maxRecDepth 8000
namespace Go.Fw
open Go Go.RowKit
end Go.Fw
namespace Go.Proofs
open Go Go.Fw Go.RowKit Go.Rk
/-- A list of numbers that reads in a world. -/
def RD (w : World) (v : Value) (xs : List Int) : Prop := ∃ lo hi, IS lo hi w v xs
theorem RD.below {w w' : World} {v : Value} {xs : List Int} (h : RD w v xs) (hb : Below w.heap.size w w') : RD w' v xs := by
  obtain ⟨lo, hi, h⟩ := h
  exact ⟨lo, hi, h.below RI.stable hb h.hi_le⟩
/-- What stands under a number. -/
def lk : List (Nat × Value × List Int) → Nat → Option (Value × List Int)
  | [], _ => none
  | p :: l, k => bif Nat.beq p.1 k then some p.2 else lk l k
theorem lk_mem : ∀ {l : List (Nat × Value × List Int)} {k : Nat} {q : Value × List Int}, lk l k = some q → ∃ m, (m, q) ∈ l
  | p :: l, k, q, h => by
    unfold lk at h
    cases hb : Nat.beq p.1 k with
    | true => rw [hb] at h; simp only [cond_true, Option.some.injEq] at h; exact ⟨p.1, by rw [← h]; simp⟩
    | false => rw [hb] at h; obtain ⟨m, hm⟩ := lk_mem h; exact ⟨m, List.mem_cons_of_mem _ hm⟩
structure Have (w w1 : World) (l : List (Nat × Value × List Int)) : Prop where
  bel : Below w.heap.size w w1
  rd : ∀ p ∈ l, RD w1 p.2.1 p.2.2
section
variable {w w1 w2 : World} {l : List (Nat × Value × List Int)} {v : Value} {xs : List Int}
theorem Have.get (h : Have w w1 l) (i : Nat) (e : lk l i = some (v, xs)) : RD w1 v xs := by
  obtain ⟨m, hm⟩ := lk_mem e
  exact h.rd _ hm
theorem Have.next (h : Have w w1 l) (hb : Below w1.heap.size w1 w2) : Have w w2 l := ⟨h.bel.trans (Below.mono hb h.bel.size), fun p hp => (h.rd p hp).below hb⟩
theorem Have.add (h : Have w w1 l) (k : Nat) (hr : RD w1 v xs) : Have w w1 ((k, v, xs) :: l) := ⟨h.bel, fun p hp => by
  rcases List.mem_cons.1 hp with rfl | hp
  · exact hr
  · exact h.rd p hp⟩
theorem NewI.rd (h : NewI w1 v w2 xs) : RD w2 v xs := ⟨_, _, h.1.toIS (Nat.zero_le _)⟩
theorem Have.new (h : Have w w1 l) (k : Nat) (hn : NewI w1 v w2 xs) : Have w w2 ((k, v, xs) :: l) := (h.next hn.2).add k hn.rd
theorem Have.still (h : Have w w1 l) (hs : Still w1 w2) : Have w w2 l := h.next (hs.below _)
theorem Have.chg (h : Have w w1 l) (hc : Chg 0 0 w1 w2) : Have w w2 l := h.next (hc.below (Nat.le_refl _) (Or.inr (Nat.le_refl _)))
end
theorem likeInts_rd {w : World} {v v' : Value} {xs ys : List Int} (h : RD w v xs) (h' : RD w v' ys) (e : xs = ys) : Does Tryz.prog 23 [v, v'] w fun r w' => r = .bool true ∧ Still w w' := by
  obtain ⟨_, _, h⟩ := h; obtain ⟨_, _, h'⟩ := h'
  have := likeInts_any h h'
  rwa [decide_eq_true e] at this
end Go.Proofs
