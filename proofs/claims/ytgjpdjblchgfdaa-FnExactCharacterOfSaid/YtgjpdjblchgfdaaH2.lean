/- What a call leaves of older memory, in one form; data that the laws make, compare, mark and look at again. -/
import Derived.Test.YtgjpdjblchgfdaaH1
namespace Go.Fw
open Go Go.RowKit

/-- Of the blocks that stood in w, those outside [a, b) are as they were. -/
structure Chg (a b : Nat) (w w' : World) : Prop where
  os : w'.os = w.os
  tape : w'.tape = w.tape
  output : w'.output = w.output
  size : w.heap.size ≤ w'.heap.size
  block : ∀ k, k < w.heap.size → (k < a ∨ b ≤ k) → w'.heap[k]? = w.heap[k]?

theorem Chg.of_below {w w' : World} (h : Below w.heap.size w w') : Chg 0 0 w w' := ⟨h.os, h.tape, h.output, h.size, fun k hk _ => h.block k hk⟩
theorem Chg.of_still {w w' : World} (h : Still w w') : Chg 0 0 w w' := Chg.of_below (h.below _)
theorem Chg.same {a b lo hi : Nat} {w w' : World} (h : Chg a b w w') (hz : hi ≤ w.heap.size) (hd : hi ≤ a ∨ b ≤ lo) : Same lo hi w w' := fun k h1 h2 => h.block k (by omega) (by omega)
theorem Chg.below {a b B : Nat} {w w' : World} (h : Chg a b w w') (hB : B ≤ w.heap.size) (hd : B ≤ a ∨ b ≤ 0) : Below B w w' :=
  ⟨h.os, h.tape, h.output, h.size, fun k hk => h.block k (by omega) (by omega)⟩

section
variable {α : Type} {R : Nat → Nat → World → Value → α → Prop}
theorem SL.chg (hR : Stable R) {lo hi a b : Nat} {w w' : World} {v : Value} {xs : List α} (h : SL R lo hi w v xs) (hc : Chg a b w w') (hd : hi ≤ a ∨ b ≤ lo) : SL R lo hi w' v xs :=
  SL.same hR h (hc.same h.hi_le hd) (Nat.le_trans h.hi_le hc.size)
end

/-- A slice of integers that the call owns, in the blocks from lo on, below hi. -/
structure OwI (e : TypeId) (lo hi : Nat) (w : World) (v : Value) (xs : List Int) : Prop where
  own : Own lo e w v (Ints xs)
  lt : ∀ k, v.ownBlock = some k → k < hi
  hi_le : hi ≤ w.heap.size

theorem OwI.chg {e : TypeId} {lo hi a b : Nat} {w w' : World} {v : Value} {xs : List Int} (h : OwI e lo hi w v xs) (hc : Chg a b w w') (hd : hi ≤ a ∨ b ≤ lo) : OwI e lo hi w' v xs :=
  ⟨h.own.keep fun k hk => hc.same h.hi_le hd k (h.own.block k hk).1 (h.lt k hk), h.lt, Nat.le_trans h.hi_le hc.size⟩
theorem OwI.rd {e : TypeId} {lo hi : Nat} {w : World} {v : Value} {xs : List Int} (h : OwI e lo hi w v xs) : IS lo hi w v xs :=
  h.own.toSL (Ints_length xs) (Nat.le_refl _) h.lt h.hi_le fun i u x hu hx => by
    rw [Ints_get, hx] at hu
    simpa [RI] using hu.symm
theorem RI.chg {lo hi a b : Nat} {w w' : World} {v : Value} {xs : List Int} (h : IS lo hi w v xs) (hc : Chg a b w w') (hd : hi ≤ a ∨ b ≤ lo) : IS lo hi w' v xs := SL.chg RI.stable h hc hd
end Go.Fw

namespace Go.Proofs
open Go Go.Fw Go.RowKit
theorem NewI.ow {w w' : World} {v : Value} {xs : List Int} (h : NewI w v w' xs) : OwI 2 w.heap.size w'.heap.size w' v xs := ⟨h.1, fun k hk => (h.1.block k hk).2, Nat.le_refl _⟩
theorem NewI.chg {w w' : World} {v : Value} {xs : List Int} (h : NewI w v w' xs) : Chg 0 0 w w' := Chg.of_below h.2

theorem eqI_same {lo hi lo' hi' : Nat} {w : World} {v v' : Value} {xs : List Int} (h : IS lo hi w v xs) (h' : IS lo' hi' w v' xs) :
    Does Try.prog 19 [v, v'] w fun r w' => r = .bool true ∧ Chg 0 0 w w' :=
  (eqInt64S_any h h').mono fun _ _ ⟨h1, h2⟩ => ⟨by rw [h1, decide_eq_true rfl], Chg.of_still h2⟩
theorem toI {lo hi : Nat} {w : World} {v : Value} {xs : List Int} (h : IS lo hi w v xs) (hn : xs.length ≤ 1048576) :
    Does Try.prog 40 [v] w fun v' w' => OwI 2 w.heap.size w'.heap.size w' v' xs ∧ Chg 0 0 w w' :=
  (toInt64S_any h (by omega)).mono fun _ _ h => ⟨h.ow, h.chg⟩
theorem markI {e : TypeId} {lo hi : Nat} {w : World} {v : Value} {xs : List Int} {k : Int} (h : OwI e lo hi w v xs) (hk : 0 ≤ k) (hk2 : k + xs.length ≤ 4611686018427387904) :
    Does Try.prog 22 [v, .int .i64 k] w fun r w' => r = .int .i64 (k + xs.length) ∧ OwI e lo hi w' v (countI k xs.length) ∧ Chg lo hi w w' :=
  (markInt64S_any h.own hk hk2).mono fun _ w' ⟨h1, h2, h3, h4, h5⟩ => ⟨h1, ⟨h2, h.lt, by rw [h4]; exact h.hi_le⟩, ⟨h3.os, h3.tape, h3.output, by omega, fun j hj hd => h5 j fun e => by
    have a1 := (h.own.block j e).1
    have a2 := h.lt j e
    omega⟩⟩
theorem heldI {lo hi : Nat} {w : World} {v : Value} {n : Nat} {k : Int} (h : IS lo hi w v (countI k n)) (hk : 0 ≤ k) (hk2 : k + n ≤ 4611686018427387904) :
    Does Try.prog 23 [v, .int .i64 k] w fun r w' => r = .int .i64 (k + n) ∧ Chg 0 0 w w' :=
  (heldInt64S_any h hk hk2).mono fun _ _ ⟨h1, h2⟩ => ⟨h1, Chg.of_still h2⟩
end Go.Proofs
