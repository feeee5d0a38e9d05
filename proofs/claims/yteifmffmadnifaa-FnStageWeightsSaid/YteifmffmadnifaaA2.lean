/- Sums and multiples of lists, and of maps. -/
import Derived.Test.YteifmffmadnifaaA1
namespace Go.Proofs
open Go Go.Fw Go.RowKit Go.Rk

theorem Ints_snoc {ys : List Int} {i : Nat} (h : i < ys.length) {y : Int} (hy : ys[i] = y) : Ints (ys.take i) ++ [Value.int .i64 y] = Ints (ys.take (i + 1)) := by
  rw [take_snoc h hy, Ints_append]; rfl




/-- A result: a list of the call's own, and a code. -/
def ResI (w : World) (r : Value) (w' : World) (p : List Int × Int) : Prop := ∃ v, r = .tuple #[v, .int .i64 p.2] ∧ NewI w v w' p.1

theorem ResI.none (w : World) (w' : World) (hb : Below w.heap.size w w') (code : Int) : ResI w (.tuple #[.slice none 0 0, .int .i64 code]) w' ([], code) := ⟨_, rfl, Own.nil _ _ _, hb⟩

theorem NewI.trans {w w1 : World} {v : Value} {w' : World} {xs : List Int} (h : NewI w1 v w' xs) (hs : Below w.heap.size w w1) : NewI w v w' xs :=
  ⟨h.1.lower hs.size, hs.trans (Below.mono h.2 hs.size)⟩

end Go.Proofs
