/- The polynomial of the nodes, as the reference has it. -/
import Derived.Test.YteifmffmadnifaaA6
import Derived.Test.YteifmffmadnifaaPlA
namespace Go.Proofs
open Go Go.Fw Go.RowKit Go.Rk

theorem Ints_set (xs : List Int) (i : Nat) (y : Int) : (Ints xs).set i (.int .i64 y) = Ints (xs.set i y) := by simp [Ints, List.map_set]
end Go.Proofs
