/- Plain facts: orders, shapes and nodes of the twelve named tableaus. -/
import Derived.Test.YthepgmajeljdhaaGreatDoorZK
namespace Go.Rk
open Go.Fw Go.Proofs
def ords12 : List Int := [1, 4, 2, 1, 3, 4, 2, 2, 3, 2, 4, 2]
def expl12 : List Bool := [true, false, true, false, true, false, false, true, false, true, true, false]
theorem ord12 : tab12.map orderOf = ords12.map fun p => (p, 0) := by kernel_rfl
theorem exp12 : tab12.map isExplicit = expl12.map fun b => (b, 0) := by kernel_rfl
theorem dia12 : ((List.range 12).all fun i => decide ((isDiagonal (tab12.getD i ([], []))).2 = 0) && (!(isExplicit (tab12.getD i ([], []))).1 || (isDiagonal (tab12.getD i ([], []))).1)) = true := by kernel_rfl
theorem nod12 : tab12.map nodesOf = tab12.map fun x => stageWeights x [0, 1] := by kernel_rfl
end Go.Rk
