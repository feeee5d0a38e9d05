/- The order of the conditions of a kind, the program's. -/
import Derived.Test.YthepgmajeljdhaaDoorA16
namespace Go.Proofs
open Go Go.Fw Go.RowKit Go.Rk

theorem condGo_step (p : Nat → Bool) {k : Nat} (h : k ≤ 16) : condGo p k (17 - k) = if p k = true then condGo p (k + 1) (17 - (k + 1)) else (k : Int) - 1 := by
  rw [show 17 - k = (16 - k) + 1 from by omega, condGo, show 17 - (k + 1) = 16 - k from by omega]
def quadratureOrder (x : TabD) : Int × Int := condResult x 0
def stageOrderOf (x : TabD) : Int × Int := condResult x 1
def columnOrder (x : TabD) : Int × Int := condResult x 2
end Go.Proofs
