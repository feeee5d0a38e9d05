/- How many numbers the answers hold. -/
import Derived.Test.YthdopepmndoamaaPl2
namespace Go.Rk
open Go.Fw Go.Proofs
theorem neutralTableau_len : tabCnt neutralTableau ≤ 1000000 := by decide
end Go.Rk
