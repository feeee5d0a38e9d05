/- Drawn maps: l07Draw. -/
import Derived.Test.YtncilhecdihmeaaG4
import Derived.Test.YtncilhecdihmeaaD1
set_option maxRecDepth 8000
namespace Go.Rk
theorem zerosM_38 : zerosM.length = 38 := List.length_replicate
end Go.Rk
namespace Go.Proofs
open Go Go.Fw Go.RowKit Go.Rk
end Go.Proofs
/- Drawn maps: l01Spoil, l07DrawAny, DrawAgreeTo, DrawOrderOfMap. -/
set_option maxRecDepth 8000
namespace Go.Proofs
open Go Go.Fw Go.RowKit Go.Rk
end Go.Proofs
