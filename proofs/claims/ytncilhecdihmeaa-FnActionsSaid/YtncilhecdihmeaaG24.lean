/- likeInts at two lists. -/
import Derived.Test.YtncilhecdihmeaaF8
set_option maxRecDepth 8000
namespace Go.Proofs
open Go Go.Fw Go.RowKit Go.Rk
end Go.Proofs
