/- The program's condition on the columns; the order of the conditions of a kind. -/
import Derived.Test.YthepgmajeljdhaaDoorA15
namespace Go.Proofs
open Go Go.Fw Go.RowKit Go.Rk

end Go.Proofs
