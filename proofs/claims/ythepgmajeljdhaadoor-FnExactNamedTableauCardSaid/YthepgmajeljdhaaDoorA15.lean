/- The program's conditions on the stages and the columns; the order of the conditions of a kind. -/
import Derived.Test.YthepgmajeljdhaaDoorA14
import Derived.Test.YthepgmajeljdhaaDoorHB
namespace Go.Proofs
open Go Go.Fw Go.RowKit Go.Rk

end Go.Proofs
