/- The nodes of a tableau. -/
import Derived.Test.YthepgmajeljdhaaDoorT1
import Derived.Test.YthepgmajeljdhaaDoorA1
import Derived.Test.YthepgmajeljdhaaDoorPlA
namespace Go.Proofs
open Go Go.Fw Go.RowKit Go.Rk

end Go.Proofs
