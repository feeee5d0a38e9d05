/- The nodes of a tableau. -/
import Derived.Test.YthepgmajeljdhaaGreatT1
import Derived.Test.YthepgmajeljdhaaGreatA1
import Derived.Test.YthepgmajeljdhaaGreatPlA
namespace Go.Proofs
open Go Go.Fw Go.RowKit Go.Rk

end Go.Proofs
