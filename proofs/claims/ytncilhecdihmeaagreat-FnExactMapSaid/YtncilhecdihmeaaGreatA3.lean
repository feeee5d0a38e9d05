/- The nodes of a tableau. -/
import Derived.Test.YtncilhecdihmeaaGreatT1
import Derived.Test.YtncilhecdihmeaaGreatA1
import Derived.Test.YtncilhecdihmeaaGreatPlA
namespace Go.Proofs
open Go Go.Fw Go.RowKit Go.Rk

end Go.Proofs
