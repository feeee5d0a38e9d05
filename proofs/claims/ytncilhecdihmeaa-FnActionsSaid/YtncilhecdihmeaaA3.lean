/- The nodes of a tableau. -/
import Derived.Test.YtncilhecdihmeaaT1
import Derived.Test.YtncilhecdihmeaaA1
import Derived.Test.YtncilhecdihmeaaPlA
namespace Go.Proofs
open Go Go.Fw Go.RowKit Go.Rk

end Go.Proofs
