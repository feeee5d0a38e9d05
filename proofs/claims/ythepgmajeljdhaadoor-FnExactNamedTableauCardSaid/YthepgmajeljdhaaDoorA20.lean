/- The reference's order of the conditions of a kind, and the public functions on it. -/
import Derived.Test.YthepgmajeljdhaaDoorA19
namespace Go.Proofs
open Go Go.Fw Go.RowKit Go.Rk
end Go.Proofs
