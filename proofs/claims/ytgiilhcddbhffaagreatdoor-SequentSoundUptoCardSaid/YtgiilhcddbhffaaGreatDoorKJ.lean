/- Walks: counts, occurs. How often a varia -/
import Derived.Test.YtgiilhcddbhffaaGreatDoorKH
import Derived.Test.YtgiilhcddbhffaaGreatDoorKI
set_option linter.all false
namespace Go.Proofs.Tryz
open Go Go.Iv
set_option maxRecDepth 4000
variable (gl:Nat→Option IV)
end Go.Proofs.Tryz
