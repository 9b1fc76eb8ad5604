/- Walks of the second program: PutTerm. -/
import Derived.Test.YtopmhkmegkpkdaaGreatDoorMC
import Derived.Test.YtopmhkmegkpkdaaGreatDoorKM
set_option linter.all false
namespace Go.Proofs.Tryz
open Go Go.Iv
set_option maxRecDepth 4000
variable (gl:Nat->Option IV)
