/- Walks of the second program: put. -/
import Derived.Test.YtopmhkmegkpkdaaGreatDoorKT
import Derived.Test.YtopmhkmegkpkdaaGreatDoorKN
import Derived.Test.YtopmhkmegkpkdaaGreatDoorKC
set_option linter.all false
namespace Go.Proofs.Tryz
open Go Go.Iv
set_option maxRecDepth 4000
variable (gl:Nat->Option IV)
