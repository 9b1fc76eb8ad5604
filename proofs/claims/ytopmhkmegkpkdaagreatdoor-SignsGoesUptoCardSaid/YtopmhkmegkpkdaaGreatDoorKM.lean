/- Walks of the second program: insert, mer -/
import Derived.Test.YtopmhkmegkpkdaaGreatDoorLA
import Derived.Test.YtopmhkmegkpkdaaGreatDoorKB
import Derived.Test.YtopmhkmegkpkdaaGreatDoorKQ
set_option linter.all false
namespace Go.Proofs.Tryz
open Go Go.Iv
set_option maxRecDepth 4000
variable (gl:Nat->Option IV)
