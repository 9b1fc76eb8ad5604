/- Walks of the second program: level, term -/
import Derived.Test.YtakbihknkdpmgaaGreatDoorMC
import Derived.Test.YtakbihknkdpmgaaGreatDoorKM
set_option linter.all false
namespace Go.Proofs.Tryz
open Go Go.Iv
set_option maxRecDepth 4000
variable (gl:Nat->Option IV)
