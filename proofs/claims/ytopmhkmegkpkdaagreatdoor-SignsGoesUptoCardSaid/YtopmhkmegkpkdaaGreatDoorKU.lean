/- What is put and is not free makes no dif -/
import Derived.Test.YtopmhkmegkpkdaaGreatDoorLH
set_option linter.all false
namespace Go.Proofs.Tryz
open Go Go.Iv
end Go.Proofs.Tryz
namespace Go.Proofs.Tryz
open Go Go.Iv
set_option maxRecDepth 4000
variable (gl:Nat->Option IV)
