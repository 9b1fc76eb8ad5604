/- Walks: apart. No quantifier of a formula -/
import Derived.Test.YtabhgbojkjcfjaaGreatDoorKG
import Derived.Test.YtabhgbojkjcfjaaGreatDoorLA
set_option linter.all false
namespace Go.Proofs.Tryz
open Go Go.Iv
set_option maxRecDepth 4000
variable (gl:Nat->Option IV)
