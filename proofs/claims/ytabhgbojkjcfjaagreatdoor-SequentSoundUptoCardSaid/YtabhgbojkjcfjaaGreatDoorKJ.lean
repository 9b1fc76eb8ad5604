/- Walks: counts, occurs. How often a varia -/
import Derived.Test.YtabhgbojkjcfjaaGreatDoorKH
import Derived.Test.YtabhgbojkjcfjaaGreatDoorKI
set_option linter.all false
namespace Go.Proofs.Tryz
open Go Go.Iv
set_option maxRecDepth 4000
variable (gl:Nat->Option IV)
