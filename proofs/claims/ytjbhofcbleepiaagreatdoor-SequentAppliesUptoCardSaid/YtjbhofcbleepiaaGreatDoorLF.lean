/- Walks of the second program: normal, Nor -/
import Derived.Test.YtjbhofcbleepiaaGreatDoorKT
import Derived.Test.YtjbhofcbleepiaaGreatDoorKN
import Derived.Test.YtjbhofcbleepiaaGreatDoorLA
set_option linter.all false
namespace Go.Proofs.Tryz
open Go Go.Iv
set_option maxRecDepth 4000
variable (gl:Nat→Option IV)
end Go.Proofs.Tryz
