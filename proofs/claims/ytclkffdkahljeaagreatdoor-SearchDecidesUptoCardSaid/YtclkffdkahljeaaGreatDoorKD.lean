/- Names of right formulas; putting what ch -/
import Derived.Test.YtclkffdkahljeaaGreatDoorKB
set_option linter.all false
namespace Go.Proofs.Tryz
open Go Go.Iv
set_option maxRecDepth 4000
