/- The size of a formula, read off its name -/
import Derived.Test.YtopmhkmegkpkdaaGreatDoorKD
set_option linter.all false
namespace Go.Proofs.Tryz
open Go Go.Iv
def v7 (f:Fm)(l:Sb):(gV f l).1.size<=400:=by
 unfold gV;split
 ·split
  ·grind
  ·show fm0.size<=400;decide
 ·show fm0.size<=400;decide
