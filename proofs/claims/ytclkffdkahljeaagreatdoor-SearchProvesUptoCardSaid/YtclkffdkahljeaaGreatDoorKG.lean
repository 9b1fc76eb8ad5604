/- The size of a formula, read off its name -/
import Derived.Test.YtclkffdkahljeaaGreatDoorKD
set_option linter.all false
namespace Go.Proofs.Tryz
open Go Go.Iv
theorem zJq (f:Fm)(l:Sb):(yV6 f l).1.size<=400:=by
 unfold yV6;split
 ·split
  ·grind
  ·show fm0.size<=400;decide
 ·show fm0.size<=400;decide
