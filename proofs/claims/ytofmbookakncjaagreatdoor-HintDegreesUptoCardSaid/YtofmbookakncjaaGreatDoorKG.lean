/- The size of a formula, read off its name -/
import Derived.Test.YtofmbookakncjaaGreatDoorKD
set_option linter.all false
namespace Go.Proofs.Tryz
open Go Go.Iv
theorem zK4 (f:Fm)(l:Sb):(yV7 f l).1.size<=400:=by
 unfold yV7;split
 ·split
  ·grind
  ·show fm0.size<=400;decide
 ·show fm0.size<=400;decide
