/- The size of a formula, read off its name -/
import Derived.Test.YtdbmgeebmfpmpaaGreatDoorKD
set_option linter.all false
namespace Go.Proofs.Tryz
open Go Go.Iv
theorem zJl (f:Fm)(l:Sb):(yV1 f l).1.size<=400:=by
 unfold yV1;split
 ·split
  ·grind
  ·show fm0.size<=400;decide
 ·show fm0.size<=400;decide
