/- The size of a formula, read off its name -/
import Derived.Test.YtddfdpbibloljaaGreatDoorKD
set_option linter.all false
namespace Go.Proofs.Tryz
open Go Go.Iv
theorem zK1 (f:Fm)(l:Sb):(yX2 f l).1.size<=400:=by
 unfold yX2;split
 ·split
  ·grind
  ·show fm0.size<=400;decide
 ·show fm0.size<=400;decide
