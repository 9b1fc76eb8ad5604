/- The size of a formula, read off its name -/
import Derived.Test.YtddfdpbibloljaaGreatDoorKD
set_option linter.all false
namespace Go.Proofs.Tryz
open Go Go.Iv
theorem zKa (f:Fm)(l:Sb):(yX5 f l).1.size<=400:=by
 unfold yX5;split
 ·split
  ·grind
  ·show fm0.size<=400;decide
 ·show fm0.size<=400;decide
