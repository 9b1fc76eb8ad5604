/- The size of a formula, read off its name -/
import Derived.Test.YtddfdpbibloljaaGreatDoorKD
set_option linter.all false
namespace Go.Proofs.Tryz
open Go Go.Iv
theorem zJu (f:Fm)(l:Sb):(yZy f l).1.size<=400:=by
 unfold yZy;split
 ·split
  ·grind
  ·show fm0.size<=400;decide
 ·show fm0.size<=400;decide
