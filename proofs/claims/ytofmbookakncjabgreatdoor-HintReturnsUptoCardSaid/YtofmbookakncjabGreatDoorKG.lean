/- The size of a formula, read off its name -/
import Derived.Test.YtofmbookakncjabGreatDoorKD
set_option linter.all false
namespace Go.Proofs.Tryz
open Go Go.Iv
def zx (f:Fm)(l:Sb):(jf f l).1.size<=400:=by
 unfold jf;split
 ·split
  ·grind
  ·show fm0.size<=400;decide
 ·show fm0.size<=400;decide
