/- The size of a formula, read off its name -/
import Derived.Test.YtigeiecfkoimpaaGreatDoorKD
set_option linter.all false
namespace Go.Proofs.Tryz
open Go Go.Iv
def w_ (f:Fm)(l:Sb):(il f l).1.size<=400:=by
 unfold il;split
 ·split
  ·grind
  ·show fm0.size<=400;decide
 ·show fm0.size<=400;decide
