/- The size of a formula, read off its name -/
import Derived.Test.YtakbihknkdpmgaaGreatDoorKD
set_option linter.all false
namespace Go.Proofs.Tryz
open Go Go.Iv
def wP (f:Fm)(l:Sb):(gR f l).1.size<=400:=by
 unfold gR;split
 ·split
  ·grind
  ·show fm0.size<=400;decide
 ·show fm0.size<=400;decide
