/- The size of a formula, read off its name -/
import Derived.Test.YtnknaopjcifoaaaGreatDoorKD
set_option linter.all false
namespace Go.Proofs.Tryz
open Go Go.Iv
theorem zJk (f:Fm)(l:Sb):(yZc f l).1.size<=400:=by
 unfold yZc;split
 ·split
  ·grind
  ·show fm0.size<=400;decide
 ·show fm0.size<=400;decide
