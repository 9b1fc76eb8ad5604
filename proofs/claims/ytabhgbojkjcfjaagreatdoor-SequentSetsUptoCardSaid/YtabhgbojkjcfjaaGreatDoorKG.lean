/- The size of a formula, read off its name -/
import Derived.Test.YtabhgbojkjcfjaaGreatDoorKD
set_option linter.all false
namespace Go.Proofs.Tryz
open Go Go.Iv
theorem zJk (f:Fm)(l:Sb):(yZz f l).1.size<=400:=by
 unfold yZz;split
 ·split
  ·rename_i h;simp only[bAt,dTe] at h;exact h.1
  ·show fm0.size<=400;decide
 ·show fm0.size<=400;decide
