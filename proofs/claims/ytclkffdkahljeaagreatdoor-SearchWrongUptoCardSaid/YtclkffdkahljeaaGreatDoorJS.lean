/- Walks: CopyTerms. -/
import Derived.Test.YtclkffdkahljeaaGreatDoorJR
set_option linter.all false
namespace Go.Proofs.Tryz
open Go Go.Iv
set_option maxRecDepth 4000
variable (gl:Nat->Option IV)
theorem yX8:∀l:List Fm,l.length<=yQa l
 | []=>Nat.le_refl _
 | a::l=>by have:=yX8 l;have:=a.size_pos;simp only[List.length_cons,yQa];omega
mutual
def xKl:Tm->Nat
 | .mk _ n l=>1+n.size / 40+yYd l
def yYd:List Tm->Nat
 | []=>0
 | a::l=>xKl a+yYd l
end
