/- Walks: CopyTerms. -/
import Derived.Test.YtclkffdkahljeaaGreatDoorJR
set_option linter.all false
namespace Go.Proofs.Tryz
open Go Go.Iv
set_option maxRecDepth 4000
variable (gl:Nat->Option IV)
theorem yXa:∀l:List Fm,l.length<=yQb l
 | []=>Nat.le_refl _
 | a::l=>by have:=yXa l;have:=a.size_pos;simp only[List.length_cons,yQb];omega
mutual
def xVi:Tm->Nat
 | .mk _ n l=>1+n.size / 40+yYp l
def yYp:List Tm->Nat
 | []=>0
 | a::l=>xVi a+yYp l
end
