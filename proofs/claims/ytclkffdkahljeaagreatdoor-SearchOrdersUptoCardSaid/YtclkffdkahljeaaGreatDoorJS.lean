/- Walks: CopyTerms. -/
import Derived.Test.YtclkffdkahljeaaGreatDoorJR
set_option linter.all false
namespace Go.Proofs.Tryz
open Go Go.Iv
set_option maxRecDepth 4000
variable (gl:Nat->Option IV)
theorem yZo:∀l:List Fm,l.length<=yQb l
 | []=>Nat.le_refl _
 | a::l=>by have:=yZo l;have:=a.size_pos;simp only[List.length_cons,yQb];omega
mutual
def xV5:Tm->Nat
 | .mk _ n l=>1+n.size / 40+yYl l
def yYl:List Tm->Nat
 | []=>0
 | a::l=>xV5 a+yYl l
end
