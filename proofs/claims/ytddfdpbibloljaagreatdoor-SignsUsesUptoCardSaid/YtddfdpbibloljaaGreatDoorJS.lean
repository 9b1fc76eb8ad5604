/- Walks: CopyTerms. -/
import Derived.Test.YtddfdpbibloljaaGreatDoorJR
set_option linter.all false
namespace Go.Proofs.Tryz
open Go Go.Iv
set_option maxRecDepth 4000
variable (gl:Nat->Option IV)
theorem yQw:∀l:List Fm,l.length<=yQ9 l
 | []=>Nat.le_refl _
 | a::l=>by have:=yQw l;have:=a.size_pos;simp only[List.length_cons,yQ9];omega
mutual
def xUw:Tm->Nat
 | .mk _ n l=>1+n.size / 40+yUf l
def yUf:List Tm->Nat
 | []=>0
 | a::l=>xUw a+yUf l
end
