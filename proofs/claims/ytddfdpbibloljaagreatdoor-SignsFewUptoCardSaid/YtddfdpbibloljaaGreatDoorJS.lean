/- Walks: CopyTerms. -/
import Derived.Test.YtddfdpbibloljaaGreatDoorJR
set_option linter.all false
namespace Go.Proofs.Tryz
open Go Go.Iv
set_option maxRecDepth 4000
variable (gl:Nat->Option IV)
theorem yZ1:∀l:List Fm,l.length<=yQ9 l
 | []=>Nat.le_refl _
 | a::l=>by have:=yZ1 l;have:=a.size_pos;simp only[List.length_cons,yQ9];omega
mutual
def xGw:Tm->Nat
 | .mk _ n l=>1+n.size / 40+yU0 l
def yU0:List Tm->Nat
 | []=>0
 | a::l=>xGw a+yU0 l
end
