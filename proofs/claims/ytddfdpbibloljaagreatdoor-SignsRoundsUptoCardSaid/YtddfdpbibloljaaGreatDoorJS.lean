/- Walks: CopyTerms. -/
import Derived.Test.YtddfdpbibloljaaGreatDoorJR
set_option linter.all false
namespace Go.Proofs.Tryz
open Go Go.Iv
set_option maxRecDepth 4000
variable (gl:Nat->Option IV)
theorem yZb:∀l:List Fm,l.length<=yQ9 l
 | []=>Nat.le_refl _
 | a::l=>by have:=yZb l;have:=a.size_pos;simp only[List.length_cons,yQ9];omega
mutual
def xU3:Tm->Nat
 | .mk _ n l=>1+n.size / 40+yU8 l
def yU8:List Tm->Nat
 | []=>0
 | a::l=>xU3 a+yU8 l
end
