/- Walks: CopyTerms. -/
import Derived.Test.YtddfdpbibloljaaGreatDoorJR
set_option linter.all false
namespace Go.Proofs.Tryz
open Go Go.Iv
set_option maxRecDepth 4000
variable (gl:Nat->Option IV)
theorem yZ8:∀l:List Fm,l.length<=yQa l
 | []=>Nat.le_refl _
 | a::l=>by have:=yZ8 l;have:=a.size_pos;simp only[List.length_cons,yQa];omega
mutual
def xGe:Tm->Nat
 | .mk _ n l=>1+n.size / 40+yGu l
def yGu:List Tm->Nat
 | []=>0
 | a::l=>xGe a+yGu l
end
