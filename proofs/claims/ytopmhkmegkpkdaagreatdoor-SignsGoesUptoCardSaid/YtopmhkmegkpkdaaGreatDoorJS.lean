/- Walks: CopyTerms. -/
import Derived.Test.YtopmhkmegkpkdaaGreatDoorJR
set_option linter.all false
namespace Go.Proofs.Tryz
open Go Go.Iv
set_option maxRecDepth 4000
variable (gl:Nat->Option IV)
def h_:∀l:List Fm,l.length<=dt l
 | []=>dz _
 | a::l=>by have:=h_ l;have:=a.size_pos;simp only[eG,dt];omega
mutual
def p6:Tm->Nat
 | .mk _ n l=>1+n.size / 40+my l
def my:List Tm->Nat
 | []=>0
 | a::l=>p6 a+my l
end
