/- Walks: CopyTerms. -/
import Derived.Test.YtigeiecfkoimpaaGreatDoorJR
set_option linter.all false
namespace Go.Proofs.Tryz
open Go Go.Iv
set_option maxRecDepth 4000
variable (gl:Nat->Option IV)
def frontF (st:ISt)(k:Nat)(D:Tag)(st':ISt):Prop:=(k=0/\D.cap=.nil/\st'=st)\/(0<k/\∃g,D=⟨true,.app g,4⟩/\st g=none/\st'=st.put g (some (.front k 4)))
def mS:∀l:List Fm,l.length<=dV l
 | []=>dG _
 | a::l=>by have:=mS l;have:=a.size_pos;simp only[dX,dV];omega
mutual
def pS:Tm->Nat
 | .mk _ n l=>1+n.size / 40+ml l
def ml:List Tm->Nat
 | []=>0
 | a::l=>pS a+ml l
end
