/- Walks: CopyTerms. -/
import Derived.Test.YtakbihknkdpmgaaGreatDoorJR
set_option linter.all false
namespace Go.Proofs.Tryz
open Go Go.Iv
set_option maxRecDepth 4000
variable (gl:Nat->Option IV)
def frontF (st:ISt)(k:Nat)(A:Tag)(st':ISt):Prop:=(k=0/\A.cap=.nil/\st'=st)\/(0<k/\∃g,A=⟨true,.app g,4⟩/\st g=none/\st'=st.put g (some (.front k 4)))
def kX:∀l:List Fm,l.length<=dL l
 | []=>dJ _
 | a::l=>by have:=kX l;have:=a.size_pos;simp only[dV,dL];omega
mutual
def pL:Tm->Nat
 | .mk _ n l=>1+n.size / 40+mg l
def mg:List Tm->Nat
 | []=>0
 | a::l=>pL a+mg l
end
