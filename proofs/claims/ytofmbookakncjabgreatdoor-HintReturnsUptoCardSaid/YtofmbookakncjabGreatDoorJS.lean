/- Walks: CopyTerms. -/
import Derived.Test.YtofmbookakncjabGreatDoorJR
set_option linter.all false
namespace Go.Proofs.Tryz
open Go Go.Iv
set_option maxRecDepth 4000
variable (gl:Nat->Option IV)
def frontF (st:ISt)(k:Nat)(A:Tag)(st':ISt):Prop:=(k=0/\A.cap=.nil/\st'=st)\/(0<k/\∃g,A=⟨true,.app g,4⟩/\st g=none/\st'=st.put g (some (.front k 4)))
def oj:∀l:List Fm,l.length<=eS l
 | []=>eu _
 | a::l=>by have:=oj l;have:=a.size_pos;simp only[fa,eS];omega
mutual
def rf:Tm->Nat
 | .mk _ n l=>1+n.size / 40+ns l
def ns:List Tm->Nat
 | []=>0
 | a::l=>rf a+ns l
end
