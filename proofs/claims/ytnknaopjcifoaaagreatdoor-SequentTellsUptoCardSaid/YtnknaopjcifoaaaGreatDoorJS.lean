/- Walks: CopyTerms. -/
import Derived.Test.YtnknaopjcifoaaaGreatDoorJR
set_option linter.all false
namespace Go.Proofs.Tryz
open Go Go.Iv
set_option maxRecDepth 4000
variable (gl:Nat->Option IV)
def frontF (st:ISt)(k:Nat)(tg:Tag)(st':ISt):Prop:=(k=0/\tg.cap=.nil/\st'=st)\/(0<k/\∃g,tg=⟨true,.app g,4⟩/\st g=none/\st'=st.put g (some (.front k 4)))
theorem yZn:∀l:List Fm,l.length<=yQ7 l
 | []=>Nat.le_refl _
 | a::l=>by have:=yZn l;have:=a.size_pos;simp only[List.length_cons,yQ7];omega
mutual
def xGe:Tm->Nat
 | .mk _ n l=>1+n.size / 40+yU3 l
def yU3:List Tm->Nat
 | []=>0
 | a::l=>xGe a+yU3 l
end
