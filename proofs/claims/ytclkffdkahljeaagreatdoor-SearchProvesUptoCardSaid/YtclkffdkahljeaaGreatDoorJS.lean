/- Walks: CopyTerms. -/
import Derived.Test.YtclkffdkahljeaaGreatDoorJR
set_option linter.all false
namespace Go.Proofs.Tryz
open Go Go.Iv
set_option maxRecDepth 4000
variable (gl:Nat->Option IV)
def frontF (st:ISt)(k:Nat)(A:Tag)(st':ISt):Prop:=(k=0/\A.cap=.nil/\st'=st)\/(0<k/\∃g,A=⟨true,.app g,4⟩/\st g=none/\st'=st.put g (some (.front k 4)))
theorem yZm:∀l:List Fm,l.length<=yQd l
 | []=>Nat.le_refl _
 | a::l=>by have:=yZm l;have:=a.size_pos;simp only[List.length_cons,yQd];omega
mutual
def xU4:Tm->Nat
 | .mk _ n l=>1+n.size / 40+yU1 l
def yU1:List Tm->Nat
 | []=>0
 | a::l=>xU4 a+yU1 l
end
