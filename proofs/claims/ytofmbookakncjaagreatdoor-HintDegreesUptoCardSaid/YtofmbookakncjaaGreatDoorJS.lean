/- Walks: CopyTerms. -/
import Derived.Test.YtofmbookakncjaaGreatDoorJR
set_option linter.all false
namespace Go.Proofs.Tryz
open Go Go.Iv
set_option maxRecDepth 4000
variable (gl:Nat->Option IV)
def frontF (st:ISt)(k:Nat)(A:Tag)(st':ISt):Prop:=(k=0/\A.cap=.nil/\st'=st)\/(0<k/\∃g,A=⟨true,.app g,4⟩/\st g=none/\st'=st.put g (some (.front k 4)))
theorem yX4:∀l:List Fm,l.length<=yQb l
 | []=>Nat.le_refl _
 | a::l=>by have:=yX4 l;have:=a.size_pos;simp only[List.length_cons,yQb];omega
mutual
def wQa:Tm->Nat
 | .mk _ n l=>1+n.size / 40+yGz l
def yGz:List Tm->Nat
 | []=>0
 | a::l=>wQa a+yGz l
end
