/- Walks: CopyTerms. -/
import Derived.Test.YtdbmgeebmfpmpaaGreatDoorJR
set_option linter.all false
namespace Go.Proofs.Tryz
open Go Go.Iv
set_option maxRecDepth 4000
variable (gl:Nat->Option IV)
def frontF (st:ISt)(k:Nat)(tg:Tag)(st':ISt):Prop:=(k=0/\tg.cap=.nil/\st'=st)\/(0<k/\∃g,tg=⟨true,.app g,4⟩/\st g=none/\st'=st.put g (some (.front k 4)))
theorem yXf:∀l:List Fm,l.length<=yQb l
 | []=>Nat.le_refl _
 | a::l=>by have:=yXf l;have:=a.size_pos;simp only[List.length_cons,yQb];omega
mutual
def xU7:Tm->Nat
 | .mk _ n l=>1+n.size / 40+yGu l
def yGu:List Tm->Nat
 | []=>0
 | a::l=>xU7 a+yGu l
end
