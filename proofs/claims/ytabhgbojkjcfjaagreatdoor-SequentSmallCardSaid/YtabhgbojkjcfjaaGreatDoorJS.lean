/- Walks: CopyTerms. -/
import Derived.Test.YtabhgbojkjcfjaaGreatDoorJR
set_option linter.all false
namespace Go.Proofs.Tryz
open Go Go.Iv
set_option maxRecDepth 4000
variable (gl:Nat->Option IV)
def frontF (st:ISt)(k:Nat)(A:Tag)(st':ISt):Prop:=(k=0/\A.cap=.nil/\st'=st)\/(0<k/\∃g,A=⟨true,.app g,4⟩/\st g=none/\st'=st.put g (some (.front k 4)))
theorem yQs:∀l:List Fm,l.length<=yQ9 l
 | []=>Nat.le_refl _
 | a::l=>by have:=yQs l;have:=a.size_pos;simp only[List.length_cons,yQ9];omega
