/- Walks: CopyTerms.
   Walks: Copy.
   Walks: size (of terms). -/
import Derived.Test.YtckafgnkmnichaaGreatDoorJR
set_option linter.all false
namespace Go.Proofs.Tryz
open Go Go.Iv
set_option maxRecDepth 4000
variable (gl:Nat → Option IV)

end Go.Proofs.Tryz

namespace Go.Proofs.Tryz
open Go Go.Iv
set_option maxRecDepth 4000
variable (gl:Nat → Option IV)

def frontF (st:ISt) (k:Nat) (tg:Tag) (st':ISt):Prop:=(k = 0 ∧ tg.cap = .nil ∧ st' = st) ∨ (0 < k ∧ ∃ g,tg = ⟨true,.app g,4⟩ ∧ st g = none ∧ st' = st.put g (some (.front k 4)))
theorem flen_le_size:∀ l:List Fm,l.length ≤ sizeFms l
  | [] => Nat.le_refl _
  | a :: l => by have:=flen_le_size l; have:=a.size_pos; simp only [List.length_cons,sizeFms]; omega
end Go.Proofs.Tryz

namespace Go.Proofs.Tryz
open Go Go.Iv
set_option maxRecDepth 4000
variable (gl:Nat → Option IV)

mutual
def bulkT:Tm → Nat
  | .mk _ n l => 1 + n.size / 40 + bulkTs l
def bulkTs:List Tm → Nat
  | [] => 0
  | a :: l => bulkT a + bulkTs l
end
end Go.Proofs.Tryz
