/- Results that are owned. -/
import Derived.Test.YtabhgbojkjcfjaaGreatDoorKV
import Derived.Test.YtabhgbojkjcfjaaGreatDoorKB
set_option linter.all false
namespace Go.Proofs.Tryz
open Go Go.Iv
set_option maxRecDepth 4000
variable (gl:Nat->Option IV)
def wV3:Prop:=∀g x,gl g=some x->age x=x
variable {gl}
theorem xYd {st:ISt}{y D:IV}{v:Value}(h:OI st y (.tup [D,.raw v]))(A:rawY y):∃z,y=.tup [z,.raw v]/\OI st z D/\rawY z:=by
 cases h with
 | refl =>
  simp only[rawY] at A;exact⟨D,rfl,.refl _,yGo A (by simp)⟩
 | tup rs _ E h =>
  match rs,E with
  | [a,b],_ =>
   have F:=(h 1 _ _ rfl rfl).raw_eq;subst F;simp only[rawY] at A;exact⟨a,rfl,h 0 _ _ rfl rfl,yGo A (by simp)⟩
