/- Results that are owned. -/
import Derived.Test.YtabhgbojkjcfjaaGreatDoorKV
import Derived.Test.YtabhgbojkjcfjaaGreatDoorKB
set_option linter.all false
namespace Go.Proofs.Tryz
open Go Go.Iv
set_option maxRecDepth 4000
variable (gl:Nat->Option IV)
def vJq:Prop:=∀g x,gl g=some x->age x=x
variable {gl}
theorem wJi {st:ISt}{y zi:IV}{v:Value}(h:OI st y (.tup [zi,.raw v]))(hy:rawY y):∃z,y=.tup [z,.raw v]/\OI st z zi/\rawY z:=by
 cases h with
 | refl =>
  simp only[rawY] at hy;exact⟨zi,rfl,.refl _,yYl hy (by simp)⟩
 | tup rs _ hl h =>
  match rs,hl with
  | [a,b],_ =>
   have e1:=(h 1 _ _ rfl rfl).raw_eq;subst e1;simp only[rawY] at hy;exact⟨a,rfl,h 0 _ _ rfl rfl,yYl hy (by simp)⟩
