/- Walks: Size, Small. -/
import Derived.Test.YtigeiecfkoimpaaGreatDoorJS
set_option linter.all false
namespace Go.Proofs.Tryz
open Go Go.Iv
set_option maxRecDepth 4000
variable (gl:Nat->Option IV)
mutual
def pT:Fm->Nat
 | .mk _ n us sub=>1+n.size / 40+ml us+mT sub
def mT:List Fm->Nat
 | []=>0
 | a::l=>pT a+mT l
end
def C0 (o:ByteArray×Tm)(x:IV):Prop:=∃v n D xs,x=.agg [o.1,.raw (.bool v),.raw (.string n),.sl D xs]/\IsTm o.2 (.agg [.raw (.bool v),.raw (.string n),.sl D xs])
def IsOnes:List (ByteArray×Tm)->List IV->Prop
 | [],xs=>xs=[]
 | a::l,xs=>∃y ys,xs=y::ys/\C0 a y/\IsOnes l ys
def IsOnes.len:∀ {l:List (ByteArray×Tm)}{xs:List IV},IsOnes l xs->xs.length=l.length
 | [],xs,h=>by simp only[IsOnes] at h;subst h;rfl
 | a::l,xs,h=>by
  simp only[IsOnes] at h;obtain⟨y,ys,rfl,_,h⟩:=h;simp[IsOnes.len h]
def IsOnes.get:∀ {l:List (ByteArray×Tm)}{xs:List IV}{k:Nat}{a:ByteArray×Tm},IsOnes l xs->l[k]?=some a->∃x,xs[k]?=some x/\C0 a x
 | [],xs,k,a,h,D=>by simp at D
 | b::l,xs,k,a,h,D=>by
  simp only[IsOnes] at h;obtain⟨y,ys,rfl,E,h⟩:=h;cases k with
  | zero=>simp at D;subst D;exact⟨y,rfl,E⟩
  | succ k=>simpa using IsOnes.get h (by simpa using D)
