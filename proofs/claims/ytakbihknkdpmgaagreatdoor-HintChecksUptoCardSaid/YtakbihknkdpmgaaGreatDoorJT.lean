/- Walks: Size, Small. -/
import Derived.Test.YtakbihknkdpmgaaGreatDoorJS
set_option linter.all false
namespace Go.Proofs.Tryz
open Go Go.Iv
set_option maxRecDepth 4000
variable (gl:Nat->Option IV)
mutual
def pM:Fm->Nat
 | .mk _ n us sub=>1+n.size / 40+mg us+mO sub
def mO:List Fm->Nat
 | []=>0
 | a::l=>pM a+mO l
end
def CL (o:ByteArray×Tm)(x:IV):Prop:=∃v n D A,x=.agg [o.1,.raw (.bool v),.raw (.string n),.sl D A]/\IsTm o.2 (.agg [.raw (.bool v),.raw (.string n),.sl D A])
def IsOnes:List (ByteArray×Tm)->List IV->Prop
 | [],A=>A=[]
 | a::l,A=>∃y ys,A=y::ys/\CL a y/\IsOnes l ys
def IsOnes.len:∀ {l:List (ByteArray×Tm)}{A:List IV},IsOnes l A->A.length=l.length
 | [],A,h=>by simp only[IsOnes] at h;subst h;rfl
 | a::l,A,h=>by
  simp only[IsOnes] at h;obtain⟨y,ys,rfl,_,h⟩:=h;simp[IsOnes.len h]
def IsOnes.get:∀ {l:List (ByteArray×Tm)}{D:List IV}{k:Nat}{a:ByteArray×Tm},IsOnes l D->l[k]?=some a->∃x,D[k]?=some x/\CL a x
 | [],D,k,a,h,A=>by simp at A
 | b::l,D,k,a,h,A=>by
  simp only[IsOnes] at h;obtain⟨y,ys,rfl,E,h⟩:=h;cases k with
  | zero=>simp at A;subst A;exact⟨y,rfl,E⟩
  | succ k=>simpa using IsOnes.get h (by simpa using A)
