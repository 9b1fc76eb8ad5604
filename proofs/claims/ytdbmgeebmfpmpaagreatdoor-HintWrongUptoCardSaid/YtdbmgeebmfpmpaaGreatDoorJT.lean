/- Walks: Size, Small. -/
import Derived.Test.YtdbmgeebmfpmpaaGreatDoorJS
set_option linter.all false
namespace Go.Proofs.Tryz
open Go Go.Iv
set_option maxRecDepth 4000
variable (gl:Nat->Option IV)
mutual
def xU8:Fm->Nat
 | .mk _ n us sub=>1+n.size / 40+yGu us+zQk sub
def zQk:List Fm->Nat
 | []=>0
 | a::l=>xU8 a+zQk l
end
def vYf (o:ByteArray×Tm)(x:IV):Prop:=∃v n tg xs,x=.agg [.raw (.string o.1),.raw (.bool v),.raw (.string n),.sl tg xs]/\IsTm o.2 (.agg [.raw (.bool v),.raw (.string n),.sl tg xs])
def IsOnes:List (ByteArray×Tm)->List IV->Prop
 | [],xs=>xs=[]
 | a::l,xs=>∃y ys,xs=y::ys/\vYf a y/\IsOnes l ys
theorem IsOnes.len:∀ {l:List (ByteArray×Tm)}{xs:List IV},IsOnes l xs->xs.length=l.length
 | [],xs,h=>by simp only[IsOnes] at h;subst h;rfl
 | a::l,xs,h=>by
  simp only[IsOnes] at h;obtain⟨y,ys,rfl,_,h⟩:=h;simp[IsOnes.len h]
theorem IsOnes.get:∀ {l:List (ByteArray×Tm)}{xs:List IV}{k:Nat}{a:ByteArray×Tm},IsOnes l xs->l[k]?=some a->∃x,xs[k]?=some x/\vYf a x
 | [],xs,k,a,h,hk=>by simp at hk
 | b::l,xs,k,a,h,hk=>by
  simp only[IsOnes] at h;obtain⟨y,ys,rfl,hy,h⟩:=h;cases k with
  | zero=>simp at hk;subst hk;exact⟨y,rfl,hy⟩
  | succ k=>simpa using IsOnes.get h (by simpa using hk)
