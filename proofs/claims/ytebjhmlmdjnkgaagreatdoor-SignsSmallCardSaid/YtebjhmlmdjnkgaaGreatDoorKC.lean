/-  -/
import Derived.Test.YtebjhmlmdjnkgaaGreatDoorJW
import Derived.Test.YtebjhmlmdjnkgaaGreatDoorKA
set_option linter.all false
namespace Go.Proofs.Tryz
open Go Go.Iv
set_option maxRecDepth 4000
variable (gl:Nat->Option IV)
def tagT:List Tm->Tag
 | []=>⟨true,.nil,0⟩
 | _::_=>⟨true,.full,3⟩
def tagF:List Fm->Tag
 | []=>⟨true,.nil,0⟩
 | _::_=>⟨true,.full,4⟩
mutual
def tmI:Tm->IV
 | .mk v n us=>.agg [.raw (.bool v),.raw (.string n),.sl (tagT us) (tmsI us)]
def tmsI:List Tm->List IV
 | []=>[]
 | a::l=>tmI a::tmsI l
end
mutual
def fmI:Fm->IV
 | .mk op n us sub=>.agg [.raw (.int .u8 op),.raw (.string n),.sl (tagT us) (tmsI us),.sl (tagF sub) (fmsI sub)]
def fmsI:List Fm->List IV
 | []=>[]
 | a::l=>fmI a::fmsI l
end
theorem xYw (l:List Tm):okEs (tagT l) 3:=by cases l<;>simp[tagT,okEs]
theorem zXn (l:List Fm):okEs (tagF l) 4:=by cases l<;>simp[tagF,okEs]
mutual
def wJm:Fm->Bool
 | .mk op _ us sub=>decide (op<=7)&&us.isEmpty&&zZ1 sub
def zZ1:List Fm->Bool
 | []=>true
 | a::l=>wJm a&&zZ1 l
end
mutual
theorem wY7:∀f:Fm,wJm f=true->IsFm f (fmI f)
 | .mk op n us sub,h=>by
  simp only[wJm,bAt,dTe,List.isEmpty_iff] at h;obtain⟨⟨h1,rfl⟩,h2⟩:=h;exact⟨_,_,_,_,by simp only[fmI,tmsI],h1,xYw [],rfl,zXn sub,zQg sub h2⟩
theorem zQg:∀l:List Fm,zZ1 l=true->IsFms l (fmsI l)
 | [],_=>rfl
 | a::l,h=>by
  simp only[zZ1,bAt] at h;exact⟨_,_,by simp only[fmsI],wY7 a h.1,zQg l h.2⟩
end
def bx:ByteArray:=⟨#[120]⟩
def bz:ByteArray:=⟨#[122]⟩
def bx1:ByteArray:=⟨#[120,49]⟩
def vT (n:ByteArray):Tm:=.mk true n []
def aP (l:List Tm):Fm:=.mk 1 ⟨#[80]⟩ l []
def aQ (l:List Tm):Fm:=.mk 1 ⟨#[81]⟩ l []
def eTf:Tm:=.mk false ⟨#[102]⟩ [vT bx]
def eA:Fm:=.mk 4 ⟨#[]⟩ [] [.mk 9 bx1 [] [aP [vT bx1,eTf]],aQ [vT bx]]
