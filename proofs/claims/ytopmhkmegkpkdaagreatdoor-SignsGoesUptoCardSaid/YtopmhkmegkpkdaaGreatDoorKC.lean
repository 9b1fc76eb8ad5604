/- Walks: the makers of terms and formulas -/
import Derived.Test.YtopmhkmegkpkdaaGreatDoorKB
set_option linter.all false
namespace Go.Proofs.Tryz
open Go Go.Iv
set_option maxRecDepth 4000
variable (gl:Nat->Option IV)
def tagT:List Tm->Tag
 | []=>⟨true,.nil,0⟩
 | _::_=>⟨true,.full,3⟩
def tagF:List Fm->Tag
 | []=>⟨true,.nil,0⟩
 | _::_=>⟨true,.full,4⟩
mutual
def tmI:Tm->IV
 | .mk v n us=>.agg [v,n,.sl (tagT us) (tmsI us)]
def tmsI:List Tm->List IV
 | []=>[]
 | a::l=>tmI a::tmsI l
end
mutual
def fmI:Fm->IV
 | .mk op n us sub=>.agg [.raw (.int .u8 op),n,.sl (tagT us) (tmsI us),.sl (tagF sub) (fmsI sub)]
def fmsI:List Fm->List IV
 | []=>[]
 | a::l=>fmI a::fmsI l
end
def CT (l:List Tm):okEs (tagT l) 3:=by cases l<;>simp[tagT,okEs]
def rK (l:List Fm):okEs (tagF l) 4:=by cases l<;>simp[tagF,okEs]
mutual
def CU:∀t:Tm,IsTm t (tmI t)
 | .mk v n us=>by simp only[IsTm];exact⟨_,_,by simp only[tmI],CT us,wR us⟩
def wR:∀l:List Tm,IsTms l (tmsI l)
 | []=>rfl
 | a::l=>⟨_,_,by simp only[tmsI],CU a,wR l⟩
end
mutual
def tG:Fm->Bool
 | .mk op _ _ sub=>decide (op<256)&&nW sub
def nW:List Fm->Bool
 | []=>true
 | a::l=>tG a&&nW l
end
mutual
def CV:∀f:Fm,tG f=true->IsFm f (fmI f)
 | .mk op n us sub,h=>by
  simp only[tG,bAt,dTe] at h;simp only[IsFm];exact⟨_,_,_,_,by simp only[fmI],h.1,CT us,wR us,rK sub,qf sub h.2⟩
def qf:∀l:List Fm,nW l=true->IsFms l (fmsI l)
 | [],_=>rfl
 | a::l,h=>by
  simp only[nW,bAt] at h;exact⟨_,_,by simp only[fmsI],CV a h.1,qf l h.2⟩
end
def bx:ByteArray:=⟨#[120]⟩
def by_:ByteArray:=⟨#[121]⟩
def bz:ByteArray:=⟨#[122]⟩
def bx1:ByteArray:=⟨#[120,49]⟩
def vT (n:ByteArray):Tm:=.mk true n []
def aP (l:List Tm):Fm:=.mk 1 ⟨#[80]⟩ l []
def aQ (l:List Tm):Fm:=.mk 1 ⟨#[81]⟩ l []
def eTf:Tm:=.mk false ⟨#[102]⟩ [vT bx]
def eA:Fm:=.mk 4 ⟨#[]⟩ [] [.mk 9 bx1 [] [aP [vT bx1,eTf]],aQ [vT bx]]
