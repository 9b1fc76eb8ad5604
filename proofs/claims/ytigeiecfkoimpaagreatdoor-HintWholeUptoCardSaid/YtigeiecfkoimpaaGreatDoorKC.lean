/- Walks: the makers of terms and formulas -/
import Derived.Test.YtigeiecfkoimpaaGreatDoorKB
set_option linter.all false
namespace Go.Proofs.Tryz
open Go Go.Iv
set_option maxRecDepth 4000
variable (gl:Nat->Option IV)
def tagT:List Tm->Tag
 | []=>⟨true,.nil,0⟩
 | _::_=>⟨true,.full,3⟩
def tagF:List Fm->Tag
 | []=>⟨true,.nil,0⟩
 | _::_=>⟨true,.full,4⟩
mutual
def tmI:Tm->IV
 | .mk v n us=>.agg [v,n,.sl (tagT us) (tmsI us)]
def tmsI:List Tm->List IV
 | []=>[]
 | a::l=>tmI a::tmsI l
end
mutual
def fmI:Fm->IV
 | .mk op n us sub=>.agg [.raw (.int .u8 op),n,.sl (tagT us) (tmsI us),.sl (tagF sub) (fmsI sub)]
def fmsI:List Fm->List IV
 | []=>[]
 | a::l=>fmI a::fmsI l
end
def DC (l:List Tm):okEs (tagT l) 3:=by cases l<;>simp[tagT,okEs]
def yb (l:List Fm):okEs (tagF l) 4:=by cases l<;>simp[tagF,okEs]
mutual
def LZ:∀t:Tm,IsTm t (tmI t)
 | .mk v n us=>by simp only[IsTm];exact⟨_,_,by simp only[tmI],DC us,yc us⟩
def yc:∀l:List Tm,IsTms l (tmsI l)
 | []=>rfl
 | a::l=>⟨_,_,by simp only[tmsI],LZ a,yc l⟩
end
mutual
def yd:Fm->Bool
 | .mk op _ _ sub=>decide (op<256)&&p8 sub
def p8:List Fm->Bool
 | []=>true
 | a::l=>yd a&&p8 l
end
mutual
def ye:∀f:Fm,yd f=true->IsFm f (fmI f)
 | .mk op n us sub,h=>by
  simp only[yd,bAt,dTe] at h;simp only[IsFm];exact⟨_,_,_,_,by simp only[fmI],h.1,DC us,yc us,yb sub,uF sub h.2⟩
def uF:∀l:List Fm,p8 l=true->IsFms l (fmsI l)
 | [],_=>rfl
 | a::l,h=>by
  simp only[p8,bAt] at h;exact⟨_,_,by simp only[fmsI],ye a h.1,uF l h.2⟩
end
def by_:ByteArray:=⟨#[121]⟩
def bz:ByteArray:=⟨#[122]⟩
def bx1:ByteArray:=⟨#[120,49]⟩
def vT (n:ByteArray):Tm:=.mk true n []
def aP (l:List Tm):Fm:=.mk 1 ⟨#[80]⟩ l []
def aR (l:List Tm):Fm:=.mk 1 ⟨#[82]⟩ l []
def eH:Fm:=.mk 8 by_ [] [.mk 6 ⟨#[]⟩ [] [aP [vT by_],.mk 9 bz [] [aR [vT by_,vT bz,vT bx1]]]]
