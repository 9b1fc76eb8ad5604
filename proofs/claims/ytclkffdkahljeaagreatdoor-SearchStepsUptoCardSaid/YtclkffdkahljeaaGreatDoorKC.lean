/- Walks: the makers of terms and formulas -/
import Derived.Test.YtclkffdkahljeaaGreatDoorKB
set_option linter.all false
namespace Go.Proofs.Tryz
open Go Go.Iv
set_option maxRecDepth 4000
variable (gl:Nat->Option IV)
def tagT:List Tm->Tag
 | []=>⟨true,.nil,0⟩
 | _::_=>⟨true,.full,3⟩
def tagF:List Fm->Tag
 | []=>⟨true,.nil,0⟩
 | _::_=>⟨true,.full,4⟩
mutual
def tmI:Tm->IV
 | .mk v n us=>.agg [.raw (.bool v),.raw (.string n),.sl (tagT us) (tmsI us)]
def tmsI:List Tm->List IV
 | []=>[]
 | a::l=>tmI a::tmsI l
end
mutual
def fmI:Fm->IV
 | .mk op n us sub=>.agg [.raw (.int .u8 op),.raw (.string n),.sl (tagT us) (tmsI us),.sl (tagF sub) (fmsI sub)]
def fmsI:List Fm->List IV
 | []=>[]
 | a::l=>fmI a::fmsI l
end
theorem xUu (l:List Tm):okEs (tagT l) 3:=by cases l<;>simp[tagT,okEs]
theorem xX4 (l:List Fm):okEs (tagF l) 4:=by cases l<;>simp[tagF,okEs]
mutual
theorem vJl:∀t:Tm,IsTm t (tmI t)
 | .mk v n us=>by simp only[IsTm];exact⟨_,_,by simp only[tmI],xUu us,xX1 us⟩
theorem xX1:∀l:List Tm,IsTms l (tmsI l)
 | []=>rfl
 | a::l=>⟨_,_,by simp only[tmsI],vJl a,xX1 l⟩
end
mutual
def vQ4:Fm->Bool
 | .mk op _ _ sub=>decide (op<256)&&zW5 sub
def zW5:List Fm->Bool
 | []=>true
 | a::l=>vQ4 a&&zW5 l
end
mutual
theorem vVg:∀f:Fm,vQ4 f=true->IsFm f (fmI f)
 | .mk op n us sub,h=>by
  simp only[vQ4,bAt,dTe] at h;simp only[IsFm];exact⟨_,_,_,_,by simp only[fmI],h.1,xUu us,xX1 us,xX4 sub,zGr sub h.2⟩
theorem zGr:∀l:List Fm,zW5 l=true->IsFms l (fmsI l)
 | [],_=>rfl
 | a::l,h=>by
  simp only[zW5,bAt] at h;exact⟨_,_,by simp only[fmsI],vVg a h.1,zGr l h.2⟩
end
def by_:ByteArray:=⟨#[121]⟩
def bz:ByteArray:=⟨#[122]⟩
def bx1:ByteArray:=⟨#[120,49]⟩
def vT (n:ByteArray):Tm:=.mk true n []
def aP (l:List Tm):Fm:=.mk 1 ⟨#[80]⟩ l []
def aR (l:List Tm):Fm:=.mk 1 ⟨#[82]⟩ l []
def eH:Fm:=.mk 8 by_ [] [.mk 6 ⟨#[]⟩ [] [aP [vT by_],.mk 9 bz [] [aR [vT by_,vT bz,vT bx1]]]]
