/- Walks: the makers of terms and formulas -/
import Derived.Test.YtclkffdkahljeaaGreatDoorKB
set_option linter.all false
namespace Go.Proofs.Tryz
open Go Go.Iv
set_option maxRecDepth 4000
variable (gl:Nat->Option IV)
def tagT:List Tm->Tag
 | []=>⟨true,.nil,0⟩
 | _::_=>⟨true,.full,3⟩
def tagF:List Fm->Tag
 | []=>⟨true,.nil,0⟩
 | _::_=>⟨true,.full,4⟩
mutual
def tmI:Tm->IV
 | .mk v n us=>.agg [.raw (.bool v),.raw (.string n),.sl (tagT us) (tmsI us)]
def tmsI:List Tm->List IV
 | []=>[]
 | a::l=>tmI a::tmsI l
end
mutual
def fmI:Fm->IV
 | .mk op n us sub=>.agg [.raw (.int .u8 op),.raw (.string n),.sl (tagT us) (tmsI us),.sl (tagF sub) (fmsI sub)]
def fmsI:List Fm->List IV
 | []=>[]
 | a::l=>fmI a::fmsI l
end
theorem xW7 (l:List Tm):okEs (tagT l) 3:=by cases l<;>simp[tagT,okEs]
theorem zU3 (l:List Fm):okEs (tagF l) 4:=by cases l<;>simp[tagF,okEs]
mutual
theorem wGc:∀t:Tm,IsTm t (tmI t)
 | .mk v n us=>by simp only[IsTm];exact⟨_,_,by simp only[tmI],xW7 us,zU0 us⟩
theorem zU0:∀l:List Tm,IsTms l (tmsI l)
 | []=>rfl
 | a::l=>⟨_,_,by simp only[tmsI],wGc a,zU0 l⟩
end
mutual
def wKz:Fm->Bool
 | .mk op _ _ sub=>decide (op<256)&&zK0 sub
def zK0:List Fm->Bool
 | []=>true
 | a::l=>wKz a&&zK0 l
end
mutual
theorem wUs:∀f:Fm,wKz f=true->IsFm f (fmI f)
 | .mk op n us sub,h=>by
  simp only[wKz,bAt,dTe] at h;simp only[IsFm];exact⟨_,_,_,_,by simp only[fmI],h.1,xW7 us,zU0 us,zU3 sub,zW8 sub h.2⟩
theorem zW8:∀l:List Fm,zK0 l=true->IsFms l (fmsI l)
 | [],_=>rfl
 | a::l,h=>by
  simp only[zK0,bAt] at h;exact⟨_,_,by simp only[fmsI],wUs a h.1,zW8 l h.2⟩
end
def by_:ByteArray:=⟨#[121]⟩
def bz:ByteArray:=⟨#[122]⟩
def bx1:ByteArray:=⟨#[120,49]⟩
def vT (n:ByteArray):Tm:=.mk true n []
def aP (l:List Tm):Fm:=.mk 1 ⟨#[80]⟩ l []
def aR (l:List Tm):Fm:=.mk 1 ⟨#[82]⟩ l []
def eH:Fm:=.mk 8 by_ [] [.mk 6 ⟨#[]⟩ [] [aP [vT by_],.mk 9 bz [] [aR [vT by_,vT bz,vT bx1]]]]
