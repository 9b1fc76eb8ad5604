/- Walks: the makers of terms and formulas -/
import Derived.Test.YtddfdpbibloljaaGreatDoorKB
set_option linter.all false
namespace Go.Proofs.Tryz
open Go Go.Iv
set_option maxRecDepth 4000
variable (gl:Nat->Option IV)
def tagT:List Tm->Tag
 | []=>⟨true,.nil,0⟩
 | _::_=>⟨true,.full,3⟩
def tagF:List Fm->Tag
 | []=>⟨true,.nil,0⟩
 | _::_=>⟨true,.full,4⟩
mutual
def tmI:Tm->IV
 | .mk v n us=>.agg [.raw (.bool v),.raw (.string n),.sl (tagT us) (tmsI us)]
def tmsI:List Tm->List IV
 | []=>[]
 | a::l=>tmI a::tmsI l
end
mutual
def fmI:Fm->IV
 | .mk op n us sub=>.agg [.raw (.int .u8 op),.raw (.string n),.sl (tagT us) (tmsI us),.sl (tagF sub) (fmsI sub)]
def fmsI:List Fm->List IV
 | []=>[]
 | a::l=>fmI a::fmsI l
end
theorem xUy (l:List Tm):okEs (tagT l) 3:=by cases l<;>simp[tagT,okEs]
theorem zJg (l:List Fm):okEs (tagF l) 4:=by cases l<;>simp[tagF,okEs]
mutual
theorem wY9:∀t:Tm,IsTm t (tmI t)
 | .mk v n us=>by simp only[IsTm];exact⟨_,_,by simp only[tmI],xUy us,xX1 us⟩
theorem xX1:∀l:List Tm,IsTms l (tmsI l)
 | []=>rfl
 | a::l=>⟨_,_,by simp only[tmsI],wY9 a,xX1 l⟩
end
mutual
def wVe:Fm->Bool
 | .mk op _ _ sub=>decide (op<256)&&zZx sub
def zZx:List Fm->Bool
 | []=>true
 | a::l=>wVe a&&zZx l
end
mutual
theorem wG4:∀f:Fm,wVe f=true->IsFm f (fmI f)
 | .mk op n us sub,h=>by
  simp only[wVe,bAt,dTe] at h;simp only[IsFm];exact⟨_,_,_,_,by simp only[fmI],h.1,xUy us,xX1 us,zJg sub,zZb sub h.2⟩
theorem zZb:∀l:List Fm,zZx l=true->IsFms l (fmsI l)
 | [],_=>rfl
 | a::l,h=>by
  simp only[zZx,bAt] at h;exact⟨_,_,by simp only[fmsI],wG4 a h.1,zZb l h.2⟩
end
def bx:ByteArray:=⟨#[120]⟩
def by_:ByteArray:=⟨#[121]⟩
def bz:ByteArray:=⟨#[122]⟩
def bx1:ByteArray:=⟨#[120,49]⟩
def vT (n:ByteArray):Tm:=.mk true n []
def aP (l:List Tm):Fm:=.mk 1 ⟨#[80]⟩ l []
def aQ (l:List Tm):Fm:=.mk 1 ⟨#[81]⟩ l []
def eTf:Tm:=.mk false ⟨#[102]⟩ [vT bx]
def eA:Fm:=.mk 4 ⟨#[]⟩ [] [.mk 9 bx1 [] [aP [vT bx1,eTf]],aQ [vT bx]]
