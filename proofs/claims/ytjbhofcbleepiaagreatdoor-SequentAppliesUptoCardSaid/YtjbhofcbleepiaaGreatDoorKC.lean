/- Walks: the makers of terms and formulas -/
import Derived.Test.YtjbhofcbleepiaaGreatDoorKB
set_option linter.all false
namespace Go.Proofs.Tryz
open Go Go.Iv
set_option maxRecDepth 4000
variable (gl:Nat→Option IV)
def tagT:List Tm→Tag
 | []=>⟨true,.nil,0⟩
 | _::_=>⟨true,.full,3⟩
def tagF:List Fm→Tag
 | []=>⟨true,.nil,0⟩
 | _::_=>⟨true,.full,4⟩
mutual
def tmI:Tm→IV
 | .mk v n us=>.agg [.raw (.bool v),.raw (.string n),.sl (tagT us) (tmsI us)]
def tmsI:List Tm→List IV
 | []=>[]
 | a::l=>tmI a::tmsI l
end
mutual
def fmI:Fm→IV
 | .mk op n us sub=>.agg [.raw (.int .u8 op),.raw (.string n),.sl (tagT us) (tmsI us),.sl (tagF sub) (fmsI sub)]
def fmsI:List Fm→List IV
 | []=>[]
 | a::l=>fmI a::fmsI l
end
theorem xUr (l:List Tm):okEs (tagT l) 3:=by cases l<;>simp[tagT,okEs]
theorem yKd (l:List Fm):okEs (tagF l) 4:=by cases l<;>simp[tagF,okEs]
mutual
theorem xV4:∀ t:Tm,IsTm t (tmI t)
 | .mk v n us=>by simp only[IsTm]; exact⟨_,_,by simp only[tmI],xUr us,xXq us⟩
theorem xXq:∀ l:List Tm,IsTms l (tmsI l)
 | []=>rfl
 | a::l=>⟨_,_,by simp only[tmsI],xV4 a,xXq l⟩
end
mutual
def wKn:Fm→Bool
 | .mk op _ _ sub=>decide (op<256)&&zWz sub
def zWz:List Fm→Bool
 | []=>true
 | a::l=>wKn a&&zWz l
end
mutual
theorem xWr:∀ f:Fm,wKn f=true→IsFm f (fmI f)
 | .mk op n us sub,h=>by
  simp only[wKn,bAt,dTe] at h
  simp only[IsFm]
  exact⟨_,_,_,_,by simp only[fmI],h.1,xUr us,xXq us,yKd sub,yK6 sub h.2⟩
theorem yK6:∀ l:List Fm,zWz l=true→IsFms l (fmsI l)
 | [],_=>rfl
 | a::l,h=>by
  simp only[zWz,bAt] at h
  exact⟨_,_,by simp only[fmsI],xWr a h.1,yK6 l h.2⟩
end
def by_:ByteArray:=⟨#[121]⟩
def aR (l:List Tm):Fm:=.mk 1 ⟨#[82]⟩ l []
end Go.Proofs.Tryz
