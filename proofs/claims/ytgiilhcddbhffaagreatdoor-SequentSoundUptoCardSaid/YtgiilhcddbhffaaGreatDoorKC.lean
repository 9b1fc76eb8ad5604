/- Walks: the makers of terms and formulas -/
import Derived.Test.YtgiilhcddbhffaaGreatDoorKB
set_option linter.all false
namespace Go.Proofs.Tryz
open Go Go.Iv
set_option maxRecDepth 4000
variable (gl:Nat→Option IV)
def tagT:List Tm→Tag
 | []=>⟨true,.nil,0⟩
 | _::_=>⟨true,.full,3⟩
def tagF:List Fm→Tag
 | []=>⟨true,.nil,0⟩
 | _::_=>⟨true,.full,4⟩
mutual
def tmI:Tm→IV
 | .mk v n us=>.agg [.raw (.bool v),.raw (.string n),.sl (tagT us) (tmsI us)]
def tmsI:List Tm→List IV
 | []=>[]
 | a::l=>tmI a::tmsI l
end
mutual
def fmI:Fm→IV
 | .mk op n us sub=>.agg [.raw (.int .u8 op),.raw (.string n),.sl (tagT us) (tmsI us),.sl (tagF sub) (fmsI sub)]
def fmsI:List Fm→List IV
 | []=>[]
 | a::l=>fmI a::fmsI l
end
theorem xG9 (l:List Tm):okEs (tagT l) 3:=by cases l<;>simp[tagT,okEs]
theorem yK1 (l:List Fm):okEs (tagF l) 4:=by cases l<;>simp[tagF,okEs]
mutual
theorem xJi:∀ t:Tm,IsTm t (tmI t)
 | .mk v n us=>by simp only[IsTm]; exact⟨_,_,by simp only[tmI],xG9 us,xQq us⟩
theorem xQq:∀ l:List Tm,IsTms l (tmsI l)
 | []=>rfl
 | a::l=>⟨_,_,by simp only[tmsI],xJi a,xQq l⟩
end
mutual
def wJm:Fm→Bool
 | .mk op _ _ sub=>decide (op<256)&&zVb sub
def zVb:List Fm→Bool
 | []=>true
 | a::l=>wJm a&&zVb l
end
mutual
theorem xV2:∀ f:Fm,wJm f=true→IsFm f (fmI f)
 | .mk op n us sub,h=>by
  simp only[wJm,bAt,dTe] at h
  simp only[IsFm]
  exact⟨_,_,_,_,by simp only[fmI],h.1,xG9 us,xQq us,yK1 sub,yJv sub h.2⟩
theorem yJv:∀ l:List Fm,zVb l=true→IsFms l (fmsI l)
 | [],_=>rfl
 | a::l,h=>by
  simp only[zVb,bAt] at h
  exact⟨_,_,by simp only[fmsI],xV2 a h.1,yJv l h.2⟩
end
def by_:ByteArray:=⟨#[121]⟩
def aR (l:List Tm):Fm:=.mk 1 ⟨#[82]⟩ l []
end Go.Proofs.Tryz
