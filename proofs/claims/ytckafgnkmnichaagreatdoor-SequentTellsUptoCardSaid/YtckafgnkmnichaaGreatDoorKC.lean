/- Walks: the makers of terms and formulas -/
import Derived.Test.YtckafgnkmnichaaGreatDoorKB
set_option linter.all false
namespace Go.Proofs.Tryz
open Go Go.Iv
set_option maxRecDepth 4000
variable (gl:Nat → Option IV)
def tagT:List Tm → Tag
 | [] => ⟨true,.nil,0⟩
 | _ :: _ => ⟨true,.full,3⟩
def tagF:List Fm → Tag
 | [] => ⟨true,.nil,0⟩
 | _ :: _ => ⟨true,.full,4⟩
mutual
def tmI:Tm → IV
 | .mk v n us => .agg [.raw (.bool v),.raw (.string n),.sl (tagT us) (tmsI us)]
def tmsI:List Tm → List IV
 | [] => []
 | a :: l => tmI a :: tmsI l
end
mutual
def fmI:Fm → IV
 | .mk op n us sub => .agg [.raw (.int .u8 op),.raw (.string n),.sl (tagT us) (tmsI us),.sl (tagF sub) (fmsI sub)]
def fmsI:List Fm → List IV
 | [] => []
 | a :: l => fmI a :: fmsI l
end
theorem xGf (l:List Tm):okEs (tagT l) 3:=by cases l <;> simp [tagT,okEs]
theorem yKh (l:List Fm):okEs (tagF l) 4:=by cases l <;> simp [tagF,okEs]
mutual
theorem xJp:∀ t:Tm,IsTm t (tmI t)
 | .mk v n us => by simp only [IsTm]; exact ⟨_,_,by simp only [tmI],xGf us,xZb us⟩
theorem xZb:∀ l:List Tm,IsTms l (tmsI l)
 | [] => rfl
 | a :: l => ⟨_,_,by simp only [tmsI],xJp a,xZb l⟩
end
mutual
def wJ6:Fm → Bool
 | .mk op _ _ sub => decide (op < 256) && zVx sub
def zVx:List Fm → Bool
 | [] => true
 | a :: l => wJ6 a && zVx l
end
mutual
theorem xV7:∀ f:Fm,wJ6 f = true → IsFm f (fmI f)
 | .mk op n us sub,h => by
  simp only [wJ6,bAt,dTe] at h
  simp only [IsFm]
  exact ⟨_,_,_,_,by simp only [fmI],h.1,xGf us,xZb us,yKh sub,yKa sub h.2⟩
theorem yKa:∀ l:List Fm,zVx l = true → IsFms l (fmsI l)
 | [],_ => rfl
 | a :: l,h => by
  simp only [zVx,bAt] at h
  exact ⟨_,_,by simp only [fmsI],xV7 a h.1,yKa l h.2⟩
end
def by_:ByteArray:=⟨#[121]⟩
end Go.Proofs.Tryz
