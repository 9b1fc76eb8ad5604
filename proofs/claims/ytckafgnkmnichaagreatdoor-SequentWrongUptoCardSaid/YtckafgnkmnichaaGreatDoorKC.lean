/- Walks: the makers of terms and formulas to the letter; the examples' formulas as plain data.
   Walks: awake. -/
import Derived.Test.YtckafgnkmnichaaGreatDoorKB
set_option linter.all false
namespace Go.Proofs.Tryz
open Go Go.Iv
set_option maxRecDepth 4000
variable (gl:Nat → Option IV)

def tagT:List Tm → Tag
  | [] => ⟨true,.nil,0⟩
  | _ :: _ => ⟨true,.full,3⟩
def tagF:List Fm → Tag
  | [] => ⟨true,.nil,0⟩
  | _ :: _ => ⟨true,.full,4⟩
mutual
def tmI:Tm → IV
  | .mk v n us => .agg [.raw (.bool v),.raw (.string n),.sl (tagT us) (tmsI us)]
def tmsI:List Tm → List IV
  | [] => []
  | a :: l => tmI a :: tmsI l
end
mutual
def fmI:Fm → IV
  | .mk op n us sub => .agg [.raw (.int .u8 op),.raw (.string n),.sl (tagT us) (tmsI us),.sl (tagF sub) (fmsI sub)]
def fmsI:List Fm → List IV
  | [] => []
  | a :: l => fmI a :: fmsI l
end
theorem tagT_es (l:List Tm):okEs (tagT l) 3:=by cases l <;> simp [tagT,okEs]
theorem tagF_es (l:List Fm):okEs (tagF l) 4:=by cases l <;> simp [tagF,okEs]
mutual
theorem tmI_is:∀ t:Tm,IsTm t (tmI t)
  | .mk v n us => by simp only [IsTm]; exact ⟨_,_,by simp only [tmI],tagT_es us,tmsI_is us⟩
theorem tmsI_is:∀ l:List Tm,IsTms l (tmsI l)
  | [] => rfl
  | a :: l => ⟨_,_,by simp only [tmsI],tmI_is a,tmsI_is l⟩
end
mutual
def opsOk:Fm → Bool
  | .mk op _ _ sub => decide (op < 256) && opsOks sub
def opsOks:List Fm → Bool
  | [] => true
  | a :: l => opsOk a && opsOks l
end
mutual
theorem fmI_is:∀ f:Fm,opsOk f = true → IsFm f (fmI f)
  | .mk op n us sub,h => by
    simp only [opsOk,Bool.and_eq_true,decide_eq_true_eq] at h
    simp only [IsFm]
    exact ⟨_,_,_,_,by simp only [fmI],h.1,tagT_es us,tmsI_is us,tagF_es sub,fmsI_is sub h.2⟩
theorem fmsI_is:∀ l:List Fm,opsOks l = true → IsFms l (fmsI l)
  | [],_ => rfl
  | a :: l,h => by
    simp only [opsOks,Bool.and_eq_true] at h
    exact ⟨_,_,by simp only [fmsI],fmI_is a h.1,fmsI_is l h.2⟩
end

def by_:ByteArray:=⟨#[121]⟩
end Go.Proofs.Tryz

namespace Go.Proofs.Tryz
open Go Go.Iv
set_option maxRecDepth 4000
variable (gl:Nat → Option IV)

end Go.Proofs.Tryz
