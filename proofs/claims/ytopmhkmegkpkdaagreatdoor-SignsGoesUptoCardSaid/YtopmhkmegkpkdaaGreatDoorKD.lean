/- Names of right formulas; putting what ch -/
import Derived.Test.YtopmhkmegkpkdaaGreatDoorKC
import Derived.Test.YtopmhkmegkpkdaaGreatDoorKQ
set_option linter.all false
namespace Go.Proofs.Tryz
open Go Go.Iv
set_option maxRecDepth 4000
def Lm {p q:UInt8->Bool}{s:ByteArray}(h:jy p q s=true):s.size<=16:=by
 unfold jy at h;have A:s.size=s.data.toList.length:=(kd).symm;grind
mutual
def Ln:∀t:Tm,t.ok=true->∀s∈fK t,iD s=true
 | .mk true n us,h,s,A=>by
  obtain rfl:=th h;simp only[fK,fw,fD] at A;subst A;simp only[Tm.ok,bAt] at h;exact h.2
 | .mk false n us,h,s,A=>wT us (ti h) s (by simpa[fK] using A)
def wT:∀l:List Tm,fT l=true->∀s∈fw l,iD s=true
 | [],_,s,A=>by cases A
 | a::l,h,s,A=>by
  simp only[fw,eX] at A;rcases A with A|A
  ·exact Ln a (p8 h).1 s A
  ·exact wT l (p8 h).2 s A
end
mutual
def CW:∀f:Fm,f.ok=true->∀s∈frF f,iD s=true
 | .mk op n us sub,h,s,A=>by
  obtain⟨h1,h2,_⟩:=tj h;simp only[frF,eX] at A;rcases A with A|A
  ·exact wT us h1 s A
  ·split at A
   ·exact wU sub h2 s (jq.1 A).1
   ·exact wU sub h2 s A
def wU:∀l:List Fm,gC l=true->∀s∈frFs l,iD s=true
 | [],_,s,A=>by cases A
 | a::l,h,s,A=>by
  simp only[frFs,eX] at A;rcases A with A|A
  ·exact CW a (p9 h).1 s A
  ·exact wU l (p9 h).2 s A
end
end Go.Proofs.Tryz
namespace Go.Proofs.Tryz
open Go Go.Iv
set_option maxRecDepth 4000
variable (gl:Nat->Option IV)
