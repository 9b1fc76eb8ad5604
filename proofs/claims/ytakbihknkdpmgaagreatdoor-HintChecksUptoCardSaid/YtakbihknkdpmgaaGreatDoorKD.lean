/- Names of right formulas; putting what ch -/
import Derived.Test.YtakbihknkdpmgaaGreatDoorKC
import Derived.Test.YtakbihknkdpmgaaGreatDoorKQ
set_option linter.all false
namespace Go.Proofs.Tryz
open Go Go.Iv
set_option maxRecDepth 4000
def LP {p q:UInt8->Bool}{s:ByteArray}(h:jq p q s=true):s.size<=16:=by
 unfold jq at h;have hs:s.size=s.data.toList.length:=(jR).symm;grind
mutual
def LQ:∀t:Tm,t.ok=true->∀s∈fK t,iy s=true
 | .mk true n us,h,s,hs=>by
  obtain rfl:=ui h;simp only[fK,fC,dZ] at hs;subst hs;simp only[Tm.ok,bAt] at h;exact h.2
 | .mk false n us,h,s,hs=>xT us (uj h) s (by simpa[fK] using hs)
def xT:∀l:List Tm,jf l=true->∀s∈fC l,iy s=true
 | [],_,s,hs=>by cases hs
 | a::l,h,s,hs=>by
  simp only[fC,dR] at hs;rcases hs with hs|hs
  ·exact LQ a (pN h).1 s hs
  ·exact xT l (pN h).2 s hs
end
mutual
def Dq:∀f:Fm,f.ok=true->∀s∈frF f,iy s=true
 | .mk op n us sub,h,s,hs=>by
  obtain⟨h1,h2,_⟩:=rG h;simp only[frF,dR] at hs;rcases hs with hs|hs
  ·exact xT us h1 s hs
  ·split at hs
   ·exact xU sub h2 s (iY.1 hs).1
   ·exact xU sub h2 s hs
def xU:∀l:List Fm,gj l=true->∀s∈frFs l,iy s=true
 | [],_,s,hs=>by cases hs
 | a::l,h,s,hs=>by
  simp only[frFs,dR] at hs;rcases hs with hs|hs
  ·exact Dq a (pO h).1 s hs
  ·exact xU l (pO h).2 s hs
end
end Go.Proofs.Tryz
namespace Go.Proofs.Tryz
open Go Go.Iv
set_option maxRecDepth 4000
variable (gl:Nat->Option IV)
