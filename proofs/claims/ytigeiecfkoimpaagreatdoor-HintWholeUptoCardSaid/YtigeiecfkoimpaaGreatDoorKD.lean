/- Names of right formulas; putting what ch -/
import Derived.Test.YtigeiecfkoimpaaGreatDoorKC
import Derived.Test.YtigeiecfkoimpaaGreatDoorKQ
set_option linter.all false
namespace Go.Proofs.Tryz
open Go Go.Iv
set_option maxRecDepth 4000
def L1 {p q:UInt8->Bool}{s:ByteArray}(h:lg p q s=true):s.size<=16:=by
 unfold lg at h;have hs:s.size=s.data.toList.length:=(jX).symm;grind
mutual
def L3:∀t:Tm,t.ok=true->∀s∈fP t,jQ s=true
 | .mk true n us,h,s,hs=>by
  obtain rfl:=uy h;simp only[fP,fI,dR] at hs;subst hs;simp only[Tm.ok,bAt] at h;exact h.2
 | .mk false n us,h,s,hs=>yf us (uz h) s (by simpa[fP] using hs)
def yf:∀l:List Tm,jq l=true->∀s∈fI l,jQ s=true
 | [],_,s,hs=>by cases hs
 | a::l,h,s,hs=>by
  simp only[fI,dQ] at hs;rcases hs with hs|hs
  ·exact L3 a (pU h).1 s hs
  ·exact yf l (pU h).2 s hs
end
mutual
def DD:∀f:Fm,f.ok=true->∀s∈frF f,jQ s=true
 | .mk op n us sub,h,s,hs=>by
  obtain⟨h1,h2,_⟩:=rO h;simp only[frF,dQ] at hs;rcases hs with hs|hs
  ·exact yf us h1 s hs
  ·split at hs
   ·exact yg sub h2 s (jf.1 hs).1
   ·exact yg sub h2 s hs
def yg:∀l:List Fm,iU l=true->∀s∈frFs l,jQ s=true
 | [],_,s,hs=>by cases hs
 | a::l,h,s,hs=>by
  simp only[frFs,dQ] at hs;rcases hs with hs|hs
  ·exact DD a (pV h).1 s hs
  ·exact yg l (pV h).2 s hs
end
end Go.Proofs.Tryz
namespace Go.Proofs.Tryz
open Go Go.Iv
set_option maxRecDepth 4000
variable (gl:Nat->Option IV)
