/- Names of right formulas; putting what ch -/
import Derived.Test.YtofmbookakncjabGreatDoorKC
import Derived.Test.YtofmbookakncjabGreatDoorKQ
set_option linter.all false
namespace Go.Proofs.Tryz
open Go Go.Iv
set_option maxRecDepth 4000
def Nr {p q:UInt8->Bool}{s:ByteArray}(h:l8 p q s=true):s.size<=16:=by
 unfold l8 at h;have hs:s.size=s.data.toList.length:=(kN).symm;grind
mutual
def Ns:∀t:Tm,t.ok=true->∀s∈gQ t,kJ s=true
 | .mk true n us,h,s,hs=>by
  obtain rfl:=wh h;simp only[gQ,gG,eY] at hs;subst hs;simp only[Tm.ok,bAt] at h;exact h.2
 | .mk false n us,h,s,hs=>Az us (wi h) s (by simpa[gQ] using hs)
def Az:∀l:List Tm,ka l=true->∀s∈gG l,kJ s=true
 | [],_,s,hs=>by cases hs
 | a::l,h,s,hs=>by
  simp only[gG,eQ] at hs;rcases hs with hs|hs
  ·exact Ns a (ri h).1 s hs
  ·exact Az l (ri h).2 s hs
end
mutual
def Fv:∀f:Fm,f.ok=true->∀s∈frF f,kJ s=true
 | .mk op n us sub,h,s,hs=>by
  obtain⟨h1,h2,_⟩:=ur h;simp only[frF,eQ] at hs;rcases hs with hs|hs
  ·exact Az us h1 s hs
  ·split at hs
   ·exact AA sub h2 s (j3.1 hs).1
   ·exact AA sub h2 s hs
def AA:∀l:List Fm,jR l=true->∀s∈frFs l,kJ s=true
 | [],_,s,hs=>by cases hs
 | a::l,h,s,hs=>by
  simp only[frFs,eQ] at hs;rcases hs with hs|hs
  ·exact Fv a (rj h).1 s hs
  ·exact AA l (rj h).2 s hs
end
end Go.Proofs.Tryz
namespace Go.Proofs.Tryz
open Go Go.Iv
set_option maxRecDepth 4000
variable (gl:Nat->Option IV)
