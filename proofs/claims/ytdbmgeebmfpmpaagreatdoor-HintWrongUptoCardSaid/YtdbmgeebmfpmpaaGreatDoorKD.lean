/- Names of right formulas; putting what ch -/
import Derived.Test.YtdbmgeebmfpmpaaGreatDoorKC
import Derived.Test.YtdbmgeebmfpmpaaGreatDoorKQ
set_option linter.all false
namespace Go.Proofs.Tryz
open Go Go.Iv
set_option maxRecDepth 4000
theorem wUu {p q:UInt8->Bool}{s:ByteArray}(h:yWx p q s=true):s.size<=16:=by
 unfold yWx at h;have hs:s.size=s.data.toList.length:=(Array.length_toList).symm;grind
mutual
theorem wVu:∀t:Tm,t.ok=true->∀s∈yZ1 t,yU1 s=true
 | .mk true n us,h,s,hs=>by
  obtain rfl:=xVi h;simp only[yZ1,yQr,List.mem_singleton] at hs;subst hs;simp only[Tm.ok,bAt] at h;exact h.2
 | .mk false n us,h,s,hs=>zJx us (xVj h) s (by simpa[yZ1] using hs)
theorem zJx:∀l:List Tm,yYe l=true->∀s∈yQr l,yU1 s=true
 | [],_,s,hs=>by cases hs
 | a::l,h,s,hs=>by
  simp only[yQr,List.mem_append] at hs;rcases hs with hs|hs
  ·exact wVu a (yKh h).1 s hs
  ·exact zJx l (yKh h).2 s hs
end
mutual
theorem wG7:∀f:Fm,f.ok=true->∀s∈frF f,yU1 s=true
 | .mk op n us sub,h,s,hs=>by
  obtain⟨h1,h2,_⟩:=zJo h;simp only[frF,List.mem_append] at hs;rcases hs with hs|hs
  ·exact zJx us h1 s hs
  ·split at hs
   ·exact xJi sub h2 s (List.mem_filter.1 hs).1
   ·exact xJi sub h2 s hs
theorem xJi:∀l:List Fm,yY0 l=true->∀s∈frFs l,yU1 s=true
 | [],_,s,hs=>by cases hs
 | a::l,h,s,hs=>by
  simp only[frFs,List.mem_append] at hs;rcases hs with hs|hs
  ·exact wG7 a (yKi h).1 s hs
  ·exact xJi l (yKi h).2 s hs
end
end Go.Proofs.Tryz
namespace Go.Proofs.Tryz
open Go Go.Iv
set_option maxRecDepth 4000
variable (gl:Nat->Option IV)
