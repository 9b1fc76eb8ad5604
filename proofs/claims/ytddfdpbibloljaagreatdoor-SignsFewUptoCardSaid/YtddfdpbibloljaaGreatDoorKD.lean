/- Names of right formulas; putting what ch -/
import Derived.Test.YtddfdpbibloljaaGreatDoorKC
import Derived.Test.YtddfdpbibloljaaGreatDoorKQ
set_option linter.all false
namespace Go.Proofs.Tryz
open Go Go.Iv
set_option maxRecDepth 4000
theorem wUr {p q:UInt8->Bool}{s:ByteArray}(h:yYa p q s=true):s.size<=16:=by
 unfold yYa at h;have hs:s.size=s.data.toList.length:=(Array.length_toList).symm;grind
mutual
theorem wVh:∀t:Tm,t.ok=true->∀s∈yZ2 t,yUa s=true
 | .mk true n us,h,s,hs=>by
  obtain rfl:=xVg h;simp only[yZ2,yQp,List.mem_singleton] at hs;subst hs;simp only[Tm.ok,bAt] at h;exact h.2
 | .mk false n us,h,s,hs=>zK3 us (xVh h) s (by simpa[yZ2] using hs)
theorem zK3:∀l:List Tm,yYr l=true->∀s∈yQp l,yUa s=true
 | [],_,s,hs=>by cases hs
 | a::l,h,s,hs=>by
  simp only[yQp,List.mem_append] at hs;rcases hs with hs|hs
  ·exact wVh a (yV3 h).1 s hs
  ·exact zK3 l (yV3 h).2 s hs
end
mutual
theorem wG3:∀f:Fm,f.ok=true->∀s∈frF f,yUa s=true
 | .mk op n us sub,h,s,hs=>by
  obtain⟨h1,h2,_⟩:=zG3 h;simp only[frF,List.mem_append] at hs;rcases hs with hs|hs
  ·exact zK3 us h1 s hs
  ·split at hs
   ·exact xJm sub h2 s (List.mem_filter.1 hs).1
   ·exact xJm sub h2 s hs
theorem xJm:∀l:List Fm,yGp l=true->∀s∈frFs l,yUa s=true
 | [],_,s,hs=>by cases hs
 | a::l,h,s,hs=>by
  simp only[frFs,List.mem_append] at hs;rcases hs with hs|hs
  ·exact wG3 a (yV4 h).1 s hs
  ·exact xJm l (yV4 h).2 s hs
end
end Go.Proofs.Tryz
namespace Go.Proofs.Tryz
open Go Go.Iv
set_option maxRecDepth 4000
variable (gl:Nat->Option IV)
