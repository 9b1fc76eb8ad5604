/- Names of right formulas; putting what ch -/
import Derived.Test.YtclkffdkahljeaaGreatDoorKC
import Derived.Test.YtclkffdkahljeaaGreatDoorKQ
set_option linter.all false
namespace Go.Proofs.Tryz
open Go Go.Iv
set_option maxRecDepth 4000
theorem vQj {p q:UInt8->Bool}{s:ByteArray}(h:yY6 p q s=true):s.size<=16:=by
 unfold yY6 at h;have hs:s.size=s.data.toList.length:=(Array.length_toList).symm;grind
mutual
theorem wW0:∀t:Tm,t.ok=true->∀s∈yZ1 t,yU7 s=true
 | .mk true n us,h,s,hs=>by
  obtain rfl:=xVl h;simp only[yZ1,yQp,List.mem_singleton] at hs;subst hs;simp only[Tm.ok,bAt] at h;exact h.2
 | .mk false n us,h,s,hs=>zJz us (xVm h) s (by simpa[yZ1] using hs)
theorem zJz:∀l:List Tm,yYm l=true->∀s∈yQp l,yU7 s=true
 | [],_,s,hs=>by cases hs
 | a::l,h,s,hs=>by
  simp only[yQp,List.mem_append] at hs;rcases hs with hs|hs
  ·exact wW0 a (yKn h).1 s hs
  ·exact zJz l (yKn h).2 s hs
end
mutual
theorem wGq:∀f:Fm,f.ok=true->∀s∈frF f,yU7 s=true
 | .mk op n us sub,h,s,hs=>by
  obtain⟨h1,h2,_⟩:=zJt h;simp only[frF,List.mem_append] at hs;rcases hs with hs|hs
  ·exact zJz us h1 s hs
  ·split at hs
   ·exact xJt sub h2 s (List.mem_filter.1 hs).1
   ·exact xJt sub h2 s hs
theorem xJt:∀l:List Fm,yY9 l=true->∀s∈frFs l,yU7 s=true
 | [],_,s,hs=>by cases hs
 | a::l,h,s,hs=>by
  simp only[frFs,List.mem_append] at hs;rcases hs with hs|hs
  ·exact wGq a (yKo h).1 s hs
  ·exact xJt l (yKo h).2 s hs
end
end Go.Proofs.Tryz
namespace Go.Proofs.Tryz
open Go Go.Iv
set_option maxRecDepth 4000
variable (gl:Nat->Option IV)
