/- Names of right formulas; putting what ch -/
import Derived.Test.YtclkffdkahljeaaGreatDoorKC
import Derived.Test.YtclkffdkahljeaaGreatDoorKQ
set_option linter.all false
namespace Go.Proofs.Tryz
open Go Go.Iv
set_option maxRecDepth 4000
theorem vQ6 {p q:UInt8->Bool}{s:ByteArray}(h:yY2 p q s=true):s.size<=16:=by
 unfold yY2 at h;have hs:s.size=s.data.toList.length:=(Array.length_toList).symm;grind
mutual
theorem wVt:∀t:Tm,t.ok=true->∀s∈yZ0 t,yU3 s=true
 | .mk true n us,h,s,hs=>by
  obtain rfl:=xVd h;simp only[yZ0,yQp,List.mem_singleton] at hs;subst hs;simp only[Tm.ok,bAt] at h;exact h.2
 | .mk false n us,h,s,hs=>zJw us (xVe h) s (by simpa[yZ0] using hs)
theorem zJw:∀l:List Tm,yYi l=true->∀s∈yQp l,yU3 s=true
 | [],_,s,hs=>by cases hs
 | a::l,h,s,hs=>by
  simp only[yQp,List.mem_append] at hs;rcases hs with hs|hs
  ·exact wVt a (yKo h).1 s hs
  ·exact zJw l (yKo h).2 s hs
end
mutual
theorem wGg:∀f:Fm,f.ok=true->∀s∈frF f,yU3 s=true
 | .mk op n us sub,h,s,hs=>by
  obtain⟨h1,h2,_⟩:=zJp h;simp only[frF,List.mem_append] at hs;rcases hs with hs|hs
  ·exact zJw us h1 s hs
  ·split at hs
   ·exact xJm sub h2 s (List.mem_filter.1 hs).1
   ·exact xJm sub h2 s hs
theorem xJm:∀l:List Fm,yY5 l=true->∀s∈frFs l,yU3 s=true
 | [],_,s,hs=>by cases hs
 | a::l,h,s,hs=>by
  simp only[frFs,List.mem_append] at hs;rcases hs with hs|hs
  ·exact wGg a (yKp h).1 s hs
  ·exact xJm l (yKp h).2 s hs
end
end Go.Proofs.Tryz
namespace Go.Proofs.Tryz
open Go Go.Iv
set_option maxRecDepth 4000
variable (gl:Nat->Option IV)
