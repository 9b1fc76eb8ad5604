/- Names of right formulas; putting what ch -/
import Derived.Test.YtofmbookakncjaaGreatDoorKC
import Derived.Test.YtofmbookakncjaaGreatDoorKQ
set_option linter.all false
namespace Go.Proofs.Tryz
open Go Go.Iv
set_option maxRecDepth 4000
theorem vZf {p q:UInt8->Bool}{s:ByteArray}(h:yY1 p q s=true):s.size<=16:=by
 unfold yY1 at h;have hs:s.size=s.data.toList.length:=(Array.length_toList).symm;grind
mutual
theorem wY8:∀t:Tm,t.ok=true->∀s∈yZ2 t,yU9 s=true
 | .mk true n us,h,s,hs=>by
  obtain rfl:=xWc h;simp only[yZ2,yQs,List.mem_singleton] at hs;subst hs;simp only[Tm.ok,bAt] at h;exact h.2
 | .mk false n us,h,s,hs=>zKg us (xWd h) s (by simpa[yZ2] using hs)
theorem zKg:∀l:List Tm,yYj l=true->∀s∈yQs l,yU9 s=true
 | [],_,s,hs=>by cases hs
 | a::l,h,s,hs=>by
  simp only[yQs,List.mem_append] at hs;rcases hs with hs|hs
  ·exact wY8 a (yKk h).1 s hs
  ·exact zKg l (yKk h).2 s hs
end
mutual
theorem wUq:∀f:Fm,f.ok=true->∀s∈frF f,yU9 s=true
 | .mk op n us sub,h,s,hs=>by
  obtain⟨h1,h2,_⟩:=zK7 h;simp only[frF,List.mem_append] at hs;rcases hs with hs|hs
  ·exact zKg us h1 s hs
  ·split at hs
   ·exact xKf sub h2 s (List.mem_filter.1 hs).1
   ·exact xKf sub h2 s hs
theorem xKf:∀l:List Fm,yY4 l=true->∀s∈frFs l,yU9 s=true
 | [],_,s,hs=>by cases hs
 | a::l,h,s,hs=>by
  simp only[frFs,List.mem_append] at hs;rcases hs with hs|hs
  ·exact wUq a (yKl h).1 s hs
  ·exact xKf l (yKl h).2 s hs
end
end Go.Proofs.Tryz
namespace Go.Proofs.Tryz
open Go Go.Iv
set_option maxRecDepth 4000
variable (gl:Nat->Option IV)
