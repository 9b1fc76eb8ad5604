/- Names of right formulas; putting what ch -/
import Derived.Test.YtddfdpbibloljaaGreatDoorKC
import Derived.Test.YtddfdpbibloljaaGreatDoorKQ
set_option linter.all false
namespace Go.Proofs.Tryz
open Go Go.Iv
set_option maxRecDepth 4000
theorem wGx {p q:UInt8->Bool}{s:ByteArray}(h:yY1 p q s=true):s.size<=16:=by
 unfold yY1 at h;have hs:s.size=s.data.toList.length:=(Array.length_toList).symm;grind
mutual
theorem wKf:∀t:Tm,t.ok=true->∀s∈yZ0 t,yU2 s=true
 | .mk true n us,h,s,hs=>by
  obtain rfl:=xV0 h;simp only[yZ0,yQo,List.mem_singleton] at hs;subst hs;simp only[Tm.ok,bAt] at h;exact h.2
 | .mk false n us,h,s,hs=>zJq us (xV1 h) s (by simpa[yZ0] using hs)
theorem zJq:∀l:List Tm,yYk l=true->∀s∈yQo l,yU2 s=true
 | [],_,s,hs=>by cases hs
 | a::l,h,s,hs=>by
  simp only[yQo,List.mem_append] at hs;rcases hs with hs|hs
  ·exact wKf a (yKs h).1 s hs
  ·exact zJq l (yKs h).2 s hs
end
mutual
theorem wY1:∀f:Fm,f.ok=true->∀s∈frF f,yU2 s=true
 | .mk op n us sub,h,s,hs=>by
  obtain⟨h1,h2,_⟩:=zYr h;simp only[frF,List.mem_append] at hs;rcases hs with hs|hs
  ·exact zJq us h1 s hs
  ·split at hs
   ·exact xJ8 sub h2 s (List.mem_filter.1 hs).1
   ·exact xJ8 sub h2 s hs
theorem xJ8:∀l:List Fm,yGh l=true->∀s∈frFs l,yU2 s=true
 | [],_,s,hs=>by cases hs
 | a::l,h,s,hs=>by
  simp only[frFs,List.mem_append] at hs;rcases hs with hs|hs
  ·exact wY1 a (yKt h).1 s hs
  ·exact xJ8 l (yKt h).2 s hs
end
end Go.Proofs.Tryz
namespace Go.Proofs.Tryz
open Go Go.Iv
set_option maxRecDepth 4000
variable (gl:Nat->Option IV)
