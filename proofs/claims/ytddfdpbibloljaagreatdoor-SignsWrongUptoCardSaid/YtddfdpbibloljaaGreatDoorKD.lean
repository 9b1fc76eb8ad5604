/- Names of right formulas; putting what ch -/
import Derived.Test.YtddfdpbibloljaaGreatDoorKC
import Derived.Test.YtddfdpbibloljaaGreatDoorKQ
set_option linter.all false
namespace Go.Proofs.Tryz
open Go Go.Iv
set_option maxRecDepth 4000
theorem wUe {p q:UInt8->Bool}{s:ByteArray}(h:yWz p q s=true):s.size<=16:=by
 unfold yWz at h;have hs:s.size=s.data.toList.length:=(Array.length_toList).symm;grind
mutual
theorem wV6:∀t:Tm,t.ok=true->∀s∈yZ1 t,yU3 s=true
 | .mk true n us,h,s,hs=>by
  obtain rfl:=xV1 h;simp only[yZ1,yQq,List.mem_singleton] at hs;subst hs;simp only[Tm.ok,bAt] at h;exact h.2
 | .mk false n us,h,s,hs=>zJv us (xV2 h) s (by simpa[yZ1] using hs)
theorem zJv:∀l:List Tm,yYi l=true->∀s∈yQq l,yU3 s=true
 | [],_,s,hs=>by cases hs
 | a::l,h,s,hs=>by
  simp only[yQq,List.mem_append] at hs;rcases hs with hs|hs
  ·exact wV6 a (yKv h).1 s hs
  ·exact zJv l (yKv h).2 s hs
end
mutual
theorem wYp:∀f:Fm,f.ok=true->∀s∈frF f,yU3 s=true
 | .mk op n us sub,h,s,hs=>by
  obtain⟨h1,h2,_⟩:=zYy h;simp only[frF,List.mem_append] at hs;rcases hs with hs|hs
  ·exact zJv us h1 s hs
  ·split at hs
   ·exact xJd sub h2 s (List.mem_filter.1 hs).1
   ·exact xJd sub h2 s hs
theorem xJd:∀l:List Fm,yGi l=true->∀s∈frFs l,yU3 s=true
 | [],_,s,hs=>by cases hs
 | a::l,h,s,hs=>by
  simp only[frFs,List.mem_append] at hs;rcases hs with hs|hs
  ·exact wYp a (yKw h).1 s hs
  ·exact xJd l (yKw h).2 s hs
end
end Go.Proofs.Tryz
namespace Go.Proofs.Tryz
open Go Go.Iv
set_option maxRecDepth 4000
variable (gl:Nat->Option IV)
