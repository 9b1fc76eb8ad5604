/- Names of right formulas; putting what ch -/
import Derived.Test.YtddfdpbibloljaaGreatDoorKC
import Derived.Test.YtddfdpbibloljaaGreatDoorKQ
set_option linter.all false
namespace Go.Proofs.Tryz
open Go Go.Iv
set_option maxRecDepth 4000
theorem wU6 {p q:UInt8->Bool}{s:ByteArray}(h:yY6 p q s=true):s.size<=16:=by
 unfold yY6 at h;have hs:s.size=s.data.toList.length:=(Array.length_toList).symm;grind
mutual
theorem wKu:∀t:Tm,t.ok=true->∀s∈yZ1 t,yU9 s=true
 | .mk true n us,h,s,hs=>by
  obtain rfl:=xVb h;simp only[yZ1,yQp,List.mem_singleton] at hs;subst hs;simp only[Tm.ok,bAt] at h;exact h.2
 | .mk false n us,h,s,hs=>zJy us (xVc h) s (by simpa[yZ1] using hs)
theorem zJy:∀l:List Tm,yYt l=true->∀s∈yQp l,yU9 s=true
 | [],_,s,hs=>by cases hs
 | a::l,h,s,hs=>by
  simp only[yQp,List.mem_append] at hs;rcases hs with hs|hs
  ·exact wKu a (yKy h).1 s hs
  ·exact zJy l (yKy h).2 s hs
end
mutual
theorem wYe:∀f:Fm,f.ok=true->∀s∈frF f,yU9 s=true
 | .mk op n us sub,h,s,hs=>by
  obtain⟨h1,h2,_⟩:=zYz h;simp only[frF,List.mem_append] at hs;rcases hs with hs|hs
  ·exact zJy us h1 s hs
  ·split at hs
   ·exact xJj sub h2 s (List.mem_filter.1 hs).1
   ·exact xJj sub h2 s hs
theorem xJj:∀l:List Fm,yGq l=true->∀s∈frFs l,yU9 s=true
 | [],_,s,hs=>by cases hs
 | a::l,h,s,hs=>by
  simp only[frFs,List.mem_append] at hs;rcases hs with hs|hs
  ·exact wYe a (yKz h).1 s hs
  ·exact xJj l (yKz h).2 s hs
end
end Go.Proofs.Tryz
namespace Go.Proofs.Tryz
open Go Go.Iv
set_option maxRecDepth 4000
variable (gl:Nat->Option IV)
