/- Names of right formulas; putting what ch -/
import Derived.Test.YtddfdpbibloljaaGreatDoorKC
import Derived.Test.YtddfdpbibloljaaGreatDoorKQ
set_option linter.all false
namespace Go.Proofs.Tryz
open Go Go.Iv
set_option maxRecDepth 4000
theorem vQv {p q:UInt8->Bool}{s:ByteArray}(h:yYj p q s=true):s.size<=16:=by
 unfold yYj at h;have hs:s.size=s.data.toList.length:=(Array.length_toList).symm;grind
mutual
theorem wWn:∀t:Tm,t.ok=true->∀s∈yZ4 t,yUm s=true
 | .mk true n us,h,s,hs=>by
  obtain rfl:=xWe h;simp only[yZ4,yQr,List.mem_singleton] at hs;subst hs;simp only[Tm.ok,bAt] at h;exact h.2
 | .mk false n us,h,s,hs=>zKk us (xWg h) s (by simpa[yZ4] using hs)
theorem zKk:∀l:List Tm,yYy l=true->∀s∈yQr l,yUm s=true
 | [],_,s,hs=>by cases hs
 | a::l,h,s,hs=>by
  simp only[yQr,List.mem_append] at hs;rcases hs with hs|hs
  ·exact wWn a (yV6 h).1 s hs
  ·exact zKk l (yV6 h).2 s hs
end
mutual
theorem wU8:∀f:Fm,f.ok=true->∀s∈frF f,yUm s=true
 | .mk op n us sub,h,s,hs=>by
  obtain⟨h1,h2,_⟩:=zGt h;simp only[frF,List.mem_append] at hs;rcases hs with hs|hs
  ·exact zKk us h1 s hs
  ·split at hs
   ·exact xKg sub h2 s (List.mem_filter.1 hs).1
   ·exact xKg sub h2 s hs
theorem xKg:∀l:List Fm,yU2 l=true->∀s∈frFs l,yUm s=true
 | [],_,s,hs=>by cases hs
 | a::l,h,s,hs=>by
  simp only[frFs,List.mem_append] at hs;rcases hs with hs|hs
  ·exact wU8 a (yV7 h).1 s hs
  ·exact xKg l (yV7 h).2 s hs
end
end Go.Proofs.Tryz
namespace Go.Proofs.Tryz
open Go Go.Iv
set_option maxRecDepth 4000
variable (gl:Nat->Option IV)
