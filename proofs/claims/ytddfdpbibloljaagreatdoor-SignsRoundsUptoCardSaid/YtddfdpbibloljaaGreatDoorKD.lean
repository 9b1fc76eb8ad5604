/- Names of right formulas; putting what ch -/
import Derived.Test.YtddfdpbibloljaaGreatDoorKC
import Derived.Test.YtddfdpbibloljaaGreatDoorKQ
set_option linter.all false
namespace Go.Proofs.Tryz
open Go Go.Iv
set_option maxRecDepth 4000
theorem wUx {p q:UInt8->Bool}{s:ByteArray}(h:yYk p q s=true):s.size<=16:=by
 unfold yYk at h;have hs:s.size=s.data.toList.length:=(Array.length_toList).symm;grind
mutual
theorem wVj:∀t:Tm,t.ok=true->∀s∈yZ2 t,yUi s=true
 | .mk true n us,h,s,hs=>by
  obtain rfl:=xVs h;simp only[yZ2,yQr,List.mem_singleton] at hs;subst hs;simp only[Tm.ok,bAt] at h;exact h.2
 | .mk false n us,h,s,hs=>zKb us (xVt h) s (by simpa[yZ2] using hs)
theorem zKb:∀l:List Tm,yG3 l=true->∀s∈yQr l,yUi s=true
 | [],_,s,hs=>by cases hs
 | a::l,h,s,hs=>by
  simp only[yQr,List.mem_append] at hs;rcases hs with hs|hs
  ·exact wVj a (yVe h).1 s hs
  ·exact zKb l (yVe h).2 s hs
end
mutual
theorem wG5:∀f:Fm,f.ok=true->∀s∈frF f,yUi s=true
 | .mk op n us sub,h,s,hs=>by
  obtain⟨h1,h2,_⟩:=zGh h;simp only[frF,List.mem_append] at hs;rcases hs with hs|hs
  ·exact zKb us h1 s hs
  ·split at hs
   ·exact xK2 sub h2 s (List.mem_filter.1 hs).1
   ·exact xK2 sub h2 s hs
theorem xK2:∀l:List Fm,yGy l=true->∀s∈frFs l,yUi s=true
 | [],_,s,hs=>by cases hs
 | a::l,h,s,hs=>by
  simp only[frFs,List.mem_append] at hs;rcases hs with hs|hs
  ·exact wG5 a (yVf h).1 s hs
  ·exact xK2 l (yVf h).2 s hs
end
end Go.Proofs.Tryz
namespace Go.Proofs.Tryz
open Go Go.Iv
set_option maxRecDepth 4000
variable (gl:Nat->Option IV)
