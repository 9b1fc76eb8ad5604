/- Names of right formulas; putting what ch -/
import Derived.Test.YtnknaopjcifoaaaGreatDoorKC
import Derived.Test.YtnknaopjcifoaaaGreatDoorKQ
set_option linter.all false
namespace Go.Proofs.Tryz
open Go Go.Iv
set_option maxRecDepth 4000
theorem wGj {p q:UInt8->Bool}{s:ByteArray}(h:yKx p q s=true):s.size<=16:=by
 unfold yKx at h;have hs:s.size=s.data.toList.length:=(Array.length_toList).symm;grind
mutual
theorem wKd:∀t:Tm,t.ok=true->∀s∈yQk t,yKl s=true
 | .mk true n us,h,s,hs=>by
  obtain rfl:=xV2 h;simp only[yQk,yQg,List.mem_singleton] at hs;subst hs;simp only[Tm.ok,bAt] at h;exact h.2
 | .mk false n us,h,s,hs=>zJp us (xV3 h) s (by simpa[yQk] using hs)
theorem zJp:∀l:List Tm,yJd l=true->∀s∈yQg l,yKl s=true
 | [],_,s,hs=>by cases hs
 | a::l,h,s,hs=>by
  simp only[yQg,List.mem_append] at hs;rcases hs with hs|hs
  ·exact wKd a (yVi h).1 s hs
  ·exact zJp l (yVi h).2 s hs
end
mutual
theorem wWs:∀f:Fm,f.ok=true->∀s∈frF f,yKl s=true
 | .mk op n us sub,h,s,hs=>by
  obtain⟨h1,h2,_⟩:=yY3 h;simp only[frF,List.mem_append] at hs;rcases hs with hs|hs
  ·exact zJp us h1 s hs
  ·split at hs
   ·exact xJb sub h2 s (List.mem_filter.1 hs).1
   ·exact xJb sub h2 s hs
theorem xJb:∀l:List Fm,yV3 l=true->∀s∈frFs l,yKl s=true
 | [],_,s,hs=>by cases hs
 | a::l,h,s,hs=>by
  simp only[frFs,List.mem_append] at hs;rcases hs with hs|hs
  ·exact wWs a (yKk h).1 s hs
  ·exact xJb l (yKk h).2 s hs
end
end Go.Proofs.Tryz
namespace Go.Proofs.Tryz
open Go Go.Iv
set_option maxRecDepth 4000
variable (gl:Nat->Option IV)
