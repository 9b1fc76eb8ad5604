/- Names of right formulas; putting what ch -/
import Derived.Test.YtabhgbojkjcfjaaGreatDoorKC
import Derived.Test.YtabhgbojkjcfjaaGreatDoorKQ
set_option linter.all false
namespace Go.Proofs.Tryz
open Go Go.Iv
set_option maxRecDepth 4000
theorem wYz {p q:UInt8->Bool}{s:ByteArray}(h:yKh p q s=true):s.size<=16:=by
 unfold yKh at h;have hs:s.size=s.data.toList.length:=(Array.length_toList).symm;rw[hs];split at h
 ·cases h
 ·rename_i c cs hc;simp only[bAt,dTe] at h;rw[hc];simp only[List.length_cons];omega
mutual
theorem wJq:∀t:Tm,t.ok=true->∀s∈yZ1 t,yW2 s=true
 | .mk true n us,h,s,hs=>by
  obtain rfl:=xKz h;simp only[yZ1,yQh,List.mem_singleton] at hs;subst hs;simp only[Tm.ok,bAt] at h;exact h.2
 | .mk false n us,h,s,hs=>zJo us (xV1 h) s (by simpa[yZ1] using hs)
theorem zJo:∀l:List Tm,yXz l=true->∀s∈yQh l,yW2 s=true
 | [],_,s,hs=>by cases hs
 | a::l,h,s,hs=>by
  simp only[yQh,List.mem_append] at hs;rcases hs with hs|hs
  ·exact wJq a (yV6 h).1 s hs
  ·exact zJo l (yV6 h).2 s hs
end
mutual
theorem wWd:∀f:Fm,f.ok=true->∀s∈frF f,yW2 s=true
 | .mk op n us sub,h,s,hs=>by
  obtain⟨h1,h2,_⟩:=yYn h;simp only[frF,List.mem_append] at hs;rcases hs with hs|hs
  ·exact zJo us h1 s hs
  ·split at hs
   ·exact xJf sub h2 s (List.mem_filter.1 hs).1
   ·exact xJf sub h2 s hs
theorem xJf:∀l:List Fm,yKn l=true->∀s∈frFs l,yW2 s=true
 | [],_,s,hs=>by cases hs
 | a::l,h,s,hs=>by
  simp only[frFs,List.mem_append] at hs;rcases hs with hs|hs
  ·exact wWd a (yV7 h).1 s hs
  ·exact xJf l (yV7 h).2 s hs
end
end Go.Proofs.Tryz
namespace Go.Proofs.Tryz
open Go Go.Iv
set_option maxRecDepth 4000
variable (gl:Nat->Option IV)
