/- Names of right formulas; putting what ch -/
import Derived.Test.YtabhgbojkjcfjaaGreatDoorKC
import Derived.Test.YtabhgbojkjcfjaaGreatDoorKQ
set_option linter.all false
namespace Go.Proofs.Tryz
open Go Go.Iv
set_option maxRecDepth 4000
theorem wUx {p q:UInt8->Bool}{s:ByteArray}(h:yKs p q s=true):s.size<=16:=by
 unfold yKs at h;have hs:s.size=s.data.toList.length:=(Array.length_toList).symm;rw[hs];split at h
 ·cases h
 ·rename_i c cs hc;simp only[bAt,dTe] at h;rw[hc];simp only[List.length_cons];omega
mutual
theorem wVj:∀t:Tm,t.ok=true->∀s∈yQl t,yKg s=true
 | .mk true n us,h,s,hs=>by
  obtain rfl:=xWc h;simp only[yQl,yQg,List.mem_singleton] at hs;subst hs;simp only[Tm.ok,bAt] at h;exact h.2
 | .mk false n us,h,s,hs=>zKj us (xWe h) s (by simpa[yQl] using hs)
theorem zKj:∀l:List Tm,yJ8 l=true->∀s∈yQg l,yKg s=true
 | [],_,s,hs=>by cases hs
 | a::l,h,s,hs=>by
  simp only[yQg,List.mem_append] at hs;rcases hs with hs|hs
  ·exact wVj a (yVf h).1 s hs
  ·exact zKj l (yVf h).2 s hs
end
mutual
theorem wG9:∀f:Fm,f.ok=true->∀s∈frF f,yKg s=true
 | .mk op n us sub,h,s,hs=>by
  obtain⟨h1,h2,_⟩:=yY7 h;simp only[frF,List.mem_append] at hs;rcases hs with hs|hs
  ·exact zKj us h1 s hs
  ·split at hs
   ·exact xKl sub h2 s (List.mem_filter.1 hs).1
   ·exact xKl sub h2 s hs
theorem xKl:∀l:List Fm,yKz l=true->∀s∈frFs l,yKg s=true
 | [],_,s,hs=>by cases hs
 | a::l,h,s,hs=>by
  simp only[frFs,List.mem_append] at hs;rcases hs with hs|hs
  ·exact wG9 a (yKe h).1 s hs
  ·exact xKl l (yKe h).2 s hs
end
end Go.Proofs.Tryz
namespace Go.Proofs.Tryz
open Go Go.Iv
set_option maxRecDepth 4000
variable (gl:Nat->Option IV)
