/- Names of right formulas; putting what ch -/
import Derived.Test.YtabhgbojkjcfjaaGreatDoorKC
import Derived.Test.YtabhgbojkjcfjaaGreatDoorKQ
set_option linter.all false
namespace Go.Proofs.Tryz
open Go Go.Iv
set_option maxRecDepth 4000
theorem wG4 {p q:UInt8->Bool}{s:ByteArray}(h:yV7 p q s=true):s.size<=16:=by
 unfold yV7 at h;have hs:s.size=s.data.toList.length:=(Array.length_toList).symm;rw[hs];split at h
 ·cases h
 ·rename_i c cs hc;simp only[bAt,dTe] at h;rw[hc];simp only[List.length_cons];omega
mutual
theorem wJv:∀t:Tm,t.ok=true->∀s∈yQr t,yWf s=true
 | .mk true n us,h,s,hs=>by
  obtain rfl:=zXu h;simp only[yQr,yQg,List.mem_singleton] at hs;subst hs;simp only[Tm.ok,bAt] at h;exact h.2
 | .mk false n us,h,s,hs=>zJ1 us (zXv h) s (by simpa[yQr] using hs)
theorem zJ1:∀l:List Tm,yKt l=true->∀s∈yQg l,yWf s=true
 | [],_,s,hs=>by cases hs
 | a::l,h,s,hs=>by
  simp only[yQg,List.mem_append] at hs;rcases hs with hs|hs
  ·exact wJv a (yZy h).1 s hs
  ·exact zJ1 l (yZy h).2 s hs
end
mutual
theorem wZ1:∀f:Fm,f.ok=true->∀s∈frF f,yWf s=true
 | .mk op n us sub,h,s,hs=>by
  obtain⟨h1,h2,_⟩:=yY8 h;simp only[frF,List.mem_append] at hs;rcases hs with hs|hs
  ·exact zJ1 us h1 s hs
  ·split at hs
   ·exact xXe sub h2 s (List.mem_filter.1 hs).1
   ·exact xXe sub h2 s hs
theorem xXe:∀l:List Fm,yJz l=true->∀s∈frFs l,yWf s=true
 | [],_,s,hs=>by cases hs
 | a::l,h,s,hs=>by
  simp only[frFs,List.mem_append] at hs;rcases hs with hs|hs
  ·exact wZ1 a (yZz h).1 s hs
  ·exact xXe l (yZz h).2 s hs
end
end Go.Proofs.Tryz
namespace Go.Proofs.Tryz
open Go Go.Iv
set_option maxRecDepth 4000
variable (gl:Nat->Option IV)
