/- Names of right formulas; putting what ch -/
import Derived.Test.YtgiilhcddbhffaaGreatDoorKB
import Derived.Test.YtgiilhcddbhffaaGreatDoorJU
import Derived.Test.YtgiilhcddbhffaaGreatDoorKC
import Derived.Test.YtgiilhcddbhffaaGreatDoorKQ
set_option linter.all false
namespace Go.Proofs.Tryz
open Go Go.Iv
set_option maxRecDepth 4000
theorem wG2 {p q:UInt8→Bool}{s:ByteArray}(h:yV5 p q s=true):s.size≤16:=by
 unfold yV5 at h
 have hs:s.size=s.data.toList.length:=(Array.length_toList).symm
 rw[hs]
 split at h
 ·cases h
 ·rename_i c cs hc
  simp only[bAt,dTe] at h
  rw[hc]
  simp only[List.length_cons]; omega
mutual
theorem wJr:∀ t:Tm,t.ok=true→∀ s∈yQs t,yWc s=true
 | .mk true n us,h,s,hs=>by
  obtain rfl:=zXr h
  simp only[yQs,yQj,List.mem_singleton] at hs
  subst hs
  simp only[Tm.ok,bAt] at h
  exact h.2
 | .mk false n us,h,s,hs=>zXy us (zXs h) s (by simpa[yQs] using hs)
theorem zXy:∀ l:List Tm,yKr l=true→∀ s∈yQj l,yWc s=true
 | [],_,s,hs=>by cases hs
 | a::l,h,s,hs=>by
  simp only[yQj,List.mem_append] at hs
  rcases hs with hs | hs
  ·exact wJr a (yZy h).1 s hs
  ·exact zXy l (yZy h).2 s hs
end
mutual
theorem wQy:∀ f:Fm,f.ok=true→∀ s∈frF f,yWc s=true
 | .mk op n us sub,h,s,hs=>by
  obtain⟨h1,h2,_⟩:=yY5 h
  simp only[frF,List.mem_append] at hs
  rcases hs with hs | hs
  ·exact zXy us h1 s hs
  ·split at hs
   ·exact xXd sub h2 s (List.mem_filter.1 hs).1
   ·exact xXd sub h2 s hs
theorem xXd:∀ l:List Fm,yJy l=true→∀ s∈frFs l,yWc s=true
 | [],_,s,hs=>by cases hs
 | a::l,h,s,hs=>by
  simp only[frFs,List.mem_append] at hs
  rcases hs with hs | hs
  ·exact wQy a (yZz h).1 s hs
  ·exact xXd l (yZz h).2 s hs
end
end Go.Proofs.Tryz
namespace Go.Proofs.Tryz
open Go Go.Iv
set_option maxRecDepth 4000
variable (gl:Nat→Option IV)
end Go.Proofs.Tryz
