/- Names of right formulas; putting what ch -/
import Derived.Test.YtjbhofcbleepiaaGreatDoorKB
import Derived.Test.YtjbhofcbleepiaaGreatDoorJU
import Derived.Test.YtjbhofcbleepiaaGreatDoorKC
import Derived.Test.YtjbhofcbleepiaaGreatDoorKQ
set_option linter.all false
namespace Go.Proofs.Tryz
open Go Go.Iv
set_option maxRecDepth 4000
theorem wU8 {p q:UInt8→Bool}{s:ByteArray}(h:yKr p q s=true):s.size≤16:=by
 unfold yKr at h
 have hs:s.size=s.data.toList.length:=(Array.length_toList).symm
 rw[hs]
 split at h
 ·cases h
 ·rename_i c cs hc
  simp only[bAt,dTe] at h
  rw[hc]
  simp only[List.length_cons]; omega
mutual
theorem wKs:∀ t:Tm,t.ok=true→∀ s∈yQo t,yKg s=true
 | .mk true n us,h,s,hs=>by
  obtain rfl:=xVv h
  simp only[yQo,yQi,List.mem_singleton] at hs
  subst hs
  simp only[Tm.ok,bAt] at h
  exact h.2
 | .mk false n us,h,s,hs=>zKd us (xVx h) s (by simpa[yQo] using hs)
theorem zKd:∀ l:List Tm,yJ8 l=true→∀ s∈yQi l,yKg s=true
 | [],_,s,hs=>by cases hs
 | a::l,h,s,hs=>by
  simp only[yQi,List.mem_append] at hs
  rcases hs with hs | hs
  ·exact wKs a (yVb h).1 s hs
  ·exact zKd l (yVb h).2 s hs
end
mutual
theorem wYj:∀ f:Fm,f.ok=true→∀ s∈frF f,yKg s=true
 | .mk op n us sub,h,s,hs=>by
  obtain⟨h1,h2,_⟩:=yY1 h
  simp only[frF,List.mem_append] at hs
  rcases hs with hs | hs
  ·exact zKd us h1 s hs
  ·split at hs
   ·exact xK9 sub h2 s (List.mem_filter.1 hs).1
   ·exact xK9 sub h2 s hs
theorem xK9:∀ l:List Fm,yKw l=true→∀ s∈frFs l,yKg s=true
 | [],_,s,hs=>by cases hs
 | a::l,h,s,hs=>by
  simp only[frFs,List.mem_append] at hs
  rcases hs with hs | hs
  ·exact wYj a (yKe h).1 s hs
  ·exact xK9 l (yKe h).2 s hs
end
end Go.Proofs.Tryz
namespace Go.Proofs.Tryz
open Go Go.Iv
set_option maxRecDepth 4000
variable (gl:Nat→Option IV)
end Go.Proofs.Tryz
