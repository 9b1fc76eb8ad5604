/- Names of right formulas; putting what ch -/
import Derived.Test.YtjbhofcbleepiaaGreatDoorKB
import Derived.Test.YtjbhofcbleepiaaGreatDoorJU
import Derived.Test.YtjbhofcbleepiaaGreatDoorKC
import Derived.Test.YtjbhofcbleepiaaGreatDoorKQ
set_option linter.all false
namespace Go.Proofs.Tryz
open Go Go.Iv
set_option maxRecDepth 4000
theorem wY5 {p q:UInt8 → Bool} {s:ByteArray} (h:yKf p q s = true):s.size ≤ 16:=by
 unfold yKf at h
 have hs:s.size = s.data.toList.length:=(Array.length_toList).symm
 rw [hs]
 split at h
 ·cases h
 ·rename_i c cs hc
  simp only [bAt,dTe] at h
  rw [hc]
  simp only [List.length_cons]; omega
mutual
theorem wXw:∀ t:Tm,t.ok = true → ∀ s ∈ yZ2 t,yVu s = true
 | .mk true n us,h,s,hs => by
  obtain rfl:=xKd h
  simp only [yZ2,yQk,List.mem_singleton] at hs
  subst hs
  simp only [Tm.ok,bAt] at h
  exact h.2
 | .mk false n us,h,s,hs => zJg us (xKf h) s (by simpa [yZ2] using hs)
theorem zJg:∀ l:List Tm,yXu l = true → ∀ s ∈ yQk l,yVu s = true
 | [],_,s,hs => by cases hs
 | a :: l,h,s,hs => by
  simp only [yQk,List.mem_append] at hs
  rcases hs with hs | hs
  ·exact wXw a (yKz h).1 s hs
  ·exact zJg l (yKz h).2 s hs
end
mutual
theorem wVi:∀ f:Fm,f.ok = true → ∀ s ∈ frF f,yVu s = true
 | .mk op n us sub,h,s,hs => by
  obtain ⟨h1,h2,_⟩:=yYh h
  simp only [frF,List.mem_append] at hs
  rcases hs with hs | hs
  ·exact zJg us h1 s hs
  ·split at hs
   ·exact xXz sub h2 s (List.mem_filter.1 hs).1
   ·exact xXz sub h2 s hs
theorem xXz:∀ l:List Fm,yKi l = true → ∀ s ∈ frFs l,yVu s = true
 | [],_,s,hs => by cases hs
 | a :: l,h,s,hs => by
  simp only [frFs,List.mem_append] at hs
  rcases hs with hs | hs
  ·exact wVi a (yV0 h).1 s hs
  ·exact xXz l (yV0 h).2 s hs
end
end Go.Proofs.Tryz
namespace Go.Proofs.Tryz
open Go Go.Iv
set_option maxRecDepth 4000
variable (gl:Nat → Option IV)
end Go.Proofs.Tryz
