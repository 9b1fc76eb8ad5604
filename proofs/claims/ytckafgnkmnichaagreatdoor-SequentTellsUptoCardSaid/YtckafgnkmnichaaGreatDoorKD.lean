/- Names of right formulas; putting what ch -/
import Derived.Test.YtckafgnkmnichaaGreatDoorKB
import Derived.Test.YtckafgnkmnichaaGreatDoorJU
import Derived.Test.YtckafgnkmnichaaGreatDoorKC
import Derived.Test.YtckafgnkmnichaaGreatDoorKQ
set_option linter.all false
namespace Go.Proofs.Tryz
open Go Go.Iv
set_option maxRecDepth 4000
theorem wYg {p q:UInt8 → Bool} {s:ByteArray} (h:yKt p q s = true):s.size ≤ 16:=by
 unfold yKt at h
 have hs:s.size = s.data.toList.length:=(Array.length_toList).symm
 rw [hs]
 split at h
 ·cases h
 ·rename_i c cs hc
  simp only [bAt,dTe] at h
  rw [hc]
  simp only [List.length_cons]; omega
mutual
theorem wJc:∀ t:Tm,t.ok = true → ∀ s ∈ yQn t,yKk s = true
 | .mk true n us,h,s,hs => by
  obtain rfl:=xKf h
  simp only [yQn,yQh,List.mem_singleton] at hs
  subst hs
  simp only [Tm.ok,bAt] at h
  exact h.2
 | .mk false n us,h,s,hs => zJh us (xKg h) s (by simpa [yQn] using hs)
theorem zJh:∀ l:List Tm,yJa l = true → ∀ s ∈ yQh l,yKk s = true
 | [],_,s,hs => by cases hs
 | a :: l,h,s,hs => by
  simp only [yQh,List.mem_append] at hs
  rcases hs with hs | hs
  ·exact wJc a (yVd h).1 s hs
  ·exact zJh l (yVd h).2 s hs
end
mutual
theorem wVr:∀ f:Fm,f.ok = true → ∀ s ∈ frF f,yKk s = true
 | .mk op n us sub,h,s,hs => by
  obtain ⟨h1,h2,_⟩:=yWu h
  simp only [frF,List.mem_append] at hs
  rcases hs with hs | hs
  ·exact zJh us h1 s hs
  ·split at hs
   ·exact xXu sub h2 s (List.mem_filter.1 hs).1
   ·exact xXu sub h2 s hs
theorem xXu:∀ l:List Fm,yKy l = true → ∀ s ∈ frFs l,yKk s = true
 | [],_,s,hs => by cases hs
 | a :: l,h,s,hs => by
  simp only [frFs,List.mem_append] at hs
  rcases hs with hs | hs
  ·exact wVr a (yKj h).1 s hs
  ·exact xXu l (yKj h).2 s hs
end
end Go.Proofs.Tryz
namespace Go.Proofs.Tryz
open Go Go.Iv
set_option maxRecDepth 4000
variable (gl:Nat → Option IV)
end Go.Proofs.Tryz
