/- Names of right formulas; putting what ch -/
import Derived.Test.YtabhgbojkjcfjaaGreatDoorKC
import Derived.Test.YtabhgbojkjcfjaaGreatDoorKQ
set_option linter.all false
namespace Go.Proofs.Tryz
open Go Go.Iv
set_option maxRecDepth 4000
theorem vZf {p q:UInt8->Bool}{s:ByteArray}(h:yVg p q s=true):s.size<=16:=by
 unfold yVg at h;have A:s.size=s.data.toList.length:=(Array.length_toList).symm;rw[A];split at h
 ·cases h
 ·rename_i c cs hc;simp only[bAt,dTe] at h;rw[hc];simp only[List.length_cons];omega
mutual
theorem wWz:∀t:Tm,t.ok=true->∀s∈yQo t,yV4 s=true
 | .mk true n us,h,s,A=>by
  obtain rfl:=xYj h;simp only[yQo,yQk,List.mem_singleton] at A;subst A;simp only[Tm.ok,bAt] at h;exact h.2
 | .mk false n us,h,s,A=>zVa us (xYl h) s (by simpa[yQo] using A)
theorem zVa:∀l:List Tm,yJt l=true->∀s∈yQk l,yV4 s=true
 | [],_,s,A=>by cases A
 | a::l,h,s,A=>by
  simp only[yQk,List.mem_append] at A;rcases A with A|A
  ·exact wWz a (yW1 h).1 s A
  ·exact zVa l (yW1 h).2 s A
end
mutual
theorem wUn:∀f:Fm,f.ok=true->∀s∈frF f,yV4 s=true
 | .mk op n us sub,h,s,A=>by
  obtain⟨h1,h2,_⟩:=yY1 h;simp only[frF,List.mem_append] at A;rcases A with A|A
  ·exact zVa us h1 s A
  ·split at A
   ·exact xVv sub h2 s (List.mem_filter.1 A).1
   ·exact xVv sub h2 s A
theorem xVv:∀l:List Fm,yVm l=true->∀s∈frFs l,yV4 s=true
 | [],_,s,A=>by cases A
 | a::l,h,s,A=>by
  simp only[frFs,List.mem_append] at A;rcases A with A|A
  ·exact wUn a (yV3 h).1 s A
  ·exact xVv l (yV3 h).2 s A
end
end Go.Proofs.Tryz
namespace Go.Proofs.Tryz
open Go Go.Iv
set_option maxRecDepth 4000
variable (gl:Nat->Option IV)
