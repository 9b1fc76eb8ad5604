/- Names of right formulas; putting what changes nothing.
   The law SubstNothing. -/
import Derived.Test.YtckafgnkmnichaaGreatDoorKB
import Derived.Test.YtckafgnkmnichaaGreatDoorJU
import Derived.Test.YtckafgnkmnichaaGreatDoorKC
import Derived.Test.YtckafgnkmnichaaGreatDoorKQ
set_option linter.all false
namespace Go.Proofs.Tryz
open Go Go.Iv
set_option maxRecDepth 4000

theorem nm_size {p q:UInt8 → Bool} {s:ByteArray} (h:nameOf p q s = true):s.size ≤ 16:=by
  unfold nameOf at h
  have hs:s.size = s.data.toList.length:=(Array.length_toList).symm
  rw [hs]
  split at h
  · cases h
  · rename_i c cs hc
    simp only [Bool.and_eq_true,decide_eq_true_eq] at h
    rw [hc]
    simp only [List.length_cons]; omega
mutual
theorem names_ok:∀ t:Tm,t.ok = true → ∀ s ∈ namesTm t,nmVar s = true
  | .mk true n us,h,s,hs => by
    obtain rfl:=ok_var h
    simp only [namesTm,namesTms,List.mem_singleton] at hs
    subst hs
    simp only [Tm.ok,Bool.and_eq_true] at h
    exact h.2
  | .mk false n us,h,s,hs => namess_ok us (ok_fun h) s (by simpa [namesTm] using hs)
theorem namess_ok:∀ l:List Tm,okTms l = true → ∀ s ∈ namesTms l,nmVar s = true
  | [],_,s,hs => by cases hs
  | a :: l,h,s,hs => by
    simp only [namesTms,List.mem_append] at hs
    rcases hs with hs | hs
    · exact names_ok a (okTms_cons h).1 s hs
    · exact namess_ok l (okTms_cons h).2 s hs
end
mutual
theorem frF_ok:∀ f:Fm,f.ok = true → ∀ s ∈ frF f,nmVar s = true
  | .mk op n us sub,h,s,hs => by
    obtain ⟨h1,h2,_⟩:=ok_form h
    simp only [frF,List.mem_append] at hs
    rcases hs with hs | hs
    · exact namess_ok us h1 s hs
    · split at hs
      · exact frFs_ok sub h2 s (List.mem_filter.1 hs).1
      · exact frFs_ok sub h2 s hs
theorem frFs_ok:∀ l:List Fm,okFms l = true → ∀ s ∈ frFs l,nmVar s = true
  | [],_,s,hs => by cases hs
  | a :: l,h,s,hs => by
    simp only [frFs,List.mem_append] at hs
    rcases hs with hs | hs
    · exact frF_ok a (okFms_cons h).1 s hs
    · exact frFs_ok l (okFms_cons h).2 s hs
end
end Go.Proofs.Tryz

namespace Go.Proofs.Tryz
open Go Go.Iv
set_option maxRecDepth 4000
variable (gl:Nat → Option IV)

end Go.Proofs.Tryz
