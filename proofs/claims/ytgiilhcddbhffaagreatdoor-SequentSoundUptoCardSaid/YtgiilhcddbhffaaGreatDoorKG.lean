/- The size of a formula, read off its name -/
import Derived.Test.YtgiilhcddbhffaaGreatDoorKD
set_option linter.all false
namespace Go.Proofs.Tryz
open Go Go.Iv
theorem zXp (f:Fm)(l:Sb):(yZg f l).1.size≤400:=by
 unfold yZg
 split
 ·split
  ·rename_i h
   simp only[bAt,dTe] at h
   exact h.1
  ·show fm0.size≤400
   decide
 ·show fm0.size≤400
  decide
theorem wK4 {l:Sb}{seen:List ByteArray}(h:yGd seen l=true):okS l:=fun p hp=>((yGy l seen h).2 p hp).2.1
theorem wJo {l:Sb}{fr:List ByteArray}(h:okS l):okS (yKg l fr):=fun p hp=>h p (List.mem_filter.1 hp).1
theorem xU3 {f:Fm}{l:Sb}(hl:wS l≤1000000)(h:(yZg f l).2=0) :
  f.right=true∧yGd [] l=true∧(yZg f l).1=yXr (yKg l (frF f)) f∧(yZg f l).1.right=true∧dbF [] (yZg f l).1=zJk (sgm (yKg l (frF f))) (dbF [] f):=by
 have hh:=h
 unfold yZg at hh
 split at hh
 case isFalse=>simp at hh
 rename_i h1
 split at hh
 case isFalse=>simp at hh
 rename_i h2
 have e:(yZg f l).1=yXr (yKg l (frF f)) f:=by unfold yZg; rw[if_pos h1,if_pos h2]
 simp only[bAt,dTe] at h1 h2
 obtain⟨o1,o2,o3⟩:=yJn h1.1
 have hw:=yWt (fun p=>memB (frF f) p.1) l
 have ho:=xKz f (yKg l (frF f)) o1 (wJo (wK4 h1.2)) (by unfold yKg; omega)
 refine⟨h1.1,h1.2,e,?_,?_⟩
 ·rw[e]; exact wJe ho h2.1 h2.2
 ·rw[e]; exact zUx f _ o1
end Go.Proofs.Tryz
