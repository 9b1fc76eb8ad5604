/- The size of a formula, read off its name -/
import Derived.Test.YtabhgbojkjcfjaaGreatDoorKD
set_option linter.all false
namespace Go.Proofs.Tryz
open Go Go.Iv
theorem zXs (f:Fm)(l:Sb):(yZf f l).1.size<=400:=by
 unfold yZf;split
 ·split
  ·rename_i h;simp only[bAt,dTe] at h;exact h.1
  ·show fm0.size<=400;decide
 ·show fm0.size<=400;decide
theorem wK7 {l:Sb}{seen:List ByteArray}(h:yGg seen l=true):okS l:=λp hp=>((yU1 l seen h).2 p hp).2.1
theorem wJs {l:Sb}{fr:List ByteArray}(h:okS l):okS (yKh l fr):=λp hp=>h p (List.mem_filter.1 hp).1
theorem xU6 {f:Fm}{l:Sb}(hl:wS l<=1000000)(h:(yZf f l).2=0) :
  f.right=true/\yGg [] l=true/\(yZf f l).1=yXr (yKh l (frF f)) f/\(yZf f l).1.right=true/\dbF [] (yZf f l).1=zJn (sgm (yKh l (frF f))) (dbF [] f):=by
 have hh:=h;unfold yZf at hh;split at hh
 case isFalse=>simp at hh
 rename_i h1;split at hh
 case isFalse=>simp at hh
 rename_i h2;have e:(yZf f l).1=yXr (yKh l (frF f)) f:=by unfold yZf;rw[if_pos h1,if_pos h2]
 simp only[bAt,dTe] at h1 h2;obtain⟨o1,o2,o3⟩:=yJo h1.1;have hw:=yWw (λp=>memB (frF f) p.1) l;have ho:=xV1 f (yKh l (frF f)) o1 (wJs (wK7 h1.2)) (by unfold yKh;omega);refine⟨h1.1,h1.2,e,?_,?_⟩
 ·rw[e];exact wJi ho h2.1 h2.2
 ·rw[e];exact zUy f _ o1
