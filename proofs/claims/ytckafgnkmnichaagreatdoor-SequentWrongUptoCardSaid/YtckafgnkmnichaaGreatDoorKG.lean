/- The size of a formula, read off its nameless form; formulas that are equal up to bound names stay so: plain data. -/
import Derived.Test.YtckafgnkmnichaaGreatDoorKD
set_option linter.all false
namespace Go.Proofs.Tryz
open Go Go.Iv

theorem puts_size (f:Fm) (l:Sb):(PutsS f l).1.size ≤ 400:=by
  unfold PutsS
  split
  · split
    · rename_i h
      simp only [Bool.and_eq_true,decide_eq_true_eq] at h
      exact h.1
    · show fm0.size ≤ 400
      decide
  · show fm0.size ≤ 400
    decide
theorem goodL_ok {l:Sb} {seen:List ByteArray} (h:goodL seen l = true):okS l:=fun p hp => ((goodL_nodup l seen h).2 p hp).2.1
theorem okS_free {l:Sb} {fr:List ByteArray} (h:okS l):okS (freeS l fr):=fun p hp => h p (List.mem_filter.1 hp).1
theorem puts_ok {f:Fm} {l:Sb} (hl:wS l ≤ 1000000) (h:(PutsS f l).2 = 0) :
    f.right = true ∧ goodL [] l = true ∧ (PutsS f l).1 = formS (freeS l (frF f)) f ∧ (PutsS f l).1.right = true ∧ dbF [] (PutsS f l).1 = dsubF (sgm (freeS l (frF f))) (dbF [] f):=by
  have hh:=h
  unfold PutsS at hh
  split at hh
  case isFalse => simp at hh
  rename_i h1
  split at hh
  case isFalse => simp at hh
  rename_i h2
  have e:(PutsS f l).1 = formS (freeS l (frF f)) f:=by unfold PutsS; rw [if_pos h1,if_pos h2]
  simp only [Bool.and_eq_true,decide_eq_true_eq] at h1 h2
  obtain ⟨o1,o2,o3⟩:=right_ok h1.1
  have hw:=wS_filter (fun p => memB (frF f) p.1) l
  have ho:=formS_ok f (freeS l (frF f)) o1 (okS_free (goodL_ok h1.2)) (by unfold freeS; omega)
  refine ⟨h1.1,h1.2,e,?_,?_⟩
  · rw [e]; exact right_of ho h2.1 h2.2
  · rw [e]; exact dbF_form0 f _ o1
end Go.Proofs.Tryz
