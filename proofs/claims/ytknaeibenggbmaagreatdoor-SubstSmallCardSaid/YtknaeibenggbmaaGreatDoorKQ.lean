/- Small words: bulk and size, few terms, what is given to a call again. -/
import Derived.Test.YtknaeibenggbmaaGreatDoorJT
import Derived.Test.YtknaeibenggbmaaGreatDoorJU
import Derived.Test.YtknaeibenggbmaaGreatDoorKF
import Derived.Test.YtknaeibenggbmaaGreatDoorJW
set_option linter.all false
namespace Go.Proofs.Tryz
open Go Go.Iv

mutual
theorem Tm.size_bulk : ∀ t : Tm, t.size ≤ bulkT t
  | .mk v n us => by have := sizeTms_bulk us; simp only [Tm.size, bulkT]; omega
theorem sizeTms_bulk : ∀ l : List Tm, sizeTms l ≤ bulkTs l
  | [] => Nat.le_refl _
  | a :: l => by have := Tm.size_bulk a; have := sizeTms_bulk l; simp only [sizeTms, bulkTs]; omega
end
mutual
theorem Fm.size_bulk : ∀ f : Fm, f.size ≤ bulkF f
  | .mk op n us sub => by have := sizeTms_bulk us; have := sizeFms_bulk sub; simp only [Fm.size, bulkF]; omega
theorem sizeFms_bulk : ∀ l : List Fm, sizeFms l ≤ bulkFs l
  | [] => Nat.le_refl _
  | a :: l => by have := Fm.size_bulk a; have := sizeFms_bulk l; simp only [sizeFms, bulkFs]; omega
end
theorem few_size {l : Sb} (h : fewB l = true) : l.length ≤ 6 ∧ ∀ p ∈ l, p.2.size ≤ 100 := by
  simp only [fewB, Bool.and_eq_true, decide_eq_true_eq, List.all_eq_true] at h
  refine ⟨h.1, fun p hp => ?_⟩
  have h2 := h.2 p hp
  simp only [oneB, Bool.and_eq_true, decide_eq_true_eq] at h2
  have := Tm.size_bulk p.2
  omega
theorem wS_le : ∀ (l : Sb), (∀ p ∈ l, p.2.size ≤ 100) → wS l ≤ 100 * l.length
  | [], _ => Nat.zero_le _
  | p :: l, h => by
    have h1 := h p (by simp)
    have h2 := wS_le l (fun q hq => h q (by simp [hq]))
    simp only [wS, List.length_cons]; omega
theorem IsOne.aged {o : ByteArray × Tm} {x : IV} (h : IsOne o x) : IsOne o (age x) := by
  obtain ⟨v, n, tg, xs, rfl, hx⟩ := h
  refine ⟨v, n, _, _, rfl, ?_⟩
  have := hx.aged
  simpa only [age, ages] using this
theorem IsOnes.aged : ∀ {l : List (ByteArray × Tm)} {xs : List IV}, IsOnes l xs → IsOnes l (ages xs)
  | [], xs, h => by simp only [IsOnes] at h; subst h; rfl
  | a :: l, xs, h => by
    simp only [IsOnes] at h
    obtain ⟨y, ys, rfl, hy, h⟩ := h
    exact ⟨_, _, rfl, hy.aged, IsOnes.aged h⟩
theorem OI.lit {st : ISt} {b es : Nat} {zs cs : List IV} (hst : st b = some (.box cs)) (hcs : cs = zs.flatMap IV.cells) (hs : ∀ x ∈ zs, x.cells.length = es) (hl : zs.length ≤ 140737488355328) :
    OI st (.raw (.slice (some ⟨b, 0, none⟩) zs.length zs.length)) (.sl ⟨false, .app b, es⟩ zs) := by
  refine .sl b zs.length ⟨false, .app b, es⟩ zs cs rfl hl (Nat.le_refl _) hs hst (by rw [hcs, flat_length zs hs]; exact Nat.le_refl _) fun i r c hr hc => ?_
  rw [hcs, hc] at hr
  cases hr
  exact .refl _
theorem hasB_true {l : List ByteArray} {s : ByteArray} : hasB l s = true ↔ s ∈ l := by simp [hasB]
theorem hasB_false {l : List ByteArray} {s : ByteArray} : hasB l s = false ↔ s ∉ l := by simp [hasB]
theorem sorted_len : ∀ {r l : List ByteArray}, r.Pairwise ltN → (∀ x ∈ r, x ∈ l) → r.length ≤ l.length
  | [], l, _, _ => Nat.zero_le _
  | a :: r, l, hp, h => by
    obtain ⟨l1, l2, rfl⟩ := List.append_of_mem (h a (by simp))
    obtain ⟨h1, h2⟩ := List.pairwise_cons.1 hp
    have := sorted_len (l := l1 ++ l2) h2 (fun x hx => by
      have hm := h x (List.mem_cons_of_mem _ hx)
      have hne : x ≠ a := fun e => ltN_irr a (e ▸ h1 x hx)
      simp only [List.mem_append, List.mem_cons] at hm ⊢
      rcases hm with hm | hm | hm
      · exact .inl hm
      · exact absurd hm hne
      · exact .inr hm)
    simp only [List.length_cons, List.length_append] at this ⊢
    omega
theorem frFs_append : ∀ l m : List Fm, frFs (l ++ m) = frFs l ++ frFs m
  | [], m => by simp [frFs]
  | a :: l, m => by simp only [List.cons_append, frFs, frFs_append l m, List.append_assoc]

mutual
theorem names_bulk : ∀ t : Tm, ∀ n ∈ namesTm t, n.size ≤ 40 * bulkT t
  | .mk true m us, n, hn => by
    simp only [namesTm, List.mem_cons] at hn
    simp only [bulkT]
    rcases hn with rfl | hn
    · omega
    · have := namess_bulk us n hn; omega
  | .mk false m us, n, hn => by
    simp only [namesTm] at hn
    have := namess_bulk us n hn
    simp only [bulkT]; omega
theorem namess_bulk : ∀ l : List Tm, ∀ n ∈ namesTms l, n.size ≤ 40 * bulkTs l
  | [], n, hn => by cases hn
  | a :: l, n, hn => by
    simp only [namesTms, List.mem_append] at hn
    simp only [bulkTs]
    rcases hn with hn | hn
    · have := names_bulk a n hn; omega
    · have := namess_bulk l n hn; omega
end
end Go.Proofs.Tryz
