/- The law SubstNothing. -/
import Derived.Test.YtknaeibenggbmaaGreatDoorKC
set_option linter.all false
namespace Go.Proofs.Tryz
open Go Go.Iv
set_option maxRecDepth 4000
attribute [local go_sem] cf setAt List.all_cons List.all_nil Bool.and_self Bool.true_and Bool.and_true Bool.false_and Bool.and_false Bool.not_true Bool.not_false List.mem_nil_iff if_false if_true beq_self_eq_true Nat.zero_add Nat.add_zero List.getElem?_cons_zero List.getElem?_cons_succ Option.map_some List.mem_cons or_false false_or or_true true_or Nat.sub_zero forall_const Int.toNat_natCast List.length_cons List.length_nil List.map_cons List.map_nil List.take_succ_cons List.take_zero List.drop_zero List.drop_succ_cons List.cons_append List.nil_append List.append_nil and_true true_and and_self true_implies List.zip_cons_cons List.zip_nil_left
variable (gl : Nat → Option IV)

mutual
theorem Tm.size_bulk : ∀ t : Tm, t.size ≤ bulkT t
  | .mk v n us => by have := sizeTms_bulk us; simp only [Tm.size, bulkT]; omega
theorem sizeTms_bulk : ∀ l : List Tm, sizeTms l ≤ bulkTs l
  | [] => Nat.le_refl _
  | a :: l => by have := Tm.size_bulk a; have := sizeTms_bulk l; simp only [sizeTms, bulkTs]; omega
end
mutual
theorem Fm.size_bulk : ∀ f : Fm, f.size ≤ bulkF f
  | .mk op n us sub => by have := sizeTms_bulk us; have := sizeFms_bulk sub; simp only [Fm.size, bulkF]; omega
theorem sizeFms_bulk : ∀ l : List Fm, sizeFms l ≤ bulkFs l
  | [] => Nat.le_refl _
  | a :: l => by have := Fm.size_bulk a; have := sizeFms_bulk l; simp only [sizeFms, bulkFs]; omega
end
theorem few_size {l : Sb} (h : fewB l = true) : l.length ≤ 6 ∧ ∀ p ∈ l, p.2.size ≤ 100 := by
  simp only [fewB, Bool.and_eq_true, decide_eq_true_eq, List.all_eq_true] at h
  refine ⟨h.1, fun p hp => ?_⟩
  have h2 := h.2 p hp
  simp only [oneB, Bool.and_eq_true, decide_eq_true_eq] at h2
  have := Tm.size_bulk p.2
  omega
theorem nm_size {p q : UInt8 → Bool} {s : ByteArray} (h : nameOf p q s = true) : s.size ≤ 16 := by
  unfold nameOf at h
  have hs : s.size = s.data.toList.length := (Array.length_toList).symm
  rw [hs]
  split at h
  · cases h
  · rename_i c cs hc
    simp only [Bool.and_eq_true, decide_eq_true_eq] at h
    rw [hc]
    simp only [List.length_cons]; omega
mutual
theorem names_ok : ∀ t : Tm, t.ok = true → ∀ s ∈ namesTm t, nmVar s = true
  | .mk true n us, h, s, hs => by
    obtain rfl := ok_var h
    simp only [namesTm, namesTms, List.mem_singleton] at hs
    subst hs
    simp only [Tm.ok, Bool.and_eq_true] at h
    exact h.2
  | .mk false n us, h, s, hs => namess_ok us (ok_fun h) s (by simpa [namesTm] using hs)
theorem namess_ok : ∀ l : List Tm, okTms l = true → ∀ s ∈ namesTms l, nmVar s = true
  | [], _, s, hs => by cases hs
  | a :: l, h, s, hs => by
    simp only [namesTms, List.mem_append] at hs
    rcases hs with hs | hs
    · exact names_ok a (okTms_cons h).1 s hs
    · exact namess_ok l (okTms_cons h).2 s hs
end
mutual
theorem frF_ok : ∀ f : Fm, f.ok = true → ∀ s ∈ frF f, nmVar s = true
  | .mk op n us sub, h, s, hs => by
    obtain ⟨h1, h2, _⟩ := ok_form h
    simp only [frF, List.mem_append] at hs
    rcases hs with hs | hs
    · exact namess_ok us h1 s hs
    · split at hs
      · exact frFs_ok sub h2 s (List.mem_filter.1 hs).1
      · exact frFs_ok sub h2 s hs
theorem frFs_ok : ∀ l : List Fm, okFms l = true → ∀ s ∈ frFs l, nmVar s = true
  | [], _, s, hs => by cases hs
  | a :: l, h, s, hs => by
    simp only [frFs, List.mem_append] at hs
    rcases hs with hs | hs
    · exact frF_ok a (okFms_cons h).1 s hs
    · exact frFs_ok l (okFms_cons h).2 s hs
end
theorem hasB_sorted {l m : List ByteArray} {s : ByteArray} (h : SortedOf l m) : hasB m s = memB l s := by
  rw [Bool.eq_iff_iff]
  simp only [hasB, decide_eq_true_eq, memB_iff]
  exact h.2 s
/-- Putting what changes nothing. -/
theorem puts_id {f : Fm} {l : Sb} (hr : f.right = true) (hg : goodL [] l = true) (hi : idS (freeS l (frF f))) : PutsS f l = (f, 0) := by
  obtain ⟨h1, h2, h3⟩ := right_ok hr
  unfold PutsS
  rw [hr, hg, formS_id f _ h1 hi, decide_eq_true h2, decide_eq_true h3]
  rfl
theorem puts_self {f : Fm} {s : ByteArray} (hr : f.right = true) (hs : nmVar s = true) : PutsS f [(s, .mk true s [])] = (f, 0) :=
  puts_id hr (by simp [goodL, hs, Tm.ok, memB]) (fun p hp => by
    have := (List.mem_filter.1 hp).1
    rw [List.mem_singleton] at this
    rw [this])
theorem puts_none {f : Fm} (hr : f.right = true) : PutsS f [] = (f, 0) := puts_id hr rfl (fun p hp => by cases hp)
theorem puts_absent {f : Fm} {s : ByteArray} {t : Tm} (hr : f.right = true) (hs : nmVar s = true) (ht : t.ok = true) (hn : s ∉ frF f) : PutsS f [(s, t)] = (f, 0) :=
  puts_id hr (by simp [goodL, hs, ht, memB]) (fun p hp => by
    have h := List.mem_filter.1 hp
    have h1 := h.1
    rw [List.mem_singleton] at h1
    rw [h1] at h
    exact absurd (memB_iff.1 h.2) hn)

theorem SubstNothing_c (G : Gl gl) (T : Gt gl) (f : Fm) (x : IV) (hx : IsFm f x) (s : ByteArray) (t : Tm) (y : IV) (hy : IsTm t y) (hb1 : bulkF f ≤ 1125899906842000) (hb2 : bulkT t ≤ 1125899906842000) (st : ISt) :
    ICall prog gl 5 [x, .raw (.string s), y] st (fun r st' => r = .raw (.bool true) ∧ st' = st) := by
  have hsmall := fun tg htg st => Small_c gl [f] tg [x] htg (IsFms.one hx) (by simpa [bulkFs] using hb1) st
  have hfsz := Fm.size_bulk f
  have htsz := Tm.size_bulk t
  have hright := fun hs st => Right_c gl G f x hx st hs
  have hterm := fun hs st => Term_c gl t y hy hs st
  have hput := fun hs (hr : f.right = true) (hv : nmVar s = true) z hz st => Put_c gl G T f x hx hs s (.mk true s []) z hz (by simp [Tm.size, sizeTms]) st
  have hputs := fun hs tg htg st => Puts_c gl G T f x hx hs [] tg [] htg rfl (by simp) (fun p hp => by cases hp) (by simp [wS]) st
  have hput2 := fun hs ht st => Put_c gl G T f x hx hs s t y hy ht st
  have hsame := fun z hz st => Same_c gl f f z x hz hx st
  have qs : eqB f f = true := eqB_true.2 rfl
  have hfree := fun hs hn st => Free_c gl f x hx hs hn st
  obtain ⟨o0, n0, ta, xa, tb, xb, rfl⟩ := hx.agg
  obtain ⟨v1, n1, t1, x1, rfl⟩ := hy.agg
  have hfew := fun tg htg st => few_c gl [(s, t)] tg [.agg [.raw (.string s), .raw (.bool v1), .raw (.string n1), .sl t1 x1]] htg ⟨_, [], rfl, ⟨v1, n1, t1, x1, rfl, hy⟩, rfl⟩ (fun o ho => by rw [List.mem_singleton] at ho; subst ho; exact hb2) st
  refine ICall.intro (c := cf prog gl [] [(5, [0, 1, 2, 8, 3, 4, 5, 6, 7, 9, 10])]) func5 rfl (by show _ ≤ 91; simp) (by kernel_rfl) ?_
  simp -implicitDefEqProofs -dsimp only [go_sem, ↓reduceIte, Nat.reduceEqDiff, Nat.reduceBEq, Nat.reduceAdd, Nat.reduceMul, Nat.reduceSub, Nat.reduceLeDiff, reduceCtorEq, fits]
  refine (awake_c gl G T _).mono ?_
  rintro _ st ⟨rfl, rfl⟩
  simp -implicitDefEqProofs -dsimp only [go_sem, ↓reduceIte, Nat.reduceEqDiff, Nat.reduceBEq, Nat.reduceAdd, Nat.reduceMul, Nat.reduceSub, Nat.reduceLeDiff, reduceCtorEq, fits, inOrder_one]
  refine (hsmall _ (by simp only [go_sem]) _).mono ?_
  rintro _ st ⟨rfl, rfl⟩
  by_cases hz : bulkFs [f] ≤ 500
  case neg =>
    simp -implicitDefEqProofs -dsimp only [go_sem, ↓reduceIte, Nat.reduceEqDiff, Nat.reduceBEq, Nat.reduceAdd, Nat.reduceMul, Nat.reduceSub, Nat.reduceLeDiff, reduceCtorEq, fits, decide_eq_false hz]
    exact outK_self ⟨rfl, rfl⟩
  have hz' : bulkF f ≤ 500 := by simpa [bulkFs] using hz
  simp -implicitDefEqProofs -dsimp only [go_sem, ↓reduceIte, Nat.reduceEqDiff, Nat.reduceBEq, Nat.reduceAdd, Nat.reduceMul, Nat.reduceSub, Nat.reduceLeDiff, reduceCtorEq, fits, decide_eq_true hz, inOrder_one]
  refine (hfew _ (by simp only [go_sem]) _).mono ?_
  rintro _ st ⟨rfl, rfl⟩
  cases hfw : fewB [(s, t)]
  · simp -implicitDefEqProofs -dsimp only [go_sem, ↓reduceIte, Nat.reduceEqDiff, Nat.reduceBEq, Nat.reduceAdd, Nat.reduceMul, Nat.reduceSub, Nat.reduceLeDiff, reduceCtorEq, fits]
    exact outK_self ⟨rfl, rfl⟩
  have htl := (few_size hfw).2 (s, t) (by simp)
  simp only at htl
  simp -implicitDefEqProofs -dsimp only [go_sem, ↓reduceIte, Nat.reduceEqDiff, Nat.reduceBEq, Nat.reduceAdd, Nat.reduceMul, Nat.reduceSub, Nat.reduceLeDiff, reduceCtorEq, fits]
  refine (hright (by omega) _).mono ?_
  rintro _ st ⟨rfl, rfl⟩
  cases hr : f.right
  · simp -implicitDefEqProofs -dsimp only [go_sem, ↓reduceIte, Nat.reduceEqDiff, Nat.reduceBEq, Nat.reduceAdd, Nat.reduceMul, Nat.reduceSub, Nat.reduceLeDiff, reduceCtorEq, fits]
    exact outK_self ⟨rfl, rfl⟩
  simp -implicitDefEqProofs -dsimp only [go_sem, ↓reduceIte, Nat.reduceEqDiff, Nat.reduceBEq, Nat.reduceAdd, Nat.reduceMul, Nat.reduceSub, Nat.reduceLeDiff, reduceCtorEq, fits]
  refine (Variable_c gl s _).mono ?_
  rintro _ st ⟨rfl, rfl⟩
  cases hv : nmVar s
  · simp -implicitDefEqProofs -dsimp only [go_sem, ↓reduceIte, Nat.reduceEqDiff, Nat.reduceBEq, Nat.reduceAdd, Nat.reduceMul, Nat.reduceSub, Nat.reduceLeDiff, reduceCtorEq, fits]
    exact outK_self ⟨rfl, rfl⟩
  simp -implicitDefEqProofs -dsimp only [go_sem, ↓reduceIte, Nat.reduceEqDiff, Nat.reduceBEq, Nat.reduceAdd, Nat.reduceMul, Nat.reduceSub, Nat.reduceLeDiff, reduceCtorEq, fits]
  refine (hterm (by omega) _).mono ?_
  rintro _ st ⟨rfl, rfl⟩
  cases hok : t.ok
  · simp -implicitDefEqProofs -dsimp only [go_sem, ↓reduceIte, Nat.reduceEqDiff, Nat.reduceBEq, Nat.reduceAdd, Nat.reduceMul, Nat.reduceSub, Nat.reduceLeDiff, reduceCtorEq, fits]
    exact outK_self ⟨rfl, rfl⟩
  have e1 := hput (by omega) hr hv
  simp only [puts_self hr hv] at e1
  have e2 := hputs (by omega)
  simp only [puts_none hr] at e2
  simp -implicitDefEqProofs -dsimp only [go_sem, ↓reduceIte, Nat.reduceEqDiff, Nat.reduceBEq, Nat.reduceAdd, Nat.reduceMul, Nat.reduceSub, Nat.reduceLeDiff, reduceCtorEq, fits]
  refine (v_x gl s _).mono ?_
  rintro _ st ⟨rfl, rfl⟩
  simp -implicitDefEqProofs -dsimp only [go_sem, ↓reduceIte, Nat.reduceEqDiff, Nat.reduceBEq, Nat.reduceAdd, Nat.reduceMul, Nat.reduceSub, Nat.reduceLeDiff, reduceCtorEq, fits]
  refine (e1 _ ⟨_, [], rfl, .inl rfl, rfl⟩ _).mono ?_
  rintro _ st ⟨xa1, rfl, ha, rfl⟩
  have ha0 := ha
  obtain ⟨oa, na, ta1, ya, ta2, ya2, rfl⟩ := ha.agg
  simp -implicitDefEqProofs -dsimp only [go_sem, ↓reduceIte, Nat.reduceEqDiff, Nat.reduceBEq, Nat.reduceAdd, Nat.reduceMul, Nat.reduceSub, Nat.reduceLeDiff, reduceCtorEq, fits]
  refine (e2 _ (.inl rfl) _).mono ?_
  rintro _ st ⟨xb1, rfl, hb, rfl⟩
  have hb0 := hb
  obtain ⟨ob, nb, tb1, yb, tb2, yb2, rfl⟩ := hb.agg
  have z0 : decide (((0 : Nat) : Int) = 0) = true := rfl
  simp -implicitDefEqProofs -dsimp only [go_sem, ↓reduceIte, Nat.reduceEqDiff, Nat.reduceBEq, Nat.reduceAdd, Nat.reduceMul, Nat.reduceSub, Nat.reduceLeDiff, reduceCtorEq, fits, z0]
  refine (hsame _ ha0 _).mono ?_
  rintro _ st ⟨rfl, rfl⟩
  simp -implicitDefEqProofs -dsimp only [go_sem, ↓reduceIte, Nat.reduceEqDiff, Nat.reduceBEq, Nat.reduceAdd, Nat.reduceMul, Nat.reduceSub, Nat.reduceLeDiff, reduceCtorEq, fits, qs]
  refine (hsame _ hb0 _).mono ?_
  rintro _ st ⟨rfl, rfl⟩
  simp -implicitDefEqProofs -dsimp only [go_sem, ↓reduceIte, Nat.reduceEqDiff, Nat.reduceBEq, Nat.reduceAdd, Nat.reduceMul, Nat.reduceSub, Nat.reduceLeDiff, reduceCtorEq, fits, qs]
  refine (hfree (by omega) (fun q hq => by have := nm_size (frF_ok f (right_ok hr).1 q hq); omega) _).mono ?_
  rintro _ st ⟨tl, l, rfl, htl2, hl, rfl⟩
  simp -implicitDefEqProofs -dsimp only [go_sem, ↓reduceIte, Nat.reduceEqDiff, Nat.reduceBEq, Nat.reduceAdd, Nat.reduceMul, Nat.reduceSub, Nat.reduceLeDiff, reduceCtorEq, fits]
  refine (has_c gl tl l s htl2 _).mono ?_
  rintro _ st ⟨rfl, rfl⟩
  rw [hasB_sorted hl]
  cases hm : memB (frF f) s
  · have e3 := hput2 (by omega) (by omega)
    simp only [puts_absent hr hv hok (memB_not.1 hm)] at e3
    simp -implicitDefEqProofs -dsimp only [go_sem, ↓reduceIte, Nat.reduceEqDiff, Nat.reduceBEq, Nat.reduceAdd, Nat.reduceMul, Nat.reduceSub, Nat.reduceLeDiff, reduceCtorEq, fits]
    refine (e3 _).mono ?_
    rintro _ st ⟨xc1, rfl, hc, rfl⟩
    have hc0 := hc
    obtain ⟨oc, nc, tc1, yc, tc2, yc2, rfl⟩ := hc.agg
    simp -implicitDefEqProofs -dsimp only [go_sem, ↓reduceIte, Nat.reduceEqDiff, Nat.reduceBEq, Nat.reduceAdd, Nat.reduceMul, Nat.reduceSub, Nat.reduceLeDiff, reduceCtorEq, fits, z0]
    refine (hsame _ hc0 _).mono ?_
    rintro _ st ⟨rfl, rfl⟩
    simp -implicitDefEqProofs -dsimp only [go_sem, ↓reduceIte, Nat.reduceEqDiff, Nat.reduceBEq, Nat.reduceAdd, Nat.reduceMul, Nat.reduceSub, Nat.reduceLeDiff, reduceCtorEq, fits, qs]
    exact outK_self ⟨rfl, rfl⟩
  · simp -implicitDefEqProofs -dsimp only [go_sem, ↓reduceIte, Nat.reduceEqDiff, Nat.reduceBEq, Nat.reduceAdd, Nat.reduceMul, Nat.reduceSub, Nat.reduceLeDiff, reduceCtorEq, fits]
    exact outK_self ⟨rfl, rfl⟩
end Go.Proofs.Tryz
