/- Renaming a bound variable: plain data.
   The law SubstRenames. -/
import Derived.Test.YtknaeibenggbmaaGreatDoorKG
set_option linter.all false
namespace Go.Proofs.Tryz
open Go Go.Iv

mutual
theorem szT_dsub {σ : ByteArray → NlT} (h : ∀ n, szT (σ n) = 1 ∧ dpT (σ n) = 1) : ∀ d : NlT, szT (dsub σ d) = szT d ∧ dpT (dsub σ d) = dpT d
  | .bv i => ⟨rfl, rfl⟩
  | .fv n => h n
  | .ap n l => by
    have := szTs_dsub h l
    simp only [dsub, szT, dpT, this.1, this.2, and_self]
theorem szTs_dsub {σ : ByteArray → NlT} (h : ∀ n, szT (σ n) = 1 ∧ dpT (σ n) = 1) : ∀ l : List NlT, szTs (dsubs σ l) = szTs l ∧ dpTs (dsubs σ l) = dpTs l
  | [] => ⟨rfl, rfl⟩
  | a :: l => by
    have h1 := szT_dsub h a
    have h2 := szTs_dsub h l
    simp only [dsubs, szTs, dpTs, h1.1, h1.2, h2.1, h2.2, and_self]
end
mutual
theorem szD_dsub {σ : ByteArray → NlT} (h : ∀ n, szT (σ n) = 1 ∧ dpT (σ n) = 1) : ∀ d : NlF, szD (dsubF σ d) = szD d ∧ dpD (dsubF σ d) = dpD d
  | .mk op n us sub => by
    have h1 := szTs_dsub h us
    have h2 := szDs_dsub h sub
    simp only [dsubF, szD, dpD, h1.1, h1.2, h2.1, h2.2, and_self]
theorem szDs_dsub {σ : ByteArray → NlT} (h : ∀ n, szT (σ n) = 1 ∧ dpT (σ n) = 1) : ∀ l : List NlF, szDs (dsubFs σ l) = szDs l ∧ dpDs (dsubFs σ l) = dpDs l
  | [] => ⟨rfl, rfl⟩
  | a :: l => by
    have h1 := szD_dsub h a
    have h2 := szDs_dsub h l
    simp only [dsubFs, szDs, dpDs, h1.1, h1.2, h2.1, h2.2, and_self]
end
theorem look_one (m n : ByteArray) (t : Tm) : lookS [(m, t)] n = if m = n then some t else none := by
  unfold lookS
  by_cases h : m = n <;> simp [List.find?, h]
theorem free_one (m : ByteArray) (t : Tm) (fr : List ByteArray) : freeS [(m, t)] fr = if memB fr m then [(m, t)] else [] := by
  unfold freeS
  by_cases h : memB fr m = true <;> simp [List.filter, h]
/-- What putting a variable for a variable gives. -/
theorem puts_var {f : Fm} {m r : ByteArray} (hf : f.right = true) (hm : nmVar m = true) (hr : nmVar r = true) :
    PutsS f [(m, .mk true r [])] = (formS (freeS [(m, .mk true r [])] (frF f)) f, 0) ∧ (formS (freeS [(m, .mk true r [])] (frF f)) f).right = true ∧ (formS (freeS [(m, .mk true r [])] (frF f)) f).size = f.size ∧ (formS (freeS [(m, .mk true r [])] (frF f)) f).deep = f.deep := by
  obtain ⟨f1, f2, f3⟩ := right_ok hf
  have hg : goodL [] [(m, .mk true r [])] = true := by simp [goodL, hm, hr, Tm.ok, memB]
  have hokS : okS (freeS [(m, .mk true r [])] (frF f)) := okS_free (goodL_ok hg)
  have hw : wS (freeS [(m, .mk true r [])] (frF f)) ≤ 1 := by
    have := wS_filter (fun p => memB (frF f) p.1) [(m, .mk true r [])]
    unfold freeS
    simp only [wS, Tm.size, sizeTms] at this
    omega
  have ho := formS_ok f _ f1 hokS (by omega)
  have hs : ∀ n, szT (sgm (freeS [(m, .mk true r [])] (frF f)) n) = 1 ∧ dpT (sgm (freeS [(m, .mk true r [])] (frF f)) n) = 1 := fun n => by
    unfold sgm
    have hv : ∃ s, (lookS (freeS [(m, .mk true r [])] (frF f)) n).getD (.mk true n []) = .mk true s [] := by
      rw [free_one]
      split
      · rw [look_one]
        split
        · exact ⟨r, rfl⟩
        · exact ⟨n, rfl⟩
      · exact ⟨n, rfl⟩
    obtain ⟨s, hs⟩ := hv
    rw [hs]
    exact lookV_sz [] s
  have h1 := dbF_size (formS (freeS [(m, .mk true r [])] (frF f)) f) [] ho
  have h2 := dbF_size f [] f1
  have h3 := szD_dsub hs (dbF [] f)
  rw [dbF_form0 f _ f1, h3.1, h3.2, h2.1, h2.2] at h1
  refine ⟨?_, right_of ho (by omega) (by omega), h1.1.symm, h1.2.symm⟩
  unfold PutsS
  rw [hf, hg, ← h1.1, ← h1.2, decide_eq_true f2, decide_eq_true f3]
  rfl
/-- A bound variable renamed. -/
theorem rename_same {s : Fm} {m r : ByteArray} (hs : s.ok = true) (h : r = m ∨ r ∉ frF s) : dbF [r] (formS (freeS [(m, .mk true r [])] (frF s)) s) = dbF [m] s := by
  rw [dbF_form s _ [m] [r] .fv rfl hs (fun n hn => ?_), dsubF_fv]
  rw [dsub_fv, free_one]
  by_cases hnm : n = m
  · subst hnm
    rw [if_pos (memB_iff.2 hn), look_one, if_pos rfl]
    simp [db, lookV, lookE]
  · have hl : (lookS (if memB (frF s) m = true then [(m, Tm.mk true r [])] else []) n).getD (.mk true n []) = .mk true n [] := by
      split
      · rw [look_one, if_neg (fun e => hnm e.symm)]; rfl
      · rfl
    rw [hl]
    have hnr : n ≠ r := by
      rintro rfl
      rcases h with h | h
      · exact hnm h
      · exact h hn
    simp [db, lookV, lookE, hnm, hnr]
theorem rename_other {s : Fm} {m r : ByteArray} (hs : s.ok = true) (hf : (formS (freeS [(m, .mk true r [])] (frF s)) s).ok = true) (hne : r ≠ m) (hr : r ∈ frF s) : dbF [m] s ≠ dbF [r] (formS (freeS [(m, .mk true r [])] (frF s)) s) := by
  intro he
  have h1 := frD_dbF s [m] hs
  have h2 := frD_dbF _ [r] hf
  rw [he, h2] at h1
  have hm : r ∈ (frF s).filter (fun n => !memB [m] n) := List.mem_filter.2 ⟨hr, by simp [memB, Ne.symm hne]⟩
  rw [← h1] at hm
  have := (List.mem_filter.1 hm).2
  simp [memB] at this
end Go.Proofs.Tryz

namespace Go.Proofs.Tryz
open Go Go.Iv
set_option maxRecDepth 4000
attribute [local go_sem] cf setAt List.all_cons List.all_nil Bool.and_self Bool.true_and Bool.and_true Bool.false_and Bool.and_false Bool.not_true Bool.not_false List.mem_nil_iff if_false if_true beq_self_eq_true Nat.zero_add Nat.add_zero List.getElem?_cons_zero List.getElem?_cons_succ Option.map_some List.mem_cons or_false false_or or_true true_or Nat.sub_zero forall_const Int.toNat_natCast List.length_cons List.length_nil List.map_cons List.map_nil List.take_succ_cons List.take_zero List.drop_zero List.drop_succ_cons List.cons_append List.nil_append List.append_nil and_true true_and and_self true_implies List.zip_cons_cons List.zip_nil_left
variable (gl : Nat → Option IV)

theorem sub_one {op : Nat} {m : ByteArray} {us : List Tm} {sub : List Fm} (hr : (Fm.mk op m us sub).right = true) (hq : isQ op = true) : us = [] ∧ nmVar m = true ∧ ∃ s, sub = [s] ∧ s.right = true ∧ s.size + 1 = (Fm.mk op m us sub).size ∧ s.deep + 1 = (Fm.mk op m us sub).deep := by
  obtain ⟨h1, h2, h3⟩ := right_ok hr
  obtain ⟨k1, k2, k3⟩ := ok_form h1
  have h89 : okRow op m us.length sub.length = (nmVar m && decide (us.length = 0) && decide (sub.length = 1)) := by
    simp only [isQ, Bool.or_eq_true, decide_eq_true_eq] at hq
    rcases hq with rfl | rfl <;> rfl
  simp only [Fm.ok, Bool.and_eq_true] at h1
  have hrow := h1.1.1
  rw [h89] at hrow
  simp only [Bool.and_eq_true, decide_eq_true_eq] at hrow
  obtain rfl := List.length_eq_zero_iff.1 hrow.1.2
  obtain ⟨s, rfl⟩ := List.length_eq_one_iff.1 hrow.2
  simp only [Fm.size, Fm.deep, sizeTms, sizeFms, deepTms, deepFms] at h2 h3
  have hs : s.ok = true := (okFms_cons k2).1
  exact ⟨rfl, hrow.1.1, s, rfl, right_of hs (by omega) (by omega), by simp only [Fm.size, sizeTms, sizeFms]; omega, by simp only [Fm.deep, deepTms, deepFms]; omega⟩
theorem right_quant {op : Nat} {m : ByteArray} {s : Fm} (hq : isQ op = true) (hm : nmVar m = true) (hs : s.right = true) (h1 : s.size + 1 ≤ 400) (h2 : s.deep + 1 ≤ 40) : (Fm.mk op m [] [s]).right = true := by
  obtain ⟨k1, _, _⟩ := right_ok hs
  refine right_of ?_ (by simp only [Fm.size, sizeTms, sizeFms]; omega) (by simp only [Fm.deep, deepTms, deepFms]; omega)
  have h89 : okRow op m 0 1 = (nmVar m && decide (0 = 0) && decide (1 = 1)) := by
    simp only [isQ, Bool.or_eq_true, decide_eq_true_eq] at hq
    rcases hq with rfl | rfl <;> rfl
  simp [Fm.ok, okTms, okFms, h89, hm, k1]

theorem SubstRenames_c (G : Gl gl) (T : Gt gl) (f : Fm) (x : IV) (hx : IsFm f x) (r : ByteArray) (hb1 : bulkF f ≤ 1125899906842000) (st : ISt) :
    ICall prog gl 8 [x, .raw (.string r)] st (fun v st' => v = .raw (.bool true) ∧ st' = st) := by
  have hsmall := fun tg htg st => Small_c gl [f] tg [x] htg (IsFms.one hx) (by simpa [bulkFs] using hb1) st
  have hfsz := Fm.size_bulk f
  have hright := fun f x hx hs st => Right_c gl G f x hx st hs
  have halpha := fun f g x y hx hy hs hs' st => Alpha_c gl G f g x y hx hy hs hs' st
  have hfree := fun f x hx hs hn st => Free_c gl f x hx hs hn st
  have hput := fun f x hx hs nm t y hy ht st => Put_c gl G T f x hx hs nm t y hy ht st
  have hx0 := hx
  obtain ⟨op, m, us, sub⟩ := f
  obtain ⟨ta, xa, tb, xb, rfl, ho, hta, hxa, htb, hxb⟩ := hx.mk
  refine ICall.intro (c := cf prog gl [] [(6, [0, 1, 2, 3, 4, 5, 6, 12, 7, 8, 9, 10, 11, 13, 14])]) func8 rfl (by show _ ≤ 82; simp) (by kernel_rfl) ?_
  simp -implicitDefEqProofs -dsimp only [go_sem, ↓reduceIte, Nat.reduceEqDiff, Nat.reduceBEq, Nat.reduceAdd, Nat.reduceMul, Nat.reduceSub, Nat.reduceLeDiff, reduceCtorEq, fits]
  refine (awake_c gl G T _).mono ?_
  rintro _ st ⟨rfl, rfl⟩
  simp -implicitDefEqProofs -dsimp only [go_sem, ↓reduceIte, Nat.reduceEqDiff, Nat.reduceBEq, Nat.reduceAdd, Nat.reduceMul, Nat.reduceSub, Nat.reduceLeDiff, reduceCtorEq, fits, inOrder_one]
  refine (hsmall _ (by simp only [go_sem]) _).mono ?_
  rintro _ st ⟨rfl, rfl⟩
  by_cases hz : bulkFs [.mk op m us sub] ≤ 500
  case neg =>
    simp -implicitDefEqProofs -dsimp only [go_sem, ↓reduceIte, Nat.reduceEqDiff, Nat.reduceBEq, Nat.reduceAdd, Nat.reduceMul, Nat.reduceSub, Nat.reduceLeDiff, reduceCtorEq, fits, decide_eq_false hz]
    exact outK_self ⟨rfl, rfl⟩
  have hz' : bulkF (.mk op m us sub) ≤ 500 := by simpa [bulkFs] using hz
  simp -implicitDefEqProofs -dsimp only [go_sem, ↓reduceIte, Nat.reduceEqDiff, Nat.reduceBEq, Nat.reduceAdd, Nat.reduceMul, Nat.reduceSub, Nat.reduceLeDiff, reduceCtorEq, fits, decide_eq_true hz]
  refine (hright _ _ hx0 (by omega) _).mono ?_
  rintro _ st ⟨rfl, rfl⟩
  cases hr : (Fm.mk op m us sub).right
  · simp -implicitDefEqProofs -dsimp only [go_sem, ↓reduceIte, Nat.reduceEqDiff, Nat.reduceBEq, Nat.reduceAdd, Nat.reduceMul, Nat.reduceSub, Nat.reduceLeDiff, reduceCtorEq, fits]
    exact outK_self ⟨rfl, rfl⟩
  simp -implicitDefEqProofs -dsimp only [go_sem, ↓reduceIte, Nat.reduceEqDiff, Nat.reduceBEq, Nat.reduceAdd, Nat.reduceMul, Nat.reduceSub, Nat.reduceLeDiff, reduceCtorEq, fits]
  refine (Variable_c gl r _).mono ?_
  rintro _ st ⟨rfl, rfl⟩
  cases hv : nmVar r
  · simp -implicitDefEqProofs -dsimp only [go_sem, ↓reduceIte, Nat.reduceEqDiff, Nat.reduceBEq, Nat.reduceAdd, Nat.reduceMul, Nat.reduceSub, Nat.reduceLeDiff, reduceCtorEq, fits]
    exact outK_self ⟨rfl, rfl⟩
  cases hq : isQ op
  · have h8 : decide ((op : Int) = 8) = false := decide_eq_false (by intro h; simp [isQ] at hq; omega)
    have h9 : decide ((op : Int) = 9) = false := decide_eq_false (by intro h; simp [isQ] at hq; omega)
    simp -implicitDefEqProofs -dsimp only [go_sem, ↓reduceIte, Nat.reduceEqDiff, Nat.reduceBEq, Nat.reduceAdd, Nat.reduceMul, Nat.reduceSub, Nat.reduceLeDiff, reduceCtorEq, fits, h8, h9]
    exact outK_self ⟨rfl, rfl⟩
  obtain ⟨rfl, hm, s, rfl, hsr, hsz, hdp⟩ := sub_one hr hq
  obtain ⟨s1, s2, s3⟩ := right_ok hsr
  obtain ⟨k1, k2, k3⟩ := right_ok hr
  obtain ⟨z, ys, rfl, hz0, hys⟩ : ∃ z ys, xb = z :: ys ∧ IsFm s z ∧ IsFms [] ys := by simpa [IsFms] using hxb
  obtain rfl : ys = [] := by simpa [IsFms] using hys
  obtain ⟨e1, e2, e3, e4⟩ := puts_var (m := m) (r := r) hsr hm hv
  have hzz := hz0
  obtain ⟨o1, n1, tc, xc, td, xd, rfl⟩ := hz0.agg
  have z0 : decide (((0 : Nat) : Int) = 0) = true := rfl
  have hcond : ∃ b8 b9 : Bool, decide ((op : Int) = 8) = b8 ∧ decide ((op : Int) = 9) = b9 ∧ (b8 = true ∨ (b8 = false ∧ b9 = true)) := by
    refine ⟨_, _, rfl, rfl, ?_⟩
    simp only [isQ, Bool.or_eq_true, decide_eq_true_eq] at hq
    rcases hq with rfl | rfl
    · exact .inl rfl
    · exact .inr ⟨rfl, rfl⟩
  obtain ⟨b8, b9, d8, d9, hb⟩ := hcond
  have hq8 : (!b8 && !b9) = false := by rcases hb with rfl | ⟨rfl, rfl⟩ <;> rfl
  have p1 := hput s _ hzz (by omega) m (.mk true r [])
  simp only [e1] at p1
  rcases hb with rfl | ⟨rfl, rfl⟩
  all_goals
    simp -implicitDefEqProofs -dsimp only [go_sem, ↓reduceIte, Nat.reduceEqDiff, Nat.reduceBEq, Nat.reduceAdd, Nat.reduceMul, Nat.reduceSub, Nat.reduceLeDiff, reduceCtorEq, fits, d8, d9, reTag_es htb, List.length_cons, List.length_nil]
    intros
    refine (hfree s _ hzz (by omega) (fun q hq => by have := nm_size (frF_ok s s1 q hq); omega) _).mono ?_
    rintro _ st ⟨tl, l, rfl, htl, hl, rfl⟩
    simp -implicitDefEqProofs -dsimp only [go_sem, ↓reduceIte, Nat.reduceEqDiff, Nat.reduceBEq, Nat.reduceAdd, Nat.reduceMul, Nat.reduceSub, Nat.reduceLeDiff, reduceCtorEq, fits, reTag_es htb]
    intros
    refine (v_x gl r _).mono ?_
    rintro _ st ⟨rfl, rfl⟩
    simp -implicitDefEqProofs -dsimp only [go_sem, ↓reduceIte, Nat.reduceEqDiff, Nat.reduceBEq, Nat.reduceAdd, Nat.reduceMul, Nat.reduceSub, Nat.reduceLeDiff, reduceCtorEq, fits]
    refine (p1 _ ⟨_, [], rfl, .inl rfl, rfl⟩ (by simp [Tm.size, sizeTms]) _).mono ?_
    rintro _ st ⟨g, rfl, hg, rfl⟩
    have hg0 := hg
    obtain ⟨o2, n2, te, xe, tf, xf, rfl⟩ := hg.agg
    simp -implicitDefEqProofs -dsimp only [go_sem, ↓reduceIte, Nat.reduceEqDiff, Nat.reduceBEq, Nat.reduceAdd, Nat.reduceMul, Nat.reduceSub, Nat.reduceLeDiff, reduceCtorEq, fits, inOrder_one]
    refine (of_x gl op r _ _ _).mono ?_
    rintro _ st ⟨rfl, rfl⟩
    have hgg : IsFm (.mk op r [] [formS (freeS [(m, .mk true r [])] (frF s)) s]) (.agg [.raw (.int .u8 op), .raw (.string r), .sl ⟨true, .nil, 0⟩ [], .sl ⟨true, .full, 4⟩ [.agg [.raw (.int .u8 o2), .raw (.string n2), .sl te xe, .sl tf xf]]]) :=
      ⟨_, _, _, _, rfl, ho, .inl rfl, rfl, .inr rfl, IsFms.one hg0⟩
    have hgr := right_quant (op := op) hq hv e2 (by omega) (by omega)
    obtain ⟨j1, j2, j3⟩ := right_ok hgr
    simp -implicitDefEqProofs -dsimp only [go_sem, ↓reduceIte, Nat.reduceEqDiff, Nat.reduceBEq, Nat.reduceAdd, Nat.reduceMul, Nat.reduceSub, Nat.reduceLeDiff, reduceCtorEq, fits, z0]
    refine (hright _ _ hgg (by omega) _).mono ?_
    rintro _ st ⟨rfl, rfl⟩
    have hal : alphaB (.mk op m [] [s]) (.mk op r [] [formS (freeS [(m, .mk true r [])] (frF s)) s]) = (decide (r = m) || !memB (frF s) r) := by
      rw [alphaB_true hr hgr, Bool.eq_iff_iff, eqB_true, Bool.or_eq_true, decide_eq_true_eq, Bool.not_eq_true', memB_not]
      simp only [dbF, hq, if_true, dbs, dbFs]
      constructor
      · intro h
        refine Classical.byContradiction fun hn => ?_
        simp only [not_or, Classical.not_not] at hn
        injection h with _ _ _ h4
        injection h4 with h5 _
        exact rename_other s1 (right_ok e2).1 hn.1 hn.2 h5
      · intro h
        rw [rename_same s1 h]
    simp -implicitDefEqProofs -dsimp only [go_sem, ↓reduceIte, Nat.reduceEqDiff, Nat.reduceBEq, Nat.reduceAdd, Nat.reduceMul, Nat.reduceSub, Nat.reduceLeDiff, reduceCtorEq, fits, hgr]
    have hhas := has_c gl tl l r htl
    rw [hasB_sorted hl] at hhas
    by_cases hrm : r = m
    · simp -implicitDefEqProofs -dsimp only [go_sem, ↓reduceIte, Nat.reduceEqDiff, Nat.reduceBEq, Nat.reduceAdd, Nat.reduceMul, Nat.reduceSub, Nat.reduceLeDiff, reduceCtorEq, fits, decide_eq_true hrm]
      refine (halpha _ _ _ _ hx0 hgg (by omega) (by omega) _).mono ?_
      rintro _ st ⟨rfl, rfl⟩
      simp -implicitDefEqProofs -dsimp only [go_sem, ↓reduceIte, Nat.reduceEqDiff, Nat.reduceBEq, Nat.reduceAdd, Nat.reduceMul, Nat.reduceSub, Nat.reduceLeDiff, reduceCtorEq, fits, hal, decide_eq_true hrm]
      exact outK_self ⟨rfl, rfl⟩
    · simp -implicitDefEqProofs -dsimp only [go_sem, ↓reduceIte, Nat.reduceEqDiff, Nat.reduceBEq, Nat.reduceAdd, Nat.reduceMul, Nat.reduceSub, Nat.reduceLeDiff, reduceCtorEq, fits, decide_eq_false hrm]
      refine (hhas _).mono ?_
      rintro _ st ⟨rfl, rfl⟩
      cases hb : memB (frF s) r
      · simp -implicitDefEqProofs -dsimp only [go_sem, ↓reduceIte, Nat.reduceEqDiff, Nat.reduceBEq, Nat.reduceAdd, Nat.reduceMul, Nat.reduceSub, Nat.reduceLeDiff, reduceCtorEq, fits]
        refine (halpha _ _ _ _ hx0 hgg (by omega) (by omega) _).mono ?_
        rintro _ st ⟨rfl, rfl⟩
        simp -implicitDefEqProofs -dsimp only [go_sem, ↓reduceIte, Nat.reduceEqDiff, Nat.reduceBEq, Nat.reduceAdd, Nat.reduceMul, Nat.reduceSub, Nat.reduceLeDiff, reduceCtorEq, fits, hal, decide_eq_false hrm, hb]
        exact outK_self ⟨rfl, rfl⟩
      · simp -implicitDefEqProofs -dsimp only [go_sem, ↓reduceIte, Nat.reduceEqDiff, Nat.reduceBEq, Nat.reduceAdd, Nat.reduceMul, Nat.reduceSub, Nat.reduceLeDiff, reduceCtorEq, fits]
        refine (halpha _ _ _ _ hx0 hgg (by omega) (by omega) _).mono ?_
        rintro _ st ⟨rfl, rfl⟩
        simp -implicitDefEqProofs -dsimp only [go_sem, ↓reduceIte, Nat.reduceEqDiff, Nat.reduceBEq, Nat.reduceAdd, Nat.reduceMul, Nat.reduceSub, Nat.reduceLeDiff, reduceCtorEq, fits, hal, decide_eq_false hrm, hb]
        exact outK_self ⟨rfl, rfl⟩
end Go.Proofs.Tryz
