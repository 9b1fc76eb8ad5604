/- The size of a formula, read off its nameless form; formulas that are equal up to bound names stay so: plain data.
   The law SubstStays. -/
import Derived.Test.YtknaeibenggbmaaGreatDoorKD
set_option linter.all false
namespace Go.Proofs.Tryz
open Go Go.Iv

mutual
def szT : NlT → Nat
  | .bv _ => 1
  | .fv _ => 1
  | .ap _ l => szTs l + 1
def szTs : List NlT → Nat
  | [] => 0
  | a :: l => szT a + szTs l
end
mutual
def dpT : NlT → Nat
  | .bv _ => 1
  | .fv _ => 1
  | .ap _ l => dpTs l + 1
def dpTs : List NlT → Nat
  | [] => 0
  | a :: l => max (dpT a) (dpTs l)
end
mutual
def szD : NlF → Nat
  | .mk _ _ us sub => szTs us + szDs sub + 1
def szDs : List NlF → Nat
  | [] => 0
  | a :: l => szD a + szDs l
end
mutual
def dpD : NlF → Nat
  | .mk _ _ us sub => max (dpTs us) (dpDs sub) + 1
def dpDs : List NlF → Nat
  | [] => 0
  | a :: l => max (dpD a) (dpDs l)
end
theorem lookV_sz (e : List ByteArray) (n : ByteArray) : szT (lookV e n) = 1 ∧ dpT (lookV e n) = 1 := by
  unfold lookV
  split <;> exact ⟨rfl, rfl⟩
mutual
theorem db_size (e : List ByteArray) : ∀ t : Tm, t.ok = true → szT (db e t) = t.size ∧ dpT (db e t) = t.deep
  | .mk true n us, h => by
    obtain rfl := ok_var h
    simp only [db, Tm.size, Tm.deep, sizeTms, deepTms]
    exact lookV_sz e n
  | .mk false n us, h => by
    have := dbs_size e us (ok_fun h)
    simp only [db, szT, dpT, Tm.size, Tm.deep, this.1, this.2, and_self]
theorem dbs_size (e : List ByteArray) : ∀ l : List Tm, okTms l = true → szTs (dbs e l) = sizeTms l ∧ dpTs (dbs e l) = deepTms l
  | [], _ => ⟨rfl, rfl⟩
  | a :: l, h => by
    have h1 := db_size e a (okTms_cons h).1
    have h2 := dbs_size e l (okTms_cons h).2
    simp only [dbs, szTs, dpTs, sizeTms, deepTms, h1.1, h1.2, h2.1, h2.2, and_self]
end
mutual
theorem dbF_size : ∀ (f : Fm) (e : List ByteArray), f.ok = true → szD (dbF e f) = f.size ∧ dpD (dbF e f) = f.deep
  | .mk op n us sub, e, h => by
    obtain ⟨h1, h2, _⟩ := ok_form h
    have i1 := dbs_size e us h1
    have i2 := dbFs_size sub (if isQ op then n :: e else e) h2
    simp only [dbF, szD, dpD, Fm.size, Fm.deep, i1.1, i1.2, i2.1, i2.2, and_self]
theorem dbFs_size : ∀ (l : List Fm) (e : List ByteArray), okFms l = true → szDs (dbFs e l) = sizeFms l ∧ dpDs (dbFs e l) = deepFms l
  | [], _, _ => ⟨rfl, rfl⟩
  | a :: l, e, h => by
    have i1 := dbF_size a e (okFms_cons h).1
    have i2 := dbFs_size l e (okFms_cons h).2
    simp only [dbFs, szDs, dpDs, sizeFms, deepFms, i1.1, i1.2, i2.1, i2.2, and_self]
end
theorem same_size {f g : Fm} (hf : f.ok = true) (hg : g.ok = true) (h : dbF [] f = dbF [] g) : f.size = g.size ∧ f.deep = g.deep := by
  have h1 := dbF_size f [] hf
  have h2 := dbF_size g [] hg
  rw [h] at h1
  exact ⟨h1.1.symm.trans h2.1, h1.2.symm.trans h2.2⟩
theorem wS_le : ∀ (l : Sb), (∀ p ∈ l, p.2.size ≤ 100) → wS l ≤ 100 * l.length
  | [], _ => Nat.zero_le _
  | p :: l, h => by
    have h1 := h p (by simp)
    have h2 := wS_le l (fun q hq => h q (by simp [hq]))
    simp only [wS, List.length_cons]; omega
theorem puts_size (f : Fm) (l : Sb) : (PutsS f l).1.size ≤ 400 := by
  unfold PutsS
  split
  · split
    · rename_i h
      simp only [Bool.and_eq_true, decide_eq_true_eq] at h
      exact h.1
    · show fm0.size ≤ 400
      decide
  · show fm0.size ≤ 400
    decide
theorem goodL_ok {l : Sb} {seen : List ByteArray} (h : goodL seen l = true) : okS l := fun p hp => ((goodL_nodup l seen h).2 p hp).2.1
theorem okS_free {l : Sb} {fr : List ByteArray} (h : okS l) : okS (freeS l fr) := fun p hp => h p (List.mem_filter.1 hp).1
theorem alphaB_true {f g : Fm} (hf : f.right = true) (hg : g.right = true) : alphaB f g = eqB (dbF [] f) (dbF [] g) := by simp [alphaB, hf, hg]
/-- What putting gives, where it gives something: right, and, nameless, the nameless formula with what is put. -/
theorem puts_ok {f : Fm} {l : Sb} (hl : wS l ≤ 1000000) (h : (PutsS f l).2 = 0) :
    f.right = true ∧ goodL [] l = true ∧ (PutsS f l).1 = formS (freeS l (frF f)) f ∧ (PutsS f l).1.right = true ∧ dbF [] (PutsS f l).1 = dsubF (sgm (freeS l (frF f))) (dbF [] f) := by
  have hh := h
  unfold PutsS at hh
  split at hh
  case isFalse => simp at hh
  rename_i h1
  split at hh
  case isFalse => simp at hh
  rename_i h2
  have e : (PutsS f l).1 = formS (freeS l (frF f)) f := by unfold PutsS; rw [if_pos h1, if_pos h2]
  simp only [Bool.and_eq_true, decide_eq_true_eq] at h1 h2
  obtain ⟨o1, o2, o3⟩ := right_ok h1.1
  have hw := wS_filter (fun p => memB (frF f) p.1) l
  have ho := formS_ok f (freeS l (frF f)) o1 (okS_free (goodL_ok h1.2)) (by unfold freeS; omega)
  refine ⟨h1.1, h1.2, e, ?_, ?_⟩
  · rw [e]; exact right_of ho h2.1 h2.2
  · rw [e]; exact dbF_form0 f _ o1
/-- Formulas that are equal up to bound names stay so. -/
theorem puts_alpha {f g : Fm} {l : Sb} (hf : f.right = true) (hg : g.right = true) (hl : wS l ≤ 1000000) (h : dbF [] f = dbF [] g) :
    (PutsS f l).2 = (PutsS g l).2 ∧ ((PutsS f l).2 = 0 → alphaB (PutsS f l).1 (PutsS g l).1 = true) := by
  obtain ⟨f1, f2, f3⟩ := right_ok hf
  obtain ⟨g1, g2, g3⟩ := right_ok hg
  have hfr : frF f = frF g := by rw [← frD_db0 f1, ← frD_db0 g1, h]
  have e : (PutsS f l).2 = (PutsS g l).2 := by
    by_cases hq : goodL [] l = true
    · have hw := wS_filter (fun p => memB (frF f) p.1) l
      have oa := formS_ok f (freeS l (frF f)) f1 (okS_free (goodL_ok hq)) (by unfold freeS; omega)
      have ob := formS_ok g (freeS l (frF f)) g1 (okS_free (goodL_ok hq)) (by unfold freeS; omega)
      have hs := same_size oa ob (by rw [dbF_form0 f _ f1, dbF_form0 g _ g1, h])
      unfold PutsS
      rw [hf, hg, hq, ← hfr, hs.1, hs.2]
      simp only [Bool.and_self, if_true]
      split <;> rfl
    · have hq' : goodL [] l = false := by simpa using hq
      simp [PutsS, hq']
  refine ⟨e, fun h0 => ?_⟩
  obtain ⟨_, _, _, ra, da⟩ := puts_ok hl h0
  obtain ⟨_, _, _, rb, db⟩ := puts_ok (f := g) hl (e ▸ h0)
  rw [alphaB_true ra rb, eqB_true, da, db, h, hfr]
end Go.Proofs.Tryz

namespace Go.Proofs.Tryz
open Go Go.Iv
set_option maxRecDepth 4000
attribute [local go_sem] cf setAt List.all_cons List.all_nil Bool.and_self Bool.true_and Bool.and_true Bool.false_and Bool.and_false Bool.not_true Bool.not_false List.mem_nil_iff if_false if_true beq_self_eq_true Nat.zero_add Nat.add_zero List.getElem?_cons_zero List.getElem?_cons_succ Option.map_some List.mem_cons or_false false_or or_true true_or Nat.sub_zero forall_const Int.toNat_natCast List.length_cons List.length_nil List.map_cons List.map_nil List.take_succ_cons List.take_zero List.drop_zero List.drop_succ_cons List.cons_append List.nil_append List.append_nil and_true true_and and_self true_implies List.zip_cons_cons List.zip_nil_left
variable (gl : Nat → Option IV)

theorem SubstStays_c (G : Gl gl) (T : Gt gl) (f : Fm) (x : IV) (hx : IsFm f x) (l : Sb) (tg : Tag) (xs : List IV) (htg : okEs tg 4) (hxs : IsOnes l xs) (hb1 : bulkF f ≤ 1125899906842000) (hb2 : ∀ o ∈ l, bulkT o.2 ≤ 1125899906842000) (st : ISt) :
    ICall prog gl 6 [x, .sl tg xs] st (fun r st' => r = .raw (.bool true) ∧ st' = st) := by
  have hsmall := fun tg htg st => Small_c gl [f] tg [x] htg (IsFms.one hx) (by simpa [bulkFs] using hb1) st
  have hfsz := Fm.size_bulk f
  have hright := fun hs st => Right_c gl G f x hx st hs
  have hfew := fun st => few_c gl l tg xs htg hxs hb2 st
  have hnorm := fun hs st => Normal_c gl G T f x hx hs st
  have hputs := fun f x hx hs hl hls hws st => Puts_c gl G T f x hx hs l tg xs htg hxs hl hls hws st
  have halpha := fun f g x y hx hy hs hs' st => Alpha_c gl G f g x y hx hy hs hs' st
  have hsame := fun f g x y hx hy st => Same_c gl f g x y hx hy st
  have hx0 := hx
  obtain ⟨o0, n0, ta, xa, tb, xb, rfl⟩ := hx.agg
  refine ICall.intro (c := cf prog gl [] []) func6 rfl (by show _ ≤ 70; simp) (by kernel_rfl) ?_
  simp -implicitDefEqProofs -dsimp only [go_sem, ↓reduceIte, Nat.reduceEqDiff, Nat.reduceBEq, Nat.reduceAdd, Nat.reduceMul, Nat.reduceSub, Nat.reduceLeDiff, reduceCtorEq, fits]
  refine (awake_c gl G T _).mono ?_
  rintro _ st ⟨rfl, rfl⟩
  simp -implicitDefEqProofs -dsimp only [go_sem, ↓reduceIte, Nat.reduceEqDiff, Nat.reduceBEq, Nat.reduceAdd, Nat.reduceMul, Nat.reduceSub, Nat.reduceLeDiff, reduceCtorEq, fits, inOrder_one]
  refine (hsmall _ (by simp only [go_sem]) _).mono ?_
  rintro _ st ⟨rfl, rfl⟩
  by_cases hz : bulkFs [f] ≤ 500
  case neg =>
    simp -implicitDefEqProofs -dsimp only [go_sem, ↓reduceIte, Nat.reduceEqDiff, Nat.reduceBEq, Nat.reduceAdd, Nat.reduceMul, Nat.reduceSub, Nat.reduceLeDiff, reduceCtorEq, fits, decide_eq_false hz]
    exact outK_self ⟨rfl, rfl⟩
  have hz' : bulkF f ≤ 500 := by simpa [bulkFs] using hz
  simp -implicitDefEqProofs -dsimp only [go_sem, ↓reduceIte, Nat.reduceEqDiff, Nat.reduceBEq, Nat.reduceAdd, Nat.reduceMul, Nat.reduceSub, Nat.reduceLeDiff, reduceCtorEq, fits, decide_eq_true hz, inOrder_one]
  refine (hfew _).mono ?_
  rintro _ st ⟨rfl, rfl⟩
  cases hfw : fewB l
  · simp -implicitDefEqProofs -dsimp only [go_sem, ↓reduceIte, Nat.reduceEqDiff, Nat.reduceBEq, Nat.reduceAdd, Nat.reduceMul, Nat.reduceSub, Nat.reduceLeDiff, reduceCtorEq, fits]
    exact outK_self ⟨rfl, rfl⟩
  obtain ⟨hl6, hls⟩ := few_size hfw
  have hws := wS_le l hls
  have z0 : decide (((0 : Nat) : Int) = 0) = true := rfl
  simp -implicitDefEqProofs -dsimp only [go_sem, ↓reduceIte, Nat.reduceEqDiff, Nat.reduceBEq, Nat.reduceAdd, Nat.reduceMul, Nat.reduceSub, Nat.reduceLeDiff, reduceCtorEq, fits]
  refine (hnorm (by omega) _).mono ?_
  rintro _ st ⟨y, rfl, hy, rfl⟩
  cases hr : f.right
  · have hE : NormalS f = (fm0, 2) := by simp [NormalS, hr]
    rw [hE] at hy
    simp only at hy
    have hy0 := hy
    obtain ⟨oy, ny, t1, y1, t2, y2, rfl⟩ := hy.agg
    have z2 : decide (((2 : Nat) : Int) = 0) = false := rfl
    have z22 : decide (((2 : Nat) : Int) = 2) = true := rfl
    simp -implicitDefEqProofs -dsimp only [go_sem, ↓reduceIte, Nat.reduceEqDiff, Nat.reduceBEq, Nat.reduceAdd, Nat.reduceMul, Nat.reduceSub, Nat.reduceLeDiff, reduceCtorEq, fits, hE, z2, z22]
    refine (hsame fm0 fm0 _ _ hy0 (fm0_v _ _ (.inl rfl) (.inl rfl)) _).mono ?_
    rintro _ st ⟨rfl, rfl⟩
    have q0 : eqB fm0 fm0 = true := eqB_true.2 rfl
    simp -implicitDefEqProofs -dsimp only [go_sem, ↓reduceIte, Nat.reduceEqDiff, Nat.reduceBEq, Nat.reduceAdd, Nat.reduceMul, Nat.reduceSub, Nat.reduceLeDiff, reduceCtorEq, fits, q0]
    refine (hright (by omega) _).mono ?_
    rintro _ st ⟨rfl, rfl⟩
    simp -implicitDefEqProofs -dsimp only [go_sem, ↓reduceIte, Nat.reduceEqDiff, Nat.reduceBEq, Nat.reduceAdd, Nat.reduceMul, Nat.reduceSub, Nat.reduceLeDiff, reduceCtorEq, fits, hr]
    exact outK_self ⟨rfl, rfl⟩
  have hE : NormalS f = (normF f, 0) := by simp [NormalS, hr]
  rw [hE] at hy
  simp only at hy
  have hy0 := hy
  obtain ⟨f1, f2, f3⟩ := right_ok hr
  have hnr := normF_right hr
  obtain ⟨g1, g2, g3⟩ := right_ok hnr
  obtain ⟨e1, e2⟩ := puts_alpha (l := l) hr hnr (by omega) (dbF_normF f1).symm
  obtain ⟨oy, ny, t1, y1, t2, y2, rfl⟩ := hy.agg
  simp -implicitDefEqProofs -dsimp only [go_sem, ↓reduceIte, Nat.reduceEqDiff, Nat.reduceBEq, Nat.reduceAdd, Nat.reduceMul, Nat.reduceSub, Nat.reduceLeDiff, reduceCtorEq, fits, hE, z0]
  refine (hputs f _ hx0 (by omega) (by omega) (fun p hp => by have := hls p hp; omega) (by omega) _).mono ?_
  rintro _ st ⟨a, rfl, ha, rfl⟩
  have ha0 := ha
  obtain ⟨oa, na, ta1, ya1, ta2, ya2, rfl⟩ := ha.agg
  simp -implicitDefEqProofs -dsimp only [go_sem, ↓reduceIte, Nat.reduceEqDiff, Nat.reduceBEq, Nat.reduceAdd, Nat.reduceMul, Nat.reduceSub, Nat.reduceLeDiff, reduceCtorEq, fits]
  refine (hputs (normF f) _ hy0 (by omega) (by omega) (fun p hp => by have := hls p hp; omega) (by omega) _).mono ?_
  rintro _ st ⟨b, rfl, hb, rfl⟩
  have hb0 := hb
  obtain ⟨ob, nb, tb1, yb1, tb2, yb2, rfl⟩ := hb.agg
  simp -implicitDefEqProofs -dsimp only [go_sem, ↓reduceIte, Nat.reduceEqDiff, Nat.reduceBEq, Nat.reduceAdd, Nat.reduceMul, Nat.reduceSub, Nat.reduceLeDiff, reduceCtorEq, fits]
  refine (halpha f (normF f) _ _ hx0 hy0 (by omega) (by omega) _).mono ?_
  rintro _ st ⟨rfl, rfl⟩
  have qa : alphaB f (normF f) = true := by rw [alphaB_true hr hnr, eqB_true, dbF_normF f1]
  have s1 := puts_size f l
  have s2 := puts_size (normF f) l
  have dd : decide (((PutsS f l).2 : Int) = ((PutsS (normF f) l).2 : Int)) = true := decide_eq_true (by rw [e1])
  by_cases h0 : (PutsS f l).2 = 0
  · have d0 : decide (((PutsS f l).2 : Int) = 0) = true := decide_eq_true (by rw [h0]; rfl)
    simp -implicitDefEqProofs -dsimp only [go_sem, ↓reduceIte, Nat.reduceEqDiff, Nat.reduceBEq, Nat.reduceAdd, Nat.reduceMul, Nat.reduceSub, Nat.reduceLeDiff, reduceCtorEq, fits, qa, dd, d0]
    refine (halpha _ _ _ _ ha0 hb0 (by omega) (by omega) _).mono ?_
    rintro _ st ⟨rfl, rfl⟩
    simp -implicitDefEqProofs -dsimp only [go_sem, ↓reduceIte, Nat.reduceEqDiff, Nat.reduceBEq, Nat.reduceAdd, Nat.reduceMul, Nat.reduceSub, Nat.reduceLeDiff, reduceCtorEq, fits, e2 h0]
    exact outK_self ⟨rfl, rfl⟩
  · have d0 : decide (((PutsS f l).2 : Int) = 0) = false := decide_eq_false (by omega)
    simp -implicitDefEqProofs -dsimp only [go_sem, ↓reduceIte, Nat.reduceEqDiff, Nat.reduceBEq, Nat.reduceAdd, Nat.reduceMul, Nat.reduceSub, Nat.reduceLeDiff, reduceCtorEq, fits, qa, dd, d0]
    exact outK_self ⟨rfl, rfl⟩
end Go.Proofs.Tryz
