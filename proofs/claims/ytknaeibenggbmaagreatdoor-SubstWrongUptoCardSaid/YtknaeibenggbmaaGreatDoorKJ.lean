/- Walks: counts, occurs. How often a variable occurs free.
   The law SubstFrees. -/
import Derived.Test.YtknaeibenggbmaaGreatDoorKH
import Derived.Test.YtknaeibenggbmaaGreatDoorKI
set_option linter.all false
namespace Go.Proofs.Tryz
open Go Go.Iv
set_option maxRecDepth 4000
attribute [local go_sem] cf setAt List.all_cons List.all_nil Bool.and_self Bool.true_and Bool.and_true Bool.false_and Bool.and_false Bool.not_true Bool.not_false List.mem_nil_iff if_false if_true beq_self_eq_true Nat.zero_add Nat.add_zero List.getElem?_cons_zero List.getElem?_cons_succ Option.map_some List.mem_cons or_false false_or or_true true_or Nat.sub_zero forall_const Int.toNat_natCast List.length_cons List.length_nil List.map_cons List.map_nil List.take_succ_cons List.take_zero List.drop_zero List.drop_succ_cons List.cons_append List.nil_append List.append_nil and_true true_and and_self true_implies List.zip_cons_cons List.zip_nil_left
variable (gl : Nat → Option IV)

def cntB : List ByteArray → ByteArray → Nat
  | [], _ => 0
  | a :: l, s => (if a = s then 1 else 0) + cntB l s
theorem cntB_append (s : ByteArray) : ∀ l m : List ByteArray, cntB (l ++ m) s = cntB l s + cntB m s
  | [], m => by simp [cntB]
  | a :: l, m => by simp only [List.cons_append, cntB, cntB_append s l m]; omega
theorem cntB_le (s : ByteArray) : ∀ l : List ByteArray, cntB l s ≤ l.length
  | [] => Nat.le_refl _
  | a :: l => by have := cntB_le s l; simp only [cntB, List.length_cons]; split <;> omega
theorem cntB_pos {s : ByteArray} : ∀ {l : List ByteArray}, 0 < cntB l s ↔ s ∈ l
  | [] => by simp [cntB]
  | a :: l => by
    have := cntB_pos (s := s) (l := l)
    simp only [cntB, List.mem_cons]
    by_cases h : a = s
    · rw [if_pos h]; exact ⟨fun _ => .inl h.symm, fun _ => by omega⟩
    · rw [if_neg h, Nat.zero_add, this]; exact ⟨.inr, fun h' => h'.elim (fun e => absurd e.symm h) id⟩
theorem cntB_filter (s : ByteArray) (p : ByteArray → Bool) : ∀ l : List ByteArray, cntB (l.filter p) s = if p s then cntB l s else 0
  | [] => by simp [cntB]
  | a :: l => by
    have ih := cntB_filter s p l
    rw [List.filter_cons]
    by_cases h : a = s
    · subst h
      cases hp : p a
      · simp only [hp, Bool.false_eq_true, if_false] at ih ⊢; exact ih
      · simp only [hp, if_true, cntB] at ih ⊢; rw [ih]
    · cases hp : p a
      · simp only [Bool.false_eq_true, if_false, cntB, if_neg h, Nat.zero_add]; exact ih
      · simp only [if_true, cntB, if_neg h, Nat.zero_add]; exact ih

def CtT (us : List Tm) : Prop := ∀ (tg : Tag) (xs : List IV) (_ : okEs tg 3) (_ : IsTms us xs) (_ : sizeTms us ≤ 1099511627776) (s : ByteArray) (st : ISt),
  ICall prog gl 75 [.sl tg xs, .raw (.string s)] st (fun r st' => r = .raw (.int .i64 ((cntB (namesTms us) s : Nat) : Int)) ∧ st' = st)
theorem counts_step (us : List Tm) (IH : ∀ v n l, Tm.mk v n l ∈ us → CtT gl l) : CtT gl us := by
  intro tg xs htg hxs hsz s st
  have hsl := len_le_size us
  refine ICall.intro (c := cf prog gl [] []) func75 rfl (by show _ ≤ 39; simp) (by kernel_rfl) ?_
  simp -implicitDefEqProofs -dsimp only [go_sem, ↓reduceIte, Nat.reduceEqDiff, Nat.reduceBEq, Nat.reduceAdd, Nat.reduceMul, Nat.reduceSub, Nat.reduceLeDiff, reduceCtorEq]
  refine LoopC.ctr us.length (fun k fr st' ds => fr 5 = .iv (.raw (.int .i64 ((cntB (namesTms (us.take k)) s : Nat) : Int))) ∧ fr 0 = .iv (.sl tg xs) ∧ fr 1 = .iv (.raw (.string s)) ∧ fr 6 = .iv (.raw (.int .i64 k)) ∧ st' = st ∧ ds = []) ?_ ?_ ?_
  · simp -implicitDefEqProofs -dsimp only [go_sem, ↓reduceIte, Nat.reduceEqDiff, Nat.reduceBEq, Nat.reduceAdd, Nat.reduceMul, Nat.reduceSub, Nat.reduceLeDiff, reduceCtorEq]
    exact ⟨rfl, rfl⟩
  · rintro k fr st _ hlt ⟨f5, f0, f1, f6, rfl, rfl⟩
    obtain ⟨a, ha⟩ := get_of_lt hlt
    obtain ⟨x, hkx, hx⟩ := hxs.get ha
    obtain ⟨h1, h2⟩ := sizeTms_take ha
    have b1 := cntB_le s (namesTms (us.take k))
    have b2 := namesTms_le (us.take k)
    obtain ⟨v2, n2, m⟩ := a
    obtain ⟨tx, cx, rfl, htx, hcx⟩ := hx.mk
    simp only [Tm.size] at h1 h2
    have b3 := cntB_le s (namesTms m)
    have b4 := namesTms_le m
    have hnx : namesTms (us.take (k + 1)) = namesTms (us.take k) ++ namesTm (.mk v2 n2 m) := by rw [take_get ha, namesTms_append]; simp [namesTms]
    have hcall := IH _ _ _ (List.mem_of_getElem? ha) tx cx htx hcx (by omega) s st
    cases v2
    · simp -implicitDefEqProofs -dsimp only [go_sem, ↓reduceIte, Nat.reduceEqDiff, Nat.reduceBEq, Nat.reduceAdd, Nat.reduceMul, Nat.reduceSub, Nat.reduceLeDiff, reduceCtorEq, f0, f1, f5, f6, hxs.len, lt_i hlt, fits, reTag_es htg, Int.natCast_nonneg, hkx]
      intros
      refine hcall.mono ?_
      rintro _ st ⟨rfl, rfl⟩
      have hw : IntKind.i64.wrap (((cntB (namesTms (us.take k)) s : Nat) : Int) + ((cntB (namesTms m) s : Nat) : Int)) = ((cntB (namesTms (us.take (k + 1))) s : Nat) : Int) := by
        rw [hnx, cntB_append, namesTm, w64] <;> omega
      simp -implicitDefEqProofs -dsimp only [go_sem, ↓reduceIte, Nat.reduceEqDiff, Nat.reduceBEq, Nat.reduceAdd, Nat.reduceMul, Nat.reduceSub, Nat.reduceLeDiff, reduceCtorEq, f0, f1, f5, f6, hw, w_succ hlt (show us.length ≤ 281474976710656 by omega)]
    · by_cases hn : n2 = s
      · have hw0 : IntKind.i64.wrap (((cntB (namesTms (us.take k)) s : Nat) : Int) + 1) = ((cntB (namesTms (us.take k)) s + 1 : Nat) : Int) := by rw [w64] <;> omega
        have hw : IntKind.i64.wrap (((cntB (namesTms (us.take k)) s + 1 : Nat) : Int) + ((cntB (namesTms m) s : Nat) : Int)) = ((cntB (namesTms (us.take (k + 1))) s : Nat) : Int) := by
          rw [hnx, cntB_append, namesTm, cntB, if_pos hn, w64] <;> omega
        simp -implicitDefEqProofs -dsimp only [go_sem, ↓reduceIte, Nat.reduceEqDiff, Nat.reduceBEq, Nat.reduceAdd, Nat.reduceMul, Nat.reduceSub, Nat.reduceLeDiff, reduceCtorEq, f0, f1, f5, f6, hxs.len, lt_i hlt, fits, reTag_es htg, Int.natCast_nonneg, hkx, decide_eq_true hn, hw0]
        intros
        refine hcall.mono ?_
        rintro _ st ⟨rfl, rfl⟩
        simp -implicitDefEqProofs -dsimp only [go_sem, ↓reduceIte, Nat.reduceEqDiff, Nat.reduceBEq, Nat.reduceAdd, Nat.reduceMul, Nat.reduceSub, Nat.reduceLeDiff, reduceCtorEq, f0, f1, f5, f6, hw, w_succ hlt (show us.length ≤ 281474976710656 by omega)]
      · have hw : IntKind.i64.wrap (((cntB (namesTms (us.take k)) s : Nat) : Int) + ((cntB (namesTms m) s : Nat) : Int)) = ((cntB (namesTms (us.take (k + 1))) s : Nat) : Int) := by
          rw [hnx, cntB_append, namesTm, cntB, if_neg hn, w64] <;> omega
        simp -implicitDefEqProofs -dsimp only [go_sem, ↓reduceIte, Nat.reduceEqDiff, Nat.reduceBEq, Nat.reduceAdd, Nat.reduceMul, Nat.reduceSub, Nat.reduceLeDiff, reduceCtorEq, f0, f1, f5, f6, hxs.len, lt_i hlt, fits, reTag_es htg, Int.natCast_nonneg, hkx, decide_eq_false hn]
        intros
        refine hcall.mono ?_
        rintro _ st ⟨rfl, rfl⟩
        simp -implicitDefEqProofs -dsimp only [go_sem, ↓reduceIte, Nat.reduceEqDiff, Nat.reduceBEq, Nat.reduceAdd, Nat.reduceMul, Nat.reduceSub, Nat.reduceLeDiff, reduceCtorEq, f0, f1, f5, f6, hw, w_succ hlt (show us.length ≤ 281474976710656 by omega)]
  · rintro fr st _ ⟨f5, f0, f1, f6, rfl, rfl⟩
    rw [List.take_length] at f5
    simp -implicitDefEqProofs -dsimp only [go_sem, ↓reduceIte, Nat.reduceEqDiff, Nat.reduceBEq, Nat.reduceAdd, Nat.reduceMul, Nat.reduceSub, Nat.reduceLeDiff, reduceCtorEq, f0, f1, f5, f6, hxs.len, nlt_i (Nat.lt_irrefl _), fits]
    intros
    exact outK_self ⟨rfl, rfl⟩
theorem counts_all : ∀ (k : Nat) (us : List Tm), SizeOf.sizeOf us < k → CtT gl us
  | 0, f, h => by omega
  | k + 1, us, h => counts_step gl us (fun v n l ha => counts_all k l (by
      have := List.sizeOf_lt_of_mem ha
      simp at this; omega))
theorem counts_c (us : List Tm) : CtT gl us := counts_all gl _ us (Nat.lt_succ_self _)

/-- A sum that simp leaves alone. -/
def addN (a b : Nat) : Nat := a + b
/-- How often a variable occurs free where some are bound. -/
noncomputable def occ (f : List ByteArray) (s : ByteArray) (bound : List ByteArray) : Nat := if hasB bound s then 0 else cntB f s
theorem ok_q0 {op : Nat} {n : ByteArray} {us : List Tm} {sub : List Fm} (h : (Fm.mk op n us sub).ok = true) (hq : isQ op = true) : us = [] := by
  simp only [Fm.ok, Bool.and_eq_true] at h
  have hrow := h.1.1
  have h89 : okRow op n us.length sub.length = (nmVar n && decide (us.length = 0) && decide (sub.length = 1)) := by
    simp only [isQ, Bool.or_eq_true, decide_eq_true_eq] at hq
    rcases hq with rfl | rfl <;> rfl
  rw [h89] at hrow
  simp only [Bool.and_eq_true, decide_eq_true_eq] at hrow
  exact List.length_eq_zero_iff.1 hrow.1.2
theorem frFs_append : ∀ l m : List Fm, frFs (l ++ m) = frFs l ++ frFs m
  | [], m => by simp [frFs]
  | a :: l, m => by simp only [List.cons_append, frFs, frFs_append l m, List.append_assoc]

def OC (f : Fm) : Prop := f.ok = true → ∀ (names : List ByteArray) (tn : Tag) (_ : okEs tn 1) (_ : names.length + f.size ≤ 1099511627776) (x : IV) (_ : IsFm f x) (s : ByteArray) (st : ISt),
  ICall prog gl 37 [x, .raw (.string s), .sl tn (strI names)] st (fun r st' => r = .raw (.int .i64 ((occ (frF f) s names : Nat) : Int)) ∧ st' = st)
theorem occurs_step (op : Nat) (n : ByteArray) (us : List Tm) (sub : List Fm) (IH : ∀ a ∈ sub, OC gl a) : OC gl (.mk op n us sub) := by
  intro hok names tn htn hsz x hx s st
  obtain ⟨t1, x1, t2, x2, rfl, ho, ht1, hx1, ht2, hx2⟩ := hx.mk
  obtain ⟨hok1, hok2, _⟩ := ok_form hok
  simp only [Fm.size] at hsz
  have hsl := flen_le_size sub
  refine ICall.intro (c := cf prog gl [] [(2, [0, 1, 3, 4, 5, 2, 6, 7])]) func37 rfl (by show _ ≤ 50; simp) (by kernel_rfl) ?_
  by_cases h8 : op = 8
  · have hq : isQ op = true := by rw [h8]; rfl
    simp -implicitDefEqProofs -dsimp only [go_sem, ↓reduceIte, Nat.reduceEqDiff, Nat.reduceBEq, Nat.reduceAdd, Nat.reduceMul, Nat.reduceSub, Nat.reduceLeDiff, reduceCtorEq, fits, show decide ((op : Int) = 8) = true from decide_eq_true (by omega)]
    obtain rfl := ok_q0 hok hq
    simp -implicitDefEqProofs -dsimp only [go_sem, ↓reduceIte, Nat.reduceEqDiff, Nat.reduceBEq, Nat.reduceAdd, Nat.reduceMul, Nat.reduceSub, Nat.reduceLeDiff, reduceCtorEq, inOrder_nil, inOrder_one]
    refine appV_owns (s := 1) (S0 := st) (own.full st st 0 1) rfl (strI_length names) (subSt.refl st) rfl (by simp [fits, IV.one, strI]) (by simp only; omega) (by omega) fun tg1 st1 hown1 hsub1 _ => ?_
    simp -implicitDefEqProofs -dsimp only [go_sem, ↓reduceIte, Nat.reduceEqDiff, Nat.reduceBEq, Nat.reduceAdd, Nat.reduceMul, Nat.reduceSub, Nat.reduceLeDiff, reduceCtorEq, fits, inOrder_one]
    refine appV_own hown1 (by simp [strI_length]) hsub1 rfl (by simp [fits, IV.one]) (by simp only; omega) (by omega) fun tg2 st2 hown2 hsub2 _ => ?_
    have eap : strI names ++ [.raw (.string n)] = strI (names ++ [n]) := by rw [strI_append]; rfl
    try simp only [List.nil_append]
    rw [eap]
    have fin : occ (frF (.mk op n [] sub)) s names = addN 0 (occ (frFs sub) s (names ++ [n])) := by
      simp only [addN, Nat.zero_add, frF, hq, if_true, namesTms, List.nil_append, occ, hasB, List.mem_append, List.mem_singleton, cntB_filter]
      by_cases h1 : s ∈ names <;> by_cases h2 : s = n <;> simp [h1, h2]
    simp -implicitDefEqProofs -dsimp only [go_sem, ↓reduceIte, Nat.reduceEqDiff, Nat.reduceBEq, Nat.reduceAdd, Nat.reduceMul, Nat.reduceSub, Nat.reduceLeDiff, reduceCtorEq, fits]
    refine (has_c gl tg2 (names ++ [n]) s hown2.es _).mono ?_
    rintro _ st2 ⟨rfl, rfl⟩
    cases hb : hasB (names ++ [n]) s
    case false =>
      simp -implicitDefEqProofs -dsimp only [go_sem, ↓reduceIte, Nat.reduceEqDiff, Nat.reduceBEq, Nat.reduceAdd, Nat.reduceMul, Nat.reduceSub, Nat.reduceLeDiff, reduceCtorEq, fits]
      refine (counts_c gl [] t1 x1 ht1 hx1 (by simp [sizeTms]) s _).mono ?_
      rintro _ st2 ⟨rfl, rfl⟩
      have hc0 : cntB (namesTms []) s = 0 := rfl
      simp -implicitDefEqProofs -dsimp only [go_sem, ↓reduceIte, Nat.reduceEqDiff, Nat.reduceBEq, Nat.reduceAdd, Nat.reduceMul, Nat.reduceSub, Nat.reduceLeDiff, reduceCtorEq, fits, hc0]
      refine LoopC.ctr sub.length (fun k fr st' ds => fr 7 = .iv (.raw (.int .i64 ((addN (0) (occ (frFs (sub.take k)) s (names ++ [n])) : Nat) : Int))) ∧ fr 1 = .iv (.raw (.string s)) ∧ fr 2 = .iv (.sl tg2 (strI (names ++ [n]))) ∧ fr 3 = .box [.raw (.int .u8 op), .raw (.string n), .sl t1 x1, .sl t2 x2] ∧ fr 8 = .iv (.raw (.int .i64 k)) ∧ st' = st2 ∧ ds = []) ?_ ?_ ?_
      · simp -implicitDefEqProofs -dsimp only [go_sem, ↓reduceIte, Nat.reduceEqDiff, Nat.reduceBEq, Nat.reduceAdd, Nat.reduceMul, Nat.reduceSub, Nat.reduceLeDiff, reduceCtorEq]
        exact ⟨by simp [addN, frFs, occ, cntB], rfl⟩
      · rintro k fr st2 _ hlt ⟨f7, f1, f2, f3, f8, rfl, rfl⟩
        obtain ⟨a, ha⟩ := get_of_lt hlt
        obtain ⟨x, hkx, hx⟩ := hx2.get ha
        obtain ⟨hs1, hs2⟩ := sizeFms_take ha
        have hcall := IH a (List.mem_of_getElem? ha) (okFms_mem hok2 (List.mem_of_getElem? ha)) (names ++ [n]) tg2 (hown2.es) (by simp only [List.length_append, List.length_cons, List.length_nil]; omega) x hx s st2
        have b1 := cntB_le s (frFs (sub.take k))
        have b2 := frFs_le (sub.take k)
        have b3 := cntB_le s (frF a)
        have b4 := frF_le a
        have b5 : occ (frFs (sub.take k)) s (names ++ [n]) ≤ cntB (frFs (sub.take k)) s := by unfold occ; split <;> omega
        have b6 : occ (frF a) s (names ++ [n]) ≤ cntB (frF a) s := by unfold occ; split <;> omega
        have hnx : occ (frFs (sub.take (k + 1))) s (names ++ [n]) = occ (frFs (sub.take k)) s (names ++ [n]) + occ (frF a) s (names ++ [n]) := by
          rw [take_get ha, frFs_append]
          cases hh : hasB (names ++ [n]) s <;> simp [occ, hh, cntB_append, frFs]
        have hw : IntKind.i64.wrap (((addN (0) (occ (frFs (sub.take k)) s (names ++ [n])) : Nat) : Int) + ((occ (frF a) s (names ++ [n]) : Nat) : Int)) = ((addN (0) (occ (frFs (sub.take (k + 1))) s (names ++ [n])) : Nat) : Int) := by
          unfold addN
          rw [hnx, w64] <;> omega
        obtain ⟨o3, n3, t3, x3, t4, x4, rfl⟩ := hx.agg
        simp -implicitDefEqProofs -dsimp only [go_sem, ↓reduceIte, Nat.reduceEqDiff, Nat.reduceBEq, Nat.reduceAdd, Nat.reduceMul, Nat.reduceSub, Nat.reduceLeDiff, reduceCtorEq, f1, f2, f3, f7, f8, hx2.len, lt_i hlt, fits, reTag_es ht2, Int.natCast_nonneg, hkx]
        intros
        refine hcall.mono ?_
        rintro _ st2 ⟨rfl, rfl⟩
        simp -implicitDefEqProofs -dsimp only [go_sem, ↓reduceIte, Nat.reduceEqDiff, Nat.reduceBEq, Nat.reduceAdd, Nat.reduceMul, Nat.reduceSub, Nat.reduceLeDiff, reduceCtorEq, f1, f2, f3, f7, f8, hw, w_succ hlt (show sub.length ≤ 281474976710656 by omega)]
      · rintro fr st2 _ ⟨f7, f1, f2, f3, f8, rfl, rfl⟩
        rw [List.take_length] at f7
        simp -implicitDefEqProofs -dsimp only [go_sem, ↓reduceIte, Nat.reduceEqDiff, Nat.reduceBEq, Nat.reduceAdd, Nat.reduceMul, Nat.reduceSub, Nat.reduceLeDiff, reduceCtorEq, f1, f2, f3, f7, f8, hx2.len, nlt_i (Nat.lt_irrefl _), fits]
        intros
        exact outK_sub hsub2 ⟨by rw [fin], rfl⟩
    simp -implicitDefEqProofs -dsimp only [go_sem, ↓reduceIte, Nat.reduceEqDiff, Nat.reduceBEq, Nat.reduceAdd, Nat.reduceMul, Nat.reduceSub, Nat.reduceLeDiff, reduceCtorEq, fits]
    refine LoopC.ctr sub.length (fun k fr st' ds => fr 7 = .iv (.raw (.int .i64 ((addN (0) (occ (frFs (sub.take k)) s (names ++ [n])) : Nat) : Int))) ∧ fr 1 = .iv (.raw (.string s)) ∧ fr 2 = .iv (.sl tg2 (strI (names ++ [n]))) ∧ fr 3 = .box [.raw (.int .u8 op), .raw (.string n), .sl t1 x1, .sl t2 x2] ∧ fr 8 = .iv (.raw (.int .i64 k)) ∧ st' = st2 ∧ ds = []) ?_ ?_ ?_
    · simp -implicitDefEqProofs -dsimp only [go_sem, ↓reduceIte, Nat.reduceEqDiff, Nat.reduceBEq, Nat.reduceAdd, Nat.reduceMul, Nat.reduceSub, Nat.reduceLeDiff, reduceCtorEq]
      exact ⟨by simp [addN, frFs, occ, cntB], rfl⟩
    · rintro k fr st2 _ hlt ⟨f7, f1, f2, f3, f8, rfl, rfl⟩
      obtain ⟨a, ha⟩ := get_of_lt hlt
      obtain ⟨x, hkx, hx⟩ := hx2.get ha
      obtain ⟨hs1, hs2⟩ := sizeFms_take ha
      have hcall := IH a (List.mem_of_getElem? ha) (okFms_mem hok2 (List.mem_of_getElem? ha)) (names ++ [n]) tg2 (hown2.es) (by simp only [List.length_append, List.length_cons, List.length_nil]; omega) x hx s st2
      have b1 := cntB_le s (frFs (sub.take k))
      have b2 := frFs_le (sub.take k)
      have b3 := cntB_le s (frF a)
      have b4 := frF_le a
      have b5 : occ (frFs (sub.take k)) s (names ++ [n]) ≤ cntB (frFs (sub.take k)) s := by unfold occ; split <;> omega
      have b6 : occ (frF a) s (names ++ [n]) ≤ cntB (frF a) s := by unfold occ; split <;> omega
      have hnx : occ (frFs (sub.take (k + 1))) s (names ++ [n]) = occ (frFs (sub.take k)) s (names ++ [n]) + occ (frF a) s (names ++ [n]) := by
        rw [take_get ha, frFs_append]
        cases hh : hasB (names ++ [n]) s <;> simp [occ, hh, cntB_append, frFs]
      have hw : IntKind.i64.wrap (((addN (0) (occ (frFs (sub.take k)) s (names ++ [n])) : Nat) : Int) + ((occ (frF a) s (names ++ [n]) : Nat) : Int)) = ((addN (0) (occ (frFs (sub.take (k + 1))) s (names ++ [n])) : Nat) : Int) := by
        unfold addN
        rw [hnx, w64] <;> omega
      obtain ⟨o3, n3, t3, x3, t4, x4, rfl⟩ := hx.agg
      simp -implicitDefEqProofs -dsimp only [go_sem, ↓reduceIte, Nat.reduceEqDiff, Nat.reduceBEq, Nat.reduceAdd, Nat.reduceMul, Nat.reduceSub, Nat.reduceLeDiff, reduceCtorEq, f1, f2, f3, f7, f8, hx2.len, lt_i hlt, fits, reTag_es ht2, Int.natCast_nonneg, hkx]
      intros
      refine hcall.mono ?_
      rintro _ st2 ⟨rfl, rfl⟩
      simp -implicitDefEqProofs -dsimp only [go_sem, ↓reduceIte, Nat.reduceEqDiff, Nat.reduceBEq, Nat.reduceAdd, Nat.reduceMul, Nat.reduceSub, Nat.reduceLeDiff, reduceCtorEq, f1, f2, f3, f7, f8, hw, w_succ hlt (show sub.length ≤ 281474976710656 by omega)]
    · rintro fr st2 _ ⟨f7, f1, f2, f3, f8, rfl, rfl⟩
      rw [List.take_length] at f7
      simp -implicitDefEqProofs -dsimp only [go_sem, ↓reduceIte, Nat.reduceEqDiff, Nat.reduceBEq, Nat.reduceAdd, Nat.reduceMul, Nat.reduceSub, Nat.reduceLeDiff, reduceCtorEq, f1, f2, f3, f7, f8, hx2.len, nlt_i (Nat.lt_irrefl _), fits]
      intros
      exact outK_sub hsub2 ⟨by rw [fin], rfl⟩
  have d8 : decide ((op : Int) = 8) = false := decide_eq_false (by omega)
  by_cases h9 : op = 9
  · have hq : isQ op = true := by rw [h9]; rfl
    simp -implicitDefEqProofs -dsimp only [go_sem, ↓reduceIte, Nat.reduceEqDiff, Nat.reduceBEq, Nat.reduceAdd, Nat.reduceMul, Nat.reduceSub, Nat.reduceLeDiff, reduceCtorEq, fits, d8, show decide ((op : Int) = 9) = true from decide_eq_true (by omega)]
    obtain rfl := ok_q0 hok hq
    simp -implicitDefEqProofs -dsimp only [go_sem, ↓reduceIte, Nat.reduceEqDiff, Nat.reduceBEq, Nat.reduceAdd, Nat.reduceMul, Nat.reduceSub, Nat.reduceLeDiff, reduceCtorEq, inOrder_nil, inOrder_one]
    refine appV_owns (s := 1) (S0 := st) (own.full st st 0 1) rfl (strI_length names) (subSt.refl st) rfl (by simp [fits, IV.one, strI]) (by simp only; omega) (by omega) fun tg1 st1 hown1 hsub1 _ => ?_
    simp -implicitDefEqProofs -dsimp only [go_sem, ↓reduceIte, Nat.reduceEqDiff, Nat.reduceBEq, Nat.reduceAdd, Nat.reduceMul, Nat.reduceSub, Nat.reduceLeDiff, reduceCtorEq, fits, inOrder_one]
    refine appV_own hown1 (by simp [strI_length]) hsub1 rfl (by simp [fits, IV.one]) (by simp only; omega) (by omega) fun tg2 st2 hown2 hsub2 _ => ?_
    have eap : strI names ++ [.raw (.string n)] = strI (names ++ [n]) := by rw [strI_append]; rfl
    try simp only [List.nil_append]
    rw [eap]
    have fin : occ (frF (.mk op n [] sub)) s names = addN 0 (occ (frFs sub) s (names ++ [n])) := by
      simp only [addN, Nat.zero_add, frF, hq, if_true, namesTms, List.nil_append, occ, hasB, List.mem_append, List.mem_singleton, cntB_filter]
      by_cases h1 : s ∈ names <;> by_cases h2 : s = n <;> simp [h1, h2]
    simp -implicitDefEqProofs -dsimp only [go_sem, ↓reduceIte, Nat.reduceEqDiff, Nat.reduceBEq, Nat.reduceAdd, Nat.reduceMul, Nat.reduceSub, Nat.reduceLeDiff, reduceCtorEq, fits]
    refine (has_c gl tg2 (names ++ [n]) s hown2.es _).mono ?_
    rintro _ st2 ⟨rfl, rfl⟩
    cases hb : hasB (names ++ [n]) s
    case false =>
      simp -implicitDefEqProofs -dsimp only [go_sem, ↓reduceIte, Nat.reduceEqDiff, Nat.reduceBEq, Nat.reduceAdd, Nat.reduceMul, Nat.reduceSub, Nat.reduceLeDiff, reduceCtorEq, fits]
      refine (counts_c gl [] t1 x1 ht1 hx1 (by simp [sizeTms]) s _).mono ?_
      rintro _ st2 ⟨rfl, rfl⟩
      have hc0 : cntB (namesTms []) s = 0 := rfl
      simp -implicitDefEqProofs -dsimp only [go_sem, ↓reduceIte, Nat.reduceEqDiff, Nat.reduceBEq, Nat.reduceAdd, Nat.reduceMul, Nat.reduceSub, Nat.reduceLeDiff, reduceCtorEq, fits, hc0]
      refine LoopC.ctr sub.length (fun k fr st' ds => fr 7 = .iv (.raw (.int .i64 ((addN (0) (occ (frFs (sub.take k)) s (names ++ [n])) : Nat) : Int))) ∧ fr 1 = .iv (.raw (.string s)) ∧ fr 2 = .iv (.sl tg2 (strI (names ++ [n]))) ∧ fr 3 = .box [.raw (.int .u8 op), .raw (.string n), .sl t1 x1, .sl t2 x2] ∧ fr 8 = .iv (.raw (.int .i64 k)) ∧ st' = st2 ∧ ds = []) ?_ ?_ ?_
      · simp -implicitDefEqProofs -dsimp only [go_sem, ↓reduceIte, Nat.reduceEqDiff, Nat.reduceBEq, Nat.reduceAdd, Nat.reduceMul, Nat.reduceSub, Nat.reduceLeDiff, reduceCtorEq]
        exact ⟨by simp [addN, frFs, occ, cntB], rfl⟩
      · rintro k fr st2 _ hlt ⟨f7, f1, f2, f3, f8, rfl, rfl⟩
        obtain ⟨a, ha⟩ := get_of_lt hlt
        obtain ⟨x, hkx, hx⟩ := hx2.get ha
        obtain ⟨hs1, hs2⟩ := sizeFms_take ha
        have hcall := IH a (List.mem_of_getElem? ha) (okFms_mem hok2 (List.mem_of_getElem? ha)) (names ++ [n]) tg2 (hown2.es) (by simp only [List.length_append, List.length_cons, List.length_nil]; omega) x hx s st2
        have b1 := cntB_le s (frFs (sub.take k))
        have b2 := frFs_le (sub.take k)
        have b3 := cntB_le s (frF a)
        have b4 := frF_le a
        have b5 : occ (frFs (sub.take k)) s (names ++ [n]) ≤ cntB (frFs (sub.take k)) s := by unfold occ; split <;> omega
        have b6 : occ (frF a) s (names ++ [n]) ≤ cntB (frF a) s := by unfold occ; split <;> omega
        have hnx : occ (frFs (sub.take (k + 1))) s (names ++ [n]) = occ (frFs (sub.take k)) s (names ++ [n]) + occ (frF a) s (names ++ [n]) := by
          rw [take_get ha, frFs_append]
          cases hh : hasB (names ++ [n]) s <;> simp [occ, hh, cntB_append, frFs]
        have hw : IntKind.i64.wrap (((addN (0) (occ (frFs (sub.take k)) s (names ++ [n])) : Nat) : Int) + ((occ (frF a) s (names ++ [n]) : Nat) : Int)) = ((addN (0) (occ (frFs (sub.take (k + 1))) s (names ++ [n])) : Nat) : Int) := by
          unfold addN
          rw [hnx, w64] <;> omega
        obtain ⟨o3, n3, t3, x3, t4, x4, rfl⟩ := hx.agg
        simp -implicitDefEqProofs -dsimp only [go_sem, ↓reduceIte, Nat.reduceEqDiff, Nat.reduceBEq, Nat.reduceAdd, Nat.reduceMul, Nat.reduceSub, Nat.reduceLeDiff, reduceCtorEq, f1, f2, f3, f7, f8, hx2.len, lt_i hlt, fits, reTag_es ht2, Int.natCast_nonneg, hkx]
        intros
        refine hcall.mono ?_
        rintro _ st2 ⟨rfl, rfl⟩
        simp -implicitDefEqProofs -dsimp only [go_sem, ↓reduceIte, Nat.reduceEqDiff, Nat.reduceBEq, Nat.reduceAdd, Nat.reduceMul, Nat.reduceSub, Nat.reduceLeDiff, reduceCtorEq, f1, f2, f3, f7, f8, hw, w_succ hlt (show sub.length ≤ 281474976710656 by omega)]
      · rintro fr st2 _ ⟨f7, f1, f2, f3, f8, rfl, rfl⟩
        rw [List.take_length] at f7
        simp -implicitDefEqProofs -dsimp only [go_sem, ↓reduceIte, Nat.reduceEqDiff, Nat.reduceBEq, Nat.reduceAdd, Nat.reduceMul, Nat.reduceSub, Nat.reduceLeDiff, reduceCtorEq, f1, f2, f3, f7, f8, hx2.len, nlt_i (Nat.lt_irrefl _), fits]
        intros
        exact outK_sub hsub2 ⟨by rw [fin], rfl⟩
    simp -implicitDefEqProofs -dsimp only [go_sem, ↓reduceIte, Nat.reduceEqDiff, Nat.reduceBEq, Nat.reduceAdd, Nat.reduceMul, Nat.reduceSub, Nat.reduceLeDiff, reduceCtorEq, fits]
    refine LoopC.ctr sub.length (fun k fr st' ds => fr 7 = .iv (.raw (.int .i64 ((addN (0) (occ (frFs (sub.take k)) s (names ++ [n])) : Nat) : Int))) ∧ fr 1 = .iv (.raw (.string s)) ∧ fr 2 = .iv (.sl tg2 (strI (names ++ [n]))) ∧ fr 3 = .box [.raw (.int .u8 op), .raw (.string n), .sl t1 x1, .sl t2 x2] ∧ fr 8 = .iv (.raw (.int .i64 k)) ∧ st' = st2 ∧ ds = []) ?_ ?_ ?_
    · simp -implicitDefEqProofs -dsimp only [go_sem, ↓reduceIte, Nat.reduceEqDiff, Nat.reduceBEq, Nat.reduceAdd, Nat.reduceMul, Nat.reduceSub, Nat.reduceLeDiff, reduceCtorEq]
      exact ⟨by simp [addN, frFs, occ, cntB], rfl⟩
    · rintro k fr st2 _ hlt ⟨f7, f1, f2, f3, f8, rfl, rfl⟩
      obtain ⟨a, ha⟩ := get_of_lt hlt
      obtain ⟨x, hkx, hx⟩ := hx2.get ha
      obtain ⟨hs1, hs2⟩ := sizeFms_take ha
      have hcall := IH a (List.mem_of_getElem? ha) (okFms_mem hok2 (List.mem_of_getElem? ha)) (names ++ [n]) tg2 (hown2.es) (by simp only [List.length_append, List.length_cons, List.length_nil]; omega) x hx s st2
      have b1 := cntB_le s (frFs (sub.take k))
      have b2 := frFs_le (sub.take k)
      have b3 := cntB_le s (frF a)
      have b4 := frF_le a
      have b5 : occ (frFs (sub.take k)) s (names ++ [n]) ≤ cntB (frFs (sub.take k)) s := by unfold occ; split <;> omega
      have b6 : occ (frF a) s (names ++ [n]) ≤ cntB (frF a) s := by unfold occ; split <;> omega
      have hnx : occ (frFs (sub.take (k + 1))) s (names ++ [n]) = occ (frFs (sub.take k)) s (names ++ [n]) + occ (frF a) s (names ++ [n]) := by
        rw [take_get ha, frFs_append]
        cases hh : hasB (names ++ [n]) s <;> simp [occ, hh, cntB_append, frFs]
      have hw : IntKind.i64.wrap (((addN (0) (occ (frFs (sub.take k)) s (names ++ [n])) : Nat) : Int) + ((occ (frF a) s (names ++ [n]) : Nat) : Int)) = ((addN (0) (occ (frFs (sub.take (k + 1))) s (names ++ [n])) : Nat) : Int) := by
        unfold addN
        rw [hnx, w64] <;> omega
      obtain ⟨o3, n3, t3, x3, t4, x4, rfl⟩ := hx.agg
      simp -implicitDefEqProofs -dsimp only [go_sem, ↓reduceIte, Nat.reduceEqDiff, Nat.reduceBEq, Nat.reduceAdd, Nat.reduceMul, Nat.reduceSub, Nat.reduceLeDiff, reduceCtorEq, f1, f2, f3, f7, f8, hx2.len, lt_i hlt, fits, reTag_es ht2, Int.natCast_nonneg, hkx]
      intros
      refine hcall.mono ?_
      rintro _ st2 ⟨rfl, rfl⟩
      simp -implicitDefEqProofs -dsimp only [go_sem, ↓reduceIte, Nat.reduceEqDiff, Nat.reduceBEq, Nat.reduceAdd, Nat.reduceMul, Nat.reduceSub, Nat.reduceLeDiff, reduceCtorEq, f1, f2, f3, f7, f8, hw, w_succ hlt (show sub.length ≤ 281474976710656 by omega)]
    · rintro fr st2 _ ⟨f7, f1, f2, f3, f8, rfl, rfl⟩
      rw [List.take_length] at f7
      simp -implicitDefEqProofs -dsimp only [go_sem, ↓reduceIte, Nat.reduceEqDiff, Nat.reduceBEq, Nat.reduceAdd, Nat.reduceMul, Nat.reduceSub, Nat.reduceLeDiff, reduceCtorEq, f1, f2, f3, f7, f8, hx2.len, nlt_i (Nat.lt_irrefl _), fits]
      intros
      exact outK_sub hsub2 ⟨by rw [fin], rfl⟩
  have hq : isQ op = false := by simp [isQ, h8, h9]
  have b7 := cntB_le s (namesTms us)
  have b8 := namesTms_le us
  simp -implicitDefEqProofs -dsimp only [go_sem, ↓reduceIte, Nat.reduceEqDiff, Nat.reduceBEq, Nat.reduceAdd, Nat.reduceMul, Nat.reduceSub, Nat.reduceLeDiff, reduceCtorEq, fits, d8, show decide ((op : Int) = 9) = false from decide_eq_false (by omega)]
  refine (has_c gl tn names s htn _).mono ?_
  rintro _ st ⟨rfl, rfl⟩
  cases hb : hasB names s
  case false =>
    have fin : occ (frF (.mk op n us sub)) s names = addN (cntB (namesTms us) s) (occ (frFs sub) s names) := by
      simp only [addN, frF, hq, Bool.false_eq_true, if_false, occ, hb, cntB_append]
    simp -implicitDefEqProofs -dsimp only [go_sem, ↓reduceIte, Nat.reduceEqDiff, Nat.reduceBEq, Nat.reduceAdd, Nat.reduceMul, Nat.reduceSub, Nat.reduceLeDiff, reduceCtorEq, fits]
    refine (counts_c gl us t1 x1 ht1 hx1 (by omega) s _).mono ?_
    rintro _ st ⟨rfl, rfl⟩
    simp -implicitDefEqProofs -dsimp only [go_sem, ↓reduceIte, Nat.reduceEqDiff, Nat.reduceBEq, Nat.reduceAdd, Nat.reduceMul, Nat.reduceSub, Nat.reduceLeDiff, reduceCtorEq, fits]
    refine LoopC.ctr sub.length (fun k fr st' ds => fr 7 = .iv (.raw (.int .i64 ((addN (cntB (namesTms us) s) (occ (frFs (sub.take k)) s (names)) : Nat) : Int))) ∧ fr 1 = .iv (.raw (.string s)) ∧ fr 2 = .iv (.sl tn (strI (names))) ∧ fr 3 = .box [.raw (.int .u8 op), .raw (.string n), .sl t1 x1, .sl t2 x2] ∧ fr 8 = .iv (.raw (.int .i64 k)) ∧ st' = st ∧ ds = []) ?_ ?_ ?_
    · simp -implicitDefEqProofs -dsimp only [go_sem, ↓reduceIte, Nat.reduceEqDiff, Nat.reduceBEq, Nat.reduceAdd, Nat.reduceMul, Nat.reduceSub, Nat.reduceLeDiff, reduceCtorEq]
      exact ⟨by simp [addN, frFs, occ, cntB], rfl⟩
    · rintro k fr st _ hlt ⟨f7, f1, f2, f3, f8, rfl, rfl⟩
      obtain ⟨a, ha⟩ := get_of_lt hlt
      obtain ⟨x, hkx, hx⟩ := hx2.get ha
      obtain ⟨hs1, hs2⟩ := sizeFms_take ha
      have hcall := IH a (List.mem_of_getElem? ha) (okFms_mem hok2 (List.mem_of_getElem? ha)) (names) tn (htn) (by omega) x hx s st
      have b1 := cntB_le s (frFs (sub.take k))
      have b2 := frFs_le (sub.take k)
      have b3 := cntB_le s (frF a)
      have b4 := frF_le a
      have b5 : occ (frFs (sub.take k)) s (names) ≤ cntB (frFs (sub.take k)) s := by unfold occ; split <;> omega
      have b6 : occ (frF a) s (names) ≤ cntB (frF a) s := by unfold occ; split <;> omega
      have hnx : occ (frFs (sub.take (k + 1))) s (names) = occ (frFs (sub.take k)) s (names) + occ (frF a) s (names) := by
        rw [take_get ha, frFs_append]
        cases hh : hasB (names) s <;> simp [occ, hh, cntB_append, frFs]
      have hw : IntKind.i64.wrap (((addN (cntB (namesTms us) s) (occ (frFs (sub.take k)) s (names)) : Nat) : Int) + ((occ (frF a) s (names) : Nat) : Int)) = ((addN (cntB (namesTms us) s) (occ (frFs (sub.take (k + 1))) s (names)) : Nat) : Int) := by
        unfold addN
        rw [hnx, w64] <;> omega
      obtain ⟨o3, n3, t3, x3, t4, x4, rfl⟩ := hx.agg
      simp -implicitDefEqProofs -dsimp only [go_sem, ↓reduceIte, Nat.reduceEqDiff, Nat.reduceBEq, Nat.reduceAdd, Nat.reduceMul, Nat.reduceSub, Nat.reduceLeDiff, reduceCtorEq, f1, f2, f3, f7, f8, hx2.len, lt_i hlt, fits, reTag_es ht2, Int.natCast_nonneg, hkx]
      intros
      refine hcall.mono ?_
      rintro _ st ⟨rfl, rfl⟩
      simp -implicitDefEqProofs -dsimp only [go_sem, ↓reduceIte, Nat.reduceEqDiff, Nat.reduceBEq, Nat.reduceAdd, Nat.reduceMul, Nat.reduceSub, Nat.reduceLeDiff, reduceCtorEq, f1, f2, f3, f7, f8, hw, w_succ hlt (show sub.length ≤ 281474976710656 by omega)]
    · rintro fr st _ ⟨f7, f1, f2, f3, f8, rfl, rfl⟩
      rw [List.take_length] at f7
      simp -implicitDefEqProofs -dsimp only [go_sem, ↓reduceIte, Nat.reduceEqDiff, Nat.reduceBEq, Nat.reduceAdd, Nat.reduceMul, Nat.reduceSub, Nat.reduceLeDiff, reduceCtorEq, f1, f2, f3, f7, f8, hx2.len, nlt_i (Nat.lt_irrefl _), fits]
      intros
      exact outK_self ⟨by rw [fin], rfl⟩
  have fin : occ (frF (.mk op n us sub)) s names = addN 0 (occ (frFs sub) s names) := by
    simp only [addN, occ, hb, if_true]
  simp -implicitDefEqProofs -dsimp only [go_sem, ↓reduceIte, Nat.reduceEqDiff, Nat.reduceBEq, Nat.reduceAdd, Nat.reduceMul, Nat.reduceSub, Nat.reduceLeDiff, reduceCtorEq, fits]
  refine LoopC.ctr sub.length (fun k fr st' ds => fr 7 = .iv (.raw (.int .i64 ((addN (0) (occ (frFs (sub.take k)) s (names)) : Nat) : Int))) ∧ fr 1 = .iv (.raw (.string s)) ∧ fr 2 = .iv (.sl tn (strI (names))) ∧ fr 3 = .box [.raw (.int .u8 op), .raw (.string n), .sl t1 x1, .sl t2 x2] ∧ fr 8 = .iv (.raw (.int .i64 k)) ∧ st' = st ∧ ds = []) ?_ ?_ ?_
  · simp -implicitDefEqProofs -dsimp only [go_sem, ↓reduceIte, Nat.reduceEqDiff, Nat.reduceBEq, Nat.reduceAdd, Nat.reduceMul, Nat.reduceSub, Nat.reduceLeDiff, reduceCtorEq]
    exact ⟨by simp [addN, frFs, occ, cntB], rfl⟩
  · rintro k fr st _ hlt ⟨f7, f1, f2, f3, f8, rfl, rfl⟩
    obtain ⟨a, ha⟩ := get_of_lt hlt
    obtain ⟨x, hkx, hx⟩ := hx2.get ha
    obtain ⟨hs1, hs2⟩ := sizeFms_take ha
    have hcall := IH a (List.mem_of_getElem? ha) (okFms_mem hok2 (List.mem_of_getElem? ha)) (names) tn (htn) (by omega) x hx s st
    have b1 := cntB_le s (frFs (sub.take k))
    have b2 := frFs_le (sub.take k)
    have b3 := cntB_le s (frF a)
    have b4 := frF_le a
    have b5 : occ (frFs (sub.take k)) s (names) ≤ cntB (frFs (sub.take k)) s := by unfold occ; split <;> omega
    have b6 : occ (frF a) s (names) ≤ cntB (frF a) s := by unfold occ; split <;> omega
    have hnx : occ (frFs (sub.take (k + 1))) s (names) = occ (frFs (sub.take k)) s (names) + occ (frF a) s (names) := by
      rw [take_get ha, frFs_append]
      cases hh : hasB (names) s <;> simp [occ, hh, cntB_append, frFs]
    have hw : IntKind.i64.wrap (((addN (0) (occ (frFs (sub.take k)) s (names)) : Nat) : Int) + ((occ (frF a) s (names) : Nat) : Int)) = ((addN (0) (occ (frFs (sub.take (k + 1))) s (names)) : Nat) : Int) := by
      unfold addN
      rw [hnx, w64] <;> omega
    obtain ⟨o3, n3, t3, x3, t4, x4, rfl⟩ := hx.agg
    simp -implicitDefEqProofs -dsimp only [go_sem, ↓reduceIte, Nat.reduceEqDiff, Nat.reduceBEq, Nat.reduceAdd, Nat.reduceMul, Nat.reduceSub, Nat.reduceLeDiff, reduceCtorEq, f1, f2, f3, f7, f8, hx2.len, lt_i hlt, fits, reTag_es ht2, Int.natCast_nonneg, hkx]
    intros
    refine hcall.mono ?_
    rintro _ st ⟨rfl, rfl⟩
    simp -implicitDefEqProofs -dsimp only [go_sem, ↓reduceIte, Nat.reduceEqDiff, Nat.reduceBEq, Nat.reduceAdd, Nat.reduceMul, Nat.reduceSub, Nat.reduceLeDiff, reduceCtorEq, f1, f2, f3, f7, f8, hw, w_succ hlt (show sub.length ≤ 281474976710656 by omega)]
  · rintro fr st _ ⟨f7, f1, f2, f3, f8, rfl, rfl⟩
    rw [List.take_length] at f7
    simp -implicitDefEqProofs -dsimp only [go_sem, ↓reduceIte, Nat.reduceEqDiff, Nat.reduceBEq, Nat.reduceAdd, Nat.reduceMul, Nat.reduceSub, Nat.reduceLeDiff, reduceCtorEq, f1, f2, f3, f7, f8, hx2.len, nlt_i (Nat.lt_irrefl _), fits]
    intros
    exact outK_self ⟨by rw [fin], rfl⟩
theorem occurs_all : ∀ (k : Nat) (t : Fm), SizeOf.sizeOf t < k → OC gl t
  | 0, f, h => by omega
  | k + 1, .mk o n us sub, h => occurs_step gl o n us sub (fun a ha => occurs_all k a (by
      have := List.sizeOf_lt_of_mem ha
      simp at h; omega))
theorem occurs_c (t : Fm) : OC gl t := occurs_all gl _ t (Nat.lt_succ_self _)
end Go.Proofs.Tryz

namespace Go.Proofs.Tryz
open Go Go.Iv
set_option maxRecDepth 4000
attribute [local go_sem] cf setAt List.all_cons List.all_nil Bool.and_self Bool.true_and Bool.and_true Bool.false_and Bool.and_false Bool.not_true Bool.not_false List.mem_nil_iff if_false if_true beq_self_eq_true Nat.zero_add Nat.add_zero List.getElem?_cons_zero List.getElem?_cons_succ Option.map_some List.mem_cons or_false false_or or_true true_or Nat.sub_zero forall_const Int.toNat_natCast List.length_cons List.length_nil List.map_cons List.map_nil List.take_succ_cons List.take_zero List.drop_zero List.drop_succ_cons List.cons_append List.nil_append List.append_nil and_true true_and and_self true_implies List.zip_cons_cons List.zip_nil_left
variable (gl : Nat → Option IV)

theorem occ_nil (l : List ByteArray) (s : ByteArray) : occ l s [] = cntB l s := by simp [occ, hasB]
theorem frF_P (t : Tm) : frF (.mk 1 ⟨#[80]⟩ [t] []) = namesTm t := by simp [frF, isQ, namesTms, frFs]
mutual
theorem frT_dsub (σ : ByteArray → NlT) : ∀ d : NlT, frT (dsub σ d) = (frT d).flatMap fun n => frT (σ n)
  | .bv i => by simp [dsub, frT]
  | .fv n => by simp [dsub, frT]
  | .ap n l => by simp only [dsub, frT]; exact frTs_dsub σ l
theorem frTs_dsub (σ : ByteArray → NlT) : ∀ l : List NlT, frTs (dsubs σ l) = (frTs l).flatMap fun n => frT (σ n)
  | [] => by simp [dsubs, frTs]
  | a :: l => by simp only [dsubs, frTs, List.flatMap_append, frT_dsub σ a, frTs_dsub σ l]
end
mutual
theorem frD_dsub (σ : ByteArray → NlT) : ∀ d : NlF, frD (dsubF σ d) = (frD d).flatMap fun n => frT (σ n)
  | .mk op n us sub => by simp only [dsubF, frD, List.flatMap_append, frTs_dsub σ us, frDs_dsub σ sub]
theorem frDs_dsub (σ : ByteArray → NlT) : ∀ l : List NlF, frDs (dsubFs σ l) = (frDs l).flatMap fun n => frT (σ n)
  | [] => by simp [dsubFs, frDs]
  | a :: l => by simp only [dsubFs, frDs, List.flatMap_append, frD_dsub σ a, frDs_dsub σ l]
end
mutual
theorem frT_db0 : ∀ t : Tm, t.ok = true → frT (db [] t) = namesTm t
  | .mk true n us, h => by
    obtain rfl := ok_var h
    simp [db, lookV, lookE, frT, namesTm, namesTms]
  | .mk false n us, h => by simp only [db, frT, namesTm]; exact frTs_db0 us (ok_fun h)
theorem frTs_db0 : ∀ l : List Tm, okTms l = true → frTs (dbs [] l) = namesTms l
  | [], _ => rfl
  | a :: l, h => by simp only [dbs, frTs, namesTms, frT_db0 a (okTms_cons h).1, frTs_db0 l (okTms_cons h).2]
end
theorem cnt_flat (x s : ByteArray) (T : List ByteArray) : ∀ l : List ByteArray, cntB (l.flatMap fun n => if x = n then T else [n]) s = cntB l x * cntB T s + if s = x then 0 else cntB l s
  | [] => by simp [cntB]
  | a :: l => by
    have ih := cnt_flat x s T l
    rw [List.flatMap_cons, cntB_append, ih]
    by_cases h : x = a
    · subst h
      have e : cntB (x :: l) x = 1 + cntB l x := by simp [cntB]
      rw [if_pos rfl, e, Nat.add_mul, Nat.one_mul]
      by_cases hs : s = x
      · simp only [hs, if_true]; omega
      · have e2 : cntB (x :: l) s = cntB l s := by simp [cntB, Ne.symm hs]
        simp only [if_neg hs, e2]; omega
    · have e : cntB (a :: l) x = cntB l x := by simp [cntB, Ne.symm h]
      rw [if_neg h, e]
      by_cases hs : s = x
      · have : ¬ a = s := fun e => h (by rw [e, hs])
        simp only [hs, if_true, cntB]
        rw [if_neg (by rw [← hs]; exact this)]; omega
      · simp only [if_neg hs, cntB]; omega
/-- The free names behind putting a term for a variable, counted. -/
theorem put_cnt {f : Fm} {x : ByteArray} {t : Tm} (hw : t.size ≤ 1000) (h : (PutsS f [(x, t)]).2 = 0) (s : ByteArray) :
    cntB (frF (PutsS f [(x, t)]).1) s = cntB (frF f) x * cntB (namesTm t) s + if s = x then 0 else cntB (frF f) s := by
  obtain ⟨h1, h2, _, h4, h5⟩ := puts_ok (l := [(x, t)]) (by simp only [wS]; omega) h
  have hok := right_ok h1
  have htok : t.ok = true := goodL_ok h2 (x, t) (by simp)
  rw [← frD_db0 (right_ok h4).1, h5, frD_dsub, frD_db0 hok.1]
  by_cases hx : x ∈ frF f
  · have e : (fun n => frT (sgm (freeS [(x, t)] (frF f)) n)) = fun n => if x = n then namesTm t else [n] := by
      funext n
      unfold sgm
      rw [free_one, if_pos (memB_iff.2 hx), look_one]
      by_cases hn : x = n
      · simp only [hn, if_true, Option.getD_some]; exact frT_db0 t htok
      · simp [hn, db, lookV, lookE, frT]
    rw [e, cnt_flat]
  · have e : (fun n => frT (sgm (freeS [(x, t)] (frF f)) n)) = fun n => [n] := by
      funext n
      unfold sgm
      rw [free_one, if_neg (fun hm => hx (memB_iff.1 hm))]
      simp [lookS, db, lookV, lookE, frT]
    have hc : cntB (frF f) x = 0 := by
      rcases Nat.eq_zero_or_pos (cntB (frF f) x) with h | h
      · exact h
      · exact absurd (cntB_pos.1 h) hx
    rw [e, show ((frF f).flatMap fun n => [n]) = frF f by simp, hc]
    by_cases hs : s = x
    · rw [hs, hc]; simp
    · simp [hs]
theorem nmPredP : nmPred ⟨#[80]⟩ = true := by decide
theorem pT_ok {t : Tm} (h : t.ok = true) : (Fm.mk 1 ⟨#[80]⟩ [t] []).ok = true := by
  simp [Fm.ok, okRow, okTms, okFms, nmPredP, h]
theorem sorted_lt {l : List ByteArray} (h : l.Pairwise ltN) {i : Nat} {a b : ByteArray} (ha : l[i]? = some a) (hb : l[i + 1]? = some b) : ltN a b := by
  obtain ⟨h1, e1⟩ := List.getElem?_eq_some_iff.1 ha
  obtain ⟨h2, e2⟩ := List.getElem?_eq_some_iff.1 hb
  have := List.pairwise_iff_getElem.1 h i (i + 1) h1 h2 (Nat.lt_succ_self i)
  rwa [e1, e2] at this

theorem SubstFrees_c (G : Gl gl) (T : Gt gl) (f : Fm) (x : IV) (hx : IsFm f x) (s : ByteArray) (t : Tm) (y : IV) (hy : IsTm t y) (hb1 : bulkF f ≤ 1125899906842000) (hb2 : bulkT t ≤ 1125899906842000) (st : ISt) :
    ICall prog gl 10 [x, .raw (.string s), y] st (fun r st' => r = .raw (.bool true) ∧ st' = st) := by
  have hsmall := fun tg htg st => Small_c gl [f] tg [x] htg (IsFms.one hx) (by simpa [bulkFs] using hb1) st
  have hfsz := Fm.size_bulk f
  have htsz := Tm.size_bulk t
  have hput := fun hs ht st => Put_c gl G T f x hx hs s t y hy ht st
  have hfree := fun f x hx hs hn st => Free_c gl f x hx hs hn st
  have hft := fun hs hn st => FreeTerm_c gl t y hy hs hn st
  have hx0 := hx
  have hy0 := hy
  obtain ⟨o0, n0, ta, xa, tb, xb, rfl⟩ := hx.agg
  obtain ⟨v1, n1, t1, x1, rfl⟩ := hy.agg
  have hfew := fun tg htg st => few_c gl [(s, t)] tg [.agg [.raw (.string s), .raw (.bool v1), .raw (.string n1), .sl t1 x1]] htg ⟨_, [], rfl, ⟨v1, n1, t1, x1, rfl, hy⟩, rfl⟩ (fun o ho => by rw [List.mem_singleton] at ho; subst ho; exact hb2) st
  refine ICall.intro (c := cf prog gl [] [(8, [0, 2, 4, 1, 3, 5, 6, 7, 8]), (19, [0, 1, 3, 4, 6, 2, 5, 7, 8, 9])]) func10 rfl (by show _ ≤ 137; simp) (by kernel_rfl) ?_
  simp -implicitDefEqProofs -dsimp only [go_sem, ↓reduceIte, Nat.reduceEqDiff, Nat.reduceBEq, Nat.reduceAdd, Nat.reduceMul, Nat.reduceSub, Nat.reduceLeDiff, reduceCtorEq, fits]
  refine (awake_c gl G T _).mono ?_
  rintro _ st ⟨rfl, rfl⟩
  simp -implicitDefEqProofs -dsimp only [go_sem, ↓reduceIte, Nat.reduceEqDiff, Nat.reduceBEq, Nat.reduceAdd, Nat.reduceMul, Nat.reduceSub, Nat.reduceLeDiff, reduceCtorEq, fits, inOrder_one]
  refine (hsmall _ (by simp only [go_sem]) _).mono ?_
  rintro _ st ⟨rfl, rfl⟩
  by_cases hz : bulkFs [f] ≤ 500
  case neg =>
    simp -implicitDefEqProofs -dsimp only [go_sem, ↓reduceIte, Nat.reduceEqDiff, Nat.reduceBEq, Nat.reduceAdd, Nat.reduceMul, Nat.reduceSub, Nat.reduceLeDiff, reduceCtorEq, fits, decide_eq_false hz]
    exact outK_self ⟨rfl, rfl⟩
  have hz' : bulkF f ≤ 500 := by simpa [bulkFs] using hz
  simp -implicitDefEqProofs -dsimp only [go_sem, ↓reduceIte, Nat.reduceEqDiff, Nat.reduceBEq, Nat.reduceAdd, Nat.reduceMul, Nat.reduceSub, Nat.reduceLeDiff, reduceCtorEq, fits, decide_eq_true hz, inOrder_one, inOrder_two]
  refine (hfew _ (by simp only [go_sem]) _).mono ?_
  rintro _ st ⟨rfl, rfl⟩
  cases hfw : fewB [(s, t)]
  · simp -implicitDefEqProofs -dsimp only [go_sem, ↓reduceIte, Nat.reduceEqDiff, Nat.reduceBEq, Nat.reduceAdd, Nat.reduceMul, Nat.reduceSub, Nat.reduceLeDiff, reduceCtorEq, fits]
    exact outK_self ⟨rfl, rfl⟩
  have htl := (few_size hfw).2 (s, t) (by simp)
  simp only at htl
  simp -implicitDefEqProofs -dsimp only [go_sem, ↓reduceIte, Nat.reduceEqDiff, Nat.reduceBEq, Nat.reduceAdd, Nat.reduceMul, Nat.reduceSub, Nat.reduceLeDiff, reduceCtorEq, fits]
  refine (hput (by omega) (by omega) _).mono ?_
  rintro _ st ⟨g, rfl, hg, rfl⟩
  have hg0 := hg
  obtain ⟨o2, n2, t3, x3, t4, x4, rfl⟩ := hg.agg
  by_cases h0 : (PutsS f [(s, t)]).2 = 0
  case neg =>
    have d0 : decide (((PutsS f [(s, t)]).2 : Int) = 0) = false := decide_eq_false (by omega)
    simp -implicitDefEqProofs -dsimp only [go_sem, ↓reduceIte, Nat.reduceEqDiff, Nat.reduceBEq, Nat.reduceAdd, Nat.reduceMul, Nat.reduceSub, Nat.reduceLeDiff, reduceCtorEq, fits, d0]
    exact outK_self ⟨rfl, rfl⟩
  have d0 : decide (((PutsS f [(s, t)]).2 : Int) = 0) = true := decide_eq_true (by rw [h0]; rfl)
  obtain ⟨hr, hgood, _, hgr, _⟩ := puts_ok (l := [(s, t)]) (by simp only [wS]; omega) h0
  have htok : t.ok = true := goodL_ok hgood (s, t) (by simp)
  have hcnt := put_cnt (f := f) (x := s) (t := t) (by omega) h0
  generalize hG : (PutsS f [(s, t)]).1 = q at hg0 hgr hcnt
  obtain ⟨f1', f2', f3'⟩ := right_ok hr
  obtain ⟨g1, g2, g3⟩ := right_ok hgr
  simp -implicitDefEqProofs -dsimp only [go_sem, ↓reduceIte, Nat.reduceEqDiff, Nat.reduceBEq, Nat.reduceAdd, Nat.reduceMul, Nat.reduceSub, Nat.reduceLeDiff, reduceCtorEq, fits, d0]
  refine (hfree f _ hx0 (by omega) (fun q hq => by have := nm_size (frF_ok f f1' q hq); omega) _).mono ?_
  rintro _ st ⟨tb1, before, rfl, htb, hbf, rfl⟩
  simp -implicitDefEqProofs -dsimp only [go_sem, ↓reduceIte, Nat.reduceEqDiff, Nat.reduceBEq, Nat.reduceAdd, Nat.reduceMul, Nat.reduceSub, Nat.reduceLeDiff, reduceCtorEq, fits]
  refine (hfree q _ hg0 (by omega) (fun z hz => by have := nm_size (frF_ok q g1 z hz); omega) _).mono ?_
  rintro _ st ⟨tb2, after, rfl, hta, haf, rfl⟩
  simp -implicitDefEqProofs -dsimp only [go_sem, ↓reduceIte, Nat.reduceEqDiff, Nat.reduceBEq, Nat.reduceAdd, Nat.reduceMul, Nat.reduceSub, Nat.reduceLeDiff, reduceCtorEq, fits]
  refine (hft (by omega) (fun z hz => by have := nm_size (names_ok t htok z hz); omega) _).mono ?_
  rintro _ st ⟨tb3, term, rfl, htt, htm, rfl⟩
  have l1 := sorted_len hbf.1 (fun x hx => (hbf.2 x).1 hx)
  have l2 := sorted_len haf.1 (fun x hx => (haf.2 x).1 hx)
  have l3 := sorted_len htm.1 (fun x hx => (htm.2 x).1 hx)
  have l4 := frF_le f
  have l5 := frF_le q
  have l6 := namesTm_le t
  have hin : ∀ a, a ∈ after → a ∈ term ∨ (a ≠ s ∧ a ∈ before) := fun a ha => by
    have h1 := cntB_pos.2 ((haf.2 a).1 ha)
    rw [hcnt a] at h1
    by_cases hs : a = s
    · rw [if_pos hs, Nat.add_zero] at h1
      exact .inl ((htm.2 a).2 (cntB_pos.1 (Nat.pos_of_mul_pos_left h1)))
    · rw [if_neg hs] at h1
      rcases Nat.eq_zero_or_pos (cntB (frF f) a) with h2 | h2
      · rw [h2, Nat.add_zero] at h1
        exact .inl ((htm.2 a).2 (cntB_pos.1 (Nat.pos_of_mul_pos_left h1)))
      · exact .inr ⟨hs, (hbf.2 a).2 (cntB_pos.1 h2)⟩
  have hocc : ∀ (h : Fm) (z : IV) (_ : IsFm h z) (_ : h.ok = true) (_ : h.size ≤ 1000000) (a : ByteArray) (st : ISt), ICall prog gl 37 [z, .raw (.string a), .sl ⟨true, .nil, 0⟩ []] st (fun r st' => r = .raw (.int .i64 ((cntB (frF h) a : Nat) : Int)) ∧ st' = st) := fun h z hh hok hs a st => by
    have := occurs_c gl h hok [] ⟨true, .nil, 0⟩ (.inl rfl) (by simp only [List.length_nil]; omega) z hh a st
    simpa only [occ_nil, strI, List.map_nil] using this
  simp -implicitDefEqProofs -dsimp only [go_sem, ↓reduceIte, Nat.reduceEqDiff, Nat.reduceBEq, Nat.reduceAdd, Nat.reduceMul, Nat.reduceSub, Nat.reduceLeDiff, reduceCtorEq, fits]
  refine LoopC.ctr after.length (fun k fr st' ds => fr 1 = .iv (.raw (.string s)) ∧ fr 3 = .box [.raw (.int .u8 o0), .raw (.string n0), .sl ta xa, .sl tb xb] ∧ fr 5 = .box [.raw (.bool v1), .raw (.string n1), .sl t1 x1] ∧ fr 7 = .box [.raw (.int .u8 o2), .raw (.string n2), .sl t3 x3, .sl t4 x4] ∧
    fr 9 = .iv (.sl tb1 (strI before)) ∧ fr 10 = .iv (.sl tb2 (strI after)) ∧ fr 11 = .iv (.sl tb3 (strI term)) ∧ fr 12 = .iv (.raw (.int .i64 k)) ∧ st' = st ∧ ds = []) ?_ ?_ ?_
  · simp -implicitDefEqProofs -dsimp only [go_sem, ↓reduceIte, Nat.reduceEqDiff, Nat.reduceBEq, Nat.reduceAdd, Nat.reduceMul, Nat.reduceSub, Nat.reduceLeDiff, reduceCtorEq]
    rfl
  · rintro k fr st _ hlt ⟨f1, f3, f5, f7, f9, f10, f11, f12, rfl, rfl⟩
    obtain ⟨a, ha⟩ := get_of_lt hlt
    have hma := List.mem_of_getElem? ha
    cases k with
    | zero =>
      have c0 : decide ((0 : Int) < ((0 : Nat) : Int)) = false := rfl
      simp -implicitDefEqProofs -dsimp only [go_sem, ↓reduceIte, Nat.reduceEqDiff, Nat.reduceBEq, Nat.reduceAdd, Nat.reduceMul, Nat.reduceSub, Nat.reduceLeDiff, reduceCtorEq, f1, f3, f5, f7, f9, f10, f11, f12, strI_length, lt_i hlt, c0, reTag_es hta, Int.natCast_nonneg, strI_get ha]
      intros
      refine (has_c gl tb3 term a htt _).mono ?_
      rintro _ st ⟨rfl, rfl⟩
      cases hb : hasB term a
      case true =>
        simp -implicitDefEqProofs -dsimp only [go_sem, ↓reduceIte, Nat.reduceEqDiff, Nat.reduceBEq, Nat.reduceAdd, Nat.reduceMul, Nat.reduceSub, Nat.reduceLeDiff, reduceCtorEq, f1, f3, f5, f7, f9, f10, f11, f12, w_succ hlt (show after.length ≤ 281474976710656 by omega)]
      have h2 := (hin a hma).resolve_left (hasB_false.1 hb)
      simp -implicitDefEqProofs -dsimp only [go_sem, ↓reduceIte, Nat.reduceEqDiff, Nat.reduceBEq, Nat.reduceAdd, Nat.reduceMul, Nat.reduceSub, Nat.reduceLeDiff, reduceCtorEq, f1, f3, f5, f7, f9, f10, f11, f12, strI_get ha, reTag_es hta, strI_length, Int.natCast_nonneg, decide_eq_false h2.1]
      refine (has_c gl tb1 before a htb _).mono ?_
      rintro _ st ⟨rfl, rfl⟩
      simp -implicitDefEqProofs -dsimp only [go_sem, ↓reduceIte, Nat.reduceEqDiff, Nat.reduceBEq, Nat.reduceAdd, Nat.reduceMul, Nat.reduceSub, Nat.reduceLeDiff, reduceCtorEq, f1, f3, f5, f7, f9, f10, f11, f12, hasB_true.2 h2.2, w_succ hlt (show after.length ≤ 281474976710656 by omega)]
    | succ j =>
      have c0 : decide ((0 : Int) < ((j + 1 : Nat) : Int)) = true := decide_eq_true (by omega)
      obtain ⟨b, hb0⟩ := get_of_lt (show j < after.length by omega)
      have hw : IntKind.i64.wrap (((j + 1 : Nat) : Int) - 1) = ((j : Nat) : Int) := by rw [w64] <;> omega
      have hls := less_ltN.2 (sorted_lt haf.1 hb0 ha)
      simp -implicitDefEqProofs -dsimp only [go_sem, ↓reduceIte, Nat.reduceEqDiff, Nat.reduceBEq, Nat.reduceAdd, Nat.reduceMul, Nat.reduceSub, Nat.reduceLeDiff, reduceCtorEq, f1, f3, f5, f7, f9, f10, f11, f12, strI_length, lt_i hlt, c0, hw, reTag_es hta, Int.natCast_nonneg, strI_get hb0, strI_get ha, hls]
      intros
      refine (has_c gl tb3 term a htt _).mono ?_
      rintro _ st ⟨rfl, rfl⟩
      cases hb : hasB term a
      case true =>
        simp -implicitDefEqProofs -dsimp only [go_sem, ↓reduceIte, Nat.reduceEqDiff, Nat.reduceBEq, Nat.reduceAdd, Nat.reduceMul, Nat.reduceSub, Nat.reduceLeDiff, reduceCtorEq, f1, f3, f5, f7, f9, f10, f11, f12, w_succ hlt (show after.length ≤ 281474976710656 by omega)]
      have h2 := (hin a hma).resolve_left (hasB_false.1 hb)
      simp -implicitDefEqProofs -dsimp only [go_sem, ↓reduceIte, Nat.reduceEqDiff, Nat.reduceBEq, Nat.reduceAdd, Nat.reduceMul, Nat.reduceSub, Nat.reduceLeDiff, reduceCtorEq, f1, f3, f5, f7, f9, f10, f11, f12, strI_get ha, reTag_es hta, strI_length, Int.natCast_nonneg, decide_eq_false h2.1]
      refine (has_c gl tb1 before a htb _).mono ?_
      rintro _ st ⟨rfl, rfl⟩
      simp -implicitDefEqProofs -dsimp only [go_sem, ↓reduceIte, Nat.reduceEqDiff, Nat.reduceBEq, Nat.reduceAdd, Nat.reduceMul, Nat.reduceSub, Nat.reduceLeDiff, reduceCtorEq, f1, f3, f5, f7, f9, f10, f11, f12, hasB_true.2 h2.2, w_succ hlt (show after.length ≤ 281474976710656 by omega)]
  · rintro fr st _ ⟨f1, f3, f5, f7, f9, f10, f11, f12, rfl, rfl⟩
    simp -implicitDefEqProofs -dsimp only [go_sem, ↓reduceIte, Nat.reduceEqDiff, Nat.reduceBEq, Nat.reduceAdd, Nat.reduceMul, Nat.reduceSub, Nat.reduceLeDiff, reduceCtorEq, f1, f3, f5, f7, f9, f10, f11, f12, strI_length, nlt_i (Nat.lt_irrefl _), inOrder_nil]
    intros
    refine appV_owns (s := 1) (S0 := st) (own.full st st 0 1) rfl (strI_length before) (subSt.refl st) rfl (by simp [fits, IV.one, strI]) (by simp only; omega) (by omega) fun tg1 st1 hown1 hsub1 _ => ?_
    simp -implicitDefEqProofs -dsimp only [go_sem, ↓reduceIte, Nat.reduceEqDiff, Nat.reduceBEq, Nat.reduceAdd, Nat.reduceMul, Nat.reduceSub, Nat.reduceLeDiff, reduceCtorEq, f1, f3, f5, f7, f9, f10, f11, f12]
    refine appV_owns hown1 (by simp [strI_length]) (strI_length term) hsub1 rfl (by simp [fits, IV.one, strI]) (by simp only; omega) (by omega) fun tg2 st2 hown2 hsub2 _ => ?_
    try simp only [List.nil_append]
    rw [← strI_append]
    simp -implicitDefEqProofs -dsimp only [go_sem, ↓reduceIte, Nat.reduceEqDiff, Nat.reduceBEq, Nat.reduceAdd, Nat.reduceMul, Nat.reduceSub, Nat.reduceLeDiff, reduceCtorEq, f1, f3, f5, f7, f9, f10, f11, f12]
    refine LoopC.ctr (before ++ term).length (fun k fr st' ds => fr 1 = .iv (.raw (.string s)) ∧ fr 3 = .box [.raw (.int .u8 o0), .raw (.string n0), .sl ta xa, .sl tb xb] ∧ fr 5 = .box [.raw (.bool v1), .raw (.string n1), .sl t1 x1] ∧ fr 7 = .box [.raw (.int .u8 o2), .raw (.string n2), .sl t3 x3, .sl t4 x4] ∧
      fr 10 = .iv (.sl tb2 (strI after)) ∧ fr 13 = .iv (.sl tg2 (strI (before ++ term))) ∧ fr 14 = .iv (.raw (.int .i64 k)) ∧ st' = st2 ∧ ds = []) ?_ ?_ ?_
    · simp -implicitDefEqProofs -dsimp only [go_sem, ↓reduceIte, Nat.reduceEqDiff, Nat.reduceBEq, Nat.reduceAdd, Nat.reduceMul, Nat.reduceSub, Nat.reduceLeDiff, reduceCtorEq, f1, f3, f5, f7, f9, f10, f11, f12]
      rfl
    · rintro k fr st2 _ hlt ⟨f1, f3, f5, f7, f10, f13, f14, rfl, rfl⟩
      obtain ⟨a, ha⟩ := get_of_lt hlt
      have m1 := cntB_le s (frF f)
      have m2 := cntB_le a (namesTm t)
      have m3 := cntB_le a (frF f)
      have m4 : cntB (frF f) s * cntB (namesTm t) a ≤ 1000 * 1000 := Nat.mul_le_mul (by omega) (by omega)
      have hmul : IntKind.i64.wrap (((cntB (frF f) s : Nat) : Int) * ((cntB (namesTm t) a : Nat) : Int)) = ((cntB (frF f) s * cntB (namesTm t) a : Nat) : Int) := by
        rw [w64] <;> (try push_cast) <;> omega
      have hca := hcnt a
      have hha : hasB after a = decide ((0 : Int) < ((cntB (frF q) a : Nat) : Int)) := by
        rw [Bool.eq_iff_iff, hasB_true, decide_eq_true_eq, haf.2 a, ← cntB_pos]; omega
      simp -implicitDefEqProofs -dsimp only [go_sem, ↓reduceIte, Nat.reduceEqDiff, Nat.reduceBEq, Nat.reduceAdd, Nat.reduceMul, Nat.reduceSub, Nat.reduceLeDiff, reduceCtorEq, f1, f3, f5, f7, f10, f13, f14, strI_length, lt_i hlt, reTag_es hown2.es, Int.natCast_nonneg, strI_get ha, inOrder_one, fits]
      intros
      refine (hocc f _ hx0 f1' (by omega) s _).mono ?_
      rintro _ st2 ⟨rfl, rfl⟩
      simp -implicitDefEqProofs -dsimp only [go_sem, ↓reduceIte, Nat.reduceEqDiff, Nat.reduceBEq, Nat.reduceAdd, Nat.reduceMul, Nat.reduceSub, Nat.reduceLeDiff, reduceCtorEq, f1, f3, f5, f7, f10, f13, f14, inOrder_one, fits]
      refine (p_c gl ⟨#[80]⟩ _ _ [t] (.inr rfl) (IsTms.one hy0) _).mono ?_
      rintro zp st2 ⟨hp, rfl⟩
      have hp0 := hp
      obtain ⟨op, np, tp1, xp1, tp2, xp2, rfl⟩ := hp.agg
      simp -implicitDefEqProofs -dsimp only [go_sem, ↓reduceIte, Nat.reduceEqDiff, Nat.reduceBEq, Nat.reduceAdd, Nat.reduceMul, Nat.reduceSub, Nat.reduceLeDiff, reduceCtorEq, f1, f3, f5, f7, f10, f13, f14]
      refine (hocc _ _ hp0 (pT_ok htok) (by simp only [Fm.size, sizeTms, sizeFms]; omega) a _).mono ?_
      rintro _ st2 ⟨rfl, rfl⟩
      by_cases has : a = s
      · rw [if_pos has, Nat.add_zero] at hca
        have de : decide (((cntB (frF q) a : Nat) : Int) = ((cntB (frF f) s * cntB (namesTm t) a : Nat) : Int)) = true := decide_eq_true (by rw [hca])
        have dW : decide ((0 : Int) < ((cntB (frF f) s * cntB (namesTm t) a : Nat) : Int)) = hasB after a := by rw [hha, hca]
        simp -implicitDefEqProofs -dsimp only [go_sem, ↓reduceIte, Nat.reduceEqDiff, Nat.reduceBEq, Nat.reduceAdd, Nat.reduceMul, Nat.reduceSub, Nat.reduceLeDiff, reduceCtorEq, f1, f3, f5, f7, f10, f13, f14, frF_P, hmul, decide_eq_true has]
        refine (hocc q _ hg0 g1 (by omega) a _).mono ?_
        rintro _ st2 ⟨rfl, rfl⟩
        simp -implicitDefEqProofs -dsimp only [go_sem, ↓reduceIte, Nat.reduceEqDiff, Nat.reduceBEq, Nat.reduceAdd, Nat.reduceMul, Nat.reduceSub, Nat.reduceLeDiff, reduceCtorEq, f1, f3, f5, f7, f10, f13, f14, de]
        refine (has_c gl tb2 after a hta _).mono ?_
        rintro _ st2 ⟨rfl, rfl⟩
        simp -implicitDefEqProofs -dsimp only [go_sem, ↓reduceIte, Nat.reduceEqDiff, Nat.reduceBEq, Nat.reduceAdd, Nat.reduceMul, Nat.reduceSub, Nat.reduceLeDiff, reduceCtorEq, f1, f3, f5, f7, f10, f13, f14, dW, decide_true, w_succ hlt (show (before ++ term).length ≤ 281474976710656 by simp only [List.length_append]; omega)]
      · rw [if_neg has] at hca
        have hadd : IntKind.i64.wrap (((cntB (frF f) s * cntB (namesTm t) a : Nat) : Int) + ((cntB (frF f) a : Nat) : Int)) = ((cntB (frF f) s * cntB (namesTm t) a + cntB (frF f) a : Nat) : Int) := by rw [w64] <;> omega
        have de : decide (((cntB (frF q) a : Nat) : Int) = ((cntB (frF f) s * cntB (namesTm t) a + cntB (frF f) a : Nat) : Int)) = true := decide_eq_true (by rw [hca])
        have dW : decide ((0 : Int) < ((cntB (frF f) s * cntB (namesTm t) a + cntB (frF f) a : Nat) : Int)) = hasB after a := by rw [hha, hca]
        simp -implicitDefEqProofs -dsimp only [go_sem, ↓reduceIte, Nat.reduceEqDiff, Nat.reduceBEq, Nat.reduceAdd, Nat.reduceMul, Nat.reduceSub, Nat.reduceLeDiff, reduceCtorEq, f1, f3, f5, f7, f10, f13, f14, frF_P, hmul, decide_eq_false has]
        refine (hocc f _ hx0 f1' (by omega) a _).mono ?_
        rintro _ st2 ⟨rfl, rfl⟩
        simp -implicitDefEqProofs -dsimp only [go_sem, ↓reduceIte, Nat.reduceEqDiff, Nat.reduceBEq, Nat.reduceAdd, Nat.reduceMul, Nat.reduceSub, Nat.reduceLeDiff, reduceCtorEq, f1, f3, f5, f7, f10, f13, f14, hadd]
        refine (hocc q _ hg0 g1 (by omega) a _).mono ?_
        rintro _ st2 ⟨rfl, rfl⟩
        simp -implicitDefEqProofs -dsimp only [go_sem, ↓reduceIte, Nat.reduceEqDiff, Nat.reduceBEq, Nat.reduceAdd, Nat.reduceMul, Nat.reduceSub, Nat.reduceLeDiff, reduceCtorEq, f1, f3, f5, f7, f10, f13, f14, de]
        refine (has_c gl tb2 after a hta _).mono ?_
        rintro _ st2 ⟨rfl, rfl⟩
        simp -implicitDefEqProofs -dsimp only [go_sem, ↓reduceIte, Nat.reduceEqDiff, Nat.reduceBEq, Nat.reduceAdd, Nat.reduceMul, Nat.reduceSub, Nat.reduceLeDiff, reduceCtorEq, f1, f3, f5, f7, f10, f13, f14, dW, decide_true, w_succ hlt (show (before ++ term).length ≤ 281474976710656 by simp only [List.length_append]; omega)]
    · rintro fr st2 _ ⟨f1, f3, f5, f7, f10, f13, f14, rfl, rfl⟩
      simp -implicitDefEqProofs -dsimp only [go_sem, ↓reduceIte, Nat.reduceEqDiff, Nat.reduceBEq, Nat.reduceAdd, Nat.reduceMul, Nat.reduceSub, Nat.reduceLeDiff, reduceCtorEq, f1, f3, f5, f7, f10, f13, f14, strI_length, nlt_i (Nat.lt_irrefl _)]
      intros
      exact outK_sub hsub2 ⟨rfl, rfl⟩
end Go.Proofs.Tryz
