/- Walks: Free, FreeTerm, Bound, Fresh. -/
import Derived.Test.YtknaeibenggbmaaGreatDoorJX
set_option linter.all false
namespace Go.Proofs.Tryz
open Go Go.Iv
set_option maxRecDepth 4000
open Nat renaming reduceEqDiff → zE, reduceBEq → zB, reduceAdd → zA, reduceMul → zM, reduceSub → zS, reduceLeDiff → zL
attribute [local go_sem] cf setAt List.all_cons List.all_nil Bool.and_self Bool.true_and Bool.and_true Bool.false_and Bool.and_false Bool.not_true Bool.not_false List.mem_nil_iff if_false if_true beq_self_eq_true Nat.zero_add Nat.add_zero List.getElem?_cons_zero List.getElem?_cons_succ Option.map_some List.mem_cons or_false false_or or_true true_or Nat.sub_zero forall_const Int.toNat_natCast List.length_cons List.length_nil List.map_cons List.map_nil List.take_succ_cons List.take_zero List.drop_zero List.drop_succ_cons List.cons_append List.nil_append List.append_nil and_true true_and and_self true_implies List.zip_cons_cons List.zip_nil_left
variable (gl : Nat → Option IV)

theorem Free_c (f : Fm) (x : IV) (hx : IsFm f x) (hs : f.size ≤ 1099511627776) (hn : ∀ s ∈ frF f, s.size ≤ 281474976710656) (st : ISt) :
    ICall prog gl 28 [x] st (fun r st' => ∃ tg l, r = .sl tg (strI l) ∧ okEs tg 1 ∧ SortedOf (frF f) l ∧ st' = st) := by
  have hnames := fun st => freeNames_c gl f x hx st
  have hset := fun st => set_c gl 104 [.cptr x] (freeB f) st (by simp only [go_sem]) (fun I => freeNames1_c gl f x hx (by omega) I)
  rw [freeB_eq] at hset
  obtain ⟨ks, hk1, hk2, hk3⟩ := keys_setE (frF f)
  have hfl := frF_le f
  obtain ⟨o, n, us, sub⟩ := f
  obtain ⟨t1, x1, t2, x2, rfl, _⟩ := hx.mk
  refine ICall.intro (c := cf prog gl [] []) func28 rfl (by show _ ≤ 8; simp) (by kernel_rfl) ?_
  simp -implicitDefEqProofs -dsimp only [go_sem, ↓reduceIte, zE, zB, zA, zM, zS, zL, reduceCtorEq, fits]
  refine (hnames _).mono ?_
  rintro _ st ⟨rfl, rfl⟩
  simp -implicitDefEqProofs -dsimp only [go_sem, ↓reduceIte, zE, zB, zA, zM, zS, zL, reduceCtorEq, fits]
  refine (hset _).mono ?_
  rintro _ _ ⟨m, hm, rfl, rfl⟩
  simp -implicitDefEqProofs -dsimp only [go_sem, ↓reduceIte, zE, zB, zA, zM, zS, zL, reduceCtorEq, fits]
  refine (Keys_c gl m _).mono ?_
  rintro _ _ ⟨b, hb, rfl, rfl⟩
  have hbm : m ≠ b := ne_of_st (ISt.put_same st m _) hb
  have hc := Sorted_c gl m b _ ks hk1 (fun k h => hn k ((hk2 k).1 h)) (by omega) _ (ISt.put_same (st.put m _) b _) (by rw [put_ne hbm, ISt.put_same])
  unfold keyFn at hc ⊢
  simp -implicitDefEqProofs -dsimp only [go_sem, ↓reduceIte, zE, zB, zA, zM, zS, zL, reduceCtorEq, fits]
  refine hc.mono ?_
  rintro _ _ ⟨tg, l, rfl, htg, hl, rfl⟩
  simp -implicitDefEqProofs -dsimp only [go_sem, ↓reduceIte, zE, zB, zA, zM, zS, zL, reduceCtorEq, fits]
  refine outK_sub (st' := st) ?_ ⟨tg, l, rfl, htg, ⟨hl.1, fun y => (hl.2 y).trans (hk2 y)⟩, rfl⟩
  exact (subSt_put hm).trans (subSt_put hb)
theorem FreeTerm_c (t : Tm) (x : IV) (hx : IsTm t x) (hs : t.size ≤ 1099511627776) (hn : ∀ s ∈ namesTm t, s.size ≤ 281474976710656) (st : ISt) :
    ICall prog gl 36 [x] st (fun r st' => ∃ tg l, r = .sl tg (strI l) ∧ okEs tg 1 ∧ SortedOf (namesTm t) l ∧ st' = st) := by
  have hnames := fun st => termNames_c gl t x hx st
  have hset := fun st => set_c gl 120 [.cptr x] (namesTm t) st (by simp only [go_sem]) (fun I => termNames1_c gl t x hx I)
  obtain ⟨ks, hk1, hk2, hk3⟩ := keys_setE (namesTm t)
  have hfl := namesTm_le t
  obtain ⟨v, n, us⟩ := t
  obtain ⟨t1, x1, rfl, _⟩ := hx.mk
  refine ICall.intro (c := cf prog gl [] []) func36 rfl (by show _ ≤ 8; simp) (by kernel_rfl) ?_
  simp -implicitDefEqProofs -dsimp only [go_sem, ↓reduceIte, zE, zB, zA, zM, zS, zL, reduceCtorEq, fits]
  refine (hnames _).mono ?_
  rintro _ st ⟨rfl, rfl⟩
  simp -implicitDefEqProofs -dsimp only [go_sem, ↓reduceIte, zE, zB, zA, zM, zS, zL, reduceCtorEq, fits]
  refine (hset _).mono ?_
  rintro _ _ ⟨m, hm, rfl, rfl⟩
  simp -implicitDefEqProofs -dsimp only [go_sem, ↓reduceIte, zE, zB, zA, zM, zS, zL, reduceCtorEq, fits]
  refine (Keys_c gl m _).mono ?_
  rintro _ _ ⟨b, hb, rfl, rfl⟩
  have hbm : m ≠ b := ne_of_st (ISt.put_same st m _) hb
  have hc := Sorted_c gl m b _ ks hk1 (fun k h => hn k ((hk2 k).1 h)) (by omega) _ (ISt.put_same (st.put m _) b _) (by rw [put_ne hbm, ISt.put_same])
  unfold keyFn at hc ⊢
  simp -implicitDefEqProofs -dsimp only [go_sem, ↓reduceIte, zE, zB, zA, zM, zS, zL, reduceCtorEq, fits]
  refine hc.mono ?_
  rintro _ _ ⟨tg, l, rfl, htg, hl, rfl⟩
  simp -implicitDefEqProofs -dsimp only [go_sem, ↓reduceIte, zE, zB, zA, zM, zS, zL, reduceCtorEq, fits]
  refine outK_sub (st' := st) ?_ ⟨tg, l, rfl, htg, ⟨hl.1, fun y => (hl.2 y).trans (hk2 y)⟩, rfl⟩
  exact (subSt_put hm).trans (subSt_put hb)

/-! ### Bound names -/
mutual
def boF : Fm → List ByteArray
  | .mk op m _ sub => (if isQ op then [m] else []) ++ boFs sub
def boFs : List Fm → List ByteArray
  | [] => []
  | a :: l => boF a ++ boFs l
end
theorem boFs_append : ∀ l m : List Fm, boFs (l ++ m) = boFs l ++ boFs m
  | [], m => by simp [boFs]
  | a :: l, m => by simp only [List.cons_append, boFs, boFs_append l m, List.append_assoc]
mutual
theorem boF_le : ∀ f : Fm, (boF f).length ≤ f.size
  | .mk op m us sub => by
    have := boFs_le sub
    simp only [boF, List.length_append, Fm.size]
    split <;> simp <;> omega
theorem boFs_le : ∀ l : List Fm, (boFs l).length ≤ sizeFms l
  | [] => Nat.le_refl _
  | a :: l => by have := boF_le a; have := boFs_le l; simp only [boFs, List.length_append, sizeFms]; omega
end
def addE (es : List (Value × IV)) (l : List ByteArray) : List (Value × IV) := l.foldl (fun es s => updI (.string s) (.raw (.bool true)) es) es
theorem addE_append (es : List (Value × IV)) (l m : List ByteArray) : addE es (l ++ m) = addE (addE es l) m := by simp [addE]
def AB (f : Fm) : Prop := ∀ (x : IV) (_ : IsFm f x) (m : Nat) (es : List (Value × IV)) (st : ISt) (_ : st m = some (.map .str es)),
  ICall prog gl 123 [x, .raw (.map (some m))] st (fun _ st' => st' = st.put m (some (.map .str (addE es (boF f)))))
theorem addBound_step (op : Nat) (n : ByteArray) (us : List Tm) (sub : List Fm) (IH : ∀ a ∈ sub, AB gl a) : AB gl (.mk op n us sub) := by
  intro x hx m es st hm
  obtain ⟨tg, xs, tg', ys, rfl, hop, htg, hxs, htg', hys⟩ := hx.mk
  refine ICall.intro (c := cf prog gl [] []) func123 rfl (by show _ ≤ 22; simp) (by kernel_rfl) ?_
  simp -implicitDefEqProofs -dsimp only [go_sem, ↓reduceIte, zE, zB, zA, zM, zS, zL, reduceCtorEq, fits]
  refine (quantifier_c gl op n _ _ _ _ _).mono ?_
  rintro _ st ⟨rfl, rfl⟩
  cases hq : isQ op
  · simp -implicitDefEqProofs -dsimp only [go_sem, ↓reduceIte, zE, zB, zA, zM, zS, zL, reduceCtorEq, hys.len, fits]
    intros
    refine LoopC.ctr sub.length (fun k fr st' ds => st' = st.put m (some (.map .str (addE es (boFs (sub.take k))))) ∧ fr 1 = .iv (.raw (.map (some m))) ∧ fr 12 = .iv (.sl tg' ys) ∧ fr 13 = .iv (.raw (.int .i64 sub.length)) ∧ fr 14 = .iv (.raw (.int .i64 k)) ∧ ds = []) ?_ ?_ ?_
    · simp -implicitDefEqProofs -dsimp only [go_sem, ↓reduceIte, zE, zB, zA, zM, zS, zL, reduceCtorEq, List.take_zero, boFs]
      exact ⟨by rw [show addE es [] = es from rfl]; exact (put_self hm).symm, rfl⟩
    · rintro k fr _ _ hlt ⟨rfl, f1, f12, f13, f14, rfl⟩
      obtain ⟨a, ha⟩ := get_of_lt hlt
      obtain ⟨x, hkx, hx⟩ := hys.get ha
      have hcall := IH a (List.mem_of_getElem? ha) x hx m (addE es (boFs (sub.take k))) (st.put m (some (.map .str (addE es (boFs (sub.take k)))))) (ISt.put_same _ _ _)
      have hnext : boFs (sub.take (k + 1)) = boFs (sub.take k) ++ boF a := by rw [take_get ha, boFs_append]; simp [boFs]
      obtain ⟨o2, n2, u2, s2⟩ := a
      obtain ⟨t3, x3, t4, x4, rfl, _⟩ := hx.mk
      simp -implicitDefEqProofs -dsimp only [go_sem, ↓reduceIte, zE, zB, zA, zM, zS, zL, reduceCtorEq, f1, f12, f13, f14, lt_i hlt, reTag_es htg', Int.natCast_nonneg, hkx, fits]
      refine hcall.mono ?_
      rintro _ _ rfl
      simp -implicitDefEqProofs -dsimp only [go_sem, ↓reduceIte, zE, zB, zA, zM, zS, zL, reduceCtorEq, f1, f12, f13, f14, w_succ hlt (show sub.length ≤ 281474976710656 by omega)]
      rw [put_put_same, hnext, addE_append]
    rintro fr _ _ ⟨rfl, f1, f12, f13, f14, rfl⟩
    simp -implicitDefEqProofs -dsimp only [go_sem, ↓reduceIte, zE, zB, zA, zM, zS, zL, reduceCtorEq, f13, f14, nlt_i (Nat.lt_irrefl _)]
    rw [List.take_length]
    exact outK_self (by simp [boF, hq])
  · simp -implicitDefEqProofs -dsimp only [go_sem, ↓reduceIte, zE, zB, zA, zM, zS, zL, reduceCtorEq, hys.len, fits, hm]
    intros
    refine LoopC.ctr sub.length (fun k fr st' ds => st' = st.put m (some (.map .str (addE (addE es [n]) (boFs (sub.take k))))) ∧ fr 1 = .iv (.raw (.map (some m))) ∧ fr 12 = .iv (.sl tg' ys) ∧ fr 13 = .iv (.raw (.int .i64 sub.length)) ∧ fr 14 = .iv (.raw (.int .i64 k)) ∧ ds = []) ?_ ?_ ?_
    · simp -implicitDefEqProofs -dsimp only [go_sem, ↓reduceIte, zE, zB, zA, zM, zS, zL, reduceCtorEq, List.take_zero, boFs]
      exact ⟨by exact rfl, rfl⟩
    · rintro k fr _ _ hlt ⟨rfl, f1, f12, f13, f14, rfl⟩
      obtain ⟨a, ha⟩ := get_of_lt hlt
      obtain ⟨x, hkx, hx⟩ := hys.get ha
      have hcall := IH a (List.mem_of_getElem? ha) x hx m (addE (addE es [n]) (boFs (sub.take k))) (st.put m (some (.map .str (addE (addE es [n]) (boFs (sub.take k)))))) (ISt.put_same _ _ _)
      have hnext : boFs (sub.take (k + 1)) = boFs (sub.take k) ++ boF a := by rw [take_get ha, boFs_append]; simp [boFs]
      obtain ⟨o2, n2, u2, s2⟩ := a
      obtain ⟨t3, x3, t4, x4, rfl, _⟩ := hx.mk
      simp -implicitDefEqProofs -dsimp only [go_sem, ↓reduceIte, zE, zB, zA, zM, zS, zL, reduceCtorEq, f1, f12, f13, f14, lt_i hlt, reTag_es htg', Int.natCast_nonneg, hkx, fits]
      refine hcall.mono ?_
      rintro _ _ rfl
      simp -implicitDefEqProofs -dsimp only [go_sem, ↓reduceIte, zE, zB, zA, zM, zS, zL, reduceCtorEq, f1, f12, f13, f14, w_succ hlt (show sub.length ≤ 281474976710656 by omega)]
      rw [put_put_same, hnext, addE_append]
    rintro fr _ _ ⟨rfl, f1, f12, f13, f14, rfl⟩
    simp -implicitDefEqProofs -dsimp only [go_sem, ↓reduceIte, zE, zB, zA, zM, zS, zL, reduceCtorEq, f13, f14, nlt_i (Nat.lt_irrefl _)]
    rw [List.take_length]
    exact outK_self (by simp only [boF, hq, if_true]; rw [addE_append])
theorem addBound_all : ∀ (k : Nat) (t : Fm), SizeOf.sizeOf t < k → AB gl t
  | 0, f, h => by omega
  | k + 1, .mk o n us sub, h => addBound_step gl o n us sub (fun a ha => addBound_all k a (by
      have := List.sizeOf_lt_of_mem ha
      simp at h; omega))
theorem addBound_c (t : Fm) : AB gl t := addBound_all gl _ t (Nat.lt_succ_self _)
theorem Bound_c (f : Fm) (x : IV) (hx : IsFm f x) (hs : f.size ≤ 1099511627776) (hn : ∀ s ∈ boF f, s.size ≤ 281474976710656) (st : ISt) :
    ICall prog gl 78 [x] st (fun r st' => ∃ tg l, r = .sl tg (strI l) ∧ okEs tg 1 ∧ SortedOf (boF f) l ∧ st' = st) := by
  have hadd := fun m es st hm => addBound_c gl f x hx m es st hm
  obtain ⟨ks, hk1, hk2, hk3⟩ := keys_setE (boF f)
  have hfl := boF_le f
  obtain ⟨o, n, us, sub⟩ := f
  obtain ⟨t1, x1, t2, x2, rfl, _⟩ := hx.mk
  refine ICall.intro (c := cf prog gl [] []) func78 rfl (by show _ ≤ 11; simp) (by kernel_rfl) ?_
  simp -implicitDefEqProofs -dsimp only [go_sem, ↓reduceIte, zE, zB, zA, zM, zS, zL, reduceCtorEq, fits]
  refine fun m => giv_intro fun hm => ?_
  refine (hadd m [] _ (ISt.put_same _ _ _)).mono ?_
  rintro _ _ rfl
  rw [put_put_same]
  simp -implicitDefEqProofs -dsimp only [go_sem, ↓reduceIte, zE, zB, zA, zM, zS, zL, reduceCtorEq, fits]
  refine (Keys_c gl m _).mono ?_
  rintro _ _ ⟨b, hb, rfl, rfl⟩
  have hbm : m ≠ b := ne_of_st (ISt.put_same st m _) hb
  have hc := Sorted_c gl m b _ ks hk1 (fun k h => hn k ((hk2 k).1 h)) (by omega) _ (ISt.put_same (st.put m _) b _) (by rw [put_ne hbm, ISt.put_same])
  unfold keyFn at hc ⊢
  simp -implicitDefEqProofs -dsimp only [go_sem, ↓reduceIte, zE, zB, zA, zM, zS, zL, reduceCtorEq, fits]
  refine hc.mono ?_
  rintro _ _ ⟨tg, l, rfl, htg, hl, rfl⟩
  simp -implicitDefEqProofs -dsimp only [go_sem, ↓reduceIte, zE, zB, zA, zM, zS, zL, reduceCtorEq, fits]
  refine outK_sub (st' := st) ?_ ⟨tg, l, rfl, htg, ⟨hl.1, fun y => (hl.2 y).trans (hk2 y)⟩, rfl⟩
  exact (subSt_put hm).trans (subSt_put hb)

/-! ### Fresh -/
theorem Values_c (tg : Tag) (l : List ByteArray) (st : ISt) : ICall prog gl 83 [.sl tg (strI l)] st (fun r st' => r = .fn (.func 128) [] [.cptr (.sl tg (strI l))] ∧ st' = st) := by
  refine ICall.intro (c := cf prog gl [] [] [1]) func83 rfl (by show _ ≤ 4; simp) (by kernel_rfl) ?_
  simp -implicitDefEqProofs -dsimp only [go_sem, ↓reduceIte, zE, zB, zA, zM, zS, zL, reduceCtorEq, fits]
  exact outK_self ⟨rfl, rfl⟩
theorem Values1_c (tg : Tag) (htg : okEs tg 1) (l : List ByteArray) (hl : l.length ≤ 1099511627776) (I : Nat → ISt → Prop) : IterC prog gl 128 [] [.cptr (.sl tg (strI l))] (seqX (args1 l)) l.length I := by
  rintro y I' S' st ⟨f, fi, ca, rfl, hfn, hent⟩ _ hy h0
  change ICall prog gl _ [.fn f fi ca, _] st _
  refine ICall.intro (c := cf prog gl [] []) func128 rfl (by show _ ≤ 16; simp) (by kernel_rfl) ?_
  simp -implicitDefEqProofs -dsimp only [go_sem, ↓reduceIte, zE, zB, zA, zM, zS, zL, reduceCtorEq, fits, strI_length]
  intros
  refine LoopC.ctr l.length (fun k fr st' ds => I' k st' ∧ fr 0 = .iv (.fn f fi ca) ∧ fr 5 = .iv (.sl tg (strI l)) ∧ fr 6 = .iv (.raw (.int .i64 l.length)) ∧ fr 7 = .iv (.raw (.int .i64 k)) ∧ ds = []) ?_ ?_ ?_
  · simp -implicitDefEqProofs -dsimp only [go_sem, ↓reduceIte, zE, zB, zA, zM, zS, zL, reduceCtorEq]
    exact ⟨h0, rfl⟩
  · rintro k fr st _ hlt ⟨hI, f0, f5, f6, f7, rfl⟩
    obtain ⟨s, hs⟩ := get_of_lt hlt
    have hcall := YOk.of gl hy k s st hs (by simpa using hI)
    rw [Nat.zero_add] at hcall
    simp -implicitDefEqProofs -dsimp only [go_sem, ↓reduceIte, zE, zB, zA, zM, zS, zL, reduceCtorEq, f0, f5, f6, f7, lt_i hlt, reTag_es htg, Int.natCast_nonneg, strI_get hs]
    refine callV_of_ICallV hent (hcall.mono ?_)
    rintro _ st (⟨rfl, h⟩ | ⟨rfl, h⟩)
    · simp -implicitDefEqProofs -dsimp only [go_sem, ↓reduceIte, zE, zB, zA, zM, zS, zL, reduceCtorEq, f0, f5, f6, f7, w_succ hlt (show l.length ≤ 281474976710656 by omega)]
      exact h
    · simp -implicitDefEqProofs -dsimp only [go_sem, ↓reduceIte, zE, zB, zA, zM, zS, zL, reduceCtorEq]
      exact outK_self (.inr h)
  · rintro fr st _ ⟨hI, f0, f5, f6, f7, rfl⟩
    simp -implicitDefEqProofs -dsimp only [go_sem, ↓reduceIte, zE, zB, zA, zM, zS, zL, reduceCtorEq, f6, f7, nlt_i (Nat.lt_irrefl _)]
    exact outK_self (.inl hI)
theorem Fresh_c (G : Gt gl) (tg : Tag) (htg : okEs tg 1) (l : List ByteArray) (hl : l.length ≤ 1099511627776) (st : ISt) :
    ICall prog gl 48 [.sl tg (strI l)] st (fun r st' => r = .raw (.string (leastN l)) ∧ st' = st) := by
  refine ICall.intro (c := cf prog gl [] []) func48 rfl (by show _ ≤ 8; simp) (by kernel_rfl) ?_
  simp -implicitDefEqProofs -dsimp only [go_sem, ↓reduceIte, zE, zB, zA, zM, zS, zL, reduceCtorEq, fits]
  refine (Values_c gl tg l _).mono ?_
  rintro _ st ⟨rfl, rfl⟩
  simp -implicitDefEqProofs -dsimp only [go_sem, ↓reduceIte, zE, zB, zA, zM, zS, zL, reduceCtorEq, fits]
  refine (set_c gl 128 _ l _ (by simp only [go_sem]) (fun I => Values1_c gl tg htg l hl I)).mono ?_
  rintro _ _ ⟨m, hm, rfl, rfl⟩
  have hc := fun tg htg => least_c gl G [(m, l)] tg htg (by simpa [allM] using hl) (st.put m (some (.map .str (setE l)))) (fun p hp => by
    rw [List.mem_singleton] at hp
    subst hp
    exact ⟨_, ISt.put_same _ _ _, SetOk.ofE l⟩)
  rw [show allM [(m, l)] = l by simp [allM]] at hc
  simp -implicitDefEqProofs -dsimp only [go_sem, ↓reduceIte, zE, zB, zA, zM, zS, zL, reduceCtorEq, fits, inOrder_one]
  refine (hc _ (by simp only [go_sem])).mono ?_
  rintro _ _ ⟨rfl, rfl⟩
  simp -implicitDefEqProofs -dsimp only [go_sem, ↓reduceIte, zE, zB, zA, zM, zS, zL, reduceCtorEq, fits]
  exact outK_sub (subSt_put hm) ⟨rfl, rfl⟩
end Go.Proofs.Tryz
