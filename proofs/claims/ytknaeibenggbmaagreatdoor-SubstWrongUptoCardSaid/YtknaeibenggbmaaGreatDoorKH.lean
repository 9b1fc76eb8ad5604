/- Appending several to a slice of the call's own, in one step.
   Walks: apart. No quantifier of a formula has one of some names, or the name of one around it.
   The law SubstNormals. -/
import Derived.Test.YtknaeibenggbmaaGreatDoorKA
import Derived.Test.YtknaeibenggbmaaGreatDoorKG
set_option linter.all false
namespace Go.Iv
open Go

theorem appV_owns {e : TypeId × Bool × Nat × Nat} {tg : Tag} {zs ys : List IV} {R : Rt} {st S0 : ISt} {ds : List Dfd} {n s m : Nat} (h : own st tg n s S0) (hlen : zs.length = n) (hm : ys.length = m) (hsub : subSt S0 st) (he : e.2.2.1 = s)
    (hf : ys.all (fits e.2.1 e.2.2.1) = true) (hcap : (n + m) * e.2.2.2 ≤ 140737488355328) (hcap2 : n + m ≤ 140737488355328)
    (k : ∀ tg' st', own st' tg' (n + m) s S0 → subSt S0 st' → keepF s st st' → R (.val (.sl tg' (zs ++ ys))) st' ds) : appV e tg zs ys R st ds := by
  subst hlen he hm
  unfold appV
  refine ⟨hf, ⟨hcap, hcap2⟩, ?_⟩
  have hnew : ∀ g, st g = none → ∀ m, subSt S0 (st.put g (some (.front m e.2.2.1))) ∧ keepF e.2.2.1 st (st.put g (some (.front m e.2.2.1))) ∧ S0 g = none := fun g hg m => by
    have h0 := none_sub hsub hg
    refine ⟨subSt_put2 hsub h0, fun b o hb _ => ?_, h0⟩
    rw [ISt.put_apply]
    split
    · rename_i hbg; rw [hbg, hg] at hb; cases hb
    · exact hb
  rcases h with ⟨h0, hc⟩ | rfl | ⟨g0, rfl, h1, h2⟩
  · have hz : zs = [] := List.eq_nil_of_length_eq_zero h0
    subst hz
    rw [hc]
    cases ys with
    | nil => exact k tg st (.inl ⟨rfl, hc⟩) hsub (fun b o hb _ => hb)
    | cons y ys =>
      intro g hg
      obtain ⟨a1, a2, a3⟩ := hnew g hg (y :: ys).length
      exact k _ _ (.inr (.inr ⟨g, rfl, by rw [ISt.put_same]; simp, a3⟩)) a1 a2
  · refine ⟨rfl, ?_⟩
    cases ys with
    | nil =>
      have := k ⟨true, .full, e.2.2.1⟩ st (.inr (.inl rfl)) hsub (fun b o hb _ => hb)
      rwa [List.append_nil] at this
    | cons y ys =>
      intro g hg
      obtain ⟨a1, a2, a3⟩ := hnew g hg (zs.length + (y :: ys).length)
      exact k _ _ (.inr (.inr ⟨g, rfl, ISt.put_same _ _ _, a3⟩)) a1 a2
  · refine ⟨rfl, h1, fun g hg => ?_⟩
    have hgn : S0 g = none := by
      rcases hg with rfl | hg
      · exact h2
      · exact none_sub hsub hg
    refine k _ _ (.inr (.inr ⟨g, rfl, ISt.put_same _ _ _, hgn⟩)) (subSt_put2 (subSt_put2 hsub h2) hgn) (fun b o hb hn => ?_)
    have hb0 : b ≠ g0 := by
      rintro rfl
      rw [h1] at hb
      exact hn _ (Option.some.inj hb).symm
    have hbg : b ≠ g := by
      rcases hg with rfl | hg
      · exact hb0
      · rintro rfl
        rw [hg] at hb; cases hb
    rw [put_ne hbg, put_ne hb0]; exact hb
end Go.Iv

namespace Go.Proofs.Tryz
open Go Go.Iv
set_option maxRecDepth 4000
attribute [local go_sem] cf setAt List.all_cons List.all_nil Bool.and_self Bool.true_and Bool.and_true Bool.false_and Bool.and_false Bool.not_true Bool.not_false List.mem_nil_iff if_false if_true beq_self_eq_true Nat.zero_add Nat.add_zero List.getElem?_cons_zero List.getElem?_cons_succ Option.map_some List.mem_cons or_false false_or or_true true_or Nat.sub_zero forall_const Int.toNat_natCast List.length_cons List.length_nil List.map_cons List.map_nil List.take_succ_cons List.take_zero List.drop_zero List.drop_succ_cons List.cons_append List.nil_append List.append_nil and_true true_and and_self true_implies List.zip_cons_cons List.zip_nil_left
variable (gl : Nat → Option IV)

theorem inOrder_nil : inOrder 0 [] = true := rfl
mutual
noncomputable def apartF : List ByteArray → Fm → Bool
  | names, .mk op n _ sub => if isQ op then !hasB names n && apartFs (names ++ [n]) sub else apartFs names sub
noncomputable def apartFs : List ByteArray → List Fm → Bool
  | _, [] => true
  | names, a :: l => apartF names a && apartFs names l
end
theorem apartFs_append (names : List ByteArray) : ∀ l m : List Fm, apartFs names (l ++ m) = (apartFs names l && apartFs names m)
  | [], m => by simp [apartFs]
  | a :: l, m => by simp only [List.cons_append, apartFs, apartFs_append names l m, Bool.and_assoc]
theorem apartFs_bad {names : List ByteArray} {l : List Fm} {a : Fm} (ha : a ∈ l) (h : apartF names a = false) : apartFs names l = false := by
  obtain ⟨l1, l2, rfl⟩ := List.append_of_mem ha
  rw [apartFs_append]
  simp [apartFs, h]
theorem hasB_true {l : List ByteArray} {s : ByteArray} : hasB l s = true ↔ s ∈ l := by simp [hasB]
theorem hasB_false {l : List ByteArray} {s : ByteArray} : hasB l s = false ↔ s ∉ l := by simp [hasB]
theorem sorted_len : ∀ {r l : List ByteArray}, r.Pairwise ltN → (∀ x ∈ r, x ∈ l) → r.length ≤ l.length
  | [], l, _, _ => Nat.zero_le _
  | a :: r, l, hp, h => by
    obtain ⟨l1, l2, rfl⟩ := List.append_of_mem (h a (by simp))
    obtain ⟨h1, h2⟩ := List.pairwise_cons.1 hp
    have := sorted_len (l := l1 ++ l2) h2 (fun x hx => by
      have hm := h x (List.mem_cons_of_mem _ hx)
      have hne : x ≠ a := fun e => ltN_irr a (e ▸ h1 x hx)
      simp only [List.mem_append, List.mem_cons] at hm ⊢
      rcases hm with hm | hm | hm
      · exact .inl hm
      · exact absurd hm hne
      · exact .inr hm)
    simp only [List.length_cons, List.length_append] at this ⊢
    omega
mutual
theorem normS_apart (free : List ByteArray) : ∀ (f : Fm) (ar : Ar) (names : List ByteArray), (∀ n ∈ names, n ∈ free ∨ n ∈ ar.map (·.2)) → apartF names (normS free ar f) = true
  | .mk op m us sub, ar, names, h => by
    have hl := leastN_not (free ++ ar.map (·.2))
    simp only [normS, apartF]
    cases hq : isQ op
    · simp only [Bool.false_eq_true, if_false]
      exact normSs_apart free sub ar names h
    · simp only [if_true, Bool.and_eq_true, Bool.not_eq_true']
      refine ⟨hasB_false.2 fun hn => ?_, normSs_apart free sub _ _ fun n hn => ?_⟩
      · rcases h _ hn with h1 | h1
        · exact hl (List.mem_append_left _ h1)
        · exact hl (List.mem_append_right _ h1)
      · rw [List.mem_append, List.mem_singleton] at hn
        rcases hn with hn | rfl
        · rcases h _ hn with h1 | h1
          · exact .inl h1
          · exact .inr (by rw [List.map_cons]; exact List.mem_cons_of_mem _ h1)
        · exact .inr (by rw [List.map_cons]; exact List.mem_cons_self)
theorem normSs_apart (free : List ByteArray) : ∀ (l : List Fm) (ar : Ar) (names : List ByteArray), (∀ n ∈ names, n ∈ free ∨ n ∈ ar.map (·.2)) → apartFs names (normSs free ar l) = true
  | [], _, _, _ => rfl
  | a :: l, ar, names, h => by
    simp only [normSs, apartFs, normS_apart free a ar names h, normSs_apart free l ar names h, Bool.and_self]
end

def AP (f : Fm) : Prop := ∀ (names : List ByteArray) (tn : Tag) (_ : okEs tn 1) (_ : names.length + f.size ≤ 1099511627776) (x : IV) (_ : IsFm f x) (st : ISt),
  ICall prog gl 32 [x, .sl tn (strI names)] st (fun r st' => r = .raw (.bool (apartF names f)) ∧ st' = st)
theorem apart_step (op : Nat) (n : ByteArray) (us : List Tm) (sub : List Fm) (IH : ∀ a ∈ sub, AP gl a) : AP gl (.mk op n us sub) := by
  intro names tn htn hsz x hx st
  obtain ⟨t1, x1, t2, x2, rfl, ho, ht1, hx1, ht2, hx2⟩ := hx.mk
  simp only [Fm.size] at hsz
  have hsl := flen_le_size sub
  refine ICall.intro (c := cf prog gl [] [(4, [0, 1, 3, 4, 5, 2, 6, 7])]) func32 rfl (by show _ ≤ 40; simp) (by kernel_rfl) ?_
  by_cases h8 : op = 8
  · have hq : isQ op = true := by rw [h8]; rfl
    simp -implicitDefEqProofs -dsimp only [go_sem, ↓reduceIte, Nat.reduceEqDiff, Nat.reduceBEq, Nat.reduceAdd, Nat.reduceMul, Nat.reduceSub, Nat.reduceLeDiff, reduceCtorEq, fits, show decide ((op : Int) = 8) = true from decide_eq_true (by omega)]
    refine (has_c gl tn names n htn _).mono ?_
    rintro _ st ⟨rfl, rfl⟩
    cases hb : hasB names n
    case true =>
      simp -implicitDefEqProofs -dsimp only [go_sem, ↓reduceIte, Nat.reduceEqDiff, Nat.reduceBEq, Nat.reduceAdd, Nat.reduceMul, Nat.reduceSub, Nat.reduceLeDiff, reduceCtorEq, fits]
      exact outK_self ⟨by simp only [apartF, hq, hb, if_true, Bool.not_true, Bool.false_and], rfl⟩
    have fin : apartF names (.mk op n us sub) = apartFs (names ++ [n]) sub := by simp only [apartF, hq, hb, if_true, Bool.not_false, Bool.true_and]
    simp -implicitDefEqProofs -dsimp only [go_sem, ↓reduceIte, Nat.reduceEqDiff, Nat.reduceBEq, Nat.reduceAdd, Nat.reduceMul, Nat.reduceSub, Nat.reduceLeDiff, reduceCtorEq, fits, inOrder_nil, inOrder_one]
    refine appV_owns (s := 1) (S0 := st) (own.full st st 0 1) rfl (strI_length names) (subSt.refl st) rfl (by simp [fits, IV.one, strI]) (by simp only; omega) (by omega) fun tg1 st1 hown1 hsub1 _ => ?_
    simp -implicitDefEqProofs -dsimp only [go_sem, ↓reduceIte, Nat.reduceEqDiff, Nat.reduceBEq, Nat.reduceAdd, Nat.reduceMul, Nat.reduceSub, Nat.reduceLeDiff, reduceCtorEq, fits, inOrder_one]
    refine appV_own hown1 (by simp [strI_length]) hsub1 rfl (by simp [fits, IV.one]) (by simp only; omega) (by omega) fun tg2 st2 hown2 hsub2 _ => ?_
    have eap : strI names ++ [.raw (.string n)] = strI (names ++ [n]) := by rw [strI_append]; rfl
    try simp only [List.nil_append]
    rw [eap]
    simp -implicitDefEqProofs -dsimp only [go_sem, ↓reduceIte, Nat.reduceEqDiff, Nat.reduceBEq, Nat.reduceAdd, Nat.reduceMul, Nat.reduceSub, Nat.reduceLeDiff, reduceCtorEq, fits]
    refine LoopC.ctr sub.length (fun k fr st' ds => apartFs (names ++ [n]) (sub.take k) = true ∧ fr 1 = .iv (.sl tg2 (strI (names ++ [n]))) ∧ fr 2 = .box [.raw (.int .u8 op), .raw (.string n), .sl t1 x1, .sl t2 x2] ∧ fr 5 = .iv (.raw (.int .i64 k)) ∧ st' = st2 ∧ ds = []) ?_ ?_ ?_
    · simp -implicitDefEqProofs -dsimp only [go_sem, ↓reduceIte, Nat.reduceEqDiff, Nat.reduceBEq, Nat.reduceAdd, Nat.reduceMul, Nat.reduceSub, Nat.reduceLeDiff, reduceCtorEq]
      exact ⟨rfl, rfl⟩
    · rintro k fr st2 _ hlt ⟨hn, f1, f2, f5, rfl, rfl⟩
      obtain ⟨a, ha⟩ := get_of_lt hlt
      obtain ⟨x, hkx, hx⟩ := hx2.get ha
      obtain ⟨hs1, hs2⟩ := sizeFms_take ha
      have hcall := IH a (List.mem_of_getElem? ha) (names ++ [n]) tg2 (hown2.es) (by simp only [List.length_append, List.length_cons, List.length_nil]; omega) x hx st2
      have hbad : apartF (names ++ [n]) a = false → apartFs (names ++ [n]) sub = false := apartFs_bad (List.mem_of_getElem? ha)
      have hnext : apartF (names ++ [n]) a = true → apartFs (names ++ [n]) (sub.take (k + 1)) = true := fun h => by
        rw [take_get ha, apartFs_append, hn]; simp [apartFs, h]
      obtain ⟨o3, n3, t3, x3, t4, x4, rfl⟩ := hx.agg
      simp -implicitDefEqProofs -dsimp only [go_sem, ↓reduceIte, Nat.reduceEqDiff, Nat.reduceBEq, Nat.reduceAdd, Nat.reduceMul, Nat.reduceSub, Nat.reduceLeDiff, reduceCtorEq, f1, f2, f5, hx2.len, lt_i hlt, fits, reTag_es ht2, Int.natCast_nonneg, hkx]
      intros
      refine hcall.mono ?_
      rintro _ st2 ⟨rfl, rfl⟩
      cases hc : apartF (names ++ [n]) a
      · simp -implicitDefEqProofs -dsimp only [go_sem, ↓reduceIte, Nat.reduceEqDiff, Nat.reduceBEq, Nat.reduceAdd, Nat.reduceMul, Nat.reduceSub, Nat.reduceLeDiff, reduceCtorEq, f1, f2, f5]
        exact outK_sub hsub2 ⟨by rw [fin, hbad hc], rfl⟩
      · simp -implicitDefEqProofs -dsimp only [go_sem, ↓reduceIte, Nat.reduceEqDiff, Nat.reduceBEq, Nat.reduceAdd, Nat.reduceMul, Nat.reduceSub, Nat.reduceLeDiff, reduceCtorEq, f1, f2, f5, w_succ hlt (show sub.length ≤ 281474976710656 by omega)]
        exact hnext hc
    · rintro fr st2 _ ⟨hn, f1, f2, f5, rfl, rfl⟩
      rw [List.take_length] at hn
      simp -implicitDefEqProofs -dsimp only [go_sem, ↓reduceIte, Nat.reduceEqDiff, Nat.reduceBEq, Nat.reduceAdd, Nat.reduceMul, Nat.reduceSub, Nat.reduceLeDiff, reduceCtorEq, f1, f2, f5, hx2.len, nlt_i (Nat.lt_irrefl _), fits]
      intros
      exact outK_sub hsub2 ⟨by rw [fin, hn], rfl⟩
  have d8 : decide ((op : Int) = 8) = false := decide_eq_false (by omega)
  by_cases h9 : op = 9
  · have hq : isQ op = true := by rw [h9]; rfl
    simp -implicitDefEqProofs -dsimp only [go_sem, ↓reduceIte, Nat.reduceEqDiff, Nat.reduceBEq, Nat.reduceAdd, Nat.reduceMul, Nat.reduceSub, Nat.reduceLeDiff, reduceCtorEq, fits, d8, show decide ((op : Int) = 9) = true from decide_eq_true (by omega)]
    refine (has_c gl tn names n htn _).mono ?_
    rintro _ st ⟨rfl, rfl⟩
    cases hb : hasB names n
    case true =>
      simp -implicitDefEqProofs -dsimp only [go_sem, ↓reduceIte, Nat.reduceEqDiff, Nat.reduceBEq, Nat.reduceAdd, Nat.reduceMul, Nat.reduceSub, Nat.reduceLeDiff, reduceCtorEq, fits]
      exact outK_self ⟨by simp only [apartF, hq, hb, if_true, Bool.not_true, Bool.false_and], rfl⟩
    have fin : apartF names (.mk op n us sub) = apartFs (names ++ [n]) sub := by simp only [apartF, hq, hb, if_true, Bool.not_false, Bool.true_and]
    simp -implicitDefEqProofs -dsimp only [go_sem, ↓reduceIte, Nat.reduceEqDiff, Nat.reduceBEq, Nat.reduceAdd, Nat.reduceMul, Nat.reduceSub, Nat.reduceLeDiff, reduceCtorEq, fits, inOrder_nil, inOrder_one]
    refine appV_owns (s := 1) (S0 := st) (own.full st st 0 1) rfl (strI_length names) (subSt.refl st) rfl (by simp [fits, IV.one, strI]) (by simp only; omega) (by omega) fun tg1 st1 hown1 hsub1 _ => ?_
    simp -implicitDefEqProofs -dsimp only [go_sem, ↓reduceIte, Nat.reduceEqDiff, Nat.reduceBEq, Nat.reduceAdd, Nat.reduceMul, Nat.reduceSub, Nat.reduceLeDiff, reduceCtorEq, fits, inOrder_one]
    refine appV_own hown1 (by simp [strI_length]) hsub1 rfl (by simp [fits, IV.one]) (by simp only; omega) (by omega) fun tg2 st2 hown2 hsub2 _ => ?_
    have eap : strI names ++ [.raw (.string n)] = strI (names ++ [n]) := by rw [strI_append]; rfl
    try simp only [List.nil_append]
    rw [eap]
    simp -implicitDefEqProofs -dsimp only [go_sem, ↓reduceIte, Nat.reduceEqDiff, Nat.reduceBEq, Nat.reduceAdd, Nat.reduceMul, Nat.reduceSub, Nat.reduceLeDiff, reduceCtorEq, fits]
    refine LoopC.ctr sub.length (fun k fr st' ds => apartFs (names ++ [n]) (sub.take k) = true ∧ fr 1 = .iv (.sl tg2 (strI (names ++ [n]))) ∧ fr 2 = .box [.raw (.int .u8 op), .raw (.string n), .sl t1 x1, .sl t2 x2] ∧ fr 5 = .iv (.raw (.int .i64 k)) ∧ st' = st2 ∧ ds = []) ?_ ?_ ?_
    · simp -implicitDefEqProofs -dsimp only [go_sem, ↓reduceIte, Nat.reduceEqDiff, Nat.reduceBEq, Nat.reduceAdd, Nat.reduceMul, Nat.reduceSub, Nat.reduceLeDiff, reduceCtorEq]
      exact ⟨rfl, rfl⟩
    · rintro k fr st2 _ hlt ⟨hn, f1, f2, f5, rfl, rfl⟩
      obtain ⟨a, ha⟩ := get_of_lt hlt
      obtain ⟨x, hkx, hx⟩ := hx2.get ha
      obtain ⟨hs1, hs2⟩ := sizeFms_take ha
      have hcall := IH a (List.mem_of_getElem? ha) (names ++ [n]) tg2 (hown2.es) (by simp only [List.length_append, List.length_cons, List.length_nil]; omega) x hx st2
      have hbad : apartF (names ++ [n]) a = false → apartFs (names ++ [n]) sub = false := apartFs_bad (List.mem_of_getElem? ha)
      have hnext : apartF (names ++ [n]) a = true → apartFs (names ++ [n]) (sub.take (k + 1)) = true := fun h => by
        rw [take_get ha, apartFs_append, hn]; simp [apartFs, h]
      obtain ⟨o3, n3, t3, x3, t4, x4, rfl⟩ := hx.agg
      simp -implicitDefEqProofs -dsimp only [go_sem, ↓reduceIte, Nat.reduceEqDiff, Nat.reduceBEq, Nat.reduceAdd, Nat.reduceMul, Nat.reduceSub, Nat.reduceLeDiff, reduceCtorEq, f1, f2, f5, hx2.len, lt_i hlt, fits, reTag_es ht2, Int.natCast_nonneg, hkx]
      intros
      refine hcall.mono ?_
      rintro _ st2 ⟨rfl, rfl⟩
      cases hc : apartF (names ++ [n]) a
      · simp -implicitDefEqProofs -dsimp only [go_sem, ↓reduceIte, Nat.reduceEqDiff, Nat.reduceBEq, Nat.reduceAdd, Nat.reduceMul, Nat.reduceSub, Nat.reduceLeDiff, reduceCtorEq, f1, f2, f5]
        exact outK_sub hsub2 ⟨by rw [fin, hbad hc], rfl⟩
      · simp -implicitDefEqProofs -dsimp only [go_sem, ↓reduceIte, Nat.reduceEqDiff, Nat.reduceBEq, Nat.reduceAdd, Nat.reduceMul, Nat.reduceSub, Nat.reduceLeDiff, reduceCtorEq, f1, f2, f5, w_succ hlt (show sub.length ≤ 281474976710656 by omega)]
        exact hnext hc
    · rintro fr st2 _ ⟨hn, f1, f2, f5, rfl, rfl⟩
      rw [List.take_length] at hn
      simp -implicitDefEqProofs -dsimp only [go_sem, ↓reduceIte, Nat.reduceEqDiff, Nat.reduceBEq, Nat.reduceAdd, Nat.reduceMul, Nat.reduceSub, Nat.reduceLeDiff, reduceCtorEq, f1, f2, f5, hx2.len, nlt_i (Nat.lt_irrefl _), fits]
      intros
      exact outK_sub hsub2 ⟨by rw [fin, hn], rfl⟩
  have hq : isQ op = false := by simp [isQ, h8, h9]
  have fin : apartF names (.mk op n us sub) = apartFs names sub := by simp only [apartF, hq, Bool.false_eq_true, if_false]
  simp -implicitDefEqProofs -dsimp only [go_sem, ↓reduceIte, Nat.reduceEqDiff, Nat.reduceBEq, Nat.reduceAdd, Nat.reduceMul, Nat.reduceSub, Nat.reduceLeDiff, reduceCtorEq, fits, d8, show decide ((op : Int) = 9) = false from decide_eq_false (by omega)]
  refine LoopC.ctr sub.length (fun k fr st' ds => apartFs (names) (sub.take k) = true ∧ fr 1 = .iv (.sl tn (strI (names))) ∧ fr 2 = .box [.raw (.int .u8 op), .raw (.string n), .sl t1 x1, .sl t2 x2] ∧ fr 5 = .iv (.raw (.int .i64 k)) ∧ st' = st ∧ ds = []) ?_ ?_ ?_
  · simp -implicitDefEqProofs -dsimp only [go_sem, ↓reduceIte, Nat.reduceEqDiff, Nat.reduceBEq, Nat.reduceAdd, Nat.reduceMul, Nat.reduceSub, Nat.reduceLeDiff, reduceCtorEq]
    exact ⟨rfl, rfl⟩
  · rintro k fr st _ hlt ⟨hn, f1, f2, f5, rfl, rfl⟩
    obtain ⟨a, ha⟩ := get_of_lt hlt
    obtain ⟨x, hkx, hx⟩ := hx2.get ha
    obtain ⟨hs1, hs2⟩ := sizeFms_take ha
    have hcall := IH a (List.mem_of_getElem? ha) (names) tn (htn) (by omega) x hx st
    have hbad : apartF (names) a = false → apartFs (names) sub = false := apartFs_bad (List.mem_of_getElem? ha)
    have hnext : apartF (names) a = true → apartFs (names) (sub.take (k + 1)) = true := fun h => by
      rw [take_get ha, apartFs_append, hn]; simp [apartFs, h]
    obtain ⟨o3, n3, t3, x3, t4, x4, rfl⟩ := hx.agg
    simp -implicitDefEqProofs -dsimp only [go_sem, ↓reduceIte, Nat.reduceEqDiff, Nat.reduceBEq, Nat.reduceAdd, Nat.reduceMul, Nat.reduceSub, Nat.reduceLeDiff, reduceCtorEq, f1, f2, f5, hx2.len, lt_i hlt, fits, reTag_es ht2, Int.natCast_nonneg, hkx]
    intros
    refine hcall.mono ?_
    rintro _ st ⟨rfl, rfl⟩
    cases hc : apartF (names) a
    · simp -implicitDefEqProofs -dsimp only [go_sem, ↓reduceIte, Nat.reduceEqDiff, Nat.reduceBEq, Nat.reduceAdd, Nat.reduceMul, Nat.reduceSub, Nat.reduceLeDiff, reduceCtorEq, f1, f2, f5]
      exact outK_self ⟨by rw [fin, hbad hc], rfl⟩
    · simp -implicitDefEqProofs -dsimp only [go_sem, ↓reduceIte, Nat.reduceEqDiff, Nat.reduceBEq, Nat.reduceAdd, Nat.reduceMul, Nat.reduceSub, Nat.reduceLeDiff, reduceCtorEq, f1, f2, f5, w_succ hlt (show sub.length ≤ 281474976710656 by omega)]
      exact hnext hc
  · rintro fr st _ ⟨hn, f1, f2, f5, rfl, rfl⟩
    rw [List.take_length] at hn
    simp -implicitDefEqProofs -dsimp only [go_sem, ↓reduceIte, Nat.reduceEqDiff, Nat.reduceBEq, Nat.reduceAdd, Nat.reduceMul, Nat.reduceSub, Nat.reduceLeDiff, reduceCtorEq, f1, f2, f5, hx2.len, nlt_i (Nat.lt_irrefl _), fits]
    intros
    exact outK_self ⟨by rw [fin, hn], rfl⟩
theorem apart_all : ∀ (k : Nat) (t : Fm), SizeOf.sizeOf t < k → AP gl t
  | 0, f, h => by omega
  | k + 1, .mk o n us sub, h => apart_step gl o n us sub (fun a ha => apart_all k a (by
      have := List.sizeOf_lt_of_mem ha
      simp at h; omega))
theorem apart_c (t : Fm) : AP gl t := apart_all gl _ t (Nat.lt_succ_self _)
end Go.Proofs.Tryz

namespace Go.Proofs.Tryz
open Go Go.Iv
set_option maxRecDepth 4000
attribute [local go_sem] cf setAt List.all_cons List.all_nil Bool.and_self Bool.true_and Bool.and_true Bool.false_and Bool.and_false Bool.not_true Bool.not_false List.mem_nil_iff if_false if_true beq_self_eq_true Nat.zero_add Nat.add_zero List.getElem?_cons_zero List.getElem?_cons_succ Option.map_some List.mem_cons or_false false_or or_true true_or Nat.sub_zero forall_const Int.toNat_natCast List.length_cons List.length_nil List.map_cons List.map_nil List.take_succ_cons List.take_zero List.drop_zero List.drop_succ_cons List.cons_append List.nil_append List.append_nil and_true true_and and_self true_implies List.zip_cons_cons List.zip_nil_left
variable (gl : Nat → Option IV)

theorem SubstNormals_c (G : Gl gl) (T : Gt gl) (f g : Fm) (x y : IV) (hx : IsFm f x) (hy : IsFm g y) (hb1 : bulkF f + bulkF g ≤ 1125899906842000) (st : ISt) :
    ICall prog gl 7 [x, y] st (fun r st' => r = .raw (.bool true) ∧ st' = st) := by
  have hsmall := fun tg htg st => Small_c gl [f, g] tg [x, y] htg ⟨x, [y], rfl, hx, IsFms.one hy⟩ (by simp only [bulkFs]; omega) st
  have hfsz := Fm.size_bulk f
  have hgsz := Fm.size_bulk g
  have hright := fun f x hx hs st => Right_c gl G f x hx st hs
  have hnorm := fun f x hx hs st => Normal_c gl G T f x hx hs st
  have halpha := fun f g x y hx hy hs hs' st => Alpha_c gl G f g x y hx hy hs hs' st
  have hsame := fun f g x y hx hy st => Same_c gl f g x y hx hy st
  have hfree := fun f x hx hs hn st => Free_c gl f x hx hs hn st
  have hnodes := fun f x hx hs st => Nodes_c gl f x hx hs st
  have hx0 := hx
  have hy0 := hy
  obtain ⟨o0, n0, ta, xa, tb, xb, rfl⟩ := hx.agg
  obtain ⟨o1, n1, tc, xc, td, xd, rfl⟩ := hy.agg
  refine ICall.intro (c := cf prog gl [] [(9, [0, 1, 2, 3, 4, 5, 6, 7, 8, 9, 10, 11, 12, 13, 14, 15, 16, 17, 19, 18, 20, 21, 22, 23, 24, 25, 26, 27, 28, 29, 30, 31, 32, 33, 34, 35, 37, 36, 38, 39, 40])]) func7 rfl (by show _ ≤ 115; simp) (by kernel_rfl) ?_
  simp -implicitDefEqProofs -dsimp only [go_sem, ↓reduceIte, Nat.reduceEqDiff, Nat.reduceBEq, Nat.reduceAdd, Nat.reduceMul, Nat.reduceSub, Nat.reduceLeDiff, reduceCtorEq, fits]
  refine (awake_c gl G T _).mono ?_
  rintro _ st ⟨rfl, rfl⟩
  simp -implicitDefEqProofs -dsimp only [go_sem, ↓reduceIte, Nat.reduceEqDiff, Nat.reduceBEq, Nat.reduceAdd, Nat.reduceMul, Nat.reduceSub, Nat.reduceLeDiff, reduceCtorEq, fits, inOrder_two]
  refine (hsmall _ (by simp only [go_sem]) _).mono ?_
  rintro _ st ⟨rfl, rfl⟩
  by_cases hz : bulkFs [f, g] ≤ 500
  case neg =>
    simp -implicitDefEqProofs -dsimp only [go_sem, ↓reduceIte, Nat.reduceEqDiff, Nat.reduceBEq, Nat.reduceAdd, Nat.reduceMul, Nat.reduceSub, Nat.reduceLeDiff, reduceCtorEq, fits, decide_eq_false hz]
    exact outK_self ⟨rfl, rfl⟩
  have hz' : bulkF f + bulkF g ≤ 500 := by simpa [bulkFs] using hz
  simp -implicitDefEqProofs -dsimp only [go_sem, ↓reduceIte, Nat.reduceEqDiff, Nat.reduceBEq, Nat.reduceAdd, Nat.reduceMul, Nat.reduceSub, Nat.reduceLeDiff, reduceCtorEq, fits, decide_eq_true hz]
  refine (hright f _ hx0 (by omega) _).mono ?_
  rintro _ st ⟨rfl, rfl⟩
  cases hr : f.right
  · simp -implicitDefEqProofs -dsimp only [go_sem, ↓reduceIte, Nat.reduceEqDiff, Nat.reduceBEq, Nat.reduceAdd, Nat.reduceMul, Nat.reduceSub, Nat.reduceLeDiff, reduceCtorEq, fits]
    exact outK_self ⟨rfl, rfl⟩
  simp -implicitDefEqProofs -dsimp only [go_sem, ↓reduceIte, Nat.reduceEqDiff, Nat.reduceBEq, Nat.reduceAdd, Nat.reduceMul, Nat.reduceSub, Nat.reduceLeDiff, reduceCtorEq, fits]
  refine (hright g _ hy0 (by omega) _).mono ?_
  rintro _ st ⟨rfl, rfl⟩
  cases hrg : g.right
  · simp -implicitDefEqProofs -dsimp only [go_sem, ↓reduceIte, Nat.reduceEqDiff, Nat.reduceBEq, Nat.reduceAdd, Nat.reduceMul, Nat.reduceSub, Nat.reduceLeDiff, reduceCtorEq, fits]
    exact outK_self ⟨rfl, rfl⟩
  have z0 : decide (((0 : Nat) : Int) = 0) = true := rfl
  have hE : NormalS f = (normF f, 0) := by simp [NormalS, hr]
  have hG : NormalS g = (normF g, 0) := by simp [NormalS, hrg]
  have hnr := normF_right hr
  have hmr := normF_right hrg
  have hA : NormalS (normF f) = (normF (normF f), 0) := by simp [NormalS, hnr]
  obtain ⟨f1, f2, f3⟩ := right_ok hr
  obtain ⟨g1, g2, g3⟩ := right_ok hrg
  obtain ⟨m1, m2, m3⟩ := right_ok hnr
  obtain ⟨k1, k2, k3⟩ := right_ok hmr
  have p1 := hnorm f _ hx0 (by omega)
  have p2 := hnorm g _ hy0 (by omega)
  simp only [hE] at p1
  simp only [hG] at p2
  simp -implicitDefEqProofs -dsimp only [go_sem, ↓reduceIte, Nat.reduceEqDiff, Nat.reduceBEq, Nat.reduceAdd, Nat.reduceMul, Nat.reduceSub, Nat.reduceLeDiff, reduceCtorEq, fits]
  refine (p1 _).mono ?_
  rintro _ st ⟨xn, rfl, hn, rfl⟩
  have hn0 := hn
  obtain ⟨o2, n2, t3, x3, t4, x4, rfl⟩ := hn.agg
  simp -implicitDefEqProofs -dsimp only [go_sem, ↓reduceIte, Nat.reduceEqDiff, Nat.reduceBEq, Nat.reduceAdd, Nat.reduceMul, Nat.reduceSub, Nat.reduceLeDiff, reduceCtorEq, fits]
  refine (p2 _).mono ?_
  rintro _ st ⟨xm, rfl, hm, rfl⟩
  have hm0 := hm
  obtain ⟨o3, n3, t5, x5, t6, x6, rfl⟩ := hm.agg
  have p3 := hnorm (normF f) _ hn0 (by omega)
  simp only [hA] at p3
  simp -implicitDefEqProofs -dsimp only [go_sem, ↓reduceIte, Nat.reduceEqDiff, Nat.reduceBEq, Nat.reduceAdd, Nat.reduceMul, Nat.reduceSub, Nat.reduceLeDiff, reduceCtorEq, fits]
  refine (p3 _).mono ?_
  rintro _ st ⟨xq, rfl, hq, rfl⟩
  have hq0 := hq
  obtain ⟨o4, n4, t7, x7, t8, x8, rfl⟩ := hq.agg
  simp -implicitDefEqProofs -dsimp only [go_sem, ↓reduceIte, Nat.reduceEqDiff, Nat.reduceBEq, Nat.reduceAdd, Nat.reduceMul, Nat.reduceSub, Nat.reduceLeDiff, reduceCtorEq, fits]
  refine (hfree f _ hx0 (by omega) (fun q hq => by have := nm_size (frF_ok f f1 q hq); omega) _).mono ?_
  rintro _ st ⟨tl, l, rfl, htl, hl, rfl⟩
  simp -implicitDefEqProofs -dsimp only [go_sem, ↓reduceIte, Nat.reduceEqDiff, Nat.reduceBEq, Nat.reduceAdd, Nat.reduceMul, Nat.reduceSub, Nat.reduceLeDiff, reduceCtorEq, fits, z0]
  refine (hsame _ _ _ _ hq0 hn0 _).mono ?_
  rintro _ st ⟨rfl, rfl⟩
  simp -implicitDefEqProofs -dsimp only [go_sem, ↓reduceIte, Nat.reduceEqDiff, Nat.reduceBEq, Nat.reduceAdd, Nat.reduceMul, Nat.reduceSub, Nat.reduceLeDiff, reduceCtorEq, fits, eqB_true.2 (normF_idem hr)]
  refine (hfree (normF f) _ hn0 (by omega) (fun q hq => by have := nm_size (frF_ok _ m1 q hq); omega) _).mono ?_
  rintro _ st ⟨tl2, l2, rfl, htl2, hl2, rfl⟩
  rw [normF_frF hr] at hl2
  have hll : l2 = l := SortedOf.eq hl2 hl
  subst hll
  simp -implicitDefEqProofs -dsimp only [go_sem, ↓reduceIte, Nat.reduceEqDiff, Nat.reduceBEq, Nat.reduceAdd, Nat.reduceMul, Nat.reduceSub, Nat.reduceLeDiff, reduceCtorEq, fits]
  refine (SameNames_c gl tl2 tl l2 l2 htl2 htl _).mono ?_
  rintro _ st ⟨rfl, rfl⟩
  have hap : apartF l2 (normF f) = true := normS_apart (frF f) f [] l2 (fun n hn => .inl ((hl.2 n).1 hn))
  have hlen : l2.length ≤ 400 := by
    have h1 := sorted_len hl.1 (fun x hx => (hl.2 x).1 hx)
    have h2 := frF_le f
    omega
  simp -implicitDefEqProofs -dsimp only [go_sem, ↓reduceIte, Nat.reduceEqDiff, Nat.reduceBEq, Nat.reduceAdd, Nat.reduceMul, Nat.reduceSub, Nat.reduceLeDiff, reduceCtorEq, fits, eqB_true.2 (rfl : l2 = l2)]
  refine (apart_c gl (normF f) l2 tl htl (by omega) _ hn0 _).mono ?_
  rintro _ st ⟨rfl, rfl⟩
  simp -implicitDefEqProofs -dsimp only [go_sem, ↓reduceIte, Nat.reduceEqDiff, Nat.reduceBEq, Nat.reduceAdd, Nat.reduceMul, Nat.reduceSub, Nat.reduceLeDiff, reduceCtorEq, fits, hap]
  refine (hright _ _ hn0 (by omega) _).mono ?_
  rintro _ st ⟨rfl, rfl⟩
  simp -implicitDefEqProofs -dsimp only [go_sem, ↓reduceIte, Nat.reduceEqDiff, Nat.reduceBEq, Nat.reduceAdd, Nat.reduceMul, Nat.reduceSub, Nat.reduceLeDiff, reduceCtorEq, fits, hnr]
  refine (hnodes _ _ hn0 (by omega) _).mono ?_
  rintro _ st ⟨rfl, rfl⟩
  simp -implicitDefEqProofs -dsimp only [go_sem, ↓reduceIte, Nat.reduceEqDiff, Nat.reduceBEq, Nat.reduceAdd, Nat.reduceMul, Nat.reduceSub, Nat.reduceLeDiff, reduceCtorEq, fits]
  refine (hnodes _ _ hx0 (by omega) _).mono ?_
  rintro _ st ⟨rfl, rfl⟩
  have hsz : (normF f).size = f.size := (normS_size (frF f) f [] f1).1
  simp -implicitDefEqProofs -dsimp only [go_sem, ↓reduceIte, Nat.reduceEqDiff, Nat.reduceBEq, Nat.reduceAdd, Nat.reduceMul, Nat.reduceSub, Nat.reduceLeDiff, reduceCtorEq, fits, hsz, decide_true]
  refine (hsame _ _ _ _ hn0 hm0 _).mono ?_
  rintro _ st ⟨rfl, rfl⟩
  have q1 : alphaB f g = eqB (normF f) (normF g) := by
    rw [alphaB_true hr hrg, Bool.eq_iff_iff, eqB_true, eqB_true]; exact (normF_alpha hr hrg).symm
  have q2 : alphaB g f = eqB (normF f) (normF g) := by
    rw [alphaB_true hrg hr, Bool.eq_iff_iff, eqB_true, eqB_true]
    exact ⟨fun h => (normF_alpha hr hrg).2 h.symm, fun h => ((normF_alpha hr hrg).1 h).symm⟩
  have q3 : alphaB f f = true := by rw [alphaB_true hr hr, eqB_true]
  have q4 : alphaB (normF f) g = eqB (normF f) (normF g) := by
    rw [alphaB_true hnr hrg, Bool.eq_iff_iff, eqB_true, eqB_true, dbF_normF f1]; exact (normF_alpha hr hrg).symm
  simp -implicitDefEqProofs -dsimp only [go_sem, ↓reduceIte, Nat.reduceEqDiff, Nat.reduceBEq, Nat.reduceAdd, Nat.reduceMul, Nat.reduceSub, Nat.reduceLeDiff, reduceCtorEq, fits]
  refine (halpha f g _ _ hx0 hy0 (by omega) (by omega) _).mono ?_
  rintro _ st ⟨rfl, rfl⟩
  simp -implicitDefEqProofs -dsimp only [go_sem, ↓reduceIte, Nat.reduceEqDiff, Nat.reduceBEq, Nat.reduceAdd, Nat.reduceMul, Nat.reduceSub, Nat.reduceLeDiff, reduceCtorEq, fits, q1, decide_true]
  refine (halpha g f _ _ hy0 hx0 (by omega) (by omega) _).mono ?_
  rintro _ st ⟨rfl, rfl⟩
  simp -implicitDefEqProofs -dsimp only [go_sem, ↓reduceIte, Nat.reduceEqDiff, Nat.reduceBEq, Nat.reduceAdd, Nat.reduceMul, Nat.reduceSub, Nat.reduceLeDiff, reduceCtorEq, fits, q2, decide_true]
  refine (halpha f f _ _ hx0 hx0 (by omega) (by omega) _).mono ?_
  rintro _ st ⟨rfl, rfl⟩
  simp -implicitDefEqProofs -dsimp only [go_sem, ↓reduceIte, Nat.reduceEqDiff, Nat.reduceBEq, Nat.reduceAdd, Nat.reduceMul, Nat.reduceSub, Nat.reduceLeDiff, reduceCtorEq, fits, q3]
  refine (halpha (normF f) g _ _ hn0 hy0 (by omega) (by omega) _).mono ?_
  rintro _ st ⟨rfl, rfl⟩
  simp -implicitDefEqProofs -dsimp only [go_sem, ↓reduceIte, Nat.reduceEqDiff, Nat.reduceBEq, Nat.reduceAdd, Nat.reduceMul, Nat.reduceSub, Nat.reduceLeDiff, reduceCtorEq, fits, q4, decide_true]
  exact outK_self ⟨rfl, rfl⟩
end Go.Proofs.Tryz
