/- One putting behind another: plain data.
   Walks: PutTerm.
   The law SubstLemma: the stage's theorem. -/
import Derived.Test.YtknaeibenggbmaaGreatDoorKJ
set_option linter.all false
namespace Go.Proofs.Tryz
open Go Go.Iv

mutual
theorem dsub_dsub (σ τ : ByteArray → NlT) : ∀ d : NlT, dsub σ (dsub τ d) = dsub (fun n => dsub σ (τ n)) d
  | .bv i => rfl
  | .fv n => rfl
  | .ap n l => by simp only [dsub, dsubs_dsubs σ τ l]
theorem dsubs_dsubs (σ τ : ByteArray → NlT) : ∀ l : List NlT, dsubs σ (dsubs τ l) = dsubs (fun n => dsub σ (τ n)) l
  | [] => rfl
  | a :: l => by simp only [dsubs, dsub_dsub σ τ a, dsubs_dsubs σ τ l]
end
mutual
theorem dsubF_dsubF (σ τ : ByteArray → NlT) : ∀ d : NlF, dsubF σ (dsubF τ d) = dsubF (fun n => dsub σ (τ n)) d
  | .mk op n us sub => by simp only [dsubF, dsubs_dsubs σ τ us, dsubFs_dsubFs σ τ sub]
theorem dsubFs_dsubFs (σ τ : ByteArray → NlT) : ∀ l : List NlF, dsubFs σ (dsubFs τ l) = dsubFs (fun n => dsub σ (τ n)) l
  | [] => rfl
  | a :: l => by simp only [dsubFs, dsubF_dsubF σ τ a, dsubFs_dsubFs σ τ l]
end
mutual
theorem dsub_cong {σ τ : ByteArray → NlT} : ∀ d : NlT, (∀ n ∈ frT d, σ n = τ n) → dsub σ d = dsub τ d
  | .bv i, _ => rfl
  | .fv n, h => h n (by simp [frT])
  | .ap n l, h => by simp only [dsub, dsubs_cong l (by simpa [frT] using h)]
theorem dsubs_cong {σ τ : ByteArray → NlT} : ∀ l : List NlT, (∀ n ∈ frTs l, σ n = τ n) → dsubs σ l = dsubs τ l
  | [], _ => rfl
  | a :: l, h => by
    simp only [frTs, List.mem_append] at h
    simp only [dsubs, dsub_cong a (fun n hn => h n (.inl hn)), dsubs_cong l (fun n hn => h n (.inr hn))]
end
mutual
theorem dsubF_cong {σ τ : ByteArray → NlT} : ∀ d : NlF, (∀ n ∈ frD d, σ n = τ n) → dsubF σ d = dsubF τ d
  | .mk op n us sub, h => by
    simp only [frD, List.mem_append] at h
    simp only [dsubF, dsubs_cong us (fun n hn => h n (.inl hn)), dsubFs_cong sub (fun n hn => h n (.inr hn))]
theorem dsubFs_cong {σ τ : ByteArray → NlT} : ∀ l : List NlF, (∀ n ∈ frDs l, σ n = τ n) → dsubFs σ l = dsubFs τ l
  | [], _ => rfl
  | a :: l, h => by
    simp only [frDs, List.mem_append] at h
    simp only [dsubFs, dsubF_cong a (fun n hn => h n (.inl hn)), dsubFs_cong l (fun n hn => h n (.inr hn))]
end
/-- A term for a variable, nameless. -/
def sub1 (x : ByteArray) (t : Tm) (n : ByteArray) : NlT := if x = n then db [] t else .fv n
theorem form_db1 {f : Fm} (hf : f.ok = true) (x : ByteArray) (t : Tm) : dbF [] (formS (freeS [(x, t)] (frF f)) f) = dsubF (sub1 x t) (dbF [] f) := by
  rw [dbF_form0 f _ hf]
  refine dsubF_cong _ fun n hn => ?_
  rw [frD_db0 hf] at hn
  unfold sgm sub1
  rw [free_one]
  by_cases h : x = n
  · subst h
    rw [if_pos (memB_iff.2 hn), look_one, if_pos rfl, if_pos rfl]; rfl
  · rw [if_neg h]
    have : (lookS (if memB (frF f) x = true then [(x, t)] else []) n).getD (.mk true n []) = .mk true n [] := by
      split
      · rw [look_one, if_neg h]; rfl
      · rfl
    rw [this]
    simp [db, lookV, lookE]
theorem term_db1 {t : Tm} (ht : t.ok = true) (y : ByteArray) (s : Tm) : db [] (mapTm (lookS [(y, s)]) t) = dsub (sub1 y s) (db [] t) := by
  refine db_map [] [] (sub1 y s) (lookS [(y, s)]) t ht fun n _ => ?_
  rw [look_one]
  simp only [lookV, lookE, dsub, sub1]
  split
  · rfl
  · simp [db, lookV, lookE]
mutual
theorem mapTm_size {F : ByteArray → Option Tm} {K : Nat} (hK : 1 ≤ K) (hF : ∀ n u, F n = some u → u.size ≤ K) : ∀ t : Tm, (mapTm F t).size ≤ t.size * K
  | .mk true n us => by
    have ih := mapTms_size hK hF us
    simp only [mapTm]
    split
    · rename_i u hu
      have := hF n u hu
      simp only [Tm.size, Nat.add_mul, Nat.one_mul]
      omega
    · simp only [Tm.size, Nat.add_mul, Nat.one_mul]
      omega
  | .mk false n us => by
    have ih := mapTms_size hK hF us
    simp only [mapTm, Tm.size, Nat.add_mul, Nat.one_mul]
    omega
theorem mapTms_size {F : ByteArray → Option Tm} {K : Nat} (hK : 1 ≤ K) (hF : ∀ n u, F n = some u → u.size ≤ K) : ∀ l : List Tm, sizeTms (mapTms F l) ≤ sizeTms l * K
  | [] => by simp [mapTms, sizeTms]
  | a :: l => by
    have h1 := mapTm_size hK hF a
    have h2 := mapTms_size hK hF l
    simp only [mapTms, sizeTms, Nat.add_mul]
    omega
end
/-- The stage's theorem. -/
theorem puts_swap {f : Fm} {x y : ByteArray} {t s : Tm} (ht : t.size ≤ 1000) (hsz : s.size ≤ 1000) (hxy : x ≠ y) (hx : x ∉ namesTm s) (h1 : (PutsS f [(x, t)]).2 = 0) (h2 : (PutsS (PutsS f [(x, t)]).1 [(y, s)]).2 = 0) (h3 : (PutsS f [(y, s)]).2 = 0) :
    (PutsS (PutsS f [(y, s)]).1 [(x, mapTm (lookS [(y, s)]) t)]).2 = 0 ∧
      alphaB (PutsS (PutsS f [(x, t)]).1 [(y, s)]).1 (PutsS (PutsS f [(y, s)]).1 [(x, mapTm (lookS [(y, s)]) t)]).1 = true := by
  obtain ⟨f1, gx, a1, a2, _⟩ := puts_ok (l := [(x, t)]) (by simp only [wS]; omega) h1
  obtain ⟨_, gy, b1, b2, _⟩ := puts_ok (l := [(y, s)]) (by simp only [wS]; omega) h3
  obtain ⟨_, _, c1, c2, _⟩ := puts_ok (l := [(y, s)]) (by simp only [wS]; omega) h2
  have tok : t.ok = true := goodL_ok gx (x, t) (by simp)
  have sok : s.ok = true := goodL_ok gy (y, s) (by simp)
  have hvx : nmVar x = true := ((goodL_nodup _ _ gx).2 (x, t) (by simp)).2.2
  have fok := (right_ok f1).1
  have bok := (right_ok b2).1
  have bsz := (right_ok b2).2.1
  have hboth : (mapTm (lookS [(y, s)]) t).ok = true := mapTm_ok _ (fun n u hu => by
    rw [look_one] at hu
    split at hu
    · cases hu; exact sok
    · cases hu) t tok
  have hbs : (mapTm (lookS [(y, s)]) t).size ≤ 1000 * 1000 := by
    have := mapTm_size (F := lookS [(y, s)]) (K := s.size) (Tm.size_pos s) (fun n u hu => by
      rw [look_one] at hu
      split at hu
      · cases hu; exact Nat.le_refl _
      · cases hu) t
    exact Nat.le_trans this (Nat.mul_le_mul ht hsz)
  have hg : goodL [] [(x, mapTm (lookS [(y, s)]) t)] = true := by simp [goodL, hvx, hboth, memB]
  generalize hB : (PutsS f [(y, s)]).1 = q at b1 b2 bok bsz ⊢
  generalize hboth' : mapTm (lookS [(y, s)]) t = both at hboth hbs hg ⊢
  have hfo := formS_ok q (freeS [(x, both)] (frF q)) bok (okS_free (goodL_ok hg)) (by
    have := wS_filter (fun p => memB (frF q) p.1) [(x, both)]
    unfold freeS
    simp only [wS] at this
    omega)
  have hd : dbF [] (formS (freeS [(x, both)] (frF q)) q) = dbF [] (PutsS (PutsS f [(x, t)]).1 [(y, s)]).1 := by
    rw [form_db1 bok, b1, form_db1 fok, dsubF_dsubF, c1, form_db1 (right_ok a2).1, a1, form_db1 fok, dsubF_dsubF]
    congr 1
    funext n
    by_cases hn : x = n
    · subst hn
      have e1 : sub1 y s x = .fv x := by unfold sub1; rw [if_neg (Ne.symm hxy)]
      have e2 : sub1 x t x = db [] t := by unfold sub1; rw [if_pos rfl]
      rw [e1, e2, ← term_db1 tok, hboth']
      simp [dsub, sub1]
    · have e2 : sub1 x t n = .fv n := by unfold sub1; rw [if_neg hn]
      rw [e2]
      by_cases hy : y = n
      · subst hy
        have e1 : sub1 y s y = db [] s := by unfold sub1; rw [if_pos rfl]
        show dsub (sub1 x both) (sub1 y s y) = sub1 y s y
        rw [e1]
        have := dsub_cong (σ := sub1 x both) (τ := .fv) (db [] s) (fun m hm => by
          rw [frT_db0 s sok] at hm
          unfold sub1
          rw [if_neg (fun e : x = m => hx (e ▸ hm))])
        rw [this, dsub_fv]
      · have e1 : sub1 y s n = .fv n := by unfold sub1; rw [if_neg hy]
        show dsub (sub1 x both) (sub1 y s n) = sub1 y s n
        rw [e1]
        simp [dsub, sub1, hn]
  obtain ⟨k1, k2⟩ := same_size hfo (right_ok c2).1 hd
  obtain ⟨_, c3, c4⟩ := right_ok c2
  have hP : PutsS q [(x, both)] = (formS (freeS [(x, both)] (frF q)) q, 0) := by
    unfold PutsS
    rw [b2, hg, k1, k2, decide_eq_true c3, decide_eq_true c4]
    rfl
  refine ⟨by rw [hP], ?_⟩
  rw [hP]
  rw [alphaB_true c2 (right_of hfo (by omega) (by omega)), eqB_true]
  exact hd.symm
mutual
theorem names_bulk : ∀ t : Tm, ∀ n ∈ namesTm t, n.size ≤ 40 * bulkT t
  | .mk true m us, n, hn => by
    simp only [namesTm, List.mem_cons] at hn
    simp only [bulkT]
    rcases hn with rfl | hn
    · omega
    · have := namess_bulk us n hn; omega
  | .mk false m us, n, hn => by
    simp only [namesTm] at hn
    have := namess_bulk us n hn
    simp only [bulkT]; omega
theorem namess_bulk : ∀ l : List Tm, ∀ n ∈ namesTms l, n.size ≤ 40 * bulkTs l
  | [], n, hn => by cases hn
  | a :: l, n, hn => by
    simp only [namesTms, List.mem_append] at hn
    simp only [bulkTs]
    rcases hn with hn | hn
    · have := names_bulk a n hn; omega
    · have := namess_bulk l n hn; omega
end
end Go.Proofs.Tryz

namespace Go.Proofs.Tryz
open Go Go.Iv
set_option maxRecDepth 4000
attribute [local go_sem] cf setAt List.all_cons List.all_nil Bool.and_self Bool.true_and Bool.and_true Bool.false_and Bool.and_false Bool.not_true Bool.not_false List.mem_nil_iff if_false if_true beq_self_eq_true Nat.zero_add Nat.add_zero List.getElem?_cons_zero List.getElem?_cons_succ Option.map_some List.mem_cons or_false false_or or_true true_or Nat.sub_zero forall_const Int.toNat_natCast List.length_cons List.length_nil List.map_cons List.map_nil List.take_succ_cons List.take_zero List.drop_zero List.drop_succ_cons List.cons_append List.nil_append List.append_nil and_true true_and and_self true_implies List.zip_cons_cons List.zip_nil_left
variable (gl : Nat → Option IV)

/-- A map that holds what is put. -/
def MapOk (es : List (Value × IV)) (l : Sb) : Prop := ∀ n, match lookS l n with
  | some u => ∃ x, findI (.string n) es = some x ∧ IsTm u x
  | none => findI (.string n) es = none
theorem look_append (l : Sb) (o : ByteArray × Tm) (n : ByteArray) : lookS (l ++ [o]) n = match lookS l n with | some u => some u | none => if o.1 = n then some o.2 else none := by
  unfold lookS
  rw [List.find?_append]
  cases hq : l.find? (fun p => decide (p.1 = n)) with
  | some p => rfl
  | none =>
    simp only [Option.none_or, Option.map_none]
    by_cases h : o.1 = n <;> simp [List.find?, h]
theorem PutTerm1_c (nm : ByteArray) (b m : Nat) (l : Sb) (es : List (Value × IV)) (hes : MapOk es l) (st : ISt) (hb : st b = some (.box [.raw (.map (some m))])) (hm : st m = some (.map .str es)) :
    ICall prog gl 77 [.raw (.string nm), .raw (.pointer (some ⟨b, 0, none⟩))] st (MPost (lookS l) nm st) := by
  have h := hes nm
  cases hl : lookS l nm with
  | none =>
    rw [hl] at h
    refine ICall.intro (c := cf prog gl [] []) func77 rfl (by show _ ≤ 15; simp) (by kernel_rfl) ?_
    simp -implicitDefEqProofs -dsimp only [go_sem, ↓reduceIte, Nat.reduceEqDiff, Nat.reduceBEq, Nat.reduceAdd, Nat.reduceMul, Nat.reduceSub, Nat.reduceLeDiff, reduceCtorEq, fits, hb, hm, h, lookI_none]
    refine outK_self ⟨rfl, .mk false ⟨#[]⟩ [], _, ?_, by rw [hl]; rfl, fun w hw => by rw [hl] at hw; cases hw⟩
    exact ⟨_, [], rfl, .inl rfl, rfl⟩
  | some u =>
    rw [hl] at h
    obtain ⟨x, hx, hu⟩ := h
    have hu0 := hu
    obtain ⟨v, n, t1, x1, rfl⟩ := hu.agg
    refine ICall.intro (c := cf prog gl [] []) func77 rfl (by show _ ≤ 15; simp) (by kernel_rfl) ?_
    simp -implicitDefEqProofs -dsimp only [go_sem, ↓reduceIte, Nat.reduceEqDiff, Nat.reduceBEq, Nat.reduceAdd, Nat.reduceMul, Nat.reduceSub, Nat.reduceLeDiff, reduceCtorEq, fits, hb, hm, hx, lookI_some]
    exact outK_self ⟨rfl, u, _, hu0, by rw [hl]; rfl, fun w hw => by rw [hl] at hw; exact (Option.some.inj hw).symm⟩

theorem PutTerm_d (t : Tm) (x : IV) (hx : IsTm t x) (l : Sb) (tg : Tag) (xs : List IV) (htg : okEs tg 4) (hxs : IsOnes l xs) (ht : t.size ≤ 1000000) (hl : l.length ≤ 1000000) (hls : ∀ p ∈ l, p.2.size ≤ 1000000) (st : ISt) :
    ICall prog gl 41 [x, .sl tg xs] st (fun r st' => IsTmD (mapTm (lookS l) t) r ∧ st' = st) := by
  have hx0 := hx
  obtain ⟨v, n, t1, x1, rfl⟩ := hx.agg
  refine ICall.intro (c := cf prog gl [5] []) func41 rfl (by show _ ≤ 35; simp) (by kernel_rfl) ?_
  simp -implicitDefEqProofs -dsimp only [go_sem, ↓reduceIte, Nat.reduceEqDiff, Nat.reduceBEq, Nat.reduceAdd, Nat.reduceMul, Nat.reduceSub, Nat.reduceLeDiff, reduceCtorEq, fits]
  refine fun m => giv_intro fun hm => ?_
  simp -implicitDefEqProofs -dsimp only [go_sem, ↓reduceIte, Nat.reduceEqDiff, Nat.reduceBEq, Nat.reduceAdd, Nat.reduceMul, Nat.reduceSub, Nat.reduceLeDiff, reduceCtorEq, fits, hxs.len]
  refine fun b => giv_intro fun hb => ?_
  have hbm : b ≠ m := fun e => by rw [e, ISt.put_same] at hb; cases hb
  rw [put_ne hbm] at hb
  intros
  refine LoopC.ctr l.length (fun k fr st' ds => (∃ es, MapOk es (l.take k) ∧ st' m = some (.map .str es) ∧ st' b = some (.box [.raw (.map (some m))]) ∧ subSt st st') ∧ fr 2 = .box [.raw (.bool v), .raw (.string n), .sl t1 x1] ∧ fr 4 = .box [.raw (.bool false), .raw (.string ⟨#[]⟩), .sl ⟨true, .nil, 0⟩ []] ∧
    fr 5 = .iv (.raw (.pointer (some ⟨b, 0, none⟩))) ∧ fr 11 = .iv (.sl tg xs) ∧ fr 12 = .iv (.raw (.int .i64 l.length)) ∧ fr 13 = .iv (.raw (.int .i64 k)) ∧ ds = []) ?_ ?_ ?_
  · simp -implicitDefEqProofs -dsimp only [go_sem, ↓reduceIte, Nat.reduceEqDiff, Nat.reduceBEq, Nat.reduceAdd, Nat.reduceMul, Nat.reduceSub, Nat.reduceLeDiff, reduceCtorEq]
    exact ⟨⟨[], fun n => rfl, by rw [put_ne (Ne.symm hbm), put_ne (Ne.symm hbm), ISt.put_same], by first | exact ISt.put_same _ _ _ | exact ⟨ISt.put_same _ _ _, subSt_put2 (subSt_put2 (subSt_put2 (subSt.refl st) hm) hb) hb⟩ | exact subSt_put2 (subSt_put2 (subSt_put2 (subSt.refl st) hm) hb) hb⟩, rfl⟩
  · rintro k fr st1 _ hlt ⟨⟨es, hes, h1, h2, hsub⟩, f2, f4, f5, f11, f12, f13, rfl⟩
    obtain ⟨⟨nm, u⟩, ho⟩ := get_of_lt hlt
    obtain ⟨y, hky, v3, n3, t3, x3, hy, hu⟩ := hxs.get ho
    subst hy
    have he := hes nm
    cases hl1 : lookS (l.take k) nm with
    | some w =>
      rw [hl1] at he
      obtain ⟨yw, hyw, hw⟩ := he
      obtain ⟨v4, n4, t4, x4, rfl⟩ := hw.agg
      simp -implicitDefEqProofs -dsimp only [go_sem, ↓reduceIte, Nat.reduceEqDiff, Nat.reduceBEq, Nat.reduceAdd, Nat.reduceMul, Nat.reduceSub, Nat.reduceLeDiff, reduceCtorEq, f2, f4, f5, f11, f12, f13, h1, h2, lt_i hlt, reTag_es htg, Int.natCast_nonneg, hky, fits, hyw, lookI_some, w_succ hlt (show l.length ≤ 281474976710656 by omega)]
      refine ⟨es, fun n' => ?_, by first | exact ⟨h1, h2, hsub⟩ | exact ⟨rfl, h2, hsub⟩ | exact ⟨h1, hsub⟩ | exact ⟨rfl, hsub⟩ | exact hsub⟩
      rw [take_get ho, look_append]
      have hn := hes n'
      cases hl2 : lookS (l.take k) n' with
      | some w' => rw [hl2] at hn; exact hn
      | none =>
        rw [hl2] at hn
        have hne : ¬ nm = n' := fun e => by rw [← e, hl1] at hl2; cases hl2
        simp only [if_neg hne]
        exact hn
    | none =>
      rw [hl1] at he
      simp -implicitDefEqProofs -dsimp only [go_sem, ↓reduceIte, Nat.reduceEqDiff, Nat.reduceBEq, Nat.reduceAdd, Nat.reduceMul, Nat.reduceSub, Nat.reduceLeDiff, reduceCtorEq, f2, f4, f5, f11, f12, f13, h1, h2, lt_i hlt, reTag_es htg, Int.natCast_nonneg, hky, fits, he, lookI_none, w_succ hlt (show l.length ≤ 281474976710656 by omega)]
      have hs2 : ∀ o, subSt st (st1.put m o) := fun o => subSt_put2 hsub hm
      have hb2 : ∀ o, (st1.put m o) b = some (.box [.raw (.map (some m))]) := fun o => by rw [put_ne hbm]; exact h2
      refine ⟨_, fun n' => ?_, by first | exact ⟨ISt.put_same _ _ _, hb2 _, hs2 _⟩ | exact ⟨rfl, hb2 _, hs2 _⟩ | exact ⟨rfl, hs2 _⟩⟩
      rw [take_get ho, look_append]
      have hn := hes n'
      cases hl2 : lookS (l.take k) n' with
      | some w' =>
        rw [hl2] at hn
        obtain ⟨yw, hyw, hw⟩ := hn
        have hne : ¬ n' = nm := fun e => by rw [e, hl1] at hl2; cases hl2
        exact ⟨yw, by rw [findI_updI, if_neg hne]; exact hyw, hw⟩
      | none =>
        rw [hl2] at hn
        by_cases hnm : nm = n'
        · simp only [if_pos hnm]
          exact ⟨_, by rw [findI_updI, if_pos hnm.symm], hu⟩
        · simp only [if_neg hnm]
          rw [findI_updI, if_neg (Ne.symm hnm)]; exact hn
  · rintro fr st1 _ ⟨⟨es, hes, h1, h2, hsub⟩, f2, f4, f5, f11, f12, f13, rfl⟩
    rw [List.take_length] at hes
    have hcall := mapTerm_c gl (lookS l) (fun nm u h => by
        unfold lookS at h
        obtain ⟨p, hp, rfl⟩ := Option.map_eq_some_iff.1 h
        have := hls p (List.mem_of_find?_eq_some hp)
        omega) t _ hx0 (by omega) (.func 77) [] [.raw (.pointer (some ⟨b, 0, none⟩))] rfl (fun i hi => by cases hi; simp only [go_sem]) st1
      (fun nm s hs => ICallV.of_ICall (by simp only [go_sem]) (PutTerm1_c gl nm b m l es hes s (hs b _ h2) (hs m _ h1))) st1 (subSt.refl _)
    simp -implicitDefEqProofs -dsimp only [go_sem, ↓reduceIte, Nat.reduceEqDiff, Nat.reduceBEq, Nat.reduceAdd, Nat.reduceMul, Nat.reduceSub, Nat.reduceLeDiff, reduceCtorEq, f2, f4, f5, f11, f12, f13, nlt_i (Nat.lt_irrefl _), fits]
    refine hcall.mono ?_
    rintro r _ ⟨hr, rfl⟩
    have hr0 := hr
    obtain ⟨v6, n6, t6, x6, rfl⟩ := hr.agg
    simp -implicitDefEqProofs -dsimp only [go_sem, ↓reduceIte, Nat.reduceEqDiff, Nat.reduceBEq, Nat.reduceAdd, Nat.reduceMul, Nat.reduceSub, Nat.reduceLeDiff, reduceCtorEq, f2, f4, f5, f11, f12, f13, fits]
    exact outK_sub hsub ⟨hr0, rfl⟩
theorem PutTerm_c (t : Tm) (x : IV) (hx : IsTm t x) (l : Sb) (tg : Tag) (xs : List IV) (htg : okEs tg 4) (hxs : IsOnes l xs) (ht : t.size ≤ 1000000) (hl : l.length ≤ 1000000) (hls : ∀ p ∈ l, p.2.size ≤ 1000000) (st : ISt) :
    ICall prog gl 41 [x, .sl tg xs] st (fun r st' => IsTm (mapTm (lookS l) t) r ∧ st' = st) := (PutTerm_d gl t x hx l tg xs htg hxs ht hl hls st).mono fun _ _ h => ⟨h.1.1, h.2⟩
end Go.Proofs.Tryz

namespace Go.Proofs.Tryz
open Go Go.Iv
set_option maxRecDepth 4000
attribute [local go_sem] cf setAt List.all_cons List.all_nil Bool.and_self Bool.true_and Bool.and_true Bool.false_and Bool.and_false Bool.not_true Bool.not_false List.mem_nil_iff if_false if_true beq_self_eq_true Nat.zero_add Nat.add_zero List.getElem?_cons_zero List.getElem?_cons_succ Option.map_some List.mem_cons or_false false_or or_true true_or Nat.sub_zero forall_const Int.toNat_natCast List.length_cons List.length_nil List.map_cons List.map_nil List.take_succ_cons List.take_zero List.drop_zero List.drop_succ_cons List.cons_append List.nil_append List.append_nil and_true true_and and_self true_implies List.zip_cons_cons List.zip_nil_left
variable (gl : Nat → Option IV)

theorem puts_err {f : Fm} {l : Sb} (h : (PutsS f l).2 ≠ 0) : (PutsS f l).1 = fm0 ∧ ((PutsS f l).2 = 2 ∨ (PutsS f l).2 = 3) := by
  unfold PutsS at h ⊢
  split
  · rename_i h1
    rw [if_pos h1] at h
    split
    · rename_i h2
      rw [if_pos h2] at h
      exact absurd rfl h
    · exact ⟨rfl, .inr rfl⟩
  · exact ⟨rfl, .inl rfl⟩
theorem few_bulk {l : Sb} (h : fewB l = true) : ∀ p ∈ l, bulkT p.2 ≤ 100 := by
  simp only [fewB, Bool.and_eq_true, decide_eq_true_eq, List.all_eq_true] at h
  intro p hp
  have h2 := h.2 p hp
  simp only [oneB, Bool.and_eq_true, decide_eq_true_eq] at h2
  omega
theorem SubstLemma_c (G : Gl gl) (T : Gt gl) (f : Fm) (z : IV) (hz : IsFm f z) (x y : ByteArray) (t : Tm) (u : IV) (hu : IsTm t u) (s : Tm) (w : IV) (hw : IsTm s w) (hb1 : bulkF f ≤ 1125899906842000) (hb2 : bulkT t ≤ 1125899906842000) (hb3 : bulkT s ≤ 1125899906842000) (st : ISt) :
    ICall prog gl 12 [z, .raw (.string x), .raw (.string y), u, w] st (fun r st' => r = .raw (.bool true) ∧ st' = st) := by
  have hsmall := fun tg htg st => Small_c gl [f] tg [z] htg (IsFms.one hz) (by simpa [bulkFs] using hb1) st
  have hfsz := Fm.size_bulk f
  have htsz := Tm.size_bulk t
  have hssz := Tm.size_bulk s
  have hput := fun f x hx hs nm t y hy ht st => Put_c gl G T f x hx hs nm t y hy ht st
  have hft := fun hs hn st => FreeTerm_c gl s w hw hs hn st
  have halpha := fun f g x y hx hy hs hs' st => Alpha_c gl G f g x y hx hy hs hs' st
  have hsame := fun f g x y hx hy st => Same_c gl f g x y hx hy st
  have hz0 := hz
  have hu0 := hu
  have hw0 := hw
  obtain ⟨o0, n0, ta, xa, tb, xb, rfl⟩ := hz.agg
  obtain ⟨v1, n1, t1, x1, rfl⟩ := hu.agg
  obtain ⟨v2, n2, t2, x2, rfl⟩ := hw.agg
  have hones1 : IsOnes [(y, s)] [.agg [.raw (.string y), .raw (.bool v2), .raw (.string n2), .sl t2 x2]] := ⟨_, [], rfl, ⟨v2, n2, t2, x2, rfl, hw0⟩, rfl⟩
  have hones2 : IsOnes [(x, t), (y, s)] [.agg [.raw (.string x), .raw (.bool v1), .raw (.string n1), .sl t1 x1], .agg [.raw (.string y), .raw (.bool v2), .raw (.string n2), .sl t2 x2]] := ⟨_, _, rfl, ⟨v1, n1, t1, x1, rfl, hu0⟩, hones1⟩
  have hfew := fun tg htg st => few_c gl [(x, t), (y, s)] tg _ htg hones2 (fun o ho => by
    simp only [List.mem_cons, List.not_mem_nil, or_false] at ho
    rcases ho with rfl | rfl
    · exact hb2
    · exact hb3) st
  refine ICall.intro (c := cf prog gl [] []) func12 rfl (by show _ ≤ 104; simp) (by kernel_rfl) ?_
  simp -implicitDefEqProofs -dsimp only [go_sem, ↓reduceIte, Nat.reduceEqDiff, Nat.reduceBEq, Nat.reduceAdd, Nat.reduceMul, Nat.reduceSub, Nat.reduceLeDiff, reduceCtorEq, fits]
  refine (awake_c gl G T _).mono ?_
  rintro _ st ⟨rfl, rfl⟩
  simp -implicitDefEqProofs -dsimp only [go_sem, ↓reduceIte, Nat.reduceEqDiff, Nat.reduceBEq, Nat.reduceAdd, Nat.reduceMul, Nat.reduceSub, Nat.reduceLeDiff, reduceCtorEq, fits, inOrder_one]
  refine (hsmall _ (by simp only [go_sem]) _).mono ?_
  rintro _ st ⟨rfl, rfl⟩
  by_cases hq : bulkFs [f] ≤ 500
  case neg =>
    simp -implicitDefEqProofs -dsimp only [go_sem, ↓reduceIte, Nat.reduceEqDiff, Nat.reduceBEq, Nat.reduceAdd, Nat.reduceMul, Nat.reduceSub, Nat.reduceLeDiff, reduceCtorEq, fits, decide_eq_false hq]
    exact outK_self ⟨rfl, rfl⟩
  have hq' : bulkF f ≤ 500 := by simpa [bulkFs] using hq
  simp -implicitDefEqProofs -dsimp only [go_sem, ↓reduceIte, Nat.reduceEqDiff, Nat.reduceBEq, Nat.reduceAdd, Nat.reduceMul, Nat.reduceSub, Nat.reduceLeDiff, reduceCtorEq, fits, decide_eq_true hq, inOrder_one, inOrder_two]
  refine (hfew _ (by simp only [go_sem]) _).mono ?_
  rintro _ st ⟨rfl, rfl⟩
  cases hfw : fewB [(x, t), (y, s)]
  · simp -implicitDefEqProofs -dsimp only [go_sem, ↓reduceIte, Nat.reduceEqDiff, Nat.reduceBEq, Nat.reduceAdd, Nat.reduceMul, Nat.reduceSub, Nat.reduceLeDiff, reduceCtorEq, fits]
    exact outK_self ⟨rfl, rfl⟩
  have htl := (few_size hfw).2 (x, t) (by simp)
  have hsl := (few_size hfw).2 (y, s) (by simp)
  have hsb := few_bulk hfw (y, s) (by simp)
  simp only at htl hsl hsb
  by_cases hxy : x = y
  · simp -implicitDefEqProofs -dsimp only [go_sem, ↓reduceIte, Nat.reduceEqDiff, Nat.reduceBEq, Nat.reduceAdd, Nat.reduceMul, Nat.reduceSub, Nat.reduceLeDiff, reduceCtorEq, fits, decide_eq_true hxy]
    exact outK_self ⟨rfl, rfl⟩
  simp -implicitDefEqProofs -dsimp only [go_sem, ↓reduceIte, Nat.reduceEqDiff, Nat.reduceBEq, Nat.reduceAdd, Nat.reduceMul, Nat.reduceSub, Nat.reduceLeDiff, reduceCtorEq, fits, decide_eq_false hxy]
  refine (hft (by omega) (fun n hn => by have := names_bulk s n hn; omega) _).mono ?_
  rintro _ st ⟨tl, l, rfl, htl2, hl, rfl⟩
  simp -implicitDefEqProofs -dsimp only [go_sem, ↓reduceIte, Nat.reduceEqDiff, Nat.reduceBEq, Nat.reduceAdd, Nat.reduceMul, Nat.reduceSub, Nat.reduceLeDiff, reduceCtorEq, fits]
  refine (has_c gl tl l x htl2 _).mono ?_
  rintro _ st ⟨rfl, rfl⟩
  rw [hasB_sorted hl]
  cases hm : memB (namesTm s) x
  case true =>
    simp -implicitDefEqProofs -dsimp only [go_sem, ↓reduceIte, Nat.reduceEqDiff, Nat.reduceBEq, Nat.reduceAdd, Nat.reduceMul, Nat.reduceSub, Nat.reduceLeDiff, reduceCtorEq, fits]
    exact outK_self ⟨rfl, rfl⟩
  simp -implicitDefEqProofs -dsimp only [go_sem, ↓reduceIte, Nat.reduceEqDiff, Nat.reduceBEq, Nat.reduceAdd, Nat.reduceMul, Nat.reduceSub, Nat.reduceLeDiff, reduceCtorEq, fits]
  refine (hput f _ hz0 (by omega) x t _ hu0 (by omega) _).mono ?_
  rintro _ st ⟨a, rfl, ha, rfl⟩
  have ha0 := ha
  obtain ⟨o3, n3, ta1, xa1, ta2, xa2, rfl⟩ := ha.agg
  by_cases h1 : (PutsS f [(x, t)]).2 = 0
  case neg =>
    obtain ⟨e1, e2⟩ := puts_err h1
    have d0 : decide (((PutsS f [(x, t)]).2 : Int) = 0) = false := decide_eq_false (by omega)
    rw [e1] at ha0
    simp -implicitDefEqProofs -dsimp only [go_sem, ↓reduceIte, Nat.reduceEqDiff, Nat.reduceBEq, Nat.reduceAdd, Nat.reduceMul, Nat.reduceSub, Nat.reduceLeDiff, reduceCtorEq, fits, d0]
    refine (hsame fm0 fm0 _ _ ha0 (fm0_v _ _ (.inl rfl) (.inl rfl)) _).mono ?_
    rintro _ st ⟨rfl, rfl⟩
    rcases e2 with e2 | e2
    · have d2 : decide (((PutsS f [(x, t)]).2 : Int) = 2) = true := decide_eq_true (by rw [e2]; rfl)
      simp -implicitDefEqProofs -dsimp only [go_sem, ↓reduceIte, Nat.reduceEqDiff, Nat.reduceBEq, Nat.reduceAdd, Nat.reduceMul, Nat.reduceSub, Nat.reduceLeDiff, reduceCtorEq, fits, eqB_true.2 (rfl : fm0 = fm0), d2]
      exact outK_self ⟨rfl, rfl⟩
    · have d2 : decide (((PutsS f [(x, t)]).2 : Int) = 2) = false := decide_eq_false (by omega)
      have d3 : decide (((PutsS f [(x, t)]).2 : Int) = 3) = true := decide_eq_true (by rw [e2]; rfl)
      simp -implicitDefEqProofs -dsimp only [go_sem, ↓reduceIte, Nat.reduceEqDiff, Nat.reduceBEq, Nat.reduceAdd, Nat.reduceMul, Nat.reduceSub, Nat.reduceLeDiff, reduceCtorEq, fits, eqB_true.2 (rfl : fm0 = fm0), d2, d3]
      exact outK_self ⟨rfl, rfl⟩
  have d1 : decide (((PutsS f [(x, t)]).2 : Int) = 0) = true := decide_eq_true (by rw [h1]; rfl)
  have ps1 := puts_size f [(x, t)]
  have ps2 := puts_size f [(y, s)]
  have ps3 := puts_size (PutsS f [(x, t)]).1 [(y, s)]
  simp -implicitDefEqProofs -dsimp only [go_sem, ↓reduceIte, Nat.reduceEqDiff, Nat.reduceBEq, Nat.reduceAdd, Nat.reduceMul, Nat.reduceSub, Nat.reduceLeDiff, reduceCtorEq, fits, d1]
  refine (hput _ _ ha0 (by omega) y s _ hw0 (by omega) _).mono ?_
  rintro _ st ⟨a2, rfl, hA, rfl⟩
  have hA0 := hA
  obtain ⟨o4, n4, ta3, xa3, ta4, xa4, rfl⟩ := hA.agg
  simp -implicitDefEqProofs -dsimp only [go_sem, ↓reduceIte, Nat.reduceEqDiff, Nat.reduceBEq, Nat.reduceAdd, Nat.reduceMul, Nat.reduceSub, Nat.reduceLeDiff, reduceCtorEq, fits]
  refine (hput f _ hz0 (by omega) y s _ hw0 (by omega) _).mono ?_
  rintro _ st ⟨b, rfl, hb, rfl⟩
  have hb0 := hb
  obtain ⟨o5, n5, tb1, xb1, tb2, xb2, rfl⟩ := hb.agg
  by_cases h2 : (PutsS (PutsS f [(x, t)]).1 [(y, s)]).2 = 0
  case neg =>
    have d2 : decide (((PutsS (PutsS f [(x, t)]).1 [(y, s)]).2 : Int) = 0) = false := decide_eq_false (by omega)
    simp -implicitDefEqProofs -dsimp only [go_sem, ↓reduceIte, Nat.reduceEqDiff, Nat.reduceBEq, Nat.reduceAdd, Nat.reduceMul, Nat.reduceSub, Nat.reduceLeDiff, reduceCtorEq, fits, d2]
    exact outK_self ⟨rfl, rfl⟩
  have d2 : decide (((PutsS (PutsS f [(x, t)]).1 [(y, s)]).2 : Int) = 0) = true := decide_eq_true (by rw [h2]; rfl)
  by_cases h3 : (PutsS f [(y, s)]).2 = 0
  case neg =>
    have d3 : decide (((PutsS f [(y, s)]).2 : Int) = 0) = false := decide_eq_false (by omega)
    simp -implicitDefEqProofs -dsimp only [go_sem, ↓reduceIte, Nat.reduceEqDiff, Nat.reduceBEq, Nat.reduceAdd, Nat.reduceMul, Nat.reduceSub, Nat.reduceLeDiff, reduceCtorEq, fits, d2, d3]
    exact outK_self ⟨rfl, rfl⟩
  have d3 : decide (((PutsS f [(y, s)]).2 : Int) = 0) = true := decide_eq_true (by rw [h3]; rfl)
  obtain ⟨k1, k2⟩ := puts_swap (f := f) (x := x) (y := y) (t := t) (s := s) (by omega) (by omega) hxy (memB_not.1 hm) h1 h2 h3
  have ps4 := puts_size (PutsS f [(y, s)]).1 [(x, mapTm (lookS [(y, s)]) t)]
  have hbs : (mapTm (lookS [(y, s)]) t).size ≤ 1000000 := by
    have := mapTm_size (F := lookS [(y, s)]) (K := s.size) (Tm.size_pos s) (fun n u hu => by
      rw [look_one] at hu
      split at hu
      · cases hu; exact Nat.le_refl _
      · cases hu) t
    exact Nat.le_trans this (Nat.le_trans (Nat.mul_le_mul (show t.size ≤ 1000 by omega) (show s.size ≤ 1000 by omega)) (by omega))
  have d4 : decide (((PutsS (PutsS f [(y, s)]).1 [(x, mapTm (lookS [(y, s)]) t)]).2 : Int) = 0) = true := decide_eq_true (by rw [k1]; rfl)
  simp -implicitDefEqProofs -dsimp only [go_sem, ↓reduceIte, Nat.reduceEqDiff, Nat.reduceBEq, Nat.reduceAdd, Nat.reduceMul, Nat.reduceSub, Nat.reduceLeDiff, reduceCtorEq, fits, d2, d3, inOrder_one, inOrder_two]
  refine (PutTerm_c gl t _ hu0 [(y, s)] _ _ (.inr rfl) hones1 (by omega) (by simp) (fun p hp => by rw [List.mem_singleton] at hp; subst hp; simp only; omega) _).mono ?_
  rintro bt st ⟨hbt, rfl⟩
  have hbt0 := hbt
  obtain ⟨v5, n6, t5, x5, rfl⟩ := hbt.agg
  simp -implicitDefEqProofs -dsimp only [go_sem, ↓reduceIte, Nat.reduceEqDiff, Nat.reduceBEq, Nat.reduceAdd, Nat.reduceMul, Nat.reduceSub, Nat.reduceLeDiff, reduceCtorEq, fits]
  refine (hput _ _ hb0 (by omega) x _ _ hbt0 hbs _).mono ?_
  rintro _ st ⟨B, rfl, hB, rfl⟩
  have hB0 := hB
  obtain ⟨o7, n7, tc1, xc1, tc2, xc2, rfl⟩ := hB.agg
  simp -implicitDefEqProofs -dsimp only [go_sem, ↓reduceIte, Nat.reduceEqDiff, Nat.reduceBEq, Nat.reduceAdd, Nat.reduceMul, Nat.reduceSub, Nat.reduceLeDiff, reduceCtorEq, fits, d4]
  refine (halpha _ _ _ _ hA0 hB0 (by omega) (by omega) _).mono ?_
  rintro _ st ⟨rfl, rfl⟩
  simp -implicitDefEqProofs -dsimp only [go_sem, ↓reduceIte, Nat.reduceEqDiff, Nat.reduceBEq, Nat.reduceAdd, Nat.reduceMul, Nat.reduceSub, Nat.reduceLeDiff, reduceCtorEq, fits, k2]
  exact outK_self ⟨rfl, rfl⟩
end Go.Proofs.Tryz
