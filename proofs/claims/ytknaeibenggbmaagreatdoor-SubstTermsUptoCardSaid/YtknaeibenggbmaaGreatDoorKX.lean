/- The law SubstTerms. -/
import Derived.Test.YtknaeibenggbmaaGreatDoorKW
import Derived.Test.YtknaeibenggbmaaGreatDoorLB
set_option linter.all false
namespace Go.Proofs.Tryz
open Go Go.Iv
set_option maxRecDepth 4000
attribute [local go_sem] cf setAt List.all_cons List.all_nil Bool.and_self Bool.true_and Bool.and_true Bool.false_and Bool.and_false Bool.not_true Bool.not_false List.mem_nil_iff if_false if_true beq_self_eq_true Nat.zero_add Nat.add_zero List.getElem?_cons_zero List.getElem?_cons_succ Option.map_some List.mem_cons or_false false_or or_true true_or Nat.sub_zero forall_const Int.toNat_natCast List.length_cons List.length_nil List.map_cons List.map_nil List.take_succ_cons List.take_zero List.drop_zero List.drop_succ_cons List.cons_append List.nil_append List.append_nil and_true true_and and_self true_implies List.zip_cons_cons List.zip_nil_left
variable {gl : Nat → Option IV}

def OwnT (st st' : ISt) (u : Tm) (y : IV) : Prop := subSt st st' ∧ flatSt st' ∧ rawSt st' ∧ ∃ ti v n a, IsTm u ti ∧ OI st' y ti ∧ y = .agg [.raw (.bool v), .raw (.string n), .raw a] ∧ IV.one (.raw a) = true
theorem own_TmD {f : FuncId} {args : List IV} {st : ISt} {u : Tm} (hnb : noBx st) (hfl : flatSt st) (hgl : agedG gl) (h : ICall prog gl f (ages args) st (fun r st' => IsTmD u r ∧ st' = st)) :
    ICall prog gl f args st (fun y st' => OwnT st st' u y) := by
  refine (ICall.own (K := fun r => IsTm u r) hfl hgl (h.mono ?_)).mono ?_
  · rintro r st' ⟨hy, rfl⟩
    exact ⟨rfl, hy.2, hy.1⟩
  · rintro y st' ⟨h1, h2, h3, ti, hti, ho, hy⟩
    refine ⟨h1, h2, h3 hnb.raw, ti, ?_⟩
    obtain ⟨v, n, us⟩ := u
    have hti0 := hti
    obtain ⟨t, xs, rfl, _⟩ := hti.mk
    have ho0 := ho
    cases ho with
    | refl => simp only [rawY, rawYs] at hy; exact hy.2.2.1.elim
    | agg rs _ hl h =>
      simp only [rawY] at hy
      match rs, hl with
      | [r0, r1, r2], _ =>
        have e0 := (h 0 _ _ rfl rfl).raw_eq
        have e1 := (h 1 _ _ rfl rfl).raw_eq
        have e2 := h 2 _ _ rfl rfl
        subst e0 e1
        have y2 := rawYs_mem hy (show r2 ∈ [_, _, r2] by simp)
        have o2 : r2.one = true := by cases e2 with | refl => exact y2.elim | nil => rfl | sl => rfl
        have q2 : ∃ v, r2 = .raw v := by cases e2 with | refl => exact y2.elim | nil => exact ⟨_, rfl⟩ | sl => exact ⟨_, rfl⟩
        obtain ⟨a, rfl⟩ := q2
        exact ⟨_, _, a, hti0, ho0, rfl, o2⟩
/-- A slice of one term that is owned. -/
theorem OI.one {st : ISt} {b : Nat} {rs : List IV} {ti : IV} {u : Tm} (hu : IsTm u ti) (ho : OI st (.agg rs) ti) (hb : st b = none) :
    OI (st.put b (some (.box rs))) (.raw (.slice (some ⟨b, 0, none⟩) 1 1)) (.sl ⟨false, .app b, 3⟩ [ti]) := by
  obtain ⟨v, n, us⟩ := u
  obtain ⟨t, xs, rfl, _⟩ := hu.mk
  have hl : rs.length = 3 := by
    cases ho with
    | refl => rfl
    | agg _ _ hl _ => exact hl
  have hcell : ∀ (i : Nat) (r c : IV), rs[i]? = some r → [IV.raw (.bool v), .raw (.string n), .sl t xs][i]? = some c → OI (st.put b (some (.box rs))) r c := fun i r c hr hc => by
    have h1 : OI st r c := by
      cases ho with
      | refl => rw [hr] at hc; cases hc; exact .refl _
      | agg _ _ _ h => exact h i r c hr hc
    exact h1.mono fun g cs hg => by rw [put_ne (fun e => by rw [e, hb] at hg; cases hg)]; exact hg
  exact .sl b 1 ⟨false, .app b, 3⟩ [.agg [.raw (.bool v), .raw (.string n), .sl t xs]] rs rfl (by simp) (by simp) (fun x hx => by rw [List.mem_singleton] at hx; subst hx; rfl) (ISt.put_same _ _ _) (by simp only; omega)
    fun i r c hr hc => hcell i r c hr (by simpa [IV.cells] using hc)
theorem SameTerms_own {st : ISt} {us ws : List Tm} {y : IV} {t t' : Tag} {zs xs : List IV} (hf : flatSt st) (hu : IsTms us zs) (ho : OI st y (.sl t zs)) (ht : okEs t 3) (hw : IsTms ws xs) (ht' : okEs t' 3) :
    ICall prog gl 42 [y, .sl t' xs] st (fun r st' => st' = st ∧ r = .raw (.bool (eqB us ws))) :=
  ICall.borrow hf ⟨_, _, rfl, .inr ⟨_, ho, rfl⟩, _, _, rfl, .inl rfl, rfl⟩ ((SameTerms_c gl _ t' us ws _ xs (okEs_age ht) ht' hu.aged hw (noBox st)).mono fun r st' h => ⟨h.2, by rw [h.1]; trivial, h.1⟩)
variable (gl)
theorem SubstTerms_c (G : Gl gl) (T : Gt gl) (hgl : agedG gl) (u : Tm) (y : IV) (hy : IsTm u y) (l : Sb) (tg : Tag) (xs : List IV) (htg : okEs tg 4) (hxs : IsOnes l xs) (hb1 : bulkT u ≤ 1125899906842000) (hb2 : ∀ o ∈ l, bulkT o.2 ≤ 1125899906842000) :
    ICall prog gl 11 [y, .sl tg xs] (fun _ => none) (fun r st' => r = .raw (.bool true) ∧ st' = fun _ => none) := by
  have hfew := fun st => few_c gl l tg xs htg hxs hb2 st
  have hus := Tm.size_bulk u
  have hy0 := hy
  obtain ⟨v1, n1, t1, x1, rfl⟩ := hy.agg
  have hfew2 := fun tg htg st => few_c gl [(⟨#[]⟩, u)] tg [.agg [.raw (.string ⟨#[]⟩), .raw (.bool v1), .raw (.string n1), .sl t1 x1]] htg ⟨_, [], rfl, ⟨v1, n1, t1, x1, rfl, hy⟩, rfl⟩ (fun o ho => by rw [List.mem_singleton] at ho; subst ho; exact hb1) st
  refine ICall.intro (c := cf prog gl [29] []) func11 rfl (by show _ ≤ 52; simp) (by kernel_rfl) ?_
  simp -implicitDefEqProofs -dsimp only [go_sem, ↓reduceIte, Nat.reduceEqDiff, Nat.reduceBEq, Nat.reduceAdd, Nat.reduceMul, Nat.reduceSub, Nat.reduceLeDiff, reduceCtorEq, fits]
  refine (hfew _).mono ?_
  rintro _ st ⟨rfl, hst⟩
  subst hst
  cases hfw : fewB l
  · simp -implicitDefEqProofs -dsimp only [go_sem, ↓reduceIte, Nat.reduceEqDiff, Nat.reduceBEq, Nat.reduceAdd, Nat.reduceMul, Nat.reduceSub, Nat.reduceLeDiff, reduceCtorEq, fits]
    refine (awake_c gl G T _).mono ?_
    rintro _ st ⟨rfl, rfl⟩
    simp -implicitDefEqProofs -dsimp only [go_sem, ↓reduceIte, Nat.reduceEqDiff, Nat.reduceBEq, Nat.reduceAdd, Nat.reduceMul, Nat.reduceSub, Nat.reduceLeDiff, reduceCtorEq, fits]
    exact outK_self ⟨rfl, rfl⟩
  simp -implicitDefEqProofs -dsimp only [go_sem, ↓reduceIte, Nat.reduceEqDiff, Nat.reduceBEq, Nat.reduceAdd, Nat.reduceMul, Nat.reduceSub, Nat.reduceLeDiff, reduceCtorEq, fits, inOrder_one]
  refine (hfew2 _ (by simp only [go_sem]) _).mono ?_
  rintro _ st ⟨rfl, hst⟩
  subst hst
  cases hfw2 : fewB [(⟨#[]⟩, u)]
  · simp -implicitDefEqProofs -dsimp only [go_sem, ↓reduceIte, Nat.reduceEqDiff, Nat.reduceBEq, Nat.reduceAdd, Nat.reduceMul, Nat.reduceSub, Nat.reduceLeDiff, reduceCtorEq, fits]
    refine (awake_c gl G T _).mono ?_
    rintro _ st ⟨rfl, rfl⟩
    simp -implicitDefEqProofs -dsimp only [go_sem, ↓reduceIte, Nat.reduceEqDiff, Nat.reduceBEq, Nat.reduceAdd, Nat.reduceMul, Nat.reduceSub, Nat.reduceLeDiff, reduceCtorEq, fits]
    exact outK_self ⟨rfl, rfl⟩
  obtain ⟨hl6, hls⟩ := few_size hfw
  have husz := (few_size hfw2).2 (⟨#[]⟩, u) (by simp)
  simp only at husz
  have hws := wS_le l hls
  have hls2 : ∀ p ∈ l, p.2.size ≤ 1000000 := fun p hp => by have := hls p hp; omega
  have hcopy := fun tg htg st => CopyTerms_c gl [u] tg _ htg (IsTms.one hy0) (by simp only [sizeTms]; omega) st
  simp -implicitDefEqProofs -dsimp only [go_sem, ↓reduceIte, Nat.reduceEqDiff, Nat.reduceBEq, Nat.reduceAdd, Nat.reduceMul, Nat.reduceSub, Nat.reduceLeDiff, reduceCtorEq, fits, inOrder_one]
  refine (hcopy _ (by simp only [go_sem]) _).mono ?_
  rintro _ st ⟨t5, x5, rfl, ht5, hx5, hst⟩
  subst hst
  have hx50 := hx5
  obtain ⟨z, zs, rfl, hz, hzs⟩ := hx5
  obtain rfl : zs = [] := by simpa [IsTms] using hzs
  have hz0 := hz
  obtain ⟨v6, n6, t6, x6, rfl⟩ := hz.agg
  simp -implicitDefEqProofs -dsimp only [go_sem, ↓reduceIte, Nat.reduceEqDiff, Nat.reduceBEq, Nat.reduceAdd, Nat.reduceMul, Nat.reduceSub, Nat.reduceLeDiff, reduceCtorEq, fits]
  refine (copied_c gl l tg xs htg hxs (by omega) hls2 _).mono ?_
  rintro _ st ⟨tl, xl, rfl, htl, hxl, hst⟩
  subst hst
  simp -implicitDefEqProofs -dsimp only [go_sem, ↓reduceIte, Nat.reduceEqDiff, Nat.reduceBEq, Nat.reduceAdd, Nat.reduceMul, Nat.reduceSub, Nat.reduceLeDiff, reduceCtorEq, fits, reTag_es ht5, Int.le_refl, Int.toNat_zero]
  refine (own_TmD (fun _ _ h => by cases h) flatSt.none hgl (PutTerm_d gl u _ hz0.aged l _ _ (okEs_age htl) hxl.aged (by omega) (by omega) hls2 _)).mono ?_
  rintro _ st2 ⟨hsub2, hfl2, hraw2, ti, vr, nr, ar, hti, hoi, rfl, ha1⟩
  simp -implicitDefEqProofs -dsimp only [go_sem, ↓reduceIte, Nat.reduceEqDiff, Nat.reduceBEq, Nat.reduceAdd, Nat.reduceMul, Nat.reduceSub, Nat.reduceLeDiff, reduceCtorEq, fits, ha1, inOrder_one, List.flatMap_cons, List.flatMap_nil]
  refine fun b => giv_intro fun hb => ?_
  have hoi2 := OI.one hti hoi hb
  have hfl3 : flatSt (st2.put b (some (.box [.raw (.bool vr), .raw (.string nr), .raw ar]))) := hfl2.put fun o ho => by
    cases ho
    intro c hc
    simp only [List.mem_cons, List.not_mem_nil, or_false] at hc
    rcases hc with rfl | rfl | rfl <;> trivial
  have hraw3 : rawSt (st2.put b (some (.box [.raw (.bool vr), .raw (.string nr), .raw ar]))) := fun c cs hc => by
    rw [ISt.put_apply] at hc
    split at hc
    · cases hc
      intro c hc
      simp only [List.mem_cons, List.not_mem_nil, or_false] at hc
      rcases hc with rfl | rfl | rfl <;> exact .inl ⟨_, rfl⟩
    · exact hraw2 c cs hc
  obtain ⟨d, hwt⟩ := wt_of hraw3 _ [_] (Nat.lt_succ_self _) _ _ _ ⟨_, rfl⟩ hoi2 (.inr rfl) (IsTms.one hti)
  have hsub3 : subSt (fun _ => none) (st2.put b (some (.box [.raw (.bool vr), .raw (.string nr), .raw ar]))) := fun _ _ h => by cases h
  generalize st2.put b (some (.box [.raw (.bool vr), .raw (.string nr), .raw ar])) = st3 at *
  refine (Given_c gl l tg xs htg hxs (by omega) _).mono ?_
  rintro _ st3 ⟨t4, x4, rfl, ht4, hx4, hst⟩
  subst hst
  simp -implicitDefEqProofs -dsimp only [go_sem, ↓reduceIte, Nat.reduceEqDiff, Nat.reduceBEq, Nat.reduceAdd, Nat.reduceMul, Nat.reduceSub, Nat.reduceLeDiff, reduceCtorEq, fits]
  refine (rPutTerm_c gl l u _ hy0 _ _ ht4 hx4 (by omega) (by omega) _).mono ?_
  rintro w st3 ⟨hw, hst⟩
  subst hst
  have hw0 := hw
  obtain ⟨v8, n8, t8, x8, rfl⟩ := hw.agg
  simp -implicitDefEqProofs -dsimp only [go_sem, ↓reduceIte, Nat.reduceEqDiff, Nat.reduceBEq, Nat.reduceAdd, Nat.reduceMul, Nat.reduceSub, Nat.reduceLeDiff, reduceCtorEq, fits, inOrder_one]
  refine (SameTerms_own hfl3 (IsTms.one hti) hoi2 (.inr rfl) (IsTms.one hw0) (.inr rfl)).mono ?_
  rintro _ st4 ⟨hst, rfl⟩
  subst hst
  simp -implicitDefEqProofs -dsimp only [go_sem, ↓reduceIte, Nat.reduceEqDiff, Nat.reduceBEq, Nat.reduceAdd, Nat.reduceMul, Nat.reduceSub, Nat.reduceLeDiff, reduceCtorEq, fits, eqB_true.2 (rfl : [mapTm (lookS l) u] = [mapTm (lookS l) u])]
  refine (OverTerms_c gl d _ _ hwt).mono ?_
  rintro _ st5 hov
  clear hov hwt hfl3 hraw3 hoi2
  simp -implicitDefEqProofs -dsimp only [go_sem, ↓reduceIte, Nat.reduceEqDiff, Nat.reduceBEq, Nat.reduceAdd, Nat.reduceMul, Nat.reduceSub, Nat.reduceLeDiff, reduceCtorEq, fits, inOrder_one]
  refine (SameTerms_c gl _ _ [u] [u] _ _ ht5 (.inr rfl) hx50 (IsTms.one hy0) _).mono ?_
  rintro _ st6 ⟨rfl, hst⟩
  subst hst
  simp -implicitDefEqProofs -dsimp only [go_sem, ↓reduceIte, Nat.reduceEqDiff, Nat.reduceBEq, Nat.reduceAdd, Nat.reduceMul, Nat.reduceSub, Nat.reduceLeDiff, reduceCtorEq, fits, eqB_true.2 (rfl : [u] = [u])]
  refine (same_c gl l _ _ _ _ htl htg hxl hxs (by omega) _).mono ?_
  rintro _ st6 ⟨rfl, hst⟩
  subst hst
  simp -implicitDefEqProofs -dsimp only [go_sem, ↓reduceIte, Nat.reduceEqDiff, Nat.reduceBEq, Nat.reduceAdd, Nat.reduceMul, Nat.reduceSub, Nat.reduceLeDiff, reduceCtorEq, fits]
  refine (awake_c gl G T _).mono ?_
  rintro _ st6 ⟨rfl, hst⟩
  subst hst
  simp -implicitDefEqProofs -dsimp only [go_sem, ↓reduceIte, Nat.reduceEqDiff, Nat.reduceBEq, Nat.reduceAdd, Nat.reduceMul, Nat.reduceSub, Nat.reduceLeDiff, reduceCtorEq, fits]
  exact outK_sub (st' := fun _ => none) (fun _ _ h => by cases h) ⟨rfl, rfl⟩
end Go.Proofs.Tryz
