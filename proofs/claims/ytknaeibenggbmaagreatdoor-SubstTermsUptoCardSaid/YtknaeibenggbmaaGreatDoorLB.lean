/- Walks: PutTerm. -/
import Derived.Test.YtknaeibenggbmaaGreatDoorKQ
import Derived.Test.YtknaeibenggbmaaGreatDoorKB
set_option linter.all false
namespace Go.Proofs.Tryz
open Go Go.Iv
set_option maxRecDepth 4000
attribute [local go_sem] cf setAt List.all_cons List.all_nil Bool.and_self Bool.true_and Bool.and_true Bool.false_and Bool.and_false Bool.not_true Bool.not_false List.mem_nil_iff if_false if_true beq_self_eq_true Nat.zero_add Nat.add_zero List.getElem?_cons_zero List.getElem?_cons_succ Option.map_some List.mem_cons or_false false_or or_true true_or Nat.sub_zero forall_const Int.toNat_natCast List.length_cons List.length_nil List.map_cons List.map_nil List.take_succ_cons List.take_zero List.drop_zero List.drop_succ_cons List.cons_append List.nil_append List.append_nil and_true true_and and_self true_implies List.zip_cons_cons List.zip_nil_left
variable (gl : Nat → Option IV)

/-- A map that holds what is put. -/
def MapOk (es : List (Value × IV)) (l : Sb) : Prop := ∀ n, match lookS l n with
  | some u => ∃ x, findI (.string n) es = some x ∧ IsTm u x
  | none => findI (.string n) es = none
theorem look_append (l : Sb) (o : ByteArray × Tm) (n : ByteArray) : lookS (l ++ [o]) n = match lookS l n with | some u => some u | none => if o.1 = n then some o.2 else none := by
  unfold lookS
  rw [List.find?_append]
  cases hq : l.find? (fun p => decide (p.1 = n)) with
  | some p => rfl
  | none =>
    simp only [Option.none_or, Option.map_none]
    by_cases h : o.1 = n <;> simp [List.find?, h]
theorem PutTerm1_c (nm : ByteArray) (b m : Nat) (l : Sb) (es : List (Value × IV)) (hes : MapOk es l) (st : ISt) (hb : st b = some (.box [.raw (.map (some m))])) (hm : st m = some (.map .str es)) :
    ICall prog gl 77 [.raw (.string nm), .raw (.pointer (some ⟨b, 0, none⟩))] st (MPost (lookS l) nm st) := by
  have h := hes nm
  cases hl : lookS l nm with
  | none =>
    rw [hl] at h
    refine ICall.intro (c := cf prog gl [] []) func77 rfl (by show _ ≤ 15; simp) (by kernel_rfl) ?_
    simp -implicitDefEqProofs -dsimp only [go_sem, ↓reduceIte, Nat.reduceEqDiff, Nat.reduceBEq, Nat.reduceAdd, Nat.reduceMul, Nat.reduceSub, Nat.reduceLeDiff, reduceCtorEq, fits, hb, hm, h, lookI_none]
    refine outK_self ⟨rfl, .mk false ⟨#[]⟩ [], _, ?_, by rw [hl]; rfl, fun w hw => by rw [hl] at hw; cases hw⟩
    exact ⟨_, [], rfl, .inl rfl, rfl⟩
  | some u =>
    rw [hl] at h
    obtain ⟨x, hx, hu⟩ := h
    have hu0 := hu
    obtain ⟨v, n, t1, x1, rfl⟩ := hu.agg
    refine ICall.intro (c := cf prog gl [] []) func77 rfl (by show _ ≤ 15; simp) (by kernel_rfl) ?_
    simp -implicitDefEqProofs -dsimp only [go_sem, ↓reduceIte, Nat.reduceEqDiff, Nat.reduceBEq, Nat.reduceAdd, Nat.reduceMul, Nat.reduceSub, Nat.reduceLeDiff, reduceCtorEq, fits, hb, hm, hx, lookI_some]
    exact outK_self ⟨rfl, u, _, hu0, by rw [hl]; rfl, fun w hw => by rw [hl] at hw; exact (Option.some.inj hw).symm⟩

theorem PutTerm_d (t : Tm) (x : IV) (hx : IsTm t x) (l : Sb) (tg : Tag) (xs : List IV) (htg : okEs tg 4) (hxs : IsOnes l xs) (ht : t.size ≤ 1000000) (hl : l.length ≤ 1000000) (hls : ∀ p ∈ l, p.2.size ≤ 1000000) (st : ISt) :
    ICall prog gl 41 [x, .sl tg xs] st (fun r st' => IsTmD (mapTm (lookS l) t) r ∧ st' = st) := by
  have hx0 := hx
  obtain ⟨v, n, t1, x1, rfl⟩ := hx.agg
  refine ICall.intro (c := cf prog gl [5] []) func41 rfl (by show _ ≤ 35; simp) (by kernel_rfl) ?_
  simp -implicitDefEqProofs -dsimp only [go_sem, ↓reduceIte, Nat.reduceEqDiff, Nat.reduceBEq, Nat.reduceAdd, Nat.reduceMul, Nat.reduceSub, Nat.reduceLeDiff, reduceCtorEq, fits]
  refine fun m => giv_intro fun hm => ?_
  simp -implicitDefEqProofs -dsimp only [go_sem, ↓reduceIte, Nat.reduceEqDiff, Nat.reduceBEq, Nat.reduceAdd, Nat.reduceMul, Nat.reduceSub, Nat.reduceLeDiff, reduceCtorEq, fits, hxs.len]
  refine fun b => giv_intro fun hb => ?_
  have hbm : b ≠ m := fun e => by rw [e, ISt.put_same] at hb; cases hb
  rw [put_ne hbm] at hb
  intros
  refine LoopC.ctr l.length (fun k fr st' ds => (∃ es, MapOk es (l.take k) ∧ st' m = some (.map .str es) ∧ st' b = some (.box [.raw (.map (some m))]) ∧ subSt st st') ∧ fr 2 = .box [.raw (.bool v), .raw (.string n), .sl t1 x1] ∧ fr 4 = .box [.raw (.bool false), .raw (.string ⟨#[]⟩), .sl ⟨true, .nil, 0⟩ []] ∧
    fr 5 = .iv (.raw (.pointer (some ⟨b, 0, none⟩))) ∧ fr 11 = .iv (.sl tg xs) ∧ fr 12 = .iv (.raw (.int .i64 l.length)) ∧ fr 13 = .iv (.raw (.int .i64 k)) ∧ ds = []) ?_ ?_ ?_
  · simp -implicitDefEqProofs -dsimp only [go_sem, ↓reduceIte, Nat.reduceEqDiff, Nat.reduceBEq, Nat.reduceAdd, Nat.reduceMul, Nat.reduceSub, Nat.reduceLeDiff, reduceCtorEq]
    exact ⟨⟨[], fun n => rfl, by rw [put_ne (Ne.symm hbm), put_ne (Ne.symm hbm), ISt.put_same], by first | exact ISt.put_same _ _ _ | exact ⟨ISt.put_same _ _ _, subSt_put2 (subSt_put2 (subSt_put2 (subSt.refl st) hm) hb) hb⟩ | exact subSt_put2 (subSt_put2 (subSt_put2 (subSt.refl st) hm) hb) hb⟩, rfl⟩
  · rintro k fr st1 _ hlt ⟨⟨es, hes, h1, h2, hsub⟩, f2, f4, f5, f11, f12, f13, rfl⟩
    obtain ⟨⟨nm, u⟩, ho⟩ := get_of_lt hlt
    obtain ⟨y, hky, v3, n3, t3, x3, hy, hu⟩ := hxs.get ho
    subst hy
    have he := hes nm
    cases hl1 : lookS (l.take k) nm with
    | some w =>
      rw [hl1] at he
      obtain ⟨yw, hyw, hw⟩ := he
      obtain ⟨v4, n4, t4, x4, rfl⟩ := hw.agg
      simp -implicitDefEqProofs -dsimp only [go_sem, ↓reduceIte, Nat.reduceEqDiff, Nat.reduceBEq, Nat.reduceAdd, Nat.reduceMul, Nat.reduceSub, Nat.reduceLeDiff, reduceCtorEq, f2, f4, f5, f11, f12, f13, h1, h2, lt_i hlt, reTag_es htg, Int.natCast_nonneg, hky, fits, hyw, lookI_some, w_succ hlt (show l.length ≤ 281474976710656 by omega)]
      refine ⟨es, fun n' => ?_, by first | exact ⟨h1, h2, hsub⟩ | exact ⟨rfl, h2, hsub⟩ | exact ⟨h1, hsub⟩ | exact ⟨rfl, hsub⟩ | exact hsub⟩
      rw [take_get ho, look_append]
      have hn := hes n'
      cases hl2 : lookS (l.take k) n' with
      | some w' => rw [hl2] at hn; exact hn
      | none =>
        rw [hl2] at hn
        have hne : ¬ nm = n' := fun e => by rw [← e, hl1] at hl2; cases hl2
        simp only [if_neg hne]
        exact hn
    | none =>
      rw [hl1] at he
      simp -implicitDefEqProofs -dsimp only [go_sem, ↓reduceIte, Nat.reduceEqDiff, Nat.reduceBEq, Nat.reduceAdd, Nat.reduceMul, Nat.reduceSub, Nat.reduceLeDiff, reduceCtorEq, f2, f4, f5, f11, f12, f13, h1, h2, lt_i hlt, reTag_es htg, Int.natCast_nonneg, hky, fits, he, lookI_none, w_succ hlt (show l.length ≤ 281474976710656 by omega)]
      have hs2 : ∀ o, subSt st (st1.put m o) := fun o => subSt_put2 hsub hm
      have hb2 : ∀ o, (st1.put m o) b = some (.box [.raw (.map (some m))]) := fun o => by rw [put_ne hbm]; exact h2
      refine ⟨_, fun n' => ?_, by first | exact ⟨ISt.put_same _ _ _, hb2 _, hs2 _⟩ | exact ⟨rfl, hb2 _, hs2 _⟩ | exact ⟨rfl, hs2 _⟩⟩
      rw [take_get ho, look_append]
      have hn := hes n'
      cases hl2 : lookS (l.take k) n' with
      | some w' =>
        rw [hl2] at hn
        obtain ⟨yw, hyw, hw⟩ := hn
        have hne : ¬ n' = nm := fun e => by rw [e, hl1] at hl2; cases hl2
        exact ⟨yw, by rw [findI_updI, if_neg hne]; exact hyw, hw⟩
      | none =>
        rw [hl2] at hn
        by_cases hnm : nm = n'
        · simp only [if_pos hnm]
          exact ⟨_, by rw [findI_updI, if_pos hnm.symm], hu⟩
        · simp only [if_neg hnm]
          rw [findI_updI, if_neg (Ne.symm hnm)]; exact hn
  · rintro fr st1 _ ⟨⟨es, hes, h1, h2, hsub⟩, f2, f4, f5, f11, f12, f13, rfl⟩
    rw [List.take_length] at hes
    have hcall := mapTerm_c gl (lookS l) (fun nm u h => by
        unfold lookS at h
        obtain ⟨p, hp, rfl⟩ := Option.map_eq_some_iff.1 h
        have := hls p (List.mem_of_find?_eq_some hp)
        omega) t _ hx0 (by omega) (.func 77) [] [.raw (.pointer (some ⟨b, 0, none⟩))] rfl (fun i hi => by cases hi; simp only [go_sem]) st1
      (fun nm s hs => ICallV.of_ICall (by simp only [go_sem]) (PutTerm1_c gl nm b m l es hes s (hs b _ h2) (hs m _ h1))) st1 (subSt.refl _)
    simp -implicitDefEqProofs -dsimp only [go_sem, ↓reduceIte, Nat.reduceEqDiff, Nat.reduceBEq, Nat.reduceAdd, Nat.reduceMul, Nat.reduceSub, Nat.reduceLeDiff, reduceCtorEq, f2, f4, f5, f11, f12, f13, nlt_i (Nat.lt_irrefl _), fits]
    refine hcall.mono ?_
    rintro r _ ⟨hr, rfl⟩
    have hr0 := hr
    obtain ⟨v6, n6, t6, x6, rfl⟩ := hr.agg
    simp -implicitDefEqProofs -dsimp only [go_sem, ↓reduceIte, Nat.reduceEqDiff, Nat.reduceBEq, Nat.reduceAdd, Nat.reduceMul, Nat.reduceSub, Nat.reduceLeDiff, reduceCtorEq, f2, f4, f5, f11, f12, f13, fits]
    exact outK_sub hsub ⟨hr0, rfl⟩
theorem PutTerm_c (t : Tm) (x : IV) (hx : IsTm t x) (l : Sb) (tg : Tag) (xs : List IV) (htg : okEs tg 4) (hxs : IsOnes l xs) (ht : t.size ≤ 1000000) (hl : l.length ≤ 1000000) (hls : ∀ p ∈ l, p.2.size ≤ 1000000) (st : ISt) :
    ICall prog gl 41 [x, .sl tg xs] st (fun r st' => IsTm (mapTm (lookS l) t) r ∧ st' = st) := (PutTerm_d gl t x hx l tg xs htg hxs ht hl hls st).mono fun _ _ h => ⟨h.1.1, h.2⟩
end Go.Proofs.Tryz
