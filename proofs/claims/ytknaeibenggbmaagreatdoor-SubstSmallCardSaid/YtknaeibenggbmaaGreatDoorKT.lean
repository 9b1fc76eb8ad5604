/- Walks of the second program: PutTerm. -/
import Derived.Test.YtknaeibenggbmaaGreatDoorKS
import Derived.Test.YtknaeibenggbmaaGreatDoorKM
import Derived.Test.YtknaeibenggbmaaGreatDoorKB
set_option linter.all false
namespace Go.Proofs.Tryz
open Go Go.Iv
set_option maxRecDepth 4000
open Nat renaming reduceEqDiff → zE, reduceBEq → zB, reduceAdd → zA, reduceMul → zM, reduceSub → zS, reduceLeDiff → zL
attribute [local go_sem] cf setAt List.all_cons List.all_nil Bool.and_self Bool.true_and Bool.and_true Bool.false_and Bool.and_false Bool.not_true Bool.not_false List.mem_nil_iff if_false if_true beq_self_eq_true Nat.zero_add Nat.add_zero List.getElem?_cons_zero List.getElem?_cons_succ Option.map_some List.mem_cons or_false false_or or_true true_or Nat.sub_zero forall_const Int.toNat_natCast List.length_cons List.length_nil List.map_cons List.map_nil List.take_succ_cons List.take_zero List.drop_zero List.drop_succ_cons List.cons_append List.nil_append List.append_nil and_true true_and and_self true_implies List.zip_cons_cons List.zip_nil_left
variable (gl : Nat → Option IV)

theorem lookS_at {l : Sb} {k : Nat} {p : ByteArray × Tm} {n : ByteArray} (h : l[k]? = some p) (hn : lookS (l.take k) n = none) (hp : p.1 = n) : lookS l n = some p.2 := by
  have h1 : l = l.take k ++ p :: l.drop (k + 1) := by
    have hlt := (List.getElem?_eq_some_iff.1 h).1
    conv => lhs; rw [← List.take_append_drop k l, List.drop_eq_getElem_cons hlt, (List.getElem?_eq_some_iff.1 h).2]
  rw [h1, lookS_append, hn]
  simp [lookS, hp]
theorem lookS_step {l : Sb} {k : Nat} {p : ByteArray × Tm} {n : ByteArray} (h : l[k]? = some p) (hn : lookS (l.take k) n = none) (hp : p.1 ≠ n) : lookS (l.take (k + 1)) n = none := by
  rw [take_get h, lookS_append, hn]
  simp [lookS, hp]
def RPT (l : Sb) (t : Tm) : Prop := ∀ (x : IV) (_ : IsTm t x) (tg : Tag) (xs : List IV) (_ : okEs tg 4) (_ : IsOnes l xs) (_ : t.size ≤ 1099511627776) (_ : l.length ≤ 1099511627776) (st : ISt),
  ICall prog gl 43 [x, .sl tg xs] st (fun r st' => IsTm (mapTm (lookS l) t) r ∧ st' = st)
theorem rPutTerm_step (l : Sb) (v : Bool) (n : ByteArray) (us : List Tm) (IH : ∀ a ∈ us, RPT gl l a) : RPT gl l (.mk v n us) := by
  intro x hx tg xs htg hxs hsz hll st
  obtain ⟨t1, x1, rfl, ht1, hx1⟩ := hx.mk
  simp only [Tm.size] at hsz
  have hlsz := len_le_sizes us
  refine ICall.intro (c := cf prog gl [] []) func43 rfl (by show _ ≤ 56; simp) (by kernel_rfl) ?_
  cases v
  · simp -implicitDefEqProofs -dsimp only [go_sem, ↓reduceIte, zE, zB, zA, zM, zS, zL, reduceCtorEq, fits]
    refine LoopC.ctr 0 (fun k fr st' ds => fr 1 = .iv (.sl tg xs) ∧ fr 2 = .box [.raw (.bool false), .raw (.string n), .sl t1 x1] ∧ fr 4 = .box [.raw (.bool false), .raw (.string ⟨#[]⟩), .sl ⟨true, .nil, 0⟩ []] ∧ fr 5 = .iv (.raw (.int .i64 0)) ∧ st' = st ∧ ds = []) ?_ ?_ ?_
    · simp -implicitDefEqProofs -dsimp only [go_sem, ↓reduceIte, zE, zB, zA, zM, zS, zL, reduceCtorEq]
    · intro k _ _ _ h; omega
    · rintro fr st _ ⟨f1, f2, f4, f5, rfl, rfl⟩
      by_cases hl0 : 0 < l.length
      · simp -implicitDefEqProofs -dsimp only [go_sem, ↓reduceIte, zE, zB, zA, zM, zS, zL, reduceCtorEq, f1, f2, f4, f5, hxs.len, show decide ((0 : Int) < (l.length : Int)) = true from decide_eq_true (by omega)]
        intros
        refine LoopC.ctr us.length (fun k fr st' ds => (∃ tg' ys, fr 6 = .box [.raw (.bool false), .raw (.string n), .sl tg' ys] ∧ IsTms (mapTms (lookS l) (us.take k)) ys ∧ own st' tg' k 3 st ∧ subSt st st') ∧
          fr 1 = .iv (.sl tg xs) ∧ fr 2 = .box [.raw (.bool false), .raw (.string n), .sl t1 x1] ∧ fr 4 = .box [.raw (.bool false), .raw (.string ⟨#[]⟩), .sl ⟨true, .nil, 0⟩ []] ∧ fr 7 = .iv (.raw (.int .i64 k)) ∧ ds = []) ?_ ?_ ?_
        · simp -implicitDefEqProofs -dsimp only [go_sem, ↓reduceIte, zE, zB, zA, zM, zS, zL, reduceCtorEq, f1, f2, f4]
          exact ⟨⟨_, _, rfl, rfl, own.nil _ _ _ _ _, subSt.refl _⟩, rfl⟩
        · rintro k fr st1 _ hlt ⟨⟨tg', ys, f6, hys, hown, hsub1⟩, f1, f2, f4, f7, rfl⟩
          obtain ⟨a, ha⟩ := get_of_lt hlt
          obtain ⟨y, hky, hy⟩ := hx1.get ha
          have hmem := List.mem_of_getElem? ha
          have hcall := IH a hmem y hy tg xs htg hxs (by have := size_mem hmem; omega) hll st1
          have hlen2 : ys.length = k := by rw [hys.len, mapTms_length, List.length_take]; omega
          have hnext : ∀ r, IsTm (mapTm (lookS l) a) r → IsTms (mapTms (lookS l) (us.take (k + 1))) (ys ++ [r]) := fun r hr => by
            rw [take_get ha, mapTms_append]
            exact hys.append (IsTms.one hr)
          obtain ⟨v5, n5, t5, x5, rfl⟩ := hy.agg
          simp -implicitDefEqProofs -dsimp only [go_sem, ↓reduceIte, zE, zB, zA, zM, zS, zL, reduceCtorEq, f1, f2, f4, f6, f7, hx1.len, lt_i hlt, reTag_es ht1, Int.natCast_nonneg, hky, fits]
          intros
          refine hcall.mono ?_
          rintro r _ ⟨hr, rfl⟩
          have hn := hnext r hr
          obtain ⟨v6, n6, t6, x6, rfl⟩ := hr.agg
          simp -implicitDefEqProofs -dsimp only [go_sem, ↓reduceIte, zE, zB, zA, zM, zS, zL, reduceCtorEq, f1, f2, f4, f6, f7, fits, inOrder_one]
          refine appV_own hown hlen2 hsub1 rfl (by simp [fits, IV.one]) (by simp only; omega) (by omega) fun tg2 st2 hown2 hsub2 _ => ?_
          simp -implicitDefEqProofs -dsimp only [go_sem, ↓reduceIte, zE, zB, zA, zM, zS, zL, reduceCtorEq, f1, f2, f4, f6, f7, fits, w_succ hlt (show us.length ≤ 281474976710656 by omega)]
          exact ⟨tg2, _, rfl, hn, hown2, hsub2⟩
        rintro fr st1 _ ⟨⟨ta, xa, f6, hxa, hown1, hsub1⟩, f1, f2, f4, f7, rfl⟩
        rw [List.take_length] at hxa
        simp -implicitDefEqProofs -dsimp only [go_sem, ↓reduceIte, zE, zB, zA, zM, zS, zL, reduceCtorEq, f2, f4, f6, f7, hx1.len, nlt_i (Nat.lt_irrefl _), fits]
        intros
        exact outK_sub hsub1 ⟨⟨ta, xa, rfl, hown1.es, hxa⟩, rfl⟩
      · simp -implicitDefEqProofs -dsimp only [go_sem, ↓reduceIte, zE, zB, zA, zM, zS, zL, reduceCtorEq, f1, f2, f4, f5, hxs.len, show decide ((0 : Int) < (l.length : Int)) = false from decide_eq_false (by omega)]
        intros
        refine LoopC.ctr us.length (fun k fr st' ds => (∃ tg' ys, fr 6 = .box [.raw (.bool false), .raw (.string n), .sl tg' ys] ∧ IsTms (mapTms (lookS l) (us.take k)) ys ∧ own st' tg' k 3 st ∧ subSt st st') ∧
          fr 1 = .iv (.sl tg xs) ∧ fr 2 = .box [.raw (.bool false), .raw (.string n), .sl t1 x1] ∧ fr 4 = .box [.raw (.bool false), .raw (.string ⟨#[]⟩), .sl ⟨true, .nil, 0⟩ []] ∧ fr 7 = .iv (.raw (.int .i64 k)) ∧ ds = []) ?_ ?_ ?_
        · simp -implicitDefEqProofs -dsimp only [go_sem, ↓reduceIte, zE, zB, zA, zM, zS, zL, reduceCtorEq, f1, f2, f4]
          exact ⟨⟨_, _, rfl, rfl, own.nil _ _ _ _ _, subSt.refl _⟩, rfl⟩
        · rintro k fr st1 _ hlt ⟨⟨tg', ys, f6, hys, hown, hsub1⟩, f1, f2, f4, f7, rfl⟩
          obtain ⟨a, ha⟩ := get_of_lt hlt
          obtain ⟨y, hky, hy⟩ := hx1.get ha
          have hmem := List.mem_of_getElem? ha
          have hcall := IH a hmem y hy tg xs htg hxs (by have := size_mem hmem; omega) hll st1
          have hlen2 : ys.length = k := by rw [hys.len, mapTms_length, List.length_take]; omega
          have hnext : ∀ r, IsTm (mapTm (lookS l) a) r → IsTms (mapTms (lookS l) (us.take (k + 1))) (ys ++ [r]) := fun r hr => by
            rw [take_get ha, mapTms_append]
            exact hys.append (IsTms.one hr)
          obtain ⟨v5, n5, t5, x5, rfl⟩ := hy.agg
          simp -implicitDefEqProofs -dsimp only [go_sem, ↓reduceIte, zE, zB, zA, zM, zS, zL, reduceCtorEq, f1, f2, f4, f6, f7, hx1.len, lt_i hlt, reTag_es ht1, Int.natCast_nonneg, hky, fits]
          intros
          refine hcall.mono ?_
          rintro r _ ⟨hr, rfl⟩
          have hn := hnext r hr
          obtain ⟨v6, n6, t6, x6, rfl⟩ := hr.agg
          simp -implicitDefEqProofs -dsimp only [go_sem, ↓reduceIte, zE, zB, zA, zM, zS, zL, reduceCtorEq, f1, f2, f4, f6, f7, fits, inOrder_one]
          refine appV_own hown hlen2 hsub1 rfl (by simp [fits, IV.one]) (by simp only; omega) (by omega) fun tg2 st2 hown2 hsub2 _ => ?_
          simp -implicitDefEqProofs -dsimp only [go_sem, ↓reduceIte, zE, zB, zA, zM, zS, zL, reduceCtorEq, f1, f2, f4, f6, f7, fits, w_succ hlt (show us.length ≤ 281474976710656 by omega)]
          exact ⟨tg2, _, rfl, hn, hown2, hsub2⟩
        rintro fr st1 _ ⟨⟨ta, xa, f6, hxa, hown1, hsub1⟩, f1, f2, f4, f7, rfl⟩
        rw [List.take_length] at hxa
        simp -implicitDefEqProofs -dsimp only [go_sem, ↓reduceIte, zE, zB, zA, zM, zS, zL, reduceCtorEq, f2, f4, f6, f7, hx1.len, nlt_i (Nat.lt_irrefl _), fits]
        intros
        exact outK_sub hsub1 ⟨⟨ta, xa, rfl, hown1.es, hxa⟩, rfl⟩
  · simp -implicitDefEqProofs -dsimp only [go_sem, ↓reduceIte, zE, zB, zA, zM, zS, zL, reduceCtorEq, fits]
    refine LoopC.ctr l.length (fun k fr st' ds => lookS (l.take k) n = none ∧ fr 1 = .iv (.sl tg xs) ∧ fr 2 = .box [.raw (.bool true), .raw (.string n), .sl t1 x1] ∧ fr 4 = .box [.raw (.bool false), .raw (.string ⟨#[]⟩), .sl ⟨true, .nil, 0⟩ []] ∧ fr 5 = .iv (.raw (.int .i64 k)) ∧ st' = st ∧ ds = []) ?_ ?_ ?_
    · simp -implicitDefEqProofs -dsimp only [go_sem, ↓reduceIte, zE, zB, zA, zM, zS, zL, reduceCtorEq]
      exact ⟨rfl, rfl⟩
    · rintro k fr st _ hlt ⟨hno, f1, f2, f4, f5, rfl, rfl⟩
      obtain ⟨o, ho⟩ := get_of_lt hlt
      obtain ⟨y, hky, v3, n3, t3, x3, rfl, hy⟩ := hxs.get ho
      by_cases hn : o.1 = n
      · have hl := lookS_at ho hno hn
        simp -implicitDefEqProofs -dsimp only [go_sem, ↓reduceIte, zE, zB, zA, zM, zS, zL, reduceCtorEq, f1, f2, f4, f5, hxs.len, lt_i hlt, reTag_es htg, Int.natCast_nonneg, hky, fits, decide_eq_true hn]
        intros
        refine outK_self ⟨?_, rfl⟩
        simp only [mapTm, hl]
        exact hy
      · simp -implicitDefEqProofs -dsimp only [go_sem, ↓reduceIte, zE, zB, zA, zM, zS, zL, reduceCtorEq, f1, f2, f4, f5, hxs.len, lt_i hlt, reTag_es htg, Int.natCast_nonneg, hky, fits, decide_eq_false hn, w_succ hlt (show l.length ≤ 281474976710656 by omega)]
        intros
        exact lookS_step ho hno hn
    · rintro fr st _ ⟨hno, f1, f2, f4, f5, rfl, rfl⟩
      rw [List.take_length] at hno
      simp -implicitDefEqProofs -dsimp only [go_sem, ↓reduceIte, zE, zB, zA, zM, zS, zL, reduceCtorEq, f1, f2, f4, f5, hxs.len, nlt_i (Nat.lt_irrefl _), fits]
      intros
      refine LoopC.ctr us.length (fun k fr st' ds => (∃ tg' ys, fr 6 = .box [.raw (.bool true), .raw (.string n), .sl tg' ys] ∧ IsTms (mapTms (lookS l) (us.take k)) ys ∧ own st' tg' k 3 st ∧ subSt st st') ∧
        fr 1 = .iv (.sl tg xs) ∧ fr 2 = .box [.raw (.bool true), .raw (.string n), .sl t1 x1] ∧ fr 4 = .box [.raw (.bool false), .raw (.string ⟨#[]⟩), .sl ⟨true, .nil, 0⟩ []] ∧ fr 7 = .iv (.raw (.int .i64 k)) ∧ ds = []) ?_ ?_ ?_
      · simp -implicitDefEqProofs -dsimp only [go_sem, ↓reduceIte, zE, zB, zA, zM, zS, zL, reduceCtorEq, f1, f2, f4]
        exact ⟨⟨_, _, rfl, rfl, own.nil _ _ _ _ _, subSt.refl _⟩, rfl⟩
      · rintro k fr st1 _ hlt ⟨⟨tg', ys, f6, hys, hown, hsub1⟩, f1, f2, f4, f7, rfl⟩
        obtain ⟨a, ha⟩ := get_of_lt hlt
        obtain ⟨y, hky, hy⟩ := hx1.get ha
        have hmem := List.mem_of_getElem? ha
        have hcall := IH a hmem y hy tg xs htg hxs (by have := size_mem hmem; omega) hll st1
        have hlen2 : ys.length = k := by rw [hys.len, mapTms_length, List.length_take]; omega
        have hnext : ∀ r, IsTm (mapTm (lookS l) a) r → IsTms (mapTms (lookS l) (us.take (k + 1))) (ys ++ [r]) := fun r hr => by
          rw [take_get ha, mapTms_append]
          exact hys.append (IsTms.one hr)
        obtain ⟨v5, n5, t5, x5, rfl⟩ := hy.agg
        simp -implicitDefEqProofs -dsimp only [go_sem, ↓reduceIte, zE, zB, zA, zM, zS, zL, reduceCtorEq, f1, f2, f4, f6, f7, hx1.len, lt_i hlt, reTag_es ht1, Int.natCast_nonneg, hky, fits]
        intros
        refine hcall.mono ?_
        rintro r _ ⟨hr, rfl⟩
        have hn := hnext r hr
        obtain ⟨v6, n6, t6, x6, rfl⟩ := hr.agg
        simp -implicitDefEqProofs -dsimp only [go_sem, ↓reduceIte, zE, zB, zA, zM, zS, zL, reduceCtorEq, f1, f2, f4, f6, f7, fits, inOrder_one]
        refine appV_own hown hlen2 hsub1 rfl (by simp [fits, IV.one]) (by simp only; omega) (by omega) fun tg2 st2 hown2 hsub2 _ => ?_
        simp -implicitDefEqProofs -dsimp only [go_sem, ↓reduceIte, zE, zB, zA, zM, zS, zL, reduceCtorEq, f1, f2, f4, f6, f7, fits, w_succ hlt (show us.length ≤ 281474976710656 by omega)]
        exact ⟨tg2, _, rfl, hn, hown2, hsub2⟩
      rintro fr st1 _ ⟨⟨ta, xa, f6, hxa, hown1, hsub1⟩, f1, f2, f4, f7, rfl⟩
      rw [List.take_length] at hxa
      simp -implicitDefEqProofs -dsimp only [go_sem, ↓reduceIte, zE, zB, zA, zM, zS, zL, reduceCtorEq, f2, f4, f6, f7, hx1.len, nlt_i (Nat.lt_irrefl _), fits]
      intros
      refine outK_sub hsub1 ⟨?_, rfl⟩
      simp only [mapTm, hno]
      exact ⟨ta, xa, rfl, hown1.es, hxa⟩
theorem rPutTerm_all (l : Sb) : ∀ (k : Nat) (t : Tm), SizeOf.sizeOf t < k → RPT gl l t
  | 0, f, h => by omega
  | k + 1, .mk v n us, h => rPutTerm_step gl l v n us (fun a ha => rPutTerm_all l k a (by
      have := List.sizeOf_lt_of_mem ha
      simp at h; omega))
theorem rPutTerm_c (l : Sb) (t : Tm) : RPT gl l t := rPutTerm_all gl l _ t (Nat.lt_succ_self _)
end Go.Proofs.Tryz
