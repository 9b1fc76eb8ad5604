/- Walks of the second program: put. -/
import Derived.Test.YtknaeibenggbmaaGreatDoorKT
import Derived.Test.YtknaeibenggbmaaGreatDoorKN
import Derived.Test.YtknaeibenggbmaaGreatDoorKC
set_option linter.all false
namespace Go.Proofs.Tryz
open Go Go.Iv
set_option maxRecDepth 4000
open Nat renaming reduceEqDiff → zE, reduceBEq → zB, reduceAdd → zA, reduceMul → zM, reduceSub → zS, reduceLeDiff → zL
attribute [local go_sem] cf setAt List.all_cons List.all_nil Bool.and_self Bool.true_and Bool.and_true Bool.false_and Bool.and_false Bool.not_true Bool.not_false List.mem_nil_iff if_false if_true beq_self_eq_true Nat.zero_add Nat.add_zero List.getElem?_cons_zero List.getElem?_cons_succ Option.map_some List.mem_cons or_false false_or or_true true_or Nat.sub_zero forall_const Int.toNat_natCast List.length_cons List.length_nil List.map_cons List.map_nil List.take_succ_cons List.take_zero List.drop_zero List.drop_succ_cons List.cons_append List.nil_append List.append_nil and_true true_and and_self true_implies List.zip_cons_cons List.zip_nil_left
variable (gl : Nat → Option IV)

theorem IsOnes.append : ∀ {l m : Sb} {xs ys : List IV}, IsOnes l xs → IsOnes m ys → IsOnes (l ++ m) (xs ++ ys)
  | [], m, xs, ys, h, k => by simp only [IsOnes] at h; subst h; exact k
  | a :: l, m, xs, ys, h, k => by
    simp only [IsOnes] at h
    obtain ⟨y, zs, rfl, hy, h⟩ := h
    exact ⟨y, zs ++ ys, rfl, hy, IsOnes.append h k⟩
theorem IsOnes.one {a : ByteArray × Tm} {x : IV} (h : IsOne a x) : IsOnes [a] [x] := ⟨x, [], rfl, h, rfl⟩
theorem has_sorted {L r : List ByteArray} (h : SortedOf L r) (s : ByteArray) : hasB r s = memB L s := by
  rw [Bool.eq_iff_iff, memB_iff, ← h.2 s]
  simp [hasB]
theorem cnt_take {l : Sb} {k : Nat} {p : ByteArray × Tm} {m : ByteArray} {fr : List ByteArray} (h : l[k]? = some p) : cntS (l.take (k + 1)) m fr = cntS (l.take k) m fr ++ if memB fr p.1 && !decide (p.1 = m) then [p] else [] := by
  rw [take_get h]
  unfold cntS
  rw [List.filter_append]
  congr 1
  simp only [List.filter_cons, List.filter_nil]
theorem cnt_mem {l : Sb} {m : ByteArray} {fr : List ByteArray} {p : ByteArray × Tm} (h : p ∈ cntS l m fr) : p ∈ l ∧ p.1 ∈ fr := by
  unfold cntS at h
  rw [List.mem_filter, Bool.and_eq_true, memB_iff] at h
  exact ⟨h.1, h.2.1⟩
theorem cnt_len (l : Sb) (m : ByteArray) (fr : List ByteArray) : (cntS l m fr).length ≤ l.length := List.length_filter_le _ _
theorem flat_len {c : Sb} {M : Nat} (h : ∀ p ∈ c, p.2.size ≤ M) : (c.flatMap fun p => namesTm p.2).length ≤ c.length * M := by
  induction c with
  | nil => simp
  | cons a c ih =>
    rw [List.flatMap_cons, List.length_append, List.length_cons, Nat.add_mul]
    have h1 := ih fun p hp => h p (List.mem_cons_of_mem _ hp)
    have h2 := namesTm_le a.2
    have h3 := h a (List.mem_cons_self ..)
    omega
def RPF (f : Fm) : Prop := ∀ (x : IV) (_ : IsFm f x) (_ : f.ok = true) (l : Sb) (tg : Tag) (xs : List IV) (_ : okEs tg 4) (_ : IsOnes l xs) (_ : ∀ p ∈ l, p.2.size ≤ 1000000) (_ : l.length + f.size ≤ 1000000) (st : ISt),
  ICall prog gl 91 [x, .sl tg xs] st (fun r st' => IsFm (formS l f) r ∧ st' = st)
theorem rput_step (op : Nat) (n : ByteArray) (us : List Tm) (sub : List Fm) (IH : ∀ a ∈ sub, RPF gl a) : RPF gl (.mk op n us sub) := by
  intro x hx hok l tg xs htg hxs hls hll st
  have hx0 := hx
  obtain ⟨t1, x1, t2, x2, rfl, hop, ht1, hx1, ht2, hx2⟩ := hx.mk
  obtain ⟨hok1, hok2, hok3⟩ := ok_form hok
  simp only [Fm.size] at hll
  have hsl1 := len_le_sizes us
  have hsl2 := len_le_fms sub
  refine ICall.intro (c := cf prog gl [] []) func91 rfl (by show _ ≤ 137; simp) (by kernel_rfl) ?_
  simp -implicitDefEqProofs -dsimp only [go_sem, ↓reduceIte, zE, zB, zA, zM, zS, zL, reduceCtorEq, fits]
  refine LoopC.ctr us.length (fun k fr st' ds => (∃ tg' ys, fr 5 = .box [.raw (.int .u8 op), .raw (.string n), .sl tg' ys, .sl ⟨true, .nil, 0⟩ []] ∧ IsTms (mapTms (lookS l) (us.take k)) ys ∧ own st' tg' k 3 st ∧ subSt st st') ∧
    fr 1 = .iv (.sl tg xs) ∧ fr 2 = .box [.raw (.int .u8 op), .raw (.string n), .sl t1 x1, .sl t2 x2] ∧ fr 4 = .box [.raw (.int .u8 0), .raw (.string ⟨#[]⟩), .sl ⟨true, .nil, 0⟩ [], .sl ⟨true, .nil, 0⟩ []] ∧ fr 6 = .iv (.raw (.int .i64 k)) ∧ ds = []) ?_ ?_ ?_
  · simp -implicitDefEqProofs -dsimp only [go_sem, ↓reduceIte, zE, zB, zA, zM, zS, zL, reduceCtorEq]
    exact ⟨⟨_, _, rfl, rfl, own.nil _ _ _ _ _, subSt.refl _⟩, rfl⟩
  · rintro k fr st1 _ hlt ⟨⟨tg', ys, f5, hys, hown, hsub1⟩, f1, f2, f4, f6, rfl⟩
    obtain ⟨a, ha⟩ := get_of_lt hlt
    obtain ⟨y, hky, hy⟩ := hx1.get ha
    have hmem := List.mem_of_getElem? ha
    have hcall := rPutTerm_c gl l a y hy tg xs htg hxs (by have := size_mem hmem; omega) (by omega) st1
    have hlen2 : ys.length = k := by rw [hys.len, mapTms_length, List.length_take]; omega
    have hnext : ∀ r, IsTm (mapTm (lookS l) a) r → IsTms (mapTms (lookS l) (us.take (k + 1))) (ys ++ [r]) := fun r hr => by
      rw [take_get ha, mapTms_append]
      exact hys.append (IsTms.one hr)
    obtain ⟨v5, n5, t5, x5, rfl⟩ := hy.agg
    simp -implicitDefEqProofs -dsimp only [go_sem, ↓reduceIte, zE, zB, zA, zM, zS, zL, reduceCtorEq, f1, f2, f4, f5, f6, hx1.len, lt_i hlt, reTag_es ht1, Int.natCast_nonneg, hky, fits]
    intros
    refine hcall.mono ?_
    rintro r _ ⟨hr, rfl⟩
    have hn := hnext r hr
    obtain ⟨v6, n6, t6, x6, rfl⟩ := hr.agg
    simp -implicitDefEqProofs -dsimp only [go_sem, ↓reduceIte, zE, zB, zA, zM, zS, zL, reduceCtorEq, f1, f2, f4, f5, f6, fits, inOrder_one]
    refine appV_own hown hlen2 hsub1 rfl (by simp [fits, IV.one]) (by simp only; omega) (by omega) fun tg2 st2 hown2 hsub2 _ => ?_
    simp -implicitDefEqProofs -dsimp only [go_sem, ↓reduceIte, zE, zB, zA, zM, zS, zL, reduceCtorEq, f1, f2, f4, f5, f6, fits, w_succ hlt (show us.length ≤ 281474976710656 by omega)]
    exact ⟨tg2, _, rfl, hn, hown2, hsub2⟩
  rintro fr st1 _ ⟨⟨ta, xa, f5, hxa, hown1, hsub1⟩, f1, f2, f4, f6, rfl⟩
  rw [List.take_length] at hxa
  have hta := hown1.es
  simp -implicitDefEqProofs -dsimp only [go_sem, ↓reduceIte, zE, zB, zA, zM, zS, zL, reduceCtorEq, f2, f4, f5, f6, hx1.len, nlt_i (Nat.lt_irrefl _), fits]
  intros
  refine (binds_c gl op n _ _ _ _ _).mono ?_
  rintro _ st1 ⟨rfl, rfl⟩
  cases hq : isQ op
  · simp -implicitDefEqProofs -dsimp only [go_sem, ↓reduceIte, zE, zB, zA, zM, zS, zL, reduceCtorEq, f1, f2, f4, f5, fits]
    refine LoopC.ctr sub.length (fun k fr st' ds => (∃ tg' ys, fr 5 = .box [.raw (.int .u8 op), .raw (.string n), .sl ta xa, .sl tg' ys] ∧ IsFms (formSs l (sub.take k)) ys ∧ own st' tg' k 4 st1 ∧ subSt st1 st') ∧
      fr 1 = .iv (.sl tg xs) ∧ fr 2 = .box [.raw (.int .u8 op), .raw (.string n), .sl t1 x1, .sl t2 x2] ∧ fr 4 = .box [.raw (.int .u8 0), .raw (.string ⟨#[]⟩), .sl ⟨true, .nil, 0⟩ [], .sl ⟨true, .nil, 0⟩ []] ∧ fr 14 = .iv (.raw (.int .i64 k)) ∧ ds = []) ?_ ?_ ?_
    · simp -implicitDefEqProofs -dsimp only [go_sem, ↓reduceIte, zE, zB, zA, zM, zS, zL, reduceCtorEq, f1, f2, f4, f5]
      exact ⟨⟨_, _, rfl, rfl, own.nil _ _ _ _ _, subSt.refl _⟩, rfl⟩
    · rintro k fr st3 _ hlt ⟨⟨tg', ys, f5, hys, hown, hsub3⟩, f1, f2, f4, f14, rfl⟩
      obtain ⟨a, ha⟩ := get_of_lt hlt
      obtain ⟨y, hky, hy⟩ := hx2.get ha
      have hmem := List.mem_of_getElem? ha
      obtain ⟨h1, h2⟩ := sizeFms_takes ha
      have hcall := IH a hmem y hy (okFms_mem hok2 hmem) l tg xs htg hxs hls (by omega) st3
      have hlen2 : ys.length = k := by rw [hys.len, formSs_length, List.length_take]; omega
      have hnext : ∀ r, IsFm (formS l a) r → IsFms (formSs l (sub.take (k + 1))) (ys ++ [r]) := fun r hr => by
        rw [take_get ha, formSs_append]
        exact hys.append (IsFms.one hr)
      obtain ⟨o5, n5, t5, x5, t6, x6, rfl⟩ := hy.agg
      simp -implicitDefEqProofs -dsimp only [go_sem, ↓reduceIte, zE, zB, zA, zM, zS, zL, reduceCtorEq, f1, f2, f4, f5, f14, hx2.len, lt_i hlt, reTag_es ht2, Int.natCast_nonneg, hky, fits]
      intros
      refine hcall.mono ?_
      rintro r _ ⟨hr, rfl⟩
      have hn := hnext r hr
      obtain ⟨o7, n7, t7, x7, t8, x8, rfl⟩ := hr.agg
      simp -implicitDefEqProofs -dsimp only [go_sem, ↓reduceIte, zE, zB, zA, zM, zS, zL, reduceCtorEq, f1, f2, f4, f5, f14, fits, inOrder_one]
      refine appV_own hown hlen2 hsub3 rfl (by simp [fits, IV.one]) (by simp only; omega) (by omega) fun tg2 st4 hown2 hsub4 _ => ?_
      simp -implicitDefEqProofs -dsimp only [go_sem, ↓reduceIte, zE, zB, zA, zM, zS, zL, reduceCtorEq, f1, f2, f4, f5, f14, fits, w_succ hlt (show sub.length ≤ 281474976710656 by omega)]
      exact ⟨tg2, _, rfl, hn, hown2, hsub4⟩
    rintro fr st3 _ ⟨⟨tb, xb, f5, hxb, hown, hsub3⟩, f1, f2, f4, f14, rfl⟩
    rw [List.take_length] at hxb
    simp -implicitDefEqProofs -dsimp only [go_sem, ↓reduceIte, zE, zB, zA, zM, zS, zL, reduceCtorEq, f2, f4, f5, f14, hx2.len, nlt_i (Nat.lt_irrefl _), fits]
    intros
    refine outK_sub (hsub1.trans hsub3) ⟨?_, rfl⟩
    exact ⟨ta, xa, tb, xb, by simp [hq], hop, hta, hxa, hown.es, by simpa [hq] using hxb⟩
  · obtain ⟨rfl, hnm, s, hsub, hsok⟩ := ok_quant hq hok
    obtain ⟨z, hxz, hz⟩ : ∃ z, x2[0]? = some z ∧ IsFm s z := hx2.get (by rw [hsub]; rfl)
    have hfs : frFs sub = frF s := by rw [hsub]; simp [frFs]
    have hssz : s.size ≤ 1000000 := by
      have : sizeFms sub = s.size := by rw [hsub]; simp [sizeFms]
      omega
    have hz0 := hz
    obtain ⟨os, ns, tu, xu, tv, xv, rfl⟩ := hz.agg
    simp -implicitDefEqProofs -dsimp only [go_sem, ↓reduceIte, zE, zB, zA, zM, zS, zL, reduceCtorEq, f1, f2, f4, f5, fits, reTag_es ht2, show x2[Int.toNat 0]? = some _ from hxz]
    refine (rFree_c gl s _ hz0 (by omega) _).mono ?_
    rintro _ st1 ⟨ti, inside, rfl, hti, hin, rfl⟩
    have hinl := hin.len
    have hfl := frF_le s
    simp -implicitDefEqProofs -dsimp only [go_sem, ↓reduceIte, zE, zB, zA, zM, zS, zL, reduceCtorEq, f1, f2, f4, f5, fits]
    refine LoopC.ctr l.length (fun k fr st' ds => (∃ tc zc tt rt, fr 8 = .iv (.sl tc zc) ∧ IsOnes (cntS (l.take k) n (frF s)) zc ∧ own st' tc (cntS (l.take k) n (frF s)).length 4 st1 ∧ subSt st1 st' ∧ fr 9 = .iv (.sl tt (strI rt)) ∧ okEs tt 1 ∧ SortedOf (frF s ++ (cntS (l.take k) n (frF s)).map (·.1)) rt) ∧
      fr 1 = .iv (.sl tg xs) ∧ fr 2 = .box [.raw (.int .u8 op), .raw (.string n), .sl t1 x1, .sl t2 x2] ∧ fr 4 = .box [.raw (.int .u8 0), .raw (.string ⟨#[]⟩), .sl ⟨true, .nil, 0⟩ [], .sl ⟨true, .nil, 0⟩ []] ∧
      fr 5 = .box [.raw (.int .u8 op), .raw (.string n), .sl ta xa, .sl ⟨true, .nil, 0⟩ []] ∧ fr 7 = .iv (.sl ti (strI inside)) ∧ fr 10 = .iv (.raw (.int .i64 k)) ∧ ds = []) ?_ ?_ ?_
    · simp -implicitDefEqProofs -dsimp only [go_sem, ↓reduceIte, zE, zB, zA, zM, zS, zL, reduceCtorEq, f1, f2, f4, f5]
      exact ⟨⟨_, _, _, _, rfl, rfl, own.nil _ _ _ _ _, subSt.refl _, rfl, hti, by simpa [cntS] using hin⟩, rfl⟩
    · rintro k fr st2 _ hlt ⟨⟨tc, zc, tt, rt, f8, hzc, hown2, hsub2, f9, htt, hrt⟩, f1, f2, f4, f5, f7, f10, rfl⟩
      obtain ⟨o, ho⟩ := get_of_lt hlt
      obtain ⟨y, hky, v3, n3, t3, x3, rfl, hy⟩ := hxs.get ho
      have hct := cnt_take (m := n) (fr := frF s) ho
      have hclen := cnt_len (l.take k) n (frF s)
      rw [List.length_take] at hclen
      by_cases hn : o.1 = n
      · rw [decide_eq_true hn, Bool.not_true, Bool.and_false] at hct
        simp only [Bool.false_eq_true, if_false, List.append_nil] at hct
        simp -implicitDefEqProofs -dsimp only [go_sem, ↓reduceIte, zE, zB, zA, zM, zS, zL, reduceCtorEq, f1, f2, f4, f5, f7, f8, f9, f10, hxs.len, lt_i hlt, reTag_es htg, Int.natCast_nonneg, hky, fits, decide_eq_true hn, w_succ hlt (show l.length ≤ 281474976710656 by omega)]
        intros
        exact ⟨tc, zc, tt, rt, rfl, by rw [hct]; exact hzc, by rw [hct]; exact hown2, hsub2, rfl, htt, by rw [hct]; exact hrt⟩
      · simp -implicitDefEqProofs -dsimp only [go_sem, ↓reduceIte, zE, zB, zA, zM, zS, zL, reduceCtorEq, f1, f2, f4, f5, f7, f8, f9, f10, hxs.len, lt_i hlt, reTag_es htg, Int.natCast_nonneg, hky, fits, decide_eq_false hn]
        intros
        refine (Has_c gl ti inside o.1 hti (by omega) _).mono ?_
        rintro _ st2 ⟨rfl, rfl⟩
        have hhas := has_sorted hin o.1
        rw [decide_eq_false hn, Bool.not_false, Bool.and_true] at hct
        cases hb : memB (frF s) o.1
        · rw [hb] at hhas hct
          simp only [Bool.false_eq_true, if_false, List.append_nil] at hct
          simp -implicitDefEqProofs -dsimp only [go_sem, ↓reduceIte, zE, zB, zA, zM, zS, zL, reduceCtorEq, f1, f2, f4, f5, f7, f8, f9, f10, fits, hhas, w_succ hlt (show l.length ≤ 281474976710656 by omega)]
          exact ⟨tc, zc, tt, rt, rfl, by rw [hct]; exact hzc, by rw [hct]; exact hown2, hsub2, rfl, htt, by rw [hct]; exact hrt⟩
        · rw [hb] at hhas hct
          simp only [if_true] at hct
          simp -implicitDefEqProofs -dsimp only [go_sem, ↓reduceIte, zE, zB, zA, zM, zS, zL, reduceCtorEq, f1, f2, f4, f5, f7, f8, f9, f10, fits, hhas, inOrder_one, reTag_es htg, Int.natCast_nonneg, hky]
          refine appV_own hown2 hzc.len hsub2 rfl (by simp [fits, IV.one]) (by simp only; omega) (by omega) fun tg2 st3 hown3 hsub3 _ => ?_
          simp -implicitDefEqProofs -dsimp only [go_sem, ↓reduceIte, zE, zB, zA, zM, zS, zL, reduceCtorEq, f1, f2, f4, f5, f7, f8, f9, f10, fits, reTag_es htg, Int.natCast_nonneg, hky]
          refine (insert_c gl _ rt tt htt hrt (by simp only [List.length_append, List.length_map]; omega) o.1 _).mono ?_
          rintro _ st3 ⟨t9, r9, rfl, ht9, hr9, rfl⟩
          simp -implicitDefEqProofs -dsimp only [go_sem, ↓reduceIte, zE, zB, zA, zM, zS, zL, reduceCtorEq, f1, f2, f4, f5, f7, f8, f9, f10, fits, w_succ hlt (show l.length ≤ 281474976710656 by omega)]
          refine ⟨tg2, _, t9, r9, rfl, ?_, ?_, hsub3, rfl, ht9, ?_⟩
          · rw [hct]; exact hzc.append (IsOnes.one ⟨v3, n3, t3, x3, rfl, hy⟩)
          · rw [hct, List.length_append]; exact hown3
          · rw [hct, List.map_append, ← List.append_assoc]; exact hr9
    · rintro fr st2 _ ⟨⟨tc, zc, tt, rt, f8, hzc, hown2, hsub2, f9, htt, hrt⟩, f1, f2, f4, f5, f7, f10, rfl⟩
      rw [List.take_length] at hzc hown2 hrt
      have hclen := cnt_len l n (frF s)
      have hcm : ∀ p ∈ cntS l n (frF s), p.2.size ≤ 1000000 := fun p hp => hls p (cnt_mem hp).1
      have hcn : ∀ p ∈ cntS l n (frF s), p.1 ∈ frF s := fun p hp => (cnt_mem hp).2
      have hus : underS l n (frFs sub) = if (cntS l n (frF s)).any (fun p => memB (namesTm p.2) n) then (leastN (frF s ++ (cntS l n (frF s)).flatMap fun p => namesTm p.2), cntS l n (frF s) ++ [(n, .mk true (leastN (frF s ++ (cntS l n (frF s)).flatMap fun p => namesTm p.2)) [])]) else (n, cntS l n (frF s)) := by
        rw [hfs]; rfl
      generalize cntS l n (frF s) = cs at *
      simp -implicitDefEqProofs -dsimp only [go_sem, ↓reduceIte, zE, zB, zA, zM, zS, zL, reduceCtorEq, f1, f2, f4, f5, f7, f8, f9, f10, hxs.len, nlt_i (Nat.lt_irrefl _), fits]
      intros
      refine LoopC.ctr cs.length (fun k fr st' ds => (∃ tt rt, fr 9 = .iv (.sl tt (strI rt)) ∧ okEs tt 1 ∧ SortedOf (frF s ++ cs.map (·.1) ++ (cs.take k).flatMap fun p => namesTm p.2) rt) ∧ fr 11 = .iv (.raw (.bool ((cs.take k).any fun p => memB (namesTm p.2) n))) ∧
        fr 1 = .iv (.sl tg xs) ∧ fr 2 = .box [.raw (.int .u8 op), .raw (.string n), .sl t1 x1, .sl t2 x2] ∧ fr 4 = .box [.raw (.int .u8 0), .raw (.string ⟨#[]⟩), .sl ⟨true, .nil, 0⟩ [], .sl ⟨true, .nil, 0⟩ []] ∧
        fr 5 = .box [.raw (.int .u8 op), .raw (.string n), .sl ta xa, .sl ⟨true, .nil, 0⟩ []] ∧ fr 8 = .iv (.sl tc zc) ∧ fr 12 = .iv (.raw (.int .i64 k)) ∧ st' = st2 ∧ ds = []) ?_ ?_ ?_
      · simp -implicitDefEqProofs -dsimp only [go_sem, ↓reduceIte, zE, zB, zA, zM, zS, zL, reduceCtorEq, f1, f2, f4, f5, f7, f8, f9]
        exact ⟨⟨_, _, rfl, htt, by simpa using hrt⟩, rfl, rfl⟩
      · rintro k fr st2 _ hlt ⟨⟨tt, rt, f9, htt, hrt⟩, f11, f1, f2, f4, f5, f8, f12, rfl, rfl⟩
        obtain ⟨o, ho⟩ := get_of_lt hlt
        obtain ⟨y, hky, v3, n3, t3, x3, rfl, hy⟩ := hzc.get ho
        have hosz := hcm o (List.mem_of_getElem? ho)
        have hbl := flat_len (c := cs.take k) (M := 1000000) (fun p hp => hcm p (List.mem_of_mem_take hp))
        have hctk : (cs.take k).length ≤ cs.length := by rw [List.length_take]; omega
        have hnl := namesTm_le o.2
        have hmul : (cs.take k).length * 1000000 + 1000000 ≤ 1000000 * 1000000 := by omega
        simp -implicitDefEqProofs -dsimp only [go_sem, ↓reduceIte, zE, zB, zA, zM, zS, zL, reduceCtorEq, f1, f2, f4, f5, f8, f9, f11, f12, hzc.len, lt_i hlt, reTag_es hown2.es, Int.natCast_nonneg, hky, fits]
        intros
        refine (rFreeTerm_c gl o.2 _ hy (by omega) _).mono ?_
        rintro _ st2 ⟨t4, l4, rfl, ht4, hl4, rfl⟩
        have hl4l := hl4.len
        simp -implicitDefEqProofs -dsimp only [go_sem, ↓reduceIte, zE, zB, zA, zM, zS, zL, reduceCtorEq, f1, f2, f4, f5, f8, f9, f11, f12, fits]
        refine (Has_c gl t4 l4 n ht4 (by omega) _).mono ?_
        rintro _ st2 ⟨rfl, rfl⟩
        have hhas := has_sorted hl4 n
        have hmc : ∀ st, ICall prog gl 124 [.sl tt (strI rt), .sl t4 (strI l4)] st (SortedV (frF s ++ cs.map (·.1) ++ (cs.take k).flatMap (fun p => namesTm p.2) ++ l4) st) := fun st => merge_c gl _ rt tt htt hrt l4 t4 ht4 (by
          simp only [List.length_append, List.length_map]; omega) st
        have hnx : ∀ r, SortedOf (frF s ++ cs.map (·.1) ++ (cs.take k).flatMap (fun p => namesTm p.2) ++ l4) r → SortedOf (frF s ++ cs.map (·.1) ++ (cs.take (k + 1)).flatMap fun p => namesTm p.2) r := fun r hr => by
          refine hr.congr fun x => ?_
          rw [take_get ho, List.flatMap_append]
          simp only [List.mem_append, List.flatMap_cons, List.flatMap_nil, List.append_nil, hl4.2 x]
          exact or_assoc
        have hany : (cs.take (k + 1)).any (fun p => memB (namesTm p.2) n) = ((cs.take k).any (fun p => memB (namesTm p.2) n) || memB (namesTm o.2) n) := by rw [take_get ho, List.any_append]; simp
        cases hb : memB (namesTm o.2) n
        · rw [hb] at hhas hany
          simp -implicitDefEqProofs -dsimp only [go_sem, ↓reduceIte, zE, zB, zA, zM, zS, zL, reduceCtorEq, f1, f2, f4, f5, f8, f9, f11, f12, fits, hhas]
          refine (hmc _).mono ?_
          rintro _ st2 ⟨t9, r9, rfl, ht9, hr9, rfl⟩
          simp -implicitDefEqProofs -dsimp only [go_sem, ↓reduceIte, zE, zB, zA, zM, zS, zL, reduceCtorEq, f1, f2, f4, f5, f8, f9, f11, f12, fits, w_succ hlt (show cs.length ≤ 281474976710656 by omega)]
          exact ⟨⟨t9, r9, rfl, ht9, hnx _ hr9⟩, by rw [hany, Bool.or_false]⟩
        · rw [hb] at hhas hany
          simp -implicitDefEqProofs -dsimp only [go_sem, ↓reduceIte, zE, zB, zA, zM, zS, zL, reduceCtorEq, f1, f2, f4, f5, f8, f9, f11, f12, fits, hhas]
          refine (hmc _).mono ?_
          rintro _ st2 ⟨t9, r9, rfl, ht9, hr9, rfl⟩
          simp -implicitDefEqProofs -dsimp only [go_sem, ↓reduceIte, zE, zB, zA, zM, zS, zL, reduceCtorEq, f1, f2, f4, f5, f8, f9, f11, f12, fits, w_succ hlt (show cs.length ≤ 281474976710656 by omega)]
          exact ⟨⟨t9, r9, rfl, ht9, hnx _ hr9⟩, by rw [hany, Bool.or_true]⟩
      · rintro fr st2 _ ⟨⟨tt, rt, f9, htt, hrt⟩, f11, f1, f2, f4, f5, f8, f12, rfl, rfl⟩
        rw [List.take_length] at hrt f11
        have hle : leastN rt = leastN (frF s ++ cs.flatMap fun p => namesTm p.2) := leastN_congr fun x => by
          rw [hrt.2 x]
          simp only [List.mem_append]
          constructor
          · rintro ((h | h) | h)
            · exact .inl h
            · obtain ⟨p, hp, rfl⟩ := List.mem_map.1 h
              exact .inl (hcn p hp)
            · exact .inr h
          · rintro (h | h)
            · exact .inl (.inl h)
            · exact .inr h
        have hrl := hrt.len
        have hbl := flat_len (c := cs) (M := 1000000) hcm
        simp only [List.length_append, List.length_map] at hrl
        cases hc : cs.any fun p => memB (namesTm p.2) n
        · rw [hc] at f11 hus
          simp only [Bool.false_eq_true, if_false] at hus
          simp -implicitDefEqProofs -dsimp only [go_sem, ↓reduceIte, zE, zB, zA, zM, zS, zL, reduceCtorEq, f1, f2, f4, f5, f8, f9, f11, f12, hzc.len, nlt_i (Nat.lt_irrefl _), fits]
          intros
          refine LoopC.ctr sub.length (fun k fr st' ds => (∃ tg' ys, fr 5 = .box [.raw (.int .u8 op), .raw (.string n), .sl ta xa, .sl tg' ys] ∧ IsFms (formSs cs (sub.take k)) ys ∧ own st' tg' k 4 st2 ∧ subSt st2 st') ∧
            fr 1 = .iv (.sl tc zc) ∧ fr 2 = .box [.raw (.int .u8 op), .raw (.string n), .sl t1 x1, .sl t2 x2] ∧ fr 4 = .box [.raw (.int .u8 0), .raw (.string ⟨#[]⟩), .sl ⟨true, .nil, 0⟩ [], .sl ⟨true, .nil, 0⟩ []] ∧ fr 14 = .iv (.raw (.int .i64 k)) ∧ ds = []) ?_ ?_ ?_
          · simp -implicitDefEqProofs -dsimp only [go_sem, ↓reduceIte, zE, zB, zA, zM, zS, zL, reduceCtorEq, f1, f2, f4, f5]
            exact ⟨⟨_, _, rfl, rfl, own.nil _ _ _ _ _, subSt.refl _⟩, rfl⟩
          · rintro k fr st3 _ hlt ⟨⟨tg', ys, f5, hys, hown, hsub3⟩, f1, f2, f4, f14, rfl⟩
            obtain ⟨a, ha⟩ := get_of_lt hlt
            obtain ⟨y, hky, hy⟩ := hx2.get ha
            have hmem := List.mem_of_getElem? ha
            obtain ⟨h1, h2⟩ := sizeFms_takes ha
            have hcall := IH a hmem y hy (okFms_mem hok2 hmem) cs tc zc hown2.es hzc hcm (by omega) st3
            have hlen2 : ys.length = k := by rw [hys.len, formSs_length, List.length_take]; omega
            have hnext : ∀ r, IsFm (formS cs a) r → IsFms (formSs cs (sub.take (k + 1))) (ys ++ [r]) := fun r hr => by
              rw [take_get ha, formSs_append]
              exact hys.append (IsFms.one hr)
            obtain ⟨o5, n5, t5, x5, t6, x6, rfl⟩ := hy.agg
            simp -implicitDefEqProofs -dsimp only [go_sem, ↓reduceIte, zE, zB, zA, zM, zS, zL, reduceCtorEq, f1, f2, f4, f5, f14, hx2.len, lt_i hlt, reTag_es ht2, Int.natCast_nonneg, hky, fits]
            intros
            refine hcall.mono ?_
            rintro r _ ⟨hr, rfl⟩
            have hn := hnext r hr
            obtain ⟨o7, n7, t7, x7, t8, x8, rfl⟩ := hr.agg
            simp -implicitDefEqProofs -dsimp only [go_sem, ↓reduceIte, zE, zB, zA, zM, zS, zL, reduceCtorEq, f1, f2, f4, f5, f14, fits, inOrder_one]
            refine appV_own hown hlen2 hsub3 rfl (by simp [fits, IV.one]) (by simp only; omega) (by omega) fun tg2 st4 hown2 hsub4 _ => ?_
            simp -implicitDefEqProofs -dsimp only [go_sem, ↓reduceIte, zE, zB, zA, zM, zS, zL, reduceCtorEq, f1, f2, f4, f5, f14, fits, w_succ hlt (show sub.length ≤ 281474976710656 by omega)]
            exact ⟨tg2, _, rfl, hn, hown2, hsub4⟩
          rintro fr st3 _ ⟨⟨tb, xb, f5, hxb, hown, hsub3⟩, f1, f2, f4, f14, rfl⟩
          rw [List.take_length] at hxb
          simp -implicitDefEqProofs -dsimp only [go_sem, ↓reduceIte, zE, zB, zA, zM, zS, zL, reduceCtorEq, f2, f4, f5, f14, hx2.len, nlt_i (Nat.lt_irrefl _), fits]
          intros
          refine outK_sub ((hsub1.trans hsub2).trans hsub3) ⟨?_, rfl⟩
          exact ⟨ta, xa, tb, xb, by simp [hq, hus], hop, hta, hxa, hown.es, by simpa [hq, hus] using hxb⟩
        · rw [hc] at f11 hus
          simp only [if_true] at hus
          simp -implicitDefEqProofs -dsimp only [go_sem, ↓reduceIte, zE, zB, zA, zM, zS, zL, reduceCtorEq, f1, f2, f4, f5, f8, f9, f11, f12, hzc.len, nlt_i (Nat.lt_irrefl _), fits]
          intros
          refine (rFresh_c gl tt htt rt (by omega) _).mono ?_
          rintro _ st2 ⟨rfl, rfl⟩
          rw [hle]
          simp -implicitDefEqProofs -dsimp only [go_sem, ↓reduceIte, zE, zB, zA, zM, zS, zL, reduceCtorEq, f1, f2, f4, f5, f8, f9, f11, f12, fits, inOrder_one]
          refine appV_own hown2 hzc.len hsub2 rfl (by simp [fits, IV.one]) (by simp only; omega) (by omega) fun tg2 st5 hown5 hsub5 _ => ?_
          simp -implicitDefEqProofs -dsimp only [go_sem, ↓reduceIte, zE, zB, zA, zM, zS, zL, reduceCtorEq, f1, f2, f4, f5, f8, f9, f11, f12, fits]
          generalize leastN (frF s ++ cs.flatMap fun p => namesTm p.2) = new at *
          have hones : IsOnes (cs ++ [(n, Tm.mk true new [])]) (zc ++ [.agg [.raw (.string n), .raw (.bool true), .raw (.string new), .sl ⟨true, .nil, 0⟩ []]]) := hzc.append (IsOnes.one ⟨_, _, _, _, rfl, _, [], rfl, .inl rfl, rfl⟩)
          have hcm2 : ∀ p ∈ cs ++ [(n, Tm.mk true new [])], p.2.size ≤ 1000000 := fun p hp => by
            rcases List.mem_append.1 hp with hp | hp
            · exact hcm p hp
            · rw [List.mem_singleton] at hp; subst hp; simp [Tm.size, sizeTms]
          have hll5 : (cs ++ [(n, Tm.mk true new [])]).length = cs.length + 1 := by simp
          refine LoopC.ctr sub.length (fun k fr st' ds => (∃ tg' ys, fr 5 = .box [.raw (.int .u8 op), .raw (.string new), .sl ta xa, .sl tg' ys] ∧ IsFms (formSs (cs ++ [(n, Tm.mk true new [])]) (sub.take k)) ys ∧ own st' tg' k 4 st5 ∧ subSt st5 st') ∧
            fr 1 = .iv (.sl tg2 (zc ++ [.agg [.raw (.string n), .raw (.bool true), .raw (.string new), .sl ⟨true, .nil, 0⟩ []]])) ∧ fr 2 = .box [.raw (.int .u8 op), .raw (.string n), .sl t1 x1, .sl t2 x2] ∧ fr 4 = .box [.raw (.int .u8 0), .raw (.string ⟨#[]⟩), .sl ⟨true, .nil, 0⟩ [], .sl ⟨true, .nil, 0⟩ []] ∧ fr 14 = .iv (.raw (.int .i64 k)) ∧ ds = []) ?_ ?_ ?_
          · simp -implicitDefEqProofs -dsimp only [go_sem, ↓reduceIte, zE, zB, zA, zM, zS, zL, reduceCtorEq, f1, f2, f4, f5]
            exact ⟨⟨_, _, rfl, rfl, own.nil _ _ _ _ _, subSt.refl _⟩, rfl⟩
          · rintro k fr st3 _ hlt ⟨⟨tg', ys, f5, hys, hown, hsub3⟩, f1, f2, f4, f14, rfl⟩
            obtain ⟨a, ha⟩ := get_of_lt hlt
            obtain ⟨y, hky, hy⟩ := hx2.get ha
            have hmem := List.mem_of_getElem? ha
            obtain ⟨h1, h2⟩ := sizeFms_takes ha
            have hcall := IH a hmem y hy (okFms_mem hok2 hmem) (cs ++ [(n, Tm.mk true new [])]) tg2 (zc ++ [.agg [.raw (.string n), .raw (.bool true), .raw (.string new), .sl ⟨true, .nil, 0⟩ []]]) hown5.es hones hcm2 (by omega) st3
            have hlen2 : ys.length = k := by rw [hys.len, formSs_length, List.length_take]; omega
            have hnext : ∀ r, IsFm (formS (cs ++ [(n, Tm.mk true new [])]) a) r → IsFms (formSs (cs ++ [(n, Tm.mk true new [])]) (sub.take (k + 1))) (ys ++ [r]) := fun r hr => by
              rw [take_get ha, formSs_append]
              exact hys.append (IsFms.one hr)
            obtain ⟨o5, n5, t5, x5, t6, x6, rfl⟩ := hy.agg
            simp -implicitDefEqProofs -dsimp only [go_sem, ↓reduceIte, zE, zB, zA, zM, zS, zL, reduceCtorEq, f1, f2, f4, f5, f14, hx2.len, lt_i hlt, reTag_es ht2, Int.natCast_nonneg, hky, fits]
            intros
            refine hcall.mono ?_
            rintro r _ ⟨hr, rfl⟩
            have hn := hnext r hr
            obtain ⟨o7, n7, t7, x7, t8, x8, rfl⟩ := hr.agg
            simp -implicitDefEqProofs -dsimp only [go_sem, ↓reduceIte, zE, zB, zA, zM, zS, zL, reduceCtorEq, f1, f2, f4, f5, f14, fits, inOrder_one]
            refine appV_own hown hlen2 hsub3 rfl (by simp [fits, IV.one]) (by simp only; omega) (by omega) fun tg2 st4 hown2 hsub4 _ => ?_
            simp -implicitDefEqProofs -dsimp only [go_sem, ↓reduceIte, zE, zB, zA, zM, zS, zL, reduceCtorEq, f1, f2, f4, f5, f14, fits, w_succ hlt (show sub.length ≤ 281474976710656 by omega)]
            exact ⟨tg2, _, rfl, hn, hown2, hsub4⟩
          rintro fr st3 _ ⟨⟨tb, xb, f5, hxb, hown, hsub3⟩, f1, f2, f4, f14, rfl⟩
          rw [List.take_length] at hxb
          simp -implicitDefEqProofs -dsimp only [go_sem, ↓reduceIte, zE, zB, zA, zM, zS, zL, reduceCtorEq, f2, f4, f5, f14, hx2.len, nlt_i (Nat.lt_irrefl _), fits]
          intros
          refine outK_sub ((hsub1.trans hsub5).trans hsub3) ⟨?_, rfl⟩
          exact ⟨ta, xa, tb, xb, by simp [hq, hus], hop, hta, hxa, hown.es, by simpa [hq, hus] using hxb⟩
theorem rput_all : ∀ (k : Nat) (t : Fm), SizeOf.sizeOf t < k → RPF gl t
  | 0, f, h => by omega
  | k + 1, .mk o n us sub, h => rput_step gl o n us sub (fun a ha => rput_all k a (by
      have := List.sizeOf_lt_of_mem ha
      simp at h; omega))
theorem rput_c (t : Fm) : RPF gl t := rput_all gl _ t (Nat.lt_succ_self _)
end Go.Proofs.Tryz
