/- Walks of the second program: insert, merge, FreeTerm.
   Walks of the second program: binds, Free, Bound. -/
import Derived.Test.YtknaeibenggbmaaGreatDoorLA
import Derived.Test.YtknaeibenggbmaaGreatDoorKB
import Derived.Test.YtknaeibenggbmaaGreatDoorKQ
set_option linter.all false
open Nat renaming reduceEqDiff → zE, reduceBEq → zB, reduceAdd → zA, reduceMul → zM, reduceSub → zS, reduceLeDiff → zL
attribute [local go_sem] Go.Iv.cf Go.Iv.setAt List.all_cons List.all_nil Bool.and_self Bool.true_and Bool.and_true Bool.false_and Bool.and_false Bool.not_true Bool.not_false List.mem_nil_iff if_false if_true beq_self_eq_true Nat.zero_add Nat.add_zero List.getElem?_cons_zero List.getElem?_cons_succ Option.map_some List.mem_cons or_false false_or or_true true_or Nat.sub_zero forall_const Int.toNat_natCast List.length_cons List.length_nil List.map_cons List.map_nil List.take_succ_cons List.take_zero List.drop_zero List.drop_succ_cons List.cons_append List.nil_append List.append_nil and_true true_and and_self true_implies List.zip_cons_cons List.zip_nil_left
namespace Go.Proofs.Tryz
open Go Go.Iv
set_option maxRecDepth 4000
variable (gl : Nat → Option IV)

theorem SortedOf.congr {L M r : List ByteArray} (h : SortedOf L r) (e : ∀ x, x ∈ L ↔ x ∈ M) : SortedOf M r := ⟨h.1, fun x => (h.2 x).trans (e x)⟩
theorem SortedOf.len {L r : List ByteArray} (h : SortedOf L r) : r.length ≤ L.length := sorted_len h.1 fun x hx => (h.2 x).1 hx
theorem ins_ok {L l : List ByteArray} {s : ByteArray} {k : Nat} (hl : SortedOf L l) (hs : s ∉ l) (hlt : ∀ x ∈ l.take k, ltN x s) (hge : ∀ y, l[k]? = some y → ¬ ltN y s) : SortedOf (L ++ [s]) (l.take k ++ [s] ++ l.drop k) := by
  have hp : (l.take k ++ l.drop k).Pairwise ltN := by rw [List.take_append_drop]; exact hl.1
  obtain ⟨p1, p2, p3⟩ := List.pairwise_append.1 hp
  have hgt : ∀ y ∈ l.drop k, ltN s y := by
    cases hd : l.drop k with
    | nil => intro y hy; cases hy
    | cons a m =>
      have ha : l[k]? = some a := by
        have := congrArg (·[0]?) hd
        simpa [List.getElem?_drop] using this
      have hsa : ltN s a := ltN_total (hge a ha) (fun e => hs (e ▸ List.mem_of_getElem? ha))
      rw [hd] at p2
      obtain ⟨q1, _⟩ := List.pairwise_cons.1 p2
      intro y hy
      rcases List.mem_cons.1 hy with rfl | hy
      · exact hsa
      · exact ltN_trans hsa (q1 y hy)
  refine ⟨?_, fun x => ?_⟩
  · rw [List.append_assoc]
    refine List.pairwise_append.2 ⟨p1, List.pairwise_cons.2 ⟨fun y hy => hgt y hy, p2⟩, fun a ha b hb => ?_⟩
    rcases List.mem_cons.1 hb with rfl | hb
    · exact hlt a ha
    · exact p3 a ha b hb
  · have hm : x ∈ l ↔ x ∈ l.take k ∨ x ∈ l.drop k := by
      conv => lhs; rw [← List.take_append_drop k l]
      exact List.mem_append
    simp only [List.mem_append, List.mem_singleton, ← hl.2 x, hm]
    constructor
    · rintro ((h | h) | h)
      · exact .inl (.inl h)
      · exact .inr h
      · exact .inl (.inr h)
    · rintro ((h | h) | h)
      · exact .inl (.inl h)
      · exact .inr h
      · exact .inl (.inr h)
def SortedV (L : List ByteArray) (st : ISt) (r : IV) (st' : ISt) : Prop := ∃ tg l, r = .sl tg (strI l) ∧ okEs tg 1 ∧ SortedOf L l ∧ st' = st
theorem strI_drop (l : List ByteArray) (k : Nat) : (strI l).drop k = strI (l.drop k) := by simp [strI]
theorem strI_take (l : List ByteArray) (k : Nat) : (strI l).take k = strI (l.take k) := by simp [strI]
theorem sliceI_from {k n : Nat} (h : k ≤ n) : sliceI (some (k : Int)) none n = some (k, n) := by
  unfold sliceI
  rw [if_pos]
  · simp
  · simp; omega

theorem fits_strI (l : List ByteArray) : (strI l).all (fits false 1) = true := by simp [fits, IV.one, strI]
theorem insert_c (L l : List ByteArray) (tg : Tag) (htg : okEs tg 1) (hl : SortedOf L l) (hlen : L.length ≤ 1099511627776) (s : ByteArray) (st : ISt) :
    ICall prog gl 126 [.sl tg (strI l), .raw (.string s)] st (SortedV (L ++ [s]) st) := by
  have hll := hl.len
  refine ICall.intro (c := cf prog gl [] [(8, [0, 1, 2, 4, 5, 6, 7, 3, 8, 9])]) func126 rfl (by show _ ≤ 41; simp) (by kernel_rfl) ?_
  simp -implicitDefEqProofs -dsimp only [go_sem, ↓reduceIte, zE, zB, zA, zM, zS, zL, reduceCtorEq, fits]
  refine (Has_c gl tg l s htg (by omega) _).mono ?_
  rintro _ st ⟨rfl, rfl⟩
  cases hs : hasB l s
  case true =>
    simp -implicitDefEqProofs -dsimp only [go_sem, ↓reduceIte, zE, zB, zA, zM, zS, zL, reduceCtorEq, fits]
    exact outK_self ⟨tg, l, rfl, htg, hl.congr (fun x => by
      simp only [List.mem_append, List.mem_singleton]
      exact ⟨.inl, fun h => h.elim id fun e => e ▸ (hl.2 s).1 (hasB_true.1 hs)⟩), rfl⟩
  have hsl := hasB_false.1 hs
  simp -implicitDefEqProofs -dsimp only [go_sem, ↓reduceIte, zE, zB, zA, zM, zS, zL, reduceCtorEq, fits]
  refine LoopC.ctr l.length (fun k fr st' ds => (∃ t5, fr 5 = .iv (.sl t5 (strI (l.take k))) ∧ own st' t5 k 1 st ∧ subSt st st') ∧ (∀ x ∈ l.take k, ltN x s) ∧ fr 0 = .iv (.sl tg (strI l)) ∧ fr 1 = .iv (.raw (.string s)) ∧ fr 6 = .iv (.raw (.int .i64 k)) ∧ ds = []) ?_ ?_ ?_
  · simp -implicitDefEqProofs -dsimp only [go_sem, ↓reduceIte, zE, zB, zA, zM, zS, zL, reduceCtorEq]
    exact ⟨⟨_, rfl, own.nil _ _ _ _ _, subSt.refl _⟩, (by intro x hx; cases hx), rfl⟩
  · rintro k fr st1 _ hlt ⟨⟨t5, f5, hown, hsub⟩, hall, f0, f1, f6, rfl⟩
    obtain ⟨a, ha⟩ := get_of_lt hlt
    cases hb : Op.bytesLess a.data.toList s.data.toList
    · simp -implicitDefEqProofs -dsimp only [go_sem, ↓reduceIte, zE, zB, zA, zM, zS, zL, reduceCtorEq, f0, f1, f5, f6, strI_length, lt_i hlt, reTag_es htg, Int.natCast_nonneg, strI_get ha, hb]
      intros
      have hge : ∀ y, l[k]? = some y → ¬ ltN y s := fun y hy => by
        rw [ha] at hy; cases hy
        intro h
        rw [less_ltN.2 h] at hb; cases hb
      have hk0 : (l.take (k)).length = k := by rw [List.length_take]; omega
      have hd0 : (l.drop (k)).take (l.length - k) = l.drop (k) := List.take_of_length_le (by rw [List.length_drop]; omega)
      simp -implicitDefEqProofs -dsimp only [go_sem, ↓reduceIte, zE, zB, zA, zM, zS, zL, reduceCtorEq, f0, f1, f5, f6, inOrder_one, strI_length, hk0, sliceI_from (show k ≤ l.length by omega), reTag_es htg]
      refine appV_own hown (by rw [strI_length]; exact hk0) hsub rfl (by simp [fits, IV.one]) (by simp only; omega) (by omega) fun tg2 st2 hown2 hsub2 _ => ?_
      simp -implicitDefEqProofs -dsimp only [go_sem, ↓reduceIte, zE, zB, zA, zM, zS, zL, reduceCtorEq, f0, f1, f5, f6, strI_length, hk0, strI_drop, strI_take, reTag_es htg, hd0]
      refine appV_owns hown2 (by rw [List.length_append, strI_length, hk0]; rfl) (strI_length _) hsub2 rfl (fits_strI _) (by simp only [List.length_drop, List.length_take]; omega) (by simp only [List.length_drop, List.length_take]; omega) fun tg3 st3 hown3 hsub3 _ => ?_
      simp -implicitDefEqProofs -dsimp only [go_sem, ↓reduceIte, zE, zB, zA, zM, zS, zL, reduceCtorEq, f0, f1, f5, f6]
      exact outK_sub hsub3 ⟨tg3, l.take (k) ++ [s] ++ l.drop (k), by simp only [strI_append]; rfl, hown3.es, ins_ok hl hsl hall hge, rfl⟩
    · simp -implicitDefEqProofs -dsimp only [go_sem, ↓reduceIte, zE, zB, zA, zM, zS, zL, reduceCtorEq, f0, f1, f5, f6, strI_length, lt_i hlt, reTag_es htg, Int.natCast_nonneg, strI_get ha, hb, inOrder_one]
      intros
      refine appV_own hown (by simp [strI_length]; omega) hsub rfl (by simp [fits, IV.one]) (by simp only; omega) (by omega) fun tg2 st2 hown2 hsub2 _ => ?_
      simp -implicitDefEqProofs -dsimp only [go_sem, ↓reduceIte, zE, zB, zA, zM, zS, zL, reduceCtorEq, f0, f1, f5, f6, w_succ hlt (show l.length ≤ 281474976710656 by omega)]
      refine ⟨⟨tg2, by rw [take_get ha, strI_append]; rfl, hown2, hsub2⟩, fun x hx => ?_⟩
      rw [take_get ha, List.mem_append, List.mem_singleton] at hx
      rcases hx with hx | rfl
      · exact hall x hx
      · exact less_ltN.1 hb
  · rintro fr st1 _ ⟨⟨t5, f5, hown, hsub⟩, hall, f0, f1, f6, rfl⟩
    simp -implicitDefEqProofs -dsimp only [go_sem, ↓reduceIte, zE, zB, zA, zM, zS, zL, reduceCtorEq, f0, f1, f5, f6, strI_length, nlt_i (Nat.lt_irrefl _)]
    intros
    have hge : ∀ y, l[l.length]? = some y → ¬ ltN y s := fun y hy => by simp at hy
    have hk0 : (l.take (l.length)).length = l.length := by rw [List.length_take]; omega
    have hd0 : (l.drop (l.length)).take (l.length - l.length) = l.drop (l.length) := List.take_of_length_le (by rw [List.length_drop]; omega)
    simp -implicitDefEqProofs -dsimp only [go_sem, ↓reduceIte, zE, zB, zA, zM, zS, zL, reduceCtorEq, f0, f1, f5, f6, inOrder_one, strI_length, hk0, sliceI_from (show l.length ≤ l.length by omega), reTag_es htg]
    refine appV_own hown (by rw [strI_length]; exact hk0) hsub rfl (by simp [fits, IV.one]) (by simp only; omega) (by omega) fun tg2 st2 hown2 hsub2 _ => ?_
    simp -implicitDefEqProofs -dsimp only [go_sem, ↓reduceIte, zE, zB, zA, zM, zS, zL, reduceCtorEq, f0, f1, f5, f6, strI_length, hk0, strI_drop, strI_take, reTag_es htg, hd0]
    refine appV_owns hown2 (by rw [List.length_append, strI_length, hk0]; rfl) (strI_length _) hsub2 rfl (fits_strI _) (by simp only [List.length_drop, List.length_take]; omega) (by simp only [List.length_drop, List.length_take]; omega) fun tg3 st3 hown3 hsub3 _ => ?_
    simp -implicitDefEqProofs -dsimp only [go_sem, ↓reduceIte, zE, zB, zA, zM, zS, zL, reduceCtorEq, f0, f1, f5, f6]
    exact outK_sub hsub3 ⟨tg3, l.take (l.length) ++ [s] ++ l.drop (l.length), by simp only [strI_append]; rfl, hown3.es, ins_ok hl hsl hall hge, rfl⟩

theorem merge_c (L a : List ByteArray) (ta : Tag) (hta : okEs ta 1) (ha : SortedOf L a) (b : List ByteArray) (tb : Tag) (htb : okEs tb 1) (hlen : L.length + b.length ≤ 1099511627776) (st : ISt) :
    ICall prog gl 124 [.sl ta (strI a), .sl tb (strI b)] st (SortedV (L ++ b) st) := by
  refine ICall.intro (c := cf prog gl [] []) func124 rfl (by show _ ≤ 19; simp) (by kernel_rfl) ?_
  simp -implicitDefEqProofs -dsimp only [go_sem, ↓reduceIte, zE, zB, zA, zM, zS, zL, reduceCtorEq, fits]
  refine LoopC.ctr b.length (fun k fr st' ds => (∃ t0 r, fr 0 = .iv (.sl t0 (strI r)) ∧ okEs t0 1 ∧ SortedOf (L ++ b.take k) r) ∧ fr 1 = .iv (.sl tb (strI b)) ∧ fr 5 = .iv (.raw (.int .i64 k)) ∧ st' = st ∧ ds = []) ?_ ?_ ?_
  · simp -implicitDefEqProofs -dsimp only [go_sem, ↓reduceIte, zE, zB, zA, zM, zS, zL, reduceCtorEq]
    exact ⟨⟨ta, a, rfl, hta, by simpa using ha⟩, rfl⟩
  · rintro k fr st _ hlt ⟨⟨t0, r, f0, ht0, hr⟩, f1, f5, rfl, rfl⟩
    obtain ⟨x, hx⟩ := get_of_lt hlt
    simp -implicitDefEqProofs -dsimp only [go_sem, ↓reduceIte, zE, zB, zA, zM, zS, zL, reduceCtorEq, f0, f1, f5, strI_length, lt_i hlt, reTag_es htb, Int.natCast_nonneg, strI_get hx, fits]
    intros
    refine (insert_c gl _ r t0 ht0 hr (by simp only [List.length_append, List.length_take]; omega) x _).mono ?_
    rintro _ st ⟨t1, r1, rfl, ht1, hr1, rfl⟩
    simp -implicitDefEqProofs -dsimp only [go_sem, ↓reduceIte, zE, zB, zA, zM, zS, zL, reduceCtorEq, f0, f1, f5, w_succ hlt (show b.length ≤ 281474976710656 by omega)]
    exact ⟨t1, r1, rfl, ht1, by rw [take_get hx, ← List.append_assoc]; exact hr1⟩
  · rintro fr st _ ⟨⟨t0, r, f0, ht0, hr⟩, f1, f5, rfl, rfl⟩
    rw [List.take_length] at hr
    simp -implicitDefEqProofs -dsimp only [go_sem, ↓reduceIte, zE, zB, zA, zM, zS, zL, reduceCtorEq, f0, f1, f5, strI_length, nlt_i (Nat.lt_irrefl _), fits]
    intros
    exact outK_self ⟨t0, r, rfl, ht0, hr, rfl⟩

def RTq (t : Tm) : Prop := ∀ (x : IV) (_ : IsTm t x) (_ : t.size ≤ 1000000000) (st : ISt), ICall prog gl 81 [x] st (SortedV (namesTm t) st)
theorem rFreeTerm_step (v : Bool) (n : ByteArray) (us : List Tm) (IH : ∀ a ∈ us, RTq gl a) : RTq gl (.mk v n us) := by
  intro x hx hsz st
  obtain ⟨tg, xs, rfl, htg, hxs⟩ := hx.mk
  simp only [Tm.size] at hsz
  have hsl := len_le_size us
  refine ICall.intro (c := cf prog gl [] []) func81 rfl (by show _ ≤ 27; simp) (by kernel_rfl) ?_
  cases v
  · simp -implicitDefEqProofs -dsimp only [go_sem, ↓reduceIte, zE, zB, zA, zM, zS, zL, reduceCtorEq, fits]
    refine LoopC.ctr us.length (fun k fr st' ds => (∃ t0 r, fr 3 = .iv (.sl t0 (strI r)) ∧ okEs t0 1 ∧ SortedOf (([] : List ByteArray) ++ namesTms (us.take k)) r) ∧ fr 1 = .box [.raw (.bool false), .raw (.string n), .sl tg xs] ∧ fr 4 = .iv (.raw (.int .i64 k)) ∧ st' = st ∧ ds = []) ?_ ?_ ?_
    · simp -implicitDefEqProofs -dsimp only [go_sem, ↓reduceIte, zE, zB, zA, zM, zS, zL, reduceCtorEq]
      exact ⟨⟨_, _, rfl, .inl rfl, List.Pairwise.nil, fun x => by simp [namesTms]⟩, rfl⟩
    · rintro k fr st _ hlt ⟨⟨t0, r, f3, ht0, hr⟩, f1, f4, rfl, rfl⟩
      obtain ⟨a, ha⟩ := get_of_lt hlt
      obtain ⟨y, hky, hy⟩ := hxs.get ha
      obtain ⟨h1, h2⟩ := sizeTms_take ha
      have b2 := namesTms_le (us.take k)
      have b4 := namesTm_le a
      have hcall := IH a (List.mem_of_getElem? ha) y hy (by omega) st
      obtain ⟨v5, n5, t5, x5, rfl⟩ := hy.agg
      simp -implicitDefEqProofs -dsimp only [go_sem, ↓reduceIte, zE, zB, zA, zM, zS, zL, reduceCtorEq, f1, f3, f4, hxs.len, lt_i hlt, fits, reTag_es htg, Int.natCast_nonneg, hky]
      intros
      refine hcall.mono ?_
      rintro _ st ⟨t1, r1, rfl, ht1, hr1, rfl⟩
      have b5 := hr1.len
      simp -implicitDefEqProofs -dsimp only [go_sem, ↓reduceIte, zE, zB, zA, zM, zS, zL, reduceCtorEq, f1, f3, f4, fits]
      refine (merge_c gl _ r t0 ht0 hr r1 t1 ht1 (by simp only [List.length_append, List.length_cons, List.length_nil]; omega) _).mono ?_
      rintro _ st ⟨t2, r2, rfl, ht2, hr2, rfl⟩
      simp -implicitDefEqProofs -dsimp only [go_sem, ↓reduceIte, zE, zB, zA, zM, zS, zL, reduceCtorEq, f1, f3, f4, w_succ hlt (show us.length ≤ 281474976710656 by omega)]
      refine ⟨t2, r2, rfl, ht2, hr2.congr fun x => ?_⟩
      rw [take_get ha, namesTms_append]
      simp [List.mem_append, namesTms, hr1.2 x, or_assoc]
    · rintro fr st _ ⟨⟨t0, r, f3, ht0, hr⟩, f1, f4, rfl, rfl⟩
      rw [List.take_length] at hr
      simp -implicitDefEqProofs -dsimp only [go_sem, ↓reduceIte, zE, zB, zA, zM, zS, zL, reduceCtorEq, f1, f3, f4, hxs.len, nlt_i (Nat.lt_irrefl _), fits]
      intros
      exact outK_self ⟨t0, r, rfl, ht0, hr, rfl⟩
  · simp -implicitDefEqProofs -dsimp only [go_sem, ↓reduceIte, zE, zB, zA, zM, zS, zL, reduceCtorEq, fits]
    refine (insert_c gl [] [] ⟨true, .nil, 0⟩ (.inl rfl) ⟨List.Pairwise.nil, fun x => Iff.rfl⟩ (by simp) n _).mono ?_
    rintro _ st ⟨t3, r3, rfl, ht3, hr3, rfl⟩
    simp -implicitDefEqProofs -dsimp only [go_sem, ↓reduceIte, zE, zB, zA, zM, zS, zL, reduceCtorEq, fits]
    refine LoopC.ctr us.length (fun k fr st' ds => (∃ t0 r, fr 3 = .iv (.sl t0 (strI r)) ∧ okEs t0 1 ∧ SortedOf ([n] ++ namesTms (us.take k)) r) ∧ fr 1 = .box [.raw (.bool true), .raw (.string n), .sl tg xs] ∧ fr 4 = .iv (.raw (.int .i64 k)) ∧ st' = st ∧ ds = []) ?_ ?_ ?_
    · simp -implicitDefEqProofs -dsimp only [go_sem, ↓reduceIte, zE, zB, zA, zM, zS, zL, reduceCtorEq]
      exact ⟨⟨_, _, rfl, ht3, by simpa [namesTms] using hr3⟩, rfl⟩
    · rintro k fr st _ hlt ⟨⟨t0, r, f3, ht0, hr⟩, f1, f4, rfl, rfl⟩
      obtain ⟨a, ha⟩ := get_of_lt hlt
      obtain ⟨y, hky, hy⟩ := hxs.get ha
      obtain ⟨h1, h2⟩ := sizeTms_take ha
      have b2 := namesTms_le (us.take k)
      have b4 := namesTm_le a
      have hcall := IH a (List.mem_of_getElem? ha) y hy (by omega) st
      obtain ⟨v5, n5, t5, x5, rfl⟩ := hy.agg
      simp -implicitDefEqProofs -dsimp only [go_sem, ↓reduceIte, zE, zB, zA, zM, zS, zL, reduceCtorEq, f1, f3, f4, hxs.len, lt_i hlt, fits, reTag_es htg, Int.natCast_nonneg, hky]
      intros
      refine hcall.mono ?_
      rintro _ st ⟨t1, r1, rfl, ht1, hr1, rfl⟩
      have b5 := hr1.len
      simp -implicitDefEqProofs -dsimp only [go_sem, ↓reduceIte, zE, zB, zA, zM, zS, zL, reduceCtorEq, f1, f3, f4, fits]
      refine (merge_c gl _ r t0 ht0 hr r1 t1 ht1 (by simp only [List.length_append, List.length_cons, List.length_nil]; omega) _).mono ?_
      rintro _ st ⟨t2, r2, rfl, ht2, hr2, rfl⟩
      simp -implicitDefEqProofs -dsimp only [go_sem, ↓reduceIte, zE, zB, zA, zM, zS, zL, reduceCtorEq, f1, f3, f4, w_succ hlt (show us.length ≤ 281474976710656 by omega)]
      refine ⟨t2, r2, rfl, ht2, hr2.congr fun x => ?_⟩
      rw [take_get ha, namesTms_append]
      simp [List.mem_append, namesTms, hr1.2 x, or_assoc]
    · rintro fr st _ ⟨⟨t0, r, f3, ht0, hr⟩, f1, f4, rfl, rfl⟩
      rw [List.take_length] at hr
      simp -implicitDefEqProofs -dsimp only [go_sem, ↓reduceIte, zE, zB, zA, zM, zS, zL, reduceCtorEq, f1, f3, f4, hxs.len, nlt_i (Nat.lt_irrefl _), fits]
      intros
      exact outK_self ⟨t0, r, rfl, ht0, hr, rfl⟩
theorem rFreeTerm_all : ∀ (k : Nat) (t : Tm), SizeOf.sizeOf t < k → RTq gl t
  | 0, f, h => by omega
  | k + 1, .mk v n us, h => rFreeTerm_step gl v n us (fun a ha => rFreeTerm_all k a (by
      have := List.sizeOf_lt_of_mem ha
      simp at h; omega))
theorem rFreeTerm_c (t : Tm) : RTq gl t := rFreeTerm_all gl _ t (Nat.lt_succ_self _)
end Go.Proofs.Tryz

namespace Go.Proofs.Tryz
open Go Go.Iv
set_option maxRecDepth 4000
variable (gl : Nat → Option IV)

theorem binds_c (op : Nat) (n : ByteArray) (t t' : Tag) (xs ys : List IV) (st : ISt) :
    ICall prog gl 125 [.agg [.raw (.int .u8 op), .raw (.string n), .sl t xs, .sl t' ys]] st (fun x st' => x = .raw (.bool (isQ op)) ∧ st' = st) := by
  refine ICall.intro (c := cf prog gl [] []) func125 rfl (by show _ ≤ 11; simp) (by kernel_rfl) ?_
  by_cases h8 : op = 8
  · simp -implicitDefEqProofs -dsimp only [go_sem, ↓reduceIte, zE, zB, zA, zM, zS, zL, reduceCtorEq, show decide ((op : Int) = 8) = true from decide_eq_true (by omega)]
    exact outK_self ⟨by simp [isQ, h8], rfl⟩
  · have d8 : decide ((op : Int) = 8) = false := decide_eq_false (by omega)
    by_cases h9 : op = 9
    · simp -implicitDefEqProofs -dsimp only [go_sem, ↓reduceIte, zE, zB, zA, zM, zS, zL, reduceCtorEq, d8, show decide ((op : Int) = 9) = true from decide_eq_true (by omega)]
      exact outK_self ⟨by simp [isQ, h9], rfl⟩
    · simp -implicitDefEqProofs -dsimp only [go_sem, ↓reduceIte, zE, zB, zA, zM, zS, zL, reduceCtorEq, d8, show decide ((op : Int) = 9) = false from decide_eq_false (by omega)]
      exact outK_self ⟨by simp [isQ, h8, h9], rfl⟩

theorem boFs_append' : ∀ l m : List Fm, boFs (l ++ m) = boFs l ++ boFs m
  | [], m => by simp [boFs]
  | a :: l, m => by simp only [List.cons_append, boFs, boFs_append' l m, List.append_assoc]
def RB (f : Fm) : Prop := ∀ (x : IV) (_ : IsFm f x) (_ : f.size ≤ 1000000000) (st : ISt), ICall prog gl 80 [x] st (SortedV (boF f) st)
theorem rBound_step (op : Nat) (n : ByteArray) (us : List Tm) (sub : List Fm) (IH : ∀ a ∈ sub, RB gl a) : RB gl (.mk op n us sub) := by
  intro x hx hsz st
  obtain ⟨t1, x1, t2, x2, rfl, ho, ht1, hx1, ht2, hx2⟩ := hx.mk
  simp only [Fm.size] at hsz
  have hsl := flen_le_size sub
  refine ICall.intro (c := cf prog gl [] []) func80 rfl (by show _ ≤ 27; simp) (by kernel_rfl) ?_
  simp -implicitDefEqProofs -dsimp only [go_sem, ↓reduceIte, zE, zB, zA, zM, zS, zL, reduceCtorEq, fits]
  refine (binds_c gl op n _ _ _ _ _).mono ?_
  rintro _ st ⟨rfl, rfl⟩
  cases hq : isQ op
  · have hfin : boF (.mk op n us sub) = [] ++ boFs sub := by simp [boF, hq]
    simp -implicitDefEqProofs -dsimp only [go_sem, ↓reduceIte, zE, zB, zA, zM, zS, zL, reduceCtorEq, fits]
    refine LoopC.ctr sub.length (fun k fr st' ds => (∃ t0 r, fr 3 = .iv (.sl t0 (strI r)) ∧ okEs t0 1 ∧ SortedOf (([] : List ByteArray) ++ boFs (sub.take k)) r) ∧ fr 1 = .box [.raw (.int .u8 op), .raw (.string n), .sl t1 x1, .sl t2 x2] ∧ fr 4 = .iv (.raw (.int .i64 k)) ∧ st' = st ∧ ds = []) ?_ ?_ ?_
    · simp -implicitDefEqProofs -dsimp only [go_sem, ↓reduceIte, zE, zB, zA, zM, zS, zL, reduceCtorEq]
      exact ⟨⟨_, _, rfl, .inl rfl, List.Pairwise.nil, fun x => by simp [boFs]⟩, rfl⟩
    · rintro k fr st _ hlt ⟨⟨t0, r, f3, ht0, hr⟩, f1, f4, rfl, rfl⟩
      obtain ⟨a, ha⟩ := get_of_lt hlt
      obtain ⟨y, hky, hy⟩ := hx2.get ha
      obtain ⟨h1, h2⟩ := sizeFms_take ha
      have b2 := boFs_le (sub.take k)
      have b4 := boF_le a
      have hcall := IH a (List.mem_of_getElem? ha) y hy (by omega) st
      obtain ⟨o5, n5, t5, x5, t6, x6, rfl⟩ := hy.agg
      simp -implicitDefEqProofs -dsimp only [go_sem, ↓reduceIte, zE, zB, zA, zM, zS, zL, reduceCtorEq, f1, f3, f4, hx2.len, lt_i hlt, fits, reTag_es ht2, Int.natCast_nonneg, hky]
      intros
      refine hcall.mono ?_
      rintro _ st ⟨t3, r1, rfl, ht3, hr1, rfl⟩
      have b5 := hr1.len
      simp -implicitDefEqProofs -dsimp only [go_sem, ↓reduceIte, zE, zB, zA, zM, zS, zL, reduceCtorEq, f1, f3, f4, fits]
      refine (merge_c gl _ r t0 ht0 hr r1 t3 ht3 (by simp only [List.length_append, List.length_cons, List.length_nil]; omega) _).mono ?_
      rintro _ st ⟨t4, r2, rfl, ht4, hr2, rfl⟩
      simp -implicitDefEqProofs -dsimp only [go_sem, ↓reduceIte, zE, zB, zA, zM, zS, zL, reduceCtorEq, f1, f3, f4, w_succ hlt (show sub.length ≤ 281474976710656 by omega)]
      refine ⟨t4, r2, rfl, ht4, hr2.congr fun x => ?_⟩
      rw [take_get ha, boFs_append]
      simp [List.mem_append, boFs, hr1.2 x, or_assoc]
    · rintro fr st _ ⟨⟨t0, r, f3, ht0, hr⟩, f1, f4, rfl, rfl⟩
      rw [List.take_length] at hr
      simp -implicitDefEqProofs -dsimp only [go_sem, ↓reduceIte, zE, zB, zA, zM, zS, zL, reduceCtorEq, f1, f3, f4, hx2.len, nlt_i (Nat.lt_irrefl _), fits]
      intros
      exact outK_self ⟨t0, r, rfl, ht0, by rw [hfin]; exact hr, rfl⟩
  · have hfin : boF (.mk op n us sub) = [n] ++ boFs sub := by simp [boF, hq]
    simp -implicitDefEqProofs -dsimp only [go_sem, ↓reduceIte, zE, zB, zA, zM, zS, zL, reduceCtorEq, fits]
    refine (insert_c gl [] [] ⟨true, .nil, 0⟩ (.inl rfl) ⟨List.Pairwise.nil, fun x => Iff.rfl⟩ (by simp) n _).mono ?_
    rintro _ st ⟨t3, r3, rfl, ht3, hr3, rfl⟩
    simp -implicitDefEqProofs -dsimp only [go_sem, ↓reduceIte, zE, zB, zA, zM, zS, zL, reduceCtorEq, fits]
    refine LoopC.ctr sub.length (fun k fr st' ds => (∃ t0 r, fr 3 = .iv (.sl t0 (strI r)) ∧ okEs t0 1 ∧ SortedOf ([n] ++ boFs (sub.take k)) r) ∧ fr 1 = .box [.raw (.int .u8 op), .raw (.string n), .sl t1 x1, .sl t2 x2] ∧ fr 4 = .iv (.raw (.int .i64 k)) ∧ st' = st ∧ ds = []) ?_ ?_ ?_
    · simp -implicitDefEqProofs -dsimp only [go_sem, ↓reduceIte, zE, zB, zA, zM, zS, zL, reduceCtorEq]
      exact ⟨⟨_, _, rfl, ht3, by simpa [boFs] using hr3⟩, rfl⟩
    · rintro k fr st _ hlt ⟨⟨t0, r, f3, ht0, hr⟩, f1, f4, rfl, rfl⟩
      obtain ⟨a, ha⟩ := get_of_lt hlt
      obtain ⟨y, hky, hy⟩ := hx2.get ha
      obtain ⟨h1, h2⟩ := sizeFms_take ha
      have b2 := boFs_le (sub.take k)
      have b4 := boF_le a
      have hcall := IH a (List.mem_of_getElem? ha) y hy (by omega) st
      obtain ⟨o5, n5, t5, x5, t6, x6, rfl⟩ := hy.agg
      simp -implicitDefEqProofs -dsimp only [go_sem, ↓reduceIte, zE, zB, zA, zM, zS, zL, reduceCtorEq, f1, f3, f4, hx2.len, lt_i hlt, fits, reTag_es ht2, Int.natCast_nonneg, hky]
      intros
      refine hcall.mono ?_
      rintro _ st ⟨t3, r1, rfl, ht3, hr1, rfl⟩
      have b5 := hr1.len
      simp -implicitDefEqProofs -dsimp only [go_sem, ↓reduceIte, zE, zB, zA, zM, zS, zL, reduceCtorEq, f1, f3, f4, fits]
      refine (merge_c gl _ r t0 ht0 hr r1 t3 ht3 (by simp only [List.length_append, List.length_cons, List.length_nil]; omega) _).mono ?_
      rintro _ st ⟨t4, r2, rfl, ht4, hr2, rfl⟩
      simp -implicitDefEqProofs -dsimp only [go_sem, ↓reduceIte, zE, zB, zA, zM, zS, zL, reduceCtorEq, f1, f3, f4, w_succ hlt (show sub.length ≤ 281474976710656 by omega)]
      refine ⟨t4, r2, rfl, ht4, hr2.congr fun x => ?_⟩
      rw [take_get ha, boFs_append]
      simp [List.mem_append, boFs, hr1.2 x, or_assoc]
    · rintro fr st _ ⟨⟨t0, r, f3, ht0, hr⟩, f1, f4, rfl, rfl⟩
      rw [List.take_length] at hr
      simp -implicitDefEqProofs -dsimp only [go_sem, ↓reduceIte, zE, zB, zA, zM, zS, zL, reduceCtorEq, f1, f3, f4, hx2.len, nlt_i (Nat.lt_irrefl _), fits]
      intros
      exact outK_self ⟨t0, r, rfl, ht0, by rw [hfin]; exact hr, rfl⟩
theorem rBound_all : ∀ (k : Nat) (t : Fm), SizeOf.sizeOf t < k → RB gl t
  | 0, f, h => by omega
  | k + 1, .mk o n us sub, h => rBound_step gl o n us sub (fun a ha => rBound_all k a (by
      have := List.sizeOf_lt_of_mem ha
      simp at h; omega))
theorem rBound_c (t : Fm) : RB gl t := rBound_all gl _ t (Nat.lt_succ_self _)

def RFr (f : Fm) : Prop := ∀ (x : IV) (_ : IsFm f x) (_ : f.size ≤ 1000000000) (st : ISt), ICall prog gl 79 [x] st (SortedV (frF f) st)
theorem rFree_step (op : Nat) (n : ByteArray) (us : List Tm) (sub : List Fm) (IH : ∀ a ∈ sub, RFr gl a) : RFr gl (.mk op n us sub) := by
  intro x hx hsz st
  obtain ⟨t1, x1, t2, x2, rfl, ho, ht1, hx1, ht2, hx2⟩ := hx.mk
  simp only [Fm.size] at hsz
  have hsl := flen_le_size sub
  have hul := len_le_size us
  obtain ⟨G, hG0⟩ : ∃ G : List ByteArray → List ByteArray, G = fun L => if isQ op then L.filter (fun x => !decide (x = n)) else L := ⟨_, rfl⟩
  have hG : ∀ L x, x ∈ G L ↔ x ∈ L ∧ ¬ (isQ op = true ∧ x = n) := fun L x => by
    rw [hG0]
    cases isQ op <;> simp
  have hGl : ∀ L, (G L).length ≤ L.length := fun L => by
    rw [hG0]
    cases isQ op
    · simp
    · simp only [if_true]; exact List.length_filter_le _ _
  have hfin : ∀ x, x ∈ namesTms us ++ G (frFs sub) ↔ x ∈ frF (.mk op n us sub) := fun x => by
    simp only [frF, List.mem_append, hG]
    cases isQ op <;> simp
  have bu := namesTms_le us
  refine ICall.intro (c := cf prog gl [] []) func79 rfl (by show _ ≤ 61; simp) (by kernel_rfl) ?_
  simp -implicitDefEqProofs -dsimp only [go_sem, ↓reduceIte, zE, zB, zA, zM, zS, zL, reduceCtorEq, fits]
  refine LoopC.ctr us.length (fun k fr st' ds => (∃ t0 r, fr 3 = .iv (.sl t0 (strI r)) ∧ okEs t0 1 ∧ SortedOf (namesTms (us.take k)) r) ∧ fr 1 = .box [.raw (.int .u8 op), .raw (.string n), .sl t1 x1, .sl t2 x2] ∧ fr 4 = .iv (.raw (.int .i64 k)) ∧ st' = st ∧ ds = []) ?_ ?_ ?_
  · simp -implicitDefEqProofs -dsimp only [go_sem, ↓reduceIte, zE, zB, zA, zM, zS, zL, reduceCtorEq]
    exact ⟨⟨_, [], rfl, .inl rfl, List.Pairwise.nil, fun x => by simp [namesTms]⟩, rfl⟩
  · rintro k fr st _ hlt ⟨⟨t0, r, f3, ht0, hr⟩, f1, f4, rfl, rfl⟩
    obtain ⟨a, ha⟩ := get_of_lt hlt
    obtain ⟨y, hky, hy⟩ := hx1.get ha
    obtain ⟨h1, h2⟩ := sizeTms_take ha
    have b2 := namesTms_le (us.take k)
    have b4 := namesTm_le a
    have hcall := rFreeTerm_c gl a y hy (by omega) st
    obtain ⟨v5, n5, t5, x5, rfl⟩ := hy.agg
    simp -implicitDefEqProofs -dsimp only [go_sem, ↓reduceIte, zE, zB, zA, zM, zS, zL, reduceCtorEq, f1, f3, f4, hx1.len, lt_i hlt, fits, reTag_es ht1, Int.natCast_nonneg, hky]
    intros
    refine hcall.mono ?_
    rintro _ st ⟨t3, r1, rfl, ht3, hr1, rfl⟩
    have b5 := hr1.len
    simp -implicitDefEqProofs -dsimp only [go_sem, ↓reduceIte, zE, zB, zA, zM, zS, zL, reduceCtorEq, f1, f3, f4, fits]
    refine (merge_c gl _ r t0 ht0 hr r1 t3 ht3 (by omega) _).mono ?_
    rintro _ st ⟨t4, r2, rfl, ht4, hr2, rfl⟩
    simp -implicitDefEqProofs -dsimp only [go_sem, ↓reduceIte, zE, zB, zA, zM, zS, zL, reduceCtorEq, f1, f3, f4, w_succ hlt (show us.length ≤ 281474976710656 by omega)]
    refine ⟨t4, r2, rfl, ht4, hr2.congr fun x => ?_⟩
    rw [take_get ha, namesTms_append]
    simp [List.mem_append, namesTms, hr1.2 x]
  · rintro fr st _ ⟨⟨t0, r, f3, ht0, hr⟩, f1, f4, rfl, rfl⟩
    rw [List.take_length] at hr
    simp -implicitDefEqProofs -dsimp only [go_sem, ↓reduceIte, zE, zB, zA, zM, zS, zL, reduceCtorEq, f1, f3, f4, hx1.len, nlt_i (Nat.lt_irrefl _), fits]
    intros
    refine LoopC.ctr sub.length (fun k fr st' ds => (∃ t0 r, fr 3 = .iv (.sl t0 (strI r)) ∧ okEs t0 1 ∧ SortedOf (namesTms us ++ G (frFs (sub.take k))) r) ∧ fr 1 = .box [.raw (.int .u8 op), .raw (.string n), .sl t1 x1, .sl t2 x2] ∧ fr 5 = .iv (.raw (.int .i64 k)) ∧ st' = st ∧ ds = []) ?_ ?_ ?_
    · simp -implicitDefEqProofs -dsimp only [go_sem, ↓reduceIte, zE, zB, zA, zM, zS, zL, reduceCtorEq, f1, f3]
      exact ⟨⟨t0, r, rfl, ht0, hr.congr fun x => by simp [hG, frFs]⟩, rfl⟩
    · rintro k fr st _ hlt ⟨⟨t0, r, f3, ht0, hr⟩, f1, f5, rfl, rfl⟩
      obtain ⟨a, ha⟩ := get_of_lt hlt
      obtain ⟨y, hky, hy⟩ := hx2.get ha
      obtain ⟨h1, h2⟩ := sizeFms_take ha
      have b2 := frFs_le (sub.take k)
      have b4 := frF_le a
      have hcall := IH a (List.mem_of_getElem? ha) y hy (by omega) st
      obtain ⟨o5, n5, t5, x5, t6, x6, rfl⟩ := hy.agg
      simp -implicitDefEqProofs -dsimp only [go_sem, ↓reduceIte, zE, zB, zA, zM, zS, zL, reduceCtorEq, f1, f3, f5, hx2.len, lt_i hlt, fits, reTag_es ht2, Int.natCast_nonneg, hky]
      intros
      refine hcall.mono ?_
      rintro _ st ⟨t3, lr, rfl, ht3, hlr, rfl⟩
      have b5 := hlr.len
      simp -implicitDefEqProofs -dsimp only [go_sem, ↓reduceIte, zE, zB, zA, zM, zS, zL, reduceCtorEq, f1, f3, f5, fits]
      refine LoopC.ctr lr.length (fun j fr st' ds => (∃ t0 r, fr 3 = .iv (.sl t0 (strI r)) ∧ okEs t0 1 ∧ SortedOf (namesTms us ++ G (frFs (sub.take k)) ++ G (lr.take j)) r) ∧ fr 1 = .box [.raw (.int .u8 op), .raw (.string n), .sl t1 x1, .sl t2 x2] ∧ fr 5 = .iv (.raw (.int .i64 k)) ∧ fr 6 = .iv (.sl t3 (strI lr)) ∧ fr 7 = .iv (.raw (.int .i64 j)) ∧ st' = st ∧ ds = []) ?_ ?_ ?_
      · simp -implicitDefEqProofs -dsimp only [go_sem, ↓reduceIte, zE, zB, zA, zM, zS, zL, reduceCtorEq, f1, f3, f5]
        exact ⟨⟨_, _, rfl, ht0, hr.congr fun x => by simp [hG]⟩, rfl⟩
      · rintro j fr st _ hjt ⟨⟨t0, r, f3, ht0, hr⟩, f1, f5, f6, f7, rfl, rfl⟩
        obtain ⟨c, hc⟩ := get_of_lt hjt
        have bG := hGl (frFs (sub.take k))
        have bG2 := hGl (lr.take j)
        have bG3 : (lr.take j).length ≤ lr.length := by rw [List.length_take]; omega
        simp -implicitDefEqProofs -dsimp only [go_sem, ↓reduceIte, zE, zB, zA, zM, zS, zL, reduceCtorEq, f1, f3, f5, f6, f7, strI_length, lt_i hjt, fits]
        intros
        refine (binds_c gl op n _ _ _ _ _).mono ?_
        rintro _ st ⟨rfl, rfl⟩
        have hins := insert_c gl _ r t0 ht0 hr (by simp only [List.length_append]; omega) c
        have hnext : ∀ r2, SortedOf (namesTms us ++ G (frFs (sub.take k)) ++ G (lr.take j) ++ [c]) r2 → ¬ (isQ op = true ∧ c = n) → SortedOf (namesTms us ++ G (frFs (sub.take k)) ++ G (lr.take (j + 1))) r2 := fun r2 h hc2 => h.congr fun x => by
          rw [take_get hc]
          simp only [List.mem_append, hG, List.mem_singleton]
          constructor
          · rintro ((h | h) | rfl)
            · exact .inl h
            · exact .inr ⟨.inl h.1, h.2⟩
            · exact .inr ⟨.inr rfl, hc2⟩
          · rintro (h | ⟨h | h, h2⟩)
            · exact .inl (.inl h)
            · exact .inl (.inr ⟨h, h2⟩)
            · exact .inr h
        cases hq : isQ op
        · simp -implicitDefEqProofs -dsimp only [go_sem, ↓reduceIte, zE, zB, zA, zM, zS, zL, reduceCtorEq, f1, f3, f5, f6, f7, fits, reTag_es ht3, Int.natCast_nonneg, strI_get hc]
          refine (hins _).mono ?_
          rintro _ st ⟨t4, r2, rfl, ht4, hr2, rfl⟩
          simp -implicitDefEqProofs -dsimp only [go_sem, ↓reduceIte, zE, zB, zA, zM, zS, zL, reduceCtorEq, f1, f3, f5, f6, f7, w_succ hjt (show lr.length ≤ 281474976710656 by omega)]
          exact ⟨t4, r2, rfl, ht4, hnext r2 hr2 (by rw [hq]; simp)⟩
        · by_cases hcn : c = n
          · simp -implicitDefEqProofs -dsimp only [go_sem, ↓reduceIte, zE, zB, zA, zM, zS, zL, reduceCtorEq, f1, f3, f5, f6, f7, fits, reTag_es ht3, Int.natCast_nonneg, strI_get hc, decide_eq_true hcn, w_succ hjt (show lr.length ≤ 281474976710656 by omega)]
            refine ⟨t0, r, rfl, ht0, hr.congr fun x => ?_⟩
            rw [take_get hc]
            simp only [List.mem_append, hG, List.mem_singleton]
            constructor
            · rintro (h | h)
              · exact .inl h
              · exact .inr ⟨.inl h.1, h.2⟩
            · rintro (h | ⟨h | h, h2⟩)
              · exact .inl h
              · exact .inr ⟨h, h2⟩
              · exact absurd ⟨hq, h.trans hcn⟩ h2
          · simp -implicitDefEqProofs -dsimp only [go_sem, ↓reduceIte, zE, zB, zA, zM, zS, zL, reduceCtorEq, f1, f3, f5, f6, f7, fits, reTag_es ht3, Int.natCast_nonneg, strI_get hc, decide_eq_false hcn]
            refine (hins _).mono ?_
            rintro _ st ⟨t4, r2, rfl, ht4, hr2, rfl⟩
            simp -implicitDefEqProofs -dsimp only [go_sem, ↓reduceIte, zE, zB, zA, zM, zS, zL, reduceCtorEq, f1, f3, f5, f6, f7, w_succ hjt (show lr.length ≤ 281474976710656 by omega)]
            exact ⟨t4, r2, rfl, ht4, hnext r2 hr2 (fun h => hcn h.2)⟩
      · rintro fr st _ ⟨⟨t0, r, f3, ht0, hr⟩, f1, f5, f6, f7, rfl, rfl⟩
        rw [List.take_length] at hr
        simp -implicitDefEqProofs -dsimp only [go_sem, ↓reduceIte, zE, zB, zA, zM, zS, zL, reduceCtorEq, f1, f3, f5, f6, f7, strI_length, nlt_i (Nat.lt_irrefl _), fits, w_succ hlt (show sub.length ≤ 281474976710656 by omega)]
        intros
        refine ⟨t0, r, rfl, ht0, hr.congr fun x => ?_⟩
        rw [take_get ha, frFs_append]
        simp only [List.mem_append, hG, hlr.2 x, frFs, List.append_nil]
        constructor
        · rintro ((h | h) | h)
          · exact .inl h
          · exact .inr ⟨.inl h.1, h.2⟩
          · exact .inr ⟨.inr h.1, h.2⟩
        · rintro (h | ⟨h | h, h2⟩)
          · exact .inl (.inl h)
          · exact .inl (.inr ⟨h, h2⟩)
          · exact .inr ⟨h, h2⟩
    · rintro fr st _ ⟨⟨t0, r, f3, ht0, hr⟩, f1, f5, rfl, rfl⟩
      rw [List.take_length] at hr
      simp -implicitDefEqProofs -dsimp only [go_sem, ↓reduceIte, zE, zB, zA, zM, zS, zL, reduceCtorEq, f1, f3, f5, hx2.len, nlt_i (Nat.lt_irrefl _), fits]
      intros
      exact outK_self ⟨t0, r, rfl, ht0, hr.congr hfin, rfl⟩
theorem rFree_all : ∀ (k : Nat) (t : Fm), SizeOf.sizeOf t < k → RFr gl t
  | 0, f, h => by omega
  | k + 1, .mk o n us sub, h => rFree_step gl o n us sub (fun a ha => rFree_all k a (by
      have := List.sizeOf_lt_of_mem ha
      simp at h; omega))
theorem rFree_c (t : Fm) : RFr gl t := rFree_all gl _ t (Nat.lt_succ_self _)
end Go.Proofs.Tryz
