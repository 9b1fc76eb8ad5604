/- Walks: CopyTerms.
   Walks: Copy.
   Walks: size (of terms). -/
import Derived.Test.YtknaeibenggbmaaGreatDoorJR
set_option linter.all false
open Nat renaming reduceEqDiff → zE, reduceBEq → zB, reduceAdd → zA, reduceMul → zM, reduceSub → zS, reduceLeDiff → zL
attribute [local go_sem] Go.Iv.cf Go.Iv.setAt List.all_cons List.all_nil Bool.and_self Bool.true_and Bool.and_true Bool.false_and Bool.and_false Bool.not_true Bool.not_false List.mem_nil_iff if_false if_true beq_self_eq_true Nat.zero_add Nat.add_zero List.getElem?_cons_zero List.getElem?_cons_succ Option.map_some List.mem_cons or_false false_or or_true true_or Nat.sub_zero forall_const Int.toNat_natCast List.length_cons List.length_nil List.map_cons List.map_nil List.take_succ_cons List.take_zero List.drop_zero List.drop_succ_cons List.cons_append List.nil_append List.append_nil and_true true_and and_self true_implies List.zip_cons_cons List.zip_nil_left
namespace Go.Proofs.Tryz
open Go Go.Iv
set_option maxRecDepth 4000
variable (gl : Nat → Option IV)

def CT (us : List Tm) : Prop := ∀ (tg : Tag) (xs : List IV) (_ : okEs tg 3) (_ : IsTms us xs) (_ : sizeTms us ≤ 1099511627776) (st : ISt),
  ICall prog gl 39 [.sl tg xs] st (fun r st' => ∃ tg' ys, r = .sl tg' ys ∧ okEs tg' 3 ∧ IsTms us ys ∧ st' = st)
theorem CopyTerms_step (us : List Tm) (IH : ∀ v n l, Tm.mk v n l ∈ us → CT gl l) : CT gl us := by
  intro tg xs htg hxs hsz st
  have hlsz := len_le_size us
  refine ICall.intro (c := cf prog gl [] []) func39 rfl (by show _ ≤ 32; simp) (by kernel_rfl) ?_
  simp -implicitDefEqProofs -dsimp only [go_sem, ↓reduceIte, zE, zB, zA, zM, zS, zL, reduceCtorEq]
  refine LoopC.ctr us.length (fun k fr st' ds => (∃ tg' ys, fr 3 = .iv (.sl tg' ys) ∧ IsTms (us.take k) ys ∧ frontAt st k tg' st') ∧ fr 0 = .iv (.sl tg xs) ∧ fr 4 = .iv (.raw (.int .i64 k)) ∧ ds = []) ?_ ?_ ?_
  · simp -implicitDefEqProofs -dsimp only [go_sem, ↓reduceIte, zE, zB, zA, zM, zS, zL, reduceCtorEq]
    exact ⟨⟨_, _, rfl, rfl, .inl ⟨rfl, rfl, rfl⟩⟩, rfl⟩
  · rintro k fr st1 _ hlt ⟨⟨tg', ys, f3, hys, hfr⟩, f0, f4, rfl⟩
    obtain ⟨a, ha⟩ := get_of_lt hlt
    obtain ⟨x, hkx, hx⟩ := hxs.get ha
    obtain ⟨h1, h2⟩ := sizeTms_take ha
    have hlen2 : ys.length = k := by rw [hys.len, List.length_take]; omega
    obtain ⟨v2, n2, m⟩ := a
    have hnext : ∀ r, IsTm (.mk v2 n2 m) r → IsTms (us.take (k + 1)) (ys ++ [r]) := fun r hr => by
      rw [take_get ha]
      exact hys.append (IsTms.one hr)
    obtain ⟨tx, cx, rfl, htx, hcx⟩ := hx.mk
    simp only [Tm.size] at h2
    have hcall := IH _ _ _ (List.mem_of_getElem? ha) tx cx htx hcx (by omega) st1
    simp -implicitDefEqProofs -dsimp only [go_sem, ↓reduceIte, zE, zB, zA, zM, zS, zL, reduceCtorEq, f0, f3, f4, hxs.len, lt_i hlt, reTag_es htg, Int.natCast_nonneg, hkx, fits]
    intro _
    refine hcall.mono ?_
    rintro _ _ ⟨t3, x3, rfl, ht3, hx3, rfl⟩
    have hn := hnext (.agg [.raw (.bool v2), .raw (.string n2), .sl t3 x3]) ⟨t3, x3, rfl, ht3, hx3⟩
    rcases hfr with ⟨rfl, hc, rfl⟩ | ⟨hk, g0, rfl, hg0, rfl⟩
    · obtain ⟨tf, tc, te⟩ := tg'
      simp only at hc
      subst hc
      obtain rfl : ys = [] := List.eq_nil_of_length_eq_zero hlen2
      simp -implicitDefEqProofs -dsimp only [go_sem, ↓reduceIte, zE, zB, zA, zM, zS, zL, reduceCtorEq, f0, f3, f4, fits]
      refine chk_intro rfl fun g' => giv_intro fun hg => ⟨⟨_, _, rfl, hn, .inr ⟨Nat.one_pos, g', rfl, hg, rfl⟩⟩, ?_⟩
      rfl
    · simp -implicitDefEqProofs -dsimp only [go_sem, ↓reduceIte, zE, zB, zA, zM, zS, zL, reduceCtorEq, f0, f3, f4, fits, ISt.put_same, hlen2]
      refine chk_intro rfl (chk_intro ⟨by omega, by omega⟩ fun g' => giv_intro fun hg => ⟨⟨_, _, rfl, hn, .inr ⟨Nat.succ_pos _, g', rfl, ?_, ?_⟩⟩, ?_⟩)
      · rcases hg with rfl | hg
        · exact hg0
        · by_cases hgg : g' = g0
          · rw [hgg]; exact hg0
          · rw [put_ne hgg] at hg; exact hg
      · rw [put_put_same, put_self hg0]
      · rw [w_succ hlt (show us.length ≤ 281474976710656 by omega)]
  · rintro fr st1 _ ⟨⟨tg', ys, f3, hys, hfr⟩, f0, f4, rfl⟩
    rw [List.take_length] at hys
    have hes : okEs tg' 3 := by
      rcases hfr with ⟨_, h, _⟩ | ⟨_, g, rfl, _⟩
      · exact .inl h
      · exact .inr rfl
    simp -implicitDefEqProofs -dsimp only [go_sem, ↓reduceIte, zE, zB, zA, zM, zS, zL, reduceCtorEq, f0, f3, f4, hxs.len, nlt_i (Nat.lt_irrefl _), fits]
    intro _
    refine outK_sub (st' := st) ?_ ⟨tg', ys, rfl, hes, hys, rfl⟩
    rcases hfr with ⟨_, _, rfl⟩ | ⟨_, g, _, hg, rfl⟩
    · exact subSt.refl _
    · exact subSt_put hg
theorem CopyTerms_all : ∀ (k : Nat) (us : List Tm), SizeOf.sizeOf us < k → CT gl us
  | 0, f, h => by omega
  | k + 1, us, h => CopyTerms_step gl us (fun v n l ha => CopyTerms_all k l (by
      have := List.sizeOf_lt_of_mem ha
      simp at this; omega))
theorem CopyTerms_c (us : List Tm) : CT gl us := CopyTerms_all gl _ us (Nat.lt_succ_self _)
end Go.Proofs.Tryz

namespace Go.Proofs.Tryz
open Go Go.Iv
set_option maxRecDepth 4000
variable (gl : Nat → Option IV)

def frontF (st : ISt) (k : Nat) (tg : Tag) (st' : ISt) : Prop := (k = 0 ∧ tg.cap = .nil ∧ st' = st) ∨ (0 < k ∧ ∃ g, tg = ⟨true, .app g, 4⟩ ∧ st g = none ∧ st' = st.put g (some (.front k 4)))
theorem flen_le_size : ∀ l : List Fm, l.length ≤ sizeFms l
  | [] => Nat.le_refl _
  | a :: l => by have := flen_le_size l; have := a.size_pos; simp only [List.length_cons, sizeFms]; omega
def CF (f : Fm) : Prop := ∀ (x : IV) (_ : IsFm f x) (_ : f.size ≤ 1099511627776) (st : ISt),
  ICall prog gl 52 [x] st (fun r st' => IsFm f r ∧ st' = st)
theorem CopyForms_c (us : List Fm) (IH : ∀ a ∈ us, CF gl a) (tg : Tag) (xs : List IV) (htg : okEs tg 4) (hxs : IsFms us xs) (hsz : sizeFms us ≤ 1099511627776) (st : ISt) :
  ICall prog gl 87 [.sl tg xs] st (fun r st' => ∃ tg' ys, r = .sl tg' ys ∧ okEs tg' 4 ∧ IsFms us ys ∧ st' = st) := by
  have hlsz := flen_le_size us
  refine ICall.intro (c := cf prog gl [] []) func87 rfl (by show _ ≤ 20; simp) (by kernel_rfl) ?_
  simp -implicitDefEqProofs -dsimp only [go_sem, ↓reduceIte, zE, zB, zA, zM, zS, zL, reduceCtorEq]
  refine LoopC.ctr us.length (fun k fr st' ds => (∃ tg' ys, fr 3 = .iv (.sl tg' ys) ∧ IsFms (us.take k) ys ∧ frontF st k tg' st') ∧ fr 0 = .iv (.sl tg xs) ∧ fr 4 = .iv (.raw (.int .i64 k)) ∧ ds = []) ?_ ?_ ?_
  · simp -implicitDefEqProofs -dsimp only [go_sem, ↓reduceIte, zE, zB, zA, zM, zS, zL, reduceCtorEq]
    exact ⟨⟨_, _, rfl, rfl, .inl ⟨rfl, rfl, rfl⟩⟩, rfl⟩
  · rintro k fr st1 _ hlt ⟨⟨tg', ys, f3, hys, hfr⟩, f0, f4, rfl⟩
    obtain ⟨a, ha⟩ := get_of_lt hlt
    obtain ⟨x, hkx, hx⟩ := hxs.get ha
    obtain ⟨h1, h2⟩ := sizeFms_take ha
    have hlen2 : ys.length = k := by rw [hys.len, List.length_take]; omega
    have hnext : ∀ r, IsFm a r → IsFms (us.take (k + 1)) (ys ++ [r]) := fun r hr => by
      rw [take_get ha]
      exact hys.append (IsFms.one hr)
    have hcall := IH a (List.mem_of_getElem? ha) x hx (by omega) st1
    obtain ⟨o2, n2, u2, s2⟩ := a
    obtain ⟨t3, x3, t4, x4, rfl, _⟩ := hx.mk
    simp -implicitDefEqProofs -dsimp only [go_sem, ↓reduceIte, zE, zB, zA, zM, zS, zL, reduceCtorEq, f0, f3, f4, hxs.len, lt_i hlt, reTag_es htg, Int.natCast_nonneg, hkx, fits]
    intro _
    refine hcall.mono ?_
    rintro r _ ⟨hr, rfl⟩
    have hn := hnext _ hr
    obtain ⟨t5, x5, t6, x6, rfl, ho5, _⟩ := hr.mk
    rcases hfr with ⟨rfl, hc, rfl⟩ | ⟨hk, g0, rfl, hg0, rfl⟩
    · obtain ⟨tf, tc, te⟩ := tg'
      simp only at hc
      subst hc
      obtain rfl : ys = [] := List.eq_nil_of_length_eq_zero hlen2
      simp -implicitDefEqProofs -dsimp only [go_sem, ↓reduceIte, zE, zB, zA, zM, zS, zL, reduceCtorEq, f0, f3, f4, fits]
      refine chk_intro rfl fun g' => giv_intro fun hg => ⟨⟨_, _, rfl, hn, .inr ⟨Nat.one_pos, g', rfl, hg, rfl⟩⟩, ?_⟩
      rfl
    · simp -implicitDefEqProofs -dsimp only [go_sem, ↓reduceIte, zE, zB, zA, zM, zS, zL, reduceCtorEq, f0, f3, f4, fits, ISt.put_same, hlen2]
      refine chk_intro rfl (chk_intro ⟨by omega, by omega⟩ fun g' => giv_intro fun hg => ⟨⟨_, _, rfl, hn, .inr ⟨Nat.succ_pos _, g', rfl, ?_, ?_⟩⟩, ?_⟩)
      · rcases hg with rfl | hg
        · exact hg0
        · by_cases hgg : g' = g0
          · rw [hgg]; exact hg0
          · rw [put_ne hgg] at hg; exact hg
      · rw [put_put_same, put_self hg0]
      · rw [w_succ hlt (show us.length ≤ 281474976710656 by omega)]
  · rintro fr st1 _ ⟨⟨tg', ys, f3, hys, hfr⟩, f0, f4, rfl⟩
    rw [List.take_length] at hys
    have hes : okEs tg' 4 := by
      rcases hfr with ⟨_, h, _⟩ | ⟨_, g, rfl, _⟩
      · exact .inl h
      · exact .inr rfl
    simp -implicitDefEqProofs -dsimp only [go_sem, ↓reduceIte, zE, zB, zA, zM, zS, zL, reduceCtorEq, f0, f3, f4, hxs.len, nlt_i (Nat.lt_irrefl _), fits]
    intro _
    refine outK_sub (st' := st) ?_ ⟨tg', ys, rfl, hes, hys, rfl⟩
    rcases hfr with ⟨_, _, rfl⟩ | ⟨_, g, _, hg, rfl⟩
    · exact subSt.refl _
    · exact subSt_put hg
theorem Copy_step (op : Nat) (n : ByteArray) (us : List Tm) (sub : List Fm) (IH : ∀ a ∈ sub, CF gl a) : CF gl (.mk op n us sub) := by
  intro x hx hsz st
  obtain ⟨tg, xs, tg', ys, rfl, hop, htg, hxs, htg', hys⟩ := hx.mk
  simp only [Fm.size] at hsz
  refine ICall.intro (c := cf prog gl [] [(1, [0, 1, 2, 3, 4, 5, 7, 8, 6, 9, 10, 11])]) func52 rfl (by show _ ≤ 14; simp) (by kernel_rfl) ?_
  simp -implicitDefEqProofs -dsimp only [go_sem, ↓reduceIte, zE, zB, zA, zM, zS, zL, reduceCtorEq, fits]
  refine (CopyTerms_c gl us tg xs htg hxs (by omega) _).mono ?_
  rintro _ _ ⟨t3, x3, rfl, ht3, hx3, rfl⟩
  simp -implicitDefEqProofs -dsimp only [go_sem, ↓reduceIte, zE, zB, zA, zM, zS, zL, reduceCtorEq, fits]
  refine (CopyForms_c gl sub IH tg' ys htg' hys (by omega) _).mono ?_
  rintro _ _ ⟨t4, x4, rfl, ht4, hx4, rfl⟩
  simp -implicitDefEqProofs -dsimp only [go_sem, ↓reduceIte, zE, zB, zA, zM, zS, zL, reduceCtorEq, fits]
  exact outK_self ⟨⟨t3, x3, t4, x4, rfl, hop, ht3, hx3, ht4, hx4⟩, rfl⟩
theorem Copy_all : ∀ (k : Nat) (t : Fm), SizeOf.sizeOf t < k → CF gl t
  | 0, f, h => by omega
  | k + 1, .mk o n us sub, h => Copy_step gl o n us sub (fun a ha => Copy_all k a (by
      have := List.sizeOf_lt_of_mem ha
      simp at h; omega))
theorem Copy_c (t : Fm) : CF gl t := Copy_all gl _ t (Nat.lt_succ_self _)
end Go.Proofs.Tryz

namespace Go.Proofs.Tryz
open Go Go.Iv
set_option maxRecDepth 4000
variable (gl : Nat → Option IV)

mutual
def bulkT : Tm → Nat
  | .mk _ n l => 1 + n.size / 40 + bulkTs l
def bulkTs : List Tm → Nat
  | [] => 0
  | a :: l => bulkT a + bulkTs l
end
theorem bulkTs_append : ∀ (l m : List Tm), bulkTs (l ++ m) = bulkTs l + bulkTs m
  | [], m => by simp [bulkTs]
  | a :: l, m => by simp only [List.cons_append, bulkTs, bulkTs_append l m]; omega
theorem bulkTs_take {l : List Tm} {k : Nat} {a : Tm} (h : l[k]? = some a) : bulkTs (l.take (k + 1)) = bulkTs (l.take k) + bulkT a ∧ bulkTs (l.take k) + bulkT a ≤ bulkTs l := by
  have h1 : bulkTs (l.take (k + 1)) = bulkTs (l.take k) + bulkT a := by rw [take_get h, bulkTs_append]; simp [bulkTs]
  refine ⟨h1, ?_⟩
  rw [← h1]
  conv => rhs; rw [← List.take_append_drop (k + 1) l, bulkTs_append]
  omega
def szPost (L : Int) (bulk : Nat) (st : ISt) (r : IV) (st' : ISt) : Prop := ∃ n : Nat, r = .raw (.int .i64 n) ∧ n ≤ bulk ∧ ((n : Int) ≤ L → n = bulk) ∧ st' = st
def SZ (us : List Tm) : Prop := ∀ (tg : Tag) (xs : List IV) (_ : okEs tg 3) (_ : IsTms us xs) (_ : bulkTs us ≤ 1125899906842624) (L : Int) (_ : -1125899906842624 ≤ L) (_ : L ≤ 1125899906842624) (st : ISt),
  ICall prog gl 86 [.sl tg xs, .raw (.int .i64 L)] st (szPost L (bulkTs us) st)
theorem size2_step (us : List Tm) (IH : ∀ v n l, Tm.mk v n l ∈ us → SZ gl l) : SZ gl us := by
  intro tg xs htg hxs hsz L hL1 hL2 st
  refine ICall.intro (c := cf prog gl [] []) func86 rfl (by show _ ≤ 39; simp) (by kernel_rfl) ?_
  simp -implicitDefEqProofs -dsimp only [go_sem, ↓reduceIte, zE, zB, zA, zM, zS, zL, reduceCtorEq]
  refine LoopC.ctr us.length (fun k fr st' ds => (∃ n : Nat, fr 5 = .iv (.raw (.int .i64 n)) ∧ n ≤ bulkTs (us.take k) ∧ ((n : Int) ≤ L → n = bulkTs (us.take k))) ∧ fr 0 = .iv (.sl tg xs) ∧ fr 1 = .iv (.raw (.int .i64 L)) ∧ fr 6 = .iv (.raw (.int .i64 k)) ∧ st' = st ∧ ds = []) ?_ ?_ ?_
  · simp -implicitDefEqProofs -dsimp only [go_sem, ↓reduceIte, zE, zB, zA, zM, zS, zL, reduceCtorEq]
    exact ⟨⟨0, rfl, Nat.le_refl _, fun _ => rfl⟩, rfl⟩
  · rintro k fr st _ hlt ⟨⟨n, f5, hn1, hn2⟩, f0, f1, f6, rfl, rfl⟩
    obtain ⟨a, ha⟩ := get_of_lt hlt
    obtain ⟨x, hkx, hx⟩ := hxs.get ha
    obtain ⟨h1, h2⟩ := bulkTs_take ha
    obtain ⟨v2, n2, m⟩ := a
    obtain ⟨tx, cx, rfl, htx, hcx⟩ := hx.mk
    simp only [bulkT] at h1 h2
    by_cases hL : (n : Int) ≤ L
    · have hw0 : IntKind.i64.wrap (L - n) = L - n := by rw [w64] <;> omega
      have hq : (if (40 : Int) = 0 then none else some (Value.int .i64 (IntKind.i64.wrap (((n2.size : Nat) : Int).tdiv 40)))) = some (Value.int .i64 ((n2.size / 40 : Nat) : Int)) := by
        rw [if_neg (by decide), show (((n2.size : Nat) : Int).tdiv 40) = ((n2.size / 40 : Nat) : Int) from rfl, w64] <;> omega
      have hw1 : IntKind.i64.wrap (1 + ((n2.size / 40 : Nat) : Int)) = ((1 + n2.size / 40 : Nat) : Int) := by rw [w64] <;> omega
      simp -implicitDefEqProofs -dsimp only [go_sem, ↓reduceIte, zE, zB, zA, zM, zS, zL, reduceCtorEq, f0, f1, f5, f6, hxs.len, lt_i hlt, decide_eq_true hL, fits, reTag_es htg, Int.natCast_nonneg, hkx, hw0]
      intro hlen
      rw [hq]
      simp -implicitDefEqProofs -dsimp only [go_sem, ↓reduceIte, zE, zB, zA, zM, zS, zL, reduceCtorEq, hw1]
      refine (IH _ _ _ (List.mem_of_getElem? ha) tx cx htx hcx (by omega) (L - n) (by omega) (by omega) _).mono ?_
      rintro _ st ⟨n', rfl, hn3, hn4, rfl⟩
      have hw2 : IntKind.i64.wrap (((1 + n2.size / 40 : Nat) : Int) + (n' : Int)) = ((1 + n2.size / 40 + n' : Nat) : Int) := by rw [w64] <;> omega
      have hw3 : IntKind.i64.wrap ((n : Int) + ((1 + n2.size / 40 + n' : Nat) : Int)) = ((n + (1 + n2.size / 40 + n') : Nat) : Int) := by rw [w64] <;> omega
      simp -implicitDefEqProofs -dsimp only [go_sem, ↓reduceIte, zE, zB, zA, zM, zS, zL, reduceCtorEq, f0, f1, f5, f6, hw1, hw2, hw3, w_succ hlt (show us.length ≤ 281474976710656 by omega)]
      refine ⟨n + (1 + n2.size / 40 + n'), rfl, by omega, fun h => ?_⟩
      have e1 := hn2 (by omega)
      have e2 := hn4 (by omega)
      omega
    · simp -implicitDefEqProofs -dsimp only [go_sem, ↓reduceIte, zE, zB, zA, zM, zS, zL, reduceCtorEq, f0, f1, f5, f6, hxs.len, lt_i hlt, decide_eq_false hL, fits]
      intro _
      exact outK_self ⟨n, rfl, by omega, fun h => absurd h hL, rfl⟩
  · rintro fr st _ ⟨⟨n, f5, hn1, hn2⟩, f0, f1, f6, rfl, rfl⟩
    rw [List.take_length] at hn1 hn2
    simp -implicitDefEqProofs -dsimp only [go_sem, ↓reduceIte, zE, zB, zA, zM, zS, zL, reduceCtorEq, f0, f1, f5, f6, hxs.len, nlt_i (Nat.lt_irrefl _), fits]
    intro _
    exact outK_self ⟨n, rfl, hn1, hn2, rfl⟩
theorem size2_all : ∀ (k : Nat) (us : List Tm), SizeOf.sizeOf us < k → SZ gl us
  | 0, f, h => by omega
  | k + 1, us, h => size2_step gl us (fun v n l ha => size2_all k l (by
      have := List.sizeOf_lt_of_mem ha
      simp at this; omega))
theorem size2_c (us : List Tm) : SZ gl us := size2_all gl _ us (Nat.lt_succ_self _)
end Go.Proofs.Tryz
