/- Walks: what is given, copied, compared; puts. -/
import Derived.Test.YtknaeibenggbmaaGreatDoorLD
import Derived.Test.YtknaeibenggbmaaGreatDoorKU
set_option linter.all false
namespace Go.Proofs.Tryz
open Go Go.Iv
set_option maxRecDepth 4000
open Nat renaming reduceEqDiff → zE, reduceBEq → zB, reduceAdd → zA, reduceMul → zM, reduceSub → zS, reduceLeDiff → zL
attribute [local go_sem] cf setAt List.all_cons List.all_nil Bool.and_self Bool.true_and Bool.and_true Bool.false_and Bool.and_false Bool.not_true Bool.not_false List.mem_nil_iff if_false if_true beq_self_eq_true Nat.zero_add Nat.add_zero List.getElem?_cons_zero List.getElem?_cons_succ Option.map_some List.mem_cons or_false false_or or_true true_or Nat.sub_zero forall_const Int.toNat_natCast List.length_cons List.length_nil List.map_cons List.map_nil List.take_succ_cons List.take_zero List.drop_zero List.drop_succ_cons List.cons_append List.nil_append List.append_nil and_true true_and and_self true_implies List.zip_cons_cons List.zip_nil_left
variable (gl : Nat → Option IV)

theorem Given_c (l : Sb) (tg : Tag) (xs : List IV) (htg : okEs tg 4) (hxs : IsOnes l xs) (hl : l.length ≤ 1000000) (st : ISt) :
    ICall prog gl 44 [.sl tg xs] st (fun r st' => ∃ tg' ys, r = .sl tg' ys ∧ okEs tg' 4 ∧ IsOnes l ys ∧ st' = st) := by
  refine ICall.intro (c := cf prog gl [] []) func44 rfl (by show _ ≤ 26; simp) (by kernel_rfl) ?_
  simp -implicitDefEqProofs -dsimp only [go_sem, ↓reduceIte, zE, zB, zA, zM, zS, zL, reduceCtorEq, fits]
  refine LoopC.ctr l.length (fun k fr st' ds => (∃ tg' ys, fr 3 = .iv (.sl tg' ys) ∧ IsOnes (l.take k) ys ∧ own st' tg' k 4 st ∧ subSt st st') ∧ fr 0 = .iv (.sl tg xs) ∧ fr 4 = .iv (.raw (.int .i64 k)) ∧ ds = []) ?_ ?_ ?_
  · simp -implicitDefEqProofs -dsimp only [go_sem, ↓reduceIte, zE, zB, zA, zM, zS, zL, reduceCtorEq]
    exact ⟨⟨_, _, rfl, rfl, own.nil _ _ _ _ _, subSt.refl _⟩, rfl⟩
  · rintro k fr st1 _ hlt ⟨⟨tg', ys, f3, hys, hown, hsub1⟩, f0, f4, rfl⟩
    obtain ⟨o, ho⟩ := get_of_lt hlt
    obtain ⟨y, hky, v3, n3, t3, x3, rfl, hy⟩ := hxs.get ho
    have hlen2 : ys.length = k := by rw [hys.len, List.length_take]; omega
    simp -implicitDefEqProofs -dsimp only [go_sem, ↓reduceIte, zE, zB, zA, zM, zS, zL, reduceCtorEq, f0, f3, f4, hxs.len, lt_i hlt, reTag_es htg, Int.natCast_nonneg, hky, fits, inOrder_one]
    intros
    refine appV_own hown hlen2 hsub1 rfl (by simp [fits, IV.one]) (by simp only; omega) (by omega) fun tg2 st2 hown2 hsub2 _ => ?_
    simp -implicitDefEqProofs -dsimp only [go_sem, ↓reduceIte, zE, zB, zA, zM, zS, zL, reduceCtorEq, f0, f3, f4, fits, w_succ hlt (show l.length ≤ 281474976710656 by omega)]
    exact ⟨tg2, _, rfl, by rw [take_get ho]; exact hys.append (IsOnes.one ⟨v3, n3, t3, x3, rfl, hy⟩), hown2, hsub2⟩
  · rintro fr st1 _ ⟨⟨tg', ys, f3, hys, hown, hsub1⟩, f0, f4, rfl⟩
    rw [List.take_length] at hys
    simp -implicitDefEqProofs -dsimp only [go_sem, ↓reduceIte, zE, zB, zA, zM, zS, zL, reduceCtorEq, f0, f3, f4, hxs.len, nlt_i (Nat.lt_irrefl _), fits]
    intros
    exact outK_sub hsub1 ⟨tg', ys, rfl, hown.es, hys, rfl⟩
theorem copied_c (l : Sb) (tg : Tag) (xs : List IV) (htg : okEs tg 4) (hxs : IsOnes l xs) (hl : l.length ≤ 1000000) (hls : ∀ p ∈ l, p.2.size ≤ 1000000) (st : ISt) :
    ICall prog gl 40 [.sl tg xs] st (fun r st' => ∃ tg' ys, r = .sl tg' ys ∧ okEs tg' 4 ∧ IsOnes l ys ∧ st' = st) := by
  refine ICall.intro (c := cf prog gl [] []) func40 rfl (by show _ ≤ 30; simp) (by kernel_rfl) ?_
  simp -implicitDefEqProofs -dsimp only [go_sem, ↓reduceIte, zE, zB, zA, zM, zS, zL, reduceCtorEq, fits]
  refine LoopC.ctr l.length (fun k fr st' ds => (∃ tg' ys, fr 3 = .iv (.sl tg' ys) ∧ IsOnes (l.take k) ys ∧ own st' tg' k 4 st ∧ subSt st st') ∧ fr 0 = .iv (.sl tg xs) ∧ fr 4 = .iv (.raw (.int .i64 k)) ∧ ds = []) ?_ ?_ ?_
  · simp -implicitDefEqProofs -dsimp only [go_sem, ↓reduceIte, zE, zB, zA, zM, zS, zL, reduceCtorEq]
    exact ⟨⟨_, _, rfl, rfl, own.nil _ _ _ _ _, subSt.refl _⟩, rfl⟩
  · rintro k fr st1 _ hlt ⟨⟨tg', ys, f3, hys, hown, hsub1⟩, f0, f4, rfl⟩
    obtain ⟨o, ho⟩ := get_of_lt hlt
    obtain ⟨y, hky, v3, n3, t3, x3, rfl, hy⟩ := hxs.get ho
    have hlen2 : ys.length = k := by rw [hys.len, List.length_take]; omega
    have hosz := hls o (List.mem_of_getElem? ho)
    have hcopy := fun tg htg st => CopyTerms_c gl [o.2] tg [.agg [.raw (.bool v3), .raw (.string n3), .sl t3 x3]] htg (IsTms.one hy) (by simp only [sizeTms]; omega) st
    simp -implicitDefEqProofs -dsimp only [go_sem, ↓reduceIte, zE, zB, zA, zM, zS, zL, reduceCtorEq, f0, f3, f4, hxs.len, lt_i hlt, reTag_es htg, Int.natCast_nonneg, hky, fits, inOrder_one]
    intros
    refine (hcopy _ (.inr rfl) _).mono ?_
    rintro _ st1 ⟨t5, x5, rfl, ht5, hx5, rfl⟩
    obtain ⟨z, zs, rfl, hz, hzs⟩ := hx5
    obtain rfl : zs = [] := by simpa [IsTms] using hzs
    have hz0 := hz
    obtain ⟨v6, n6, t6, x6, rfl⟩ := hz.agg
    simp -implicitDefEqProofs -dsimp only [go_sem, ↓reduceIte, zE, zB, zA, zM, zS, zL, reduceCtorEq, f0, f3, f4, fits, reTag_es ht5, inOrder_one, Int.le_refl, Int.toNat_zero]
    refine appV_own hown hlen2 hsub1 rfl (by simp [fits, IV.one]) (by simp only; omega) (by omega) fun tg2 st2 hown2 hsub2 _ => ?_
    simp -implicitDefEqProofs -dsimp only [go_sem, ↓reduceIte, zE, zB, zA, zM, zS, zL, reduceCtorEq, f0, f3, f4, fits, w_succ hlt (show l.length ≤ 281474976710656 by omega)]
    exact ⟨tg2, _, rfl, by rw [take_get ho]; exact hys.append (IsOnes.one ⟨v6, n6, t6, x6, rfl, hz0⟩), hown2, hsub2⟩
  · rintro fr st1 _ ⟨⟨tg', ys, f3, hys, hown, hsub1⟩, f0, f4, rfl⟩
    rw [List.take_length] at hys
    simp -implicitDefEqProofs -dsimp only [go_sem, ↓reduceIte, zE, zB, zA, zM, zS, zL, reduceCtorEq, f0, f3, f4, hxs.len, nlt_i (Nat.lt_irrefl _), fits]
    intros
    exact outK_sub hsub1 ⟨tg', ys, rfl, hown.es, hys, rfl⟩
theorem same_c (l : Sb) (tg tg' : Tag) (xs ys : List IV) (htg : okEs tg 4) (htg' : okEs tg' 4) (hxs : IsOnes l xs) (hys : IsOnes l ys) (hl : l.length ≤ 1000000) (st : ISt) :
    ICall prog gl 46 [.sl tg xs, .sl tg' ys] st (fun r st' => r = .raw (.bool true) ∧ st' = st) := by
  refine ICall.intro (c := cf prog gl [] []) func46 rfl (by show _ ≤ 44; simp) (by kernel_rfl) ?_
  simp -implicitDefEqProofs -dsimp only [go_sem, ↓reduceIte, zE, zB, zA, zM, zS, zL, reduceCtorEq, fits]
  refine LoopC.ctr l.length (fun k fr st' ds => fr 0 = .iv (.sl tg xs) ∧ fr 1 = .iv (.sl tg' ys) ∧ fr 5 = .iv (.raw (.int .i64 k)) ∧ st' = st ∧ ds = []) ?_ ?_ ?_
  · simp -implicitDefEqProofs -dsimp only [go_sem, ↓reduceIte, zE, zB, zA, zM, zS, zL, reduceCtorEq]
    first | rfl | exact ⟨rfl, rfl⟩
  · rintro k fr st _ hlt ⟨f0, f1, f5, rfl, rfl⟩
    obtain ⟨o, ho⟩ := get_of_lt hlt
    obtain ⟨y, hky, v3, n3, t3, x3, rfl, hy⟩ := hxs.get ho
    obtain ⟨z, hkz, v4, n4, t4, x4, rfl, hz⟩ := hys.get ho
    have hsame := fun ta tb hta htb st => SameTerms_c gl ta tb [o.2] [o.2] [.agg [.raw (.bool v3), .raw (.string n3), .sl t3 x3]] [.agg [.raw (.bool v4), .raw (.string n4), .sl t4 x4]] hta htb (IsTms.one hy) (IsTms.one hz) st
    simp -implicitDefEqProofs -dsimp only [go_sem, ↓reduceIte, zE, zB, zA, zM, zS, zL, reduceCtorEq, f0, f1, f5, hxs.len, hys.len, lt_i hlt, reTag_es htg, reTag_es htg', Int.natCast_nonneg, hky, hkz, fits, inOrder_one, decide_true]
    intros
    refine (hsame _ _ (.inr rfl) (.inr rfl) _).mono ?_
    rintro _ st ⟨rfl, rfl⟩
    simp -implicitDefEqProofs -dsimp only [go_sem, ↓reduceIte, zE, zB, zA, zM, zS, zL, reduceCtorEq, f0, f1, f5, eqB_true.2 (rfl : [o.2] = [o.2]), w_succ hlt (show l.length ≤ 281474976710656 by omega)]
  · rintro fr st _ ⟨f0, f1, f5, rfl, rfl⟩
    simp -implicitDefEqProofs -dsimp only [go_sem, ↓reduceIte, zE, zB, zA, zM, zS, zL, reduceCtorEq, f0, f1, f5, hxs.len, hys.len, nlt_i (Nat.lt_irrefl _), fits, decide_true]
    intros
    exact outK_self ⟨rfl, rfl⟩

variable {gl}
theorem puts_c (G : Gl gl) (T : Gt gl) (hgl : agedG gl) (f : Fm) (x : IV) (hx : IsFm f x) (hs : f.size ≤ 1000) (l : Sb) (tg : Tag) (xs : List IV) (htg : okEs tg 4) (hxs : IsOnes l xs) (hl : l.length ≤ 100) (hls : ∀ p ∈ l, p.2.size ≤ 1000)
    (hws : wS l ≤ 1000000000) (st : ISt) (hnb : noBx st) (hfl : flatSt st) :
    ICall prog gl 17 [x, .sl tg xs] st (fun r st' => r = .raw (.bool true) ∧ st' = st) := by
  have hls2 : ∀ p ∈ l, p.2.size ≤ 1000000 := fun p hp => by have := hls p hp; omega
  have hcopy := fun st => Copy_c gl f x hx (by omega) st
  have hcop := fun st => copied_c gl l tg xs htg hxs (by omega) hls2 st
  have hgiv := fun st => Given_c gl l tg xs htg hxs (by omega) st
  have hrp := fun tg' ys htg' hys st => rPuts_c gl f x hx (by omega) l tg' ys htg' hys (by omega) hls2 st
  have hrp1 := fun nm t y hy ht st => rPut_c gl f x hx (by omega) nm t y hy ht st
  have hx0 := hx
  obtain ⟨o0, n0, ta, xa, tb, xb, rfl⟩ := hx.agg
  refine ICall.intro (c := cf prog gl [] [(3, [0, 1, 7, 2, 3, 4, 5, 6, 8, 9]), (9, [0, 1, 2, 3, 4, 5, 6, 7, 8, 13, 9, 10, 11, 12, 14, 15]), (10, [0, 1, 2, 3, 4, 5, 6, 7, 8, 13, 9, 10, 11, 12, 14, 15])]) func17 rfl (by show _ ≤ 99; simp) (by kernel_rfl) ?_
  simp -implicitDefEqProofs -dsimp only [go_sem, ↓reduceIte, zE, zB, zA, zM, zS, zL, reduceCtorEq, fits]
  refine (hcopy _).mono ?_
  rintro xin st0 ⟨hin, hst⟩
  subst hst
  have hin0 := hin
  obtain ⟨o1, n1, tc, xc, td, xd, rfl⟩ := hin.agg
  simp -implicitDefEqProofs -dsimp only [go_sem, ↓reduceIte, zE, zB, zA, zM, zS, zL, reduceCtorEq, fits]
  refine (hcop _).mono ?_
  rintro _ st1 ⟨tl, xl, rfl, htl, hxl, hst⟩
  subst hst
  simp -implicitDefEqProofs -dsimp only [go_sem, ↓reduceIte, zE, zB, zA, zM, zS, zL, reduceCtorEq, fits]
  refine (own_FED hnb hfl hgl (Puts_d gl G T f _ hin0.aged (by omega) l _ _ (okEs_age htl) hxl.aged (by omega) hls2 hws _)).mono ?_
  rintro _ st2 ⟨z, rfl, hsub2, hfl2, hraw2, ⟨zi, hzi, hoz⟩, oz, nz, za, zb, dz, ez, rfl, ha1, hb1, hwt, hwf⟩
  simp -implicitDefEqProofs -dsimp only [go_sem, ↓reduceIte, zE, zB, zA, zM, zS, zL, reduceCtorEq, fits, ha1, hb1]
  refine (hgiv _).mono ?_
  rintro _ st3 ⟨t4, x4, rfl, ht4, hx4, hst⟩
  subst hst
  simp -implicitDefEqProofs -dsimp only [go_sem, ↓reduceIte, zE, zB, zA, zM, zS, zL, reduceCtorEq, fits]
  refine (hrp _ _ ht4 hx4 _).mono ?_
  rintro _ st4 ⟨zr, rfl, hzr, hst⟩
  subst hst
  have hzr0 := hzr
  obtain ⟨o5, n5, t5, x5, t6, x6, rfl⟩ := hzr.agg
  simp -implicitDefEqProofs -dsimp only [go_sem, ↓reduceIte, zE, zB, zA, zM, zS, zL, reduceCtorEq, fits, decide_true]
  refine (Same_own hfl2 hzi hoz hzr0).mono ?_
  rintro _ st5 ⟨hst, rfl⟩
  subst hst
  simp -implicitDefEqProofs -dsimp only [go_sem, ↓reduceIte, zE, zB, zA, zM, zS, zL, reduceCtorEq, fits, eqB_refl]
  refine (OverTerms_c gl _ _ _ hwt).mono ?_
  rintro _ st6 hov6
  simp -implicitDefEqProofs -dsimp only [go_sem, ↓reduceIte, zE, zB, zA, zM, zS, zL, reduceCtorEq, fits]
  refine (Over_c gl _ _ _ (hov6.wf _ _ hwf)).mono ?_
  rintro _ st7 hov7
  have hs7 := sub_ov hnb hsub2 (hov6.trans hov7)
  clear hov6 hov7 hwt hwf hoz hraw2 hfl2
  cases l with
  | nil =>
    have hxe : xs = [] := by simpa [IsOnes] using hxs
    simp -implicitDefEqProofs -dsimp only [go_sem, ↓reduceIte, zE, zB, zA, zM, zS, zL, reduceCtorEq, fits, hxs.len, List.length_nil, show decide ((0 : Int) < ((0 : Nat) : Int)) = false from rfl]
    intros
    refine (Same_c gl f f _ _ hin0 hx0 _).mono ?_
    rintro _ stz ⟨rfl, rfl⟩
    simp -implicitDefEqProofs -dsimp only [go_sem, ↓reduceIte, zE, zB, zA, zM, zS, zL, reduceCtorEq, fits, eqB_refl]
    refine (same_c gl _ _ _ _ _ htl htg hxl hxs (by simp only [List.length_cons, List.length_nil] at *; omega) _).mono ?_
    rintro _ stz ⟨rfl, rfl⟩
    simp -implicitDefEqProofs -dsimp only [go_sem, ↓reduceIte, zE, zB, zA, zM, zS, zL, reduceCtorEq, fits]
    exact outK_sub hs7 ⟨rfl, rfl⟩
  | cons p l =>
    obtain ⟨y, hky, v3, n3, t3, x3, rfl, hy⟩ := hxs.get (k := 0) (a := p) rfl
    obtain ⟨y', hky', v4, n4, t4', x4', rfl, hy'⟩ := hxl.get (k := 0) (a := p) rfl
    have hp1 := hls p (by simp)
    have hput := fun st hnb hfl => own_FED hnb hfl hgl (args := [.agg [.raw (.int .u8 o1), .raw (.string n1), .sl tc xc, .sl td xd], .raw (.string p.1), .agg [.raw (.bool v4), .raw (.string n4), .sl t4' x4']]) (Put_d gl G T f _ hin0.aged (by omega) p.1 p.2 _ hy'.aged (by omega) st)
    have hrp1' := fun st => hrp1 p.1 p.2 _ hy (by omega) st
    simp -implicitDefEqProofs -dsimp only [go_sem, ↓reduceIte, zE, zB, zA, zM, zS, zL, reduceCtorEq, fits, hxs.len, List.length_cons, show decide ((0 : Int) < ((l.length + 1 : Nat) : Int)) = true from decide_eq_true (by omega), reTag_es htg, reTag_es htl, Int.le_refl, Int.toNat_zero, hky, hky']
    intros
    refine (ICall.sub (hput _ hnb hfl) hs7).mono ?_
    rintro _ st8 ⟨z, rfl, hsub8, hfl8, hraw8, ⟨zi8, hzi8, hoz8⟩, oz8, nz8, za8, zb8, dz8, ez8, rfl, ha8, hb8, hwt8, hwf8⟩
    simp -implicitDefEqProofs -dsimp only [go_sem, ↓reduceIte, zE, zB, zA, zM, zS, zL, reduceCtorEq, fits, ha8, hb8, reTag_es htg, Int.le_refl, Int.toNat_zero, hky]
    refine (hrp1' _).mono ?_
    rintro _ st9 ⟨zr, rfl, hzr9, hst⟩
    subst hst
    have hzr90 := hzr9
    obtain ⟨o15, n15, t15, x15, t16, x16, rfl⟩ := hzr9.agg
    simp -implicitDefEqProofs -dsimp only [go_sem, ↓reduceIte, zE, zB, zA, zM, zS, zL, reduceCtorEq, fits, decide_true]
    refine (Same_own hfl8 hzi8 hoz8 hzr90).mono ?_
    rintro _ st9 ⟨hst, rfl⟩
    subst hst
    simp -implicitDefEqProofs -dsimp only [go_sem, ↓reduceIte, zE, zB, zA, zM, zS, zL, reduceCtorEq, fits, eqB_refl]
    refine (OverTerms_c gl _ _ _ hwt8).mono ?_
    rintro _ st10 hov10
    simp -implicitDefEqProofs -dsimp only [go_sem, ↓reduceIte, zE, zB, zA, zM, zS, zL, reduceCtorEq, fits]
    refine (Over_c gl _ _ _ (hov10.wf _ _ hwf8)).mono ?_
    rintro _ st11 hov11
    have hs11 := sub_ov hnb hsub8 (hov10.trans hov11)
    simp -implicitDefEqProofs -dsimp only [go_sem, ↓reduceIte, zE, zB, zA, zM, zS, zL, reduceCtorEq, fits]
    refine (Same_c gl f f _ _ hin0 hx0 _).mono ?_
    rintro _ stz ⟨rfl, rfl⟩
    simp -implicitDefEqProofs -dsimp only [go_sem, ↓reduceIte, zE, zB, zA, zM, zS, zL, reduceCtorEq, fits, eqB_refl]
    refine (same_c gl _ _ _ _ _ htl htg hxl hxs (by simp only [List.length_cons, List.length_nil] at *; omega) _).mono ?_
    rintro _ stz ⟨rfl, rfl⟩
    simp -implicitDefEqProofs -dsimp only [go_sem, ↓reduceIte, zE, zB, zA, zM, zS, zL, reduceCtorEq, fits]
    exact outK_sub hs11 ⟨rfl, rfl⟩
end Go.Proofs.Tryz
