/- The law SubstAsks. -/
import Derived.Test.YtknaeibenggbmaaGreatDoorKN
import Derived.Test.YtknaeibenggbmaaGreatDoorKC
set_option linter.all false
namespace Go.Proofs.Tryz
open Go Go.Iv
set_option maxRecDepth 4000
open Nat renaming reduceEqDiff → zE, reduceBEq → zB, reduceAdd → zA, reduceMul → zM, reduceSub → zS, reduceLeDiff → zL
attribute [local go_sem] cf setAt List.all_cons List.all_nil Bool.and_self Bool.true_and Bool.and_true Bool.false_and Bool.and_false Bool.not_true Bool.not_false List.mem_nil_iff if_false if_true beq_self_eq_true Nat.zero_add Nat.add_zero List.getElem?_cons_zero List.getElem?_cons_succ Option.map_some List.mem_cons or_false false_or or_true true_or Nat.sub_zero forall_const Int.toNat_natCast List.length_cons List.length_nil List.map_cons List.map_nil List.take_succ_cons List.take_zero List.drop_zero List.drop_succ_cons List.cons_append List.nil_append List.append_nil and_true true_and and_self true_implies List.zip_cons_cons List.zip_nil_left
variable (gl : Nat → Option IV)

theorem bulkT_pos (t : Tm) : 1 ≤ bulkT t := by cases t; simp only [bulkT]; omega
mutual
theorem frF_bulk : ∀ f : Fm, ∀ n ∈ frF f, n.size ≤ 40 * bulkF f
  | .mk op m us sub, n, hn => by
    simp only [frF, List.mem_append] at hn
    simp only [bulkF]
    rcases hn with hn | hn
    · have := namess_bulk us n hn; omega
    · have hm : n ∈ frFs sub := by
        split at hn
        · exact (List.mem_filter.1 hn).1
        · exact hn
      have := frFs_bulk sub n hm; omega
theorem frFs_bulk : ∀ l : List Fm, ∀ n ∈ frFs l, n.size ≤ 40 * bulkFs l
  | [], n, hn => by cases hn
  | a :: l, n, hn => by
    simp only [frFs, List.mem_append] at hn
    simp only [bulkFs]
    rcases hn with hn | hn
    · have := frF_bulk a n hn; omega
    · have := frFs_bulk l n hn; omega
end
mutual
theorem boF_bulk : ∀ f : Fm, ∀ n ∈ boF f, n.size ≤ 40 * bulkF f
  | .mk op m us sub, n, hn => by
    simp only [boF, List.mem_append] at hn
    simp only [bulkF]
    rcases hn with hn | hn
    · have hm : n = m := by
        split at hn
        · exact List.mem_singleton.1 hn
        · cases hn
      rw [hm]; omega
    · have := boFs_bulk sub n hn; omega
theorem boFs_bulk : ∀ l : List Fm, ∀ n ∈ boFs l, n.size ≤ 40 * bulkFs l
  | [], n, hn => by cases hn
  | a :: l, n, hn => by
    simp only [boFs, List.mem_append] at hn
    simp only [bulkFs]
    rcases hn with hn | hn
    · have := boF_bulk a n hn; omega
    · have := boFs_bulk l n hn; omega
end
theorem asks_c (f : Fm) (x : IV) (hx : IsFm f x) (hb : bulkF f ≤ 500) (st : ISt) :
    ICall prog gl 47 [x] st (fun r st' => r = .raw (.bool true) ∧ st' = st) := by
  have hfsz := Fm.size_bulk f
  have hfr := frF_bulk f
  have hbo := boF_bulk f
  have hx0 := hx
  obtain ⟨op, m, us, sub⟩ := f
  obtain ⟨ta, xa, tb, xb, rfl, ho, hta, hxa, htb, hxb⟩ := hx.mk
  have husz : sizeTms us ≤ 500 := by simp only [Fm.size] at hfsz; omega
  have hbu : bulkTs us ≤ 500 := by simp only [bulkF] at hb; omega
  have hul := len_le_size us
  refine ICall.intro (c := cf prog gl [] [(2, [0, 2, 1, 3, 4, 5]), (8, [0, 1, 2, 3, 4, 6, 7, 8, 9, 10, 5, 11, 12, 13])]) func47 rfl (by show _ ≤ 49; simp) (by kernel_rfl) ?_
  simp -implicitDefEqProofs -dsimp only [go_sem, ↓reduceIte, zE, zB, zA, zM, zS, zL, reduceCtorEq, fits]
  refine (Copy_c gl _ _ hx0 (by omega) _).mono ?_
  rintro y st ⟨hy, rfl⟩
  have hy0 := hy
  obtain ⟨tc, xc, td, xd, rfl, ho2, htc, hxc, htd, hxd⟩ := hy.mk
  simp -implicitDefEqProofs -dsimp only [go_sem, ↓reduceIte, zE, zB, zA, zM, zS, zL, reduceCtorEq, fits]
  refine (Free_c gl _ _ hy0 (by omega) (fun n hn => by have := hfr n hn; omega) _).mono ?_
  rintro _ st ⟨t1, l1, rfl, ht1, hl1, rfl⟩
  simp -implicitDefEqProofs -dsimp only [go_sem, ↓reduceIte, zE, zB, zA, zM, zS, zL, reduceCtorEq, fits]
  refine (Bound_c gl _ _ hy0 (by omega) (fun n hn => by have := hbo n hn; omega) _).mono ?_
  rintro _ st ⟨t2, l2, rfl, ht2, hl2, rfl⟩
  simp -implicitDefEqProofs -dsimp only [go_sem, ↓reduceIte, zE, zB, zA, zM, zS, zL, reduceCtorEq, fits]
  refine (rFree_c gl _ _ hx0 (by omega) _).mono ?_
  rintro _ st ⟨t3, l3, rfl, ht3, hl3, rfl⟩
  obtain rfl : l1 = l3 := SortedOf.eq hl1 hl3
  simp -implicitDefEqProofs -dsimp only [go_sem, ↓reduceIte, zE, zB, zA, zM, zS, zL, reduceCtorEq, fits]
  refine (SameNames_c gl t1 t3 l1 l1 ht1 ht3 _).mono ?_
  rintro _ st ⟨rfl, rfl⟩
  simp -implicitDefEqProofs -dsimp only [go_sem, ↓reduceIte, zE, zB, zA, zM, zS, zL, reduceCtorEq, fits, eqB_true.2 (rfl : l1 = l1)]
  refine (rBound_c gl _ _ hx0 (by omega) _).mono ?_
  rintro _ st ⟨t4, l4, rfl, ht4, hl4, rfl⟩
  obtain rfl : l2 = l4 := SortedOf.eq hl2 hl4
  simp -implicitDefEqProofs -dsimp only [go_sem, ↓reduceIte, zE, zB, zA, zM, zS, zL, reduceCtorEq, fits]
  refine (SameNames_c gl t2 t4 l2 l2 ht2 ht4 _).mono ?_
  rintro _ st ⟨rfl, rfl⟩
  simp -implicitDefEqProofs -dsimp only [go_sem, ↓reduceIte, zE, zB, zA, zM, zS, zL, reduceCtorEq, fits, eqB_true.2 (rfl : l2 = l2)]
  refine LoopC.ctr us.length (fun k fr st' ds => fr 1 = .box [.raw (.int .u8 op), .raw (.string m), .sl ta xa, .sl tb xb] ∧ fr 3 = .box [.raw (.int .u8 op), .raw (.string m), .sl tc xc, .sl td xd] ∧ fr 6 = .iv (.raw (.int .i64 k)) ∧ st' = st ∧ ds = []) ?_ ?_ ?_
  · simp -implicitDefEqProofs -dsimp only [go_sem, ↓reduceIte, zE, zB, zA, zM, zS, zL, reduceCtorEq]
    rfl
  · rintro k fr st _ hlt ⟨f1, f3, f6, rfl, rfl⟩
    obtain ⟨a, ha⟩ := get_of_lt hlt
    obtain ⟨y1, hky, hya⟩ := hxa.get ha
    obtain ⟨y2, hkz, hza⟩ := hxc.get ha
    obtain ⟨h1, h2⟩ := sizeTms_take ha
    obtain ⟨h3, h4⟩ := bulkTs_take ha
    have hnb := names_bulk a
    have hc1 := fun st => FreeTerm_c gl a y2 hza (by omega) (fun n hn => by have := hnb n hn; omega) st
    have hc2 := fun st => rFreeTerm_c gl a y1 hya (by omega) st
    obtain ⟨v5, n5, t5, x5, rfl⟩ := hya.agg
    obtain ⟨v6, n6, t6, x6, rfl⟩ := hza.agg
    simp -implicitDefEqProofs -dsimp only [go_sem, ↓reduceIte, zE, zB, zA, zM, zS, zL, reduceCtorEq, f1, f3, f6, hxa.len, lt_i hlt, fits, reTag_es hta, reTag_es htc, Int.natCast_nonneg, hky, hkz]
    intros
    refine (hc1 _).mono ?_
    rintro _ st ⟨t7, l7, rfl, ht7, hl7, rfl⟩
    simp -implicitDefEqProofs -dsimp only [go_sem, ↓reduceIte, zE, zB, zA, zM, zS, zL, reduceCtorEq, f1, f3, f6, fits, reTag_es hta, reTag_es htc, Int.natCast_nonneg, hky, hkz]
    refine (hc2 _).mono ?_
    rintro _ st ⟨t8, l8, rfl, ht8, hl8, rfl⟩
    obtain rfl : l7 = l8 := SortedOf.eq hl7 hl8
    simp -implicitDefEqProofs -dsimp only [go_sem, ↓reduceIte, zE, zB, zA, zM, zS, zL, reduceCtorEq, f1, f3, f6, fits]
    refine (SameNames_c gl t7 t8 l7 l7 ht7 ht8 _).mono ?_
    rintro _ st ⟨rfl, rfl⟩
    simp -implicitDefEqProofs -dsimp only [go_sem, ↓reduceIte, zE, zB, zA, zM, zS, zL, reduceCtorEq, f1, f3, f6, fits, eqB_true.2 (rfl : l7 = l7), w_succ hlt (show us.length ≤ 281474976710656 by omega)]
  · rintro fr st _ ⟨f1, f3, f6, rfl, rfl⟩
    simp -implicitDefEqProofs -dsimp only [go_sem, ↓reduceIte, zE, zB, zA, zM, zS, zL, reduceCtorEq, f1, f3, f6, hxa.len, nlt_i (Nat.lt_irrefl _), fits]
    intros
    refine (Same_c gl _ _ _ _ hy0 hx0 _).mono ?_
    rintro _ st ⟨rfl, rfl⟩
    simp -implicitDefEqProofs -dsimp only [go_sem, ↓reduceIte, zE, zB, zA, zM, zS, zL, reduceCtorEq, f1, f3, f6, fits, eqB_true.2 (rfl : Fm.mk op m us sub = .mk op m us sub)]
    exact outK_self ⟨rfl, rfl⟩
theorem SubstAsks_c (G : Gl gl) (T : Gt gl) (f : Fm) (x : IV) (hx : IsFm f x) (tg : Tag) (htg : okEs tg 1) (l : List ByteArray) (hl : l.length ≤ 1099511627776) (hb1 : bulkF f ≤ 1125899906842000) (st : ISt) :
    ICall prog gl 13 [x, .sl tg (strI l)] st (fun r st' => r = .raw (.bool true) ∧ st' = st) := by
  have hsmall := fun tg htg st => Small_c gl [f] tg [x] htg (IsFms.one hx) (by simpa [bulkFs] using hb1) st
  have hasks := fun hb st => asks_c gl f x hx hb st
  obtain ⟨o0, n0, ta, xa, tb, xb, rfl⟩ := hx.agg
  refine ICall.intro (c := cf prog gl [] []) func13 rfl (by show _ ≤ 28; simp) (by kernel_rfl) ?_
  simp -implicitDefEqProofs -dsimp only [go_sem, ↓reduceIte, zE, zB, zA, zM, zS, zL, reduceCtorEq, fits, inOrder_one]
  refine (hsmall _ (by simp only [go_sem]) _).mono ?_
  rintro _ st ⟨rfl, rfl⟩
  by_cases hz : bulkFs [f] ≤ 500
  case neg =>
    simp -implicitDefEqProofs -dsimp only [go_sem, ↓reduceIte, zE, zB, zA, zM, zS, zL, reduceCtorEq, fits, decide_eq_false hz]
    refine (awake_c gl G T _).mono ?_
    rintro _ st ⟨rfl, rfl⟩
    simp -implicitDefEqProofs -dsimp only [go_sem, ↓reduceIte, zE, zB, zA, zM, zS, zL, reduceCtorEq, fits]
    exact outK_self ⟨rfl, rfl⟩
  have hz' : bulkF f ≤ 500 := by simpa [bulkFs] using hz
  by_cases hlen : l.length ≤ 100
  case neg =>
    simp -implicitDefEqProofs -dsimp only [go_sem, ↓reduceIte, zE, zB, zA, zM, zS, zL, reduceCtorEq, fits, decide_eq_true hz, strI_length, show decide ((100 : Int) < (l.length : Int)) = true from decide_eq_true (by omega)]
    intros
    refine (awake_c gl G T _).mono ?_
    rintro _ st ⟨rfl, rfl⟩
    simp -implicitDefEqProofs -dsimp only [go_sem, ↓reduceIte, zE, zB, zA, zM, zS, zL, reduceCtorEq, fits]
    exact outK_self ⟨rfl, rfl⟩
  simp -implicitDefEqProofs -dsimp only [go_sem, ↓reduceIte, zE, zB, zA, zM, zS, zL, reduceCtorEq, fits, decide_eq_true hz, strI_length, show decide ((100 : Int) < (l.length : Int)) = false from decide_eq_false (by omega)]
  intros
  refine (hasks hz' _).mono ?_
  rintro _ st ⟨rfl, rfl⟩
  simp -implicitDefEqProofs -dsimp only [go_sem, ↓reduceIte, zE, zB, zA, zM, zS, zL, reduceCtorEq, fits]
  refine (Fresh_c gl T tg htg l hl _).mono ?_
  rintro _ st ⟨rfl, rfl⟩
  simp -implicitDefEqProofs -dsimp only [go_sem, ↓reduceIte, zE, zB, zA, zM, zS, zL, reduceCtorEq, fits]
  refine (rFresh_c gl tg htg l hl _).mono ?_
  rintro _ st ⟨rfl, rfl⟩
  simp -implicitDefEqProofs -dsimp only [go_sem, ↓reduceIte, zE, zB, zA, zM, zS, zL, reduceCtorEq, fits, decide_true]
  refine (awake_c gl G T _).mono ?_
  rintro _ st ⟨rfl, rfl⟩
  simp -implicitDefEqProofs -dsimp only [go_sem, ↓reduceIte, zE, zB, zA, zM, zS, zL, reduceCtorEq, fits]
  exact outK_self ⟨rfl, rfl⟩
end Go.Proofs.Tryz
