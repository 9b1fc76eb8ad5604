/- Walks: alphas; the law SubstAlphas. -/
import Derived.Test.YtknaeibenggbmaaGreatDoorLD
import Derived.Test.YtknaeibenggbmaaGreatDoorLE
import Derived.Test.YtknaeibenggbmaaGreatDoorLF
import Derived.Test.YtknaeibenggbmaaGreatDoorKC
set_option linter.all false
namespace Go.Proofs.Tryz
open Go Go.Iv
set_option maxRecDepth 4000
open Nat renaming reduceEqDiff → zE, reduceBEq → zB, reduceAdd → zA, reduceMul → zM, reduceSub → zS, reduceLeDiff → zL
attribute [local go_sem] cf setAt List.all_cons List.all_nil Bool.and_self Bool.true_and Bool.and_true Bool.false_and Bool.and_false Bool.not_true Bool.not_false List.mem_nil_iff if_false if_true beq_self_eq_true Nat.zero_add Nat.add_zero List.getElem?_cons_zero List.getElem?_cons_succ Option.map_some List.mem_cons or_false false_or or_true true_or Nat.sub_zero forall_const Int.toNat_natCast List.length_cons List.length_nil List.map_cons List.map_nil List.take_succ_cons List.take_zero List.drop_zero List.drop_succ_cons List.cons_append List.nil_append List.append_nil and_true true_and and_self true_implies List.zip_cons_cons List.zip_nil_left
variable {gl : Nat → Option IV}

theorem alphas_c (G : Gl gl) (T : Gt gl) (hgl : agedG gl) (f g : Fm) (x y : IV) (hx : IsFm f x) (hy : IsFm g y) (hs : f.size ≤ 1000) (hs' : g.size ≤ 1000) (st : ISt) (hnb : noBx st) (hfl : flatSt st) :
    ICall prog gl 19 [x, y] st (fun r st' => r = .raw (.bool true) ∧ st' = st) := by
  have hcopy := fun st => Copy_c gl f x hx (by omega) st
  have hrn := fun st => rNormal_c gl f x hx (by omega) st
  have hra := fun st => rAlpha_c gl f g x y hx hy (by omega) (by omega) st
  have hpa := fun z hz st => Alpha_c gl G f g z y hz hy (by omega) (by omega) st
  have hx0 := hx
  obtain ⟨o0, n0, ta, xa, tb, xb, rfl⟩ := hx.agg
  obtain ⟨o9, n9, te, xe, tf, xf, rfl⟩ := hy.agg
  refine ICall.intro (c := cf prog gl [] [(4, [0, 1, 2, 3, 4, 5, 6, 7, 8, 9, 10, 11, 13, 14, 12, 15, 16, 17])]) func19 rfl (by show _ ≤ 49; simp) (by kernel_rfl) ?_
  simp -implicitDefEqProofs -dsimp only [go_sem, ↓reduceIte, zE, zB, zA, zM, zS, zL, reduceCtorEq, fits]
  refine (hcopy _).mono ?_
  rintro xin st0 ⟨hin, hst⟩
  subst hst
  have hin0 := hin
  obtain ⟨o1, n1, tc, xc, td, xd, rfl⟩ := hin.agg
  simp -implicitDefEqProofs -dsimp only [go_sem, ↓reduceIte, zE, zB, zA, zM, zS, zL, reduceCtorEq, fits]
  refine (own_FED hnb hfl hgl (Normal_d gl G T f _ hin0.aged (by omega) _)).mono ?_
  rintro _ st2 ⟨z, rfl, hsub2, hfl2, hraw2, ⟨zi, hzi, hoz⟩, oz, nz, za, zb, dz, ez, rfl, ha1, hb1, hwt, hwf⟩
  simp -implicitDefEqProofs -dsimp only [go_sem, ↓reduceIte, zE, zB, zA, zM, zS, zL, reduceCtorEq, fits, ha1, hb1]
  refine (hrn _).mono ?_
  rintro _ st4 ⟨zr, rfl, hzr, hst⟩
  subst hst
  have hzr0 := hzr
  obtain ⟨o5, n5, t5, x5, t6, x6, rfl⟩ := hzr.agg
  simp -implicitDefEqProofs -dsimp only [go_sem, ↓reduceIte, zE, zB, zA, zM, zS, zL, reduceCtorEq, fits, decide_true]
  refine (Same_own hfl2 hzi hoz hzr0).mono ?_
  rintro _ st5 ⟨hst, rfl⟩
  subst hst
  simp -implicitDefEqProofs -dsimp only [go_sem, ↓reduceIte, zE, zB, zA, zM, zS, zL, reduceCtorEq, fits, eqB_refl]
  refine (hpa _ hin0 _).mono ?_
  rintro _ st5 ⟨rfl, hst⟩
  subst hst
  simp -implicitDefEqProofs -dsimp only [go_sem, ↓reduceIte, zE, zB, zA, zM, zS, zL, reduceCtorEq, fits]
  refine (hra _).mono ?_
  rintro _ st5 ⟨rfl, hst⟩
  subst hst
  simp -implicitDefEqProofs -dsimp only [go_sem, ↓reduceIte, zE, zB, zA, zM, zS, zL, reduceCtorEq, fits, Bool.not_true, beq_self_eq_true]
  refine (OverTerms_c gl _ _ _ hwt).mono ?_
  rintro _ st6 hov6
  simp -implicitDefEqProofs -dsimp only [go_sem, ↓reduceIte, zE, zB, zA, zM, zS, zL, reduceCtorEq, fits]
  refine (Over_c gl _ _ _ (hov6.wf _ _ hwf)).mono ?_
  rintro _ st7 hov7
  have hs7 := sub_ov hnb hsub2 (hov6.trans hov7)
  clear hov6 hov7 hwt hwf hoz hraw2 hfl2
  simp -implicitDefEqProofs -dsimp only [go_sem, ↓reduceIte, zE, zB, zA, zM, zS, zL, reduceCtorEq, fits]
  refine (Same_c gl f f _ _ hin0 hx0 _).mono ?_
  rintro _ stz ⟨rfl, rfl⟩
  simp -implicitDefEqProofs -dsimp only [go_sem, ↓reduceIte, zE, zB, zA, zM, zS, zL, reduceCtorEq, fits, eqB_refl]
  exact outK_sub hs7 ⟨rfl, rfl⟩
theorem SubstAlphas_c (G : Gl gl) (T : Gt gl) (hgl : agedG gl) (f g : Fm) (x y : IV) (hx : IsFm f x) (hy : IsFm g y) (hb1 : bulkF f ≤ 1000000000) (hb2 : bulkF g ≤ 1000000000) :
    ICall prog gl 4 [x, y] (fun _ => none) (fun r st' => r = .raw (.bool true) ∧ st' = fun _ => none) := by
  have hsmall := fun tg htg st => Small_c gl [f, g] tg [x, y] htg ⟨_, _, rfl, hx, _, _, rfl, hy, rfl⟩ (by simp only [bulkFs]; omega) st
  have hfsz := Fm.size_bulk f
  have hgsz := Fm.size_bulk g
  have hal := fun hs hs' st hnb hfl => alphas_c G T hgl f g x y hx hy hs hs' st hnb hfl
  obtain ⟨o0, n0, ta, xa, tb, xb, rfl⟩ := hx.agg
  obtain ⟨o9, n9, te, xe, tf, xf, rfl⟩ := hy.agg
  refine ICall.intro (c := cf prog gl [] []) func4 rfl (by show _ ≤ 18; simp) (by kernel_rfl) ?_
  simp -implicitDefEqProofs -dsimp only [go_sem, ↓reduceIte, zE, zB, zA, zM, zS, zL, reduceCtorEq, fits, inOrder_two]
  refine (hsmall _ (by simp only [go_sem]) _).mono ?_
  rintro _ st ⟨rfl, hst⟩
  subst hst
  by_cases hz : bulkFs [f, g] ≤ 500
  case neg =>
    simp -implicitDefEqProofs -dsimp only [go_sem, ↓reduceIte, zE, zB, zA, zM, zS, zL, reduceCtorEq, fits, decide_eq_false hz]
    refine (awake_c gl G T _).mono ?_
    rintro _ st ⟨rfl, rfl⟩
    simp -implicitDefEqProofs -dsimp only [go_sem, ↓reduceIte, zE, zB, zA, zM, zS, zL, reduceCtorEq, fits]
    exact outK_self ⟨rfl, rfl⟩
  have hz' : bulkF f + bulkF g ≤ 500 := by simpa [bulkFs] using hz
  simp -implicitDefEqProofs -dsimp only [go_sem, ↓reduceIte, zE, zB, zA, zM, zS, zL, reduceCtorEq, fits, decide_eq_true hz]
  refine (hal (by omega) (by omega) _ (fun _ _ h => by cases h) flatSt.none).mono ?_
  rintro _ st ⟨rfl, hst⟩
  subst hst
  simp -implicitDefEqProofs -dsimp only [go_sem, ↓reduceIte, zE, zB, zA, zM, zS, zL, reduceCtorEq, fits]
  refine (awake_c gl G T _).mono ?_
  rintro _ st ⟨rfl, rfl⟩
  simp -implicitDefEqProofs -dsimp only [go_sem, ↓reduceIte, zE, zB, zA, zM, zS, zL, reduceCtorEq, fits]
  exact outK_self ⟨rfl, rfl⟩
end Go.Proofs.Tryz
