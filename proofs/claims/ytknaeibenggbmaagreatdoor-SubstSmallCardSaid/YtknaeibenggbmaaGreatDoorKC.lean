/- Walks: the makers of terms and formulas to the letter; the examples' formulas as plain data.
   Walks: awake. -/
import Derived.Test.YtknaeibenggbmaaGreatDoorKB
set_option linter.all false
open Nat renaming reduceEqDiff → zE, reduceBEq → zB, reduceAdd → zA, reduceMul → zM, reduceSub → zS, reduceLeDiff → zL
attribute [local go_sem] Go.Iv.cf Go.Iv.setAt List.all_cons List.all_nil Bool.and_self Bool.true_and Bool.and_true Bool.false_and Bool.and_false Bool.not_true Bool.not_false List.mem_nil_iff if_false if_true beq_self_eq_true Nat.zero_add Nat.add_zero List.getElem?_cons_zero List.getElem?_cons_succ Option.map_some List.mem_cons or_false false_or or_true true_or Nat.sub_zero forall_const Int.toNat_natCast List.length_cons List.length_nil List.map_cons List.map_nil List.take_succ_cons List.take_zero List.drop_zero List.drop_succ_cons List.cons_append List.nil_append List.append_nil and_true true_and and_self true_implies List.zip_cons_cons List.zip_nil_left
namespace Go.Proofs.Tryz
open Go Go.Iv
set_option maxRecDepth 4000
variable (gl : Nat → Option IV)

def tagT : List Tm → Tag
  | [] => ⟨true, .nil, 0⟩
  | _ :: _ => ⟨true, .full, 3⟩
def tagF : List Fm → Tag
  | [] => ⟨true, .nil, 0⟩
  | _ :: _ => ⟨true, .full, 4⟩
mutual
def tmI : Tm → IV
  | .mk v n us => .agg [.raw (.bool v), .raw (.string n), .sl (tagT us) (tmsI us)]
def tmsI : List Tm → List IV
  | [] => []
  | a :: l => tmI a :: tmsI l
end
mutual
def fmI : Fm → IV
  | .mk op n us sub => .agg [.raw (.int .u8 op), .raw (.string n), .sl (tagT us) (tmsI us), .sl (tagF sub) (fmsI sub)]
def fmsI : List Fm → List IV
  | [] => []
  | a :: l => fmI a :: fmsI l
end
theorem tagT_es (l : List Tm) : okEs (tagT l) 3 := by cases l <;> simp [tagT, okEs]
theorem tagF_es (l : List Fm) : okEs (tagF l) 4 := by cases l <;> simp [tagF, okEs]
mutual
theorem tmI_is : ∀ t : Tm, IsTm t (tmI t)
  | .mk v n us => by simp only [IsTm]; exact ⟨_, _, by simp only [tmI], tagT_es us, tmsI_is us⟩
theorem tmsI_is : ∀ l : List Tm, IsTms l (tmsI l)
  | [] => rfl
  | a :: l => ⟨_, _, by simp only [tmsI], tmI_is a, tmsI_is l⟩
end
mutual
def opsOk : Fm → Bool
  | .mk op _ _ sub => decide (op < 256) && opsOks sub
def opsOks : List Fm → Bool
  | [] => true
  | a :: l => opsOk a && opsOks l
end
mutual
theorem fmI_is : ∀ f : Fm, opsOk f = true → IsFm f (fmI f)
  | .mk op n us sub, h => by
    simp only [opsOk, Bool.and_eq_true, decide_eq_true_eq] at h
    simp only [IsFm]
    exact ⟨_, _, _, _, by simp only [fmI], h.1, tagT_es us, tmsI_is us, tagF_es sub, fmsI_is sub h.2⟩
theorem fmsI_is : ∀ l : List Fm, opsOks l = true → IsFms l (fmsI l)
  | [], _ => rfl
  | a :: l, h => by
    simp only [opsOks, Bool.and_eq_true] at h
    exact ⟨_, _, by simp only [fmsI], fmI_is a h.1, fmsI_is l h.2⟩
end

theorem v_x (s : ByteArray) (st : ISt) : ICall prog gl 24 [.raw (.string s)] st (fun x st' => x = .agg [.raw (.bool true), .raw (.string s), .sl ⟨true, .nil, 0⟩ []] ∧ st' = st) := by
  refine ICall.intro (c := cf prog gl [] []) func24 rfl (by show _ ≤ 5; simp) (by kernel_rfl) ?_
  simp -implicitDefEqProofs -dsimp only [go_sem, ↓reduceIte, zE, zB, zA, zM, zS, zL, reduceCtorEq, fits]
  exact outK_self ⟨rfl, rfl⟩
theorem of_x (op : Int) (s : ByteArray) (t : Tag) (xs : List IV) (st : ISt) :
    ICall prog gl 34 [.raw (.int .u8 op), .raw (.string s), .sl t xs] st (fun x st' => x = .agg [.raw (.int .u8 op), .raw (.string s), .sl ⟨true, .nil, 0⟩ [], .sl t xs] ∧ st' = st) := by
  refine ICall.intro (c := cf prog gl [] []) func34 rfl (by show _ ≤ 11; simp) (by kernel_rfl) ?_
  simp -implicitDefEqProofs -dsimp only [go_sem, ↓reduceIte, zE, zB, zA, zM, zS, zL, reduceCtorEq, fits]
  exact outK_self ⟨rfl, rfl⟩
theorem c_x (s : ByteArray) (t : Tag) (xs : List IV) (st : ISt) :
    ICall prog gl 35 [.raw (.string s), .sl t xs] st (fun x st' => x = .agg [.raw (.bool false), .raw (.string s), .sl t xs] ∧ st' = st) := by
  refine ICall.intro (c := cf prog gl [] []) func35 rfl (by show _ ≤ 8; simp) (by kernel_rfl) ?_
  simp -implicitDefEqProofs -dsimp only [go_sem, ↓reduceIte, zE, zB, zA, zM, zS, zL, reduceCtorEq, fits]
  exact outK_self ⟨rfl, rfl⟩
theorem p_x (s : ByteArray) (t : Tag) (xs : List IV) (st : ISt) :
    ICall prog gl 38 [.raw (.string s), .sl t xs] st (fun x st' => x = .agg [.raw (.int .u8 1), .raw (.string s), .sl t xs, .sl ⟨true, .nil, 0⟩ []] ∧ st' = st) := by
  refine ICall.intro (c := cf prog gl [] []) func38 rfl (by show _ ≤ 8; simp) (by kernel_rfl) ?_
  simp -implicitDefEqProofs -dsimp only [go_sem, ↓reduceIte, zE, zB, zA, zM, zS, zL, reduceCtorEq, fits]
  exact outK_self ⟨rfl, rfl⟩

/-! ### The examples of the chapter -/
def bx : ByteArray := ⟨#[120]⟩
def by_ : ByteArray := ⟨#[121]⟩
def bz : ByteArray := ⟨#[122]⟩
def bx1 : ByteArray := ⟨#[120, 49]⟩
def bx2 : ByteArray := ⟨#[120, 50]⟩
def bx3 : ByteArray := ⟨#[120, 51]⟩
def vT (n : ByteArray) : Tm := .mk true n []
def aP (l : List Tm) : Fm := .mk 1 ⟨#[80]⟩ l []
def aQ (l : List Tm) : Fm := .mk 1 ⟨#[81]⟩ l []
def aR (l : List Tm) : Fm := .mk 1 ⟨#[82]⟩ l []
def eF : Fm := .mk 4 ⟨#[]⟩ [] [.mk 9 bx [] [aP [vT bx, vT by_]], aQ [vT bx]]
def eTf : Tm := .mk false ⟨#[102]⟩ [vT bx]
def eA : Fm := .mk 4 ⟨#[]⟩ [] [.mk 9 bx1 [] [aP [vT bx1, eTf]], aQ [vT bx]]
def eG : Fm := .mk 8 bx [] [.mk 9 bx1 [] [aR [vT bx, vT bx1, vT by_]]]
def eTg : Tm := .mk false ⟨#[103]⟩ [vT bx1, vT bx]
def eB : Fm := .mk 8 bx2 [] [.mk 9 bx3 [] [aR [vT bx2, vT bx3, eTg]]]
def eH : Fm := .mk 8 by_ [] [.mk 6 ⟨#[]⟩ [] [aP [vT by_], .mk 9 bz [] [aR [vT by_, vT bz, vT bx1]]]]
def eN : Fm := .mk 8 bx2 [] [.mk 6 ⟨#[]⟩ [] [aP [vT bx2], .mk 9 bx3 [] [aR [vT bx2, vT bx3, vT bx1]]]]
theorem xName_1 : xName 1 = bx1 := by unfold xName; rw [Lib.decDigits_one (by omega)]; rfl
theorem xName_2 : xName 2 = bx2 := by unfold xName; rw [Lib.decDigits_one (by omega)]; rfl
theorem xName_3 : xName 3 = bx3 := by unfold xName; rw [Lib.decDigits_one (by omega)]; rfl
theorem least_1 {l : List ByteArray} (h : memB l bx1 = false) : leastN l = bx1 := by
  rw [leastN, leastK_eq (k := 1) (by omega) (by rw [xName_1]; exact memB_not.1 h) (fun j h1 h2 => by omega), xName_1]
theorem least_2 {l : List ByteArray} (h1 : memB l bx1 = true) (h : memB l bx2 = false) : leastN l = bx2 := by
  rw [leastN, leastK_eq (k := 2) (by omega) (by rw [xName_2]; exact memB_not.1 h) (fun j h2 h3 => by
    obtain rfl : j = 1 := by omega
    rw [xName_1]; exact memB_iff.1 h1), xName_2]
theorem least_3 {l : List ByteArray} (h1 : memB l bx1 = true) (h2 : memB l bx2 = true) (h : memB l bx3 = false) : leastN l = bx3 := by
  rw [leastN, leastK_eq (k := 3) (by omega) (by rw [xName_3]; exact memB_not.1 h) (fun j h3 h4 => by
    rcases (show j = 1 ∨ j = 2 by omega) with rfl | rfl
    · rw [xName_1]; exact memB_iff.1 h1
    · rw [xName_2]; exact memB_iff.1 h2), xName_3]
theorem under_clash {ps : Sb} {m : ByteArray} {fr : List ByteArray} {new : ByteArray} (h : clashS ps m fr = true) (hn : leastN (takenS ps m fr) = new) : underS ps m fr = (new, cntS ps m fr ++ [(m, .mk true new [])]) := by
  unfold underS; rw [if_pos h, hn]
theorem form_eF : formS [(by_, eTf)] eF = eA := by
  have h1 : underS [(by_, eTf)] bx (frFs [aP [vT bx, vT by_]]) = (bx1, [(by_, eTf), (bx, vT bx1)]) := (under_clash (by decide) (least_1 (by decide))).trans rfl
  show Fm.mk 4 ⟨#[]⟩ [] [.mk 9 (underS [(by_, eTf)] bx (frFs [aP [vT bx, vT by_]])).1 [] (formSs (underS [(by_, eTf)] bx (frFs [aP [vT bx, vT by_]])).2 [aP [vT bx, vT by_]]), formS [(by_, eTf)] (aQ [vT bx])] = eA
  rw [h1]
  rfl
theorem form_eG : formS [(by_, eTg)] eG = eB := by
  have h1 : underS [(by_, eTg)] bx (frFs [.mk 9 bx1 [] [aR [vT bx, vT bx1, vT by_]]]) = (bx2, [(by_, eTg), (bx, vT bx2)]) := (under_clash (by decide) (least_2 (by decide) (by decide))).trans rfl
  have h2 : underS [(by_, eTg), (bx, vT bx2)] bx1 (frFs [aR [vT bx, vT bx1, vT by_]]) = (bx3, [(by_, eTg), (bx, vT bx2), (bx1, vT bx3)]) := (under_clash (by decide) (least_3 (by decide) (by decide) (by decide))).trans rfl
  show Fm.mk 8 (underS [(by_, eTg)] bx (frFs [.mk 9 bx1 [] [aR [vT bx, vT bx1, vT by_]]])).1 [] (formSs (underS [(by_, eTg)] bx (frFs [.mk 9 bx1 [] [aR [vT bx, vT bx1, vT by_]]])).2 [.mk 9 bx1 [] [aR [vT bx, vT bx1, vT by_]]]) = eB
  rw [h1]
  show Fm.mk 8 bx2 [] [.mk 9 (underS [(by_, eTg), (bx, vT bx2)] bx1 (frFs [aR [vT bx, vT bx1, vT by_]])).1 [] (formSs (underS [(by_, eTg), (bx, vT bx2)] bx1 (frFs [aR [vT bx, vT bx1, vT by_]])).2 [aR [vT bx, vT bx1, vT by_]])] = eB
  rw [h2]
  rfl
theorem norm_eH : normF eH = eN := by
  have h0 : frF eH = [bx1] := by decide
  unfold normF
  rw [h0]
  have h1 : leastN ([bx1] ++ []) = bx2 := least_2 (by decide) (by decide)
  have h2 : leastN ([bx1] ++ [bx2]) = bx3 := least_3 (by decide) (by decide) (by decide)
  show Fm.mk 8 (leastN ([bx1] ++ [])) [] [.mk 6 ⟨#[]⟩ [] [normS [bx1] [(by_, leastN ([bx1] ++ []))] (aP [vT by_]), normS [bx1] [(by_, leastN ([bx1] ++ []))] (.mk 9 bz [] [aR [vT by_, vT bz, vT bx1]])]] = eN
  rw [h1]
  show Fm.mk 8 bx2 [] [.mk 6 ⟨#[]⟩ [] [normS [bx1] [(by_, bx2)] (aP [vT by_]), .mk 9 (leastN ([bx1] ++ [bx2])) [] [normS [bx1] [(bz, leastN ([bx1] ++ [bx2])), (by_, bx2)] (aR [vT by_, vT bz, vT bx1])]]] = eN
  rw [h2]
  rfl
theorem puts_eF : PutsS eF [(by_, eTf)] = (eA, 0) := by
  have h1 : freeS [(by_, eTf)] (frF eF) = [(by_, eTf)] := rfl
  unfold PutsS
  rw [h1, form_eF]
  rfl
theorem puts_eG : PutsS eG [(by_, eTg)] = (eB, 0) := by
  have h1 : freeS [(by_, eTg)] (frF eG) = [(by_, eTg)] := rfl
  unfold PutsS
  rw [h1, form_eG]
  rfl
theorem normal_eH : NormalS eH = (eN, 0) := by
  unfold NormalS
  rw [norm_eH]
  rfl
theorem alpha_eH : alphaB eH eN = true := by
  have h1 : eH.right = true := by decide
  have h2 : eN.right = true := by decide
  unfold alphaB
  rw [h1, h2, eqB_true.2 (by rw [← norm_eH, dbF_normF (right_ok h1).1])]
  rfl
theorem alpha_eF : alphaB eF eA = false := by
  have h1 : eF.right = true := by decide
  have h2 : eA.right = true := by decide
  unfold alphaB
  rw [h1, h2, eqB_false.2 fun h => ?_]
  · rfl
  · have h3 := congrArg frD h
    rw [frD_db0 (right_ok h1).1, frD_db0 (right_ok h2).1] at h3
    exact absurd h3 (by decide)
theorem sorted_eF {l : List ByteArray} (h : SortedOf (frF eF) l) : l = [bx, by_] := by
  refine h.eq ⟨?_, fun x => ?_⟩
  · simp only [List.pairwise_cons, List.mem_singleton, forall_eq, List.not_mem_nil, false_imp_iff, implies_true, List.Pairwise.nil, and_true]
    exact less_ltN.1 (by decide)
  · have : frF eF = [by_, bx] := by decide
    rw [this]
    simp only [List.mem_cons, List.not_mem_nil, or_false]
    exact or_comm
theorem least_x13 : leastN [bx1, bx3] = bx2 := least_2 (by decide) (by decide)
end Go.Proofs.Tryz

namespace Go.Proofs.Tryz
open Go Go.Iv
set_option maxRecDepth 4000
variable (gl : Nat → Option IV)

theorem inOrder_three (x y z : Operand) : inOrder 3 [(0, x), (1, y), (2, z)] = true := rfl
theorem awake_c (G : Gl gl) (T : Gt gl) (st : ISt) : ICall prog gl 18 [] st (fun r st' => r = .raw (.bool true) ∧ st' = st) := by
  have hP1 := fun st => Put_c gl G T eF (fmI eF) (fmI_is eF rfl) (by decide) by_ eTf (tmI eTf) (tmI_is eTf) (by decide) st
  have hP2 := fun st => Put_c gl G T eG (fmI eG) (fmI_is eG rfl) (by decide) by_ eTg (tmI eTg) (tmI_is eTg) (by decide) st
  have hN := fun st => Normal_c gl G T eH (fmI eH) (fmI_is eH rfl) (by decide) st
  simp only [puts_eF] at hP1
  simp only [puts_eG] at hP2
  simp only [normal_eH] at hN
  have hz1 : IntKind.i64.wrap (((0 : Nat) : Int) + ((0 : Nat) : Int)) = 0 := rfl
  have hz2 : IntKind.i64.wrap ((0 : Int) + ((0 : Nat) : Int)) = 0 := rfl
  have hz3 : decide ((0 : Int) = 0) = true := rfl
  refine ICall.intro (c := cf prog gl [] [(2, [0, 8, 1, 2, 3, 4, 5, 6, 7, 9, 10]), (4, [0, 9, 1, 2, 3, 4, 5, 6, 7, 8, 10, 11]), (8, [0, 1, 2, 3, 4, 5, 6, 7, 9, 8, 10, 11, 12, 13, 14, 15, 16, 17, 18, 19, 20, 21, 22, 23, 24, 25, 26, 27, 28, 29, 30, 31, 32, 33, 34, 35, 36, 37, 38, 39, 40, 41, 42, 43, 44, 45, 46, 47, 48, 49, 50, 51, 52, 53, 54, 55, 56, 57, 58, 59, 60, 61, 62, 63, 64, 65, 66])]) func18 rfl (by show _ ≤ 147; simp) (by kernel_rfl) ?_
  simp -implicitDefEqProofs -dsimp only [go_sem, ↓reduceIte, zE, zB, zA, zM, zS, zL, reduceCtorEq, fits, bsize_mk]
  repeat (first
    | (refine (v_x gl _ _).mono ?_; rintro _ st ⟨rfl, rfl⟩; simp -implicitDefEqProofs -dsimp only [go_sem, ↓reduceIte, zE, zB, zA, zM, zS, zL, reduceCtorEq, fits, inOrder_one, inOrder_two, inOrder_three, bsize_mk, decide_true, fits])
    | (refine (c_x gl _ _ _ _).mono ?_; rintro _ st ⟨rfl, rfl⟩; simp -implicitDefEqProofs -dsimp only [go_sem, ↓reduceIte, zE, zB, zA, zM, zS, zL, reduceCtorEq, fits, inOrder_one, inOrder_two, inOrder_three, bsize_mk, decide_true, fits])
    | (refine (p_x gl _ _ _ _).mono ?_; rintro _ st ⟨rfl, rfl⟩; simp -implicitDefEqProofs -dsimp only [go_sem, ↓reduceIte, zE, zB, zA, zM, zS, zL, reduceCtorEq, fits, inOrder_one, inOrder_two, inOrder_three, bsize_mk, decide_true, fits])
    | (refine (of_x gl _ _ _ _ _).mono ?_; rintro _ st ⟨rfl, rfl⟩; simp -implicitDefEqProofs -dsimp only [go_sem, ↓reduceIte, zE, zB, zA, zM, zS, zL, reduceCtorEq, fits, inOrder_one, inOrder_two, inOrder_three, bsize_mk, decide_true, fits]))
  refine (hP1 _).mono ?_
  rintro _ st ⟨xa, rfl, ha, rfl⟩
  have ha0 := ha
  obtain ⟨oa, na, ta, ya, ta', ya', rfl⟩ := ha.agg
  simp -implicitDefEqProofs -dsimp only [go_sem, ↓reduceIte, zE, zB, zA, zM, zS, zL, reduceCtorEq, fits, bsize_mk]
  repeat (first
    | (refine (v_x gl _ _).mono ?_; rintro _ st ⟨rfl, rfl⟩; simp -implicitDefEqProofs -dsimp only [go_sem, ↓reduceIte, zE, zB, zA, zM, zS, zL, reduceCtorEq, fits, inOrder_one, inOrder_two, inOrder_three, bsize_mk, decide_true, fits])
    | (refine (c_x gl _ _ _ _).mono ?_; rintro _ st ⟨rfl, rfl⟩; simp -implicitDefEqProofs -dsimp only [go_sem, ↓reduceIte, zE, zB, zA, zM, zS, zL, reduceCtorEq, fits, inOrder_one, inOrder_two, inOrder_three, bsize_mk, decide_true, fits])
    | (refine (p_x gl _ _ _ _).mono ?_; rintro _ st ⟨rfl, rfl⟩; simp -implicitDefEqProofs -dsimp only [go_sem, ↓reduceIte, zE, zB, zA, zM, zS, zL, reduceCtorEq, fits, inOrder_one, inOrder_two, inOrder_three, bsize_mk, decide_true, fits])
    | (refine (of_x gl _ _ _ _ _).mono ?_; rintro _ st ⟨rfl, rfl⟩; simp -implicitDefEqProofs -dsimp only [go_sem, ↓reduceIte, zE, zB, zA, zM, zS, zL, reduceCtorEq, fits, inOrder_one, inOrder_two, inOrder_three, bsize_mk, decide_true, fits]))
  refine (hP2 _).mono ?_
  rintro _ st ⟨xb, rfl, hb, rfl⟩
  have hb0 := hb
  obtain ⟨ob, nb, tb, yb, tb', yb', rfl⟩ := hb.agg
  simp -implicitDefEqProofs -dsimp only [go_sem, ↓reduceIte, zE, zB, zA, zM, zS, zL, reduceCtorEq, fits, bsize_mk]
  repeat (first
    | (refine (v_x gl _ _).mono ?_; rintro _ st ⟨rfl, rfl⟩; simp -implicitDefEqProofs -dsimp only [go_sem, ↓reduceIte, zE, zB, zA, zM, zS, zL, reduceCtorEq, fits, inOrder_one, inOrder_two, inOrder_three, bsize_mk, decide_true, fits])
    | (refine (c_x gl _ _ _ _).mono ?_; rintro _ st ⟨rfl, rfl⟩; simp -implicitDefEqProofs -dsimp only [go_sem, ↓reduceIte, zE, zB, zA, zM, zS, zL, reduceCtorEq, fits, inOrder_one, inOrder_two, inOrder_three, bsize_mk, decide_true, fits])
    | (refine (p_x gl _ _ _ _).mono ?_; rintro _ st ⟨rfl, rfl⟩; simp -implicitDefEqProofs -dsimp only [go_sem, ↓reduceIte, zE, zB, zA, zM, zS, zL, reduceCtorEq, fits, inOrder_one, inOrder_two, inOrder_three, bsize_mk, decide_true, fits])
    | (refine (of_x gl _ _ _ _ _).mono ?_; rintro _ st ⟨rfl, rfl⟩; simp -implicitDefEqProofs -dsimp only [go_sem, ↓reduceIte, zE, zB, zA, zM, zS, zL, reduceCtorEq, fits, inOrder_one, inOrder_two, inOrder_three, bsize_mk, decide_true, fits]))
  refine (hN _).mono ?_
  rintro _ st ⟨xn, rfl, hn, rfl⟩
  have hn0 := hn
  obtain ⟨on, nn, tn, yn, tn', yn', rfl⟩ := hn.agg
  simp -implicitDefEqProofs -dsimp only [go_sem, ↓reduceIte, zE, zB, zA, zM, zS, zL, reduceCtorEq, fits, bsize_mk]
  repeat (first
    | (refine (v_x gl _ _).mono ?_; rintro _ st ⟨rfl, rfl⟩; simp -implicitDefEqProofs -dsimp only [go_sem, ↓reduceIte, zE, zB, zA, zM, zS, zL, reduceCtorEq, fits, inOrder_one, inOrder_two, inOrder_three, bsize_mk, decide_true, List.append_eq, hz1, hz2, hz3])
    | (refine (c_x gl _ _ _ _).mono ?_; rintro _ st ⟨rfl, rfl⟩; simp -implicitDefEqProofs -dsimp only [go_sem, ↓reduceIte, zE, zB, zA, zM, zS, zL, reduceCtorEq, fits, inOrder_one, inOrder_two, inOrder_three, bsize_mk, decide_true, List.append_eq, hz1, hz2, hz3])
    | (refine (p_x gl _ _ _ _).mono ?_; rintro _ st ⟨rfl, rfl⟩; simp -implicitDefEqProofs -dsimp only [go_sem, ↓reduceIte, zE, zB, zA, zM, zS, zL, reduceCtorEq, fits, inOrder_one, inOrder_two, inOrder_three, bsize_mk, decide_true, List.append_eq, hz1, hz2, hz3])
    | (refine (of_x gl _ _ _ _ _).mono ?_; rintro _ st ⟨rfl, rfl⟩; simp -implicitDefEqProofs -dsimp only [go_sem, ↓reduceIte, zE, zB, zA, zM, zS, zL, reduceCtorEq, fits, inOrder_one, inOrder_two, inOrder_three, bsize_mk, decide_true, List.append_eq, hz1, hz2, hz3]))
  refine (Free_c gl eF (fmI eF) (fmI_is eF rfl) (by decide) (by decide) _).mono ?_
  rintro _ st ⟨tl, l, rfl, htl, hl, rfl⟩
  obtain rfl := sorted_eF hl
  simp -implicitDefEqProofs -dsimp only [go_sem, ↓reduceIte, zE, zB, zA, zM, zS, zL, reduceCtorEq, fits, bsize_mk, decide_true, inOrder_two, List.append_eq]
  refine (SameNames_c gl tl _ [bx, by_] [bx, by_] htl (.inr rfl) _).mono ?_
  rintro _ st ⟨rfl, rfl⟩
  have q1 : eqB [bx, by_] [bx, by_] = true := eqB_true.2 rfl
  simp -implicitDefEqProofs -dsimp only [go_sem, ↓reduceIte, zE, zB, zA, zM, zS, zL, reduceCtorEq, fits, bsize_mk, decide_true, inOrder_two, List.append_eq, q1]
  repeat (first
    | (refine (v_x gl _ _).mono ?_; rintro _ st ⟨rfl, rfl⟩; simp -implicitDefEqProofs -dsimp only [go_sem, ↓reduceIte, zE, zB, zA, zM, zS, zL, reduceCtorEq, fits, inOrder_one, inOrder_two, inOrder_three, bsize_mk, decide_true, List.append_eq])
    | (refine (c_x gl _ _ _ _).mono ?_; rintro _ st ⟨rfl, rfl⟩; simp -implicitDefEqProofs -dsimp only [go_sem, ↓reduceIte, zE, zB, zA, zM, zS, zL, reduceCtorEq, fits, inOrder_one, inOrder_two, inOrder_three, bsize_mk, decide_true, List.append_eq])
    | (refine (p_x gl _ _ _ _).mono ?_; rintro _ st ⟨rfl, rfl⟩; simp -implicitDefEqProofs -dsimp only [go_sem, ↓reduceIte, zE, zB, zA, zM, zS, zL, reduceCtorEq, fits, inOrder_one, inOrder_two, inOrder_three, bsize_mk, decide_true, List.append_eq])
    | (refine (of_x gl _ _ _ _ _).mono ?_; rintro _ st ⟨rfl, rfl⟩; simp -implicitDefEqProofs -dsimp only [go_sem, ↓reduceIte, zE, zB, zA, zM, zS, zL, reduceCtorEq, fits, inOrder_one, inOrder_two, inOrder_three, bsize_mk, decide_true, List.append_eq]))
  refine (Same_c gl eA eA _ (fmI eA) ha0 (fmI_is eA rfl) _).mono ?_
  rintro _ st ⟨rfl, rfl⟩
  have q2 : eqB eA eA = true := eqB_true.2 rfl
  simp -implicitDefEqProofs -dsimp only [go_sem, ↓reduceIte, zE, zB, zA, zM, zS, zL, reduceCtorEq, fits, bsize_mk, decide_true, List.append_eq, q2]
  repeat (first
    | (refine (v_x gl _ _).mono ?_; rintro _ st ⟨rfl, rfl⟩; simp -implicitDefEqProofs -dsimp only [go_sem, ↓reduceIte, zE, zB, zA, zM, zS, zL, reduceCtorEq, fits, inOrder_one, inOrder_two, inOrder_three, bsize_mk, decide_true, List.append_eq])
    | (refine (c_x gl _ _ _ _).mono ?_; rintro _ st ⟨rfl, rfl⟩; simp -implicitDefEqProofs -dsimp only [go_sem, ↓reduceIte, zE, zB, zA, zM, zS, zL, reduceCtorEq, fits, inOrder_one, inOrder_two, inOrder_three, bsize_mk, decide_true, List.append_eq])
    | (refine (p_x gl _ _ _ _).mono ?_; rintro _ st ⟨rfl, rfl⟩; simp -implicitDefEqProofs -dsimp only [go_sem, ↓reduceIte, zE, zB, zA, zM, zS, zL, reduceCtorEq, fits, inOrder_one, inOrder_two, inOrder_three, bsize_mk, decide_true, List.append_eq])
    | (refine (of_x gl _ _ _ _ _).mono ?_; rintro _ st ⟨rfl, rfl⟩; simp -implicitDefEqProofs -dsimp only [go_sem, ↓reduceIte, zE, zB, zA, zM, zS, zL, reduceCtorEq, fits, inOrder_one, inOrder_two, inOrder_three, bsize_mk, decide_true, List.append_eq]))
  refine (Same_c gl eB eB _ (fmI eB) hb0 (fmI_is eB rfl) _).mono ?_
  rintro _ st ⟨rfl, rfl⟩
  have q3 : eqB eB eB = true := eqB_true.2 rfl
  simp -implicitDefEqProofs -dsimp only [go_sem, ↓reduceIte, zE, zB, zA, zM, zS, zL, reduceCtorEq, fits, bsize_mk, decide_true, List.append_eq, q3]
  refine (Same_c gl eN eN _ (fmI eN) hn0 (fmI_is eN rfl) _).mono ?_
  rintro _ st ⟨rfl, rfl⟩
  have q4 : eqB eN eN = true := eqB_true.2 rfl
  simp -implicitDefEqProofs -dsimp only [go_sem, ↓reduceIte, zE, zB, zA, zM, zS, zL, reduceCtorEq, fits, bsize_mk, decide_true, inOrder_two, List.append_eq, q4]
  refine (Fresh_c gl T _ (.inr rfl) [bx1, bx3] (by decide) _).mono ?_
  rintro _ st ⟨rfl, rfl⟩
  rw [least_x13]
  have q5 : decide (bx2 = (⟨#[120, 50]⟩ : ByteArray)) = true := rfl
  simp -implicitDefEqProofs -dsimp only [go_sem, ↓reduceIte, zE, zB, zA, zM, zS, zL, reduceCtorEq, fits, bsize_mk, decide_true, List.append_eq, q5]
  refine (Alpha_c gl G eH eN (fmI eH) _ (fmI_is eH rfl) hn0 (by decide) (by decide) _).mono ?_
  rintro _ st ⟨rfl, rfl⟩
  rw [alpha_eH]
  simp -implicitDefEqProofs -dsimp only [go_sem, ↓reduceIte, zE, zB, zA, zM, zS, zL, reduceCtorEq, fits, bsize_mk, decide_true, List.append_eq]
  refine (Alpha_c gl G eF eA (fmI eF) _ (fmI_is eF rfl) ha0 (by decide) (by decide) _).mono ?_
  rintro _ st ⟨rfl, rfl⟩
  rw [alpha_eF]
  simp -implicitDefEqProofs -dsimp only [go_sem, ↓reduceIte, zE, zB, zA, zM, zS, zL, reduceCtorEq, fits, bsize_mk, decide_true, List.append_eq]
  exact outK_self ⟨rfl, rfl⟩
end Go.Proofs.Tryz
