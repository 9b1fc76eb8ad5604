/- Walks: awake of lyceumlaw19.
   Of small trees: what the check is shown for. -/
import Derived.Test.YtckafgnkmnichaaGreatDoorQH
set_option linter.all false
open Nat renaming reduceEqDiff → zE, reduceBEq → zB, reduceAdd → zA, reduceMul → zM, reduceSub → zS, reduceLeDiff → zL
attribute [local go_sem] Go.Iv.cf Go.Iv.setAt List.all_cons List.all_nil Bool.and_self Bool.true_and Bool.and_true Bool.false_and Bool.and_false Bool.not_true Bool.not_false List.mem_nil_iff if_false if_true beq_self_eq_true Nat.zero_add Nat.add_zero List.getElem?_cons_zero List.getElem?_cons_succ Option.map_some List.mem_cons or_false false_or or_true true_or Nat.sub_zero forall_const Int.toNat_natCast List.length_cons List.length_nil List.map_cons List.map_nil List.take_succ_cons List.take_zero List.drop_zero List.drop_succ_cons List.cons_append List.nil_append List.append_nil and_true true_and and_self true_implies List.zip_cons_cons List.zip_nil_left
namespace Go.Proofs.Tryz
open Go Go.Iv
set_option maxRecDepth 4000
variable (gl : Nat → Option IV)

theorem inOrder_3 (x y z : Operand) : inOrder 3 [(0, x), (1, y), (2, z)] = true := rfl
theorem qawake_c (G : Gl gl) (T : Gt gl) (st : ISt) : ICall prog gl 16 [] st (fun r st' => r = .raw (.bool true) ∧ st' = st) := by
  have hA1 := fun st => Check_c gl G T 1 trA (trI trA) is_A fit_A st
  have hA2 := fun st => Check_c gl G T 2 trA (trI trA) is_A fit_A st
  have hE1 := fun st => Check_c gl G T 1 trE (trI trE) is_E fit_E st
  have hE2 := fun st => Check_c gl G T 2 trE (trI trE) is_E fit_E st
  simp only [Check_A1] at hA1
  simp only [Check_A2] at hA2
  simp only [Check_E1] at hE1
  simp only [Check_E2] at hE2
  refine ICall.intro (c := cf prog gl [] [(2, [2, 10, 0, 1, 3, 4, 5, 6, 7, 8, 9, 11]), (4, [0, 2, 9, 10, 11, 13, 1, 3, 4, 5, 6, 7, 8, 12, 14]), (9, [8, 9, 11, 0, 1, 2, 3, 4, 5, 6, 7, 10, 12]), (10, [0, 1, 2, 5, 6, 8, 3, 4, 7, 9]), (18, [3, 4, 7, 8, 0, 1, 2, 5, 6, 9, 10, 11, 12, 13, 14]), (19, [0, 1, 3, 4, 7, 8, 2, 5, 6, 9, 10, 11, 12, 13, 14]), (21, [0, 1, 10, 2, 3, 4, 5, 6, 7, 8, 9, 11, 12]), (22, [0, 1, 2, 3, 4, 5, 6, 7, 8, 9, 10, 14, 15, 11, 12, 13, 16, 17, 18, 19, 20, 21, 22, 23, 24, 25, 26, 27, 28, 29, 30, 31, 32, 33, 35, 34, 36, 37, 38, 39, 40, 41])]) func16 rfl (by show _ ≤ 241; simp) (by kernel_rfl) ?_
  simp -implicitDefEqProofs -dsimp only [go_sem, ↓reduceIte, zE, zB, zA, zM, zS, zL, reduceCtorEq, fits, bsize_mk]
  repeat (first
    | (refine (q_p gl _ _ _ _).mono ?_; rintro _ st ⟨rfl, rfl⟩; simp -implicitDefEqProofs -dsimp only [go_sem, ↓reduceIte, zE, zB, zA, zM, zS, zL, reduceCtorEq, fits, inOrder_one, inOrder_2, inOrder_3, bsize_mk, decide_true, fits])
    | (refine (q_no gl _ _ _ _ _ _ _).mono ?_; rintro _ st ⟨rfl, rfl⟩; simp -implicitDefEqProofs -dsimp only [go_sem, ↓reduceIte, zE, zB, zA, zM, zS, zL, reduceCtorEq, fits, inOrder_one, inOrder_2, inOrder_3, bsize_mk, decide_true, fits])
    | (refine (q_two gl _ _ _ _ _ _ _ _ _ _ _ _ _ _).mono ?_; rintro _ st ⟨rfl, rfl⟩; simp -implicitDefEqProofs -dsimp only [go_sem, ↓reduceIte, zE, zB, zA, zM, zS, zL, reduceCtorEq, fits, inOrder_one, inOrder_2, inOrder_3, bsize_mk, decide_true, fits])
    | (refine (q_fs gl _ _ _).mono ?_; rintro _ st ⟨rfl, rfl⟩; simp -implicitDefEqProofs -dsimp only [go_sem, ↓reduceIte, zE, zB, zA, zM, zS, zL, reduceCtorEq, fits, inOrder_one, inOrder_2, inOrder_3, bsize_mk, decide_true, fits])
    | (refine (q_sq gl _ _ _ _ _).mono ?_; rintro _ st ⟨rfl, rfl⟩; simp -implicitDefEqProofs -dsimp only [go_sem, ↓reduceIte, zE, zB, zA, zM, zS, zL, reduceCtorEq, fits, inOrder_one, inOrder_2, inOrder_3, bsize_mk, decide_true, fits])
    | (refine (q_v gl _ _).mono ?_; rintro _ st ⟨rfl, rfl⟩; simp -implicitDefEqProofs -dsimp only [go_sem, ↓reduceIte, zE, zB, zA, zM, zS, zL, reduceCtorEq, fits, inOrder_one, inOrder_2, inOrder_3, bsize_mk, decide_true, fits]))
  refine (hA1 _).mono ?_
  rintro _ st ⟨⟨tg1, rfl, ht1⟩, rfl⟩
  simp -implicitDefEqProofs -dsimp only [go_sem, ↓reduceIte, zE, zB, zA, zM, zS, zL, reduceCtorEq, fits, bsize_mk]
  refine (hA2 _).mono ?_
  rintro _ st ⟨⟨tg2, rfl, ht2⟩, rfl⟩
  simp -implicitDefEqProofs -dsimp only [go_sem, ↓reduceIte, zE, zB, zA, zM, zS, zL, reduceCtorEq, fits, bsize_mk]
  repeat (first
    | (refine (q_p gl _ _ _ _).mono ?_; rintro _ st ⟨rfl, rfl⟩; simp -implicitDefEqProofs -dsimp only [go_sem, ↓reduceIte, zE, zB, zA, zM, zS, zL, reduceCtorEq, fits, inOrder_one, inOrder_2, inOrder_3, bsize_mk, decide_true, fits])
    | (refine (q_no gl _ _ _ _ _ _ _).mono ?_; rintro _ st ⟨rfl, rfl⟩; simp -implicitDefEqProofs -dsimp only [go_sem, ↓reduceIte, zE, zB, zA, zM, zS, zL, reduceCtorEq, fits, inOrder_one, inOrder_2, inOrder_3, bsize_mk, decide_true, fits])
    | (refine (q_two gl _ _ _ _ _ _ _ _ _ _ _ _ _ _).mono ?_; rintro _ st ⟨rfl, rfl⟩; simp -implicitDefEqProofs -dsimp only [go_sem, ↓reduceIte, zE, zB, zA, zM, zS, zL, reduceCtorEq, fits, inOrder_one, inOrder_2, inOrder_3, bsize_mk, decide_true, fits])
    | (refine (q_fs gl _ _ _).mono ?_; rintro _ st ⟨rfl, rfl⟩; simp -implicitDefEqProofs -dsimp only [go_sem, ↓reduceIte, zE, zB, zA, zM, zS, zL, reduceCtorEq, fits, inOrder_one, inOrder_2, inOrder_3, bsize_mk, decide_true, fits])
    | (refine (q_sq gl _ _ _ _ _).mono ?_; rintro _ st ⟨rfl, rfl⟩; simp -implicitDefEqProofs -dsimp only [go_sem, ↓reduceIte, zE, zB, zA, zM, zS, zL, reduceCtorEq, fits, inOrder_one, inOrder_2, inOrder_3, bsize_mk, decide_true, fits])
    | (refine (q_v gl _ _).mono ?_; rintro _ st ⟨rfl, rfl⟩; simp -implicitDefEqProofs -dsimp only [go_sem, ↓reduceIte, zE, zB, zA, zM, zS, zL, reduceCtorEq, fits, inOrder_one, inOrder_2, inOrder_3, bsize_mk, decide_true, fits]))
  refine (hE1 _).mono ?_
  rintro _ st ⟨⟨tg3, rfl, ht3⟩, rfl⟩
  simp -implicitDefEqProofs -dsimp only [go_sem, ↓reduceIte, zE, zB, zA, zM, zS, zL, reduceCtorEq, fits, bsize_mk]
  refine (hE2 _).mono ?_
  rintro _ st ⟨⟨tg4, rfl, ht4⟩, rfl⟩
  have hz1 : IntKind.i64.wrap (((0 : Nat) : Int) + ((0 : Nat) : Int)) = 0 := rfl
  have hz2 : IntKind.i64.wrap ((0 : Int) + ((0 : Nat) : Int)) = 0 := rfl
  have hz3 : decide ((0 : Int) = 0) = true := rfl
  have hz4 : decide (((195 : Nat) : Int) = 195) = true := rfl
  have hz5 : plI [] = [] := rfl
  have hS := fun st => Steps_c gl trA (trI trA) is_A (by decide) st
  have hH := fun st => Height_c gl trA (trI trA) is_A (by decide) st
  have hC := fun st => Cuts_c gl trA (trI trA) is_A (by decide) st
  simp only [steps_A] at hS
  simp only [height_A] at hH
  simp only [cuts_A] at hC
  simp -implicitDefEqProofs -dsimp only [go_sem, ↓reduceIte, zE, zB, zA, zM, zS, zL, reduceCtorEq, fits, bsize_mk, hz1, hz2, hz3, hz4, hz5, decide_true, show decide (((0 : Nat) : Int) = 0) = true from rfl]
  intros
  refine (hS _).mono ?_
  rintro _ st ⟨rfl, rfl⟩
  simp -implicitDefEqProofs -dsimp only [go_sem, ↓reduceIte, zE, zB, zA, zM, zS, zL, reduceCtorEq, fits, bsize_mk, decide_true, show decide (((3 : Nat) : Int) = 3) = true from rfl]
  refine (hH _).mono ?_
  rintro _ st ⟨rfl, rfl⟩
  simp -implicitDefEqProofs -dsimp only [go_sem, ↓reduceIte, zE, zB, zA, zM, zS, zL, reduceCtorEq, fits, bsize_mk, decide_true, show decide (((2 : Nat) : Int) = 2) = true from rfl]
  refine (hC _).mono ?_
  rintro _ st ⟨rfl, rfl⟩
  simp -implicitDefEqProofs -dsimp only [go_sem, ↓reduceIte, zE, zB, zA, zM, zS, zL, reduceCtorEq, fits, bsize_mk, decide_true, show decide (((0 : Nat) : Int) = 0) = true from rfl]
  repeat (first
    | (refine (q_p gl _ _ _ _).mono ?_; rintro _ st ⟨rfl, rfl⟩; simp -implicitDefEqProofs -dsimp only [go_sem, ↓reduceIte, zE, zB, zA, zM, zS, zL, reduceCtorEq, fits, inOrder_one, inOrder_2, inOrder_3, bsize_mk, decide_true, fits])
    | (refine (q_no gl _ _ _ _ _ _ _).mono ?_; rintro _ st ⟨rfl, rfl⟩; simp -implicitDefEqProofs -dsimp only [go_sem, ↓reduceIte, zE, zB, zA, zM, zS, zL, reduceCtorEq, fits, inOrder_one, inOrder_2, inOrder_3, bsize_mk, decide_true, fits])
    | (refine (q_two gl _ _ _ _ _ _ _ _ _ _ _ _ _ _).mono ?_; rintro _ st ⟨rfl, rfl⟩; simp -implicitDefEqProofs -dsimp only [go_sem, ↓reduceIte, zE, zB, zA, zM, zS, zL, reduceCtorEq, fits, inOrder_one, inOrder_2, inOrder_3, bsize_mk, decide_true, fits])
    | (refine (q_fs gl _ _ _).mono ?_; rintro _ st ⟨rfl, rfl⟩; simp -implicitDefEqProofs -dsimp only [go_sem, ↓reduceIte, zE, zB, zA, zM, zS, zL, reduceCtorEq, fits, inOrder_one, inOrder_2, inOrder_3, bsize_mk, decide_true, fits])
    | (refine (q_sq gl _ _ _ _ _).mono ?_; rintro _ st ⟨rfl, rfl⟩; simp -implicitDefEqProofs -dsimp only [go_sem, ↓reduceIte, zE, zB, zA, zM, zS, zL, reduceCtorEq, fits, inOrder_one, inOrder_2, inOrder_3, bsize_mk, decide_true, fits])
    | (refine (q_v gl _ _).mono ?_; rintro _ st ⟨rfl, rfl⟩; simp -implicitDefEqProofs -dsimp only [go_sem, ↓reduceIte, zE, zB, zA, zM, zS, zL, reduceCtorEq, fits, inOrder_one, inOrder_2, inOrder_3, bsize_mk, decide_true, fits]))
  have hB1 := fun st => Back_c gl G T 3 ⟨[zP], [zX]⟩ (.agg [.sl (tagF [zP]) (fmsI [zP]), .sl (tagF [zX]) (fmsI [zX])]) ⟨_, _, _, _, rfl, tagF_es _, fmsI_is _ (by decide), tagF_es _, fmsI_is _ (by decide)⟩ ⟨fit_b (by decide), fit_b (by decide)⟩ 14 zX (fmI zX) (fmI_is zX (by decide)) (by decide) tm0 (tmI tm0) (tmI_is tm0) (by decide) qu st
  simp only [Back_X] at hB1
  refine (hB1 _).mono ?_
  rintro _ st ⟨tg5, xs5, rfl, ht5, hx5, rfl⟩
  obtain ⟨w5, _, rfl, hw5, rfl⟩ := hx5
  simp -implicitDefEqProofs -dsimp only [go_sem, ↓reduceIte, zE, zB, zA, zM, zS, zL, reduceCtorEq, fits, inOrder_one, bsize_mk, decide_true]
  repeat (first
    | (refine (q_p gl _ _ _ _).mono ?_; rintro _ st ⟨rfl, rfl⟩; simp -implicitDefEqProofs -dsimp only [go_sem, ↓reduceIte, zE, zB, zA, zM, zS, zL, reduceCtorEq, fits, inOrder_one, inOrder_2, inOrder_3, bsize_mk, decide_true, fits])
    | (refine (q_no gl _ _ _ _ _ _ _).mono ?_; rintro _ st ⟨rfl, rfl⟩; simp -implicitDefEqProofs -dsimp only [go_sem, ↓reduceIte, zE, zB, zA, zM, zS, zL, reduceCtorEq, fits, inOrder_one, inOrder_2, inOrder_3, bsize_mk, decide_true, fits])
    | (refine (q_two gl _ _ _ _ _ _ _ _ _ _ _ _ _ _).mono ?_; rintro _ st ⟨rfl, rfl⟩; simp -implicitDefEqProofs -dsimp only [go_sem, ↓reduceIte, zE, zB, zA, zM, zS, zL, reduceCtorEq, fits, inOrder_one, inOrder_2, inOrder_3, bsize_mk, decide_true, fits])
    | (refine (q_fs gl _ _ _).mono ?_; rintro _ st ⟨rfl, rfl⟩; simp -implicitDefEqProofs -dsimp only [go_sem, ↓reduceIte, zE, zB, zA, zM, zS, zL, reduceCtorEq, fits, inOrder_one, inOrder_2, inOrder_3, bsize_mk, decide_true, fits])
    | (refine (q_sq gl _ _ _ _ _).mono ?_; rintro _ st ⟨rfl, rfl⟩; simp -implicitDefEqProofs -dsimp only [go_sem, ↓reduceIte, zE, zB, zA, zM, zS, zL, reduceCtorEq, fits, inOrder_one, inOrder_2, inOrder_3, bsize_mk, decide_true, fits])
    | (refine (q_v gl _ _).mono ?_; rintro _ st ⟨rfl, rfl⟩; simp -implicitDefEqProofs -dsimp only [go_sem, ↓reduceIte, zE, zB, zA, zM, zS, zL, reduceCtorEq, fits, inOrder_one, inOrder_2, inOrder_3, bsize_mk, decide_true, fits]))
  have hB2 := fun st => Back_c gl G T 3 ⟨[zY], [zX]⟩ (.agg [.sl (tagF [zY]) (fmsI [zY]), .sl (tagF [zX]) (fmsI [zX])]) ⟨_, _, _, _, rfl, tagF_es _, fmsI_is _ (by decide), tagF_es _, fmsI_is _ (by decide)⟩ ⟨fit_b (by decide), fit_b (by decide)⟩ 14 zX (fmI zX) (fmI_is zX (by decide)) (by decide) tm0 (tmI tm0) (tmI_is tm0) (by decide) qu st
  simp only [Back_Y] at hB2
  refine (hB2 _).mono ?_
  rintro _ st ⟨tg6, xs6, rfl, ht6, hx6, rfl⟩
  simp -implicitDefEqProofs -dsimp only [go_sem, ↓reduceIte, zE, zB, zA, zM, zS, zL, reduceCtorEq, fits, inOrder_one, bsize_mk, decide_true]
  repeat (first
    | (refine (q_p gl _ _ _ _).mono ?_; rintro _ st ⟨rfl, rfl⟩; simp -implicitDefEqProofs -dsimp only [go_sem, ↓reduceIte, zE, zB, zA, zM, zS, zL, reduceCtorEq, fits, inOrder_one, inOrder_2, inOrder_3, bsize_mk, decide_true, fits])
    | (refine (q_no gl _ _ _ _ _ _ _).mono ?_; rintro _ st ⟨rfl, rfl⟩; simp -implicitDefEqProofs -dsimp only [go_sem, ↓reduceIte, zE, zB, zA, zM, zS, zL, reduceCtorEq, fits, inOrder_one, inOrder_2, inOrder_3, bsize_mk, decide_true, fits])
    | (refine (q_two gl _ _ _ _ _ _ _ _ _ _ _ _ _ _).mono ?_; rintro _ st ⟨rfl, rfl⟩; simp -implicitDefEqProofs -dsimp only [go_sem, ↓reduceIte, zE, zB, zA, zM, zS, zL, reduceCtorEq, fits, inOrder_one, inOrder_2, inOrder_3, bsize_mk, decide_true, fits])
    | (refine (q_fs gl _ _ _).mono ?_; rintro _ st ⟨rfl, rfl⟩; simp -implicitDefEqProofs -dsimp only [go_sem, ↓reduceIte, zE, zB, zA, zM, zS, zL, reduceCtorEq, fits, inOrder_one, inOrder_2, inOrder_3, bsize_mk, decide_true, fits])
    | (refine (q_sq gl _ _ _ _ _).mono ?_; rintro _ st ⟨rfl, rfl⟩; simp -implicitDefEqProofs -dsimp only [go_sem, ↓reduceIte, zE, zB, zA, zM, zS, zL, reduceCtorEq, fits, inOrder_one, inOrder_2, inOrder_3, bsize_mk, decide_true, fits])
    | (refine (q_v gl _ _).mono ?_; rintro _ st ⟨rfl, rfl⟩; simp -implicitDefEqProofs -dsimp only [go_sem, ↓reduceIte, zE, zB, zA, zM, zS, zL, reduceCtorEq, fits, inOrder_one, inOrder_2, inOrder_3, bsize_mk, decide_true, fits]))
  have hD := fun st => Set_c gl G T ⟨[zD, zD, zP], []⟩ (.agg [.sl (tagF [zD, zD, zP]) (fmsI [zD, zD, zP]), .sl (tagF []) (fmsI [])]) ⟨_, _, _, _, rfl, tagF_es _, fmsI_is _ (by decide), tagF_es _, fmsI_is _ (by decide)⟩ ⟨fit_b (by decide), fit_b (by decide)⟩ (by decide) st
  simp only [Set_D] at hD
  refine (hD _).mono ?_
  rintro _ st ⟨⟨y, rfl, hy⟩, rfl⟩
  obtain ⟨ty1, xy1, ty2, xy2, rfl, ey1, iy1, ey2, iy2⟩ := hy
  obtain ⟨tw1, xw1, tw2, xw2, rfl, ew1, iw1, ew2, iw2⟩ := hw5
  have z1 : decide (((1 : Nat) : Int) = 1) = true := rfl
  have z2 : decide (((193 : Nat) : Int) = 193) = true := rfl
  have z3 : decide (((0 : Nat) : Int) = 0) = true := rfl
  simp -implicitDefEqProofs -dsimp only [go_sem, ↓reduceIte, zE, zB, zA, zM, zS, zL, reduceCtorEq, fits, inOrder_one, bsize_mk, decide_true, reTag_es ht5, Int.le_refl, Int.toNat_zero, z1, z2, z3]
  repeat (first
    | (refine (q_p gl _ _ _ _).mono ?_; rintro _ st ⟨rfl, rfl⟩; simp -implicitDefEqProofs -dsimp only [go_sem, ↓reduceIte, zE, zB, zA, zM, zS, zL, reduceCtorEq, fits, inOrder_one, inOrder_2, inOrder_3, bsize_mk, decide_true, fits])
    | (refine (q_no gl _ _ _ _ _ _ _).mono ?_; rintro _ st ⟨rfl, rfl⟩; simp -implicitDefEqProofs -dsimp only [go_sem, ↓reduceIte, zE, zB, zA, zM, zS, zL, reduceCtorEq, fits, inOrder_one, inOrder_2, inOrder_3, bsize_mk, decide_true, fits])
    | (refine (q_two gl _ _ _ _ _ _ _ _ _ _ _ _ _ _).mono ?_; rintro _ st ⟨rfl, rfl⟩; simp -implicitDefEqProofs -dsimp only [go_sem, ↓reduceIte, zE, zB, zA, zM, zS, zL, reduceCtorEq, fits, inOrder_one, inOrder_2, inOrder_3, bsize_mk, decide_true, fits])
    | (refine (q_fs gl _ _ _).mono ?_; rintro _ st ⟨rfl, rfl⟩; simp -implicitDefEqProofs -dsimp only [go_sem, ↓reduceIte, zE, zB, zA, zM, zS, zL, reduceCtorEq, fits, inOrder_one, inOrder_2, inOrder_3, bsize_mk, decide_true, fits])
    | (refine (q_sq gl _ _ _ _ _).mono ?_; rintro _ st ⟨rfl, rfl⟩; simp -implicitDefEqProofs -dsimp only [go_sem, ↓reduceIte, zE, zB, zA, zM, zS, zL, reduceCtorEq, fits, inOrder_one, inOrder_2, inOrder_3, bsize_mk, decide_true, fits])
    | (refine (q_v gl _ _).mono ?_; rintro _ st ⟨rfl, rfl⟩; simp -implicitDefEqProofs -dsimp only [go_sem, ↓reduceIte, zE, zB, zA, zM, zS, zL, reduceCtorEq, fits, inOrder_one, inOrder_2, inOrder_3, bsize_mk, decide_true, fits]))
  have hS1 := fun st => kSameSeq_c gl ⟨[zP], [zX, zU]⟩ ⟨[zP], [zX, zU]⟩ (.agg [.sl tw1 xw1, .sl tw2 xw2]) (.agg [.sl (tagF [zP]) (fmsI [zP]), .sl (tagF [zX, zU]) (fmsI [zX, zU])]) ⟨_, _, _, _, rfl, ew1, iw1, ew2, iw2⟩ ⟨_, _, _, _, rfl, tagF_es _, fmsI_is _ (by decide), tagF_es _, fmsI_is _ (by decide)⟩ st
  have hS2 := fun st => kSameSeq_c gl ⟨[zP, zD], []⟩ ⟨[zP, zD], []⟩ (.agg [.sl ty1 xy1, .sl ty2 xy2]) (.agg [.sl (tagF [zP, zD]) (fmsI [zP, zD]), .sl (tagF []) (fmsI [])]) ⟨_, _, _, _, rfl, ey1, iy1, ey2, iy2⟩ ⟨_, _, _, _, rfl, tagF_es _, fmsI_is _ (by decide), tagF_es _, fmsI_is _ (by decide)⟩ st
  refine (hS1 _).mono ?_
  rintro _ st ⟨rfl, rfl⟩
  simp -implicitDefEqProofs -dsimp only [go_sem, ↓reduceIte, zE, zB, zA, zM, zS, zL, reduceCtorEq, fits, inOrder_one, inOrder_2, bsize_mk, decide_true, show ∀ s : Sq, eqB s s = true from fun s => eqB_true.2 rfl, z1, z2, z3]
  repeat (first
    | (refine (q_p gl _ _ _ _).mono ?_; rintro _ st ⟨rfl, rfl⟩; simp -implicitDefEqProofs -dsimp only [go_sem, ↓reduceIte, zE, zB, zA, zM, zS, zL, reduceCtorEq, fits, inOrder_one, inOrder_2, inOrder_3, bsize_mk, decide_true, fits])
    | (refine (q_no gl _ _ _ _ _ _ _).mono ?_; rintro _ st ⟨rfl, rfl⟩; simp -implicitDefEqProofs -dsimp only [go_sem, ↓reduceIte, zE, zB, zA, zM, zS, zL, reduceCtorEq, fits, inOrder_one, inOrder_2, inOrder_3, bsize_mk, decide_true, fits])
    | (refine (q_two gl _ _ _ _ _ _ _ _ _ _ _ _ _ _).mono ?_; rintro _ st ⟨rfl, rfl⟩; simp -implicitDefEqProofs -dsimp only [go_sem, ↓reduceIte, zE, zB, zA, zM, zS, zL, reduceCtorEq, fits, inOrder_one, inOrder_2, inOrder_3, bsize_mk, decide_true, fits])
    | (refine (q_fs gl _ _ _).mono ?_; rintro _ st ⟨rfl, rfl⟩; simp -implicitDefEqProofs -dsimp only [go_sem, ↓reduceIte, zE, zB, zA, zM, zS, zL, reduceCtorEq, fits, inOrder_one, inOrder_2, inOrder_3, bsize_mk, decide_true, fits])
    | (refine (q_sq gl _ _ _ _ _).mono ?_; rintro _ st ⟨rfl, rfl⟩; simp -implicitDefEqProofs -dsimp only [go_sem, ↓reduceIte, zE, zB, zA, zM, zS, zL, reduceCtorEq, fits, inOrder_one, inOrder_2, inOrder_3, bsize_mk, decide_true, fits])
    | (refine (q_v gl _ _).mono ?_; rintro _ st ⟨rfl, rfl⟩; simp -implicitDefEqProofs -dsimp only [go_sem, ↓reduceIte, zE, zB, zA, zM, zS, zL, reduceCtorEq, fits, inOrder_one, inOrder_2, inOrder_3, bsize_mk, decide_true, fits]))
  refine (hS2 _).mono ?_
  rintro _ st ⟨rfl, rfl⟩
  simp -implicitDefEqProofs -dsimp only [go_sem, ↓reduceIte, zE, zB, zA, zM, zS, zL, reduceCtorEq, fits, inOrder_one, inOrder_2, bsize_mk, decide_true, show ∀ s : Sq, eqB s s = true from fun s => eqB_true.2 rfl, z1, z2, z3]
  exact outK_self ⟨rfl, rfl⟩
end Go.Proofs.Tryz

namespace Go.Proofs.Tryz
open Go Go.Iv

mutual
theorem size_wTm : ∀ t : Tm, t.size ≤ wTm t
  | .mk _ n us => by have := size_wTms us; simp only [wTm, Tm.size]; omega
theorem size_wTms : ∀ l : List Tm, sizeTms l ≤ wTms l
  | [] => Nat.le_refl _
  | a :: l => by have := size_wTm a; have := size_wTms l; simp only [wTms, sizeTms]; omega
end
mutual
theorem size_wFm : ∀ f : Fm, f.size ≤ wFm f
  | .mk _ n us sub => by have := size_wTms us; have := size_wFms sub; simp only [wFm, Fm.size]; omega
theorem size_wFms : ∀ l : List Fm, sizeFms l ≤ wFms l
  | [] => Nat.le_refl _
  | a :: l => by have := size_wFm a; have := size_wFms l; simp only [wFms, sizeFms]; omega
end
theorem nodeB_true {s : Sq} {f : Fm} {u : Tm} {n : ByteArray} (h : nodeB s f u n = true) : wFms s.l + wFms s.r ≤ 300 ∧ wFm f ≤ 300 ∧ wTm u ≤ 300 ∧ n.size ≤ 100 := by
  unfold nodeB at h
  simp only [Bool.and_eq_true, decide_eq_true_eq, Bool.not_eq_true', decide_eq_false_iff_not] at h
  omega
theorem fitSq_of {s : Sq} (h : wFms s.l + wFms s.r ≤ 300) : fitSq s := by
  have := size_wFms s.l
  have := size_wFms s.r
  exact ⟨fun f hf => by have := sizeFmsMem hf; omega, fun f hf => by have := sizeFmsMem hf; omega⟩
theorem okTs_mem : ∀ {l : List Tr} {a : Tr}, okTs l = true → a ∈ l → okT a = true
  | b :: l, a, h, ha => by
    simp only [okTs, Bool.and_eq_true] at h
    rcases List.mem_cons.1 ha with rfl | ha
    · exact h.1
    · exact okTs_mem h.2 ha
theorem okT_node : ∀ {t : Tr}, okT t = true → nodeOk t
  | .mk rule s m u n sub, h => by
    simp only [okT, Bool.and_eq_true] at h
    obtain ⟨h1, h2, h3, _⟩ := nodeB_true h.1
    have := size_wFm m
    have := size_wTm u
    refine ⟨fitSq_of h1, by omega, by omega, fun a ha => ?_⟩
    have := okTs_mem h.2 ha
    obtain ⟨rule', s', m', u', n', sub'⟩ := a
    simp only [okT, Bool.and_eq_true] at this
    exact fitSq_of (nodeB_true this.1).1
mutual
theorem okT_walk : ∀ (p : List Nat) (t : Tr), okT t = true → ∀ q ∈ t.walk p, okT q.2 = true
  | p, .mk rule s m u n sub, h, q, hq => by
    simp only [Tr.walk, List.mem_cons] at hq
    rcases hq with rfl | hq
    · exact h
    · simp only [okT, Bool.and_eq_true] at h
      exact okTs_walk p 0 sub h.2 q hq
theorem okTs_walk : ∀ (p : List Nat) (i : Nat) (l : List Tr), okTs l = true → ∀ q ∈ walkTrs p i l, okT q.2 = true
  | _, _, [], _, q, hq => by cases hq
  | p, i, a :: l, h, q, hq => by
    simp only [okTs, Bool.and_eq_true] at h
    simp only [walkTrs, List.mem_append] at hq
    rcases hq with hq | hq
    · exact okT_walk _ a h.1 q hq
    · exact okTs_walk p (i + 1) l h.2 q hq
end
theorem okT_fit {t : Tr} (h : okT t = true) (hs : t.steps ≤ 1099511627776) : fitTr t := ⟨fun q hq => okT_node (okT_walk [] t h q hq), Nat.le_trans t.height_le_steps hs⟩
end Go.Proofs.Tryz
