/- Walks: awake of lyceumlaw19.
   Of small trees: what the check is shown for.
   The plain law of SequentTurned, the part of the normal forms.
   Walks: room, turned, turn.
   What the check is shown for, node by node; how long a set is.
   Walks: SequentTurned.
   From a row's reading to ideal values, part 7: sequents and trees. -/
import Derived.Test.YtckafgnkmnichaaGreatDoorQH
import Derived.Test.YtckafgnkmnichaaGreatDoorQF
import Derived.Test.YtckafgnkmnichaaGreatDoorKG
import Derived.Test.YtckafgnkmnichaaGreatDoorKE
set_option linter.all false
open Nat renaming reduceEqDiff → zE, reduceBEq → zB, reduceAdd → zA, reduceMul → zM, reduceSub → zS, reduceLeDiff → zL
attribute [local go_sem] Go.Iv.cf Go.Iv.setAt List.all_cons List.all_nil Bool.and_self Bool.true_and Bool.and_true Bool.false_and Bool.and_false Bool.not_true Bool.not_false List.mem_nil_iff if_false if_true beq_self_eq_true Nat.zero_add Nat.add_zero List.getElem?_cons_zero List.getElem?_cons_succ Option.map_some List.mem_cons or_false false_or or_true true_or Nat.sub_zero forall_const Int.toNat_natCast List.length_cons List.length_nil List.map_cons List.map_nil List.take_succ_cons List.take_zero List.drop_zero List.drop_succ_cons List.cons_append List.nil_append List.append_nil and_true true_and and_self true_implies List.zip_cons_cons List.zip_nil_left
namespace Go.Proofs.Tryz
open Go Go.Iv
set_option maxRecDepth 4000
variable (gl : Nat → Option IV)

theorem inOrder_3 (x y z : Operand) : inOrder 3 [(0, x), (1, y), (2, z)] = true := rfl
theorem qawake_c (G : Gl gl) (T : Gt gl) (st : ISt) : ICall prog gl 16 [] st (fun r st' => r = .raw (.bool true) ∧ st' = st) := by
  have hA1 := fun st => Check_c gl G T 1 trA (trI trA) is_A fit_A st
  have hA2 := fun st => Check_c gl G T 2 trA (trI trA) is_A fit_A st
  have hE1 := fun st => Check_c gl G T 1 trE (trI trE) is_E fit_E st
  have hE2 := fun st => Check_c gl G T 2 trE (trI trE) is_E fit_E st
  simp only [Check_A1] at hA1
  simp only [Check_A2] at hA2
  simp only [Check_E1] at hE1
  simp only [Check_E2] at hE2
  refine ICall.intro (c := cf prog gl [] [(2, [2, 10, 0, 1, 3, 4, 5, 6, 7, 8, 9, 11]), (4, [0, 2, 9, 10, 11, 13, 1, 3, 4, 5, 6, 7, 8, 12, 14]), (9, [8, 9, 11, 0, 1, 2, 3, 4, 5, 6, 7, 10, 12]), (10, [0, 1, 2, 5, 6, 8, 3, 4, 7, 9]), (18, [3, 4, 7, 8, 0, 1, 2, 5, 6, 9, 10, 11, 12, 13, 14]), (19, [0, 1, 3, 4, 7, 8, 2, 5, 6, 9, 10, 11, 12, 13, 14]), (21, [0, 1, 10, 2, 3, 4, 5, 6, 7, 8, 9, 11, 12]), (22, [0, 1, 2, 3, 4, 5, 6, 7, 8, 9, 10, 14, 15, 11, 12, 13, 16, 17, 18, 19, 20, 21, 22, 23, 24, 25, 26, 27, 28, 29, 30, 31, 32, 33, 35, 34, 36, 37, 38, 39, 40, 41])]) func16 rfl (by show _ ≤ 241; simp) (by kernel_rfl) ?_
  simp -implicitDefEqProofs -dsimp only [go_sem, ↓reduceIte, zE, zB, zA, zM, zS, zL, reduceCtorEq, fits, bsize_mk]
  repeat (first
    | (refine (q_p gl _ _ _ _).mono ?_; rintro _ st ⟨rfl, rfl⟩; simp -implicitDefEqProofs -dsimp only [go_sem, ↓reduceIte, zE, zB, zA, zM, zS, zL, reduceCtorEq, fits, inOrder_one, inOrder_2, inOrder_3, bsize_mk, decide_true, fits])
    | (refine (q_no gl _ _ _ _ _ _ _).mono ?_; rintro _ st ⟨rfl, rfl⟩; simp -implicitDefEqProofs -dsimp only [go_sem, ↓reduceIte, zE, zB, zA, zM, zS, zL, reduceCtorEq, fits, inOrder_one, inOrder_2, inOrder_3, bsize_mk, decide_true, fits])
    | (refine (q_two gl _ _ _ _ _ _ _ _ _ _ _ _ _ _).mono ?_; rintro _ st ⟨rfl, rfl⟩; simp -implicitDefEqProofs -dsimp only [go_sem, ↓reduceIte, zE, zB, zA, zM, zS, zL, reduceCtorEq, fits, inOrder_one, inOrder_2, inOrder_3, bsize_mk, decide_true, fits])
    | (refine (q_fs gl _ _ _).mono ?_; rintro _ st ⟨rfl, rfl⟩; simp -implicitDefEqProofs -dsimp only [go_sem, ↓reduceIte, zE, zB, zA, zM, zS, zL, reduceCtorEq, fits, inOrder_one, inOrder_2, inOrder_3, bsize_mk, decide_true, fits])
    | (refine (q_sq gl _ _ _ _ _).mono ?_; rintro _ st ⟨rfl, rfl⟩; simp -implicitDefEqProofs -dsimp only [go_sem, ↓reduceIte, zE, zB, zA, zM, zS, zL, reduceCtorEq, fits, inOrder_one, inOrder_2, inOrder_3, bsize_mk, decide_true, fits])
    | (refine (q_v gl _ _).mono ?_; rintro _ st ⟨rfl, rfl⟩; simp -implicitDefEqProofs -dsimp only [go_sem, ↓reduceIte, zE, zB, zA, zM, zS, zL, reduceCtorEq, fits, inOrder_one, inOrder_2, inOrder_3, bsize_mk, decide_true, fits]))
  refine (hA1 _).mono ?_
  rintro _ st ⟨⟨tg1, rfl, ht1⟩, rfl⟩
  simp -implicitDefEqProofs -dsimp only [go_sem, ↓reduceIte, zE, zB, zA, zM, zS, zL, reduceCtorEq, fits, bsize_mk]
  refine (hA2 _).mono ?_
  rintro _ st ⟨⟨tg2, rfl, ht2⟩, rfl⟩
  simp -implicitDefEqProofs -dsimp only [go_sem, ↓reduceIte, zE, zB, zA, zM, zS, zL, reduceCtorEq, fits, bsize_mk]
  repeat (first
    | (refine (q_p gl _ _ _ _).mono ?_; rintro _ st ⟨rfl, rfl⟩; simp -implicitDefEqProofs -dsimp only [go_sem, ↓reduceIte, zE, zB, zA, zM, zS, zL, reduceCtorEq, fits, inOrder_one, inOrder_2, inOrder_3, bsize_mk, decide_true, fits])
    | (refine (q_no gl _ _ _ _ _ _ _).mono ?_; rintro _ st ⟨rfl, rfl⟩; simp -implicitDefEqProofs -dsimp only [go_sem, ↓reduceIte, zE, zB, zA, zM, zS, zL, reduceCtorEq, fits, inOrder_one, inOrder_2, inOrder_3, bsize_mk, decide_true, fits])
    | (refine (q_two gl _ _ _ _ _ _ _ _ _ _ _ _ _ _).mono ?_; rintro _ st ⟨rfl, rfl⟩; simp -implicitDefEqProofs -dsimp only [go_sem, ↓reduceIte, zE, zB, zA, zM, zS, zL, reduceCtorEq, fits, inOrder_one, inOrder_2, inOrder_3, bsize_mk, decide_true, fits])
    | (refine (q_fs gl _ _ _).mono ?_; rintro _ st ⟨rfl, rfl⟩; simp -implicitDefEqProofs -dsimp only [go_sem, ↓reduceIte, zE, zB, zA, zM, zS, zL, reduceCtorEq, fits, inOrder_one, inOrder_2, inOrder_3, bsize_mk, decide_true, fits])
    | (refine (q_sq gl _ _ _ _ _).mono ?_; rintro _ st ⟨rfl, rfl⟩; simp -implicitDefEqProofs -dsimp only [go_sem, ↓reduceIte, zE, zB, zA, zM, zS, zL, reduceCtorEq, fits, inOrder_one, inOrder_2, inOrder_3, bsize_mk, decide_true, fits])
    | (refine (q_v gl _ _).mono ?_; rintro _ st ⟨rfl, rfl⟩; simp -implicitDefEqProofs -dsimp only [go_sem, ↓reduceIte, zE, zB, zA, zM, zS, zL, reduceCtorEq, fits, inOrder_one, inOrder_2, inOrder_3, bsize_mk, decide_true, fits]))
  refine (hE1 _).mono ?_
  rintro _ st ⟨⟨tg3, rfl, ht3⟩, rfl⟩
  simp -implicitDefEqProofs -dsimp only [go_sem, ↓reduceIte, zE, zB, zA, zM, zS, zL, reduceCtorEq, fits, bsize_mk]
  refine (hE2 _).mono ?_
  rintro _ st ⟨⟨tg4, rfl, ht4⟩, rfl⟩
  have hz1 : IntKind.i64.wrap (((0 : Nat) : Int) + ((0 : Nat) : Int)) = 0 := rfl
  have hz2 : IntKind.i64.wrap ((0 : Int) + ((0 : Nat) : Int)) = 0 := rfl
  have hz3 : decide ((0 : Int) = 0) = true := rfl
  have hz4 : decide (((195 : Nat) : Int) = 195) = true := rfl
  have hz5 : plI [] = [] := rfl
  have hS := fun st => Steps_c gl trA (trI trA) is_A (by decide) st
  have hH := fun st => Height_c gl trA (trI trA) is_A (by decide) st
  have hC := fun st => Cuts_c gl trA (trI trA) is_A (by decide) st
  simp only [steps_A] at hS
  simp only [height_A] at hH
  simp only [cuts_A] at hC
  simp -implicitDefEqProofs -dsimp only [go_sem, ↓reduceIte, zE, zB, zA, zM, zS, zL, reduceCtorEq, fits, bsize_mk, hz1, hz2, hz3, hz4, hz5, decide_true, show decide (((0 : Nat) : Int) = 0) = true from rfl]
  intros
  refine (hS _).mono ?_
  rintro _ st ⟨rfl, rfl⟩
  simp -implicitDefEqProofs -dsimp only [go_sem, ↓reduceIte, zE, zB, zA, zM, zS, zL, reduceCtorEq, fits, bsize_mk, decide_true, show decide (((3 : Nat) : Int) = 3) = true from rfl]
  refine (hH _).mono ?_
  rintro _ st ⟨rfl, rfl⟩
  simp -implicitDefEqProofs -dsimp only [go_sem, ↓reduceIte, zE, zB, zA, zM, zS, zL, reduceCtorEq, fits, bsize_mk, decide_true, show decide (((2 : Nat) : Int) = 2) = true from rfl]
  refine (hC _).mono ?_
  rintro _ st ⟨rfl, rfl⟩
  simp -implicitDefEqProofs -dsimp only [go_sem, ↓reduceIte, zE, zB, zA, zM, zS, zL, reduceCtorEq, fits, bsize_mk, decide_true, show decide (((0 : Nat) : Int) = 0) = true from rfl]
  repeat (first
    | (refine (q_p gl _ _ _ _).mono ?_; rintro _ st ⟨rfl, rfl⟩; simp -implicitDefEqProofs -dsimp only [go_sem, ↓reduceIte, zE, zB, zA, zM, zS, zL, reduceCtorEq, fits, inOrder_one, inOrder_2, inOrder_3, bsize_mk, decide_true, fits])
    | (refine (q_no gl _ _ _ _ _ _ _).mono ?_; rintro _ st ⟨rfl, rfl⟩; simp -implicitDefEqProofs -dsimp only [go_sem, ↓reduceIte, zE, zB, zA, zM, zS, zL, reduceCtorEq, fits, inOrder_one, inOrder_2, inOrder_3, bsize_mk, decide_true, fits])
    | (refine (q_two gl _ _ _ _ _ _ _ _ _ _ _ _ _ _).mono ?_; rintro _ st ⟨rfl, rfl⟩; simp -implicitDefEqProofs -dsimp only [go_sem, ↓reduceIte, zE, zB, zA, zM, zS, zL, reduceCtorEq, fits, inOrder_one, inOrder_2, inOrder_3, bsize_mk, decide_true, fits])
    | (refine (q_fs gl _ _ _).mono ?_; rintro _ st ⟨rfl, rfl⟩; simp -implicitDefEqProofs -dsimp only [go_sem, ↓reduceIte, zE, zB, zA, zM, zS, zL, reduceCtorEq, fits, inOrder_one, inOrder_2, inOrder_3, bsize_mk, decide_true, fits])
    | (refine (q_sq gl _ _ _ _ _).mono ?_; rintro _ st ⟨rfl, rfl⟩; simp -implicitDefEqProofs -dsimp only [go_sem, ↓reduceIte, zE, zB, zA, zM, zS, zL, reduceCtorEq, fits, inOrder_one, inOrder_2, inOrder_3, bsize_mk, decide_true, fits])
    | (refine (q_v gl _ _).mono ?_; rintro _ st ⟨rfl, rfl⟩; simp -implicitDefEqProofs -dsimp only [go_sem, ↓reduceIte, zE, zB, zA, zM, zS, zL, reduceCtorEq, fits, inOrder_one, inOrder_2, inOrder_3, bsize_mk, decide_true, fits]))
  have hB1 := fun st => Back_c gl G T 3 ⟨[zP], [zX]⟩ (.agg [.sl (tagF [zP]) (fmsI [zP]), .sl (tagF [zX]) (fmsI [zX])]) ⟨_, _, _, _, rfl, tagF_es _, fmsI_is _ (by decide), tagF_es _, fmsI_is _ (by decide)⟩ ⟨fit_b (by decide), fit_b (by decide)⟩ 14 zX (fmI zX) (fmI_is zX (by decide)) (by decide) tm0 (tmI tm0) (tmI_is tm0) (by decide) qu st
  simp only [Back_X] at hB1
  refine (hB1 _).mono ?_
  rintro _ st ⟨tg5, xs5, rfl, ht5, hx5, rfl⟩
  obtain ⟨w5, _, rfl, hw5, rfl⟩ := hx5
  simp -implicitDefEqProofs -dsimp only [go_sem, ↓reduceIte, zE, zB, zA, zM, zS, zL, reduceCtorEq, fits, inOrder_one, bsize_mk, decide_true]
  repeat (first
    | (refine (q_p gl _ _ _ _).mono ?_; rintro _ st ⟨rfl, rfl⟩; simp -implicitDefEqProofs -dsimp only [go_sem, ↓reduceIte, zE, zB, zA, zM, zS, zL, reduceCtorEq, fits, inOrder_one, inOrder_2, inOrder_3, bsize_mk, decide_true, fits])
    | (refine (q_no gl _ _ _ _ _ _ _).mono ?_; rintro _ st ⟨rfl, rfl⟩; simp -implicitDefEqProofs -dsimp only [go_sem, ↓reduceIte, zE, zB, zA, zM, zS, zL, reduceCtorEq, fits, inOrder_one, inOrder_2, inOrder_3, bsize_mk, decide_true, fits])
    | (refine (q_two gl _ _ _ _ _ _ _ _ _ _ _ _ _ _).mono ?_; rintro _ st ⟨rfl, rfl⟩; simp -implicitDefEqProofs -dsimp only [go_sem, ↓reduceIte, zE, zB, zA, zM, zS, zL, reduceCtorEq, fits, inOrder_one, inOrder_2, inOrder_3, bsize_mk, decide_true, fits])
    | (refine (q_fs gl _ _ _).mono ?_; rintro _ st ⟨rfl, rfl⟩; simp -implicitDefEqProofs -dsimp only [go_sem, ↓reduceIte, zE, zB, zA, zM, zS, zL, reduceCtorEq, fits, inOrder_one, inOrder_2, inOrder_3, bsize_mk, decide_true, fits])
    | (refine (q_sq gl _ _ _ _ _).mono ?_; rintro _ st ⟨rfl, rfl⟩; simp -implicitDefEqProofs -dsimp only [go_sem, ↓reduceIte, zE, zB, zA, zM, zS, zL, reduceCtorEq, fits, inOrder_one, inOrder_2, inOrder_3, bsize_mk, decide_true, fits])
    | (refine (q_v gl _ _).mono ?_; rintro _ st ⟨rfl, rfl⟩; simp -implicitDefEqProofs -dsimp only [go_sem, ↓reduceIte, zE, zB, zA, zM, zS, zL, reduceCtorEq, fits, inOrder_one, inOrder_2, inOrder_3, bsize_mk, decide_true, fits]))
  have hB2 := fun st => Back_c gl G T 3 ⟨[zY], [zX]⟩ (.agg [.sl (tagF [zY]) (fmsI [zY]), .sl (tagF [zX]) (fmsI [zX])]) ⟨_, _, _, _, rfl, tagF_es _, fmsI_is _ (by decide), tagF_es _, fmsI_is _ (by decide)⟩ ⟨fit_b (by decide), fit_b (by decide)⟩ 14 zX (fmI zX) (fmI_is zX (by decide)) (by decide) tm0 (tmI tm0) (tmI_is tm0) (by decide) qu st
  simp only [Back_Y] at hB2
  refine (hB2 _).mono ?_
  rintro _ st ⟨tg6, xs6, rfl, ht6, hx6, rfl⟩
  simp -implicitDefEqProofs -dsimp only [go_sem, ↓reduceIte, zE, zB, zA, zM, zS, zL, reduceCtorEq, fits, inOrder_one, bsize_mk, decide_true]
  repeat (first
    | (refine (q_p gl _ _ _ _).mono ?_; rintro _ st ⟨rfl, rfl⟩; simp -implicitDefEqProofs -dsimp only [go_sem, ↓reduceIte, zE, zB, zA, zM, zS, zL, reduceCtorEq, fits, inOrder_one, inOrder_2, inOrder_3, bsize_mk, decide_true, fits])
    | (refine (q_no gl _ _ _ _ _ _ _).mono ?_; rintro _ st ⟨rfl, rfl⟩; simp -implicitDefEqProofs -dsimp only [go_sem, ↓reduceIte, zE, zB, zA, zM, zS, zL, reduceCtorEq, fits, inOrder_one, inOrder_2, inOrder_3, bsize_mk, decide_true, fits])
    | (refine (q_two gl _ _ _ _ _ _ _ _ _ _ _ _ _ _).mono ?_; rintro _ st ⟨rfl, rfl⟩; simp -implicitDefEqProofs -dsimp only [go_sem, ↓reduceIte, zE, zB, zA, zM, zS, zL, reduceCtorEq, fits, inOrder_one, inOrder_2, inOrder_3, bsize_mk, decide_true, fits])
    | (refine (q_fs gl _ _ _).mono ?_; rintro _ st ⟨rfl, rfl⟩; simp -implicitDefEqProofs -dsimp only [go_sem, ↓reduceIte, zE, zB, zA, zM, zS, zL, reduceCtorEq, fits, inOrder_one, inOrder_2, inOrder_3, bsize_mk, decide_true, fits])
    | (refine (q_sq gl _ _ _ _ _).mono ?_; rintro _ st ⟨rfl, rfl⟩; simp -implicitDefEqProofs -dsimp only [go_sem, ↓reduceIte, zE, zB, zA, zM, zS, zL, reduceCtorEq, fits, inOrder_one, inOrder_2, inOrder_3, bsize_mk, decide_true, fits])
    | (refine (q_v gl _ _).mono ?_; rintro _ st ⟨rfl, rfl⟩; simp -implicitDefEqProofs -dsimp only [go_sem, ↓reduceIte, zE, zB, zA, zM, zS, zL, reduceCtorEq, fits, inOrder_one, inOrder_2, inOrder_3, bsize_mk, decide_true, fits]))
  have hD := fun st => Set_c gl G T ⟨[zD, zD, zP], []⟩ (.agg [.sl (tagF [zD, zD, zP]) (fmsI [zD, zD, zP]), .sl (tagF []) (fmsI [])]) ⟨_, _, _, _, rfl, tagF_es _, fmsI_is _ (by decide), tagF_es _, fmsI_is _ (by decide)⟩ ⟨fit_b (by decide), fit_b (by decide)⟩ (by decide) st
  simp only [Set_D] at hD
  refine (hD _).mono ?_
  rintro _ st ⟨⟨y, rfl, hy⟩, rfl⟩
  obtain ⟨ty1, xy1, ty2, xy2, rfl, ey1, iy1, ey2, iy2⟩ := hy
  obtain ⟨tw1, xw1, tw2, xw2, rfl, ew1, iw1, ew2, iw2⟩ := hw5
  have z1 : decide (((1 : Nat) : Int) = 1) = true := rfl
  have z2 : decide (((193 : Nat) : Int) = 193) = true := rfl
  have z3 : decide (((0 : Nat) : Int) = 0) = true := rfl
  simp -implicitDefEqProofs -dsimp only [go_sem, ↓reduceIte, zE, zB, zA, zM, zS, zL, reduceCtorEq, fits, inOrder_one, bsize_mk, decide_true, reTag_es ht5, Int.le_refl, Int.toNat_zero, z1, z2, z3]
  repeat (first
    | (refine (q_p gl _ _ _ _).mono ?_; rintro _ st ⟨rfl, rfl⟩; simp -implicitDefEqProofs -dsimp only [go_sem, ↓reduceIte, zE, zB, zA, zM, zS, zL, reduceCtorEq, fits, inOrder_one, inOrder_2, inOrder_3, bsize_mk, decide_true, fits])
    | (refine (q_no gl _ _ _ _ _ _ _).mono ?_; rintro _ st ⟨rfl, rfl⟩; simp -implicitDefEqProofs -dsimp only [go_sem, ↓reduceIte, zE, zB, zA, zM, zS, zL, reduceCtorEq, fits, inOrder_one, inOrder_2, inOrder_3, bsize_mk, decide_true, fits])
    | (refine (q_two gl _ _ _ _ _ _ _ _ _ _ _ _ _ _).mono ?_; rintro _ st ⟨rfl, rfl⟩; simp -implicitDefEqProofs -dsimp only [go_sem, ↓reduceIte, zE, zB, zA, zM, zS, zL, reduceCtorEq, fits, inOrder_one, inOrder_2, inOrder_3, bsize_mk, decide_true, fits])
    | (refine (q_fs gl _ _ _).mono ?_; rintro _ st ⟨rfl, rfl⟩; simp -implicitDefEqProofs -dsimp only [go_sem, ↓reduceIte, zE, zB, zA, zM, zS, zL, reduceCtorEq, fits, inOrder_one, inOrder_2, inOrder_3, bsize_mk, decide_true, fits])
    | (refine (q_sq gl _ _ _ _ _).mono ?_; rintro _ st ⟨rfl, rfl⟩; simp -implicitDefEqProofs -dsimp only [go_sem, ↓reduceIte, zE, zB, zA, zM, zS, zL, reduceCtorEq, fits, inOrder_one, inOrder_2, inOrder_3, bsize_mk, decide_true, fits])
    | (refine (q_v gl _ _).mono ?_; rintro _ st ⟨rfl, rfl⟩; simp -implicitDefEqProofs -dsimp only [go_sem, ↓reduceIte, zE, zB, zA, zM, zS, zL, reduceCtorEq, fits, inOrder_one, inOrder_2, inOrder_3, bsize_mk, decide_true, fits]))
  have hS1 := fun st => kSameSeq_c gl ⟨[zP], [zX, zU]⟩ ⟨[zP], [zX, zU]⟩ (.agg [.sl tw1 xw1, .sl tw2 xw2]) (.agg [.sl (tagF [zP]) (fmsI [zP]), .sl (tagF [zX, zU]) (fmsI [zX, zU])]) ⟨_, _, _, _, rfl, ew1, iw1, ew2, iw2⟩ ⟨_, _, _, _, rfl, tagF_es _, fmsI_is _ (by decide), tagF_es _, fmsI_is _ (by decide)⟩ st
  have hS2 := fun st => kSameSeq_c gl ⟨[zP, zD], []⟩ ⟨[zP, zD], []⟩ (.agg [.sl ty1 xy1, .sl ty2 xy2]) (.agg [.sl (tagF [zP, zD]) (fmsI [zP, zD]), .sl (tagF []) (fmsI [])]) ⟨_, _, _, _, rfl, ey1, iy1, ey2, iy2⟩ ⟨_, _, _, _, rfl, tagF_es _, fmsI_is _ (by decide), tagF_es _, fmsI_is _ (by decide)⟩ st
  refine (hS1 _).mono ?_
  rintro _ st ⟨rfl, rfl⟩
  simp -implicitDefEqProofs -dsimp only [go_sem, ↓reduceIte, zE, zB, zA, zM, zS, zL, reduceCtorEq, fits, inOrder_one, inOrder_2, bsize_mk, decide_true, show ∀ s : Sq, eqB s s = true from fun s => eqB_true.2 rfl, z1, z2, z3]
  repeat (first
    | (refine (q_p gl _ _ _ _).mono ?_; rintro _ st ⟨rfl, rfl⟩; simp -implicitDefEqProofs -dsimp only [go_sem, ↓reduceIte, zE, zB, zA, zM, zS, zL, reduceCtorEq, fits, inOrder_one, inOrder_2, inOrder_3, bsize_mk, decide_true, fits])
    | (refine (q_no gl _ _ _ _ _ _ _).mono ?_; rintro _ st ⟨rfl, rfl⟩; simp -implicitDefEqProofs -dsimp only [go_sem, ↓reduceIte, zE, zB, zA, zM, zS, zL, reduceCtorEq, fits, inOrder_one, inOrder_2, inOrder_3, bsize_mk, decide_true, fits])
    | (refine (q_two gl _ _ _ _ _ _ _ _ _ _ _ _ _ _).mono ?_; rintro _ st ⟨rfl, rfl⟩; simp -implicitDefEqProofs -dsimp only [go_sem, ↓reduceIte, zE, zB, zA, zM, zS, zL, reduceCtorEq, fits, inOrder_one, inOrder_2, inOrder_3, bsize_mk, decide_true, fits])
    | (refine (q_fs gl _ _ _).mono ?_; rintro _ st ⟨rfl, rfl⟩; simp -implicitDefEqProofs -dsimp only [go_sem, ↓reduceIte, zE, zB, zA, zM, zS, zL, reduceCtorEq, fits, inOrder_one, inOrder_2, inOrder_3, bsize_mk, decide_true, fits])
    | (refine (q_sq gl _ _ _ _ _).mono ?_; rintro _ st ⟨rfl, rfl⟩; simp -implicitDefEqProofs -dsimp only [go_sem, ↓reduceIte, zE, zB, zA, zM, zS, zL, reduceCtorEq, fits, inOrder_one, inOrder_2, inOrder_3, bsize_mk, decide_true, fits])
    | (refine (q_v gl _ _).mono ?_; rintro _ st ⟨rfl, rfl⟩; simp -implicitDefEqProofs -dsimp only [go_sem, ↓reduceIte, zE, zB, zA, zM, zS, zL, reduceCtorEq, fits, inOrder_one, inOrder_2, inOrder_3, bsize_mk, decide_true, fits]))
  refine (hS2 _).mono ?_
  rintro _ st ⟨rfl, rfl⟩
  simp -implicitDefEqProofs -dsimp only [go_sem, ↓reduceIte, zE, zB, zA, zM, zS, zL, reduceCtorEq, fits, inOrder_one, inOrder_2, bsize_mk, decide_true, show ∀ s : Sq, eqB s s = true from fun s => eqB_true.2 rfl, z1, z2, z3]
  exact outK_self ⟨rfl, rfl⟩
end Go.Proofs.Tryz

namespace Go.Proofs.Tryz
open Go Go.Iv

mutual
theorem size_wTm : ∀ t : Tm, t.size ≤ wTm t
  | .mk _ n us => by have := size_wTms us; simp only [wTm, Tm.size]; omega
theorem size_wTms : ∀ l : List Tm, sizeTms l ≤ wTms l
  | [] => Nat.le_refl _
  | a :: l => by have := size_wTm a; have := size_wTms l; simp only [wTms, sizeTms]; omega
end
mutual
theorem size_wFm : ∀ f : Fm, f.size ≤ wFm f
  | .mk _ n us sub => by have := size_wTms us; have := size_wFms sub; simp only [wFm, Fm.size]; omega
theorem size_wFms : ∀ l : List Fm, sizeFms l ≤ wFms l
  | [] => Nat.le_refl _
  | a :: l => by have := size_wFm a; have := size_wFms l; simp only [wFms, sizeFms]; omega
end
theorem nodeB_true {s : Sq} {f : Fm} {u : Tm} {n : ByteArray} (h : nodeB s f u n = true) : wFms s.l + wFms s.r ≤ 300 ∧ wFm f ≤ 300 ∧ wTm u ≤ 300 ∧ n.size ≤ 100 := by
  unfold nodeB at h
  simp only [Bool.and_eq_true, decide_eq_true_eq, Bool.not_eq_true', decide_eq_false_iff_not] at h
  omega
theorem fitSq_of {s : Sq} (h : wFms s.l + wFms s.r ≤ 300) : fitSq s := by
  have := size_wFms s.l
  have := size_wFms s.r
  exact ⟨fun f hf => by have := sizeFmsMem hf; omega, fun f hf => by have := sizeFmsMem hf; omega⟩
theorem okTs_mem : ∀ {l : List Tr} {a : Tr}, okTs l = true → a ∈ l → okT a = true
  | b :: l, a, h, ha => by
    simp only [okTs, Bool.and_eq_true] at h
    rcases List.mem_cons.1 ha with rfl | ha
    · exact h.1
    · exact okTs_mem h.2 ha
theorem okT_node : ∀ {t : Tr}, okT t = true → nodeOk t
  | .mk rule s m u n sub, h => by
    simp only [okT, Bool.and_eq_true] at h
    obtain ⟨h1, h2, h3, _⟩ := nodeB_true h.1
    have := size_wFm m
    have := size_wTm u
    refine ⟨fitSq_of h1, by omega, by omega, fun a ha => ?_⟩
    have := okTs_mem h.2 ha
    obtain ⟨rule', s', m', u', n', sub'⟩ := a
    simp only [okT, Bool.and_eq_true] at this
    exact fitSq_of (nodeB_true this.1).1
end Go.Proofs.Tryz

namespace Go.Proofs.Tryz
open Go Go.Iv

theorem filt2 {α : Type} (p q : α → Bool) (h : ∀ x, ¬ (p x = true ∧ q x = true)) : ∀ l : List α, (l.filter p).length + (l.filter q).length ≤ l.length
  | [] => by simp
  | a :: l => by
    have ih := filt2 p q h l
    have ha := h a
    cases hp : p a <;> cases hq : q a
    · simp only [List.filter_cons, hp, hq, Bool.false_eq_true, if_false, List.length_cons]; omega
    · simp only [List.filter_cons, hp, hq, Bool.false_eq_true, if_false, if_true, List.length_cons]; omega
    · simp only [List.filter_cons, hp, hq, Bool.false_eq_true, if_false, if_true, List.length_cons]; omega
    · exact absurd ⟨hp, hq⟩ ha
theorem setF_ex : ∀ l : List Fm, ∃ r, SetF l r ∧ r.length ≤ l.length
  | [] => ⟨[], ⟨List.Pairwise.nil, fun _ => Iff.rfl⟩, Nat.le_refl _⟩
  | a :: l => by
    obtain ⟨r, ⟨h1, h2⟩, h3⟩ := setF_ex l
    by_cases ha : a ∈ r
    · refine ⟨r, ⟨h1, fun f => ?_⟩, by simp only [List.length_cons]; omega⟩
      rw [h2, List.mem_cons]
      constructor
      · exact .inr
      · rintro (rfl | h)
        · exact (h2 _).1 ha
        · exact h
    · have hx : ∀ x ∈ r, cmpFm x a < 0 ∨ cmpFm a x < 0 := fun x hx => by
        have h0 : cmpFm a x ≠ 0 := fun h => ha (((cmpFm_eq a x).1 h) ▸ hx)
        have hn := cmpFm_neg a x
        omega
      have h4 := filt2 (fun x => decide (cmpFm x a < 0)) (fun x => decide (cmpFm a x < 0)) (fun x ⟨q1, q2⟩ => by
        have q1 := of_decide_eq_true q1
        have q2 := of_decide_eq_true q2
        have hn := cmpFm_neg a x
        omega) r
      refine ⟨r.filter (fun x => decide (cmpFm x a < 0)) ++ a :: r.filter (fun x => decide (cmpFm a x < 0)), ⟨?_, fun f => ?_⟩, by simp only [List.length_append, List.length_cons]; omega⟩
      · refine List.pairwise_append.2 ⟨h1.filter _, List.pairwise_cons.2 ⟨fun y hy => ?_, h1.filter _⟩, fun x hxm y hy => ?_⟩
        · exact of_decide_eq_true (List.mem_filter.1 hy).2
        · have hxa := of_decide_eq_true (List.mem_filter.1 hxm).2
          rcases List.mem_cons.1 hy with rfl | hy
          · exact hxa
          · exact cmpFm_tr _ _ _ hxa (of_decide_eq_true (List.mem_filter.1 hy).2)
      · simp only [List.mem_append, List.mem_cons, List.mem_filter, decide_eq_true_eq]
        rw [← h2]
        constructor
        · rintro (⟨h, _⟩ | rfl | ⟨h, _⟩)
          · exact .inr h
          · exact .inl rfl
          · exact .inr h
        · rintro (rfl | h)
          · exact .inr (.inl rfl)
          · rcases hx f h with k | k
            · exact .inl ⟨h, k⟩
            · exact .inr (.inr ⟨h, k⟩)
theorem setF_is (l : List Fm) : SetF l (setF l) := by
  obtain ⟨r, h, _⟩ := setF_ex l
  rw [setF_eq h]; exact h
theorem setF_len (l : List Fm) : (setF l).length ≤ l.length := by
  obtain ⟨r, h, h3⟩ := setF_ex l
  rw [setF_eq h]; exact h3
theorem setF_same {l m : List Fm} (h : ∀ x, x ∈ l ↔ x ∈ m) : setF l = setF m :=
  setF_eq ⟨(setF_is m).1, fun f => ((setF_is m).2 f).trans (h f).symm⟩
theorem setF_self (l : List Fm) : setF (setF l) = setF l := setF_eq ⟨(setF_is l).1, fun _ => Iff.rfl⟩
theorem normF_op : ∀ f : Fm, (normF f).op = f.op := fun f => by
  obtain ⟨o, n, us, sub⟩ := f
  rfl
noncomputable def nrm (l : List Fm) : List Fm := l.map normF
theorem normalS_ok {l : List Fm} (h : l.all Fm.right = true) : normalS l = (setF (nrm l), 0) := by
  unfold normalS; rw [if_pos h]; rfl
theorem nrm_turn (l : List Fm) (x : Fm) : x ∈ nrm (turnL l) ↔ x ∈ nrm l := by
  simp only [nrm, List.mem_map, mem_turnL]
theorem set_mem {l : List Fm} {x : Fm} : x ∈ setF (nrm l) ↔ ∃ g ∈ l, normF g = x := by
  rw [(setF_is _).2]; simp [nrm]
theorem set_right {l : List Fm} (h : l.all Fm.right = true) : (setF (nrm l)).all Fm.right = true := List.all_eq_true.2 fun f hf => by
  obtain ⟨g, hg, rfl⟩ := set_mem.1 hf
  exact normF_right (List.all_eq_true.1 h g hg)
theorem nrm_set {l : List Fm} (h : l.all Fm.right = true) : nrm (setF (nrm l)) = setF (nrm l) := by
  have : ∀ m : List Fm, (∀ x ∈ m, normF x = x) → nrm m = m := fun m => by
    induction m with
    | nil => intro _; rfl
    | cons a m ih =>
      intro hm
      have := ih fun x hx => hm x (by simp [hx])
      simp only [nrm, List.map_cons] at this ⊢
      rw [hm a (by simp), this]
  refine this _ fun x hx => ?_
  obtain ⟨g, hg, rfl⟩ := set_mem.1 hx
  exact normF_idem (List.all_eq_true.1 h g hg)
theorem eqF_norm {g : Fm} (h : g.right = true) : eqF (normF g) g = true := eqF_true.2 ⟨normF_op g, normF_right h, h, dbF_normF (right_ok h).1⟩
theorem allF_set_norm {l : List Fm} (h : l.all Fm.right = true) : allF (setF (nrm l)) l = true ∧ allF l (setF (nrm l)) = true := by
  refine ⟨allF_true.2 fun f hf => ?_, allF_true.2 fun f hf => ?_⟩
  · obtain ⟨g, hg, rfl⟩ := set_mem.1 hf
    exact hasF_true.2 ⟨g, hg, eqF_norm (List.all_eq_true.1 h g hg)⟩
  · exact hasF_true.2 ⟨normF f, set_mem.2 ⟨f, hf, rfl⟩, eqF_symm (eqF_norm (List.all_eq_true.1 h f hf))⟩
theorem Set_turn {s : Sq} (h1 : s.l.all Fm.right = true) (h2 : s.r.all Fm.right = true) : ∃ x : Sq, SetS s = (x, 0) ∧ SetS (turnS s) = (x, 0) ∧ SetS x = (x, 0) ∧ withinB x s = true ∧ withinB s x = true ∧ x.l.length ≤ s.l.length ∧ x.r.length ≤ s.r.length := by
  have t1 : (turnL s.l).all Fm.right = true := by rw [all_set mem_turnL]; exact h1
  have t2 : (turnL s.r).all Fm.right = true := by rw [all_set mem_turnL]; exact h2
  refine ⟨⟨setF (nrm s.l), setF (nrm s.r)⟩, ?_, ?_, ?_, ?_, ?_, by have := setF_len (nrm s.l); simpa [nrm] using this, by have := setF_len (nrm s.r); simpa [nrm] using this⟩
  · unfold SetS
    simp only [normalS_ok h1, normalS_ok h2, ne_eq, not_true_eq_false, if_false]
  · unfold SetS turnS
    simp only [normalS_ok t1, normalS_ok t2, ne_eq, not_true_eq_false, if_false, setF_same (nrm_turn s.l), setF_same (nrm_turn s.r)]
  · unfold SetS
    simp only [normalS_ok (set_right h1), normalS_ok (set_right h2), nrm_set h1, nrm_set h2, setF_self, ne_eq, not_true_eq_false, if_false]
  · unfold withinB
    rw [(allF_set_norm h1).1, (allF_set_norm h2).1]; rfl
  · unfold withinB
    rw [(allF_set_norm h1).2, (allF_set_norm h2).2]; rfl
end Go.Proofs.Tryz

namespace Go.Proofs.Tryz
open Go Go.Iv
set_option maxRecDepth 4000
variable (gl : Nat → Option IV)

def rmC (t : Tr) : Prop := ∀ (x : IV) (_ : IsTr t x) (_ : t.steps ≤ 1099511627776) (st : ISt), ICall prog gl 31 [x] st (fun r st' => r = .raw (.bool (roomB t)) ∧ st' = st)
theorem roomBs_append : ∀ l m : List Tr, roomBs (l ++ m) = (roomBs l && roomBs m)
  | [], m => by simp [roomBs]
  | a :: l, m => by simp only [List.cons_append, roomBs, roomBs_append l m, Bool.and_assoc]
theorem roomBs_take {l : List Tr} {k : Nat} {a : Tr} (h : l[k]? = some a) : roomBs (l.take (k + 1)) = (roomBs (l.take k) && roomB a) := by
  rw [take_get h, roomBs_append]; simp [roomBs]
theorem roomBs_no {l : List Tr} {a : Tr} (h : a ∈ l) (ha : roomB a = false) : roomBs l = false := by
  induction l with
  | nil => cases h
  | cons b l ih =>
    simp only [roomBs]
    rcases List.mem_cons.1 h with rfl | h
    · rw [ha]; rfl
    · rw [ih h, Bool.and_false]
theorem room_step (rule : Nat) (s : Sq) (f : Fm) (u : Tm) (n : ByteArray) (sub : List Tr) (IH : ∀ a ∈ sub, rmC gl a) : rmC gl (.mk rule s f u n sub) := by
  intro x hx hst st
  obtain ⟨tl, xl, tr, xr, op, fn, ta, xa, tb, xb, v, un, tu, xu, ts, xs, rfl, hru, e1, i1, e2, i2, hy, hz, e3, i3⟩ := hx.mk
  simp only [Tr.steps] at hst
  have d1 : decide ((64 : Int) ≤ ((s.l.length : Nat) : Int)) = !decide (s.l.length < 64) := by
    rw [← decide_not, decide_eq_decide]; omega
  have d2 : decide ((64 : Int) ≤ ((s.r.length : Nat) : Int)) = !decide (s.r.length < 64) := by
    rw [← decide_not, decide_eq_decide]; omega
  have hlsub : sub.length ≤ stepsTrs sub := by
    clear IH hx i3 hst
    induction sub with
    | nil => simp
    | cons a l ih =>
      obtain ⟨_, _, _, _, _, s2⟩ := a
      simp only [stepsTrs, Tr.steps, List.length_cons]; omega
  refine ICall.intro (c := cf prog gl [] []) func31 rfl (by show _ ≤ 30; simp) (by kernel_rfl) ?_
  cases q1 : decide (s.l.length < 64)
  · rw [q1] at d1
    simp -implicitDefEqProofs -dsimp only [go_sem, ↓reduceIte, zE, zB, zA, zM, zS, zL, reduceCtorEq, fits, i1.len, d1]
    intros
    exact outK_self ⟨by simp only [roomB, q1, Bool.false_and], rfl⟩
  rw [q1] at d1
  cases q2 : decide (s.r.length < 64)
  · rw [q2] at d2
    simp -implicitDefEqProofs -dsimp only [go_sem, ↓reduceIte, zE, zB, zA, zM, zS, zL, reduceCtorEq, fits, i1.len, i2.len, d1, d2]
    intros
    exact outK_self ⟨by simp only [roomB, q1, q2, Bool.false_and, Bool.and_false], rfl⟩
  rw [q2] at d2
  simp -implicitDefEqProofs -dsimp only [go_sem, ↓reduceIte, zE, zB, zA, zM, zS, zL, reduceCtorEq, fits, i1.len, i2.len, d1, d2]
  intros
  refine LoopC.ctr sub.length (fun k fr st' ds => roomBs (sub.take k) = true ∧ fr 1 = .box [.raw (.int .u8 rule), .sl tl xl, .sl tr xr, .raw (.int .u8 op), .raw (.string fn), .sl ta xa, .sl tb xb, .raw (.bool v), .raw (.string un), .sl tu xu, .raw (.string n), .sl ts xs] ∧ fr 3 = .iv (.raw (.int .i64 k)) ∧ st' = st ∧ ds = []) ?_ ?_ ?_
  · simp -implicitDefEqProofs -dsimp only [go_sem, ↓reduceIte, zE, zB, zA, zM, zS, zL, reduceCtorEq]
    exact ⟨rfl, rfl⟩
  · rintro k fr st1 _ hlt ⟨hk, f1, f3, rfl, rfl⟩
    obtain ⟨a, ha⟩ := get_of_lt hlt
    obtain ⟨z, hkz, hzz⟩ := i3.get ha
    have hcall := fun st => IH a (List.mem_of_getElem? ha) z hzz (by have := steps_le_of_mem (List.mem_of_getElem? ha); omega) st
    obtain ⟨rule', tl', xl', tr', xr', op', fn', ta', xa', tb', xb', v', un', tu', xu', n', ts', xs', rfl⟩ := trAgg hzz
    simp -implicitDefEqProofs -dsimp only [go_sem, ↓reduceIte, zE, zB, zA, zM, zS, zL, reduceCtorEq, f1, f3, i3.len, lt_i hlt, reTag_es e3, Int.natCast_nonneg, hkz, fits]
    intro _
    refine (hcall _).mono ?_
    rintro _ st2 ⟨rfl, rfl⟩
    cases hra : roomB a
    · simp -implicitDefEqProofs -dsimp only [go_sem, ↓reduceIte, zE, zB, zA, zM, zS, zL, reduceCtorEq, f1, f3, fits]
      exact outK_self ⟨by simp only [roomB, roomBs_no (List.mem_of_getElem? ha) hra, Bool.and_false], rfl⟩
    · simp -implicitDefEqProofs -dsimp only [go_sem, ↓reduceIte, zE, zB, zA, zM, zS, zL, reduceCtorEq, f1, f3, fits, w_succ hlt (show sub.length ≤ 281474976710656 by omega)]
      rw [roomBs_take ha, hk, hra]; rfl
  · rintro fr st1 _ ⟨hk, f1, f3, rfl, rfl⟩
    rw [List.take_length] at hk
    simp -implicitDefEqProofs -dsimp only [go_sem, ↓reduceIte, zE, zB, zA, zM, zS, zL, reduceCtorEq, f1, f3, i3.len, nlt_i (Nat.lt_irrefl _)]
    intro _
    exact outK_self ⟨by simp only [roomB, q1, q2, hk, Bool.and_self], rfl⟩
theorem room_all : ∀ (k : Nat) (t : Tr), SizeOf.sizeOf t < k → rmC gl t
  | 0, t, h => by omega
  | k + 1, .mk r sq f u n sub, h => room_step gl r sq f u n sub (fun a ha => room_all k a (by
      have := List.sizeOf_lt_of_mem ha
      simp at h; omega))
theorem room_c (t : Tr) : rmC gl t := room_all gl _ t (Nat.lt_succ_self _)

theorem turned_c (l : List Fm) (tg : Tag) (xs : List IV) (htg : okEs tg 4) (hxs : IsFms l xs) (hsz : sizeFms l ≤ 1099511627776) (st : ISt) :
    ICall prog gl 86 [.sl tg xs] st (fun r st' => ∃ tg' ys, r = .sl tg' ys ∧ okEs tg' 4 ∧ IsFms (turnL l) ys ∧ st' = st) := by
  have hlsz := flen_le_size l
  have w1 : IntKind.i64.wrap (((l.length : Nat) : Int) - 1) = ((l.length : Nat) : Int) - 1 := w64 (by omega) (by omega)
  refine ICall.intro (c := cf prog gl [] []) func86 rfl (by show _ ≤ 31; simp) (by kernel_rfl) ?_
  simp -implicitDefEqProofs -dsimp only [go_sem, ↓reduceIte, zE, zB, zA, zM, zS, zL, reduceCtorEq, hxs.len, w1]
  intros
  refine LoopC.ctr l.length (fun k fr st' ds => (∃ tg' ys, fr 3 = .iv (.sl tg' ys) ∧ IsFmsD (l.reverse.take k) ys ∧ appT tg' ∧ own st' tg' k 4 st ∧ subSt st st') ∧ fr 0 = .iv (.sl tg xs) ∧ (∃ z : Int, fr 4 = .iv (.raw (.int .i64 z)) ∧ z = (l.length : Int) - 1 - k) ∧ (∃ v, fr 2 = .iv v) ∧ ds = []) ?_ ?_ ?_
  · simp -implicitDefEqProofs -dsimp only [go_sem, ↓reduceIte, zE, zB, zA, zM, zS, zL, reduceCtorEq]
    exact ⟨⟨_, _, rfl, IsFmsD.nil, .inl rfl, own.nil _ _ _ _ _, subSt.refl _⟩, ⟨_, rfl, by omega⟩, ⟨_, rfl⟩⟩
  · rintro k fr st1 _ hlt ⟨⟨tg', ys, f3, hys, hap, hown, hsub⟩, f0, ⟨z, f4, hz⟩, ⟨v2, f2⟩, rfl⟩
    obtain ⟨j, rfl⟩ : ∃ j : Nat, z = (j : Int) := ⟨l.length - 1 - k, by omega⟩
    have hj : j < l.length := by omega
    have hjk : j = l.length - 1 - k := by omega
    obtain ⟨a, ha⟩ := get_of_lt hj
    have har : l.reverse[k]? = some a := by
      rw [List.getElem?_reverse hlt, ← hjk]; exact ha
    obtain ⟨x, hkx, hx⟩ := hxs.get ha
    obtain ⟨h1, h2⟩ := sizeFms_take ha
    have hlen2 : ys.length = k := by rw [hys.len, List.length_take, List.length_reverse]; omega
    have hcall := kCopyForm_c gl a x hx (by omega) st1
    have wj : IntKind.i64.wrap (((j : Nat) : Int) - 1) = ((j : Nat) : Int) - 1 := w64 (by omega) (by omega)
    obtain ⟨o5, n5, t5, x5, t6, x6, rfl⟩ := hx.agg
    simp -implicitDefEqProofs -dsimp only [go_sem, ↓reduceIte, zE, zB, zA, zM, zS, zL, reduceCtorEq, f0, f3, f4, hxs.len, decide_true, reTag_es htg, Int.natCast_nonneg, hkx, fits]
    intros
    refine hcall.mono ?_
    rintro r _ ⟨hr, rfl⟩
    have hn : IsFmsD (l.reverse.take (k + 1)) (ys ++ [r]) := by
      rw [take_get har]; exact hys.append (IsFmsD.one hr)
    obtain ⟨o7, n7, t7, x7, t8, x8, rfl⟩ := IsFmD.aggs hr
    simp -implicitDefEqProofs -dsimp only [go_sem, ↓reduceIte, zE, zB, zA, zM, zS, zL, reduceCtorEq, f0, f3, f4, fits, inOrder_one]
    refine appV_ownD hown hlen2 hsub rfl (by simp [fits, IV.one]) (by simp only; omega) (by omega) fun tg2 st4 hown2 hsub4 _ hap2 => ?_
    simp -implicitDefEqProofs -dsimp only [go_sem, ↓reduceIte, zE, zB, zA, zM, zS, zL, reduceCtorEq, f0, f2, f3, f4, fits, wj]
    exact ⟨⟨tg2, _, rfl, hn, hap2, hown2, hsub4⟩, ⟨_, rfl, by omega⟩, ⟨_, rfl⟩⟩
  · rintro fr st1 _ ⟨⟨tg', ys, f3, hys, hap, hown, hsub⟩, f0, ⟨z, f4, hz⟩, ⟨v2, f2⟩, rfl⟩
    obtain rfl : z = -1 := by omega
    rw [← List.length_reverse, List.take_length] at hys
    have hlen2 : ys.length = l.length := by rw [hys.len, List.length_reverse]
    cases l with
    | nil =>
      simp -implicitDefEqProofs -dsimp only [go_sem, ↓reduceIte, zE, zB, zA, zM, zS, zL, reduceCtorEq, f0, f2, f3, f4, hxs.len, fits, show decide ((0 : Int) ≤ -1) = false from rfl, show decide ((0 : Int) < ((0 : Nat) : Int)) = false from rfl]
      intros
      exact outK_sub (st' := st) hsub ⟨tg', ys, rfl, hown.es, hys.1, rfl⟩
    | cons a l =>
      obtain ⟨x, hkx, hx⟩ := hxs.get (k := 0) (a := a) rfl
      have hcall := kCopyForm_c gl a x hx (by simp only [sizeFms] at hsz; omega) st1
      obtain ⟨o5, n5, t5, x5, t6, x6, rfl⟩ := hx.agg
      simp -implicitDefEqProofs -dsimp only [go_sem, ↓reduceIte, zE, zB, zA, zM, zS, zL, reduceCtorEq, f0, f2, f3, f4, hxs.len, fits, show decide ((0 : Int) ≤ -1) = false from rfl, show decide ((0 : Int) < ((l.length + 1 : Nat) : Int)) = true from decide_eq_true (by omega), reTag_es htg, hkx, Int.le_refl, Int.toNat_zero]
      intros
      refine hcall.mono ?_
      rintro r _ ⟨hr, rfl⟩
      have hn : IsFmsD (turnL (a :: l)) (ys ++ [r]) := by
        show IsFmsD ((a :: l).reverse ++ [a]) _
        exact hys.append (IsFmsD.one hr)
      obtain ⟨o7, n7, t7, x7, t8, x8, rfl⟩ := IsFmD.aggs hr
      simp -implicitDefEqProofs -dsimp only [go_sem, ↓reduceIte, zE, zB, zA, zM, zS, zL, reduceCtorEq, f0, f2, f3, f4, fits, inOrder_one]
      refine appV_ownD hown hlen2 hsub rfl (by simp [fits, IV.one]) (by simp only; omega) (by omega) fun tg2 st4 hown2 hsub4 _ hap2 => ?_
      simp -implicitDefEqProofs -dsimp only [go_sem, ↓reduceIte, zE, zB, zA, zM, zS, zL, reduceCtorEq, f0, f2, f3, f4, fits]
      exact outK_sub (st' := st) hsub4 ⟨tg2, _, rfl, hown2.es, hn.1, rfl⟩

def zS : IV := .sl ⟨true, .nil, 0⟩ []
def tuC (t : Tr) : Prop := ∀ (x : IV) (_ : IsTr t x) (_ : okT t = true) (_ : t.steps ≤ 1000) (st : ISt), ICall prog gl 32 [x] st (fun r st' => IsTr (turnT t) r ∧ st' = st)
theorem turnTs_append : ∀ l m : List Tr, turnTs (l ++ m) = turnTs l ++ turnTs m
  | [], m => rfl
  | a :: l, m => by simp only [List.cons_append, turnTs, turnTs_append l m]
theorem turnTs_take {l : List Tr} {k : Nat} {a : Tr} (h : l[k]? = some a) : turnTs (l.take (k + 1)) = turnTs (l.take k) ++ [turnT a] := by
  rw [take_get h, turnTs_append]; simp [turnTs]
theorem IsTrs.one {a : Tr} {x : IV} (h : IsTr a x) : IsTrs [a] [x] := by simp only [IsTrs]; exact ⟨x, [], rfl, h, rfl⟩
theorem turn_step (rule : Nat) (s : Sq) (f : Fm) (u : Tm) (n : ByteArray) (sub : List Tr) (IH : ∀ a ∈ sub, tuC gl a) : tuC gl (.mk rule s f u n sub) := by
  intro x hx hok hst st
  obtain ⟨tl, xl, tr, xr, op, fn, ta, xa, tb, xb, v, un, tu, xu, ts, xs, rfl, hru, e1, i1, e2, i2, hy, hz, e3, i3⟩ := hx.mk
  simp only [Tr.steps] at hst
  have hlsub := len_le_steps sub
  have hok2 : okTs sub = true := by
    simp only [okT, Bool.and_eq_true] at hok
    exact hok.2
  have hnode : wFms s.l + wFms s.r ≤ 300 := by
    simp only [okT, Bool.and_eq_true] at hok
    exact (nodeB_true hok.1).1
  have hT1 := fun st => turned_c gl s.l tl xl e1 i1 (by have := size_wFms s.l; omega) st
  have hT2 := fun st => turned_c gl s.r tr xr e2 i2 (by have := size_wFms s.r; omega) st
  refine ICall.intro (c := cf prog gl [] [(2, [0, 1, 2, 4, 5, 6, 3, 7, 8, 9, 10, 11, 12])]) func32 rfl (by show _ ≤ 36; simp) (by kernel_rfl) ?_
  simp -implicitDefEqProofs -dsimp only [go_sem, ↓reduceIte, zE, zB, zA, zM, zS, zL, reduceCtorEq, fits]
  refine (hT1 _).mono ?_
  rintro _ _ ⟨tg1, y1, rfl, g1, k1, rfl⟩
  simp -implicitDefEqProofs -dsimp only [go_sem, ↓reduceIte, zE, zB, zA, zM, zS, zL, reduceCtorEq, fits]
  refine (hT2 _).mono ?_
  rintro _ _ ⟨tg2, y2, rfl, g2, k2, rfl⟩
  simp -implicitDefEqProofs -dsimp only [go_sem, ↓reduceIte, zE, zB, zA, zM, zS, zL, reduceCtorEq, fits]
  refine (q_sq gl _ _ _ _ _).mono ?_
  rintro _ st ⟨rfl, rfl⟩
  simp -implicitDefEqProofs -dsimp only [go_sem, ↓reduceIte, zE, zB, zA, zM, zS, zL, reduceCtorEq, fits]
  refine LoopC.ctr sub.length (fun k fr st' ds => (∃ tg' ys, fr 3 = .box [.raw (.int .u8 rule), .sl tg1 y1, .sl tg2 y2, .raw (.int .u8 op), .raw (.string fn), .sl ta xa, .sl tb xb, .raw (.bool v), .raw (.string un), .sl tu xu, .raw (.string n), .sl tg' ys] ∧ IsTrs (turnTs (sub.take k)) ys ∧ own st' tg' k 12 st ∧ subSt st st') ∧
    fr 1 = .box [.raw (.int .u8 rule), .sl tl xl, .sl tr xr, .raw (.int .u8 op), .raw (.string fn), .sl ta xa, .sl tb xb, .raw (.bool v), .raw (.string un), .sl tu xu, .raw (.string n), .sl ts xs] ∧
    fr 2 = .box [.raw (.int .u8 0), zS, zS, .raw (.int .u8 0), .raw (.string ⟨#[]⟩), zS, zS, .raw (.bool false), .raw (.string ⟨#[]⟩), zS, .raw (.string ⟨#[]⟩), zS] ∧ fr 4 = .iv (.raw (.int .i64 k)) ∧ ds = []) ?_ ?_ ?_
  · simp -implicitDefEqProofs -dsimp only [go_sem, ↓reduceIte, zE, zB, zA, zM, zS, zL, reduceCtorEq, zS]
    exact ⟨⟨_, _, rfl, rfl, own.nil _ _ _ _ _, subSt.refl _⟩, rfl⟩
  · rintro k fr st1 _ hlt ⟨⟨tg', ys, f3, hys, hown, hsub⟩, f1, f2, f4, rfl⟩
    obtain ⟨a, ha⟩ := get_of_lt hlt
    have ham := List.mem_of_getElem? ha
    obtain ⟨z, hkz, hzz⟩ := i3.get ha
    have hlen2 : ys.length = k := by rw [hys.len, turnTs_length, List.length_take]; omega
    have hcall := fun st => IH a ham z hzz (okTs_mem hok2 ham) (by have := steps_le_of_mem ham; omega) st
    obtain ⟨rule', tl', xl', tr', xr', op', fn', ta', xa', tb', xb', v', un', tu', xu', n', ts', xs', rfl⟩ := trAgg hzz
    simp -implicitDefEqProofs -dsimp only [go_sem, ↓reduceIte, zE, zB, zA, zM, zS, zL, reduceCtorEq, f1, f3, f4, i3.len, lt_i hlt, reTag_es e3, Int.natCast_nonneg, hkz, fits]
    intro _
    refine (hcall _).mono ?_
    rintro r _ ⟨hr, rfl⟩
    have hn : IsTrs (turnTs (sub.take (k + 1))) (ys ++ [r]) := by
      rw [turnTs_take ha]; exact hys.append (IsTrs.one hr)
    obtain ⟨rule', tl', xl', tr', xr', op', fn', ta', xa', tb', xb', v', un', tu', xu', n', ts', xs', rfl⟩ := trAgg hr
    simp -implicitDefEqProofs -dsimp only [go_sem, ↓reduceIte, zE, zB, zA, zM, zS, zL, reduceCtorEq, f1, f3, f4, fits, inOrder_one]
    refine appV_ownD hown hlen2 hsub rfl (by simp [fits, IV.one]) (by simp only; omega) (by omega) fun tg2 st4 hown2 hsub4 _ hap2 => ?_
    simp -implicitDefEqProofs -dsimp only [go_sem, ↓reduceIte, zE, zB, zA, zM, zS, zL, reduceCtorEq, f1, f2, f3, f4, fits, w_succ hlt (show sub.length ≤ 281474976710656 by omega)]
    exact ⟨tg2, _, rfl, hn, hown2, hsub4⟩
  · rintro fr st1 _ ⟨⟨tg', ys, f3, hys, hown, hsub⟩, f1, f2, f4, rfl⟩
    rw [List.take_length] at hys
    simp -implicitDefEqProofs -dsimp only [go_sem, ↓reduceIte, zE, zB, zA, zM, zS, zL, reduceCtorEq, f1, f2, f3, f4, i3.len, nlt_i (Nat.lt_irrefl _), fits, zS]
    intro _
    refine outK_sub (st' := st) hsub ⟨?_, rfl⟩
    simp only [turnT, IsTr, turnS]
    exact ⟨_, _, _, _, _, _, _, _, _, _, _, _, _, _, _, _, rfl, hru, g1, k1, g2, k2, hy, hz, hown.es, hys⟩
theorem turn_all : ∀ (k : Nat) (t : Tr), SizeOf.sizeOf t < k → tuC gl t
  | 0, t, h => by omega
  | k + 1, .mk r sq f u n sub, h => turn_step gl r sq f u n sub (fun a ha => turn_all k a (by
      have := List.sizeOf_lt_of_mem ha
      simp at h; omega))
theorem turn_c (t : Tr) : tuC gl t := turn_all gl _ t (Nat.lt_succ_self _)
end Go.Proofs.Tryz

namespace Go.Proofs.Tryz
open Go Go.Iv

mutual
def NA : Tr → Prop
  | .mk _ s m u _ sub => fitSq s ∧ m.size ≤ 1000000 ∧ u.size ≤ 1000000 ∧ NAs sub
def NAs : List Tr → Prop
  | [] => True
  | a :: l => NA a ∧ NAs l
end
theorem NA_sq : ∀ {t : Tr}, NA t → fitSq t.sq
  | .mk _ _ _ _ _ _, h => by simp only [NA] at h; exact h.1
theorem NAs_mem : ∀ {l : List Tr} {a : Tr}, NAs l → a ∈ l → NA a
  | b :: l, a, h, ha => by
    simp only [NAs] at h
    rcases List.mem_cons.1 ha with rfl | ha
    · exact h.1
    · exact NAs_mem h.2 ha
theorem NA_node : ∀ {t : Tr}, NA t → nodeOk t
  | .mk _ _ _ _ _ _, h => by
    simp only [NA] at h
    exact ⟨h.1, h.2.1, h.2.2.1, fun a ha => NA_sq (NAs_mem h.2.2.2 ha)⟩
mutual
theorem NA_walk : ∀ (p : List Nat) (t : Tr), NA t → ∀ q ∈ t.walk p, NA q.2
  | p, .mk rule s m u n sub, h, q, hq => by
    simp only [Tr.walk, List.mem_cons] at hq
    rcases hq with rfl | hq
    · exact h
    · simp only [NA] at h
      exact NAs_walk p 0 sub h.2.2.2 q hq
theorem NAs_walk : ∀ (p : List Nat) (i : Nat) (l : List Tr), NAs l → ∀ q ∈ walkTrs p i l, NA q.2
  | _, _, [], _, q, hq => by cases hq
  | p, i, a :: l, h, q, hq => by
    simp only [NAs] at h
    simp only [walkTrs, List.mem_append] at hq
    rcases hq with hq | hq
    · exact NA_walk _ a h.1 q hq
    · exact NAs_walk p (i + 1) l h.2 q hq
end
theorem NA_fit {t : Tr} (h : NA t) (hs : t.steps ≤ 1099511627776) : fitTr t := ⟨fun q hq => NA_node (NA_walk [] t h q hq), Nat.le_trans t.height_le_steps hs⟩
mutual
theorem okT_NA : ∀ {t : Tr}, okT t = true → NA t
  | .mk _ s m u n sub, h => by
    have hn := okT_node h
    simp only [okT, Bool.and_eq_true] at h
    exact ⟨hn.1, hn.2.1, hn.2.2.1, okTs_NAs h.2⟩
theorem okTs_NAs : ∀ {l : List Tr}, okTs l = true → NAs l
  | [], _ => trivial
  | a :: l, h => by
    simp only [okTs, Bool.and_eq_true] at h
    exact ⟨okT_NA h.1, okTs_NAs h.2⟩
end
theorem fitSq_turn {s : Sq} (h : fitSq s) : fitSq (turnS s) := ⟨fun f hf => h.1 f ((mem_turnL f).1 hf), fun f hf => h.2 f ((mem_turnL f).1 hf)⟩
mutual
theorem NA_turn : ∀ {t : Tr}, NA t → NA (turnT t)
  | .mk _ s m u n sub, h => by
    simp only [NA] at h
    simp only [turnT, NA]
    exact ⟨fitSq_turn h.1, h.2.1, h.2.2.1, NAs_turn h.2.2.2⟩
theorem NAs_turn : ∀ {l : List Tr}, NAs l → NAs (turnTs l)
  | [], _ => trivial
  | a :: l, h => by
    simp only [NAs] at h
    simp only [turnTs, NAs]
    exact ⟨NA_turn h.1, NAs_turn h.2⟩
end
theorem validB_parts' {ca : Nat} {s : Sq} (h : validB ca s = true) : s.l.all Fm.right = true ∧ s.r.all Fm.right = true := by
  have key : ∀ l : List Fm, l.all (fmB ca) = true → l.all Fm.right = true := fun l hl => List.all_eq_true.2 fun f hf => by
    have := List.all_eq_true.1 hl f hf
    unfold fmB at this
    simp only [Bool.and_eq_true] at this
    exact this.1
  unfold validB at h
  simp only [Bool.and_eq_true] at h
  exact ⟨key _ h.1.1.2, key _ h.1.2⟩
theorem fit_all {x s : List Fm} (h : allF x s = true) (hs : fitL s) : fitL x := fun f hf => by
  obtain ⟨g, hg, he⟩ := hasF_true.1 (allF_true.1 h f hf)
  obtain ⟨_, h1, h2, h3⟩ := eqF_true.1 he
  rw [(same_size (right_ok h1).1 (right_ok h2).1 h3).1]
  exact hs g hg
theorem fit_within {x s : Sq} (h : withinB x s = true) (hs : fitSq s) : fitSq x := by
  unfold withinB at h
  rw [Bool.and_eq_true] at h
  exact ⟨fit_all h.1 hs.1, fit_all h.2 hs.2⟩
end Go.Proofs.Tryz

namespace Go.Proofs.Tryz
open Go Go.Iv
set_option maxRecDepth 4000
variable (gl : Nat → Option IV)

set_option maxHeartbeats 2000000 in
theorem SequentTurned_c (G : Gl gl) (T : Gt gl) (ca : Nat) (t : Tr) (x : IV) (hx : IsTr t x) (hw : wTr t ≤ 1099511627776) (hst0 : t.steps ≤ 1099511627776) (st : ISt) :
    ICall prog gl 8 [.raw (.int .u8 ca), x] st (fun r st' => r = .raw (.bool true) ∧ st' = st) := by
  have hA := fun st => qawake_c gl G T st
  have hS := fun st => QSmall_c gl t x hx hw st
  have hR := fun st => room_c gl t x hx hst0 st
  have hx0 := hx
  obtain ⟨rule, s, m, u, n, sub⟩ := t
  obtain ⟨tl, xl, tr, xr, op, fn, ta, xa, tb, xb, v, un, tu, xu, ts, xs, rfl, hru, e1, i1, e2, i2, hy, hz, e3, i3⟩ := hx.mk
  refine ICall.intro (c := cf prog gl [] []) func8 rfl (by show _ ≤ 100; simp) (by kernel_rfl) ?_
  simp -implicitDefEqProofs -dsimp only [go_sem, ↓reduceIte, zE, zB, zA, zM, zS, zL, reduceCtorEq, fits]
  refine (hA _).mono ?_
  rintro _ st ⟨rfl, rfl⟩
  simp -implicitDefEqProofs -dsimp only [go_sem, ↓reduceIte, zE, zB, zA, zM, zS, zL, reduceCtorEq, fits]
  refine (hS _).mono ?_
  rintro _ st ⟨rfl, rfl⟩
  by_cases hsm : (okT (.mk rule s m u n sub) && decide ((Tr.mk rule s m u n sub).steps ≤ 60)) = true
  case neg =>
    have hsm' : (okT (.mk rule s m u n sub) && decide ((Tr.mk rule s m u n sub).steps ≤ 60)) = false := by simpa using hsm
    simp -implicitDefEqProofs -dsimp only [go_sem, ↓reduceIte, zE, zB, zA, zM, zS, zL, reduceCtorEq, hsm', fits]
    exact outK_self ⟨rfl, rfl⟩
  simp -implicitDefEqProofs -dsimp only [go_sem, ↓reduceIte, zE, zB, zA, zM, zS, zL, reduceCtorEq, hsm, fits]
  rw [Bool.and_eq_true, decide_eq_true_eq] at hsm
  obtain ⟨hok, hst⟩ := hsm
  refine (hR _).mono ?_
  rintro _ st ⟨rfl, rfl⟩
  cases hroom : roomB (.mk rule s m u n sub)
  · simp -implicitDefEqProofs -dsimp only [go_sem, ↓reduceIte, zE, zB, zA, zM, zS, zL, reduceCtorEq, fits]
    exact outK_self ⟨rfl, rfl⟩
  simp -implicitDefEqProofs -dsimp only [go_sem, ↓reduceIte, zE, zB, zA, zM, zS, zL, reduceCtorEq, fits]
  have hNA := okT_NA hok
  have hsq0 : IsSq s (.agg [.sl tl xl, .sl tr xr]) := ⟨tl, xl, tr, xr, rfl, e1, i1, e2, i2⟩
  have hT := fun st => turn_c gl _ _ hx0 hok (by omega) st
  have hC := fun st => Check_c gl G T ca _ _ hx0 (NA_fit hNA (by omega)) st
  have hV := fun st => Valid_c gl G ca s _ hsq0 (NA_sq hNA) st
  refine (hT _).mono ?_
  rintro y st ⟨hy', rfl⟩
  have hCu := fun st => Check_c gl G T ca _ _ hy' (NA_fit (NA_turn hNA) (by rw [steps_turn]; omega)) st
  rw [CheckS_turn ca _ hroom] at hCu
  have hy2 := hy'
  simp only [turnT] at hy2
  obtain ⟨tl2, xl2, tr2, xr2, op2, fn2, ta2, xa2, tb2, xb2, v2, un2, tu2, xu2, ts2, xs2, rfl, hru2, e12, i12, e22, i22, hy22, hz22, e32, i32⟩ := hy2.mk
  have hsq2 : IsSq (turnS s) (.agg [.sl tl2 xl2, .sl tr2 xr2]) := ⟨tl2, xl2, tr2, xr2, rfl, e12, i12, e22, i22⟩
  simp -implicitDefEqProofs -dsimp only [go_sem, ↓reduceIte, zE, zB, zA, zM, zS, zL, reduceCtorEq, fits]
  refine (hC _).mono ?_
  rintro _ st ⟨⟨tg, rfl, htg⟩, rfl⟩
  simp -implicitDefEqProofs -dsimp only [go_sem, ↓reduceIte, zE, zB, zA, zM, zS, zL, reduceCtorEq, fits]
  refine (hCu _).mono ?_
  rintro _ st ⟨⟨tg2, rfl, htg2⟩, rfl⟩
  generalize CheckS ca (.mk rule s m u n sub) = q
  obtain ⟨p, e⟩ := q
  have hSI := fun st => SameInts_c gl tg tg2 p p htg htg2 st
  simp -implicitDefEqProofs -dsimp only [go_sem, ↓reduceIte, zE, zB, zA, zM, zS, zL, reduceCtorEq, fits, decide_true]
  refine (hSI _).mono ?_
  rintro _ st ⟨rfl, rfl⟩
  simp -implicitDefEqProofs -dsimp only [go_sem, ↓reduceIte, zE, zB, zA, zM, zS, zL, reduceCtorEq, fits, show eqB p p = true from eqB_true.2 rfl]
  refine (hV _).mono ?_
  rintro _ st ⟨rfl, rfl⟩
  cases hv : validB ca s
  · simp -implicitDefEqProofs -dsimp only [go_sem, ↓reduceIte, zE, zB, zA, zM, zS, zL, reduceCtorEq, fits]
    exact outK_self ⟨rfl, rfl⟩
  have hpv := validB_parts' hv
  obtain ⟨z, z1, z2, z3, z4, z5, z6, z7⟩ := Set_turn hpv.1 hpv.2
  have hw1 := withinB_turn s hpv.1 hpv.2
  have hfs := NA_sq hNA
  simp only [Tr.sq] at hfs
  have hfz := fit_within z4 hfs
  have hls := flen_le_size s.l
  have hlr := flen_le_size s.r
  have hnode : wFms s.l + wFms s.r ≤ 300 := by
    simp only [okT, Bool.and_eq_true] at hok
    exact (nodeB_true hok.1).1
  have hq1 := size_wFms s.l
  have hq2 := size_wFms s.r
  have htl : (turnS s).l.length ≤ 64 ∧ (turnS s).r.length ≤ 64 := by
    simp only [roomB, Bool.and_eq_true, decide_eq_true_eq] at hroom
    exact ⟨turnL_length hroom.1.1, turnL_length hroom.1.2⟩
  have hSet1 := fun st => Set_c gl G T s _ hsq0 hfs ⟨by omega, by omega⟩ st
  have hSet2 := fun st => Set_c gl G T _ _ hsq2 (fitSq_turn hfs) ⟨by omega, by omega⟩ st
  simp only [z1] at hSet1
  simp only [z2] at hSet2
  simp -implicitDefEqProofs -dsimp only [go_sem, ↓reduceIte, zE, zB, zA, zM, zS, zL, reduceCtorEq, fits]
  refine (hSet1 _).mono ?_
  rintro _ st ⟨⟨w1, rfl, hw1'⟩, rfl⟩
  have hSet3 := fun st => Set_c gl G T z w1 hw1' hfz ⟨by omega, by omega⟩ st
  simp only [z3] at hSet3
  have hw1'' := hw1'
  obtain ⟨a1, b1, a2, b2, rfl, c1, c2, c3, c4⟩ := hw1''
  simp -implicitDefEqProofs -dsimp only [go_sem, ↓reduceIte, zE, zB, zA, zM, zS, zL, reduceCtorEq, fits]
  refine (hSet2 _).mono ?_
  rintro _ st ⟨⟨w2, rfl, hw2'⟩, rfl⟩
  have hw2'' := hw2'
  obtain ⟨a3, b3, a4, b4, rfl, c5, c6, c7, c8⟩ := hw2''
  simp -implicitDefEqProofs -dsimp only [go_sem, ↓reduceIte, zE, zB, zA, zM, zS, zL, reduceCtorEq, fits]
  refine (hSet3 _).mono ?_
  rintro _ st ⟨⟨w3, rfl, hw3'⟩, rfl⟩
  have hw3'' := hw3'
  obtain ⟨a5, b5, a6, b6, rfl, c9, c10, c11, c12⟩ := hw3''
  have hM1 := fun st => SameSq_c gl G s (turnS s) _ _ hsq0 hsq2 hfs (fitSq_turn hfs) st
  have hM2 := fun st => SameSq_c gl G z s _ _ hw1' hsq0 hfz hfs st
  have hM3 := fun st => kSameSeq_c gl z z _ _ hw1' hw2' st
  have hM4 := fun st => kSameSeq_c gl z z _ _ hw1' hw3' st
  rw [hw1.1, hw1.2] at hM1
  rw [z4, z5] at hM2
  simp only [show eqB z z = true from eqB_true.2 rfl] at hM3 hM4
  have hz0 : IntKind.i64.wrap (((0 : Nat) : Int) + ((0 : Nat) : Int)) = 0 := rfl
  have hz1 : IntKind.i64.wrap ((0 : Int) + ((0 : Nat) : Int)) = 0 := rfl
  simp -implicitDefEqProofs -dsimp only [go_sem, ↓reduceIte, zE, zB, zA, zM, zS, zL, reduceCtorEq, fits, hz0, hz1, decide_true]
  refine (hM1 _).mono ?_
  rintro _ st ⟨rfl, rfl⟩
  simp -implicitDefEqProofs -dsimp only [go_sem, ↓reduceIte, zE, zB, zA, zM, zS, zL, reduceCtorEq, fits]
  refine (hM2 _).mono ?_
  rintro _ st ⟨rfl, rfl⟩
  simp -implicitDefEqProofs -dsimp only [go_sem, ↓reduceIte, zE, zB, zA, zM, zS, zL, reduceCtorEq, fits]
  refine (hM3 _).mono ?_
  rintro _ st ⟨rfl, rfl⟩
  simp -implicitDefEqProofs -dsimp only [go_sem, ↓reduceIte, zE, zB, zA, zM, zS, zL, reduceCtorEq, fits]
  refine (hM4 _).mono ?_
  rintro _ st ⟨rfl, rfl⟩
  simp -implicitDefEqProofs -dsimp only [go_sem, ↓reduceIte, zE, zB, zA, zM, zS, zL, reduceCtorEq, fits]
  exact outK_self ⟨rfl, rfl⟩
end Go.Proofs.Tryz

namespace Go.Proofs.Tryz
open Go Go.Iv Go.ChangeShapes
open Go.Proofs.YtckafgnkmnichaaGreatDoor.Rows (uptoBulk uptoBulkAll)
set_option maxRecDepth 4000

theorem uSeq : prog.underlying 24 = some (.struct #[⟨ "Left", 22, 0, false, "", "", 0⟩, ⟨ "Right", 22, 1, false, "", "", 24⟩]) := by kernel_rfl
theorem uTree : prog.underlying 32 = some (.struct #[⟨ "Rule", 5, 0, false, "", "", 0⟩, ⟨ "Seq", 24, 1, false, "", "", 8⟩, ⟨ "Main", 27, 3, false, "", "", 56⟩, ⟨ "Term", 29, 7, false, "", "", 128⟩, ⟨ "Name", 9, 10, false, "", "", 176⟩, ⟨ "Sub", 30, 11, false, "", "", 192⟩]) := by kernel_rfl
theorem uTrees : prog.underlying 30 = some (.slice 32) := by kernel_rfl
theorem nSeq : prog.cellsOf 24 = 2 := by kernel_rfl
theorem nTree : prog.cellsOf 32 = 12 := by kernel_rfl
theorem nTrees : prog.cellsOf 30 = 1 := by kernel_rfl

mutual
theorem wTm_bulk : ∀ t : Tm, wTm t ≤ 2 * bulkT t
  | .mk _ n us => by have := wTms_bulk us; simp only [wTm, bulkT]; omega
theorem wTms_bulk : ∀ l : List Tm, wTms l ≤ 2 * bulkTs l
  | [] => Nat.le_refl _
  | a :: l => by have := wTm_bulk a; have := wTms_bulk l; simp only [wTms, bulkTs]; omega
end
mutual
theorem wFm_bulk : ∀ f : Fm, wFm f ≤ 2 * bulkF f
  | .mk _ n us sub => by have := wTms_bulk us; have := wFms_bulk sub; simp only [wFm, bulkF]; omega
theorem wFms_bulk : ∀ l : List Fm, wFms l ≤ 2 * bulkFs l
  | [] => Nat.le_refl _
  | a :: l => by have := wFm_bulk a; have := wFms_bulk l; simp only [wFms, bulkFs]; omega
end

section
variable {H : Type} {enc : TypeId × Value → H} {w : World} {spare : Nat → Bool} {held : Bool}
def RQ (d : DataW H) (s : Sq) (x : IV) : Prop := IsSq s x ∧ wFms s.l + wFms s.r ≤ 2 * uptoBulk d
theorem seq_of (fuel : Nat) (cs : List Value) (y : DataW H × List MemPlace) (h : DataW.trod enc prog w 0 spare held fuel 24 cs = some y) (hb : uptoBulk y.1 ≤ 1048576) : ∃ s x, VL 0 (L0 w) w cs x.cells ∧ RQ y.1 s x := by
  obtain ⟨ys, n, rfl, rfl, hl, hlen, hf⟩ := DataW.trod_struct uSeq h
  match ys, hlen with
  | [y0, y1], _ =>
    rw [nSeq] at hl
    match cs, hl with
    | [c0, c1], _ =>
      have h0 := hf 0 _ rfl
      have h1 := hf 1 _ rfl
      simp only [nForms, List.drop_zero, List.drop_succ_cons, List.take_succ_cons, List.take_zero, List.getElem?_cons_zero, List.getElem?_cons_succ] at h0 h1
      simp only [List.map_cons, List.map_nil, uptoBulk, uptoBulkAll] at hb
      obtain ⟨v0, tg0, xs0, l0, e0, hv0, ht0, hl0, hb0⟩ := forms_of h0 (by omega) (fun m _ => form_of m)
      obtain ⟨v1, tg1, xs1, l1, e1, hv1, ht1, hl1, hb1⟩ := forms_of h1 (by omega) (fun m _ => form_of m)
      cases e0; cases e1
      refine ⟨⟨l0, l1⟩, .agg [.sl tg0 xs0, .sl tg1 xs1], VL.cons hv0 (VL.cons hv1 VL.nil), ⟨tg0, xs0, tg1, xs1, rfl, ht0, hl0, ht1, hl1⟩, ?_⟩
      have := wFms_bulk l0
      have := wFms_bulk l1
      simp only [List.map_cons, List.map_nil, uptoBulk, uptoBulkAll]
      omega
theorem isTrs_get : ∀ {us : List Tr} {xs : List IV}, us.length = xs.length → (∀ (i : Nat) (a : Tr) (x : IV), us[i]? = some a → xs[i]? = some x → IsTr a x) → IsTrs us xs
  | [], xs, h, _ => by simpa [IsTrs] using h.symm
  | a :: us, [], h, _ => by simp at h
  | a :: us, x :: xs, h, hh => ⟨x, xs, rfl, hh 0 a x rfl rfl, isTrs_get (by simpa using h) (fun i b y hb hy => hh (i + 1) b y (by simpa using hb) (by simpa using hy))⟩
theorem wTrs_sum : ∀ {us : List Tr} {ds : List (DataW H)}, us.length = ds.length → (∀ (i : Nat) (a : Tr) (d : DataW H), us[i]? = some a → ds[i]? = some d → wTr a + a.steps ≤ 2 * uptoBulk d) → wTrs us + stepsTrs us ≤ 2 * uptoBulkAll ds
  | [], ds, h, _ => by simp [wTrs, stepsTrs]
  | a :: us, [], h, _ => by simp at h
  | a :: us, x :: xs, h, hh => by
    have h1 := hh 0 a x rfl rfl
    have h2 := wTrs_sum (us := us) (ds := xs) (by simpa using h) (fun i b y hb hy => hh (i + 1) b y (by simpa using hb) (by simpa using hy))
    simp only [wTrs, stepsTrs, uptoBulkAll]; omega
def RR (d : DataW H) (t : Tr) (x : IV) : Prop := IsTr t x ∧ wTr t + t.steps ≤ 2 * uptoBulk d
theorem RR.cells {d : DataW H} {t : Tr} {x : IV} (h : RR d t x) : x.cells.length = 12 := by
  obtain ⟨_, _, _, _, _, _, _, _, _, _, _, _, _, _, _, _, _, _, rfl⟩ := trAgg h.1; rfl
theorem trees_of {fuel : Nat} {cs : List Value} {y : DataW H × List MemPlace} (h : DataW.trod enc prog w 0 spare held fuel 30 cs = some y) (hb : uptoBulk y.1 ≤ 1048576)
    (IH : ∀ (n : Nat), n < fuel → ∀ (cs : List Value) (y : DataW H × List MemPlace), DataW.trod enc prog w 0 spare held n 32 cs = some y → uptoBulk y.1 ≤ 1048576 → ∃ t x, VL 0 (L0 w) w cs x.cells ∧ RR y.1 t x) :
    ∃ v tg xs ts, cs = [v] ∧ V 0 (L0 w) w v (.sl tg xs) ∧ okEs tg 12 ∧ IsTrs ts xs ∧ wTrs ts + stepsTrs ts + 1 ≤ 2 * uptoBulk y.1 := by
  obtain ⟨v, tg, xs, ts, rfl, hv, htg, hl, hc⟩ := open_sl (H := H) (P := prog) (d := y.1) (p := y.2) RR uTrees nTree (by decide) h (fun elems sp e => by
      have := slice_le elems sp; have := length_le elems; rw [← e] at *; omega) (fun d t x h => h.cells) (fun n hn cs' z q ⟨elems, sp, he, hm⟩ hz => by
      have := slice_le elems sp
      have := part_le hm
      rw [he] at hb
      exact IH n (by omega) cs' (z, q) hz (show uptoBulk z ≤ 1048576 by omega))
  refine ⟨v, tg, xs, ts, rfl, hv, htg, ?_⟩
  rcases hc with ⟨hd, rfl⟩ | ⟨elems, sp, hd, hel, hr⟩
  · obtain rfl : ts = [] := List.length_eq_zero_iff.1 (by simpa using hl)
    exact ⟨rfl, by rw [hd]; simp [wTrs, stepsTrs, uptoBulk]⟩
  · have hi : ∀ (i : Nat) (a : Tr), ts[i]? = some a → ∃ x d, xs[i]? = some x ∧ elems[i]? = some d ∧ RR d a x := fun i a ha => by
      have hi := (List.getElem?_eq_some_iff.1 ha).1
      exact ⟨_, _, List.getElem?_eq_getElem (by omega), List.getElem?_eq_getElem (by omega), hr i _ _ _ (List.getElem?_eq_getElem (by omega)) ha (List.getElem?_eq_getElem (by omega))⟩
    refine ⟨isTrs_get hl (fun i a x ha hx => ?_), ?_⟩
    · obtain ⟨x', d, h1, h2, h3⟩ := hi i a ha
      rw [hx] at h1; cases h1
      exact h3.1
    · have := wTrs_sum (us := ts) (ds := elems) (by omega) (fun i a d ha hd' => by
        obtain ⟨x', d', h1, h2, h3⟩ := hi i a ha
        rw [hd'] at h2; cases h2
        exact h3.2)
      have := slice_le elems sp
      rw [hd]
      omega
theorem cs12 {cs : List Value} (h : cs.length = 12) : ∃ a b c d e f g h i j k l, cs = [a, b, c, d, e, f, g, h, i, j, k, l] := by
  match cs, h with
  | [a, b, c, d, e, f, g, h, i, j, k, l], _ => exact ⟨a, b, c, d, e, f, g, h, i, j, k, l, rfl⟩
theorem tree_of : ∀ (fuel : Nat) (cs : List Value) (y : DataW H × List MemPlace), DataW.trod enc prog w 0 spare held fuel 32 cs = some y → uptoBulk y.1 ≤ 1048576 → ∃ t x, VL 0 (L0 w) w cs x.cells ∧ RR y.1 t x := by
  intro fuel
  induction fuel using Nat.strongRecOn with
  | ind fuel IH =>
    intro cs y h hb
    obtain ⟨ys, n, rfl, rfl, hl, hlen, hf⟩ := DataW.trod_struct uTree h
    match ys, hlen with
    | [y0, y1, y2, y3, y4, y5], _ =>
      rw [nTree] at hl
      obtain ⟨c0, c1, c2, c3, c4, c5, c6, c7, c8, c9, c10, c11, rfl⟩ := cs12 hl
      have h0 := hf 0 _ rfl
      have h1 := hf 1 _ rfl
      have h2 := hf 2 _ rfl
      have h3 := hf 3 _ rfl
      have h4 := hf 4 _ rfl
      have h5 := hf 5 _ rfl
      simp only [nU8, nString, nSeq, nForm, nTerm, nTrees, List.drop_zero, List.drop_succ_cons, List.take_succ_cons, List.take_zero, List.getElem?_cons_zero, List.getElem?_cons_succ] at h0 h1 h2 h3 h4 h5
      simp only [List.map_cons, List.map_nil, uptoBulk, uptoBulkAll] at hb
      obtain ⟨op, e0, rfl, hop⟩ := DataW.trod_int uU8 h0
      obtain ⟨s, xs, hvs, hs1, hs2⟩ := seq_of n _ _ h1 (by omega)
      obtain ⟨f, xf, hvf, hf1, hf2⟩ := form_of n _ _ h2 (by omega)
      obtain ⟨t, xt, hvt, ht1, ht2⟩ := term_of n _ _ h3 (by omega)
      obtain ⟨nm, e4, hn, hn2⟩ := str_of h4 (by omega)
      obtain ⟨v, tg, xb, ts, e5, hv, htg, hts, hbk⟩ := trees_of h5 (by omega) (fun m hm => IH m (by omega))
      cases e0; cases e4; cases e5
      have hop : 0 ≤ op ∧ op < 256 := by
        simp only [Lit.wf, IntKind.min, IntKind.max, IntKind.signed, IntKind.bits, Bool.and_eq_true, decide_eq_true_eq] at hop
        exact ⟨of_decide_eq_true hop.1, by have := of_decide_eq_true hop.2; simp at this; omega⟩
      obtain ⟨k, rfl⟩ := Int.eq_ofNat_of_zero_le hop.1
      obtain ⟨tl, xl, tr, xr, rfl, k1, k2, k3, k4⟩ := hs1
      have hf0 := hf1
      have ht0 := ht1
      obtain ⟨o, fn, us, sub⟩ := f
      obtain ⟨ta, xa, tb, xb', rfl, _⟩ := hf1.mk
      obtain ⟨b, un, uu⟩ := t
      obtain ⟨tu, xu, rfl, _⟩ := ht1.mk
      refine ⟨.mk k s (.mk o fn us sub) (.mk b un uu) nm ts, .agg [.raw (.int .u8 k), .sl tl xl, .sl tr xr, .raw (.int .u8 o), .raw (.string fn), .sl ta xa, .sl tb xb', .raw (.bool b), .raw (.string un), .sl tu xu, .raw (.string nm), .sl tg xb],
        VL.cons (.raw _ trivial) (hvs.append (hvf.append (hvt.append (VL.cons hn (VL.cons hv VL.nil))))), ?_, ?_⟩
      · simp only [IsTr]
        exact ⟨tl, xl, tr, xr, o, fn, ta, xa, tb, xb', b, un, tu, xu, tg, xb, rfl, by omega, k1, k2, k3, k4, hf0, ht0, htg, hts⟩
      · have := wFm_bulk (.mk o fn us sub)
        have := wTm_bulk (.mk b un uu)
        simp only [List.map_cons, List.map_nil, uptoBulk, uptoBulkAll, wTr, Tr.steps]
        omega
end
end Go.Proofs.Tryz
