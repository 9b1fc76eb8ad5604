/- Walks: the rows of a calculus; what a rule with a row adds. -/
import Derived.Test.YtckafgnkmnichaaGreatDoorQB
set_option linter.all false
namespace Go.Proofs.Tryz
open Go Go.Iv
set_option maxRecDepth 4000
open Nat renaming reduceEqDiff → zE,reduceBEq → zB,reduceAdd → zA,reduceMul → zM,reduceSub → zS,reduceLeDiff → zL
attribute [local go_sem] cf setAt List.all_cons List.all_nil Bool.and_self Bool.true_and Bool.and_true Bool.false_and Bool.and_false Bool.not_true Bool.not_false List.mem_nil_iff if_false if_true beq_self_eq_true Nat.zero_add Nat.add_zero List.getElem?_cons_zero List.getElem?_cons_succ Option.map_some List.mem_cons or_false false_or or_true true_or Nat.sub_zero forall_const Int.toNat_natCast List.length_cons List.length_nil List.map_cons List.map_nil List.take_succ_cons List.take_zero List.drop_zero List.drop_succ_cons List.cons_append List.nil_append List.append_nil and_true true_and and_self true_implies List.zip_cons_cons List.zip_nil_left
variable (gl:Nat → Option IV)

theorem findI_u8 (a b:Int) (v:IV):∀ es:List (Value × IV),findI (.int .u8 a) (updI (.int .u8 b) v es) = if a = b then some v else findI (.int .u8 a) es
  | [] => by
    simp only [updI,findI,keyEq]
    by_cases h:a = b <;> simp [h]
  | (x,u) :: es => by
    simp only [updI]
    by_cases hk:keyEq (.int .u8 b) x = true
    · rw [if_pos hk]
      have hx:∀ c,keyEq (.int .u8 c) x = decide (c = b):=fun c => by
        cases x <;> simp [keyEq] at hk ⊢
        rw [hk]
      have e:keyEq (.int .u8 a) (.int .u8 b) = decide (a = b):=rfl
      simp only [findI,e,hx]
      by_cases h:a = b <;> simp [h]
    · rw [if_neg hk]
      simp only [findI]
      rw [findI_u8 a b v es]
      by_cases h:a = b
      · subst h; simp [hk]
      · simp [h]
def addId (ca rule:Nat):Nat :=
  if ca = 2 ∧ rule = 18 then 149 else if ca = 2 ∧ rule = 8 then 147
  else if rule = 13 ∨ rule = 15 then 150 else if rule = 14 ∨ rule = 16 then 152
  else if rule = 1 then 204 else if rule = 2 then 205 else if rule = 3 then 206 else if rule = 4 then 207
  else if rule = 5 then 208 else if rule = 6 then 209 else if rule = 7 then 210 else if rule = 8 then 211
  else if rule = 9 then 212 else if rule = 10 then 213 else if rule = 11 then 214 else if rule = 12 then 216
  else 217
def rwI (ca rule:Nat) (r:Rw):IV:=.agg [.raw (.bool r.left),.raw (.bool r.right),.raw (.int .u8 r.op),.raw (.int .u8 r.asks),.fn (.func (addId ca rule)) [] []]
def rwL (a b:Bool) (op asks id:Nat):IV:=.agg [.raw (.bool a),.raw (.bool b),.raw (.int .u8 op),.raw (.int .u8 asks),.fn (.func id) [] []]
def plainE:List (Value × IV) :=
  updI (.int .u8 17) (rwL false false 0 0 217) <| updI (.int .u8 12) (rwL false true 7 0 216) <| updI (.int .u8 11) (rwL true false 7 0 214) <|
  updI (.int .u8 10) (rwL false true 6 0 213) <| updI (.int .u8 9) (rwL true false 6 0 212) <| updI (.int .u8 8) (rwL false true 5 0 211) <|
  updI (.int .u8 7) (rwL true false 5 0 210) <| updI (.int .u8 6) (rwL false true 4 0 209) <| updI (.int .u8 5) (rwL true false 4 0 208) <|
  updI (.int .u8 4) (rwL false true 3 0 207) <| updI (.int .u8 3) (rwL true false 3 0 206) <| updI (.int .u8 2) (rwL true false 2 0 205) <|
  updI (.int .u8 1) (rwL true true 0 0 204) []
def rulesE (ca:Nat):List (Value × IV) :=
  if ca = 2 then updI (.int .u8 18) (rwL false true 5 0 149) <| updI (.int .u8 8) (rwL false true 5 0 147) plainE
  else if ca = 3 then updI (.int .u8 16) (rwL false true 9 1 152) <| updI (.int .u8 15) (rwL true false 9 2 150) <| updI (.int .u8 14) (rwL false true 8 2 152) <|
    updI (.int .u8 13) (rwL true false 8 1 150) plainE
  else plainE
theorem plain_c (st:ISt):ICall prog gl 146 [] st (fun r st' => ∃ b,st b = none ∧ r = .raw (.map (some b)) ∧ st' = st.put b (some (.map (.int .u8) plainE))):=by
  refine ICall.intro (c:=cf prog gl [] []) func146 rfl (by show _ ≤ 16; simp) (by kernel_rfl) ?_
  simp -implicitDefEqProofs -dsimp only [go_sem,↓reduceIte,zE,zB,zA,zM,zS,zL,reduceCtorEq,fits]
  refine fun b => giv_intro fun hb => ?_
  simp -implicitDefEqProofs -dsimp only [go_sem,↓reduceIte,zE,zB,zA,zM,zS,zL,reduceCtorEq,fits,put_put_same]
  exact outK_self ⟨b,hb,rfl,rfl⟩
theorem rules_c (ca:Nat) (st:ISt):ICall prog gl 98 [.raw (.int .u8 ca)] st (fun r st' => ∃ b,st b = none ∧ r = .raw (.map (some b)) ∧ st' = st.put b (some (.map (.int .u8) (rulesE ca)))):=by
  refine ICall.intro (c:=cf prog gl [] []) func98 rfl (by show _ ≤ 29; simp) (by kernel_rfl) ?_
  simp -implicitDefEqProofs -dsimp only [go_sem,↓reduceIte,zE,zB,zA,zM,zS,zL,reduceCtorEq]
  refine (plain_c gl _).mono ?_
  rintro _ _ ⟨b,hb,rfl,rfl⟩
  by_cases h2:ca = 2
  · have e2:decide ((ca:Int) = 2) = true:=decide_eq_true (by omega)
    simp -implicitDefEqProofs -dsimp only [go_sem,↓reduceIte,zE,zB,zA,zM,zS,zL,reduceCtorEq,e2,fits,ISt.put_same,put_put_same]
    exact outK_self ⟨b,hb,rfl,by rw [rulesE,if_pos h2]; rfl⟩
  · have e2:decide ((ca:Int) = 2) = false:=decide_eq_false (by omega)
    by_cases h3:ca = 3
    · have e3:decide ((ca:Int) = 3) = true:=decide_eq_true (by omega)
      simp -implicitDefEqProofs -dsimp only [go_sem,↓reduceIte,zE,zB,zA,zM,zS,zL,reduceCtorEq,e2,e3,fits,ISt.put_same,put_put_same]
      exact outK_self ⟨b,hb,rfl,by rw [rulesE,if_neg h2,if_pos h3]; rfl⟩
    · have e3:decide ((ca:Int) = 3) = false:=decide_eq_false (by omega)
      simp -implicitDefEqProofs -dsimp only [go_sem,↓reduceIte,zE,zB,zA,zM,zS,zL,reduceCtorEq,e2,e3]
      exact outK_self ⟨b,hb,rfl,by rw [rulesE,if_neg h2,if_neg h3]⟩
theorem plainE_find (rule:Nat):findI (.int .u8 rule) plainE = (rowK rule).map fun r => .agg [.raw (.bool r.left),.raw (.bool r.right),.raw (.int .u8 r.op),.raw (.int .u8 r.asks),.fn (.func (addId 1 rule)) [] []]:=by
  unfold plainE
  simp only [findI_u8]
  by_cases h:rule ≤ 18
  · rcases (show rule = 0 ∨ rule = 1 ∨ rule = 2 ∨ rule = 3 ∨ rule = 4 ∨ rule = 5 ∨ rule = 6 ∨ rule = 7 ∨ rule = 8 ∨ rule = 9 ∨ rule = 10 ∨ rule = 11 ∨ rule = 12 ∨ rule = 13 ∨ rule = 14 ∨ rule = 15 ∨ rule = 16 ∨ rule = 17 ∨ rule = 18 by omega) with
      rfl | rfl | rfl | rfl | rfl | rfl | rfl | rfl | rfl | rfl | rfl | rfl | rfl | rfl | rfl | rfl | rfl | rfl | rfl <;> rfl
  · have hn:rowK rule = none:=by unfold rowK; repeat (rw [if_neg (by omega)])
    rw [hn]
    repeat (rw [if_neg (by omega)])
    rfl
theorem rulesE_find (ca rule:Nat):findI (.int .u8 rule) (rulesE ca) = (rowS ca rule).map (rwI ca rule):=by
  have hp:=plainE_find rule
  by_cases h:rule ≤ 18
  · have hr:rule = 0 ∨ rule = 1 ∨ rule = 2 ∨ rule = 3 ∨ rule = 4 ∨ rule = 5 ∨ rule = 6 ∨ rule = 7 ∨ rule = 8 ∨ rule = 9 ∨ rule = 10 ∨ rule = 11 ∨ rule = 12 ∨ rule = 13 ∨ rule = 14 ∨ rule = 15 ∨ rule = 16 ∨ rule = 17 ∨ rule = 18:=by omega
    by_cases h2:ca = 2
    · subst h2
      simp only [rulesE,if_true,findI_u8,hp]
      rcases hr with rfl | rfl | rfl | rfl | rfl | rfl | rfl | rfl | rfl | rfl | rfl | rfl | rfl | rfl | rfl | rfl | rfl | rfl | rfl <;> rfl
    · by_cases h3:ca = 3
      · subst h3
        simp only [rulesE,if_true,if_neg h2,findI_u8,hp]
        rcases hr with rfl | rfl | rfl | rfl | rfl | rfl | rfl | rfl | rfl | rfl | rfl | rfl | rfl | rfl | rfl | rfl | rfl | rfl | rfl <;> rfl
      · have hk:rowS ca rule = rowK rule:=by
          unfold rowS; rw [if_neg (by omega),if_neg (by omega),if_neg (by omega),if_neg (by omega),if_neg (by omega)]
        have hi:∀ r,rowK rule = some r → addId 1 rule = addId ca rule:=fun _ _ => by
          unfold addId
          rw [if_neg (by omega),if_neg (by omega)]
          conv => rhs; rw [if_neg (by omega),if_neg (by omega)]
        simp only [rulesE,if_neg h2,if_neg h3,hp,hk]
        cases hq:rowK rule with
        | none => rfl
        | some r => simp only [Option.map_some,rwI,hi r hq]
  · have hn:rowS ca rule = none:=by
      unfold rowS
      rw [if_neg (by omega),if_neg (by omega),if_neg (by omega),if_neg (by omega),if_neg (by omega)]
      unfold rowK; repeat (rw [if_neg (by omega)])
    have hk:rowK rule = none:=by unfold rowK; repeat (rw [if_neg (by omega)])
    rw [hk] at hp
    rw [hn]
    unfold rulesE
    split
    · simp only [findI_u8,hp]; repeat (rw [if_neg (by omega)])
      rfl
    · split
      · simp only [findI_u8,hp]; repeat (rw [if_neg (by omega)])
        rfl
      · rw [hp]; rfl
theorem addOk_of {ca rule:Nat} {r:Rw} (h:rowS ca rule = some r):AddOk gl (addId ca rule) (addS ca rule) ∧ entI prog (addId ca rule) = true:=by
  have hr:rule ≤ 18:=by
    refine Classical.byContradiction fun hc => ?_
    have hn:rowS ca rule = none:=by
      unfold rowS
      rw [if_neg (by omega),if_neg (by omega),if_neg (by omega),if_neg (by omega),if_neg (by omega)]
      unfold rowK; repeat (rw [if_neg (by omega)])
    rw [hn] at h; cases h
  have hcas:rule = 0 ∨ rule = 1 ∨ rule = 2 ∨ rule = 3 ∨ rule = 4 ∨ rule = 5 ∨ rule = 6 ∨ rule = 7 ∨ rule = 8 ∨ rule = 9 ∨ rule = 10 ∨ rule = 11 ∨ rule = 12 ∨ rule = 13 ∨ rule = 14 ∨ rule = 15 ∨ rule = 16 ∨ rule = 17 ∨ rule = 18:=by omega
  by_cases h2:ca = 2
  · subst h2
    rcases hcas with rfl | rfl | rfl | rfl | rfl | rfl | rfl | rfl | rfl | rfl | rfl | rfl | rfl | rfl | rfl | rfl | rfl | rfl | rfl
    all_goals first | (cases h; done) | exact ⟨add1_c gl,by kernel_rfl⟩ | exact ⟨add2_c gl,by kernel_rfl⟩ | exact ⟨add3_c gl,by kernel_rfl⟩ | exact ⟨add4_c gl,by kernel_rfl⟩ | exact ⟨add5_c gl,by kernel_rfl⟩ | exact ⟨add6_c gl,by kernel_rfl⟩ | exact ⟨add7_c gl,by kernel_rfl⟩ | exact ⟨add8_c gl,by kernel_rfl⟩ | exact ⟨add8j_c gl,by kernel_rfl⟩ | exact ⟨add9_c gl,by kernel_rfl⟩ | exact ⟨add10_c gl,by kernel_rfl⟩ | exact ⟨add11_c gl,by kernel_rfl⟩ | exact ⟨add12_c gl,by kernel_rfl⟩ | exact ⟨add17_c gl,by kernel_rfl⟩ | exact ⟨add18_c gl,by kernel_rfl⟩ | exact ⟨addL_c gl,by kernel_rfl⟩ | exact ⟨addR_c gl,by kernel_rfl⟩
  · by_cases h3:ca = 3
    · subst h3
      rcases hcas with rfl | rfl | rfl | rfl | rfl | rfl | rfl | rfl | rfl | rfl | rfl | rfl | rfl | rfl | rfl | rfl | rfl | rfl | rfl
      all_goals first | (cases h; done) | exact ⟨add1_c gl,by kernel_rfl⟩ | exact ⟨add2_c gl,by kernel_rfl⟩ | exact ⟨add3_c gl,by kernel_rfl⟩ | exact ⟨add4_c gl,by kernel_rfl⟩ | exact ⟨add5_c gl,by kernel_rfl⟩ | exact ⟨add6_c gl,by kernel_rfl⟩ | exact ⟨add7_c gl,by kernel_rfl⟩ | exact ⟨add8_c gl,by kernel_rfl⟩ | exact ⟨add8j_c gl,by kernel_rfl⟩ | exact ⟨add9_c gl,by kernel_rfl⟩ | exact ⟨add10_c gl,by kernel_rfl⟩ | exact ⟨add11_c gl,by kernel_rfl⟩ | exact ⟨add12_c gl,by kernel_rfl⟩ | exact ⟨add17_c gl,by kernel_rfl⟩ | exact ⟨add18_c gl,by kernel_rfl⟩ | exact ⟨addL_c gl,by kernel_rfl⟩ | exact ⟨addR_c gl,by kernel_rfl⟩
    · have hk:rowS ca rule = rowS 1 rule:=by
        unfold rowS
        rw [if_neg (by omega),if_neg (by omega),if_neg (by omega),if_neg (by omega),if_neg (by omega)]
        conv => rhs; rw [if_neg (by omega),if_neg (by omega),if_neg (by omega),if_neg (by omega),if_neg (by omega)]
      have hi:addId ca rule = addId 1 rule:=by
        unfold addId
        rw [if_neg (by omega),if_neg (by omega)]
        conv => rhs; rw [if_neg (by omega),if_neg (by omega)]
      have hs:addS ca rule = addS 1 rule:=by
        funext m a b
        unfold addS
        rw [if_neg h2,if_neg (show ¬ (1:Nat) = 2 by decide)]
      rw [hk] at h
      rw [hi,hs]
      rcases hcas with rfl | rfl | rfl | rfl | rfl | rfl | rfl | rfl | rfl | rfl | rfl | rfl | rfl | rfl | rfl | rfl | rfl | rfl | rfl
      all_goals first | (cases h; done) | exact ⟨add1_c gl,by kernel_rfl⟩ | exact ⟨add2_c gl,by kernel_rfl⟩ | exact ⟨add3_c gl,by kernel_rfl⟩ | exact ⟨add4_c gl,by kernel_rfl⟩ | exact ⟨add5_c gl,by kernel_rfl⟩ | exact ⟨add6_c gl,by kernel_rfl⟩ | exact ⟨add7_c gl,by kernel_rfl⟩ | exact ⟨add8_c gl,by kernel_rfl⟩ | exact ⟨add8j_c gl,by kernel_rfl⟩ | exact ⟨add9_c gl,by kernel_rfl⟩ | exact ⟨add10_c gl,by kernel_rfl⟩ | exact ⟨add11_c gl,by kernel_rfl⟩ | exact ⟨add12_c gl,by kernel_rfl⟩ | exact ⟨add17_c gl,by kernel_rfl⟩ | exact ⟨add18_c gl,by kernel_rfl⟩ | exact ⟨addL_c gl,by kernel_rfl⟩ | exact ⟨addR_c gl,by kernel_rfl⟩
end Go.Proofs.Tryz
