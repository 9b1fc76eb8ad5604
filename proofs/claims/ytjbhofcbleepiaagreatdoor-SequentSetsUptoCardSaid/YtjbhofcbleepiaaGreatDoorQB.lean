/- Walks: the rows of a calculus; what a ru -/
import Derived.Test.YtjbhofcbleepiaaGreatDoorQA
import Derived.Test.YtjbhofcbleepiaaGreatDoorJY
import Derived.Test.YtjbhofcbleepiaaGreatDoorKD
set_option linter.all false
namespace Go.Proofs.Tryz
open Go Go.Iv
set_option maxRecDepth 4000
variable (gl:Nat → Option IV)
theorem yGh (a b:Int) (v:IV):∀ es:List (Value × IV),yKv (.int .u8 a) (updI (.int .u8 b) v es) = if a = b then some v else yKv (.int .u8 a) es
 | [] => by
  simp only [updI,yKv,yYq]
  by_cases h:a = b <;> simp [h]
 | (x,u) :: es => by
  simp only [updI]
  by_cases hk:yYq (.int .u8 b) x = true
  ·rw [if_pos hk]
   have hx:∀ c,yYq (.int .u8 c) x = decide (c = b):=fun c => by
    cases x <;> simp [yYq] at hk ⊢
    rw [hk]
   have e:yYq (.int .u8 a) (.int .u8 b) = decide (a = b):=rfl
   simp only [yKv,e,hx]
   by_cases h:a = b <;> simp [h]
  ·rw [if_neg hk]
   simp only [yKv]
   rw [yGh a b v es]
   by_cases h:a = b
   ·subst h; simp [hk]
   ·simp [h]
def zV9 (ca rule:Nat):Nat :=
 if ca = 2 ∧ rule = 18 then 148 else if ca = 2 ∧ rule = 8 then 146
 else if rule = 13 ∨ rule = 15 then 149 else if rule = 14 ∨ rule = 16 then 151
 else if rule = 1 then 196 else if rule = 2 then 197 else if rule = 3 then 198 else if rule = 4 then 199
 else if rule = 5 then 200 else if rule = 6 then 201 else if rule = 7 then 202 else if rule = 8 then 203
 else if rule = 9 then 204 else if rule = 10 then 205 else if rule = 11 then 206 else if rule = 12 then 208
 else 209
def rwI (ca rule:Nat) (r:Rw):IV:=.agg [.raw (.bool r.left),.raw (.bool r.right),.raw (.int .u8 r.op),.raw (.int .u8 r.asks),.fn (.func (zV9 ca rule)) [] []]
def rwL (a b:Bool) (op asks id:Nat):IV:=.agg [.raw (.bool a),.raw (.bool b),.raw (.int .u8 op),.raw (.int .u8 asks),.fn (.func id) [] []]
def zVu:List (Value × IV) :=
 updI (.int .u8 17) (rwL false false 0 0 209) <| updI (.int .u8 12) (rwL false true 7 0 208) <| updI (.int .u8 11) (rwL true false 7 0 206) <|
 updI (.int .u8 10) (rwL false true 6 0 205) <| updI (.int .u8 9) (rwL true false 6 0 204) <| updI (.int .u8 8) (rwL false true 5 0 203) <|
 updI (.int .u8 7) (rwL true false 5 0 202) <| updI (.int .u8 6) (rwL false true 4 0 201) <| updI (.int .u8 5) (rwL true false 4 0 200) <|
 updI (.int .u8 4) (rwL false true 3 0 199) <| updI (.int .u8 3) (rwL true false 3 0 198) <| updI (.int .u8 2) (rwL true false 2 0 197) <|
 updI (.int .u8 1) (rwL true true 0 0 196) []
def yUx (ca:Nat):List (Value × IV) :=
 if ca = 2 then updI (.int .u8 18) (rwL false true 5 0 148) <| updI (.int .u8 8) (rwL false true 5 0 146) zVu
 else if ca = 3 then updI (.int .u8 16) (rwL false true 9 1 151) <| updI (.int .u8 15) (rwL true false 9 2 149) <| updI (.int .u8 14) (rwL false true 8 2 151) <|
  updI (.int .u8 13) (rwL true false 8 1 149) zVu
 else zVu
theorem wY1 (st:ISt):ICall prog gl 145 [] st (fun r st' => ∃ b,st b = none ∧ r = .raw (.map (some b)) ∧ st' = st.put b (some (.map (.int .u8) zVu))):=by
 refine iI func145 rfl rfl (by kernel_rfl) ?_
 simp -implicitDefEqProofs -dsimp only [go_sem,fits]
 refine fun b => yQh fun hb => ?_
 simp -implicitDefEqProofs -dsimp only [go_sem,fits,yQd]
 exact yQ0 ⟨b,hb,rfl,rfl⟩
theorem wWo (ca:Nat) (st:ISt):ICall prog gl 102 [.raw (.int .u8 ca)] st (fun r st' => ∃ b,st b = none ∧ r = .raw (.map (some b)) ∧ st' = st.put b (some (.map (.int .u8) (yUx ca)))):=by
 refine iI func102 rfl rfl (by kernel_rfl) ?_
 simp -implicitDefEqProofs -dsimp only [go_sem]
 refine (wY1 gl _).mono ?_
 rintro _ _ ⟨b,hb,rfl,rfl⟩
 by_cases h2:ca = 2
 ·have e2:decide ((ca:Int) = 2) = true:=dEt (by omega)
  simp -implicitDefEqProofs -dsimp only [go_sem,e2,fits,ISt.put_same,yQd]
  exact yQ0 ⟨b,hb,rfl,by rw [yUx,if_pos h2]; rfl⟩
 ·have e2:decide ((ca:Int) = 2) = false:=dEf (by omega)
  by_cases h3:ca = 3
  ·have e3:decide ((ca:Int) = 3) = true:=dEt (by omega)
   simp -implicitDefEqProofs -dsimp only [go_sem,e2,e3,fits,ISt.put_same,yQd]
   exact yQ0 ⟨b,hb,rfl,by rw [yUx,if_neg h2,if_pos h3]; rfl⟩
  ·have e3:decide ((ca:Int) = 3) = false:=dEf (by omega)
   simp -implicitDefEqProofs -dsimp only [go_sem,e2,e3]
   exact yQ0 ⟨b,hb,rfl,by rw [yUx,if_neg h2,if_neg h3]⟩
theorem xX8 (rule:Nat):yKv (.int .u8 rule) zVu = (rowK rule).map fun r => .agg [.raw (.bool r.left),.raw (.bool r.right),.raw (.int .u8 r.op),.raw (.int .u8 r.asks),.fn (.func (zV9 1 rule)) [] []]:=by
 unfold zVu
 simp only [yGh]
 by_cases h:rule ≤ 18
 ·rcases (show rule = 0 ∨ rule = 1 ∨ rule = 2 ∨ rule = 3 ∨ rule = 4 ∨ rule = 5 ∨ rule = 6 ∨ rule = 7 ∨ rule = 8 ∨ rule = 9 ∨ rule = 10 ∨ rule = 11 ∨ rule = 12 ∨ rule = 13 ∨ rule = 14 ∨ rule = 15 ∨ rule = 16 ∨ rule = 17 ∨ rule = 18 by omega) with
   rfl | rfl | rfl | rfl | rfl | rfl | rfl | rfl | rfl | rfl | rfl | rfl | rfl | rfl | rfl | rfl | rfl | rfl | rfl <;> rfl
 ·have hn:rowK rule = none:=by unfold rowK; repeat (rw [if_neg (by omega)])
  rw [hn]
  repeat (rw [if_neg (by omega)])
  rfl
theorem zJ8 (ca rule:Nat):yKv (.int .u8 rule) (yUx ca) = (rowS ca rule).map (rwI ca rule):=by
 have hp:=xX8 rule
 by_cases h:rule ≤ 18
 ·have hr:rule = 0 ∨ rule = 1 ∨ rule = 2 ∨ rule = 3 ∨ rule = 4 ∨ rule = 5 ∨ rule = 6 ∨ rule = 7 ∨ rule = 8 ∨ rule = 9 ∨ rule = 10 ∨ rule = 11 ∨ rule = 12 ∨ rule = 13 ∨ rule = 14 ∨ rule = 15 ∨ rule = 16 ∨ rule = 17 ∨ rule = 18:=by omega
  by_cases h2:ca = 2
  ·subst h2
   simp only [yUx,if_true,yGh,hp]
   rcases hr with rfl | rfl | rfl | rfl | rfl | rfl | rfl | rfl | rfl | rfl | rfl | rfl | rfl | rfl | rfl | rfl | rfl | rfl | rfl <;> rfl
  ·by_cases h3:ca = 3
   ·subst h3
    simp only [yUx,if_true,if_neg h2,yGh,hp]
    rcases hr with rfl | rfl | rfl | rfl | rfl | rfl | rfl | rfl | rfl | rfl | rfl | rfl | rfl | rfl | rfl | rfl | rfl | rfl | rfl <;> rfl
   ·have hk:rowS ca rule = rowK rule:=by
     unfold rowS; rw [if_neg (by omega),if_neg (by omega),if_neg (by omega),if_neg (by omega),if_neg (by omega)]
    have hi:∀ r,rowK rule = some r → zV9 1 rule = zV9 ca rule:=fun _ _ => by
     unfold zV9
     rw [if_neg (by omega),if_neg (by omega)]
     conv => rhs; rw [if_neg (by omega),if_neg (by omega)]
    simp only [yUx,if_neg h2,if_neg h3,hp,hk]
    cases hq:rowK rule with
    | none => rfl
    | some r => simp only [Option.map_some,rwI,hi r hq]
 ·have hn:rowS ca rule = none:=by
   unfold rowS
   rw [if_neg (by omega),if_neg (by omega),if_neg (by omega),if_neg (by omega),if_neg (by omega)]
   unfold rowK; repeat (rw [if_neg (by omega)])
  have hk:rowK rule = none:=by unfold rowK; repeat (rw [if_neg (by omega)])
  rw [hk] at hp
  rw [hn]
  unfold yUx
  split
  ·simp only [yGh,hp]; repeat (rw [if_neg (by omega)])
   rfl
  ·split
   ·simp only [yGh,hp]; repeat (rw [if_neg (by omega)])
    rfl
   ·rw [hp]; rfl
theorem wK7 {ca rule:Nat} {r:Rw} (h:rowS ca rule = some r):yY5 gl (zV9 ca rule) (addS ca rule) ∧ entI prog (zV9 ca rule) = true:=by
 have hr:rule ≤ 18:=by
  refine Classical.byContradiction fun hc => ?_
  have hn:rowS ca rule = none:=by
   unfold rowS
   rw [if_neg (by omega),if_neg (by omega),if_neg (by omega),if_neg (by omega),if_neg (by omega)]
   unfold rowK; repeat (rw [if_neg (by omega)])
  rw [hn] at h; cases h
 have hcas:rule = 0 ∨ rule = 1 ∨ rule = 2 ∨ rule = 3 ∨ rule = 4 ∨ rule = 5 ∨ rule = 6 ∨ rule = 7 ∨ rule = 8 ∨ rule = 9 ∨ rule = 10 ∨ rule = 11 ∨ rule = 12 ∨ rule = 13 ∨ rule = 14 ∨ rule = 15 ∨ rule = 16 ∨ rule = 17 ∨ rule = 18:=by omega
 by_cases h2:ca = 2
 ·subst h2
  rcases hcas with rfl | rfl | rfl | rfl | rfl | rfl | rfl | rfl | rfl | rfl | rfl | rfl | rfl | rfl | rfl | rfl | rfl | rfl | rfl
  all_goals first | (cases h; done) | exact ⟨wZi gl,by kernel_rfl⟩ | exact ⟨wZh gl,by kernel_rfl⟩ | exact ⟨wZg gl,by kernel_rfl⟩ | exact ⟨wZf gl,by kernel_rfl⟩ | exact ⟨wZe gl,by kernel_rfl⟩ | exact ⟨wZd gl,by kernel_rfl⟩ | exact ⟨wZc gl,by kernel_rfl⟩ | exact ⟨wZb gl,by kernel_rfl⟩ | exact ⟨xJg gl,by kernel_rfl⟩ | exact ⟨wZa gl,by kernel_rfl⟩ | exact ⟨xJl gl,by kernel_rfl⟩ | exact ⟨xJk gl,by kernel_rfl⟩ | exact ⟨xJj gl,by kernel_rfl⟩ | exact ⟨xJi gl,by kernel_rfl⟩ | exact ⟨xJh gl,by kernel_rfl⟩ | exact ⟨wZ9 gl,by kernel_rfl⟩ | exact ⟨wZ8 gl,by kernel_rfl⟩
 ·by_cases h3:ca = 3
  ·subst h3
   rcases hcas with rfl | rfl | rfl | rfl | rfl | rfl | rfl | rfl | rfl | rfl | rfl | rfl | rfl | rfl | rfl | rfl | rfl | rfl | rfl
   all_goals first | (cases h; done) | exact ⟨wZi gl,by kernel_rfl⟩ | exact ⟨wZh gl,by kernel_rfl⟩ | exact ⟨wZg gl,by kernel_rfl⟩ | exact ⟨wZf gl,by kernel_rfl⟩ | exact ⟨wZe gl,by kernel_rfl⟩ | exact ⟨wZd gl,by kernel_rfl⟩ | exact ⟨wZc gl,by kernel_rfl⟩ | exact ⟨wZb gl,by kernel_rfl⟩ | exact ⟨xJg gl,by kernel_rfl⟩ | exact ⟨wZa gl,by kernel_rfl⟩ | exact ⟨xJl gl,by kernel_rfl⟩ | exact ⟨xJk gl,by kernel_rfl⟩ | exact ⟨xJj gl,by kernel_rfl⟩ | exact ⟨xJi gl,by kernel_rfl⟩ | exact ⟨xJh gl,by kernel_rfl⟩ | exact ⟨wZ9 gl,by kernel_rfl⟩ | exact ⟨wZ8 gl,by kernel_rfl⟩
  ·have hk:rowS ca rule = rowS 1 rule:=by
    unfold rowS
    rw [if_neg (by omega),if_neg (by omega),if_neg (by omega),if_neg (by omega),if_neg (by omega)]
    conv => rhs; rw [if_neg (by omega),if_neg (by omega),if_neg (by omega),if_neg (by omega),if_neg (by omega)]
   have hi:zV9 ca rule = zV9 1 rule:=by
    unfold zV9
    rw [if_neg (by omega),if_neg (by omega)]
    conv => rhs; rw [if_neg (by omega),if_neg (by omega)]
   have hs:addS ca rule = addS 1 rule:=by
    funext m a b
    unfold addS
    rw [if_neg h2,if_neg (show ¬ (1:Nat) = 2 by decide)]
   rw [hk] at h
   rw [hi,hs]
   rcases hcas with rfl | rfl | rfl | rfl | rfl | rfl | rfl | rfl | rfl | rfl | rfl | rfl | rfl | rfl | rfl | rfl | rfl | rfl | rfl
   all_goals first | (cases h; done) | exact ⟨wZi gl,by kernel_rfl⟩ | exact ⟨wZh gl,by kernel_rfl⟩ | exact ⟨wZg gl,by kernel_rfl⟩ | exact ⟨wZf gl,by kernel_rfl⟩ | exact ⟨wZe gl,by kernel_rfl⟩ | exact ⟨wZd gl,by kernel_rfl⟩ | exact ⟨wZc gl,by kernel_rfl⟩ | exact ⟨wZb gl,by kernel_rfl⟩ | exact ⟨xJg gl,by kernel_rfl⟩ | exact ⟨wZa gl,by kernel_rfl⟩ | exact ⟨xJl gl,by kernel_rfl⟩ | exact ⟨xJk gl,by kernel_rfl⟩ | exact ⟨xJj gl,by kernel_rfl⟩ | exact ⟨xJi gl,by kernel_rfl⟩ | exact ⟨xJh gl,by kernel_rfl⟩ | exact ⟨wZ9 gl,by kernel_rfl⟩ | exact ⟨wZ8 gl,by kernel_rfl⟩
noncomputable def rB (ca:Nat) (a0 f:Fm):Bool:=fmB ca f && (decide (ca ≠ 2) || eqF f a0)
theorem wV0 (ca:Nat) (a0:Fm):∀ l:List Fm,l.all (rB ca a0) = (l.all (fmB ca) && (decide (ca ≠ 2) || l.all fun f => eqF f a0))
 | [] => by simp
 | f :: l => by
  simp only [List.all_cons,wV0 ca a0 l,rB]
  cases fmB ca f <;> cases l.all (fmB ca) <;> cases decide (ca ≠ 2) <;> simp
theorem xYt (ca:Nat) (s:Sq):yXn ca s = (yJi ca && decide (s.l.length ≤ 64) && decide (s.r.length ≤ 64) && s.l.all (fmB ca) && s.r.all (rB ca (s.r.headD fm0))):=by
 rw [wV0]
 unfold yXn zZ6
 cases s.r with
 | nil => simp
 | cons a l => simp only [List.headD_cons,Bool.and_assoc]
theorem wZk (G:Gl gl) (ca:Nat) (s:Sq) (x:IV) (hx:IsSq s x) (hs:yVd s) (st:ISt):ICall prog gl 31 [.raw (.int .u8 ca),x] st (fun r st' => r = .raw (.bool (yXn ca s)) ∧ st' = st):=by
 obtain ⟨l,r⟩:=s
 obtain ⟨t1,x1,t2,x2,rfl,e1,i1,e2,i2⟩:=hx
 obtain ⟨hl,hr⟩:=hs
 simp only at i1 i2 hl hr
 rw [xYt]
 simp only
 refine iI func31 rfl rfl (by kernel_rfl) ?_
 simp -implicitDefEqProofs -dsimp only [go_sem]
 refine (xXp gl ca _).mono ?_
 rintro _ st ⟨rfl,rfl⟩
 cases hk:yJi ca
 ·simp -implicitDefEqProofs -dsimp only [go_sem]
  exact yQ0 ⟨by simp,rfl⟩
 by_cases h1:l.length ≤ 64
 case neg =>
  have e:decide ((64:Int) < (l.length:Int)) = true:=dEt (by omega)
  simp -implicitDefEqProofs -dsimp only [go_sem,i1.len,e]
  intro _
  exact yQ0 ⟨by simp [h1],rfl⟩
 by_cases h2:r.length ≤ 64
 case neg =>
  have e:decide ((64:Int) < (l.length:Int)) = false:=dEf (by omega)
  have e':decide ((64:Int) < (r.length:Int)) = true:=dEt (by omega)
  simp -implicitDefEqProofs -dsimp only [go_sem,i1.len,i2.len,e,e']
  intro _ _
  exact yQ0 ⟨by simp [h2],rfl⟩
 have e:decide ((64:Int) < (l.length:Int)) = false:=dEf (by omega)
 have e':decide ((64:Int) < (r.length:Int)) = false:=dEf (by omega)
 simp -implicitDefEqProofs -dsimp only [go_sem,i1.len,i2.len,e,e']
 intros
 refine LoopC.ctr l.length (fun k fr st' ds => (l.take k).all (fmB ca) = true ∧ fr 0 = .iv (.raw (.int .u8 ca)) ∧ fr 3 = .box [.sl t1 x1,.sl t2 x2] ∧ fr 25 = .iv (.sl t1 x1) ∧ fr 26 = .iv (.raw (.int .i64 l.length)) ∧ fr 27 = .iv (.raw (.int .i64 k)) ∧ st' = st ∧ ds = []) ?_ ?_ ?_
 ·simp -implicitDefEqProofs -dsimp only [go_sem]
  first | rfl | exact ⟨rfl,rfl⟩
 ·rintro k fr st1 _ hlt ⟨hn,f0,f3,f25,f26,f27,rfl,rfl⟩
  obtain ⟨a,ha⟩:=yQ3 hlt
  obtain ⟨y,hky,hy⟩:=i1.get ha
  have hcall:=zJy gl G ca a y hy (hl a (lMg ha)) st1
  obtain ⟨o5,n5,t5,x5,t6,x6,rfl⟩:=hy.agg
  simp -implicitDefEqProofs -dsimp only [go_sem,f0,f3,f25,f26,f27,lt_i hlt,yQ2 e1,iNn,hky,fits]
  refine hcall.mono ?_
  rintro _ _ ⟨rfl,rfl⟩
  cases hr:fmB ca a
  ·simp -implicitDefEqProofs -dsimp only [go_sem]
   refine yQ0 ⟨?_,rfl⟩
   have:l.all (fmB ca) = false:=List.all_eq_false.2 ⟨a,lMg ha,by simp [hr]⟩
   simp [this]
  ·simp -implicitDefEqProofs -dsimp only [go_sem,f0,f3,f25,f26,f27,yQa hlt (show l.length ≤ 281474976710656 by omega)]
   rw [yQ5 ha,List.all_append,hn]
   simp [hr]
 ·rintro fr st1 _ ⟨hn,f0,f3,f25,f26,f27,rfl,rfl⟩
  rw [lTl] at hn
  simp -implicitDefEqProofs -dsimp only [go_sem,f0,f3,f25,f26,f27,i2.len,yQn (nLi _)]
  intro _
  refine LoopC.ctr r.length (fun k fr st' ds => (r.take k).all (rB ca (r.headD fm0)) = true ∧ fr 0 = .iv (.raw (.int .u8 ca)) ∧ fr 3 = .box [.sl t1 x1,.sl t2 x2] ∧ fr 37 = .iv (.sl t2 x2) ∧ fr 38 = .iv (.raw (.int .i64 r.length)) ∧ fr 39 = .iv (.raw (.int .i64 k)) ∧ st' = st1 ∧ ds = []) ?_ ?_ ?_
  ·simp -implicitDefEqProofs -dsimp only [go_sem,f0,f3]
   first | rfl | exact ⟨rfl,rfl⟩
  ·rintro k fr st2 _ hlt ⟨hm,f0,f3,f37,f38,f39,rfl,rfl⟩
   obtain ⟨a,ha⟩:=yQ3 hlt
   obtain ⟨y,hky,hy⟩:=i2.get ha
   obtain ⟨a0,ha0⟩:=yQ3 (show 0 < r.length by omega)
   obtain ⟨y0,hky0,hy0⟩:=i2.get ha0
   have hd0:r.headD fm0 = a0:=by cases r with | nil => cases ha0 | cons b r => simpa using ha0
   have hcall:=zJy gl G ca a y hy (hr a (lMg ha)) st2
   have heq:=fun st => wQr gl G a a0 y y0 hy hy0 (hr a (lMg ha)) (hr a0 (lMg ha0)) st
   rw [hd0] at hm ⊢
   have hout:rB ca a0 a = false → r.all (rB ca a0) = false:=fun hb => List.all_eq_false.2 ⟨a,lMg ha,by simp [hb]⟩
   have hin:rB ca a0 a = true → (r.take (k + 1)).all (rB ca a0) = true:=fun hb => by
    rw [yQ5 ha,List.all_append,hm]
    simp [hb]
   obtain ⟨o5,n5,t5,x5,t6,x6,rfl⟩:=hy.agg
   obtain ⟨o7,n7,t7,x7,t8,x8,rfl⟩:=hy0.agg
   simp -implicitDefEqProofs -dsimp only [go_sem,f0,f3,f37,f38,f39,lt_i hlt,yQ2 e2,iNn,hky,fits]
   refine hcall.mono ?_
   rintro _ _ ⟨rfl,rfl⟩
   cases hr:fmB ca a
   ·simp -implicitDefEqProofs -dsimp only [go_sem]
    exact yQ0 ⟨by rw [hout (by simp [rB,hr])]; simp,rfl⟩
   by_cases hj:ca = 2
   ·have ej:decide ((ca:Int) = 2) = true:=dEt (by omega)
    simp -implicitDefEqProofs -dsimp only [go_sem,ej,f0,f3,yQ2 e2,hky0,fits,Int.le_refl,Int.toNat_zero]
    refine (heq _).mono ?_
    rintro _ _ ⟨rfl,rfl⟩
    cases hq:eqF a a0
    ·simp -implicitDefEqProofs -dsimp only [go_sem]
     exact yQ0 ⟨by rw [hout (by simp [rB,hj,hq])]; simp,rfl⟩
    ·simp -implicitDefEqProofs -dsimp only [go_sem,f0,f3,f37,f38,f39,yQa hlt (show r.length ≤ 281474976710656 by omega)]
     exact hin (by simp [rB,hr,hq])
   ·have ej:decide ((ca:Int) = 2) = false:=dEf (by omega)
    simp -implicitDefEqProofs -dsimp only [go_sem,ej,f0,f3,f37,f38,f39,yQa hlt (show r.length ≤ 281474976710656 by omega)]
    exact hin (by simp [rB,hr,hj])
  ·rintro fr st2 _ ⟨hm,f0,f3,f37,f38,f39,rfl,rfl⟩
   rw [lTl] at hm
   simp -implicitDefEqProofs -dsimp only [go_sem,f38,f39,yQn (nLi _)]
   exact yQ0 ⟨by rw [hn,hm]; simp [h1,h2],rfl⟩
theorem xYj (tg:Tag) (htg:okEs tg 1) (l:List ByteArray) (s:ByteArray) (st:ISt):ICall prog gl 192 [.sl tg (strI l),.raw (.string s)] st (fun r st' => r = .raw (.bool (memB l s)) ∧ st' = st):=by
 have hidx:ICall prog gl 256 [.sl tg (strI l),.raw (.string s)] st (fun r st' => (∃ n:Int,r = .raw (.int .i64 n) ∧ decide (0 ≤ n) = memB l s) ∧ st' = st):=by
  refine iI func256 rfl rfl (by kernel_rfl) ?_
  simp -implicitDefEqProofs -dsimp only [go_sem,yQi]
  intro _
  refine LoopC.ctr l.length (fun k fr st' ds => memB (l.take k) s = false ∧ fr 0 = .iv (.sl tg (strI l)) ∧ fr 1 = .iv (.raw (.string s)) ∧ fr 7 = .iv (.raw (.int .i64 l.length)) ∧ fr 8 = .iv (.raw (.int .i64 k)) ∧ st' = st ∧ ds = []) ?_ ?_ ?_
  ·simp -implicitDefEqProofs -dsimp only [go_sem]
   exact ⟨rfl,rfl⟩
  ·rintro k fr st1 _ hlt ⟨hn,f0,f1,f7,f8,rfl,rfl⟩
   obtain ⟨a,ha⟩:=yQ3 hlt
   by_cases hr:s = a
   ·subst hr
    simp -implicitDefEqProofs -dsimp only [go_sem,f0,f1,f7,f8,lt_i hlt,yQ2 htg,iNn,yJ2 ha,fits,decide_true]
    refine yQ0 ⟨⟨_,rfl,?_⟩,rfl⟩
    rw [dEt (iNn k)]
    exact (yJd.2 (lMg ha)).symm
   ·simp -implicitDefEqProofs -dsimp only [go_sem,f0,f1,f7,f8,lt_i hlt,yQ2 htg,iNn,yJ2 ha,fits,dEf hr,yQa hlt (show l.length ≤ 281474976710656 by omega)]
    rw [zXb] at hn ⊢
    rw [yQ5 ha,List.mem_append,List.mem_singleton]
    rintro (h | h)
    ·exact hn h
    ·exact hr h
  ·rintro fr st1 _ ⟨hn,f0,f1,f7,f8,rfl,rfl⟩
   rw [lTl] at hn
   simp -implicitDefEqProofs -dsimp only [go_sem,f7,f8,yQn (nLi _)]
   exact yQ0 ⟨⟨_,rfl,by rw [hn]; rfl⟩,rfl⟩
 refine iI func192 rfl rfl (by kernel_rfl) ?_
 simp -implicitDefEqProofs -dsimp only [go_sem]
 refine hidx.mono ?_
 rintro _ _ ⟨⟨n,rfl,hn⟩,rfl⟩
 simp -implicitDefEqProofs -dsimp only [go_sem,hn]
 exact yQ0 ⟨rfl,rfl⟩
theorem wQe (T:Gt gl) (f:Fm) (y:IV) (hy:IsFm f y) (hs:f.size ≤ 1000000) (hf:f.right = true) (s:ByteArray) (st:ISt) :
  ICall prog gl 191 [y,.cptr (.raw (.string s))] st (fun r st' => r = .raw (.bool (memB (frF f) s)) ∧ st' = st):=by
 have h1:=fun st => vJ2 gl T f y hy (by omega) (fun q hq => by have:=wY5 (wVi f (yJp hf).1 q hq); omega) st
 obtain ⟨o5,n5,t5,x5,t6,x6,rfl⟩:=hy.agg
 refine ICall.intro (c:=cf prog gl [] [(1,[0,2,1,3,4])]) func191 rfl (by show _ ≤ 8; simp) (by kernel_rfl) ?_
 simp -implicitDefEqProofs -dsimp only [go_sem,fits]
 refine (h1 _).mono ?_
 rintro _ _ ⟨tg,l,rfl,htg,hl,rfl⟩
 simp -implicitDefEqProofs -dsimp only [go_sem,fits]
 refine (xYj gl tg htg l s _).mono ?_
 rintro _ _ ⟨rfl,rfl⟩
 simp -implicitDefEqProofs -dsimp only [go_sem]
 refine yQ0 ⟨?_,rfl⟩
 have:memB l s = memB (frF f) s:=by
  rw [Bool.eq_iff_iff,yJd,yJd]; exact hl.2 s
 rw [this]
theorem vZe (T:Gt gl) (s:Sq) (x:IV) (hx:IsSq s x) (hs:yVd s) (hr:(∀ f ∈ s.l,f.right = true) ∧ ∀ f ∈ s.r,f.right = true) (n:ByteArray) (st:ISt) :
  ICall prog gl 141 [x,.raw (.string n)] st (fun r st' => r = .raw (.bool (yY0 s n)) ∧ st' = st):=by
 obtain ⟨t1,x1,t2,x2,rfl,e1,i1,e2,i2⟩:=hx
 have h1:=fun st => yVz gl 191 [.cptr (.raw (.string n))] (by simp only [go_sem]) s.l (fun f => memB (frF f) n) (fun a ha y hy st => wQe gl T a y hy (hs.1 a ha) (hr.1 a ha) n st) t1 x1 e1 i1 st
 have h2:=fun st => yVz gl 191 [.cptr (.raw (.string n))] (by simp only [go_sem]) s.r (fun f => memB (frF f) n) (fun a ha y hy st => wQe gl T a y hy (hs.2 a ha) (hr.2 a ha) n st) t2 x2 e2 i2 st
 refine ICall.intro (c:=cf prog gl [] [] [3]) func141 rfl (by show _ ≤ 17; simp) (by kernel_rfl) ?_
 simp -implicitDefEqProofs -dsimp only [go_sem,fits]
 refine (h1 _).mono ?_
 rintro _ _ ⟨rfl,rfl⟩
 cases hq:s.l.any fun f => memB (frF f) n
 ·simp -implicitDefEqProofs -dsimp only [go_sem]
  refine (h2 _).mono ?_
  rintro _ _ ⟨rfl,rfl⟩
  simp -implicitDefEqProofs -dsimp only [go_sem]
  exact yQ0 ⟨by simp [yY0,hq],rfl⟩
 ·simp -implicitDefEqProofs -dsimp only [go_sem]
  exact yQ0 ⟨by simp [yY0,hq],rfl⟩
theorem yZr (f:Fm) (l:Sb):(yZu f l).1.size ≤ 400:=by
 unfold yZu
 split
 ·split
  ·rename_i h
   simp only [bAt,dTe] at h
   exact h.1
  ·show fm0.size ≤ 400
   decide
 ·show fm0.size ≤ 400
  decide
theorem uZf:IsFm fm0 (.agg [.raw (.int .u8 0),.raw (.string ⟨#[]⟩),.sl ⟨true,.nil,0⟩ [],.sl ⟨true,.nil,0⟩ []]):=vZj _ _ (.inl rfl) (.inl rfl)
theorem xJx {sub:List Fm} {xs:List IV} (h:IsFms sub xs) (k:Nat):∃ y,IsFm ((sub[k]?).getD fm0) y ∧ (sub.length ≤ k → y = .agg [.raw (.int .u8 0),.raw (.string ⟨#[]⟩),.sl ⟨true,.nil,0⟩ [],.sl ⟨true,.nil,0⟩ []]) ∧ (k < sub.length → xs[k]? = some y):=by
 by_cases hk:k < sub.length
 ·obtain ⟨a,ha⟩:=yQ3 hk
  obtain ⟨y,hy,hf⟩:=h.get ha
  exact ⟨y,by rw [ha]; exact hf,fun hc => by omega,fun _ => hy⟩
 ·exact ⟨_,by rw [List.getElem?_eq_none (by omega)]; exact uZf,fun _ => rfl,fun hc => absurd hc hk⟩
def AdR (st:ISt) (q:List Sq × Nat) (r:IV) (st':ISt):Prop:=∃ tg xs,r = .tup [.sl tg xs,.raw (.int .i64 q.2)] ∧ okEs tg 2 ∧ IsSqs q.1 xs ∧ st' = st
theorem yQu {o:Nat} {n:ByteArray} {us:List Tm} {sub:List Fm} (h:(Fm.mk o n us sub).size ≤ 1000000) (k:Nat):((sub[k]?).getD fm0).size ≤ 1000000:=by
 cases ha:sub[k]? with
 | none => show fm0.size ≤ 1000000; decide
 | some a =>
  have:=(yQs ha).2
  simp only [Fm.size] at h
  show a.size ≤ 1000000
  omega
theorem yQp {ca rule:Nat} {r:Rw} {main:Fm} {term:Tm} {name:ByteArray} (h:fmB ca main = true) (h':r.op = 0 ∨ main.op = r.op):yKw ca rule r main term name =
  if r.asks = 0 then (addS ca rule main ((main.subs[0]?).getD fm0) ((main.subs[1]?).getD fm0),0)
  else if !(if r.asks = 2 then Tm.mk true name [] else term).ok then ([],193)
  else if (yZu ((main.subs[0]?).getD fm0) [(main.nm,if r.asks = 2 then Tm.mk true name [] else term)]).2 ≠ 0 then ([],193)
  else (addS ca rule main (yZu ((main.subs[0]?).getD fm0) [(main.nm,if r.asks = 2 then Tm.mk true name [] else term)]).1 ((main.subs[1]?).getD fm0),0):=by
 have e:(!fmB ca main || (decide (r.op ≠ 0) && decide (main.op ≠ r.op))) = false:=by
  rw [h]
  rcases h' with h' | h' <;> simp [h']
 simp only [yKw,e,bFt,if_false]
theorem vXs (G:Gl gl) (T:Gt gl) (ca rule:Nat) (r:Rw) (hr:rowS ca rule = some r) (main:Fm) (y:IV) (hy:IsFm main y) (hm:main.size ≤ 1000000) (term:Tm) (z:IV) (hz:IsTm term z) (ht:term.size ≤ 1000000) (name:ByteArray) (st:ISt) :
  ICall prog gl 103 [rwI ca rule r,.raw (.int .u8 ca),y,z,.raw (.string name)] st (AdR st (yKw ca rule r main term name)):=by
 obtain ⟨hadd,hent⟩:=wK7 gl hr
 have hf:=fun st => zJy gl G ca main y hy hm st
 obtain ⟨rl,rr,op,asks⟩:=r
 obtain ⟨o,n,us,sub⟩:=main
 have hy0:=hy
 obtain ⟨t1,x1,t2,x2,rfl,ho,e1,i1,e2,i2⟩:=hy.mk
 obtain ⟨v,un,tz,xz,rfl⟩:∃ v un tz xz,z = .agg [.raw (.bool v),.raw (.string un),.sl tz xz]:=by
  obtain ⟨v,un,us⟩:=term
  obtain ⟨tz,xz,rfl,_⟩:=hz.mk
  exact ⟨_,_,_,_,rfl⟩
 obtain ⟨z1,hz1,hz1n,hz1s⟩:=xJx i2 0
 obtain ⟨z2,hz2,hz2n,hz2s⟩:=xJx i2 1
 have hE:fmB ca (.mk o n us sub) = false → yKw ca rule ⟨rl,rr,op,asks⟩ (.mk o n us sub) term name = ([],192):=fun h => by simp only [yKw,h]; rfl
 refine iI func103 rfl rfl (by kernel_rfl) ?_
 simp -implicitDefEqProofs -dsimp only [go_sem,rwI,fits]
 refine (hf _).mono ?_
 rintro _ _ ⟨rfl,rfl⟩
 cases hfm:fmB ca (.mk o n us sub)
 ·simp -implicitDefEqProofs -dsimp only [go_sem]
  exact yQ0 (by rw [hE hfm]; exact ⟨_,_,rfl,.inl rfl,rfl,rfl⟩)
 by_cases hop:op = 0 ∨ o = op
 case neg =>
  have hq:yKw ca rule ⟨rl,rr,op,asks⟩ (.mk o n us sub) term name = ([],192):=by
   have e:(!fmB ca (.mk o n us sub) || (decide (op ≠ 0) && decide ((Fm.mk o n us sub).op ≠ op))) = true:=by
    simp only [Fm.op,hfm]
    simp only [not_or] at hop
    simp [hop]
   simp only [yKw,e,if_true]
  simp only [not_or] at hop
  have d1:decide ((op:Int) = 0) = false:=dEf (by omega)
  have d2:decide ((o:Int) = (op:Int)) = false:=dEf (by omega)
  simp -implicitDefEqProofs -dsimp only [go_sem,d1,d2,fits]
  exact yQ0 (by rw [hq]; exact ⟨_,_,rfl,.inl rfl,rfl,rfl⟩)
 obtain ⟨dop,hdop⟩:∃ b,decide ((op:Int) = 0) = b:=⟨_,rfl⟩
 have hdo:dop = false → decide ((o:Int) = (op:Int)) = true:=fun h => by
  subst hdop
  have:=of_decide_eq_false h
  exact dEt (by omega)
 have hop0:=hop
 replace hop:(⟨rl,rr,op,asks⟩:Rw).op = 0 ∨ (Fm.mk o n us sub).op = (⟨rl,rr,op,asks⟩:Rw).op:=hop0
 by_cases hl0:0 < sub.length
 ·have l0:decide ((0:Int) < (sub.length:Int)) = true:=dEt (by omega)
  have g0:=hz1s hl0
  obtain ⟨o3,n3,t3,x3,t4,x4,rfl⟩:=hz1.agg
  by_cases hl1:1 < sub.length
  ·have l1:decide ((1:Int) < (sub.length:Int)) = true:=dEt (by omega)
   have g1:=hz2s hl1
   obtain ⟨o5,n5,t5,x5,t6,x6,rfl⟩:=hz2.agg
   cases dop
   ·have hd2:=hdo rfl
    by_cases ha0:asks = 0
    ·have d0:decide ((asks:Int) = 0) = true:=dEt (by omega)
     have hq:=yQp (rule:=rule) (r:=⟨rl,rr,op,asks⟩) (term:=term) (name:=name) hfm hop
     simp only [if_pos ha0,Fm.subs] at hq
     simp -implicitDefEqProofs -dsimp only [go_sem,hdop,hd2,l0,l1,i2.len,g0,g1,yQ2 e2,Int.le_refl,Int.toNat_zero,(show (0:Int) ≤ 1 by decide),(show Int.toNat 1 = 1 from rfl),d0,fits,hent]
     intros
     refine (hadd _ _ _ _ _ _ hy0 hz1 hz2 hm (yQu hm 0) (yQu hm 1) _).mono ?_
     rintro _ _ ⟨tg,xs,rfl,he,hxs,rfl⟩
     simp -implicitDefEqProofs -dsimp only [go_sem]
     exact yQ0 (by rw [hq]; exact ⟨_,_,rfl,he,hxs,rfl⟩)
    ·have d0:decide ((asks:Int) = 0) = false:=dEf (by omega)
     by_cases ha2:asks = 2
     ·have d2:decide ((asks:Int) = 2) = true:=dEt (by omega)
      simp -implicitDefEqProofs -dsimp only [go_sem,hdop,hd2,l0,l1,i2.len,g0,g1,yQ2 e2,Int.le_refl,Int.toNat_zero,(show (0:Int) ≤ 1 by decide),(show Int.toNat 1 = 1 from rfl),d0,d2,fits,hent]
      intros
      refine (yWc gl (Tm.mk true name []) _ (show IsTm (Tm.mk true name []) _ from ⟨_,_,rfl,.inl rfl,rfl⟩) (by show 1 ≤ _; decide) _).mono ?_
      rintro _ _ ⟨rfl,rfl⟩
      cases hk:Tm.ok (Tm.mk true name [])
      ·simp -implicitDefEqProofs -dsimp only [go_sem]
       have hq:=yQp (rule:=rule) (r:=⟨rl,rr,op,asks⟩) (term:=term) (name:=name) hfm hop
       simp only [if_neg ha0,if_pos ha2,hk,Bool.not_false,if_true] at hq
       exact yQ0 (by rw [hq]; exact ⟨_,_,rfl,.inl rfl,rfl,rfl⟩)
      simp -implicitDefEqProofs -dsimp only [go_sem,fits]
      refine (zX7 gl G T _ _ hz1 (yQu hm 0) n (Tm.mk true name []) _ (show IsTm (Tm.mk true name []) _ from ⟨_,_,rfl,.inl rfl,rfl⟩) (by show 1 ≤ _; decide) _).mono ?_
      rintro _ _ ⟨y3,rfl,hy3,rfl⟩
      have hy4:=hy3
      obtain ⟨o8,n8,t8,x8,t9,x9,rfl⟩:=hy3.agg
      by_cases he:(yZu ((sub[0]?).getD fm0) [(n,(Tm.mk true name []))]).2 = 0
      ·have hq:=yQp (rule:=rule) (r:=⟨rl,rr,op,asks⟩) (term:=term) (name:=name) hfm hop
       simp only [if_neg ha0,if_pos ha2,hk,Bool.not_true,bFt,if_false,Fm.subs,Fm.nm,he,ne_eq,nTf] at hq
       simp -implicitDefEqProofs -dsimp only [go_sem,fits,he,hent,show decide (((0:Nat):Int) = 0) = true from rfl]
       refine (hadd _ _ _ _ _ _ hy0 hy4 hz2 hm (Nat.le_trans (yZr _ _) (by decide)) (yQu hm 1) _).mono ?_
       rintro _ _ ⟨tg,xs,rfl,he,hxs,rfl⟩
       simp -implicitDefEqProofs -dsimp only [go_sem]
       exact yQ0 (by rw [hq]; exact ⟨_,_,rfl,he,hxs,rfl⟩)
      ·have hq:=yQp (rule:=rule) (r:=⟨rl,rr,op,asks⟩) (term:=term) (name:=name) hfm hop
       simp only [if_neg ha0,if_pos ha2,hk,Bool.not_true,bFt,if_false,Fm.subs,Fm.nm,ne_eq,he,nFt,if_true] at hq
       have hd:decide (((yZu ((sub[0]?).getD fm0) [(n,(Tm.mk true name []))]).2:Int) = 0) = false:=dEf (by omega)
       simp -implicitDefEqProofs -dsimp only [go_sem,fits,hd]
       exact yQ0 (by rw [hq]; exact ⟨_,_,rfl,.inl rfl,rfl,rfl⟩)
     ·have d2:decide ((asks:Int) = 2) = false:=dEf (by omega)
      simp -implicitDefEqProofs -dsimp only [go_sem,hdop,hd2,l0,l1,i2.len,g0,g1,yQ2 e2,Int.le_refl,Int.toNat_zero,(show (0:Int) ≤ 1 by decide),(show Int.toNat 1 = 1 from rfl),d0,d2,fits,hent]
      intros
      refine (yWc gl term _ hz ht _).mono ?_
      rintro _ _ ⟨rfl,rfl⟩
      cases hk:Tm.ok term
      ·simp -implicitDefEqProofs -dsimp only [go_sem]
       have hq:=yQp (rule:=rule) (r:=⟨rl,rr,op,asks⟩) (term:=term) (name:=name) hfm hop
       simp only [if_neg ha0,if_neg ha2,hk,Bool.not_false,if_true] at hq
       exact yQ0 (by rw [hq]; exact ⟨_,_,rfl,.inl rfl,rfl,rfl⟩)
      simp -implicitDefEqProofs -dsimp only [go_sem,fits]
      refine (zX7 gl G T _ _ hz1 (yQu hm 0) n term _ hz ht _).mono ?_
      rintro _ _ ⟨y3,rfl,hy3,rfl⟩
      have hy4:=hy3
      obtain ⟨o8,n8,t8,x8,t9,x9,rfl⟩:=hy3.agg
      by_cases he:(yZu ((sub[0]?).getD fm0) [(n,term)]).2 = 0
      ·have hq:=yQp (rule:=rule) (r:=⟨rl,rr,op,asks⟩) (term:=term) (name:=name) hfm hop
       simp only [if_neg ha0,if_neg ha2,hk,Bool.not_true,bFt,if_false,Fm.subs,Fm.nm,he,ne_eq,nTf] at hq
       simp -implicitDefEqProofs -dsimp only [go_sem,fits,he,hent,show decide (((0:Nat):Int) = 0) = true from rfl]
       refine (hadd _ _ _ _ _ _ hy0 hy4 hz2 hm (Nat.le_trans (yZr _ _) (by decide)) (yQu hm 1) _).mono ?_
       rintro _ _ ⟨tg,xs,rfl,he,hxs,rfl⟩
       simp -implicitDefEqProofs -dsimp only [go_sem]
       exact yQ0 (by rw [hq]; exact ⟨_,_,rfl,he,hxs,rfl⟩)
      ·have hq:=yQp (rule:=rule) (r:=⟨rl,rr,op,asks⟩) (term:=term) (name:=name) hfm hop
       simp only [if_neg ha0,if_neg ha2,hk,Bool.not_true,bFt,if_false,Fm.subs,Fm.nm,ne_eq,he,nFt,if_true] at hq
       have hd:decide (((yZu ((sub[0]?).getD fm0) [(n,term)]).2:Int) = 0) = false:=dEf (by omega)
       simp -implicitDefEqProofs -dsimp only [go_sem,fits,hd]
       exact yQ0 (by rw [hq]; exact ⟨_,_,rfl,.inl rfl,rfl,rfl⟩)
   ·by_cases ha0:asks = 0
    ·have d0:decide ((asks:Int) = 0) = true:=dEt (by omega)
     have hq:=yQp (rule:=rule) (r:=⟨rl,rr,op,asks⟩) (term:=term) (name:=name) hfm hop
     simp only [if_pos ha0,Fm.subs] at hq
     simp -implicitDefEqProofs -dsimp only [go_sem,hdop,l0,l1,i2.len,g0,g1,yQ2 e2,Int.le_refl,Int.toNat_zero,(show (0:Int) ≤ 1 by decide),(show Int.toNat 1 = 1 from rfl),d0,fits,hent]
     intros
     refine (hadd _ _ _ _ _ _ hy0 hz1 hz2 hm (yQu hm 0) (yQu hm 1) _).mono ?_
     rintro _ _ ⟨tg,xs,rfl,he,hxs,rfl⟩
     simp -implicitDefEqProofs -dsimp only [go_sem]
     exact yQ0 (by rw [hq]; exact ⟨_,_,rfl,he,hxs,rfl⟩)
    ·have d0:decide ((asks:Int) = 0) = false:=dEf (by omega)
     by_cases ha2:asks = 2
     ·have d2:decide ((asks:Int) = 2) = true:=dEt (by omega)
      simp -implicitDefEqProofs -dsimp only [go_sem,hdop,l0,l1,i2.len,g0,g1,yQ2 e2,Int.le_refl,Int.toNat_zero,(show (0:Int) ≤ 1 by decide),(show Int.toNat 1 = 1 from rfl),d0,d2,fits,hent]
      intros
      refine (yWc gl (Tm.mk true name []) _ (show IsTm (Tm.mk true name []) _ from ⟨_,_,rfl,.inl rfl,rfl⟩) (by show 1 ≤ _; decide) _).mono ?_
      rintro _ _ ⟨rfl,rfl⟩
      cases hk:Tm.ok (Tm.mk true name [])
      ·simp -implicitDefEqProofs -dsimp only [go_sem]
       have hq:=yQp (rule:=rule) (r:=⟨rl,rr,op,asks⟩) (term:=term) (name:=name) hfm hop
       simp only [if_neg ha0,if_pos ha2,hk,Bool.not_false,if_true] at hq
       exact yQ0 (by rw [hq]; exact ⟨_,_,rfl,.inl rfl,rfl,rfl⟩)
      simp -implicitDefEqProofs -dsimp only [go_sem,fits]
      refine (zX7 gl G T _ _ hz1 (yQu hm 0) n (Tm.mk true name []) _ (show IsTm (Tm.mk true name []) _ from ⟨_,_,rfl,.inl rfl,rfl⟩) (by show 1 ≤ _; decide) _).mono ?_
      rintro _ _ ⟨y3,rfl,hy3,rfl⟩
      have hy4:=hy3
      obtain ⟨o8,n8,t8,x8,t9,x9,rfl⟩:=hy3.agg
      by_cases he:(yZu ((sub[0]?).getD fm0) [(n,(Tm.mk true name []))]).2 = 0
      ·have hq:=yQp (rule:=rule) (r:=⟨rl,rr,op,asks⟩) (term:=term) (name:=name) hfm hop
       simp only [if_neg ha0,if_pos ha2,hk,Bool.not_true,bFt,if_false,Fm.subs,Fm.nm,he,ne_eq,nTf] at hq
       simp -implicitDefEqProofs -dsimp only [go_sem,fits,he,hent,show decide (((0:Nat):Int) = 0) = true from rfl]
       refine (hadd _ _ _ _ _ _ hy0 hy4 hz2 hm (Nat.le_trans (yZr _ _) (by decide)) (yQu hm 1) _).mono ?_
       rintro _ _ ⟨tg,xs,rfl,he,hxs,rfl⟩
       simp -implicitDefEqProofs -dsimp only [go_sem]
       exact yQ0 (by rw [hq]; exact ⟨_,_,rfl,he,hxs,rfl⟩)
      ·have hq:=yQp (rule:=rule) (r:=⟨rl,rr,op,asks⟩) (term:=term) (name:=name) hfm hop
       simp only [if_neg ha0,if_pos ha2,hk,Bool.not_true,bFt,if_false,Fm.subs,Fm.nm,ne_eq,he,nFt,if_true] at hq
       have hd:decide (((yZu ((sub[0]?).getD fm0) [(n,(Tm.mk true name []))]).2:Int) = 0) = false:=dEf (by omega)
       simp -implicitDefEqProofs -dsimp only [go_sem,fits,hd]
       exact yQ0 (by rw [hq]; exact ⟨_,_,rfl,.inl rfl,rfl,rfl⟩)
     ·have d2:decide ((asks:Int) = 2) = false:=dEf (by omega)
      simp -implicitDefEqProofs -dsimp only [go_sem,hdop,l0,l1,i2.len,g0,g1,yQ2 e2,Int.le_refl,Int.toNat_zero,(show (0:Int) ≤ 1 by decide),(show Int.toNat 1 = 1 from rfl),d0,d2,fits,hent]
      intros
      refine (yWc gl term _ hz ht _).mono ?_
      rintro _ _ ⟨rfl,rfl⟩
      cases hk:Tm.ok term
      ·simp -implicitDefEqProofs -dsimp only [go_sem]
       have hq:=yQp (rule:=rule) (r:=⟨rl,rr,op,asks⟩) (term:=term) (name:=name) hfm hop
       simp only [if_neg ha0,if_neg ha2,hk,Bool.not_false,if_true] at hq
       exact yQ0 (by rw [hq]; exact ⟨_,_,rfl,.inl rfl,rfl,rfl⟩)
      simp -implicitDefEqProofs -dsimp only [go_sem,fits]
      refine (zX7 gl G T _ _ hz1 (yQu hm 0) n term _ hz ht _).mono ?_
      rintro _ _ ⟨y3,rfl,hy3,rfl⟩
      have hy4:=hy3
      obtain ⟨o8,n8,t8,x8,t9,x9,rfl⟩:=hy3.agg
      by_cases he:(yZu ((sub[0]?).getD fm0) [(n,term)]).2 = 0
      ·have hq:=yQp (rule:=rule) (r:=⟨rl,rr,op,asks⟩) (term:=term) (name:=name) hfm hop
       simp only [if_neg ha0,if_neg ha2,hk,Bool.not_true,bFt,if_false,Fm.subs,Fm.nm,he,ne_eq,nTf] at hq
       simp -implicitDefEqProofs -dsimp only [go_sem,fits,he,hent,show decide (((0:Nat):Int) = 0) = true from rfl]
       refine (hadd _ _ _ _ _ _ hy0 hy4 hz2 hm (Nat.le_trans (yZr _ _) (by decide)) (yQu hm 1) _).mono ?_
       rintro _ _ ⟨tg,xs,rfl,he,hxs,rfl⟩
       simp -implicitDefEqProofs -dsimp only [go_sem]
       exact yQ0 (by rw [hq]; exact ⟨_,_,rfl,he,hxs,rfl⟩)
      ·have hq:=yQp (rule:=rule) (r:=⟨rl,rr,op,asks⟩) (term:=term) (name:=name) hfm hop
       simp only [if_neg ha0,if_neg ha2,hk,Bool.not_true,bFt,if_false,Fm.subs,Fm.nm,ne_eq,he,nFt,if_true] at hq
       have hd:decide (((yZu ((sub[0]?).getD fm0) [(n,term)]).2:Int) = 0) = false:=dEf (by omega)
       simp -implicitDefEqProofs -dsimp only [go_sem,fits,hd]
       exact yQ0 (by rw [hq]; exact ⟨_,_,rfl,.inl rfl,rfl,rfl⟩)
  ·have l1:decide ((1:Int) < (sub.length:Int)) = false:=dEf (by omega)
   obtain rfl:=hz2n (by omega)
   cases dop
   ·have hd2:=hdo rfl
    by_cases ha0:asks = 0
    ·have d0:decide ((asks:Int) = 0) = true:=dEt (by omega)
     have hq:=yQp (rule:=rule) (r:=⟨rl,rr,op,asks⟩) (term:=term) (name:=name) hfm hop
     simp only [if_pos ha0,Fm.subs] at hq
     simp -implicitDefEqProofs -dsimp only [go_sem,hdop,hd2,l0,l1,i2.len,g0,yQ2 e2,Int.le_refl,Int.toNat_zero,d0,fits,hent]
     intros
     refine (hadd _ _ _ _ _ _ hy0 hz1 hz2 hm (yQu hm 0) (yQu hm 1) _).mono ?_
     rintro _ _ ⟨tg,xs,rfl,he,hxs,rfl⟩
     simp -implicitDefEqProofs -dsimp only [go_sem]
     exact yQ0 (by rw [hq]; exact ⟨_,_,rfl,he,hxs,rfl⟩)
    ·have d0:decide ((asks:Int) = 0) = false:=dEf (by omega)
     by_cases ha2:asks = 2
     ·have d2:decide ((asks:Int) = 2) = true:=dEt (by omega)
      simp -implicitDefEqProofs -dsimp only [go_sem,hdop,hd2,l0,l1,i2.len,g0,yQ2 e2,Int.le_refl,Int.toNat_zero,d0,d2,fits,hent]
      intros
      refine (yWc gl (Tm.mk true name []) _ (show IsTm (Tm.mk true name []) _ from ⟨_,_,rfl,.inl rfl,rfl⟩) (by show 1 ≤ _; decide) _).mono ?_
      rintro _ _ ⟨rfl,rfl⟩
      cases hk:Tm.ok (Tm.mk true name [])
      ·simp -implicitDefEqProofs -dsimp only [go_sem]
       have hq:=yQp (rule:=rule) (r:=⟨rl,rr,op,asks⟩) (term:=term) (name:=name) hfm hop
       simp only [if_neg ha0,if_pos ha2,hk,Bool.not_false,if_true] at hq
       exact yQ0 (by rw [hq]; exact ⟨_,_,rfl,.inl rfl,rfl,rfl⟩)
      simp -implicitDefEqProofs -dsimp only [go_sem,fits]
      refine (zX7 gl G T _ _ hz1 (yQu hm 0) n (Tm.mk true name []) _ (show IsTm (Tm.mk true name []) _ from ⟨_,_,rfl,.inl rfl,rfl⟩) (by show 1 ≤ _; decide) _).mono ?_
      rintro _ _ ⟨y3,rfl,hy3,rfl⟩
      have hy4:=hy3
      obtain ⟨o8,n8,t8,x8,t9,x9,rfl⟩:=hy3.agg
      by_cases he:(yZu ((sub[0]?).getD fm0) [(n,(Tm.mk true name []))]).2 = 0
      ·have hq:=yQp (rule:=rule) (r:=⟨rl,rr,op,asks⟩) (term:=term) (name:=name) hfm hop
       simp only [if_neg ha0,if_pos ha2,hk,Bool.not_true,bFt,if_false,Fm.subs,Fm.nm,he,ne_eq,nTf] at hq
       simp -implicitDefEqProofs -dsimp only [go_sem,fits,he,hent,show decide (((0:Nat):Int) = 0) = true from rfl]
       refine (hadd _ _ _ _ _ _ hy0 hy4 hz2 hm (Nat.le_trans (yZr _ _) (by decide)) (yQu hm 1) _).mono ?_
       rintro _ _ ⟨tg,xs,rfl,he,hxs,rfl⟩
       simp -implicitDefEqProofs -dsimp only [go_sem]
       exact yQ0 (by rw [hq]; exact ⟨_,_,rfl,he,hxs,rfl⟩)
      ·have hq:=yQp (rule:=rule) (r:=⟨rl,rr,op,asks⟩) (term:=term) (name:=name) hfm hop
       simp only [if_neg ha0,if_pos ha2,hk,Bool.not_true,bFt,if_false,Fm.subs,Fm.nm,ne_eq,he,nFt,if_true] at hq
       have hd:decide (((yZu ((sub[0]?).getD fm0) [(n,(Tm.mk true name []))]).2:Int) = 0) = false:=dEf (by omega)
       simp -implicitDefEqProofs -dsimp only [go_sem,fits,hd]
       exact yQ0 (by rw [hq]; exact ⟨_,_,rfl,.inl rfl,rfl,rfl⟩)
     ·have d2:decide ((asks:Int) = 2) = false:=dEf (by omega)
      simp -implicitDefEqProofs -dsimp only [go_sem,hdop,hd2,l0,l1,i2.len,g0,yQ2 e2,Int.le_refl,Int.toNat_zero,d0,d2,fits,hent]
      intros
      refine (yWc gl term _ hz ht _).mono ?_
      rintro _ _ ⟨rfl,rfl⟩
      cases hk:Tm.ok term
      ·simp -implicitDefEqProofs -dsimp only [go_sem]
       have hq:=yQp (rule:=rule) (r:=⟨rl,rr,op,asks⟩) (term:=term) (name:=name) hfm hop
       simp only [if_neg ha0,if_neg ha2,hk,Bool.not_false,if_true] at hq
       exact yQ0 (by rw [hq]; exact ⟨_,_,rfl,.inl rfl,rfl,rfl⟩)
      simp -implicitDefEqProofs -dsimp only [go_sem,fits]
      refine (zX7 gl G T _ _ hz1 (yQu hm 0) n term _ hz ht _).mono ?_
      rintro _ _ ⟨y3,rfl,hy3,rfl⟩
      have hy4:=hy3
      obtain ⟨o8,n8,t8,x8,t9,x9,rfl⟩:=hy3.agg
      by_cases he:(yZu ((sub[0]?).getD fm0) [(n,term)]).2 = 0
      ·have hq:=yQp (rule:=rule) (r:=⟨rl,rr,op,asks⟩) (term:=term) (name:=name) hfm hop
       simp only [if_neg ha0,if_neg ha2,hk,Bool.not_true,bFt,if_false,Fm.subs,Fm.nm,he,ne_eq,nTf] at hq
       simp -implicitDefEqProofs -dsimp only [go_sem,fits,he,hent,show decide (((0:Nat):Int) = 0) = true from rfl]
       refine (hadd _ _ _ _ _ _ hy0 hy4 hz2 hm (Nat.le_trans (yZr _ _) (by decide)) (yQu hm 1) _).mono ?_
       rintro _ _ ⟨tg,xs,rfl,he,hxs,rfl⟩
       simp -implicitDefEqProofs -dsimp only [go_sem]
       exact yQ0 (by rw [hq]; exact ⟨_,_,rfl,he,hxs,rfl⟩)
      ·have hq:=yQp (rule:=rule) (r:=⟨rl,rr,op,asks⟩) (term:=term) (name:=name) hfm hop
       simp only [if_neg ha0,if_neg ha2,hk,Bool.not_true,bFt,if_false,Fm.subs,Fm.nm,ne_eq,he,nFt,if_true] at hq
       have hd:decide (((yZu ((sub[0]?).getD fm0) [(n,term)]).2:Int) = 0) = false:=dEf (by omega)
       simp -implicitDefEqProofs -dsimp only [go_sem,fits,hd]
       exact yQ0 (by rw [hq]; exact ⟨_,_,rfl,.inl rfl,rfl,rfl⟩)
   ·by_cases ha0:asks = 0
    ·have d0:decide ((asks:Int) = 0) = true:=dEt (by omega)
     have hq:=yQp (rule:=rule) (r:=⟨rl,rr,op,asks⟩) (term:=term) (name:=name) hfm hop
     simp only [if_pos ha0,Fm.subs] at hq
     simp -implicitDefEqProofs -dsimp only [go_sem,hdop,l0,l1,i2.len,g0,yQ2 e2,Int.le_refl,Int.toNat_zero,d0,fits,hent]
     intros
     refine (hadd _ _ _ _ _ _ hy0 hz1 hz2 hm (yQu hm 0) (yQu hm 1) _).mono ?_
     rintro _ _ ⟨tg,xs,rfl,he,hxs,rfl⟩
     simp -implicitDefEqProofs -dsimp only [go_sem]
     exact yQ0 (by rw [hq]; exact ⟨_,_,rfl,he,hxs,rfl⟩)
    ·have d0:decide ((asks:Int) = 0) = false:=dEf (by omega)
     by_cases ha2:asks = 2
     ·have d2:decide ((asks:Int) = 2) = true:=dEt (by omega)
      simp -implicitDefEqProofs -dsimp only [go_sem,hdop,l0,l1,i2.len,g0,yQ2 e2,Int.le_refl,Int.toNat_zero,d0,d2,fits,hent]
      intros
      refine (yWc gl (Tm.mk true name []) _ (show IsTm (Tm.mk true name []) _ from ⟨_,_,rfl,.inl rfl,rfl⟩) (by show 1 ≤ _; decide) _).mono ?_
      rintro _ _ ⟨rfl,rfl⟩
      cases hk:Tm.ok (Tm.mk true name [])
      ·simp -implicitDefEqProofs -dsimp only [go_sem]
       have hq:=yQp (rule:=rule) (r:=⟨rl,rr,op,asks⟩) (term:=term) (name:=name) hfm hop
       simp only [if_neg ha0,if_pos ha2,hk,Bool.not_false,if_true] at hq
       exact yQ0 (by rw [hq]; exact ⟨_,_,rfl,.inl rfl,rfl,rfl⟩)
      simp -implicitDefEqProofs -dsimp only [go_sem,fits]
      refine (zX7 gl G T _ _ hz1 (yQu hm 0) n (Tm.mk true name []) _ (show IsTm (Tm.mk true name []) _ from ⟨_,_,rfl,.inl rfl,rfl⟩) (by show 1 ≤ _; decide) _).mono ?_
      rintro _ _ ⟨y3,rfl,hy3,rfl⟩
      have hy4:=hy3
      obtain ⟨o8,n8,t8,x8,t9,x9,rfl⟩:=hy3.agg
      by_cases he:(yZu ((sub[0]?).getD fm0) [(n,(Tm.mk true name []))]).2 = 0
      ·have hq:=yQp (rule:=rule) (r:=⟨rl,rr,op,asks⟩) (term:=term) (name:=name) hfm hop
       simp only [if_neg ha0,if_pos ha2,hk,Bool.not_true,bFt,if_false,Fm.subs,Fm.nm,he,ne_eq,nTf] at hq
       simp -implicitDefEqProofs -dsimp only [go_sem,fits,he,hent,show decide (((0:Nat):Int) = 0) = true from rfl]
       refine (hadd _ _ _ _ _ _ hy0 hy4 hz2 hm (Nat.le_trans (yZr _ _) (by decide)) (yQu hm 1) _).mono ?_
       rintro _ _ ⟨tg,xs,rfl,he,hxs,rfl⟩
       simp -implicitDefEqProofs -dsimp only [go_sem]
       exact yQ0 (by rw [hq]; exact ⟨_,_,rfl,he,hxs,rfl⟩)
      ·have hq:=yQp (rule:=rule) (r:=⟨rl,rr,op,asks⟩) (term:=term) (name:=name) hfm hop
       simp only [if_neg ha0,if_pos ha2,hk,Bool.not_true,bFt,if_false,Fm.subs,Fm.nm,ne_eq,he,nFt,if_true] at hq
       have hd:decide (((yZu ((sub[0]?).getD fm0) [(n,(Tm.mk true name []))]).2:Int) = 0) = false:=dEf (by omega)
       simp -implicitDefEqProofs -dsimp only [go_sem,fits,hd]
       exact yQ0 (by rw [hq]; exact ⟨_,_,rfl,.inl rfl,rfl,rfl⟩)
     ·have d2:decide ((asks:Int) = 2) = false:=dEf (by omega)
      simp -implicitDefEqProofs -dsimp only [go_sem,hdop,l0,l1,i2.len,g0,yQ2 e2,Int.le_refl,Int.toNat_zero,d0,d2,fits,hent]
      intros
      refine (yWc gl term _ hz ht _).mono ?_
      rintro _ _ ⟨rfl,rfl⟩
      cases hk:Tm.ok term
      ·simp -implicitDefEqProofs -dsimp only [go_sem]
       have hq:=yQp (rule:=rule) (r:=⟨rl,rr,op,asks⟩) (term:=term) (name:=name) hfm hop
       simp only [if_neg ha0,if_neg ha2,hk,Bool.not_false,if_true] at hq
       exact yQ0 (by rw [hq]; exact ⟨_,_,rfl,.inl rfl,rfl,rfl⟩)
      simp -implicitDefEqProofs -dsimp only [go_sem,fits]
      refine (zX7 gl G T _ _ hz1 (yQu hm 0) n term _ hz ht _).mono ?_
      rintro _ _ ⟨y3,rfl,hy3,rfl⟩
      have hy4:=hy3
      obtain ⟨o8,n8,t8,x8,t9,x9,rfl⟩:=hy3.agg
      by_cases he:(yZu ((sub[0]?).getD fm0) [(n,term)]).2 = 0
      ·have hq:=yQp (rule:=rule) (r:=⟨rl,rr,op,asks⟩) (term:=term) (name:=name) hfm hop
       simp only [if_neg ha0,if_neg ha2,hk,Bool.not_true,bFt,if_false,Fm.subs,Fm.nm,he,ne_eq,nTf] at hq
       simp -implicitDefEqProofs -dsimp only [go_sem,fits,he,hent,show decide (((0:Nat):Int) = 0) = true from rfl]
       refine (hadd _ _ _ _ _ _ hy0 hy4 hz2 hm (Nat.le_trans (yZr _ _) (by decide)) (yQu hm 1) _).mono ?_
       rintro _ _ ⟨tg,xs,rfl,he,hxs,rfl⟩
       simp -implicitDefEqProofs -dsimp only [go_sem]
       exact yQ0 (by rw [hq]; exact ⟨_,_,rfl,he,hxs,rfl⟩)
      ·have hq:=yQp (rule:=rule) (r:=⟨rl,rr,op,asks⟩) (term:=term) (name:=name) hfm hop
       simp only [if_neg ha0,if_neg ha2,hk,Bool.not_true,bFt,if_false,Fm.subs,Fm.nm,ne_eq,he,nFt,if_true] at hq
       have hd:decide (((yZu ((sub[0]?).getD fm0) [(n,term)]).2:Int) = 0) = false:=dEf (by omega)
       simp -implicitDefEqProofs -dsimp only [go_sem,fits,hd]
       exact yQ0 (by rw [hq]; exact ⟨_,_,rfl,.inl rfl,rfl,rfl⟩)
 ·have l0:decide ((0:Int) < (sub.length:Int)) = false:=dEf (by omega)
  have l1:decide ((1:Int) < (sub.length:Int)) = false:=dEf (by omega)
  obtain rfl:=hz1n (by omega)
  obtain rfl:=hz2n (by omega)
  cases dop
  ·have hd2:=hdo rfl
   by_cases ha0:asks = 0
   ·have d0:decide ((asks:Int) = 0) = true:=dEt (by omega)
    have hq:=yQp (rule:=rule) (r:=⟨rl,rr,op,asks⟩) (term:=term) (name:=name) hfm hop
    simp only [if_pos ha0,Fm.subs] at hq
    simp -implicitDefEqProofs -dsimp only [go_sem,hdop,hd2,l0,l1,i2.len,d0,fits,hent]
    intros
    refine (hadd _ _ _ _ _ _ hy0 hz1 hz2 hm (yQu hm 0) (yQu hm 1) _).mono ?_
    rintro _ _ ⟨tg,xs,rfl,he,hxs,rfl⟩
    simp -implicitDefEqProofs -dsimp only [go_sem]
    exact yQ0 (by rw [hq]; exact ⟨_,_,rfl,he,hxs,rfl⟩)
   ·have d0:decide ((asks:Int) = 0) = false:=dEf (by omega)
    by_cases ha2:asks = 2
    ·have d2:decide ((asks:Int) = 2) = true:=dEt (by omega)
     simp -implicitDefEqProofs -dsimp only [go_sem,hdop,hd2,l0,l1,i2.len,d0,d2,fits,hent]
     intros
     refine (yWc gl (Tm.mk true name []) _ (show IsTm (Tm.mk true name []) _ from ⟨_,_,rfl,.inl rfl,rfl⟩) (by show 1 ≤ _; decide) _).mono ?_
     rintro _ _ ⟨rfl,rfl⟩
     cases hk:Tm.ok (Tm.mk true name [])
     ·simp -implicitDefEqProofs -dsimp only [go_sem]
      have hq:=yQp (rule:=rule) (r:=⟨rl,rr,op,asks⟩) (term:=term) (name:=name) hfm hop
      simp only [if_neg ha0,if_pos ha2,hk,Bool.not_false,if_true] at hq
      exact yQ0 (by rw [hq]; exact ⟨_,_,rfl,.inl rfl,rfl,rfl⟩)
     simp -implicitDefEqProofs -dsimp only [go_sem,fits]
     refine (zX7 gl G T _ _ hz1 (yQu hm 0) n (Tm.mk true name []) _ (show IsTm (Tm.mk true name []) _ from ⟨_,_,rfl,.inl rfl,rfl⟩) (by show 1 ≤ _; decide) _).mono ?_
     rintro _ _ ⟨y3,rfl,hy3,rfl⟩
     have hy4:=hy3
     obtain ⟨o8,n8,t8,x8,t9,x9,rfl⟩:=hy3.agg
     by_cases he:(yZu ((sub[0]?).getD fm0) [(n,(Tm.mk true name []))]).2 = 0
     ·have hq:=yQp (rule:=rule) (r:=⟨rl,rr,op,asks⟩) (term:=term) (name:=name) hfm hop
      simp only [if_neg ha0,if_pos ha2,hk,Bool.not_true,bFt,if_false,Fm.subs,Fm.nm,he,ne_eq,nTf] at hq
      simp -implicitDefEqProofs -dsimp only [go_sem,fits,he,hent,show decide (((0:Nat):Int) = 0) = true from rfl]
      refine (hadd _ _ _ _ _ _ hy0 hy4 hz2 hm (Nat.le_trans (yZr _ _) (by decide)) (yQu hm 1) _).mono ?_
      rintro _ _ ⟨tg,xs,rfl,he,hxs,rfl⟩
      simp -implicitDefEqProofs -dsimp only [go_sem]
      exact yQ0 (by rw [hq]; exact ⟨_,_,rfl,he,hxs,rfl⟩)
     ·have hq:=yQp (rule:=rule) (r:=⟨rl,rr,op,asks⟩) (term:=term) (name:=name) hfm hop
      simp only [if_neg ha0,if_pos ha2,hk,Bool.not_true,bFt,if_false,Fm.subs,Fm.nm,ne_eq,he,nFt,if_true] at hq
      have hd:decide (((yZu ((sub[0]?).getD fm0) [(n,(Tm.mk true name []))]).2:Int) = 0) = false:=dEf (by omega)
      simp -implicitDefEqProofs -dsimp only [go_sem,fits,hd]
      exact yQ0 (by rw [hq]; exact ⟨_,_,rfl,.inl rfl,rfl,rfl⟩)
    ·have d2:decide ((asks:Int) = 2) = false:=dEf (by omega)
     simp -implicitDefEqProofs -dsimp only [go_sem,hdop,hd2,l0,l1,i2.len,d0,d2,fits,hent]
     intros
     refine (yWc gl term _ hz ht _).mono ?_
     rintro _ _ ⟨rfl,rfl⟩
     cases hk:Tm.ok term
     ·simp -implicitDefEqProofs -dsimp only [go_sem]
      have hq:=yQp (rule:=rule) (r:=⟨rl,rr,op,asks⟩) (term:=term) (name:=name) hfm hop
      simp only [if_neg ha0,if_neg ha2,hk,Bool.not_false,if_true] at hq
      exact yQ0 (by rw [hq]; exact ⟨_,_,rfl,.inl rfl,rfl,rfl⟩)
     simp -implicitDefEqProofs -dsimp only [go_sem,fits]
     refine (zX7 gl G T _ _ hz1 (yQu hm 0) n term _ hz ht _).mono ?_
     rintro _ _ ⟨y3,rfl,hy3,rfl⟩
     have hy4:=hy3
     obtain ⟨o8,n8,t8,x8,t9,x9,rfl⟩:=hy3.agg
     by_cases he:(yZu ((sub[0]?).getD fm0) [(n,term)]).2 = 0
     ·have hq:=yQp (rule:=rule) (r:=⟨rl,rr,op,asks⟩) (term:=term) (name:=name) hfm hop
      simp only [if_neg ha0,if_neg ha2,hk,Bool.not_true,bFt,if_false,Fm.subs,Fm.nm,he,ne_eq,nTf] at hq
      simp -implicitDefEqProofs -dsimp only [go_sem,fits,he,hent,show decide (((0:Nat):Int) = 0) = true from rfl]
      refine (hadd _ _ _ _ _ _ hy0 hy4 hz2 hm (Nat.le_trans (yZr _ _) (by decide)) (yQu hm 1) _).mono ?_
      rintro _ _ ⟨tg,xs,rfl,he,hxs,rfl⟩
      simp -implicitDefEqProofs -dsimp only [go_sem]
      exact yQ0 (by rw [hq]; exact ⟨_,_,rfl,he,hxs,rfl⟩)
     ·have hq:=yQp (rule:=rule) (r:=⟨rl,rr,op,asks⟩) (term:=term) (name:=name) hfm hop
      simp only [if_neg ha0,if_neg ha2,hk,Bool.not_true,bFt,if_false,Fm.subs,Fm.nm,ne_eq,he,nFt,if_true] at hq
      have hd:decide (((yZu ((sub[0]?).getD fm0) [(n,term)]).2:Int) = 0) = false:=dEf (by omega)
      simp -implicitDefEqProofs -dsimp only [go_sem,fits,hd]
      exact yQ0 (by rw [hq]; exact ⟨_,_,rfl,.inl rfl,rfl,rfl⟩)
  ·by_cases ha0:asks = 0
   ·have d0:decide ((asks:Int) = 0) = true:=dEt (by omega)
    have hq:=yQp (rule:=rule) (r:=⟨rl,rr,op,asks⟩) (term:=term) (name:=name) hfm hop
    simp only [if_pos ha0,Fm.subs] at hq
    simp -implicitDefEqProofs -dsimp only [go_sem,hdop,l0,l1,i2.len,d0,fits,hent]
    intros
    refine (hadd _ _ _ _ _ _ hy0 hz1 hz2 hm (yQu hm 0) (yQu hm 1) _).mono ?_
    rintro _ _ ⟨tg,xs,rfl,he,hxs,rfl⟩
    simp -implicitDefEqProofs -dsimp only [go_sem]
    exact yQ0 (by rw [hq]; exact ⟨_,_,rfl,he,hxs,rfl⟩)
   ·have d0:decide ((asks:Int) = 0) = false:=dEf (by omega)
    by_cases ha2:asks = 2
    ·have d2:decide ((asks:Int) = 2) = true:=dEt (by omega)
     simp -implicitDefEqProofs -dsimp only [go_sem,hdop,l0,l1,i2.len,d0,d2,fits,hent]
     intros
     refine (yWc gl (Tm.mk true name []) _ (show IsTm (Tm.mk true name []) _ from ⟨_,_,rfl,.inl rfl,rfl⟩) (by show 1 ≤ _; decide) _).mono ?_
     rintro _ _ ⟨rfl,rfl⟩
     cases hk:Tm.ok (Tm.mk true name [])
     ·simp -implicitDefEqProofs -dsimp only [go_sem]
      have hq:=yQp (rule:=rule) (r:=⟨rl,rr,op,asks⟩) (term:=term) (name:=name) hfm hop
      simp only [if_neg ha0,if_pos ha2,hk,Bool.not_false,if_true] at hq
      exact yQ0 (by rw [hq]; exact ⟨_,_,rfl,.inl rfl,rfl,rfl⟩)
     simp -implicitDefEqProofs -dsimp only [go_sem,fits]
     refine (zX7 gl G T _ _ hz1 (yQu hm 0) n (Tm.mk true name []) _ (show IsTm (Tm.mk true name []) _ from ⟨_,_,rfl,.inl rfl,rfl⟩) (by show 1 ≤ _; decide) _).mono ?_
     rintro _ _ ⟨y3,rfl,hy3,rfl⟩
     have hy4:=hy3
     obtain ⟨o8,n8,t8,x8,t9,x9,rfl⟩:=hy3.agg
     by_cases he:(yZu ((sub[0]?).getD fm0) [(n,(Tm.mk true name []))]).2 = 0
     ·have hq:=yQp (rule:=rule) (r:=⟨rl,rr,op,asks⟩) (term:=term) (name:=name) hfm hop
      simp only [if_neg ha0,if_pos ha2,hk,Bool.not_true,bFt,if_false,Fm.subs,Fm.nm,he,ne_eq,nTf] at hq
      simp -implicitDefEqProofs -dsimp only [go_sem,fits,he,hent,show decide (((0:Nat):Int) = 0) = true from rfl]
      refine (hadd _ _ _ _ _ _ hy0 hy4 hz2 hm (Nat.le_trans (yZr _ _) (by decide)) (yQu hm 1) _).mono ?_
      rintro _ _ ⟨tg,xs,rfl,he,hxs,rfl⟩
      simp -implicitDefEqProofs -dsimp only [go_sem]
      exact yQ0 (by rw [hq]; exact ⟨_,_,rfl,he,hxs,rfl⟩)
     ·have hq:=yQp (rule:=rule) (r:=⟨rl,rr,op,asks⟩) (term:=term) (name:=name) hfm hop
      simp only [if_neg ha0,if_pos ha2,hk,Bool.not_true,bFt,if_false,Fm.subs,Fm.nm,ne_eq,he,nFt,if_true] at hq
      have hd:decide (((yZu ((sub[0]?).getD fm0) [(n,(Tm.mk true name []))]).2:Int) = 0) = false:=dEf (by omega)
      simp -implicitDefEqProofs -dsimp only [go_sem,fits,hd]
      exact yQ0 (by rw [hq]; exact ⟨_,_,rfl,.inl rfl,rfl,rfl⟩)
    ·have d2:decide ((asks:Int) = 2) = false:=dEf (by omega)
     simp -implicitDefEqProofs -dsimp only [go_sem,hdop,l0,l1,i2.len,d0,d2,fits,hent]
     intros
     refine (yWc gl term _ hz ht _).mono ?_
     rintro _ _ ⟨rfl,rfl⟩
     cases hk:Tm.ok term
     ·simp -implicitDefEqProofs -dsimp only [go_sem]
      have hq:=yQp (rule:=rule) (r:=⟨rl,rr,op,asks⟩) (term:=term) (name:=name) hfm hop
      simp only [if_neg ha0,if_neg ha2,hk,Bool.not_false,if_true] at hq
      exact yQ0 (by rw [hq]; exact ⟨_,_,rfl,.inl rfl,rfl,rfl⟩)
     simp -implicitDefEqProofs -dsimp only [go_sem,fits]
     refine (zX7 gl G T _ _ hz1 (yQu hm 0) n term _ hz ht _).mono ?_
     rintro _ _ ⟨y3,rfl,hy3,rfl⟩
     have hy4:=hy3
     obtain ⟨o8,n8,t8,x8,t9,x9,rfl⟩:=hy3.agg
     by_cases he:(yZu ((sub[0]?).getD fm0) [(n,term)]).2 = 0
     ·have hq:=yQp (rule:=rule) (r:=⟨rl,rr,op,asks⟩) (term:=term) (name:=name) hfm hop
      simp only [if_neg ha0,if_neg ha2,hk,Bool.not_true,bFt,if_false,Fm.subs,Fm.nm,he,ne_eq,nTf] at hq
      simp -implicitDefEqProofs -dsimp only [go_sem,fits,he,hent,show decide (((0:Nat):Int) = 0) = true from rfl]
      refine (hadd _ _ _ _ _ _ hy0 hy4 hz2 hm (Nat.le_trans (yZr _ _) (by decide)) (yQu hm 1) _).mono ?_
      rintro _ _ ⟨tg,xs,rfl,he,hxs,rfl⟩
      simp -implicitDefEqProofs -dsimp only [go_sem]
      exact yQ0 (by rw [hq]; exact ⟨_,_,rfl,he,hxs,rfl⟩)
     ·have hq:=yQp (rule:=rule) (r:=⟨rl,rr,op,asks⟩) (term:=term) (name:=name) hfm hop
      simp only [if_neg ha0,if_neg ha2,hk,Bool.not_true,bFt,if_false,Fm.subs,Fm.nm,ne_eq,he,nFt,if_true] at hq
      have hd:decide (((yZu ((sub[0]?).getD fm0) [(n,term)]).2:Int) = 0) = false:=dEf (by omega)
      simp -implicitDefEqProofs -dsimp only [go_sem,fits,hd]
      exact yQ0 (by rw [hq]; exact ⟨_,_,rfl,.inl rfl,rfl,rfl⟩)
theorem zGq {ca:Nat} {s:Sq} (h:yXn ca s = true):(∀ f ∈ s.l,f.right = true) ∧ ∀ f ∈ s.r,f.right = true:=by
 unfold yXn at h
 simp only [bAt,List.all_eq_true] at h
 obtain ⟨⟨⟨_,h4⟩,h5⟩,_⟩:=h
 have key:∀ f,fmB ca f = true → f.right = true:=fun f hf => by
  unfold fmB at hf
  simp only [bAt] at hf
  exact hf.1
 exact ⟨fun f hf => key f (h4 f hf),fun f hf => key f (h5 f hf)⟩
theorem wKt (G:Gl gl) (T:Gt gl) (ca:Nat) (s:Sq) (x:IV) (hx:IsSq s x) (hs:yVd s) (rule:Nat) (main:Fm) (y:IV) (hy:IsFm main y) (hm:main.size ≤ 1000000) (term:Tm) (z:IV) (hz:IsTm term z) (ht:term.size ≤ 1000000) (name:ByteArray) (st:ISt) :
  ICall prog gl 97 [.raw (.int .u8 ca),x,.raw (.int .u8 rule),y,z,.raw (.string name)] st (AdR st (yJ3 ca s rule main term name)):=by
 have hV:=fun st => wZk gl G ca s x hx hs st
 have hF:=fun hr st => vZe gl T s x hx hs hr name st
 obtain ⟨t1,x1,t2,x2,rfl,e1,i1,e2,i2⟩:=hx
 have hH1:=fun st => xVm gl G s.l main t1 x1 y e1 i1 hy hs.1 hm st
 have hH2:=fun st => xVm gl G s.r main t2 x2 y e2 i2 hy hs.2 hm st
 have hA:=fun r hr st => vXs gl G T ca rule r hr main y hy hm term z hz ht name st
 obtain ⟨o3,n3,t3,x3,t4,x4,rfl⟩:=hy.agg
 obtain ⟨v,un,tz,xz,rfl⟩:∃ v un tz xz,z = .agg [.raw (.bool v),.raw (.string un),.sl tz xz]:=by
  obtain ⟨v,un,us⟩:=term
  obtain ⟨tz,xz,rfl,_⟩:=hz.mk
  exact ⟨_,_,_,_,rfl⟩
 refine iI func97 rfl rfl (by kernel_rfl) ?_
 simp -implicitDefEqProofs -dsimp only [go_sem,fits]
 refine (hV _).mono ?_
 rintro _ st ⟨rfl,rfl⟩
 cases hv:yXn ca s
 ·simp -implicitDefEqProofs -dsimp only [go_sem]
  exact yQ0 (by unfold yJ3; rw [hv]; exact ⟨_,_,rfl,.inl rfl,rfl,rfl⟩)
 have hright:=zGq hv
 simp -implicitDefEqProofs -dsimp only [go_sem]
 refine (wWo gl ca _).mono ?_
 rintro _ _ ⟨b,hb,rfl,rfl⟩
 cases hr:rowS ca rule with
 | none =>
  have hq:yJ3 ca s rule main term name = ([],191):=by unfold yJ3; rw [hv,hr]; rfl
  simp -implicitDefEqProofs -dsimp only [go_sem,ISt.put_same,zJ8,hr,Option.map_none,xWo,fits]
  exact yQb (yQe hb) (by rw [hq]; exact ⟨_,_,rfl,.inl rfl,rfl,rfl⟩)
 | some r =>
  have hcall:=hA r hr
  obtain ⟨rl,rr,op,asks⟩:=r
  have hq:yJ3 ca s rule main term name = if decide ((yKw ca rule ⟨rl,rr,op,asks⟩ main term name).2 = 192) || (rl && !hasF s.l main) || (rr && !hasF s.r main) then ([],192)
    else if (yKw ca rule ⟨rl,rr,op,asks⟩ main term name).2 ≠ 0 then ([],(yKw ca rule ⟨rl,rr,op,asks⟩ main term name).2)
    else if decide (asks = 2) && yY0 s name then ([],193) else ((yKw ca rule ⟨rl,rr,op,asks⟩ main term name).1,0):=by unfold yJ3; rw [hv,hr]; rfl
  generalize yKw ca rule ⟨rl,rr,op,asks⟩ main term name = q at hq hcall
  obtain ⟨qs,qe⟩:=q
  simp only at hq
  simp -implicitDefEqProofs -dsimp only [go_sem,ISt.put_same,zJ8,hr,Option.map_some,xWn,rwI,fits]
  refine (hcall _).mono ?_
  rintro _ _ ⟨tg,xs,rfl,he,hxs,rfl⟩
  by_cases h192:qe = 192
  ·have d:decide ((qe:Int) = 192) = true:=dEt (by omega)
   have hq':yJ3 ca s rule main term name = ([],192):=by rw [hq,h192]; rfl
   simp -implicitDefEqProofs -dsimp only [go_sem,d,fits]
   exact yQb (yQe hb) (by rw [hq']; exact ⟨_,_,rfl,.inl rfl,rfl,rfl⟩)
  have d:decide ((qe:Int) = 192) = false:=dEf (by omega)
  have h192':decide (qe = 192) = false:=dEf h192
  rw [h192',Bool.false_or] at hq
  cases rl
  ·cases rr
   ·simp only [Bool.false_and,Bool.false_and,Bool.and_false,Bool.not_true,Bool.or_false,bFt,if_false] at hq
    by_cases h0:qe = 0
    ·subst h0
     simp only [ne_eq,nTf,if_false] at hq
     by_cases ha:asks = 2
     ·have da:decide ((asks:Int) = 2) = true:=dEt (by omega)
      simp -implicitDefEqProofs -dsimp only [go_sem,d,da,fits,show decide (((0:Nat):Int) = 0) = true from rfl]
      refine (hF hright _).mono ?_
      rintro _ _ ⟨rfl,rfl⟩
      rw [dEt ha,Bool.true_and] at hq
      cases hf:yY0 s name
      ·simp -implicitDefEqProofs -dsimp only [go_sem,fits]
       rw [hf] at hq
       exact yQb (yQe hb) (by rw [hq]; exact ⟨_,_,rfl,he,hxs,rfl⟩)
      ·simp -implicitDefEqProofs -dsimp only [go_sem,fits]
       rw [hf] at hq
       exact yQb (yQe hb) (by rw [hq]; exact ⟨_,_,rfl,.inl rfl,rfl,rfl⟩)
     ·have da:decide ((asks:Int) = 2) = false:=dEf (by omega)
      rw [dEf ha,Bool.false_and] at hq
      simp -implicitDefEqProofs -dsimp only [go_sem,d,da,fits,show decide (((0:Nat):Int) = 0) = true from rfl]
      exact yQb (yQe hb) (by rw [hq]; exact ⟨_,_,rfl,he,hxs,rfl⟩)
    ·have d0:decide ((qe:Int) = 0) = false:=dEf (by omega)
     rw [if_pos h0] at hq
     simp -implicitDefEqProofs -dsimp only [go_sem,d,d0,fits]
     exact yQb (yQe hb) (by rw [hq]; exact ⟨_,_,rfl,.inl rfl,rfl,rfl⟩)
   ·simp -implicitDefEqProofs -dsimp only [go_sem,d,fits]
    refine (hH2 _).mono ?_
    rintro _ _ ⟨rfl,rfl⟩
    cases h5:hasF s.r main
    ·simp -implicitDefEqProofs -dsimp only [go_sem,fits]
     rw [h5] at hq
     exact yQb (yQe hb) (by rw [hq]; exact ⟨_,_,rfl,.inl rfl,rfl,rfl⟩)
    ·simp only [h5,Bool.false_and,Bool.and_false,Bool.not_true,Bool.or_false,bFt,if_false] at hq
     by_cases h0:qe = 0
     ·subst h0
      simp only [ne_eq,nTf,if_false] at hq
      by_cases ha:asks = 2
      ·have da:decide ((asks:Int) = 2) = true:=dEt (by omega)
       simp -implicitDefEqProofs -dsimp only [go_sem,d,da,fits,show decide (((0:Nat):Int) = 0) = true from rfl]
       refine (hF hright _).mono ?_
       rintro _ _ ⟨rfl,rfl⟩
       rw [dEt ha,Bool.true_and] at hq
       cases hf:yY0 s name
       ·simp -implicitDefEqProofs -dsimp only [go_sem,fits]
        rw [hf] at hq
        exact yQb (yQe hb) (by rw [hq]; exact ⟨_,_,rfl,he,hxs,rfl⟩)
       ·simp -implicitDefEqProofs -dsimp only [go_sem,fits]
        rw [hf] at hq
        exact yQb (yQe hb) (by rw [hq]; exact ⟨_,_,rfl,.inl rfl,rfl,rfl⟩)
      ·have da:decide ((asks:Int) = 2) = false:=dEf (by omega)
       rw [dEf ha,Bool.false_and] at hq
       simp -implicitDefEqProofs -dsimp only [go_sem,d,da,fits,show decide (((0:Nat):Int) = 0) = true from rfl]
       exact yQb (yQe hb) (by rw [hq]; exact ⟨_,_,rfl,he,hxs,rfl⟩)
     ·have d0:decide ((qe:Int) = 0) = false:=dEf (by omega)
      rw [if_pos h0] at hq
      simp -implicitDefEqProofs -dsimp only [go_sem,d,d0,fits]
      exact yQb (yQe hb) (by rw [hq]; exact ⟨_,_,rfl,.inl rfl,rfl,rfl⟩)
  ·simp -implicitDefEqProofs -dsimp only [go_sem,d,fits]
   refine (hH1 _).mono ?_
   rintro _ _ ⟨rfl,rfl⟩
   cases h4:hasF s.l main
   ·simp -implicitDefEqProofs -dsimp only [go_sem,fits]
    rw [h4] at hq
    exact yQb (yQe hb) (by rw [hq]; exact ⟨_,_,rfl,.inl rfl,rfl,rfl⟩)
   cases rr
   ·simp only [h4,Bool.false_and,Bool.and_false,Bool.not_true,Bool.or_false,bFt,if_false] at hq
    by_cases h0:qe = 0
    ·subst h0
     simp only [ne_eq,nTf,if_false] at hq
     by_cases ha:asks = 2
     ·have da:decide ((asks:Int) = 2) = true:=dEt (by omega)
      simp -implicitDefEqProofs -dsimp only [go_sem,d,da,fits,show decide (((0:Nat):Int) = 0) = true from rfl]
      refine (hF hright _).mono ?_
      rintro _ _ ⟨rfl,rfl⟩
      rw [dEt ha,Bool.true_and] at hq
      cases hf:yY0 s name
      ·simp -implicitDefEqProofs -dsimp only [go_sem,fits]
       rw [hf] at hq
       exact yQb (yQe hb) (by rw [hq]; exact ⟨_,_,rfl,he,hxs,rfl⟩)
      ·simp -implicitDefEqProofs -dsimp only [go_sem,fits]
       rw [hf] at hq
       exact yQb (yQe hb) (by rw [hq]; exact ⟨_,_,rfl,.inl rfl,rfl,rfl⟩)
     ·have da:decide ((asks:Int) = 2) = false:=dEf (by omega)
      rw [dEf ha,Bool.false_and] at hq
      simp -implicitDefEqProofs -dsimp only [go_sem,d,da,fits,show decide (((0:Nat):Int) = 0) = true from rfl]
      exact yQb (yQe hb) (by rw [hq]; exact ⟨_,_,rfl,he,hxs,rfl⟩)
    ·have d0:decide ((qe:Int) = 0) = false:=dEf (by omega)
     rw [if_pos h0] at hq
     simp -implicitDefEqProofs -dsimp only [go_sem,d,d0,fits]
     exact yQb (yQe hb) (by rw [hq]; exact ⟨_,_,rfl,.inl rfl,rfl,rfl⟩)
   ·simp -implicitDefEqProofs -dsimp only [go_sem,d,fits]
    refine (hH2 _).mono ?_
    rintro _ _ ⟨rfl,rfl⟩
    cases h5:hasF s.r main
    ·simp -implicitDefEqProofs -dsimp only [go_sem,fits]
     rw [h4,h5] at hq
     exact yQb (yQe hb) (by rw [hq]; exact ⟨_,_,rfl,.inl rfl,rfl,rfl⟩)
    ·simp only [h4,h5,Bool.false_and,Bool.and_false,Bool.not_true,Bool.or_false,bFt,if_false] at hq
     by_cases h0:qe = 0
     ·subst h0
      simp only [ne_eq,nTf,if_false] at hq
      by_cases ha:asks = 2
      ·have da:decide ((asks:Int) = 2) = true:=dEt (by omega)
       simp -implicitDefEqProofs -dsimp only [go_sem,d,da,fits,show decide (((0:Nat):Int) = 0) = true from rfl]
       refine (hF hright _).mono ?_
       rintro _ _ ⟨rfl,rfl⟩
       rw [dEt ha,Bool.true_and] at hq
       cases hf:yY0 s name
       ·simp -implicitDefEqProofs -dsimp only [go_sem,fits]
        rw [hf] at hq
        exact yQb (yQe hb) (by rw [hq]; exact ⟨_,_,rfl,he,hxs,rfl⟩)
       ·simp -implicitDefEqProofs -dsimp only [go_sem,fits]
        rw [hf] at hq
        exact yQb (yQe hb) (by rw [hq]; exact ⟨_,_,rfl,.inl rfl,rfl,rfl⟩)
      ·have da:decide ((asks:Int) = 2) = false:=dEf (by omega)
       rw [dEf ha,Bool.false_and] at hq
       simp -implicitDefEqProofs -dsimp only [go_sem,d,da,fits,show decide (((0:Nat):Int) = 0) = true from rfl]
       exact yQb (yQe hb) (by rw [hq]; exact ⟨_,_,rfl,he,hxs,rfl⟩)
     ·have d0:decide ((qe:Int) = 0) = false:=dEf (by omega)
      rw [if_pos h0] at hq
      simp -implicitDefEqProofs -dsimp only [go_sem,d,d0,fits]
      exact yQb (yQe hb) (by rw [hq]; exact ⟨_,_,rfl,.inl rfl,rfl,rfl⟩)
theorem wJ6:lenI prog 3 = none:=by kernel_rfl
theorem zVl (n:Nat):yXa none (some 0) n = some (0,0):=by simp [yXa]
theorem xZx (n:Nat):yXa none (some ((0:Nat):Int)) n = some (0,0):=zVl n
theorem vJ1 (n:Nat) (hn:n ≤ 1099511627776) (st:ISt):ICall prog gl 163 [.sl ⟨true,.nil,0⟩ [],.raw (.int .i64 n)] st (fun r st' =>
  (n = 0 ∧ r = .sl ⟨true,.nil,0⟩ [] ∧ st' = st) ∨ (∃ g cap,st g = none ∧ n ≤ cap ∧ r = .raw (.slice (some ⟨g,0,none⟩) 0 cap) ∧ st' = st.put g (some (.box (List.replicate (cap * 4) .junk))))):=by
 have h1:decide ((n:Int) < 0) = false:=dEf (by omega)
 have h2:IntKind.i64.wrap ((0:Int) - ((0:Nat):Int)) = 0:=rfl
 have h3:IntKind.i64.wrap ((n:Int) - 0) = n:=w64 (by omega) (by omega)
 refine iI func163 rfl rfl (by kernel_rfl) ?_
 by_cases hz:n = 0
 ·subst hz
  simp -implicitDefEqProofs -dsimp only [go_sem,h1,h2,h3,show decide ((0:Int) < ((0:Nat):Int)) = false from rfl]
  refine yQ0 (.inl ?_)
  simp
 ·have h4:decide ((0:Int) < (n:Int)) = true:=dEt (by omega)
  simp -implicitDefEqProofs -dsimp only [go_sem,h1,h2,h3,h4,zVl,wJ6]
  refine yQt ⟨rfl,by omega,by show (n:Int) * 72 ≤ _; omega,by omega⟩ fun g cap => yQh fun hg => ?_
  obtain ⟨hg,hc⟩:=hg
  rw [Int.toNat_natCast] at hc
  simp -implicitDefEqProofs -dsimp only [go_sem,Int.toNat_natCast,xZx,ite_self,Nat.zero_mul,hc]
  exact yQ0 (.inr ⟨g,cap,hg,hc,rfl,rfl⟩)
def catL (l:List (Tag × List IV)):List IV:=l.flatMap (·.2)
def catI (l:List (Tag × List IV)):List IV:=l.map fun p => .sl p.1 p.2
theorem zGa {l:List (Tag × List IV)} {k:Nat} {p:Tag × List IV} (h:l[k]? = some p):(catI l)[k]? = some (.sl p.1 p.2):=by simp [catI,List.getElem?_map,h]
theorem yVi {l:List (Tag × List IV)} {k:Nat} {p:Tag × List IV} (h:l[k]? = some p):catL (l.take (k + 1)) = catL (l.take k) ++ p.2:=by
 rw [yQ5 h]; simp [catL]
theorem zG9 (l:List (Tag × List IV)) (k:Nat):(catL (l.take k)).length ≤ (catL l).length:=by
 conv => rhs; rw [← List.take_append_drop k l]
 unfold catL
 rw [List.flatMap_append,lLa]; omega
theorem yJ5:∀ {l:List Fm} {xs:List IV},IsFms l xs → ∀ y ∈ xs,fits true 4 y = true
 | [],_,rfl,y,h => by cases h
 | a :: l,_,⟨x,xs,rfl,hx,hl⟩,y,h => by
  rcases List.mem_cons.1 h with rfl | h
  ·obtain ⟨o,n,t,x,t',x',rfl⟩:=hx.agg
   simp [fits,IV.one]
  ·exact yJ5 hl y h
theorem xJ3 {y:IV} (h:fits true 4 y = true):y.cells.length = 4:=(yXi h).2.1
theorem uZk {l:List IV} (h:∀ y ∈ l,fits true 4 y = true):(l.flatMap IV.cells).length = l.length * 4:=yQv l fun x hx => xJ3 (h x hx)
theorem wKf (l:List (Tag × List IV)) (tt:Tag) (htt:okEs tt 1) (hfit:∀ p ∈ l,∀ y ∈ p.2,fits true 4 y = true) (hlen:(catL l).length ≤ 1099511627776) (st:ISt) :
  ICall prog gl 118 [.sl tt (catI l)] st (fun r st' => (∃ t,r = .sl t [] ∧ okEs t 4 ∧ catL l = [] ∧ st' = st) ∨
   ∃ g cap cs,st g = none ∧ (catL l).length ≤ cap ∧ cap * 4 ≤ cs.length ∧ cs.take ((catL l).length * 4) = (catL l).flatMap IV.cells ∧ r = .raw (.slice (some ⟨g,0,none⟩) (catL l).length cap) ∧ st' = st.put g (some (.box cs))):=by
 have hli:(catI l).length = l.length:=by simp [catI]
 have hfc:∀ y ∈ catL l,fits true 4 y = true:=fun y hy => by
  obtain ⟨p,hp,hy⟩:=List.mem_flatMap.1 hy
  exact hfit p hp y hy
 refine iI func118 rfl rfl (by kernel_rfl) ?_
 simp -implicitDefEqProofs -dsimp only [go_sem,hli]
 intro hl
 refine LoopC.ctr l.length (fun k fr st' ds => fr 0 = .iv (.sl tt (catI l)) ∧ fr 3 = .iv (.raw (.int .i64 (catL (l.take k)).length)) ∧ fr 9 = .iv (.sl tt (catI l)) ∧ fr 10 = .iv (.raw (.int .i64 l.length)) ∧ fr 11 = .iv (.raw (.int .i64 k)) ∧ st' = st ∧ ds = []) ?_ ?_ ?_
 ·simp -implicitDefEqProofs -dsimp only [go_sem]
  simp [catL]
 ·rintro k fr st1 _ hlt ⟨f0,f3,f9,f10,f11,rfl,rfl⟩
  obtain ⟨p,hp⟩:=yQ3 hlt
  have h1:=zG9 l k
  have h2:=zG9 l (k + 1)
  rw [yVi hp,lLa] at h2
  have h3:IntKind.i64.wrap ((((catL (l.take k)).length:Nat):Int) + ((p.2.length:Nat):Int)) = ((catL (l.take (k + 1))).length:Nat):=by
   rw [w64 (by omega) (by omega),yVi hp,lLa]; omega
  have h4:decide ((((catL (l.take (k + 1))).length:Nat):Int) < 0) = false:=dEf (by omega)
  simp -implicitDefEqProofs -dsimp only [go_sem,f0,f3,f9,f10,f11,lt_i hlt,yQ2 htt,iNn,zGa hp,fits,h3]
  intro hpl
  simp -implicitDefEqProofs -dsimp only [go_sem,h3,h4,f0,f3,f9,f10,f11,yQa hlt (show l.length ≤ 281474976710656 by omega)]
 ·rintro fr st1 _ ⟨f0,f3,f9,f10,f11,rfl,rfl⟩
  rw [lTl] at f3
  simp -implicitDefEqProofs -dsimp only [go_sem,f0,f3,f9,f10,f11,yQn (nLi _)]
  refine (vJ1 gl (catL l).length hlen _).mono ?_
  have loop:∀ (I:Nat → IV → ISt → Prop),True:=fun _ => trivial
  rintro r st2 (⟨hz,rfl,rfl⟩ | ⟨g,cap,hg,hcap,rfl,rfl⟩)
  ·have hnil:catL l = []:=List.eq_nil_of_length_eq_zero hz
   simp -implicitDefEqProofs -dsimp only [go_sem,f0,hli]
   intro _
   refine LoopC.ctr l.length (fun k fr st' ds => (∃ t,fr 6 = .iv (.sl t []) ∧ t.cap = .nil) ∧ fr 25 = .iv (.sl tt (catI l)) ∧ fr 26 = .iv (.raw (.int .i64 l.length)) ∧ fr 27 = .iv (.raw (.int .i64 k)) ∧ st' = st2 ∧ ds = []) ?_ ?_ ?_
   ·simp -implicitDefEqProofs -dsimp only [go_sem]
    exact ⟨⟨_,rfl,rfl⟩,rfl⟩
   ·rintro k fr st1 _ hlt ⟨⟨t,f6,ht⟩,f25,f26,f27,rfl,rfl⟩
    obtain ⟨p,hp⟩:=yQ3 hlt
    have hp0:p.2 = []:=by
     have:=yVi hp
     have h2:=zG9 l (k + 1)
     rw [this,lLa,hnil,List.length_nil] at h2
     exact List.eq_nil_of_length_eq_zero (by omega)
    obtain ⟨fs,c,es⟩:=t
    obtain rfl:c = .nil:=ht
    simp -implicitDefEqProofs -dsimp only [go_sem,f6,f25,f26,f27,lt_i hlt,yQ2 htt,iNn,zGa hp,fits,hp0,yQa hlt (show l.length ≤ 281474976710656 by omega)]
    exact ⟨_,rfl,rfl⟩
   ·rintro fr st1 _ ⟨⟨t,f6,ht⟩,f25,f26,f27,rfl,rfl⟩
    simp -implicitDefEqProofs -dsimp only [go_sem,f6,f25,f26,f27,yQn (nLi _)]
    exact yQ0 (.inl ⟨_,rfl,.inl ht,hnil,rfl⟩)
  ·simp -implicitDefEqProofs -dsimp only [go_sem,f0,hli]
   intro _
   refine LoopC.ctr l.length (fun k fr st' ds => (∃ g cap cs,st1 g = none ∧ (catL (l.take k)).length ≤ cap ∧ cap * 4 ≤ cs.length ∧ cs.take ((catL (l.take k)).length * 4) = (catL (l.take k)).flatMap IV.cells ∧ fr 6 = .iv (.raw (.slice (some ⟨g,0,none⟩) (catL (l.take k)).length cap)) ∧ st' = st1.put g (some (.box cs))) ∧ fr 25 = .iv (.sl tt (catI l)) ∧ fr 26 = .iv (.raw (.int .i64 l.length)) ∧ fr 27 = .iv (.raw (.int .i64 k)) ∧ ds = []) ?_ ?_ ?_
   ·simp -implicitDefEqProofs -dsimp only [go_sem]
    exact ⟨⟨g,cap,_,hg,by simp [catL],by simp,by simp [catL],by simp [catL],rfl⟩,rfl⟩
   ·rintro k fr st' _ hlt ⟨⟨g,cap,cs,hg,hc1,hc2,hc3,f6,rfl⟩,f25,f26,f27,rfl⟩
    obtain ⟨p,hp⟩:=yQ3 hlt
    have h2:=zG9 l (k + 1)
    rw [yVi hp,lLa] at h2
    have hpf:=hfit p (lMg hp)
    simp -implicitDefEqProofs -dsimp only [go_sem,f6,f25,f26,f27,lt_i hlt,yQ2 htt,iNn,zGa hp,fits]
    refine zZc _ _ _ (ISt.put_same ..) (List.all_eq_true.2 hpf) ⟨by show _ * 72 ≤ _; omega,by omega⟩ ⟨hc1,hc2⟩ (uZk hpf) ?_
    intro g' cap' cs' hg' k1 k2 k3
    simp -implicitDefEqProofs -dsimp only [go_sem,f6,f25,f26,f27,yQa hlt (show l.length ≤ 281474976710656 by omega)]
    have hst':((st1.put g (some (.box cs))).put g none).put g' (some (.box cs')) = st1.put g' (some (.box cs')):=by
     funext c
     simp only [ISt.put_apply]
     split
     ·rfl
     ·split
      ·subst_vars; exact hg.symm
      ·rfl
    have hg1:st1 g' = none:=by
     rcases hg' with rfl | h
     ·exact hg
     ·rw [ISt.put_apply] at h
      split at h
      ·cases h
      ·exact h
    refine ⟨g',cap',cs',hg1,?_,k2,?_,?_,hst'⟩
    ·rw [yVi hp,lLa]; exact k1
    ·rw [yVi hp,lLa,List.flatMap_append,← hc3]; exact k3
    ·rw [yVi hp,lLa]
   ·rintro fr st' _ ⟨⟨g,cap,cs,hg,hc1,hc2,hc3,f6,rfl⟩,f25,f26,f27,rfl⟩
    rw [lTl] at *
    simp -implicitDefEqProofs -dsimp only [go_sem,f6,f25,f26,f27,yQn (nLi _)]
    exact yQ0 (.inr ⟨g,cap,cs,hg,hc1,hc2,hc3,rfl,rfl⟩)
theorem xVn (l1 l2:List Fm) (t1 t2 tt:Tag) (x1 x2:List IV) (htt:okEs tt 1) (h1:IsFms l1 x1) (h2:IsFms l2 x2) (hlen:l1.length + l2.length ≤ 1099511627776) (st:ISt) :
  ICall prog gl 118 [.sl tt [.sl t1 x1,.sl t2 x2]] st (fun r st' => ∃ t ys,r = .sl t ys ∧ okEs t 4 ∧ IsFms (l1 ++ l2) ys ∧ st' = st):=by
 have hc:catL [(t1,x1),(t2,x2)] = x1 ++ x2:=by simp [catL]
 have hf:=h1.append h2
 have hlx:(x1 ++ x2).length ≤ 1099511627776:=by rw [hf.len,lLa]; exact hlen
 have key:=wKf gl [(t1,x1),(t2,x2)] tt htt (fun p hp y hy => by
  rcases List.mem_cons.1 hp with rfl | hp
  ·exact yJ5 h1 y hy
  ·obtain rfl:=List.mem_singleton.1 hp
   exact yJ5 h2 y hy) (by rw [hc]; exact hlx) st
 rw [hc] at key
 refine ICall.fix (key.mono fun r st' h => ?_)
 rcases h with ⟨t,rfl,ht,hn,rfl⟩ | ⟨g,cap,cs,hg,hc1,hc2,hc3,rfl,rfl⟩
 ·exact ⟨.sl t [],(fun _ => none),st',LendOk.mk (fun b o h => by cases h) (subSt.refl _) (fun b cs h => by cases h),.refl _,⟨false,t.cap,t.es⟩,[],by simp only [age,ages],ht,hn ▸ hf,rfl⟩
 ·have hcell:∀ y ∈ x1 ++ x2,y.cells.length = 4:=fun y hy => xJ3 (yJ5 hf y hy)
  refine ⟨.sl ⟨true,.app g,4⟩ (x1 ++ x2),ISt.put (fun _ => none) g (some (.box cs)),st,⟨fun b o h => ?_,yQe hg,fun b cs' h => ?_⟩,.sl g cap ⟨true,.app g,4⟩ (x1 ++ x2) cs rfl (by omega) hc1 hcell (ISt.put_same ..) hc2 fun i r c hr hx => ?_,⟨false,.app g,4⟩,ages (x1 ++ x2),by simp only [age],.inr rfl,hf.aged,rfl⟩
  ·rw [ISt.put_apply] at h ⊢
   split at h
   ·rename_i hb; rw [if_pos hb]; exact h
   ·cases h
  ·rw [ISt.put_apply] at h
   split at h
   ·rename_i hb; rw [hb]; exact hg
   ·cases h
  ·have hi:i < (x1 ++ x2).length * 4:=by
    have:=(lGs hx).1
    rwa [yQv _ hcell] at this
   have:(cs.take ((x1 ++ x2).length * 4))[i]? = cs[i]?:=by rw [List.getElem?_take,if_pos hi]
   rw [hc3,hx,hr] at this
   cases this
   exact .refl _
theorem xG4 {ca:Nat} {s:Sq} {rule:Nat} {main:Fm} {term:Tm} {name:ByteArray} {ad:List Sq} (h:yJ3 ca s rule main term name = (ad,0)) :
  yXn ca s = true ∧ ∃ r,(yKw ca rule r main term name) = (ad,0):=by
 unfold yJ3 at h
 split at h
 ·simp at h
 ·rename_i hv
  split at h
  ·simp at h
  ·rename_i r _
   split at h
   ·simp at h
   ·split at h
    ·rename_i h1 h2
     injection h with h3 h4
     exact absurd h4 h2
    ·rename_i h1 h2
     split at h
     ·simp at h
     ·injection h with h3 h4
      refine ⟨by simpa using hv,r,?_⟩
      rw [← h3]
      exact Prod.ext rfl (by simpa using h2)
theorem yZq:fitL []:=fun f h => by cases h
theorem zG3 {f:Fm} (h:f.size ≤ 1000):fitL [f]:=fun g hg => by obtain rfl:=List.mem_singleton.1 hg; omega
theorem xV9 {f g:Fm} (h:f.size ≤ 1000) (h':g.size ≤ 1000):fitL [f,g]:=fun k hk => by
 rcases List.mem_cons.1 hk with rfl | hk
 ·omega
 ·obtain rfl:=List.mem_singleton.1 hk; omega
theorem yXw {c:Prop} [Decidable c] {A B:List Sq} {P:Sq → Prop} (h1:∀ s ∈ A,P s) (h2:∀ s ∈ B,P s):∀ s ∈ (if c then A else B),P s:=by split <;> assumption
def yYb (s:Sq):Prop:=yVd s ∧ s.l.length ≤ 64 ∧ s.r.length ≤ 64
theorem xVl {ca rule:Nat} {main a b:Fm} (hm:main.size ≤ 400) (ha:a.size ≤ 400) (hb:b.size ≤ 400):∀ s ∈ addS ca rule main a b,yYb s:=by
 have hi:(impF a b).size ≤ 1000:=by simp only [impF,Fm.size,yQ8,yQ7]; omega
 have hi':(impF b a).size ≤ 1000:=by simp only [impF,Fm.size,yQ8,yQ7]; omega
 have l1:=zG3 (show main.size ≤ 1000 by omega)
 have l2:=zG3 (show a.size ≤ 1000 by omega)
 have l3:=zG3 (show b.size ≤ 1000 by omega)
 have l4:=xV9 (show a.size ≤ 1000 by omega) (show b.size ≤ 1000 by omega)
 have l5:=xV9 hi hi'
 have q0:∀ s ∈ ([]:List Sq),yYb s:=fun s hs => by cases hs
 have q1:∀ {x:Sq},yYb x → ∀ s ∈ [x],yYb s:=fun hx s hs => by obtain rfl:=List.mem_singleton.1 hs; exact hx
 have q2:∀ {x y:Sq},yYb x → yYb y → ∀ s ∈ [x,y],yYb s:=fun hx hy s hs => by
  rcases List.mem_cons.1 hs with rfl | hs
  ·exact hx
  ·obtain rfl:=List.mem_singleton.1 hs; exact hy
 have c0:([]:List Fm).length ≤ 64:=Nat.zero_le _
 have c1:∀ f:Fm,[f].length ≤ 64:=fun _ => by simp
 have c2:∀ f g:Fm,[f,g].length ≤ 64:=fun _ _ => by simp
 unfold addS
 refine yXw (q1 ⟨⟨yZq,l2⟩,c0,c1 _⟩) (yXw (q1 ⟨⟨l2,yZq⟩,c1 _,c0⟩) (yXw (q1 ⟨⟨l4,yZq⟩,c2 _ _,c0⟩) (yXw (q2 ⟨⟨yZq,l2⟩,c0,c1 _⟩ ⟨⟨yZq,l3⟩,c0,c1 _⟩) (yXw (q2 ⟨⟨l2,yZq⟩,c1 _,c0⟩ ⟨⟨l3,yZq⟩,c1 _,c0⟩)
  (yXw (yXw (q1 ⟨⟨yZq,l2⟩,c0,c1 _⟩) (q1 ⟨⟨yZq,l4⟩,c0,c2 _ _⟩)) (yXw (q2 ⟨⟨yZq,l2⟩,c0,c1 _⟩ ⟨⟨l3,yZq⟩,c1 _,c0⟩) (yXw (q1 ⟨⟨l2,l3⟩,c1 _,c1 _⟩) (yXw (q1 ⟨⟨l5,yZq⟩,c2 _ _,c0⟩) (yXw (q2 ⟨⟨l2,l3⟩,c1 _,c1 _⟩ ⟨⟨l3,l2⟩,c1 _,c1 _⟩)
  (yXw (q1 ⟨⟨l2,yZq⟩,c1 _,c0⟩) (yXw (q1 ⟨⟨yZq,l2⟩,c0,c1 _⟩) (yXw (q1 ⟨⟨l2,yZq⟩,c1 _,c0⟩) (yXw (q1 ⟨⟨yZq,l2⟩,c0,c1 _⟩) (yXw (q2 ⟨⟨yZq,l1⟩,c0,c1 _⟩ ⟨⟨l1,yZq⟩,c1 _,c0⟩) (yXw (q1 ⟨⟨yZq,l3⟩,c0,c1 _⟩) q0)))))))))))))))
theorem zVn:∀ {l:List Fm} {g:Fm},g ∈ l → g.size ≤ yQ7 l
 | a :: l,g,h => by
  simp only [yQ7]
  rcases List.mem_cons.1 h with rfl | h
  ·omega
  ·have:=zVn h; omega
theorem wJc {l:List Fm} {n:Nat} (h:yQ7 l ≤ n) (hn:1 ≤ n) (k:Nat):((l[k]?).getD fm0).size ≤ n:=by
 cases hk:l[k]? with
 | none => exact hn
 | some a => exact Nat.le_trans (zVn (lMg hk)) h
theorem xZ6 {ca rule:Nat} {r:Rw} {main:Fm} {term:Tm} {name:ByteArray} {ad:List Sq} (h:yKw ca rule r main term name = (ad,0)):∀ s ∈ ad,yYb s:=by
 unfold yKw at h
 by_cases hc:(!fmB ca main || (decide (r.op ≠ 0) && decide (main.op ≠ r.op))) = true
 ·rw [if_pos hc] at h
  cases (Prod.mk.inj h).2
 ·rw [if_neg hc] at h
  have hf:fmB ca main = true:=by
   cases hq:fmB ca main
   ·simp [hq] at hc
   ·rfl
  have hm:main.size ≤ 400:=by
   unfold fmB at hf
   simp only [bAt] at hf
   exact (yJp hf.1).2.1
  have hs:∀ k,((main.subs[k]?).getD fm0).size ≤ 400:=fun k => wJc (by
   obtain ⟨o,n,us,sub⟩:=main
   simp only [Fm.size] at hm
   show yQ7 sub ≤ 400
   omega) (by omega) k
  by_cases h0:r.asks = 0
  ·simp only [if_pos h0] at h
   rw [← (Prod.mk.inj h).1]
   exact xVl hm (hs 0) (hs 1)
  ·simp only [if_neg h0] at h
   generalize (if r.asks = 2 then Tm.mk true name [] else term) = t at h
   by_cases h1:(!t.ok) = true
   ·simp only [if_pos h1] at h
    cases (Prod.mk.inj h).2
   ·simp only [if_neg h1] at h
    by_cases h2:(yZu ((main.subs[0]?).getD fm0) [(main.nm,t)]).2 ≠ 0
    ·simp only [if_pos h2] at h
     cases (Prod.mk.inj h).2
    ·simp only [if_neg h2] at h
     rw [← (Prod.mk.inj h).1]
     exact xVl hm (yZr _ _) (hs 1)
theorem yWk (s:Sq):∀ (l l':List Sq) (ts ts':List Tr),l.length = ts.length → yJq s (l ++ l') (ts ++ ts') = (yJq s l ts && yJq s l' ts')
 | [],l',[],ts',_ => by simp [yJq]
 | a :: l,l',t :: ts,ts',h => by
  simp only [List.cons_append,yJq,yWk s l l' ts ts' (by simpa using h),Bool.and_assoc]
 | [],_,_ :: _,_,h => by simp at h
 | _ :: _,_,[],_,h => by simp at h
theorem zK1 {l l':List Fm} (h:fitL l) (h':fitL l'):fitL (l ++ l'):=fun f hf => (List.mem_append.1 hf).elim (h f) (h' f)
theorem wG3 (G:Gl gl) (T:Gt gl) (ca rule:Nat) (s:Sq) (main:Fm) (term:Tm) (name:ByteArray) (sub:List Tr) (x:IV) (hx:IsTr (.mk rule s main term name sub) x) (hs:yVd s) (hm:main.size ≤ 1000000) (ht:term.size ≤ 1000000)
  (hsub:∀ a ∈ sub,yVd a.sq) (st:ISt):ICall prog gl 72 [.raw (.int .u8 ca),.cptr x] st (fun r st' => r = .raw (.int .i64 (yXz ca (.mk rule s main term name sub))) ∧ st' = st):=by
 obtain ⟨tl,xl,tr,xr,op,fn,ta,xa,tb,xb,v,un,tu,xu,ts,xs,rfl,hru,e1,i1,e2,i2,hy,hz,e3,i3⟩:=hx.mk
 have hstep:=fun st => wKt gl G T ca s _ ⟨tl,xl,tr,xr,rfl,e1,i1,e2,i2⟩ hs rule main _ hy hm term _ hz ht name st
 unfold yXz
 refine ICall.intro (c:=cf prog gl [] [(9,[0,1,2,3,4,5,6,7,9,10,11,12,13,14,15,16,19,8,17,18,20])]) func72 rfl (by show _ ≤ 84; simp) (by kernel_rfl) ?_
 simp -implicitDefEqProofs -dsimp only [go_sem,fits]
 refine (hstep _).mono ?_
 rintro _ st ⟨tg,ys,rfl,he,hys,rfl⟩
 generalize hq:yJ3 ca s rule main term name = q at hys ⊢
 obtain ⟨ad,er⟩:=q
 simp only at hys ⊢
 by_cases h0:er = 0
 ·subst h0
  obtain ⟨hv,r,hr⟩:=xG4 hq
  have hfit:=xZ6 hr
  simp -implicitDefEqProofs -dsimp only [go_sem,show decide (((0:Nat):Int) = 0) = true from rfl,i3.len,hys.len,fits]
  intro _ _
  by_cases hl:sub.length = ad.length
  ·have dl:decide ((sub.length:Int) = (ad.length:Int)) = true:=dEt (by omega)
   simp -implicitDefEqProofs -dsimp only [go_sem,dl,hys.len]
   intro _
   refine LoopC.ctr ad.length (fun k fr st' ds => yJq s (ad.take k) (sub.take k) = true ∧ fr 0 = .iv (.raw (.int .u8 ca)) ∧ fr 1 = .iv (.cptr (.agg [.raw (.int .u8 rule),.sl tl xl,.sl tr xr,.raw (.int .u8 op),.raw (.string fn),.sl ta xa,.sl tb xb,.raw (.bool v),.raw (.string un),.sl tu xu,.raw (.string name),.sl ts xs])) ∧ fr 46 = .iv (.sl tg ys) ∧ fr 47 = .iv (.raw (.int .i64 ad.length)) ∧ fr 48 = .iv (.raw (.int .i64 k)) ∧ st' = st ∧ ds = []) ?_ ?_ ?_
   ·simp -implicitDefEqProofs -dsimp only [go_sem]
    simp [yJq]
   ·rintro k fr st1 _ hlt ⟨hn,f0,f1,f46,f47,f48,rfl,rfl⟩
    obtain ⟨a,ha⟩:=yQ3 hlt
    obtain ⟨w,hkw,hw⟩:=hys.get ha
    obtain ⟨b,hb⟩:=yQ3 (l:=sub) (k:=k) (by omega)
    obtain ⟨z,hkz,hz⟩:=i3.get hb
    have hza:=hfit a (lMg ha)
    have hvl:s.l.length ≤ 64 ∧ s.r.length ≤ 64:=by
     unfold yXn at hv
     simp only [bAt,dTe] at hv
     exact ⟨hv.1.1.1.1.2,hv.1.1.1.2⟩
    obtain ⟨t1,x1,t2,x2,rfl,k1,j1,k2,j2⟩:=hw
    have hC1:=fun st => xVn gl s.l a.l tl t1 ⟨true,.full,1⟩ xl x1 (.inr rfl) i1 j1 (by have:=hza.2.1; omega) st
    have hC2:=fun st => xVn gl s.r a.r tr t2 ⟨true,.full,1⟩ xr x2 (.inr rfl) i2 j2 (by have:=hza.2.2; omega) st
    have hsb:=hsub b (lMg hb)
    obtain ⟨br,bs,bm,bt,bn,bsub⟩:=b
    obtain ⟨tl',xl',tr',xr',op',fn',ta',xa',tb',xb',v',un',tu',xu',ts',xs',rfl,_,g1,m1,g2,m2,_⟩:=hz.mk
    have hlen1:(ad.take k).length = (sub.take k).length:=by rw [List.length_take,List.length_take]; omega
    have hpl:yVd (s.plus a):=⟨zK1 hs.1 hza.1.1,zK1 hs.2 hza.1.2⟩
    simp -implicitDefEqProofs -dsimp only [go_sem,f0,f1,f46,f47,f48,lt_i hlt,yQ2 he,yQ2 e3,iNn,hkw,hkz,fits,yQ9]
    refine (hC1 _).mono ?_
    rintro _ st2 ⟨t3,y1,rfl,g3,m3,rfl⟩
    simp -implicitDefEqProofs -dsimp only [go_sem,f0,f1,f46,f47,f48,lt_i hlt,yQ2 he,yQ2 e3,iNn,hkw,hkz,fits,yQ9]
    refine (hC2 _).mono ?_
    rintro _ st2 ⟨t4,y2,rfl,g4,m4,rfl⟩
    simp -implicitDefEqProofs -dsimp only [go_sem,f0,f1,f46,f47,f48,lt_i hlt,yQ2 he,yQ2 e3,iNn,hkw,hkz,fits,yQ9]
    refine (zXo gl G bs (s.plus a) _ _ ⟨_,_,_,_,rfl,g1,m1,g2,m2⟩ ⟨_,_,_,_,rfl,g3,m3,g4,m4⟩ hsb hpl _).mono ?_
    rintro _ st2 ⟨rfl,rfl⟩
    cases hw:yJ7 bs (s.plus a)
    ·simp -implicitDefEqProofs -dsimp only [go_sem]
     refine yQ0 ⟨?_,rfl⟩
     have hp:yJq s ad sub = false:=by
      conv => lhs; rw [← List.take_append_drop k ad,← List.take_append_drop k sub]
      rw [List.drop_eq_getElem_cons hlt,List.drop_eq_getElem_cons (show k < sub.length by omega),yWk s _ _ _ _ hlen1,(lGs ha).2,(lGs hb).2]
      simp only [yJq,Tr.sq,hw,Bool.false_and,Bool.and_false]
     rw [if_neg (by omega),if_neg (by omega),hp]; rfl
    ·simp -implicitDefEqProofs -dsimp only [go_sem,f0,f1,f46,f47,f48,yQa hlt (show ad.length ≤ 281474976710656 by omega)]
     rw [yQ5 ha,yQ5 hb,yWk s _ _ _ _ hlen1,hn]
     simp only [yJq,Tr.sq,hw,Bool.true_and]
   ·rintro fr st1 _ ⟨hn,f0,f1,f46,f47,f48,rfl,rfl⟩
    rw [lTl,show sub.take ad.length = sub by rw [← hl,lTl]] at hn
    simp -implicitDefEqProofs -dsimp only [go_sem,f47,f48,yQn (nLi _)]
    refine yQ0 ⟨?_,rfl⟩
    rw [if_neg (by omega),if_neg (by omega),hn]; rfl
  ·have dl:decide ((sub.length:Int) = (ad.length:Int)) = false:=dEf (by omega)
   simp -implicitDefEqProofs -dsimp only [go_sem,dl]
   refine yQ0 ⟨?_,rfl⟩
   rw [if_neg (by omega),if_pos hl]; rfl
 ·have d0:decide ((er:Int) = 0) = false:=dEf (by omega)
  simp -implicitDefEqProofs -dsimp only [go_sem,d0]
  refine yQ0 ⟨?_,rfl⟩
  rw [if_pos h0]
end Go.Proofs.Tryz
