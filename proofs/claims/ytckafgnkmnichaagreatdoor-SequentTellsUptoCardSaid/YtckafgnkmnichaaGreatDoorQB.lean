/- Walks: formulas and sequents of a calcul -/
import Derived.Test.YtckafgnkmnichaaGreatDoorQA
import Derived.Test.YtckafgnkmnichaaGreatDoorJZ
import Derived.Test.YtckafgnkmnichaaGreatDoorJY
import Derived.Test.YtckafgnkmnichaaGreatDoorKD
set_option linter.all false
namespace Go.Proofs.Tryz
open Go Go.Iv
set_option maxRecDepth 4000
variable (gl:Nat → Option IV)
def fitL (l:List Fm):Prop:=∀ f ∈ l,f.size ≤ 1000000
theorem xXk (ca:Nat) (st:ISt):ICall prog gl 59 [.raw (.int .u8 ca)] st (fun r st' => r = .raw (.bool (yXi ca)) ∧ st' = st):=by
 refine iI func59 rfl rfl (by kernel_rfl) ?_
 by_cases h1:1 ≤ ca
 ·have e1:decide (1 ≤ (ca:Int)) = true:=dEt (by omega)
  by_cases h2:ca ≤ 3
  ·have e2:decide ((ca:Int) ≤ 3) = true:=dEt (by omega)
   simp -implicitDefEqProofs -dsimp only [go_sem,e1,e2]
   exact yQ0 ⟨by simp [yXi,h1,h2],rfl⟩
  ·have e2:decide ((ca:Int) ≤ 3) = false:=dEf (by omega)
   simp -implicitDefEqProofs -dsimp only [go_sem,e1,e2]
   exact yQ0 ⟨by simp [yXi,h2],rfl⟩
 ·have e1:decide (1 ≤ (ca:Int)) = false:=dEf (by omega)
  simp -implicitDefEqProofs -dsimp only [go_sem,e1]
  exact yQ0 ⟨by simp [yXi,h1],rfl⟩
def sOp (f:Fm):Prop:=∀ (ca:Nat) (x:IV) (_:IsFm f x) (st:ISt),ICall prog gl 121 [.raw (.int .u8 ca),x] st (fun r st' => r = .raw (.bool (opsB ca f)) ∧ st' = st)
theorem yVw (ca:Nat):∀ l m:List Fm,yYb ca (l ++ m) = (yYb ca l && yYb ca m)
 | [],m => by simp [yYb]
 | a :: l,m => by simp only [List.cons_append,yYb,yVw ca l m,Bool.and_assoc]
theorem zUh {ca:Nat} {l:List Fm} {a:Fm} (ha:a ∈ l) (h:opsB ca a = false):yYb ca l = false:=by
 obtain ⟨p,q,rfl⟩:=List.append_of_mem ha
 rw [yVw]
 simp [yYb,h]
theorem wXm (o:Nat) (n:ByteArray) (us:List Tm) (sub:List Fm) (IH:∀ a ∈ sub,sOp gl a):sOp gl (.mk o n us sub):=by
 intro ca x hx st
 obtain ⟨t1,x1,t2,x2,rfl,ho,ht1,hx1,ht2,hx2⟩:=hx.mk
 have loop:∀ (last:Nat) (hop:(decide (1 ≤ o) && decide (o ≤ if ca = 3 then 9 else 7) && (decide (ca = 3) || us.isEmpty)) = true),opsB ca (.mk o n us sub) = yYb ca sub:=fun _ h => by
  simp only [opsB,h,Bool.true_and]
 refine iI func121 rfl rfl (by kernel_rfl) ?_
 by_cases h1:1 ≤ o
 ·have e1:decide ((o:Int) < 1) = false:=dEf (by omega)
  by_cases hca:ca = 3
  ·have e3:decide ((ca:Int) = 3) = true:=dEt (by omega)
   by_cases h2:o ≤ 9
   ·have e2:decide ((9:Int) < (o:Int)) = false:=dEf (by omega)
    have hl:=loop 9 (by simp [h1,h2,hca])
    simp -implicitDefEqProofs -dsimp only [go_sem,e1,e2,e3,hx2.len]
    intro _
    refine LoopC.ctr sub.length (fun k fr st' ds => yYb ca (sub.take k) = true ∧ fr 0 = .iv (.raw (.int .u8 ca)) ∧ fr 30 = .iv (.sl t2 x2) ∧ fr 31 = .iv (.raw (.int .i64 sub.length)) ∧ fr 32 = .iv (.raw (.int .i64 k)) ∧ st' = st ∧ ds = []) ?_ ?_ ?_
    ·simp -implicitDefEqProofs -dsimp only [go_sem]
     simp [yYb]
    ·rintro k fr st1 _ hlt ⟨hn,f0,f30,f31,f32,rfl,rfl⟩
     obtain ⟨a,ha⟩:=yQ3 hlt
     obtain ⟨y,hky,hy⟩:=hx2.get ha
     have hcall:=IH a (lMg ha) ca y hy st1
     obtain ⟨o5,n5,t5,x5,t6,x6,rfl⟩:=hy.agg
     simp -implicitDefEqProofs -dsimp only [go_sem,f0,f30,f31,f32,lt_i hlt,yQ2 ht2,iNn,hky,fits]
     refine hcall.mono ?_
     rintro _ _ ⟨rfl,rfl⟩
     cases hr:opsB ca a
     ·simp -implicitDefEqProofs -dsimp only [go_sem]
      exact yQ0 ⟨by rw [hl,zUh (lMg ha) hr],rfl⟩
     ·simp -implicitDefEqProofs -dsimp only [go_sem,f0,f30,f31,f32,yQ9 hlt (show sub.length ≤ 281474976710656 by omega)]
      rw [yQ4 ha,yVw,hn]
      simp [yYb,hr]
    ·rintro fr st1 _ ⟨hn,f0,f30,f31,f32,rfl,rfl⟩
     rw [lTl] at hn
     simp -implicitDefEqProofs -dsimp only [go_sem,f31,f32,yQm (nLi _)]
     exact yQ0 ⟨by rw [hl,hn],rfl⟩
   ·have e2:decide ((9:Int) < (o:Int)) = true:=dEt (by omega)
    simp -implicitDefEqProofs -dsimp only [go_sem,e1,e2,e3,hx2.len]
    exact yQ0 ⟨by simp [opsB,h2,hca],rfl⟩
  ·have e3:decide ((ca:Int) = 3) = false:=dEf (by omega)
   by_cases h2:o ≤ 7
   ·have e2:decide ((7:Int) < (o:Int)) = false:=dEf (by omega)
    by_cases hu:us = []
    ·subst hu
     have e4:decide ((0:Int) < ((0:Nat):Int)) = false:=rfl
     have hl:=loop 7 (by simp [h1,h2,hca])
     simp -implicitDefEqProofs -dsimp only [go_sem,e1,e2,e3,e4,hx1.len,hx2.len]
     intro _
     refine LoopC.ctr sub.length (fun k fr st' ds => yYb ca (sub.take k) = true ∧ fr 0 = .iv (.raw (.int .u8 ca)) ∧ fr 30 = .iv (.sl t2 x2) ∧ fr 31 = .iv (.raw (.int .i64 sub.length)) ∧ fr 32 = .iv (.raw (.int .i64 k)) ∧ st' = st ∧ ds = []) ?_ ?_ ?_
     ·simp -implicitDefEqProofs -dsimp only [go_sem]
      simp [yYb]
     ·rintro k fr st1 _ hlt ⟨hn,f0,f30,f31,f32,rfl,rfl⟩
      obtain ⟨a,ha⟩:=yQ3 hlt
      obtain ⟨y,hky,hy⟩:=hx2.get ha
      have hcall:=IH a (lMg ha) ca y hy st1
      obtain ⟨o5,n5,t5,x5,t6,x6,rfl⟩:=hy.agg
      simp -implicitDefEqProofs -dsimp only [go_sem,f0,f30,f31,f32,lt_i hlt,yQ2 ht2,iNn,hky,fits]
      refine hcall.mono ?_
      rintro _ _ ⟨rfl,rfl⟩
      cases hr:opsB ca a
      ·simp -implicitDefEqProofs -dsimp only [go_sem]
       exact yQ0 ⟨by rw [hl,zUh (lMg ha) hr],rfl⟩
      ·simp -implicitDefEqProofs -dsimp only [go_sem,f0,f30,f31,f32,yQ9 hlt (show sub.length ≤ 281474976710656 by omega)]
       rw [yQ4 ha,yVw,hn]
       simp [yYb,hr]
     ·rintro fr st1 _ ⟨hn,f0,f30,f31,f32,rfl,rfl⟩
      rw [lTl] at hn
      simp -implicitDefEqProofs -dsimp only [go_sem,f31,f32,yQm (nLi _)]
      exact yQ0 ⟨by rw [hl,hn],rfl⟩
    ·have hpos:0 < us.length:=List.length_pos_iff.2 hu
     have e4:decide ((0:Int) < (us.length:Int)) = true:=dEt (by omega)
     simp -implicitDefEqProofs -dsimp only [go_sem,e1,e2,e3,e4,hx1.len,hx2.len]
     intro _
     exact yQ0 ⟨by simp [opsB,hca,hu],rfl⟩
   ·have e2:decide ((7:Int) < (o:Int)) = true:=dEt (by omega)
    simp -implicitDefEqProofs -dsimp only [go_sem,e1,e2,e3,hx1.len,hx2.len]
    exact yQ0 ⟨by simp [opsB,hca,h2],rfl⟩
 ·have e1:decide ((o:Int) < 1) = true:=dEt (by omega)
  by_cases hca:ca = 3
  ·have e3:decide ((ca:Int) = 3) = true:=dEt (by omega)
   simp -implicitDefEqProofs -dsimp only [go_sem,e1,e3]
   exact yQ0 ⟨by simp [opsB,h1],rfl⟩
  ·have e3:decide ((ca:Int) = 3) = false:=dEf (by omega)
   simp -implicitDefEqProofs -dsimp only [go_sem,e1,e3]
   exact yQ0 ⟨by simp [opsB,h1],rfl⟩
theorem xGy:∀ (k:Nat) (f:Fm),SizeOf.sizeOf f < k → sOp gl f
 | 0,f,h => by omega
 | k + 1,.mk o n us sub,h => wXm gl o n us sub (fun a ha => xGy k a (by
   have:=lSm ha
   simp only [Fm.mk.sizeOf_spec] at h
   omega))
theorem xX4 (f:Fm):sOp gl f:=xGy gl _ f (Nat.lt_succ_self _)
theorem zK1 (G:Gl gl) (ca:Nat) (f:Fm) (x:IV) (hx:IsFm f x) (hs:f.size ≤ 1000000) (st:ISt) :
  ICall prog gl 69 [.raw (.int .u8 ca),x] st (fun r st' => r = .raw (.bool (fmB ca f)) ∧ st' = st):=by
 have h1:=fun st => zKq gl G f x hx st hs
 have h2:=fun st => xX4 gl f ca x hx st
 obtain ⟨o5,n5,t5,x5,t6,x6,rfl⟩:=hx.agg
 refine iI func69 rfl rfl (by kernel_rfl) ?_
 simp -implicitDefEqProofs -dsimp only [go_sem]
 refine (h1 _).mono ?_
 rintro _ _ ⟨rfl,rfl⟩
 cases hr:f.right
 ·simp -implicitDefEqProofs -dsimp only [go_sem]
  exact yQ0 ⟨by simp [fmB,hr],rfl⟩
 ·simp -implicitDefEqProofs -dsimp only [go_sem]
  refine (h2 _).mono ?_
  rintro _ _ ⟨rfl,rfl⟩
  simp -implicitDefEqProofs -dsimp only [go_sem]
  exact yQ0 ⟨by simp [fmB,hr],rfl⟩
theorem wZ6 (G:Gl gl) (f g:Fm) (x y:IV) (hx:IsFm f x) (hy:IsFm g y) (hs:f.size ≤ 1000000) (hs':g.size ≤ 1000000) (st:ISt) :
  ICall prog gl 70 [x,y] st (fun r st' => r = .raw (.bool (eqF f g)) ∧ st' = st):=by
 have h1:=fun st => wGu gl G f g x y hx hy hs hs' st
 obtain ⟨o,n,us,sub⟩:=f
 obtain ⟨o',n',us',sub'⟩:=g
 obtain ⟨t1,x1,t2,x2,rfl,_⟩:=hx.mk
 obtain ⟨t3,x3,t4,x4,rfl,_⟩:=hy.mk
 refine iI func70 rfl rfl (by kernel_rfl) ?_
 by_cases ho:o = o'
 ·subst ho
  simp -implicitDefEqProofs -dsimp only [go_sem,decide_true]
  refine (h1 _).mono ?_
  rintro _ _ ⟨rfl,rfl⟩
  simp -implicitDefEqProofs -dsimp only [go_sem]
  exact yQ0 ⟨by simp [eqF,Fm.op],rfl⟩
 ·have e:decide ((o:Int) = (o':Int)) = false:=dEf (by omega)
  simp -implicitDefEqProofs -dsimp only [go_sem,e]
  exact yQ0 ⟨by simp [eqF,Fm.op,ho],rfl⟩
theorem xJh (g:FuncId) (caps:List IV) (he:entI prog g = true) (us:List Fm) (p:Fm → Bool) (hp:∀ a ∈ us,∀ x,IsFm a x → ∀ st,ICall prog gl g (x :: caps) st (fun r st' => r = .raw (.bool (p a)) ∧ st' = st))
  (tg:Tag) (xs:List IV) (htg:okEs tg 4) (hxs:IsFms us xs) (st:ISt) :
  ICall prog gl 155 [.sl tg xs,.fn (.func g) [] caps] st (fun r st' => (∃ n:Int,r = .raw (.int .i64 n) ∧ decide (0 ≤ n) = us.any p) ∧ st' = st):=by
 refine iI func155 rfl rfl (by kernel_rfl) ?_
 simp -implicitDefEqProofs -dsimp only [go_sem,hxs.len]
 intro _
 refine LoopC.ctr us.length (fun k fr st' ds => (us.take k).any p = false ∧ fr 0 = .iv (.sl tg xs) ∧ fr 1 = .iv (.fn (.func g) [] caps) ∧ fr 7 = .iv (.raw (.int .i64 us.length)) ∧ fr 8 = .iv (.raw (.int .i64 k)) ∧ st' = st ∧ ds = []) ?_ ?_ ?_
 ·simp -implicitDefEqProofs -dsimp only [go_sem]
  exact ⟨rfl,rfl⟩
 ·rintro k fr st1 _ hlt ⟨hn,f0,f1,f7,f8,rfl,rfl⟩
  obtain ⟨a,ha⟩:=yQ3 hlt
  obtain ⟨y,hky,hy⟩:=hxs.get ha
  have hcall:=hp a (lMg ha) y hy st1
  obtain ⟨o5,n5,t5,x5,t6,x6,rfl⟩:=hy.agg
  simp -implicitDefEqProofs -dsimp only [go_sem,f0,f1,f7,f8,lt_i hlt,yQ2 htg,iNn,hky,fits,he]
  refine hcall.mono ?_
  rintro _ _ ⟨rfl,rfl⟩
  cases hr:p a
  ·simp -implicitDefEqProofs -dsimp only [go_sem,f0,f1,f7,f8,yQ9 hlt (show us.length ≤ 281474976710656 by omega)]
   rw [yQ4 ha,List.any_append,hn]
   simp [hr]
  ·simp -implicitDefEqProofs -dsimp only [go_sem]
   refine yQ0 ⟨⟨_,rfl,?_⟩,rfl⟩
   rw [dEt (iNn k)]
   exact (List.any_eq_true.2 ⟨a,lMg ha,hr⟩).symm
 ·rintro fr st1 _ ⟨hn,f0,f1,f7,f8,rfl,rfl⟩
  rw [lTl] at hn
  simp -implicitDefEqProofs -dsimp only [go_sem,f7,f8,yQm (nLi _)]
  exact yQ0 ⟨⟨_,rfl,by rw [hn]; rfl⟩,rfl⟩
theorem yWc (g:FuncId) (caps:List IV) (he:entI prog g = true) (us:List Fm) (p:Fm → Bool) (hp:∀ a ∈ us,∀ x,IsFm a x → ∀ st,ICall prog gl g (x :: caps) st (fun r st' => r = .raw (.bool (p a)) ∧ st' = st))
  (tg:Tag) (xs:List IV) (htg:okEs tg 4) (hxs:IsFms us xs) (st:ISt) :
  ICall prog gl 101 [.sl tg xs,.fn (.func g) [] caps] st (fun r st' => r = .raw (.bool (us.any p)) ∧ st' = st):=by
 refine iI func101 rfl rfl (by kernel_rfl) ?_
 simp -implicitDefEqProofs -dsimp only [go_sem]
 refine (xJh gl g caps he us p hp tg xs htg hxs _).mono ?_
 rintro _ _ ⟨⟨n,rfl,hn⟩,rfl⟩
 simp -implicitDefEqProofs -dsimp only [go_sem,hn]
 exact yQ0 ⟨rfl,rfl⟩
theorem vJ4 (G:Gl gl) (f g:Fm) (x y:IV) (hx:IsFm f x) (hy:IsFm g y) (hs:f.size ≤ 1000000) (hs':g.size ≤ 1000000) (st:ISt) :
  ICall prog gl 102 [y,.cptr x] st (fun r st' => r = .raw (.bool (eqF f g)) ∧ st' = st):=by
 have h1:=fun st => wZ6 gl G f g x y hx hy hs hs' st
 obtain ⟨o5,n5,t5,x5,t6,x6,rfl⟩:=hx.agg
 obtain ⟨o7,n7,t7,x7,t8,x8,rfl⟩:=hy.agg
 refine iI func102 rfl rfl (by kernel_rfl) ?_
 simp -implicitDefEqProofs -dsimp only [go_sem,fits]
 refine (h1 _).mono ?_
 rintro _ _ ⟨rfl,rfl⟩
 simp -implicitDefEqProofs -dsimp only [go_sem]
 exact yQ0 ⟨rfl,rfl⟩
theorem wX4 (G:Gl gl) (l:List Fm) (f:Fm) (tg:Tag) (xs:List IV) (x:IV) (htg:okEs tg 4) (hxs:IsFms l xs) (hx:IsFm f x) (hl:fitL l) (hs:f.size ≤ 1000000) (st:ISt) :
  ICall prog gl 43 [.sl tg xs,x] st (fun r st' => r = .raw (.bool (hasF l f)) ∧ st' = st):=by
 have h1:=fun st => yWc gl 102 [.cptr x] (by simp only [go_sem]) l (eqF f) (fun a ha y hy st => vJ4 gl G f a x y hx hy hs (hl a ha) st) tg xs htg hxs st
 obtain ⟨o5,n5,t5,x5,t6,x6,rfl⟩:=hx.agg
 refine ICall.intro (c:=cf prog gl [] [] [3]) func43 rfl (by show _ ≤ 8; simp) (by kernel_rfl) ?_
 simp -implicitDefEqProofs -dsimp only [go_sem,fits]
 refine (h1 _).mono ?_
 rintro _ _ ⟨rfl,rfl⟩
 simp -implicitDefEqProofs -dsimp only [go_sem]
 exact yQ0 ⟨rfl,rfl⟩
theorem vXu (G:Gl gl) (l m:List Fm) (t t':Tag) (xs ys:List IV) (ht:okEs t 4) (ht':okEs t' 4) (hxs:IsFms l xs) (hys:IsFms m ys) (hl:fitL l) (hm:fitL m) (st:ISt) :
  ICall prog gl 100 [.sl t xs,.sl t' ys] st (fun r st' => r = .raw (.bool (allF l m)) ∧ st' = st):=by
 refine iI func100 rfl rfl (by kernel_rfl) ?_
 simp -implicitDefEqProofs -dsimp only [go_sem,hxs.len]
 intro _
 refine LoopC.ctr l.length (fun k fr st' ds => (l.take k).all (hasF m) = true ∧ fr 1 = .iv (.sl t' ys) ∧ fr 7 = .iv (.sl t xs) ∧ fr 8 = .iv (.raw (.int .i64 l.length)) ∧ fr 9 = .iv (.raw (.int .i64 k)) ∧ st' = st ∧ ds = []) ?_ ?_ ?_
 ·simp -implicitDefEqProofs -dsimp only [go_sem]
  rfl
 ·rintro k fr st1 _ hlt ⟨hn,f1,f7,f8,f9,rfl,rfl⟩
  obtain ⟨a,ha⟩:=yQ3 hlt
  obtain ⟨y,hky,hy⟩:=hxs.get ha
  have hcall:=wX4 gl G m a t' ys y ht' hys hy hm (hl a (lMg ha)) st1
  obtain ⟨o5,n5,t5,x5,t6,x6,rfl⟩:=hy.agg
  simp -implicitDefEqProofs -dsimp only [go_sem,f1,f7,f8,f9,lt_i hlt,yQ2 ht,iNn,hky,fits]
  refine hcall.mono ?_
  rintro _ _ ⟨rfl,rfl⟩
  cases hr:hasF m a
  ·simp -implicitDefEqProofs -dsimp only [go_sem]
   refine yQ0 ⟨?_,rfl⟩
   have:allF l m = false:=by
    unfold allF
    rw [List.all_eq_false]
    exact ⟨a,lMg ha,by simp [hr]⟩
   rw [this]
  ·simp -implicitDefEqProofs -dsimp only [go_sem,f1,f7,f8,f9,yQ9 hlt (show l.length ≤ 281474976710656 by omega)]
   rw [yQ4 ha,List.all_append,hn]
   simp [hr]
 ·rintro fr st1 _ ⟨hn,f1,f7,f8,f9,rfl,rfl⟩
  rw [lTl] at hn
  simp -implicitDefEqProofs -dsimp only [go_sem,f8,f9,yQm (nLi _)]
  exact yQ0 ⟨by rw [show allF l m = true from hn],rfl⟩
def yY4 (s:Sq):Prop:=fitL s.l ∧ fitL s.r
theorem wKn (G:Gl gl) (a b:Sq) (x y:IV) (hx:IsSq a x) (hy:IsSq b y) (ha:yY4 a) (hb:yY4 b) (st:ISt):ICall prog gl 40 [x,y] st (fun r st' => r = .raw (.bool (yJm a b)) ∧ st' = st):=by
 obtain ⟨t1,x1,t2,x2,rfl,e1,i1,e2,i2⟩:=hx
 obtain ⟨t3,x3,t4,x4,rfl,e3,i3,e4,i4⟩:=hy
 refine iI func40 rfl rfl (by kernel_rfl) ?_
 simp -implicitDefEqProofs -dsimp only [go_sem]
 refine (vXu gl G a.l b.l t1 t3 x1 x3 e1 e3 i1 i3 ha.1 hb.1 _).mono ?_
 rintro _ _ ⟨rfl,rfl⟩
 cases hr:allF a.l b.l
 ·simp -implicitDefEqProofs -dsimp only [go_sem]
  exact yQ0 ⟨by simp [yJm,hr],rfl⟩
 ·simp -implicitDefEqProofs -dsimp only [go_sem]
  refine (vXu gl G a.r b.r t2 t4 x2 x4 e2 e4 i2 i4 ha.2 hb.2 _).mono ?_
  rintro _ _ ⟨rfl,rfl⟩
  simp -implicitDefEqProofs -dsimp only [go_sem]
  exact yQ0 ⟨by simp [yJm,hr],rfl⟩
theorem yGg (a b:Int) (v:IV):∀ es:List (Value × IV),yV9 (.int .u8 a) (updI (.int .u8 b) v es) = if a = b then some v else yV9 (.int .u8 a) es
 | [] => by
  simp only [updI,yV9,yYt]
  by_cases h:a = b <;> simp [h]
 | (x,u) :: es => by
  simp only [updI]
  by_cases hk:yYt (.int .u8 b) x = true
  ·rw [if_pos hk]
   have hx:∀ c,yYt (.int .u8 c) x = decide (c = b):=fun c => by
    cases x <;> simp [yYt] at hk ⊢
    rw [hk]
   have e:yYt (.int .u8 a) (.int .u8 b) = decide (a = b):=rfl
   simp only [yV9,e,hx]
   by_cases h:a = b <;> simp [h]
  ·rw [if_neg hk]
   simp only [yV9]
   rw [yGg a b v es]
   by_cases h:a = b
   ·subst h; simp [hk]
   ·simp [h]
def zVb (ca rule:Nat):Nat :=
 if ca = 2 ∧ rule = 18 then 149 else if ca = 2 ∧ rule = 8 then 147
 else if rule = 13 ∨ rule = 15 then 150 else if rule = 14 ∨ rule = 16 then 152
 else if rule = 1 then 204 else if rule = 2 then 205 else if rule = 3 then 206 else if rule = 4 then 207
 else if rule = 5 then 208 else if rule = 6 then 209 else if rule = 7 then 210 else if rule = 8 then 211
 else if rule = 9 then 212 else if rule = 10 then 213 else if rule = 11 then 214 else if rule = 12 then 216
 else 217
def rwI (ca rule:Nat) (r:Rw):IV:=.agg [.raw (.bool r.left),.raw (.bool r.right),.raw (.int .u8 r.op),.raw (.int .u8 r.asks),.fn (.func (zVb ca rule)) [] []]
def rwL (a b:Bool) (op asks id:Nat):IV:=.agg [.raw (.bool a),.raw (.bool b),.raw (.int .u8 op),.raw (.int .u8 asks),.fn (.func id) [] []]
def zVs:List (Value × IV) :=
 updI (.int .u8 17) (rwL false false 0 0 217) <| updI (.int .u8 12) (rwL false true 7 0 216) <| updI (.int .u8 11) (rwL true false 7 0 214) <|
 updI (.int .u8 10) (rwL false true 6 0 213) <| updI (.int .u8 9) (rwL true false 6 0 212) <| updI (.int .u8 8) (rwL false true 5 0 211) <|
 updI (.int .u8 7) (rwL true false 5 0 210) <| updI (.int .u8 6) (rwL false true 4 0 209) <| updI (.int .u8 5) (rwL true false 4 0 208) <|
 updI (.int .u8 4) (rwL false true 3 0 207) <| updI (.int .u8 3) (rwL true false 3 0 206) <| updI (.int .u8 2) (rwL true false 2 0 205) <|
 updI (.int .u8 1) (rwL true true 0 0 204) []
def zQ0 (ca:Nat):List (Value × IV) :=
 if ca = 2 then updI (.int .u8 18) (rwL false true 5 0 149) <| updI (.int .u8 8) (rwL false true 5 0 147) zVs
 else if ca = 3 then updI (.int .u8 16) (rwL false true 9 1 152) <| updI (.int .u8 15) (rwL true false 9 2 150) <| updI (.int .u8 14) (rwL false true 8 2 152) <|
  updI (.int .u8 13) (rwL true false 8 1 150) zVs
 else zVs
theorem wYb (st:ISt):ICall prog gl 146 [] st (fun r st' => ∃ b,st b = none ∧ r = .raw (.map (some b)) ∧ st' = st.put b (some (.map (.int .u8) zVs))):=by
 refine iI func146 rfl rfl (by kernel_rfl) ?_
 simp -implicitDefEqProofs -dsimp only [go_sem,fits]
 refine fun b => yQi fun hb => ?_
 simp -implicitDefEqProofs -dsimp only [go_sem,fits,yQc]
 exact yQ0 ⟨b,hb,rfl,rfl⟩
theorem wY0 (ca:Nat) (st:ISt):ICall prog gl 98 [.raw (.int .u8 ca)] st (fun r st' => ∃ b,st b = none ∧ r = .raw (.map (some b)) ∧ st' = st.put b (some (.map (.int .u8) (zQ0 ca)))):=by
 refine iI func98 rfl rfl (by kernel_rfl) ?_
 simp -implicitDefEqProofs -dsimp only [go_sem]
 refine (wYb gl _).mono ?_
 rintro _ _ ⟨b,hb,rfl,rfl⟩
 by_cases h2:ca = 2
 ·have e2:decide ((ca:Int) = 2) = true:=dEt (by omega)
  simp -implicitDefEqProofs -dsimp only [go_sem,e2,fits,ISt.put_same,yQc]
  exact yQ0 ⟨b,hb,rfl,by rw [zQ0,if_pos h2]; rfl⟩
 ·have e2:decide ((ca:Int) = 2) = false:=dEf (by omega)
  by_cases h3:ca = 3
  ·have e3:decide ((ca:Int) = 3) = true:=dEt (by omega)
   simp -implicitDefEqProofs -dsimp only [go_sem,e2,e3,fits,ISt.put_same,yQc]
   exact yQ0 ⟨b,hb,rfl,by rw [zQ0,if_neg h2,if_pos h3]; rfl⟩
  ·have e3:decide ((ca:Int) = 3) = false:=dEf (by omega)
   simp -implicitDefEqProofs -dsimp only [go_sem,e2,e3]
   exact yQ0 ⟨b,hb,rfl,by rw [zQ0,if_neg h2,if_neg h3]⟩
theorem xX2 (rule:Nat):yV9 (.int .u8 rule) zVs = (rowK rule).map fun r => .agg [.raw (.bool r.left),.raw (.bool r.right),.raw (.int .u8 r.op),.raw (.int .u8 r.asks),.fn (.func (zVb 1 rule)) [] []]:=by
 unfold zVs
 simp only [yGg]
 by_cases h:rule ≤ 18
 ·rcases (show rule = 0 ∨ rule = 1 ∨ rule = 2 ∨ rule = 3 ∨ rule = 4 ∨ rule = 5 ∨ rule = 6 ∨ rule = 7 ∨ rule = 8 ∨ rule = 9 ∨ rule = 10 ∨ rule = 11 ∨ rule = 12 ∨ rule = 13 ∨ rule = 14 ∨ rule = 15 ∨ rule = 16 ∨ rule = 17 ∨ rule = 18 by omega) with
   rfl | rfl | rfl | rfl | rfl | rfl | rfl | rfl | rfl | rfl | rfl | rfl | rfl | rfl | rfl | rfl | rfl | rfl | rfl <;> rfl
 ·have hn:rowK rule = none:=by unfold rowK; repeat (rw [if_neg (by omega)])
  rw [hn]
  repeat (rw [if_neg (by omega)])
  rfl
theorem zJ5 (ca rule:Nat):yV9 (.int .u8 rule) (zQ0 ca) = (rowS ca rule).map (rwI ca rule):=by
 have hp:=xX2 rule
 by_cases h:rule ≤ 18
 ·have hr:rule = 0 ∨ rule = 1 ∨ rule = 2 ∨ rule = 3 ∨ rule = 4 ∨ rule = 5 ∨ rule = 6 ∨ rule = 7 ∨ rule = 8 ∨ rule = 9 ∨ rule = 10 ∨ rule = 11 ∨ rule = 12 ∨ rule = 13 ∨ rule = 14 ∨ rule = 15 ∨ rule = 16 ∨ rule = 17 ∨ rule = 18:=by omega
  by_cases h2:ca = 2
  ·subst h2
   simp only [zQ0,if_true,yGg,hp]
   rcases hr with rfl | rfl | rfl | rfl | rfl | rfl | rfl | rfl | rfl | rfl | rfl | rfl | rfl | rfl | rfl | rfl | rfl | rfl | rfl <;> rfl
  ·by_cases h3:ca = 3
   ·subst h3
    simp only [zQ0,if_true,if_neg h2,yGg,hp]
    rcases hr with rfl | rfl | rfl | rfl | rfl | rfl | rfl | rfl | rfl | rfl | rfl | rfl | rfl | rfl | rfl | rfl | rfl | rfl | rfl <;> rfl
   ·have hk:rowS ca rule = rowK rule:=by
     unfold rowS; rw [if_neg (by omega),if_neg (by omega),if_neg (by omega),if_neg (by omega),if_neg (by omega)]
    have hi:∀ r,rowK rule = some r → zVb 1 rule = zVb ca rule:=fun _ _ => by
     unfold zVb
     rw [if_neg (by omega),if_neg (by omega)]
     conv => rhs; rw [if_neg (by omega),if_neg (by omega)]
    simp only [zQ0,if_neg h2,if_neg h3,hp,hk]
    cases hq:rowK rule with
    | none => rfl
    | some r => simp only [Option.map_some,rwI,hi r hq]
 ·have hn:rowS ca rule = none:=by
   unfold rowS
   rw [if_neg (by omega),if_neg (by omega),if_neg (by omega),if_neg (by omega),if_neg (by omega)]
   unfold rowK; repeat (rw [if_neg (by omega)])
  have hk:rowK rule = none:=by unfold rowK; repeat (rw [if_neg (by omega)])
  rw [hk] at hp
  rw [hn]
  unfold zQ0
  split
  ·simp only [yGg,hp]; repeat (rw [if_neg (by omega)])
   rfl
  ·split
   ·simp only [yGg,hp]; repeat (rw [if_neg (by omega)])
    rfl
   ·rw [hp]; rfl
theorem wKm {ca rule:Nat} {r:Rw} (h:rowS ca rule = some r):yYd gl (zVb ca rule) (addS ca rule) ∧ entI prog (zVb ca rule) = true:=by
 have hr:rule ≤ 18:=by
  refine Classical.byContradiction fun hc => ?_
  have hn:rowS ca rule = none:=by
   unfold rowS
   rw [if_neg (by omega),if_neg (by omega),if_neg (by omega),if_neg (by omega),if_neg (by omega)]
   unfold rowK; repeat (rw [if_neg (by omega)])
  rw [hn] at h; cases h
 have hcas:rule = 0 ∨ rule = 1 ∨ rule = 2 ∨ rule = 3 ∨ rule = 4 ∨ rule = 5 ∨ rule = 6 ∨ rule = 7 ∨ rule = 8 ∨ rule = 9 ∨ rule = 10 ∨ rule = 11 ∨ rule = 12 ∨ rule = 13 ∨ rule = 14 ∨ rule = 15 ∨ rule = 16 ∨ rule = 17 ∨ rule = 18:=by omega
 by_cases h2:ca = 2
 ·subst h2
  rcases hcas with rfl | rfl | rfl | rfl | rfl | rfl | rfl | rfl | rfl | rfl | rfl | rfl | rfl | rfl | rfl | rfl | rfl | rfl | rfl
  all_goals first | (cases h; done) | exact ⟨wZy gl,by kernel_rfl⟩ | exact ⟨wZx gl,by kernel_rfl⟩ | exact ⟨wZw gl,by kernel_rfl⟩ | exact ⟨wZv gl,by kernel_rfl⟩ | exact ⟨wZu gl,by kernel_rfl⟩ | exact ⟨wZt gl,by kernel_rfl⟩ | exact ⟨wZs gl,by kernel_rfl⟩ | exact ⟨wZr gl,by kernel_rfl⟩ | exact ⟨xJ9 gl,by kernel_rfl⟩ | exact ⟨wZq gl,by kernel_rfl⟩ | exact ⟨xJe gl,by kernel_rfl⟩ | exact ⟨xJd gl,by kernel_rfl⟩ | exact ⟨xJc gl,by kernel_rfl⟩ | exact ⟨xJb gl,by kernel_rfl⟩ | exact ⟨xJa gl,by kernel_rfl⟩ | exact ⟨wZp gl,by kernel_rfl⟩ | exact ⟨wZo gl,by kernel_rfl⟩
 ·by_cases h3:ca = 3
  ·subst h3
   rcases hcas with rfl | rfl | rfl | rfl | rfl | rfl | rfl | rfl | rfl | rfl | rfl | rfl | rfl | rfl | rfl | rfl | rfl | rfl | rfl
   all_goals first | (cases h; done) | exact ⟨wZy gl,by kernel_rfl⟩ | exact ⟨wZx gl,by kernel_rfl⟩ | exact ⟨wZw gl,by kernel_rfl⟩ | exact ⟨wZv gl,by kernel_rfl⟩ | exact ⟨wZu gl,by kernel_rfl⟩ | exact ⟨wZt gl,by kernel_rfl⟩ | exact ⟨wZs gl,by kernel_rfl⟩ | exact ⟨wZr gl,by kernel_rfl⟩ | exact ⟨xJ9 gl,by kernel_rfl⟩ | exact ⟨wZq gl,by kernel_rfl⟩ | exact ⟨xJe gl,by kernel_rfl⟩ | exact ⟨xJd gl,by kernel_rfl⟩ | exact ⟨xJc gl,by kernel_rfl⟩ | exact ⟨xJb gl,by kernel_rfl⟩ | exact ⟨xJa gl,by kernel_rfl⟩ | exact ⟨wZp gl,by kernel_rfl⟩ | exact ⟨wZo gl,by kernel_rfl⟩
  ·have hk:rowS ca rule = rowS 1 rule:=by
    unfold rowS
    rw [if_neg (by omega),if_neg (by omega),if_neg (by omega),if_neg (by omega),if_neg (by omega)]
    conv => rhs; rw [if_neg (by omega),if_neg (by omega),if_neg (by omega),if_neg (by omega),if_neg (by omega)]
   have hi:zVb ca rule = zVb 1 rule:=by
    unfold zVb
    rw [if_neg (by omega),if_neg (by omega)]
    conv => rhs; rw [if_neg (by omega),if_neg (by omega)]
   have hs:addS ca rule = addS 1 rule:=by
    funext m a b
    unfold addS
    rw [if_neg h2,if_neg (show ¬ (1:Nat) = 2 by decide)]
   rw [hk] at h
   rw [hi,hs]
   rcases hcas with rfl | rfl | rfl | rfl | rfl | rfl | rfl | rfl | rfl | rfl | rfl | rfl | rfl | rfl | rfl | rfl | rfl | rfl | rfl
   all_goals first | (cases h; done) | exact ⟨wZy gl,by kernel_rfl⟩ | exact ⟨wZx gl,by kernel_rfl⟩ | exact ⟨wZw gl,by kernel_rfl⟩ | exact ⟨wZv gl,by kernel_rfl⟩ | exact ⟨wZu gl,by kernel_rfl⟩ | exact ⟨wZt gl,by kernel_rfl⟩ | exact ⟨wZs gl,by kernel_rfl⟩ | exact ⟨wZr gl,by kernel_rfl⟩ | exact ⟨xJ9 gl,by kernel_rfl⟩ | exact ⟨wZq gl,by kernel_rfl⟩ | exact ⟨xJe gl,by kernel_rfl⟩ | exact ⟨xJd gl,by kernel_rfl⟩ | exact ⟨xJc gl,by kernel_rfl⟩ | exact ⟨xJb gl,by kernel_rfl⟩ | exact ⟨xJa gl,by kernel_rfl⟩ | exact ⟨wZp gl,by kernel_rfl⟩ | exact ⟨wZo gl,by kernel_rfl⟩
noncomputable def rB (ca:Nat) (a0 f:Fm):Bool:=fmB ca f && (decide (ca ≠ 2) || eqF f a0)
theorem wVd (ca:Nat) (a0:Fm):∀ l:List Fm,l.all (rB ca a0) = (l.all (fmB ca) && (decide (ca ≠ 2) || l.all fun f => eqF f a0))
 | [] => by simp
 | f :: l => by
  simp only [List.all_cons,wVd ca a0 l,rB]
  cases fmB ca f <;> cases l.all (fmB ca) <;> cases decide (ca ≠ 2) <;> simp
theorem xG7 (ca:Nat) (s:Sq):yX8 ca s = (yXi ca && decide (s.l.length ≤ 64) && decide (s.r.length ≤ 64) && s.l.all (fmB ca) && s.r.all (rB ca (s.r.headD fm0))):=by
 rw [wVd]
 unfold yX8 zZ7
 cases s.r with
 | nil => simp
 | cons a l => simp only [List.headD_cons,Bool.and_assoc]
theorem wGm (G:Gl gl) (ca:Nat) (s:Sq) (x:IV) (hx:IsSq s x) (hs:yY4 s) (st:ISt):ICall prog gl 22 [.raw (.int .u8 ca),x] st (fun r st' => r = .raw (.bool (yX8 ca s)) ∧ st' = st):=by
 obtain ⟨l,r⟩:=s
 obtain ⟨t1,x1,t2,x2,rfl,e1,i1,e2,i2⟩:=hx
 obtain ⟨hl,hr⟩:=hs
 simp only at i1 i2 hl hr
 rw [xG7]
 simp only
 refine iI func22 rfl rfl (by kernel_rfl) ?_
 simp -implicitDefEqProofs -dsimp only [go_sem]
 refine (xXk gl ca _).mono ?_
 rintro _ st ⟨rfl,rfl⟩
 cases hk:yXi ca
 ·simp -implicitDefEqProofs -dsimp only [go_sem]
  exact yQ0 ⟨by simp,rfl⟩
 by_cases h1:l.length ≤ 64
 case neg =>
  have e:decide ((64:Int) < (l.length:Int)) = true:=dEt (by omega)
  simp -implicitDefEqProofs -dsimp only [go_sem,i1.len,e]
  intro _
  exact yQ0 ⟨by simp [h1],rfl⟩
 by_cases h2:r.length ≤ 64
 case neg =>
  have e:decide ((64:Int) < (l.length:Int)) = false:=dEf (by omega)
  have e':decide ((64:Int) < (r.length:Int)) = true:=dEt (by omega)
  simp -implicitDefEqProofs -dsimp only [go_sem,i1.len,i2.len,e,e']
  intro _ _
  exact yQ0 ⟨by simp [h2],rfl⟩
 have e:decide ((64:Int) < (l.length:Int)) = false:=dEf (by omega)
 have e':decide ((64:Int) < (r.length:Int)) = false:=dEf (by omega)
 simp -implicitDefEqProofs -dsimp only [go_sem,i1.len,i2.len,e,e']
 intros
 refine LoopC.ctr l.length (fun k fr st' ds => (l.take k).all (fmB ca) = true ∧ fr 0 = .iv (.raw (.int .u8 ca)) ∧ fr 3 = .box [.sl t1 x1,.sl t2 x2] ∧ fr 25 = .iv (.sl t1 x1) ∧ fr 26 = .iv (.raw (.int .i64 l.length)) ∧ fr 27 = .iv (.raw (.int .i64 k)) ∧ st' = st ∧ ds = []) ?_ ?_ ?_
 ·simp -implicitDefEqProofs -dsimp only [go_sem]
  first | rfl | exact ⟨rfl,rfl⟩
 ·rintro k fr st1 _ hlt ⟨hn,f0,f3,f25,f26,f27,rfl,rfl⟩
  obtain ⟨a,ha⟩:=yQ3 hlt
  obtain ⟨y,hky,hy⟩:=i1.get ha
  have hcall:=zK1 gl G ca a y hy (hl a (lMg ha)) st1
  obtain ⟨o5,n5,t5,x5,t6,x6,rfl⟩:=hy.agg
  simp -implicitDefEqProofs -dsimp only [go_sem,f0,f3,f25,f26,f27,lt_i hlt,yQ2 e1,iNn,hky,fits]
  refine hcall.mono ?_
  rintro _ _ ⟨rfl,rfl⟩
  cases hr:fmB ca a
  ·simp -implicitDefEqProofs -dsimp only [go_sem]
   refine yQ0 ⟨?_,rfl⟩
   have:l.all (fmB ca) = false:=List.all_eq_false.2 ⟨a,lMg ha,by simp [hr]⟩
   simp [this]
  ·simp -implicitDefEqProofs -dsimp only [go_sem,f0,f3,f25,f26,f27,yQ9 hlt (show l.length ≤ 281474976710656 by omega)]
   rw [yQ4 ha,List.all_append,hn]
   simp [hr]
 ·rintro fr st1 _ ⟨hn,f0,f3,f25,f26,f27,rfl,rfl⟩
  rw [lTl] at hn
  simp -implicitDefEqProofs -dsimp only [go_sem,f0,f3,f25,f26,f27,i2.len,yQm (nLi _)]
  intro _
  refine LoopC.ctr r.length (fun k fr st' ds => (r.take k).all (rB ca (r.headD fm0)) = true ∧ fr 0 = .iv (.raw (.int .u8 ca)) ∧ fr 3 = .box [.sl t1 x1,.sl t2 x2] ∧ fr 37 = .iv (.sl t2 x2) ∧ fr 38 = .iv (.raw (.int .i64 r.length)) ∧ fr 39 = .iv (.raw (.int .i64 k)) ∧ st' = st1 ∧ ds = []) ?_ ?_ ?_
  ·simp -implicitDefEqProofs -dsimp only [go_sem,f0,f3]
   first | rfl | exact ⟨rfl,rfl⟩
  ·rintro k fr st2 _ hlt ⟨hm,f0,f3,f37,f38,f39,rfl,rfl⟩
   obtain ⟨a,ha⟩:=yQ3 hlt
   obtain ⟨y,hky,hy⟩:=i2.get ha
   obtain ⟨a0,ha0⟩:=yQ3 (show 0 < r.length by omega)
   obtain ⟨y0,hky0,hy0⟩:=i2.get ha0
   have hd0:r.headD fm0 = a0:=by cases r with | nil => cases ha0 | cons b r => simpa using ha0
   have hcall:=zK1 gl G ca a y hy (hr a (lMg ha)) st2
   have heq:=fun st => wZ6 gl G a a0 y y0 hy hy0 (hr a (lMg ha)) (hr a0 (lMg ha0)) st
   rw [hd0] at hm ⊢
   have hout:rB ca a0 a = false → r.all (rB ca a0) = false:=fun hb => List.all_eq_false.2 ⟨a,lMg ha,by simp [hb]⟩
   have hin:rB ca a0 a = true → (r.take (k + 1)).all (rB ca a0) = true:=fun hb => by
    rw [yQ4 ha,List.all_append,hm]
    simp [hb]
   obtain ⟨o5,n5,t5,x5,t6,x6,rfl⟩:=hy.agg
   obtain ⟨o7,n7,t7,x7,t8,x8,rfl⟩:=hy0.agg
   simp -implicitDefEqProofs -dsimp only [go_sem,f0,f3,f37,f38,f39,lt_i hlt,yQ2 e2,iNn,hky,fits]
   refine hcall.mono ?_
   rintro _ _ ⟨rfl,rfl⟩
   cases hr:fmB ca a
   ·simp -implicitDefEqProofs -dsimp only [go_sem]
    exact yQ0 ⟨by rw [hout (by simp [rB,hr])]; simp,rfl⟩
   by_cases hj:ca = 2
   ·have ej:decide ((ca:Int) = 2) = true:=dEt (by omega)
    simp -implicitDefEqProofs -dsimp only [go_sem,ej,f0,f3,yQ2 e2,hky0,fits,Int.le_refl,Int.toNat_zero]
    refine (heq _).mono ?_
    rintro _ _ ⟨rfl,rfl⟩
    cases hq:eqF a a0
    ·simp -implicitDefEqProofs -dsimp only [go_sem]
     exact yQ0 ⟨by rw [hout (by simp [rB,hj,hq])]; simp,rfl⟩
    ·simp -implicitDefEqProofs -dsimp only [go_sem,f0,f3,f37,f38,f39,yQ9 hlt (show r.length ≤ 281474976710656 by omega)]
     exact hin (by simp [rB,hr,hq])
   ·have ej:decide ((ca:Int) = 2) = false:=dEf (by omega)
    simp -implicitDefEqProofs -dsimp only [go_sem,ej,f0,f3,f37,f38,f39,yQ9 hlt (show r.length ≤ 281474976710656 by omega)]
    exact hin (by simp [rB,hr,hj])
  ·rintro fr st2 _ ⟨hm,f0,f3,f37,f38,f39,rfl,rfl⟩
   rw [lTl] at hm
   simp -implicitDefEqProofs -dsimp only [go_sem,f38,f39,yQm (nLi _)]
   exact yQ0 ⟨by rw [hn,hm]; simp [h1,h2],rfl⟩
theorem xYw (tg:Tag) (htg:okEs tg 1) (l:List ByteArray) (s:ByteArray) (st:ISt):ICall prog gl 200 [.sl tg (strI l),.raw (.string s)] st (fun r st' => r = .raw (.bool (memB l s)) ∧ st' = st):=by
 have hidx:ICall prog gl 270 [.sl tg (strI l),.raw (.string s)] st (fun r st' => (∃ n:Int,r = .raw (.int .i64 n) ∧ decide (0 ≤ n) = memB l s) ∧ st' = st):=by
  refine iI func270 rfl rfl (by kernel_rfl) ?_
  simp -implicitDefEqProofs -dsimp only [go_sem,yQq]
  intro _
  refine LoopC.ctr l.length (fun k fr st' ds => memB (l.take k) s = false ∧ fr 0 = .iv (.sl tg (strI l)) ∧ fr 1 = .iv (.raw (.string s)) ∧ fr 7 = .iv (.raw (.int .i64 l.length)) ∧ fr 8 = .iv (.raw (.int .i64 k)) ∧ st' = st ∧ ds = []) ?_ ?_ ?_
  ·simp -implicitDefEqProofs -dsimp only [go_sem]
   exact ⟨rfl,rfl⟩
  ·rintro k fr st1 _ hlt ⟨hn,f0,f1,f7,f8,rfl,rfl⟩
   obtain ⟨a,ha⟩:=yQ3 hlt
   by_cases hr:s = a
   ·subst hr
    simp -implicitDefEqProofs -dsimp only [go_sem,f0,f1,f7,f8,lt_i hlt,yQ2 htg,iNn,yK0 ha,fits,decide_true]
    refine yQ0 ⟨⟨_,rfl,?_⟩,rfl⟩
    rw [dEt (iNn k)]
    exact (yX4.2 (lMg ha)).symm
   ·simp -implicitDefEqProofs -dsimp only [go_sem,f0,f1,f7,f8,lt_i hlt,yQ2 htg,iNn,yK0 ha,fits,dEf hr,yQ9 hlt (show l.length ≤ 281474976710656 by omega)]
    rw [zQ4] at hn ⊢
    rw [yQ4 ha,List.mem_append,List.mem_singleton]
    rintro (h | h)
    ·exact hn h
    ·exact hr h
  ·rintro fr st1 _ ⟨hn,f0,f1,f7,f8,rfl,rfl⟩
   rw [lTl] at hn
   simp -implicitDefEqProofs -dsimp only [go_sem,f7,f8,yQm (nLi _)]
   exact yQ0 ⟨⟨_,rfl,by rw [hn]; rfl⟩,rfl⟩
 refine iI func200 rfl rfl (by kernel_rfl) ?_
 simp -implicitDefEqProofs -dsimp only [go_sem]
 refine hidx.mono ?_
 rintro _ _ ⟨⟨n,rfl,hn⟩,rfl⟩
 simp -implicitDefEqProofs -dsimp only [go_sem,hn]
 exact yQ0 ⟨rfl,rfl⟩
theorem wQr (T:Gt gl) (f:Fm) (y:IV) (hy:IsFm f y) (hs:f.size ≤ 1000000) (hf:f.right = true) (s:ByteArray) (st:ISt) :
  ICall prog gl 199 [y,.cptr (.raw (.string s))] st (fun r st' => r = .raw (.bool (memB (frF f) s)) ∧ st' = st):=by
 have h1:=fun st => vJ6 gl T f y hy (by omega) (fun q hq => by have:=wYg (wVr f (yJs hf).1 q hq); omega) st
 obtain ⟨o5,n5,t5,x5,t6,x6,rfl⟩:=hy.agg
 refine ICall.intro (c:=cf prog gl [] [(1,[0,2,1,3,4])]) func199 rfl (by show _ ≤ 8; simp) (by kernel_rfl) ?_
 simp -implicitDefEqProofs -dsimp only [go_sem,fits]
 refine (h1 _).mono ?_
 rintro _ _ ⟨tg,l,rfl,htg,hl,rfl⟩
 simp -implicitDefEqProofs -dsimp only [go_sem,fits]
 refine (xYw gl tg htg l s _).mono ?_
 rintro _ _ ⟨rfl,rfl⟩
 simp -implicitDefEqProofs -dsimp only [go_sem]
 refine yQ0 ⟨?_,rfl⟩
 have:memB l s = memB (frF f) s:=by
  rw [Bool.eq_iff_iff,yX4,yX4]; exact hl.2 s
 rw [this]
theorem vZn (T:Gt gl) (s:Sq) (x:IV) (hx:IsSq s x) (hs:yY4 s) (hr:(∀ f ∈ s.l,f.right = true) ∧ ∀ f ∈ s.r,f.right = true) (n:ByteArray) (st:ISt) :
  ICall prog gl 144 [x,.raw (.string n)] st (fun r st' => r = .raw (.bool (yJx s n)) ∧ st' = st):=by
 obtain ⟨t1,x1,t2,x2,rfl,e1,i1,e2,i2⟩:=hx
 have h1:=fun st => yWc gl 199 [.cptr (.raw (.string n))] (by simp only [go_sem]) s.l (fun f => memB (frF f) n) (fun a ha y hy st => wQr gl T a y hy (hs.1 a ha) (hr.1 a ha) n st) t1 x1 e1 i1 st
 have h2:=fun st => yWc gl 199 [.cptr (.raw (.string n))] (by simp only [go_sem]) s.r (fun f => memB (frF f) n) (fun a ha y hy st => wQr gl T a y hy (hs.2 a ha) (hr.2 a ha) n st) t2 x2 e2 i2 st
 refine ICall.intro (c:=cf prog gl [] [] [3]) func144 rfl (by show _ ≤ 17; simp) (by kernel_rfl) ?_
 simp -implicitDefEqProofs -dsimp only [go_sem,fits]
 refine (h1 _).mono ?_
 rintro _ _ ⟨rfl,rfl⟩
 cases hq:s.l.any fun f => memB (frF f) n
 ·simp -implicitDefEqProofs -dsimp only [go_sem]
  refine (h2 _).mono ?_
  rintro _ _ ⟨rfl,rfl⟩
  simp -implicitDefEqProofs -dsimp only [go_sem]
  exact yQ0 ⟨by simp [yJx,hq],rfl⟩
 ·simp -implicitDefEqProofs -dsimp only [go_sem]
  exact yQ0 ⟨by simp [yJx,hq],rfl⟩
theorem yX2 (f:Fm) (l:Sb):(yZb f l).1.size ≤ 400:=by
 unfold yZb
 split
 ·split
  ·rename_i h
   simp only [bAt,dTe] at h
   exact h.1
  ·show fm0.size ≤ 400
   decide
 ·show fm0.size ≤ 400
  decide
theorem uZm:IsFm fm0 (.agg [.raw (.int .u8 0),.raw (.string ⟨#[]⟩),.sl ⟨true,.nil,0⟩ [],.sl ⟨true,.nil,0⟩ []]):=xQe _ _ (.inl rfl) (.inl rfl)
theorem xJs {sub:List Fm} {xs:List IV} (h:IsFms sub xs) (k:Nat):∃ y,IsFm ((sub[k]?).getD fm0) y ∧ (sub.length ≤ k → y = .agg [.raw (.int .u8 0),.raw (.string ⟨#[]⟩),.sl ⟨true,.nil,0⟩ [],.sl ⟨true,.nil,0⟩ []]) ∧ (k < sub.length → xs[k]? = some y):=by
 by_cases hk:k < sub.length
 ·obtain ⟨a,ha⟩:=yQ3 hk
  obtain ⟨y,hy,hf⟩:=h.get ha
  exact ⟨y,by rw [ha]; exact hf,fun hc => by omega,fun _ => hy⟩
 ·exact ⟨_,by rw [List.getElem?_eq_none (by omega)]; exact uZm,fun _ => rfl,fun hc => absurd hc hk⟩
def AdR (st:ISt) (q:List Sq × Nat) (r:IV) (st':ISt):Prop:=∃ tg xs,r = .tup [.sl tg xs,.raw (.int .i64 q.2)] ∧ okEs tg 2 ∧ IsSqs q.1 xs ∧ st' = st
theorem yQx {o:Nat} {n:ByteArray} {us:List Tm} {sub:List Fm} (h:(Fm.mk o n us sub).size ≤ 1000000) (k:Nat):((sub[k]?).getD fm0).size ≤ 1000000:=by
 cases ha:sub[k]? with
 | none => show fm0.size ≤ 1000000; decide
 | some a =>
  have:=(yQv ha).2
  simp only [Fm.size] at h
  show a.size ≤ 1000000
  omega
theorem yQr {ca rule:Nat} {r:Rw} {main:Fm} {term:Tm} {name:ByteArray} (h:fmB ca main = true) (h':r.op = 0 ∨ main.op = r.op):yZh ca rule r main term name =
  if r.asks = 0 then (addS ca rule main ((main.subs[0]?).getD fm0) ((main.subs[1]?).getD fm0),0)
  else if !(if r.asks = 2 then Tm.mk true name [] else term).ok then ([],193)
  else if (yZb ((main.subs[0]?).getD fm0) [(main.nm,if r.asks = 2 then Tm.mk true name [] else term)]).2 ≠ 0 then ([],193)
  else (addS ca rule main (yZb ((main.subs[0]?).getD fm0) [(main.nm,if r.asks = 2 then Tm.mk true name [] else term)]).1 ((main.subs[1]?).getD fm0),0):=by
 have e:(!fmB ca main || (decide (r.op ≠ 0) && decide (main.op ≠ r.op))) = false:=by
  rw [h]
  rcases h' with h' | h' <;> simp [h']
 simp only [yZh,e,bFt,if_false]
theorem vXw (G:Gl gl) (T:Gt gl) (ca rule:Nat) (r:Rw) (hr:rowS ca rule = some r) (main:Fm) (y:IV) (hy:IsFm main y) (hm:main.size ≤ 1000000) (term:Tm) (z:IV) (hz:IsTm term z) (ht:term.size ≤ 1000000) (name:ByteArray) (st:ISt) :
  ICall prog gl 99 [rwI ca rule r,.raw (.int .u8 ca),y,z,.raw (.string name)] st (AdR st (yZh ca rule r main term name)):=by
 obtain ⟨hadd,hent⟩:=wKm gl hr
 have hf:=fun st => zK1 gl G ca main y hy hm st
 obtain ⟨rl,rr,op,asks⟩:=r
 obtain ⟨o,n,us,sub⟩:=main
 have hy0:=hy
 obtain ⟨t1,x1,t2,x2,rfl,ho,e1,i1,e2,i2⟩:=hy.mk
 obtain ⟨v,un,tz,xz,rfl⟩:∃ v un tz xz,z = .agg [.raw (.bool v),.raw (.string un),.sl tz xz]:=by
  obtain ⟨v,un,us⟩:=term
  obtain ⟨tz,xz,rfl,_⟩:=hz.mk
  exact ⟨_,_,_,_,rfl⟩
 obtain ⟨z1,hz1,hz1n,hz1s⟩:=xJs i2 0
 obtain ⟨z2,hz2,hz2n,hz2s⟩:=xJs i2 1
 have hE:fmB ca (.mk o n us sub) = false → yZh ca rule ⟨rl,rr,op,asks⟩ (.mk o n us sub) term name = ([],192):=fun h => by simp only [yZh,h]; rfl
 refine iI func99 rfl rfl (by kernel_rfl) ?_
 simp -implicitDefEqProofs -dsimp only [go_sem,rwI,fits]
 refine (hf _).mono ?_
 rintro _ _ ⟨rfl,rfl⟩
 cases hfm:fmB ca (.mk o n us sub)
 ·simp -implicitDefEqProofs -dsimp only [go_sem]
  exact yQ0 (by rw [hE hfm]; exact ⟨_,_,rfl,.inl rfl,rfl,rfl⟩)
 by_cases hop:op = 0 ∨ o = op
 case neg =>
  have hq:yZh ca rule ⟨rl,rr,op,asks⟩ (.mk o n us sub) term name = ([],192):=by
   have e:(!fmB ca (.mk o n us sub) || (decide (op ≠ 0) && decide ((Fm.mk o n us sub).op ≠ op))) = true:=by
    simp only [Fm.op,hfm]
    simp only [not_or] at hop
    simp [hop]
   simp only [yZh,e,if_true]
  simp only [not_or] at hop
  have d1:decide ((op:Int) = 0) = false:=dEf (by omega)
  have d2:decide ((o:Int) = (op:Int)) = false:=dEf (by omega)
  simp -implicitDefEqProofs -dsimp only [go_sem,d1,d2,fits]
  exact yQ0 (by rw [hq]; exact ⟨_,_,rfl,.inl rfl,rfl,rfl⟩)
 obtain ⟨dop,hdop⟩:∃ b,decide ((op:Int) = 0) = b:=⟨_,rfl⟩
 have hdo:dop = false → decide ((o:Int) = (op:Int)) = true:=fun h => by
  subst hdop
  have:=of_decide_eq_false h
  exact dEt (by omega)
 have hop0:=hop
 replace hop:(⟨rl,rr,op,asks⟩:Rw).op = 0 ∨ (Fm.mk o n us sub).op = (⟨rl,rr,op,asks⟩:Rw).op:=hop0
 by_cases hl0:0 < sub.length
 ·have l0:decide ((0:Int) < (sub.length:Int)) = true:=dEt (by omega)
  have g0:=hz1s hl0
  obtain ⟨o3,n3,t3,x3,t4,x4,rfl⟩:=hz1.agg
  by_cases hl1:1 < sub.length
  ·have l1:decide ((1:Int) < (sub.length:Int)) = true:=dEt (by omega)
   have g1:=hz2s hl1
   obtain ⟨o5,n5,t5,x5,t6,x6,rfl⟩:=hz2.agg
   cases dop
   ·have hd2:=hdo rfl
    by_cases ha0:asks = 0
    ·have d0:decide ((asks:Int) = 0) = true:=dEt (by omega)
     have hq:=yQr (rule:=rule) (r:=⟨rl,rr,op,asks⟩) (term:=term) (name:=name) hfm hop
     simp only [if_pos ha0,Fm.subs] at hq
     simp -implicitDefEqProofs -dsimp only [go_sem,hdop,hd2,l0,l1,i2.len,g0,g1,yQ2 e2,Int.le_refl,Int.toNat_zero,(show (0:Int) ≤ 1 by decide),(show Int.toNat 1 = 1 from rfl),d0,fits,hent]
     intros
     refine (hadd _ _ _ _ _ _ hy0 hz1 hz2 hm (yQx hm 0) (yQx hm 1) _).mono ?_
     rintro _ _ ⟨tg,xs,rfl,he,hxs,rfl⟩
     simp -implicitDefEqProofs -dsimp only [go_sem]
     exact yQ0 (by rw [hq]; exact ⟨_,_,rfl,he,hxs,rfl⟩)
    ·have d0:decide ((asks:Int) = 0) = false:=dEf (by omega)
     by_cases ha2:asks = 2
     ·have d2:decide ((asks:Int) = 2) = true:=dEt (by omega)
      simp -implicitDefEqProofs -dsimp only [go_sem,hdop,hd2,l0,l1,i2.len,g0,g1,yQ2 e2,Int.le_refl,Int.toNat_zero,(show (0:Int) ≤ 1 by decide),(show Int.toNat 1 = 1 from rfl),d0,d2,fits,hent]
      intros
      refine (yWl gl (Tm.mk true name []) _ (show IsTm (Tm.mk true name []) _ from ⟨_,_,rfl,.inl rfl,rfl⟩) (by show 1 ≤ _; decide) _).mono ?_
      rintro _ _ ⟨rfl,rfl⟩
      cases hk:Tm.ok (Tm.mk true name [])
      ·simp -implicitDefEqProofs -dsimp only [go_sem]
       have hq:=yQr (rule:=rule) (r:=⟨rl,rr,op,asks⟩) (term:=term) (name:=name) hfm hop
       simp only [if_neg ha0,if_pos ha2,hk,Bool.not_false,if_true] at hq
       exact yQ0 (by rw [hq]; exact ⟨_,_,rfl,.inl rfl,rfl,rfl⟩)
      simp -implicitDefEqProofs -dsimp only [go_sem,fits]
      refine (zX0 gl G T _ _ hz1 (yQx hm 0) n (Tm.mk true name []) _ (show IsTm (Tm.mk true name []) _ from ⟨_,_,rfl,.inl rfl,rfl⟩) (by show 1 ≤ _; decide) _).mono ?_
      rintro _ _ ⟨y3,rfl,hy3,rfl⟩
      have hy4:=hy3
      obtain ⟨o8,n8,t8,x8,t9,x9,rfl⟩:=hy3.agg
      by_cases he:(yZb ((sub[0]?).getD fm0) [(n,(Tm.mk true name []))]).2 = 0
      ·have hq:=yQr (rule:=rule) (r:=⟨rl,rr,op,asks⟩) (term:=term) (name:=name) hfm hop
       simp only [if_neg ha0,if_pos ha2,hk,Bool.not_true,bFt,if_false,Fm.subs,Fm.nm,he,ne_eq,nTf] at hq
       simp -implicitDefEqProofs -dsimp only [go_sem,fits,he,hent,show decide (((0:Nat):Int) = 0) = true from rfl]
       refine (hadd _ _ _ _ _ _ hy0 hy4 hz2 hm (Nat.le_trans (yX2 _ _) (by decide)) (yQx hm 1) _).mono ?_
       rintro _ _ ⟨tg,xs,rfl,he,hxs,rfl⟩
       simp -implicitDefEqProofs -dsimp only [go_sem]
       exact yQ0 (by rw [hq]; exact ⟨_,_,rfl,he,hxs,rfl⟩)
      ·have hq:=yQr (rule:=rule) (r:=⟨rl,rr,op,asks⟩) (term:=term) (name:=name) hfm hop
       simp only [if_neg ha0,if_pos ha2,hk,Bool.not_true,bFt,if_false,Fm.subs,Fm.nm,ne_eq,he,nFt,if_true] at hq
       have hd:decide (((yZb ((sub[0]?).getD fm0) [(n,(Tm.mk true name []))]).2:Int) = 0) = false:=dEf (by omega)
       simp -implicitDefEqProofs -dsimp only [go_sem,fits,hd]
       exact yQ0 (by rw [hq]; exact ⟨_,_,rfl,.inl rfl,rfl,rfl⟩)
     ·have d2:decide ((asks:Int) = 2) = false:=dEf (by omega)
      simp -implicitDefEqProofs -dsimp only [go_sem,hdop,hd2,l0,l1,i2.len,g0,g1,yQ2 e2,Int.le_refl,Int.toNat_zero,(show (0:Int) ≤ 1 by decide),(show Int.toNat 1 = 1 from rfl),d0,d2,fits,hent]
      intros
      refine (yWl gl term _ hz ht _).mono ?_
      rintro _ _ ⟨rfl,rfl⟩
      cases hk:Tm.ok term
      ·simp -implicitDefEqProofs -dsimp only [go_sem]
       have hq:=yQr (rule:=rule) (r:=⟨rl,rr,op,asks⟩) (term:=term) (name:=name) hfm hop
       simp only [if_neg ha0,if_neg ha2,hk,Bool.not_false,if_true] at hq
       exact yQ0 (by rw [hq]; exact ⟨_,_,rfl,.inl rfl,rfl,rfl⟩)
      simp -implicitDefEqProofs -dsimp only [go_sem,fits]
      refine (zX0 gl G T _ _ hz1 (yQx hm 0) n term _ hz ht _).mono ?_
      rintro _ _ ⟨y3,rfl,hy3,rfl⟩
      have hy4:=hy3
      obtain ⟨o8,n8,t8,x8,t9,x9,rfl⟩:=hy3.agg
      by_cases he:(yZb ((sub[0]?).getD fm0) [(n,term)]).2 = 0
      ·have hq:=yQr (rule:=rule) (r:=⟨rl,rr,op,asks⟩) (term:=term) (name:=name) hfm hop
       simp only [if_neg ha0,if_neg ha2,hk,Bool.not_true,bFt,if_false,Fm.subs,Fm.nm,he,ne_eq,nTf] at hq
       simp -implicitDefEqProofs -dsimp only [go_sem,fits,he,hent,show decide (((0:Nat):Int) = 0) = true from rfl]
       refine (hadd _ _ _ _ _ _ hy0 hy4 hz2 hm (Nat.le_trans (yX2 _ _) (by decide)) (yQx hm 1) _).mono ?_
       rintro _ _ ⟨tg,xs,rfl,he,hxs,rfl⟩
       simp -implicitDefEqProofs -dsimp only [go_sem]
       exact yQ0 (by rw [hq]; exact ⟨_,_,rfl,he,hxs,rfl⟩)
      ·have hq:=yQr (rule:=rule) (r:=⟨rl,rr,op,asks⟩) (term:=term) (name:=name) hfm hop
       simp only [if_neg ha0,if_neg ha2,hk,Bool.not_true,bFt,if_false,Fm.subs,Fm.nm,ne_eq,he,nFt,if_true] at hq
       have hd:decide (((yZb ((sub[0]?).getD fm0) [(n,term)]).2:Int) = 0) = false:=dEf (by omega)
       simp -implicitDefEqProofs -dsimp only [go_sem,fits,hd]
       exact yQ0 (by rw [hq]; exact ⟨_,_,rfl,.inl rfl,rfl,rfl⟩)
   ·by_cases ha0:asks = 0
    ·have d0:decide ((asks:Int) = 0) = true:=dEt (by omega)
     have hq:=yQr (rule:=rule) (r:=⟨rl,rr,op,asks⟩) (term:=term) (name:=name) hfm hop
     simp only [if_pos ha0,Fm.subs] at hq
     simp -implicitDefEqProofs -dsimp only [go_sem,hdop,l0,l1,i2.len,g0,g1,yQ2 e2,Int.le_refl,Int.toNat_zero,(show (0:Int) ≤ 1 by decide),(show Int.toNat 1 = 1 from rfl),d0,fits,hent]
     intros
     refine (hadd _ _ _ _ _ _ hy0 hz1 hz2 hm (yQx hm 0) (yQx hm 1) _).mono ?_
     rintro _ _ ⟨tg,xs,rfl,he,hxs,rfl⟩
     simp -implicitDefEqProofs -dsimp only [go_sem]
     exact yQ0 (by rw [hq]; exact ⟨_,_,rfl,he,hxs,rfl⟩)
    ·have d0:decide ((asks:Int) = 0) = false:=dEf (by omega)
     by_cases ha2:asks = 2
     ·have d2:decide ((asks:Int) = 2) = true:=dEt (by omega)
      simp -implicitDefEqProofs -dsimp only [go_sem,hdop,l0,l1,i2.len,g0,g1,yQ2 e2,Int.le_refl,Int.toNat_zero,(show (0:Int) ≤ 1 by decide),(show Int.toNat 1 = 1 from rfl),d0,d2,fits,hent]
      intros
      refine (yWl gl (Tm.mk true name []) _ (show IsTm (Tm.mk true name []) _ from ⟨_,_,rfl,.inl rfl,rfl⟩) (by show 1 ≤ _; decide) _).mono ?_
      rintro _ _ ⟨rfl,rfl⟩
      cases hk:Tm.ok (Tm.mk true name [])
      ·simp -implicitDefEqProofs -dsimp only [go_sem]
       have hq:=yQr (rule:=rule) (r:=⟨rl,rr,op,asks⟩) (term:=term) (name:=name) hfm hop
       simp only [if_neg ha0,if_pos ha2,hk,Bool.not_false,if_true] at hq
       exact yQ0 (by rw [hq]; exact ⟨_,_,rfl,.inl rfl,rfl,rfl⟩)
      simp -implicitDefEqProofs -dsimp only [go_sem,fits]
      refine (zX0 gl G T _ _ hz1 (yQx hm 0) n (Tm.mk true name []) _ (show IsTm (Tm.mk true name []) _ from ⟨_,_,rfl,.inl rfl,rfl⟩) (by show 1 ≤ _; decide) _).mono ?_
      rintro _ _ ⟨y3,rfl,hy3,rfl⟩
      have hy4:=hy3
      obtain ⟨o8,n8,t8,x8,t9,x9,rfl⟩:=hy3.agg
      by_cases he:(yZb ((sub[0]?).getD fm0) [(n,(Tm.mk true name []))]).2 = 0
      ·have hq:=yQr (rule:=rule) (r:=⟨rl,rr,op,asks⟩) (term:=term) (name:=name) hfm hop
       simp only [if_neg ha0,if_pos ha2,hk,Bool.not_true,bFt,if_false,Fm.subs,Fm.nm,he,ne_eq,nTf] at hq
       simp -implicitDefEqProofs -dsimp only [go_sem,fits,he,hent,show decide (((0:Nat):Int) = 0) = true from rfl]
       refine (hadd _ _ _ _ _ _ hy0 hy4 hz2 hm (Nat.le_trans (yX2 _ _) (by decide)) (yQx hm 1) _).mono ?_
       rintro _ _ ⟨tg,xs,rfl,he,hxs,rfl⟩
       simp -implicitDefEqProofs -dsimp only [go_sem]
       exact yQ0 (by rw [hq]; exact ⟨_,_,rfl,he,hxs,rfl⟩)
      ·have hq:=yQr (rule:=rule) (r:=⟨rl,rr,op,asks⟩) (term:=term) (name:=name) hfm hop
       simp only [if_neg ha0,if_pos ha2,hk,Bool.not_true,bFt,if_false,Fm.subs,Fm.nm,ne_eq,he,nFt,if_true] at hq
       have hd:decide (((yZb ((sub[0]?).getD fm0) [(n,(Tm.mk true name []))]).2:Int) = 0) = false:=dEf (by omega)
       simp -implicitDefEqProofs -dsimp only [go_sem,fits,hd]
       exact yQ0 (by rw [hq]; exact ⟨_,_,rfl,.inl rfl,rfl,rfl⟩)
     ·have d2:decide ((asks:Int) = 2) = false:=dEf (by omega)
      simp -implicitDefEqProofs -dsimp only [go_sem,hdop,l0,l1,i2.len,g0,g1,yQ2 e2,Int.le_refl,Int.toNat_zero,(show (0:Int) ≤ 1 by decide),(show Int.toNat 1 = 1 from rfl),d0,d2,fits,hent]
      intros
      refine (yWl gl term _ hz ht _).mono ?_
      rintro _ _ ⟨rfl,rfl⟩
      cases hk:Tm.ok term
      ·simp -implicitDefEqProofs -dsimp only [go_sem]
       have hq:=yQr (rule:=rule) (r:=⟨rl,rr,op,asks⟩) (term:=term) (name:=name) hfm hop
       simp only [if_neg ha0,if_neg ha2,hk,Bool.not_false,if_true] at hq
       exact yQ0 (by rw [hq]; exact ⟨_,_,rfl,.inl rfl,rfl,rfl⟩)
      simp -implicitDefEqProofs -dsimp only [go_sem,fits]
      refine (zX0 gl G T _ _ hz1 (yQx hm 0) n term _ hz ht _).mono ?_
      rintro _ _ ⟨y3,rfl,hy3,rfl⟩
      have hy4:=hy3
      obtain ⟨o8,n8,t8,x8,t9,x9,rfl⟩:=hy3.agg
      by_cases he:(yZb ((sub[0]?).getD fm0) [(n,term)]).2 = 0
      ·have hq:=yQr (rule:=rule) (r:=⟨rl,rr,op,asks⟩) (term:=term) (name:=name) hfm hop
       simp only [if_neg ha0,if_neg ha2,hk,Bool.not_true,bFt,if_false,Fm.subs,Fm.nm,he,ne_eq,nTf] at hq
       simp -implicitDefEqProofs -dsimp only [go_sem,fits,he,hent,show decide (((0:Nat):Int) = 0) = true from rfl]
       refine (hadd _ _ _ _ _ _ hy0 hy4 hz2 hm (Nat.le_trans (yX2 _ _) (by decide)) (yQx hm 1) _).mono ?_
       rintro _ _ ⟨tg,xs,rfl,he,hxs,rfl⟩
       simp -implicitDefEqProofs -dsimp only [go_sem]
       exact yQ0 (by rw [hq]; exact ⟨_,_,rfl,he,hxs,rfl⟩)
      ·have hq:=yQr (rule:=rule) (r:=⟨rl,rr,op,asks⟩) (term:=term) (name:=name) hfm hop
       simp only [if_neg ha0,if_neg ha2,hk,Bool.not_true,bFt,if_false,Fm.subs,Fm.nm,ne_eq,he,nFt,if_true] at hq
       have hd:decide (((yZb ((sub[0]?).getD fm0) [(n,term)]).2:Int) = 0) = false:=dEf (by omega)
       simp -implicitDefEqProofs -dsimp only [go_sem,fits,hd]
       exact yQ0 (by rw [hq]; exact ⟨_,_,rfl,.inl rfl,rfl,rfl⟩)
  ·have l1:decide ((1:Int) < (sub.length:Int)) = false:=dEf (by omega)
   obtain rfl:=hz2n (by omega)
   cases dop
   ·have hd2:=hdo rfl
    by_cases ha0:asks = 0
    ·have d0:decide ((asks:Int) = 0) = true:=dEt (by omega)
     have hq:=yQr (rule:=rule) (r:=⟨rl,rr,op,asks⟩) (term:=term) (name:=name) hfm hop
     simp only [if_pos ha0,Fm.subs] at hq
     simp -implicitDefEqProofs -dsimp only [go_sem,hdop,hd2,l0,l1,i2.len,g0,yQ2 e2,Int.le_refl,Int.toNat_zero,d0,fits,hent]
     intros
     refine (hadd _ _ _ _ _ _ hy0 hz1 hz2 hm (yQx hm 0) (yQx hm 1) _).mono ?_
     rintro _ _ ⟨tg,xs,rfl,he,hxs,rfl⟩
     simp -implicitDefEqProofs -dsimp only [go_sem]
     exact yQ0 (by rw [hq]; exact ⟨_,_,rfl,he,hxs,rfl⟩)
    ·have d0:decide ((asks:Int) = 0) = false:=dEf (by omega)
     by_cases ha2:asks = 2
     ·have d2:decide ((asks:Int) = 2) = true:=dEt (by omega)
      simp -implicitDefEqProofs -dsimp only [go_sem,hdop,hd2,l0,l1,i2.len,g0,yQ2 e2,Int.le_refl,Int.toNat_zero,d0,d2,fits,hent]
      intros
      refine (yWl gl (Tm.mk true name []) _ (show IsTm (Tm.mk true name []) _ from ⟨_,_,rfl,.inl rfl,rfl⟩) (by show 1 ≤ _; decide) _).mono ?_
      rintro _ _ ⟨rfl,rfl⟩
      cases hk:Tm.ok (Tm.mk true name [])
      ·simp -implicitDefEqProofs -dsimp only [go_sem]
       have hq:=yQr (rule:=rule) (r:=⟨rl,rr,op,asks⟩) (term:=term) (name:=name) hfm hop
       simp only [if_neg ha0,if_pos ha2,hk,Bool.not_false,if_true] at hq
       exact yQ0 (by rw [hq]; exact ⟨_,_,rfl,.inl rfl,rfl,rfl⟩)
      simp -implicitDefEqProofs -dsimp only [go_sem,fits]
      refine (zX0 gl G T _ _ hz1 (yQx hm 0) n (Tm.mk true name []) _ (show IsTm (Tm.mk true name []) _ from ⟨_,_,rfl,.inl rfl,rfl⟩) (by show 1 ≤ _; decide) _).mono ?_
      rintro _ _ ⟨y3,rfl,hy3,rfl⟩
      have hy4:=hy3
      obtain ⟨o8,n8,t8,x8,t9,x9,rfl⟩:=hy3.agg
      by_cases he:(yZb ((sub[0]?).getD fm0) [(n,(Tm.mk true name []))]).2 = 0
      ·have hq:=yQr (rule:=rule) (r:=⟨rl,rr,op,asks⟩) (term:=term) (name:=name) hfm hop
       simp only [if_neg ha0,if_pos ha2,hk,Bool.not_true,bFt,if_false,Fm.subs,Fm.nm,he,ne_eq,nTf] at hq
       simp -implicitDefEqProofs -dsimp only [go_sem,fits,he,hent,show decide (((0:Nat):Int) = 0) = true from rfl]
       refine (hadd _ _ _ _ _ _ hy0 hy4 hz2 hm (Nat.le_trans (yX2 _ _) (by decide)) (yQx hm 1) _).mono ?_
       rintro _ _ ⟨tg,xs,rfl,he,hxs,rfl⟩
       simp -implicitDefEqProofs -dsimp only [go_sem]
       exact yQ0 (by rw [hq]; exact ⟨_,_,rfl,he,hxs,rfl⟩)
      ·have hq:=yQr (rule:=rule) (r:=⟨rl,rr,op,asks⟩) (term:=term) (name:=name) hfm hop
       simp only [if_neg ha0,if_pos ha2,hk,Bool.not_true,bFt,if_false,Fm.subs,Fm.nm,ne_eq,he,nFt,if_true] at hq
       have hd:decide (((yZb ((sub[0]?).getD fm0) [(n,(Tm.mk true name []))]).2:Int) = 0) = false:=dEf (by omega)
       simp -implicitDefEqProofs -dsimp only [go_sem,fits,hd]
       exact yQ0 (by rw [hq]; exact ⟨_,_,rfl,.inl rfl,rfl,rfl⟩)
     ·have d2:decide ((asks:Int) = 2) = false:=dEf (by omega)
      simp -implicitDefEqProofs -dsimp only [go_sem,hdop,hd2,l0,l1,i2.len,g0,yQ2 e2,Int.le_refl,Int.toNat_zero,d0,d2,fits,hent]
      intros
      refine (yWl gl term _ hz ht _).mono ?_
      rintro _ _ ⟨rfl,rfl⟩
      cases hk:Tm.ok term
      ·simp -implicitDefEqProofs -dsimp only [go_sem]
       have hq:=yQr (rule:=rule) (r:=⟨rl,rr,op,asks⟩) (term:=term) (name:=name) hfm hop
       simp only [if_neg ha0,if_neg ha2,hk,Bool.not_false,if_true] at hq
       exact yQ0 (by rw [hq]; exact ⟨_,_,rfl,.inl rfl,rfl,rfl⟩)
      simp -implicitDefEqProofs -dsimp only [go_sem,fits]
      refine (zX0 gl G T _ _ hz1 (yQx hm 0) n term _ hz ht _).mono ?_
      rintro _ _ ⟨y3,rfl,hy3,rfl⟩
      have hy4:=hy3
      obtain ⟨o8,n8,t8,x8,t9,x9,rfl⟩:=hy3.agg
      by_cases he:(yZb ((sub[0]?).getD fm0) [(n,term)]).2 = 0
      ·have hq:=yQr (rule:=rule) (r:=⟨rl,rr,op,asks⟩) (term:=term) (name:=name) hfm hop
       simp only [if_neg ha0,if_neg ha2,hk,Bool.not_true,bFt,if_false,Fm.subs,Fm.nm,he,ne_eq,nTf] at hq
       simp -implicitDefEqProofs -dsimp only [go_sem,fits,he,hent,show decide (((0:Nat):Int) = 0) = true from rfl]
       refine (hadd _ _ _ _ _ _ hy0 hy4 hz2 hm (Nat.le_trans (yX2 _ _) (by decide)) (yQx hm 1) _).mono ?_
       rintro _ _ ⟨tg,xs,rfl,he,hxs,rfl⟩
       simp -implicitDefEqProofs -dsimp only [go_sem]
       exact yQ0 (by rw [hq]; exact ⟨_,_,rfl,he,hxs,rfl⟩)
      ·have hq:=yQr (rule:=rule) (r:=⟨rl,rr,op,asks⟩) (term:=term) (name:=name) hfm hop
       simp only [if_neg ha0,if_neg ha2,hk,Bool.not_true,bFt,if_false,Fm.subs,Fm.nm,ne_eq,he,nFt,if_true] at hq
       have hd:decide (((yZb ((sub[0]?).getD fm0) [(n,term)]).2:Int) = 0) = false:=dEf (by omega)
       simp -implicitDefEqProofs -dsimp only [go_sem,fits,hd]
       exact yQ0 (by rw [hq]; exact ⟨_,_,rfl,.inl rfl,rfl,rfl⟩)
   ·by_cases ha0:asks = 0
    ·have d0:decide ((asks:Int) = 0) = true:=dEt (by omega)
     have hq:=yQr (rule:=rule) (r:=⟨rl,rr,op,asks⟩) (term:=term) (name:=name) hfm hop
     simp only [if_pos ha0,Fm.subs] at hq
     simp -implicitDefEqProofs -dsimp only [go_sem,hdop,l0,l1,i2.len,g0,yQ2 e2,Int.le_refl,Int.toNat_zero,d0,fits,hent]
     intros
     refine (hadd _ _ _ _ _ _ hy0 hz1 hz2 hm (yQx hm 0) (yQx hm 1) _).mono ?_
     rintro _ _ ⟨tg,xs,rfl,he,hxs,rfl⟩
     simp -implicitDefEqProofs -dsimp only [go_sem]
     exact yQ0 (by rw [hq]; exact ⟨_,_,rfl,he,hxs,rfl⟩)
    ·have d0:decide ((asks:Int) = 0) = false:=dEf (by omega)
     by_cases ha2:asks = 2
     ·have d2:decide ((asks:Int) = 2) = true:=dEt (by omega)
      simp -implicitDefEqProofs -dsimp only [go_sem,hdop,l0,l1,i2.len,g0,yQ2 e2,Int.le_refl,Int.toNat_zero,d0,d2,fits,hent]
      intros
      refine (yWl gl (Tm.mk true name []) _ (show IsTm (Tm.mk true name []) _ from ⟨_,_,rfl,.inl rfl,rfl⟩) (by show 1 ≤ _; decide) _).mono ?_
      rintro _ _ ⟨rfl,rfl⟩
      cases hk:Tm.ok (Tm.mk true name [])
      ·simp -implicitDefEqProofs -dsimp only [go_sem]
       have hq:=yQr (rule:=rule) (r:=⟨rl,rr,op,asks⟩) (term:=term) (name:=name) hfm hop
       simp only [if_neg ha0,if_pos ha2,hk,Bool.not_false,if_true] at hq
       exact yQ0 (by rw [hq]; exact ⟨_,_,rfl,.inl rfl,rfl,rfl⟩)
      simp -implicitDefEqProofs -dsimp only [go_sem,fits]
      refine (zX0 gl G T _ _ hz1 (yQx hm 0) n (Tm.mk true name []) _ (show IsTm (Tm.mk true name []) _ from ⟨_,_,rfl,.inl rfl,rfl⟩) (by show 1 ≤ _; decide) _).mono ?_
      rintro _ _ ⟨y3,rfl,hy3,rfl⟩
      have hy4:=hy3
      obtain ⟨o8,n8,t8,x8,t9,x9,rfl⟩:=hy3.agg
      by_cases he:(yZb ((sub[0]?).getD fm0) [(n,(Tm.mk true name []))]).2 = 0
      ·have hq:=yQr (rule:=rule) (r:=⟨rl,rr,op,asks⟩) (term:=term) (name:=name) hfm hop
       simp only [if_neg ha0,if_pos ha2,hk,Bool.not_true,bFt,if_false,Fm.subs,Fm.nm,he,ne_eq,nTf] at hq
       simp -implicitDefEqProofs -dsimp only [go_sem,fits,he,hent,show decide (((0:Nat):Int) = 0) = true from rfl]
       refine (hadd _ _ _ _ _ _ hy0 hy4 hz2 hm (Nat.le_trans (yX2 _ _) (by decide)) (yQx hm 1) _).mono ?_
       rintro _ _ ⟨tg,xs,rfl,he,hxs,rfl⟩
       simp -implicitDefEqProofs -dsimp only [go_sem]
       exact yQ0 (by rw [hq]; exact ⟨_,_,rfl,he,hxs,rfl⟩)
      ·have hq:=yQr (rule:=rule) (r:=⟨rl,rr,op,asks⟩) (term:=term) (name:=name) hfm hop
       simp only [if_neg ha0,if_pos ha2,hk,Bool.not_true,bFt,if_false,Fm.subs,Fm.nm,ne_eq,he,nFt,if_true] at hq
       have hd:decide (((yZb ((sub[0]?).getD fm0) [(n,(Tm.mk true name []))]).2:Int) = 0) = false:=dEf (by omega)
       simp -implicitDefEqProofs -dsimp only [go_sem,fits,hd]
       exact yQ0 (by rw [hq]; exact ⟨_,_,rfl,.inl rfl,rfl,rfl⟩)
     ·have d2:decide ((asks:Int) = 2) = false:=dEf (by omega)
      simp -implicitDefEqProofs -dsimp only [go_sem,hdop,l0,l1,i2.len,g0,yQ2 e2,Int.le_refl,Int.toNat_zero,d0,d2,fits,hent]
      intros
      refine (yWl gl term _ hz ht _).mono ?_
      rintro _ _ ⟨rfl,rfl⟩
      cases hk:Tm.ok term
      ·simp -implicitDefEqProofs -dsimp only [go_sem]
       have hq:=yQr (rule:=rule) (r:=⟨rl,rr,op,asks⟩) (term:=term) (name:=name) hfm hop
       simp only [if_neg ha0,if_neg ha2,hk,Bool.not_false,if_true] at hq
       exact yQ0 (by rw [hq]; exact ⟨_,_,rfl,.inl rfl,rfl,rfl⟩)
      simp -implicitDefEqProofs -dsimp only [go_sem,fits]
      refine (zX0 gl G T _ _ hz1 (yQx hm 0) n term _ hz ht _).mono ?_
      rintro _ _ ⟨y3,rfl,hy3,rfl⟩
      have hy4:=hy3
      obtain ⟨o8,n8,t8,x8,t9,x9,rfl⟩:=hy3.agg
      by_cases he:(yZb ((sub[0]?).getD fm0) [(n,term)]).2 = 0
      ·have hq:=yQr (rule:=rule) (r:=⟨rl,rr,op,asks⟩) (term:=term) (name:=name) hfm hop
       simp only [if_neg ha0,if_neg ha2,hk,Bool.not_true,bFt,if_false,Fm.subs,Fm.nm,he,ne_eq,nTf] at hq
       simp -implicitDefEqProofs -dsimp only [go_sem,fits,he,hent,show decide (((0:Nat):Int) = 0) = true from rfl]
       refine (hadd _ _ _ _ _ _ hy0 hy4 hz2 hm (Nat.le_trans (yX2 _ _) (by decide)) (yQx hm 1) _).mono ?_
       rintro _ _ ⟨tg,xs,rfl,he,hxs,rfl⟩
       simp -implicitDefEqProofs -dsimp only [go_sem]
       exact yQ0 (by rw [hq]; exact ⟨_,_,rfl,he,hxs,rfl⟩)
      ·have hq:=yQr (rule:=rule) (r:=⟨rl,rr,op,asks⟩) (term:=term) (name:=name) hfm hop
       simp only [if_neg ha0,if_neg ha2,hk,Bool.not_true,bFt,if_false,Fm.subs,Fm.nm,ne_eq,he,nFt,if_true] at hq
       have hd:decide (((yZb ((sub[0]?).getD fm0) [(n,term)]).2:Int) = 0) = false:=dEf (by omega)
       simp -implicitDefEqProofs -dsimp only [go_sem,fits,hd]
       exact yQ0 (by rw [hq]; exact ⟨_,_,rfl,.inl rfl,rfl,rfl⟩)
 ·have l0:decide ((0:Int) < (sub.length:Int)) = false:=dEf (by omega)
  have l1:decide ((1:Int) < (sub.length:Int)) = false:=dEf (by omega)
  obtain rfl:=hz1n (by omega)
  obtain rfl:=hz2n (by omega)
  cases dop
  ·have hd2:=hdo rfl
   by_cases ha0:asks = 0
   ·have d0:decide ((asks:Int) = 0) = true:=dEt (by omega)
    have hq:=yQr (rule:=rule) (r:=⟨rl,rr,op,asks⟩) (term:=term) (name:=name) hfm hop
    simp only [if_pos ha0,Fm.subs] at hq
    simp -implicitDefEqProofs -dsimp only [go_sem,hdop,hd2,l0,l1,i2.len,d0,fits,hent]
    intros
    refine (hadd _ _ _ _ _ _ hy0 hz1 hz2 hm (yQx hm 0) (yQx hm 1) _).mono ?_
    rintro _ _ ⟨tg,xs,rfl,he,hxs,rfl⟩
    simp -implicitDefEqProofs -dsimp only [go_sem]
    exact yQ0 (by rw [hq]; exact ⟨_,_,rfl,he,hxs,rfl⟩)
   ·have d0:decide ((asks:Int) = 0) = false:=dEf (by omega)
    by_cases ha2:asks = 2
    ·have d2:decide ((asks:Int) = 2) = true:=dEt (by omega)
     simp -implicitDefEqProofs -dsimp only [go_sem,hdop,hd2,l0,l1,i2.len,d0,d2,fits,hent]
     intros
     refine (yWl gl (Tm.mk true name []) _ (show IsTm (Tm.mk true name []) _ from ⟨_,_,rfl,.inl rfl,rfl⟩) (by show 1 ≤ _; decide) _).mono ?_
     rintro _ _ ⟨rfl,rfl⟩
     cases hk:Tm.ok (Tm.mk true name [])
     ·simp -implicitDefEqProofs -dsimp only [go_sem]
      have hq:=yQr (rule:=rule) (r:=⟨rl,rr,op,asks⟩) (term:=term) (name:=name) hfm hop
      simp only [if_neg ha0,if_pos ha2,hk,Bool.not_false,if_true] at hq
      exact yQ0 (by rw [hq]; exact ⟨_,_,rfl,.inl rfl,rfl,rfl⟩)
     simp -implicitDefEqProofs -dsimp only [go_sem,fits]
     refine (zX0 gl G T _ _ hz1 (yQx hm 0) n (Tm.mk true name []) _ (show IsTm (Tm.mk true name []) _ from ⟨_,_,rfl,.inl rfl,rfl⟩) (by show 1 ≤ _; decide) _).mono ?_
     rintro _ _ ⟨y3,rfl,hy3,rfl⟩
     have hy4:=hy3
     obtain ⟨o8,n8,t8,x8,t9,x9,rfl⟩:=hy3.agg
     by_cases he:(yZb ((sub[0]?).getD fm0) [(n,(Tm.mk true name []))]).2 = 0
     ·have hq:=yQr (rule:=rule) (r:=⟨rl,rr,op,asks⟩) (term:=term) (name:=name) hfm hop
      simp only [if_neg ha0,if_pos ha2,hk,Bool.not_true,bFt,if_false,Fm.subs,Fm.nm,he,ne_eq,nTf] at hq
      simp -implicitDefEqProofs -dsimp only [go_sem,fits,he,hent,show decide (((0:Nat):Int) = 0) = true from rfl]
      refine (hadd _ _ _ _ _ _ hy0 hy4 hz2 hm (Nat.le_trans (yX2 _ _) (by decide)) (yQx hm 1) _).mono ?_
      rintro _ _ ⟨tg,xs,rfl,he,hxs,rfl⟩
      simp -implicitDefEqProofs -dsimp only [go_sem]
      exact yQ0 (by rw [hq]; exact ⟨_,_,rfl,he,hxs,rfl⟩)
     ·have hq:=yQr (rule:=rule) (r:=⟨rl,rr,op,asks⟩) (term:=term) (name:=name) hfm hop
      simp only [if_neg ha0,if_pos ha2,hk,Bool.not_true,bFt,if_false,Fm.subs,Fm.nm,ne_eq,he,nFt,if_true] at hq
      have hd:decide (((yZb ((sub[0]?).getD fm0) [(n,(Tm.mk true name []))]).2:Int) = 0) = false:=dEf (by omega)
      simp -implicitDefEqProofs -dsimp only [go_sem,fits,hd]
      exact yQ0 (by rw [hq]; exact ⟨_,_,rfl,.inl rfl,rfl,rfl⟩)
    ·have d2:decide ((asks:Int) = 2) = false:=dEf (by omega)
     simp -implicitDefEqProofs -dsimp only [go_sem,hdop,hd2,l0,l1,i2.len,d0,d2,fits,hent]
     intros
     refine (yWl gl term _ hz ht _).mono ?_
     rintro _ _ ⟨rfl,rfl⟩
     cases hk:Tm.ok term
     ·simp -implicitDefEqProofs -dsimp only [go_sem]
      have hq:=yQr (rule:=rule) (r:=⟨rl,rr,op,asks⟩) (term:=term) (name:=name) hfm hop
      simp only [if_neg ha0,if_neg ha2,hk,Bool.not_false,if_true] at hq
      exact yQ0 (by rw [hq]; exact ⟨_,_,rfl,.inl rfl,rfl,rfl⟩)
     simp -implicitDefEqProofs -dsimp only [go_sem,fits]
     refine (zX0 gl G T _ _ hz1 (yQx hm 0) n term _ hz ht _).mono ?_
     rintro _ _ ⟨y3,rfl,hy3,rfl⟩
     have hy4:=hy3
     obtain ⟨o8,n8,t8,x8,t9,x9,rfl⟩:=hy3.agg
     by_cases he:(yZb ((sub[0]?).getD fm0) [(n,term)]).2 = 0
     ·have hq:=yQr (rule:=rule) (r:=⟨rl,rr,op,asks⟩) (term:=term) (name:=name) hfm hop
      simp only [if_neg ha0,if_neg ha2,hk,Bool.not_true,bFt,if_false,Fm.subs,Fm.nm,he,ne_eq,nTf] at hq
      simp -implicitDefEqProofs -dsimp only [go_sem,fits,he,hent,show decide (((0:Nat):Int) = 0) = true from rfl]
      refine (hadd _ _ _ _ _ _ hy0 hy4 hz2 hm (Nat.le_trans (yX2 _ _) (by decide)) (yQx hm 1) _).mono ?_
      rintro _ _ ⟨tg,xs,rfl,he,hxs,rfl⟩
      simp -implicitDefEqProofs -dsimp only [go_sem]
      exact yQ0 (by rw [hq]; exact ⟨_,_,rfl,he,hxs,rfl⟩)
     ·have hq:=yQr (rule:=rule) (r:=⟨rl,rr,op,asks⟩) (term:=term) (name:=name) hfm hop
      simp only [if_neg ha0,if_neg ha2,hk,Bool.not_true,bFt,if_false,Fm.subs,Fm.nm,ne_eq,he,nFt,if_true] at hq
      have hd:decide (((yZb ((sub[0]?).getD fm0) [(n,term)]).2:Int) = 0) = false:=dEf (by omega)
      simp -implicitDefEqProofs -dsimp only [go_sem,fits,hd]
      exact yQ0 (by rw [hq]; exact ⟨_,_,rfl,.inl rfl,rfl,rfl⟩)
  ·by_cases ha0:asks = 0
   ·have d0:decide ((asks:Int) = 0) = true:=dEt (by omega)
    have hq:=yQr (rule:=rule) (r:=⟨rl,rr,op,asks⟩) (term:=term) (name:=name) hfm hop
    simp only [if_pos ha0,Fm.subs] at hq
    simp -implicitDefEqProofs -dsimp only [go_sem,hdop,l0,l1,i2.len,d0,fits,hent]
    intros
    refine (hadd _ _ _ _ _ _ hy0 hz1 hz2 hm (yQx hm 0) (yQx hm 1) _).mono ?_
    rintro _ _ ⟨tg,xs,rfl,he,hxs,rfl⟩
    simp -implicitDefEqProofs -dsimp only [go_sem]
    exact yQ0 (by rw [hq]; exact ⟨_,_,rfl,he,hxs,rfl⟩)
   ·have d0:decide ((asks:Int) = 0) = false:=dEf (by omega)
    by_cases ha2:asks = 2
    ·have d2:decide ((asks:Int) = 2) = true:=dEt (by omega)
     simp -implicitDefEqProofs -dsimp only [go_sem,hdop,l0,l1,i2.len,d0,d2,fits,hent]
     intros
     refine (yWl gl (Tm.mk true name []) _ (show IsTm (Tm.mk true name []) _ from ⟨_,_,rfl,.inl rfl,rfl⟩) (by show 1 ≤ _; decide) _).mono ?_
     rintro _ _ ⟨rfl,rfl⟩
     cases hk:Tm.ok (Tm.mk true name [])
     ·simp -implicitDefEqProofs -dsimp only [go_sem]
      have hq:=yQr (rule:=rule) (r:=⟨rl,rr,op,asks⟩) (term:=term) (name:=name) hfm hop
      simp only [if_neg ha0,if_pos ha2,hk,Bool.not_false,if_true] at hq
      exact yQ0 (by rw [hq]; exact ⟨_,_,rfl,.inl rfl,rfl,rfl⟩)
     simp -implicitDefEqProofs -dsimp only [go_sem,fits]
     refine (zX0 gl G T _ _ hz1 (yQx hm 0) n (Tm.mk true name []) _ (show IsTm (Tm.mk true name []) _ from ⟨_,_,rfl,.inl rfl,rfl⟩) (by show 1 ≤ _; decide) _).mono ?_
     rintro _ _ ⟨y3,rfl,hy3,rfl⟩
     have hy4:=hy3
     obtain ⟨o8,n8,t8,x8,t9,x9,rfl⟩:=hy3.agg
     by_cases he:(yZb ((sub[0]?).getD fm0) [(n,(Tm.mk true name []))]).2 = 0
     ·have hq:=yQr (rule:=rule) (r:=⟨rl,rr,op,asks⟩) (term:=term) (name:=name) hfm hop
      simp only [if_neg ha0,if_pos ha2,hk,Bool.not_true,bFt,if_false,Fm.subs,Fm.nm,he,ne_eq,nTf] at hq
      simp -implicitDefEqProofs -dsimp only [go_sem,fits,he,hent,show decide (((0:Nat):Int) = 0) = true from rfl]
      refine (hadd _ _ _ _ _ _ hy0 hy4 hz2 hm (Nat.le_trans (yX2 _ _) (by decide)) (yQx hm 1) _).mono ?_
      rintro _ _ ⟨tg,xs,rfl,he,hxs,rfl⟩
      simp -implicitDefEqProofs -dsimp only [go_sem]
      exact yQ0 (by rw [hq]; exact ⟨_,_,rfl,he,hxs,rfl⟩)
     ·have hq:=yQr (rule:=rule) (r:=⟨rl,rr,op,asks⟩) (term:=term) (name:=name) hfm hop
      simp only [if_neg ha0,if_pos ha2,hk,Bool.not_true,bFt,if_false,Fm.subs,Fm.nm,ne_eq,he,nFt,if_true] at hq
      have hd:decide (((yZb ((sub[0]?).getD fm0) [(n,(Tm.mk true name []))]).2:Int) = 0) = false:=dEf (by omega)
      simp -implicitDefEqProofs -dsimp only [go_sem,fits,hd]
      exact yQ0 (by rw [hq]; exact ⟨_,_,rfl,.inl rfl,rfl,rfl⟩)
    ·have d2:decide ((asks:Int) = 2) = false:=dEf (by omega)
     simp -implicitDefEqProofs -dsimp only [go_sem,hdop,l0,l1,i2.len,d0,d2,fits,hent]
     intros
     refine (yWl gl term _ hz ht _).mono ?_
     rintro _ _ ⟨rfl,rfl⟩
     cases hk:Tm.ok term
     ·simp -implicitDefEqProofs -dsimp only [go_sem]
      have hq:=yQr (rule:=rule) (r:=⟨rl,rr,op,asks⟩) (term:=term) (name:=name) hfm hop
      simp only [if_neg ha0,if_neg ha2,hk,Bool.not_false,if_true] at hq
      exact yQ0 (by rw [hq]; exact ⟨_,_,rfl,.inl rfl,rfl,rfl⟩)
     simp -implicitDefEqProofs -dsimp only [go_sem,fits]
     refine (zX0 gl G T _ _ hz1 (yQx hm 0) n term _ hz ht _).mono ?_
     rintro _ _ ⟨y3,rfl,hy3,rfl⟩
     have hy4:=hy3
     obtain ⟨o8,n8,t8,x8,t9,x9,rfl⟩:=hy3.agg
     by_cases he:(yZb ((sub[0]?).getD fm0) [(n,term)]).2 = 0
     ·have hq:=yQr (rule:=rule) (r:=⟨rl,rr,op,asks⟩) (term:=term) (name:=name) hfm hop
      simp only [if_neg ha0,if_neg ha2,hk,Bool.not_true,bFt,if_false,Fm.subs,Fm.nm,he,ne_eq,nTf] at hq
      simp -implicitDefEqProofs -dsimp only [go_sem,fits,he,hent,show decide (((0:Nat):Int) = 0) = true from rfl]
      refine (hadd _ _ _ _ _ _ hy0 hy4 hz2 hm (Nat.le_trans (yX2 _ _) (by decide)) (yQx hm 1) _).mono ?_
      rintro _ _ ⟨tg,xs,rfl,he,hxs,rfl⟩
      simp -implicitDefEqProofs -dsimp only [go_sem]
      exact yQ0 (by rw [hq]; exact ⟨_,_,rfl,he,hxs,rfl⟩)
     ·have hq:=yQr (rule:=rule) (r:=⟨rl,rr,op,asks⟩) (term:=term) (name:=name) hfm hop
      simp only [if_neg ha0,if_neg ha2,hk,Bool.not_true,bFt,if_false,Fm.subs,Fm.nm,ne_eq,he,nFt,if_true] at hq
      have hd:decide (((yZb ((sub[0]?).getD fm0) [(n,term)]).2:Int) = 0) = false:=dEf (by omega)
      simp -implicitDefEqProofs -dsimp only [go_sem,fits,hd]
      exact yQ0 (by rw [hq]; exact ⟨_,_,rfl,.inl rfl,rfl,rfl⟩)
theorem zGg {ca:Nat} {s:Sq} (h:yX8 ca s = true):(∀ f ∈ s.l,f.right = true) ∧ ∀ f ∈ s.r,f.right = true:=by
 unfold yX8 at h
 simp only [bAt,List.all_eq_true] at h
 obtain ⟨⟨⟨_,h4⟩,h5⟩,_⟩:=h
 have key:∀ f,fmB ca f = true → f.right = true:=fun f hf => by
  unfold fmB at hf
  simp only [bAt] at hf
  exact hf.1
 exact ⟨fun f hf => key f (h4 f hf),fun f hf => key f (h5 f hf)⟩
theorem wV8 (G:Gl gl) (T:Gt gl) (ca:Nat) (s:Sq) (x:IV) (hx:IsSq s x) (hs:yY4 s) (rule:Nat) (main:Fm) (y:IV) (hy:IsFm main y) (hm:main.size ≤ 1000000) (term:Tm) (z:IV) (hz:IsTm term z) (ht:term.size ≤ 1000000) (name:ByteArray) (st:ISt) :
  ICall prog gl 96 [.raw (.int .u8 ca),x,.raw (.int .u8 rule),y,z,.raw (.string name)] st (AdR st (yZl ca s rule main term name)):=by
 have hV:=fun st => wGm gl G ca s x hx hs st
 have hF:=fun hr st => vZn gl T s x hx hs hr name st
 obtain ⟨t1,x1,t2,x2,rfl,e1,i1,e2,i2⟩:=hx
 have hH1:=fun st => wX4 gl G s.l main t1 x1 y e1 i1 hy hs.1 hm st
 have hH2:=fun st => wX4 gl G s.r main t2 x2 y e2 i2 hy hs.2 hm st
 have hA:=fun r hr st => vXw gl G T ca rule r hr main y hy hm term z hz ht name st
 obtain ⟨o3,n3,t3,x3,t4,x4,rfl⟩:=hy.agg
 obtain ⟨v,un,tz,xz,rfl⟩:∃ v un tz xz,z = .agg [.raw (.bool v),.raw (.string un),.sl tz xz]:=by
  obtain ⟨v,un,us⟩:=term
  obtain ⟨tz,xz,rfl,_⟩:=hz.mk
  exact ⟨_,_,_,_,rfl⟩
 refine iI func96 rfl rfl (by kernel_rfl) ?_
 simp -implicitDefEqProofs -dsimp only [go_sem,fits]
 refine (hV _).mono ?_
 rintro _ st ⟨rfl,rfl⟩
 cases hv:yX8 ca s
 ·simp -implicitDefEqProofs -dsimp only [go_sem]
  exact yQ0 (by unfold yZl; rw [hv]; exact ⟨_,_,rfl,.inl rfl,rfl,rfl⟩)
 have hright:=zGg hv
 simp -implicitDefEqProofs -dsimp only [go_sem]
 refine (wY0 gl ca _).mono ?_
 rintro _ _ ⟨b,hb,rfl,rfl⟩
 cases hr:rowS ca rule with
 | none =>
  have hq:yZl ca s rule main term name = ([],191):=by unfold yZl; rw [hv,hr]; rfl
  simp -implicitDefEqProofs -dsimp only [go_sem,ISt.put_same,zJ5,hr,Option.map_none,xWz,fits]
  exact yQb (yQd hb) (by rw [hq]; exact ⟨_,_,rfl,.inl rfl,rfl,rfl⟩)
 | some r =>
  have hcall:=hA r hr
  obtain ⟨rl,rr,op,asks⟩:=r
  have hq:yZl ca s rule main term name = if decide ((yZh ca rule ⟨rl,rr,op,asks⟩ main term name).2 = 192) || (rl && !hasF s.l main) || (rr && !hasF s.r main) then ([],192)
    else if (yZh ca rule ⟨rl,rr,op,asks⟩ main term name).2 ≠ 0 then ([],(yZh ca rule ⟨rl,rr,op,asks⟩ main term name).2)
    else if decide (asks = 2) && yJx s name then ([],193) else ((yZh ca rule ⟨rl,rr,op,asks⟩ main term name).1,0):=by unfold yZl; rw [hv,hr]; rfl
  generalize yZh ca rule ⟨rl,rr,op,asks⟩ main term name = q at hq hcall
  obtain ⟨qs,qe⟩:=q
  simp only at hq
  simp -implicitDefEqProofs -dsimp only [go_sem,ISt.put_same,zJ5,hr,Option.map_some,xWy,rwI,fits]
  refine (hcall _).mono ?_
  rintro _ _ ⟨tg,xs,rfl,he,hxs,rfl⟩
  by_cases h192:qe = 192
  ·have d:decide ((qe:Int) = 192) = true:=dEt (by omega)
   have hq':yZl ca s rule main term name = ([],192):=by rw [hq,h192]; rfl
   simp -implicitDefEqProofs -dsimp only [go_sem,d,fits]
   exact yQb (yQd hb) (by rw [hq']; exact ⟨_,_,rfl,.inl rfl,rfl,rfl⟩)
  have d:decide ((qe:Int) = 192) = false:=dEf (by omega)
  have h192':decide (qe = 192) = false:=dEf h192
  rw [h192',Bool.false_or] at hq
  cases rl
  ·cases rr
   ·simp only [Bool.false_and,Bool.false_and,Bool.and_false,Bool.not_true,Bool.or_false,bFt,if_false] at hq
    by_cases h0:qe = 0
    ·subst h0
     simp only [ne_eq,nTf,if_false] at hq
     by_cases ha:asks = 2
     ·have da:decide ((asks:Int) = 2) = true:=dEt (by omega)
      simp -implicitDefEqProofs -dsimp only [go_sem,d,da,fits,show decide (((0:Nat):Int) = 0) = true from rfl]
      refine (hF hright _).mono ?_
      rintro _ _ ⟨rfl,rfl⟩
      rw [dEt ha,Bool.true_and] at hq
      cases hf:yJx s name
      ·simp -implicitDefEqProofs -dsimp only [go_sem,fits]
       rw [hf] at hq
       exact yQb (yQd hb) (by rw [hq]; exact ⟨_,_,rfl,he,hxs,rfl⟩)
      ·simp -implicitDefEqProofs -dsimp only [go_sem,fits]
       rw [hf] at hq
       exact yQb (yQd hb) (by rw [hq]; exact ⟨_,_,rfl,.inl rfl,rfl,rfl⟩)
     ·have da:decide ((asks:Int) = 2) = false:=dEf (by omega)
      rw [dEf ha,Bool.false_and] at hq
      simp -implicitDefEqProofs -dsimp only [go_sem,d,da,fits,show decide (((0:Nat):Int) = 0) = true from rfl]
      exact yQb (yQd hb) (by rw [hq]; exact ⟨_,_,rfl,he,hxs,rfl⟩)
    ·have d0:decide ((qe:Int) = 0) = false:=dEf (by omega)
     rw [if_pos h0] at hq
     simp -implicitDefEqProofs -dsimp only [go_sem,d,d0,fits]
     exact yQb (yQd hb) (by rw [hq]; exact ⟨_,_,rfl,.inl rfl,rfl,rfl⟩)
   ·simp -implicitDefEqProofs -dsimp only [go_sem,d,fits]
    refine (hH2 _).mono ?_
    rintro _ _ ⟨rfl,rfl⟩
    cases h5:hasF s.r main
    ·simp -implicitDefEqProofs -dsimp only [go_sem,fits]
     rw [h5] at hq
     exact yQb (yQd hb) (by rw [hq]; exact ⟨_,_,rfl,.inl rfl,rfl,rfl⟩)
    ·simp only [h5,Bool.false_and,Bool.and_false,Bool.not_true,Bool.or_false,bFt,if_false] at hq
     by_cases h0:qe = 0
     ·subst h0
      simp only [ne_eq,nTf,if_false] at hq
      by_cases ha:asks = 2
      ·have da:decide ((asks:Int) = 2) = true:=dEt (by omega)
       simp -implicitDefEqProofs -dsimp only [go_sem,d,da,fits,show decide (((0:Nat):Int) = 0) = true from rfl]
       refine (hF hright _).mono ?_
       rintro _ _ ⟨rfl,rfl⟩
       rw [dEt ha,Bool.true_and] at hq
       cases hf:yJx s name
       ·simp -implicitDefEqProofs -dsimp only [go_sem,fits]
        rw [hf] at hq
        exact yQb (yQd hb) (by rw [hq]; exact ⟨_,_,rfl,he,hxs,rfl⟩)
       ·simp -implicitDefEqProofs -dsimp only [go_sem,fits]
        rw [hf] at hq
        exact yQb (yQd hb) (by rw [hq]; exact ⟨_,_,rfl,.inl rfl,rfl,rfl⟩)
      ·have da:decide ((asks:Int) = 2) = false:=dEf (by omega)
       rw [dEf ha,Bool.false_and] at hq
       simp -implicitDefEqProofs -dsimp only [go_sem,d,da,fits,show decide (((0:Nat):Int) = 0) = true from rfl]
       exact yQb (yQd hb) (by rw [hq]; exact ⟨_,_,rfl,he,hxs,rfl⟩)
     ·have d0:decide ((qe:Int) = 0) = false:=dEf (by omega)
      rw [if_pos h0] at hq
      simp -implicitDefEqProofs -dsimp only [go_sem,d,d0,fits]
      exact yQb (yQd hb) (by rw [hq]; exact ⟨_,_,rfl,.inl rfl,rfl,rfl⟩)
  ·simp -implicitDefEqProofs -dsimp only [go_sem,d,fits]
   refine (hH1 _).mono ?_
   rintro _ _ ⟨rfl,rfl⟩
   cases h4:hasF s.l main
   ·simp -implicitDefEqProofs -dsimp only [go_sem,fits]
    rw [h4] at hq
    exact yQb (yQd hb) (by rw [hq]; exact ⟨_,_,rfl,.inl rfl,rfl,rfl⟩)
   cases rr
   ·simp only [h4,Bool.false_and,Bool.and_false,Bool.not_true,Bool.or_false,bFt,if_false] at hq
    by_cases h0:qe = 0
    ·subst h0
     simp only [ne_eq,nTf,if_false] at hq
     by_cases ha:asks = 2
     ·have da:decide ((asks:Int) = 2) = true:=dEt (by omega)
      simp -implicitDefEqProofs -dsimp only [go_sem,d,da,fits,show decide (((0:Nat):Int) = 0) = true from rfl]
      refine (hF hright _).mono ?_
      rintro _ _ ⟨rfl,rfl⟩
      rw [dEt ha,Bool.true_and] at hq
      cases hf:yJx s name
      ·simp -implicitDefEqProofs -dsimp only [go_sem,fits]
       rw [hf] at hq
       exact yQb (yQd hb) (by rw [hq]; exact ⟨_,_,rfl,he,hxs,rfl⟩)
      ·simp -implicitDefEqProofs -dsimp only [go_sem,fits]
       rw [hf] at hq
       exact yQb (yQd hb) (by rw [hq]; exact ⟨_,_,rfl,.inl rfl,rfl,rfl⟩)
     ·have da:decide ((asks:Int) = 2) = false:=dEf (by omega)
      rw [dEf ha,Bool.false_and] at hq
      simp -implicitDefEqProofs -dsimp only [go_sem,d,da,fits,show decide (((0:Nat):Int) = 0) = true from rfl]
      exact yQb (yQd hb) (by rw [hq]; exact ⟨_,_,rfl,he,hxs,rfl⟩)
    ·have d0:decide ((qe:Int) = 0) = false:=dEf (by omega)
     rw [if_pos h0] at hq
     simp -implicitDefEqProofs -dsimp only [go_sem,d,d0,fits]
     exact yQb (yQd hb) (by rw [hq]; exact ⟨_,_,rfl,.inl rfl,rfl,rfl⟩)
   ·simp -implicitDefEqProofs -dsimp only [go_sem,d,fits]
    refine (hH2 _).mono ?_
    rintro _ _ ⟨rfl,rfl⟩
    cases h5:hasF s.r main
    ·simp -implicitDefEqProofs -dsimp only [go_sem,fits]
     rw [h4,h5] at hq
     exact yQb (yQd hb) (by rw [hq]; exact ⟨_,_,rfl,.inl rfl,rfl,rfl⟩)
    ·simp only [h4,h5,Bool.false_and,Bool.and_false,Bool.not_true,Bool.or_false,bFt,if_false] at hq
     by_cases h0:qe = 0
     ·subst h0
      simp only [ne_eq,nTf,if_false] at hq
      by_cases ha:asks = 2
      ·have da:decide ((asks:Int) = 2) = true:=dEt (by omega)
       simp -implicitDefEqProofs -dsimp only [go_sem,d,da,fits,show decide (((0:Nat):Int) = 0) = true from rfl]
       refine (hF hright _).mono ?_
       rintro _ _ ⟨rfl,rfl⟩
       rw [dEt ha,Bool.true_and] at hq
       cases hf:yJx s name
       ·simp -implicitDefEqProofs -dsimp only [go_sem,fits]
        rw [hf] at hq
        exact yQb (yQd hb) (by rw [hq]; exact ⟨_,_,rfl,he,hxs,rfl⟩)
       ·simp -implicitDefEqProofs -dsimp only [go_sem,fits]
        rw [hf] at hq
        exact yQb (yQd hb) (by rw [hq]; exact ⟨_,_,rfl,.inl rfl,rfl,rfl⟩)
      ·have da:decide ((asks:Int) = 2) = false:=dEf (by omega)
       rw [dEf ha,Bool.false_and] at hq
       simp -implicitDefEqProofs -dsimp only [go_sem,d,da,fits,show decide (((0:Nat):Int) = 0) = true from rfl]
       exact yQb (yQd hb) (by rw [hq]; exact ⟨_,_,rfl,he,hxs,rfl⟩)
     ·have d0:decide ((qe:Int) = 0) = false:=dEf (by omega)
      rw [if_pos h0] at hq
      simp -implicitDefEqProofs -dsimp only [go_sem,d,d0,fits]
      exact yQb (yQd hb) (by rw [hq]; exact ⟨_,_,rfl,.inl rfl,rfl,rfl⟩)
end Go.Proofs.Tryz
