/- Sequents and trees of sequents as plain -/
import Derived.Test.YtckafgnkmnichaaGreatDoorJK
import Derived.Test.YtckafgnkmnichaaGreatDoorKF
import Derived.Test.YtckafgnkmnichaaGreatDoorKA
import Derived.Test.YtckafgnkmnichaaGreatDoorJW
import Derived.Lib.Bytealg
import Derived.Laws.Externs
import Derived.WalkKit
import Derived.Shelf.Abstract
import Derived.Test.YtckafgnkmnichaaGreatDoorKB
import Derived.Test.YtckafgnkmnichaaGreatDoorJU
set_option linter.all false
namespace Go.Iv
open Go
structure Sq where
 l:List Fm
 r:List Fm
inductive Tr where
 | mk (rule:Nat) (s:Sq) (main:Fm) (term:Tm) (name:ByteArray) (sub:List Tr)
def IsSq (s:Sq) (x:IV):Prop:=∃ t xs t' ys,x = .agg [.sl t xs,.sl t' ys] ∧ okEs t 4 ∧ IsFms s.l xs ∧ okEs t' 4 ∧ IsFms s.r ys
def IsSqs:List Sq → List IV → Prop
 | [],xs => xs = []
 | a :: aL,xs => ∃ y ys,xs = y :: ys ∧ IsSq a y ∧ IsSqs aL ys
mutual
def IsTr:Tr → IV → Prop
 | .mk rule s f u n sub,x => ∃ tl xl tr xr op fn ta xa tb xb v un tu xu ts xs,x = .agg [.raw (.int .u8 rule),.sl tl xl,.sl tr xr,.raw (.int .u8 op),.raw (.string fn),.sl ta xa,.sl tb xb,.raw (.bool v),.raw (.string un),.sl tu xu,.raw (.string n),.sl ts xs] ∧
  rule < 256 ∧ okEs tl 4 ∧ IsFms s.l xl ∧ okEs tr 4 ∧ IsFms s.r xr ∧ IsFm f (.agg [.raw (.int .u8 op),.raw (.string fn),.sl ta xa,.sl tb xb]) ∧ IsTm u (.agg [.raw (.bool v),.raw (.string un),.sl tu xu]) ∧ okEs ts 12 ∧ IsTrs sub xs
def IsTrs:List Tr → List IV → Prop
 | [],xs => xs = []
 | a :: aL,xs => ∃ y ys,xs = y :: ys ∧ IsTr a y ∧ IsTrs aL ys
end
theorem IsTr.mk {rule:Nat} {s:Sq} {f:Fm} {u:Tm} {n:ByteArray} {sub:List Tr} {x:IV} (h:IsTr (.mk rule s f u n sub) x):∃ tl xl tr xr op fn ta xa tb xb v un tu xu ts xs,x = .agg [.raw (.int .u8 rule),.sl tl xl,.sl tr xr,.raw (.int .u8 op),.raw (.string fn),.sl ta xa,.sl tb xb,.raw (.bool v),.raw (.string un),.sl tu xu,.raw (.string n),.sl ts xs] ∧
  rule < 256 ∧ okEs tl 4 ∧ IsFms s.l xl ∧ okEs tr 4 ∧ IsFms s.r xr ∧ IsFm f (.agg [.raw (.int .u8 op),.raw (.string fn),.sl ta xa,.sl tb xb]) ∧ IsTm u (.agg [.raw (.bool v),.raw (.string un),.sl tu xu]) ∧ okEs ts 12 ∧ IsTrs sub xs:=by
 simpa only [IsTr] using h
theorem IsSqs.len:∀ {aL:List Sq} {xs:List IV},IsSqs aL xs → xs.length = aL.length
 | [],xs,h => by simp only [IsSqs] at h; subst h; rfl
 | a :: aL,xs,h => by
  simp only [IsSqs] at h
  obtain ⟨y,ys,rfl,_,h⟩:=h
  simp [IsSqs.len h]
theorem IsSqs.get:∀ {aL:List Sq} {xs:List IV} {k:Nat} {a:Sq},IsSqs aL xs → aL[k]? = some a → ∃ x,xs[k]? = some x ∧ IsSq a x
 | [],xs,k,a,h,hk => by simp at hk
 | b :: aL,xs,k,a,h,hk => by
  simp only [IsSqs] at h
  obtain ⟨y,ys,rfl,hy,h⟩:=h
  cases k with
  | zero => simp at hk; subst hk; exact ⟨y,rfl,hy⟩
  | succ k => simpa using IsSqs.get h (by simpa using hk)
theorem IsSqs.append:∀ {aL bs:List Sq} {xs ys:List IV},IsSqs aL xs → IsSqs bs ys → IsSqs (aL ++ bs) (xs ++ ys)
 | [],bs,xs,ys,h,k => by simp only [IsSqs] at h; subst h; exact k
 | a :: aL,bs,xs,ys,h,k => by
  simp only [IsSqs] at h
  obtain ⟨y,zs,rfl,hy,h⟩:=h
  exact ⟨y,zs ++ ys,rfl,hy,IsSqs.append h k⟩
theorem IsTrs.len:∀ {aL:List Tr} {xs:List IV},IsTrs aL xs → xs.length = aL.length
 | [],xs,h => by simp only [IsTrs] at h; subst h; rfl
 | a :: aL,xs,h => by
  simp only [IsTrs] at h
  obtain ⟨y,ys,rfl,_,h⟩:=h
  simp [IsTrs.len h]
theorem IsTrs.get:∀ {aL:List Tr} {xs:List IV} {k:Nat} {a:Tr},IsTrs aL xs → aL[k]? = some a → ∃ x,xs[k]? = some x ∧ IsTr a x
 | [],xs,k,a,h,hk => by simp at hk
 | b :: aL,xs,k,a,h,hk => by
  simp only [IsTrs] at h
  obtain ⟨y,ys,rfl,hy,h⟩:=h
  cases k with
  | zero => simp at hk; subst hk; exact ⟨y,rfl,hy⟩
  | succ k => simpa using IsTrs.get h (by simpa using hk)
theorem IsTrs.append:∀ {aL bs:List Tr} {xs ys:List IV},IsTrs aL xs → IsTrs bs ys → IsTrs (aL ++ bs) (xs ++ ys)
 | [],bs,xs,ys,h,k => by simp only [IsTrs] at h; subst h; exact k
 | a :: aL,bs,xs,ys,h,k => by
  simp only [IsTrs] at h
  obtain ⟨y,zs,rfl,hy,h⟩:=h
  exact ⟨y,zs ++ ys,rfl,hy,IsTrs.append h k⟩
mutual
def Tr.steps:Tr → Nat
 | .mk _ _ _ _ _ sub => 1 + yQo sub
def yQo:List Tr → Nat
 | [] => 0
 | a :: l => a.steps + yQo l
end
mutual
def Tr.height:Tr → Nat
 | .mk _ _ _ _ _ sub => 1 + yQz sub
def yQz:List Tr → Nat
 | [] => 0
 | a :: l => max a.height (yQz l)
end
mutual
def Tr.cuts:Tr → Nat
 | .mk rule _ _ _ _ sub => (if rule = 17 then 1 else 0) + yZg sub
def yZg:List Tr → Nat
 | [] => 0
 | a :: l => a.cuts + yZg l
end
theorem yVj:∀ l m:List Tr,yQo (l ++ m) = yQo l + yQo m
 | [],m => by simp [yQo]
 | a :: l,m => by simp only [List.cons_append,yQo,yVj l m]; omega
theorem yWa:∀ l m:List Tr,yZg (l ++ m) = yZg l + yZg m
 | [],m => by simp [yZg]
 | a :: l,m => by simp only [List.cons_append,yZg,yWa l m]; omega
theorem yY8:∀ l m:List Tr,yQz (l ++ m) = max (yQz l) (yQz m)
 | [],m => by simp [yQz]
 | a :: l,m => by simp only [List.cons_append,yQz,yY8 l m]; omega
theorem Tr.height_le_steps:∀ t:Tr,t.height ≤ t.steps:=by
 have key:∀ k:Nat,(∀ t:Tr,SizeOf.sizeOf t < k → t.height ≤ t.steps):=fun k => by
  induction k with
  | zero => intro t h; omega
  | succ k ih =>
   rintro ⟨rule,s,f,u,n,sub⟩ h
   have:∀ l:List Tr,SizeOf.sizeOf l < k + 1 → yQz l ≤ yQo l:=fun l => by
    induction l with
    | nil => intro _; simp [yQz,yQo]
    | cons a l ihl =>
     intro hl
     simp only [List.cons.sizeOf_spec] at hl
     have h1:=ih a (by omega)
     have h2:=ihl (by omega)
     simp only [yQz,yQo]; omega
   simp only [Tr.mk.sizeOf_spec] at h
   have:=this sub (by omega)
   simp only [Tr.height,Tr.steps]; omega
 exact fun t => key _ t (Nat.lt_succ_self _)
mutual
def Tr.walk:List Nat → Tr → List (List Nat × Tr)
 | p,t@(.mk _ _ _ _ _ sub) => (p,t) :: yZ1 p 0 sub
def yZ1:List Nat → Nat → List Tr → List (List Nat × Tr)
 | _,_,[] => []
 | p,i,a :: l => a.walk (p ++ [i]) ++ yZ1 p (i + 1) l
end
def yZ0 (e:Tr → Nat):List (List Nat × Tr) → List Nat × Nat
 | [] => ([],0)
 | (p,t) :: l => if e t = 0 then yZ0 e l else (p,e t)
theorem yXo (e:Tr → Nat):∀ l m,yZ0 e (l ++ m) = if (yZ0 e l).2 = 0 then yZ0 e m else yZ0 e l
 | [],m => by simp [yZ0]
 | (p,t) :: l,m => by
  have ih:=yXo e l m
  by_cases h:e t = 0
  ·simp only [List.cons_append,yZ0,h,if_true,ih]
  ·simp [yZ0,h]
theorem zQj (e:Tr → Nat):∀ l,(yZ0 e l).2 = 0 → yZ0 e l = ([],0)
 | [],_ => rfl
 | (p,t) :: l,h => by
  simp only [yZ0] at h ⊢
  by_cases h':e t = 0
  ·rw [if_pos h'] at h ⊢; exact zQj e l h
  ·rw [if_neg h'] at h; exact absurd h h'
def Fm.op:Fm → Nat
 | .mk op _ _ _ => op
def Fm.subs:Fm → List Fm
 | .mk _ _ _ sub => sub
def Fm.nm:Fm → ByteArray
 | .mk _ n _ _ => n
def Tr.sq:Tr → Sq
 | .mk _ s _ _ _ _ => s
def Sq.plus (s m:Sq):Sq:=⟨s.l ++ m.l,s.r ++ m.r⟩
end Go.Iv
namespace Go.Proofs.Tryz
open Go Go.Iv
set_option maxRecDepth 4000
variable (gl:Nat → Option IV)
theorem yGw (v w:Bool) (n m:ByteArray) (us ws:List Tm) (x y:IV) (hx:IsTm (.mk v n us) x) (hy:IsTm (.mk w m ws) y)
  (IH:∀ (t t':Tag) (xs ys:List IV),okEs t 3 → okEs t' 3 → IsTms us xs → IsTms ws ys → ∀ st,ICall prog gl 171 [.sl t xs,.sl t' ys] st (fun x st' => x = .raw (.bool (eqB us ws)) ∧ st' = st)) (st:ISt) :
  ICall prog gl 117 [x,y] st (fun r st' => r = .raw (.bool (eqB (Tm.mk v n us) (.mk w m ws))) ∧ st' = st):=by
 obtain ⟨tx,cx,rfl,htx,hcx⟩:=hx.mk
 obtain ⟨ty,cy,rfl,hty,hcy⟩:=hy.mk
 refine iI func117 rfl rfl (by kernel_rfl) ?_
 by_cases hv:v = w
 ·subst hv
  by_cases hnm:n = m
  ·subst hnm
   simp -implicitDefEqProofs -dsimp only [go_sem,decide_true]
   refine (IH tx ty cx cy htx hty hcx hcy _).mono ?_
   rintro _ _ ⟨rfl,rfl⟩
   simp -implicitDefEqProofs -dsimp only [go_sem]
   refine yQ0 ⟨?_,rfl⟩
   by_cases hc:us = ws
   ·subst hc; rw [yQp.2 rfl,yQp.2 rfl]
   ·rw [yQj.2 hc,yQj.2 (by rintro ⟨⟩; exact hc rfl)]
  ·simp -implicitDefEqProofs -dsimp only [go_sem,dEf hnm,decide_true]
   exact yQ0 ⟨by rw [yQj.2 (by rintro ⟨⟩; exact hnm rfl)],rfl⟩
 ·simp -implicitDefEqProofs -dsimp only [go_sem,beq_eq_false_iff_ne.2 hv]
  exact yQ0 ⟨by rw [yQj.2 (by rintro ⟨⟩; exact hv rfl)],rfl⟩
theorem yYu (t t':Tag) (us ws:List Tm) (xs ys:List IV) (ht:okEs t 3) (ht':okEs t' 3) (ha:IsTms us xs) (hb:IsTms ws ys) (st:ISt) :
  ICall prog gl 171 [.sl t xs,.sl t' ys] st (fun x st' => x = .raw (.bool (eqB us ws)) ∧ st' = st):=by
 refine iI func171 rfl rfl (by kernel_rfl) ?_
 simp -implicitDefEqProofs -dsimp only [go_sem,ha.len,hb.len]
 intro hla hlb
 refine yZ8 (fun h => ?_) (fun h => ?_)
 ·have hne:us ≠ ws:=by rintro rfl; simp at h
  simp -implicitDefEqProofs -dsimp only [go_sem]
  exact yQ0 ⟨by rw [yQj.2 hne],rfl⟩
 have hlen:us.length = ws.length:=by simp at h; omega
 refine LoopC.ctr us.length (fun k fr st' ds => us.take k = ws.take k ∧ fr 0 = .iv (.sl t xs) ∧ fr 1 = .iv (.sl t' ys) ∧ fr 5 = .iv (.raw (.int .i64 k)) ∧ st' = st ∧ ds = []) ?_ ?_ ?_
 ·simp -implicitDefEqProofs -dsimp only [go_sem]; rfl
 ·rintro k fr st' ds hlt ⟨hn,h0,h1,h5,rfl,rfl⟩
  obtain ⟨a,hka⟩:=yQ3 hlt
  obtain ⟨b,hkb⟩:=yQ3 (hlen ▸ hlt)
  obtain ⟨x,hkx,hx⟩:=ha.get hka
  obtain ⟨y,hky,hy⟩:=hb.get hkb
  obtain ⟨v,n,cs⟩:=a
  obtain ⟨w,m,ds⟩:=b
  have hx0:=hx
  have hy0:=hy
  obtain ⟨tx,cx,rfl,htx,hcx⟩:=hx.mk
  obtain ⟨ty,cy,rfl,hty,hcy⟩:=hy.mk
  have hcall:=yGw gl v w n m cs ds _ _ hx0 hy0 (fun t1 t2 x1 y1 q1 q2 q3 q4 st1 => yYu t1 t2 cs ds x1 y1 q1 q2 q3 q4 st1) st'
  simp -implicitDefEqProofs -dsimp only [go_sem,h0,h1,h5,ha.len,hb.len,lt_i hlt,yQ9 hlt (show us.length ≤ 281474976710656 by omega),yQ2 ht,yQ2 ht',iNn,hkx,hky,fits]
  intro _
  refine hcall.mono ?_
  rintro _ _ ⟨rfl,rfl⟩
  by_cases hc:Tm.mk v n cs = .mk w m ds
  ·simp -implicitDefEqProofs -dsimp only [go_sem,h0,h1,h5,yQ9 hlt (show us.length ≤ 281474976710656 by omega),yQp.2 hc]
   rw [yQ4 hka,yQ4 hkb,hn,hc]
  ·have hne:us ≠ ws:=by
    rintro rfl
    rw [hka] at hkb
    exact hc (Option.some.inj hkb)
   simp -implicitDefEqProofs -dsimp only [go_sem,h0,h1,h5,yQj.2 hc]
   exact yQ0 ⟨by rw [yQj.2 hne],rfl⟩
 ·rintro fr st' ds ⟨hn,h0,h1,h5,rfl,rfl⟩
  simp -implicitDefEqProofs -dsimp only [go_sem,h0,h1,h5,ha.len,yQm (nLi _)]
  intro _
  have he:us = ws:=by rw [lTl] at hn; rw [hn,hlen,lTl]
  exact yQ0 ⟨by rw [yQp.2 he],rfl⟩
termination_by SizeOf.sizeOf us
decreasing_by exact xW8 (lMg hka)
theorem xXm (a b:Tm) (x y:IV) (hx:IsTm a x) (hy:IsTm b y) (st:ISt):ICall prog gl 117 [x,y] st (fun r st' => r = .raw (.bool (eqB a b)) ∧ st' = st):=by
 obtain ⟨v,n,us⟩:=a
 obtain ⟨w,m,ws⟩:=b
 exact yGw gl v w n m us ws x y hx hy (fun t t' xs ys h1 h2 h3 h4 st => yYu gl t t' us ws xs ys h1 h2 h3 h4 st) st
def kSF (f:Fm):Prop:=∀ (g:Fm) (x y:IV) (_:IsFm f x) (_:IsFm g y) (st:ISt),ICall prog gl 116 [x,y] st (fun r st' => r = .raw (.bool (eqB f g)) ∧ st' = st)
theorem yYv (us ws:List Fm) (IH:∀ a ∈ us,kSF gl a) (t t':Tag) (xs ys:List IV) (ht:okEs t 4) (ht':okEs t' 4) (ha:IsFms us xs) (hb:IsFms ws ys) (st:ISt) :
  ICall prog gl 88 [.sl t xs,.sl t' ys] st (fun x st' => x = .raw (.bool (eqB us ws)) ∧ st' = st):=by
 refine iI func88 rfl rfl (by kernel_rfl) ?_
 simp -implicitDefEqProofs -dsimp only [go_sem,ha.len,hb.len]
 intro hla hlb
 refine yZ8 (fun h => ?_) (fun h => ?_)
 ·have hne:us ≠ ws:=by rintro rfl; simp at h
  simp -implicitDefEqProofs -dsimp only [go_sem]
  exact yQ0 ⟨by rw [yQj.2 hne],rfl⟩
 have hlen:us.length = ws.length:=by simp at h; omega
 refine LoopC.ctr us.length (fun k fr st' ds => us.take k = ws.take k ∧ fr 0 = .iv (.sl t xs) ∧ fr 1 = .iv (.sl t' ys) ∧ fr 5 = .iv (.raw (.int .i64 k)) ∧ st' = st ∧ ds = []) ?_ ?_ ?_
 ·simp -implicitDefEqProofs -dsimp only [go_sem]; rfl
 ·rintro k fr st' ds hlt ⟨hn,h0,h1,h5,rfl,rfl⟩
  obtain ⟨a,hka⟩:=yQ3 hlt
  obtain ⟨b,hkb⟩:=yQ3 (hlen ▸ hlt)
  obtain ⟨x,hkx,hx⟩:=ha.get hka
  obtain ⟨y,hky,hy⟩:=hb.get hkb
  have hcall:=IH a (lMg hka) b x y hx hy st'
  obtain ⟨o,n,cs,sub⟩:=a
  obtain ⟨o',m,ds,sub'⟩:=b
  obtain ⟨tx,cx,sx,dx,rfl,_⟩:=hx.mk
  obtain ⟨ty,cy,sy,dy,rfl,_⟩:=hy.mk
  simp -implicitDefEqProofs -dsimp only [go_sem,h0,h1,h5,ha.len,hb.len,lt_i hlt,yQ9 hlt (show us.length ≤ 281474976710656 by omega),yQ2 ht,yQ2 ht',iNn,hkx,hky,fits]
  intro _
  refine hcall.mono ?_
  rintro _ _ ⟨rfl,rfl⟩
  by_cases hc:Fm.mk o n cs sub = .mk o' m ds sub'
  ·simp -implicitDefEqProofs -dsimp only [go_sem,h0,h1,h5,yQ9 hlt (show us.length ≤ 281474976710656 by omega),yQp.2 hc]
   rw [yQ4 hka,yQ4 hkb,hn,hc]
  ·have hne:us ≠ ws:=by
    rintro rfl
    rw [hka] at hkb
    exact hc (Option.some.inj hkb)
   simp -implicitDefEqProofs -dsimp only [go_sem,h0,h1,h5,yQj.2 hc]
   exact yQ0 ⟨by rw [yQj.2 hne],rfl⟩
 ·rintro fr st' ds ⟨hn,h0,h1,h5,rfl,rfl⟩
  simp -implicitDefEqProofs -dsimp only [go_sem,h0,h1,h5,ha.len,yQm (nLi _)]
  intro _
  have he:us = ws:=by rw [lTl] at hn; rw [hn,hlen,lTl]
  exact yQ0 ⟨by rw [yQp.2 he],rfl⟩
theorem zV6 (o:Nat) (n:ByteArray) (us:List Tm) (sub:List Fm) (IH:∀ a ∈ sub,kSF gl a):kSF gl (.mk o n us sub):=by
 intro g x y hx hy st
 obtain ⟨o',m,ws,sub'⟩:=g
 obtain ⟨tx,cx,sx,dx,rfl,ho,htx,hcx,hsx,hdx⟩:=hx.mk
 obtain ⟨ty,cy,sy,dy,rfl,ho',hty,hcy,hsy,hdy⟩:=hy.mk
 have hcall:=yYv gl sub sub' IH sx sy dx dy hsx hsy hdx hdy
 refine iI func116 rfl rfl (by kernel_rfl) ?_
 by_cases hv:o = o'
 ·subst hv
  by_cases hnm:n = m
  ·subst hnm
   simp -implicitDefEqProofs -dsimp only [go_sem,decide_true]
   refine (yYu gl tx ty us ws cx cy htx hty hcx hcy _).mono ?_
   rintro _ _ ⟨rfl,rfl⟩
   by_cases hc:us = ws
   ·subst hc
    simp -implicitDefEqProofs -dsimp only [go_sem,yQp.2 rfl]
    refine (hcall _).mono ?_
    rintro _ _ ⟨rfl,rfl⟩
    simp -implicitDefEqProofs -dsimp only [go_sem]
    refine yQ0 ⟨?_,rfl⟩
    by_cases hd:sub = sub'
    ·subst hd; rw [yQp.2 rfl,yQp.2 rfl]
    ·rw [yQj.2 hd,yQj.2 (by rintro ⟨⟩; exact hd rfl)]
   ·simp -implicitDefEqProofs -dsimp only [go_sem,yQj.2 hc]
    exact yQ0 ⟨by rw [yQj.2 (by rintro ⟨⟩; exact hc rfl)],rfl⟩
  ·simp -implicitDefEqProofs -dsimp only [go_sem,dEf hnm,decide_true]
   exact yQ0 ⟨by rw [yQj.2 (by rintro ⟨⟩; exact hnm rfl)],rfl⟩
 ·have hv':decide ((o:Int) = (o':Int)) = false:=dEf (by omega)
  simp -implicitDefEqProofs -dsimp only [go_sem,hv']
  exact yQ0 ⟨by rw [yQj.2 (by rintro ⟨⟩; exact hv rfl)],rfl⟩
theorem zQb:∀ (k:Nat) (f:Fm),SizeOf.sizeOf f < k → kSF gl f
 | 0,f,h => by omega
 | k + 1,.mk o n us sub,h => zV6 gl o n us sub (fun a ha => zQb k a (by
   have:=lSm ha
   simp only [Fm.mk.sizeOf_spec] at h
   omega))
theorem zJm (f:Fm):kSF gl f:=zQb gl _ f (Nat.lt_succ_self _)
theorem zZp (us ws:List Fm) (t t':Tag) (xs ys:List IV) (ht:okEs t 4) (ht':okEs t' 4) (ha:IsFms us xs) (hb:IsFms ws ys) (st:ISt) :
  ICall prog gl 88 [.sl t xs,.sl t' ys] st (fun x st' => x = .raw (.bool (eqB us ws)) ∧ st' = st):=yYv gl us ws (fun a _ => zJm gl a) t t' xs ys ht ht' ha hb st
theorem zZ5 (a b:Sq) (x y:IV) (hx:IsSq a x) (hy:IsSq b y) (st:ISt):ICall prog gl 35 [x,y] st (fun r st' => r = .raw (.bool (eqB a b)) ∧ st' = st):=by
 obtain ⟨l,r⟩:=a
 obtain ⟨l',r'⟩:=b
 obtain ⟨t1,x1,t2,x2,rfl,h1,h2,h3,h4⟩:=hx
 obtain ⟨t3,x3,t4,x4,rfl,h5,h6,h7,h8⟩:=hy
 refine iI func35 rfl rfl (by kernel_rfl) ?_
 simp -implicitDefEqProofs -dsimp only [go_sem]
 refine (zZp gl l l' t1 t3 x1 x3 h1 h5 h2 h6 _).mono ?_
 rintro _ _ ⟨rfl,rfl⟩
 by_cases hc:l = l'
 ·subst hc
  simp -implicitDefEqProofs -dsimp only [go_sem,yQp.2 rfl]
  refine (zZp gl r r' t2 t4 x2 x4 h3 h7 h4 h8 _).mono ?_
  rintro _ _ ⟨rfl,rfl⟩
  simp -implicitDefEqProofs -dsimp only [go_sem]
  refine yQ0 ⟨?_,rfl⟩
  by_cases hd:r = r'
  ·subst hd; rw [yQp.2 rfl,yQp.2 rfl]
  ·rw [yQj.2 hd,yQj.2 (by rintro ⟨⟩; exact hd rfl)]
 ·simp -implicitDefEqProofs -dsimp only [go_sem,yQj.2 hc]
  exact yQ0 ⟨by rw [yQj.2 (by rintro ⟨⟩; exact hc rfl)],rfl⟩
def xQ5 (l:List Nat):List IV:=l.map fun (n:Nat) => .raw (.int .i64 (n:Int))
theorem yVy (l:List Nat):(xQ5 l).length = l.length:=by simp [xQ5]
theorem xQ4 {l:List Nat} {k n:Nat} (h:l[k]? = some n):(xQ5 l)[k]? = some (.raw (.int .i64 n)):=by simp [xQ5,h]
theorem xYs (t t':Tag) (us ws:List Nat) (ht:okEs t 1) (ht':okEs t' 1) (st:ISt) :
  ICall prog gl 18 [.sl t (xQ5 us),.sl t' (xQ5 ws)] st (fun x st' => x = .raw (.bool (eqB us ws)) ∧ st' = st):=by
 refine iI func18 rfl rfl (by kernel_rfl) ?_
 simp -implicitDefEqProofs -dsimp only [go_sem,yVy]
 intro hla hlb
 refine yZ8 (fun h => ?_) (fun h => ?_)
 ·have hne:us ≠ ws:=by rintro rfl; simp at h
  simp -implicitDefEqProofs -dsimp only [go_sem]
  exact yQ0 ⟨by rw [yQj.2 hne],rfl⟩
 have hlen:us.length = ws.length:=by simp at h; omega
 refine LoopC.ctr us.length (fun k fr st' ds => us.take k = ws.take k ∧ fr 0 = .iv (.sl t (xQ5 us)) ∧ fr 1 = .iv (.sl t' (xQ5 ws)) ∧ fr 5 = .iv (.raw (.int .i64 k)) ∧ st' = st ∧ ds = []) ?_ ?_ ?_
 ·simp -implicitDefEqProofs -dsimp only [go_sem]; rfl
 ·rintro k fr st' ds hlt ⟨hn,h0,h1,h5,rfl,rfl⟩
  obtain ⟨a,hka⟩:=yQ3 hlt
  obtain ⟨b,hkb⟩:=yQ3 (hlen ▸ hlt)
  have hkx:=xQ4 hka
  have hky:=xQ4 hkb
  by_cases hc:a = b
  ·subst hc
   simp -implicitDefEqProofs -dsimp only [go_sem,h0,h1,h5,yVy,lt_i hlt,yQ9 hlt (show us.length ≤ 281474976710656 by omega),yQ2 ht,yQ2 ht',iNn,hkx,hky,fits,decide_true]
   intro _
   rw [yQ4 hka,yQ4 hkb,hn]
  ·have hne:us ≠ ws:=by
    rintro rfl
    rw [hka] at hkb
    exact hc (Option.some.inj hkb)
   have hd:decide ((a:Int) = (b:Int)) = false:=dEf (by omega)
   simp -implicitDefEqProofs -dsimp only [go_sem,h0,h1,h5,yVy,lt_i hlt,yQ2 ht,yQ2 ht',iNn,hkx,hky,fits,hd]
   intro _
   exact yQ0 ⟨by rw [yQj.2 hne],rfl⟩
 ·rintro fr st' ds ⟨hn,h0,h1,h5,rfl,rfl⟩
  simp -implicitDefEqProofs -dsimp only [go_sem,h0,h1,h5,yVy,yQm (nLi _)]
  intro _
  have he:us = ws:=by rw [lTl] at hn; rw [hn,hlen,lTl]
  exact yQ0 ⟨by rw [yQp.2 he],rfl⟩
def kCT (us:List Tm):Prop:=∀ (tg:Tag) (xs:List IV) (_:okEs tg 3) (_:IsTms us xs) (_:yQ7 us ≤ 1099511627776) (st:ISt),
 ICall prog gl 169 [.sl tg xs] st (fun r st' => ∃ tg' ys,r = .sl tg' ys ∧ okEs tg' 3 ∧ appT tg' ∧ IsTmsD us ys ∧ st' = st)
theorem yGy (v:Bool) (n:ByteArray) (us:List Tm) (IH:kCT gl us) (x:IV) (hx:IsTm (.mk v n us) x) (hs:(Tm.mk v n us).size ≤ 1099511627776) (st:ISt) :
  ICall prog gl 114 [x] st (fun r st' => IsTmD (.mk v n us) r ∧ st' = st):=by
 obtain ⟨tx,cx,rfl,htx,hcx⟩:=hx.mk
 simp only [Tm.size] at hs
 have hcall:=IH tx cx htx hcx (by omega) st
 refine iI func114 rfl rfl (by kernel_rfl) ?_
 simp -implicitDefEqProofs -dsimp only [go_sem,fits]
 refine hcall.mono ?_
 rintro _ _ ⟨tg',ys,rfl,he,ha,hys,rfl⟩
 simp -implicitDefEqProofs -dsimp only [go_sem,fits]
 exact yQ0 ⟨IsTmD.intro he ha hys,rfl⟩
theorem zJn (us:List Tm) (IH:∀ v n l,Tm.mk v n l ∈ us → kCT gl l):kCT gl us:=by
 intro tg xs htg hxs hsz st
 have hlsz:=yXu us
 refine iI func169 rfl rfl (by kernel_rfl) ?_
 simp -implicitDefEqProofs -dsimp only [go_sem]
 refine LoopC.ctr us.length (fun k fr st' ds => (∃ tg' ys,fr 3 = .iv (.sl tg' ys) ∧ IsTmsD (us.take k) ys ∧ appT tg' ∧ own st' tg' k 3 st ∧ subSt st st') ∧ fr 0 = .iv (.sl tg xs) ∧ fr 4 = .iv (.raw (.int .i64 k)) ∧ ds = []) ?_ ?_ ?_
 ·simp -implicitDefEqProofs -dsimp only [go_sem]
  exact ⟨⟨_,_,rfl,IsTmsD.nil,.inl rfl,own.nil _ _ _ _ _,subSt.refl _⟩,rfl⟩
 ·rintro k fr st1 _ hlt ⟨⟨tg',ys,f3,hys,hap,hown,hsub⟩,f0,f4,rfl⟩
  obtain ⟨a,ha⟩:=yQ3 hlt
  obtain ⟨x,hkx,hx⟩:=hxs.get ha
  obtain ⟨h1,h2⟩:=yZj ha
  have hlen2:ys.length = k:=by rw [hys.len,List.length_take]; omega
  obtain ⟨v2,n2,m⟩:=a
  have hcall:=yGy gl v2 n2 m (IH _ _ _ (lMg ha)) x hx (by omega) st1
  obtain ⟨tx,cx,rfl,htx,hcx⟩:=hx.mk
  simp -implicitDefEqProofs -dsimp only [go_sem,f0,f3,f4,hxs.len,lt_i hlt,yQ2 htg,iNn,hkx,fits]
  intro _
  refine hcall.mono ?_
  rintro r _ ⟨hr,rfl⟩
  have hn:IsTmsD (us.take (k + 1)) (ys ++ [r]):=by
   rw [yQ4 ha]; exact hys.append (IsTmsD.one hr)
  obtain ⟨t3,x3,rfl,_⟩:=hr.mk
  simp -implicitDefEqProofs -dsimp only [go_sem,f0,f3,f4,fits,yQ1]
  refine yXd hown hlen2 hsub rfl (by simp [fits,IV.one]) (by simp only; omega) (by omega) fun tg2 st4 hown2 hsub4 _ hap2 => ?_
  simp -implicitDefEqProofs -dsimp only [go_sem,f0,f3,f4,fits,yQ9 hlt (show us.length ≤ 281474976710656 by omega)]
  exact ⟨tg2,_,rfl,hn,hap2,hown2,hsub4⟩
 ·rintro fr st1 _ ⟨⟨tg',ys,f3,hys,hap,hown,hsub⟩,f0,f4,rfl⟩
  rw [lTl] at hys
  simp -implicitDefEqProofs -dsimp only [go_sem,f0,f3,f4,hxs.len,yQm (nLi _),fits]
  intro _
  exact yQb (st':=st) hsub ⟨tg',ys,rfl,hown.es,hap,hys,rfl⟩
theorem yGx:∀ (k:Nat) (us:List Tm),SizeOf.sizeOf us < k → kCT gl us
 | 0,f,h => by omega
 | k + 1,us,h => zJn gl us (fun v n l ha => yGx k l (by
   have:=lSm ha
   simp at this; omega))
theorem zZq (us:List Tm):kCT gl us:=yGx gl _ us (Nat.lt_succ_self _)
theorem zJo (a:Tm) (x:IV) (hx:IsTm a x) (hs:a.size ≤ 1099511627776) (st:ISt):ICall prog gl 114 [x] st (fun r st' => IsTmD a r ∧ st' = st):=by
 obtain ⟨v,n,us⟩:=a
 exact yGy gl v n us (zZq gl us) x hx hs st
def kCF (f:Fm):Prop:=∀ (x:IV) (_:IsFm f x) (_:f.size ≤ 1099511627776) (st:ISt),ICall prog gl 113 [x] st (fun r st' => IsFmD f r ∧ st' = st)
theorem IsFmD.aggs {f:Fm} {r:IV} (h:IsFmD f r):∃ o n t x t' x',r = .agg [.raw (.int .u8 o),.raw (.string n),.sl t x,.sl t' x']:=by
 obtain ⟨o,n,us,sub⟩:=f
 obtain ⟨t,xs,t',ys,rfl,_⟩:=h.mk
 exact ⟨_,_,_,_,_,_,rfl⟩
theorem yYw (us:List Fm) (IH:∀ a ∈ us,kCF gl a) (tg:Tag) (xs:List IV) (htg:okEs tg 4) (hxs:IsFms us xs) (hsz:yQ8 us ≤ 1099511627776) (st:ISt) :
  ICall prog gl 72 [.sl tg xs] st (fun r st' => ∃ tg' ys,r = .sl tg' ys ∧ okEs tg' 4 ∧ appT tg' ∧ IsFmsD us ys ∧ st' = st):=by
 have hlsz:=yZk us
 refine iI func72 rfl rfl (by kernel_rfl) ?_
 simp -implicitDefEqProofs -dsimp only [go_sem]
 refine LoopC.ctr us.length (fun k fr st' ds => (∃ tg' ys,fr 3 = .iv (.sl tg' ys) ∧ IsFmsD (us.take k) ys ∧ appT tg' ∧ own st' tg' k 4 st ∧ subSt st st') ∧ fr 0 = .iv (.sl tg xs) ∧ fr 4 = .iv (.raw (.int .i64 k)) ∧ ds = []) ?_ ?_ ?_
 ·simp -implicitDefEqProofs -dsimp only [go_sem]
  exact ⟨⟨_,_,rfl,IsFmsD.nil,.inl rfl,own.nil _ _ _ _ _,subSt.refl _⟩,rfl⟩
 ·rintro k fr st1 _ hlt ⟨⟨tg',ys,f3,hys,hap,hown,hsub⟩,f0,f4,rfl⟩
  obtain ⟨a,ha⟩:=yQ3 hlt
  obtain ⟨x,hkx,hx⟩:=hxs.get ha
  obtain ⟨h1,h2⟩:=yQv ha
  have hlen2:ys.length = k:=by rw [hys.len,List.length_take]; omega
  have hcall:=IH a (lMg ha) x hx (by omega) st1
  obtain ⟨o5,n5,t5,x5,t6,x6,rfl⟩:=hx.agg
  simp -implicitDefEqProofs -dsimp only [go_sem,f0,f3,f4,hxs.len,lt_i hlt,yQ2 htg,iNn,hkx,fits]
  intro _
  refine hcall.mono ?_
  rintro r _ ⟨hr,rfl⟩
  have hn:IsFmsD (us.take (k + 1)) (ys ++ [r]):=by
   rw [yQ4 ha]; exact hys.append (IsFmsD.one hr)
  obtain ⟨o7,n7,t7,x7,t8,x8,rfl⟩:=IsFmD.aggs hr
  simp -implicitDefEqProofs -dsimp only [go_sem,f0,f3,f4,fits,yQ1]
  refine yXd hown hlen2 hsub rfl (by simp [fits,IV.one]) (by simp only; omega) (by omega) fun tg2 st4 hown2 hsub4 _ hap2 => ?_
  simp -implicitDefEqProofs -dsimp only [go_sem,f0,f3,f4,fits,yQ9 hlt (show us.length ≤ 281474976710656 by omega)]
  exact ⟨tg2,_,rfl,hn,hap2,hown2,hsub4⟩
 ·rintro fr st1 _ ⟨⟨tg',ys,f3,hys,hap,hown,hsub⟩,f0,f4,rfl⟩
  rw [lTl] at hys
  simp -implicitDefEqProofs -dsimp only [go_sem,f0,f3,f4,hxs.len,yQm (nLi _),fits]
  intro _
  exact yQb (st':=st) hsub ⟨tg',ys,rfl,hown.es,hap,hys,rfl⟩
theorem zV7 (o:Nat) (n:ByteArray) (us:List Tm) (sub:List Fm) (IH:∀ a ∈ sub,kCF gl a):kCF gl (.mk o n us sub):=by
 intro x hx hs st
 obtain ⟨t1,x1,t2,x2,rfl,ho,ht1,hx1,ht2,hx2⟩:=hx.mk
 simp only [Fm.size] at hs
 have hc1:=zZq gl us t1 x1 ht1 hx1 (by omega) st
 have hc2:=yYw gl sub IH t2 x2 ht2 hx2 (by omega) st
 refine iI func113 rfl rfl (by kernel_rfl) ?_
 simp -implicitDefEqProofs -dsimp only [go_sem,fits]
 refine hc1.mono ?_
 rintro _ _ ⟨tg',ys,rfl,he,ha,hys,rfl⟩
 simp -implicitDefEqProofs -dsimp only [go_sem,fits]
 refine hc2.mono ?_
 rintro _ _ ⟨tg2,ys2,rfl,he2,ha2,hys2,rfl⟩
 simp -implicitDefEqProofs -dsimp only [go_sem,fits]
 exact yQ0 ⟨IsFmD.intro ho he ha hys he2 ha2 hys2,rfl⟩
theorem zQc:∀ (k:Nat) (f:Fm),SizeOf.sizeOf f < k → kCF gl f
 | 0,f,h => by omega
 | k + 1,.mk o n us sub,h => zV7 gl o n us sub (fun a ha => zQc k a (by
   have:=lSm ha
   simp only [Fm.mk.sizeOf_spec] at h
   omega))
theorem yUg (f:Fm):kCF gl f:=zQc gl _ f (Nat.lt_succ_self _)
theorem zZr (us:List Fm) (tg:Tag) (xs:List IV) (htg:okEs tg 4) (hxs:IsFms us xs) (hsz:yQ8 us ≤ 1099511627776) (st:ISt) :
  ICall prog gl 72 [.sl tg xs] st (fun r st' => ∃ tg' ys,r = .sl tg' ys ∧ okEs tg' 4 ∧ appT tg' ∧ IsFmsD us ys ∧ st' = st):=yYw gl us (fun a _ => yUg gl a) tg xs htg hxs hsz st
theorem zW6 (s:Sq) (x:IV) (hx:IsSq s x) (h1:yQ8 s.l ≤ 1099511627776) (h2:yQ8 s.r ≤ 1099511627776) (st:ISt):ICall prog gl 25 [x] st (fun r st' =>
  (∃ t1 x1 t2 x2,r = .agg [.sl t1 x1,.sl t2 x2] ∧ okEs t1 4 ∧ appT t1 ∧ IsFmsD s.l x1 ∧ okEs t2 4 ∧ appT t2 ∧ IsFmsD s.r x2) ∧ st' = st):=by
 obtain ⟨t1,x1,t2,x2,rfl,e1,i1,e2,i2⟩:=hx
 have hc1:=zZr gl s.l t1 x1 e1 i1 h1 st
 have hc2:=zZr gl s.r t2 x2 e2 i2 h2 st
 refine iI func25 rfl rfl (by kernel_rfl) ?_
 simp -implicitDefEqProofs -dsimp only [go_sem,fits]
 refine hc1.mono ?_
 rintro _ _ ⟨tg',ys,rfl,he,ha,hys,rfl⟩
 simp -implicitDefEqProofs -dsimp only [go_sem,fits]
 refine hc2.mono ?_
 rintro _ _ ⟨tg2,ys2,rfl,he2,ha2,hys2,rfl⟩
 simp -implicitDefEqProofs -dsimp only [go_sem,fits]
 exact yQ0 ⟨⟨_,_,_,_,rfl,he,ha,hys,he2,ha2,hys2⟩,rfl⟩
end Go.Proofs.Tryz
namespace Go.Proofs.Tryz
open Go Go.Iv
def cmpN (a b:Nat):Int:=if a < b then -1 else if b < a then 1 else 0
noncomputable def cmpB (a b:ByteArray):Int:=if Op.bytesLess a.data.toList b.data.toList = true then -1 else if Op.bytesLess b.data.toList a.data.toList = true then 1 else 0
def lexI (x y:Int):Int:=if x = 0 then y else x
mutual
noncomputable def yWi:Tm → Tm → Int
 | .mk v n us,.mk v' n' us' => if v = v' then lexI (cmpB n n') (lexI (cmpN us.length us'.length) (yKf us us')) else if v = true then -1 else 1
noncomputable def yKf:List Tm → List Tm → Int
 | a :: l,b :: m => lexI (yWi a b) (yKf l m)
 | _,_ => 0
end
mutual
noncomputable def yXr:Fm → Fm → Int
 | .mk o n us sub,.mk o' n' us' sub' => lexI (cmpN o o') (lexI (cmpB n n') (lexI (lexI (cmpN us.length us'.length) (yKf us us')) (lexI (cmpN sub.length sub'.length) (yG1 sub sub'))))
noncomputable def yG1:List Fm → List Fm → Int
 | a :: l,b :: m => lexI (yXr a b) (yG1 l m)
 | _,_ => 0
end
structure Cp {α:Type} (f:α → α → Int) (a:α):Prop where
 eq:∀ b,f a b = 0 ↔ a = b
 neg:∀ b,f b a = - f a b
 tr:∀ b c,f a b < 0 → f b c < 0 → f a c < 0
theorem yWg {x y:Int}:lexI x y = 0 ↔ x = 0 ∧ y = 0:=by
 unfold lexI; split
 ·rename_i h; simp [h]
 ·rename_i h; simp [h]
theorem yGd (x y:Int):lexI (-x) (-y) = - lexI x y:=by
 unfold lexI
 by_cases h:x = 0
 ·simp [h]
 ·rw [if_neg (by omega),if_neg h]
theorem zYr {x y:Int}:lexI x y < 0 ↔ x < 0 ∨ x = 0 ∧ y < 0:=by
 unfold lexI; split
 ·rename_i h; simp [h]
 ·rename_i h; simp [h]
theorem zUw {p q r p' q' r':Int} (h1:p < 0 → q < 0 → r < 0) (h2:p = 0 → q = r) (h3:q = 0 → p = r) (h4:p' < 0 → q' < 0 → r' < 0) (h:lexI p p' < 0) (k:lexI q q' < 0):lexI r r' < 0:=by
 rw [zYr] at *
 rcases h with h | ⟨h,h'⟩
 ·rcases k with k | ⟨k,_⟩
  ·exact .inl (h1 h k)
  ·exact .inl (by rw [← h3 k]; exact h)
 ·rcases k with k | ⟨k,k'⟩
  ·exact .inl (by rw [← h2 h]; exact k)
  ·exact .inr ⟨by rw [← h2 h]; exact k,h4 h' k'⟩
theorem zKc (a:Nat):Cp cmpN a:=by
 refine ⟨fun b => ?_,fun b => ?_,fun b c => ?_⟩ <;> unfold cmpN <;> repeat' split
 all_goals (first | omega | simp_all | (constructor <;> intro <;> omega))
open Classical in
theorem zZa {a b:ByteArray}:cmpB a b = if ltN a b then -1 else if ltN b a then 1 else 0:=by
 unfold cmpB
 congr 1
 ·exact propext zXc
 ·congr 1; exact propext zXc
open Classical in
theorem yWb (a:ByteArray):Cp cmpB a:=by
 refine ⟨fun b => ?_,fun b => ?_,fun b c => ?_⟩
 ·rw [zZa]
  by_cases h1:ltN a b
  ·rw [if_pos h1]
   exact ⟨fun h => by omega,fun h => absurd h1 (by rw [h]; exact xXe b)⟩
  ·rw [if_neg h1]
   by_cases h2:ltN b a
   ·rw [if_pos h2]
    exact ⟨fun h => by omega,fun h => absurd h2 (by rw [h]; exact xXe b)⟩
   ·rw [if_neg h2]
    exact ⟨fun _ => Classical.byContradiction fun hne => h2 (zUq h1 hne),fun _ => rfl⟩
 ·rw [zZa,zZa]
  by_cases h1:ltN a b
  ·rw [if_pos h1,if_neg (xUu h1),if_pos h1]; rfl
  ·by_cases h2:ltN b a
   ·rw [if_pos h2,if_neg h1,if_pos h2]
   ·rw [if_neg h1,if_neg h2,if_neg h2,if_neg h1]; rfl
 ·rw [zZa,zZa,zZa]
  have key:∀ x y:ByteArray,(if ltN x y then (-1:Int) else if ltN y x then 1 else 0) < 0 ↔ ltN x y:=fun x y => by
   by_cases h1:ltN x y
   ·simp [h1]
   ·by_cases h2:ltN y x <;> simp [h1,h2]
  rw [key,key,key]
  exact zUp
section
variable {α:Type} {f:α → α → Int} {g:List α → List α → Int} (g0:g [] [] = 0) (g1:∀ a b l m,g (a :: l) (b :: m) = lexI (f a b) (g l m))
include g0 g1
theorem xXf:∀ (l:List α),(∀ a ∈ l,∀ b,f a b = 0 ↔ a = b) → ∀ m,l.length = m.length → (g l m = 0 ↔ l = m)
 | [],_,m,hm => by
  obtain rfl:m = []:=List.eq_nil_of_length_eq_zero hm.symm
  simp [g0]
 | a :: l,hc,b :: m,hm => by
  rw [g1,yWg,hc a (by simp),xXf l (fun b hb => hc b (by simp [hb])) m (by simpa using hm),List.cons.injEq]
theorem xKn:∀ (l:List α),(∀ a ∈ l,∀ b,f b a = - f a b) → ∀ m,l.length = m.length → g m l = - g l m
 | [],_,m,hm => by
  obtain rfl:m = []:=List.eq_nil_of_length_eq_zero hm.symm
  simp [g0]
 | a :: l,hc,b :: m,hm => by
  rw [g1,g1,hc a (by simp),xKn l (fun b hb => hc b (by simp [hb])) m (by simpa using hm),yGd]
theorem xUz (he:∀ a b,f a b = 0 ↔ a = b):∀ (l:List α),(∀ a ∈ l,∀ b c,f a b < 0 → f b c < 0 → f a c < 0) → ∀ m n,l.length = m.length → m.length = n.length → g l m < 0 → g m n < 0 → g l n < 0
 | [],_,m,n,hm,hn,h,_ => by
  obtain rfl:m = []:=List.eq_nil_of_length_eq_zero hm.symm
  rw [g0] at h; omega
 | a :: l,hc,b :: m,c :: n,hm,hn,h,k => by
  rw [g1] at h k ⊢
  exact zUw (hc a (by simp) b c) (fun e => by rw [(he a b).1 e]) (fun e => by rw [(he b c).1 e]) (xUz he l (fun b hb => hc b (by simp [hb])) m n (by simpa using hm) (by simpa using hn)) h k
end
def lenL {α:Type} (g:List α → List α → Int) (l m:List α):Int:=lexI (cmpN l.length m.length) (g l m)
theorem yXc {a b:Nat}:cmpN a b = 0 ↔ a = b:=(zKc a).eq b
section
variable {α:Type} {f:α → α → Int} {g:List α → List α → Int} (g0:g [] [] = 0) (g1:∀ a b l m,g (a :: l) (b :: m) = lexI (f a b) (g l m))
include g0 g1
theorem zJk {l:List α} (h:∀ a ∈ l,∀ b,f a b = 0 ↔ a = b) (m:List α):lenL g l m = 0 ↔ l = m:=by
 unfold lenL
 rw [yWg,yXc]
 constructor
 ·rintro ⟨h1,h2⟩; exact (xXf g0 g1 l h m h1).1 h2
 ·rintro rfl; exact ⟨rfl,(xXf g0 g1 l h l rfl).2 rfl⟩
theorem zYs {l:List α} (h:∀ a ∈ l,∀ b,f b a = - f a b) (m:List α):lenL g m l = - lenL g l m:=by
 unfold lenL
 rw [(zKc l.length).neg]
 by_cases hl:l.length = m.length
 ·rw [xKn g0 g1 l h m hl,yGd]
 ·have:¬ cmpN l.length m.length = 0:=fun h => hl (yXc.1 h)
  unfold lexI
  rw [if_neg (by omega),if_neg this]
theorem xXi (he:∀ a b,f a b = 0 ↔ a = b) {l:List α} (h:∀ a ∈ l,∀ b c,f a b < 0 → f b c < 0 → f a c < 0) (m n:List α) (h1:lenL g l m < 0) (h2:lenL g m n < 0):lenL g l n < 0:=by
 unfold lenL at *
 rw [zYr] at h1 h2
 by_cases hl:l.length = m.length ∧ m.length = n.length
 ·obtain ⟨hl,hm⟩:=hl
  have e1:¬ cmpN l.length m.length < 0:=by rw [yXc.2 hl]; omega
  have e2:¬ cmpN m.length n.length < 0:=by rw [yXc.2 hm]; omega
  have e3:cmpN l.length n.length = 0:=yXc.2 (hl.trans hm)
  rw [zYr]
  exact .inr ⟨e3,xUz g0 g1 he l h m n hl hm (h1.resolve_left e1).2 (h2.resolve_left e2).2⟩
 ·rw [zYr]
  left
  rcases h1 with h1 | ⟨h1,_⟩
  ·rcases h2 with h2 | ⟨h2,_⟩
   ·exact (zKc _).tr _ _ h1 h2
   ·rw [← yXc.1 h2]; exact h1
  ·rcases h2 with h2 | ⟨h2,_⟩
   ·rw [yXc.1 h1]; exact h2
   ·exact absurd ⟨yXc.1 h1,yXc.1 h2⟩ hl
end
theorem yV3:yKf [] [] = 0:=by simp only [yKf]
theorem yV2 (a b:Tm) (l m:List Tm):yKf (a :: l) (b :: m) = lexI (yWi a b) (yKf l m):=by simp only [yKf]
theorem yUk:yG1 [] [] = 0:=by simp only [yG1]
theorem yUj (a b:Fm) (l m:List Fm):yG1 (a :: l) (b :: m) = lexI (yXr a b) (yG1 l m):=by simp only [yG1]
theorem yGj (v v':Bool) (n n':ByteArray) (us us':List Tm):yWi (.mk v n us) (.mk v' n' us') = if v = v' then lexI (cmpB n n') (lenL yKf us us') else if v = true then -1 else 1:=by simp only [yWi,lenL]
theorem yGk (o o':Nat) (n n':ByteArray) (us us':List Tm) (sub sub':List Fm):yXr (.mk o n us sub) (.mk o' n' us' sub') = lexI (cmpN o o') (lexI (cmpB n n') (lexI (lenL yKf us us') (lenL yG1 sub sub'))):=by simp only [yXr,lenL]
theorem xGc {p:Tm → Prop} (h:∀ v n us,(∀ a ∈ us,p a) → p (.mk v n us)) (t:Tm):p t:=by
 have key:∀ (k:Nat) (t:Tm),SizeOf.sizeOf t < k → p t:=fun k => by
  induction k with
  | zero => intro t ht; omega
  | succ k ih =>
   rintro ⟨v,n,us⟩ ht
   refine h v n us fun a ha => ih a ?_
   have:=lSm ha
   simp only [Tm.mk.sizeOf_spec] at ht
   omega
 exact key _ t (Nat.lt_succ_self _)
theorem wQx {p:Fm → Prop} (h:∀ o n us sub,(∀ a ∈ sub,p a) → p (.mk o n us sub)) (t:Fm):p t:=by
 have key:∀ (k:Nat) (t:Fm),SizeOf.sizeOf t < k → p t:=fun k => by
  induction k with
  | zero => intro t ht; omega
  | succ k ih =>
   rintro ⟨o,n,us,sub⟩ ht
   refine h o n us sub fun a ha => ih a ?_
   have:=lSm ha
   simp only [Fm.mk.sizeOf_spec] at ht
   omega
 exact key _ t (Nat.lt_succ_self _)
theorem zQm (a b:Tm):yWi a b = 0 ↔ a = b:=by
 revert b
 refine xGc (p:=fun a => ∀ b,yWi a b = 0 ↔ a = b) (fun v n us ih b => ?_) a
 obtain ⟨v',n',us'⟩:=b
 rw [yGj,Tm.mk.injEq]
 by_cases hv:v = v'
 ·rw [if_pos hv,yWg,(yWb n).eq,zJk yV3 yV2 ih]
  simp [hv]
 ·rw [if_neg hv]
  simp only [hv,false_and,iff_false]
  split <;> omega
theorem wZf (a b:Tm):yWi b a = - yWi a b:=by
 revert b
 refine xGc (p:=fun a => ∀ b,yWi b a = - yWi a b) (fun v n us ih b => ?_) a
 obtain ⟨v',n',us'⟩:=b
 rw [yGj,yGj]
 by_cases hv:v = v'
 ·rw [if_pos hv,if_pos hv.symm,(yWb n).neg,zYs yV3 yV2 ih,yGd]
 ·rw [if_neg hv,if_neg (fun h => hv h.symm)]
  cases v <;> cases v' <;> simp_all
theorem wK3 (a b c:Tm):yWi a b < 0 → yWi b c < 0 → yWi a c < 0:=by
 revert b c
 refine xGc (p:=fun a => ∀ b c,yWi a b < 0 → yWi b c < 0 → yWi a c < 0) (fun v n us ih b c => ?_) a
 obtain ⟨v',n',us'⟩:=b
 obtain ⟨v'',n'',us''⟩:=c
 rw [yGj,yGj,yGj]
 have hl:=fun (h:lexI (cmpB n n') (lenL yKf us us') < 0) (k:lexI (cmpB n' n'') (lenL yKf us' us'') < 0) =>
  zUw (r:=cmpB n n'') (r':=lenL yKf us us'') ((yWb n).tr n' n'') (fun e => by rw [((yWb n).eq n').1 e]) (fun e => by rw [((yWb n').eq n'').1 e]) (xXi yV3 yV2 zQm ih us' us'') h k
 cases v <;> cases v' <;> cases v'' <;> simp_all
theorem zXg (a b:Fm):yXr a b = 0 ↔ a = b:=by
 revert b
 refine wQx (p:=fun a => ∀ b,yXr a b = 0 ↔ a = b) (fun o n us sub ih b => ?_) a
 obtain ⟨o',n',us',sub'⟩:=b
 rw [yGk,Fm.mk.injEq,yWg,yWg,yWg,yXc,(yWb n).eq,zJk yV3 yV2 (fun a _ => zQm a),zJk yUk yUj ih]
theorem zKe (a b:Fm):yXr b a = - yXr a b:=by
 revert b
 refine wQx (p:=fun a => ∀ b,yXr b a = - yXr a b) (fun o n us sub ih b => ?_) a
 obtain ⟨o',n',us',sub'⟩:=b
 rw [yGk,yGk,(zKc o).neg,(yWb n).neg,zYs yV3 yV2 (fun a _ => wZf a),zYs yUk yUj ih,yGd,yGd,yGd]
theorem zG7 (a b c:Fm):yXr a b < 0 → yXr b c < 0 → yXr a c < 0:=by
 revert b c
 refine wQx (p:=fun a => ∀ b c,yXr a b < 0 → yXr b c < 0 → yXr a c < 0) (fun o n us sub ih b c => ?_) a
 obtain ⟨o',n',us',sub'⟩:=b
 obtain ⟨o'',n'',us'',sub''⟩:=c
 rw [yGk,yGk,yGk]
 refine zUw ((zKc o).tr o' o'') (fun e => by rw [yXc.1 e]) (fun e => by rw [yXc.1 e]) ?_
 refine zUw ((yWb n).tr n' n'') (fun e => by rw [((yWb n).eq n').1 e]) (fun e => by rw [((yWb n').eq n'').1 e]) ?_
 exact zUw (xXi yV3 yV2 zQm (fun a _ => wK3 a) us' us'') (fun e => by rw [(zJk yV3 yV2 (fun a _ => zQm a) us').1 e]) (fun e => by rw [(zJk yV3 yV2 (fun a _ => zQm a) us'').1 e])
  (xXi yUk yUj zXg ih sub' sub'')
def SetF (l r:List Fm):Prop:=r.Pairwise (fun a b => yXr a b < 0) ∧ ∀ f,f ∈ r ↔ f ∈ l
theorem zKf (a:Fm):¬ yXr a a < 0:=by rw [(zXg a a).2 rfl]; omega
theorem SetF.uniq:∀ {r r':List Fm},r.Pairwise (fun a b => yXr a b < 0) → r'.Pairwise (fun a b => yXr a b < 0) → (∀ x,x ∈ r ↔ x ∈ r') → r = r'
 | [],r',_,_,h => by
  cases r' with
  | nil => rfl
  | cons b r' => exact absurd ((h b).2 (List.mem_cons_self ..)) (by simp)
 | a :: r,[],_,_,h => absurd ((h a).1 (List.mem_cons_self ..)) (by simp)
 | a :: r,b :: r',h1,h2,h => by
  have p1:=List.pairwise_cons.1 h1
  have p2:=List.pairwise_cons.1 h2
  have hab:a = b:=by
   refine Classical.byContradiction fun hne => ?_
   have ha:a ∈ r':=by
    rcases List.mem_cons.1 ((h a).1 (List.mem_cons_self ..)) with e | e
    ·exact absurd e hne
    ·exact e
   have hb:b ∈ r:=by
    rcases List.mem_cons.1 ((h b).2 (List.mem_cons_self ..)) with e | e
    ·exact absurd e.symm hne
    ·exact e
   have h3:=p1.1 b hb
   have h4:=p2.1 a ha
   rw [zKe] at h4
   omega
  subst hab
  congr 1
  refine SetF.uniq p1.2 p2.2 fun x => ?_
  constructor
  ·intro hx
   rcases List.mem_cons.1 ((h x).1 (List.mem_cons_of_mem _ hx)) with e | e
   ·subst e; exact absurd (p1.1 _ hx) (zKf _)
   ·exact e
  ·intro hx
   rcases List.mem_cons.1 ((h x).2 (List.mem_cons_of_mem _ hx)) with e | e
   ·subst e; exact absurd (p2.1 _ hx) (zKf _)
   ·exact e
theorem SetF.one {l r r':List Fm} (h:SetF l r) (h':SetF l r'):r = r':=SetF.uniq h.1 h'.1 fun x => (h.2 x).trans (h'.2 x).symm
end Go.Proofs.Tryz
namespace Go.Proofs.Tryz
open Go Go.Iv Go.Shelf Go.RowKit
set_option maxRecDepth 4000
variable (gl:Nat → Option IV)
theorem zZd (a b:ByteArray) (w:World):Calls prog 267 #[.string a,.string b] w fun e w' => e = .returned (.int .i64 (Lib.compareBytes a.data.toList b.data.toList)) ∧ w' = w:=by
 have t9:prog.underlying 9 = some .string:=by kernel_rfl
 have a9:∀ w,(isAgg 9).run prog w = .ok false w:=run_isAgg_plain t9 rfl
 have t3:prog.underlying 3 = some (.int .i64):=by kernel_rfl
 have a3:∀ w,(isAgg 3).run prog w = .ok false w:=run_isAgg_plain t3 rfl
 go_enter func267,(show _ = _ from rfl)
 go_wp2
 rw [run_callFunc_extern func308 (by kernel_rfl) (by kernel_rfl) (by kernel_rfl) (e:=Extern.BytealgCompare.compare) (by kernel_rfl),Lib.run_compareString]
 simp only [Result.andThen]
 rw [Oper.upon_value]
 go_wp2
 go_ret
 exact ⟨rfl,rfl⟩
theorem yG0:∀ x y:List UInt8,Lib.compareBytes x y = if Op.bytesLess x y = true then -1 else if Op.bytesLess y x = true then 1 else 0
 | [],[] => by simp [Lib.compareBytes,Op.bytesLess]
 | [],_ :: _ => by simp [Lib.compareBytes,Op.bytesLess]
 | _ :: _,[] => by simp [Lib.compareBytes,Op.bytesLess]
 | a :: x,b :: y => by
  have ih:=yG0 x y
  unfold Lib.compareBytes Op.bytesLess
  by_cases h1:a < b
  ·have h2:¬ b < a:=fun h => UInt8.lt_irrefl _ (UInt8.lt_trans h1 h)
   simp [h1]
  ·by_cases h2:b < a
   ·have h3:a ≠ b:=by rintro rfl; exact UInt8.lt_irrefl _ h2
    simp [h1,h2,h3]
   ·have:a = b:=UInt8.le_antisymm (UInt8.not_lt.1 h2) (UInt8.not_lt.1 h1)
    subst this
    simp [h1,ih]
theorem zKr (a b:ByteArray) (st:ISt):ICall prog gl 267 [.raw (.string a),.raw (.string b)] st (fun r st' => r = .raw (.int .i64 (cmpB a b)) ∧ st' = st):=by
 intro B X rs hg hst hv
 have hr:rs = [.string a,.string b]:=by
  match rs,hv with
  | [r,r'],hv => rw [V.raw_inv (hv.2 0 r _ rfl rfl),V.raw_inv (hv.2 1 r' _ rfl rfl)]
  | [],hv => cases hv.1
  | [_],hv => cases hv.1
  | _ :: _ :: _ :: _,hv => cases hv.1
 subst hr
 refine Calls.mono (zZd a b X.w) ?_
 rintro e w' ⟨rfl,rfl⟩
 refine ⟨_,rfl,X,.raw (.int .i64 (cmpB a b)),rfl,hg,Ext.refl X,?_,rfl,hst⟩
 rw [yG0]
 exact .raw _ trivial
theorem xZ4 (a b:ByteArray) (st:ISt):ICall prog gl 193 [.raw (.string a),.raw (.string b)] st (fun r st' => r = .raw (.int .i64 (cmpB a b)) ∧ st' = st):=by
 refine iI func193 rfl rfl (by kernel_rfl) ?_
 simp -implicitDefEqProofs -dsimp only [go_sem]
 refine (zKr gl a b _).mono ?_
 rintro _ _ ⟨rfl,rfl⟩
 simp -implicitDefEqProofs -dsimp only [go_sem]
 exact yQ0 ⟨rfl,rfl⟩
theorem zVg (a:Nat) (st:ISt):ICall prog gl 266 [.raw (.int .u8 a)] st (fun r st' => r = .raw (.bool false) ∧ st' = st):=by
 refine iI func266 rfl rfl (by kernel_rfl) ?_
 simp -implicitDefEqProofs -dsimp only [go_sem,show decide ((a:Int) = (a:Int)) = true from dEt rfl]
 exact yQ0 ⟨rfl,rfl⟩
theorem xVw (a b:Nat) (st:ISt):ICall prog gl 192 [.raw (.int .u8 a),.raw (.int .u8 b)] st (fun r st' => r = .raw (.int .i64 (cmpN a b)) ∧ st' = st):=by
 refine iI func192 rfl rfl (by kernel_rfl) ?_
 simp -implicitDefEqProofs -dsimp only [go_sem]
 refine (zVg gl a _).mono ?_
 rintro _ _ ⟨rfl,rfl⟩
 simp -implicitDefEqProofs -dsimp only [go_sem]
 refine (zVg gl b _).mono ?_
 rintro _ _ ⟨rfl,rfl⟩
 unfold cmpN
 by_cases h1:a < b
 ·simp -implicitDefEqProofs -dsimp only [go_sem,lt_i h1]
  exact yQ0 ⟨by rw [if_pos h1],rfl⟩
 ·by_cases h2:b < a
  ·simp -implicitDefEqProofs -dsimp only [go_sem,yQm h1,lt_i h2]
   exact yQ0 ⟨by rw [if_neg h1,if_pos h2],rfl⟩
  ·simp -implicitDefEqProofs -dsimp only [go_sem,yQm h1,yQm h2]
   exact yQ0 ⟨by rw [if_neg h1,if_neg h2],rfl⟩
theorem xKu (a:Nat) (st:ISt):ICall prog gl 309 [.raw (.int .i64 a)] st (fun r st' => r = .raw (.bool false) ∧ st' = st):=by
 refine iI func309 rfl rfl (by kernel_rfl) ?_
 simp -implicitDefEqProofs -dsimp only [go_sem,show decide ((a:Int) = (a:Int)) = true from dEt rfl]
 exact yQ0 ⟨rfl,rfl⟩
theorem xKv (a b:Nat) (st:ISt):ICall prog gl 268 [.raw (.int .i64 a),.raw (.int .i64 b)] st (fun r st' => r = .raw (.int .i64 (cmpN a b)) ∧ st' = st):=by
 refine iI func268 rfl rfl (by kernel_rfl) ?_
 simp -implicitDefEqProofs -dsimp only [go_sem]
 refine (xKu gl a _).mono ?_
 rintro _ _ ⟨rfl,rfl⟩
 simp -implicitDefEqProofs -dsimp only [go_sem]
 refine (xKu gl b _).mono ?_
 rintro _ _ ⟨rfl,rfl⟩
 unfold cmpN
 by_cases h1:a < b
 ·simp -implicitDefEqProofs -dsimp only [go_sem,lt_i h1]
  exact yQ0 ⟨by rw [if_pos h1],rfl⟩
 ·by_cases h2:b < a
  ·simp -implicitDefEqProofs -dsimp only [go_sem,yQm h1,lt_i h2]
   exact yQ0 ⟨by rw [if_neg h1,if_pos h2],rfl⟩
  ·simp -implicitDefEqProofs -dsimp only [go_sem,yQm h1,yQm h2]
   exact yQ0 ⟨by rw [if_neg h1,if_neg h2],rfl⟩
theorem wWf {t:Tm} {x:IV} (h:IsTm t x):∃ v n tg xs,x = .agg [.raw (.bool v),.raw (.string n),.sl tg xs]:=by
 obtain ⟨v,n,us⟩:=t
 obtain ⟨tg,xs,rfl,_⟩:=h.mk
 exact ⟨_,_,_,_,rfl⟩
theorem zQ7 {α:Type} {f:α → α → Int} {g:List α → List α → Int} (g0:g [] [] = 0) (g1:∀ a b l m,g (a :: l) (b :: m) = lexI (f a b) (g l m)):∀ (l m l' m':List α),l.length = m.length → g (l ++ l') (m ++ m') = lexI (g l m) (g l' m')
 | [],[],l',m',_ => by rw [g0]; simp [lexI]
 | a :: l,b :: m,l',m',h => by
  rw [List.cons_append,List.cons_append,g1,g1,zQ7 g0 g1 l m l' m' (by simpa using h)]
  unfold lexI
  by_cases h1:f a b = 0
  ·simp [h1]
  ·simp [h1]
 | [],_ :: _,_,_,h => by simp at h
 | _ :: _,[],_,_,h => by simp at h
theorem i0 (x:Int) (h:x = 0):decide (x = 0) = true:=dEt h
theorem i1 (x:Int) (h:¬ x = 0):decide (x = 0) = false:=dEf h
def CmpT (a:Tm):Prop:=∀ (b:Tm) (x y:IV) (_:IsTm a x) (_:IsTm b y) (st:ISt),ICall prog gl 195 [x,y] st (fun r st' => r = .raw (.int .i64 (yWi a b)) ∧ st' = st)
def CmpF (a:Fm):Prop:=∀ (b:Fm) (x y:IV) (_:IsFm a x) (_:IsFm b y) (st:ISt),ICall prog gl 137 [x,y] st (fun r st' => r = .raw (.int .i64 (yXr a b)) ∧ st' = st)
theorem xVi (us:List Tm) (IH:∀ a ∈ us,CmpT gl a) (ws:List Tm) (t t':Tag) (xs ys:List IV) (ht:okEs t 3) (ht':okEs t' 3) (ha:IsTms us xs) (hb:IsTms ws ys) (st:ISt) :
  ICall prog gl 194 [.sl t xs,.sl t' ys,.fn (.func 195) [] []] st (fun r st' => r = .raw (.int .i64 (lenL yKf us ws)) ∧ st' = st):=by
 refine iI func194 rfl rfl (by kernel_rfl) ?_
 simp -implicitDefEqProofs -dsimp only [go_sem,ha.len,hb.len]
 intro hla hlb
 refine (xKv gl us.length ws.length _).mono ?_
 rintro _ st ⟨rfl,rfl⟩
 unfold lenL
 by_cases h0:cmpN us.length ws.length = 0
 ·have hlen:=yXc.1 h0
  simp -implicitDefEqProofs -dsimp only [go_sem,i0 _ h0,ha.len]
  intro _
  refine LoopC.ctr us.length (fun k fr st' ds => yKf (us.take k) (ws.take k) = 0 ∧ fr 0 = .iv (.sl t xs) ∧ fr 1 = .iv (.sl t' ys) ∧ fr 2 = .iv (.fn (.func 195) [] []) ∧ fr 19 = .iv (.raw (.int .i64 us.length)) ∧ fr 20 = .iv (.raw (.int .i64 k)) ∧ st' = st ∧ ds = []) ?_ ?_ ?_
  ·simp -implicitDefEqProofs -dsimp only [go_sem]
   exact ⟨yV3,rfl⟩
  ·rintro k fr st1 _ hlt ⟨hn,f0,f1,f2,f19,f20,rfl,rfl⟩
   obtain ⟨a,hka⟩:=yQ3 hlt
   obtain ⟨b,hkb⟩:=yQ3 (l:=ws) (k:=k) (by omega)
   obtain ⟨x,hkx,hx⟩:=ha.get hka
   obtain ⟨y,hky,hy⟩:=hb.get hkb
   have hcall:=IH a (lMg hka) b x y hx hy st1
   have htl:(us.take k).length = (ws.take k).length:=by rw [List.length_take,List.length_take]; omega
   obtain ⟨x1,x2,x3,x4,rfl⟩:=wWf hx
   obtain ⟨y1,y2,y3,y4,rfl⟩:=wWf hy
   simp -implicitDefEqProofs -dsimp only [go_sem,f0,f1,f2,f19,f20,lt_i hlt,yQ2 ht,yQ2 ht',iNn,hkx,hky,fits]
   refine hcall.mono ?_
   rintro _ _ ⟨rfl,rfl⟩
   by_cases hc:yWi a b = 0
   ·simp -implicitDefEqProofs -dsimp only [go_sem,i0 _ hc,f0,f1,f2,f19,f20,yQ9 hlt (show us.length ≤ 281474976710656 by omega)]
    rw [yQ4 hka,yQ4 hkb,zQ7 yV3 yV2 _ _ _ _ htl,hn,yV2,yV3,hc]
    simp [lexI]
   ·simp -implicitDefEqProofs -dsimp only [go_sem,i1 _ hc]
    refine yQ0 ⟨?_,rfl⟩
    rw [h0]
    have h2:yKf us ws = yWi a b:=by
     conv => lhs; rw [← List.take_append_drop k us,← List.take_append_drop k ws]
     rw [List.drop_eq_getElem_cons hlt,List.drop_eq_getElem_cons (show k < ws.length by omega),zQ7 yV3 yV2 _ _ _ _ htl,hn,yV2,(lGs hka).2,(lGs hkb).2]
     simp [lexI,hc]
    rw [h2]; simp [lexI]
  ·rintro fr st1 _ ⟨hn,f0,f1,f2,f19,f20,rfl,rfl⟩
   rw [lTl,show ws.take us.length = ws by rw [hlen,lTl]] at hn
   simp -implicitDefEqProofs -dsimp only [go_sem,f19,f20,yQm (nLi _)]
   exact yQ0 ⟨by rw [h0,hn]; simp [lexI],rfl⟩
 ·simp -implicitDefEqProofs -dsimp only [go_sem,i1 _ h0]
  exact yQ0 ⟨by simp [lexI,h0],rfl⟩
theorem xQs (v:Bool) (n:ByteArray) (us:List Tm) (IH:∀ a ∈ us,CmpT gl a):CmpT gl (.mk v n us):=by
 rintro ⟨w,m,ws⟩ x y hx hy st
 obtain ⟨tx,cx,rfl,htx,hcx⟩:=hx.mk
 obtain ⟨ty,cy,rfl,hty,hcy⟩:=hy.mk
 have hl:=fun st => xVi gl us IH ws tx ty cx cy htx hty hcx hcy st
 simp only [yWi]
 refine iI func195 rfl rfl (by kernel_rfl) ?_
 by_cases hv:v = w
 ·subst hv
  simp -implicitDefEqProofs -dsimp only [go_sem,beq_self_eq_true]
  refine (xZ4 gl n m _).mono ?_
  rintro _ _ ⟨rfl,rfl⟩
  by_cases h0:cmpB n m = 0
  ·simp -implicitDefEqProofs -dsimp only [go_sem,i0 _ h0]
   refine (hl _).mono ?_
   rintro _ _ ⟨rfl,rfl⟩
   simp -implicitDefEqProofs -dsimp only [go_sem]
   exact yQ0 ⟨by simp [lexI,h0,lenL],rfl⟩
  ·simp -implicitDefEqProofs -dsimp only [go_sem,i1 _ h0]
   exact yQ0 ⟨by simp [lexI,h0],rfl⟩
 ·cases v <;> cases w <;> first | exact absurd rfl hv | skip
  all_goals
   simp -implicitDefEqProofs -dsimp only [go_sem,beq_eq_false_iff_ne.2 hv]
   exact yQ0 ⟨by simp,rfl⟩
theorem zKb:∀ (k:Nat) (t:Tm),SizeOf.sizeOf t < k → CmpT gl t
 | 0,t,h => by omega
 | k + 1,.mk v n us,h => xQs gl v n us (fun a ha => zKb k a (by
   have:=lSm ha
   simp at h; omega))
theorem wZg (t:Tm):CmpT gl t:=zKb gl _ t (Nat.lt_succ_self _)
theorem wK4 (us:List Fm) (IH:∀ a ∈ us,CmpF gl a) (ws:List Fm) (t t':Tag) (xs ys:List IV) (ht:okEs t 4) (ht':okEs t' 4) (ha:IsFms us xs) (hb:IsFms ws ys) (st:ISt) :
  ICall prog gl 196 [.sl t xs,.sl t' ys,.fn (.func 137) [] []] st (fun r st' => r = .raw (.int .i64 (lenL yG1 us ws)) ∧ st' = st):=by
 refine iI func196 rfl rfl (by kernel_rfl) ?_
 simp -implicitDefEqProofs -dsimp only [go_sem,ha.len,hb.len]
 intro hla hlb
 refine (xKv gl us.length ws.length _).mono ?_
 rintro _ st ⟨rfl,rfl⟩
 unfold lenL
 by_cases h0:cmpN us.length ws.length = 0
 ·have hlen:=yXc.1 h0
  simp -implicitDefEqProofs -dsimp only [go_sem,i0 _ h0,ha.len]
  intro _
  refine LoopC.ctr us.length (fun k fr st' ds => yG1 (us.take k) (ws.take k) = 0 ∧ fr 0 = .iv (.sl t xs) ∧ fr 1 = .iv (.sl t' ys) ∧ fr 2 = .iv (.fn (.func 137) [] []) ∧ fr 19 = .iv (.raw (.int .i64 us.length)) ∧ fr 20 = .iv (.raw (.int .i64 k)) ∧ st' = st ∧ ds = []) ?_ ?_ ?_
  ·simp -implicitDefEqProofs -dsimp only [go_sem]
   exact ⟨yUk,rfl⟩
  ·rintro k fr st1 _ hlt ⟨hn,f0,f1,f2,f19,f20,rfl,rfl⟩
   obtain ⟨a,hka⟩:=yQ3 hlt
   obtain ⟨b,hkb⟩:=yQ3 (l:=ws) (k:=k) (by omega)
   obtain ⟨x,hkx,hx⟩:=ha.get hka
   obtain ⟨y,hky,hy⟩:=hb.get hkb
   have hcall:=IH a (lMg hka) b x y hx hy st1
   have htl:(us.take k).length = (ws.take k).length:=by rw [List.length_take,List.length_take]; omega
   obtain ⟨x1,x2,x3,x4,x5,x6,rfl⟩:=hx.agg
   obtain ⟨y1,y2,y3,y4,y5,y6,rfl⟩:=hy.agg
   simp -implicitDefEqProofs -dsimp only [go_sem,f0,f1,f2,f19,f20,lt_i hlt,yQ2 ht,yQ2 ht',iNn,hkx,hky,fits]
   refine hcall.mono ?_
   rintro _ _ ⟨rfl,rfl⟩
   by_cases hc:yXr a b = 0
   ·simp -implicitDefEqProofs -dsimp only [go_sem,i0 _ hc,f0,f1,f2,f19,f20,yQ9 hlt (show us.length ≤ 281474976710656 by omega)]
    rw [yQ4 hka,yQ4 hkb,zQ7 yUk yUj _ _ _ _ htl,hn,yUj,yUk,hc]
    simp [lexI]
   ·simp -implicitDefEqProofs -dsimp only [go_sem,i1 _ hc]
    refine yQ0 ⟨?_,rfl⟩
    rw [h0]
    have h2:yG1 us ws = yXr a b:=by
     conv => lhs; rw [← List.take_append_drop k us,← List.take_append_drop k ws]
     rw [List.drop_eq_getElem_cons hlt,List.drop_eq_getElem_cons (show k < ws.length by omega),zQ7 yUk yUj _ _ _ _ htl,hn,yUj,(lGs hka).2,(lGs hkb).2]
     simp [lexI,hc]
    rw [h2]; simp [lexI]
  ·rintro fr st1 _ ⟨hn,f0,f1,f2,f19,f20,rfl,rfl⟩
   rw [lTl,show ws.take us.length = ws by rw [hlen,lTl]] at hn
   simp -implicitDefEqProofs -dsimp only [go_sem,f19,f20,yQm (nLi _)]
   exact yQ0 ⟨by rw [h0,hn]; simp [lexI],rfl⟩
 ·simp -implicitDefEqProofs -dsimp only [go_sem,i1 _ h0]
  exact yQ0 ⟨by simp [lexI,h0],rfl⟩
theorem xQt (o:Nat) (n:ByteArray) (us:List Tm) (sub:List Fm) (IH:∀ a ∈ sub,CmpF gl a):CmpF gl (.mk o n us sub):=by
 rintro ⟨w,m,ws,sub'⟩ x y hx hy st
 obtain ⟨t1,x1,t2,x2,rfl,_,e1,i1',e2,i2⟩:=hx.mk
 obtain ⟨t3,x3,t4,x4,rfl,_,e3,i3,e4,i4⟩:=hy.mk
 have hl1:=fun st => xVi gl us (fun a _ => wZg gl a) ws t1 t3 x1 x3 e1 e3 i1' i3 st
 have hl2:=fun st => wK4 gl sub IH sub' t2 t4 x2 x4 e2 e4 i2 i4 st
 simp only [yXr]
 refine iI func137 rfl rfl (by kernel_rfl) ?_
 simp -implicitDefEqProofs -dsimp only [go_sem]
 refine (xVw gl o w _).mono ?_
 rintro _ _ ⟨rfl,rfl⟩
 by_cases h0:cmpN o w = 0
 ·simp -implicitDefEqProofs -dsimp only [go_sem,i0 _ h0]
  refine (xZ4 gl n m _).mono ?_
  rintro _ _ ⟨rfl,rfl⟩
  by_cases h1:cmpB n m = 0
  ·simp -implicitDefEqProofs -dsimp only [go_sem,i0 _ h1]
   refine (hl1 _).mono ?_
   rintro _ _ ⟨rfl,rfl⟩
   by_cases h2:lenL yKf us ws = 0
   ·simp -implicitDefEqProofs -dsimp only [go_sem,i0 _ h2]
    refine (hl2 _).mono ?_
    rintro _ _ ⟨rfl,rfl⟩
    simp -implicitDefEqProofs -dsimp only [go_sem]
    refine yQ0 ⟨?_,rfl⟩
    unfold lenL at h2 ⊢
    rw [h0,h1,h2]; simp [lexI]
   ·simp -implicitDefEqProofs -dsimp only [go_sem,i1 _ h2]
    refine yQ0 ⟨?_,rfl⟩
    unfold lenL at h2 ⊢
    rw [h0,h1]
    generalize lexI (cmpN us.length ws.length) (yKf us ws) = q at h2 ⊢
    simp [lexI,h2]
  ·simp -implicitDefEqProofs -dsimp only [go_sem,i1 _ h1]
   exact yQ0 ⟨by rw [h0]; simp [lexI,h1],rfl⟩
 ·simp -implicitDefEqProofs -dsimp only [go_sem,i1 _ h0]
  exact yQ0 ⟨by simp [lexI,h0],rfl⟩
theorem zKd:∀ (k:Nat) (t:Fm),SizeOf.sizeOf t < k → CmpF gl t
 | 0,t,h => by omega
 | k + 1,.mk o n us sub,h => xQt gl o n us sub (fun a ha => zKd k a (by
   have:=lSm ha
   simp at h; omega))
theorem xQu (t:Fm):CmpF gl t:=zKd gl _ t (Nat.lt_succ_self _)
theorem xGx (a b:Fm) (x y:IV) (hx:IsFm a x) (hy:IsFm b y) (st:ISt):ICall prog gl 139 [x,y] st (fun r st' => r = .raw (.bool (decide (yXr a b = 0))) ∧ st' = st):=by
 have hc:=fun st => xQu gl a b x y hx hy st
 obtain ⟨x1,x2,x3,x4,x5,x6,rfl⟩:=hx.agg
 obtain ⟨y1,y2,y3,y4,y5,y6,rfl⟩:=hy.agg
 refine iI func139 rfl rfl (by kernel_rfl) ?_
 simp -implicitDefEqProofs -dsimp only [go_sem,fits]
 refine (hc _).mono ?_
 rintro _ _ ⟨rfl,rfl⟩
 simp -implicitDefEqProofs -dsimp only [go_sem]
 exact yQ0 ⟨rfl,rfl⟩
end Go.Proofs.Tryz
namespace Go.Proofs.Tryz
open Go Go.Iv
set_option maxRecDepth 4000
variable (gl:Nat → Option IV)
def sCT (us:List Tm):Prop:=∀ (tg:Tag) (xs:List IV) (_:okEs tg 3) (_:IsTms us xs) (_:yQ7 us ≤ 1099511627776) (st:ISt),
 ICall prog gl 201 [.sl tg xs,.fn (.func 202) [] []] st (fun r st' => ∃ tg' ys,r = .sl tg' ys ∧ okEs tg' 3 ∧ appT tg' ∧ IsTmsD us ys ∧ st' = st)
theorem zKz (v:Bool) (n:ByteArray) (us:List Tm) (IH:sCT gl us) (x:IV) (hx:IsTm (.mk v n us) x) (hs:(Tm.mk v n us).size ≤ 1099511627776) (st:ISt) :
  ICall prog gl 202 [x] st (fun r st' => IsTmD (.mk v n us) r ∧ st' = st):=by
 obtain ⟨tx,cx,rfl,htx,hcx⟩:=hx.mk
 simp only [Tm.size] at hs
 have hcall:=IH tx cx htx hcx (by omega) st
 refine iI func202 rfl rfl (by kernel_rfl) ?_
 simp -implicitDefEqProofs -dsimp only [go_sem,fits]
 refine hcall.mono ?_
 rintro _ _ ⟨tg',ys,rfl,he,ha,hys,rfl⟩
 simp -implicitDefEqProofs -dsimp only [go_sem,fits]
 exact yQ0 ⟨IsTmD.intro he ha hys,rfl⟩
theorem zJ3 (us:List Tm) (IH:∀ v n l,Tm.mk v n l ∈ us → sCT gl l):sCT gl us:=by
 intro tg xs htg hxs hsz st
 have hlsz:=yXu us
 refine iI func201 rfl rfl (by kernel_rfl) ?_
 simp -implicitDefEqProofs -dsimp only [go_sem,hxs.len]
 intro _
 refine yZ8 (fun h => ?_) (fun h => ?_)
 ·obtain rfl:us = []:=List.eq_nil_of_length_eq_zero (by simpa using h)
  simp -implicitDefEqProofs -dsimp only [go_sem]
  exact yQ0 ⟨_,_,rfl,.inl rfl,.inl rfl,IsTmsD.nil,rfl⟩
 simp -implicitDefEqProofs -dsimp only [go_sem,hxs.len]
 intro _
 refine yQw ⟨iNn _,by omega,by omega⟩ fun g => yQi fun hg => ?_
 intro _
 refine LoopC.ctr us.length (fun k fr st' ds => (∃ tg' ys,fr 5 = .iv (.sl tg' ys) ∧ IsTmsD (us.take k) ys ∧ appT tg' ∧ own st' tg' k 3 st ∧ subSt st st') ∧ fr 1 = .iv (.fn (.func 202) [] []) ∧
  fr 14 = .iv (.sl tg xs) ∧ fr 15 = .iv (.raw (.int .i64 us.length)) ∧ fr 16 = .iv (.raw (.int .i64 k)) ∧ ds = []) ?_ ?_ ?_
 ·simp -implicitDefEqProofs -dsimp only [go_sem]
  exact ⟨⟨_,_,rfl,IsTmsD.nil,.inr ⟨rfl,g,rfl⟩,.inr (.inr ⟨g,rfl,ISt.put_same _ _ _,hg⟩),yZa (subSt.refl _) hg⟩,rfl⟩
 ·rintro k fr st1 _ hlt ⟨⟨tg',ys,f5,hys,hap,hown,hsub⟩,f1,f14,f15,f16,rfl⟩
  obtain ⟨a,ha⟩:=yQ3 hlt
  obtain ⟨x,hkx,hx⟩:=hxs.get ha
  obtain ⟨h1,h2⟩:=yZj ha
  have hlen2:ys.length = k:=by rw [hys.len,List.length_take]; omega
  obtain ⟨v2,n2,m⟩:=a
  have hcall:=zKz gl v2 n2 m (IH _ _ _ (lMg ha)) x hx (by omega) st1
  obtain ⟨tx,cx,rfl,htx,hcx⟩:=hx.mk
  simp -implicitDefEqProofs -dsimp only [go_sem,f1,f5,f14,f15,f16,lt_i hlt,yQ2 htg,iNn,hkx,fits]
  refine hcall.mono ?_
  rintro r _ ⟨hr,rfl⟩
  have hn:IsTmsD (us.take (k + 1)) (ys ++ [r]):=by
   rw [yQ4 ha]; exact hys.append (IsTmsD.one hr)
  obtain ⟨t3,x3,rfl,_⟩:=IsTmD.mk hr
  simp -implicitDefEqProofs -dsimp only [go_sem,f1,f5,f14,f15,f16,fits,yQ1]
  refine yXd hown hlen2 hsub rfl (by simp [fits,IV.one]) (by simp only; omega) (by omega) fun tg2 st4 hown2 hsub4 _ hap2 => ?_
  simp -implicitDefEqProofs -dsimp only [go_sem,f1,f5,f14,f15,f16,fits,yQ9 hlt (show us.length ≤ 281474976710656 by omega)]
  exact ⟨tg2,_,rfl,hn,hap2,hown2,hsub4⟩
 ·rintro fr st1 _ ⟨⟨tg',ys,f5,hys,hap,hown,hsub⟩,f1,f14,f15,f16,rfl⟩
  rw [lTl] at hys
  simp -implicitDefEqProofs -dsimp only [go_sem,f5,f15,f16,yQm (nLi _),fits]
  exact yQb (st':=st) hsub ⟨tg',ys,rfl,hown.es,hap,hys,rfl⟩
theorem yGt:∀ (k:Nat) (us:List Tm),SizeOf.sizeOf us < k → sCT gl us
 | 0,f,h => by omega
 | k + 1,us,h => zJ3 gl us (fun v n l ha => yGt k l (by
   have:=lSm ha
   simp at this; omega))
theorem zGz (us:List Tm):sCT gl us:=yGt gl _ us (Nat.lt_succ_self _)
def sCF (f:Fm):Prop:=∀ (x:IV) (_:IsFm f x) (_:f.size ≤ 1099511627776) (st:ISt),ICall prog gl 145 [x] st (fun r st' => IsFmD f r ∧ st' = st)
theorem zJ4 (us:List Fm) (IH:∀ a ∈ us,sCF gl a) (tg:Tag) (xs:List IV) (htg:okEs tg 4) (hxs:IsFms us xs) (hsz:yQ8 us ≤ 1099511627776) (st:ISt) :
  ICall prog gl 203 [.sl tg xs,.fn (.func 145) [] []] st (fun r st' => ∃ tg' ys,r = .sl tg' ys ∧ okEs tg' 4 ∧ appT tg' ∧ IsFmsD us ys ∧ st' = st):=by
 have hlsz:=yZk us
 refine iI func203 rfl rfl (by kernel_rfl) ?_
 simp -implicitDefEqProofs -dsimp only [go_sem,hxs.len]
 intro _
 refine yZ8 (fun h => ?_) (fun h => ?_)
 ·obtain rfl:us = []:=List.eq_nil_of_length_eq_zero (by simpa using h)
  simp -implicitDefEqProofs -dsimp only [go_sem]
  exact yQ0 ⟨_,_,rfl,.inl rfl,.inl rfl,IsFmsD.nil,rfl⟩
 simp -implicitDefEqProofs -dsimp only [go_sem,hxs.len]
 intro _
 refine yQw ⟨iNn _,by omega,by omega⟩ fun g => yQi fun hg => ?_
 intro _
 refine LoopC.ctr us.length (fun k fr st' ds => (∃ tg' ys,fr 5 = .iv (.sl tg' ys) ∧ IsFmsD (us.take k) ys ∧ appT tg' ∧ own st' tg' k 4 st ∧ subSt st st') ∧ fr 1 = .iv (.fn (.func 145) [] []) ∧
  fr 14 = .iv (.sl tg xs) ∧ fr 15 = .iv (.raw (.int .i64 us.length)) ∧ fr 16 = .iv (.raw (.int .i64 k)) ∧ ds = []) ?_ ?_ ?_
 ·simp -implicitDefEqProofs -dsimp only [go_sem]
  exact ⟨⟨_,_,rfl,IsFmsD.nil,.inr ⟨rfl,g,rfl⟩,.inr (.inr ⟨g,rfl,ISt.put_same _ _ _,hg⟩),yZa (subSt.refl _) hg⟩,rfl⟩
 ·rintro k fr st1 _ hlt ⟨⟨tg',ys,f5,hys,hap,hown,hsub⟩,f1,f14,f15,f16,rfl⟩
  obtain ⟨a,ha⟩:=yQ3 hlt
  obtain ⟨x,hkx,hx⟩:=hxs.get ha
  obtain ⟨h1,h2⟩:=yQv ha
  have hlen2:ys.length = k:=by rw [hys.len,List.length_take]; omega
  have hcall:=IH a (lMg ha) x hx (by omega) st1
  obtain ⟨o5,n5,t5,x5,t6,x6,rfl⟩:=hx.agg
  simp -implicitDefEqProofs -dsimp only [go_sem,f1,f5,f14,f15,f16,lt_i hlt,yQ2 htg,iNn,hkx,fits]
  refine hcall.mono ?_
  rintro r _ ⟨hr,rfl⟩
  have hn:IsFmsD (us.take (k + 1)) (ys ++ [r]):=by
   rw [yQ4 ha]; exact hys.append (IsFmsD.one hr)
  obtain ⟨o7,n7,t7,x7,t8,x8,rfl⟩:=IsFmD.aggs hr
  simp -implicitDefEqProofs -dsimp only [go_sem,f1,f5,f14,f15,f16,fits,yQ1]
  refine yXd hown hlen2 hsub rfl (by simp [fits,IV.one]) (by simp only; omega) (by omega) fun tg2 st4 hown2 hsub4 _ hap2 => ?_
  simp -implicitDefEqProofs -dsimp only [go_sem,f1,f5,f14,f15,f16,fits,yQ9 hlt (show us.length ≤ 281474976710656 by omega)]
  exact ⟨tg2,_,rfl,hn,hap2,hown2,hsub4⟩
 ·rintro fr st1 _ ⟨⟨tg',ys,f5,hys,hap,hown,hsub⟩,f1,f14,f15,f16,rfl⟩
  rw [lTl] at hys
  simp -implicitDefEqProofs -dsimp only [go_sem,f5,f15,f16,yQm (nLi _),fits]
  exact yQb (st':=st) hsub ⟨tg',ys,rfl,hown.es,hap,hys,rfl⟩
theorem xWb (o:Nat) (n:ByteArray) (us:List Tm) (sub:List Fm) (IH:∀ a ∈ sub,sCF gl a):sCF gl (.mk o n us sub):=by
 intro x hx hs st
 obtain ⟨t1,x1,t2,x2,rfl,ho,ht1,hx1,ht2,hx2⟩:=hx.mk
 simp only [Fm.size] at hs
 have hc1:=zGz gl us t1 x1 ht1 hx1 (by omega) st
 have hc2:=zJ4 gl sub IH t2 x2 ht2 hx2 (by omega) st
 refine ICall.intro (c:=cf prog gl [] [(1,[0,1,2,3,4,5,7,8,6,9,10,11])]) func145 rfl (by show _ ≤ 14; simp) (by kernel_rfl) ?_
 simp -implicitDefEqProofs -dsimp only [go_sem,fits]
 refine hc1.mono ?_
 rintro _ _ ⟨tg',ys,rfl,he,ha,hys,rfl⟩
 simp -implicitDefEqProofs -dsimp only [go_sem,fits]
 refine hc2.mono ?_
 rintro _ _ ⟨tg2,ys2,rfl,he2,ha2,hys2,rfl⟩
 simp -implicitDefEqProofs -dsimp only [go_sem,fits]
 exact yQ0 ⟨IsFmD.intro ho he ha hys he2 ha2 hys2,rfl⟩
theorem zGy:∀ (k:Nat) (f:Fm),SizeOf.sizeOf f < k → sCF gl f
 | 0,f,h => by omega
 | k + 1,.mk o n us sub,h => xWb gl o n us sub (fun a ha => zGy k a (by
   have:=lSm ha
   simp only [Fm.mk.sizeOf_spec] at h
   omega))
theorem wWz (f:Fm):sCF gl f:=zGy gl _ f (Nat.lt_succ_self _)
theorem xXv (us:List Fm) (tg:Tag) (xs:List IV) (htg:okEs tg 4) (hxs:IsFms us xs) (hsz:yQ8 us ≤ 1099511627776) (st:ISt) :
  ICall prog gl 97 [.sl tg xs] st (fun r st' => ∃ tg' ys,r = .sl tg' ys ∧ okEs tg' 4 ∧ (appT tg' ∧ tg'.fresh = true) ∧ IsFmsD us ys ∧ own st' tg' us.length 4 st ∧ subSt st st'):=by
 have hlsz:=yZk us
 refine iI func97 rfl rfl (by kernel_rfl) ?_
 simp -implicitDefEqProofs -dsimp only [go_sem,hxs.len]
 intro _
 refine LoopC.ctr us.length (fun k fr st' ds => (∃ tg' ys,fr 3 = .iv (.sl tg' ys) ∧ IsFmsD (us.take k) ys ∧ (appT tg' ∧ tg'.fresh = true) ∧ own st' tg' k 4 st ∧ subSt st st') ∧
  fr 6 = .iv (.sl tg xs) ∧ fr 7 = .iv (.raw (.int .i64 us.length)) ∧ fr 8 = .iv (.raw (.int .i64 k)) ∧ ds = []) ?_ ?_ ?_
 ·simp -implicitDefEqProofs -dsimp only [go_sem]
  exact ⟨⟨_,_,rfl,IsFmsD.nil,⟨.inl rfl,rfl⟩,own.nil _ _ _ _ _,subSt.refl _⟩,rfl⟩
 ·rintro k fr st1 _ hlt ⟨⟨tg',ys,f3,hys,hap,hown,hsub⟩,f6,f7,f8,rfl⟩
  obtain ⟨a,ha⟩:=yQ3 hlt
  obtain ⟨x,hkx,hx⟩:=hxs.get ha
  obtain ⟨h1,h2⟩:=yQv ha
  have hlen2:ys.length = k:=by rw [hys.len,List.length_take]; omega
  have hcall:=wWz gl a x hx (by omega) st1
  obtain ⟨o5,n5,t5,x5,t6,x6,rfl⟩:=hx.agg
  simp -implicitDefEqProofs -dsimp only [go_sem,f3,f6,f7,f8,lt_i hlt,yQ2 htg,iNn,hkx,fits]
  refine hcall.mono ?_
  rintro r _ ⟨hr,rfl⟩
  have hn:IsFmsD (us.take (k + 1)) (ys ++ [r]):=by
   rw [yQ4 ha]; exact hys.append (IsFmsD.one hr)
  obtain ⟨o7,n7,t7,x7,t8,x8,rfl⟩:=IsFmD.aggs hr
  simp -implicitDefEqProofs -dsimp only [go_sem,f3,f6,f7,f8,fits,yQ1]
  refine yXd hown hlen2 hsub rfl (by simp [fits,IV.one]) (by simp only; omega) (by omega) fun tg2 st4 hown2 hsub4 _ hap2 => ?_
  simp -implicitDefEqProofs -dsimp only [go_sem,f3,f6,f7,f8,fits,yQ9 hlt (show us.length ≤ 281474976710656 by omega)]
  exact ⟨tg2,_,rfl,hn,⟨hap2,by
   rcases hown2 with ⟨h0,_⟩ | rfl | ⟨_,rfl,_⟩
   ·omega
   ·rfl
   ·rfl⟩,hown2,hsub4⟩
 ·rintro fr st1 _ ⟨⟨tg',ys,f3,hys,hap,hown,hsub⟩,f6,f7,f8,rfl⟩
  rw [lTl] at hys
  simp -implicitDefEqProofs -dsimp only [go_sem,f3,f6,f7,f8,yQm (nLi _),fits]
  exact yQ0 ⟨tg',ys,rfl,hown.es,hap,hys,hown,hsub⟩
end Go.Proofs.Tryz
namespace Go.Proofs.Tryz
open Go Go.Iv
mutual
def opsB (ca:Nat):Fm → Bool
 | .mk op _ us sub => decide (1 ≤ op) && decide (op ≤ if ca = 3 then 9 else 7) && (decide (ca = 3) || us.isEmpty) && yYb ca sub
def yYb (ca:Nat):List Fm → Bool
 | [] => true
 | a :: l => opsB ca a && yYb ca l
end
def fmB (ca:Nat) (f:Fm):Bool:=f.right && opsB ca f
def yXi (ca:Nat):Bool:=decide (1 ≤ ca) && decide (ca ≤ 3)
noncomputable def eqF (a b:Fm):Bool:=decide (a.op = b.op) && yKg a b
noncomputable def hasF (l:List Fm) (f:Fm):Bool:=l.any (eqF f)
noncomputable def allF (l m:List Fm):Bool:=l.all (hasF m)
noncomputable def yJm (a b:Sq):Bool:=allF a.l b.l && allF a.r b.r
noncomputable def zZ7:List Fm → Bool
 | [] => true
 | a :: l => (a :: l).all fun f => eqF f a
noncomputable def yX8 (ca:Nat) (s:Sq):Bool :=
 yXi ca && decide (s.l.length ≤ 64) && decide (s.r.length ≤ 64) && s.l.all (fmB ca) && s.r.all (fmB ca) && (decide (ca ≠ 2) || zZ7 s.r)
structure Rw where
 left:Bool
 right:Bool
 op:Nat
 asks:Nat
def rowK (rule:Nat):Option Rw :=
 if rule = 1 then some ⟨true,true,0,0⟩ else if rule = 2 then some ⟨true,false,2,0⟩ else if rule = 3 then some ⟨true,false,3,0⟩ else if rule = 4 then some ⟨false,true,3,0⟩
 else if rule = 5 then some ⟨true,false,4,0⟩ else if rule = 6 then some ⟨false,true,4,0⟩ else if rule = 7 then some ⟨true,false,5,0⟩ else if rule = 8 then some ⟨false,true,5,0⟩
 else if rule = 9 then some ⟨true,false,6,0⟩ else if rule = 10 then some ⟨false,true,6,0⟩ else if rule = 11 then some ⟨true,false,7,0⟩ else if rule = 12 then some ⟨false,true,7,0⟩
 else if rule = 17 then some ⟨false,false,0,0⟩ else none
def rowS (ca rule:Nat):Option Rw :=
 if ca = 2 ∧ rule = 18 then some ⟨false,true,5,0⟩
 else if ca = 3 ∧ rule = 13 then some ⟨true,false,8,1⟩ else if ca = 3 ∧ rule = 14 then some ⟨false,true,8,2⟩
 else if ca = 3 ∧ rule = 15 then some ⟨true,false,9,2⟩ else if ca = 3 ∧ rule = 16 then some ⟨false,true,9,1⟩ else rowK rule
def bE:ByteArray:=⟨#[]⟩
def impF (a b:Fm):Fm:=.mk 6 bE [] [a,b]
def addS (ca rule:Nat) (main a b:Fm):List Sq :=
 if rule = 3 then [⟨[],[a]⟩] else if rule = 4 then [⟨[a],[]⟩] else if rule = 5 then [⟨[a,b],[]⟩] else if rule = 6 then [⟨[],[a]⟩,⟨[],[b]⟩]
 else if rule = 7 then [⟨[a],[]⟩,⟨[b],[]⟩] else if rule = 8 then (if ca = 2 then [⟨[],[a]⟩] else [⟨[],[a,b]⟩]) else if rule = 9 then [⟨[],[a]⟩,⟨[b],[]⟩]
 else if rule = 10 then [⟨[a],[b]⟩] else if rule = 11 then [⟨[impF a b,impF b a],[]⟩] else if rule = 12 then [⟨[a],[b]⟩,⟨[b],[a]⟩]
 else if rule = 13 then [⟨[a],[]⟩] else if rule = 14 then [⟨[],[a]⟩] else if rule = 15 then [⟨[a],[]⟩] else if rule = 16 then [⟨[],[a]⟩]
 else if rule = 17 then [⟨[],[main]⟩,⟨[main],[]⟩] else if rule = 18 then [⟨[],[b]⟩] else []
noncomputable def yZh (ca rule:Nat) (r:Rw) (main:Fm) (term:Tm) (name:ByteArray):List Sq × Nat :=
 if !fmB ca main || (decide (r.op ≠ 0) && decide (main.op ≠ r.op)) then ([],192)
 else
  let a:=(main.subs[0]?).getD fm0
  let b:=(main.subs[1]?).getD fm0
  if r.asks = 0 then (addS ca rule main a b,0)
  else
   let t:=if r.asks = 2 then .mk true name [] else term
   if !t.ok then ([],193)
   else if (yZb a [(main.nm,t)]).2 ≠ 0 then ([],193) else (addS ca rule main (yZb a [(main.nm,t)]).1 b,0)
noncomputable def yJx (s:Sq) (n:ByteArray):Bool:=s.l.any (fun f => memB (frF f) n) || s.r.any (fun f => memB (frF f) n)
noncomputable def yZl (ca:Nat) (s:Sq) (rule:Nat) (main:Fm) (term:Tm) (name:ByteArray):List Sq × Nat :=
 if !yX8 ca s then ([],190)
 else match rowS ca rule with
  | none => ([],191)
  | some r =>
   if decide ((yZh ca rule r main term name).2 = 192) || (r.left && !hasF s.l main) || (r.right && !hasF s.r main) then ([],192)
   else if (yZh ca rule r main term name).2 ≠ 0 then ([],(yZh ca rule r main term name).2)
   else if decide (r.asks = 2) && yJx s name then ([],193)
   else ((yZh ca rule r main term name).1,0)
noncomputable def yXn (s:Sq):List Sq → List Tr → Bool
 | m :: l,t :: ts => yJm t.sq (s.plus m) && yXn s l ts
 | _,_ => true
noncomputable def yZe (ca:Nat):Tr → Nat
 | .mk rule s main term name sub =>
  if (yZl ca s rule main term name).2 ≠ 0 then (yZl ca s rule main term name).2
  else if sub.length ≠ (yZl ca s rule main term name).1.length then 194
  else if yXn s (yZl ca s rule main term name).1 sub then 0 else 195
noncomputable def yXe (ca:Nat) (t:Tr):List Nat × Nat :=
 if !yXi ca then ([],2) else if 300 < t.steps then ([],5) else yZ0 (yZe ca) (t.walk [])
end Go.Proofs.Tryz
namespace Go.Iv
open Go
theorem ICall.give {P:Program} {gl:Nat → Option IV} {f:FuncId} {args:List IV} {st:ISt} {K:IV → ISt → Prop} (h:ICall P gl f args st (fun r st' => ∃ st0,subSt st0 st' ∧ K r st0)):ICall P gl f args st K:=by
 intro B X rs hg hst hv
 refine (h B X rs hg hst hv).mono ?_
 rintro e w' ⟨v,rfl,X',x,rfl,h2,h3,h4,st0,hs,hK⟩
 obtain ⟨hg1,he1⟩:=h2.sub hs
 exact ⟨v,rfl,{ X' with st:=st0 },x,rfl,hg1,h3.trans he1,he1.v h4,hK⟩
end Go.Iv
namespace Go.Proofs.Tryz
open Go Go.Iv
set_option maxRecDepth 4000
variable (gl:Nat → Option IV)
theorem yW0 (us:List Fm) (tg:Tag) (xs:List IV) (htg:okEs tg 4) (hxs:IsFms us xs) (hsz:yQ8 us ≤ 1099511627776) (st:ISt) :
  ICall prog gl 97 [.sl tg xs] st (fun r st' => ∃ tg' ys,r = .sl tg' ys ∧ okEs tg' 4 ∧ IsFms us ys ∧ st' = st) :=
 ICall.give ((xXv gl us tg xs htg hxs hsz st).mono fun r st' h => by
  obtain ⟨tg',ys,rfl,he,_,hys,_,hsub⟩:=h
  exact ⟨st,hsub,tg',ys,rfl,he,hys.1,rfl⟩)
theorem IsSq.two {s:Sq} {x:IV} (h:IsSq s x):∃ t xs t' ys,x = .agg [.sl t xs,.sl t' ys]:=by
 obtain ⟨t,xs,t',ys,rfl,_⟩:=h
 exact ⟨_,_,_,_,rfl⟩
theorem zZn (us:List Fm) (tg:Tag) (xs:List IV) (htg:okEs tg 4) (hxs:IsFms us xs) (hsz:yQ8 us ≤ 1099511627776) (st:ISt) :
  ICall prog gl 151 [.sl tg xs] st (fun r st' => IsSq ⟨us,[]⟩ r ∧ st' = st):=by
 refine iI func151 rfl rfl (by kernel_rfl) ?_
 simp -implicitDefEqProofs -dsimp only [go_sem]
 refine (yW0 gl us tg xs htg hxs hsz _).mono ?_
 rintro _ _ ⟨tg',ys,rfl,he,hys,rfl⟩
 simp -implicitDefEqProofs -dsimp only [go_sem,fits]
 exact yQ0 ⟨⟨_,_,_,_,rfl,he,hys,.inl rfl,rfl⟩,rfl⟩
theorem yWs (us:List Fm) (tg:Tag) (xs:List IV) (htg:okEs tg 4) (hxs:IsFms us xs) (hsz:yQ8 us ≤ 1099511627776) (st:ISt) :
  ICall prog gl 148 [.sl tg xs] st (fun r st' => IsSq ⟨[],us⟩ r ∧ st' = st):=by
 refine iI func148 rfl rfl (by kernel_rfl) ?_
 simp -implicitDefEqProofs -dsimp only [go_sem]
 refine (yW0 gl us tg xs htg hxs hsz _).mono ?_
 rintro _ _ ⟨tg',ys,rfl,he,hys,rfl⟩
 simp -implicitDefEqProofs -dsimp only [go_sem,fits]
 exact yQ0 ⟨⟨_,_,_,_,rfl,.inl rfl,rfl,he,hys⟩,rfl⟩
theorem yQa (x y:Operand):yV1 2 [(0,x),(1,y)] = true:=rfl
theorem vZe (a b:Fm) (x y:IV) (hx:IsFm a x) (hy:IsFm b y) (st:ISt):ICall prog gl 215 [x,y] st (fun r st' => IsFm (impF a b) r ∧ st' = st):=by
 have h1:IsFms [a,b] [x,y]:=⟨_,_,rfl,hx,_,_,rfl,hy,rfl⟩
 obtain ⟨o5,n5,t5,x5,t6,x6,rfl⟩:=hx.agg
 obtain ⟨o7,n7,t7,x7,t8,x8,rfl⟩:=hy.agg
 refine iI func215 rfl rfl (by kernel_rfl) ?_
 simp -implicitDefEqProofs -dsimp only [go_sem,fits,yQa]
 exact yQ0 ⟨⟨_,_,_,_,rfl,by decide,.inl rfl,rfl,.inr rfl,h1⟩,rfl⟩
def yYd (id:Nat) (F:Fm → Fm → Fm → List Sq):Prop:=∀ (m a b:Fm) (x y z:IV) (_:IsFm m x) (_:IsFm a y) (_:IsFm b z) (_:m.size ≤ 1000000) (_:a.size ≤ 1000000) (_:b.size ≤ 1000000) (st:ISt),
 ICall prog gl id [x,y,z] st (fun r st' => ∃ tg xs,r = .sl tg xs ∧ okEs tg 2 ∧ IsSqs (F m a b) xs ∧ st' = st)
theorem sq1 {s:Sq} {x:IV} (h:IsSq s x):IsSqs [s] [x]:=⟨_,_,rfl,h,rfl⟩
theorem sq2 {s s':Sq} {x x':IV} (h:IsSq s x) (h':IsSq s' x'):IsSqs [s,s'] [x,x']:=⟨_,_,rfl,h,_,_,rfl,h',rfl⟩
theorem wZy:yYd gl 204 (fun _ _ _ => []):=by
 intro m a b x y z hx hy hz hm ha hb st
 obtain ⟨o1,n1,t1,x1,t2,x2,rfl⟩:=hx.agg
 obtain ⟨o3,n3,t3,x3,t4,x4,rfl⟩:=hy.agg
 obtain ⟨o5,n5,t5,x5,t6,x6,rfl⟩:=hz.agg
 refine iI func204 rfl rfl (by kernel_rfl) ?_
 simp -implicitDefEqProofs -dsimp only [go_sem]
 exact yQ0 ⟨_,_,rfl,.inl rfl,rfl,rfl⟩
theorem wZx:yYd gl 205 (fun _ _ _ => []):=by
 intro m a b x y z hx hy hz hm ha hb st
 obtain ⟨o1,n1,t1,x1,t2,x2,rfl⟩:=hx.agg
 obtain ⟨o3,n3,t3,x3,t4,x4,rfl⟩:=hy.agg
 obtain ⟨o5,n5,t5,x5,t6,x6,rfl⟩:=hz.agg
 refine iI func205 rfl rfl (by kernel_rfl) ?_
 simp -implicitDefEqProofs -dsimp only [go_sem]
 exact yQ0 ⟨_,_,rfl,.inl rfl,rfl,rfl⟩
theorem wZw:yYd gl 206 (fun m a b => [⟨[],[a]⟩]):=by
 intro m a b x y z hx hy hz hm ha hb st
 have hx0:=hx
 have hy0:=hy
 have hz0:=hz
 obtain ⟨o1,n1,t1,x1,t2,x2,rfl⟩:=hx.agg
 obtain ⟨o3,n3,t3,x3,t4,x4,rfl⟩:=hy.agg
 obtain ⟨o5,n5,t5,x5,t6,x6,rfl⟩:=hz.agg
 have ia:=IsFms.one hy0
 have ib:=IsFms.one hz0
 have im:=IsFms.one hx0
 have iab:IsFms [a,b] [_,_]:=⟨_,_,rfl,hy0,ib⟩
 refine iI func206 rfl rfl (by kernel_rfl) ?_
 simp -implicitDefEqProofs -dsimp only [go_sem,fits,yQ1,yQa]
 refine (yWs gl _ _ _ (.inr rfl) ia (by simp only [yQ8]; omega) _).mono ?_
 rintro r _ ⟨hr,rfl⟩
 have h1:=sq1 hr
 obtain ⟨_,_,_,_,rfl⟩:=IsSq.two hr
 simp -implicitDefEqProofs -dsimp only [go_sem,fits,yQ1]
 exact yQ0 ⟨_,_,rfl,.inr rfl,h1,rfl⟩
theorem wZv:yYd gl 207 (fun m a b => [⟨[a],[]⟩]):=by
 intro m a b x y z hx hy hz hm ha hb st
 have hx0:=hx
 have hy0:=hy
 have hz0:=hz
 obtain ⟨o1,n1,t1,x1,t2,x2,rfl⟩:=hx.agg
 obtain ⟨o3,n3,t3,x3,t4,x4,rfl⟩:=hy.agg
 obtain ⟨o5,n5,t5,x5,t6,x6,rfl⟩:=hz.agg
 have ia:=IsFms.one hy0
 have ib:=IsFms.one hz0
 have im:=IsFms.one hx0
 have iab:IsFms [a,b] [_,_]:=⟨_,_,rfl,hy0,ib⟩
 refine iI func207 rfl rfl (by kernel_rfl) ?_
 simp -implicitDefEqProofs -dsimp only [go_sem,fits,yQ1,yQa]
 refine (zZn gl _ _ _ (.inr rfl) ia (by simp only [yQ8]; omega) _).mono ?_
 rintro r _ ⟨hr,rfl⟩
 have h1:=sq1 hr
 obtain ⟨_,_,_,_,rfl⟩:=IsSq.two hr
 simp -implicitDefEqProofs -dsimp only [go_sem,fits,yQ1]
 exact yQ0 ⟨_,_,rfl,.inr rfl,h1,rfl⟩
theorem wZu:yYd gl 208 (fun m a b => [⟨[a,b],[]⟩]):=by
 intro m a b x y z hx hy hz hm ha hb st
 have hx0:=hx
 have hy0:=hy
 have hz0:=hz
 obtain ⟨o1,n1,t1,x1,t2,x2,rfl⟩:=hx.agg
 obtain ⟨o3,n3,t3,x3,t4,x4,rfl⟩:=hy.agg
 obtain ⟨o5,n5,t5,x5,t6,x6,rfl⟩:=hz.agg
 have ia:=IsFms.one hy0
 have ib:=IsFms.one hz0
 have im:=IsFms.one hx0
 have iab:IsFms [a,b] [_,_]:=⟨_,_,rfl,hy0,ib⟩
 refine iI func208 rfl rfl (by kernel_rfl) ?_
 simp -implicitDefEqProofs -dsimp only [go_sem,fits,yQ1,yQa]
 refine (zZn gl _ _ _ (.inr rfl) iab (by simp only [yQ8]; omega) _).mono ?_
 rintro r _ ⟨hr,rfl⟩
 have h1:=sq1 hr
 obtain ⟨_,_,_,_,rfl⟩:=IsSq.two hr
 simp -implicitDefEqProofs -dsimp only [go_sem,fits,yQ1]
 exact yQ0 ⟨_,_,rfl,.inr rfl,h1,rfl⟩
theorem wZt:yYd gl 209 (fun m a b => [⟨[],[a]⟩,⟨[],[b]⟩]):=by
 intro m a b x y z hx hy hz hm ha hb st
 have hx0:=hx
 have hy0:=hy
 have hz0:=hz
 obtain ⟨o1,n1,t1,x1,t2,x2,rfl⟩:=hx.agg
 obtain ⟨o3,n3,t3,x3,t4,x4,rfl⟩:=hy.agg
 obtain ⟨o5,n5,t5,x5,t6,x6,rfl⟩:=hz.agg
 have ia:=IsFms.one hy0
 have ib:=IsFms.one hz0
 have im:=IsFms.one hx0
 have iab:IsFms [a,b] [_,_]:=⟨_,_,rfl,hy0,ib⟩
 refine ICall.intro (c:=cf prog gl [] [(1,[0,1,3,4,2,5,6,7])]) func209 rfl (by show _ ≤ 14; simp) (by kernel_rfl) ?_
 simp -implicitDefEqProofs -dsimp only [go_sem,fits,yQ1,yQa]
 refine (yWs gl _ _ _ (.inr rfl) ia (by simp only [yQ8]; omega) _).mono ?_
 rintro r _ ⟨hr,rfl⟩
 have hr0:=hr
 obtain ⟨_,_,_,_,rfl⟩:=IsSq.two hr
 simp -implicitDefEqProofs -dsimp only [go_sem,fits,yQ1,yQa]
 refine (yWs gl _ _ _ (.inr rfl) ib (by simp only [yQ8]; omega) _).mono ?_
 rintro r _ ⟨hr,rfl⟩
 have h1:=sq2 hr0 hr
 obtain ⟨_,_,_,_,rfl⟩:=IsSq.two hr
 simp -implicitDefEqProofs -dsimp only [go_sem,fits,yQ1,yQa]
 exact yQ0 ⟨_,_,rfl,.inr rfl,h1,rfl⟩
theorem wZs:yYd gl 210 (fun m a b => [⟨[a],[]⟩,⟨[b],[]⟩]):=by
 intro m a b x y z hx hy hz hm ha hb st
 have hx0:=hx
 have hy0:=hy
 have hz0:=hz
 obtain ⟨o1,n1,t1,x1,t2,x2,rfl⟩:=hx.agg
 obtain ⟨o3,n3,t3,x3,t4,x4,rfl⟩:=hy.agg
 obtain ⟨o5,n5,t5,x5,t6,x6,rfl⟩:=hz.agg
 have ia:=IsFms.one hy0
 have ib:=IsFms.one hz0
 have im:=IsFms.one hx0
 have iab:IsFms [a,b] [_,_]:=⟨_,_,rfl,hy0,ib⟩
 refine ICall.intro (c:=cf prog gl [] [(1,[0,1,3,4,2,5,6,7])]) func210 rfl (by show _ ≤ 14; simp) (by kernel_rfl) ?_
 simp -implicitDefEqProofs -dsimp only [go_sem,fits,yQ1,yQa]
 refine (zZn gl _ _ _ (.inr rfl) ia (by simp only [yQ8]; omega) _).mono ?_
 rintro r _ ⟨hr,rfl⟩
 have hr0:=hr
 obtain ⟨_,_,_,_,rfl⟩:=IsSq.two hr
 simp -implicitDefEqProofs -dsimp only [go_sem,fits,yQ1,yQa]
 refine (zZn gl _ _ _ (.inr rfl) ib (by simp only [yQ8]; omega) _).mono ?_
 rintro r _ ⟨hr,rfl⟩
 have h1:=sq2 hr0 hr
 obtain ⟨_,_,_,_,rfl⟩:=IsSq.two hr
 simp -implicitDefEqProofs -dsimp only [go_sem,fits,yQ1,yQa]
 exact yQ0 ⟨_,_,rfl,.inr rfl,h1,rfl⟩
theorem wZr:yYd gl 211 (fun m a b => [⟨[],[a,b]⟩]):=by
 intro m a b x y z hx hy hz hm ha hb st
 have hx0:=hx
 have hy0:=hy
 have hz0:=hz
 obtain ⟨o1,n1,t1,x1,t2,x2,rfl⟩:=hx.agg
 obtain ⟨o3,n3,t3,x3,t4,x4,rfl⟩:=hy.agg
 obtain ⟨o5,n5,t5,x5,t6,x6,rfl⟩:=hz.agg
 have ia:=IsFms.one hy0
 have ib:=IsFms.one hz0
 have im:=IsFms.one hx0
 have iab:IsFms [a,b] [_,_]:=⟨_,_,rfl,hy0,ib⟩
 refine iI func211 rfl rfl (by kernel_rfl) ?_
 simp -implicitDefEqProofs -dsimp only [go_sem,fits,yQ1,yQa]
 refine (yWs gl _ _ _ (.inr rfl) iab (by simp only [yQ8]; omega) _).mono ?_
 rintro r _ ⟨hr,rfl⟩
 have h1:=sq1 hr
 obtain ⟨_,_,_,_,rfl⟩:=IsSq.two hr
 simp -implicitDefEqProofs -dsimp only [go_sem,fits,yQ1]
 exact yQ0 ⟨_,_,rfl,.inr rfl,h1,rfl⟩
theorem wZq:yYd gl 212 (fun m a b => [⟨[],[a]⟩,⟨[b],[]⟩]):=by
 intro m a b x y z hx hy hz hm ha hb st
 have hx0:=hx
 have hy0:=hy
 have hz0:=hz
 obtain ⟨o1,n1,t1,x1,t2,x2,rfl⟩:=hx.agg
 obtain ⟨o3,n3,t3,x3,t4,x4,rfl⟩:=hy.agg
 obtain ⟨o5,n5,t5,x5,t6,x6,rfl⟩:=hz.agg
 have ia:=IsFms.one hy0
 have ib:=IsFms.one hz0
 have im:=IsFms.one hx0
 have iab:IsFms [a,b] [_,_]:=⟨_,_,rfl,hy0,ib⟩
 refine ICall.intro (c:=cf prog gl [] [(1,[0,1,3,4,2,5,6,7])]) func212 rfl (by show _ ≤ 14; simp) (by kernel_rfl) ?_
 simp -implicitDefEqProofs -dsimp only [go_sem,fits,yQ1,yQa]
 refine (yWs gl _ _ _ (.inr rfl) ia (by simp only [yQ8]; omega) _).mono ?_
 rintro r _ ⟨hr,rfl⟩
 have hr0:=hr
 obtain ⟨_,_,_,_,rfl⟩:=IsSq.two hr
 simp -implicitDefEqProofs -dsimp only [go_sem,fits,yQ1,yQa]
 refine (zZn gl _ _ _ (.inr rfl) ib (by simp only [yQ8]; omega) _).mono ?_
 rintro r _ ⟨hr,rfl⟩
 have h1:=sq2 hr0 hr
 obtain ⟨_,_,_,_,rfl⟩:=IsSq.two hr
 simp -implicitDefEqProofs -dsimp only [go_sem,fits,yQ1,yQa]
 exact yQ0 ⟨_,_,rfl,.inr rfl,h1,rfl⟩
theorem xJb:yYd gl 217 (fun m a b => [⟨[],[m]⟩,⟨[m],[]⟩]):=by
 intro m a b x y z hx hy hz hm ha hb st
 have hx0:=hx
 have hy0:=hy
 have hz0:=hz
 obtain ⟨o1,n1,t1,x1,t2,x2,rfl⟩:=hx.agg
 obtain ⟨o3,n3,t3,x3,t4,x4,rfl⟩:=hy.agg
 obtain ⟨o5,n5,t5,x5,t6,x6,rfl⟩:=hz.agg
 have ia:=IsFms.one hy0
 have ib:=IsFms.one hz0
 have im:=IsFms.one hx0
 have iab:IsFms [a,b] [_,_]:=⟨_,_,rfl,hy0,ib⟩
 refine ICall.intro (c:=cf prog gl [] [(1,[0,1,3,4,2,5,6,7])]) func217 rfl (by show _ ≤ 14; simp) (by kernel_rfl) ?_
 simp -implicitDefEqProofs -dsimp only [go_sem,fits,yQ1,yQa]
 refine (yWs gl _ _ _ (.inr rfl) im (by simp only [yQ8]; omega) _).mono ?_
 rintro r _ ⟨hr,rfl⟩
 have hr0:=hr
 obtain ⟨_,_,_,_,rfl⟩:=IsSq.two hr
 simp -implicitDefEqProofs -dsimp only [go_sem,fits,yQ1,yQa]
 refine (zZn gl _ _ _ (.inr rfl) im (by simp only [yQ8]; omega) _).mono ?_
 rintro r _ ⟨hr,rfl⟩
 have h1:=sq2 hr0 hr
 obtain ⟨_,_,_,_,rfl⟩:=IsSq.two hr
 simp -implicitDefEqProofs -dsimp only [go_sem,fits,yQ1,yQa]
 exact yQ0 ⟨_,_,rfl,.inr rfl,h1,rfl⟩
theorem xJ9:yYd gl 147 (fun m a b => [⟨[],[a]⟩]):=by
 intro m a b x y z hx hy hz hm ha hb st
 have hx0:=hx
 have hy0:=hy
 have hz0:=hz
 obtain ⟨o1,n1,t1,x1,t2,x2,rfl⟩:=hx.agg
 obtain ⟨o3,n3,t3,x3,t4,x4,rfl⟩:=hy.agg
 obtain ⟨o5,n5,t5,x5,t6,x6,rfl⟩:=hz.agg
 have ia:=IsFms.one hy0
 have ib:=IsFms.one hz0
 have im:=IsFms.one hx0
 have iab:IsFms [a,b] [_,_]:=⟨_,_,rfl,hy0,ib⟩
 refine iI func147 rfl rfl (by kernel_rfl) ?_
 simp -implicitDefEqProofs -dsimp only [go_sem,fits,yQ1,yQa]
 refine (yWs gl _ _ _ (.inr rfl) ia (by simp only [yQ8]; omega) _).mono ?_
 rintro r _ ⟨hr,rfl⟩
 have h1:=sq1 hr
 obtain ⟨_,_,_,_,rfl⟩:=IsSq.two hr
 simp -implicitDefEqProofs -dsimp only [go_sem,fits,yQ1]
 exact yQ0 ⟨_,_,rfl,.inr rfl,h1,rfl⟩
theorem xJa:yYd gl 149 (fun m a b => [⟨[],[b]⟩]):=by
 intro m a b x y z hx hy hz hm ha hb st
 have hx0:=hx
 have hy0:=hy
 have hz0:=hz
 obtain ⟨o1,n1,t1,x1,t2,x2,rfl⟩:=hx.agg
 obtain ⟨o3,n3,t3,x3,t4,x4,rfl⟩:=hy.agg
 obtain ⟨o5,n5,t5,x5,t6,x6,rfl⟩:=hz.agg
 have ia:=IsFms.one hy0
 have ib:=IsFms.one hz0
 have im:=IsFms.one hx0
 have iab:IsFms [a,b] [_,_]:=⟨_,_,rfl,hy0,ib⟩
 refine iI func149 rfl rfl (by kernel_rfl) ?_
 simp -implicitDefEqProofs -dsimp only [go_sem,fits,yQ1,yQa]
 refine (yWs gl _ _ _ (.inr rfl) ib (by simp only [yQ8]; omega) _).mono ?_
 rintro r _ ⟨hr,rfl⟩
 have h1:=sq1 hr
 obtain ⟨_,_,_,_,rfl⟩:=IsSq.two hr
 simp -implicitDefEqProofs -dsimp only [go_sem,fits,yQ1]
 exact yQ0 ⟨_,_,rfl,.inr rfl,h1,rfl⟩
theorem wZp:yYd gl 150 (fun m a b => [⟨[a],[]⟩]):=by
 intro m a b x y z hx hy hz hm ha hb st
 have hx0:=hx
 have hy0:=hy
 have hz0:=hz
 obtain ⟨o1,n1,t1,x1,t2,x2,rfl⟩:=hx.agg
 obtain ⟨o3,n3,t3,x3,t4,x4,rfl⟩:=hy.agg
 obtain ⟨o5,n5,t5,x5,t6,x6,rfl⟩:=hz.agg
 have ia:=IsFms.one hy0
 have ib:=IsFms.one hz0
 have im:=IsFms.one hx0
 have iab:IsFms [a,b] [_,_]:=⟨_,_,rfl,hy0,ib⟩
 refine iI func150 rfl rfl (by kernel_rfl) ?_
 simp -implicitDefEqProofs -dsimp only [go_sem,fits,yQ1,yQa]
 refine (zZn gl _ _ _ (.inr rfl) ia (by simp only [yQ8]; omega) _).mono ?_
 rintro r _ ⟨hr,rfl⟩
 have h1:=sq1 hr
 obtain ⟨_,_,_,_,rfl⟩:=IsSq.two hr
 simp -implicitDefEqProofs -dsimp only [go_sem,fits,yQ1]
 exact yQ0 ⟨_,_,rfl,.inr rfl,h1,rfl⟩
theorem wZo:yYd gl 152 (fun m a b => [⟨[],[a]⟩]):=by
 intro m a b x y z hx hy hz hm ha hb st
 have hx0:=hx
 have hy0:=hy
 have hz0:=hz
 obtain ⟨o1,n1,t1,x1,t2,x2,rfl⟩:=hx.agg
 obtain ⟨o3,n3,t3,x3,t4,x4,rfl⟩:=hy.agg
 obtain ⟨o5,n5,t5,x5,t6,x6,rfl⟩:=hz.agg
 have ia:=IsFms.one hy0
 have ib:=IsFms.one hz0
 have im:=IsFms.one hx0
 have iab:IsFms [a,b] [_,_]:=⟨_,_,rfl,hy0,ib⟩
 refine iI func152 rfl rfl (by kernel_rfl) ?_
 simp -implicitDefEqProofs -dsimp only [go_sem,fits,yQ1,yQa]
 refine (yWs gl _ _ _ (.inr rfl) ia (by simp only [yQ8]; omega) _).mono ?_
 rintro r _ ⟨hr,rfl⟩
 have h1:=sq1 hr
 obtain ⟨_,_,_,_,rfl⟩:=IsSq.two hr
 simp -implicitDefEqProofs -dsimp only [go_sem,fits,yQ1]
 exact yQ0 ⟨_,_,rfl,.inr rfl,h1,rfl⟩
theorem xJe:yYd gl 213 (fun m a b => [⟨[a],[b]⟩]):=by
 intro m a b x y z hx hy hz hm ha hb st
 have hx0:=hx
 have hy0:=hy
 have hz0:=hz
 obtain ⟨o1,n1,t1,x1,t2,x2,rfl⟩:=hx.agg
 obtain ⟨o3,n3,t3,x3,t4,x4,rfl⟩:=hy.agg
 obtain ⟨o5,n5,t5,x5,t6,x6,rfl⟩:=hz.agg
 have ia:=IsFms.one hy0
 have ib:=IsFms.one hz0
 have im:=IsFms.one hx0
 have iab:IsFms [a,b] [_,_]:=⟨_,_,rfl,hy0,ib⟩
 refine ICall.intro (c:=cf prog gl [] [(1,[0,1,3,4,2,5,6,7,8])]) func213 rfl (by show _ ≤ 15; simp) (by kernel_rfl) ?_
 simp -implicitDefEqProofs -dsimp only [go_sem,fits,yQ1]
 refine (yW0 gl _ _ _ (.inr rfl) ia (by simp only [yQ8]; omega) _).mono ?_
 rintro _ _ ⟨tg1,ys1,rfl,he1,hys1,rfl⟩
 simp -implicitDefEqProofs -dsimp only [go_sem,fits,yQ1]
 refine (yW0 gl _ _ _ (.inr rfl) ib (by simp only [yQ8]; omega) _).mono ?_
 rintro _ _ ⟨tg2,ys2,rfl,he2,hys2,rfl⟩
 simp -implicitDefEqProofs -dsimp only [go_sem,fits,yQ1]
 exact yQ0 ⟨_,_,rfl,.inr rfl,sq1 ⟨_,_,_,_,rfl,he1,hys1,he2,hys2⟩,rfl⟩
theorem xJc:yYd gl 216 (fun m a b => [⟨[a],[b]⟩,⟨[b],[a]⟩]):=by
 intro m a b x y z hx hy hz hm ha hb st
 have hx0:=hx
 have hy0:=hy
 have hz0:=hz
 obtain ⟨o1,n1,t1,x1,t2,x2,rfl⟩:=hx.agg
 obtain ⟨o3,n3,t3,x3,t4,x4,rfl⟩:=hy.agg
 obtain ⟨o5,n5,t5,x5,t6,x6,rfl⟩:=hz.agg
 have ia:=IsFms.one hy0
 have ib:=IsFms.one hz0
 have im:=IsFms.one hx0
 have iab:IsFms [a,b] [_,_]:=⟨_,_,rfl,hy0,ib⟩
 refine ICall.intro (c:=cf prog gl [] [(1,[0,1,3,4,7,8,10,11,2,5,6,9,12,13,14,15])]) func216 rfl (by show _ ≤ 22; simp) (by kernel_rfl) ?_
 simp -implicitDefEqProofs -dsimp only [go_sem,fits,yQ1]
 refine (yW0 gl _ _ _ (.inr rfl) ia (by simp only [yQ8]; omega) _).mono ?_
 rintro _ _ ⟨tg1,ys1,rfl,he1,hys1,rfl⟩
 simp -implicitDefEqProofs -dsimp only [go_sem,fits,yQ1]
 refine (yW0 gl _ _ _ (.inr rfl) ib (by simp only [yQ8]; omega) _).mono ?_
 rintro _ _ ⟨tg2,ys2,rfl,he2,hys2,rfl⟩
 simp -implicitDefEqProofs -dsimp only [go_sem,fits,yQ1]
 refine (yW0 gl _ _ _ (.inr rfl) ib (by simp only [yQ8]; omega) _).mono ?_
 rintro _ _ ⟨tg3,ys3,rfl,he3,hys3,rfl⟩
 simp -implicitDefEqProofs -dsimp only [go_sem,fits,yQ1]
 refine (yW0 gl _ _ _ (.inr rfl) ia (by simp only [yQ8]; omega) _).mono ?_
 rintro _ _ ⟨tg4,ys4,rfl,he4,hys4,rfl⟩
 simp -implicitDefEqProofs -dsimp only [go_sem,fits,yQa]
 exact yQ0 ⟨_,_,rfl,.inr rfl,sq2 ⟨_,_,_,_,rfl,he1,hys1,he2,hys2⟩ ⟨_,_,_,_,rfl,he3,hys3,he4,hys4⟩,rfl⟩
theorem xJd:yYd gl 214 (fun m a b => [⟨[impF a b,impF b a],[]⟩]):=by
 intro m a b x y z hx hy hz hm ha hb st
 have hx0:=hx
 have hy0:=hy
 have hz0:=hz
 obtain ⟨o1,n1,t1,x1,t2,x2,rfl⟩:=hx.agg
 obtain ⟨o3,n3,t3,x3,t4,x4,rfl⟩:=hy.agg
 obtain ⟨o5,n5,t5,x5,t6,x6,rfl⟩:=hz.agg
 have ia:=IsFms.one hy0
 have ib:=IsFms.one hz0
 have im:=IsFms.one hx0
 have iab:IsFms [a,b] [_,_]:=⟨_,_,rfl,hy0,ib⟩
 refine ICall.intro (c:=cf prog gl [] [(1,[0,1,3,4,2,5,6,7,8,9])]) func214 rfl (by show _ ≤ 16; simp) (by kernel_rfl) ?_
 simp -implicitDefEqProofs -dsimp only [go_sem,fits]
 refine (vZe gl a b _ _ hy0 hz0 _).mono ?_
 rintro r _ ⟨hr,rfl⟩
 have hr0:=hr
 obtain ⟨_,_,_,_,_,_,rfl⟩:=hr.agg
 simp -implicitDefEqProofs -dsimp only [go_sem,fits]
 refine (vZe gl b a _ _ hz0 hy0 _).mono ?_
 rintro r _ ⟨hr,rfl⟩
 have hr1:IsFms [impF a b,impF b a] [_,_]:=⟨_,_,rfl,hr0,IsFms.one hr⟩
 obtain ⟨_,_,_,_,_,_,rfl⟩:=hr.agg
 simp -implicitDefEqProofs -dsimp only [go_sem,fits,yQa]
 refine (zZn gl _ _ _ (.inr rfl) hr1 (by simp only [yQ8,impF,Fm.size,yQ7]; omega) _).mono ?_
 rintro r _ ⟨hr,rfl⟩
 have h1:=sq1 hr
 obtain ⟨_,_,_,_,rfl⟩:=IsSq.two hr
 simp -implicitDefEqProofs -dsimp only [go_sem,fits,yQ1]
 exact yQ0 ⟨_,_,rfl,.inr rfl,h1,rfl⟩
end Go.Proofs.Tryz
