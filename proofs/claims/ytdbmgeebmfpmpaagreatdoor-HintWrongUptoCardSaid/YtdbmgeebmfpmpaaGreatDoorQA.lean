/- Sequents and trees of sequents as plain -/
import Derived.Test.YtdbmgeebmfpmpaaGreatDoorKD
set_option linter.all false
open Nat renaming reduceEqDiff → zE,reduceBEq → zB,reduceAdd → zA,reduceMul → zM,reduceLeDiff → zL
namespace Go.Iv
open Go
structure Sq where
 l:List Fm
 r:List Fm
inductive Tr where
 | mk (rule:Nat) (s:Sq) (main:Fm) (term:Tm) (name:ByteArray) (sub:List Tr)
def IsSq (s:Sq)(x:IV):Prop:=∃t xs t' ys,x=.agg [.sl t xs,.sl t' ys]/\okEs t 4/\IsFms s.l xs/\okEs t' 4/\IsFms s.r ys
def IsSqs:List Sq->List IV->Prop
 | [],xs=>xs=[]
 | a::aL,xs=>∃y ys,xs=y::ys/\IsSq a y/\IsSqs aL ys
mutual
def IsTr:Tr->IV->Prop
 | .mk rule s f u n sub,x=>∃tl xl tr xr op fn ta xa tb xb v un tu xu ts xs,x=.agg [.raw (.int .u8 rule),.sl tl xl,.sl tr xr,.raw (.int .u8 op),.raw (.string fn),.sl ta xa,.sl tb xb,.raw (.bool v),.raw (.string un),.sl tu xu,.raw (.string n),.sl ts xs] /\
  rule<256/\okEs tl 4/\IsFms s.l xl/\okEs tr 4/\IsFms s.r xr/\IsFm f (.agg [.raw (.int .u8 op),.raw (.string fn),.sl ta xa,.sl tb xb])/\IsTm u (.agg [.raw (.bool v),.raw (.string un),.sl tu xu])/\okEs ts 12/\IsTrs sub xs
def IsTrs:List Tr->List IV->Prop
 | [],xs=>xs=[]
 | a::aL,xs=>∃y ys,xs=y::ys/\IsTr a y/\IsTrs aL ys
end
theorem IsTr.mk {rule:Nat}{s:Sq}{f:Fm}{u:Tm}{n:ByteArray}{sub:List Tr}{x:IV}(h:IsTr (.mk rule s f u n sub) x):∃tl xl tr xr op fn ta xa tb xb v un tu xu ts xs,x=.agg [.raw (.int .u8 rule),.sl tl xl,.sl tr xr,.raw (.int .u8 op),.raw (.string fn),.sl ta xa,.sl tb xb,.raw (.bool v),.raw (.string un),.sl tu xu,.raw (.string n),.sl ts xs] /\
  rule<256/\okEs tl 4/\IsFms s.l xl/\okEs tr 4/\IsFms s.r xr/\IsFm f (.agg [.raw (.int .u8 op),.raw (.string fn),.sl ta xa,.sl tb xb])/\IsTm u (.agg [.raw (.bool v),.raw (.string un),.sl tu xu])/\okEs ts 12/\IsTrs sub xs:=by
 simpa only[IsTr] using h
theorem IsSqs.len:∀ {aL:List Sq}{xs:List IV},IsSqs aL xs->xs.length=aL.length
 | [],xs,h=>by simp only[IsSqs] at h;subst h;rfl
 | a::aL,xs,h=>by
  simp only[IsSqs] at h;obtain⟨y,ys,rfl,_,h⟩:=h;simp[IsSqs.len h]
theorem IsSqs.get:∀ {aL:List Sq}{xs:List IV}{k:Nat}{a:Sq},IsSqs aL xs->aL[k]?=some a->∃x,xs[k]?=some x/\IsSq a x
 | [],xs,k,a,h,hk=>by simp at hk
 | b::aL,xs,k,a,h,hk=>by
  simp only[IsSqs] at h;obtain⟨y,ys,rfl,hy,h⟩:=h;cases k with
  | zero=>simp at hk;subst hk;exact⟨y,rfl,hy⟩
  | succ k=>simpa using IsSqs.get h (by simpa using hk)
theorem IsTrs.len:∀ {aL:List Tr}{xs:List IV},IsTrs aL xs->xs.length=aL.length
 | [],xs,h=>by simp only[IsTrs] at h;subst h;rfl
 | a::aL,xs,h=>by
  simp only[IsTrs] at h;obtain⟨y,ys,rfl,_,h⟩:=h;simp[IsTrs.len h]
theorem IsTrs.get:∀ {aL:List Tr}{xs:List IV}{k:Nat}{a:Tr},IsTrs aL xs->aL[k]?=some a->∃x,xs[k]?=some x/\IsTr a x
 | [],xs,k,a,h,hk=>by simp at hk
 | b::aL,xs,k,a,h,hk=>by
  simp only[IsTrs] at h;obtain⟨y,ys,rfl,hy,h⟩:=h;cases k with
  | zero=>simp at hk;subst hk;exact⟨y,rfl,hy⟩
  | succ k=>simpa using IsTrs.get h (by simpa using hk)
theorem IsTrs.append:∀ {aL bs:List Tr}{xs ys:List IV},IsTrs aL xs->IsTrs bs ys->IsTrs (aL++bs) (xs++ys)
 | [],bs,xs,ys,h,k=>by simp only[IsTrs] at h;subst h;exact k
 | a::aL,bs,xs,ys,h,k=>by
  simp only[IsTrs] at h;obtain⟨y,zs,rfl,hy,h⟩:=h;exact⟨y,zs++ys,rfl,hy,IsTrs.append h k⟩
mutual
def Tr.steps:Tr->Nat
 | .mk _ _ _ _ _ sub=>1+yQq sub
def yQq:List Tr->Nat
 | []=>0
 | a::l=>a.steps+yQq l
end
mutual
def Tr.height:Tr->Nat
 | .mk _ _ _ _ _ sub=>1+yXq sub
def yXq:List Tr->Nat
 | []=>0
 | a::l=>max a.height (yXq l)
end
theorem yKm:∀l m:List Tr,yQq (l++m)=yQq l+yQq m
 | [],m=>by simp[yQq]
 | a::l,m=>by simp only[List.cons_append,yQq,yKm l m];omega
theorem Tr.height_le_steps:∀t:Tr,t.height<=t.steps:=by
 have key:∀k:Nat,(∀t:Tr,SizeOf.sizeOf t<k->t.height<=t.steps):=λk=>by
  induction k with
  | zero=>intro t h;omega
  | succ k ih =>
   rintro⟨rule,s,f,u,n,sub⟩ h;have:∀l:List Tr,SizeOf.sizeOf l<k+1->yXq l<=yQq l:=λl=>by
    induction l with
    | nil=>intro _;simp[yXq,yQq]
    | cons a l ihl =>
     intro hl;simp only[List.cons.sizeOf_spec] at hl;have h1:=ih a (by omega);have h2:=ihl (by omega);simp only[yXq,yQq];omega
   simp only[Tr.mk.sizeOf_spec] at h;have:=this sub (by omega);simp only[Tr.height,Tr.steps];omega
 exact λt=>key _ t (Nat.lt_succ_self _)
mutual
def Tr.walk:List Nat->Tr->List (List Nat×Tr)
 | p,t@(.mk _ _ _ _ _ sub)=>(p,t)::yQn p 0 sub
def yQn:List Nat->Nat->List Tr->List (List Nat×Tr)
 | _,_,[]=>[]
 | p,i,a::l=>a.walk (p++[i])++yQn p (i+1) l
end
def yQx (e:Tr->Nat):List (List Nat×Tr)->List Nat×Nat
 | []=>([],0)
 | (p,t)::l=>if e t=0 then yQx e l else (p,e t)
theorem yXr (e:Tr->Nat):∀l m,yQx e (l++m)=if (yQx e l).2=0 then yQx e m else yQx e l
 | [],m=>by simp[yQx]
 | (p,t)::l,m=>by
  have ih:=yXr e l m;by_cases h:e t=0
  ·simp only[List.cons_append,yQx,h,if_true,ih]
  ·simp[yQx,h]
def Fm.op:Fm->Nat
 | .mk op _ _ _=>op
def Fm.subs:Fm->List Fm
 | .mk _ _ _ sub=>sub
def Fm.nm:Fm->ByteArray
 | .mk _ n _ _=>n
def Tr.sq:Tr->Sq
 | .mk _ s _ _ _ _=>s
def Sq.plus (s m:Sq):Sq:=⟨s.l++m.l,s.r++m.r⟩
end Go.Iv
namespace Go.Proofs.Tryz
open Go Go.Iv
set_option maxRecDepth 4000
variable (gl:Nat->Option IV)
theorem yGt (v w:Bool)(n m:ByteArray)(us ws:List Tm)(x y:IV)(hx:IsTm (.mk v n us) x)(hy:IsTm (.mk w m ws) y)
  (IH:∀(t t':Tag) (xs ys:List IV),okEs t 3->okEs t' 3->IsTms us xs->IsTms ws ys->∀st,ICall prog gl 36 [.sl t xs,.sl t' ys] st (λx st'=>x=.raw (.bool (eqB us ws))/\st'=st)) (st:ISt) :
  ICall prog gl 39 [x,y] st (λr st'=>r=.raw (.bool (eqB (Tm.mk v n us) (.mk w m ws)))/\st'=st):=by
 obtain⟨tx,cx,rfl,htx,hcx⟩:=hx.mk;obtain⟨ty,cy,rfl,hty,hcy⟩:=hy.mk;refine iI func39 ?_;by_cases hv:v=w
 ·subst hv;by_cases hnm:n=m
  ·subst hnm;simp only[go_sem,zE,zA,decide_true];refine (IH tx ty cx cy htx hty hcx hcy _).mono ?_;rintro _ _ ⟨rfl,rfl⟩;simp only[go_sem,zE];refine yQ0 ⟨?_,rfl⟩;by_cases hc:us=ws
   ·subst hc;rw[yZ7.2 rfl,yZ7.2 rfl]
   ·rw[yQp.2 hc,yQp.2 (by rintro⟨⟩;exact hc rfl)]
  ·simp only[go_sem,zE,zA,dEf hnm];exact yQ0 ⟨by rw[yQp.2 (by rintro⟨⟩;exact hnm rfl)],rfl⟩
 ·simp only[go_sem,zE,zA,beq_eq_false_iff_ne.2 hv];exact yQ0 ⟨by rw[yQp.2 (by rintro⟨⟩;exact hv rfl)],rfl⟩
theorem yYn (t t':Tag)(us ws:List Tm)(xs ys:List IV)(ht:okEs t 3)(ht':okEs t' 3)(ha:IsTms us xs)(hb:IsTms ws ys)(st:ISt) :
  ICall prog gl 36 [.sl t xs,.sl t' ys] st (λx st'=>x=.raw (.bool (eqB us ws))/\st'=st):=by
 refine iI func36 ?_;simp only[go_sem,zE,reduceCtorEq,ha.len,hb.len];intro hla hlb;refine yZo (λh=>?_) (λh=>?_)
 ·have hne:us≠ws:=by rintro rfl;simp at h
  simp only[go_sem];exact yQ0 ⟨by rw[yQp.2 hne],rfl⟩
 have hlen:us.length=ws.length:=by simp at h;omega
 refine LoopC.ctr us.length (λk fr st' ds=>us.take k=ws.take k/\fr 0=.iv (.sl t xs)/\fr 1=.iv (.sl t' ys)/\fr 5=.iv (.raw (.int .i64 k))/\st'=st/\ds=[]) ?_ ?_ ?_
 ·simp only[go_sem,zE,reduceCtorEq];rfl
 ·rintro k fr st' ds hlt ⟨hn,h0,h1,h5,rfl,rfl⟩;obtain⟨a,hka⟩:=yQ1 hlt;obtain⟨b,hkb⟩:=yQ1 (hlen▸hlt);obtain⟨x,hkx,hx⟩:=ha.get hka;obtain⟨y,hky,hy⟩:=hb.get hkb;obtain⟨v,n,cs⟩:=a;obtain⟨w,m,ds⟩:=b;have hx0:=hx;have hy0:=hy;obtain⟨tx,cx,rfl,htx,hcx⟩:=hx.mk;obtain⟨ty,cy,rfl,hty,hcy⟩:=hy.mk;have hcall:=yGt gl v w n m cs ds _ _ hx0 hy0 (λt1 t2 x1 y1 q1 q2 q3 q4 st1=>yYn t1 t2 cs ds x1 y1 q1 q2 q3 q4 st1) st';simp only[go_sem,zE,zB,zA,reduceCtorEq,h0,h1,h5,ha.len,lt_i hlt,yQ4 ht,yQ4 ht',iNn,hkx,hky,fits];intro _;refine hcall.mono ?_;rintro _ _ ⟨rfl,rfl⟩;by_cases hc:Tm.mk v n cs=.mk w m ds
  ·simp only[go_sem,zE,reduceCtorEq,h0,h1,h5,yQd hlt (show us.length<=281474976710656 by omega),yZ7.2 hc];rw[yQ8 hka,yQ8 hkb,hn,hc]
  ·have hne:us≠ws:=by
    rintro rfl;rw[hka] at hkb;exact hc (Option.some.inj hkb)
   simp only[go_sem,yQp.2 hc];exact yQ0 ⟨by rw[yQp.2 hne],rfl⟩
 ·rintro fr st' ds ⟨hn,h0,h1,h5,rfl,rfl⟩;simp only[go_sem,zE,reduceCtorEq,h0,h5,ha.len,yQl (nLi _)];intro _;have he:us=ws:=by rw[lTl] at hn;rw[hn,hlen,lTl]
  exact yQ0 ⟨by rw[yZ7.2 he],rfl⟩
termination_by SizeOf.sizeOf us
decreasing_by exact xYz (lMg hka)
theorem xJ8 (a b:Tm)(x y:IV)(hx:IsTm a x)(hy:IsTm b y)(st:ISt):ICall prog gl 39 [x,y] st (λr st'=>r=.raw (.bool (eqB a b))/\st'=st):=by
 obtain⟨v,n,us⟩:=a;obtain⟨w,m,ws⟩:=b;exact yGt gl v w n m us ws x y hx hy (λt t' xs ys h1 h2 h3 h4 st=>yYn gl t t' us ws xs ys h1 h2 h3 h4 st) st
def kSF (f:Fm):Prop:=∀(g:Fm) (x y:IV) (_:IsFm f x) (_:IsFm g y) (st:ISt),ICall prog gl 18 [x,y] st (λr st'=>r=.raw (.bool (eqB f g))/\st'=st)
theorem yYo (us ws:List Fm)(IH:∀a∈us,kSF gl a)(t t':Tag)(xs ys:List IV)(ht:okEs t 4)(ht':okEs t' 4)(ha:IsFms us xs)(hb:IsFms ws ys)(st:ISt) :
  ICall prog gl 37 [.sl t xs,.sl t' ys] st (λx st'=>x=.raw (.bool (eqB us ws))/\st'=st):=by
 refine iI func37 ?_;simp only[go_sem,zE,reduceCtorEq,ha.len,hb.len];intro hla hlb;refine yZo (λh=>?_) (λh=>?_)
 ·have hne:us≠ws:=by rintro rfl;simp at h
  simp only[go_sem];exact yQ0 ⟨by rw[yQp.2 hne],rfl⟩
 have hlen:us.length=ws.length:=by simp at h;omega
 refine LoopC.ctr us.length (λk fr st' ds=>us.take k=ws.take k/\fr 0=.iv (.sl t xs)/\fr 1=.iv (.sl t' ys)/\fr 5=.iv (.raw (.int .i64 k))/\st'=st/\ds=[]) ?_ ?_ ?_
 ·simp only[go_sem,zE,reduceCtorEq];rfl
 ·rintro k fr st' ds hlt ⟨hn,h0,h1,h5,rfl,rfl⟩;obtain⟨a,hka⟩:=yQ1 hlt;obtain⟨b,hkb⟩:=yQ1 (hlen▸hlt);obtain⟨x,hkx,hx⟩:=ha.get hka;obtain⟨y,hky,hy⟩:=hb.get hkb;have hcall:=IH a (lMg hka) b x y hx hy st';obtain⟨o,n,cs,sub⟩:=a;obtain⟨o',m,ds,sub'⟩:=b;obtain⟨tx,cx,sx,dx,rfl,_⟩:=hx.mk;obtain⟨ty,cy,sy,dy,rfl,_⟩:=hy.mk;simp only[go_sem,zE,zB,zA,reduceCtorEq,h0,h1,h5,ha.len,lt_i hlt,yQ4 ht,yQ4 ht',iNn,hkx,hky,fits];intro _;refine hcall.mono ?_;rintro _ _ ⟨rfl,rfl⟩;by_cases hc:Fm.mk o n cs sub=.mk o' m ds sub'
  ·simp only[go_sem,zE,reduceCtorEq,h0,h1,h5,yQd hlt (show us.length<=281474976710656 by omega),yZ7.2 hc];rw[yQ8 hka,yQ8 hkb,hn,hc]
  ·have hne:us≠ws:=by
    rintro rfl;rw[hka] at hkb;exact hc (Option.some.inj hkb)
   simp only[go_sem,yQp.2 hc];exact yQ0 ⟨by rw[yQp.2 hne],rfl⟩
 ·rintro fr st' ds ⟨hn,h0,h1,h5,rfl,rfl⟩;simp only[go_sem,zE,reduceCtorEq,h0,h5,ha.len,yQl (nLi _)];intro _;have he:us=ws:=by rw[lTl] at hn;rw[hn,hlen,lTl]
  exact yQ0 ⟨by rw[yZ7.2 he],rfl⟩
theorem zVj (o:Nat)(n:ByteArray)(us:List Tm)(sub:List Fm)(IH:∀a∈sub,kSF gl a):kSF gl (.mk o n us sub):=by
 intro g x y hx hy st;obtain⟨o',m,ws,sub'⟩:=g;obtain⟨tx,cx,sx,dx,rfl,ho,htx,hcx,hsx,hdx⟩:=hx.mk;obtain⟨ty,cy,sy,dy,rfl,ho',hty,hcy,hsy,hdy⟩:=hy.mk;have hcall:=yYo gl sub sub' IH sx sy dx dy hsx hsy hdx hdy;refine iI func18 ?_;by_cases hv:o=o'
 ·subst hv;by_cases hnm:n=m
  ·subst hnm;simp only[go_sem,zE,zA,decide_true];refine (yYn gl tx ty us ws cx cy htx hty hcx hcy _).mono ?_;rintro _ _ ⟨rfl,rfl⟩;by_cases hc:us=ws
   ·subst hc;simp only[go_sem,zE,zA,yZ7.2 rfl];refine (hcall _).mono ?_;rintro _ _ ⟨rfl,rfl⟩;simp only[go_sem,zE];refine yQ0 ⟨?_,rfl⟩;by_cases hd:sub=sub'
    ·subst hd;rw[yZ7.2 rfl,yZ7.2 rfl]
    ·rw[yQp.2 hd,yQp.2 (by rintro⟨⟩;exact hd rfl)]
   ·simp only[go_sem,zE,yQp.2 hc];exact yQ0 ⟨by rw[yQp.2 (by rintro⟨⟩;exact hc rfl)],rfl⟩
  ·simp only[go_sem,zE,zA,dEf hnm,decide_true];exact yQ0 ⟨by rw[yQp.2 (by rintro⟨⟩;exact hnm rfl)],rfl⟩
 ·have hv':decide ((o:Int)=(o':Int))=false:=dEf (by omega);simp only[go_sem,zE,zA,hv'];exact yQ0 ⟨by rw[yQp.2 (by rintro⟨⟩;exact hv rfl)],rfl⟩
theorem zQ7:∀(k:Nat)(f:Fm),SizeOf.sizeOf f<k->kSF gl f
 | 0,f,h=>by omega
 | k+1,.mk o n us sub,h=>zVj gl o n us sub (λa ha=>zQ7 k a (by
   have:=lSm ha;simp only[Fm.mk.sizeOf_spec] at h;omega))
theorem yU6 (f:Fm):kSF gl f:=zQ7 gl _ f (Nat.lt_succ_self _)
theorem zZs (us ws:List Fm)(t t':Tag)(xs ys:List IV)(ht:okEs t 4)(ht':okEs t' 4)(ha:IsFms us xs)(hb:IsFms ws ys)(st:ISt) :
  ICall prog gl 37 [.sl t xs,.sl t' ys] st (λx st'=>x=.raw (.bool (eqB us ws))/\st'=st):=yYo gl us ws (λa _=>yU6 gl a) t t' xs ys ht ht' ha hb st
theorem zWk (a b:Sq)(x y:IV)(hx:IsSq a x)(hy:IsSq b y)(st:ISt):ICall prog gl 38 [x,y] st (λr st'=>r=.raw (.bool (eqB a b))/\st'=st):=by
 obtain⟨l,r⟩:=a;obtain⟨l',r'⟩:=b;obtain⟨t1,x1,t2,x2,rfl,h1,h2,h3,h4⟩:=hx;obtain⟨t3,x3,t4,x4,rfl,h5,h6,h7,h8⟩:=hy;refine iI func38 ?_;simp only[go_sem,zE,zA];refine (zZs gl l l' t1 t3 x1 x3 h1 h5 h2 h6 _).mono ?_;rintro _ _ ⟨rfl,rfl⟩;by_cases hc:l=l'
 ·subst hc;simp only[go_sem,zE,zA,yZ7.2 rfl];refine (zZs gl r r' t2 t4 x2 x4 h3 h7 h4 h8 _).mono ?_;rintro _ _ ⟨rfl,rfl⟩;simp only[go_sem,zE];refine yQ0 ⟨?_,rfl⟩;by_cases hd:r=r'
  ·subst hd;rw[yZ7.2 rfl,yZ7.2 rfl]
  ·rw[yQp.2 hd,yQp.2 (by rintro⟨⟩;exact hd rfl)]
 ·simp only[go_sem,zE,yQp.2 hc];exact yQ0 ⟨by rw[yQp.2 (by rintro⟨⟩;exact hc rfl)],rfl⟩
def yQj (l:List Nat):List IV:=l.map λ(n:Nat)=>.raw (.int .i64 (n:Int))
theorem IsFmD.aggs {f:Fm}{r:IV}(h:IsFmD f r):∃o n t x t' x',r=.agg [.raw (.int .u8 o),.raw (.string n),.sl t x,.sl t' x']:=by
 obtain⟨o,n,us,sub⟩:=f;obtain⟨t,xs,t',ys,rfl,_⟩:=h.mk;exact⟨_,_,_,_,_,_,rfl⟩
def sCT (us:List Tm):Prop:=∀(tg:Tag) (xs:List IV) (_:okEs tg 3) (_:IsTms us xs) (_:yQf us<=1099511627776) (st:ISt),
 ICall prog gl 85 [.sl tg xs,.fn (.func 86) [] []] st (λr st'=>∃tg' ys,r=.sl tg' ys/\okEs tg' 3/\appT us.length tg'/\IsTmsD us ys/\st'=st)
theorem zVe (v:Bool)(n:ByteArray)(us:List Tm)(IH:sCT gl us)(x:IV)(hx:IsTm (.mk v n us) x)(hs:(Tm.mk v n us).size<=1099511627776)(st:ISt) :
  ICall prog gl 86 [x] st (λr st'=>IsTmD (.mk v n us) r/\st'=st):=by
 obtain⟨tx,cx,rfl,htx,hcx⟩:=hx.mk;simp only[Tm.size] at hs;have hcall:=IH tx cx htx hcx (by omega) st;refine iI func86 ?_;simp only[go_sem,zE,zA];refine hcall.mono ?_;rintro _ _ ⟨tg',ys,rfl,he,ha,hys,rfl⟩;simp only[go_sem,zE,zA,zL,fits];exact yQ0 ⟨IsTmD.intro he ha hys,rfl⟩
theorem zJf (us:List Tm)(IH:∀v n l,Tm.mk v n l∈us->sCT gl l):sCT gl us:=by
 intro tg xs htg hxs hsz st;have hlsz:=yJr us;refine iI func85 ?_;simp only[go_sem,reduceCtorEq,hxs.len];intro _;refine yZo (λh=>?_) (λh=>?_)
 ·obtain rfl:us=[]:=List.eq_nil_of_length_eq_zero (by simpa using h);simp only[go_sem];exact yQ0 ⟨_,_,rfl,.inl rfl,.inl rfl,IsTmsD.nil,rfl⟩
 have hpos:0<us.length:=Nat.pos_of_ne_zero λh0=>by simp[h0] at h
 simp only[go_sem,reduceCtorEq,hxs.len];intro _;refine yQm ⟨iNn _,by omega,by omega⟩ λg=>yQ9 λhg=>?_;intro _;refine LoopC.ctr us.length (λk fr st' ds=>(∃tg' ys,fr 5=.iv (.sl tg' ys)/\IsTmsD (us.take k) ys/\appT us.length tg'/\own st' tg' k 3 st/\subSt st st')/\fr 1=.iv (.fn (.func 86) [] []) /\
  fr 14=.iv (.sl tg xs)/\fr 15=.iv (.raw (.int .i64 us.length))/\fr 16=.iv (.raw (.int .i64 k))/\ds=[]) ?_ ?_ ?_
 ·simp only[go_sem,zE];exact⟨⟨_,_,rfl,IsTmsD.nil,.inr ⟨hpos,rfl,g,rfl⟩,.inr (.inr ⟨g,rfl,ISt.put_same _ _ _,hg⟩),yQa (subSt.refl _) hg⟩,rfl⟩
 ·rintro k fr st1 _ hlt ⟨⟨tg',ys,f5,hys,hap,hown,hsub⟩,f1,f14,f15,f16,rfl⟩;obtain⟨a,ha⟩:=yQ1 hlt;obtain⟨x,hkx,hx⟩:=hxs.get ha;obtain⟨h1,h2⟩:=yXd ha;have hlen2:ys.length=k:=by rw[hys.len,List.length_take];omega
  obtain⟨v2,n2,m⟩:=a;have hcall:=zVe gl v2 n2 m (IH _ _ _ (lMg ha)) x hx (by omega) st1;obtain⟨tx,cx,rfl,htx,hcx⟩:=hx.mk;simp only[go_sem,zE,zB,zA,zL,f1,f5,f14,f15,f16,lt_i hlt,yQ4 htg,iNn,hkx,fits];refine hcall.mono ?_;rintro r _ ⟨hr,rfl⟩;have hn:IsTmsD (us.take (k+1)) (ys++[r]):=by
   rw[yQ8 ha];exact hys.append (IsTmsD.one hr)
  obtain⟨t3,x3,rfl,_⟩:=IsTmD.mk hr;simp only[go_sem,zE,zA,zM,zL,fits,yQ3];refine yJh hown hlen2 hsub rfl (by simp[fits,IV.one]) (by simp only;omega) (by omega) λtg2 st4 hown2 hsub4 _ hap2=>?_;simp only[go_sem,zE,f1,f14,f15,f16,yQd hlt (show us.length<=281474976710656 by omega)];exact⟨tg2,_,rfl,hn,hap2.pos hpos,hown2,hsub4⟩
 ·rintro fr st1 _ ⟨⟨tg',ys,f5,hys,hap,hown,hsub⟩,f1,f14,f15,f16,rfl⟩;rw[lTl] at hys;simp only[go_sem,zE,f5,f15,f16,yQl (nLi _)];exact yQg (st':=st) hsub ⟨tg',ys,rfl,hown.es,hap,hys,rfl⟩
theorem yGq:∀(k:Nat)(us:List Tm),SizeOf.sizeOf us<k->sCT gl us
 | 0,f,h=>by omega
 | k+1,us,h=>zJf gl us (λv n l ha=>yGq k l (by
   have:=lSm ha;simp at this;omega))
theorem zUt (us:List Tm):sCT gl us:=yGq gl _ us (Nat.lt_succ_self _)
def sCF (f:Fm):Prop:=∀(x:IV) (_:IsFm f x) (_:f.size<=1099511627776) (st:ISt),ICall prog gl 63 [x] st (λr st'=>IsFmD f r/\st'=st)
theorem zJg (us:List Fm)(IH:∀a∈us,sCF gl a)(tg:Tag)(xs:List IV)(htg:okEs tg 4)(hxs:IsFms us xs)(hsz:yQb us<=1099511627776)(st:ISt) :
  ICall prog gl 87 [.sl tg xs,.fn (.func 63) [] []] st (λr st'=>∃tg' ys,r=.sl tg' ys/\okEs tg' 4/\appT us.length tg'/\IsFmsD us ys/\st'=st):=by
 have hlsz:=yXf us;refine iI func87 ?_;simp only[go_sem,reduceCtorEq,hxs.len];intro _;refine yZo (λh=>?_) (λh=>?_)
 ·obtain rfl:us=[]:=List.eq_nil_of_length_eq_zero (by simpa using h);simp only[go_sem];exact yQ0 ⟨_,_,rfl,.inl rfl,.inl rfl,IsFmsD.nil,rfl⟩
 have hpos:0<us.length:=Nat.pos_of_ne_zero λh0=>by simp[h0] at h
 simp only[go_sem,reduceCtorEq,hxs.len];intro _;refine yQm ⟨iNn _,by omega,by omega⟩ λg=>yQ9 λhg=>?_;intro _;refine LoopC.ctr us.length (λk fr st' ds=>(∃tg' ys,fr 5=.iv (.sl tg' ys)/\IsFmsD (us.take k) ys/\appT us.length tg'/\own st' tg' k 4 st/\subSt st st')/\fr 1=.iv (.fn (.func 63) [] []) /\
  fr 14=.iv (.sl tg xs)/\fr 15=.iv (.raw (.int .i64 us.length))/\fr 16=.iv (.raw (.int .i64 k))/\ds=[]) ?_ ?_ ?_
 ·simp only[go_sem,zE];exact⟨⟨_,_,rfl,IsFmsD.nil,.inr ⟨hpos,rfl,g,rfl⟩,.inr (.inr ⟨g,rfl,ISt.put_same _ _ _,hg⟩),yQa (subSt.refl _) hg⟩,rfl⟩
 ·rintro k fr st1 _ hlt ⟨⟨tg',ys,f5,hys,hap,hown,hsub⟩,f1,f14,f15,f16,rfl⟩;obtain⟨a,ha⟩:=yQ1 hlt;obtain⟨x,hkx,hx⟩:=hxs.get ha;obtain⟨h1,h2⟩:=yZ6 ha;have hlen2:ys.length=k:=by rw[hys.len,List.length_take];omega
  have hcall:=IH a (lMg ha) x hx (by omega) st1;obtain⟨o5,n5,t5,x5,t6,x6,rfl⟩:=hx.agg;simp only[go_sem,zE,zB,zA,zL,f1,f5,f14,f15,f16,lt_i hlt,yQ4 htg,iNn,hkx,fits];refine hcall.mono ?_;rintro r _ ⟨hr,rfl⟩;have hn:IsFmsD (us.take (k+1)) (ys++[r]):=by
   rw[yQ8 ha];exact hys.append (IsFmsD.one hr)
  obtain⟨o7,n7,t7,x7,t8,x8,rfl⟩:=IsFmD.aggs hr;simp only[go_sem,zE,zA,zM,zL,fits,yQ3];refine yJh hown hlen2 hsub rfl (by simp[fits,IV.one]) (by simp only;omega) (by omega) λtg2 st4 hown2 hsub4 _ hap2=>?_;simp only[go_sem,zE,f1,f14,f15,f16,yQd hlt (show us.length<=281474976710656 by omega)];exact⟨tg2,_,rfl,hn,hap2.pos hpos,hown2,hsub4⟩
 ·rintro fr st1 _ ⟨⟨tg',ys,f5,hys,hap,hown,hsub⟩,f1,f14,f15,f16,rfl⟩;rw[lTl] at hys;simp only[go_sem,zE,f5,f15,f16,yQl (nLi _)];exact yQg (st':=st) hsub ⟨tg',ys,rfl,hown.es,hap,hys,rfl⟩
theorem xG3 (o:Nat)(n:ByteArray)(us:List Tm)(sub:List Fm)(IH:∀a∈sub,sCF gl a):sCF gl (.mk o n us sub):=by
 intro x hx hs st;obtain⟨t1,x1,t2,x2,rfl,ho,ht1,hx1,ht2,hx2⟩:=hx.mk;simp only[Fm.size] at hs;have hc1:=zUt gl us t1 x1 ht1 hx1 (by omega) st;have hc2:=zJg gl sub IH t2 x2 ht2 hx2 (by omega) st;refine ICall.intro (c:=cf prog gl [] [(1,[0,1,2,3,4,5,7,8,6,9,10,11])]) func63 rfl (by show _<=14;simp) (by kernel_rfl) ?_;simp only[go_sem,zE,zA];refine hc1.mono ?_;rintro _ _ ⟨tg',ys,rfl,he,ha,hys,rfl⟩;simp only[go_sem,zE,zA];refine hc2.mono ?_;rintro _ _ ⟨tg2,ys2,rfl,he2,ha2,hys2,rfl⟩;simp only[go_sem,zE,zA,zL,fits];exact yQ0 ⟨IsFmD.intro ho he ha hys he2 ha2 hys2,rfl⟩
theorem zUs:∀(k:Nat)(f:Fm),SizeOf.sizeOf f<k->sCF gl f
 | 0,f,h=>by omega
 | k+1,.mk o n us sub,h=>xG3 gl o n us sub (λa ha=>zUs k a (by
   have:=lSm ha;simp only[Fm.mk.sizeOf_spec] at h;omega))
theorem yWh (f:Fm):sCF gl f:=zUs gl _ f (Nat.lt_succ_self _)
theorem vQm (us:List Fm)(tg:Tag)(xs:List IV)(htg:okEs tg 4)(hxs:IsFms us xs)(hsz:yQb us<=1099511627776)(st:ISt) :
  ICall prog gl 150 [.sl tg xs] st (λr st'=>∃tg' ys,r=.sl tg' ys/\okEs tg' 4/\(appT us.length tg'/\tg'.fresh=true)/\IsFmsD us ys/\own st' tg' us.length 4 st/\subSt st st'):=by
 have hlsz:=yXf us;refine iI func150 ?_;simp only[go_sem,reduceCtorEq,hxs.len];intro _;refine LoopC.ctr us.length (λk fr st' ds=>(∃tg' ys,fr 3=.iv (.sl tg' ys)/\IsFmsD (us.take k) ys/\(appT k tg'/\tg'.fresh=true)/\own st' tg' k 4 st/\subSt st st') /\
  fr 6=.iv (.sl tg xs)/\fr 7=.iv (.raw (.int .i64 us.length))/\fr 8=.iv (.raw (.int .i64 k))/\ds=[]) ?_ ?_ ?_
 ·simp only[go_sem,zE];exact⟨⟨_,_,rfl,IsFmsD.nil,⟨.inl rfl,rfl⟩,own.nil _ _ _ _ _,subSt.refl _⟩,rfl⟩
 ·rintro k fr st1 _ hlt ⟨⟨tg',ys,f3,hys,hap,hown,hsub⟩,f6,f7,f8,rfl⟩;obtain⟨a,ha⟩:=yQ1 hlt;obtain⟨x,hkx,hx⟩:=hxs.get ha;obtain⟨h1,h2⟩:=yZ6 ha;have hlen2:ys.length=k:=by rw[hys.len,List.length_take];omega
  have hcall:=yWh gl a x hx (by omega) st1;obtain⟨o5,n5,t5,x5,t6,x6,rfl⟩:=hx.agg;simp only[go_sem,zE,zB,zA,zL,f3,f6,f7,f8,lt_i hlt,yQ4 htg,iNn,hkx,fits];refine hcall.mono ?_;rintro r _ ⟨hr,rfl⟩;have hn:IsFmsD (us.take (k+1)) (ys++[r]):=by
   rw[yQ8 ha];exact hys.append (IsFmsD.one hr)
  obtain⟨o7,n7,t7,x7,t8,x8,rfl⟩:=IsFmD.aggs hr;simp only[go_sem,zE,zA,zM,zL,fits,yQ3];refine yJh hown hlen2 hsub rfl (by simp[fits,IV.one]) (by simp only;omega) (by omega) λtg2 st4 hown2 hsub4 _ hap2=>?_;simp only[go_sem,zE,f6,f7,f8,yQd hlt (show us.length<=281474976710656 by omega)];exact⟨tg2,_,rfl,hn,⟨hap2,by
   rcases hown2 with⟨h0,_⟩|rfl|⟨_,rfl,_⟩
   ·omega
   ·rfl
   ·rfl⟩,hown2,hsub4⟩
 ·rintro fr st1 _ ⟨⟨tg',ys,f3,hys,hap,hown,hsub⟩,f6,f7,f8,rfl⟩;rw[lTl] at hys;simp only[go_sem,zE,f3,f7,f8,yQl (nLi _)];exact yQ0 ⟨tg',ys,rfl,hown.es,hap,hys,hown,hsub⟩
end Go.Proofs.Tryz
namespace Go.Proofs.Tryz
open Go Go.Iv
mutual
def opsB (ca:Nat):Fm->Bool
 | .mk op _ us sub=>decide (1<=op)&&decide (op<=if ca=3 then 9 else 7)&&(decide (ca=3) || us.isEmpty)&&yVz ca sub
def yVz (ca:Nat):List Fm->Bool
 | []=>true
 | a::l=>opsB ca a&&yVz ca l
end
def fmB (ca:Nat)(f:Fm):Bool:=f.right&&opsB ca f
def yJ5 (ca:Nat):Bool:=decide (1<=ca)&&decide (ca<=3)
noncomputable def eqF (a b:Fm):Bool:=decide (a.op=b.op)&&zV1 a b
noncomputable def hasF (l:List Fm)(f:Fm):Bool:=l.any (eqF f)
noncomputable def allF (l m:List Fm):Bool:=l.all (hasF m)
noncomputable def yGv (a b:Sq):Bool:=allF a.l b.l&&allF a.r b.r
noncomputable def xJo:List Fm->Bool
 | []=>true
 | a::l=>(a::l).all λf=>eqF f a
noncomputable def yQv (ca:Nat)(s:Sq):Bool :=
 yJ5 ca&&decide (s.l.length<=64)&&decide (s.r.length<=64)&&s.l.all (fmB ca)&&s.r.all (fmB ca)&&(decide (ca≠2) || xJo s.r)
structure Rw where
 left:Bool
 right:Bool
 op:Nat
 asks:Nat
def rowK (rule:Nat):Option Rw :=
 if rule=1 then some ⟨true,true,0,0⟩ else if rule=2 then some ⟨true,false,2,0⟩ else if rule=3 then some ⟨true,false,3,0⟩ else if rule=4 then some ⟨false,true,3,0⟩
 else if rule=5 then some ⟨true,false,4,0⟩ else if rule=6 then some ⟨false,true,4,0⟩ else if rule=7 then some ⟨true,false,5,0⟩ else if rule=8 then some ⟨false,true,5,0⟩
 else if rule=9 then some ⟨true,false,6,0⟩ else if rule=10 then some ⟨false,true,6,0⟩ else if rule=11 then some ⟨true,false,7,0⟩ else if rule=12 then some ⟨false,true,7,0⟩
 else if rule=17 then some ⟨false,false,0,0⟩ else none
def rowS (ca rule:Nat):Option Rw :=
 if ca=2/\rule=18 then some ⟨false,true,5,0⟩
 else if ca=3/\rule=13 then some ⟨true,false,8,1⟩ else if ca=3/\rule=14 then some ⟨false,true,8,2⟩
 else if ca=3/\rule=15 then some ⟨true,false,9,2⟩ else if ca=3/\rule=16 then some ⟨false,true,9,1⟩ else rowK rule
def bE:ByteArray:=⟨#[]⟩
def impF (a b:Fm):Fm:=.mk 6 bE [] [a,b]
def addS (ca rule:Nat)(main a b:Fm):List Sq :=
 if rule=3 then [⟨[],[a]⟩] else if rule=4 then [⟨[a],[]⟩] else if rule=5 then [⟨[a,b],[]⟩] else if rule=6 then [⟨[],[a]⟩,⟨[],[b]⟩]
 else if rule=7 then [⟨[a],[]⟩,⟨[b],[]⟩] else if rule=8 then (if ca=2 then [⟨[],[a]⟩] else [⟨[],[a,b]⟩]) else if rule=9 then [⟨[],[a]⟩,⟨[b],[]⟩]
 else if rule=10 then [⟨[a],[b]⟩] else if rule=11 then [⟨[impF a b,impF b a],[]⟩] else if rule=12 then [⟨[a],[b]⟩,⟨[b],[a]⟩]
 else if rule=13 then [⟨[a],[]⟩] else if rule=14 then [⟨[],[a]⟩] else if rule=15 then [⟨[a],[]⟩] else if rule=16 then [⟨[],[a]⟩]
 else if rule=17 then [⟨[],[main]⟩,⟨[main],[]⟩] else if rule=18 then [⟨[],[b]⟩] else []
noncomputable def yK5 (ca rule:Nat)(r:Rw)(main:Fm)(term:Tm)(name:ByteArray):List Sq×Nat :=
 if !fmB ca main || (decide (r.op≠0)&&decide (main.op≠r.op)) then ([],192)
 else
  let a:=(main.subs[0]?).getD fm0
  let b:=(main.subs[1]?).getD fm0
  if r.asks=0 then (addS ca rule main a b,0)
  else
   let t:=if r.asks=2 then .mk true name [] else term
   if !t.ok then ([],193)
   else if (yV1 a [(main.nm,t)]).2≠0 then ([],193) else (addS ca rule main (yV1 a [(main.nm,t)]).1 b,0)
noncomputable def zWn (s:Sq)(n:ByteArray):Bool:=s.l.any (λf=>memB (frF f) n) || s.r.any (λf=>memB (frF f) n)
noncomputable def yVk (ca:Nat)(s:Sq)(rule:Nat)(main:Fm)(term:Tm)(name:ByteArray):List Sq×Nat :=
 if !yQv ca s then ([],190)
 else match rowS ca rule with
  | none=>([],191)
  | some r =>
   if decide ((yK5 ca rule r main term name).2=192) || (r.left&&!hasF s.l main) || (r.right&&!hasF s.r main) then ([],192)
   else if (yK5 ca rule r main term name).2≠0 then ([],(yK5 ca rule r main term name).2)
   else if decide (r.asks=2)&&zWn s name then ([],193)
   else ((yK5 ca rule r main term name).1,0)
noncomputable def yK6 (s:Sq):List Sq->List Tr->Bool
 | m::l,t::ts=>yGv t.sq (s.plus m)&&yK6 s l ts
 | _,_=>true
noncomputable def yXb (ca:Nat):Tr->Nat
 | .mk rule s main term name sub =>
  if (yVk ca s rule main term name).2≠0 then (yVk ca s rule main term name).2
  else if sub.length≠(yVk ca s rule main term name).1.length then 194
  else if yK6 s (yVk ca s rule main term name).1 sub then 0 else 195
noncomputable def yXl (ca:Nat)(t:Tr):List Nat×Nat :=
 if !yJ5 ca then ([],2) else if 300<t.steps then ([],5) else yQx (yXb ca) (t.walk [])
end Go.Proofs.Tryz
namespace Go.Iv
open Go
section
variable {P:Program}{gl:Nat->Option IV}{f:FuncId}{args args':List IV}{st:ISt}
theorem wZi {X X':WS}{g:Nat}{o:IObj}(h:Ext X X')(h0:X.st g=none)(h1:X'.st g=some o):X.w.heap.size<=g:=by
 by_cases hlt:g<X.w.heap.size
 ·have:=h.dom g hlt h0;grind
 ·omega
theorem zXb {X':WS}{S:ISt}{g:Nat}{cs:List IV}(h0:S g=none)(hst':X'.st=S.put g (some (.box cs))):LendOk X'.st (ISt.put (λ_=>none) g (some (.box cs))) S:=by
 refine⟨λb o hb=>?_,λb o hb=>?_,λb cs' hb=>?_⟩
 ·rw[ISt.put_apply] at hb;split at hb
  ·rename_i hbg;subst hbg;cases hb;rw[hst'];exact ISt.put_same ..
  ·cases hb
 ·rw[hst',ISt.put_apply];grind
 ·rw[ISt.put_apply] at hb;grind
theorem wZh {C:Cx}{X':WS}{S:ISt}{g cap es:Nat}{cs zs:List IV}(h2:Good C X')(h0:S g=none)(hst':X'.st=S.put g (some (.box cs)))(hB:C.B<=g)(hn:zs.length<=140737488355328)(hcap:zs.length<=cap)(hroom:cap*es<=cs.length)
  (htk:cs.take (zs.length*es)=zs.flatMap IV.cells) (hz:∀z∈zs,z.cells.length=es):C.v (X'.lendS (ISt.put (λ_=>none) g (some (.box cs))) S) (.slice (some ⟨g,0,none⟩) zs.length cap) (.sl ⟨true,.app g,es⟩ zs):=by
 have hgs:X'.st g=some (.box cs):=by rw[hst'];exact ISt.put_same ..
 have hex:=h2.lendS_ext (zXb h0 hst');have hs1:(ISt.put (λ_=>none) g (some (.box cs))) g=some (.box cs):=ISt.put_same ..;obtain⟨hL0,c,T,hh,hvl⟩:=h2.ok g _ hgs;have hcl:c.toList.length=cs.length:=hvl.1;have hflat:(zs.flatMap IV.cells).length=zs.length*es:=yQs zs hz;have hle:zs.length*es<=cs.length:=Nat.le_trans (Nat.mul_le_mul_right _ hcap) hroom;refine V.sl (some ⟨g,0,none⟩) cap ⟨true,.app g,es⟩ zs T (c.toList.take (zs.length*es)) rfl hn hcap hz ?_ (λg' hg'=>?_) (λ_ ad had=>?_) (λ_=>⟨_,rfl,rfl,?_,λi r hr=>?_⟩) λi r z hr hz=>?_
 ·grind
 ·cases hg';refine⟨T,c.size,?_,?_⟩
  ·simp[shq,WS.lendS,hh]
  ·grind
 ·cases had;refine⟨hB,by simp,?_⟩;simp[ety,shq,WS.lendS,hh]
 ·show 0+(c.toList.take (zs.length*es)).length<=(X'.lendS _ S).L g;rw[zG7 hs1,List.length_take];omega
 ·show X'.w.cell? _=_;rw[Nat.zero_add,yZ0 hh];grind
 ·rw[<- htk,List.getElem?_take] at hz;rw[List.getElem?_take] at hr;split at hr
  ·rename_i hi;rw[if_pos hi] at hz;exact hex.v (hvl.2 i r z hr hz)
  ·cases hr
theorem ICall.fixN {K:IV->ISt->Prop}(h:ICall P gl f args st (λy st'=>K y st'\/∃g n cap cs es zs v,st g=none/\y=.tup [.raw (.slice (some ⟨g,0,none⟩) n cap),.raw v]/\st'=st.put g (some (.box cs)) /\
   zs.length=n/\n<=140737488355328/\n<=cap/\cap*es<=cs.length/\cs.take (n*es)=zs.flatMap IV.cells/\(∀z∈zs,z.cells.length=es)/\K (.tup [.sl ⟨true,.app g,es⟩ zs,.raw v]) st)) :
  ICall P gl f args st K:=by
 intro B X rs hg hst hv;subst hst;refine (h B X rs hg rfl hv).mono ?_;rintro e w' ⟨v,rfl,X',y,rfl,h2,h3,h4,hK|⟨g,n,cap,cs,es,zs,u,h0,rfl,hst',rfl,hn,hcap,hroom,htk,hz,hK⟩⟩
 ·exact⟨v,rfl,X',y,rfl,h2,h3,h4,hK⟩
 have hgn:=wZi h3 h0 (by rw[hst'];exact ISt.put_same ..);have hk:=zXb h0 hst';refine⟨v,rfl,X'.lendS _ X.st,_,rfl,h2.lendS hk,h3.trans (h2.lendS_ext hk),?_,hK⟩;obtain⟨rr,rfl,hr⟩:=V.tup_inv h4;refine .tup rr _ (by rw[hr.1];rfl) λi r x h1 h2x=>?_
 match i,h1,h2x with
 | 1,h1,h2x =>
  cases h2x;exact (h2.lendS_ext hk).v (hr.2 1 r _ h1 rfl)
 | 0,h1,h2x =>
  cases h2x;obtain rfl:=V.raw_inv (hr.2 0 r _ h1 rfl);exact wZh h2 h0 hst' (Nat.le_trans hg.B hgn) hn hcap hroom htk hz
theorem ICall.fixL {K:IV->ISt->Prop}(h:ICall P gl f args st (λy st'=>K y st'\/∃g es zs,st g=none/\y=.raw (.slice (some ⟨g,0,none⟩) zs.length zs.length)/\st'=st.put g (some (.box (zs.flatMap IV.cells))) /\
   zs.length<=140737488355328/\(∀z∈zs,z.cells.length=es)/\K (.sl ⟨true,.app g,es⟩ zs) st)):ICall P gl f args st K:=by
 intro B X rs hg hst hv;subst hst;refine (h B X rs hg rfl hv).mono ?_;rintro e w' ⟨v,rfl,X',y,rfl,h2,h3,h4,hK|⟨g,es,zs,h0,rfl,hst',hn,hz,hK⟩⟩
 ·exact⟨v,rfl,X',y,rfl,h2,h3,h4,hK⟩
 have hgn:=wZi h3 h0 (by rw[hst'];exact ISt.put_same ..);have hk:=zXb h0 hst';have hfl:=yQs zs hz;obtain rfl:=V.raw_inv h4;exact⟨_,rfl,X'.lendS _ X.st,_,rfl,h2.lendS hk,h3.trans (h2.lendS_ext hk),wZh h2 h0 hst' (Nat.le_trans hg.B hgn) hn (Nat.le_refl _) (by rw[hfl];exact Nat.le_refl _) (by rw[<- hfl,lTl]) hz,hK⟩
end
theorem ICall.give {P:Program}{gl:Nat->Option IV}{f:FuncId}{args:List IV}{st:ISt}{K:IV->ISt->Prop}(h:ICall P gl f args st (λr st'=>∃st0,subSt st0 st'/\K r st0)):ICall P gl f args st K:=by
 intro B X rs hg hst hv;refine (h B X rs hg hst hv).mono ?_;rintro e w' ⟨v,rfl,X',x,rfl,h2,h3,h4,st0,hs,hK⟩;obtain⟨hg1,he1⟩:=h2.sub hs;exact⟨v,rfl,{ X' with st:=st0 },x,rfl,hg1,h3.trans he1,he1.v h4,hK⟩
end Go.Iv
namespace Go.Proofs.Tryz
open Go Go.Iv
set_option maxRecDepth 4000
variable (gl:Nat->Option IV)
theorem yVd (us:List Fm)(tg:Tag)(xs:List IV)(htg:okEs tg 4)(hxs:IsFms us xs)(hsz:yQb us<=1099511627776)(st:ISt) :
  ICall prog gl 150 [.sl tg xs] st (λr st'=>∃tg' ys,r=.sl tg' ys/\okEs tg' 4/\appT us.length tg'/\IsFmsD us ys/\st'=st) :=
 ICall.give ((vQm gl us tg xs htg hxs hsz st).mono λr st' h=>by
  obtain⟨tg',ys,rfl,he,ha,hys,_,hsub⟩:=h;exact⟨st,hsub,tg',ys,rfl,he,ha.1,hys,rfl⟩)
def IsSqD (s:Sq)(x:IV):Prop:=∃t1 x1 t2 x2,x=.agg [.sl t1 x1,.sl t2 x2]/\okEs t1 4/\appT s.l.length t1/\IsFmsD s.l x1/\okEs t2 4/\appT s.r.length t2/\IsFmsD s.r x2
theorem IsSqD.w {s:Sq}{x:IV}(h:IsSqD s x):IsSq s x:=by
 obtain⟨t1,x1,t2,x2,rfl,e1,_,i1,e2,_,i2⟩:=h;exact⟨_,_,_,_,rfl,e1,i1.1,e2,i2.1⟩
def IsSqsD:List Sq->List IV->Prop
 | [],xs=>xs=[]
 | a::l,xs=>∃y ys,xs=y::ys/\IsSqD a y/\IsSqsD l ys
theorem IsSqsD.w:∀ {l:List Sq}{xs:List IV},IsSqsD l xs->IsSqs l xs
 | [],_,h=>h
 | a::l,_,⟨y,ys,h1,h2,h3⟩=>⟨y,ys,h1,h2.w,h3.w⟩
theorem IsSqsD.mem:∀ {l:List Sq}{xs:List IV},IsSqsD l xs->∀ {k:Nat}{x:IV},xs[k]?=some x->∃s,l[k]?=some s/\IsSqD s x
 | [],_,rfl,k,x,h=>by simp at h
 | a::l,_,⟨y,ys,rfl,h2,h3⟩,0,x,h=>by cases h;exact⟨a,rfl,h2⟩
 | a::l,_,⟨y,ys,rfl,h2,h3⟩,k+1,x,h=>IsSqsD.mem h3 (by simpa using h)
theorem IsSqD.one {s:Sq}{x:IV}(h:IsSqD s x):x.cells.length=2/\∀c∈x.cells,c.one=true:=by
 obtain⟨t1,x1,t2,x2,rfl,_⟩:=h;refine⟨rfl,λc hc=>?_⟩;simp only[IV.cells,List.mem_cons,List.not_mem_nil,or_false] at hc;rcases hc with rfl|rfl<;>rfl
theorem yZg {l:List Sq}{xs:List IV}(h:IsSqsD l xs):∀z∈xs,z.cells.length=2:=λz hz=>by
 obtain⟨k,hk⟩:=List.mem_iff_getElem?.1 hz;obtain⟨s,_,hs⟩:=h.mem hk;exact hs.one.1
theorem IsSq.two {s:Sq}{x:IV}(h:IsSq s x):∃t xs t' ys,x=.agg [.sl t xs,.sl t' ys]:=by
 obtain⟨t,xs,t',ys,rfl,_⟩:=h;exact⟨_,_,_,_,rfl⟩
theorem zZr (us:List Fm)(tg:Tag)(xs:List IV)(htg:okEs tg 4)(hxs:IsFms us xs)(hsz:yQb us<=1099511627776)(st:ISt) :
  ICall prog gl 110 [.sl tg xs] st (λr st'=>IsSqD ⟨us,[]⟩ r/\st'=st):=by
 refine iI func110 ?_;simp only[go_sem,zA,reduceCtorEq];refine (yVd gl us tg xs htg hxs hsz _).mono ?_;rintro _ _ ⟨tg',ys,rfl,he,ha,hys,rfl⟩;simp only[go_sem,zE,zA,zL,fits];exact yQ0 ⟨⟨_,_,_,_,rfl,he,ha,hys,.inl rfl,.inl rfl,IsFmsD.nil⟩,rfl⟩
theorem yWk (us:List Fm)(tg:Tag)(xs:List IV)(htg:okEs tg 4)(hxs:IsFms us xs)(hsz:yQb us<=1099511627776)(st:ISt) :
  ICall prog gl 107 [.sl tg xs] st (λr st'=>IsSqD ⟨[],us⟩ r/\st'=st):=by
 refine iI func107 ?_;simp only[go_sem,zA,reduceCtorEq];refine (yVd gl us tg xs htg hxs hsz _).mono ?_;rintro _ _ ⟨tg',ys,rfl,he,ha,hys,rfl⟩;simp only[go_sem,zE,zA,zL,fits];exact yQ0 ⟨⟨_,_,_,_,rfl,.inl rfl,.inl rfl,IsFmsD.nil,he,ha,hys⟩,rfl⟩
theorem yZk (x y:Operand):yKv 2 [(0,x),(1,y)]=true:=rfl
theorem vKl (a b:Fm)(x y:IV)(hx:IsFm a x)(hy:IsFm b y)(st:ISt):ICall prog gl 152 [x,y] st (λr st'=>IsFm (impF a b) r/\st'=st):=by
 have h1:IsFms [a,b] [x,y]:=⟨_,_,rfl,hx,_,_,rfl,hy,rfl⟩
 obtain⟨o5,n5,t5,x5,t6,x6,rfl⟩:=hx.agg;obtain⟨o7,n7,t7,x7,t8,x8,rfl⟩:=hy.agg;refine iI func152 ?_;simp only[go_sem,zE,zA,zM,zL,fits,yZk];exact yQ0 ⟨⟨_,_,_,_,rfl,by decide,.inl rfl,rfl,.inr rfl,h1⟩,rfl⟩
def AddOk (id:Nat)(F:Fm->Fm->Fm->List Sq):Prop:=∀(m a b:Fm) (x y z:IV) (_:IsFm m x) (_:IsFm a y) (_:IsFm b z) (_:m.size<=1000000) (_:a.size<=1000000) (_:b.size<=1000000) (st:ISt),
 ICall prog gl id [x,y,z] st (λr st'=>∃tg xs,r=.sl tg xs/\okEs tg 2/\appT (F m a b).length tg/\IsSqsD (F m a b) xs/\st'=st)
theorem sq1 {s:Sq}{x:IV}(h:IsSqD s x):IsSqsD [s] [x]:=⟨_,_,rfl,h,rfl⟩
theorem sq2 {s s':Sq}{x x':IV}(h:IsSqD s x)(h':IsSqD s' x'):IsSqsD [s,s'] [x,x']:=⟨_,_,rfl,h,_,_,rfl,h',rfl⟩
theorem AddOk.of {id:Nat}{F:Fm->Fm->Fm->List Sq}(h:∀ {o1 o2 o3:Nat}{n1 n2 n3:ByteArray}{t1 u1 t2 u2 t3 u3:Tag}{x1 y1 x2 y2 x3 y3:List IV}(m a b:Fm)(_:IsFm m (.agg [.raw (.int .u8 o1),.raw (.string n1),.sl t1 x1,.sl u1 y1]))(_:IsFm a (.agg [.raw (.int .u8 o2),.raw (.string n2),.sl t2 x2,.sl u2 y2]))(_:IsFm b (.agg [.raw (.int .u8 o3),.raw (.string n3),.sl t3 x3,.sl u3 y3]))(_:m.size<=1000000)(_:a.size<=1000000)(_:b.size<=1000000)
  (_:IsFms [a] [.agg [.raw (.int .u8 o2),.raw (.string n2),.sl t2 x2,.sl u2 y2]]) (_:IsFms [b] [.agg [.raw (.int .u8 o3),.raw (.string n3),.sl t3 x3,.sl u3 y3]]) (_:IsFms [m] [.agg [.raw (.int .u8 o1),.raw (.string n1),.sl t1 x1,.sl u1 y1]]) (_:IsFms [a,b] [.agg [.raw (.int .u8 o2),.raw (.string n2),.sl t2 x2,.sl u2 y2],.agg [.raw (.int .u8 o3),.raw (.string n3),.sl t3 x3,.sl u3 y3]]) (st:ISt),
  ICall prog gl id [.agg [.raw (.int .u8 o1),.raw (.string n1),.sl t1 x1,.sl u1 y1],.agg [.raw (.int .u8 o2),.raw (.string n2),.sl t2 x2,.sl u2 y2],.agg [.raw (.int .u8 o3),.raw (.string n3),.sl t3 x3,.sl u3 y3]] st (λr st'=>∃tg xs,r=.sl tg xs/\okEs tg 2/\appT (F m a b).length tg/\IsSqsD (F m a b) xs/\st'=st)):AddOk gl id F:=by
 intro m a b x y z hx hy hz hm ha hb st;have hx0:=hx;have hy0:=hy;have hz0:=hz;obtain⟨o1,n1,t1,x1,t2,x2,rfl⟩:=hx.agg;obtain⟨o3,n3,t3,x3,t4,x4,rfl⟩:=hy.agg;obtain⟨o5,n5,t5,x5,t6,x6,rfl⟩:=hz.agg;exact h m a b hx0 hy0 hz0 hm ha hb (IsFms.one hy0) (IsFms.one hz0) (IsFms.one hx0) ⟨_,_,rfl,hy0,IsFms.one hz0⟩ st
theorem wKb:AddOk gl 140 (λ_ _ _=>[]):=by
 refine AddOk.of gl λm a b hx0 hy0 hz0 hm ha hb ia ib im iab st=>?_;refine iI func140 ?_;simp only[go_sem,zE];exact yQ0 ⟨_,_,rfl,.inl rfl,.inl rfl,rfl,rfl⟩
theorem wKa:AddOk gl 141 (λ_ _ _=>[]):=by
 refine AddOk.of gl λm a b hx0 hy0 hz0 hm ha hb ia ib im iab st=>?_;refine iI func141 ?_;simp only[go_sem,zE];exact yQ0 ⟨_,_,rfl,.inl rfl,.inl rfl,rfl,rfl⟩
theorem wK9:AddOk gl 142 (λm a b=>[⟨[],[a]⟩]):=by
 refine AddOk.of gl λm a b hx0 hy0 hz0 hm ha hb ia ib im iab st=>?_;refine ICall.fixL ?_;refine ICall.intro (c:=cf prog gl [10] []) func142 rfl (by show _<=11;simp) (by kernel_rfl) ?_;simp only[go_sem,zE,zA,zM,zL,fits,yQ3];refine (yWk gl _ _ _ (.inr rfl) ia (by simp only[yQb];omega) _).mono ?_;rintro r _ ⟨hr,rfl⟩;have h1:=sq1 hr;obtain⟨_,_,_,_,rfl⟩:=IsSq.two hr.w;simp only[go_sem,zA,zM,zL,fits,yQ3];refine λg=>yQ9 λhg=>?_;exact yQ0 (.inr ⟨g,2,_,hg,rfl,rfl,by simp,yZg h1,_,_,rfl,.inr rfl,.inr ⟨by simp,rfl,g,rfl⟩,h1⟩)
theorem wK8:AddOk gl 143 (λm a b=>[⟨[a],[]⟩]):=by
 refine AddOk.of gl λm a b hx0 hy0 hz0 hm ha hb ia ib im iab st=>?_;refine ICall.fixL ?_;refine ICall.intro (c:=cf prog gl [10] []) func143 rfl (by show _<=11;simp) (by kernel_rfl) ?_;simp only[go_sem,zE,zA,zM,zL,fits,yQ3];refine (zZr gl _ _ _ (.inr rfl) ia (by simp only[yQb];omega) _).mono ?_;rintro r _ ⟨hr,rfl⟩;have h1:=sq1 hr;obtain⟨_,_,_,_,rfl⟩:=IsSq.two hr.w;simp only[go_sem,zA,zM,zL,fits,yQ3];refine λg=>yQ9 λhg=>?_;exact yQ0 (.inr ⟨g,2,_,hg,rfl,rfl,by simp,yZg h1,_,_,rfl,.inr rfl,.inr ⟨by simp,rfl,g,rfl⟩,h1⟩)
theorem wK7:AddOk gl 144 (λm a b=>[⟨[a,b],[]⟩]):=by
 refine AddOk.of gl λm a b hx0 hy0 hz0 hm ha hb ia ib im iab st=>?_;refine ICall.fixL ?_;refine ICall.intro (c:=cf prog gl [11] []) func144 rfl (by show _<=12;simp) (by kernel_rfl) ?_;simp only[go_sem,zE,zA,zM,zL,fits,yZk];refine (zZr gl _ _ _ (.inr rfl) iab (by simp only[yQb];omega) _).mono ?_;rintro r _ ⟨hr,rfl⟩;have h1:=sq1 hr;obtain⟨_,_,_,_,rfl⟩:=IsSq.two hr.w;simp only[go_sem,zA,zM,zL,fits,yQ3];refine λg=>yQ9 λhg=>?_;exact yQ0 (.inr ⟨g,2,_,hg,rfl,rfl,by simp,yZg h1,_,_,rfl,.inr rfl,.inr ⟨by simp,rfl,g,rfl⟩,h1⟩)
theorem wK6:AddOk gl 145 (λm a b=>[⟨[],[a]⟩,⟨[],[b]⟩]):=by
 refine AddOk.of gl λm a b hx0 hy0 hz0 hm ha hb ia ib im iab st=>?_;refine ICall.fixL ?_;refine ICall.intro (c:=cf prog gl [13] [(1,[0,1,3,4,2,5,6,7])]) func145 rfl (by show _<=14;simp) (by kernel_rfl) ?_;simp only[go_sem,zE,zA,zM,zL,fits,yQ3];refine (yWk gl _ _ _ (.inr rfl) ia (by simp only[yQb];omega) _).mono ?_;rintro r _ ⟨hr,rfl⟩;have hr0:=hr;obtain⟨_,_,_,_,rfl⟩:=IsSq.two hr.w;simp only[go_sem,zE,zA];refine (yWk gl _ _ _ (.inr rfl) ib (by simp only[yQb];omega) _).mono ?_;rintro r _ ⟨hr,rfl⟩;have h1:=sq2 hr0 hr;obtain⟨_,_,_,_,rfl⟩:=IsSq.two hr.w;simp only[go_sem,zE,zA,zM,zL,fits,yZk];refine λg=>yQ9 λhg=>?_;exact yQ0 (.inr ⟨g,2,_,hg,rfl,rfl,by simp,yZg h1,_,_,rfl,.inr rfl,.inr ⟨by simp,rfl,g,rfl⟩,h1⟩)
theorem wK5:AddOk gl 146 (λm a b=>[⟨[a],[]⟩,⟨[b],[]⟩]):=by
 refine AddOk.of gl λm a b hx0 hy0 hz0 hm ha hb ia ib im iab st=>?_;refine ICall.fixL ?_;refine ICall.intro (c:=cf prog gl [13] [(1,[0,1,3,4,2,5,6,7])]) func146 rfl (by show _<=14;simp) (by kernel_rfl) ?_;simp only[go_sem,zE,zA,zM,zL,fits,yQ3];refine (zZr gl _ _ _ (.inr rfl) ia (by simp only[yQb];omega) _).mono ?_;rintro r _ ⟨hr,rfl⟩;have hr0:=hr;obtain⟨_,_,_,_,rfl⟩:=IsSq.two hr.w;simp only[go_sem,zE,zA];refine (zZr gl _ _ _ (.inr rfl) ib (by simp only[yQb];omega) _).mono ?_;rintro r _ ⟨hr,rfl⟩;have h1:=sq2 hr0 hr;obtain⟨_,_,_,_,rfl⟩:=IsSq.two hr.w;simp only[go_sem,zE,zA,zM,zL,fits,yZk];refine λg=>yQ9 λhg=>?_;exact yQ0 (.inr ⟨g,2,_,hg,rfl,rfl,by simp,yZg h1,_,_,rfl,.inr rfl,.inr ⟨by simp,rfl,g,rfl⟩,h1⟩)
theorem wK4:AddOk gl 147 (λm a b=>[⟨[],[a,b]⟩]):=by
 refine AddOk.of gl λm a b hx0 hy0 hz0 hm ha hb ia ib im iab st=>?_;refine ICall.fixL ?_;refine ICall.intro (c:=cf prog gl [11] []) func147 rfl (by show _<=12;simp) (by kernel_rfl) ?_;simp only[go_sem,zE,zA,zM,zL,fits,yZk];refine (yWk gl _ _ _ (.inr rfl) iab (by simp only[yQb];omega) _).mono ?_;rintro r _ ⟨hr,rfl⟩;have h1:=sq1 hr;obtain⟨_,_,_,_,rfl⟩:=IsSq.two hr.w;simp only[go_sem,zA,zM,zL,fits,yQ3];refine λg=>yQ9 λhg=>?_;exact yQ0 (.inr ⟨g,2,_,hg,rfl,rfl,by simp,yZg h1,_,_,rfl,.inr rfl,.inr ⟨by simp,rfl,g,rfl⟩,h1⟩)
theorem wK3:AddOk gl 148 (λm a b=>[⟨[],[a]⟩,⟨[b],[]⟩]):=by
 refine AddOk.of gl λm a b hx0 hy0 hz0 hm ha hb ia ib im iab st=>?_;refine ICall.fixL ?_;refine ICall.intro (c:=cf prog gl [13] [(1,[0,1,3,4,2,5,6,7])]) func148 rfl (by show _<=14;simp) (by kernel_rfl) ?_;simp only[go_sem,zE,zA,zM,zL,fits,yQ3];refine (yWk gl _ _ _ (.inr rfl) ia (by simp only[yQb];omega) _).mono ?_;rintro r _ ⟨hr,rfl⟩;have hr0:=hr;obtain⟨_,_,_,_,rfl⟩:=IsSq.two hr.w;simp only[go_sem,zE,zA];refine (zZr gl _ _ _ (.inr rfl) ib (by simp only[yQb];omega) _).mono ?_;rintro r _ ⟨hr,rfl⟩;have h1:=sq2 hr0 hr;obtain⟨_,_,_,_,rfl⟩:=IsSq.two hr.w;simp only[go_sem,zE,zA,zM,zL,fits,yZk];refine λg=>yQ9 λhg=>?_;exact yQ0 (.inr ⟨g,2,_,hg,rfl,rfl,by simp,yZg h1,_,_,rfl,.inr rfl,.inr ⟨by simp,rfl,g,rfl⟩,h1⟩)
theorem xK7:AddOk gl 154 (λm a b=>[⟨[],[m]⟩,⟨[m],[]⟩]):=by
 refine AddOk.of gl λm a b hx0 hy0 hz0 hm ha hb ia ib im iab st=>?_;refine ICall.fixL ?_;refine ICall.intro (c:=cf prog gl [13] [(1,[0,1,3,4,2,5,6,7])]) func154 rfl (by show _<=14;simp) (by kernel_rfl) ?_;simp only[go_sem,zE,zA,zM,zL,fits,yQ3];refine (yWk gl _ _ _ (.inr rfl) im (by simp only[yQb];omega) _).mono ?_;rintro r _ ⟨hr,rfl⟩;have hr0:=hr;obtain⟨_,_,_,_,rfl⟩:=IsSq.two hr.w;simp only[go_sem,zE,zA];refine (zZr gl _ _ _ (.inr rfl) im (by simp only[yQb];omega) _).mono ?_;rintro r _ ⟨hr,rfl⟩;have h1:=sq2 hr0 hr;obtain⟨_,_,_,_,rfl⟩:=IsSq.two hr.w;simp only[go_sem,zE,zA,zM,zL,fits,yZk];refine λg=>yQ9 λhg=>?_;exact yQ0 (.inr ⟨g,2,_,hg,rfl,rfl,by simp,yZg h1,_,_,rfl,.inr rfl,.inr ⟨by simp,rfl,g,rfl⟩,h1⟩)
theorem xK5:AddOk gl 106 (λm a b=>[⟨[],[a]⟩]):=by
 refine AddOk.of gl λm a b hx0 hy0 hz0 hm ha hb ia ib im iab st=>?_;refine ICall.fixL ?_;refine ICall.intro (c:=cf prog gl [10] []) func106 rfl (by show _<=11;simp) (by kernel_rfl) ?_;simp only[go_sem,zE,zA,zM,zL,fits,yQ3];refine (yWk gl _ _ _ (.inr rfl) ia (by simp only[yQb];omega) _).mono ?_;rintro r _ ⟨hr,rfl⟩;have h1:=sq1 hr;obtain⟨_,_,_,_,rfl⟩:=IsSq.two hr.w;simp only[go_sem,zA,zM,zL,fits,yQ3];refine λg=>yQ9 λhg=>?_;exact yQ0 (.inr ⟨g,2,_,hg,rfl,rfl,by simp,yZg h1,_,_,rfl,.inr rfl,.inr ⟨by simp,rfl,g,rfl⟩,h1⟩)
theorem xK6:AddOk gl 108 (λm a b=>[⟨[],[b]⟩]):=by
 refine AddOk.of gl λm a b hx0 hy0 hz0 hm ha hb ia ib im iab st=>?_;refine ICall.fixL ?_;refine ICall.intro (c:=cf prog gl [10] []) func108 rfl (by show _<=11;simp) (by kernel_rfl) ?_;simp only[go_sem,zE,zA,zM,zL,fits,yQ3];refine (yWk gl _ _ _ (.inr rfl) ib (by simp only[yQb];omega) _).mono ?_;rintro r _ ⟨hr,rfl⟩;have h1:=sq1 hr;obtain⟨_,_,_,_,rfl⟩:=IsSq.two hr.w;simp only[go_sem,zA,zM,zL,fits,yQ3];refine λg=>yQ9 λhg=>?_;exact yQ0 (.inr ⟨g,2,_,hg,rfl,rfl,by simp,yZg h1,_,_,rfl,.inr rfl,.inr ⟨by simp,rfl,g,rfl⟩,h1⟩)
theorem wK2:AddOk gl 109 (λm a b=>[⟨[a],[]⟩]):=by
 refine AddOk.of gl λm a b hx0 hy0 hz0 hm ha hb ia ib im iab st=>?_;refine ICall.fixL ?_;refine ICall.intro (c:=cf prog gl [10] []) func109 rfl (by show _<=11;simp) (by kernel_rfl) ?_;simp only[go_sem,zE,zA,zM,zL,fits,yQ3];refine (zZr gl _ _ _ (.inr rfl) ia (by simp only[yQb];omega) _).mono ?_;rintro r _ ⟨hr,rfl⟩;have h1:=sq1 hr;obtain⟨_,_,_,_,rfl⟩:=IsSq.two hr.w;simp only[go_sem,zA,zM,zL,fits,yQ3];refine λg=>yQ9 λhg=>?_;exact yQ0 (.inr ⟨g,2,_,hg,rfl,rfl,by simp,yZg h1,_,_,rfl,.inr rfl,.inr ⟨by simp,rfl,g,rfl⟩,h1⟩)
theorem wK1:AddOk gl 111 (λm a b=>[⟨[],[a]⟩]):=by
 refine AddOk.of gl λm a b hx0 hy0 hz0 hm ha hb ia ib im iab st=>?_;refine ICall.fixL ?_;refine ICall.intro (c:=cf prog gl [10] []) func111 rfl (by show _<=11;simp) (by kernel_rfl) ?_;simp only[go_sem,zE,zA,zM,zL,fits,yQ3];refine (yWk gl _ _ _ (.inr rfl) ia (by simp only[yQb];omega) _).mono ?_;rintro r _ ⟨hr,rfl⟩;have h1:=sq1 hr;obtain⟨_,_,_,_,rfl⟩:=IsSq.two hr.w;simp only[go_sem,zA,zM,zL,fits,yQ3];refine λg=>yQ9 λhg=>?_;exact yQ0 (.inr ⟨g,2,_,hg,rfl,rfl,by simp,yZg h1,_,_,rfl,.inr rfl,.inr ⟨by simp,rfl,g,rfl⟩,h1⟩)
theorem xKa:AddOk gl 149 (λm a b=>[⟨[a],[b]⟩]):=by
 refine AddOk.of gl λm a b hx0 hy0 hz0 hm ha hb ia ib im iab st=>?_;refine ICall.fixL ?_;refine ICall.intro (c:=cf prog gl [14] [(1,[0,1,3,4,2,5,6,7,8])]) func149 rfl (by show _<=15;simp) (by kernel_rfl) ?_;simp only[go_sem,zE,zA,zM,zL,fits,yQ3];refine (yVd gl _ _ _ (.inr rfl) ia (by simp only[yQb];omega) _).mono ?_;rintro _ _ ⟨tg1,ys1,rfl,he1,ha1,hys1,rfl⟩;simp only[go_sem,zE,zA];refine (yVd gl _ _ _ (.inr rfl) ib (by simp only[yQb];omega) _).mono ?_;rintro _ _ ⟨tg2,ys2,rfl,he2,ha2,hys2,rfl⟩;simp only[go_sem,zE,zA,zM,zL,fits,yQ3];have h1:=sq1 (s:=⟨[a],[b]⟩) ⟨_,_,_,_,rfl,he1,ha1,hys1,he2,ha2,hys2⟩;refine λg=>yQ9 λhg=>?_;exact yQ0 (.inr ⟨g,2,_,hg,rfl,rfl,by simp,yZg h1,_,_,rfl,.inr rfl,.inr ⟨by simp,rfl,g,rfl⟩,h1⟩)
theorem xK8:AddOk gl 153 (λm a b=>[⟨[a],[b]⟩,⟨[b],[a]⟩]):=by
 refine AddOk.of gl λm a b hx0 hy0 hz0 hm ha hb ia ib im iab st=>?_;refine ICall.fixL ?_;refine ICall.intro (c:=cf prog gl [21] [(1,[0,1,3,4,7,8,10,11,2,5,6,9,12,13,14,15])]) func153 rfl (by show _<=22;simp) (by kernel_rfl) ?_;simp only[go_sem,zE,zA,zM,zL,fits,yQ3];refine (yVd gl _ _ _ (.inr rfl) ia (by simp only[yQb];omega) _).mono ?_;rintro _ _ ⟨tg1,ys1,rfl,he1,ha1,hys1,rfl⟩;simp only[go_sem,zE,zA];refine (yVd gl _ _ _ (.inr rfl) ib (by simp only[yQb];omega) _).mono ?_;rintro _ _ ⟨tg2,ys2,rfl,he2,ha2,hys2,rfl⟩;simp only[go_sem,zE,zA,zL,fits];refine (yVd gl _ _ _ (.inr rfl) ib (by simp only[yQb];omega) _).mono ?_;rintro _ _ ⟨tg3,ys3,rfl,he3,ha3,hys3,rfl⟩;simp only[go_sem,zE,zA];refine (yVd gl _ _ _ (.inr rfl) ia (by simp only[yQb];omega) _).mono ?_;rintro _ _ ⟨tg4,ys4,rfl,he4,ha4,hys4,rfl⟩;simp only[go_sem,zE,zA,zM,zL,fits,yZk];have h1:=sq2 (s:=⟨[a],[b]⟩) (s':=⟨[b],[a]⟩) ⟨_,_,_,_,rfl,he1,ha1,hys1,he2,ha2,hys2⟩ ⟨_,_,_,_,rfl,he3,ha3,hys3,he4,ha4,hys4⟩;refine λg=>yQ9 λhg=>?_;exact yQ0 (.inr ⟨g,2,_,hg,rfl,rfl,by simp,yZg h1,_,_,rfl,.inr rfl,.inr ⟨by simp,rfl,g,rfl⟩,h1⟩)
theorem xK9:AddOk gl 151 (λm a b=>[⟨[impF a b,impF b a],[]⟩]):=by
 refine AddOk.of gl λm a b hx0 hy0 hz0 hm ha hb ia ib im iab st=>?_;refine ICall.fixL ?_;refine ICall.intro (c:=cf prog gl [15] [(1,[0,1,3,4,2,5,6,7,8,9])]) func151 rfl (by show _<=16;simp) (by kernel_rfl) ?_;simp only[go_sem,zE,zA,zL];refine (vKl gl a b _ _ hy0 hz0 _).mono ?_;rintro r _ ⟨hr,rfl⟩;have hr0:=hr;obtain⟨_,_,_,_,_,_,rfl⟩:=hr.agg;simp only[go_sem,zE,zA];refine (vKl gl b a _ _ hz0 hy0 _).mono ?_;rintro r _ ⟨hr,rfl⟩;have hr1:IsFms [impF a b,impF b a] [_,_]:=⟨_,_,rfl,hr0,IsFms.one hr⟩
 obtain⟨_,_,_,_,_,_,rfl⟩:=hr.agg;simp only[go_sem,zE,zA,zM,zL,fits,yZk];refine (zZr gl _ _ _ (.inr rfl) hr1 (by simp only[yQb,impF,Fm.size,yQf];omega) _).mono ?_;rintro r _ ⟨hr,rfl⟩;have h1:=sq1 hr;obtain⟨_,_,_,_,rfl⟩:=IsSq.two hr.w;simp only[go_sem,zA,zM,zL,fits,yQ3];refine λg=>yQ9 λhg=>?_;exact yQ0 (.inr ⟨g,2,_,hg,rfl,rfl,by simp,yZg h1,_,_,rfl,.inr rfl,.inr ⟨by simp,rfl,g,rfl⟩,h1⟩)
def fitL (l:List Fm):Prop:=∀f∈l,f.size<=1000000
theorem xJ6 (ca:Nat)(st:ISt):ICall prog gl 40 [.raw (.int .u8 ca)] st (λr st'=>r=.raw (.bool (yJ5 ca))/\st'=st):=by
 refine iI func40 ?_;by_cases h1:1<=ca
 ·have e1:decide (1<=(ca:Int))=true:=dEt (by omega);by_cases h2:ca<=3
  ·have e2:decide ((ca:Int)<=3)=true:=dEt (by omega);simp only[go_sem,zE,reduceCtorEq,e1,e2];exact yQ0 ⟨by simp[yJ5,h1,h2],rfl⟩
  ·have e2:decide ((ca:Int)<=3)=false:=dEf (by omega);simp only[go_sem,zE,reduceCtorEq,e1,e2];exact yQ0 ⟨by simp[yJ5,h2],rfl⟩
 ·have e1:decide (1<=(ca:Int))=false:=dEf (by omega);simp only[go_sem,zE,reduceCtorEq,e1];exact yQ0 ⟨by simp[yJ5,h1],rfl⟩
def sOp (f:Fm):Prop:=∀(ca:Nat) (x:IV) (_:IsFm f x) (st:ISt),ICall prog gl 96 [.raw (.int .u8 ca),x] st (λr st'=>r=.raw (.bool (opsB ca f))/\st'=st)
theorem yV6 (ca:Nat):∀l m:List Fm,yVz ca (l++m)=(yVz ca l&&yVz ca m)
 | [],m=>by simp[yVz]
 | a::l,m=>by simp only[List.cons_append,yVz,yV6 ca l m,Bool.and_assoc]
theorem xQ1 {ca:Nat}{l:List Fm}{a:Fm}(ha:a∈l)(h:opsB ca a=false):yVz ca l=false:=by
 obtain⟨p,q,rfl⟩:=List.append_of_mem ha;rw[yV6];simp[yVz,h]
theorem wVb (o:Nat)(n:ByteArray)(us:List Tm)(sub:List Fm)(IH:∀a∈sub,sOp gl a):sOp gl (.mk o n us sub):=by
 intro ca x hx st;obtain⟨t1,x1,t2,x2,rfl,ho,ht1,hx1,ht2,hx2⟩:=hx.mk;have loop:∀(last:Nat) (hop:(decide (1<=o)&&decide (o<=if ca=3 then 9 else 7)&&(decide (ca=3) || us.isEmpty))=true),opsB ca (.mk o n us sub)=yVz ca sub:=λ_ h=>by
  simp only[opsB,h,Bool.true_and]
 refine iI func96 ?_;by_cases h1:1<=o
 ·have e1:decide ((o:Int)<1)=false:=dEf (by omega);by_cases hca:ca=3
  ·have e3:decide ((ca:Int)=3)=true:=dEt (by omega);by_cases h2:o<=9
   ·have e2:decide ((9:Int)<(o:Int))=false:=dEf (by omega);have hl:=loop 9 (by simp[h1,h2,hca]);simp only[go_sem,zE,zA,reduceCtorEq,e1,e2,e3,hx2.len];intro _;refine LoopC.ctr sub.length (λk fr st' ds=>yVz ca (sub.take k)=true/\fr 0=.iv (.raw (.int .u8 ca))/\fr 30=.iv (.sl t2 x2)/\fr 31=.iv (.raw (.int .i64 sub.length))/\fr 32=.iv (.raw (.int .i64 k))/\st'=st/\ds=[]) ?_ ?_ ?_
    ·simp only[go_sem,zE,reduceCtorEq];simp[yVz]
    ·rintro k fr st1 _ hlt ⟨hn,f0,f30,f31,f32,rfl,rfl⟩;obtain⟨a,ha⟩:=yQ1 hlt;obtain⟨y,hky,hy⟩:=hx2.get ha;have hcall:=IH a (lMg ha) ca y hy st1;obtain⟨o5,n5,t5,x5,t6,x6,rfl⟩:=hy.agg;simp only[go_sem,zE,zB,zA,zL,reduceCtorEq,f0,f30,f31,f32,lt_i hlt,yQ4 ht2,iNn,hky,fits];refine hcall.mono ?_;rintro _ _ ⟨rfl,rfl⟩;cases hr:opsB ca a
     ·simp only[go_sem];exact yQ0 ⟨by rw[hl,xQ1 (lMg ha) hr],rfl⟩
     ·simp only[go_sem,zE,reduceCtorEq,f0,f30,f31,f32,yQd hlt (show sub.length<=281474976710656 by omega)];rw[yQ8 ha,yV6,hn];simp[yVz,hr]
    ·rintro fr st1 _ ⟨hn,f0,f30,f31,f32,rfl,rfl⟩;rw[lTl] at hn;simp only[go_sem,f31,f32,yQl (nLi _)];exact yQ0 ⟨by rw[hl,hn],rfl⟩
   ·have e2:decide ((9:Int)<(o:Int))=true:=dEt (by omega);simp only[go_sem,zE,zA,reduceCtorEq,e1,e2,e3];exact yQ0 ⟨by simp[opsB,h2,hca],rfl⟩
  ·have e3:decide ((ca:Int)=3)=false:=dEf (by omega);by_cases h2:o<=7
   ·have e2:decide ((7:Int)<(o:Int))=false:=dEf (by omega);by_cases hu:us=[]
    ·subst hu;have e4:decide ((0:Int)<((0:Nat):Int))=false:=rfl;have hl:=loop 7 (by simp[h1,h2,hca]);simp only[go_sem,zE,zA,zL,reduceCtorEq,e1,e2,e3,e4,hx1.len,hx2.len];intro _;refine LoopC.ctr sub.length (λk fr st' ds=>yVz ca (sub.take k)=true/\fr 0=.iv (.raw (.int .u8 ca))/\fr 30=.iv (.sl t2 x2)/\fr 31=.iv (.raw (.int .i64 sub.length))/\fr 32=.iv (.raw (.int .i64 k))/\st'=st/\ds=[]) ?_ ?_ ?_
     ·simp only[go_sem,zE,reduceCtorEq];simp[yVz]
     ·rintro k fr st1 _ hlt ⟨hn,f0,f30,f31,f32,rfl,rfl⟩;obtain⟨a,ha⟩:=yQ1 hlt;obtain⟨y,hky,hy⟩:=hx2.get ha;have hcall:=IH a (lMg ha) ca y hy st1;obtain⟨o5,n5,t5,x5,t6,x6,rfl⟩:=hy.agg;simp only[go_sem,zE,zB,zA,zL,reduceCtorEq,f0,f30,f31,f32,lt_i hlt,yQ4 ht2,iNn,hky,fits];refine hcall.mono ?_;rintro _ _ ⟨rfl,rfl⟩;cases hr:opsB ca a
      ·simp only[go_sem];exact yQ0 ⟨by rw[hl,xQ1 (lMg ha) hr],rfl⟩
      ·simp only[go_sem,zE,reduceCtorEq,f0,f30,f31,f32,yQd hlt (show sub.length<=281474976710656 by omega)];rw[yQ8 ha,yV6,hn];simp[yVz,hr]
     ·rintro fr st1 _ ⟨hn,f0,f30,f31,f32,rfl,rfl⟩;rw[lTl] at hn;simp only[go_sem,f31,f32,yQl (nLi _)];exact yQ0 ⟨by rw[hl,hn],rfl⟩
    ·have hpos:0<us.length:=List.length_pos_iff.2 hu;have e4:decide ((0:Int)<(us.length:Int))=true:=dEt (by omega);simp only[go_sem,zE,zA,reduceCtorEq,e1,e2,e3,e4,hx1.len];intro _;exact yQ0 ⟨by simp[opsB,hca,hu],rfl⟩
   ·have e2:decide ((7:Int)<(o:Int))=true:=dEt (by omega);simp only[go_sem,zE,zA,reduceCtorEq,e1,e2,e3];exact yQ0 ⟨by simp[opsB,hca,h2],rfl⟩
 ·have e1:decide ((o:Int)<1)=true:=dEt (by omega);by_cases hca:ca=3
  ·have e3:decide ((ca:Int)=3)=true:=dEt (by omega);simp only[go_sem,zE,zA,reduceCtorEq,e1,e3];exact yQ0 ⟨by simp[opsB,h1],rfl⟩
  ·have e3:decide ((ca:Int)=3)=false:=dEf (by omega);simp only[go_sem,zE,zA,reduceCtorEq,e1,e3];exact yQ0 ⟨by simp[opsB,h1],rfl⟩
theorem wQu:∀(k:Nat)(f:Fm),SizeOf.sizeOf f<k->sOp gl f
 | 0,f,h=>by omega
 | k+1,.mk o n us sub,h=>wVb gl o n us sub (λa ha=>wQu k a (by
   have:=lSm ha;simp only[Fm.mk.sizeOf_spec] at h;omega))
theorem xXo (f:Fm):sOp gl f:=wQu gl _ f (Nat.lt_succ_self _)
theorem zKc (G:Gl gl)(ca:Nat)(f:Fm)(x:IV)(hx:IsFm f x)(hs:f.size<=1000000)(st:ISt) :
  ICall prog gl 71 [.raw (.int .u8 ca),x] st (λr st'=>r=.raw (.bool (fmB ca f))/\st'=st):=by
 have h1:=λst=>zV7 gl G f x hx st hs;have h2:=λst=>xXo gl f ca x hx st;obtain⟨o5,n5,t5,x5,t6,x6,rfl⟩:=hx.agg;refine iI func71 ?_;simp only[go_sem,zE,zA,zL];refine (h1 _).mono ?_;rintro _ _ ⟨rfl,rfl⟩;cases hr:f.right
 ·simp only[go_sem,zE];exact yQ0 ⟨by simp[fmB,hr],rfl⟩
 ·simp only[go_sem,zE,zA,zL,reduceCtorEq];refine (h2 _).mono ?_;rintro _ _ ⟨rfl,rfl⟩;simp only[go_sem,zE];exact yQ0 ⟨by simp[fmB,hr],rfl⟩
theorem wJb (G:Gl gl)(f g:Fm)(x y:IV)(hx:IsFm f x)(hy:IsFm g y)(hs:f.size<=1000000)(hs':g.size<=1000000)(st:ISt) :
  ICall prog gl 72 [x,y] st (λr st'=>r=.raw (.bool (eqF f g))/\st'=st):=by
 have h1:=λst=>vZk gl G f g x y hx hy hs hs' st;obtain⟨o,n,us,sub⟩:=f;obtain⟨o',n',us',sub'⟩:=g;obtain⟨t1,x1,t2,x2,rfl,_⟩:=hx.mk;obtain⟨t3,x3,t4,x4,rfl,_⟩:=hy.mk;refine iI func72 ?_;by_cases ho:o=o'
 ·subst ho;simp only[go_sem,zE,zA,zL,decide_true];refine (h1 _).mono ?_;rintro _ _ ⟨rfl,rfl⟩;simp only[go_sem,zE];exact yQ0 ⟨by simp[eqF,Fm.op],rfl⟩
 ·have e:decide ((o:Int)=(o':Int))=false:=dEf (by omega);simp only[go_sem,zE,zA,e];exact yQ0 ⟨by simp[eqF,Fm.op,ho],rfl⟩
theorem xKd (g:FuncId)(caps:List IV)(he:entI prog g=true)(us:List Fm)(p:Fm->Bool)(hp:∀a∈us,∀x,IsFm a x->∀st,ICall prog gl g (x::caps) st (λr st'=>r=.raw (.bool (p a))/\st'=st))
  (tg:Tag) (xs:List IV) (htg:okEs tg 4) (hxs:IsFms us xs) (st:ISt) :
  ICall prog gl 157 [.sl tg xs,.fn (.func g) [] caps] st (λr st'=>(∃n:Int,r=.raw (.int .i64 n)/\decide (0<=n)=us.any p)/\st'=st):=by
 refine iI func157 ?_;simp only[go_sem,reduceCtorEq,hxs.len];intro _;refine LoopC.ctr us.length (λk fr st' ds=>(us.take k).any p=false/\fr 0=.iv (.sl tg xs)/\fr 1=.iv (.fn (.func g) [] caps)/\fr 7=.iv (.raw (.int .i64 us.length))/\fr 8=.iv (.raw (.int .i64 k))/\st'=st/\ds=[]) ?_ ?_ ?_
 ·simp only[go_sem,zE,reduceCtorEq];exact⟨rfl,rfl⟩
 ·rintro k fr st1 _ hlt ⟨hn,f0,f1,f7,f8,rfl,rfl⟩;obtain⟨a,ha⟩:=yQ1 hlt;obtain⟨y,hky,hy⟩:=hxs.get ha;have hcall:=hp a (lMg ha) y hy st1;obtain⟨o5,n5,t5,x5,t6,x6,rfl⟩:=hy.agg;simp only[go_sem,zE,zB,zA,reduceCtorEq,f0,f1,f7,f8,lt_i hlt,yQ4 htg,iNn,hky,fits,he];refine hcall.mono ?_;rintro _ _ ⟨rfl,rfl⟩;cases hr:p a
  ·simp only[go_sem,zE,reduceCtorEq,f0,f1,f7,f8,yQd hlt (show us.length<=281474976710656 by omega)];rw[yQ8 ha,List.any_append,hn];simp[hr]
  ·simp only[go_sem,zE];refine yQ0 ⟨⟨_,rfl,?_⟩,rfl⟩;rw[dEt (iNn k)];exact (List.any_eq_true.2 ⟨a,lMg ha,hr⟩).symm
 ·rintro fr st1 _ ⟨hn,f0,f1,f7,f8,rfl,rfl⟩;rw[lTl] at hn;simp only[go_sem,f7,f8,yQl (nLi _)];exact yQ0 ⟨⟨_,rfl,by rw[hn];rfl⟩,rfl⟩
theorem yVs (g:FuncId)(caps:List IV)(he:entI prog g=true)(us:List Fm)(p:Fm->Bool)(hp:∀a∈us,∀x,IsFm a x->∀st,ICall prog gl g (x::caps) st (λr st'=>r=.raw (.bool (p a))/\st'=st))
  (tg:Tag) (xs:List IV) (htg:okEs tg 4) (hxs:IsFms us xs) (st:ISt) :
  ICall prog gl 114 [.sl tg xs,.fn (.func g) [] caps] st (λr st'=>r=.raw (.bool (us.any p))/\st'=st):=by
 refine iI func114 ?_;simp only[go_sem,zE,zA,reduceCtorEq];refine (xKd gl g caps he us p hp tg xs htg hxs _).mono ?_;rintro _ _ ⟨⟨n,rfl,hn⟩,rfl⟩;simp only[go_sem,hn];exact yQ0 ⟨rfl,rfl⟩
theorem vYh (G:Gl gl)(f g:Fm)(x y:IV)(hx:IsFm f x)(hy:IsFm g y)(hs:f.size<=1000000)(hs':g.size<=1000000)(st:ISt) :
  ICall prog gl 115 [y,.cptr x] st (λr st'=>r=.raw (.bool (eqF f g))/\st'=st):=by
 have h1:=λst=>wJb gl G f g x y hx hy hs hs' st;obtain⟨o5,n5,t5,x5,t6,x6,rfl⟩:=hx.agg;obtain⟨o7,n7,t7,x7,t8,x8,rfl⟩:=hy.agg;refine iI func115 ?_;simp only[go_sem,zE,zA,zL,fits];refine (h1 _).mono ?_;rintro _ _ ⟨rfl,rfl⟩;simp only[go_sem];exact yQ0 ⟨rfl,rfl⟩
theorem xYj (G:Gl gl)(l:List Fm)(f:Fm)(tg:Tag)(xs:List IV)(x:IV)(htg:okEs tg 4)(hxs:IsFms l xs)(hx:IsFm f x)(hl:fitL l)(hs:f.size<=1000000)(st:ISt) :
  ICall prog gl 90 [.sl tg xs,x] st (λr st'=>r=.raw (.bool (hasF l f))/\st'=st):=by
 have h1:=λst=>yVs gl 115 [.cptr x] (by simp only[go_sem]) l (eqF f) (λa ha y hy st=>vYh gl G f a x y hx hy hs (hl a ha) st) tg xs htg hxs st;obtain⟨o5,n5,t5,x5,t6,x6,rfl⟩:=hx.agg;refine ICall.intro (c:=cf prog gl [] [] [3]) func90 rfl (by show _<=8;simp) (by kernel_rfl) ?_;simp only[go_sem,zE,zA,reduceCtorEq];refine (h1 _).mono ?_;rintro _ _ ⟨rfl,rfl⟩;simp only[go_sem];exact yQ0 ⟨rfl,rfl⟩
theorem vY7 (G:Gl gl)(l m:List Fm)(t t':Tag)(xs ys:List IV)(ht:okEs t 4)(ht':okEs t' 4)(hxs:IsFms l xs)(hys:IsFms m ys)(hl:fitL l)(hm:fitL m)(st:ISt) :
  ICall prog gl 93 [.sl t xs,.sl t' ys] st (λr st'=>r=.raw (.bool (allF l m))/\st'=st):=by
 refine iI func93 ?_;simp only[go_sem,reduceCtorEq,hxs.len];intro _;refine LoopC.ctr l.length (λk fr st' ds=>(l.take k).all (hasF m)=true/\fr 1=.iv (.sl t' ys)/\fr 7=.iv (.sl t xs)/\fr 8=.iv (.raw (.int .i64 l.length))/\fr 9=.iv (.raw (.int .i64 k))/\st'=st/\ds=[]) ?_ ?_ ?_
 ·simp only[go_sem,zE];rfl
 ·rintro k fr st1 _ hlt ⟨hn,f1,f7,f8,f9,rfl,rfl⟩;obtain⟨a,ha⟩:=yQ1 hlt;obtain⟨y,hky,hy⟩:=hxs.get ha;have hcall:=xYj gl G m a t' ys y ht' hys hy hm (hl a (lMg ha)) st1;obtain⟨o5,n5,t5,x5,t6,x6,rfl⟩:=hy.agg;simp only[go_sem,zE,zB,zA,zL,f1,f7,f8,f9,lt_i hlt,yQ4 ht,iNn,hky,fits];refine hcall.mono ?_;rintro _ _ ⟨rfl,rfl⟩;cases hr:hasF m a
  ·simp only[go_sem];refine yQ0 ⟨?_,rfl⟩;have:allF l m=false:=by
    unfold allF;rw[List.all_eq_false];exact⟨a,lMg ha,by simp[hr]⟩
   rw[this]
  ·simp only[go_sem,zE,f1,f7,f8,f9,yQd hlt (show l.length<=281474976710656 by omega)];rw[yQ8 ha,List.all_append,hn];simp[hr]
 ·rintro fr st1 _ ⟨hn,f1,f7,f8,f9,rfl,rfl⟩;rw[lTl] at hn;simp only[go_sem,f8,f9,yQl (nLi _)];exact yQ0 ⟨by rw[show allF l m=true from hn],rfl⟩
def yJm (s:Sq):Prop:=fitL s.l/\fitL s.r
theorem wY3 (G:Gl gl)(a b:Sq)(x y:IV)(hx:IsSq a x)(hy:IsSq b y)(ha:yJm a)(hb:yJm b)(st:ISt):ICall prog gl 69 [x,y] st (λr st'=>r=.raw (.bool (yGv a b))/\st'=st):=by
 obtain⟨t1,x1,t2,x2,rfl,e1,i1,e2,i2⟩:=hx;obtain⟨t3,x3,t4,x4,rfl,e3,i3,e4,i4⟩:=hy;refine iI func69 ?_;simp only[go_sem,zE,zA];refine (vY7 gl G a.l b.l t1 t3 x1 x3 e1 e3 i1 i3 ha.1 hb.1 _).mono ?_;rintro _ _ ⟨rfl,rfl⟩;cases hr:allF a.l b.l
 ·simp only[go_sem,zE];exact yQ0 ⟨by simp[yGv,hr],rfl⟩
 ·simp only[go_sem,zE,zA];refine (vY7 gl G a.r b.r t2 t4 x2 x4 e2 e4 i2 i4 ha.2 hb.2 _).mono ?_;rintro _ _ ⟨rfl,rfl⟩;simp only[go_sem,zE];exact yQ0 ⟨by simp[yGv,hr],rfl⟩
theorem yGd (a b:Int)(v:IV):∀es:List (Value×IV),yXy (.int .u8 a) (updI (.int .u8 b) v es)=if a=b then some v else yXy (.int .u8 a) es
 | []=>by
  simp only[updI,yXy,yKt];by_cases h:a=b<;>simp[h]
 | (x,u)::es=>by
  simp only[updI];by_cases hk:yKt (.int .u8 b) x=true
  ·rw[if_pos hk];have hx:∀c,yKt (.int .u8 c) x=decide (c=b):=λc=>by
    cases x<;>simp[yKt] at hk ⊢;rw[hk]
   have e:yKt (.int .u8 a) (.int .u8 b)=decide (a=b):=rfl;simp only[yXy,e,hx];by_cases h:a=b<;>simp[h]
  ·rw[if_neg hk];simp only[yXy];rw[yGd a b v es];by_cases h:a=b
   ·subst h;simp[hk]
   ·simp[h]
def zVo (ca rule:Nat):Nat :=
 if ca=2/\rule=18 then 108 else if ca=2/\rule=8 then 106
 else if rule=13\/rule=15 then 109 else if rule=14\/rule=16 then 111
 else if rule=1 then 140 else if rule=2 then 141 else if rule=3 then 142 else if rule=4 then 143
 else if rule=5 then 144 else if rule=6 then 145 else if rule=7 then 146 else if rule=8 then 147
 else if rule=9 then 148 else if rule=10 then 149 else if rule=11 then 151 else if rule=12 then 153
 else 154
def rwI (ca rule:Nat)(r:Rw):IV:=.agg [.raw (.bool r.left),.raw (.bool r.right),.raw (.int .u8 r.op),.raw (.int .u8 r.asks),.fn (.func (zVo ca rule)) [] []]
def rwL (a b:Bool)(op asks id:Nat):IV:=.agg [.raw (.bool a),.raw (.bool b),.raw (.int .u8 op),.raw (.int .u8 asks),.fn (.func id) [] []]
def zW4:List (Value×IV) :=
 updI (.int .u8 17) (rwL false false 0 0 154) <| updI (.int .u8 12) (rwL false true 7 0 153) <| updI (.int .u8 11) (rwL true false 7 0 151) <|
 updI (.int .u8 10) (rwL false true 6 0 149) <| updI (.int .u8 9) (rwL true false 6 0 148) <| updI (.int .u8 8) (rwL false true 5 0 147) <|
 updI (.int .u8 7) (rwL true false 5 0 146) <| updI (.int .u8 6) (rwL false true 4 0 145) <| updI (.int .u8 5) (rwL true false 4 0 144) <|
 updI (.int .u8 4) (rwL false true 3 0 143) <| updI (.int .u8 3) (rwL true false 3 0 142) <| updI (.int .u8 2) (rwL true false 2 0 141) <|
 updI (.int .u8 1) (rwL true true 0 0 140) []
def yUw (ca:Nat):List (Value×IV) :=
 if ca=2 then updI (.int .u8 18) (rwL false true 5 0 108) <| updI (.int .u8 8) (rwL false true 5 0 106) zW4
 else if ca=3 then updI (.int .u8 16) (rwL false true 9 1 111) <| updI (.int .u8 15) (rwL true false 9 2 109) <| updI (.int .u8 14) (rwL false true 8 2 111) <|
  updI (.int .u8 13) (rwL true false 8 1 109) zW4
 else zW4
theorem wUn (st:ISt):ICall prog gl 105 [] st (λr st'=>∃b,st b=none/\r=.raw (.map (some b))/\st'=st.put b (some (.map (.int .u8) zW4))):=by
 refine iI func105 ?_;simp only[go_sem,zE,zA,zL,fits];refine λb=>yQ9 λhb=>?_;simp only[go_sem,yQ6];exact yQ0 ⟨b,hb,rfl,rfl⟩
theorem wQv (ca:Nat)(st:ISt):ICall prog gl 88 [.raw (.int .u8 ca)] st (λr st'=>∃b,st b=none/\r=.raw (.map (some b))/\st'=st.put b (some (.map (.int .u8) (yUw ca)))):=by
 refine iI func88 ?_;simp only[go_sem,zA];refine (wUn gl _).mono ?_;rintro _ _ ⟨b,hb,rfl,rfl⟩;by_cases h2:ca=2
 ·have e2:decide ((ca:Int)=2)=true:=dEt (by omega);simp only[go_sem,zE,zA,zL,reduceCtorEq,e2,fits,ISt.put_same,yQ6];exact yQ0 ⟨b,hb,rfl,by rw[yUw,if_pos h2];rfl⟩
 ·have e2:decide ((ca:Int)=2)=false:=dEf (by omega);by_cases h3:ca=3
  ·have e3:decide ((ca:Int)=3)=true:=dEt (by omega);simp only[go_sem,zE,zA,zL,reduceCtorEq,e2,e3,fits,ISt.put_same,yQ6];exact yQ0 ⟨b,hb,rfl,by rw[yUw,if_neg h2,if_pos h3];rfl⟩
  ·have e3:decide ((ca:Int)=3)=false:=dEf (by omega);simp only[go_sem,zE,reduceCtorEq,e2,e3];exact yQ0 ⟨b,hb,rfl,by rw[yUw,if_neg h2,if_neg h3]⟩
theorem xXm (rule:Nat):yXy (.int .u8 rule) zW4=(rowK rule).map λr=>.agg [.raw (.bool r.left),.raw (.bool r.right),.raw (.int .u8 r.op),.raw (.int .u8 r.asks),.fn (.func (zVo 1 rule)) [] []]:=by
 unfold zW4;simp only[yGd];by_cases h:rule<=18
 ·rcases (show rule=0\/rule=1\/rule=2\/rule=3\/rule=4\/rule=5\/rule=6\/rule=7\/rule=8\/rule=9\/rule=10\/rule=11\/rule=12\/rule=13\/rule=14\/rule=15\/rule=16\/rule=17\/rule=18 by omega) with
   rfl|rfl|rfl|rfl|rfl|rfl|rfl|rfl|rfl|rfl|rfl|rfl|rfl|rfl|rfl|rfl|rfl|rfl|rfl<;>rfl
 ·have hn:rowK rule=none:=by unfold rowK;repeat (rw[if_neg (by omega)])
  rw[hn]
  repeat (rw[if_neg (by omega)])
  rfl
theorem yWi (ca rule:Nat):yXy (.int .u8 rule) (yUw ca)=(rowS ca rule).map (rwI ca rule):=by
 have hp:=xXm rule;by_cases h:rule<=18
 ·have hr:rule=0\/rule=1\/rule=2\/rule=3\/rule=4\/rule=5\/rule=6\/rule=7\/rule=8\/rule=9\/rule=10\/rule=11\/rule=12\/rule=13\/rule=14\/rule=15\/rule=16\/rule=17\/rule=18:=by omega
  by_cases h2:ca=2
  ·subst h2;simp only[yUw,if_true,yGd,hp];rcases hr with rfl|rfl|rfl|rfl|rfl|rfl|rfl|rfl|rfl|rfl|rfl|rfl|rfl|rfl|rfl|rfl|rfl|rfl|rfl<;>rfl
  ·by_cases h3:ca=3
   ·subst h3;simp only[yUw,if_true,if_neg h2,yGd,hp];rcases hr with rfl|rfl|rfl|rfl|rfl|rfl|rfl|rfl|rfl|rfl|rfl|rfl|rfl|rfl|rfl|rfl|rfl|rfl|rfl<;>rfl
   ·have hk:rowS ca rule=rowK rule:=by
     unfold rowS;rw[if_neg (by omega),if_neg (by omega),if_neg (by omega),if_neg (by omega),if_neg (by omega)]
    have hi:∀r,rowK rule=some r->zVo 1 rule=zVo ca rule:=λ_ _=>by
     unfold zVo;rw[if_neg (by omega),if_neg (by omega)]
     conv=>rhs;rw[if_neg (by omega),if_neg (by omega)]
    simp only[yUw,if_neg h2,if_neg h3,hp,hk];cases hq:rowK rule with
    | none=>rfl
    | some r=>simp only[Option.map_some,rwI,hi r hq]
 ·have hn:rowS ca rule=none:=by
   unfold rowS;rw[if_neg (by omega),if_neg (by omega),if_neg (by omega),if_neg (by omega),if_neg (by omega)];unfold rowK;repeat (rw[if_neg (by omega)])
  have hk:rowK rule=none:=by unfold rowK;repeat (rw[if_neg (by omega)])
  rw[hk] at hp;rw[hn];unfold yUw;split
  ·simp only[yGd,hp];repeat (rw[if_neg (by omega)])
   rfl
  ·split
   ·simp only[yGd,hp];repeat (rw[if_neg (by omega)])
    rfl
   ·rw[hp];rfl
theorem wY2 {ca rule:Nat}{r:Rw}(h:rowS ca rule=some r):AddOk gl (zVo ca rule) (addS ca rule)/\entI prog (zVo ca rule)=true:=by
 have hr:rule<=18:=by
  refine Classical.byContradiction λhc=>?_;have hn:rowS ca rule=none:=by
   unfold rowS;rw[if_neg (by omega),if_neg (by omega),if_neg (by omega),if_neg (by omega),if_neg (by omega)];unfold rowK;repeat (rw[if_neg (by omega)])
  rw[hn] at h;cases h
 have hcas:rule=0\/rule=1\/rule=2\/rule=3\/rule=4\/rule=5\/rule=6\/rule=7\/rule=8\/rule=9\/rule=10\/rule=11\/rule=12\/rule=13\/rule=14\/rule=15\/rule=16\/rule=17\/rule=18:=by omega
 by_cases h2:ca=2
 ·subst h2;rcases hcas with rfl|rfl|rfl|rfl|rfl|rfl|rfl|rfl|rfl|rfl|rfl|rfl|rfl|rfl|rfl|rfl|rfl|rfl|rfl
  all_goals first|(cases h;done)|exact⟨wKb gl,by kernel_rfl⟩|exact⟨wKa gl,by kernel_rfl⟩|exact⟨wK9 gl,by kernel_rfl⟩|exact⟨wK8 gl,by kernel_rfl⟩|exact⟨wK7 gl,by kernel_rfl⟩|exact⟨wK6 gl,by kernel_rfl⟩|exact⟨wK5 gl,by kernel_rfl⟩|exact⟨wK4 gl,by kernel_rfl⟩|exact⟨xK5 gl,by kernel_rfl⟩|exact⟨wK3 gl,by kernel_rfl⟩|exact⟨xKa gl,by kernel_rfl⟩|exact⟨xK9 gl,by kernel_rfl⟩|exact⟨xK8 gl,by kernel_rfl⟩|exact⟨xK7 gl,by kernel_rfl⟩|exact⟨xK6 gl,by kernel_rfl⟩|exact⟨wK2 gl,by kernel_rfl⟩|exact⟨wK1 gl,by kernel_rfl⟩
 ·by_cases h3:ca=3
  ·subst h3;rcases hcas with rfl|rfl|rfl|rfl|rfl|rfl|rfl|rfl|rfl|rfl|rfl|rfl|rfl|rfl|rfl|rfl|rfl|rfl|rfl
   all_goals first|(cases h;done)|exact⟨wKb gl,by kernel_rfl⟩|exact⟨wKa gl,by kernel_rfl⟩|exact⟨wK9 gl,by kernel_rfl⟩|exact⟨wK8 gl,by kernel_rfl⟩|exact⟨wK7 gl,by kernel_rfl⟩|exact⟨wK6 gl,by kernel_rfl⟩|exact⟨wK5 gl,by kernel_rfl⟩|exact⟨wK4 gl,by kernel_rfl⟩|exact⟨xK5 gl,by kernel_rfl⟩|exact⟨wK3 gl,by kernel_rfl⟩|exact⟨xKa gl,by kernel_rfl⟩|exact⟨xK9 gl,by kernel_rfl⟩|exact⟨xK8 gl,by kernel_rfl⟩|exact⟨xK7 gl,by kernel_rfl⟩|exact⟨xK6 gl,by kernel_rfl⟩|exact⟨wK2 gl,by kernel_rfl⟩|exact⟨wK1 gl,by kernel_rfl⟩
  ·have hk:rowS ca rule=rowS 1 rule:=by
    unfold rowS;rw[if_neg (by omega),if_neg (by omega),if_neg (by omega),if_neg (by omega),if_neg (by omega)]
    conv=>rhs;rw[if_neg (by omega),if_neg (by omega),if_neg (by omega),if_neg (by omega),if_neg (by omega)]
   have hi:zVo ca rule=zVo 1 rule:=by
    unfold zVo;rw[if_neg (by omega),if_neg (by omega)]
    conv=>rhs;rw[if_neg (by omega),if_neg (by omega)]
   have hs:addS ca rule=addS 1 rule:=by
    funext m a b;unfold addS;rw[if_neg h2,if_neg (show ¬ (1:Nat)=2 by decide)]
   rw[hk] at h;rw[hi,hs];rcases hcas with rfl|rfl|rfl|rfl|rfl|rfl|rfl|rfl|rfl|rfl|rfl|rfl|rfl|rfl|rfl|rfl|rfl|rfl|rfl
   all_goals first|(cases h;done)|exact⟨wKb gl,by kernel_rfl⟩|exact⟨wKa gl,by kernel_rfl⟩|exact⟨wK9 gl,by kernel_rfl⟩|exact⟨wK8 gl,by kernel_rfl⟩|exact⟨wK7 gl,by kernel_rfl⟩|exact⟨wK6 gl,by kernel_rfl⟩|exact⟨wK5 gl,by kernel_rfl⟩|exact⟨wK4 gl,by kernel_rfl⟩|exact⟨xK5 gl,by kernel_rfl⟩|exact⟨wK3 gl,by kernel_rfl⟩|exact⟨xKa gl,by kernel_rfl⟩|exact⟨xK9 gl,by kernel_rfl⟩|exact⟨xK8 gl,by kernel_rfl⟩|exact⟨xK7 gl,by kernel_rfl⟩|exact⟨xK6 gl,by kernel_rfl⟩|exact⟨wK2 gl,by kernel_rfl⟩|exact⟨wK1 gl,by kernel_rfl⟩
noncomputable def rB (ca:Nat)(a0 f:Fm):Bool:=fmB ca f&&(decide (ca≠2) || eqF f a0)
theorem wYo (ca:Nat)(a0:Fm):∀l:List Fm,l.all (rB ca a0)=(l.all (fmB ca)&&(decide (ca≠2) || l.all λf=>eqF f a0))
 | []=>by simp
 | f::l=>by
  simp only[List.all_cons,wYo ca a0 l,rB];cases fmB ca f<;>cases l.all (fmB ca)<;>cases decide (ca≠2)<;>simp
theorem xUy (ca:Nat)(s:Sq):yQv ca s=(yJ5 ca&&decide (s.l.length<=64)&&decide (s.r.length<=64)&&s.l.all (fmB ca)&&s.r.all (rB ca (s.r.headD fm0))):=by
 rw[wYo];unfold yQv xJo;cases s.r with
 | nil=>simp
 | cons a l=>simp only[List.headD_cons,Bool.and_assoc]
theorem xKb (G:Gl gl)(ca:Nat)(s:Sq)(x:IV)(hx:IsSq s x)(hs:yJm s)(st:ISt):ICall prog gl 52 [.raw (.int .u8 ca),x] st (λr st'=>r=.raw (.bool (yQv ca s))/\st'=st):=by
 obtain⟨l,r⟩:=s;obtain⟨t1,x1,t2,x2,rfl,e1,i1,e2,i2⟩:=hx;obtain⟨hl,hr⟩:=hs;simp only at i1 i2 hl hr;rw[xUy];simp only;refine iI func52 ?_;simp only[go_sem,zA,reduceCtorEq];refine (xJ6 gl ca _).mono ?_;rintro _ st ⟨rfl,rfl⟩;cases hk:yJ5 ca
 ·simp only[go_sem,zE];exact yQ0 ⟨by simp,rfl⟩
 by_cases h1:l.length<=64
 case neg =>
  have e:decide ((64:Int)<(l.length:Int))=true:=dEt (by omega);simp only[go_sem,zE,i1.len,e];intro _;exact yQ0 ⟨by simp[h1],rfl⟩
 by_cases h2:r.length<=64
 case neg =>
  have e:decide ((64:Int)<(l.length:Int))=false:=dEf (by omega);have e':decide ((64:Int)<(r.length:Int))=true:=dEt (by omega);simp only[go_sem,zE,i1.len,i2.len,e,e'];intro _ _;exact yQ0 ⟨by simp[h2],rfl⟩
 have e:decide ((64:Int)<(l.length:Int))=false:=dEf (by omega);have e':decide ((64:Int)<(r.length:Int))=false:=dEf (by omega);simp only[go_sem,zE,i1.len,i2.len,e,e'];intros;refine LoopC.ctr l.length (λk fr st' ds=>(l.take k).all (fmB ca)=true/\fr 0=.iv (.raw (.int .u8 ca))/\fr 3=.box [.sl t1 x1,.sl t2 x2]/\fr 25=.iv (.sl t1 x1)/\fr 26=.iv (.raw (.int .i64 l.length))/\fr 27=.iv (.raw (.int .i64 k))/\st'=st/\ds=[]) ?_ ?_ ?_
 ·simp only[go_sem,zE,reduceCtorEq]
  first|rfl|exact⟨rfl,rfl⟩
 ·rintro k fr st1 _ hlt ⟨hn,f0,f3,f25,f26,f27,rfl,rfl⟩;obtain⟨a,ha⟩:=yQ1 hlt;obtain⟨y,hky,hy⟩:=i1.get ha;have hcall:=zKc gl G ca a y hy (hl a (lMg ha)) st1;obtain⟨o5,n5,t5,x5,t6,x6,rfl⟩:=hy.agg;simp only[go_sem,zE,zB,zA,zL,reduceCtorEq,f0,f25,f26,f27,lt_i hlt,yQ4 e1,iNn,hky,fits];refine hcall.mono ?_;rintro _ _ ⟨rfl,rfl⟩;cases hr:fmB ca a
  ·simp only[go_sem];refine yQ0 ⟨?_,rfl⟩;have:l.all (fmB ca)=false:=List.all_eq_false.2 ⟨a,lMg ha,by simp[hr]⟩;simp[this]
  ·simp only[go_sem,zE,reduceCtorEq,f0,f3,f25,f26,f27,yQd hlt (show l.length<=281474976710656 by omega)];rw[yQ8 ha,List.all_append,hn];simp[hr]
 ·rintro fr st1 _ ⟨hn,f0,f3,f25,f26,f27,rfl,rfl⟩;rw[lTl] at hn;simp only[go_sem,zE,f3,f26,f27,i2.len,yQl (nLi _)];intro _;refine LoopC.ctr r.length (λk fr st' ds=>(r.take k).all (rB ca (r.headD fm0))=true/\fr 0=.iv (.raw (.int .u8 ca))/\fr 3=.box [.sl t1 x1,.sl t2 x2]/\fr 37=.iv (.sl t2 x2)/\fr 38=.iv (.raw (.int .i64 r.length))/\fr 39=.iv (.raw (.int .i64 k))/\st'=st1/\ds=[]) ?_ ?_ ?_
  ·simp only[go_sem,zE,reduceCtorEq,f0,f3]
   first|rfl|exact⟨rfl,rfl⟩
  ·rintro k fr st2 _ hlt ⟨hm,f0,f3,f37,f38,f39,rfl,rfl⟩;obtain⟨a,ha⟩:=yQ1 hlt;obtain⟨y,hky,hy⟩:=i2.get ha;obtain⟨a0,ha0⟩:=yQ1 (show 0<r.length by omega);obtain⟨y0,hky0,hy0⟩:=i2.get ha0;have hd0:r.headD fm0=a0:=by cases r with|nil=>cases ha0|cons b r=>simpa using ha0
   have hcall:=zKc gl G ca a y hy (hr a (lMg ha)) st2;have heq:=λst=>wJb gl G a a0 y y0 hy hy0 (hr a (lMg ha)) (hr a0 (lMg ha0)) st;rw[hd0] at hm ⊢;have hout:rB ca a0 a=false->r.all (rB ca a0)=false:=λhb=>List.all_eq_false.2 ⟨a,lMg ha,by simp[hb]⟩;have hin:rB ca a0 a=true->(r.take (k+1)).all (rB ca a0)=true:=λhb=>by
    rw[yQ8 ha,List.all_append,hm];simp[hb]
   obtain⟨o5,n5,t5,x5,t6,x6,rfl⟩:=hy.agg;obtain⟨o7,n7,t7,x7,t8,x8,rfl⟩:=hy0.agg;simp only[go_sem,zE,zB,zA,zL,reduceCtorEq,f0,f37,f38,f39,lt_i hlt,yQ4 e2,iNn,hky,fits];refine hcall.mono ?_;rintro _ _ ⟨rfl,rfl⟩;cases hr:fmB ca a
   ·simp only[go_sem,zE];exact yQ0 ⟨by rw[hout (by simp[rB,hr])];simp,rfl⟩
   by_cases hj:ca=2
   ·have ej:decide ((ca:Int)=2)=true:=dEt (by omega);simp only[go_sem,zE,zB,zA,zL,reduceCtorEq,ej,f0,f3,yQ4 e2,hky0,fits,Int.le_refl,Int.toNat_zero];refine (heq _).mono ?_;rintro _ _ ⟨rfl,rfl⟩;cases hq:eqF a a0
    ·simp only[go_sem,zE];exact yQ0 ⟨by rw[hout (by simp[rB,hj,hq])];simp,rfl⟩
    ·simp only[go_sem,zE,reduceCtorEq,f0,f3,f37,f38,f39,yQd hlt (show r.length<=281474976710656 by omega)];exact hin (by simp[rB,hr,hq])
   ·have ej:decide ((ca:Int)=2)=false:=dEf (by omega);simp only[go_sem,zE,reduceCtorEq,ej,f0,f3,f37,f38,f39,yQd hlt (show r.length<=281474976710656 by omega)];exact hin (by simp[rB,hr,hj])
  ·rintro fr st2 _ ⟨hm,f0,f3,f37,f38,f39,rfl,rfl⟩;rw[lTl] at hm;simp only[go_sem,f38,f39,yQl (nLi _)];exact yQ0 ⟨by rw[hn,hm];simp[h1,h2],rfl⟩
theorem xUk (tg:Tag)(htg:okEs tg 1)(l:List ByteArray)(s:ByteArray)(st:ISt):ICall prog gl 117 [.sl tg (strI l),.raw (.string s)] st (λr st'=>r=.raw (.bool (memB l s))/\st'=st):=by
 have hidx:ICall prog gl 158 [.sl tg (strI l),.raw (.string s)] st (λr st'=>(∃n:Int,r=.raw (.int .i64 n)/\decide (0<=n)=memB l s)/\st'=st):=by
  refine iI func158 ?_;simp only[go_sem,reduceCtorEq,xZy];intro _;refine LoopC.ctr l.length (λk fr st' ds=>memB (l.take k) s=false/\fr 0=.iv (.sl tg (strI l))/\fr 1=.iv (.raw (.string s))/\fr 7=.iv (.raw (.int .i64 l.length))/\fr 8=.iv (.raw (.int .i64 k))/\st'=st/\ds=[]) ?_ ?_ ?_
  ·simp only[go_sem,zE,reduceCtorEq];exact⟨rfl,rfl⟩
  ·rintro k fr st1 _ hlt ⟨hn,f0,f1,f7,f8,rfl,rfl⟩;obtain⟨a,ha⟩:=yQ1 hlt;by_cases hr:s=a
   ·subst hr;simp only[go_sem,zE,reduceCtorEq,f0,f1,f7,f8,lt_i hlt,yQ4 htg,iNn,xKu ha,fits,decide_true];refine yQ0 ⟨⟨_,rfl,?_⟩,rfl⟩;rw[dEt (iNn k)];exact (yJ0.2 (lMg ha)).symm
   ·simp only[go_sem,zE,reduceCtorEq,f0,f1,f7,f8,lt_i hlt,yQ4 htg,iNn,xKu ha,fits,dEf hr,yQd hlt (show l.length<=281474976710656 by omega)];rw[zXe] at hn ⊢;rw[yQ8 ha,List.mem_append,List.mem_singleton];rintro (h|h)
    ·exact hn h
    ·exact hr h
  ·rintro fr st1 _ ⟨hn,f0,f1,f7,f8,rfl,rfl⟩;rw[lTl] at hn;simp only[go_sem,f7,f8,yQl (nLi _)];exact yQ0 ⟨⟨_,rfl,by rw[hn];rfl⟩,rfl⟩
 refine iI func117 ?_;simp only[go_sem,zE,zA,reduceCtorEq];refine hidx.mono ?_;rintro _ _ ⟨⟨n,rfl,hn⟩,rfl⟩;simp only[go_sem,hn];exact yQ0 ⟨rfl,rfl⟩
theorem wXt (T:Gt gl)(f:Fm)(y:IV)(hy:IsFm f y)(hs:f.size<=1000000)(hf:f.right=true)(s:ByteArray)(st:ISt) :
  ICall prog gl 116 [y,.cptr (.raw (.string s))] st (λr st'=>r=.raw (.bool (memB (frF f) s))/\st'=st):=by
 have h1:=λst=>vYj gl T f y hy (by omega) (λq hq=>by have:=wUu (wG7 f (yWj hf).1 q hq);omega) st;obtain⟨o5,n5,t5,x5,t6,x6,rfl⟩:=hy.agg;refine ICall.intro (c:=cf prog gl [] [(1,[0,2,1,3,4])]) func116 rfl (by show _<=8;simp) (by kernel_rfl) ?_;simp only[go_sem,zE,zA,zL,fits];refine (h1 _).mono ?_;rintro _ _ ⟨tg,l,rfl,htg,hl,rfl⟩;simp only[go_sem,zE,zA];refine (xUk gl tg htg l s _).mono ?_;rintro _ _ ⟨rfl,rfl⟩;simp only[go_sem];refine yQ0 ⟨?_,rfl⟩;have:memB l s=memB (frF f) s:=by
  rw[Bool.eq_iff_iff,yJ0,yJ0];exact hl.2 s
 rw[this]
theorem vKx (T:Gt gl)(s:Sq)(x:IV)(hx:IsSq s x)(hs:yJm s)(hr:(∀f∈s.l,f.right=true)/\∀f∈s.r,f.right=true)(n:ByteArray)(st:ISt) :
  ICall prog gl 91 [x,.raw (.string n)] st (λr st'=>r=.raw (.bool (zWn s n))/\st'=st):=by
 obtain⟨t1,x1,t2,x2,rfl,e1,i1,e2,i2⟩:=hx;have h1:=λst=>yVs gl 116 [.cptr (.raw (.string n))] (by simp only[go_sem]) s.l (λf=>memB (frF f) n) (λa ha y hy st=>wXt gl T a y hy (hs.1 a ha) (hr.1 a ha) n st) t1 x1 e1 i1 st;have h2:=λst=>yVs gl 116 [.cptr (.raw (.string n))] (by simp only[go_sem]) s.r (λf=>memB (frF f) n) (λa ha y hy st=>wXt gl T a y hy (hs.2 a ha) (hr.2 a ha) n st) t2 x2 e2 i2 st;refine ICall.intro (c:=cf prog gl [] [] [3]) func91 rfl (by show _<=17;simp) (by kernel_rfl) ?_;simp only[go_sem,zE,zA];refine (h1 _).mono ?_;rintro _ _ ⟨rfl,rfl⟩;cases hq:s.l.any λf=>memB (frF f) n
 ·simp only[go_sem,zE,zA];refine (h2 _).mono ?_;rintro _ _ ⟨rfl,rfl⟩;simp only[go_sem,zE];exact yQ0 ⟨by simp[zWn,hq],rfl⟩
 ·simp only[go_sem,zE];exact yQ0 ⟨by simp[zWn,hq],rfl⟩
theorem zW2 (f:Fm)(l:Sb):(yV1 f l).1.size<=400:=by
 unfold yV1;split
 ·split
  ·rename_i h;simp only[bAt,dTe] at h;exact h.1
  ·show fm0.size<=400;decide
 ·show fm0.size<=400;decide
theorem xGy:IsFm fm0 (.agg [.raw (.int .u8 0),.raw (.string ⟨#[]⟩),.sl ⟨true,.nil,0⟩ [],.sl ⟨true,.nil,0⟩ []]):=vV5 _ _ (.inl rfl) (.inl rfl)
theorem xKt {sub:List Fm}{xs:List IV}(h:IsFms sub xs)(k:Nat):∃y,IsFm ((sub[k]?).getD fm0) y/\(sub.length<=k->y=.agg [.raw (.int .u8 0),.raw (.string ⟨#[]⟩),.sl ⟨true,.nil,0⟩ [],.sl ⟨true,.nil,0⟩ []])/\(k<sub.length->xs[k]?=some y):=by
 by_cases hk:k<sub.length
 ·obtain⟨a,ha⟩:=yQ1 hk;obtain⟨y,hy,hf⟩:=h.get ha;exact⟨y,by rw[ha];exact hf,λhc=>by omega,λ_=>hy⟩
 ·exact⟨_,by rw[List.getElem?_eq_none (by omega)];exact xGy,λ_=>rfl,λhc=>absurd hc hk⟩
def AdR (st:ISt)(q:List Sq×Nat)(r:IV)(st':ISt):Prop:=∃tg xs,r=.tup [.sl tg xs,.raw (.int .i64 q.2)]/\okEs tg 2/\IsSqs q.1 xs/\st'=st
def AdRD (st:ISt)(q:List Sq×Nat)(r:IV)(st':ISt):Prop:=∃tg xs,r=.tup [.sl tg xs,.raw (.int .i64 q.2)]/\okEs tg 2/\appT q.1.length tg/\IsSqsD q.1 xs/\st'=st
theorem AdRD.w {st:ISt}{q:List Sq×Nat}(r:IV)(st':ISt):AdRD st q r st'->AdR st q r st':=λ⟨tg,xs,h1,h2,_,h4,h5⟩=>⟨tg,xs,h1,h2,h4.w,h5⟩
theorem zX9 {o:Nat}{n:ByteArray}{us:List Tm}{sub:List Fm}(h:(Fm.mk o n us sub).size<=1000000)(k:Nat):((sub[k]?).getD fm0).size<=1000000:=by
 cases ha:sub[k]? with
 | none=>show fm0.size<=1000000;decide
 | some a =>
  have:=(yZ6 ha).2;simp only[Fm.size] at h;show a.size<=1000000;omega
theorem xYe {ca rule:Nat}{r:Rw}{main:Fm}{term:Tm}{name:ByteArray}(h:fmB ca main=true)(h':r.op=0\/main.op=r.op):yK5 ca rule r main term name =
  if r.asks=0 then (addS ca rule main ((main.subs[0]?).getD fm0) ((main.subs[1]?).getD fm0),0)
  else if !(if r.asks=2 then Tm.mk true name [] else term).ok then ([],193)
  else if (yV1 ((main.subs[0]?).getD fm0) [(main.nm,if r.asks=2 then Tm.mk true name [] else term)]).2≠0 then ([],193)
  else (addS ca rule main (yV1 ((main.subs[0]?).getD fm0) [(main.nm,if r.asks=2 then Tm.mk true name [] else term)]).1 ((main.subs[1]?).getD fm0),0):=by
 have e:(!fmB ca main || (decide (r.op≠0)&&decide (main.op≠r.op)))=false:=by
  rw[h];rcases h' with h'|h'<;>simp[h']
 simp only[yK5,e,bFt,if_false]
set_option maxHeartbeats 2000000 in
theorem wGj (G:Gl gl)(T:Gt gl)(ca rule:Nat)(r:Rw)(hr:rowS ca rule=some r)(main:Fm)(y:IV)(hy:IsFm main y)(hm:main.size<=1000000)(term:Tm)(z:IV)(hz:IsTm term z)(ht:term.size<=1000000)(name:ByteArray)(st:ISt) :
  ICall prog gl 89 [rwI ca rule r,.raw (.int .u8 ca),y,z,.raw (.string name)] st (AdRD st (yK5 ca rule r main term name)):=by
 obtain⟨hadd,hent⟩:=wY2 gl hr;have hf:=λst=>zKc gl G ca main y hy hm st;obtain⟨rl,rr,op,asks⟩:=r;obtain⟨o,n,us,sub⟩:=main;have hy0:=hy;obtain⟨t1,x1,t2,x2,rfl,ho,e1,i1,e2,i2⟩:=hy.mk;obtain⟨v,un,tz,xz,rfl⟩:∃v un tz xz,z=.agg [.raw (.bool v),.raw (.string un),.sl tz xz]:=by
  obtain⟨v,un,us⟩:=term;obtain⟨tz,xz,rfl,_⟩:=hz.mk;exact⟨_,_,_,_,rfl⟩
 obtain⟨z1,hz1,hz1n,hz1s⟩:=xKt i2 0;obtain⟨z2,hz2,hz2n,hz2s⟩:=xKt i2 1;have hE:fmB ca (.mk o n us sub)=false->yK5 ca rule ⟨rl,rr,op,asks⟩ (.mk o n us sub) term name=([],192):=λh=>by simp only[yK5,h];rfl
 refine iI func89 ?_;simp only[go_sem,zE,zA,zL,rwI];refine (hf _).mono ?_;rintro _ _ ⟨rfl,rfl⟩;cases hfm:fmB ca (.mk o n us sub)
 ·simp only[go_sem,zE];exact yQ0 (by rw[hE hfm];exact⟨_,_,rfl,.inl rfl,.inl rfl,rfl,rfl⟩)
 by_cases hop:op=0\/o=op
 case neg =>
  have hq:yK5 ca rule ⟨rl,rr,op,asks⟩ (.mk o n us sub) term name=([],192):=by
   have e:(!fmB ca (.mk o n us sub) || (decide (op≠0)&&decide ((Fm.mk o n us sub).op≠op)))=true:=by
    simp only[Fm.op,hfm];simp only[not_or] at hop;simp[hop]
   simp only[yK5,e,if_true]
  simp only[not_or] at hop;have d1:decide ((op:Int)=0)=false:=dEf (by omega);have d2:decide ((o:Int)=(op:Int))=false:=dEf (by omega);simp only[go_sem,zE,zA,d1,d2];exact yQ0 (by rw[hq];exact⟨_,_,rfl,.inl rfl,.inl rfl,rfl,rfl⟩)
 obtain⟨dop,hdop⟩:∃b,decide ((op:Int)=0)=b:=⟨_,rfl⟩
 have hdo:dop=false->decide ((o:Int)=(op:Int))=true:=λh=>by
  subst hdop;have:=of_decide_eq_false h;exact dEt (by omega)
 have hop0:=hop;replace hop:(⟨rl,rr,op,asks⟩:Rw).op=0\/(Fm.mk o n us sub).op=(⟨rl,rr,op,asks⟩:Rw).op:=hop0;by_cases hl0:0<sub.length
 rotate_left
 have l0:decide ((0:Int)<(sub.length:Int))=false:=dEf (by omega);have l1:decide ((1:Int)<(sub.length:Int))=false:=dEf (by omega);have g0:=l0;have g1:=l0;obtain rfl:=hz1n (by omega);obtain rfl:=hz2n (by omega)
 rotate_left
 have l0:decide ((0:Int)<(sub.length:Int))=true:=dEt (by omega);have g0:=hz1s hl0;obtain⟨o3,n3,t3,x3,t4,x4,rfl⟩:=hz1.agg;by_cases hl1:1<sub.length;have l1:decide ((1:Int)<(sub.length:Int))=true:=dEt (by omega);have g1:=hz2s hl1;obtain⟨o5,n5,t5,x5,t6,x6,rfl⟩:=hz2.agg
 rotate_left
 have l1:decide ((1:Int)<(sub.length:Int))=false:=dEf (by omega);have g1:=g0;obtain rfl:=hz2n (by omega)
 all_goals cases dop
 all_goals (first|have hd2:=hdo rfl|have hd2:=hdop)
 all_goals
  have hq:=xYe (rule:=rule) (r:=⟨rl,rr,op,asks⟩) (term:=term) (name:=name) hfm hop;by_cases ha0:asks=0
  ·have d0:decide ((asks:Int)=0)=true:=dEt (by omega);simp only[if_pos ha0,Fm.subs] at hq;simp only[go_sem,zE,zB,zA,zL,hdop,hd2,l0,l1,i2.len,g0,g1,yQ4 e2,Int.le_refl,Int.toNat_zero,(show (0:Int)<=1 by decide),(show Int.toNat 1=1 from rfl),d0,fits,hent];intros;refine (hadd _ _ _ _ _ _ hy0 hz1 hz2 hm (zX9 hm 0) (zX9 hm 1) _).mono ?_;rintro _ _ ⟨tg,xs,rfl,he,hap,hxs,rfl⟩;simp only[go_sem,zE];exact yQ0 (by rw[hq];exact⟨_,_,rfl,he,hap,hxs,rfl⟩)
  have d0:decide ((asks:Int)=0)=false:=dEf (by omega);by_cases ha2:asks=2;have d2:decide ((asks:Int)=2)=true:=dEt (by omega);obtain⟨w,hwe,hw,hws⟩:∃w,(if asks=2 then Tm.mk true name [] else term)=w/\IsTm w (.agg [.raw (.bool true),.raw (.string name),.sl ⟨true,.nil,0⟩ []])/\w.size<=1000000:=⟨_,if_pos ha2,⟨_,_,rfl,.inl rfl,rfl⟩,by show 1<=_;decide⟩
  rotate_left
  have d2:decide ((asks:Int)=2)=false:=dEf (by omega);obtain⟨w,hwe,hw,hws⟩:∃w,(if asks=2 then Tm.mk true name [] else term)=w/\IsTm w _/\w.size<=1000000:=⟨_,if_neg ha2,hz,ht⟩
  all_goals
   simp only[if_neg ha0,hwe,Fm.subs,Fm.nm] at hq;simp only[go_sem,zE,zB,zA,zL,hdop,hd2,l0,l1,i2.len,g0,g1,yQ4 e2,Int.le_refl,Int.toNat_zero,(show (0:Int)<=1 by decide),(show Int.toNat 1=1 from rfl),d0,d2,fits];intros;refine (wGl gl w _ hw hws _).mono ?_;rintro _ _ ⟨rfl,rfl⟩;cases hk:Tm.ok w
   ·simp only[hk,Bool.not_false,if_true] at hq;simp only[go_sem,zE];exact yQ0 (by rw[hq];exact⟨_,_,rfl,.inl rfl,.inl rfl,rfl,rfl⟩)
   simp only[go_sem,zE,zA,zL];refine (kQ9 gl G T _ _ hz1 (zX9 hm 0) n w _ hw hws _).mono ?_;rintro _ _ ⟨y3,rfl,hy3,rfl⟩;have hy4:=hy3;obtain⟨o8,n8,t8,x8,t9,x9,rfl⟩:=hy3.agg;by_cases he:(yV1 ((sub[0]?).getD fm0) [(n,w)]).2=0
   ·simp only[hk,Bool.not_true,bFt,if_false,he,ne_eq,nTf] at hq;simp only[go_sem,zE,zA,zL,he,hent,show decide (((0:Nat):Int)=0)=true from rfl];refine (hadd _ _ _ _ _ _ hy0 hy4 hz2 hm (Nat.le_trans (zW2 _ _) (by decide)) (zX9 hm 1) _).mono ?_;rintro _ _ ⟨tg,xs,rfl,he,hap,hxs,rfl⟩;simp only[go_sem,zE];exact yQ0 (by rw[hq];exact⟨_,_,rfl,he,hap,hxs,rfl⟩)
   ·simp only[hk,Bool.not_true,bFt,if_false,ne_eq,he,nFt,if_true] at hq;simp only[go_sem,zE,zA,zL,dEf (show ¬ ((yV1 ((sub[0]?).getD fm0) [(n,w)]).2:Int)=0 by omega)];exact yQ0 (by rw[hq];exact⟨_,_,rfl,.inl rfl,.inl rfl,rfl,rfl⟩)
theorem zUb {ca:Nat}{s:Sq}(h:yQv ca s=true):(∀f∈s.l,f.right=true)/\∀f∈s.r,f.right=true:=by
 unfold yQv at h;simp only[bAt,List.all_eq_true] at h;obtain⟨⟨⟨_,h4⟩,h5⟩,_⟩:=h;have key:∀f,fmB ca f=true->f.right=true:=λf hf=>by
  unfold fmB at hf;simp only[bAt] at hf;exact hf.1
 exact⟨λf hf=>key f (h4 f hf),λf hf=>key f (h5 f hf)⟩
theorem vJf (G:Gl gl)(T:Gt gl)(ca:Nat)(s:Sq)(x:IV)(hx:IsSq s x)(hs:yJm s)(rule:Nat)(main:Fm)(y:IV)(hy:IsFm main y)(hm:main.size<=1000000)(term:Tm)(z:IV)(hz:IsTm term z)(ht:term.size<=1000000)(name:ByteArray)(st:ISt) :
  ICall prog gl 67 [.raw (.int .u8 ca),x,.raw (.int .u8 rule),y,z,.raw (.string name)] st (AdRD st (yVk ca s rule main term name)):=by
 have hV:=λst=>xKb gl G ca s x hx hs st;have hF:=λhr st=>vKx gl T s x hx hs hr name st;obtain⟨t1,x1,t2,x2,rfl,e1,i1,e2,i2⟩:=hx;have hH1:=λst=>xYj gl G s.l main t1 x1 y e1 i1 hy hs.1 hm st;have hH2:=λst=>xYj gl G s.r main t2 x2 y e2 i2 hy hs.2 hm st;have hA:=λr hr st=>wGj gl G T ca rule r hr main y hy hm term z hz ht name st;obtain⟨o3,n3,t3,x3,t4,x4,rfl⟩:=hy.agg;obtain⟨v,un,tz,xz,rfl⟩:∃v un tz xz,z=.agg [.raw (.bool v),.raw (.string un),.sl tz xz]:=by
  obtain⟨v,un,us⟩:=term;obtain⟨tz,xz,rfl,_⟩:=hz.mk;exact⟨_,_,_,_,rfl⟩
 refine iI func67 ?_;simp only[go_sem,zE,zA,zL,reduceCtorEq];refine (hV _).mono ?_;rintro _ st ⟨rfl,rfl⟩;cases hv:yQv ca s
 ·simp only[go_sem,zE];exact yQ0 (by unfold yVk;rw[hv];exact⟨_,_,rfl,.inl rfl,.inl rfl,rfl,rfl⟩)
 have hright:=zUb hv;simp only[go_sem,zA,reduceCtorEq];refine (wQv gl ca _).mono ?_;rintro _ _ ⟨b,hb,rfl,rfl⟩;cases hr:rowS ca rule with
 | none =>
  have hq:yVk ca s rule main term name=([],191):=by unfold yVk;rw[hv,hr];rfl
  simp only[go_sem,zE,zA,zL,ISt.put_same,yWi,hr,Option.map_none,yGa];exact yQg (yQh hb) (by rw[hq];exact⟨_,_,rfl,.inl rfl,.inl rfl,rfl,rfl⟩)
 | some r =>
  have hcall:=hA r hr;obtain⟨rl,rr,op,asks⟩:=r;have hq:yVk ca s rule main term name=if decide ((yK5 ca rule ⟨rl,rr,op,asks⟩ main term name).2=192) || (rl&&!hasF s.l main) || (rr&&!hasF s.r main) then ([],192)
    else if (yK5 ca rule ⟨rl,rr,op,asks⟩ main term name).2≠0 then ([],(yK5 ca rule ⟨rl,rr,op,asks⟩ main term name).2)
    else if decide (asks=2)&&zWn s name then ([],193) else ((yK5 ca rule ⟨rl,rr,op,asks⟩ main term name).1,0):=by unfold yVk;rw[hv,hr];rfl
  generalize yK5 ca rule ⟨rl,rr,op,asks⟩ main term name=q at hq hcall;obtain⟨qs,qe⟩:=q;simp only at hq;simp only[go_sem,zE,zA,zL,reduceCtorEq,ISt.put_same,yWi,hr,Option.map_some,zZ2,rwI];refine (hcall _).mono ?_;rintro _ _ ⟨tg,xs,rfl,he,hap,hxs,rfl⟩;by_cases h192:qe=192
  ·have d:decide ((qe:Int)=192)=true:=dEt (by omega);have hq':yVk ca s rule main term name=([],192):=by rw[hq,h192];rfl
   simp only[go_sem,zE,d];exact yQg (yQh hb) (by rw[hq'];exact⟨_,_,rfl,.inl rfl,.inl rfl,rfl,rfl⟩)
  have d:decide ((qe:Int)=192)=false:=dEf (by omega);have h192':decide (qe=192)=false:=dEf h192;rw[h192',Bool.false_or] at hq;cases rl
  rotate_left
  simp only[go_sem,zE,zA,zL,d];refine (hH1 _).mono ?_;rintro _ _ ⟨rfl,rfl⟩;cases h4:hasF s.l main
  ·simp only[go_sem,zE];rw[h4] at hq;exact yQg (yQh hb) (by rw[hq];exact⟨_,_,rfl,.inl rfl,.inl rfl,rfl,rfl⟩)
  rw[h4] at hq
  rotate_left
  all_goals cases rr
  all_goals try
   simp only[go_sem,zE,zA,zL,d];refine (hH2 _).mono ?_;rintro _ _ ⟨rfl,rfl⟩;cases h5:hasF s.r main
   ·simp only[go_sem,zE];rw[h5] at hq;exact yQg (yQh hb) (by rw[hq];exact⟨_,_,rfl,.inl rfl,.inl rfl,rfl,rfl⟩)
   rw[h5] at hq
  all_goals
   simp only[Bool.false_and,Bool.and_false,Bool.not_true,Bool.or_false,bFt,if_false] at hq;by_cases h0:qe=0
   ·subst h0;simp only[ne_eq,nTf,if_false] at hq;by_cases ha:asks=2
    ·have da:decide ((asks:Int)=2)=true:=dEt (by omega);simp only[go_sem,zE,zA,zL,d,da,show decide (((0:Nat):Int)=0)=true from rfl];refine (hF hright _).mono ?_;rintro _ _ ⟨rfl,rfl⟩;rw[dEt ha,Bool.true_and] at hq;cases hf:zWn s name
     ·simp only[go_sem,zE];rw[hf] at hq;exact yQg (yQh hb) (by rw[hq];exact⟨_,_,rfl,he,hap,hxs,rfl⟩)
     ·simp only[go_sem,zE];rw[hf] at hq;exact yQg (yQh hb) (by rw[hq];exact⟨_,_,rfl,.inl rfl,.inl rfl,rfl,rfl⟩)
    ·have da:decide ((asks:Int)=2)=false:=dEf (by omega);rw[dEf ha,Bool.false_and] at hq;simp only[go_sem,zE,zA,d,da,show decide (((0:Nat):Int)=0)=true from rfl];exact yQg (yQh hb) (by rw[hq];exact⟨_,_,rfl,he,hap,hxs,rfl⟩)
   ·have d0:decide ((qe:Int)=0)=false:=dEf (by omega);rw[if_pos h0] at hq;simp only[go_sem,zE,zA,d,d0];exact yQg (yQh hb) (by rw[hq];exact⟨_,_,rfl,.inl rfl,.inl rfl,rfl,rfl⟩)
theorem vJg (G:Gl gl)(T:Gt gl)(ca:Nat)(s:Sq)(x:IV)(hx:IsSq s x)(hs:yJm s)(rule:Nat)(main:Fm)(y:IV)(hy:IsFm main y)(hm:main.size<=1000000)(term:Tm)(z:IV)(hz:IsTm term z)(ht:term.size<=1000000)(name:ByteArray)(st:ISt) :
  ICall prog gl 67 [.raw (.int .u8 ca),x,.raw (.int .u8 rule),y,z,.raw (.string name)] st (AdR st (yVk ca s rule main term name)) :=
 (vJf gl G T ca s x hx hs rule main y hy hm term z hz ht name st).mono AdRD.w
