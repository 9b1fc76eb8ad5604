/- Sequents and trees of sequents as plain -/
import Derived.Lib.Bytealg
import Derived.Test.YtnknaopjcifoaaaGreatDoorKB
set_option linter.all false
open Nat renaming reduceEqDiff → zE,reduceBEq → zB,reduceAdd → zA,reduceMul → zM,reduceLeDiff → zL
namespace Go.Iv
open Go
structure Sq where
 l:List Fm
 r:List Fm
inductive Tr where
 | mk (rule:Nat) (s:Sq) (main:Fm) (term:Tm) (name:ByteArray) (sub:List Tr)
def IsSq (s:Sq)(x:IV):Prop:=∃t xs t' ys,x=.agg [.sl t xs,.sl t' ys]/\okEs t 4/\IsFms s.l xs/\okEs t' 4/\IsFms s.r ys
def IsSqs:List Sq->List IV->Prop
 | [],xs=>xs=[]
 | a::aL,xs=>∃y ys,xs=y::ys/\IsSq a y/\IsSqs aL ys
mutual
def IsTr:Tr->IV->Prop
 | .mk rule s f u n sub,x=>∃tl xl tr xr op fn ta xa tb xb v un tu xu ts xs,x=.agg [.raw (.int .u8 rule),.sl tl xl,.sl tr xr,.raw (.int .u8 op),.raw (.string fn),.sl ta xa,.sl tb xb,.raw (.bool v),.raw (.string un),.sl tu xu,.raw (.string n),.sl ts xs] /\
  rule<256/\okEs tl 4/\IsFms s.l xl/\okEs tr 4/\IsFms s.r xr/\IsFm f (.agg [.raw (.int .u8 op),.raw (.string fn),.sl ta xa,.sl tb xb])/\IsTm u (.agg [.raw (.bool v),.raw (.string un),.sl tu xu])/\okEs ts 12/\IsTrs sub xs
def IsTrs:List Tr->List IV->Prop
 | [],xs=>xs=[]
 | a::aL,xs=>∃y ys,xs=y::ys/\IsTr a y/\IsTrs aL ys
end
theorem IsTr.mk {rule:Nat}{s:Sq}{f:Fm}{u:Tm}{n:ByteArray}{sub:List Tr}{x:IV}(h:IsTr (.mk rule s f u n sub) x):∃tl xl tr xr op fn ta xa tb xb v un tu xu ts xs,x=.agg [.raw (.int .u8 rule),.sl tl xl,.sl tr xr,.raw (.int .u8 op),.raw (.string fn),.sl ta xa,.sl tb xb,.raw (.bool v),.raw (.string un),.sl tu xu,.raw (.string n),.sl ts xs] /\
  rule<256/\okEs tl 4/\IsFms s.l xl/\okEs tr 4/\IsFms s.r xr/\IsFm f (.agg [.raw (.int .u8 op),.raw (.string fn),.sl ta xa,.sl tb xb])/\IsTm u (.agg [.raw (.bool v),.raw (.string un),.sl tu xu])/\okEs ts 12/\IsTrs sub xs:=by
 simpa only[IsTr] using h
theorem IsSqs.len:∀ {aL:List Sq}{xs:List IV},IsSqs aL xs->xs.length=aL.length
 | [],xs,h=>by simp only[IsSqs] at h;subst h;rfl
 | a::aL,xs,h=>by
  simp only[IsSqs] at h;obtain⟨y,ys,rfl,_,h⟩:=h;simp[IsSqs.len h]
theorem IsSqs.get:∀ {aL:List Sq}{xs:List IV}{k:Nat}{a:Sq},IsSqs aL xs->aL[k]?=some a->∃x,xs[k]?=some x/\IsSq a x
 | [],xs,k,a,h,hk=>by simp at hk
 | b::aL,xs,k,a,h,hk=>by
  simp only[IsSqs] at h;obtain⟨y,ys,rfl,hy,h⟩:=h;cases k with
  | zero=>simp at hk;subst hk;exact⟨y,rfl,hy⟩
  | succ k=>simpa using IsSqs.get h (by simpa using hk)
theorem IsTrs.len:∀ {aL:List Tr}{xs:List IV},IsTrs aL xs->xs.length=aL.length
 | [],xs,h=>by simp only[IsTrs] at h;subst h;rfl
 | a::aL,xs,h=>by
  simp only[IsTrs] at h;obtain⟨y,ys,rfl,_,h⟩:=h;simp[IsTrs.len h]
theorem IsTrs.get:∀ {aL:List Tr}{xs:List IV}{k:Nat}{a:Tr},IsTrs aL xs->aL[k]?=some a->∃x,xs[k]?=some x/\IsTr a x
 | [],xs,k,a,h,hk=>by simp at hk
 | b::aL,xs,k,a,h,hk=>by
  simp only[IsTrs] at h;obtain⟨y,ys,rfl,hy,h⟩:=h;cases k with
  | zero=>simp at hk;subst hk;exact⟨y,rfl,hy⟩
  | succ k=>simpa using IsTrs.get h (by simpa using hk)
theorem IsTrs.append:∀ {aL bs:List Tr}{xs ys:List IV},IsTrs aL xs->IsTrs bs ys->IsTrs (aL++bs) (xs++ys)
 | [],bs,xs,ys,h,k=>by simp only[IsTrs] at h;subst h;exact k
 | a::aL,bs,xs,ys,h,k=>by
  simp only[IsTrs] at h;obtain⟨y,zs,rfl,hy,h⟩:=h;exact⟨y,zs++ys,rfl,hy,IsTrs.append h k⟩
mutual
def Tr.steps:Tr->Nat
 | .mk _ _ _ _ _ sub=>1+yQl sub
def yQl:List Tr->Nat
 | []=>0
 | a::l=>a.steps+yQl l
end
mutual
def Tr.height:Tr->Nat
 | .mk _ _ _ _ _ sub=>1+yQx sub
def yQx:List Tr->Nat
 | []=>0
 | a::l=>max a.height (yQx l)
end
mutual
def Tr.cuts:Tr->Nat
 | .mk rule _ _ _ _ sub=>(if rule=17 then 1 else 0)+yZi sub
def yZi:List Tr->Nat
 | []=>0
 | a::l=>a.cuts+yZi l
end
theorem yVn:∀l m:List Tr,yQl (l++m)=yQl l+yQl m
 | [],m=>by simp[yQl]
 | a::l,m=>by simp only[List.cons_append,yQl,yVn l m];omega
theorem yWk:∀l m:List Tr,yZi (l++m)=yZi l+yZi m
 | [],m=>by simp[yZi]
 | a::l,m=>by simp only[List.cons_append,yZi,yWk l m];omega
theorem yYe:∀l m:List Tr,yQx (l++m)=max (yQx l) (yQx m)
 | [],m=>by simp[yQx]
 | a::l,m=>by simp only[List.cons_append,yQx,yYe l m];omega
theorem Tr.height_le_steps:∀t:Tr,t.height<=t.steps:=by
 have key:∀k:Nat,(∀t:Tr,SizeOf.sizeOf t<k->t.height<=t.steps):=λk=>by
  induction k with
  | zero=>intro t h;omega
  | succ k ih =>
   rintro⟨rule,s,f,u,n,sub⟩ h;have:∀l:List Tr,SizeOf.sizeOf l<k+1->yQx l<=yQl l:=λl=>by
    induction l with
    | nil=>intro _;simp[yQx,yQl]
    | cons a l ihl =>
     intro hl;simp only[List.cons.sizeOf_spec] at hl;have h1:=ih a (by omega);have h2:=ihl (by omega);simp only[yQx,yQl];omega
   simp only[Tr.mk.sizeOf_spec] at h;have:=this sub (by omega);simp only[Tr.height,Tr.steps];omega
 exact λt=>key _ t (Nat.lt_succ_self _)
mutual
def Tr.walk:List Nat->Tr->List (List Nat×Tr)
 | p,t@(.mk _ _ _ _ _ sub)=>(p,t)::yZ0 p 0 sub
def yZ0:List Nat->Nat->List Tr->List (List Nat×Tr)
 | _,_,[]=>[]
 | p,i,a::l=>a.walk (p++[i])++yZ0 p (i+1) l
end
def yQy (e:Tr->Nat):List (List Nat×Tr)->List Nat×Nat
 | []=>([],0)
 | (p,t)::l=>if e t=0 then yQy e l else (p,e t)
theorem yXu (e:Tr->Nat):∀l m,yQy e (l++m)=if (yQy e l).2=0 then yQy e m else yQy e l
 | [],m=>by simp[yQy]
 | (p,t)::l,m=>by
  have ih:=yXu e l m;by_cases h:e t=0
  ·simp only[List.cons_append,yQy,h,if_true,ih]
  ·simp[yQy,h]
theorem zQm (e:Tr->Nat):∀l,(yQy e l).2=0->yQy e l=([],0)
 | [],_=>rfl
 | (p,t)::l,h=>by
  simp only[yQy] at h ⊢;by_cases h':e t=0
  ·rw[if_pos h'] at h ⊢;exact zQm e l h
  ·grind
def Fm.op:Fm->Nat
 | .mk op _ _ _=>op
def Fm.subs:Fm->List Fm
 | .mk _ _ _ sub=>sub
def Fm.nm:Fm->ByteArray
 | .mk _ n _ _=>n
def Tr.sq:Tr->Sq
 | .mk _ s _ _ _ _=>s
def Sq.plus (s m:Sq):Sq:=⟨s.l++m.l,s.r++m.r⟩
end Go.Iv
namespace Go.Proofs.Tryz
open Go Go.Iv
set_option maxRecDepth 4000
variable (gl:Nat->Option IV)
theorem yGz (v w:Bool)(n m:ByteArray)(us ws:List Tm)(x y:IV)(hx:IsTm (.mk v n us) x)(hy:IsTm (.mk w m ws) y)
  (IH:∀(t t':Tag) (xs ys:List IV),okEs t 3->okEs t' 3->IsTms us xs->IsTms ws ys->∀st,ICall prog gl 59 [.sl t xs,.sl t' ys] st (λx st'=>x=.raw (.bool (eqB us ws))/\st'=st)) (st:ISt) :
  ICall prog gl 47 [x,y] st (λr st'=>r=.raw (.bool (eqB (Tm.mk v n us) (.mk w m ws)))/\st'=st):=by
 obtain⟨tx,cx,rfl,htx,hcx⟩:=hx.mk;obtain⟨ty,cy,rfl,hty,hcy⟩:=hy.mk;refine iI func47 ?_;by_cases hv:v=w
 ·subst hv;by_cases hnm:n=m
  ·subst hnm;simp only[go_sem,zE,zA,decide_true];refine (IH tx ty cx cy htx hty hcx hcy _).mono ?_;rintro _ _ ⟨rfl,rfl⟩;simp only[go_sem,zE];refine yQ0 ⟨?_,rfl⟩;by_cases hc:us=ws
   ·subst hc;rw[yQm.2 rfl,yQm.2 rfl]
   ·rw[yQh.2 hc,yQh.2 (by rintro⟨⟩;exact hc rfl)]
  ·simp only[go_sem,zE,zA,dEf hnm];exact yQ0 ⟨by rw[yQh.2 (by rintro⟨⟩;exact hnm rfl)],rfl⟩
 ·simp only[go_sem,zE,zA,beq_eq_false_iff_ne.2 hv];exact yQ0 ⟨by rw[yQh.2 (by rintro⟨⟩;exact hv rfl)],rfl⟩
theorem yYy (t t':Tag)(us ws:List Tm)(xs ys:List IV)(ht:okEs t 3)(ht':okEs t' 3)(ha:IsTms us xs)(hb:IsTms ws ys)(st:ISt) :
  ICall prog gl 59 [.sl t xs,.sl t' ys] st (λx st'=>x=.raw (.bool (eqB us ws))/\st'=st):=by
 refine iI func59 ?_;simp only[go_sem,zE,reduceCtorEq,ha.len,hb.len];intro hla hlb;refine yZ7 (λh=>?_) (λh=>?_)
 ·have hne:us≠ws:=by rintro rfl;simp at h
  simp only[go_sem];exact yQ0 ⟨by rw[yQh.2 hne],rfl⟩
 have hlen:us.length=ws.length:=by simp at h;omega
 refine LoopC.ctr us.length (λk fr st' ds=>us.take k=ws.take k/\fr 0=.iv (.sl t xs)/\fr 1=.iv (.sl t' ys)/\fr 5=.iv (.raw (.int .i64 k))/\st'=st/\ds=[]) ?_ ?_ ?_
 ·simp only[go_sem,zE,reduceCtorEq];rfl
 ·rintro k fr st' ds hlt ⟨hn,h0,h1,h5,rfl,rfl⟩;obtain⟨a,hka⟩:=yQ3 hlt;obtain⟨b,hkb⟩:=yQ3 (hlen▸hlt);obtain⟨x,hkx,hx⟩:=ha.get hka;obtain⟨y,hky,hy⟩:=hb.get hkb;obtain⟨v,n,cs⟩:=a;obtain⟨w,m,ds⟩:=b;have hx0:=hx;have hy0:=hy;obtain⟨tx,cx,rfl,htx,hcx⟩:=hx.mk;obtain⟨ty,cy,rfl,hty,hcy⟩:=hy.mk;have hcall:=yGz gl v w n m cs ds _ _ hx0 hy0 (λt1 t2 x1 y1 q1 q2 q3 q4 st1=>yYy t1 t2 cs ds x1 y1 q1 q2 q3 q4 st1) st';simp only[go_sem,zE,zB,zA,reduceCtorEq,h0,h1,h5,ha.len,lt_i hlt,yQ1 ht,yQ1 ht',iNn,hkx,hky,fits];intro _;refine hcall.mono ?_;rintro _ _ ⟨rfl,rfl⟩;by_cases hc:Tm.mk v n cs=.mk w m ds
  ·simp only[go_sem,zE,reduceCtorEq,h0,h1,h5,yQ9 hlt (show us.length<=281474976710656 by omega),yQm.2 hc];rw[yQ5 hka,yQ5 hkb,hn,hc]
  ·have hne:us≠ws:=by
    rintro rfl;rw[hka] at hkb;exact hc (Option.some.inj hkb)
   simp only[go_sem,yQh.2 hc];exact yQ0 ⟨by rw[yQh.2 hne],rfl⟩
 ·rintro fr st' ds ⟨hn,h0,h1,h5,rfl,rfl⟩;simp only[go_sem,zE,reduceCtorEq,h0,h5,ha.len,yQj (nLi _)];intro _;have he:us=ws:=by rw[lTl] at hn;rw[hn,hlen,lTl]
  exact yQ0 ⟨by rw[yQm.2 he],rfl⟩
termination_by SizeOf.sizeOf us
decreasing_by exact xY0 (lMg hka)
theorem xJ2 (a b:Tm)(x y:IV)(hx:IsTm a x)(hy:IsTm b y)(st:ISt):ICall prog gl 47 [x,y] st (λr st'=>r=.raw (.bool (eqB a b))/\st'=st):=by
 obtain⟨v,n,us⟩:=a;obtain⟨w,m,ws⟩:=b;exact yGz gl v w n m us ws x y hx hy (λt t' xs ys h1 h2 h3 h4 st=>yYy gl t t' us ws xs ys h1 h2 h3 h4 st) st
def kSF (f:Fm):Prop:=∀(g:Fm) (x y:IV) (_:IsFm f x) (_:IsFm g y) (st:ISt),ICall prog gl 46 [x,y] st (λr st'=>r=.raw (.bool (eqB f g))/\st'=st)
theorem yYz (us ws:List Fm)(IH:∀a∈us,kSF gl a)(t t':Tag)(xs ys:List IV)(ht:okEs t 4)(ht':okEs t' 4)(ha:IsFms us xs)(hb:IsFms ws ys)(st:ISt) :
  ICall prog gl 51 [.sl t xs,.sl t' ys] st (λx st'=>x=.raw (.bool (eqB us ws))/\st'=st):=by
 refine iI func51 ?_;simp only[go_sem,zE,reduceCtorEq,ha.len,hb.len];intro hla hlb;refine yZ7 (λh=>?_) (λh=>?_)
 ·have hne:us≠ws:=by rintro rfl;simp at h
  simp only[go_sem];exact yQ0 ⟨by rw[yQh.2 hne],rfl⟩
 have hlen:us.length=ws.length:=by simp at h;omega
 refine LoopC.ctr us.length (λk fr st' ds=>us.take k=ws.take k/\fr 0=.iv (.sl t xs)/\fr 1=.iv (.sl t' ys)/\fr 5=.iv (.raw (.int .i64 k))/\st'=st/\ds=[]) ?_ ?_ ?_
 ·simp only[go_sem,zE,reduceCtorEq];rfl
 ·rintro k fr st' ds hlt ⟨hn,h0,h1,h5,rfl,rfl⟩;obtain⟨a,hka⟩:=yQ3 hlt;obtain⟨b,hkb⟩:=yQ3 (hlen▸hlt);obtain⟨x,hkx,hx⟩:=ha.get hka;obtain⟨y,hky,hy⟩:=hb.get hkb;have hcall:=IH a (lMg hka) b x y hx hy st';obtain⟨o,n,cs,sub⟩:=a;obtain⟨o',m,ds,sub'⟩:=b;obtain⟨tx,cx,sx,dx,rfl,_⟩:=hx.mk;obtain⟨ty,cy,sy,dy,rfl,_⟩:=hy.mk;simp only[go_sem,zE,zB,zA,reduceCtorEq,h0,h1,h5,ha.len,lt_i hlt,yQ1 ht,yQ1 ht',iNn,hkx,hky,fits];intro _;refine hcall.mono ?_;rintro _ _ ⟨rfl,rfl⟩;by_cases hc:Fm.mk o n cs sub=.mk o' m ds sub'
  ·simp only[go_sem,zE,reduceCtorEq,h0,h1,h5,yQ9 hlt (show us.length<=281474976710656 by omega),yQm.2 hc];rw[yQ5 hka,yQ5 hkb,hn,hc]
  ·have hne:us≠ws:=by
    rintro rfl;rw[hka] at hkb;exact hc (Option.some.inj hkb)
   simp only[go_sem,yQh.2 hc];exact yQ0 ⟨by rw[yQh.2 hne],rfl⟩
 ·rintro fr st' ds ⟨hn,h0,h1,h5,rfl,rfl⟩;simp only[go_sem,zE,reduceCtorEq,h0,h5,ha.len,yQj (nLi _)];intro _;have he:us=ws:=by rw[lTl] at hn;rw[hn,hlen,lTl]
  exact yQ0 ⟨by rw[yQm.2 he],rfl⟩
theorem zVh (o:Nat)(n:ByteArray)(us:List Tm)(sub:List Fm)(IH:∀a∈sub,kSF gl a):kSF gl (.mk o n us sub):=by
 intro g x y hx hy st;obtain⟨o',m,ws,sub'⟩:=g;obtain⟨tx,cx,sx,dx,rfl,ho,htx,hcx,hsx,hdx⟩:=hx.mk;obtain⟨ty,cy,sy,dy,rfl,ho',hty,hcy,hsy,hdy⟩:=hy.mk;have hcall:=yYz gl sub sub' IH sx sy dx dy hsx hsy hdx hdy;refine iI func46 ?_;by_cases hv:o=o'
 ·subst hv;by_cases hnm:n=m
  ·subst hnm;simp only[go_sem,zE,zA,decide_true];refine (yYy gl tx ty us ws cx cy htx hty hcx hcy _).mono ?_;rintro _ _ ⟨rfl,rfl⟩;by_cases hc:us=ws
   ·subst hc;simp only[go_sem,zE,zA,yQm.2 rfl];refine (hcall _).mono ?_;rintro _ _ ⟨rfl,rfl⟩;simp only[go_sem,zE];refine yQ0 ⟨?_,rfl⟩;by_cases hd:sub=sub'
    ·subst hd;rw[yQm.2 rfl,yQm.2 rfl]
    ·rw[yQh.2 hd,yQh.2 (by rintro⟨⟩;exact hd rfl)]
   ·simp only[go_sem,zE,yQh.2 hc];exact yQ0 ⟨by rw[yQh.2 (by rintro⟨⟩;exact hc rfl)],rfl⟩
  ·simp only[go_sem,zE,zA,dEf hnm,decide_true];exact yQ0 ⟨by rw[yQh.2 (by rintro⟨⟩;exact hnm rfl)],rfl⟩
 ·have hv':decide ((o:Int)=(o':Int))=false:=dEf (by omega);simp only[go_sem,zE,zA,hv'];exact yQ0 ⟨by rw[yQh.2 (by rintro⟨⟩;exact hv rfl)],rfl⟩
theorem zQf:∀(k:Nat)(f:Fm),SizeOf.sizeOf f<k->kSF gl f
 | 0,f,h=>by omega
 | k+1,.mk o n us sub,h=>zVh gl o n us sub (λa ha=>zQf k a (by
   have:=lSm ha;simp only[Fm.mk.sizeOf_spec] at h;omega))
theorem zJv (f:Fm):kSF gl f:=zQf gl _ f (Nat.lt_succ_self _)
theorem zZw (us ws:List Fm)(t t':Tag)(xs ys:List IV)(ht:okEs t 4)(ht':okEs t' 4)(ha:IsFms us xs)(hb:IsFms ws ys)(st:ISt) :
  ICall prog gl 51 [.sl t xs,.sl t' ys] st (λx st'=>x=.raw (.bool (eqB us ws))/\st'=st):=yYz gl us ws (λa _=>zJv gl a) t t' xs ys ht ht' ha hb st
theorem zZa (a b:Sq)(x y:IV)(hx:IsSq a x)(hy:IsSq b y)(st:ISt):ICall prog gl 28 [x,y] st (λr st'=>r=.raw (.bool (eqB a b))/\st'=st):=by
 obtain⟨l,r⟩:=a;obtain⟨l',r'⟩:=b;obtain⟨t1,x1,t2,x2,rfl,h1,h2,h3,h4⟩:=hx;obtain⟨t3,x3,t4,x4,rfl,h5,h6,h7,h8⟩:=hy;refine iI func28 ?_;simp only[go_sem,zE,zA];refine (zZw gl l l' t1 t3 x1 x3 h1 h5 h2 h6 _).mono ?_;rintro _ _ ⟨rfl,rfl⟩;by_cases hc:l=l'
 ·subst hc;simp only[go_sem,zE,zA,yQm.2 rfl];refine (zZw gl r r' t2 t4 x2 x4 h3 h7 h4 h8 _).mono ?_;rintro _ _ ⟨rfl,rfl⟩;simp only[go_sem,zE];refine yQ0 ⟨?_,rfl⟩;by_cases hd:r=r'
  ·subst hd;rw[yQm.2 rfl,yQm.2 rfl]
  ·rw[yQh.2 hd,yQh.2 (by rintro⟨⟩;exact hd rfl)]
 ·simp only[go_sem,zE,yQh.2 hc];exact yQ0 ⟨by rw[yQh.2 (by rintro⟨⟩;exact hc rfl)],rfl⟩
def xQj (l:List Nat):List IV:=l.map λ(n:Nat)=>.raw (.int .i64 (n:Int))
theorem yW5 (l:List Nat):(xQj l).length=l.length:=by simp[xQj]
theorem xQi {l:List Nat}{k n:Nat}(h:l[k]?=some n):(xQj l)[k]?=some (.raw (.int .i64 n)):=by simp[xQj,h]
theorem xGl (t t':Tag)(us ws:List Nat)(ht:okEs t 1)(ht':okEs t' 1)(st:ISt) :
  ICall prog gl 12 [.sl t (xQj us),.sl t' (xQj ws)] st (λx st'=>x=.raw (.bool (eqB us ws))/\st'=st):=by
 refine iI func12 ?_;simp only[go_sem,zE,reduceCtorEq,yW5];intro hla hlb;refine yZ7 (λh=>?_) (λh=>?_)
 ·have hne:us≠ws:=by rintro rfl;simp at h
  simp only[go_sem];exact yQ0 ⟨by rw[yQh.2 hne],rfl⟩
 have hlen:us.length=ws.length:=by simp at h;omega
 refine LoopC.ctr us.length (λk fr st' ds=>us.take k=ws.take k/\fr 0=.iv (.sl t (xQj us))/\fr 1=.iv (.sl t' (xQj ws))/\fr 5=.iv (.raw (.int .i64 k))/\st'=st/\ds=[]) ?_ ?_ ?_
 ·simp only[go_sem,zE,reduceCtorEq];rfl
 ·rintro k fr st' ds hlt ⟨hn,h0,h1,h5,rfl,rfl⟩;obtain⟨a,hka⟩:=yQ3 hlt;obtain⟨b,hkb⟩:=yQ3 (hlen▸hlt);have hkx:=xQi hka;have hky:=xQi hkb;by_cases hc:a=b
  ·subst hc;simp only[go_sem,zE,reduceCtorEq,h0,h1,h5,yW5,lt_i hlt,yQ9 hlt (show us.length<=281474976710656 by omega),yQ1 ht,yQ1 ht',iNn,hkx,hky,fits,decide_true];intro _;rw[yQ5 hka,yQ5 hkb,hn]
  ·have hne:us≠ws:=by
    rintro rfl;rw[hka] at hkb;exact hc (Option.some.inj hkb)
   have hd:decide ((a:Int)=(b:Int))=false:=dEf (by omega);simp only[go_sem,zE,reduceCtorEq,h0,h1,h5,yW5,lt_i hlt,yQ1 ht,yQ1 ht',iNn,hkx,hky,fits,hd];intro _;exact yQ0 ⟨by rw[yQh.2 hne],rfl⟩
 ·rintro fr st' ds ⟨hn,h0,h1,h5,rfl,rfl⟩;simp only[go_sem,zE,reduceCtorEq,h0,h5,yW5,yQj (nLi _)];intro _;have he:us=ws:=by rw[lTl] at hn;rw[hn,hlen,lTl]
  exact yQ0 ⟨by rw[yQm.2 he],rfl⟩
def kCT (us:List Tm):Prop:=∀(tg:Tag) (xs:List IV) (_:okEs tg 3) (_:IsTms us xs) (_:yQ8 us<=1099511627776) (st:ISt),
 ICall prog gl 53 [.sl tg xs] st (λr st'=>∃tg' ys,r=.sl tg' ys/\okEs tg' 3/\appT us.length tg'/\IsTmsD us ys/\st'=st)
theorem yU1 (v:Bool)(n:ByteArray)(us:List Tm)(IH:kCT gl us)(x:IV)(hx:IsTm (.mk v n us) x)(hs:(Tm.mk v n us).size<=1099511627776)(st:ISt) :
  ICall prog gl 34 [x] st (λr st'=>IsTmD (.mk v n us) r/\st'=st):=by
 obtain⟨tx,cx,rfl,htx,hcx⟩:=hx.mk;simp only[Tm.size] at hs;have hcall:=IH tx cx htx hcx (by omega) st;refine iI func34 ?_;simp only[go_sem,zE,zA];refine hcall.mono ?_;rintro _ _ ⟨tg',ys,rfl,he,ha,hys,rfl⟩;simp only[go_sem,zE,zA,zL];exact yQ0 ⟨IsTmD.intro he ha hys,rfl⟩
theorem zJw (us:List Tm)(IH:∀v n l,Tm.mk v n l∈us->kCT gl l):kCT gl us:=by
 intro tg xs htg hxs hsz st;have hlsz:=yXz us;refine iI func53 ?_;simp only[go_sem];refine LoopC.ctr us.length (λk fr st' ds=>(∃tg' ys,fr 3=.iv (.sl tg' ys)/\IsTmsD (us.take k) ys/\appT k tg'/\own st' tg' k 3 st/\subSt st st')/\fr 0=.iv (.sl tg xs)/\fr 4=.iv (.raw (.int .i64 k))/\ds=[]) ?_ ?_ ?_
 ·simp only[go_sem,zE,reduceCtorEq];exact⟨⟨_,_,rfl,IsTmsD.nil,.inl rfl,own.nil _ _ _ _ _,subSt.refl _⟩,rfl⟩
 ·rintro k fr st1 _ hlt ⟨⟨tg',ys,f3,hys,hap,hown,hsub⟩,f0,f4,rfl⟩;obtain⟨a,ha⟩:=yQ3 hlt;obtain⟨x,hkx,hx⟩:=hxs.get ha;obtain⟨h1,h2⟩:=yZm ha;have hlen2:ys.length=k:=by rw[hys.len,List.length_take];omega
  obtain⟨v2,n2,m⟩:=a;have hcall:=yU1 gl v2 n2 m (IH _ _ _ (lMg ha)) x hx (by omega) st1;obtain⟨tx,cx,rfl,htx,hcx⟩:=hx.mk;simp only[go_sem,zE,zB,zA,reduceCtorEq,f0,f4,hxs.len,lt_i hlt,yQ1 htg,iNn,hkx,fits];intro _;refine hcall.mono ?_;rintro r _ ⟨hr,rfl⟩;have hn:IsTmsD (us.take (k+1)) (ys++[r]):=by
   rw[yQ5 ha];exact hys.append (IsTmsD.one hr)
  obtain⟨t3,x3,rfl,_⟩:=hr.mk;simp only[go_sem,zE,zA,zM,zL,f3,fits,yQ2];refine yZz hown hlen2 hsub rfl (by simp[fits,IV.one]) (by simp only;omega) (by omega) λtg2 st4 hown2 hsub4 _ hap2=>?_;simp only[go_sem,zE,reduceCtorEq,f0,f4,yQ9 hlt (show us.length<=281474976710656 by omega)];exact⟨tg2,_,rfl,hn,hap2,hown2,hsub4⟩
 ·rintro fr st1 _ ⟨⟨tg',ys,f3,hys,hap,hown,hsub⟩,f0,f4,rfl⟩;rw[lTl] at hys;simp only[go_sem,zE,reduceCtorEq,f0,f3,f4,hxs.len,yQj (nLi _)];intro _;exact yQa (st':=st) hsub ⟨tg',ys,rfl,hown.es,hap,hys,rfl⟩
theorem yU0:∀(k:Nat)(us:List Tm),SizeOf.sizeOf us<k->kCT gl us
 | 0,f,h=>by omega
 | k+1,us,h=>zJw gl us (λv n l ha=>yU0 k l (by
   have:=lSm ha;simp at this;omega))
theorem zZx (us:List Tm):kCT gl us:=yU0 gl _ us (Nat.lt_succ_self _)
theorem zJx (a:Tm)(x:IV)(hx:IsTm a x)(hs:a.size<=1099511627776)(st:ISt):ICall prog gl 34 [x] st (λr st'=>IsTmD a r/\st'=st):=by
 obtain⟨v,n,us⟩:=a;exact yU1 gl v n us (zZx gl us) x hx hs st
def kCF (f:Fm):Prop:=∀(x:IV) (_:IsFm f x) (_:f.size<=1099511627776) (st:ISt),ICall prog gl 33 [x] st (λr st'=>IsFmD f r/\st'=st)
theorem IsFmD.aggs {f:Fm}{r:IV}(h:IsFmD f r):∃o n t x t' x',r=.agg [.raw (.int .u8 o),.raw (.string n),.sl t x,.sl t' x']:=by
 obtain⟨o,n,us,sub⟩:=f;obtain⟨t,xs,t',ys,rfl,_⟩:=h.mk;exact⟨_,_,_,_,_,_,rfl⟩
theorem yG0 (us:List Fm)(IH:∀a∈us,kCF gl a)(tg:Tag)(xs:List IV)(htg:okEs tg 4)(hxs:IsFms us xs)(hsz:yQ7 us<=1099511627776)(st:ISt) :
  ICall prog gl 52 [.sl tg xs] st (λr st'=>∃tg' ys,r=.sl tg' ys/\okEs tg' 4/\appT us.length tg'/\IsFmsD us ys/\st'=st):=by
 have hlsz:=yZn us;refine iI func52 ?_;simp only[go_sem];refine LoopC.ctr us.length (λk fr st' ds=>(∃tg' ys,fr 3=.iv (.sl tg' ys)/\IsFmsD (us.take k) ys/\appT k tg'/\own st' tg' k 4 st/\subSt st st')/\fr 0=.iv (.sl tg xs)/\fr 4=.iv (.raw (.int .i64 k))/\ds=[]) ?_ ?_ ?_
 ·simp only[go_sem,zE,reduceCtorEq];exact⟨⟨_,_,rfl,IsFmsD.nil,.inl rfl,own.nil _ _ _ _ _,subSt.refl _⟩,rfl⟩
 ·rintro k fr st1 _ hlt ⟨⟨tg',ys,f3,hys,hap,hown,hsub⟩,f0,f4,rfl⟩;obtain⟨a,ha⟩:=yQ3 hlt;obtain⟨x,hkx,hx⟩:=hxs.get ha;obtain⟨h1,h2⟩:=yQu ha;have hlen2:ys.length=k:=by rw[hys.len,List.length_take];omega
  have hcall:=IH a (lMg ha) x hx (by omega) st1;obtain⟨o5,n5,t5,x5,t6,x6,rfl⟩:=hx.agg;simp only[go_sem,zE,zB,zA,reduceCtorEq,f0,f4,hxs.len,lt_i hlt,yQ1 htg,iNn,hkx,fits];intro _;refine hcall.mono ?_;rintro r _ ⟨hr,rfl⟩;have hn:IsFmsD (us.take (k+1)) (ys++[r]):=by
   rw[yQ5 ha];exact hys.append (IsFmsD.one hr)
  obtain⟨o7,n7,t7,x7,t8,x8,rfl⟩:=IsFmD.aggs hr;simp only[go_sem,zE,zA,zM,zL,f3,fits,yQ2];refine yZz hown hlen2 hsub rfl (by simp[fits,IV.one]) (by simp only;omega) (by omega) λtg2 st4 hown2 hsub4 _ hap2=>?_;simp only[go_sem,zE,reduceCtorEq,f0,f4,yQ9 hlt (show us.length<=281474976710656 by omega)];exact⟨tg2,_,rfl,hn,hap2,hown2,hsub4⟩
 ·rintro fr st1 _ ⟨⟨tg',ys,f3,hys,hap,hown,hsub⟩,f0,f4,rfl⟩;rw[lTl] at hys;simp only[go_sem,zE,reduceCtorEq,f0,f3,f4,hxs.len,yQj (nLi _)];intro _;exact yQa (st':=st) hsub ⟨tg',ys,rfl,hown.es,hap,hys,rfl⟩
theorem zVi (o:Nat)(n:ByteArray)(us:List Tm)(sub:List Fm)(IH:∀a∈sub,kCF gl a):kCF gl (.mk o n us sub):=by
 intro x hx hs st;obtain⟨t1,x1,t2,x2,rfl,ho,ht1,hx1,ht2,hx2⟩:=hx.mk;simp only[Fm.size] at hs;have hc1:=zZx gl us t1 x1 ht1 hx1 (by omega) st;have hc2:=yG0 gl sub IH t2 x2 ht2 hx2 (by omega) st;refine iI func33 ?_;simp only[go_sem,zE,zA];refine hc1.mono ?_;rintro _ _ ⟨tg',ys,rfl,he,ha,hys,rfl⟩;simp only[go_sem,zE,zA,zL];refine hc2.mono ?_;rintro _ _ ⟨tg2,ys2,rfl,he2,ha2,hys2,rfl⟩;simp only[go_sem,zE,zA,zL];exact yQ0 ⟨IsFmD.intro ho he ha hys he2 ha2 hys2,rfl⟩
theorem zQg:∀(k:Nat)(f:Fm),SizeOf.sizeOf f<k->kCF gl f
 | 0,f,h=>by omega
 | k+1,.mk o n us sub,h=>zVi gl o n us sub (λa ha=>zQg k a (by
   have:=lSm ha;simp only[Fm.mk.sizeOf_spec] at h;omega))
theorem yUj (f:Fm):kCF gl f:=zQg gl _ f (Nat.lt_succ_self _)
theorem zZy (us:List Fm)(tg:Tag)(xs:List IV)(htg:okEs tg 4)(hxs:IsFms us xs)(hsz:yQ7 us<=1099511627776)(st:ISt) :
  ICall prog gl 52 [.sl tg xs] st (λr st'=>∃tg' ys,r=.sl tg' ys/\okEs tg' 4/\appT us.length tg'/\IsFmsD us ys/\st'=st):=yG0 gl us (λa _=>yUj gl a) tg xs htg hxs hsz st
theorem zWg (s:Sq)(x:IV)(hx:IsSq s x)(h1:yQ7 s.l<=1099511627776)(h2:yQ7 s.r<=1099511627776)(st:ISt):ICall prog gl 32 [x] st (λr st' =>
  (∃t1 x1 t2 x2,r=.agg [.sl t1 x1,.sl t2 x2]/\okEs t1 4/\appT s.l.length t1/\IsFmsD s.l x1/\okEs t2 4/\appT s.r.length t2/\IsFmsD s.r x2)/\st'=st):=by
 obtain⟨t1,x1,t2,x2,rfl,e1,i1,e2,i2⟩:=hx;have hc1:=zZy gl s.l t1 x1 e1 i1 h1 st;have hc2:=zZy gl s.r t2 x2 e2 i2 h2 st;refine iI func32 ?_;simp only[go_sem,zE,zA];refine hc1.mono ?_;rintro _ _ ⟨tg',ys,rfl,he,ha,hys,rfl⟩;simp only[go_sem,zE,zA,zL];refine hc2.mono ?_;rintro _ _ ⟨tg2,ys2,rfl,he2,ha2,hys2,rfl⟩;simp only[go_sem,zE,zA,zL];exact yQ0 ⟨⟨_,_,_,_,rfl,he,ha,hys,he2,ha2,hys2⟩,rfl⟩
end Go.Proofs.Tryz
namespace Go.Proofs.Tryz
open Go Go.Iv
def cmpN (a b:Nat):Int:=if a<b then -1 else if b<a then 1 else 0
noncomputable def cmpB (a b:ByteArray):Int:=if Op.bytesLess a.data.toList b.data.toList=true then -1 else if Op.bytesLess b.data.toList a.data.toList=true then 1 else 0
def lexI (x y:Int):Int:=if x=0 then y else x
mutual
noncomputable def yWs:Tm->Tm->Int
 | .mk v n us,.mk v' n' us'=>if v=v' then lexI (cmpB n n') (lexI (cmpN us.length us'.length) (yKf us us')) else if v=true then -1 else 1
noncomputable def yKf:List Tm->List Tm->Int
 | a::l,b::m=>lexI (yWs a b) (yKf l m)
 | _,_=>0
end
mutual
noncomputable def yXq:Fm->Fm->Int
 | .mk o n us sub,.mk o' n' us' sub'=>lexI (cmpN o o') (lexI (cmpB n n') (lexI (lexI (cmpN us.length us'.length) (yKf us us')) (lexI (cmpN sub.length sub'.length) (yG6 sub sub'))))
noncomputable def yG6:List Fm->List Fm->Int
 | a::l,b::m=>lexI (yXq a b) (yG6 l m)
 | _,_=>0
end
structure Cp {α:Type}(f:α->α->Int)(a:α):Prop where
 eq:∀b,f a b=0↔a=b
 neg:∀b,f b a = - f a b
 tr:∀b c,f a b<0->f b c<0->f a c<0
theorem yWq {x y:Int}:lexI x y=0↔x=0/\y=0:=by
 unfold lexI;split
 ·rename_i h;simp[h]
 ·rename_i h;simp[h]
theorem yGh (x y:Int):lexI (-x) (-y) = - lexI x y:=by
 unfold lexI;grind
theorem zG3 {x y:Int}:lexI x y<0↔x<0\/x=0/\y<0:=by
 unfold lexI;split
 ·rename_i h;simp[h]
 ·rename_i h;simp[h]
theorem xQa {p q r p' q' r':Int}(h1:p<0->q<0->r<0)(h2:p=0->q=r)(h3:q=0->p=r)(h4:p'<0->q'<0->r'<0)(h:lexI p p'<0)(k:lexI q q'<0):lexI r r'<0:=by
 rw[zG3] at *;grind
theorem zKl (a:Nat):Cp cmpN a:=by
 refine⟨λb=>?_,λb=>?_,λb c=>?_⟩<;>unfold cmpN<;>repeat' split
 all_goals grind
open Classical in
theorem zZg {a b:ByteArray}:cmpB a b=if ltN a b then -1 else if ltN b a then 1 else 0:=by
 unfold cmpB;congr 1
 ·exact propext zXk
 ·congr 1;exact propext zXk
open Classical in
theorem yWl (a:ByteArray):Cp cmpB a:=by
 refine⟨λb=>?_,λb=>?_,λb c=>?_⟩
 ·rw[zZg];by_cases h1:ltN a b
  ·rw[if_pos h1];exact⟨λh=>by omega,λh=>absurd h1 (by rw[h];exact wQo b)⟩
  ·rw[if_neg h1];by_cases h2:ltN b a
   ·grind
   ·rw[if_neg h2];exact⟨λ_=>Classical.byContradiction λhne=>h2 (xQ5 h1 hne),λ_=>rfl⟩
 ·rw[zZg,zZg];by_cases h1:ltN a b
  ·rw[if_pos h1,if_neg (wQp h1),if_pos h1];rfl
  ·grind
 ·rw[zZg,zZg,zZg];have key:∀x y:ByteArray,(if ltN x y then (-1:Int) else if ltN y x then 1 else 0)<0↔ltN x y:=λx y=>by
   grind
  rw[key,key,key];exact xQ4
section
variable {α:Type}{f:α->α->Int}{g:List α->List α->Int}(g0:g [] []=0)(g1:∀a b l m,g (a::l) (b::m)=lexI (f a b) (g l m))
include g0 g1
theorem xXv:∀(l:List α),(∀a∈l,∀b,f a b=0↔a=b)->∀m,l.length=m.length->(g l m=0↔l=m)
 | [],_,m,hm=>by
  grind
 | a::l,hc,b::m,hm=>by
  rw[g1,yWq,hc a (by simp),xXv l (λb hb=>hc b (by simp[hb])) m (by simpa using hm),List.cons.injEq]
theorem xV9:∀(l:List α),(∀a∈l,∀b,f b a = - f a b)->∀m,l.length=m.length->g m l = - g l m
 | [],_,m,hm=>by
  grind
 | a::l,hc,b::m,hm=>by
  rw[g1,g1,hc a (by simp),xV9 l (λb hb=>hc b (by simp[hb])) m (by simpa using hm),yGh]
theorem wQu (he:∀a b,f a b=0↔a=b):∀(l:List α),(∀a∈l,∀b c,f a b<0->f b c<0->f a c<0)->∀m n,l.length=m.length->m.length=n.length->g l m<0->g m n<0->g l n<0
 | [],_,m,n,hm,hn,h,_=>by
  grind
 | a::l,hc,b::m,c::n,hm,hn,h,k=>by
  rw[g1] at h k ⊢;exact xQa (hc a (by simp) b c) (λe=>by rw[(he a b).1 e]) (λe=>by rw[(he b c).1 e]) (wQu he l (λb hb=>hc b (by simp[hb])) m n (by simpa using hm) (by simpa using hn)) h k
end
def lenL {α:Type}(g:List α->List α->Int)(l m:List α):Int:=lexI (cmpN l.length m.length) (g l m)
theorem yXj {a b:Nat}:cmpN a b=0↔a=b:=(zKl a).eq b
section
variable {α:Type}{f:α->α->Int}{g:List α->List α->Int}(g0:g [] []=0)(g1:∀a b l m,g (a::l) (b::m)=lexI (f a b) (g l m))
include g0 g1
theorem zJs {l:List α}(h:∀a∈l,∀b,f a b=0↔a=b)(m:List α):lenL g l m=0↔l=m:=by
 unfold lenL;rw[yWq,yXj];constructor
 ·rintro⟨h1,h2⟩;exact (xXv g0 g1 l h m h1).1 h2
 ·rintro rfl;exact⟨rfl,(xXv g0 g1 l h l rfl).2 rfl⟩
theorem zG5 {l:List α}(h:∀a∈l,∀b,f b a = - f a b)(m:List α):lenL g m l = - lenL g l m:=by
 unfold lenL;rw[(zKl l.length).neg];by_cases hl:l.length=m.length
 ·rw[xV9 g0 g1 l h m hl,yGh]
 ·have:¬ cmpN l.length m.length=0:=λh=>hl (yXj.1 h);unfold lexI;grind
theorem xXy (he:∀a b,f a b=0↔a=b){l:List α}(h:∀a∈l,∀b c,f a b<0->f b c<0->f a c<0)(m n:List α)(h1:lenL g l m<0)(h2:lenL g m n<0):lenL g l n<0:=by
 unfold lenL at *;rw[zG3] at h1 h2;by_cases hl:l.length=m.length/\m.length=n.length
 ·obtain⟨hl,hm⟩:=hl;have e1:¬ cmpN l.length m.length<0:=by rw[yXj.2 hl];omega
  have e2:¬ cmpN m.length n.length<0:=by rw[yXj.2 hm];omega
  have e3:cmpN l.length n.length=0:=yXj.2 (hl.trans hm);rw[zG3];exact .inr ⟨e3,wQu g0 g1 he l h m n hl hm (h1.resolve_left e1).2 (h2.resolve_left e2).2⟩
 ·rw[zG3];left;rcases h1 with h1|⟨h1,_⟩
  ·rcases h2 with h2|⟨h2,_⟩
   ·exact (zKl _).tr _ _ h1 h2
   ·rw[<- yXj.1 h2];exact h1
  ·rcases h2 with h2|⟨h2,_⟩
   ·rw[yXj.1 h1];exact h2
   ·exact absurd ⟨yXj.1 h1,yXj.1 h2⟩ hl
end
theorem yV8:yKf [] []=0:=by simp only[yKf]
theorem yV7 (a b:Tm)(l m:List Tm):yKf (a::l) (b::m)=lexI (yWs a b) (yKf l m):=by simp only[yKf]
theorem yUn:yG6 [] []=0:=by simp only[yG6]
theorem yUm (a b:Fm)(l m:List Fm):yG6 (a::l) (b::m)=lexI (yXq a b) (yG6 l m):=by simp only[yG6]
theorem yGn (v v':Bool)(n n':ByteArray)(us us':List Tm):yWs (.mk v n us) (.mk v' n' us')=if v=v' then lexI (cmpB n n') (lenL yKf us us') else if v=true then -1 else 1:=by simp only[yWs,lenL]
theorem yGo (o o':Nat)(n n':ByteArray)(us us':List Tm)(sub sub':List Fm):yXq (.mk o n us sub) (.mk o' n' us' sub')=lexI (cmpN o o') (lexI (cmpB n n') (lexI (lenL yKf us us') (lenL yG6 sub sub'))):=by simp only[yXq,lenL]
theorem xU4 {p:Tm->Prop}(h:∀v n us,(∀a∈us,p a)->p (.mk v n us))(t:Tm):p t:=by
 have key:∀(k:Nat) (t:Tm),SizeOf.sizeOf t<k->p t:=λk=>by
  induction k with
  | zero=>intro t ht;omega
  | succ k ih =>
   rintro⟨v,n,us⟩ ht;refine h v n us λa ha=>ih a ?_;have:=lSm ha;grind
 exact key _ t (Nat.lt_succ_self _)
theorem wZt {p:Fm->Prop}(h:∀o n us sub,(∀a∈sub,p a)->p (.mk o n us sub))(t:Fm):p t:=by
 have key:∀(k:Nat) (t:Fm),SizeOf.sizeOf t<k->p t:=λk=>by
  induction k with
  | zero=>intro t ht;omega
  | succ k ih =>
   rintro⟨o,n,us,sub⟩ ht;refine h o n us sub λa ha=>ih a ?_;have:=lSm ha;grind
 exact key _ t (Nat.lt_succ_self _)
theorem zQp (a b:Tm):yWs a b=0↔a=b:=by
 revert b;refine xU4 (p:=λa=>∀b,yWs a b=0↔a=b) (λv n us ih b=>?_) a;obtain⟨v',n',us'⟩:=b;rw[yGn,Tm.mk.injEq];by_cases hv:v=v'
 ·rw[if_pos hv,yWq,(yWl n).eq,zJs yV8 yV7 ih];simp[hv]
 ·grind
theorem wXc (a b:Tm):yWs b a = - yWs a b:=by
 revert b;refine xU4 (p:=λa=>∀b,yWs b a = - yWs a b) (λv n us ih b=>?_) a;obtain⟨v',n',us'⟩:=b;rw[yGn,yGn];by_cases hv:v=v'
 ·rw[if_pos hv,if_pos hv.symm,(yWl n).neg,zG5 yV8 yV7 ih,yGh]
 ·grind
theorem wV4 (a b c:Tm):yWs a b<0->yWs b c<0->yWs a c<0:=by
 revert b c;refine xU4 (p:=λa=>∀b c,yWs a b<0->yWs b c<0->yWs a c<0) (λv n us ih b c=>?_) a;obtain⟨v',n',us'⟩:=b;obtain⟨v'',n'',us''⟩:=c;rw[yGn,yGn,yGn];have hl:=λ(h:lexI (cmpB n n') (lenL yKf us us')<0) (k:lexI (cmpB n' n'') (lenL yKf us' us'')<0) =>
  xQa (r:=cmpB n n'') (r':=lenL yKf us us'') ((yWl n).tr n' n'') (λe=>by rw[((yWl n).eq n').1 e]) (λe=>by rw[((yWl n').eq n'').1 e]) (xXy yV8 yV7 zQp ih us' us'') h k
 grind
theorem zXp (a b:Fm):yXq a b=0↔a=b:=by
 revert b;refine wZt (p:=λa=>∀b,yXq a b=0↔a=b) (λo n us sub ih b=>?_) a;obtain⟨o',n',us',sub'⟩:=b;rw[yGo,Fm.mk.injEq,yWq,yWq,yWq,yXj,(yWl n).eq,zJs yV8 yV7 (λa _=>zQp a),zJs yUn yUm ih]
theorem zKn (a b:Fm):yXq b a = - yXq a b:=by
 revert b;refine wZt (p:=λa=>∀b,yXq b a = - yXq a b) (λo n us sub ih b=>?_) a;obtain⟨o',n',us',sub'⟩:=b;rw[yGo,yGo,(zKl o).neg,(yWl n).neg,zG5 yV8 yV7 (λa _=>wXc a),zG5 yUn yUm ih,yGh,yGh,yGh]
theorem zGl (a b c:Fm):yXq a b<0->yXq b c<0->yXq a c<0:=by
 revert b c;refine wZt (p:=λa=>∀b c,yXq a b<0->yXq b c<0->yXq a c<0) (λo n us sub ih b c=>?_) a;obtain⟨o',n',us',sub'⟩:=b;obtain⟨o'',n'',us'',sub''⟩:=c;rw[yGo,yGo,yGo];refine xQa ((zKl o).tr o' o'') (λe=>by rw[yXj.1 e]) (λe=>by rw[yXj.1 e]) ?_;refine xQa ((yWl n).tr n' n'') (λe=>by rw[((yWl n).eq n').1 e]) (λe=>by rw[((yWl n').eq n'').1 e]) ?_;exact xQa (xXy yV8 yV7 zQp (λa _=>wV4 a) us' us'') (λe=>by rw[(zJs yV8 yV7 (λa _=>zQp a) us').1 e]) (λe=>by rw[(zJs yV8 yV7 (λa _=>zQp a) us'').1 e])
  (xXy yUn yUm zXp ih sub' sub'')
def SetF (l r:List Fm):Prop:=r.Pairwise (λa b=>yXq a b<0)/\∀f,f∈r↔f∈l
theorem zKo (a:Fm):¬ yXq a a<0:=by rw[(zXp a a).2 rfl];omega
theorem SetF.uniq:∀ {r r':List Fm},r.Pairwise (λa b=>yXq a b<0)->r'.Pairwise (λa b=>yXq a b<0)->(∀x,x∈r↔x∈r')->r=r'
 | [],r',_,_,h=>by
  cases r' with
  | nil=>rfl
  | cons b r'=>exact absurd ((h b).2 (List.mem_cons_self ..)) (by simp)
 | a::r,[],_,_,h=>absurd ((h a).1 (List.mem_cons_self ..)) (by simp)
 | a::r,b::r',h1,h2,h=>by
  have p1:=List.pairwise_cons.1 h1;have p2:=List.pairwise_cons.1 h2;have hab:a=b:=by
   refine Classical.byContradiction λhne=>?_;have ha:a∈r':=by
    grind
   have hb:b∈r:=by
    grind
   have h3:=p1.1 b hb;have h4:=p2.1 a ha;rw[zKn] at h4;omega
  subst hab;congr 1;refine SetF.uniq p1.2 p2.2 λx=>?_;constructor
  ·intro hx;rcases List.mem_cons.1 ((h x).1 (List.mem_cons_of_mem _ hx)) with e|e
   ·subst e;exact absurd (p1.1 _ hx) (zKo _)
   ·exact e
  ·intro hx;rcases List.mem_cons.1 ((h x).2 (List.mem_cons_of_mem _ hx)) with e|e
   ·subst e;exact absurd (p2.1 _ hx) (zKo _)
   ·exact e
theorem SetF.one {l r r':List Fm}(h:SetF l r)(h':SetF l r'):r=r':=SetF.uniq h.1 h'.1 λx=>(h.2 x).trans (h'.2 x).symm
end Go.Proofs.Tryz
namespace Go.Proofs.Tryz
open Go Go.Iv Go.Shelf Go.RowKit
set_option maxRecDepth 4000
variable (gl:Nat->Option IV)
theorem zZk (a b:ByteArray)(w:World):Calls prog 150 #[.string a,.string b] w λe w'=>e=.returned (.int .i64 (Lib.compareBytes a.data.toList b.data.toList))/\w'=w:=by
 have t9:prog.underlying 9=some .string:=by kernel_rfl
 have a9:∀w,(isAgg 9).run prog w=.ok false w:=run_isAgg_plain t9 rfl;have t3:prog.underlying 3=some (.int .i64):=by kernel_rfl
 have a3:∀w,(isAgg 3).run prog w=.ok false w:=run_isAgg_plain t3 rfl
 go_enter func150,(show _=_ from rfl)
 go_wp2
 rw[run_callFunc_extern func184 (by kernel_rfl) (by kernel_rfl) (by kernel_rfl) (e:=Extern.BytealgCompare.compare) (by kernel_rfl),Lib.run_compareString];simp only[Result.andThen];rw[Oper.upon_value]
 go_wp2
 go_ret
 exact⟨rfl,rfl⟩
theorem yG5:∀x y:List UInt8,Lib.compareBytes x y=if Op.bytesLess x y=true then -1 else if Op.bytesLess y x=true then 1 else 0
 | [],[]=>by simp[Lib.compareBytes,Op.bytesLess]
 | [],_::_=>by simp[Lib.compareBytes,Op.bytesLess]
 | _::_,[]=>by simp[Lib.compareBytes,Op.bytesLess]
 | a::x,b::y=>by
  have ih:=yG5 x y;unfold Lib.compareBytes Op.bytesLess;by_cases h1:a<b
  ·have h2:¬ b<a:=λh=>UInt8.lt_irrefl _ (UInt8.lt_trans h1 h);simp[h1]
  ·by_cases h2:b<a
   ·have h3:a≠b:=by rintro rfl;exact UInt8.lt_irrefl _ h2
    simp[h1,h2,h3]
   ·have:a=b:=UInt8.le_antisymm (UInt8.not_lt.1 h2) (UInt8.not_lt.1 h1);subst this;simp[h1,ih]
theorem zV2 (a b:ByteArray)(st:ISt):ICall prog gl 150 [.raw (.string a),.raw (.string b)] st (λr st'=>r=.raw (.int .i64 (cmpB a b))/\st'=st):=by
 intro B X rs hg hst hv;have hr:rs=[.string a,.string b]:=by
  match rs,hv with
  | [r,r'],hv=>rw[V.raw_inv (hv.2 0 r _ rfl rfl),V.raw_inv (hv.2 1 r' _ rfl rfl)]
  | [],hv=>cases hv.1
  | [_],hv=>cases hv.1
  | _::_::_::_,hv=>cases hv.1
 subst hr;refine Calls.mono (zZk a b X.w) ?_;rintro e w' ⟨rfl,rfl⟩;refine⟨_,rfl,X,.raw (.int .i64 (cmpB a b)),rfl,hg,Ext.refl X,?_,rfl,hst⟩;rw[yG5];exact .raw _ trivial
theorem xZi (a b:ByteArray)(st:ISt):ICall prog gl 101 [.raw (.string a),.raw (.string b)] st (λr st'=>r=.raw (.int .i64 (cmpB a b))/\st'=st):=by
 refine iI func101 ?_;simp only[go_sem,zE,zA,reduceCtorEq];refine (zV2 gl a b _).mono ?_;rintro _ _ ⟨rfl,rfl⟩;simp only[go_sem];exact yQ0 ⟨rfl,rfl⟩
theorem zVr (a:Nat)(st:ISt):ICall prog gl 149 [.raw (.int .u8 a)] st (λr st'=>r=.raw (.bool false)/\st'=st):=by
 refine iI func149 ?_;simp only[go_sem,zE,reduceCtorEq];exact yQ0 ⟨rfl,rfl⟩
theorem xWn (a b:Nat)(st:ISt):ICall prog gl 100 [.raw (.int .u8 a),.raw (.int .u8 b)] st (λr st'=>r=.raw (.int .i64 (cmpN a b))/\st'=st):=by
 refine iI func100 ?_;simp only[go_sem,zA,reduceCtorEq];refine (zVr gl a _).mono ?_;rintro _ _ ⟨rfl,rfl⟩;simp only[go_sem,zE,zA];refine (zVr gl b _).mono ?_;rintro _ _ ⟨rfl,rfl⟩;unfold cmpN;by_cases h1:a<b
 ·simp only[go_sem,zE,reduceCtorEq,lt_i h1];exact yQ0 ⟨by rw[if_pos h1],rfl⟩
 ·by_cases h2:b<a
  ·simp only[go_sem,zE,reduceCtorEq,yQj h1,lt_i h2];exact yQ0 ⟨by rw[if_neg h1,if_pos h2],rfl⟩
  ·simp only[go_sem,zE,reduceCtorEq,yQj h1,yQj h2];exact yQ0 ⟨by rw[if_neg h1,if_neg h2],rfl⟩
theorem xVh (a:Nat)(st:ISt):ICall prog gl 185 [.raw (.int .i64 a)] st (λr st'=>r=.raw (.bool false)/\st'=st):=by
 refine iI func185 ?_;simp only[go_sem,zE,reduceCtorEq];exact yQ0 ⟨rfl,rfl⟩
theorem xVi (a b:Nat)(st:ISt):ICall prog gl 151 [.raw (.int .i64 a),.raw (.int .i64 b)] st (λr st'=>r=.raw (.int .i64 (cmpN a b))/\st'=st):=by
 refine iI func151 ?_;simp only[go_sem,zA,reduceCtorEq];refine (xVh gl a _).mono ?_;rintro _ _ ⟨rfl,rfl⟩;simp only[go_sem,zE,zA];refine (xVh gl b _).mono ?_;rintro _ _ ⟨rfl,rfl⟩;unfold cmpN;by_cases h1:a<b
 ·simp only[go_sem,zE,reduceCtorEq,lt_i h1];exact yQ0 ⟨by rw[if_pos h1],rfl⟩
 ·by_cases h2:b<a
  ·simp only[go_sem,zE,reduceCtorEq,yQj h1,lt_i h2];exact yQ0 ⟨by rw[if_neg h1,if_pos h2],rfl⟩
  ·simp only[go_sem,zE,reduceCtorEq,yQj h1,yQj h2];exact yQ0 ⟨by rw[if_neg h1,if_neg h2],rfl⟩
theorem wYg {t:Tm}{x:IV}(h:IsTm t x):∃v n tg xs,x=.agg [.raw (.bool v),.raw (.string n),.sl tg xs]:=by
 obtain⟨v,n,us⟩:=t;obtain⟨tg,xs,rfl,_⟩:=h.mk;exact⟨_,_,_,_,rfl⟩
theorem zQb {α:Type}{f:α->α->Int}{g:List α->List α->Int}(g0:g [] []=0)(g1:∀a b l m,g (a::l) (b::m)=lexI (f a b) (g l m)):∀(l m l' m':List α),l.length=m.length->g (l++l') (m++m')=lexI (g l m) (g l' m')
 | [],[],l',m',_=>by rw[g0];simp[lexI]
 | a::l,b::m,l',m',h=>by
  rw[List.cons_append,List.cons_append,g1,g1,zQb g0 g1 l m l' m' (by simpa using h)];unfold lexI;by_cases h1:f a b=0
  ·simp[h1]
  ·simp[h1]
 | [],_::_,_,_,h=>by simp at h
 | _::_,[],_,_,h=>by simp at h
theorem i0 (x:Int)(h:x=0):decide (x=0)=true:=dEt h
theorem i1 (x:Int)(h:¬ x=0):decide (x=0)=false:=dEf h
def CmpT (a:Tm):Prop:=∀(b:Tm) (x y:IV) (_:IsTm a x) (_:IsTm b y) (st:ISt),ICall prog gl 103 [x,y] st (λr st'=>r=.raw (.int .i64 (yWs a b))/\st'=st)
def CmpF (a:Fm):Prop:=∀(b:Fm) (x y:IV) (_:IsFm a x) (_:IsFm b y) (st:ISt),ICall prog gl 68 [x,y] st (λr st'=>r=.raw (.int .i64 (yXq a b))/\st'=st)
theorem xW6 (us:List Tm)(IH:∀a∈us,CmpT gl a)(ws:List Tm)(t t':Tag)(xs ys:List IV)(ht:okEs t 3)(ht':okEs t' 3)(ha:IsTms us xs)(hb:IsTms ws ys)(st:ISt) :
  ICall prog gl 102 [.sl t xs,.sl t' ys,.fn (.func 103) [] []] st (λr st'=>r=.raw (.int .i64 (lenL yKf us ws))/\st'=st):=by
 refine iI func102 ?_;simp only[go_sem,zE,zA,reduceCtorEq,ha.len,hb.len];intro hla hlb;refine (xVi gl us.length ws.length _).mono ?_;rintro _ st ⟨rfl,rfl⟩;unfold lenL;by_cases h0:cmpN us.length ws.length=0
 ·have hlen:=yXj.1 h0;simp only[go_sem,reduceCtorEq,i0 _ h0,ha.len];intro _;refine LoopC.ctr us.length (λk fr st' ds=>yKf (us.take k) (ws.take k)=0/\fr 0=.iv (.sl t xs)/\fr 1=.iv (.sl t' ys)/\fr 2=.iv (.fn (.func 103) [] [])/\fr 19=.iv (.raw (.int .i64 us.length))/\fr 20=.iv (.raw (.int .i64 k))/\st'=st/\ds=[]) ?_ ?_ ?_
  ·simp only[go_sem,zE,reduceCtorEq];exact⟨yV8,rfl⟩
  ·rintro k fr st1 _ hlt ⟨hn,f0,f1,f2,f19,f20,rfl,rfl⟩;obtain⟨a,hka⟩:=yQ3 hlt;obtain⟨b,hkb⟩:=yQ3 (l:=ws) (k:=k) (by omega);obtain⟨x,hkx,hx⟩:=ha.get hka;obtain⟨y,hky,hy⟩:=hb.get hkb;have hcall:=IH a (lMg hka) b x y hx hy st1;have htl:(us.take k).length=(ws.take k).length:=by rw[List.length_take,List.length_take];omega
   obtain⟨x1,x2,x3,x4,rfl⟩:=wYg hx;obtain⟨y1,y2,y3,y4,rfl⟩:=wYg hy;simp only[go_sem,zE,zB,zA,reduceCtorEq,f0,f1,f2,f19,f20,lt_i hlt,yQ1 ht,yQ1 ht',iNn,hkx,hky,fits];refine hcall.mono ?_;rintro _ _ ⟨rfl,rfl⟩;by_cases hc:yWs a b=0
   ·simp only[go_sem,zE,reduceCtorEq,i0 _ hc,f0,f1,f2,f19,f20,yQ9 hlt (show us.length<=281474976710656 by omega)];rw[yQ5 hka,yQ5 hkb,zQb yV8 yV7 _ _ _ _ htl,hn,yV7,yV8,hc];simp[lexI]
   ·simp only[go_sem,zE,i1 _ hc];refine yQ0 ⟨?_,rfl⟩;rw[h0];have h2:yKf us ws=yWs a b:=by
     conv=>lhs;rw[<- List.take_append_drop k us,<- List.take_append_drop k ws]
     rw[List.drop_eq_getElem_cons hlt,List.drop_eq_getElem_cons (show k<ws.length by omega),zQb yV8 yV7 _ _ _ _ htl,hn,yV7,(lGs hka).2,(lGs hkb).2];simp[lexI,hc]
    rw[h2];simp[lexI]
  ·rintro fr st1 _ ⟨hn,f0,f1,f2,f19,f20,rfl,rfl⟩;rw[lTl,show ws.take us.length=ws by rw[hlen,lTl]] at hn;simp only[go_sem,f19,f20,yQj (nLi _)];exact yQ0 ⟨by rw[h0,hn];simp[lexI],rfl⟩
 ·simp only[go_sem,zE,i1 _ h0];exact yQ0 ⟨by simp[lexI,h0],rfl⟩
theorem xZ8 (v:Bool)(n:ByteArray)(us:List Tm)(IH:∀a∈us,CmpT gl a):CmpT gl (.mk v n us):=by
 rintro⟨w,m,ws⟩ x y hx hy st;obtain⟨tx,cx,rfl,htx,hcx⟩:=hx.mk;obtain⟨ty,cy,rfl,hty,hcy⟩:=hy.mk;have hl:=λst=>xW6 gl us IH ws tx ty cx cy htx hty hcx hcy st;simp only[yWs];refine iI func103 ?_;by_cases hv:v=w
 ·subst hv;simp only[go_sem,zE,zA,beq_self_eq_true];refine (xZi gl n m _).mono ?_;rintro _ _ ⟨rfl,rfl⟩;by_cases h0:cmpB n m=0
  ·simp only[go_sem,zE,zA,i0 _ h0];refine (hl _).mono ?_;rintro _ _ ⟨rfl,rfl⟩;simp only[go_sem];exact yQ0 ⟨by simp[lexI,h0,lenL],rfl⟩
  ·simp only[go_sem,zE,i1 _ h0];exact yQ0 ⟨by simp[lexI,h0],rfl⟩
 ·cases v<;>cases w<;>first|exact absurd rfl hv|skip
  all_goals
   simp only[go_sem,zE,reduceCtorEq,beq_eq_false_iff_ne.2 hv];exact yQ0 ⟨by simp,rfl⟩
theorem zKk:∀(k:Nat)(t:Tm),SizeOf.sizeOf t<k->CmpT gl t
 | 0,t,h=>by omega
 | k+1,.mk v n us,h=>xZ8 gl v n us (λa ha=>zKk k a (by
   have:=lSm ha;simp at h;omega))
theorem wXd (t:Tm):CmpT gl t:=zKk gl _ t (Nat.lt_succ_self _)
theorem wV5 (us:List Fm)(IH:∀a∈us,CmpF gl a)(ws:List Fm)(t t':Tag)(xs ys:List IV)(ht:okEs t 4)(ht':okEs t' 4)(ha:IsFms us xs)(hb:IsFms ws ys)(st:ISt) :
  ICall prog gl 104 [.sl t xs,.sl t' ys,.fn (.func 68) [] []] st (λr st'=>r=.raw (.int .i64 (lenL yG6 us ws))/\st'=st):=by
 refine iI func104 ?_;simp only[go_sem,zE,zA,reduceCtorEq,ha.len,hb.len];intro hla hlb;refine (xVi gl us.length ws.length _).mono ?_;rintro _ st ⟨rfl,rfl⟩;unfold lenL;by_cases h0:cmpN us.length ws.length=0
 ·have hlen:=yXj.1 h0;simp only[go_sem,reduceCtorEq,i0 _ h0,ha.len];intro _;refine LoopC.ctr us.length (λk fr st' ds=>yG6 (us.take k) (ws.take k)=0/\fr 0=.iv (.sl t xs)/\fr 1=.iv (.sl t' ys)/\fr 2=.iv (.fn (.func 68) [] [])/\fr 19=.iv (.raw (.int .i64 us.length))/\fr 20=.iv (.raw (.int .i64 k))/\st'=st/\ds=[]) ?_ ?_ ?_
  ·simp only[go_sem,zE,reduceCtorEq];exact⟨yUn,rfl⟩
  ·rintro k fr st1 _ hlt ⟨hn,f0,f1,f2,f19,f20,rfl,rfl⟩;obtain⟨a,hka⟩:=yQ3 hlt;obtain⟨b,hkb⟩:=yQ3 (l:=ws) (k:=k) (by omega);obtain⟨x,hkx,hx⟩:=ha.get hka;obtain⟨y,hky,hy⟩:=hb.get hkb;have hcall:=IH a (lMg hka) b x y hx hy st1;have htl:(us.take k).length=(ws.take k).length:=by rw[List.length_take,List.length_take];omega
   obtain⟨x1,x2,x3,x4,x5,x6,rfl⟩:=hx.agg;obtain⟨y1,y2,y3,y4,y5,y6,rfl⟩:=hy.agg;simp only[go_sem,zE,zB,zA,reduceCtorEq,f0,f1,f2,f19,f20,lt_i hlt,yQ1 ht,yQ1 ht',iNn,hkx,hky,fits];refine hcall.mono ?_;rintro _ _ ⟨rfl,rfl⟩;by_cases hc:yXq a b=0
   ·simp only[go_sem,zE,reduceCtorEq,i0 _ hc,f0,f1,f2,f19,f20,yQ9 hlt (show us.length<=281474976710656 by omega)];rw[yQ5 hka,yQ5 hkb,zQb yUn yUm _ _ _ _ htl,hn,yUm,yUn,hc];simp[lexI]
   ·simp only[go_sem,zE,i1 _ hc];refine yQ0 ⟨?_,rfl⟩;rw[h0];have h2:yG6 us ws=yXq a b:=by
     conv=>lhs;rw[<- List.take_append_drop k us,<- List.take_append_drop k ws]
     rw[List.drop_eq_getElem_cons hlt,List.drop_eq_getElem_cons (show k<ws.length by omega),zQb yUn yUm _ _ _ _ htl,hn,yUm,(lGs hka).2,(lGs hkb).2];simp[lexI,hc]
    rw[h2];simp[lexI]
  ·rintro fr st1 _ ⟨hn,f0,f1,f2,f19,f20,rfl,rfl⟩;rw[lTl,show ws.take us.length=ws by rw[hlen,lTl]] at hn;simp only[go_sem,f19,f20,yQj (nLi _)];exact yQ0 ⟨by rw[h0,hn];simp[lexI],rfl⟩
 ·simp only[go_sem,zE,i1 _ h0];exact yQ0 ⟨by simp[lexI,h0],rfl⟩
theorem xZ9 (o:Nat)(n:ByteArray)(us:List Tm)(sub:List Fm)(IH:∀a∈sub,CmpF gl a):CmpF gl (.mk o n us sub):=by
 rintro⟨w,m,ws,sub'⟩ x y hx hy st;obtain⟨t1,x1,t2,x2,rfl,_,e1,i1',e2,i2⟩:=hx.mk;obtain⟨t3,x3,t4,x4,rfl,_,e3,i3,e4,i4⟩:=hy.mk;have hl1:=λst=>xW6 gl us (λa _=>wXd gl a) ws t1 t3 x1 x3 e1 e3 i1' i3 st;have hl2:=λst=>wV5 gl sub IH sub' t2 t4 x2 x4 e2 e4 i2 i4 st;simp only[yXq];refine iI func68 ?_;simp only[go_sem,zE,zA];refine (xWn gl o w _).mono ?_;rintro _ _ ⟨rfl,rfl⟩;by_cases h0:cmpN o w=0
 ·simp only[go_sem,zE,zA,i0 _ h0];refine (xZi gl n m _).mono ?_;rintro _ _ ⟨rfl,rfl⟩;by_cases h1:cmpB n m=0
  ·simp only[go_sem,zE,zA,i0 _ h1];refine (hl1 _).mono ?_;rintro _ _ ⟨rfl,rfl⟩;by_cases h2:lenL yKf us ws=0
   ·simp only[go_sem,zE,zA,i0 _ h2];refine (hl2 _).mono ?_;rintro _ _ ⟨rfl,rfl⟩;simp only[go_sem];refine yQ0 ⟨?_,rfl⟩;unfold lenL at h2 ⊢;rw[h0,h1,h2];simp[lexI]
   ·simp only[go_sem,zE,i1 _ h2];refine yQ0 ⟨?_,rfl⟩;unfold lenL at h2 ⊢;rw[h0,h1];generalize lexI (cmpN us.length ws.length) (yKf us ws)=q at h2 ⊢;simp[lexI,h2]
  ·simp only[go_sem,zE,i1 _ h1];exact yQ0 ⟨by rw[h0];simp[lexI,h1],rfl⟩
 ·simp only[go_sem,zE,i1 _ h0];exact yQ0 ⟨by simp[lexI,h0],rfl⟩
theorem zKm:∀(k:Nat)(t:Fm),SizeOf.sizeOf t<k->CmpF gl t
 | 0,t,h=>by omega
 | k+1,.mk o n us sub,h=>xZ9 gl o n us sub (λa ha=>zKm k a (by
   have:=lSm ha;simp at h;omega))
theorem xZa (t:Fm):CmpF gl t:=zKm gl _ t (Nat.lt_succ_self _)
theorem xUr (a b:Fm)(x y:IV)(hx:IsFm a x)(hy:IsFm b y)(st:ISt):ICall prog gl 70 [x,y] st (λr st'=>r=.raw (.bool (decide (yXq a b=0)))/\st'=st):=by
 have hc:=λst=>xZa gl a b x y hx hy st;obtain⟨x1,x2,x3,x4,x5,x6,rfl⟩:=hx.agg;obtain⟨y1,y2,y3,y4,y5,y6,rfl⟩:=hy.agg;refine iI func70 ?_;simp only[go_sem,zE,zA,zL];refine (hc _).mono ?_;rintro _ _ ⟨rfl,rfl⟩;simp only[go_sem];exact yQ0 ⟨rfl,rfl⟩
end Go.Proofs.Tryz
namespace Go.Proofs.Tryz
open Go Go.Iv
set_option maxRecDepth 4000
variable (gl:Nat->Option IV)
def sCT (us:List Tm):Prop:=∀(tg:Tag) (xs:List IV) (_:okEs tg 3) (_:IsTms us xs) (_:yQ8 us<=1099511627776) (st:ISt),
 ICall prog gl 91 [.sl tg xs,.fn (.func 92) [] []] st (λr st'=>∃tg' ys,r=.sl tg' ys/\okEs tg' 3/\appT us.length tg'/\IsTmsD us ys/\st'=st)
theorem zVa (v:Bool)(n:ByteArray)(us:List Tm)(IH:sCT gl us)(x:IV)(hx:IsTm (.mk v n us) x)(hs:(Tm.mk v n us).size<=1099511627776)(st:ISt) :
  ICall prog gl 92 [x] st (λr st'=>IsTmD (.mk v n us) r/\st'=st):=by
 obtain⟨tx,cx,rfl,htx,hcx⟩:=hx.mk;simp only[Tm.size] at hs;have hcall:=IH tx cx htx hcx (by omega) st;refine iI func92 ?_;simp only[go_sem,zE,zA];refine hcall.mono ?_;rintro _ _ ⟨tg',ys,rfl,he,ha,hys,rfl⟩;simp only[go_sem,zE,zA,zL,fits];exact yQ0 ⟨IsTmD.intro he ha hys,rfl⟩
theorem zJc (us:List Tm)(IH:∀v n l,Tm.mk v n l∈us->sCT gl l):sCT gl us:=by
 intro tg xs htg hxs hsz st;have hlsz:=yXz us;refine iI func91 ?_;simp only[go_sem,reduceCtorEq,hxs.len];intro _;refine yZ7 (λh=>?_) (λh=>?_)
 ·obtain rfl:us=[]:=List.eq_nil_of_length_eq_zero (by simpa using h);simp only[go_sem];exact yQ0 ⟨_,_,rfl,.inl rfl,.inl rfl,IsTmsD.nil,rfl⟩
 have hpos:0<us.length:=Nat.pos_of_ne_zero λh0=>by simp[h0] at h
 simp only[go_sem,reduceCtorEq,hxs.len];intro _;refine yQv ⟨iNn _,by omega,by omega⟩ λg=>yQc λhg=>?_;intro _;refine LoopC.ctr us.length (λk fr st' ds=>(∃tg' ys,fr 5=.iv (.sl tg' ys)/\IsTmsD (us.take k) ys/\appT us.length tg'/\own st' tg' k 3 st/\subSt st st')/\fr 1=.iv (.fn (.func 92) [] []) /\
  fr 14=.iv (.sl tg xs)/\fr 15=.iv (.raw (.int .i64 us.length))/\fr 16=.iv (.raw (.int .i64 k))/\ds=[]) ?_ ?_ ?_
 ·simp only[go_sem,zE];exact⟨⟨_,_,rfl,IsTmsD.nil,.inr ⟨hpos,rfl,g,rfl⟩,.inr (.inr ⟨g,rfl,ISt.put_same _ _ _,hg⟩),yZa (subSt.refl _) hg⟩,rfl⟩
 ·rintro k fr st1 _ hlt ⟨⟨tg',ys,f5,hys,hap,hown,hsub⟩,f1,f14,f15,f16,rfl⟩;obtain⟨a,ha⟩:=yQ3 hlt;obtain⟨x,hkx,hx⟩:=hxs.get ha;obtain⟨h1,h2⟩:=yZm ha;have hlen2:ys.length=k:=by rw[hys.len,List.length_take];omega
  obtain⟨v2,n2,m⟩:=a;have hcall:=zVa gl v2 n2 m (IH _ _ _ (lMg ha)) x hx (by omega) st1;obtain⟨tx,cx,rfl,htx,hcx⟩:=hx.mk;simp only[go_sem,zE,zB,zA,zL,f1,f5,f14,f15,f16,lt_i hlt,yQ1 htg,iNn,hkx,fits];refine hcall.mono ?_;rintro r _ ⟨hr,rfl⟩;have hn:IsTmsD (us.take (k+1)) (ys++[r]):=by
   rw[yQ5 ha];exact hys.append (IsTmsD.one hr)
  obtain⟨t3,x3,rfl,_⟩:=IsTmD.mk hr;simp only[go_sem,zE,zA,zM,zL,fits,yQ2];refine yZz hown hlen2 hsub rfl (by simp[fits,IV.one]) (by simp only;omega) (by omega) λtg2 st4 hown2 hsub4 _ hap2=>?_;simp only[go_sem,zE,f1,f14,f15,f16,yQ9 hlt (show us.length<=281474976710656 by omega)];exact⟨tg2,_,rfl,hn,hap2.pos hpos,hown2,hsub4⟩
 ·rintro fr st1 _ ⟨⟨tg',ys,f5,hys,hap,hown,hsub⟩,f1,f14,f15,f16,rfl⟩;rw[lTl] at hys;simp only[go_sem,zE,f5,f15,f16,yQj (nLi _)];exact yQa (st':=st) hsub ⟨tg',ys,rfl,hown.es,hap,hys,rfl⟩
theorem yGw:∀(k:Nat)(us:List Tm),SizeOf.sizeOf us<k->sCT gl us
 | 0,f,h=>by omega
 | k+1,us,h=>zJc gl us (λv n l ha=>yGw k l (by
   have:=lSm ha;simp at this;omega))
theorem zUe (us:List Tm):sCT gl us:=yGw gl _ us (Nat.lt_succ_self _)
def sCF (f:Fm):Prop:=∀(x:IV) (_:IsFm f x) (_:f.size<=1099511627776) (st:ISt),ICall prog gl 65 [x] st (λr st'=>IsFmD f r/\st'=st)
theorem zJd (us:List Fm)(IH:∀a∈us,sCF gl a)(tg:Tag)(xs:List IV)(htg:okEs tg 4)(hxs:IsFms us xs)(hsz:yQ7 us<=1099511627776)(st:ISt) :
  ICall prog gl 93 [.sl tg xs,.fn (.func 65) [] []] st (λr st'=>∃tg' ys,r=.sl tg' ys/\okEs tg' 4/\appT us.length tg'/\IsFmsD us ys/\st'=st):=by
 have hlsz:=yZn us;refine iI func93 ?_;simp only[go_sem,reduceCtorEq,hxs.len];intro _;refine yZ7 (λh=>?_) (λh=>?_)
 ·obtain rfl:us=[]:=List.eq_nil_of_length_eq_zero (by simpa using h);simp only[go_sem];exact yQ0 ⟨_,_,rfl,.inl rfl,.inl rfl,IsFmsD.nil,rfl⟩
 have hpos:0<us.length:=Nat.pos_of_ne_zero λh0=>by simp[h0] at h
 simp only[go_sem,reduceCtorEq,hxs.len];intro _;refine yQv ⟨iNn _,by omega,by omega⟩ λg=>yQc λhg=>?_;intro _;refine LoopC.ctr us.length (λk fr st' ds=>(∃tg' ys,fr 5=.iv (.sl tg' ys)/\IsFmsD (us.take k) ys/\appT us.length tg'/\own st' tg' k 4 st/\subSt st st')/\fr 1=.iv (.fn (.func 65) [] []) /\
  fr 14=.iv (.sl tg xs)/\fr 15=.iv (.raw (.int .i64 us.length))/\fr 16=.iv (.raw (.int .i64 k))/\ds=[]) ?_ ?_ ?_
 ·simp only[go_sem,zE];exact⟨⟨_,_,rfl,IsFmsD.nil,.inr ⟨hpos,rfl,g,rfl⟩,.inr (.inr ⟨g,rfl,ISt.put_same _ _ _,hg⟩),yZa (subSt.refl _) hg⟩,rfl⟩
 ·rintro k fr st1 _ hlt ⟨⟨tg',ys,f5,hys,hap,hown,hsub⟩,f1,f14,f15,f16,rfl⟩;obtain⟨a,ha⟩:=yQ3 hlt;obtain⟨x,hkx,hx⟩:=hxs.get ha;obtain⟨h1,h2⟩:=yQu ha;have hlen2:ys.length=k:=by rw[hys.len,List.length_take];omega
  have hcall:=IH a (lMg ha) x hx (by omega) st1;obtain⟨o5,n5,t5,x5,t6,x6,rfl⟩:=hx.agg;simp only[go_sem,zE,zB,zA,zL,f1,f5,f14,f15,f16,lt_i hlt,yQ1 htg,iNn,hkx,fits];refine hcall.mono ?_;rintro r _ ⟨hr,rfl⟩;have hn:IsFmsD (us.take (k+1)) (ys++[r]):=by
   rw[yQ5 ha];exact hys.append (IsFmsD.one hr)
  obtain⟨o7,n7,t7,x7,t8,x8,rfl⟩:=IsFmD.aggs hr;simp only[go_sem,zE,zA,zM,zL,fits,yQ2];refine yZz hown hlen2 hsub rfl (by simp[fits,IV.one]) (by simp only;omega) (by omega) λtg2 st4 hown2 hsub4 _ hap2=>?_;simp only[go_sem,zE,f1,f14,f15,f16,yQ9 hlt (show us.length<=281474976710656 by omega)];exact⟨tg2,_,rfl,hn,hap2.pos hpos,hown2,hsub4⟩
 ·rintro fr st1 _ ⟨⟨tg',ys,f5,hys,hap,hown,hsub⟩,f1,f14,f15,f16,rfl⟩;rw[lTl] at hys;simp only[go_sem,zE,f5,f15,f16,yQj (nLi _)];exact yQa (st':=st) hsub ⟨tg',ys,rfl,hown.es,hap,hys,rfl⟩
theorem xY3 (o:Nat)(n:ByteArray)(us:List Tm)(sub:List Fm)(IH:∀a∈sub,sCF gl a):sCF gl (.mk o n us sub):=by
 intro x hx hs st;obtain⟨t1,x1,t2,x2,rfl,ho,ht1,hx1,ht2,hx2⟩:=hx.mk;simp only[Fm.size] at hs;have hc1:=zUe gl us t1 x1 ht1 hx1 (by omega) st;have hc2:=zJd gl sub IH t2 x2 ht2 hx2 (by omega) st;refine ICall.intro (c:=cf prog gl [] [(1,[0,1,2,3,4,5,7,8,6,9,10,11])]) func65 rfl (by show _<=14;simp) (by kernel_rfl) ?_;simp only[go_sem,zE,zA];refine hc1.mono ?_;rintro _ _ ⟨tg',ys,rfl,he,ha,hys,rfl⟩;simp only[go_sem,zE,zA];refine hc2.mono ?_;rintro _ _ ⟨tg2,ys2,rfl,he2,ha2,hys2,rfl⟩;simp only[go_sem,zE,zA,zL,fits];exact yQ0 ⟨IsFmD.intro ho he ha hys he2 ha2 hys2,rfl⟩
theorem zUd:∀(k:Nat)(f:Fm),SizeOf.sizeOf f<k->sCF gl f
 | 0,f,h=>by omega
 | k+1,.mk o n us sub,h=>xY3 gl o n us sub (λa ha=>zUd k a (by
   have:=lSm ha;simp only[Fm.mk.sizeOf_spec] at h;omega))
theorem wG2 (f:Fm):sCF gl f:=zUd gl _ f (Nat.lt_succ_self _)
theorem xJc (us:List Fm)(tg:Tag)(xs:List IV)(htg:okEs tg 4)(hxs:IsFms us xs)(hsz:yQ7 us<=1099511627776)(st:ISt) :
  ICall prog gl 49 [.sl tg xs] st (λr st'=>∃tg' ys,r=.sl tg' ys/\okEs tg' 4/\(appT us.length tg'/\tg'.fresh=true)/\IsFmsD us ys/\own st' tg' us.length 4 st/\subSt st st'):=by
 have hlsz:=yZn us;refine iI func49 ?_;simp only[go_sem,reduceCtorEq,hxs.len];intro _;refine LoopC.ctr us.length (λk fr st' ds=>(∃tg' ys,fr 3=.iv (.sl tg' ys)/\IsFmsD (us.take k) ys/\(appT k tg'/\tg'.fresh=true)/\own st' tg' k 4 st/\subSt st st') /\
  fr 6=.iv (.sl tg xs)/\fr 7=.iv (.raw (.int .i64 us.length))/\fr 8=.iv (.raw (.int .i64 k))/\ds=[]) ?_ ?_ ?_
 ·simp only[go_sem,zE];exact⟨⟨_,_,rfl,IsFmsD.nil,⟨.inl rfl,rfl⟩,own.nil _ _ _ _ _,subSt.refl _⟩,rfl⟩
 ·rintro k fr st1 _ hlt ⟨⟨tg',ys,f3,hys,hap,hown,hsub⟩,f6,f7,f8,rfl⟩;obtain⟨a,ha⟩:=yQ3 hlt;obtain⟨x,hkx,hx⟩:=hxs.get ha;obtain⟨h1,h2⟩:=yQu ha;have hlen2:ys.length=k:=by rw[hys.len,List.length_take];omega
  have hcall:=wG2 gl a x hx (by omega) st1;obtain⟨o5,n5,t5,x5,t6,x6,rfl⟩:=hx.agg;simp only[go_sem,zE,zB,zA,zL,f3,f6,f7,f8,lt_i hlt,yQ1 htg,iNn,hkx,fits];refine hcall.mono ?_;rintro r _ ⟨hr,rfl⟩;have hn:IsFmsD (us.take (k+1)) (ys++[r]):=by
   rw[yQ5 ha];exact hys.append (IsFmsD.one hr)
  obtain⟨o7,n7,t7,x7,t8,x8,rfl⟩:=IsFmD.aggs hr;simp only[go_sem,zE,zA,zM,zL,fits,yQ2];refine yZz hown hlen2 hsub rfl (by simp[fits,IV.one]) (by simp only;omega) (by omega) λtg2 st4 hown2 hsub4 _ hap2=>?_;simp only[go_sem,zE,f6,f7,f8,yQ9 hlt (show us.length<=281474976710656 by omega)];exact⟨tg2,_,rfl,hn,⟨hap2,by
   rcases hown2 with⟨h0,_⟩|rfl|⟨_,rfl,_⟩
   ·omega
   ·rfl
   ·rfl⟩,hown2,hsub4⟩
 ·rintro fr st1 _ ⟨⟨tg',ys,f3,hys,hap,hown,hsub⟩,f6,f7,f8,rfl⟩;rw[lTl] at hys;simp only[go_sem,zE,f3,f7,f8,yQj (nLi _)];exact yQ0 ⟨tg',ys,rfl,hown.es,hap,hys,hown,hsub⟩
end Go.Proofs.Tryz
namespace Go.Proofs.Tryz
open Go Go.Iv
mutual
def opsB (ca:Nat):Fm->Bool
 | .mk op _ us sub=>decide (1<=op)&&decide (op<=if ca=3 then 9 else 7)&&(decide (ca=3) || us.isEmpty)&&yYg ca sub
def yYg (ca:Nat):List Fm->Bool
 | []=>true
 | a::l=>opsB ca a&&yYg ca l
end
def fmB (ca:Nat)(f:Fm):Bool:=f.right&&opsB ca f
def yXo (ca:Nat):Bool:=decide (1<=ca)&&decide (ca<=3)
noncomputable def eqF (a b:Fm):Bool:=decide (a.op=b.op)&&yKg a b
noncomputable def hasF (l:List Fm)(f:Fm):Bool:=l.any (eqF f)
noncomputable def allF (l m:List Fm):Bool:=l.all (hasF m)
noncomputable def yJo (a b:Sq):Bool:=allF a.l b.l&&allF a.r b.r
noncomputable def zZc:List Fm->Bool
 | []=>true
 | a::l=>(a::l).all λf=>eqF f a
noncomputable def yXd (ca:Nat)(s:Sq):Bool :=
 yXo ca&&decide (s.l.length<=64)&&decide (s.r.length<=64)&&s.l.all (fmB ca)&&s.r.all (fmB ca)&&(decide (ca≠2) || zZc s.r)
structure Rw where
 left:Bool
 right:Bool
 op:Nat
 asks:Nat
def rowK (rule:Nat):Option Rw :=
 if rule=1 then some ⟨true,true,0,0⟩ else if rule=2 then some ⟨true,false,2,0⟩ else if rule=3 then some ⟨true,false,3,0⟩ else if rule=4 then some ⟨false,true,3,0⟩
 else if rule=5 then some ⟨true,false,4,0⟩ else if rule=6 then some ⟨false,true,4,0⟩ else if rule=7 then some ⟨true,false,5,0⟩ else if rule=8 then some ⟨false,true,5,0⟩
 else if rule=9 then some ⟨true,false,6,0⟩ else if rule=10 then some ⟨false,true,6,0⟩ else if rule=11 then some ⟨true,false,7,0⟩ else if rule=12 then some ⟨false,true,7,0⟩
 else if rule=17 then some ⟨false,false,0,0⟩ else none
def rowS (ca rule:Nat):Option Rw :=
 if ca=2/\rule=18 then some ⟨false,true,5,0⟩
 else if ca=3/\rule=13 then some ⟨true,false,8,1⟩ else if ca=3/\rule=14 then some ⟨false,true,8,2⟩
 else if ca=3/\rule=15 then some ⟨true,false,9,2⟩ else if ca=3/\rule=16 then some ⟨false,true,9,1⟩ else rowK rule
def bE:ByteArray:=⟨#[]⟩
def impF (a b:Fm):Fm:=.mk 6 bE [] [a,b]
def addS (ca rule:Nat)(main a b:Fm):List Sq :=
 if rule=3 then [⟨[],[a]⟩] else if rule=4 then [⟨[a],[]⟩] else if rule=5 then [⟨[a,b],[]⟩] else if rule=6 then [⟨[],[a]⟩,⟨[],[b]⟩]
 else if rule=7 then [⟨[a],[]⟩,⟨[b],[]⟩] else if rule=8 then (if ca=2 then [⟨[],[a]⟩] else [⟨[],[a,b]⟩]) else if rule=9 then [⟨[],[a]⟩,⟨[b],[]⟩]
 else if rule=10 then [⟨[a],[b]⟩] else if rule=11 then [⟨[impF a b,impF b a],[]⟩] else if rule=12 then [⟨[a],[b]⟩,⟨[b],[a]⟩]
 else if rule=13 then [⟨[a],[]⟩] else if rule=14 then [⟨[],[a]⟩] else if rule=15 then [⟨[a],[]⟩] else if rule=16 then [⟨[],[a]⟩]
 else if rule=17 then [⟨[],[main]⟩,⟨[main],[]⟩] else if rule=18 then [⟨[],[b]⟩] else []
noncomputable def yZj (ca rule:Nat)(r:Rw)(main:Fm)(term:Tm)(name:ByteArray):List Sq×Nat :=
 if !fmB ca main || (decide (r.op≠0)&&decide (main.op≠r.op)) then ([],192)
 else
  let a:=(main.subs[0]?).getD fm0
  let b:=(main.subs[1]?).getD fm0
  if r.asks=0 then (addS ca rule main a b,0)
  else
   let t:=if r.asks=2 then .mk true name [] else term
   if !t.ok then ([],193)
   else if (yZc a [(main.nm,t)]).2≠0 then ([],193) else (addS ca rule main (yZc a [(main.nm,t)]).1 b,0)
noncomputable def yK7 (s:Sq)(n:ByteArray):Bool:=s.l.any (λf=>memB (frF f) n) || s.r.any (λf=>memB (frF f) n)
noncomputable def yZo (ca:Nat)(s:Sq)(rule:Nat)(main:Fm)(term:Tm)(name:ByteArray):List Sq×Nat :=
 if !yXd ca s then ([],190)
 else match rowS ca rule with
  | none=>([],191)
  | some r =>
   if decide ((yZj ca rule r main term name).2=192) || (r.left&&!hasF s.l main) || (r.right&&!hasF s.r main) then ([],192)
   else if (yZj ca rule r main term name).2≠0 then ([],(yZj ca rule r main term name).2)
   else if decide (r.asks=2)&&yK7 s name then ([],193)
   else ((yZj ca rule r main term name).1,0)
noncomputable def yXt (s:Sq):List Sq->List Tr->Bool
 | m::l,t::ts=>yJo t.sq (s.plus m)&&yXt s l ts
 | _,_=>true
noncomputable def yZf (ca:Nat):Tr->Nat
 | .mk rule s main term name sub =>
  if (yZo ca s rule main term name).2≠0 then (yZo ca s rule main term name).2
  else if sub.length≠(yZo ca s rule main term name).1.length then 194
  else if yXt s (yZo ca s rule main term name).1 sub then 0 else 195
noncomputable def yXk (ca:Nat)(t:Tr):List Nat×Nat :=
 if !yXo ca then ([],2) else if 300<t.steps then ([],5) else yQy (yZf ca) (t.walk [])
end Go.Proofs.Tryz
namespace Go.Iv
open Go
section
variable {P:Program}{gl:Nat->Option IV}{f:FuncId}{args args':List IV}{st:ISt}
theorem wWj {X X':WS}{g:Nat}{o:IObj}(h:Ext X X')(h0:X.st g=none)(h1:X'.st g=some o):X.w.heap.size<=g:=by
 by_cases hlt:g<X.w.heap.size
 ·have:=h.dom g hlt h0;grind
 ·omega
theorem zYx {X':WS}{S:ISt}{g:Nat}{cs:List IV}(h0:S g=none)(hst':X'.st=S.put g (some (.box cs))):LendOk X'.st (ISt.put (λ_=>none) g (some (.box cs))) S:=by
 refine⟨λb o hb=>?_,λb o hb=>?_,λb cs' hb=>?_⟩
 ·rw[ISt.put_apply] at hb;split at hb
  ·rename_i hbg;subst hbg;cases hb;rw[hst'];exact ISt.put_same ..
  ·cases hb
 ·rw[hst',ISt.put_apply];grind
 ·rw[ISt.put_apply] at hb;grind
theorem wWi {C:Cx}{X':WS}{S:ISt}{g cap es:Nat}{cs zs:List IV}(h2:Good C X')(h0:S g=none)(hst':X'.st=S.put g (some (.box cs)))(hB:C.B<=g)(hn:zs.length<=140737488355328)(hcap:zs.length<=cap)(hroom:cap*es<=cs.length)
  (htk:cs.take (zs.length*es)=zs.flatMap IV.cells) (hz:∀z∈zs,z.cells.length=es):C.v (X'.lendS (ISt.put (λ_=>none) g (some (.box cs))) S) (.slice (some ⟨g,0,none⟩) zs.length cap) (.sl ⟨true,.app g,es⟩ zs):=by
 have hgs:X'.st g=some (.box cs):=by rw[hst'];exact ISt.put_same ..
 have hex:=h2.lendS_ext (zYx h0 hst');have hs1:(ISt.put (λ_=>none) g (some (.box cs))) g=some (.box cs):=ISt.put_same ..;obtain⟨hL0,c,T,hh,hvl⟩:=h2.ok g _ hgs;have hcl:c.toList.length=cs.length:=hvl.1;have hflat:(zs.flatMap IV.cells).length=zs.length*es:=yQz zs hz;have hle:zs.length*es<=cs.length:=Nat.le_trans (Nat.mul_le_mul_right _ hcap) hroom;refine V.sl (some ⟨g,0,none⟩) cap ⟨true,.app g,es⟩ zs T (c.toList.take (zs.length*es)) rfl hn hcap hz ?_ (λg' hg'=>?_) (λ_ ad had=>?_) (λ_=>⟨_,rfl,rfl,?_,λi r hr=>?_⟩) λi r z hr hz=>?_
 ·grind
 ·cases hg';refine⟨T,c.size,?_,?_⟩
  ·simp[shq,WS.lendS,hh]
  ·grind
 ·cases had;refine⟨hB,by simp,?_⟩;simp[ety,shq,WS.lendS,hh]
 ·show 0+(c.toList.take (zs.length*es)).length<=(X'.lendS _ S).L g;rw[zG4 hs1,List.length_take];omega
 ·show X'.w.cell? _=_;rw[Nat.zero_add,yZh hh];grind
 ·rw[<- htk,List.getElem?_take] at hz;rw[List.getElem?_take] at hr;split at hr
  ·rename_i hi;rw[if_pos hi] at hz;exact hex.v (hvl.2 i r z hr hz)
  ·cases hr
theorem ICall.fixN {K:IV->ISt->Prop}(h:ICall P gl f args st (λy st'=>K y st'\/∃g n cap cs es zs v,st g=none/\y=.tup [.raw (.slice (some ⟨g,0,none⟩) n cap),.raw v]/\st'=st.put g (some (.box cs)) /\
   zs.length=n/\n<=140737488355328/\n<=cap/\cap*es<=cs.length/\cs.take (n*es)=zs.flatMap IV.cells/\(∀z∈zs,z.cells.length=es)/\K (.tup [.sl ⟨true,.app g,es⟩ zs,.raw v]) st)) :
  ICall P gl f args st K:=by
 intro B X rs hg hst hv;subst hst;refine (h B X rs hg rfl hv).mono ?_;rintro e w' ⟨v,rfl,X',y,rfl,h2,h3,h4,hK|⟨g,n,cap,cs,es,zs,u,h0,rfl,hst',rfl,hn,hcap,hroom,htk,hz,hK⟩⟩
 ·exact⟨v,rfl,X',y,rfl,h2,h3,h4,hK⟩
 have hgn:=wWj h3 h0 (by rw[hst'];exact ISt.put_same ..);have hk:=zYx h0 hst';refine⟨v,rfl,X'.lendS _ X.st,_,rfl,h2.lendS hk,h3.trans (h2.lendS_ext hk),?_,hK⟩;obtain⟨rr,rfl,hr⟩:=V.tup_inv h4;refine .tup rr _ (by rw[hr.1];rfl) λi r x h1 h2x=>?_
 match i,h1,h2x with
 | 1,h1,h2x =>
  cases h2x;exact (h2.lendS_ext hk).v (hr.2 1 r _ h1 rfl)
 | 0,h1,h2x =>
  cases h2x;obtain rfl:=V.raw_inv (hr.2 0 r _ h1 rfl);exact wWi h2 h0 hst' (Nat.le_trans hg.B hgn) hn hcap hroom htk hz
theorem ICall.fixL {K:IV->ISt->Prop}(h:ICall P gl f args st (λy st'=>K y st'\/∃g es zs,st g=none/\y=.raw (.slice (some ⟨g,0,none⟩) zs.length zs.length)/\st'=st.put g (some (.box (zs.flatMap IV.cells))) /\
   zs.length<=140737488355328/\(∀z∈zs,z.cells.length=es)/\K (.sl ⟨true,.app g,es⟩ zs) st)):ICall P gl f args st K:=by
 intro B X rs hg hst hv;subst hst;refine (h B X rs hg rfl hv).mono ?_;rintro e w' ⟨v,rfl,X',y,rfl,h2,h3,h4,hK|⟨g,es,zs,h0,rfl,hst',hn,hz,hK⟩⟩
 ·exact⟨v,rfl,X',y,rfl,h2,h3,h4,hK⟩
 have hgn:=wWj h3 h0 (by rw[hst'];exact ISt.put_same ..);have hk:=zYx h0 hst';have hfl:=yQz zs hz;obtain rfl:=V.raw_inv h4;exact⟨_,rfl,X'.lendS _ X.st,_,rfl,h2.lendS hk,h3.trans (h2.lendS_ext hk),wWi h2 h0 hst' (Nat.le_trans hg.B hgn) hn (Nat.le_refl _) (by rw[hfl];exact Nat.le_refl _) (by rw[<- hfl,lTl]) hz,hK⟩
end
end Go.Iv
namespace Go.Iv
open Go
theorem ICall.give {P:Program}{gl:Nat->Option IV}{f:FuncId}{args:List IV}{st:ISt}{K:IV->ISt->Prop}(h:ICall P gl f args st (λr st'=>∃st0,subSt st0 st'/\K r st0)):ICall P gl f args st K:=by
 intro B X rs hg hst hv;refine (h B X rs hg hst hv).mono ?_;rintro e w' ⟨v,rfl,X',x,rfl,h2,h3,h4,st0,hs,hK⟩;obtain⟨hg1,he1⟩:=h2.sub hs;exact⟨v,rfl,{ X' with st:=st0 },x,rfl,hg1,h3.trans he1,he1.v h4,hK⟩
end Go.Iv
namespace Go.Proofs.Tryz
open Go Go.Iv
set_option maxRecDepth 4000
variable (gl:Nat->Option IV)
theorem yW7 (us:List Fm)(tg:Tag)(xs:List IV)(htg:okEs tg 4)(hxs:IsFms us xs)(hsz:yQ7 us<=1099511627776)(st:ISt) :
  ICall prog gl 49 [.sl tg xs] st (λr st'=>∃tg' ys,r=.sl tg' ys/\okEs tg' 4/\appT us.length tg'/\IsFmsD us ys/\st'=st) :=
 ICall.give ((xJc gl us tg xs htg hxs hsz st).mono λr st' h=>by
  obtain⟨tg',ys,rfl,he,ha,hys,_,hsub⟩:=h;exact⟨st,hsub,tg',ys,rfl,he,ha.1,hys,rfl⟩)
def IsSqD (s:Sq)(x:IV):Prop:=∃t1 x1 t2 x2,x=.agg [.sl t1 x1,.sl t2 x2]/\okEs t1 4/\appT s.l.length t1/\IsFmsD s.l x1/\okEs t2 4/\appT s.r.length t2/\IsFmsD s.r x2
theorem IsSqD.w {s:Sq}{x:IV}(h:IsSqD s x):IsSq s x:=by
 obtain⟨t1,x1,t2,x2,rfl,e1,_,i1,e2,_,i2⟩:=h;exact⟨_,_,_,_,rfl,e1,i1.1,e2,i2.1⟩
def IsSqsD:List Sq->List IV->Prop
 | [],xs=>xs=[]
 | a::l,xs=>∃y ys,xs=y::ys/\IsSqD a y/\IsSqsD l ys
theorem IsSqsD.w:∀ {l:List Sq}{xs:List IV},IsSqsD l xs->IsSqs l xs
 | [],_,h=>h
 | a::l,_,⟨y,ys,h1,h2,h3⟩=>⟨y,ys,h1,h2.w,h3.w⟩
theorem IsSqsD.append:∀ {l m:List Sq}{xs ys:List IV},IsSqsD l xs->IsSqsD m ys->IsSqsD (l++m) (xs++ys)
 | [],m,_,ys,rfl,k=>k
 | a::l,m,_,ys,⟨z,zs,rfl,h2,h3⟩,k=>⟨z,zs++ys,rfl,h2,h3.append k⟩
theorem IsSqsD.mem:∀ {l:List Sq}{xs:List IV},IsSqsD l xs->∀ {k:Nat}{x:IV},xs[k]?=some x->∃s,l[k]?=some s/\IsSqD s x
 | [],_,rfl,k,x,h=>by simp at h
 | a::l,_,⟨y,ys,rfl,h2,h3⟩,0,x,h=>by cases h;exact⟨a,rfl,h2⟩
 | a::l,_,⟨y,ys,rfl,h2,h3⟩,k+1,x,h=>IsSqsD.mem h3 (by simpa using h)
theorem IsSqD.one {s:Sq}{x:IV}(h:IsSqD s x):x.cells.length=2/\∀c∈x.cells,c.one=true:=by
 obtain⟨t1,x1,t2,x2,rfl,_⟩:=h;refine⟨rfl,λc hc=>?_⟩;simp only[IV.cells,List.mem_cons,List.not_mem_nil,or_false] at hc;rcases hc with rfl|rfl<;>rfl
theorem yZr {l:List Sq}{xs:List IV}(h:IsSqsD l xs):∀z∈xs,z.cells.length=2:=λz hz=>by
 obtain⟨k,hk⟩:=List.mem_iff_getElem?.1 hz;obtain⟨s,_,hs⟩:=h.mem hk;exact hs.one.1
theorem IsSq.two {s:Sq}{x:IV}(h:IsSq s x):∃t xs t' ys,x=.agg [.sl t xs,.sl t' ys]:=by
 obtain⟨t,xs,t',ys,rfl,_⟩:=h;exact⟨_,_,_,_,rfl⟩
theorem zZu (us:List Fm)(tg:Tag)(xs:List IV)(htg:okEs tg 4)(hxs:IsFms us xs)(hsz:yQ7 us<=1099511627776)(st:ISt) :
  ICall prog gl 82 [.sl tg xs] st (λr st'=>IsSqD ⟨us,[]⟩ r/\st'=st):=by
 refine iI func82 ?_;simp only[go_sem,zA,reduceCtorEq];refine (yW7 gl us tg xs htg hxs hsz _).mono ?_;rintro _ _ ⟨tg',ys,rfl,he,ha,hys,rfl⟩;simp only[go_sem,zE,zA,zL,fits];exact yQ0 ⟨⟨_,_,_,_,rfl,he,ha,hys,.inl rfl,.inl rfl,IsFmsD.nil⟩,rfl⟩
theorem yY1 (us:List Fm)(tg:Tag)(xs:List IV)(htg:okEs tg 4)(hxs:IsFms us xs)(hsz:yQ7 us<=1099511627776)(st:ISt) :
  ICall prog gl 79 [.sl tg xs] st (λr st'=>IsSqD ⟨[],us⟩ r/\st'=st):=by
 refine iI func79 ?_;simp only[go_sem,zA,reduceCtorEq];refine (yW7 gl us tg xs htg hxs hsz _).mono ?_;rintro _ _ ⟨tg',ys,rfl,he,ha,hys,rfl⟩;simp only[go_sem,zE,zA,zL,fits];exact yQ0 ⟨⟨_,_,_,_,rfl,.inl rfl,.inl rfl,IsFmsD.nil,he,ha,hys⟩,rfl⟩
theorem yQq (x y:Operand):yV6 2 [(0,x),(1,y)]=true:=rfl
theorem vXj (a b:Fm)(x y:IV)(hx:IsFm a x)(hy:IsFm b y)(st:ISt):ICall prog gl 123 [x,y] st (λr st'=>IsFm (impF a b) r/\st'=st):=by
 have h1:IsFms [a,b] [x,y]:=⟨_,_,rfl,hx,_,_,rfl,hy,rfl⟩
 obtain⟨o5,n5,t5,x5,t6,x6,rfl⟩:=hx.agg;obtain⟨o7,n7,t7,x7,t8,x8,rfl⟩:=hy.agg;refine iI func123 ?_;simp only[go_sem,zE,zA,zM,zL,fits,yQq];exact yQ0 ⟨⟨_,_,_,_,rfl,by decide,.inl rfl,rfl,.inr rfl,h1⟩,rfl⟩
def yYi (id:Nat)(F:Fm->Fm->Fm->List Sq):Prop:=∀(m a b:Fm) (x y z:IV) (_:IsFm m x) (_:IsFm a y) (_:IsFm b z) (_:m.size<=1000000) (_:a.size<=1000000) (_:b.size<=1000000) (st:ISt),
 ICall prog gl id [x,y,z] st (λr st'=>∃tg xs,r=.sl tg xs/\okEs tg 2/\appT (F m a b).length tg/\IsSqsD (F m a b) xs/\st'=st)
theorem sq1 {s:Sq}{x:IV}(h:IsSqD s x):IsSqsD [s] [x]:=⟨_,_,rfl,h,rfl⟩
theorem sq2 {s s':Sq}{x x':IV}(h:IsSqD s x)(h':IsSqD s' x'):IsSqsD [s,s'] [x,x']:=⟨_,_,rfl,h,_,_,rfl,h',rfl⟩
theorem wXw:yYi gl 112 (λ_ _ _=>[]):=by
 intro m a b x y z hx hy hz hm ha hb st;obtain⟨o1,n1,t1,x1,t2,x2,rfl⟩:=hx.agg;obtain⟨o3,n3,t3,x3,t4,x4,rfl⟩:=hy.agg;obtain⟨o5,n5,t5,x5,t6,x6,rfl⟩:=hz.agg;refine iI func112 ?_;simp only[go_sem,zE];exact yQ0 ⟨_,_,rfl,.inl rfl,.inl rfl,rfl,rfl⟩
theorem wXv:yYi gl 113 (λ_ _ _=>[]):=by
 intro m a b x y z hx hy hz hm ha hb st;obtain⟨o1,n1,t1,x1,t2,x2,rfl⟩:=hx.agg;obtain⟨o3,n3,t3,x3,t4,x4,rfl⟩:=hy.agg;obtain⟨o5,n5,t5,x5,t6,x6,rfl⟩:=hz.agg;refine iI func113 ?_;simp only[go_sem,zE];exact yQ0 ⟨_,_,rfl,.inl rfl,.inl rfl,rfl,rfl⟩
theorem wXu:yYi gl 114 (λm a b=>[⟨[],[a]⟩]):=by
 intro m a b x y z hx hy hz hm ha hb st;have hx0:=hx;have hy0:=hy;have hz0:=hz;obtain⟨o1,n1,t1,x1,t2,x2,rfl⟩:=hx.agg;obtain⟨o3,n3,t3,x3,t4,x4,rfl⟩:=hy.agg;obtain⟨o5,n5,t5,x5,t6,x6,rfl⟩:=hz.agg;have ia:=IsFms.one hy0;have ib:=IsFms.one hz0;have im:=IsFms.one hx0;have iab:IsFms [a,b] [_,_]:=⟨_,_,rfl,hy0,ib⟩
 refine ICall.fixL ?_;refine ICall.intro (c:=cf prog gl [10] []) func114 rfl (by show _<=11;simp) (by kernel_rfl) ?_;simp only[go_sem,zE,zA,zM,zL,fits,yQ2];refine (yY1 gl _ _ _ (.inr rfl) ia (by simp only[yQ7];omega) _).mono ?_;rintro r _ ⟨hr,rfl⟩;have h1:=sq1 hr;obtain⟨_,_,_,_,rfl⟩:=IsSq.two hr.w;simp only[go_sem,zA,zM,zL,fits,yQ2];refine λg=>yQc λhg=>?_;exact yQ0 (.inr ⟨g,2,_,hg,rfl,rfl,by simp,yZr h1,_,_,rfl,.inr rfl,.inr ⟨by simp,rfl,g,rfl⟩,h1⟩)
theorem wXt:yYi gl 115 (λm a b=>[⟨[a],[]⟩]):=by
 intro m a b x y z hx hy hz hm ha hb st;have hx0:=hx;have hy0:=hy;have hz0:=hz;obtain⟨o1,n1,t1,x1,t2,x2,rfl⟩:=hx.agg;obtain⟨o3,n3,t3,x3,t4,x4,rfl⟩:=hy.agg;obtain⟨o5,n5,t5,x5,t6,x6,rfl⟩:=hz.agg;have ia:=IsFms.one hy0;have ib:=IsFms.one hz0;have im:=IsFms.one hx0;have iab:IsFms [a,b] [_,_]:=⟨_,_,rfl,hy0,ib⟩
 refine ICall.fixL ?_;refine ICall.intro (c:=cf prog gl [10] []) func115 rfl (by show _<=11;simp) (by kernel_rfl) ?_;simp only[go_sem,zE,zA,zM,zL,fits,yQ2];refine (zZu gl _ _ _ (.inr rfl) ia (by simp only[yQ7];omega) _).mono ?_;rintro r _ ⟨hr,rfl⟩;have h1:=sq1 hr;obtain⟨_,_,_,_,rfl⟩:=IsSq.two hr.w;simp only[go_sem,zA,zM,zL,fits,yQ2];refine λg=>yQc λhg=>?_;exact yQ0 (.inr ⟨g,2,_,hg,rfl,rfl,by simp,yZr h1,_,_,rfl,.inr rfl,.inr ⟨by simp,rfl,g,rfl⟩,h1⟩)
theorem wXs:yYi gl 116 (λm a b=>[⟨[a,b],[]⟩]):=by
 intro m a b x y z hx hy hz hm ha hb st;have hx0:=hx;have hy0:=hy;have hz0:=hz;obtain⟨o1,n1,t1,x1,t2,x2,rfl⟩:=hx.agg;obtain⟨o3,n3,t3,x3,t4,x4,rfl⟩:=hy.agg;obtain⟨o5,n5,t5,x5,t6,x6,rfl⟩:=hz.agg;have ia:=IsFms.one hy0;have ib:=IsFms.one hz0;have im:=IsFms.one hx0;have iab:IsFms [a,b] [_,_]:=⟨_,_,rfl,hy0,ib⟩
 refine ICall.fixL ?_;refine ICall.intro (c:=cf prog gl [11] []) func116 rfl (by show _<=12;simp) (by kernel_rfl) ?_;simp only[go_sem,zE,zA,zM,zL,fits,yQq];refine (zZu gl _ _ _ (.inr rfl) iab (by simp only[yQ7];omega) _).mono ?_;rintro r _ ⟨hr,rfl⟩;have h1:=sq1 hr;obtain⟨_,_,_,_,rfl⟩:=IsSq.two hr.w;simp only[go_sem,zA,zM,zL,fits,yQ2];refine λg=>yQc λhg=>?_;exact yQ0 (.inr ⟨g,2,_,hg,rfl,rfl,by simp,yZr h1,_,_,rfl,.inr rfl,.inr ⟨by simp,rfl,g,rfl⟩,h1⟩)
theorem wXr:yYi gl 117 (λm a b=>[⟨[],[a]⟩,⟨[],[b]⟩]):=by
 intro m a b x y z hx hy hz hm ha hb st;have hx0:=hx;have hy0:=hy;have hz0:=hz;obtain⟨o1,n1,t1,x1,t2,x2,rfl⟩:=hx.agg;obtain⟨o3,n3,t3,x3,t4,x4,rfl⟩:=hy.agg;obtain⟨o5,n5,t5,x5,t6,x6,rfl⟩:=hz.agg;have ia:=IsFms.one hy0;have ib:=IsFms.one hz0;have im:=IsFms.one hx0;have iab:IsFms [a,b] [_,_]:=⟨_,_,rfl,hy0,ib⟩
 refine ICall.fixL ?_;refine ICall.intro (c:=cf prog gl [13] [(1,[0,1,3,4,2,5,6,7])]) func117 rfl (by show _<=14;simp) (by kernel_rfl) ?_;simp only[go_sem,zE,zA,zM,zL,fits,yQ2];refine (yY1 gl _ _ _ (.inr rfl) ia (by simp only[yQ7];omega) _).mono ?_;rintro r _ ⟨hr,rfl⟩;have hr0:=hr;obtain⟨_,_,_,_,rfl⟩:=IsSq.two hr.w;simp only[go_sem,zE,zA];refine (yY1 gl _ _ _ (.inr rfl) ib (by simp only[yQ7];omega) _).mono ?_;rintro r _ ⟨hr,rfl⟩;have h1:=sq2 hr0 hr;obtain⟨_,_,_,_,rfl⟩:=IsSq.two hr.w;simp only[go_sem,zE,zA,zM,zL,fits,yQq];refine λg=>yQc λhg=>?_;exact yQ0 (.inr ⟨g,2,_,hg,rfl,rfl,by simp,yZr h1,_,_,rfl,.inr rfl,.inr ⟨by simp,rfl,g,rfl⟩,h1⟩)
theorem wXq:yYi gl 118 (λm a b=>[⟨[a],[]⟩,⟨[b],[]⟩]):=by
 intro m a b x y z hx hy hz hm ha hb st;have hx0:=hx;have hy0:=hy;have hz0:=hz;obtain⟨o1,n1,t1,x1,t2,x2,rfl⟩:=hx.agg;obtain⟨o3,n3,t3,x3,t4,x4,rfl⟩:=hy.agg;obtain⟨o5,n5,t5,x5,t6,x6,rfl⟩:=hz.agg;have ia:=IsFms.one hy0;have ib:=IsFms.one hz0;have im:=IsFms.one hx0;have iab:IsFms [a,b] [_,_]:=⟨_,_,rfl,hy0,ib⟩
 refine ICall.fixL ?_;refine ICall.intro (c:=cf prog gl [13] [(1,[0,1,3,4,2,5,6,7])]) func118 rfl (by show _<=14;simp) (by kernel_rfl) ?_;simp only[go_sem,zE,zA,zM,zL,fits,yQ2];refine (zZu gl _ _ _ (.inr rfl) ia (by simp only[yQ7];omega) _).mono ?_;rintro r _ ⟨hr,rfl⟩;have hr0:=hr;obtain⟨_,_,_,_,rfl⟩:=IsSq.two hr.w;simp only[go_sem,zE,zA];refine (zZu gl _ _ _ (.inr rfl) ib (by simp only[yQ7];omega) _).mono ?_;rintro r _ ⟨hr,rfl⟩;have h1:=sq2 hr0 hr;obtain⟨_,_,_,_,rfl⟩:=IsSq.two hr.w;simp only[go_sem,zE,zA,zM,zL,fits,yQq];refine λg=>yQc λhg=>?_;exact yQ0 (.inr ⟨g,2,_,hg,rfl,rfl,by simp,yZr h1,_,_,rfl,.inr rfl,.inr ⟨by simp,rfl,g,rfl⟩,h1⟩)
theorem wXp:yYi gl 119 (λm a b=>[⟨[],[a,b]⟩]):=by
 intro m a b x y z hx hy hz hm ha hb st;have hx0:=hx;have hy0:=hy;have hz0:=hz;obtain⟨o1,n1,t1,x1,t2,x2,rfl⟩:=hx.agg;obtain⟨o3,n3,t3,x3,t4,x4,rfl⟩:=hy.agg;obtain⟨o5,n5,t5,x5,t6,x6,rfl⟩:=hz.agg;have ia:=IsFms.one hy0;have ib:=IsFms.one hz0;have im:=IsFms.one hx0;have iab:IsFms [a,b] [_,_]:=⟨_,_,rfl,hy0,ib⟩
 refine ICall.fixL ?_;refine ICall.intro (c:=cf prog gl [11] []) func119 rfl (by show _<=12;simp) (by kernel_rfl) ?_;simp only[go_sem,zE,zA,zM,zL,fits,yQq];refine (yY1 gl _ _ _ (.inr rfl) iab (by simp only[yQ7];omega) _).mono ?_;rintro r _ ⟨hr,rfl⟩;have h1:=sq1 hr;obtain⟨_,_,_,_,rfl⟩:=IsSq.two hr.w;simp only[go_sem,zA,zM,zL,fits,yQ2];refine λg=>yQc λhg=>?_;exact yQ0 (.inr ⟨g,2,_,hg,rfl,rfl,by simp,yZr h1,_,_,rfl,.inr rfl,.inr ⟨by simp,rfl,g,rfl⟩,h1⟩)
theorem wXo:yYi gl 120 (λm a b=>[⟨[],[a]⟩,⟨[b],[]⟩]):=by
 intro m a b x y z hx hy hz hm ha hb st;have hx0:=hx;have hy0:=hy;have hz0:=hz;obtain⟨o1,n1,t1,x1,t2,x2,rfl⟩:=hx.agg;obtain⟨o3,n3,t3,x3,t4,x4,rfl⟩:=hy.agg;obtain⟨o5,n5,t5,x5,t6,x6,rfl⟩:=hz.agg;have ia:=IsFms.one hy0;have ib:=IsFms.one hz0;have im:=IsFms.one hx0;have iab:IsFms [a,b] [_,_]:=⟨_,_,rfl,hy0,ib⟩
 refine ICall.fixL ?_;refine ICall.intro (c:=cf prog gl [13] [(1,[0,1,3,4,2,5,6,7])]) func120 rfl (by show _<=14;simp) (by kernel_rfl) ?_;simp only[go_sem,zE,zA,zM,zL,fits,yQ2];refine (yY1 gl _ _ _ (.inr rfl) ia (by simp only[yQ7];omega) _).mono ?_;rintro r _ ⟨hr,rfl⟩;have hr0:=hr;obtain⟨_,_,_,_,rfl⟩:=IsSq.two hr.w;simp only[go_sem,zE,zA];refine (zZu gl _ _ _ (.inr rfl) ib (by simp only[yQ7];omega) _).mono ?_;rintro r _ ⟨hr,rfl⟩;have h1:=sq2 hr0 hr;obtain⟨_,_,_,_,rfl⟩:=IsSq.two hr.w;simp only[go_sem,zE,zA,zM,zL,fits,yQq];refine λg=>yQc λhg=>?_;exact yQ0 (.inr ⟨g,2,_,hg,rfl,rfl,by simp,yZr h1,_,_,rfl,.inr rfl,.inr ⟨by simp,rfl,g,rfl⟩,h1⟩)
theorem xJs:yYi gl 125 (λm a b=>[⟨[],[m]⟩,⟨[m],[]⟩]):=by
 intro m a b x y z hx hy hz hm ha hb st;have hx0:=hx;have hy0:=hy;have hz0:=hz;obtain⟨o1,n1,t1,x1,t2,x2,rfl⟩:=hx.agg;obtain⟨o3,n3,t3,x3,t4,x4,rfl⟩:=hy.agg;obtain⟨o5,n5,t5,x5,t6,x6,rfl⟩:=hz.agg;have ia:=IsFms.one hy0;have ib:=IsFms.one hz0;have im:=IsFms.one hx0;have iab:IsFms [a,b] [_,_]:=⟨_,_,rfl,hy0,ib⟩
 refine ICall.fixL ?_;refine ICall.intro (c:=cf prog gl [13] [(1,[0,1,3,4,2,5,6,7])]) func125 rfl (by show _<=14;simp) (by kernel_rfl) ?_;simp only[go_sem,zE,zA,zM,zL,fits,yQ2];refine (yY1 gl _ _ _ (.inr rfl) im (by simp only[yQ7];omega) _).mono ?_;rintro r _ ⟨hr,rfl⟩;have hr0:=hr;obtain⟨_,_,_,_,rfl⟩:=IsSq.two hr.w;simp only[go_sem,zE,zA];refine (zZu gl _ _ _ (.inr rfl) im (by simp only[yQ7];omega) _).mono ?_;rintro r _ ⟨hr,rfl⟩;have h1:=sq2 hr0 hr;obtain⟨_,_,_,_,rfl⟩:=IsSq.two hr.w;simp only[go_sem,zE,zA,zM,zL,fits,yQq];refine λg=>yQc λhg=>?_;exact yQ0 (.inr ⟨g,2,_,hg,rfl,rfl,by simp,yZr h1,_,_,rfl,.inr rfl,.inr ⟨by simp,rfl,g,rfl⟩,h1⟩)
theorem xJq:yYi gl 78 (λm a b=>[⟨[],[a]⟩]):=by
 intro m a b x y z hx hy hz hm ha hb st;have hx0:=hx;have hy0:=hy;have hz0:=hz;obtain⟨o1,n1,t1,x1,t2,x2,rfl⟩:=hx.agg;obtain⟨o3,n3,t3,x3,t4,x4,rfl⟩:=hy.agg;obtain⟨o5,n5,t5,x5,t6,x6,rfl⟩:=hz.agg;have ia:=IsFms.one hy0;have ib:=IsFms.one hz0;have im:=IsFms.one hx0;have iab:IsFms [a,b] [_,_]:=⟨_,_,rfl,hy0,ib⟩
 refine ICall.fixL ?_;refine ICall.intro (c:=cf prog gl [10] []) func78 rfl (by show _<=11;simp) (by kernel_rfl) ?_;simp only[go_sem,zE,zA,zM,zL,fits,yQ2];refine (yY1 gl _ _ _ (.inr rfl) ia (by simp only[yQ7];omega) _).mono ?_;rintro r _ ⟨hr,rfl⟩;have h1:=sq1 hr;obtain⟨_,_,_,_,rfl⟩:=IsSq.two hr.w;simp only[go_sem,zA,zM,zL,fits,yQ2];refine λg=>yQc λhg=>?_;exact yQ0 (.inr ⟨g,2,_,hg,rfl,rfl,by simp,yZr h1,_,_,rfl,.inr rfl,.inr ⟨by simp,rfl,g,rfl⟩,h1⟩)
theorem xJr:yYi gl 80 (λm a b=>[⟨[],[b]⟩]):=by
 intro m a b x y z hx hy hz hm ha hb st;have hx0:=hx;have hy0:=hy;have hz0:=hz;obtain⟨o1,n1,t1,x1,t2,x2,rfl⟩:=hx.agg;obtain⟨o3,n3,t3,x3,t4,x4,rfl⟩:=hy.agg;obtain⟨o5,n5,t5,x5,t6,x6,rfl⟩:=hz.agg;have ia:=IsFms.one hy0;have ib:=IsFms.one hz0;have im:=IsFms.one hx0;have iab:IsFms [a,b] [_,_]:=⟨_,_,rfl,hy0,ib⟩
 refine ICall.fixL ?_;refine ICall.intro (c:=cf prog gl [10] []) func80 rfl (by show _<=11;simp) (by kernel_rfl) ?_;simp only[go_sem,zE,zA,zM,zL,fits,yQ2];refine (yY1 gl _ _ _ (.inr rfl) ib (by simp only[yQ7];omega) _).mono ?_;rintro r _ ⟨hr,rfl⟩;have h1:=sq1 hr;obtain⟨_,_,_,_,rfl⟩:=IsSq.two hr.w;simp only[go_sem,zA,zM,zL,fits,yQ2];refine λg=>yQc λhg=>?_;exact yQ0 (.inr ⟨g,2,_,hg,rfl,rfl,by simp,yZr h1,_,_,rfl,.inr rfl,.inr ⟨by simp,rfl,g,rfl⟩,h1⟩)
theorem wXn:yYi gl 81 (λm a b=>[⟨[a],[]⟩]):=by
 intro m a b x y z hx hy hz hm ha hb st;have hx0:=hx;have hy0:=hy;have hz0:=hz;obtain⟨o1,n1,t1,x1,t2,x2,rfl⟩:=hx.agg;obtain⟨o3,n3,t3,x3,t4,x4,rfl⟩:=hy.agg;obtain⟨o5,n5,t5,x5,t6,x6,rfl⟩:=hz.agg;have ia:=IsFms.one hy0;have ib:=IsFms.one hz0;have im:=IsFms.one hx0;have iab:IsFms [a,b] [_,_]:=⟨_,_,rfl,hy0,ib⟩
 refine ICall.fixL ?_;refine ICall.intro (c:=cf prog gl [10] []) func81 rfl (by show _<=11;simp) (by kernel_rfl) ?_;simp only[go_sem,zE,zA,zM,zL,fits,yQ2];refine (zZu gl _ _ _ (.inr rfl) ia (by simp only[yQ7];omega) _).mono ?_;rintro r _ ⟨hr,rfl⟩;have h1:=sq1 hr;obtain⟨_,_,_,_,rfl⟩:=IsSq.two hr.w;simp only[go_sem,zA,zM,zL,fits,yQ2];refine λg=>yQc λhg=>?_;exact yQ0 (.inr ⟨g,2,_,hg,rfl,rfl,by simp,yZr h1,_,_,rfl,.inr rfl,.inr ⟨by simp,rfl,g,rfl⟩,h1⟩)
theorem wXm:yYi gl 83 (λm a b=>[⟨[],[a]⟩]):=by
 intro m a b x y z hx hy hz hm ha hb st;have hx0:=hx;have hy0:=hy;have hz0:=hz;obtain⟨o1,n1,t1,x1,t2,x2,rfl⟩:=hx.agg;obtain⟨o3,n3,t3,x3,t4,x4,rfl⟩:=hy.agg;obtain⟨o5,n5,t5,x5,t6,x6,rfl⟩:=hz.agg;have ia:=IsFms.one hy0;have ib:=IsFms.one hz0;have im:=IsFms.one hx0;have iab:IsFms [a,b] [_,_]:=⟨_,_,rfl,hy0,ib⟩
 refine ICall.fixL ?_;refine ICall.intro (c:=cf prog gl [10] []) func83 rfl (by show _<=11;simp) (by kernel_rfl) ?_;simp only[go_sem,zE,zA,zM,zL,fits,yQ2];refine (yY1 gl _ _ _ (.inr rfl) ia (by simp only[yQ7];omega) _).mono ?_;rintro r _ ⟨hr,rfl⟩;have h1:=sq1 hr;obtain⟨_,_,_,_,rfl⟩:=IsSq.two hr.w;simp only[go_sem,zA,zM,zL,fits,yQ2];refine λg=>yQc λhg=>?_;exact yQ0 (.inr ⟨g,2,_,hg,rfl,rfl,by simp,yZr h1,_,_,rfl,.inr rfl,.inr ⟨by simp,rfl,g,rfl⟩,h1⟩)
theorem xJv:yYi gl 121 (λm a b=>[⟨[a],[b]⟩]):=by
 intro m a b x y z hx hy hz hm ha hb st;have hx0:=hx;have hy0:=hy;have hz0:=hz;obtain⟨o1,n1,t1,x1,t2,x2,rfl⟩:=hx.agg;obtain⟨o3,n3,t3,x3,t4,x4,rfl⟩:=hy.agg;obtain⟨o5,n5,t5,x5,t6,x6,rfl⟩:=hz.agg;have ia:=IsFms.one hy0;have ib:=IsFms.one hz0;have im:=IsFms.one hx0;have iab:IsFms [a,b] [_,_]:=⟨_,_,rfl,hy0,ib⟩
 refine ICall.fixL ?_;refine ICall.intro (c:=cf prog gl [14] [(1,[0,1,3,4,2,5,6,7,8])]) func121 rfl (by show _<=15;simp) (by kernel_rfl) ?_;simp only[go_sem,zE,zA,zM,zL,fits,yQ2];refine (yW7 gl _ _ _ (.inr rfl) ia (by simp only[yQ7];omega) _).mono ?_;rintro _ _ ⟨tg1,ys1,rfl,he1,ha1,hys1,rfl⟩;simp only[go_sem,zE,zA];refine (yW7 gl _ _ _ (.inr rfl) ib (by simp only[yQ7];omega) _).mono ?_;rintro _ _ ⟨tg2,ys2,rfl,he2,ha2,hys2,rfl⟩;simp only[go_sem,zE,zA,zM,zL,fits,yQ2];have h1:=sq1 (s:=⟨[a],[b]⟩) ⟨_,_,_,_,rfl,he1,ha1,hys1,he2,ha2,hys2⟩;refine λg=>yQc λhg=>?_;exact yQ0 (.inr ⟨g,2,_,hg,rfl,rfl,by simp,yZr h1,_,_,rfl,.inr rfl,.inr ⟨by simp,rfl,g,rfl⟩,h1⟩)
theorem xJt:yYi gl 124 (λm a b=>[⟨[a],[b]⟩,⟨[b],[a]⟩]):=by
 intro m a b x y z hx hy hz hm ha hb st;have hx0:=hx;have hy0:=hy;have hz0:=hz;obtain⟨o1,n1,t1,x1,t2,x2,rfl⟩:=hx.agg;obtain⟨o3,n3,t3,x3,t4,x4,rfl⟩:=hy.agg;obtain⟨o5,n5,t5,x5,t6,x6,rfl⟩:=hz.agg;have ia:=IsFms.one hy0;have ib:=IsFms.one hz0;have im:=IsFms.one hx0;have iab:IsFms [a,b] [_,_]:=⟨_,_,rfl,hy0,ib⟩
 refine ICall.fixL ?_;refine ICall.intro (c:=cf prog gl [21] [(1,[0,1,3,4,7,8,10,11,2,5,6,9,12,13,14,15])]) func124 rfl (by show _<=22;simp) (by kernel_rfl) ?_;simp only[go_sem,zE,zA,zM,zL,fits,yQ2];refine (yW7 gl _ _ _ (.inr rfl) ia (by simp only[yQ7];omega) _).mono ?_;rintro _ _ ⟨tg1,ys1,rfl,he1,ha1,hys1,rfl⟩;simp only[go_sem,zE,zA];refine (yW7 gl _ _ _ (.inr rfl) ib (by simp only[yQ7];omega) _).mono ?_;rintro _ _ ⟨tg2,ys2,rfl,he2,ha2,hys2,rfl⟩;simp only[go_sem,zE,zA,zL,fits];refine (yW7 gl _ _ _ (.inr rfl) ib (by simp only[yQ7];omega) _).mono ?_;rintro _ _ ⟨tg3,ys3,rfl,he3,ha3,hys3,rfl⟩;simp only[go_sem,zE,zA];refine (yW7 gl _ _ _ (.inr rfl) ia (by simp only[yQ7];omega) _).mono ?_;rintro _ _ ⟨tg4,ys4,rfl,he4,ha4,hys4,rfl⟩;simp only[go_sem,zE,zA,zM,zL,fits,yQq];have h1:=sq2 (s:=⟨[a],[b]⟩) (s':=⟨[b],[a]⟩) ⟨_,_,_,_,rfl,he1,ha1,hys1,he2,ha2,hys2⟩ ⟨_,_,_,_,rfl,he3,ha3,hys3,he4,ha4,hys4⟩;refine λg=>yQc λhg=>?_;exact yQ0 (.inr ⟨g,2,_,hg,rfl,rfl,by simp,yZr h1,_,_,rfl,.inr rfl,.inr ⟨by simp,rfl,g,rfl⟩,h1⟩)
theorem xJu:yYi gl 122 (λm a b=>[⟨[impF a b,impF b a],[]⟩]):=by
 intro m a b x y z hx hy hz hm ha hb st;have hx0:=hx;have hy0:=hy;have hz0:=hz;obtain⟨o1,n1,t1,x1,t2,x2,rfl⟩:=hx.agg;obtain⟨o3,n3,t3,x3,t4,x4,rfl⟩:=hy.agg;obtain⟨o5,n5,t5,x5,t6,x6,rfl⟩:=hz.agg;have ia:=IsFms.one hy0;have ib:=IsFms.one hz0;have im:=IsFms.one hx0;have iab:IsFms [a,b] [_,_]:=⟨_,_,rfl,hy0,ib⟩
 refine ICall.fixL ?_;refine ICall.intro (c:=cf prog gl [15] [(1,[0,1,3,4,2,5,6,7,8,9])]) func122 rfl (by show _<=16;simp) (by kernel_rfl) ?_;simp only[go_sem,zE,zA,zL];refine (vXj gl a b _ _ hy0 hz0 _).mono ?_;rintro r _ ⟨hr,rfl⟩;have hr0:=hr;obtain⟨_,_,_,_,_,_,rfl⟩:=hr.agg;simp only[go_sem,zE,zA];refine (vXj gl b a _ _ hz0 hy0 _).mono ?_;rintro r _ ⟨hr,rfl⟩;have hr1:IsFms [impF a b,impF b a] [_,_]:=⟨_,_,rfl,hr0,IsFms.one hr⟩
 obtain⟨_,_,_,_,_,_,rfl⟩:=hr.agg;simp only[go_sem,zE,zA,zM,zL,fits,yQq];refine (zZu gl _ _ _ (.inr rfl) hr1 (by simp only[yQ7,impF,Fm.size,yQ8];omega) _).mono ?_;rintro r _ ⟨hr,rfl⟩;have h1:=sq1 hr;obtain⟨_,_,_,_,rfl⟩:=IsSq.two hr.w;simp only[go_sem,zA,zM,zL,fits,yQ2];refine λg=>yQc λhg=>?_;exact yQ0 (.inr ⟨g,2,_,hg,rfl,rfl,by simp,yZr h1,_,_,rfl,.inr rfl,.inr ⟨by simp,rfl,g,rfl⟩,h1⟩)
def fitL (l:List Fm):Prop:=∀f∈l,f.size<=1000000
theorem xJ0 (ca:Nat)(st:ISt):ICall prog gl 35 [.raw (.int .u8 ca)] st (λr st'=>r=.raw (.bool (yXo ca))/\st'=st):=by
 refine iI func35 ?_;by_cases h1:1<=ca
 ·have e1:decide (1<=(ca:Int))=true:=dEt (by omega);by_cases h2:ca<=3
  ·have e2:decide ((ca:Int)<=3)=true:=dEt (by omega);simp only[go_sem,zE,reduceCtorEq,e1,e2];exact yQ0 ⟨by simp[yXo,h1,h2],rfl⟩
  ·have e2:decide ((ca:Int)<=3)=false:=dEf (by omega);simp only[go_sem,zE,reduceCtorEq,e1,e2];exact yQ0 ⟨by simp[yXo,h2],rfl⟩
 ·have e1:decide (1<=(ca:Int))=false:=dEf (by omega);simp only[go_sem,zE,reduceCtorEq,e1];exact yQ0 ⟨by simp[yXo,h1],rfl⟩
def sOp (f:Fm):Prop:=∀(ca:Nat) (x:IV) (_:IsFm f x) (st:ISt),ICall prog gl 110 [.raw (.int .u8 ca),x] st (λr st'=>r=.raw (.bool (opsB ca f))/\st'=st)
theorem yW1 (ca:Nat):∀l m:List Fm,yYg ca (l++m)=(yYg ca l&&yYg ca m)
 | [],m=>by simp[yYg]
 | a::l,m=>by simp only[List.cons_append,yYg,yW1 ca l m,Bool.and_assoc]
theorem zUw {ca:Nat}{l:List Fm}{a:Fm}(ha:a∈l)(h:opsB ca a=false):yYg ca l=false:=by
 obtain⟨p,q,rfl⟩:=List.append_of_mem ha;rw[yW1];simp[yYg,h]
theorem wJn (o:Nat)(n:ByteArray)(us:List Tm)(sub:List Fm)(IH:∀a∈sub,sOp gl a):sOp gl (.mk o n us sub):=by
 intro ca x hx st;obtain⟨t1,x1,t2,x2,rfl,ho,ht1,hx1,ht2,hx2⟩:=hx.mk;have loop:∀(last:Nat) (hop:(decide (1<=o)&&decide (o<=if ca=3 then 9 else 7)&&(decide (ca=3) || us.isEmpty))=true),opsB ca (.mk o n us sub)=yYg ca sub:=λ_ h=>by
  simp only[opsB,h,Bool.true_and]
 refine iI func110 ?_;by_cases h1:1<=o
 ·have e1:decide ((o:Int)<1)=false:=dEf (by omega);by_cases hca:ca=3
  ·have e3:decide ((ca:Int)=3)=true:=dEt (by omega);by_cases h2:o<=9
   ·have e2:decide ((9:Int)<(o:Int))=false:=dEf (by omega);have hl:=loop 9 (by simp[h1,h2,hca]);simp only[go_sem,zE,zA,reduceCtorEq,e1,e2,e3,hx2.len];intro _;refine LoopC.ctr sub.length (λk fr st' ds=>yYg ca (sub.take k)=true/\fr 0=.iv (.raw (.int .u8 ca))/\fr 30=.iv (.sl t2 x2)/\fr 31=.iv (.raw (.int .i64 sub.length))/\fr 32=.iv (.raw (.int .i64 k))/\st'=st/\ds=[]) ?_ ?_ ?_
    ·simp only[go_sem,zE,reduceCtorEq];simp[yYg]
    ·rintro k fr st1 _ hlt ⟨hn,f0,f30,f31,f32,rfl,rfl⟩;obtain⟨a,ha⟩:=yQ3 hlt;obtain⟨y,hky,hy⟩:=hx2.get ha;have hcall:=IH a (lMg ha) ca y hy st1;obtain⟨o5,n5,t5,x5,t6,x6,rfl⟩:=hy.agg;simp only[go_sem,zE,zB,zA,zL,reduceCtorEq,f0,f30,f31,f32,lt_i hlt,yQ1 ht2,iNn,hky,fits];refine hcall.mono ?_;rintro _ _ ⟨rfl,rfl⟩;cases hr:opsB ca a
     ·simp only[go_sem];exact yQ0 ⟨by rw[hl,zUw (lMg ha) hr],rfl⟩
     ·simp only[go_sem,zE,reduceCtorEq,f0,f30,f31,f32,yQ9 hlt (show sub.length<=281474976710656 by omega)];rw[yQ5 ha,yW1,hn];simp[yYg,hr]
    ·rintro fr st1 _ ⟨hn,f0,f30,f31,f32,rfl,rfl⟩;rw[lTl] at hn;simp only[go_sem,f31,f32,yQj (nLi _)];exact yQ0 ⟨by rw[hl,hn],rfl⟩
   ·have e2:decide ((9:Int)<(o:Int))=true:=dEt (by omega);simp only[go_sem,zE,zA,reduceCtorEq,e1,e2,e3];exact yQ0 ⟨by simp[opsB,h2,hca],rfl⟩
  ·have e3:decide ((ca:Int)=3)=false:=dEf (by omega);by_cases h2:o<=7
   ·have e2:decide ((7:Int)<(o:Int))=false:=dEf (by omega);by_cases hu:us=[]
    ·subst hu;have e4:decide ((0:Int)<((0:Nat):Int))=false:=rfl;have hl:=loop 7 (by simp[h1,h2,hca]);simp only[go_sem,zE,zA,zL,reduceCtorEq,e1,e2,e3,e4,hx1.len,hx2.len];intro _;refine LoopC.ctr sub.length (λk fr st' ds=>yYg ca (sub.take k)=true/\fr 0=.iv (.raw (.int .u8 ca))/\fr 30=.iv (.sl t2 x2)/\fr 31=.iv (.raw (.int .i64 sub.length))/\fr 32=.iv (.raw (.int .i64 k))/\st'=st/\ds=[]) ?_ ?_ ?_
     ·simp only[go_sem,zE,reduceCtorEq];simp[yYg]
     ·rintro k fr st1 _ hlt ⟨hn,f0,f30,f31,f32,rfl,rfl⟩;obtain⟨a,ha⟩:=yQ3 hlt;obtain⟨y,hky,hy⟩:=hx2.get ha;have hcall:=IH a (lMg ha) ca y hy st1;obtain⟨o5,n5,t5,x5,t6,x6,rfl⟩:=hy.agg;simp only[go_sem,zE,zB,zA,zL,reduceCtorEq,f0,f30,f31,f32,lt_i hlt,yQ1 ht2,iNn,hky,fits];refine hcall.mono ?_;rintro _ _ ⟨rfl,rfl⟩;cases hr:opsB ca a
      ·simp only[go_sem];exact yQ0 ⟨by rw[hl,zUw (lMg ha) hr],rfl⟩
      ·simp only[go_sem,zE,reduceCtorEq,f0,f30,f31,f32,yQ9 hlt (show sub.length<=281474976710656 by omega)];rw[yQ5 ha,yW1,hn];simp[yYg,hr]
     ·rintro fr st1 _ ⟨hn,f0,f30,f31,f32,rfl,rfl⟩;rw[lTl] at hn;simp only[go_sem,f31,f32,yQj (nLi _)];exact yQ0 ⟨by rw[hl,hn],rfl⟩
    ·have hpos:0<us.length:=List.length_pos_iff.2 hu;have e4:decide ((0:Int)<(us.length:Int))=true:=dEt (by omega);simp only[go_sem,zE,zA,reduceCtorEq,e1,e2,e3,e4,hx1.len];intro _;exact yQ0 ⟨by simp[opsB,hca,hu],rfl⟩
   ·have e2:decide ((7:Int)<(o:Int))=true:=dEt (by omega);simp only[go_sem,zE,zA,reduceCtorEq,e1,e2,e3];exact yQ0 ⟨by simp[opsB,hca,h2],rfl⟩
 ·have e1:decide ((o:Int)<1)=true:=dEt (by omega);by_cases hca:ca=3
  ·have e3:decide ((ca:Int)=3)=true:=dEt (by omega);simp only[go_sem,zE,zA,reduceCtorEq,e1,e3];exact yQ0 ⟨by simp[opsB,h1],rfl⟩
  ·have e3:decide ((ca:Int)=3)=false:=dEf (by omega);simp only[go_sem,zE,zA,reduceCtorEq,e1,e3];exact yQ0 ⟨by simp[opsB,h1],rfl⟩
theorem xUs:∀(k:Nat)(f:Fm),SizeOf.sizeOf f<k->sOp gl f
 | 0,f,h=>by omega
 | k+1,.mk o n us sub,h=>wJn gl o n us sub (λa ha=>xUs k a (by
   have:=lSm ha;simp only[Fm.mk.sizeOf_spec] at h;omega))
theorem xXk (f:Fm):sOp gl f:=xUs gl _ f (Nat.lt_succ_self _)
theorem zKb (G:Gl gl)(ca:Nat)(f:Fm)(x:IV)(hx:IsFm f x)(hs:f.size<=1000000)(st:ISt) :
  ICall prog gl 75 [.raw (.int .u8 ca),x] st (λr st'=>r=.raw (.bool (fmB ca f))/\st'=st):=by
 have h1:=λst=>zV1 gl G f x hx st hs;have h2:=λst=>xXk gl f ca x hx st;obtain⟨o5,n5,t5,x5,t6,x6,rfl⟩:=hx.agg;refine iI func75 ?_;simp only[go_sem,zE,zA,zL];refine (h1 _).mono ?_;rintro _ _ ⟨rfl,rfl⟩;cases hr:f.right
 ·simp only[go_sem,zE];exact yQ0 ⟨by simp[fmB,hr],rfl⟩
 ·simp only[go_sem,zE,zA,zL,reduceCtorEq];refine (h2 _).mono ?_;rintro _ _ ⟨rfl,rfl⟩;simp only[go_sem,zE];exact yQ0 ⟨by simp[fmB,hr],rfl⟩
theorem wX2 (G:Gl gl)(f g:Fm)(x y:IV)(hx:IsFm f x)(hy:IsFm g y)(hs:f.size<=1000000)(hs':g.size<=1000000)(st:ISt) :
  ICall prog gl 76 [x,y] st (λr st'=>r=.raw (.bool (eqF f g))/\st'=st):=by
 have h1:=λst=>wUu gl G f g x y hx hy hs hs' st;obtain⟨o,n,us,sub⟩:=f;obtain⟨o',n',us',sub'⟩:=g;obtain⟨t1,x1,t2,x2,rfl,_⟩:=hx.mk;obtain⟨t3,x3,t4,x4,rfl,_⟩:=hy.mk;refine iI func76 ?_;by_cases ho:o=o'
 ·subst ho;simp only[go_sem,zE,zA,zL,decide_true];refine (h1 _).mono ?_;rintro _ _ ⟨rfl,rfl⟩;simp only[go_sem,zE];exact yQ0 ⟨by simp[eqF,Fm.op],rfl⟩
 ·have e:decide ((o:Int)=(o':Int))=false:=dEf (by omega);simp only[go_sem,zE,zA,e];exact yQ0 ⟨by simp[eqF,Fm.op,ho],rfl⟩
theorem xJy (g:FuncId)(caps:List IV)(he:entI prog g=true)(us:List Fm)(p:Fm->Bool)(hp:∀a∈us,∀x,IsFm a x->∀st,ICall prog gl g (x::caps) st (λr st'=>r=.raw (.bool (p a))/\st'=st))
  (tg:Tag) (xs:List IV) (htg:okEs tg 4) (hxs:IsFms us xs) (st:ISt) :
  ICall prog gl 128 [.sl tg xs,.fn (.func g) [] caps] st (λr st'=>(∃n:Int,r=.raw (.int .i64 n)/\decide (0<=n)=us.any p)/\st'=st):=by
 refine iI func128 ?_;simp only[go_sem,reduceCtorEq,hxs.len];intro _;refine LoopC.ctr us.length (λk fr st' ds=>(us.take k).any p=false/\fr 0=.iv (.sl tg xs)/\fr 1=.iv (.fn (.func g) [] caps)/\fr 7=.iv (.raw (.int .i64 us.length))/\fr 8=.iv (.raw (.int .i64 k))/\st'=st/\ds=[]) ?_ ?_ ?_
 ·simp only[go_sem,zE,reduceCtorEq];exact⟨rfl,rfl⟩
 ·rintro k fr st1 _ hlt ⟨hn,f0,f1,f7,f8,rfl,rfl⟩;obtain⟨a,ha⟩:=yQ3 hlt;obtain⟨y,hky,hy⟩:=hxs.get ha;have hcall:=hp a (lMg ha) y hy st1;obtain⟨o5,n5,t5,x5,t6,x6,rfl⟩:=hy.agg;simp only[go_sem,zE,zB,zA,reduceCtorEq,f0,f1,f7,f8,lt_i hlt,yQ1 htg,iNn,hky,fits,he];refine hcall.mono ?_;rintro _ _ ⟨rfl,rfl⟩;cases hr:p a
  ·simp only[go_sem,zE,reduceCtorEq,f0,f1,f7,f8,yQ9 hlt (show us.length<=281474976710656 by omega)];rw[yQ5 ha,List.any_append,hn];simp[hr]
  ·simp only[go_sem,zE];refine yQ0 ⟨⟨_,rfl,?_⟩,rfl⟩;rw[dEt (iNn k)];exact (List.any_eq_true.2 ⟨a,lMg ha,hr⟩).symm
 ·rintro fr st1 _ ⟨hn,f0,f1,f7,f8,rfl,rfl⟩;rw[lTl] at hn;simp only[go_sem,f7,f8,yQj (nLi _)];exact yQ0 ⟨⟨_,rfl,by rw[hn];rfl⟩,rfl⟩
theorem yWm (g:FuncId)(caps:List IV)(he:entI prog g=true)(us:List Fm)(p:Fm->Bool)(hp:∀a∈us,∀x,IsFm a x->∀st,ICall prog gl g (x::caps) st (λr st'=>r=.raw (.bool (p a))/\st'=st))
  (tg:Tag) (xs:List IV) (htg:okEs tg 4) (hxs:IsFms us xs) (st:ISt) :
  ICall prog gl 86 [.sl tg xs,.fn (.func g) [] caps] st (λr st'=>r=.raw (.bool (us.any p))/\st'=st):=by
 refine iI func86 ?_;simp only[go_sem,zE,zA,reduceCtorEq];refine (xJy gl g caps he us p hp tg xs htg hxs _).mono ?_;rintro _ _ ⟨⟨n,rfl,hn⟩,rfl⟩;simp only[go_sem,hn];exact yQ0 ⟨rfl,rfl⟩
theorem vK4 (G:Gl gl)(f g:Fm)(x y:IV)(hx:IsFm f x)(hy:IsFm g y)(hs:f.size<=1000000)(hs':g.size<=1000000)(st:ISt) :
  ICall prog gl 87 [y,.cptr x] st (λr st'=>r=.raw (.bool (eqF f g))/\st'=st):=by
 have h1:=λst=>wX2 gl G f g x y hx hy hs hs' st;obtain⟨o5,n5,t5,x5,t6,x6,rfl⟩:=hx.agg;obtain⟨o7,n7,t7,x7,t8,x8,rfl⟩:=hy.agg;refine iI func87 ?_;simp only[go_sem,zE,zA,zL,fits];refine (h1 _).mono ?_;rintro _ _ ⟨rfl,rfl⟩;simp only[go_sem];exact yQ0 ⟨rfl,rfl⟩
theorem wJ2 (G:Gl gl)(l:List Fm)(f:Fm)(tg:Tag)(xs:List IV)(x:IV)(htg:okEs tg 4)(hxs:IsFms l xs)(hx:IsFm f x)(hl:fitL l)(hs:f.size<=1000000)(st:ISt) :
  ICall prog gl 63 [.sl tg xs,x] st (λr st'=>r=.raw (.bool (hasF l f))/\st'=st):=by
 have h1:=λst=>yWm gl 87 [.cptr x] (by simp only[go_sem]) l (eqF f) (λa ha y hy st=>vK4 gl G f a x y hx hy hs (hl a ha) st) tg xs htg hxs st;obtain⟨o5,n5,t5,x5,t6,x6,rfl⟩:=hx.agg;refine ICall.intro (c:=cf prog gl [] [] [3]) func63 rfl (by show _<=8;simp) (by kernel_rfl) ?_;simp only[go_sem,zE,zA,reduceCtorEq];refine (h1 _).mono ?_;rintro _ _ ⟨rfl,rfl⟩;simp only[go_sem];exact yQ0 ⟨rfl,rfl⟩
theorem vJu (G:Gl gl)(l m:List Fm)(t t':Tag)(xs ys:List IV)(ht:okEs t 4)(ht':okEs t' 4)(hxs:IsFms l xs)(hys:IsFms m ys)(hl:fitL l)(hm:fitL m)(st:ISt) :
  ICall prog gl 72 [.sl t xs,.sl t' ys] st (λr st'=>r=.raw (.bool (allF l m))/\st'=st):=by
 refine iI func72 ?_;simp only[go_sem,reduceCtorEq,hxs.len];intro _;refine LoopC.ctr l.length (λk fr st' ds=>(l.take k).all (hasF m)=true/\fr 1=.iv (.sl t' ys)/\fr 7=.iv (.sl t xs)/\fr 8=.iv (.raw (.int .i64 l.length))/\fr 9=.iv (.raw (.int .i64 k))/\st'=st/\ds=[]) ?_ ?_ ?_
 ·simp only[go_sem,zE];rfl
 ·rintro k fr st1 _ hlt ⟨hn,f1,f7,f8,f9,rfl,rfl⟩;obtain⟨a,ha⟩:=yQ3 hlt;obtain⟨y,hky,hy⟩:=hxs.get ha;have hcall:=wJ2 gl G m a t' ys y ht' hys hy hm (hl a (lMg ha)) st1;obtain⟨o5,n5,t5,x5,t6,x6,rfl⟩:=hy.agg;simp only[go_sem,zE,zB,zA,zL,f1,f7,f8,f9,lt_i hlt,yQ1 ht,iNn,hky,fits];refine hcall.mono ?_;rintro _ _ ⟨rfl,rfl⟩;cases hr:hasF m a
  ·simp only[go_sem];refine yQ0 ⟨?_,rfl⟩;have:allF l m=false:=by
    unfold allF;rw[List.all_eq_false];exact⟨a,lMg ha,by simp[hr]⟩
   rw[this]
  ·simp only[go_sem,zE,f1,f7,f8,f9,yQ9 hlt (show l.length<=281474976710656 by omega)];rw[yQ5 ha,List.all_append,hn];simp[hr]
 ·rintro fr st1 _ ⟨hn,f1,f7,f8,f9,rfl,rfl⟩;rw[lTl] at hn;simp only[go_sem,f8,f9,yQj (nLi _)];exact yQ0 ⟨by rw[show allF l m=true from hn],rfl⟩
def yVz (s:Sq):Prop:=fitL s.l/\fitL s.r
theorem wVo (G:Gl gl)(a b:Sq)(x y:IV)(hx:IsSq a x)(hy:IsSq b y)(ha:yVz a)(hb:yVz b)(st:ISt):ICall prog gl 57 [x,y] st (λr st'=>r=.raw (.bool (yJo a b))/\st'=st):=by
 obtain⟨t1,x1,t2,x2,rfl,e1,i1,e2,i2⟩:=hx;obtain⟨t3,x3,t4,x4,rfl,e3,i3,e4,i4⟩:=hy;refine iI func57 ?_;simp only[go_sem,zE,zA];refine (vJu gl G a.l b.l t1 t3 x1 x3 e1 e3 i1 i3 ha.1 hb.1 _).mono ?_;rintro _ _ ⟨rfl,rfl⟩;cases hr:allF a.l b.l
 ·simp only[go_sem,zE];exact yQ0 ⟨by simp[yJo,hr],rfl⟩
 ·simp only[go_sem,zE,zA];refine (vJu gl G a.r b.r t2 t4 x2 x4 e2 e4 i2 i4 ha.2 hb.2 _).mono ?_;rintro _ _ ⟨rfl,rfl⟩;simp only[go_sem,zE];exact yQ0 ⟨by simp[yJo,hr],rfl⟩
theorem yGk (a b:Int)(v:IV):∀es:List (Value×IV),yV0 (.int .u8 a) (updI (.int .u8 b) v es)=if a=b then some v else yV0 (.int .u8 a) es
 | []=>by
  simp only[updI,yV0,yWe];by_cases h:a=b<;>simp[h]
 | (x,u)::es=>by
  simp only[updI];by_cases hk:yWe (.int .u8 b) x=true
  ·rw[if_pos hk];have hx:∀c,yWe (.int .u8 c) x=decide (c=b):=λc=>by
    cases x<;>simp[yWe] at hk ⊢;rw[hk]
   have e:yWe (.int .u8 a) (.int .u8 b)=decide (a=b):=rfl;simp only[yV0,e,hx];by_cases h:a=b<;>simp[h]
  ·rw[if_neg hk];simp only[yV0];rw[yGk a b v es];by_cases h:a=b
   ·subst h;simp[hk]
   ·simp[h]
def zVm (ca rule:Nat):Nat :=
 if ca=2/\rule=18 then 80 else if ca=2/\rule=8 then 78
 else if rule=13\/rule=15 then 81 else if rule=14\/rule=16 then 83
 else if rule=1 then 112 else if rule=2 then 113 else if rule=3 then 114 else if rule=4 then 115
 else if rule=5 then 116 else if rule=6 then 117 else if rule=7 then 118 else if rule=8 then 119
 else if rule=9 then 120 else if rule=10 then 121 else if rule=11 then 122 else if rule=12 then 124
 else 125
def rwI (ca rule:Nat)(r:Rw):IV:=.agg [.raw (.bool r.left),.raw (.bool r.right),.raw (.int .u8 r.op),.raw (.int .u8 r.asks),.fn (.func (zVm ca rule)) [] []]
def rwL (a b:Bool)(op asks id:Nat):IV:=.agg [.raw (.bool a),.raw (.bool b),.raw (.int .u8 op),.raw (.int .u8 asks),.fn (.func id) [] []]
def zW3:List (Value×IV) :=
 updI (.int .u8 17) (rwL false false 0 0 125) <| updI (.int .u8 12) (rwL false true 7 0 124) <| updI (.int .u8 11) (rwL true false 7 0 122) <|
 updI (.int .u8 10) (rwL false true 6 0 121) <| updI (.int .u8 9) (rwL true false 6 0 120) <| updI (.int .u8 8) (rwL false true 5 0 119) <|
 updI (.int .u8 7) (rwL true false 5 0 118) <| updI (.int .u8 6) (rwL false true 4 0 117) <| updI (.int .u8 5) (rwL true false 4 0 116) <|
 updI (.int .u8 4) (rwL false true 3 0 115) <| updI (.int .u8 3) (rwL true false 3 0 114) <| updI (.int .u8 2) (rwL true false 2 0 113) <|
 updI (.int .u8 1) (rwL true true 0 0 112) []
def zQ4 (ca:Nat):List (Value×IV) :=
 if ca=2 then updI (.int .u8 18) (rwL false true 5 0 80) <| updI (.int .u8 8) (rwL false true 5 0 78) zW3
 else if ca=3 then updI (.int .u8 16) (rwL false true 9 1 83) <| updI (.int .u8 15) (rwL true false 9 2 81) <| updI (.int .u8 14) (rwL false true 8 2 83) <|
  updI (.int .u8 13) (rwL true false 8 1 81) zW3
 else zW3
theorem wGe (st:ISt):ICall prog gl 77 [] st (λr st'=>∃b,st b=none/\r=.raw (.map (some b))/\st'=st.put b (some (.map (.int .u8) zW3))):=by
 refine iI func77 ?_;simp only[go_sem,zE,zA,zL,fits];refine λb=>yQc λhb=>?_;simp only[go_sem,yQd];exact yQ0 ⟨b,hb,rfl,rfl⟩
theorem wG3 (ca:Nat)(st:ISt):ICall prog gl 61 [.raw (.int .u8 ca)] st (λr st'=>∃b,st b=none/\r=.raw (.map (some b))/\st'=st.put b (some (.map (.int .u8) (zQ4 ca)))):=by
 refine iI func61 ?_;simp only[go_sem,zA];refine (wGe gl _).mono ?_;rintro _ _ ⟨b,hb,rfl,rfl⟩;by_cases h2:ca=2
 ·have e2:decide ((ca:Int)=2)=true:=dEt (by omega);simp only[go_sem,zE,zA,zL,reduceCtorEq,e2,fits,ISt.put_same,yQd];exact yQ0 ⟨b,hb,rfl,by rw[zQ4,if_pos h2];rfl⟩
 ·have e2:decide ((ca:Int)=2)=false:=dEf (by omega);by_cases h3:ca=3
  ·have e3:decide ((ca:Int)=3)=true:=dEt (by omega);simp only[go_sem,zE,zA,zL,reduceCtorEq,e2,e3,fits,ISt.put_same,yQd];exact yQ0 ⟨b,hb,rfl,by rw[zQ4,if_neg h2,if_pos h3];rfl⟩
  ·have e3:decide ((ca:Int)=3)=false:=dEf (by omega);simp only[go_sem,zE,reduceCtorEq,e2,e3];exact yQ0 ⟨b,hb,rfl,by rw[zQ4,if_neg h2,if_neg h3]⟩
theorem xXi (rule:Nat):yV0 (.int .u8 rule) zW3=(rowK rule).map λr=>.agg [.raw (.bool r.left),.raw (.bool r.right),.raw (.int .u8 r.op),.raw (.int .u8 r.asks),.fn (.func (zVm 1 rule)) [] []]:=by
 unfold zW3;simp only[yGk];by_cases h:rule<=18
 ·rcases (show rule=0\/rule=1\/rule=2\/rule=3\/rule=4\/rule=5\/rule=6\/rule=7\/rule=8\/rule=9\/rule=10\/rule=11\/rule=12\/rule=13\/rule=14\/rule=15\/rule=16\/rule=17\/rule=18 by omega) with
   rfl|rfl|rfl|rfl|rfl|rfl|rfl|rfl|rfl|rfl|rfl|rfl|rfl|rfl|rfl|rfl|rfl|rfl|rfl<;>rfl
 ·have hn:rowK rule=none:=by unfold rowK;repeat (rw[if_neg (by omega)])
  rw[hn]
  repeat (rw[if_neg (by omega)])
  rfl
theorem zJe (ca rule:Nat):yV0 (.int .u8 rule) (zQ4 ca)=(rowS ca rule).map (rwI ca rule):=by
 have hp:=xXi rule;by_cases h:rule<=18
 ·have hr:rule=0\/rule=1\/rule=2\/rule=3\/rule=4\/rule=5\/rule=6\/rule=7\/rule=8\/rule=9\/rule=10\/rule=11\/rule=12\/rule=13\/rule=14\/rule=15\/rule=16\/rule=17\/rule=18:=by omega
  by_cases h2:ca=2
  ·subst h2;simp only[zQ4,if_true,yGk,hp];rcases hr with rfl|rfl|rfl|rfl|rfl|rfl|rfl|rfl|rfl|rfl|rfl|rfl|rfl|rfl|rfl|rfl|rfl|rfl|rfl<;>rfl
  ·by_cases h3:ca=3
   ·subst h3;simp only[zQ4,if_true,if_neg h2,yGk,hp];rcases hr with rfl|rfl|rfl|rfl|rfl|rfl|rfl|rfl|rfl|rfl|rfl|rfl|rfl|rfl|rfl|rfl|rfl|rfl|rfl<;>rfl
   ·have hk:rowS ca rule=rowK rule:=by
     unfold rowS;rw[if_neg (by omega),if_neg (by omega),if_neg (by omega),if_neg (by omega),if_neg (by omega)]
    have hi:∀r,rowK rule=some r->zVm 1 rule=zVm ca rule:=λ_ _=>by
     unfold zVm;rw[if_neg (by omega),if_neg (by omega)]
     conv=>rhs;rw[if_neg (by omega),if_neg (by omega)]
    simp only[zQ4,if_neg h2,if_neg h3,hp,hk];cases hq:rowK rule with
    | none=>rfl
    | some r=>simp only[Option.map_some,rwI,hi r hq]
 ·have hn:rowS ca rule=none:=by
   unfold rowS;rw[if_neg (by omega),if_neg (by omega),if_neg (by omega),if_neg (by omega),if_neg (by omega)];unfold rowK;repeat (rw[if_neg (by omega)])
  have hk:rowK rule=none:=by unfold rowK;repeat (rw[if_neg (by omega)])
  rw[hk] at hp;rw[hn];unfold zQ4;split
  ·simp only[yGk,hp];repeat (rw[if_neg (by omega)])
   rfl
  ·split
   ·simp only[yGk,hp];repeat (rw[if_neg (by omega)])
    rfl
   ·rw[hp];rfl
theorem wVn {ca rule:Nat}{r:Rw}(h:rowS ca rule=some r):yYi gl (zVm ca rule) (addS ca rule)/\entI prog (zVm ca rule)=true:=by
 have hr:rule<=18:=by
  refine Classical.byContradiction λhc=>?_;have hn:rowS ca rule=none:=by
   unfold rowS;rw[if_neg (by omega),if_neg (by omega),if_neg (by omega),if_neg (by omega),if_neg (by omega)];unfold rowK;repeat (rw[if_neg (by omega)])
  rw[hn] at h;cases h
 have hcas:rule=0\/rule=1\/rule=2\/rule=3\/rule=4\/rule=5\/rule=6\/rule=7\/rule=8\/rule=9\/rule=10\/rule=11\/rule=12\/rule=13\/rule=14\/rule=15\/rule=16\/rule=17\/rule=18:=by omega
 by_cases h2:ca=2
 ·subst h2;rcases hcas with rfl|rfl|rfl|rfl|rfl|rfl|rfl|rfl|rfl|rfl|rfl|rfl|rfl|rfl|rfl|rfl|rfl|rfl|rfl
  all_goals first|(cases h;done)|exact⟨wXw gl,by kernel_rfl⟩|exact⟨wXv gl,by kernel_rfl⟩|exact⟨wXu gl,by kernel_rfl⟩|exact⟨wXt gl,by kernel_rfl⟩|exact⟨wXs gl,by kernel_rfl⟩|exact⟨wXr gl,by kernel_rfl⟩|exact⟨wXq gl,by kernel_rfl⟩|exact⟨wXp gl,by kernel_rfl⟩|exact⟨xJq gl,by kernel_rfl⟩|exact⟨wXo gl,by kernel_rfl⟩|exact⟨xJv gl,by kernel_rfl⟩|exact⟨xJu gl,by kernel_rfl⟩|exact⟨xJt gl,by kernel_rfl⟩|exact⟨xJs gl,by kernel_rfl⟩|exact⟨xJr gl,by kernel_rfl⟩|exact⟨wXn gl,by kernel_rfl⟩|exact⟨wXm gl,by kernel_rfl⟩
 ·by_cases h3:ca=3
  ·subst h3;rcases hcas with rfl|rfl|rfl|rfl|rfl|rfl|rfl|rfl|rfl|rfl|rfl|rfl|rfl|rfl|rfl|rfl|rfl|rfl|rfl
   all_goals first|(cases h;done)|exact⟨wXw gl,by kernel_rfl⟩|exact⟨wXv gl,by kernel_rfl⟩|exact⟨wXu gl,by kernel_rfl⟩|exact⟨wXt gl,by kernel_rfl⟩|exact⟨wXs gl,by kernel_rfl⟩|exact⟨wXr gl,by kernel_rfl⟩|exact⟨wXq gl,by kernel_rfl⟩|exact⟨wXp gl,by kernel_rfl⟩|exact⟨xJq gl,by kernel_rfl⟩|exact⟨wXo gl,by kernel_rfl⟩|exact⟨xJv gl,by kernel_rfl⟩|exact⟨xJu gl,by kernel_rfl⟩|exact⟨xJt gl,by kernel_rfl⟩|exact⟨xJs gl,by kernel_rfl⟩|exact⟨xJr gl,by kernel_rfl⟩|exact⟨wXn gl,by kernel_rfl⟩|exact⟨wXm gl,by kernel_rfl⟩
  ·have hk:rowS ca rule=rowS 1 rule:=by
    unfold rowS;rw[if_neg (by omega),if_neg (by omega),if_neg (by omega),if_neg (by omega),if_neg (by omega)]
    conv=>rhs;rw[if_neg (by omega),if_neg (by omega),if_neg (by omega),if_neg (by omega),if_neg (by omega)]
   have hi:zVm ca rule=zVm 1 rule:=by
    unfold zVm;rw[if_neg (by omega),if_neg (by omega)]
    conv=>rhs;rw[if_neg (by omega),if_neg (by omega)]
   have hs:addS ca rule=addS 1 rule:=by
    funext m a b;unfold addS;rw[if_neg h2,if_neg (show ¬ (1:Nat)=2 by decide)]
   rw[hk] at h;rw[hi,hs];rcases hcas with rfl|rfl|rfl|rfl|rfl|rfl|rfl|rfl|rfl|rfl|rfl|rfl|rfl|rfl|rfl|rfl|rfl|rfl|rfl
   all_goals first|(cases h;done)|exact⟨wXw gl,by kernel_rfl⟩|exact⟨wXv gl,by kernel_rfl⟩|exact⟨wXu gl,by kernel_rfl⟩|exact⟨wXt gl,by kernel_rfl⟩|exact⟨wXs gl,by kernel_rfl⟩|exact⟨wXr gl,by kernel_rfl⟩|exact⟨wXq gl,by kernel_rfl⟩|exact⟨wXp gl,by kernel_rfl⟩|exact⟨xJq gl,by kernel_rfl⟩|exact⟨wXo gl,by kernel_rfl⟩|exact⟨xJv gl,by kernel_rfl⟩|exact⟨xJu gl,by kernel_rfl⟩|exact⟨xJt gl,by kernel_rfl⟩|exact⟨xJs gl,by kernel_rfl⟩|exact⟨xJr gl,by kernel_rfl⟩|exact⟨wXn gl,by kernel_rfl⟩|exact⟨wXm gl,by kernel_rfl⟩
