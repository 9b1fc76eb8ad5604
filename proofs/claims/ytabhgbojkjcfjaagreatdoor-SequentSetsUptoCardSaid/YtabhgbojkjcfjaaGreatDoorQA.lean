/- Sequents and trees of sequents as plain -/
import Derived.Test.YtabhgbojkjcfjaaGreatDoorKB
set_option linter.all false
open Nat renaming reduceEqDiff → zE,reduceBEq → zB,reduceAdd → zA,reduceMul → zM,reduceLeDiff → zL
namespace Go.Iv
open Go
structure Sq where
 l:List Fm
 r:List Fm
inductive Tr where
 | mk (rule:Nat) (s:Sq) (main:Fm) (term:Tm) (name:ByteArray) (sub:List Tr)
def IsSq (s:Sq)(x:IV):Prop:=∃t xs t' ys,x=.agg [.sl t xs,.sl t' ys]/\okEs t 4/\IsFms s.l xs/\okEs t' 4/\IsFms s.r ys
def IsSqs:List Sq->List IV->Prop
 | [],xs=>xs=[]
 | a::aL,xs=>∃y ys,xs=y::ys/\IsSq a y/\IsSqs aL ys
mutual
def IsTr:Tr->IV->Prop
 | .mk rule s f u n sub,x=>∃tl xl tr xr op fn ta xa tb xb v un tu xu ts xs,x=.agg [.raw (.int .u8 rule),.sl tl xl,.sl tr xr,.raw (.int .u8 op),.raw (.string fn),.sl ta xa,.sl tb xb,.raw (.bool v),.raw (.string un),.sl tu xu,.raw (.string n),.sl ts xs] /\
  rule<256/\okEs tl 4/\IsFms s.l xl/\okEs tr 4/\IsFms s.r xr/\IsFm f (.agg [.raw (.int .u8 op),.raw (.string fn),.sl ta xa,.sl tb xb])/\IsTm u (.agg [.raw (.bool v),.raw (.string un),.sl tu xu])/\okEs ts 12/\IsTrs sub xs
def IsTrs:List Tr->List IV->Prop
 | [],xs=>xs=[]
 | a::aL,xs=>∃y ys,xs=y::ys/\IsTr a y/\IsTrs aL ys
end
theorem IsTr.mk {rule:Nat}{s:Sq}{f:Fm}{u:Tm}{n:ByteArray}{sub:List Tr}{x:IV}(h:IsTr (.mk rule s f u n sub) x):∃tl xl tr xr op fn ta xa tb xb v un tu xu ts xs,x=.agg [.raw (.int .u8 rule),.sl tl xl,.sl tr xr,.raw (.int .u8 op),.raw (.string fn),.sl ta xa,.sl tb xb,.raw (.bool v),.raw (.string un),.sl tu xu,.raw (.string n),.sl ts xs] /\
  rule<256/\okEs tl 4/\IsFms s.l xl/\okEs tr 4/\IsFms s.r xr/\IsFm f (.agg [.raw (.int .u8 op),.raw (.string fn),.sl ta xa,.sl tb xb])/\IsTm u (.agg [.raw (.bool v),.raw (.string un),.sl tu xu])/\okEs ts 12/\IsTrs sub xs:=by
 simpa only[IsTr] using h
theorem IsSqs.len:∀ {aL:List Sq}{xs:List IV},IsSqs aL xs->xs.length=aL.length
 | [],xs,h=>by simp only[IsSqs] at h;subst h;rfl
 | a::aL,xs,h=>by
  simp only[IsSqs] at h;obtain⟨y,ys,rfl,_,h⟩:=h;simp[IsSqs.len h]
theorem IsSqs.get:∀ {aL:List Sq}{xs:List IV}{k:Nat}{a:Sq},IsSqs aL xs->aL[k]?=some a->∃x,xs[k]?=some x/\IsSq a x
 | [],xs,k,a,h,hk=>by simp at hk
 | b::aL,xs,k,a,h,hk=>by
  simp only[IsSqs] at h;obtain⟨y,ys,rfl,hy,h⟩:=h;cases k with
  | zero=>simp at hk;subst hk;exact⟨y,rfl,hy⟩
  | succ k=>simpa using IsSqs.get h (by simpa using hk)
theorem IsTrs.len:∀ {aL:List Tr}{xs:List IV},IsTrs aL xs->xs.length=aL.length
 | [],xs,h=>by simp only[IsTrs] at h;subst h;rfl
 | a::aL,xs,h=>by
  simp only[IsTrs] at h;obtain⟨y,ys,rfl,_,h⟩:=h;simp[IsTrs.len h]
theorem IsTrs.get:∀ {aL:List Tr}{xs:List IV}{k:Nat}{a:Tr},IsTrs aL xs->aL[k]?=some a->∃x,xs[k]?=some x/\IsTr a x
 | [],xs,k,a,h,hk=>by simp at hk
 | b::aL,xs,k,a,h,hk=>by
  simp only[IsTrs] at h;obtain⟨y,ys,rfl,hy,h⟩:=h;cases k with
  | zero=>simp at hk;subst hk;exact⟨y,rfl,hy⟩
  | succ k=>simpa using IsTrs.get h (by simpa using hk)
mutual
def Tr.steps:Tr->Nat
 | .mk _ _ _ _ _ sub=>1+yX9 sub
def yX9:List Tr->Nat
 | []=>0
 | a::l=>a.steps+yX9 l
end
mutual
def Tr.height:Tr->Nat
 | .mk _ _ _ _ _ sub=>1+yXc sub
def yXc:List Tr->Nat
 | []=>0
 | a::l=>max a.height (yXc l)
end
mutual
def Tr.cuts:Tr->Nat
 | .mk rule _ _ _ _ sub=>(if rule=17 then 1 else 0)+yG3 sub
def yG3:List Tr->Nat
 | []=>0
 | a::l=>a.cuts+yG3 l
end
mutual
def Tr.walk:List Nat->Tr->List (List Nat×Tr)
 | p,t@(.mk _ _ _ _ _ sub)=>(p,t)::yX0 p 0 sub
def yX0:List Nat->Nat->List Tr->List (List Nat×Tr)
 | _,_,[]=>[]
 | p,i,a::l=>a.walk (p++[i])++yX0 p (i+1) l
end
def yZx (e:Tr->Nat):List (List Nat×Tr)->List Nat×Nat
 | []=>([],0)
 | (p,t)::l=>if e t=0 then yZx e l else (p,e t)
theorem yVj (e:Tr->Nat):∀l m,yZx e (l++m)=if (yZx e l).2=0 then yZx e m else yZx e l
 | [],m=>by simp[yZx]
 | (p,t)::l,m=>by
  have ih:=yVj e l m;by_cases h:e t=0
  ·simp only[List.cons_append,yZx,h,if_true,ih]
  ·simp[yZx,h]
def Fm.op:Fm->Nat
 | .mk op _ _ _=>op
def Fm.subs:Fm->List Fm
 | .mk _ _ _ sub=>sub
def Fm.nm:Fm->ByteArray
 | .mk _ n _ _=>n
def Tr.sq:Tr->Sq
 | .mk _ s _ _ _ _=>s
def Sq.plus (s m:Sq):Sq:=⟨s.l++m.l,s.r++m.r⟩
end Go.Iv
namespace Go.Proofs.Tryz
open Go Go.Iv
set_option maxRecDepth 4000
variable (gl:Nat->Option IV)
theorem yGz (v w:Bool)(n m:ByteArray)(us ws:List Tm)(x y:IV)(hx:IsTm (.mk v n us) x)(hy:IsTm (.mk w m ws) y)
  (IH:∀(t t':Tag) (xs ys:List IV),okEs t 3->okEs t' 3->IsTms us xs->IsTms ws ys->∀st,ICall prog gl 130 [.sl t xs,.sl t' ys] st (λx st'=>x=.raw (.bool (eqB us ws))/\st'=st)) (st:ISt) :
  ICall prog gl 89 [x,y] st (λr st'=>r=.raw (.bool (eqB (Tm.mk v n us) (.mk w m ws)))/\st'=st):=by
 obtain⟨tx,cx,rfl,htx,hcx⟩:=hx.mk;obtain⟨ty,cy,rfl,hty,hcy⟩:=hy.mk;refine iI func89 ?_;by_cases hv:v=w
 ·subst hv;by_cases hnm:n=m
  ·subst hnm;simp only[go_sem,zE,zA,decide_true];refine (IH tx ty cx cy htx hty hcx hcy _).mono ?_;rintro _ _ ⟨rfl,rfl⟩;simp only[go_sem,zE];refine yQ0 ⟨?_,rfl⟩;by_cases hc:us=ws
   ·subst hc;rw[yQl.2 rfl,yQl.2 rfl]
   ·rw[yQi.2 hc,yQi.2 (by rintro⟨⟩;exact hc rfl)]
  ·simp only[go_sem,zE,zA,dEf hnm];exact yQ0 ⟨by rw[yQi.2 (by rintro⟨⟩;exact hnm rfl)],rfl⟩
 ·simp only[go_sem,zE,zA,beq_eq_false_iff_ne.2 hv];exact yQ0 ⟨by rw[yQi.2 (by rintro⟨⟩;exact hv rfl)],rfl⟩
theorem yYw (t t':Tag)(us ws:List Tm)(xs ys:List IV)(ht:okEs t 3)(ht':okEs t' 3)(ha:IsTms us xs)(hb:IsTms ws ys)(st:ISt) :
  ICall prog gl 130 [.sl t xs,.sl t' ys] st (λx st'=>x=.raw (.bool (eqB us ws))/\st'=st):=by
 refine iI func130 ?_;simp only[go_sem,zE,reduceCtorEq,ha.len,hb.len];intro hla hlb;refine yZ5 (λh=>?_) (λh=>?_)
 ·have hne:us≠ws:=by rintro rfl;simp at h
  simp only[go_sem];exact yQ0 ⟨by rw[yQi.2 hne],rfl⟩
 have hlen:us.length=ws.length:=by simp at h;omega
 refine LoopC.ctr us.length (λk fr st' ds=>us.take k=ws.take k/\fr 0=.iv (.sl t xs)/\fr 1=.iv (.sl t' ys)/\fr 5=.iv (.raw (.int .i64 k))/\st'=st/\ds=[]) ?_ ?_ ?_
 ·simp only[go_sem,zE,reduceCtorEq];rfl
 ·rintro k fr st' ds hlt ⟨hn,h0,h1,h5,rfl,rfl⟩;obtain⟨a,hka⟩:=yQ2 hlt;obtain⟨b,hkb⟩:=yQ2 (hlen▸hlt);obtain⟨x,hkx,hx⟩:=ha.get hka;obtain⟨y,hky,hy⟩:=hb.get hkb;obtain⟨v,n,cs⟩:=a;obtain⟨w,m,ds⟩:=b;have hx0:=hx;have hy0:=hy;obtain⟨tx,cx,rfl,htx,hcx⟩:=hx.mk;obtain⟨ty,cy,rfl,hty,hcy⟩:=hy.mk;have hcall:=yGz gl v w n m cs ds _ _ hx0 hy0 (λt1 t2 x1 y1 q1 q2 q3 q4 st1=>yYw t1 t2 cs ds x1 y1 q1 q2 q3 q4 st1) st';simp only[go_sem,zE,zB,zA,reduceCtorEq,h0,h1,h5,ha.len,lt_i hlt,yQ1 ht,yQ1 ht',iNn,hkx,hky,fits];intro _;refine hcall.mono ?_;rintro _ _ ⟨rfl,rfl⟩;by_cases hc:Tm.mk v n cs=.mk w m ds
  ·simp only[go_sem,zE,reduceCtorEq,h0,h1,h5,yQa hlt (show us.length<=281474976710656 by omega),yQl.2 hc];rw[yQ5 hka,yQ5 hkb,hn,hc]
  ·have hne:us≠ws:=by
    rintro rfl;rw[hka] at hkb;exact hc (Option.some.inj hkb)
   simp only[go_sem,yQi.2 hc];exact yQ0 ⟨by rw[yQi.2 hne],rfl⟩
 ·rintro fr st' ds ⟨hn,h0,h1,h5,rfl,rfl⟩;simp only[go_sem,zE,reduceCtorEq,h0,h5,ha.len,yQk (nLi _)];intro _;have he:us=ws:=by rw[lTl] at hn;rw[hn,hlen,lTl]
  exact yQ0 ⟨by rw[yQl.2 he],rfl⟩
termination_by SizeOf.sizeOf us
decreasing_by exact xWo (lMg hka)
theorem zJv (a b:Tm)(x y:IV)(hx:IsTm a x)(hy:IsTm b y)(st:ISt):ICall prog gl 89 [x,y] st (λr st'=>r=.raw (.bool (eqB a b))/\st'=st):=by
 obtain⟨v,n,us⟩:=a;obtain⟨w,m,ws⟩:=b;exact yGz gl v w n m us ws x y hx hy (λt t' xs ys h1 h2 h3 h4 st=>yYw gl t t' us ws xs ys h1 h2 h3 h4 st) st
def kSF (f:Fm):Prop:=∀(g:Fm) (x y:IV) (_:IsFm f x) (_:IsFm g y) (st:ISt),ICall prog gl 88 [x,y] st (λr st'=>r=.raw (.bool (eqB f g))/\st'=st)
theorem yYx (us ws:List Fm)(IH:∀a∈us,kSF gl a)(t t':Tag)(xs ys:List IV)(ht:okEs t 4)(ht':okEs t' 4)(ha:IsFms us xs)(hb:IsFms ws ys)(st:ISt) :
  ICall prog gl 93 [.sl t xs,.sl t' ys] st (λx st'=>x=.raw (.bool (eqB us ws))/\st'=st):=by
 refine iI func93 ?_;simp only[go_sem,zE,reduceCtorEq,ha.len,hb.len];intro hla hlb;refine yZ5 (λh=>?_) (λh=>?_)
 ·have hne:us≠ws:=by rintro rfl;simp at h
  simp only[go_sem];exact yQ0 ⟨by rw[yQi.2 hne],rfl⟩
 have hlen:us.length=ws.length:=by simp at h;omega
 refine LoopC.ctr us.length (λk fr st' ds=>us.take k=ws.take k/\fr 0=.iv (.sl t xs)/\fr 1=.iv (.sl t' ys)/\fr 5=.iv (.raw (.int .i64 k))/\st'=st/\ds=[]) ?_ ?_ ?_
 ·simp only[go_sem,zE,reduceCtorEq];rfl
 ·rintro k fr st' ds hlt ⟨hn,h0,h1,h5,rfl,rfl⟩;obtain⟨a,hka⟩:=yQ2 hlt;obtain⟨b,hkb⟩:=yQ2 (hlen▸hlt);obtain⟨x,hkx,hx⟩:=ha.get hka;obtain⟨y,hky,hy⟩:=hb.get hkb;have hcall:=IH a (lMg hka) b x y hx hy st';obtain⟨o,n,cs,sub⟩:=a;obtain⟨o',m,ds,sub'⟩:=b;obtain⟨tx,cx,sx,dx,rfl,_⟩:=hx.mk;obtain⟨ty,cy,sy,dy,rfl,_⟩:=hy.mk;simp only[go_sem,zE,zB,zA,reduceCtorEq,h0,h1,h5,ha.len,lt_i hlt,yQ1 ht,yQ1 ht',iNn,hkx,hky,fits];intro _;refine hcall.mono ?_;rintro _ _ ⟨rfl,rfl⟩;by_cases hc:Fm.mk o n cs sub=.mk o' m ds sub'
  ·simp only[go_sem,zE,reduceCtorEq,h0,h1,h5,yQa hlt (show us.length<=281474976710656 by omega),yQl.2 hc];rw[yQ5 hka,yQ5 hkb,hn,hc]
  ·have hne:us≠ws:=by
    rintro rfl;rw[hka] at hkb;exact hc (Option.some.inj hkb)
   simp only[go_sem,yQi.2 hc];exact yQ0 ⟨by rw[yQi.2 hne],rfl⟩
 ·rintro fr st' ds ⟨hn,h0,h1,h5,rfl,rfl⟩;simp only[go_sem,zE,reduceCtorEq,h0,h5,ha.len,yQk (nLi _)];intro _;have he:us=ws:=by rw[lTl] at hn;rw[hn,hlen,lTl]
  exact yQ0 ⟨by rw[yQl.2 he],rfl⟩
theorem zVg (o:Nat)(n:ByteArray)(us:List Tm)(sub:List Fm)(IH:∀a∈sub,kSF gl a):kSF gl (.mk o n us sub):=by
 intro g x y hx hy st;obtain⟨o',m,ws,sub'⟩:=g;obtain⟨tx,cx,sx,dx,rfl,ho,htx,hcx,hsx,hdx⟩:=hx.mk;obtain⟨ty,cy,sy,dy,rfl,ho',hty,hcy,hsy,hdy⟩:=hy.mk;have hcall:=yYx gl sub sub' IH sx sy dx dy hsx hsy hdx hdy;refine iI func88 ?_;by_cases hv:o=o'
 ·subst hv;by_cases hnm:n=m
  ·subst hnm;simp only[go_sem,zE,zA,decide_true];refine (yYw gl tx ty us ws cx cy htx hty hcx hcy _).mono ?_;rintro _ _ ⟨rfl,rfl⟩;by_cases hc:us=ws
   ·subst hc;simp only[go_sem,zE,zA,yQl.2 rfl];refine (hcall _).mono ?_;rintro _ _ ⟨rfl,rfl⟩;simp only[go_sem,zE];refine yQ0 ⟨?_,rfl⟩;by_cases hd:sub=sub'
    ·subst hd;rw[yQl.2 rfl,yQl.2 rfl]
    ·rw[yQi.2 hd,yQi.2 (by rintro⟨⟩;exact hd rfl)]
   ·simp only[go_sem,zE,yQi.2 hc];exact yQ0 ⟨by rw[yQi.2 (by rintro⟨⟩;exact hc rfl)],rfl⟩
  ·simp only[go_sem,zE,zA,dEf hnm,decide_true];exact yQ0 ⟨by rw[yQi.2 (by rintro⟨⟩;exact hnm rfl)],rfl⟩
 ·have hv':decide ((o:Int)=(o':Int))=false:=dEf (by omega);simp only[go_sem,zE,zA,hv'];exact yQ0 ⟨by rw[yQi.2 (by rintro⟨⟩;exact hv rfl)],rfl⟩
theorem zQ8:∀(k:Nat)(f:Fm),SizeOf.sizeOf f<k->kSF gl f
 | 0,f,h=>by omega
 | k+1,.mk o n us sub,h=>zVg gl o n us sub (λa ha=>zQ8 k a (by
   have:=lSm ha;simp only[Fm.mk.sizeOf_spec] at h;omega))
theorem yUh (f:Fm):kSF gl f:=zQ8 gl _ f (Nat.lt_succ_self _)
theorem zZx (us ws:List Fm)(t t':Tag)(xs ys:List IV)(ht:okEs t 4)(ht':okEs t' 4)(ha:IsFms us xs)(hb:IsFms ws ys)(st:ISt) :
  ICall prog gl 93 [.sl t xs,.sl t' ys] st (λx st'=>x=.raw (.bool (eqB us ws))/\st'=st):=yYx gl us ws (λa _=>yUh gl a) t t' xs ys ht ht' ha hb st
theorem yGg (a b:Sq)(x y:IV)(hx:IsSq a x)(hy:IsSq b y)(st:ISt):ICall prog gl 43 [x,y] st (λr st'=>r=.raw (.bool (eqB a b))/\st'=st):=by
 obtain⟨l,r⟩:=a;obtain⟨l',r'⟩:=b;obtain⟨t1,x1,t2,x2,rfl,h1,h2,h3,h4⟩:=hx;obtain⟨t3,x3,t4,x4,rfl,h5,h6,h7,h8⟩:=hy;refine iI func43 ?_;simp only[go_sem,zE,zA];refine (zZx gl l l' t1 t3 x1 x3 h1 h5 h2 h6 _).mono ?_;rintro _ _ ⟨rfl,rfl⟩;by_cases hc:l=l'
 ·subst hc;simp only[go_sem,zE,zA,yQl.2 rfl];refine (zZx gl r r' t2 t4 x2 x4 h3 h7 h4 h8 _).mono ?_;rintro _ _ ⟨rfl,rfl⟩;simp only[go_sem,zE];refine yQ0 ⟨?_,rfl⟩;by_cases hd:r=r'
  ·subst hd;rw[yQl.2 rfl,yQl.2 rfl]
  ·rw[yQi.2 hd,yQi.2 (by rintro⟨⟩;exact hd rfl)]
 ·simp only[go_sem,zE,yQi.2 hc];exact yQ0 ⟨by rw[yQi.2 (by rintro⟨⟩;exact hc rfl)],rfl⟩
theorem IsFmD.aggs {f:Fm}{r:IV}(h:IsFmD f r):∃o n t x t' x',r=.agg [.raw (.int .u8 o),.raw (.string n),.sl t x,.sl t' x']:=by
 obtain⟨o,n,us,sub⟩:=f;obtain⟨t,xs,t',ys,rfl,_⟩:=h.mk;exact⟨_,_,_,_,_,_,rfl⟩
end Go.Proofs.Tryz
namespace Go.Iv
open Go
section
variable {P:Program}{gl:Nat->Option IV}{f:FuncId}{args args':List IV}{st:ISt}
theorem ICall.lentOwn {K:IV->Prop}(hf:flatSt st)(hgl:∀g x,gl g=some x->age x=x)(hl:Lents st args args')(h:ICall P gl f (ages args') (yYp st) (λr st'=>st'=yYp st/\dfr r/\K r)) :
  ICall P gl f args st (λy st'=>subSt st st'/\flatSt st'/\∃x N,K x/\OI N y x/\rawY y/\wJa N/\subSt N st'/\∀b,N b≠none->st b=none):=by
 intro B X rs hg hst hv;subst hst;have hgl':=hg.lend;have hg1:Good ⟨P,gl,X.w.heap.size⟩ X.lend:=⟨λb o hb=>(hgl'.ok b o hb).flat (hf b o (xQ9 X.st b o hb)) rfl rfl,λg x hx=>by
   have h1:=hgl g x hx;have h2:=(hgl'.gl g x hx).aged (B':=X.w.heap.size);simp only[age,h1] at h2;exact h2,Nat.le_refl _,hgl'.Lnew,hgl'.gsh,hgl'.dr⟩
 have hva:Cx.vl ⟨P,gl,X.w.heap.size⟩ X.lend rs (ages args'):=VL.aged (hl.v hg hv);refine (h X.w.heap.size X.lend rs hg1 rfl hva).mono ?_;rintro e w' ⟨v,rfl,X',x,rfl,h2,h3,h4,h5,h6,h7⟩;obtain⟨y,hy1,hy2,_,hy4⟩:=uZw (st:=λ_=>none) h4 h6;have hlt:∀ {b o},X.st b=some o->b<X.w.heap.size:=λhb=>hg.lt hb;have hsz:X.w.heap.size<=X'.w.heap.size:=h3.size
 let Y:WS:={ w:=X'.w,L:=λb=>if b<X.w.heap.size then (match X.st b with|some (.box _)=>0|_=>X'.L b) else 0,st:=yY5 X'.w X.w.heap.size X.st,d:=X'.d }
 have hYn:∀ {b},¬ b<X.w.heap.size->Y.L b=0:=λhb=>by simp only[Y];rw[if_neg hb]
 have hYb:∀ {b cs},X.st b=some (.box cs)->Y.L b=0:=λhb=>by simp only[Y,hb];split<;>rfl
 have hYk:∀ {b},b<X.w.heap.size->(∀cs,X.st b≠some (.box cs))->Y.L b=X'.L b:=λ{b} h0 hb=>by
  simp only[Y];rw[if_pos h0]
  try split
  all_goals first|rfl|(rename_i cs hc;exact absurd hc (hb _))
 have he:Ext X Y:=by
  refine⟨h3.os,h3.tape,h3.output,h3.size,λb=>?_,λb i hi=>?_,λb hb hs=>?_,λb hb hs=>?_,h3.shape,h3.d⟩
  ·by_cases h0:b<X.w.heap.size
   ·by_cases hb:∃cs,X.st b=some (.box cs)
    ·obtain⟨cs,hb⟩:=hb;rw[(hg.ok b _ hb).1];exact Nat.zero_le _
    ·rw[hYk h0 λcs hc=>hb ⟨cs,hc⟩];exact Nat.le_trans (hg.lend_ext.lmono b) (h3.lmono b)
   ·rw[hg.Lnew b (by omega)];exact Nat.zero_le _
  ·exact h3.cells b i (Nat.lt_of_lt_of_le hi (hg.lend_ext.lmono b))
  ·have hne:∀cs,X.st b≠some (.box cs):=λcs hc=>by rw[hs] at hc;cases hc
   obtain⟨k1,k2⟩:=h3.keep b hb ((yWb hne).trans hs);exact⟨k1,by rw[hYk hb hne,k2,yWg hne]⟩
  ·simp only[Y,yY5];rw[if_pos hb];exact hs
 have hso:∀b o,Y.st b=some o->(b<X.w.heap.size/\X.st b=some o)\/(X.w.heap.size<=b/\∃c T,X'.w.heap[b]?=some (.cells c T (0,0))/\o=.box (c.toList.map rdI)):=λb o hb=>by
  simp only[Y,yY5] at hb;split at hb
  ·exact .inl ⟨‹_›,hb⟩
  ·split at hb
   ·rename_i c T fz hh;split at hb
    ·rename_i hz;subst hz;cases hb;exact .inr ⟨by omega,c,T,hh,rfl⟩
    ·cases hb
   ·cases hb
 refine⟨v,rfl,Y,y,rfl,⟨λb o hb=>?_,λg x hgx=>he.v (hg.gl g x hgx),Nat.le_trans hg.B h3.size,λb hb=>?_,h2.gsh,h2.dr⟩,he,hy1 _ _ _,λb o hb=>?_,λb o hb=>?_,x,_,h7,hy2,hy4,λb cs hb=>?_,λb o hb=>?_,λb hb=>?_⟩
 ·rcases hso b o hb with⟨h8,h9⟩|⟨h8,c,T,hh,rfl⟩
  ·by_cases hbx:∃cs,X.st b=some (.box cs)
   ·obtain⟨cs,hbx⟩:=hbx;rw[hbx] at h9;cases h9;exact (hg.ok b _ hbx).flat (hf b _ hbx) (h3.keep b h8 (zQ5 hbx)).1 (by rw[hYb hbx,(hg.ok b _ hbx).1])
   ·have hne:∀cs,X.st b≠some (.box cs):=λcs hc=>hbx ⟨cs,hc⟩;have h10:X'.st b=some o:=by rw[h5];exact (yWb hne).trans h9
    exact (h2.ok b o h10).flat (hf b o h9) rfl (hYk h8 hne)
  ·refine⟨hYn (by omega),c,T,hh,by simp,λi r z hr hz=>?_⟩;rw[List.getElem?_map,hr] at hz;cases hz;exact uZs r
 ·exact hYn (by have h9:X'.w.heap.size<=b:=hb;omega)
 ·simp only[Y,yY5];rw[if_pos (hlt hb)];exact hb
 ·rcases hso b o hb with⟨_,h9⟩|⟨_,c,T,_,rfl⟩
  ·exact hf b o h9
  ·intro z hz;obtain⟨v,_,rfl⟩:=List.mem_map.1 hz;exact wJ9 v
 ·unfold yY5 at hb;split at hb
  ·cases hb
  ·split at hb
   ·split at hb
    ·cases hb;intro z hz;obtain⟨v,_,rfl⟩:=List.mem_map.1 hz;exact wJ8 v
    ·cases hb
   ·cases hb
 ·simp only[Y,yY5] at hb ⊢;split at hb
  ·cases hb
  ·rename_i h0;rw[if_neg h0];exact hb
 ·simp only[yY5] at hb;split at hb
  ·exact absurd rfl hb
  ·cases hq:X.st b with
   | none=>rfl
   | some o=>exact absurd (hlt hq) ‹_›
theorem wW2 {X X':WS}{g:Nat}{o:IObj}(h:Ext X X')(h0:X.st g=none)(h1:X'.st g=some o):X.w.heap.size<=g:=by
 by_cases hlt:g<X.w.heap.size
 ·have:=h.dom g hlt h0;rw[h1] at this;cases this
 ·omega
theorem zYv {X':WS}{S:ISt}{g:Nat}{cs:List IV}(h0:S g=none)(hst':X'.st=S.put g (some (.box cs))):LendOk X'.st (ISt.put (λ_=>none) g (some (.box cs))) S:=by
 refine⟨λb o hb=>?_,λb o hb=>?_,λb cs' hb=>?_⟩
 ·rw[ISt.put_apply] at hb;split at hb
  ·rename_i hbg;subst hbg;cases hb;rw[hst'];exact ISt.put_same ..
  ·cases hb
 ·rw[hst',ISt.put_apply];split
  ·rename_i hbg;rw[hbg,h0] at hb;cases hb
  ·exact hb
 ·rw[ISt.put_apply] at hb;split at hb
  ·rename_i hbg;rw[hbg];exact h0
  ·cases hb
theorem wW1 {C:Cx}{X':WS}{S:ISt}{g cap es:Nat}{cs zs:List IV}(h2:Good C X')(h0:S g=none)(hst':X'.st=S.put g (some (.box cs)))(hB:C.B<=g)(hn:zs.length<=140737488355328)(hcap:zs.length<=cap)(hroom:cap*es<=cs.length)
  (htk:cs.take (zs.length*es)=zs.flatMap IV.cells) (hz:∀z∈zs,z.cells.length=es):C.v (X'.lendS (ISt.put (λ_=>none) g (some (.box cs))) S) (.slice (some ⟨g,0,none⟩) zs.length cap) (.sl ⟨true,.app g,es⟩ zs):=by
 have hgs:X'.st g=some (.box cs):=by rw[hst'];exact ISt.put_same ..
 have hex:=h2.lendS_ext (zYv h0 hst');have hs1:(ISt.put (λ_=>none) g (some (.box cs))) g=some (.box cs):=ISt.put_same ..;obtain⟨hL0,c,T,hh,hvl⟩:=h2.ok g _ hgs;have hcl:c.toList.length=cs.length:=hvl.1;have hflat:(zs.flatMap IV.cells).length=zs.length*es:=yQu zs hz;have hle:zs.length*es<=cs.length:=Nat.le_trans (Nat.mul_le_mul_right _ hcap) hroom;refine V.sl (some ⟨g,0,none⟩) cap ⟨true,.app g,es⟩ zs T (c.toList.take (zs.length*es)) rfl hn hcap hz ?_ (λg' hg'=>?_) (λ_ ad had=>?_) (λ_=>⟨_,rfl,rfl,?_,λi r hr=>?_⟩) λi r z hr hz=>?_
 ·rw[List.length_take];simp only;omega
 ·cases hg';refine⟨T,c.size,?_,?_⟩
  ·simp[shq,WS.lendS,hh]
  ·have:c.size=c.toList.length:=by simp
   rw[this,hcl];exact hroom
 ·cases had;refine⟨hB,by simp,?_⟩;simp[ety,shq,WS.lendS,hh]
 ·show 0+(c.toList.take (zs.length*es)).length<=(X'.lendS _ S).L g;rw[zG2 hs1,List.length_take];omega
 ·show X'.w.cell? _=_;rw[Nat.zero_add,yZ6 hh];rw[List.getElem?_take] at hr;split at hr
  ·simpa using hr
  ·cases hr
 ·rw[<- htk,List.getElem?_take] at hz;rw[List.getElem?_take] at hr;split at hr
  ·rename_i hi;rw[if_pos hi] at hz;exact hex.v (hvl.2 i r z hr hz)
  ·cases hr
theorem ICall.fixN {K:IV->ISt->Prop}(h:ICall P gl f args st (λy st'=>K y st'\/∃g n cap cs es zs v,st g=none/\y=.tup [.raw (.slice (some ⟨g,0,none⟩) n cap),.raw v]/\st'=st.put g (some (.box cs)) /\
   zs.length=n/\n<=140737488355328/\n<=cap/\cap*es<=cs.length/\cs.take (n*es)=zs.flatMap IV.cells/\(∀z∈zs,z.cells.length=es)/\K (.tup [.sl ⟨true,.app g,es⟩ zs,.raw v]) st)) :
  ICall P gl f args st K:=by
 intro B X rs hg hst hv;subst hst;refine (h B X rs hg rfl hv).mono ?_;rintro e w' ⟨v,rfl,X',y,rfl,h2,h3,h4,hK|⟨g,n,cap,cs,es,zs,u,h0,rfl,hst',rfl,hn,hcap,hroom,htk,hz,hK⟩⟩
 ·exact⟨v,rfl,X',y,rfl,h2,h3,h4,hK⟩
 have hgn:=wW2 h3 h0 (by rw[hst'];exact ISt.put_same ..);have hk:=zYv h0 hst';refine⟨v,rfl,X'.lendS _ X.st,_,rfl,h2.lendS hk,h3.trans (h2.lendS_ext hk),?_,hK⟩;obtain⟨rr,rfl,hr⟩:=V.tup_inv h4;refine .tup rr _ (by rw[hr.1];rfl) λi r x h1 h2x=>?_
 match i,h1,h2x with
 | 1,h1,h2x =>
  cases h2x;exact (h2.lendS_ext hk).v (hr.2 1 r _ h1 rfl)
 | 0,h1,h2x =>
  cases h2x;obtain rfl:=V.raw_inv (hr.2 0 r _ h1 rfl);exact wW1 h2 h0 hst' (Nat.le_trans hg.B hgn) hn hcap hroom htk hz
theorem ICall.fixL {K:IV->ISt->Prop}(h:ICall P gl f args st (λy st'=>K y st'\/∃g es zs,st g=none/\y=.raw (.slice (some ⟨g,0,none⟩) zs.length zs.length)/\st'=st.put g (some (.box (zs.flatMap IV.cells))) /\
   zs.length<=140737488355328/\(∀z∈zs,z.cells.length=es)/\K (.sl ⟨true,.app g,es⟩ zs) st)):ICall P gl f args st K:=by
 intro B X rs hg hst hv;subst hst;refine (h B X rs hg rfl hv).mono ?_;rintro e w' ⟨v,rfl,X',y,rfl,h2,h3,h4,hK|⟨g,es,zs,h0,rfl,hst',hn,hz,hK⟩⟩
 ·exact⟨v,rfl,X',y,rfl,h2,h3,h4,hK⟩
 have hgn:=wW2 h3 h0 (by rw[hst'];exact ISt.put_same ..);have hk:=zYv h0 hst';have hfl:=yQu zs hz;obtain rfl:=V.raw_inv h4;exact⟨_,rfl,X'.lendS _ X.st,_,rfl,h2.lendS hk,h3.trans (h2.lendS_ext hk),wW1 h2 h0 hst' (Nat.le_trans hg.B hgn) hn (Nat.le_refl _) (by rw[hfl];exact Nat.le_refl _) (by rw[<- hfl,lTl]) hz,hK⟩
end
end Go.Iv
namespace Go.Proofs.Tryz
open Go Go.Iv
set_option maxRecDepth 4000
variable (gl:Nat->Option IV)
def mkT (k i:Nat):ByteArray:=⟨#[35,UInt8.ofNat k,UInt8.ofNat (k / 256),UInt8.ofNat (k / 65536),47,UInt8.ofNat i,UInt8.ofNat (i / 256),UInt8.ofNat (i / 65536)]⟩
@[go_sem] theorem vZl (a:Option Addr)(n c:Nat):IV.one (.raw (.slice a n c))=true:=(rfl)
@[go_sem] theorem kZo:((#[]:Array UInt8).size<=281474976710656)=True:=eq_true (Nat.zero_le _)
theorem wWx (k:Nat):IntKind.u8.wrap ((k:Nat):Int)=((UInt8.ofNat k).toNat:Int):=by
 simp[IntKind.wrap,IntKind.bits,IntKind.signed]
theorem shr8 (k:Nat):Int.fdiv (k:Int) (2 ^ min (Int.toNat 8) 64)=((k / 256:Nat):Int):=by
 rw[show (2:Int) ^ min (Int.toNat 8) 64=((256:Nat):Int) from rfl];exact (Int.ofNat_fdiv k 256).symm
theorem vYi (k:Nat):Int.fdiv (k:Int) (2 ^ min (Int.toNat 16) 64)=((k / 65536:Nat):Int):=by
 rw[show (2:Int) ^ min (Int.toNat 16) 64=((65536:Nat):Int) from rfl];exact (Int.ofNat_fdiv k 65536).symm
theorem vJe (a b c d e f g h:UInt8):yG6 [.raw (.int .u8 (a.toNat:Int)),.raw (.int .u8 (b.toNat:Int)),.raw (.int .u8 (c.toNat:Int)),.raw (.int .u8 (d.toNat:Int)),.raw (.int .u8 (e.toNat:Int)),.raw (.int .u8 (f.toNat:Int)),.raw (.int .u8 (g.toNat:Int)),.raw (.int .u8 (h.toNat:Int))]=some [a,b,c,d,e,f,g,h]:=by
 simp only[xJq,xYz,Option.map_some]
theorem wQu (a b c d e f g h:Operand):yKs 8 [(0,a),(1,b),(2,c),(3,d),(4,e),(5,f),(6,g),(7,h)]=true:=rfl
theorem zWd (k i:Nat)(st:ISt):ICall prog gl 187 [.raw (.int .i64 k),.raw (.int .i64 i)] st (λr st'=>r=.raw (.string (mkT k i))/\st'=st):=by
 have hb:=vJe 35 (UInt8.ofNat k) (UInt8.ofNat (k / 256)) (UInt8.ofNat (k / 65536)) 47 (UInt8.ofNat i) (UInt8.ofNat (i / 256)) (UInt8.ofNat (i / 65536));simp only[show (((35:UInt8).toNat:Nat):Int)=35 from rfl,show (((47:UInt8).toNat:Nat):Int)=47 from rfl] at hb;have hcv:=λn:Int=>zKj prog 3 5 vX4 vX3 .i64 n;refine iI func187 ?_;simp only[go_sem,zE,zM,zL,reduceCtorEq,hcv,show ((0:Int)<=8)=True from eq_true (by omega),show ((0:Int)<=16)=True from eq_true (by omega),shr8,vYi,wWx,fits,wQu,hb,Option.bind_some];exact yQ0 ⟨rfl,rfl⟩
def mkC (k j:Nat):List IV:=[.raw (.bool false),.raw (.string (mkT k j)),.sl ⟨true,.nil,0⟩ []]
def mkD (k j:Nat):List IV:=[.raw (.int .u8 (0:Nat)),.raw (.string (mkT k j)),.sl ⟨true,.nil,0⟩ [],.sl ⟨true,.nil,0⟩ []]
def mksT:Nat->List IV
 | 0=>[]
 | j+1=>mksT j++mkC 1 j
def mksF:Nat->List IV
 | 0=>[]
 | j+1=>mksF j++mkD 1 j
theorem yWv:∀j,(mksT j).length=j*3
 | 0=>rfl
 | j+1=>by simp only[mksT,lLa,yWv j,mkC,List.length_cons,List.length_nil];omega
theorem yWw:∀j,(mksF j).length=j*4
 | 0=>rfl
 | j+1=>by simp only[mksF,lLa,yWw j,mkD,List.length_cons,List.length_nil];omega
theorem zZ2 (k i:Nat)(st:ISt):ICall prog gl 147 [.raw (.int .i64 k),.raw (.int .i64 i)] st (λr st'=>r=.agg (mkC k i)/\st'=st):=by
 refine iI func147 ?_;simp only[go_sem,zE,zA,reduceCtorEq];refine (zWd gl k i _).mono ?_;rintro _ st ⟨rfl,rfl⟩;simp only[go_sem,zE,zA,zL,fits];exact yQ0 ⟨rfl,rfl⟩
theorem zZ3 (k i:Nat)(st:ISt):ICall prog gl 138 [.raw (.int .i64 k),.raw (.int .i64 i)] st (λr st'=>r=.agg (mkD k i)/\st'=st):=by
 refine iI func138 ?_;simp only[go_sem,zE,zA,reduceCtorEq];refine (zWd gl k i _).mono ?_;rintro _ st ⟨rfl,rfl⟩;simp only[go_sem,zE,zA,zL,fits];exact yQ0 ⟨rfl,rfl⟩
mutual
def LTt (T:ISt):Tm->List IV->Prop
 | .mk v n ws,c=>∃a cs,c=[.raw (.bool v),.raw (.string n),.raw (.slice (some ⟨a,0,none⟩) ws.length (ws.length+12))]/\T a=some (.box (cs++mksT 12))/\LTc T ws cs
def LTc (T:ISt):List Tm->List IV->Prop
 | [],cs=>cs=[]
 | t::l,cs=>∃c d,cs=c++d/\LTt T t c/\LTc T l d
end
mutual
def LFf (T:ISt):Fm->List IV->Prop
 | .mk o n ws sub,c=>∃a cs b ds,o<256/\c=[.raw (.int .u8 o),.raw (.string n),.raw (.slice (some ⟨a,0,none⟩) ws.length (ws.length+12)),.raw (.slice (some ⟨b,0,none⟩) sub.length (sub.length+12))] /\
   T a=some (.box (cs++mksT 12))/\LTc T ws cs/\T b=some (.box (ds++mksF 12))/\LFc T sub ds
def LFc (T:ISt):List Fm->List IV->Prop
 | [],cs=>cs=[]
 | t::l,cs=>∃c d,cs=c++d/\LFf T t c/\LFc T l d
end
mutual
theorem LTt.mono {T T':ISt}(h:subSt T T'):∀ {t:Tm} {c:List IV},LTt T t c->LTt T' t c
 | .mk v n ws,c,hc=>by
  simp only[LTt] at hc ⊢;obtain⟨a,cs,h1,h2,h3⟩:=hc;exact⟨a,cs,h1,h _ _ h2,LTc.mono h h3⟩
theorem LTc.mono {T T':ISt}(h:subSt T T'):∀ {l:List Tm} {c:List IV},LTc T l c->LTc T' l c
 | [],c,hc=>hc
 | t::l,c,hc=>by
  simp only[LTc] at hc ⊢;obtain⟨a,b,h1,h2,h3⟩:=hc;exact⟨a,b,h1,LTt.mono h h2,LTc.mono h h3⟩
end
mutual
theorem LFf.mono {T T':ISt}(h:subSt T T'):∀ {t:Fm} {c:List IV},LFf T t c->LFf T' t c
 | .mk o n ws sub,c,hc=>by
  simp only[LFf] at hc ⊢;obtain⟨a,cs,b,ds,h0,h1,h2,h3,h4,h5⟩:=hc;exact⟨a,cs,b,ds,h0,h1,h _ _ h2,h3.mono h,h _ _ h4,LFc.mono h h5⟩
theorem LFc.mono {T T':ISt}(h:subSt T T'):∀ {l:List Fm} {c:List IV},LFc T l c->LFc T' l c
 | [],c,hc=>hc
 | t::l,c,hc=>by
  simp only[LFc] at hc ⊢;obtain⟨a,b,h1,h2,h3⟩:=hc;exact⟨a,b,h1,LFf.mono h h2,LFc.mono h h3⟩
end
theorem LTt.len {T:ISt}{t:Tm}{c:List IV}(h:LTt T t c):c.length=3:=by
 cases t;simp only[LTt] at h;obtain⟨_,_,rfl,_⟩:=h;rfl
theorem LFf.len {T:ISt}{t:Fm}{c:List IV}(h:LFf T t c):c.length=4:=by
 cases t;simp only[LFf] at h;obtain⟨_,_,_,_,_,rfl,_⟩:=h;rfl
theorem LTc.len {T:ISt}:∀ {l:List Tm} {c:List IV},LTc T l c->c.length=l.length*3
 | [],c,h=>by simp only[LTc] at h;subst h;rfl
 | t::l,c,h=>by
  simp only[LTc] at h;obtain⟨a,b,rfl,h2,h3⟩:=h;rw[lLa,h2.len,LTc.len h3,List.length_cons];omega
theorem LFc.len {T:ISt}:∀ {l:List Fm} {c:List IV},LFc T l c->c.length=l.length*4
 | [],c,h=>by simp only[LFc] at h;subst h;rfl
 | t::l,c,h=>by
  simp only[LFc] at h;obtain⟨a,b,rfl,h2,h3⟩:=h;rw[lLa,h2.len,LFc.len h3,List.length_cons];omega
theorem LTc.snoc {T:ISt}{t:Tm}{c:List IV}(h:LTt T t c):∀ {l:List Tm} {cs:List IV},LTc T l cs->LTc T (l++[t]) (cs++c)
 | [],cs,k=>by
  simp only[LTc] at k;subst k;exact⟨c,[],by simp,h,rfl⟩
 | a::l,cs,k=>by
  simp only[LTc] at k;obtain⟨x,y,rfl,h2,h3⟩:=k;exact⟨x,y++c,by simp,h2,LTc.snoc h h3⟩
theorem LFc.snoc {T:ISt}{t:Fm}{c:List IV}(h:LFf T t c):∀ {l:List Fm} {cs:List IV},LFc T l cs->LFc T (l++[t]) (cs++c)
 | [],cs,k=>by
  simp only[LFc] at k;subst k;exact⟨c,[],by simp,h,rfl⟩
 | a::l,cs,k=>by
  simp only[LFc] at k;obtain⟨x,y,rfl,h2,h3⟩:=k;exact⟨x,y++c,by simp,h2,LFc.snoc h h3⟩
def nw (st st':ISt):ISt:=λb=>match st b with|none=>st' b|some _=>none
theorem yKo {st st':ISt}{b:Nat}{o:IObj}(h:nw st st' b=some o):st b=none/\st' b=some o:=by
 unfold nw at h;split at h
 ·exact⟨‹_›,h⟩
 ·cases h
theorem xQ8 {st st':ISt}{b:Nat}{o:IObj}(h:st b=none)(h':st' b=some o):nw st st' b=some o:=by
 unfold nw;rw[h];exact h'
theorem nw_l {st s1 s2:ISt}(h:subSt s1 s2):subSt (nw st s1) (nw st s2):=λb o hb=>by
 obtain⟨h1,h2⟩:=yKo hb;exact xQ8 h1 (h _ _ h2)
theorem nw_r {st s1 s2:ISt}(h:subSt st s1):subSt (nw s1 s2) (nw st s2):=λb o hb=>by
 obtain⟨h1,h2⟩:=yKo hb;exact xQ8 (yGe h h1) h2
theorem wVw {st s1 s2:ISt}{g:Nat}{o:Option IObj}(h:subSt s1 s2):subSt ((nw st s1).put g none) ((nw st (s2.put g o)).put g none):=λb x hb=>by
 rw[ISt.put_apply] at hb ⊢;split at hb
 ·cases hb
 ·rename_i hbg;rw[if_neg hbg];obtain⟨h1,h2⟩:=yKo hb;exact xQ8 h1 (by rw[yQz hbg];exact h _ _ h2)
theorem wVx {st s1 s2:ISt}{g:Nat}{o:Option IObj}{x:IObj}(h:subSt st s1)(hg:s1 g=some x):subSt (nw s1 s2) ((nw st (s2.put g o)).put g none):=λb y hb=>by
 obtain⟨h1,h2⟩:=yKo hb;have hbg:b≠g:=by rintro rfl;rw[hg] at h1;cases h1
 rw[yQz hbg];exact xQ8 (yGe h h1) (by rw[yQz hbg];exact h2)
theorem zGp {e:TypeId×Bool×Nat×Nat}{b n cap:Nat}{y:IV}{cs cs':List IV}{R:Rt}{st:ISt}{ds:List Dfd}(hb:st b=some (.box cs))(hf:fits e.2.1 e.2.2.1 y=true)(h1:(n+1)*e.2.2.2<=140737488355328/\n+1<=140737488355328)(hc:n+1<=cap)(h2:cap*e.2.2.1<=cs.length)
  (hs:yX2 cs (n*e.2.2.1) y.cells=cs') (h:∀st',st'=st.put b (some (.box cs'))->R (.val (.raw (.slice (some ⟨b,0,none⟩) (n+1) cap))) st' ds):appO e b 0 n cap [y] R st ds:=by
 subst hs;have h:=h _ rfl;refine⟨⟨rfl,by simp[hf]⟩,h1,yQ3.2 ⟨_,hb,⟨by omega,h2⟩,λ_=>by simpa using h,λhd=>?_⟩⟩;exact absurd (dEt hc) (by simpa using hd)
theorem yUz {cs rest c:List IV}{k:Nat}(h:cs.length=k):yX2 (cs++rest) k c=cs++c++rest.drop c.length:=by
 unfold yX2;rw[List.take_left' h,<- h,List.drop_append,List.drop_eq_nil_of_le (by omega),List.nil_append];simp
theorem yKd {k n:Nat}(h:k<=n):yXf none (some ((k:Nat):Int)) n=some (0,k):=by
 simp only[yXf,Option.getD_none,Option.getD_some];rw[if_pos ⟨Int.le_refl _,by omega,by omega⟩];simp
theorem yGh {st:ISt}{g:Nat}{cs:List IV}(h:flatSt st)(hc:∀c∈cs,yG1 c):flatSt (st.put g (some (.box cs))):=h.put λx hx=>by cases hx;exact hc
theorem zXs {st:ISt}{g:Nat}{cs:List IV}(h:flatSt st)(hg:st g=some (.box cs)):∀c∈cs,yG1 c:=h g _ hg
theorem LTt.flat {T:ISt}{t:Tm}{c:List IV}(h:LTt T t c):∀x∈c,yG1 x:=by
 cases t;simp only[LTt] at h;obtain⟨_,_,rfl,_⟩:=h;intro x hx;simp only[List.mem_cons,List.not_mem_nil,or_false] at hx;rcases hx with rfl|rfl|rfl<;>trivial
theorem LFf.flat {T:ISt}{t:Fm}{c:List IV}(h:LFf T t c):∀x∈c,yG1 x:=by
 cases t;simp only[LFf] at h;obtain⟨_,_,_,_,_,rfl,_⟩:=h;intro x hx;simp only[List.mem_cons,List.not_mem_nil,or_false] at hx;rcases hx with rfl|rfl|rfl|rfl<;>trivial
theorem wJs (k j:Nat):∀x∈mkC k j,yG1 x:=by
 intro x hx;simp only[mkC,List.mem_cons,List.not_mem_nil,or_false] at hx;rcases hx with rfl|rfl|rfl<;>first|trivial|rfl
theorem wJr (k j:Nat):∀x∈mkD k j,yG1 x:=by
 intro x hx;simp only[mkD,List.mem_cons,List.not_mem_nil,or_false] at hx;rcases hx with rfl|rfl|rfl|rfl<;>first|trivial|rfl
theorem zXr {cs c rest:List IV}{m:Nat}(h:∀x∈cs++rest,yG1 x)(hc:∀x∈c,yG1 x):∀x∈cs++c++rest.drop m,yG1 x:=by
 intro x hx;rcases List.mem_append.1 hx with hx|hx
 ·rcases List.mem_append.1 hx with hx|hx
  ·exact h x (List.mem_append.2 (.inl hx))
  ·exact hc x hx
 ·exact h x (List.mem_append.2 (.inr (List.mem_of_mem_drop hx)))
def LTP (us:List Tm):Prop:=∀(tg:Tag) (xs:List IV) (_:okEs tg 3) (_:IsTms us xs) (_:yQ8 us<=1099511627776) (st:ISt) (_:flatSt st),
 ICall prog gl 105 [.sl tg xs] st (λr st'=>∃a cs,r=.raw (.slice (some ⟨a,0,none⟩) us.length (us.length+12))/\nw st st' a=some (.box (cs++mksT 12))/\LTc (nw st st') us cs/\subSt st st'/\flatSt st')
theorem zGs (v:Bool)(n:ByteArray)(us:List Tm)(IH:LTP gl us)(x:IV)(hx:IsTm (.mk v n us) x)(hs:(Tm.mk v n us).size<=1099511627776)(st:ISt)(hf:flatSt st) :
  ICall prog gl 57 [x] st (λr st'=>∃c,r=.agg c/\LTt (nw st st') (.mk v n us) c/\subSt st st'/\flatSt st'):=by
 obtain⟨tx,cx,rfl,htx,hcx⟩:=hx.mk;simp only[Tm.size] at hs;have hcall:=IH tx cx htx hcx (by omega) st hf;refine iI func57 ?_;simp only[go_sem,zE,zA];refine hcall.mono ?_;rintro _ st' ⟨a,cs,rfl,h1,h2,h3,h4⟩;simp only[go_sem,zE,zA,zL];exact yQ9 (λ_ _ h=>h) ⟨_,rfl,⟨a,cs,rfl,h1,h2⟩,h3,h4⟩
theorem LTt.all {T:ISt}{t:Tm}{c:List IV}(h:LTt T t c):c.all IV.one=true:=by
 cases t;simp only[LTt] at h;obtain⟨_,_,rfl,_⟩:=h;rfl
theorem LFf.all {T:ISt}{t:Fm}{c:List IV}(h:LFf T t c):c.all IV.one=true:=by
 cases t;simp only[LFf] at h;obtain⟨_,_,_,_,_,rfl,_⟩:=h;rfl
theorem zVl (us:List Tm)(IH:∀v n l,Tm.mk v n l∈us->LTP gl l):LTP gl us:=by
 intro tg xs htg hxs hsz st hf;have hlsz:=yZo us;have step:∀a∈us,∀(x:IV) (_:IsTm a x) (_:a.size<=1099511627776) (st:ISt) (_:flatSt st),ICall prog gl 57 [x] st (λr st'=>∃c,r=.agg c/\LTt (nw st st') a c/\subSt st st'/\flatSt st'):=λa ha x hx hs st hf=>by
  obtain⟨v,n,l⟩:=a;exact zGs gl v n l (IH _ _ _ ha) x hx hs st hf
 have hwn:IntKind.i64.wrap ((us.length:Int)+12)=((us.length+12:Nat):Int):=by rw[w64]<;>omega
 refine ICall.intro (c:=cf prog gl [10] []) func105 rfl (by show _<=39;simp) (by kernel_rfl) ?_;simp only[go_sem,reduceCtorEq,hxs.len];intro _;simp only[go_sem,hwn];refine yQs ⟨by omega,by omega,by omega⟩ λg=>yQb λhg=>?_;refine LoopC.ctr us.length (λk fr st' ds=>(∃cs rest,fr 3=.iv (.raw (.slice (some ⟨g,0,none⟩) k (us.length+12)))/\st' g=some (.box (cs++rest))/\rest.length=(us.length+12-k)*3/\LTc ((nw st st').put g none) (us.take k) cs/\subSt st st'/\flatSt st') /\
  fr 0=.iv (.sl tg xs)/\fr 4=.iv (.raw (.int .i64 k))/\ds=[]) ?_ ?_ ?_
 ·have hflat:∀c∈List.replicate ((us.length+12)*3) IV.junk,yG1 c:=λc hc=>by
   obtain rfl:=List.eq_of_mem_replicate hc;trivial
  have hb:st.put g (some (.box (List.replicate ((us.length+12)*3) .junk))) g=some (.box ([]++List.replicate ((us.length+12)*3) .junk)):=ISt.put_same ..;have hsub:=yQe (o:=some (.box (List.replicate ((us.length+12)*3) .junk))) hg;have hfl:=yGh (g:=g) hf hflat;generalize st.put g (some (.box (List.replicate ((us.length+12)*3) .junk)))=st0 at hb hsub hfl;simp only[go_sem,zE,reduceCtorEq];exact⟨⟨[],_,hb,List.length_replicate ..,rfl,hsub,hfl⟩,rfl⟩
 ·rintro k fr st1 _ hlt ⟨⟨cs,rest,f3,hgb,hrl,hcs,hsub,hfl⟩,f0,f4,rfl⟩;obtain⟨a,ha⟩:=yQ2 hlt;obtain⟨x,hkx,hx⟩:=hxs.get ha;obtain⟨h1,h2⟩:=yZ9 ha;have hcl:cs.length=k*3:=by rw[hcs.len,List.length_take];congr 1;omega
  have hcall:=step a (lMg ha) x hx (by omega) st1 hfl;obtain⟨v5,n5,t5,x5,rfl⟩:=hx.agg;simp only[go_sem,zE,zB,zA,reduceCtorEq,f0,f4,hxs.len,lt_i hlt,yQ1 htg,iNn,hkx,fits];intro _;refine hcall.mono ?_;rintro _ st2 ⟨c,rfl,hc,hsub2,hfl2⟩;have hc3:=hc.len;have hfit:fits true 3 (.agg c)=true:=by rw[xVu,hc3,hc.all];rfl
  have htk:c.take 3=c:=List.take_of_length_le (by omega);simp only[go_sem,zE,zA,zM,zL,f3,htk,hc3,hc.all,fits,yQ4];refine zGp (hsub2 _ _ hgb) hfit ⟨by simp only;omega,by omega⟩ (by omega) (by simp only[lLa];omega) (yUz (by exact hcl)) λst3 hst3=>?_;have hb3:st3 g=some (.box (cs++c++rest.drop c.length)):=by rw[hst3];exact ISt.put_same ..
  have hc4:LTc ((nw st st3).put g none) (us.take (k+1)) (cs++c):=by
   rw[yQ5 ha,hst3];exact LTc.snoc (hc.mono (wVx hsub hgb)) (hcs.mono (wVw hsub2))
  have hsub3:subSt st st3:=λb o hb=>by
   have hbg:b≠g:=by rintro rfl;rw[hg] at hb;cases hb
   rw[hst3,yQz hbg];exact hsub2 _ _ (hsub _ _ hb)
  have hfl3:flatSt st3:=by rw[hst3];exact yGh hfl2 (zXr (zXs hfl2 (hsub2 _ _ hgb)) hc.flat)
  simp only[go_sem,zE,reduceCtorEq,f0,f4,yQa hlt (show us.length<=281474976710656 by omega)]
  first
   | exact⟨cs++c,rest.drop c.length,rfl,hb3,by rw[List.length_drop,hrl,hc3];omega,hc4,hsub3,hfl3⟩
   | exact⟨cs++c,rest.drop c.length,hb3,by rw[List.length_drop,hrl,hc3];omega,hc4,hsub3,hfl3⟩
 ·rintro fr st1 _ ⟨⟨cs,rest,f3,hgb,hrl,hcs,hsub,hfl⟩,f0,f4,rfl⟩;rw[lTl] at hcs;have hcl:cs.length=us.length*3:=hcs.len;simp only[go_sem,zE,reduceCtorEq,f0,f4,hxs.len,yQk (nLi _)];intro _;refine LoopC.ctr 12 (λi fr st' ds=>(∃rest,fr 3=.iv (.raw (.slice (some ⟨g,0,none⟩) (us.length+i) (us.length+12)))/\st' g=some (.box (cs++mksT i++rest))/\rest.length=(12-i)*3/\(∀b,b≠g->st' b=st1 b)/\flatSt st') /\
   fr 0=.iv (.sl tg xs)/\fr 6=.iv (.raw (.int .i64 i))/\ds=[]) ?_ ?_ ?_
  ·have hgb0:st1 g=some (.box (cs++mksT 0++rest)):=by simpa[mksT] using hgb
   have hrl0:rest.length=(12-0)*3:=by omega
   simp only[go_sem,zE,zM,reduceCtorEq,f0,f3];exact⟨⟨rest,hgb0,hrl0,λ_ _=>trivial,hfl⟩,rfl⟩
  ·rintro i fr st2 _ hlt ⟨⟨rest,f3,hgb,hrl,hoth,hfl2⟩,f0,f6,rfl⟩;have hmk:=zZ2 gl 1 i st2;have hml:(cs++mksT i).length=(us.length+i)*3:=by rw[lLa,hcl,yWv];omega
   simp only[go_sem,zE,zA,f3,f6,show decide (((i:Nat):Int)<12)=true from dEt (by omega)];refine hmk.mono ?_;rintro _ st2 ⟨rfl,rfl⟩;have hfit:fits true 3 (.agg (mkC 1 i))=true:=rfl;simp only[go_sem,zE,zA,zM,zL,hfit,yQ4];refine zGp hgb hfit ⟨by simp only;omega,by omega⟩ (by omega) (by rw[lLa,hml];simp only;omega) (yUz (by exact hml)) λst3 hst3=>?_;have hb3:st3 g=some (.box (cs++mksT (i+1)++rest.drop (mkC 1 i).length)):=by rw[hst3,ISt.put_same,mksT];simp only[IV.cells,List.append_assoc]
   have hr3:(rest.drop (mkC 1 i).length).length=(12-(i+1))*3:=by rw[List.length_drop,hrl];simp only[mkC,List.length_cons,List.length_nil];omega
   have ho3:∀b,b≠g->st3 b=st1 b:=λb hb=>by rw[hst3,yQz hb];exact hoth b hb
   have hfl3:flatSt st3:=by rw[hst3];exact yGh hfl2 (zXr (zXs hfl2 hgb) (wJs 1 i))
   simp only[go_sem,zE,reduceCtorEq,f0,f6,show IntKind.i64.wrap (((i:Nat):Int)+1)=((i+1:Nat):Int) by rw[w64]<;>omega,Nat.add_assoc];exact⟨_,hb3,hr3,ho3,hfl3⟩
  ·rintro fr st2 _ ⟨⟨rest,f3,hgb,hrl,hoth,hfl2⟩,f0,f6,rfl⟩;obtain rfl:rest=[]:=List.eq_nil_of_length_eq_zero (by omega);rw[List.append_nil] at hgb;simp only[go_sem,zE,zL,reduceCtorEq,f0,f3,f6,hxs.len,show decide (((12:Nat):Int)<12)=false from rfl];intro _;simp only[go_sem,reduceCtorEq,Nat.le_refl,yKd (show us.length<=us.length+12 by omega),Nat.zero_mul];have hst:subSt ((nw st st1).put g none) (nw st st2):=λb o hb=>by
    rw[ISt.put_apply] at hb;split at hb
    ·cases hb
    ·rename_i hbg;obtain⟨h1,h2⟩:=yKo hb;exact xQ8 h1 (by rw[hoth b hbg];exact h2)
   refine yQ0 ⟨g,cs,rfl,xQ8 hg hgb,hcs.mono hst,λb o hb=>?_,hfl2⟩;have hbg:b≠g:=by rintro rfl;rw[hg] at hb;cases hb
   rw[hoth b hbg];exact hsub _ _ hb
theorem zQp:∀(k:Nat)(us:List Tm),SizeOf.sizeOf us<k->LTP gl us
 | 0,f,h=>by omega
 | k+1,us,h=>zVl gl us (λv n l ha=>zQp k l (by
   have:=lSm ha;simp at this;omega))
theorem xK3 (us:List Tm):LTP gl us:=zQp gl _ us (Nat.lt_succ_self _)
def LFP (a:Fm):Prop:=∀(x:IV) (_:IsFm a x) (_:a.size<=1099511627776) (st:ISt) (_:flatSt st),ICall prog gl 56 [x] st (λr st'=>∃c,r=.agg c/\LFf (nw st st') a c/\subSt st st'/\flatSt st')
theorem yU1 (us:List Fm)(IH:∀a∈us,LFP gl a)(tg:Tag)(xs:List IV)(htg:okEs tg 4)(hxs:IsFms us xs)(hsz:yQ7 us<=1099511627776)(st:ISt)(hf:flatSt st) :
  ICall prog gl 94 [.sl tg xs] st (λr st'=>∃a cs,r=.raw (.slice (some ⟨a,0,none⟩) us.length (us.length+12))/\nw st st' a=some (.box (cs++mksF 12))/\LFc (nw st st') us cs/\subSt st st'/\flatSt st'):=by
 have hlsz:=yQw us;have hwn:IntKind.i64.wrap ((us.length:Int)+12)=((us.length+12:Nat):Int):=by rw[w64]<;>omega
 refine ICall.intro (c:=cf prog gl [10] []) func94 rfl (by show _<=39;simp) (by kernel_rfl) ?_;simp only[go_sem,reduceCtorEq,hxs.len];intro _;simp only[go_sem,hwn];refine yQs ⟨by omega,by omega,by omega⟩ λg=>yQb λhg=>?_;refine LoopC.ctr us.length (λk fr st' ds=>(∃cs rest,fr 3=.iv (.raw (.slice (some ⟨g,0,none⟩) k (us.length+12)))/\st' g=some (.box (cs++rest))/\rest.length=(us.length+12-k)*4/\LFc ((nw st st').put g none) (us.take k) cs/\subSt st st'/\flatSt st') /\
  fr 0=.iv (.sl tg xs)/\fr 4=.iv (.raw (.int .i64 k))/\ds=[]) ?_ ?_ ?_
 ·have hflat:∀c∈List.replicate ((us.length+12)*4) IV.junk,yG1 c:=λc hc=>by
   obtain rfl:=List.eq_of_mem_replicate hc;trivial
  have hb:st.put g (some (.box (List.replicate ((us.length+12)*4) .junk))) g=some (.box ([]++List.replicate ((us.length+12)*4) .junk)):=ISt.put_same ..;have hsub:=yQe (o:=some (.box (List.replicate ((us.length+12)*4) .junk))) hg;have hfl:=yGh (g:=g) hf hflat;generalize st.put g (some (.box (List.replicate ((us.length+12)*4) .junk)))=st0 at hb hsub hfl;simp only[go_sem,zE,reduceCtorEq];exact⟨⟨[],_,hb,List.length_replicate ..,rfl,hsub,hfl⟩,rfl⟩
 ·rintro k fr st1 _ hlt ⟨⟨cs,rest,f3,hgb,hrl,hcs,hsub,hfl⟩,f0,f4,rfl⟩;obtain⟨a,ha⟩:=yQ2 hlt;obtain⟨x,hkx,hx⟩:=hxs.get ha;obtain⟨h1,h2⟩:=yQr ha;have hcl:cs.length=k*4:=by rw[hcs.len,List.length_take];congr 1;omega
  have hcall:=IH a (lMg ha) x hx (by omega) st1 hfl;obtain⟨v5,n5,t5,x5,t6,x6,rfl⟩:=hx.agg;simp only[go_sem,zE,zB,zA,reduceCtorEq,f0,f4,hxs.len,lt_i hlt,yQ1 htg,iNn,hkx,fits];intro _;refine hcall.mono ?_;rintro _ st2 ⟨c,rfl,hc,hsub2,hfl2⟩;have hc3:=hc.len;have hfit:fits true 4 (.agg c)=true:=by rw[xVu,hc3,hc.all];rfl
  have htk:c.take 4=c:=List.take_of_length_le (by omega);simp only[go_sem,zE,zA,zM,zL,f3,htk,hc3,hc.all,fits,yQ4];refine zGp (hsub2 _ _ hgb) hfit ⟨by simp only;omega,by omega⟩ (by omega) (by simp only[lLa];omega) (yUz (by exact hcl)) λst3 hst3=>?_;have hb3:st3 g=some (.box (cs++c++rest.drop c.length)):=by rw[hst3];exact ISt.put_same ..
  have hc4:LFc ((nw st st3).put g none) (us.take (k+1)) (cs++c):=by
   rw[yQ5 ha,hst3];exact LFc.snoc (hc.mono (wVx hsub hgb)) (hcs.mono (wVw hsub2))
  have hsub3:subSt st st3:=λb o hb=>by
   have hbg:b≠g:=by rintro rfl;rw[hg] at hb;cases hb
   rw[hst3,yQz hbg];exact hsub2 _ _ (hsub _ _ hb)
  have hfl3:flatSt st3:=by rw[hst3];exact yGh hfl2 (zXr (zXs hfl2 (hsub2 _ _ hgb)) hc.flat)
  simp only[go_sem,zE,reduceCtorEq,f0,f4,yQa hlt (show us.length<=281474976710656 by omega)]
  first
   | exact⟨cs++c,rest.drop c.length,rfl,hb3,by rw[List.length_drop,hrl,hc3];omega,hc4,hsub3,hfl3⟩
   | exact⟨cs++c,rest.drop c.length,hb3,by rw[List.length_drop,hrl,hc3];omega,hc4,hsub3,hfl3⟩
 ·rintro fr st1 _ ⟨⟨cs,rest,f3,hgb,hrl,hcs,hsub,hfl⟩,f0,f4,rfl⟩;rw[lTl] at hcs;have hcl:cs.length=us.length*4:=hcs.len;simp only[go_sem,zE,reduceCtorEq,f0,f4,hxs.len,yQk (nLi _)];intro _;refine LoopC.ctr 12 (λi fr st' ds=>(∃rest,fr 3=.iv (.raw (.slice (some ⟨g,0,none⟩) (us.length+i) (us.length+12)))/\st' g=some (.box (cs++mksF i++rest))/\rest.length=(12-i)*4/\(∀b,b≠g->st' b=st1 b)/\flatSt st') /\
   fr 0=.iv (.sl tg xs)/\fr 6=.iv (.raw (.int .i64 i))/\ds=[]) ?_ ?_ ?_
  ·have hgb0:st1 g=some (.box (cs++mksF 0++rest)):=by simpa[mksF] using hgb
   have hrl0:rest.length=(12-0)*4:=by omega
   simp only[go_sem,zE,zM,reduceCtorEq,f0,f3];exact⟨⟨rest,hgb0,hrl0,λ_ _=>trivial,hfl⟩,rfl⟩
  ·rintro i fr st2 _ hlt ⟨⟨rest,f3,hgb,hrl,hoth,hfl2⟩,f0,f6,rfl⟩;have hmk:=zZ3 gl 1 i st2;have hml:(cs++mksF i).length=(us.length+i)*4:=by rw[lLa,hcl,yWw];omega
   simp only[go_sem,zE,zA,f3,f6,show decide (((i:Nat):Int)<12)=true from dEt (by omega)];refine hmk.mono ?_;rintro _ st2 ⟨rfl,rfl⟩;have hfit:fits true 4 (.agg (mkD 1 i))=true:=rfl;simp only[go_sem,zE,zA,zM,zL,hfit,yQ4];refine zGp hgb hfit ⟨by simp only;omega,by omega⟩ (by omega) (by rw[lLa,hml];simp only;omega) (yUz (by exact hml)) λst3 hst3=>?_;have hb3:st3 g=some (.box (cs++mksF (i+1)++rest.drop (mkD 1 i).length)):=by rw[hst3,ISt.put_same,mksF];simp only[IV.cells,List.append_assoc]
   have hr3:(rest.drop (mkD 1 i).length).length=(12-(i+1))*4:=by rw[List.length_drop,hrl];simp only[mkD,List.length_cons,List.length_nil];omega
   have ho3:∀b,b≠g->st3 b=st1 b:=λb hb=>by rw[hst3,yQz hb];exact hoth b hb
   have hfl3:flatSt st3:=by rw[hst3];exact yGh hfl2 (zXr (zXs hfl2 hgb) (wJr 1 i))
   simp only[go_sem,zE,reduceCtorEq,f0,f6,show IntKind.i64.wrap (((i:Nat):Int)+1)=((i+1:Nat):Int) by rw[w64]<;>omega,Nat.add_assoc];exact⟨_,hb3,hr3,ho3,hfl3⟩
  ·rintro fr st2 _ ⟨⟨rest,f3,hgb,hrl,hoth,hfl2⟩,f0,f6,rfl⟩;obtain rfl:rest=[]:=List.eq_nil_of_length_eq_zero (by omega);rw[List.append_nil] at hgb;simp only[go_sem,zE,zL,reduceCtorEq,f0,f3,f6,hxs.len,show decide (((12:Nat):Int)<12)=false from rfl];intro _;simp only[go_sem,reduceCtorEq,Nat.le_refl,yKd (show us.length<=us.length+12 by omega),Nat.zero_mul];have hst:subSt ((nw st st1).put g none) (nw st st2):=λb o hb=>by
    rw[ISt.put_apply] at hb;split at hb
    ·cases hb
    ·rename_i hbg;obtain⟨h1,h2⟩:=yKo hb;exact xQ8 h1 (by rw[hoth b hbg];exact h2)
   refine yQ0 ⟨g,cs,rfl,xQ8 hg hgb,hcs.mono hst,λb o hb=>?_,hfl2⟩;have hbg:b≠g:=by rintro rfl;rw[hg] at hb;cases hb
   rw[hoth b hbg];exact hsub _ _ hb
theorem zGt (op:Nat)(n:ByteArray)(us:List Tm)(sub:List Fm)(IH:∀a∈sub,LFP gl a):LFP gl (.mk op n us sub):=by
 intro x hx hs st hf;obtain⟨t1,x1,t2,x2,rfl,ho,e1,i1,e2,i2⟩:=hx.mk;simp only[Fm.size] at hs;have h1:=xK3 gl us t1 x1 e1 i1 (by omega) st hf;have h2:=λst hf=>yU1 gl sub IH t2 x2 e2 i2 (by omega) st hf;refine iI func56 ?_;simp only[go_sem,zE,zA];refine h1.mono ?_;rintro _ st1 ⟨a,cs,rfl,a1,a2,a3,a4⟩;simp only[go_sem,zE,zA,zL];refine (h2 _ a4).mono ?_;rintro _ st2 ⟨b,ds,rfl,b1,b2,b3,b4⟩;simp only[go_sem,zE,zA,zL];exact yQ9 (λ_ _ h=>h) ⟨_,rfl,⟨a,cs,b,ds,ho,rfl,nw_l b3 _ _ a1,a2.mono (nw_l b3),nw_r a3 _ _ b1,b2.mono (nw_r a3)⟩,λ_ _ h=>b3 _ _ (a3 _ _ h),b4⟩
theorem zX7:∀(k:Nat)(a:Fm),SizeOf.sizeOf a<k->LFP gl a
 | 0,f,h=>by omega
 | k+1,.mk o n us sub,h=>zGt gl o n us sub (λa ha=>zX7 k a (by
   have:=lSm ha;simp at h;omega))
theorem xG6 (a:Fm):LFP gl a:=zX7 gl _ a (Nat.lt_succ_self _)
theorem zV1 (us:List Fm)(tg:Tag)(xs:List IV)(htg:okEs tg 4)(hxs:IsFms us xs)(hsz:yQ7 us<=1099511627776)(st:ISt)(hf:flatSt st) :
  ICall prog gl 94 [.sl tg xs] st (λr st'=>∃a cs,r=.raw (.slice (some ⟨a,0,none⟩) us.length (us.length+12))/\nw st st' a=some (.box (cs++mksF 12))/\LFc (nw st st') us cs/\subSt st st'/\flatSt st') :=
 yU1 gl us (λa _=>xG6 gl a) tg xs htg hxs hsz st hf
def LSq (T:ISt)(s:Sq)(x:IV):Prop:=∃a cs b ds,x=.agg [.raw (.slice (some ⟨a,0,none⟩) s.l.length (s.l.length+12)),.raw (.slice (some ⟨b,0,none⟩) s.r.length (s.r.length+12))]/\T a=some (.box (cs++mksF 12))/\LFc T s.l cs/\T b=some (.box (ds++mksF 12))/\LFc T s.r ds
theorem LSq.mono {T T':ISt}{s:Sq}{x:IV}(h:subSt T T')(k:LSq T s x):LSq T' s x:=by
 obtain⟨a,cs,b,ds,h1,h2,h3,h4,h5⟩:=k;exact⟨a,cs,b,ds,h1,h _ _ h2,h3.mono h,h _ _ h4,h5.mono h⟩
theorem xZj (s:Sq)(x:IV)(hx:IsSq s x)(hl:yQ7 s.l<=1099511627776)(hr:yQ7 s.r<=1099511627776)(st:ISt)(hf:flatSt st) :
  ICall prog gl 45 [x] st (λr st'=>LSq (nw st st') s r/\subSt st st'/\flatSt st'):=by
 obtain⟨t1,x1,t2,x2,rfl,e1,i1,e2,i2⟩:=hx;have h1:=zV1 gl s.l t1 x1 e1 i1 hl st hf;have h2:=λst hf=>zV1 gl s.r t2 x2 e2 i2 hr st hf;refine iI func45 ?_;simp only[go_sem,zE,zA];refine h1.mono ?_;rintro _ st1 ⟨a,cs,rfl,a1,a2,a3,a4⟩;simp only[go_sem,zE,zA,zL];refine (h2 _ a4).mono ?_;rintro _ st2 ⟨b,ds,rfl,b1,b2,b3,b4⟩;simp only[go_sem,zE,zA,zL];exact yQ9 (λ_ _ h=>h) ⟨⟨a,cs,b,ds,rfl,nw_l b3 _ _ a1,a2.mono (nw_l b3),nw_r a3 _ _ b1,b2.mono (nw_r a3)⟩,λ_ _ h=>b3 _ _ (a3 _ _ h),b4⟩
def sCT (us:List Tm):Prop:=∀(tg:Tag) (xs:List IV) (_:okEs tg 3) (_:IsTms us xs) (_:yQ8 us<=1099511627776) (st:ISt),
 ICall prog gl 176 [.sl tg xs,.fn (.func 177) [] []] st (λr st'=>∃tg' ys,r=.sl tg' ys/\okEs tg' 3/\appT us.length tg'/\IsTmsD us ys/\st'=st)
theorem zVa (v:Bool)(n:ByteArray)(us:List Tm)(IH:sCT gl us)(x:IV)(hx:IsTm (.mk v n us) x)(hs:(Tm.mk v n us).size<=1099511627776)(st:ISt) :
  ICall prog gl 177 [x] st (λr st'=>IsTmD (.mk v n us) r/\st'=st):=by
 obtain⟨tx,cx,rfl,htx,hcx⟩:=hx.mk;simp only[Tm.size] at hs;have hcall:=IH tx cx htx hcx (by omega) st;refine iI func177 ?_;simp only[go_sem,zE,zA];refine hcall.mono ?_;rintro _ _ ⟨tg',ys,rfl,he,ha,hys,rfl⟩;simp only[go_sem,zE,zA,zL,fits];exact yQ0 ⟨IsTmD.intro he ha hys,rfl⟩
theorem zJe (us:List Tm)(IH:∀v n l,Tm.mk v n l∈us->sCT gl l):sCT gl us:=by
 intro tg xs htg hxs hsz st;have hlsz:=yZo us;refine iI func176 ?_;simp only[go_sem,reduceCtorEq,hxs.len];intro _;refine yZ5 (λh=>?_) (λh=>?_)
 ·obtain rfl:us=[]:=List.eq_nil_of_length_eq_zero (by simpa using h);simp only[go_sem];exact yQ0 ⟨_,_,rfl,.inl rfl,.inl rfl,IsTmsD.nil,rfl⟩
 have hpos:0<us.length:=Nat.pos_of_ne_zero λh0=>by simp[h0] at h
 simp only[go_sem,reduceCtorEq,hxs.len];intro _;refine yQs ⟨iNn _,by omega,by omega⟩ λg=>yQb λhg=>?_;intro _;refine LoopC.ctr us.length (λk fr st' ds=>(∃tg' ys,fr 5=.iv (.sl tg' ys)/\IsTmsD (us.take k) ys/\appT us.length tg'/\own st' tg' k 3 st/\subSt st st')/\fr 1=.iv (.fn (.func 177) [] []) /\
  fr 14=.iv (.sl tg xs)/\fr 15=.iv (.raw (.int .i64 us.length))/\fr 16=.iv (.raw (.int .i64 k))/\ds=[]) ?_ ?_ ?_
 ·simp only[go_sem,zE];exact⟨⟨_,_,rfl,IsTmsD.nil,.inr ⟨hpos,rfl,g,rfl⟩,.inr (.inr ⟨g,rfl,ISt.put_same _ _ _,hg⟩),yZ7 (subSt.refl _) hg⟩,rfl⟩
 ·rintro k fr st1 _ hlt ⟨⟨tg',ys,f5,hys,hap,hown,hsub⟩,f1,f14,f15,f16,rfl⟩;obtain⟨a,ha⟩:=yQ2 hlt;obtain⟨x,hkx,hx⟩:=hxs.get ha;obtain⟨h1,h2⟩:=yZ9 ha;have hlen2:ys.length=k:=by rw[hys.len,List.length_take];omega
  obtain⟨v2,n2,m⟩:=a;have hcall:=zVa gl v2 n2 m (IH _ _ _ (lMg ha)) x hx (by omega) st1;obtain⟨tx,cx,rfl,htx,hcx⟩:=hx.mk;simp only[go_sem,zE,zB,zA,zL,f1,f5,f14,f15,f16,lt_i hlt,yQ1 htg,iNn,hkx,fits];refine hcall.mono ?_;rintro r _ ⟨hr,rfl⟩;have hn:IsTmsD (us.take (k+1)) (ys++[r]):=by
   rw[yQ5 ha];exact hys.append (IsTmsD.one hr)
  obtain⟨t3,x3,rfl,_⟩:=IsTmD.mk hr;simp only[go_sem,zE,zA,zM,zL,fits,yQ4];refine yXm hown hlen2 hsub rfl (by simp[fits,IV.one]) (by simp only;omega) (by omega) λtg2 st4 hown2 hsub4 _ hap2=>?_;simp only[go_sem,zE,f1,f14,f15,f16,yQa hlt (show us.length<=281474976710656 by omega)];exact⟨tg2,_,rfl,hn,hap2.pos hpos,hown2,hsub4⟩
 ·rintro fr st1 _ ⟨⟨tg',ys,f5,hys,hap,hown,hsub⟩,f1,f14,f15,f16,rfl⟩;rw[lTl] at hys;simp only[go_sem,zE,f5,f15,f16,yQk (nLi _)];exact yQ9 (st':=st) hsub ⟨tg',ys,rfl,hown.es,hap,hys,rfl⟩
theorem yGw:∀(k:Nat)(us:List Tm),SizeOf.sizeOf us<k->sCT gl us
 | 0,f,h=>by omega
 | k+1,us,h=>zJe gl us (λv n l ha=>yGw k l (by
   have:=lSm ha;simp at this;omega))
theorem zUm (us:List Tm):sCT gl us:=yGw gl _ us (Nat.lt_succ_self _)
def sCF (f:Fm):Prop:=∀(x:IV) (_:IsFm f x) (_:f.size<=1099511627776) (st:ISt),ICall prog gl 132 [x] st (λr st'=>IsFmD f r/\st'=st)
theorem zJf (us:List Fm)(IH:∀a∈us,sCF gl a)(tg:Tag)(xs:List IV)(htg:okEs tg 4)(hxs:IsFms us xs)(hsz:yQ7 us<=1099511627776)(st:ISt) :
  ICall prog gl 178 [.sl tg xs,.fn (.func 132) [] []] st (λr st'=>∃tg' ys,r=.sl tg' ys/\okEs tg' 4/\appT us.length tg'/\IsFmsD us ys/\st'=st):=by
 have hlsz:=yQw us;refine iI func178 ?_;simp only[go_sem,reduceCtorEq,hxs.len];intro _;refine yZ5 (λh=>?_) (λh=>?_)
 ·obtain rfl:us=[]:=List.eq_nil_of_length_eq_zero (by simpa using h);simp only[go_sem];exact yQ0 ⟨_,_,rfl,.inl rfl,.inl rfl,IsFmsD.nil,rfl⟩
 have hpos:0<us.length:=Nat.pos_of_ne_zero λh0=>by simp[h0] at h
 simp only[go_sem,reduceCtorEq,hxs.len];intro _;refine yQs ⟨iNn _,by omega,by omega⟩ λg=>yQb λhg=>?_;intro _;refine LoopC.ctr us.length (λk fr st' ds=>(∃tg' ys,fr 5=.iv (.sl tg' ys)/\IsFmsD (us.take k) ys/\appT us.length tg'/\own st' tg' k 4 st/\subSt st st')/\fr 1=.iv (.fn (.func 132) [] []) /\
  fr 14=.iv (.sl tg xs)/\fr 15=.iv (.raw (.int .i64 us.length))/\fr 16=.iv (.raw (.int .i64 k))/\ds=[]) ?_ ?_ ?_
 ·simp only[go_sem,zE];exact⟨⟨_,_,rfl,IsFmsD.nil,.inr ⟨hpos,rfl,g,rfl⟩,.inr (.inr ⟨g,rfl,ISt.put_same _ _ _,hg⟩),yZ7 (subSt.refl _) hg⟩,rfl⟩
 ·rintro k fr st1 _ hlt ⟨⟨tg',ys,f5,hys,hap,hown,hsub⟩,f1,f14,f15,f16,rfl⟩;obtain⟨a,ha⟩:=yQ2 hlt;obtain⟨x,hkx,hx⟩:=hxs.get ha;obtain⟨h1,h2⟩:=yQr ha;have hlen2:ys.length=k:=by rw[hys.len,List.length_take];omega
  have hcall:=IH a (lMg ha) x hx (by omega) st1;obtain⟨o5,n5,t5,x5,t6,x6,rfl⟩:=hx.agg;simp only[go_sem,zE,zB,zA,zL,f1,f5,f14,f15,f16,lt_i hlt,yQ1 htg,iNn,hkx,fits];refine hcall.mono ?_;rintro r _ ⟨hr,rfl⟩;have hn:IsFmsD (us.take (k+1)) (ys++[r]):=by
   rw[yQ5 ha];exact hys.append (IsFmsD.one hr)
  obtain⟨o7,n7,t7,x7,t8,x8,rfl⟩:=IsFmD.aggs hr;simp only[go_sem,zE,zA,zM,zL,fits,yQ4];refine yXm hown hlen2 hsub rfl (by simp[fits,IV.one]) (by simp only;omega) (by omega) λtg2 st4 hown2 hsub4 _ hap2=>?_;simp only[go_sem,zE,f1,f14,f15,f16,yQa hlt (show us.length<=281474976710656 by omega)];exact⟨tg2,_,rfl,hn,hap2.pos hpos,hown2,hsub4⟩
 ·rintro fr st1 _ ⟨⟨tg',ys,f5,hys,hap,hown,hsub⟩,f1,f14,f15,f16,rfl⟩;rw[lTl] at hys;simp only[go_sem,zE,f5,f15,f16,yQk (nLi _)];exact yQ9 (st':=st) hsub ⟨tg',ys,rfl,hown.es,hap,hys,rfl⟩
theorem xWr (o:Nat)(n:ByteArray)(us:List Tm)(sub:List Fm)(IH:∀a∈sub,sCF gl a):sCF gl (.mk o n us sub):=by
 intro x hx hs st;obtain⟨t1,x1,t2,x2,rfl,ho,ht1,hx1,ht2,hx2⟩:=hx.mk;simp only[Fm.size] at hs;have hc1:=zUm gl us t1 x1 ht1 hx1 (by omega) st;have hc2:=zJf gl sub IH t2 x2 ht2 hx2 (by omega) st;refine ICall.intro (c:=cf prog gl [] [(1,[0,1,2,3,4,5,7,8,6,9,10,11])]) func132 rfl (by show _<=14;simp) (by kernel_rfl) ?_;simp only[go_sem,zE,zA];refine hc1.mono ?_;rintro _ _ ⟨tg',ys,rfl,he,ha,hys,rfl⟩;simp only[go_sem,zE,zA];refine hc2.mono ?_;rintro _ _ ⟨tg2,ys2,rfl,he2,ha2,hys2,rfl⟩;simp only[go_sem,zE,zA,zL,fits];exact yQ0 ⟨IsFmD.intro ho he ha hys he2 ha2 hys2,rfl⟩
theorem zUl:∀(k:Nat)(f:Fm),SizeOf.sizeOf f<k->sCF gl f
 | 0,f,h=>by omega
 | k+1,.mk o n us sub,h=>xWr gl o n us sub (λa ha=>zUl k a (by
   have:=lSm ha;simp only[Fm.mk.sizeOf_spec] at h;omega))
theorem wYi (f:Fm):sCF gl f:=zUl gl _ f (Nat.lt_succ_self _)
theorem xJg (us:List Fm)(tg:Tag)(xs:List IV)(htg:okEs tg 4)(hxs:IsFms us xs)(hsz:yQ7 us<=1099511627776)(st:ISt) :
  ICall prog gl 91 [.sl tg xs] st (λr st'=>∃tg' ys,r=.sl tg' ys/\okEs tg' 4/\(appT us.length tg'/\tg'.fresh=true)/\IsFmsD us ys/\own st' tg' us.length 4 st/\subSt st st'):=by
 have hlsz:=yQw us;refine iI func91 ?_;simp only[go_sem,reduceCtorEq,hxs.len];intro _;refine LoopC.ctr us.length (λk fr st' ds=>(∃tg' ys,fr 3=.iv (.sl tg' ys)/\IsFmsD (us.take k) ys/\(appT k tg'/\tg'.fresh=true)/\own st' tg' k 4 st/\subSt st st') /\
  fr 6=.iv (.sl tg xs)/\fr 7=.iv (.raw (.int .i64 us.length))/\fr 8=.iv (.raw (.int .i64 k))/\ds=[]) ?_ ?_ ?_
 ·simp only[go_sem,zE];exact⟨⟨_,_,rfl,IsFmsD.nil,⟨.inl rfl,rfl⟩,own.nil _ _ _ _ _,subSt.refl _⟩,rfl⟩
 ·rintro k fr st1 _ hlt ⟨⟨tg',ys,f3,hys,hap,hown,hsub⟩,f6,f7,f8,rfl⟩;obtain⟨a,ha⟩:=yQ2 hlt;obtain⟨x,hkx,hx⟩:=hxs.get ha;obtain⟨h1,h2⟩:=yQr ha;have hlen2:ys.length=k:=by rw[hys.len,List.length_take];omega
  have hcall:=wYi gl a x hx (by omega) st1;obtain⟨o5,n5,t5,x5,t6,x6,rfl⟩:=hx.agg;simp only[go_sem,zE,zB,zA,zL,f3,f6,f7,f8,lt_i hlt,yQ1 htg,iNn,hkx,fits];refine hcall.mono ?_;rintro r _ ⟨hr,rfl⟩;have hn:IsFmsD (us.take (k+1)) (ys++[r]):=by
   rw[yQ5 ha];exact hys.append (IsFmsD.one hr)
  obtain⟨o7,n7,t7,x7,t8,x8,rfl⟩:=IsFmD.aggs hr;simp only[go_sem,zE,zA,zM,zL,fits,yQ4];refine yXm hown hlen2 hsub rfl (by simp[fits,IV.one]) (by simp only;omega) (by omega) λtg2 st4 hown2 hsub4 _ hap2=>?_;simp only[go_sem,zE,f6,f7,f8,yQa hlt (show us.length<=281474976710656 by omega)];exact⟨tg2,_,rfl,hn,⟨hap2,by
   rcases hown2 with⟨h0,_⟩|rfl|⟨_,rfl,_⟩
   ·omega
   ·rfl
   ·rfl⟩,hown2,hsub4⟩
 ·rintro fr st1 _ ⟨⟨tg',ys,f3,hys,hap,hown,hsub⟩,f6,f7,f8,rfl⟩;rw[lTl] at hys;simp only[go_sem,zE,f3,f7,f8,yQk (nLi _)];exact yQ0 ⟨tg',ys,rfl,hown.es,hap,hys,hown,hsub⟩
end Go.Proofs.Tryz
namespace Go.Proofs.Tryz
open Go Go.Iv
mutual
def opsB (ca:Nat):Fm->Bool
 | .mk op _ us sub=>decide (1<=op)&&decide (op<=if ca=3 then 9 else 7)&&(decide (ca=3) || us.isEmpty)&&yY9 ca sub
def yY9 (ca:Nat):List Fm->Bool
 | []=>true
 | a::l=>opsB ca a&&yY9 ca l
end
def fmB (ca:Nat)(f:Fm):Bool:=f.right&&opsB ca f
def yJm (ca:Nat):Bool:=decide (1<=ca)&&decide (ca<=3)
noncomputable def eqF (a b:Fm):Bool:=decide (a.op=b.op)&&yK6 a b
noncomputable def hasF (l:List Fm)(f:Fm):Bool:=l.any (eqF f)
noncomputable def allF (l m:List Fm):Bool:=l.all (hasF m)
noncomputable def yJa (a b:Sq):Bool:=allF a.l b.l&&allF a.r b.r
noncomputable def zZa:List Fm->Bool
 | []=>true
 | a::l=>(a::l).all λf=>eqF f a
noncomputable def yXr (ca:Nat)(s:Sq):Bool :=
 yJm ca&&decide (s.l.length<=64)&&decide (s.r.length<=64)&&s.l.all (fmB ca)&&s.r.all (fmB ca)&&(decide (ca≠2) || zZa s.r)
structure Rw where
 left:Bool
 right:Bool
 op:Nat
 asks:Nat
def rowK (rule:Nat):Option Rw :=
 if rule=1 then some ⟨true,true,0,0⟩ else if rule=2 then some ⟨true,false,2,0⟩ else if rule=3 then some ⟨true,false,3,0⟩ else if rule=4 then some ⟨false,true,3,0⟩
 else if rule=5 then some ⟨true,false,4,0⟩ else if rule=6 then some ⟨false,true,4,0⟩ else if rule=7 then some ⟨true,false,5,0⟩ else if rule=8 then some ⟨false,true,5,0⟩
 else if rule=9 then some ⟨true,false,6,0⟩ else if rule=10 then some ⟨false,true,6,0⟩ else if rule=11 then some ⟨true,false,7,0⟩ else if rule=12 then some ⟨false,true,7,0⟩
 else if rule=17 then some ⟨false,false,0,0⟩ else none
def rowS (ca rule:Nat):Option Rw :=
 if ca=2/\rule=18 then some ⟨false,true,5,0⟩
 else if ca=3/\rule=13 then some ⟨true,false,8,1⟩ else if ca=3/\rule=14 then some ⟨false,true,8,2⟩
 else if ca=3/\rule=15 then some ⟨true,false,9,2⟩ else if ca=3/\rule=16 then some ⟨false,true,9,1⟩ else rowK rule
def bE:ByteArray:=⟨#[]⟩
def impF (a b:Fm):Fm:=.mk 6 bE [] [a,b]
def addS (ca rule:Nat)(main a b:Fm):List Sq :=
 if rule=3 then [⟨[],[a]⟩] else if rule=4 then [⟨[a],[]⟩] else if rule=5 then [⟨[a,b],[]⟩] else if rule=6 then [⟨[],[a]⟩,⟨[],[b]⟩]
 else if rule=7 then [⟨[a],[]⟩,⟨[b],[]⟩] else if rule=8 then (if ca=2 then [⟨[],[a]⟩] else [⟨[],[a,b]⟩]) else if rule=9 then [⟨[],[a]⟩,⟨[b],[]⟩]
 else if rule=10 then [⟨[a],[b]⟩] else if rule=11 then [⟨[impF a b,impF b a],[]⟩] else if rule=12 then [⟨[a],[b]⟩,⟨[b],[a]⟩]
 else if rule=13 then [⟨[a],[]⟩] else if rule=14 then [⟨[],[a]⟩] else if rule=15 then [⟨[a],[]⟩] else if rule=16 then [⟨[],[a]⟩]
 else if rule=17 then [⟨[],[main]⟩,⟨[main],[]⟩] else if rule=18 then [⟨[],[b]⟩] else []
noncomputable def yV1 (ca rule:Nat)(r:Rw)(main:Fm)(term:Tm)(name:ByteArray):List Sq×Nat :=
 if !fmB ca main || (decide (r.op≠0)&&decide (main.op≠r.op)) then ([],192)
 else
  let a:=(main.subs[0]?).getD fm0
  let b:=(main.subs[1]?).getD fm0
  if r.asks=0 then (addS ca rule main a b,0)
  else
   let t:=if r.asks=2 then .mk true name [] else term
   if !t.ok then ([],193)
   else if (yZz a [(main.nm,t)]).2≠0 then ([],193) else (addS ca rule main (yZz a [(main.nm,t)]).1 b,0)
noncomputable def yY7 (s:Sq)(n:ByteArray):Bool:=s.l.any (λf=>memB (frF f) n) || s.r.any (λf=>memB (frF f) n)
noncomputable def yXw (ca:Nat)(s:Sq)(rule:Nat)(main:Fm)(term:Tm)(name:ByteArray):List Sq×Nat :=
 if !yXr ca s then ([],190)
 else match rowS ca rule with
  | none=>([],191)
  | some r =>
   if decide ((yV1 ca rule r main term name).2=192) || (r.left&&!hasF s.l main) || (r.right&&!hasF s.r main) then ([],192)
   else if (yV1 ca rule r main term name).2≠0 then ([],(yV1 ca rule r main term name).2)
   else if decide (r.asks=2)&&yY7 s name then ([],193)
   else ((yV1 ca rule r main term name).1,0)
noncomputable def yJs (s:Sq):List Sq->List Tr->Bool
 | m::l,t::ts=>yJa t.sq (s.plus m)&&yJs s l ts
 | _,_=>true
noncomputable def yJ4 (ca:Nat):Tr->Nat
 | .mk rule s main term name sub =>
  if (yXw ca s rule main term name).2≠0 then (yXw ca s rule main term name).2
  else if sub.length≠(yXw ca s rule main term name).1.length then 194
  else if yJs s (yXw ca s rule main term name).1 sub then 0 else 195
noncomputable def yJp (ca:Nat)(t:Tr):List Nat×Nat :=
 if !yJm ca then ([],2) else if 300<t.steps then ([],5) else yZx (yJ4 ca) (t.walk [])
end Go.Proofs.Tryz
namespace Go.Iv
open Go
theorem ICall.give {P:Program}{gl:Nat->Option IV}{f:FuncId}{args:List IV}{st:ISt}{K:IV->ISt->Prop}(h:ICall P gl f args st (λr st'=>∃st0,subSt st0 st'/\K r st0)):ICall P gl f args st K:=by
 intro B X rs hg hst hv;refine (h B X rs hg hst hv).mono ?_;rintro e w' ⟨v,rfl,X',x,rfl,h2,h3,h4,st0,hs,hK⟩;obtain⟨hg1,he1⟩:=h2.sub hs;exact⟨v,rfl,{ X' with st:=st0 },x,rfl,hg1,h3.trans he1,he1.v h4,hK⟩
end Go.Iv
namespace Go.Proofs.Tryz
open Go Go.Iv
set_option maxRecDepth 4000
variable (gl:Nat->Option IV)
theorem yVv (us:List Fm)(tg:Tag)(xs:List IV)(htg:okEs tg 4)(hxs:IsFms us xs)(hsz:yQ7 us<=1099511627776)(st:ISt) :
  ICall prog gl 91 [.sl tg xs] st (λr st'=>∃tg' ys,r=.sl tg' ys/\okEs tg' 4/\appT us.length tg'/\IsFmsD us ys/\st'=st) :=
 ICall.give ((xJg gl us tg xs htg hxs hsz st).mono λr st' h=>by
  obtain⟨tg',ys,rfl,he,ha,hys,_,hsub⟩:=h;exact⟨st,hsub,tg',ys,rfl,he,ha.1,hys,rfl⟩)
def IsSqD (s:Sq)(x:IV):Prop:=∃t1 x1 t2 x2,x=.agg [.sl t1 x1,.sl t2 x2]/\okEs t1 4/\appT s.l.length t1/\IsFmsD s.l x1/\okEs t2 4/\appT s.r.length t2/\IsFmsD s.r x2
theorem IsSqD.w {s:Sq}{x:IV}(h:IsSqD s x):IsSq s x:=by
 obtain⟨t1,x1,t2,x2,rfl,e1,_,i1,e2,_,i2⟩:=h;exact⟨_,_,_,_,rfl,e1,i1.1,e2,i2.1⟩
def IsSqsD:List Sq->List IV->Prop
 | [],xs=>xs=[]
 | a::l,xs=>∃y ys,xs=y::ys/\IsSqD a y/\IsSqsD l ys
theorem IsSqsD.w:∀ {l:List Sq}{xs:List IV},IsSqsD l xs->IsSqs l xs
 | [],_,h=>h
 | a::l,_,⟨y,ys,h1,h2,h3⟩=>⟨y,ys,h1,h2.w,h3.w⟩
theorem IsSqsD.append:∀ {l m:List Sq}{xs ys:List IV},IsSqsD l xs->IsSqsD m ys->IsSqsD (l++m) (xs++ys)
 | [],m,_,ys,rfl,k=>k
 | a::l,m,_,ys,⟨z,zs,rfl,h2,h3⟩,k=>⟨z,zs++ys,rfl,h2,h3.append k⟩
theorem IsSqsD.mem:∀ {l:List Sq}{xs:List IV},IsSqsD l xs->∀ {k:Nat}{x:IV},xs[k]?=some x->∃s,l[k]?=some s/\IsSqD s x
 | [],_,rfl,k,x,h=>by simp at h
 | a::l,_,⟨y,ys,rfl,h2,h3⟩,0,x,h=>by cases h;exact⟨a,rfl,h2⟩
 | a::l,_,⟨y,ys,rfl,h2,h3⟩,k+1,x,h=>IsSqsD.mem h3 (by simpa using h)
theorem xKj {t:Tag}{xs:List IV}{l:List Fm}(ha:appT l.length t)(h:IsFmsD l xs):dfr (.sl t xs):=by
 simp only[dfr];exact⟨ha.to h.len,h.2,h.1.cells_one⟩
theorem IsSqD.one {s:Sq}{x:IV}(h:IsSqD s x):x.cells.length=2/\∀c∈x.cells,c.one=true:=by
 obtain⟨t1,x1,t2,x2,rfl,_⟩:=h;refine⟨rfl,λc hc=>?_⟩;simp only[IV.cells,List.mem_cons,List.not_mem_nil,or_false] at hc;rcases hc with rfl|rfl<;>rfl
theorem IsSqD.dfr {s:Sq}{x:IV}(h:IsSqD s x):dfr x:=by
 have h1:=h.one.2;obtain⟨t1,x1,t2,x2,rfl,_,a1,i1,_,a2,i2⟩:=h;have d1:=xKj a1 i1;have d2:=xKj a2 i2;simp only[Go.Iv.dfr,dfrs,and_true] at d1 d2 ⊢;exact⟨⟨d1,d2⟩,h1⟩
theorem yZg {l:List Sq}{xs:List IV}(h:IsSqsD l xs):∀z∈xs,z.cells.length=2:=λz hz=>by
 obtain⟨k,hk⟩:=List.mem_iff_getElem?.1 hz;obtain⟨s,_,hs⟩:=h.mem hk;exact hs.one.1
theorem IsSq.two {s:Sq}{x:IV}(h:IsSq s x):∃t xs t' ys,x=.agg [.sl t xs,.sl t' ys]:=by
 obtain⟨t,xs,t',ys,rfl,_⟩:=h;exact⟨_,_,_,_,rfl⟩
theorem zZv (us:List Fm)(tg:Tag)(xs:List IV)(htg:okEs tg 4)(hxs:IsFms us xs)(hsz:yQ7 us<=1099511627776)(st:ISt) :
  ICall prog gl 153 [.sl tg xs] st (λr st'=>IsSqD ⟨us,[]⟩ r/\st'=st):=by
 refine iI func153 ?_;simp only[go_sem,zA,reduceCtorEq];refine (yVv gl us tg xs htg hxs hsz _).mono ?_;rintro _ _ ⟨tg',ys,rfl,he,ha,hys,rfl⟩;simp only[go_sem,zE,zA,zL,fits];exact yQ0 ⟨⟨_,_,_,_,rfl,he,ha,hys,.inl rfl,.inl rfl,IsFmsD.nil⟩,rfl⟩
theorem yWr (us:List Fm)(tg:Tag)(xs:List IV)(htg:okEs tg 4)(hxs:IsFms us xs)(hsz:yQ7 us<=1099511627776)(st:ISt) :
  ICall prog gl 150 [.sl tg xs] st (λr st'=>IsSqD ⟨[],us⟩ r/\st'=st):=by
 refine iI func150 ?_;simp only[go_sem,zA,reduceCtorEq];refine (yVv gl us tg xs htg hxs hsz _).mono ?_;rintro _ _ ⟨tg',ys,rfl,he,ha,hys,rfl⟩;simp only[go_sem,zE,zA,zL,fits];exact yQ0 ⟨⟨_,_,_,_,rfl,.inl rfl,.inl rfl,IsFmsD.nil,he,ha,hys⟩,rfl⟩
theorem yQp (x y:Operand):yKs 2 [(0,x),(1,y)]=true:=rfl
theorem vX5 (a b:Fm)(x y:IV)(hx:IsFm a x)(hy:IsFm b y)(st:ISt):ICall prog gl 208 [x,y] st (λr st'=>IsFm (impF a b) r/\st'=st):=by
 have h1:IsFms [a,b] [x,y]:=⟨_,_,rfl,hx,_,_,rfl,hy,rfl⟩
 obtain⟨o5,n5,t5,x5,t6,x6,rfl⟩:=hx.agg;obtain⟨o7,n7,t7,x7,t8,x8,rfl⟩:=hy.agg;refine iI func208 ?_;simp only[go_sem,zE,zA,zM,zL,fits,yQp];exact yQ0 ⟨⟨_,_,_,_,rfl,by decide,.inl rfl,rfl,.inr rfl,h1⟩,rfl⟩
def yYb (id:Nat)(F:Fm->Fm->Fm->List Sq):Prop:=∀(m a b:Fm) (x y z:IV) (_:IsFm m x) (_:IsFm a y) (_:IsFm b z) (_:m.size<=1000000) (_:a.size<=1000000) (_:b.size<=1000000) (st:ISt),
 ICall prog gl id [x,y,z] st (λr st'=>∃tg xs,r=.sl tg xs/\okEs tg 2/\appT (F m a b).length tg/\IsSqsD (F m a b) xs/\st'=st)
theorem sq1 {s:Sq}{x:IV}(h:IsSqD s x):IsSqsD [s] [x]:=⟨_,_,rfl,h,rfl⟩
theorem sq2 {s s':Sq}{x x':IV}(h:IsSqD s x)(h':IsSqD s' x'):IsSqsD [s,s'] [x,x']:=⟨_,_,rfl,h,_,_,rfl,h',rfl⟩
theorem wXa:yYb gl 197 (λ_ _ _=>[]):=by
 intro m a b x y z hx hy hz hm ha hb st;obtain⟨o1,n1,t1,x1,t2,x2,rfl⟩:=hx.agg;obtain⟨o3,n3,t3,x3,t4,x4,rfl⟩:=hy.agg;obtain⟨o5,n5,t5,x5,t6,x6,rfl⟩:=hz.agg;refine iI func197 ?_;simp only[go_sem,zE];exact yQ0 ⟨_,_,rfl,.inl rfl,.inl rfl,rfl,rfl⟩
theorem wX9:yYb gl 198 (λ_ _ _=>[]):=by
 intro m a b x y z hx hy hz hm ha hb st;obtain⟨o1,n1,t1,x1,t2,x2,rfl⟩:=hx.agg;obtain⟨o3,n3,t3,x3,t4,x4,rfl⟩:=hy.agg;obtain⟨o5,n5,t5,x5,t6,x6,rfl⟩:=hz.agg;refine iI func198 ?_;simp only[go_sem,zE];exact yQ0 ⟨_,_,rfl,.inl rfl,.inl rfl,rfl,rfl⟩
theorem wX8:yYb gl 199 (λm a b=>[⟨[],[a]⟩]):=by
 intro m a b x y z hx hy hz hm ha hb st;have hx0:=hx;have hy0:=hy;have hz0:=hz;obtain⟨o1,n1,t1,x1,t2,x2,rfl⟩:=hx.agg;obtain⟨o3,n3,t3,x3,t4,x4,rfl⟩:=hy.agg;obtain⟨o5,n5,t5,x5,t6,x6,rfl⟩:=hz.agg;have ia:=IsFms.one hy0;have ib:=IsFms.one hz0;have im:=IsFms.one hx0;have iab:IsFms [a,b] [_,_]:=⟨_,_,rfl,hy0,ib⟩
 refine ICall.fixL ?_;refine ICall.intro (c:=cf prog gl [10] []) func199 rfl (by show _<=11;simp) (by kernel_rfl) ?_;simp only[go_sem,zE,zA,zM,zL,fits,yQ4];refine (yWr gl _ _ _ (.inr rfl) ia (by simp only[yQ7];omega) _).mono ?_;rintro r _ ⟨hr,rfl⟩;have h1:=sq1 hr;obtain⟨_,_,_,_,rfl⟩:=IsSq.two hr.w;simp only[go_sem,zA,zM,zL,fits,yQ4];refine λg=>yQb λhg=>?_;exact yQ0 (.inr ⟨g,2,_,hg,rfl,rfl,by simp,yZg h1,_,_,rfl,.inr rfl,.inr ⟨by simp,rfl,g,rfl⟩,h1⟩)
theorem wX7:yYb gl 200 (λm a b=>[⟨[a],[]⟩]):=by
 intro m a b x y z hx hy hz hm ha hb st;have hx0:=hx;have hy0:=hy;have hz0:=hz;obtain⟨o1,n1,t1,x1,t2,x2,rfl⟩:=hx.agg;obtain⟨o3,n3,t3,x3,t4,x4,rfl⟩:=hy.agg;obtain⟨o5,n5,t5,x5,t6,x6,rfl⟩:=hz.agg;have ia:=IsFms.one hy0;have ib:=IsFms.one hz0;have im:=IsFms.one hx0;have iab:IsFms [a,b] [_,_]:=⟨_,_,rfl,hy0,ib⟩
 refine ICall.fixL ?_;refine ICall.intro (c:=cf prog gl [10] []) func200 rfl (by show _<=11;simp) (by kernel_rfl) ?_;simp only[go_sem,zE,zA,zM,zL,fits,yQ4];refine (zZv gl _ _ _ (.inr rfl) ia (by simp only[yQ7];omega) _).mono ?_;rintro r _ ⟨hr,rfl⟩;have h1:=sq1 hr;obtain⟨_,_,_,_,rfl⟩:=IsSq.two hr.w;simp only[go_sem,zA,zM,zL,fits,yQ4];refine λg=>yQb λhg=>?_;exact yQ0 (.inr ⟨g,2,_,hg,rfl,rfl,by simp,yZg h1,_,_,rfl,.inr rfl,.inr ⟨by simp,rfl,g,rfl⟩,h1⟩)
theorem wX6:yYb gl 201 (λm a b=>[⟨[a,b],[]⟩]):=by
 intro m a b x y z hx hy hz hm ha hb st;have hx0:=hx;have hy0:=hy;have hz0:=hz;obtain⟨o1,n1,t1,x1,t2,x2,rfl⟩:=hx.agg;obtain⟨o3,n3,t3,x3,t4,x4,rfl⟩:=hy.agg;obtain⟨o5,n5,t5,x5,t6,x6,rfl⟩:=hz.agg;have ia:=IsFms.one hy0;have ib:=IsFms.one hz0;have im:=IsFms.one hx0;have iab:IsFms [a,b] [_,_]:=⟨_,_,rfl,hy0,ib⟩
 refine ICall.fixL ?_;refine ICall.intro (c:=cf prog gl [11] []) func201 rfl (by show _<=12;simp) (by kernel_rfl) ?_;simp only[go_sem,zE,zA,zM,zL,fits,yQp];refine (zZv gl _ _ _ (.inr rfl) iab (by simp only[yQ7];omega) _).mono ?_;rintro r _ ⟨hr,rfl⟩;have h1:=sq1 hr;obtain⟨_,_,_,_,rfl⟩:=IsSq.two hr.w;simp only[go_sem,zA,zM,zL,fits,yQ4];refine λg=>yQb λhg=>?_;exact yQ0 (.inr ⟨g,2,_,hg,rfl,rfl,by simp,yZg h1,_,_,rfl,.inr rfl,.inr ⟨by simp,rfl,g,rfl⟩,h1⟩)
theorem wX5:yYb gl 202 (λm a b=>[⟨[],[a]⟩,⟨[],[b]⟩]):=by
 intro m a b x y z hx hy hz hm ha hb st;have hx0:=hx;have hy0:=hy;have hz0:=hz;obtain⟨o1,n1,t1,x1,t2,x2,rfl⟩:=hx.agg;obtain⟨o3,n3,t3,x3,t4,x4,rfl⟩:=hy.agg;obtain⟨o5,n5,t5,x5,t6,x6,rfl⟩:=hz.agg;have ia:=IsFms.one hy0;have ib:=IsFms.one hz0;have im:=IsFms.one hx0;have iab:IsFms [a,b] [_,_]:=⟨_,_,rfl,hy0,ib⟩
 refine ICall.fixL ?_;refine ICall.intro (c:=cf prog gl [13] [(1,[0,1,3,4,2,5,6,7])]) func202 rfl (by show _<=14;simp) (by kernel_rfl) ?_;simp only[go_sem,zE,zA,zM,zL,fits,yQ4];refine (yWr gl _ _ _ (.inr rfl) ia (by simp only[yQ7];omega) _).mono ?_;rintro r _ ⟨hr,rfl⟩;have hr0:=hr;obtain⟨_,_,_,_,rfl⟩:=IsSq.two hr.w;simp only[go_sem,zE,zA];refine (yWr gl _ _ _ (.inr rfl) ib (by simp only[yQ7];omega) _).mono ?_;rintro r _ ⟨hr,rfl⟩;have h1:=sq2 hr0 hr;obtain⟨_,_,_,_,rfl⟩:=IsSq.two hr.w;simp only[go_sem,zE,zA,zM,zL,fits,yQp];refine λg=>yQb λhg=>?_;exact yQ0 (.inr ⟨g,2,_,hg,rfl,rfl,by simp,yZg h1,_,_,rfl,.inr rfl,.inr ⟨by simp,rfl,g,rfl⟩,h1⟩)
theorem wX4:yYb gl 203 (λm a b=>[⟨[a],[]⟩,⟨[b],[]⟩]):=by
 intro m a b x y z hx hy hz hm ha hb st;have hx0:=hx;have hy0:=hy;have hz0:=hz;obtain⟨o1,n1,t1,x1,t2,x2,rfl⟩:=hx.agg;obtain⟨o3,n3,t3,x3,t4,x4,rfl⟩:=hy.agg;obtain⟨o5,n5,t5,x5,t6,x6,rfl⟩:=hz.agg;have ia:=IsFms.one hy0;have ib:=IsFms.one hz0;have im:=IsFms.one hx0;have iab:IsFms [a,b] [_,_]:=⟨_,_,rfl,hy0,ib⟩
 refine ICall.fixL ?_;refine ICall.intro (c:=cf prog gl [13] [(1,[0,1,3,4,2,5,6,7])]) func203 rfl (by show _<=14;simp) (by kernel_rfl) ?_;simp only[go_sem,zE,zA,zM,zL,fits,yQ4];refine (zZv gl _ _ _ (.inr rfl) ia (by simp only[yQ7];omega) _).mono ?_;rintro r _ ⟨hr,rfl⟩;have hr0:=hr;obtain⟨_,_,_,_,rfl⟩:=IsSq.two hr.w;simp only[go_sem,zE,zA];refine (zZv gl _ _ _ (.inr rfl) ib (by simp only[yQ7];omega) _).mono ?_;rintro r _ ⟨hr,rfl⟩;have h1:=sq2 hr0 hr;obtain⟨_,_,_,_,rfl⟩:=IsSq.two hr.w;simp only[go_sem,zE,zA,zM,zL,fits,yQp];refine λg=>yQb λhg=>?_;exact yQ0 (.inr ⟨g,2,_,hg,rfl,rfl,by simp,yZg h1,_,_,rfl,.inr rfl,.inr ⟨by simp,rfl,g,rfl⟩,h1⟩)
theorem wX3:yYb gl 204 (λm a b=>[⟨[],[a,b]⟩]):=by
 intro m a b x y z hx hy hz hm ha hb st;have hx0:=hx;have hy0:=hy;have hz0:=hz;obtain⟨o1,n1,t1,x1,t2,x2,rfl⟩:=hx.agg;obtain⟨o3,n3,t3,x3,t4,x4,rfl⟩:=hy.agg;obtain⟨o5,n5,t5,x5,t6,x6,rfl⟩:=hz.agg;have ia:=IsFms.one hy0;have ib:=IsFms.one hz0;have im:=IsFms.one hx0;have iab:IsFms [a,b] [_,_]:=⟨_,_,rfl,hy0,ib⟩
 refine ICall.fixL ?_;refine ICall.intro (c:=cf prog gl [11] []) func204 rfl (by show _<=12;simp) (by kernel_rfl) ?_;simp only[go_sem,zE,zA,zM,zL,fits,yQp];refine (yWr gl _ _ _ (.inr rfl) iab (by simp only[yQ7];omega) _).mono ?_;rintro r _ ⟨hr,rfl⟩;have h1:=sq1 hr;obtain⟨_,_,_,_,rfl⟩:=IsSq.two hr.w;simp only[go_sem,zA,zM,zL,fits,yQ4];refine λg=>yQb λhg=>?_;exact yQ0 (.inr ⟨g,2,_,hg,rfl,rfl,by simp,yZg h1,_,_,rfl,.inr rfl,.inr ⟨by simp,rfl,g,rfl⟩,h1⟩)
theorem wX2:yYb gl 205 (λm a b=>[⟨[],[a]⟩,⟨[b],[]⟩]):=by
 intro m a b x y z hx hy hz hm ha hb st;have hx0:=hx;have hy0:=hy;have hz0:=hz;obtain⟨o1,n1,t1,x1,t2,x2,rfl⟩:=hx.agg;obtain⟨o3,n3,t3,x3,t4,x4,rfl⟩:=hy.agg;obtain⟨o5,n5,t5,x5,t6,x6,rfl⟩:=hz.agg;have ia:=IsFms.one hy0;have ib:=IsFms.one hz0;have im:=IsFms.one hx0;have iab:IsFms [a,b] [_,_]:=⟨_,_,rfl,hy0,ib⟩
 refine ICall.fixL ?_;refine ICall.intro (c:=cf prog gl [13] [(1,[0,1,3,4,2,5,6,7])]) func205 rfl (by show _<=14;simp) (by kernel_rfl) ?_;simp only[go_sem,zE,zA,zM,zL,fits,yQ4];refine (yWr gl _ _ _ (.inr rfl) ia (by simp only[yQ7];omega) _).mono ?_;rintro r _ ⟨hr,rfl⟩;have hr0:=hr;obtain⟨_,_,_,_,rfl⟩:=IsSq.two hr.w;simp only[go_sem,zE,zA];refine (zZv gl _ _ _ (.inr rfl) ib (by simp only[yQ7];omega) _).mono ?_;rintro r _ ⟨hr,rfl⟩;have h1:=sq2 hr0 hr;obtain⟨_,_,_,_,rfl⟩:=IsSq.two hr.w;simp only[go_sem,zE,zA,zM,zL,fits,yQp];refine λg=>yQb λhg=>?_;exact yQ0 (.inr ⟨g,2,_,hg,rfl,rfl,by simp,yZg h1,_,_,rfl,.inr rfl,.inr ⟨by simp,rfl,g,rfl⟩,h1⟩)
theorem xJy:yYb gl 210 (λm a b=>[⟨[],[m]⟩,⟨[m],[]⟩]):=by
 intro m a b x y z hx hy hz hm ha hb st;have hx0:=hx;have hy0:=hy;have hz0:=hz;obtain⟨o1,n1,t1,x1,t2,x2,rfl⟩:=hx.agg;obtain⟨o3,n3,t3,x3,t4,x4,rfl⟩:=hy.agg;obtain⟨o5,n5,t5,x5,t6,x6,rfl⟩:=hz.agg;have ia:=IsFms.one hy0;have ib:=IsFms.one hz0;have im:=IsFms.one hx0;have iab:IsFms [a,b] [_,_]:=⟨_,_,rfl,hy0,ib⟩
 refine ICall.fixL ?_;refine ICall.intro (c:=cf prog gl [13] [(1,[0,1,3,4,2,5,6,7])]) func210 rfl (by show _<=14;simp) (by kernel_rfl) ?_;simp only[go_sem,zE,zA,zM,zL,fits,yQ4];refine (yWr gl _ _ _ (.inr rfl) im (by simp only[yQ7];omega) _).mono ?_;rintro r _ ⟨hr,rfl⟩;have hr0:=hr;obtain⟨_,_,_,_,rfl⟩:=IsSq.two hr.w;simp only[go_sem,zE,zA];refine (zZv gl _ _ _ (.inr rfl) im (by simp only[yQ7];omega) _).mono ?_;rintro r _ ⟨hr,rfl⟩;have h1:=sq2 hr0 hr;obtain⟨_,_,_,_,rfl⟩:=IsSq.two hr.w;simp only[go_sem,zE,zA,zM,zL,fits,yQp];refine λg=>yQb λhg=>?_;exact yQ0 (.inr ⟨g,2,_,hg,rfl,rfl,by simp,yZg h1,_,_,rfl,.inr rfl,.inr ⟨by simp,rfl,g,rfl⟩,h1⟩)
theorem xJw:yYb gl 149 (λm a b=>[⟨[],[a]⟩]):=by
 intro m a b x y z hx hy hz hm ha hb st;have hx0:=hx;have hy0:=hy;have hz0:=hz;obtain⟨o1,n1,t1,x1,t2,x2,rfl⟩:=hx.agg;obtain⟨o3,n3,t3,x3,t4,x4,rfl⟩:=hy.agg;obtain⟨o5,n5,t5,x5,t6,x6,rfl⟩:=hz.agg;have ia:=IsFms.one hy0;have ib:=IsFms.one hz0;have im:=IsFms.one hx0;have iab:IsFms [a,b] [_,_]:=⟨_,_,rfl,hy0,ib⟩
 refine ICall.fixL ?_;refine ICall.intro (c:=cf prog gl [10] []) func149 rfl (by show _<=11;simp) (by kernel_rfl) ?_;simp only[go_sem,zE,zA,zM,zL,fits,yQ4];refine (yWr gl _ _ _ (.inr rfl) ia (by simp only[yQ7];omega) _).mono ?_;rintro r _ ⟨hr,rfl⟩;have h1:=sq1 hr;obtain⟨_,_,_,_,rfl⟩:=IsSq.two hr.w;simp only[go_sem,zA,zM,zL,fits,yQ4];refine λg=>yQb λhg=>?_;exact yQ0 (.inr ⟨g,2,_,hg,rfl,rfl,by simp,yZg h1,_,_,rfl,.inr rfl,.inr ⟨by simp,rfl,g,rfl⟩,h1⟩)
theorem xJx:yYb gl 151 (λm a b=>[⟨[],[b]⟩]):=by
 intro m a b x y z hx hy hz hm ha hb st;have hx0:=hx;have hy0:=hy;have hz0:=hz;obtain⟨o1,n1,t1,x1,t2,x2,rfl⟩:=hx.agg;obtain⟨o3,n3,t3,x3,t4,x4,rfl⟩:=hy.agg;obtain⟨o5,n5,t5,x5,t6,x6,rfl⟩:=hz.agg;have ia:=IsFms.one hy0;have ib:=IsFms.one hz0;have im:=IsFms.one hx0;have iab:IsFms [a,b] [_,_]:=⟨_,_,rfl,hy0,ib⟩
 refine ICall.fixL ?_;refine ICall.intro (c:=cf prog gl [10] []) func151 rfl (by show _<=11;simp) (by kernel_rfl) ?_;simp only[go_sem,zE,zA,zM,zL,fits,yQ4];refine (yWr gl _ _ _ (.inr rfl) ib (by simp only[yQ7];omega) _).mono ?_;rintro r _ ⟨hr,rfl⟩;have h1:=sq1 hr;obtain⟨_,_,_,_,rfl⟩:=IsSq.two hr.w;simp only[go_sem,zA,zM,zL,fits,yQ4];refine λg=>yQb λhg=>?_;exact yQ0 (.inr ⟨g,2,_,hg,rfl,rfl,by simp,yZg h1,_,_,rfl,.inr rfl,.inr ⟨by simp,rfl,g,rfl⟩,h1⟩)
theorem wX1:yYb gl 152 (λm a b=>[⟨[a],[]⟩]):=by
 intro m a b x y z hx hy hz hm ha hb st;have hx0:=hx;have hy0:=hy;have hz0:=hz;obtain⟨o1,n1,t1,x1,t2,x2,rfl⟩:=hx.agg;obtain⟨o3,n3,t3,x3,t4,x4,rfl⟩:=hy.agg;obtain⟨o5,n5,t5,x5,t6,x6,rfl⟩:=hz.agg;have ia:=IsFms.one hy0;have ib:=IsFms.one hz0;have im:=IsFms.one hx0;have iab:IsFms [a,b] [_,_]:=⟨_,_,rfl,hy0,ib⟩
 refine ICall.fixL ?_;refine ICall.intro (c:=cf prog gl [10] []) func152 rfl (by show _<=11;simp) (by kernel_rfl) ?_;simp only[go_sem,zE,zA,zM,zL,fits,yQ4];refine (zZv gl _ _ _ (.inr rfl) ia (by simp only[yQ7];omega) _).mono ?_;rintro r _ ⟨hr,rfl⟩;have h1:=sq1 hr;obtain⟨_,_,_,_,rfl⟩:=IsSq.two hr.w;simp only[go_sem,zA,zM,zL,fits,yQ4];refine λg=>yQb λhg=>?_;exact yQ0 (.inr ⟨g,2,_,hg,rfl,rfl,by simp,yZg h1,_,_,rfl,.inr rfl,.inr ⟨by simp,rfl,g,rfl⟩,h1⟩)
theorem wX0:yYb gl 154 (λm a b=>[⟨[],[a]⟩]):=by
 intro m a b x y z hx hy hz hm ha hb st;have hx0:=hx;have hy0:=hy;have hz0:=hz;obtain⟨o1,n1,t1,x1,t2,x2,rfl⟩:=hx.agg;obtain⟨o3,n3,t3,x3,t4,x4,rfl⟩:=hy.agg;obtain⟨o5,n5,t5,x5,t6,x6,rfl⟩:=hz.agg;have ia:=IsFms.one hy0;have ib:=IsFms.one hz0;have im:=IsFms.one hx0;have iab:IsFms [a,b] [_,_]:=⟨_,_,rfl,hy0,ib⟩
 refine ICall.fixL ?_;refine ICall.intro (c:=cf prog gl [10] []) func154 rfl (by show _<=11;simp) (by kernel_rfl) ?_;simp only[go_sem,zE,zA,zM,zL,fits,yQ4];refine (yWr gl _ _ _ (.inr rfl) ia (by simp only[yQ7];omega) _).mono ?_;rintro r _ ⟨hr,rfl⟩;have h1:=sq1 hr;obtain⟨_,_,_,_,rfl⟩:=IsSq.two hr.w;simp only[go_sem,zA,zM,zL,fits,yQ4];refine λg=>yQb λhg=>?_;exact yQ0 (.inr ⟨g,2,_,hg,rfl,rfl,by simp,yZg h1,_,_,rfl,.inr rfl,.inr ⟨by simp,rfl,g,rfl⟩,h1⟩)
theorem xK1:yYb gl 206 (λm a b=>[⟨[a],[b]⟩]):=by
 intro m a b x y z hx hy hz hm ha hb st;have hx0:=hx;have hy0:=hy;have hz0:=hz;obtain⟨o1,n1,t1,x1,t2,x2,rfl⟩:=hx.agg;obtain⟨o3,n3,t3,x3,t4,x4,rfl⟩:=hy.agg;obtain⟨o5,n5,t5,x5,t6,x6,rfl⟩:=hz.agg;have ia:=IsFms.one hy0;have ib:=IsFms.one hz0;have im:=IsFms.one hx0;have iab:IsFms [a,b] [_,_]:=⟨_,_,rfl,hy0,ib⟩
 refine ICall.fixL ?_;refine ICall.intro (c:=cf prog gl [14] [(1,[0,1,3,4,2,5,6,7,8])]) func206 rfl (by show _<=15;simp) (by kernel_rfl) ?_;simp only[go_sem,zE,zA,zM,zL,fits,yQ4];refine (yVv gl _ _ _ (.inr rfl) ia (by simp only[yQ7];omega) _).mono ?_;rintro _ _ ⟨tg1,ys1,rfl,he1,ha1,hys1,rfl⟩;simp only[go_sem,zE,zA];refine (yVv gl _ _ _ (.inr rfl) ib (by simp only[yQ7];omega) _).mono ?_;rintro _ _ ⟨tg2,ys2,rfl,he2,ha2,hys2,rfl⟩;simp only[go_sem,zE,zA,zM,zL,fits,yQ4];have h1:=sq1 (s:=⟨[a],[b]⟩) ⟨_,_,_,_,rfl,he1,ha1,hys1,he2,ha2,hys2⟩;refine λg=>yQb λhg=>?_;exact yQ0 (.inr ⟨g,2,_,hg,rfl,rfl,by simp,yZg h1,_,_,rfl,.inr rfl,.inr ⟨by simp,rfl,g,rfl⟩,h1⟩)
theorem xJz:yYb gl 209 (λm a b=>[⟨[a],[b]⟩,⟨[b],[a]⟩]):=by
 intro m a b x y z hx hy hz hm ha hb st;have hx0:=hx;have hy0:=hy;have hz0:=hz;obtain⟨o1,n1,t1,x1,t2,x2,rfl⟩:=hx.agg;obtain⟨o3,n3,t3,x3,t4,x4,rfl⟩:=hy.agg;obtain⟨o5,n5,t5,x5,t6,x6,rfl⟩:=hz.agg;have ia:=IsFms.one hy0;have ib:=IsFms.one hz0;have im:=IsFms.one hx0;have iab:IsFms [a,b] [_,_]:=⟨_,_,rfl,hy0,ib⟩
 refine ICall.fixL ?_;refine ICall.intro (c:=cf prog gl [21] [(1,[0,1,3,4,7,8,10,11,2,5,6,9,12,13,14,15])]) func209 rfl (by show _<=22;simp) (by kernel_rfl) ?_;simp only[go_sem,zE,zA,zM,zL,fits,yQ4];refine (yVv gl _ _ _ (.inr rfl) ia (by simp only[yQ7];omega) _).mono ?_;rintro _ _ ⟨tg1,ys1,rfl,he1,ha1,hys1,rfl⟩;simp only[go_sem,zE,zA];refine (yVv gl _ _ _ (.inr rfl) ib (by simp only[yQ7];omega) _).mono ?_;rintro _ _ ⟨tg2,ys2,rfl,he2,ha2,hys2,rfl⟩;simp only[go_sem,zE,zA,zL,fits];refine (yVv gl _ _ _ (.inr rfl) ib (by simp only[yQ7];omega) _).mono ?_;rintro _ _ ⟨tg3,ys3,rfl,he3,ha3,hys3,rfl⟩;simp only[go_sem,zE,zA];refine (yVv gl _ _ _ (.inr rfl) ia (by simp only[yQ7];omega) _).mono ?_;rintro _ _ ⟨tg4,ys4,rfl,he4,ha4,hys4,rfl⟩;simp only[go_sem,zE,zA,zM,zL,fits,yQp];have h1:=sq2 (s:=⟨[a],[b]⟩) (s':=⟨[b],[a]⟩) ⟨_,_,_,_,rfl,he1,ha1,hys1,he2,ha2,hys2⟩ ⟨_,_,_,_,rfl,he3,ha3,hys3,he4,ha4,hys4⟩;refine λg=>yQb λhg=>?_;exact yQ0 (.inr ⟨g,2,_,hg,rfl,rfl,by simp,yZg h1,_,_,rfl,.inr rfl,.inr ⟨by simp,rfl,g,rfl⟩,h1⟩)
theorem xK0:yYb gl 207 (λm a b=>[⟨[impF a b,impF b a],[]⟩]):=by
 intro m a b x y z hx hy hz hm ha hb st;have hx0:=hx;have hy0:=hy;have hz0:=hz;obtain⟨o1,n1,t1,x1,t2,x2,rfl⟩:=hx.agg;obtain⟨o3,n3,t3,x3,t4,x4,rfl⟩:=hy.agg;obtain⟨o5,n5,t5,x5,t6,x6,rfl⟩:=hz.agg;have ia:=IsFms.one hy0;have ib:=IsFms.one hz0;have im:=IsFms.one hx0;have iab:IsFms [a,b] [_,_]:=⟨_,_,rfl,hy0,ib⟩
 refine ICall.fixL ?_;refine ICall.intro (c:=cf prog gl [15] [(1,[0,1,3,4,2,5,6,7,8,9])]) func207 rfl (by show _<=16;simp) (by kernel_rfl) ?_;simp only[go_sem,zE,zA,zL];refine (vX5 gl a b _ _ hy0 hz0 _).mono ?_;rintro r _ ⟨hr,rfl⟩;have hr0:=hr;obtain⟨_,_,_,_,_,_,rfl⟩:=hr.agg;simp only[go_sem,zE,zA];refine (vX5 gl b a _ _ hz0 hy0 _).mono ?_;rintro r _ ⟨hr,rfl⟩;have hr1:IsFms [impF a b,impF b a] [_,_]:=⟨_,_,rfl,hr0,IsFms.one hr⟩
 obtain⟨_,_,_,_,_,_,rfl⟩:=hr.agg;simp only[go_sem,zE,zA,zM,zL,fits,yQp];refine (zZv gl _ _ _ (.inr rfl) hr1 (by simp only[yQ7,impF,Fm.size,yQ8];omega) _).mono ?_;rintro r _ ⟨hr,rfl⟩;have h1:=sq1 hr;obtain⟨_,_,_,_,rfl⟩:=IsSq.two hr.w;simp only[go_sem,zA,zM,zL,fits,yQ4];refine λg=>yQb λhg=>?_;exact yQ0 (.inr ⟨g,2,_,hg,rfl,rfl,by simp,yZg h1,_,_,rfl,.inr rfl,.inr ⟨by simp,rfl,g,rfl⟩,h1⟩)
def fitL (l:List Fm):Prop:=∀f∈l,f.size<=1000000
theorem xJ4 (ca:Nat)(st:ISt):ICall prog gl 71 [.raw (.int .u8 ca)] st (λr st'=>r=.raw (.bool (yJm ca))/\st'=st):=by
 refine iI func71 ?_;by_cases h1:1<=ca
 ·have e1:decide (1<=(ca:Int))=true:=dEt (by omega);by_cases h2:ca<=3
  ·have e2:decide ((ca:Int)<=3)=true:=dEt (by omega);simp only[go_sem,zE,reduceCtorEq,e1,e2];exact yQ0 ⟨by simp[yJm,h1,h2],rfl⟩
  ·have e2:decide ((ca:Int)<=3)=false:=dEf (by omega);simp only[go_sem,zE,reduceCtorEq,e1,e2];exact yQ0 ⟨by simp[yJm,h2],rfl⟩
 ·have e1:decide (1<=(ca:Int))=false:=dEf (by omega);simp only[go_sem,zE,reduceCtorEq,e1];exact yQ0 ⟨by simp[yJm,h1],rfl⟩
def sOp (f:Fm):Prop:=∀(ca:Nat) (x:IV) (_:IsFm f x) (st:ISt),ICall prog gl 142 [.raw (.int .u8 ca),x] st (λr st'=>r=.raw (.bool (opsB ca f))/\st'=st)
theorem yVq (ca:Nat):∀l m:List Fm,yY9 ca (l++m)=(yY9 ca l&&yY9 ca m)
 | [],m=>by simp[yY9]
 | a::l,m=>by simp only[List.cons_append,yY9,yVq ca l m,Bool.and_assoc]
theorem xQ3 {ca:Nat}{l:List Fm}{a:Fm}(ha:a∈l)(h:opsB ca a=false):yY9 ca l=false:=by
 obtain⟨p,q,rfl⟩:=List.append_of_mem ha;rw[yVq];simp[yY9,h]
theorem wJ1 (o:Nat)(n:ByteArray)(us:List Tm)(sub:List Fm)(IH:∀a∈sub,sOp gl a):sOp gl (.mk o n us sub):=by
 intro ca x hx st;obtain⟨t1,x1,t2,x2,rfl,ho,ht1,hx1,ht2,hx2⟩:=hx.mk;have loop:∀(last:Nat) (hop:(decide (1<=o)&&decide (o<=if ca=3 then 9 else 7)&&(decide (ca=3) || us.isEmpty))=true),opsB ca (.mk o n us sub)=yY9 ca sub:=λ_ h=>by
  simp only[opsB,h,Bool.true_and]
 refine iI func142 ?_;by_cases h1:1<=o
 ·have e1:decide ((o:Int)<1)=false:=dEf (by omega);by_cases hca:ca=3
  ·have e3:decide ((ca:Int)=3)=true:=dEt (by omega);by_cases h2:o<=9
   ·have e2:decide ((9:Int)<(o:Int))=false:=dEf (by omega);have hl:=loop 9 (by simp[h1,h2,hca]);simp only[go_sem,zE,zA,reduceCtorEq,e1,e2,e3,hx2.len];intro _;refine LoopC.ctr sub.length (λk fr st' ds=>yY9 ca (sub.take k)=true/\fr 0=.iv (.raw (.int .u8 ca))/\fr 30=.iv (.sl t2 x2)/\fr 31=.iv (.raw (.int .i64 sub.length))/\fr 32=.iv (.raw (.int .i64 k))/\st'=st/\ds=[]) ?_ ?_ ?_
    ·simp only[go_sem,zE,reduceCtorEq];simp[yY9]
    ·rintro k fr st1 _ hlt ⟨hn,f0,f30,f31,f32,rfl,rfl⟩;obtain⟨a,ha⟩:=yQ2 hlt;obtain⟨y,hky,hy⟩:=hx2.get ha;have hcall:=IH a (lMg ha) ca y hy st1;obtain⟨o5,n5,t5,x5,t6,x6,rfl⟩:=hy.agg;simp only[go_sem,zE,zB,zA,zL,reduceCtorEq,f0,f30,f31,f32,lt_i hlt,yQ1 ht2,iNn,hky,fits];refine hcall.mono ?_;rintro _ _ ⟨rfl,rfl⟩;cases hr:opsB ca a
     ·simp only[go_sem];exact yQ0 ⟨by rw[hl,xQ3 (lMg ha) hr],rfl⟩
     ·simp only[go_sem,zE,reduceCtorEq,f0,f30,f31,f32,yQa hlt (show sub.length<=281474976710656 by omega)];rw[yQ5 ha,yVq,hn];simp[yY9,hr]
    ·rintro fr st1 _ ⟨hn,f0,f30,f31,f32,rfl,rfl⟩;rw[lTl] at hn;simp only[go_sem,f31,f32,yQk (nLi _)];exact yQ0 ⟨by rw[hl,hn],rfl⟩
   ·have e2:decide ((9:Int)<(o:Int))=true:=dEt (by omega);simp only[go_sem,zE,zA,reduceCtorEq,e1,e2,e3];exact yQ0 ⟨by simp[opsB,h2,hca],rfl⟩
  ·have e3:decide ((ca:Int)=3)=false:=dEf (by omega);by_cases h2:o<=7
   ·have e2:decide ((7:Int)<(o:Int))=false:=dEf (by omega);by_cases hu:us=[]
    ·subst hu;have e4:decide ((0:Int)<((0:Nat):Int))=false:=rfl;have hl:=loop 7 (by simp[h1,h2,hca]);simp only[go_sem,zE,zA,zL,reduceCtorEq,e1,e2,e3,e4,hx1.len,hx2.len];intro _;refine LoopC.ctr sub.length (λk fr st' ds=>yY9 ca (sub.take k)=true/\fr 0=.iv (.raw (.int .u8 ca))/\fr 30=.iv (.sl t2 x2)/\fr 31=.iv (.raw (.int .i64 sub.length))/\fr 32=.iv (.raw (.int .i64 k))/\st'=st/\ds=[]) ?_ ?_ ?_
     ·simp only[go_sem,zE,reduceCtorEq];simp[yY9]
     ·rintro k fr st1 _ hlt ⟨hn,f0,f30,f31,f32,rfl,rfl⟩;obtain⟨a,ha⟩:=yQ2 hlt;obtain⟨y,hky,hy⟩:=hx2.get ha;have hcall:=IH a (lMg ha) ca y hy st1;obtain⟨o5,n5,t5,x5,t6,x6,rfl⟩:=hy.agg;simp only[go_sem,zE,zB,zA,zL,reduceCtorEq,f0,f30,f31,f32,lt_i hlt,yQ1 ht2,iNn,hky,fits];refine hcall.mono ?_;rintro _ _ ⟨rfl,rfl⟩;cases hr:opsB ca a
      ·simp only[go_sem];exact yQ0 ⟨by rw[hl,xQ3 (lMg ha) hr],rfl⟩
      ·simp only[go_sem,zE,reduceCtorEq,f0,f30,f31,f32,yQa hlt (show sub.length<=281474976710656 by omega)];rw[yQ5 ha,yVq,hn];simp[yY9,hr]
     ·rintro fr st1 _ ⟨hn,f0,f30,f31,f32,rfl,rfl⟩;rw[lTl] at hn;simp only[go_sem,f31,f32,yQk (nLi _)];exact yQ0 ⟨by rw[hl,hn],rfl⟩
    ·have hpos:0<us.length:=List.length_pos_iff.2 hu;have e4:decide ((0:Int)<(us.length:Int))=true:=dEt (by omega);simp only[go_sem,zE,zA,reduceCtorEq,e1,e2,e3,e4,hx1.len];intro _;exact yQ0 ⟨by simp[opsB,hca,hu],rfl⟩
   ·have e2:decide ((7:Int)<(o:Int))=true:=dEt (by omega);simp only[go_sem,zE,zA,reduceCtorEq,e1,e2,e3];exact yQ0 ⟨by simp[opsB,hca,h2],rfl⟩
 ·have e1:decide ((o:Int)<1)=true:=dEt (by omega);by_cases hca:ca=3
  ·have e3:decide ((ca:Int)=3)=true:=dEt (by omega);simp only[go_sem,zE,zA,reduceCtorEq,e1,e3];exact yQ0 ⟨by simp[opsB,h1],rfl⟩
  ·have e3:decide ((ca:Int)=3)=false:=dEf (by omega);simp only[go_sem,zE,zA,reduceCtorEq,e1,e3];exact yQ0 ⟨by simp[opsB,h1],rfl⟩
theorem xUc:∀(k:Nat)(f:Fm),SizeOf.sizeOf f<k->sOp gl f
 | 0,f,h=>by omega
 | k+1,.mk o n us sub,h=>wJ1 gl o n us sub (λa ha=>xUc k a (by
   have:=lSm ha;simp only[Fm.mk.sizeOf_spec] at h;omega))
theorem xXp (f:Fm):sOp gl f:=xUc gl _ f (Nat.lt_succ_self _)
theorem zK9 (G:Gl gl)(ca:Nat)(f:Fm)(x:IV)(hx:IsFm f x)(hs:f.size<=1000000)(st:ISt) :
  ICall prog gl 97 [.raw (.int .u8 ca),x] st (λr st'=>r=.raw (.bool (fmB ca f))/\st'=st):=by
 have h1:=λst=>zV0 gl G f x hx st hs;have h2:=λst=>xXp gl f ca x hx st;obtain⟨o5,n5,t5,x5,t6,x6,rfl⟩:=hx.agg;refine iI func97 ?_;simp only[go_sem,zE,zA,zL];refine (h1 _).mono ?_;rintro _ _ ⟨rfl,rfl⟩;cases hr:f.right
 ·simp only[go_sem,zE];exact yQ0 ⟨by simp[fmB,hr],rfl⟩
 ·simp only[go_sem,zE,zA,zL,reduceCtorEq];refine (h2 _).mono ?_;rintro _ _ ⟨rfl,rfl⟩;simp only[go_sem,zE];exact yQ0 ⟨by simp[fmB,hr],rfl⟩
theorem wZi (G:Gl gl)(f g:Fm)(x y:IV)(hx:IsFm f x)(hy:IsFm g y)(hs:f.size<=1000000)(hs':g.size<=1000000)(st:ISt) :
  ICall prog gl 98 [x,y] st (λr st'=>r=.raw (.bool (eqF f g))/\st'=st):=by
 have h1:=λst=>wUb gl G f g x y hx hy hs hs' st;obtain⟨o,n,us,sub⟩:=f;obtain⟨o',n',us',sub'⟩:=g;obtain⟨t1,x1,t2,x2,rfl,_⟩:=hx.mk;obtain⟨t3,x3,t4,x4,rfl,_⟩:=hy.mk;refine iI func98 ?_;by_cases ho:o=o'
 ·subst ho;simp only[go_sem,zE,zA,zL,decide_true];refine (h1 _).mono ?_;rintro _ _ ⟨rfl,rfl⟩;simp only[go_sem,zE];exact yQ0 ⟨by simp[eqF,Fm.op],rfl⟩
 ·have e:decide ((o:Int)=(o':Int))=false:=dEf (by omega);simp only[go_sem,zE,zA,e];exact yQ0 ⟨by simp[eqF,Fm.op,ho],rfl⟩
theorem xK5 (g:FuncId)(caps:List IV)(he:entI prog g=true)(us:List Fm)(p:Fm->Bool)(hp:∀a∈us,∀x,IsFm a x->∀st,ICall prog gl g (x::caps) st (λr st'=>r=.raw (.bool (p a))/\st'=st))
  (tg:Tag) (xs:List IV) (htg:okEs tg 4) (hxs:IsFms us xs) (st:ISt) :
  ICall prog gl 145 [.sl tg xs,.fn (.func g) [] caps] st (λr st'=>(∃n:Int,r=.raw (.int .i64 n)/\decide (0<=n)=us.any p)/\st'=st):=by
 refine iI func145 ?_;simp only[go_sem,reduceCtorEq,hxs.len];intro _;refine LoopC.ctr us.length (λk fr st' ds=>(us.take k).any p=false/\fr 0=.iv (.sl tg xs)/\fr 1=.iv (.fn (.func g) [] caps)/\fr 7=.iv (.raw (.int .i64 us.length))/\fr 8=.iv (.raw (.int .i64 k))/\st'=st/\ds=[]) ?_ ?_ ?_
 ·simp only[go_sem,zE,reduceCtorEq];exact⟨rfl,rfl⟩
 ·rintro k fr st1 _ hlt ⟨hn,f0,f1,f7,f8,rfl,rfl⟩;obtain⟨a,ha⟩:=yQ2 hlt;obtain⟨y,hky,hy⟩:=hxs.get ha;have hcall:=hp a (lMg ha) y hy st1;obtain⟨o5,n5,t5,x5,t6,x6,rfl⟩:=hy.agg;simp only[go_sem,zE,zB,zA,reduceCtorEq,f0,f1,f7,f8,lt_i hlt,yQ1 htg,iNn,hky,fits,he];refine hcall.mono ?_;rintro _ _ ⟨rfl,rfl⟩;cases hr:p a
  ·simp only[go_sem,zE,reduceCtorEq,f0,f1,f7,f8,yQa hlt (show us.length<=281474976710656 by omega)];rw[yQ5 ha,List.any_append,hn];simp[hr]
  ·simp only[go_sem,zE];refine yQ0 ⟨⟨_,rfl,?_⟩,rfl⟩;rw[dEt (iNn k)];exact (List.any_eq_true.2 ⟨a,lMg ha,hr⟩).symm
 ·rintro fr st1 _ ⟨hn,f0,f1,f7,f8,rfl,rfl⟩;rw[lTl] at hn;simp only[go_sem,f7,f8,yQk (nLi _)];exact yQ0 ⟨⟨_,rfl,by rw[hn];rfl⟩,rfl⟩
theorem yW8 (g:FuncId)(caps:List IV)(he:entI prog g=true)(us:List Fm)(p:Fm->Bool)(hp:∀a∈us,∀x,IsFm a x->∀st,ICall prog gl g (x::caps) st (λr st'=>r=.raw (.bool (p a))/\st'=st))
  (tg:Tag) (xs:List IV) (htg:okEs tg 4) (hxs:IsFms us xs) (st:ISt) :
  ICall prog gl 100 [.sl tg xs,.fn (.func g) [] caps] st (λr st'=>r=.raw (.bool (us.any p))/\st'=st):=by
 refine iI func100 ?_;simp only[go_sem,zE,zA,reduceCtorEq];refine (xK5 gl g caps he us p hp tg xs htg hxs _).mono ?_;rintro _ _ ⟨⟨n,rfl,hn⟩,rfl⟩;simp only[go_sem,hn];exact yQ0 ⟨rfl,rfl⟩
theorem vJz (G:Gl gl)(f g:Fm)(x y:IV)(hx:IsFm f x)(hy:IsFm g y)(hs:f.size<=1000000)(hs':g.size<=1000000)(st:ISt) :
  ICall prog gl 101 [y,.cptr x] st (λr st'=>r=.raw (.bool (eqF f g))/\st'=st):=by
 have h1:=λst=>wZi gl G f g x y hx hy hs hs' st;obtain⟨o5,n5,t5,x5,t6,x6,rfl⟩:=hx.agg;obtain⟨o7,n7,t7,x7,t8,x8,rfl⟩:=hy.agg;refine iI func101 ?_;simp only[go_sem,zE,zA,zL,fits];refine (h1 _).mono ?_;rintro _ _ ⟨rfl,rfl⟩;simp only[go_sem];exact yQ0 ⟨rfl,rfl⟩
theorem xWa (G:Gl gl)(l:List Fm)(f:Fm)(tg:Tag)(xs:List IV)(x:IV)(htg:okEs tg 4)(hxs:IsFms l xs)(hx:IsFm f x)(hl:fitL l)(hs:f.size<=1000000)(st:ISt) :
  ICall prog gl 50 [.sl tg xs,x] st (λr st'=>r=.raw (.bool (hasF l f))/\st'=st):=by
 have h1:=λst=>yW8 gl 101 [.cptr x] (by simp only[go_sem]) l (eqF f) (λa ha y hy st=>vJz gl G f a x y hx hy hs (hl a ha) st) tg xs htg hxs st;obtain⟨o5,n5,t5,x5,t6,x6,rfl⟩:=hx.agg;refine ICall.intro (c:=cf prog gl [] [] [3]) func50 rfl (by show _<=8;simp) (by kernel_rfl) ?_;simp only[go_sem,zE,zA,reduceCtorEq];refine (h1 _).mono ?_;rintro _ _ ⟨rfl,rfl⟩;simp only[go_sem];exact yQ0 ⟨rfl,rfl⟩
theorem vJo (G:Gl gl)(l m:List Fm)(t t':Tag)(xs ys:List IV)(ht:okEs t 4)(ht':okEs t' 4)(hxs:IsFms l xs)(hys:IsFms m ys)(hl:fitL l)(hm:fitL m)(st:ISt) :
  ICall prog gl 102 [.sl t xs,.sl t' ys] st (λr st'=>r=.raw (.bool (allF l m))/\st'=st):=by
 refine iI func102 ?_;simp only[go_sem,reduceCtorEq,hxs.len];intro _;refine LoopC.ctr l.length (λk fr st' ds=>(l.take k).all (hasF m)=true/\fr 1=.iv (.sl t' ys)/\fr 7=.iv (.sl t xs)/\fr 8=.iv (.raw (.int .i64 l.length))/\fr 9=.iv (.raw (.int .i64 k))/\st'=st/\ds=[]) ?_ ?_ ?_
 ·simp only[go_sem,zE];rfl
 ·rintro k fr st1 _ hlt ⟨hn,f1,f7,f8,f9,rfl,rfl⟩;obtain⟨a,ha⟩:=yQ2 hlt;obtain⟨y,hky,hy⟩:=hxs.get ha;have hcall:=xWa gl G m a t' ys y ht' hys hy hm (hl a (lMg ha)) st1;obtain⟨o5,n5,t5,x5,t6,x6,rfl⟩:=hy.agg;simp only[go_sem,zE,zB,zA,zL,f1,f7,f8,f9,lt_i hlt,yQ1 ht,iNn,hky,fits];refine hcall.mono ?_;rintro _ _ ⟨rfl,rfl⟩;cases hr:hasF m a
  ·simp only[go_sem];refine yQ0 ⟨?_,rfl⟩;have:allF l m=false:=by
    unfold allF;rw[List.all_eq_false];exact⟨a,lMg ha,by simp[hr]⟩
   rw[this]
  ·simp only[go_sem,zE,f1,f7,f8,f9,yQa hlt (show l.length<=281474976710656 by omega)];rw[yQ5 ha,List.all_append,hn];simp[hr]
 ·rintro fr st1 _ ⟨hn,f1,f7,f8,f9,rfl,rfl⟩;rw[lTl] at hn;simp only[go_sem,f8,f9,yQk (nLi _)];exact yQ0 ⟨by rw[show allF l m=true from hn],rfl⟩
def yKt (s:Sq):Prop:=fitL s.l/\fitL s.r
theorem zXv (G:Gl gl)(a b:Sq)(x y:IV)(hx:IsSq a x)(hy:IsSq b y)(ha:yKt a)(hb:yKt b)(st:ISt):ICall prog gl 52 [x,y] st (λr st'=>r=.raw (.bool (yJa a b))/\st'=st):=by
 obtain⟨t1,x1,t2,x2,rfl,e1,i1,e2,i2⟩:=hx;obtain⟨t3,x3,t4,x4,rfl,e3,i3,e4,i4⟩:=hy;refine iI func52 ?_;simp only[go_sem,zE,zA];refine (vJo gl G a.l b.l t1 t3 x1 x3 e1 e3 i1 i3 ha.1 hb.1 _).mono ?_;rintro _ _ ⟨rfl,rfl⟩;cases hr:allF a.l b.l
 ·simp only[go_sem,zE];exact yQ0 ⟨by simp[yJa,hr],rfl⟩
 ·simp only[go_sem,zE,zA];refine (vJo gl G a.r b.r t2 t4 x2 x4 e2 e4 i2 i4 ha.2 hb.2 _).mono ?_;rintro _ _ ⟨rfl,rfl⟩;simp only[go_sem,zE];exact yQ0 ⟨by simp[yJa,hr],rfl⟩
theorem wV3 (G:Gl gl)(a b:Sq)(x y:IV)(hx:IsSq a x)(hy:IsSq b y)(ha:yKt a)(hb:yKt b)(st:ISt):ICall prog gl 53 [x,y] st (λr st'=>r=.raw (.bool (yJa a b&&yJa b a))/\st'=st):=by
 have h1:=λst=>zXv gl G a b x y hx hy ha hb st;have h2:=λst=>zXv gl G b a y x hy hx hb ha st;obtain⟨t1,x1,t2,x2,rfl,e1,i1,e2,i2⟩:=hx;obtain⟨t3,x3,t4,x4,rfl,e3,i3,e4,i4⟩:=hy;refine iI func53 ?_;simp only[go_sem,zE,zA,zL];refine (h1 _).mono ?_;rintro _ _ ⟨rfl,rfl⟩;cases hr:yJa a b
 ·simp only[go_sem,zE];exact yQ0 ⟨by simp,rfl⟩
 ·simp only[go_sem,zE,zA,zL];refine (h2 _).mono ?_;rintro _ _ ⟨rfl,rfl⟩;simp only[go_sem,zE];exact yQ0 ⟨by simp,rfl⟩
theorem yGk (a b:Int)(v:IV):∀es:List (Value×IV),yKj (.int .u8 a) (updI (.int .u8 b) v es)=if a=b then some v else yKj (.int .u8 a) es
 | []=>by
  simp only[updI,yKj,yWi];by_cases h:a=b<;>simp[h]
 | (x,u)::es=>by
  simp only[updI];by_cases hk:yWi (.int .u8 b) x=true
  ·rw[if_pos hk];have hx:∀c,yWi (.int .u8 c) x=decide (c=b):=λc=>by
    cases x<;>simp[yWi] at hk ⊢;rw[hk]
   have e:yWi (.int .u8 a) (.int .u8 b)=decide (a=b):=rfl;simp only[yKj,e,hx];by_cases h:a=b<;>simp[h]
  ·rw[if_neg hk];simp only[yKj];rw[yGk a b v es];by_cases h:a=b
   ·subst h;simp[hk]
   ·simp[h]
def zVk (ca rule:Nat):Nat :=
 if ca=2/\rule=18 then 151 else if ca=2/\rule=8 then 149
 else if rule=13\/rule=15 then 152 else if rule=14\/rule=16 then 154
 else if rule=1 then 197 else if rule=2 then 198 else if rule=3 then 199 else if rule=4 then 200
 else if rule=5 then 201 else if rule=6 then 202 else if rule=7 then 203 else if rule=8 then 204
 else if rule=9 then 205 else if rule=10 then 206 else if rule=11 then 207 else if rule=12 then 209
 else 210
def rwI (ca rule:Nat)(r:Rw):IV:=.agg [.raw (.bool r.left),.raw (.bool r.right),.raw (.int .u8 r.op),.raw (.int .u8 r.asks),.fn (.func (zVk ca rule)) [] []]
def rwL (a b:Bool)(op asks id:Nat):IV:=.agg [.raw (.bool a),.raw (.bool b),.raw (.int .u8 op),.raw (.int .u8 asks),.fn (.func id) [] []]
def zW5:List (Value×IV) :=
 updI (.int .u8 17) (rwL false false 0 0 210) <| updI (.int .u8 12) (rwL false true 7 0 209) <| updI (.int .u8 11) (rwL true false 7 0 207) <|
 updI (.int .u8 10) (rwL false true 6 0 206) <| updI (.int .u8 9) (rwL true false 6 0 205) <| updI (.int .u8 8) (rwL false true 5 0 204) <|
 updI (.int .u8 7) (rwL true false 5 0 203) <| updI (.int .u8 6) (rwL false true 4 0 202) <| updI (.int .u8 5) (rwL true false 4 0 201) <|
 updI (.int .u8 4) (rwL false true 3 0 200) <| updI (.int .u8 3) (rwL true false 3 0 199) <| updI (.int .u8 2) (rwL true false 2 0 198) <|
 updI (.int .u8 1) (rwL true true 0 0 197) []
def zQ1 (ca:Nat):List (Value×IV) :=
 if ca=2 then updI (.int .u8 18) (rwL false true 5 0 151) <| updI (.int .u8 8) (rwL false true 5 0 149) zW5
 else if ca=3 then updI (.int .u8 16) (rwL false true 9 1 154) <| updI (.int .u8 15) (rwL true false 9 2 152) <| updI (.int .u8 14) (rwL false true 8 2 154) <|
  updI (.int .u8 13) (rwL true false 8 1 152) zW5
 else zW5
theorem wYv (st:ISt):ICall prog gl 148 [] st (λr st'=>∃b,st b=none/\r=.raw (.map (some b))/\st'=st.put b (some (.map (.int .u8) zW5))):=by
 refine iI func148 ?_;simp only[go_sem,zE,zA,zL,fits];refine λb=>yQb λhb=>?_;simp only[go_sem,yQd];exact yQ0 ⟨b,hb,rfl,rfl⟩
theorem wYj (ca:Nat)(st:ISt):ICall prog gl 106 [.raw (.int .u8 ca)] st (λr st'=>∃b,st b=none/\r=.raw (.map (some b))/\st'=st.put b (some (.map (.int .u8) (zQ1 ca)))):=by
 refine iI func106 ?_;simp only[go_sem,zA];refine (wYv gl _).mono ?_;rintro _ _ ⟨b,hb,rfl,rfl⟩;by_cases h2:ca=2
 ·have e2:decide ((ca:Int)=2)=true:=dEt (by omega);simp only[go_sem,zE,zA,zL,reduceCtorEq,e2,fits,ISt.put_same,yQd];exact yQ0 ⟨b,hb,rfl,by rw[zQ1,if_pos h2];rfl⟩
 ·have e2:decide ((ca:Int)=2)=false:=dEf (by omega);by_cases h3:ca=3
  ·have e3:decide ((ca:Int)=3)=true:=dEt (by omega);simp only[go_sem,zE,zA,zL,reduceCtorEq,e2,e3,fits,ISt.put_same,yQd];exact yQ0 ⟨b,hb,rfl,by rw[zQ1,if_neg h2,if_pos h3];rfl⟩
  ·have e3:decide ((ca:Int)=3)=false:=dEf (by omega);simp only[go_sem,zE,reduceCtorEq,e2,e3];exact yQ0 ⟨b,hb,rfl,by rw[zQ1,if_neg h2,if_neg h3]⟩
theorem xXm (rule:Nat):yKj (.int .u8 rule) zW5=(rowK rule).map λr=>.agg [.raw (.bool r.left),.raw (.bool r.right),.raw (.int .u8 r.op),.raw (.int .u8 r.asks),.fn (.func (zVk 1 rule)) [] []]:=by
 unfold zW5;simp only[yGk];by_cases h:rule<=18
 ·rcases (show rule=0\/rule=1\/rule=2\/rule=3\/rule=4\/rule=5\/rule=6\/rule=7\/rule=8\/rule=9\/rule=10\/rule=11\/rule=12\/rule=13\/rule=14\/rule=15\/rule=16\/rule=17\/rule=18 by omega) with
   rfl|rfl|rfl|rfl|rfl|rfl|rfl|rfl|rfl|rfl|rfl|rfl|rfl|rfl|rfl|rfl|rfl|rfl|rfl<;>rfl
 ·have hn:rowK rule=none:=by unfold rowK;repeat (rw[if_neg (by omega)])
  rw[hn]
  repeat (rw[if_neg (by omega)])
  rfl
theorem zJg (ca rule:Nat):yKj (.int .u8 rule) (zQ1 ca)=(rowS ca rule).map (rwI ca rule):=by
 have hp:=xXm rule;by_cases h:rule<=18
 ·have hr:rule=0\/rule=1\/rule=2\/rule=3\/rule=4\/rule=5\/rule=6\/rule=7\/rule=8\/rule=9\/rule=10\/rule=11\/rule=12\/rule=13\/rule=14\/rule=15\/rule=16\/rule=17\/rule=18:=by omega
  by_cases h2:ca=2
  ·subst h2;simp only[zQ1,if_true,yGk,hp];rcases hr with rfl|rfl|rfl|rfl|rfl|rfl|rfl|rfl|rfl|rfl|rfl|rfl|rfl|rfl|rfl|rfl|rfl|rfl|rfl<;>rfl
  ·by_cases h3:ca=3
   ·subst h3;simp only[zQ1,if_true,if_neg h2,yGk,hp];rcases hr with rfl|rfl|rfl|rfl|rfl|rfl|rfl|rfl|rfl|rfl|rfl|rfl|rfl|rfl|rfl|rfl|rfl|rfl|rfl<;>rfl
   ·have hk:rowS ca rule=rowK rule:=by
     unfold rowS;rw[if_neg (by omega),if_neg (by omega),if_neg (by omega),if_neg (by omega),if_neg (by omega)]
    have hi:∀r,rowK rule=some r->zVk 1 rule=zVk ca rule:=λ_ _=>by
     unfold zVk;rw[if_neg (by omega),if_neg (by omega)]
     conv=>rhs;rw[if_neg (by omega),if_neg (by omega)]
    simp only[zQ1,if_neg h2,if_neg h3,hp,hk];cases hq:rowK rule with
    | none=>rfl
    | some r=>simp only[Option.map_some,rwI,hi r hq]
 ·have hn:rowS ca rule=none:=by
   unfold rowS;rw[if_neg (by omega),if_neg (by omega),if_neg (by omega),if_neg (by omega),if_neg (by omega)];unfold rowK;repeat (rw[if_neg (by omega)])
  have hk:rowK rule=none:=by unfold rowK;repeat (rw[if_neg (by omega)])
  rw[hk] at hp;rw[hn];unfold zQ1;split
  ·simp only[yGk,hp];repeat (rw[if_neg (by omega)])
   rfl
  ·split
   ·simp only[yGk,hp];repeat (rw[if_neg (by omega)])
    rfl
   ·rw[hp];rfl
theorem wV1 {ca rule:Nat}{r:Rw}(h:rowS ca rule=some r):yYb gl (zVk ca rule) (addS ca rule)/\entI prog (zVk ca rule)=true:=by
 have hr:rule<=18:=by
  refine Classical.byContradiction λhc=>?_;have hn:rowS ca rule=none:=by
   unfold rowS;rw[if_neg (by omega),if_neg (by omega),if_neg (by omega),if_neg (by omega),if_neg (by omega)];unfold rowK;repeat (rw[if_neg (by omega)])
  rw[hn] at h;cases h
 have hcas:rule=0\/rule=1\/rule=2\/rule=3\/rule=4\/rule=5\/rule=6\/rule=7\/rule=8\/rule=9\/rule=10\/rule=11\/rule=12\/rule=13\/rule=14\/rule=15\/rule=16\/rule=17\/rule=18:=by omega
 by_cases h2:ca=2
 ·subst h2;rcases hcas with rfl|rfl|rfl|rfl|rfl|rfl|rfl|rfl|rfl|rfl|rfl|rfl|rfl|rfl|rfl|rfl|rfl|rfl|rfl
  all_goals first|(cases h;done)|exact⟨wXa gl,by kernel_rfl⟩|exact⟨wX9 gl,by kernel_rfl⟩|exact⟨wX8 gl,by kernel_rfl⟩|exact⟨wX7 gl,by kernel_rfl⟩|exact⟨wX6 gl,by kernel_rfl⟩|exact⟨wX5 gl,by kernel_rfl⟩|exact⟨wX4 gl,by kernel_rfl⟩|exact⟨wX3 gl,by kernel_rfl⟩|exact⟨xJw gl,by kernel_rfl⟩|exact⟨wX2 gl,by kernel_rfl⟩|exact⟨xK1 gl,by kernel_rfl⟩|exact⟨xK0 gl,by kernel_rfl⟩|exact⟨xJz gl,by kernel_rfl⟩|exact⟨xJy gl,by kernel_rfl⟩|exact⟨xJx gl,by kernel_rfl⟩|exact⟨wX1 gl,by kernel_rfl⟩|exact⟨wX0 gl,by kernel_rfl⟩
 ·by_cases h3:ca=3
  ·subst h3;rcases hcas with rfl|rfl|rfl|rfl|rfl|rfl|rfl|rfl|rfl|rfl|rfl|rfl|rfl|rfl|rfl|rfl|rfl|rfl|rfl
   all_goals first|(cases h;done)|exact⟨wXa gl,by kernel_rfl⟩|exact⟨wX9 gl,by kernel_rfl⟩|exact⟨wX8 gl,by kernel_rfl⟩|exact⟨wX7 gl,by kernel_rfl⟩|exact⟨wX6 gl,by kernel_rfl⟩|exact⟨wX5 gl,by kernel_rfl⟩|exact⟨wX4 gl,by kernel_rfl⟩|exact⟨wX3 gl,by kernel_rfl⟩|exact⟨xJw gl,by kernel_rfl⟩|exact⟨wX2 gl,by kernel_rfl⟩|exact⟨xK1 gl,by kernel_rfl⟩|exact⟨xK0 gl,by kernel_rfl⟩|exact⟨xJz gl,by kernel_rfl⟩|exact⟨xJy gl,by kernel_rfl⟩|exact⟨xJx gl,by kernel_rfl⟩|exact⟨wX1 gl,by kernel_rfl⟩|exact⟨wX0 gl,by kernel_rfl⟩
  ·have hk:rowS ca rule=rowS 1 rule:=by
    unfold rowS;rw[if_neg (by omega),if_neg (by omega),if_neg (by omega),if_neg (by omega),if_neg (by omega)]
    conv=>rhs;rw[if_neg (by omega),if_neg (by omega),if_neg (by omega),if_neg (by omega),if_neg (by omega)]
   have hi:zVk ca rule=zVk 1 rule:=by
    unfold zVk;rw[if_neg (by omega),if_neg (by omega)]
    conv=>rhs;rw[if_neg (by omega),if_neg (by omega)]
   have hs:addS ca rule=addS 1 rule:=by
    funext m a b;unfold addS;rw[if_neg h2,if_neg (show ¬ (1:Nat)=2 by decide)]
   rw[hk] at h;rw[hi,hs];rcases hcas with rfl|rfl|rfl|rfl|rfl|rfl|rfl|rfl|rfl|rfl|rfl|rfl|rfl|rfl|rfl|rfl|rfl|rfl|rfl
   all_goals first|(cases h;done)|exact⟨wXa gl,by kernel_rfl⟩|exact⟨wX9 gl,by kernel_rfl⟩|exact⟨wX8 gl,by kernel_rfl⟩|exact⟨wX7 gl,by kernel_rfl⟩|exact⟨wX6 gl,by kernel_rfl⟩|exact⟨wX5 gl,by kernel_rfl⟩|exact⟨wX4 gl,by kernel_rfl⟩|exact⟨wX3 gl,by kernel_rfl⟩|exact⟨xJw gl,by kernel_rfl⟩|exact⟨wX2 gl,by kernel_rfl⟩|exact⟨xK1 gl,by kernel_rfl⟩|exact⟨xK0 gl,by kernel_rfl⟩|exact⟨xJz gl,by kernel_rfl⟩|exact⟨xJy gl,by kernel_rfl⟩|exact⟨xJx gl,by kernel_rfl⟩|exact⟨wX1 gl,by kernel_rfl⟩|exact⟨wX0 gl,by kernel_rfl⟩
