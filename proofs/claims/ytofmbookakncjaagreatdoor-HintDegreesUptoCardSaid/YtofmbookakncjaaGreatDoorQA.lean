/- Sequents and trees of sequents as plain -/
import Derived.Test.YtofmbookakncjaaGreatDoorKD
set_option linter.all false
open Nat renaming reduceEqDiff → zE,reduceBEq → zB,reduceAdd → zA,reduceMul → zM,reduceLeDiff → zL
namespace Go.Iv
open Go
structure Sq where
 l:List Fm
 r:List Fm
inductive Tr where
 | mk (rule:Nat) (s:Sq) (main:Fm) (term:Tm) (name:ByteArray) (sub:List Tr)
def IsSq (s:Sq)(x:IV):Prop:=∃t A D ys,x=.agg [.sl t A,.sl D ys]/\okEs t 4/\IsFms s.l A/\okEs D 4/\IsFms s.r ys
def IsSqs:List Sq->List IV->Prop
 | [],A=>A=[]
 | a::D,A=>∃y ys,A=y::ys/\IsSq a y/\IsSqs D ys
mutual
def IsTr:Tr->IV->Prop
 | .mk rule s f u n sub,x=>∃tl xl tr E op fn ta J tb G v O U A ts D,x=.agg [.raw (.int .u8 rule),.sl tl xl,.sl tr E,.raw (.int .u8 op),.raw (.string fn),.sl ta J,.sl tb G,.raw (.bool v),.raw (.string O),.sl U A,.raw (.string n),.sl ts D] /\
  rule<256/\okEs tl 4/\IsFms s.l xl/\okEs tr 4/\IsFms s.r E/\IsFm f (.agg [.raw (.int .u8 op),.raw (.string fn),.sl ta J,.sl tb G])/\IsTm u (.agg [.raw (.bool v),.raw (.string O),.sl U A])/\okEs ts 12/\IsTrs sub D
def IsTrs:List Tr->List IV->Prop
 | [],A=>A=[]
 | a::D,A=>∃y ys,A=y::ys/\IsTr a y/\IsTrs D ys
end
theorem IsTr.mk {rule:Nat}{s:Sq}{f:Fm}{u:Tm}{n:ByteArray}{sub:List Tr}{x:IV}(h:IsTr (.mk rule s f u n sub) x):∃tl xl tr E op fn ta J tb G v O U A ts D,x=.agg [.raw (.int .u8 rule),.sl tl xl,.sl tr E,.raw (.int .u8 op),.raw (.string fn),.sl ta J,.sl tb G,.raw (.bool v),.raw (.string O),.sl U A,.raw (.string n),.sl ts D] /\
  rule<256/\okEs tl 4/\IsFms s.l xl/\okEs tr 4/\IsFms s.r E/\IsFm f (.agg [.raw (.int .u8 op),.raw (.string fn),.sl ta J,.sl tb G])/\IsTm u (.agg [.raw (.bool v),.raw (.string O),.sl U A])/\okEs ts 12/\IsTrs sub D:=by
 simpa only[IsTr] using h
theorem IsSqs.len:∀ {D:List Sq}{A:List IV},IsSqs D A->A.length=D.length
 | [],A,h=>by simp only[IsSqs] at h;subst h;rfl
 | a::D,A,h=>by
  simp only[IsSqs] at h;obtain⟨y,ys,rfl,_,h⟩:=h;simp[IsSqs.len h]
theorem IsSqs.get:∀ {E:List Sq}{D:List IV}{k:Nat}{a:Sq},IsSqs E D->E[k]?=some a->∃x,D[k]?=some x/\IsSq a x
 | [],D,k,a,h,A=>by simp at A
 | b::E,D,k,a,h,A=>by
  simp only[IsSqs] at h;obtain⟨y,ys,rfl,G,h⟩:=h;cases k with
  | zero=>simp at A;subst A;exact⟨y,rfl,G⟩
  | succ k=>simpa using IsSqs.get h (by simpa using A)
theorem IsTrs.len:∀ {D:List Tr}{A:List IV},IsTrs D A->A.length=D.length
 | [],A,h=>by simp only[IsTrs] at h;subst h;rfl
 | a::D,A,h=>by
  simp only[IsTrs] at h;obtain⟨y,ys,rfl,_,h⟩:=h;simp[IsTrs.len h]
theorem IsTrs.get:∀ {E:List Tr}{D:List IV}{k:Nat}{a:Tr},IsTrs E D->E[k]?=some a->∃x,D[k]?=some x/\IsTr a x
 | [],D,k,a,h,A=>by simp at A
 | b::E,D,k,a,h,A=>by
  simp only[IsTrs] at h;obtain⟨y,ys,rfl,G,h⟩:=h;cases k with
  | zero=>simp at A;subst A;exact⟨y,rfl,G⟩
  | succ k=>simpa using IsTrs.get h (by simpa using A)
theorem IsTrs.append:∀ {E D:List Tr}{A ys:List IV},IsTrs E A->IsTrs D ys->IsTrs (E++D) (A++ys)
 | [],D,A,ys,h,k=>by simp only[IsTrs] at h;subst h;exact k
 | a::E,D,A,ys,h,k=>by
  simp only[IsTrs] at h;obtain⟨y,zs,rfl,G,h⟩:=h;exact⟨y,zs++ys,rfl,G,IsTrs.append h k⟩
mutual
def Tr.steps:Tr->Nat
 | .mk _ _ _ _ _ sub=>1+yQr sub
def yQr:List Tr->Nat
 | []=>0
 | a::l=>a.steps+yQr l
end
mutual
def Tr.height:Tr->Nat
 | .mk _ _ _ _ _ sub=>1+yXm sub
def yXm:List Tr->Nat
 | []=>0
 | a::l=>max a.height (yXm l)
end
theorem yKo:∀l m:List Tr,yQr (l++m)=yQr l+yQr m
 | [],m=>by simp[yQr]
 | a::l,m=>by simp only[List.cons_append,yQr,yKo l m];omega
theorem Tr.height_le_steps:∀t:Tr,t.height<=t.steps:=by
 have key:∀k:Nat,(∀t:Tr,SizeOf.sizeOf t<k->t.height<=t.steps):=λk=>by
  induction k with
  | zero=>intro t h;omega
  | succ k D =>
   rintro⟨rule,s,f,u,n,sub⟩ h;have:∀l:List Tr,SizeOf.sizeOf l<k+1->yXm l<=yQr l:=λl=>by
    induction l with
    | nil=>intro _;simp[yXm,yQr]
    | cons a l A =>
     intro hl;simp only[List.cons.sizeOf_spec] at hl;have h1:=D a (by omega);have h2:=A (by omega);simp only[yXm,yQr];omega
   simp only[Tr.mk.sizeOf_spec] at h;have:=this sub (by omega);simp only[Tr.height,Tr.steps];omega
 exact λt=>key _ t (Nat.lt_succ_self _)
mutual
def Tr.walk:List Nat->Tr->List (List Nat×Tr)
 | p,t@(.mk _ _ _ _ _ sub)=>(p,t)::yQk p 0 sub
def yQk:List Nat->Nat->List Tr->List (List Nat×Tr)
 | _,_,[]=>[]
 | p,i,a::l=>a.walk (p++[i])++yQk p (i+1) l
end
def yQz (e:Tr->Nat):List (List Nat×Tr)->List Nat×Nat
 | []=>([],0)
 | (p,t)::l=>if e t=0 then yQz e l else (p,e t)
theorem yXu (e:Tr->Nat):∀l m,yQz e (l++m)=if (yQz e l).2=0 then yQz e m else yQz e l
 | [],m=>by simp[yQz]
 | (p,t)::l,m=>by
  have A:=yXu e l m;by_cases h:e t=0
  ·simp only[List.cons_append,yQz,h,if_true,A]
  ·simp[yQz,h]
def Fm.op:Fm->Nat
 | .mk op _ _ _=>op
def Fm.subs:Fm->List Fm
 | .mk _ _ _ sub=>sub
def Fm.nm:Fm->ByteArray
 | .mk _ n _ _=>n
def Tr.sq:Tr->Sq
 | .mk _ s _ _ _ _=>s
def Sq.plus (s m:Sq):Sq:=⟨s.l++m.l,s.r++m.r⟩
end Go.Iv
namespace Go.Proofs.Tryz
open Go Go.Iv
set_option maxRecDepth 4000
variable (gl:Nat->Option IV)
theorem yGy (v w:Bool)(n m:ByteArray)(us ws:List Tm)(x y:IV)(hx:IsTm (.mk v n us) x)(hy:IsTm (.mk w m ws) y)
  (IH:∀(t U:Tag) (O ys:List IV),okEs t 3->okEs U 3->IsTms us O->IsTms ws ys->∀st,ICall prog gl 42 [.sl t O,.sl U ys] st (λx st'=>x=.raw (.bool (eqB us ws))/\st'=st)) (st:ISt) :
  ICall prog gl 49 [x,y] st (λr st'=>r=.raw (.bool (eqB (Tm.mk v n us) (.mk w m ws)))/\st'=st):=by
 obtain⟨tx,cx,rfl,E,J⟩:=hx.mk;obtain⟨ty,cy,rfl,D,G⟩:=hy.mk;refine iI func49 ?_;by_cases hv:v=w
 ·subst hv;by_cases A:n=m
  ·subst A;simp only[go_sem,zE,zA,decide_true];refine (IH tx ty cx cy E D J G _).mono ?_;rintro _ _ ⟨rfl,rfl⟩;simp only[go_sem,zE];refine yQ0 ⟨?_,rfl⟩;by_cases hc:us=ws
   ·subst hc;rw[yZ0.2 rfl,yZ0.2 rfl]
   ·rw[yQo.2 hc,yQo.2 (by rintro⟨⟩;exact hc rfl)]
  ·simp only[go_sem,zE,zA,dEf A];exact yQ0 ⟨by rw[yQo.2 (by rintro⟨⟩;exact A rfl)],rfl⟩
 ·simp only[go_sem,zE,zA,beq_eq_false_iff_ne.2 hv];exact yQ0 ⟨by rw[yQo.2 (by rintro⟨⟩;exact hv rfl)],rfl⟩
theorem yYt (t t':Tag)(us ws:List Tm)(xs ys:List IV)(ht:okEs t 3)(ai:okEs t' 3)(ha:IsTms us xs)(hb:IsTms ws ys)(st:ISt) :
  ICall prog gl 42 [.sl t xs,.sl t' ys] st (λx st'=>x=.raw (.bool (eqB us ws))/\st'=st):=by
 refine iI func42 ?_;simp only[go_sem,zE,reduceCtorEq,ha.len,hb.len];intro aB aA;refine yZj (λh=>?_) (λh=>?_)
 ·have J:us≠ws:=by rintro rfl;simp at h
  simp only[go_sem];exact yQ0 ⟨by rw[yQo.2 J],rfl⟩
 have G:us.length=ws.length:=by simp at h;omega
 refine LoopC.ctr us.length (λk fr st' ds=>us.take k=ws.take k/\fr 0=.iv (.sl t xs)/\fr 1=.iv (.sl t' ys)/\fr 5=.iv (.raw (.int .i64 k))/\st'=st/\ds=[]) ?_ ?_ ?_
 ·simp only[go_sem,zE,reduceCtorEq];rfl
 ·rintro k fr st' ds A ⟨U,h0,h1,h5,rfl,rfl⟩;obtain⟨a,E⟩:=yQ1 A;obtain⟨b,D⟩:=yQ1 (G▸A);obtain⟨x,ak,hx⟩:=ha.get E;obtain⟨y,aj,hy⟩:=hb.get D;obtain⟨v,n,cs⟩:=a;obtain⟨w,m,ds⟩:=b;have ah:=hx;have ag:=hy;obtain⟨tx,cx,rfl,az,aE⟩:=hx.mk;obtain⟨ty,cy,rfl,ay,aD⟩:=hy.mk;have O:=yGy gl v w n m cs ds _ _ ah ag (λt1 t2 x1 y1 q1 q2 q3 q4 af=>yYt t1 t2 cs ds x1 y1 q1 q2 q3 q4 af) st';simp only[go_sem,zE,zB,zA,reduceCtorEq,h0,h1,h5,ha.len,lt_i A,yQ3 ht,yQ3 ai,iNn,ak,aj,fits];intro _;refine O.mono ?_;rintro _ _ ⟨rfl,rfl⟩;by_cases hc:Tm.mk v n cs=.mk w m ds
  ·simp only[go_sem,zE,reduceCtorEq,h0,h1,h5,yQc A (show us.length<=281474976710656 by omega),yZ0.2 hc];rw[yQ6 E,yQ6 D,U,hc]
  ·have J:us≠ws:=by
    rintro rfl;rw[E] at D;exact hc (Option.some.inj D)
   simp only[go_sem,yQo.2 hc];exact yQ0 ⟨by rw[yQo.2 J],rfl⟩
 ·rintro fr st' ds ⟨U,h0,h1,h5,rfl,rfl⟩;simp only[go_sem,zE,reduceCtorEq,h0,h5,ha.len,yQl (nLi _)];intro _;have he:us=ws:=by rw[lTl] at U;rw[U,G,lTl]
  exact yQ0 ⟨by rw[yZ0.2 he],rfl⟩
termination_by SizeOf.sizeOf us
decreasing_by exact xU1 (lMg E)
theorem xK5 (a b:Tm)(x y:IV)(G:IsTm a x)(E:IsTm b y)(st:ISt):ICall prog gl 49 [x,y] st (λr st'=>r=.raw (.bool (eqB a b))/\st'=st):=by
 obtain⟨v,n,us⟩:=a;obtain⟨w,m,ws⟩:=b;exact yGy gl v w n m us ws x y G E (λt D A ys h1 h2 O J st=>yYt gl t D us ws A ys h1 h2 O J st) st
def kSF (f:Fm):Prop:=∀(g:Fm) (x y:IV) (_:IsFm f x) (_:IsFm g y) (st:ISt),ICall prog gl 21 [x,y] st (λr st'=>r=.raw (.bool (eqB f g))/\st'=st)
theorem yYu (us ws:List Fm)(IH:∀a∈us,kSF gl a)(t t':Tag)(xs ys:List IV)(ht:okEs t 4)(ag:okEs t' 4)(ha:IsFms us xs)(hb:IsFms ws ys)(st:ISt) :
  ICall prog gl 43 [.sl t xs,.sl t' ys] st (λx st'=>x=.raw (.bool (eqB us ws))/\st'=st):=by
 refine iI func43 ?_;simp only[go_sem,zE,reduceCtorEq,ha.len,hb.len];intro an am;refine yZj (λh=>?_) (λh=>?_)
 ·have J:us≠ws:=by rintro rfl;simp at h
  simp only[go_sem];exact yQ0 ⟨by rw[yQo.2 J],rfl⟩
 have G:us.length=ws.length:=by simp at h;omega
 refine LoopC.ctr us.length (λk fr st' ds=>us.take k=ws.take k/\fr 0=.iv (.sl t xs)/\fr 1=.iv (.sl t' ys)/\fr 5=.iv (.raw (.int .i64 k))/\st'=st/\ds=[]) ?_ ?_ ?_
 ·simp only[go_sem,zE,reduceCtorEq];rfl
 ·rintro k fr st' ds A ⟨hn,h0,h1,h5,rfl,rfl⟩;obtain⟨a,E⟩:=yQ1 A;obtain⟨b,D⟩:=yQ1 (G▸A);obtain⟨x,ai,hx⟩:=ha.get E;obtain⟨y,ah,hy⟩:=hb.get D;have O:=IH a (lMg E) b x y hx hy st';obtain⟨o,n,cs,sub⟩:=a;obtain⟨o',m,ds,U⟩:=b;obtain⟨tx,cx,sx,dx,rfl,_⟩:=hx.mk;obtain⟨ty,cy,sy,dy,rfl,_⟩:=hy.mk;simp only[go_sem,zE,zB,zA,reduceCtorEq,h0,h1,h5,ha.len,lt_i A,yQ3 ht,yQ3 ag,iNn,ai,ah,fits];intro _;refine O.mono ?_;rintro _ _ ⟨rfl,rfl⟩;by_cases hc:Fm.mk o n cs sub=.mk o' m ds U
  ·simp only[go_sem,zE,reduceCtorEq,h0,h1,h5,yQc A (show us.length<=281474976710656 by omega),yZ0.2 hc];rw[yQ6 E,yQ6 D,hn,hc]
  ·have J:us≠ws:=by
    rintro rfl;rw[E] at D;exact hc (Option.some.inj D)
   simp only[go_sem,yQo.2 hc];exact yQ0 ⟨by rw[yQo.2 J],rfl⟩
 ·rintro fr st' ds ⟨hn,h0,h1,h5,rfl,rfl⟩;simp only[go_sem,zE,reduceCtorEq,h0,h5,ha.len,yQl (nLi _)];intro _;have he:us=ws:=by rw[lTl] at hn;rw[hn,G,lTl]
  exact yQ0 ⟨by rw[yZ0.2 he],rfl⟩
theorem zW2 (o:Nat)(n:ByteArray)(us:List Tm)(sub:List Fm)(IH:∀a∈sub,kSF gl a):kSF gl (.mk o n us sub):=by
 intro g x y hx hy st;obtain⟨o',m,ws,A⟩:=g;obtain⟨tx,cx,sx,dx,rfl,ho,O,af,aa,ac⟩:=hx.mk;obtain⟨ty,cy,sy,dy,rfl,am,J,ae,U,ab⟩:=hy.mk;have E:=yYu gl sub A IH sx sy dx dy aa U ac ab;refine iI func21 ?_;by_cases hv:o=o'
 ·subst hv;by_cases D:n=m
  ·subst D;simp only[go_sem,zE,zA,decide_true];refine (yYt gl tx ty us ws cx cy O J af ae _).mono ?_;rintro _ _ ⟨rfl,rfl⟩;by_cases hc:us=ws
   ·subst hc;simp only[go_sem,zE,zA,yZ0.2 rfl];refine (E _).mono ?_;rintro _ _ ⟨rfl,rfl⟩;simp only[go_sem,zE];refine yQ0 ⟨?_,rfl⟩;by_cases hd:sub=A
    ·subst hd;rw[yZ0.2 rfl,yZ0.2 rfl]
    ·rw[yQo.2 hd,yQo.2 (by rintro⟨⟩;exact hd rfl)]
   ·simp only[go_sem,zE,yQo.2 hc];exact yQ0 ⟨by rw[yQo.2 (by rintro⟨⟩;exact hc rfl)],rfl⟩
  ·simp only[go_sem,zE,zA,dEf D,decide_true];exact yQ0 ⟨by rw[yQo.2 (by rintro⟨⟩;exact D rfl)],rfl⟩
 ·have G:decide ((o:Int)=(o':Int))=false:=dEf (by omega);simp only[go_sem,zE,zA,G];exact yQ0 ⟨by rw[yQo.2 (by rintro⟨⟩;exact hv rfl)],rfl⟩
theorem zQh:∀(k:Nat)(f:Fm),SizeOf.sizeOf f<k->kSF gl f
 | 0,f,h=>by omega
 | k+1,.mk o n us sub,h=>zW2 gl o n us sub (λa A=>zQh k a (by
   have:=lSm A;simp only[Fm.mk.sizeOf_spec] at h;omega))
theorem yUe (f:Fm):kSF gl f:=zQh gl _ f (Nat.lt_succ_self _)
theorem zX6 (us ws:List Fm)(t D:Tag)(A ys:List IV)(ht:okEs t 4)(E:okEs D 4)(J:IsFms us A)(G:IsFms ws ys)(st:ISt) :
  ICall prog gl 43 [.sl t A,.sl D ys] st (λx st'=>x=.raw (.bool (eqB us ws))/\st'=st):=yYu gl us ws (λa _=>yUe gl a) t D A ys ht E J G st
theorem zY5 (a b:Sq)(x y:IV)(U:IsSq a x)(O:IsSq b y)(st:ISt):ICall prog gl 44 [x,y] st (λr st'=>r=.raw (.bool (eqB a b))/\st'=st):=by
 obtain⟨l,r⟩:=a;obtain⟨A,r'⟩:=b;obtain⟨t1,J,t2,G,rfl,h1,h2,h3,h4⟩:=U;obtain⟨t3,E,t4,D,rfl,h5,h6,h7,h8⟩:=O;refine iI func44 ?_;simp only[go_sem,zE,zA];refine (zX6 gl l A t1 t3 J E h1 h5 h2 h6 _).mono ?_;rintro _ _ ⟨rfl,rfl⟩;by_cases hc:l=A
 ·subst hc;simp only[go_sem,zE,zA,yZ0.2 rfl];refine (zX6 gl r r' t2 t4 G D h3 h7 h4 h8 _).mono ?_;rintro _ _ ⟨rfl,rfl⟩;simp only[go_sem,zE];refine yQ0 ⟨?_,rfl⟩;by_cases hd:r=r'
  ·subst hd;rw[yZ0.2 rfl,yZ0.2 rfl]
  ·rw[yQo.2 hd,yQo.2 (by rintro⟨⟩;exact hd rfl)]
 ·simp only[go_sem,zE,yQo.2 hc];exact yQ0 ⟨by rw[yQo.2 (by rintro⟨⟩;exact hc rfl)],rfl⟩
def yQj (l:List Nat):List IV:=l.map λ(n:Nat)=>.raw (.int .i64 (n:Int))
theorem yVi (l:List Nat):(yQj l).length=l.length:=by simp[yQj]
theorem xZd {l:List Nat}{k n:Nat}(h:l[k]?=some n):(yQj l)[k]?=some (.raw (.int .i64 n)):=by simp[yQj,h]
theorem zYp (t t':Tag)(us ws:List Nat)(ht:okEs t 1)(O:okEs t' 1)(st:ISt) :
  ICall prog gl 10 [.sl t (yQj us),.sl t' (yQj ws)] st (λx st'=>x=.raw (.bool (eqB us ws))/\st'=st):=by
 refine iI func10 ?_;simp only[go_sem,zE,reduceCtorEq,yVi];intro ag af;refine yZj (λh=>?_) (λh=>?_)
 ·have G:us≠ws:=by rintro rfl;simp at h
  simp only[go_sem];exact yQ0 ⟨by rw[yQo.2 G],rfl⟩
 have E:us.length=ws.length:=by simp at h;omega
 refine LoopC.ctr us.length (λk fr st' ds=>us.take k=ws.take k/\fr 0=.iv (.sl t (yQj us))/\fr 1=.iv (.sl t' (yQj ws))/\fr 5=.iv (.raw (.int .i64 k))/\st'=st/\ds=[]) ?_ ?_ ?_
 ·simp only[go_sem,zE,reduceCtorEq];rfl
 ·rintro k fr st' ds A ⟨hn,h0,h1,h5,rfl,rfl⟩;obtain⟨a,J⟩:=yQ1 A;obtain⟨b,D⟩:=yQ1 (E▸A);have aa:=xZd J;have U:=xZd D;by_cases hc:a=b
  ·subst hc;simp only[go_sem,zE,reduceCtorEq,h0,h1,h5,yVi,lt_i A,yQc A (show us.length<=281474976710656 by omega),yQ3 ht,yQ3 O,iNn,aa,U,fits,decide_true];intro _;rw[yQ6 J,yQ6 D,hn]
  ·have G:us≠ws:=by
    rintro rfl;rw[J] at D;exact hc (Option.some.inj D)
   have hd:decide ((a:Int)=(b:Int))=false:=dEf (by omega);simp only[go_sem,zE,reduceCtorEq,h0,h1,h5,yVi,lt_i A,yQ3 ht,yQ3 O,iNn,aa,U,fits,hd];intro _;exact yQ0 ⟨by rw[yQo.2 G],rfl⟩
 ·rintro fr st' ds ⟨hn,h0,h1,h5,rfl,rfl⟩;simp only[go_sem,zE,reduceCtorEq,h0,h5,yVi,yQl (nLi _)];intro _;have he:us=ws:=by rw[lTl] at hn;rw[hn,E,lTl]
  exact yQ0 ⟨by rw[yZ0.2 he],rfl⟩
theorem IsFmD.aggs {f:Fm}{r:IV}(h:IsFmD f r):∃o n t x A D,r=.agg [.raw (.int .u8 o),.raw (.string n),.sl t x,.sl A D]:=by
 obtain⟨o,n,us,sub⟩:=f;obtain⟨t,E,A,ys,rfl,_⟩:=h.mk;exact⟨_,_,_,_,_,_,rfl⟩
def sCT (us:List Tm):Prop:=∀(E:Tag) (D:List IV) (_:okEs E 3) (_:IsTms us D) (_:yQf us<=1099511627776) (st:ISt),
 ICall prog gl 111 [.sl E D,.fn (.func 112) [] []] st (λr st'=>∃A ys,r=.sl A ys/\okEs A 3/\appT us.length A/\IsTmsD us ys/\st'=st)
theorem zVx (v:Bool)(n:ByteArray)(us:List Tm)(IH:sCT gl us)(x:IV)(O:IsTm (.mk v n us) x)(hs:(Tm.mk v n us).size<=1099511627776)(st:ISt) :
  ICall prog gl 112 [x] st (λr st'=>IsTmD (.mk v n us) r/\st'=st):=by
 obtain⟨G,cx,rfl,D,E⟩:=O.mk;simp only[Tm.size] at hs;have A:=IH G cx D E (by omega) st;refine iI func112 ?_;simp only[go_sem,zE,zA];refine A.mono ?_;rintro _ _ ⟨J,ys,rfl,U,ha,hys,rfl⟩;simp only[go_sem,zE,zA,zL,fits];exact yQ0 ⟨IsTmD.intro U ha hys,rfl⟩
theorem zJx (us:List Tm)(IH:∀v n l,Tm.mk v n l∈us->sCT gl l):sCT gl us:=by
 intro tg xs aj J ax st;have an:=yJ7 us;refine iI func111 ?_;simp only[go_sem,reduceCtorEq,J.len];intro _;refine yZj (λh=>?_) (λh=>?_)
 ·obtain rfl:us=[]:=List.eq_nil_of_length_eq_zero (by simpa using h);simp only[go_sem];exact yQ0 ⟨_,_,rfl,.inl rfl,.inl rfl,IsTmsD.nil,rfl⟩
 have G:0<us.length:=Nat.pos_of_ne_zero λh0=>by simp[h0] at h
 simp only[go_sem,reduceCtorEq,J.len];intro _;refine yQp ⟨iNn _,by omega,by omega⟩ λg=>yQ8 λhg=>?_;intro _;refine LoopC.ctr us.length (λk fr st' ds=>(∃A ys,fr 5=.iv (.sl A ys)/\IsTmsD (us.take k) ys/\appT us.length A/\own st' A k 3 st/\subSt st st')/\fr 1=.iv (.fn (.func 112) [] []) /\
  fr 14=.iv (.sl tg xs)/\fr 15=.iv (.raw (.int .i64 us.length))/\fr 16=.iv (.raw (.int .i64 k))/\ds=[]) ?_ ?_ ?_
 ·simp only[go_sem,zE];exact⟨⟨_,_,rfl,IsTmsD.nil,.inr ⟨G,rfl,g,rfl⟩,.inr (.inr ⟨g,rfl,ISt.put_same _ _ _,hg⟩),yQa (subSt.refl _) hg⟩,rfl⟩
 ·rintro k fr ae _ aa ⟨⟨A,ys,f5,hys,ag,E,D⟩,f1,f14,f15,f16,rfl⟩;obtain⟨a,ha⟩:=yQ1 aa;obtain⟨x,ak,hx⟩:=J.get ha;obtain⟨h1,h2⟩:=yZz ha;have ab:ys.length=k:=by rw[hys.len,List.length_take];omega
  obtain⟨v2,n2,m⟩:=a;have ac:=zVx gl v2 n2 m (IH _ _ _ (lMg ha)) x hx (by omega) ae;obtain⟨tx,cx,rfl,aw,az⟩:=hx.mk;simp only[go_sem,zE,zB,zA,zL,f1,f5,f14,f15,f16,lt_i aa,yQ3 aj,iNn,ak,fits];refine ac.mono ?_;rintro r _ ⟨hr,rfl⟩;have hn:IsTmsD (us.take (k+1)) (ys++[r]):=by
   rw[yQ6 ha];exact hys.append (IsTmsD.one hr)
  obtain⟨t3,x3,rfl,_⟩:=IsTmD.mk hr;simp only[go_sem,zE,zA,zM,zL,fits,yQ4];refine yJj E ab D rfl (by simp[fits,IV.one]) (by simp only;omega) (by omega) λai st4 U O _ af=>?_;simp only[go_sem,zE,f1,f14,f15,f16,yQc aa (show us.length<=281474976710656 by omega)];exact⟨ai,_,rfl,hn,af.pos G,U,O⟩
 ·rintro fr ae _ ⟨⟨A,ys,f5,hys,ag,E,D⟩,f1,f14,f15,f16,rfl⟩;rw[lTl] at hys;simp only[go_sem,zE,f5,f15,f16,yQl (nLi _)];exact yQg (st':=st) D ⟨A,ys,rfl,E.es,ag,hys,rfl⟩
theorem yGv:∀(k:Nat)(us:List Tm),SizeOf.sizeOf us<k->sCT gl us
 | 0,f,h=>by omega
 | k+1,us,h=>zJx gl us (λv n l A=>yGv k l (by
   have:=lSm A;simp at this;omega))
theorem xQh (us:List Tm):sCT gl us:=yGv gl _ us (Nat.lt_succ_self _)
def sCF (f:Fm):Prop:=∀(x:IV) (_:IsFm f x) (_:f.size<=1099511627776) (st:ISt),ICall prog gl 87 [x] st (λr st'=>IsFmD f r/\st'=st)
theorem zJy (us:List Fm)(IH:∀a∈us,sCF gl a)(tg:Tag)(xs:List IV)(al:okEs tg 4)(J:IsFms us xs)(av:yQb us<=1099511627776)(st:ISt) :
  ICall prog gl 113 [.sl tg xs,.fn (.func 87) [] []] st (λr st'=>∃A ys,r=.sl A ys/\okEs A 4/\appT us.length A/\IsFmsD us ys/\st'=st):=by
 have aq:=yX4 us;refine iI func113 ?_;simp only[go_sem,reduceCtorEq,J.len];intro _;refine yZj (λh=>?_) (λh=>?_)
 ·obtain rfl:us=[]:=List.eq_nil_of_length_eq_zero (by simpa using h);simp only[go_sem];exact yQ0 ⟨_,_,rfl,.inl rfl,.inl rfl,IsFmsD.nil,rfl⟩
 have G:0<us.length:=Nat.pos_of_ne_zero λh0=>by simp[h0] at h
 simp only[go_sem,reduceCtorEq,J.len];intro _;refine yQp ⟨iNn _,by omega,by omega⟩ λg=>yQ8 λhg=>?_;intro _;refine LoopC.ctr us.length (λk fr st' ds=>(∃A ys,fr 5=.iv (.sl A ys)/\IsFmsD (us.take k) ys/\appT us.length A/\own st' A k 4 st/\subSt st st')/\fr 1=.iv (.fn (.func 87) [] []) /\
  fr 14=.iv (.sl tg xs)/\fr 15=.iv (.raw (.int .i64 us.length))/\fr 16=.iv (.raw (.int .i64 k))/\ds=[]) ?_ ?_ ?_
 ·simp only[go_sem,zE];exact⟨⟨_,_,rfl,IsFmsD.nil,.inr ⟨G,rfl,g,rfl⟩,.inr (.inr ⟨g,rfl,ISt.put_same _ _ _,hg⟩),yQa (subSt.refl _) hg⟩,rfl⟩
 ·rintro k fr ae _ aa ⟨⟨A,ys,f5,hys,ag,E,D⟩,f1,f14,f15,f16,rfl⟩;obtain⟨a,ha⟩:=yQ1 aa;obtain⟨x,am,hx⟩:=J.get ha;obtain⟨h1,h2⟩:=yZ7 ha;have ab:ys.length=k:=by rw[hys.len,List.length_take];omega
  have ac:=IH a (lMg ha) x hx (by omega) ae;obtain⟨o5,n5,t5,x5,t6,x6,rfl⟩:=hx.agg;simp only[go_sem,zE,zB,zA,zL,f1,f5,f14,f15,f16,lt_i aa,yQ3 al,iNn,am,fits];refine ac.mono ?_;rintro r _ ⟨hr,rfl⟩;have hn:IsFmsD (us.take (k+1)) (ys++[r]):=by
   rw[yQ6 ha];exact hys.append (IsFmsD.one hr)
  obtain⟨o7,n7,t7,x7,t8,x8,rfl⟩:=IsFmD.aggs hr;simp only[go_sem,zE,zA,zM,zL,fits,yQ4];refine yJj E ab D rfl (by simp[fits,IV.one]) (by simp only;omega) (by omega) λaj st4 U O _ af=>?_;simp only[go_sem,zE,f1,f14,f15,f16,yQc aa (show us.length<=281474976710656 by omega)];exact⟨aj,_,rfl,hn,af.pos G,U,O⟩
 ·rintro fr ae _ ⟨⟨A,ys,f5,hys,ag,E,D⟩,f1,f14,f15,f16,rfl⟩;rw[lTl] at hys;simp only[go_sem,zE,f5,f15,f16,yQl (nLi _)];exact yQg (st':=st) D ⟨A,ys,rfl,E.es,ag,hys,rfl⟩
theorem xU4 (o:Nat)(n:ByteArray)(us:List Tm)(sub:List Fm)(IH:∀a∈sub,sCF gl a):sCF gl (.mk o n us sub):=by
 intro x hx hs st;obtain⟨t1,x1,t2,x2,rfl,ho,J,E,G,D⟩:=hx.mk;simp only[Fm.size] at hs;have aa:=xQh gl us t1 x1 J E (by omega) st;have U:=zJy gl sub IH t2 x2 G D (by omega) st;refine ICall.intro (c:=cf prog gl [] [(1,[0,1,2,3,4,5,7,8,6,9,10,11])]) func87 rfl (by show _<=14;simp) (by kernel_rfl) ?_;simp only[go_sem,zE,zA];refine aa.mono ?_;rintro _ _ ⟨ah,ys,rfl,he,ha,hys,rfl⟩;simp only[go_sem,zE,zA];refine U.mono ?_;rintro _ _ ⟨ag,ac,rfl,O,ab,A,rfl⟩;simp only[go_sem,zE,zA,zL,fits];exact yQ0 ⟨IsFmD.intro ho he ha hys O ab A,rfl⟩
theorem xQg:∀(k:Nat)(f:Fm),SizeOf.sizeOf f<k->sCF gl f
 | 0,f,h=>by omega
 | k+1,.mk o n us sub,h=>xU4 gl o n us sub (λa A=>xQg k a (by
   have:=lSm A;simp only[Fm.mk.sizeOf_spec] at h;omega))
theorem yWm (f:Fm):sCF gl f:=xQg gl _ f (Nat.lt_succ_self _)
theorem vX6 (us:List Fm)(tg:Tag)(xs:List IV)(aj:okEs tg 4)(ac:IsFms us xs)(aq:yQb us<=1099511627776)(st:ISt) :
  ICall prog gl 174 [.sl tg xs] st (λr st'=>∃A ys,r=.sl A ys/\okEs A 4/\(appT us.length A/\A.fresh=true)/\IsFmsD us ys/\own st' A us.length 4 st/\subSt st st'):=by
 have ao:=yX4 us;refine iI func174 ?_;simp only[go_sem,reduceCtorEq,ac.len];intro _;refine LoopC.ctr us.length (λk fr st' ds=>(∃A ys,fr 3=.iv (.sl A ys)/\IsFmsD (us.take k) ys/\(appT k A/\A.fresh=true)/\own st' A k 4 st/\subSt st st') /\
  fr 6=.iv (.sl tg xs)/\fr 7=.iv (.raw (.int .i64 us.length))/\fr 8=.iv (.raw (.int .i64 k))/\ds=[]) ?_ ?_ ?_
 ·simp only[go_sem,zE];exact⟨⟨_,_,rfl,IsFmsD.nil,⟨.inl rfl,rfl⟩,own.nil _ _ _ _ _,subSt.refl _⟩,rfl⟩
 ·rintro k fr ab _ O ⟨⟨A,ys,f3,hys,af,D,E⟩,f6,f7,f8,rfl⟩;obtain⟨a,ha⟩:=yQ1 O;obtain⟨x,ak,hx⟩:=ac.get ha;obtain⟨h1,h2⟩:=yZ7 ha;have U:ys.length=k:=by rw[hys.len,List.length_take];omega
  have aa:=yWm gl a x hx (by omega) ab;obtain⟨o5,n5,t5,x5,t6,x6,rfl⟩:=hx.agg;simp only[go_sem,zE,zB,zA,zL,f3,f6,f7,f8,lt_i O,yQ3 aj,iNn,ak,fits];refine aa.mono ?_;rintro r _ ⟨hr,rfl⟩;have hn:IsFmsD (us.take (k+1)) (ys++[r]):=by
   rw[yQ6 ha];exact hys.append (IsFmsD.one hr)
  obtain⟨o7,n7,t7,x7,t8,x8,rfl⟩:=IsFmD.aggs hr;simp only[go_sem,zE,zA,zM,zL,fits,yQ4];refine yJj D U E rfl (by simp[fits,IV.one]) (by simp only;omega) (by omega) λah st4 G J _ ae=>?_;simp only[go_sem,zE,f6,f7,f8,yQc O (show us.length<=281474976710656 by omega)];exact⟨ah,_,rfl,hn,⟨ae,by
   rcases G with⟨h0,_⟩|rfl|⟨_,rfl,_⟩
   ·omega
   ·rfl
   ·rfl⟩,G,J⟩
 ·rintro fr ab _ ⟨⟨A,ys,f3,hys,af,D,E⟩,f6,f7,f8,rfl⟩;rw[lTl] at hys;simp only[go_sem,zE,f3,f7,f8,yQl (nLi _)];exact yQ0 ⟨A,ys,rfl,D.es,af,hys,D,E⟩
end Go.Proofs.Tryz
namespace Go.Proofs.Tryz
open Go Go.Iv
mutual
def opsB (ca:Nat):Fm->Bool
 | .mk op _ us sub=>decide (1<=op)&&decide (op<=if ca=3 then 9 else 7)&&(decide (ca=3) || us.isEmpty)&&yKw ca sub
def yKw (ca:Nat):List Fm->Bool
 | []=>true
 | a::l=>opsB ca a&&yKw ca l
end
def fmB (ca:Nat)(f:Fm):Bool:=f.right&&opsB ca f
def yXy (ca:Nat):Bool:=decide (1<=ca)&&decide (ca<=3)
noncomputable def eqF (a b:Fm):Bool:=decide (a.op=b.op)&&yU0 a b
noncomputable def hasF (l:List Fm)(f:Fm):Bool:=l.any (eqF f)
noncomputable def allF (l m:List Fm):Bool:=l.all (hasF m)
noncomputable def yU2 (a b:Sq):Bool:=allF a.l b.l&&allF a.r b.r
noncomputable def zZo:List Fm->Bool
 | []=>true
 | a::l=>(a::l).all λf=>eqF f a
noncomputable def yQm (ca:Nat)(s:Sq):Bool :=
 yXy ca&&decide (s.l.length<=64)&&decide (s.r.length<=64)&&s.l.all (fmB ca)&&s.r.all (fmB ca)&&(decide (ca≠2) || zZo s.r)
structure Rw where
 left:Bool
 right:Bool
 op:Nat
 asks:Nat
def rowK (rule:Nat):Option Rw :=
 if rule=1 then some ⟨true,true,0,0⟩ else if rule=2 then some ⟨true,false,2,0⟩ else if rule=3 then some ⟨true,false,3,0⟩ else if rule=4 then some ⟨false,true,3,0⟩
 else if rule=5 then some ⟨true,false,4,0⟩ else if rule=6 then some ⟨false,true,4,0⟩ else if rule=7 then some ⟨true,false,5,0⟩ else if rule=8 then some ⟨false,true,5,0⟩
 else if rule=9 then some ⟨true,false,6,0⟩ else if rule=10 then some ⟨false,true,6,0⟩ else if rule=11 then some ⟨true,false,7,0⟩ else if rule=12 then some ⟨false,true,7,0⟩
 else if rule=17 then some ⟨false,false,0,0⟩ else none
def rowS (ca rule:Nat):Option Rw :=
 if ca=2/\rule=18 then some ⟨false,true,5,0⟩
 else if ca=3/\rule=13 then some ⟨true,false,8,1⟩ else if ca=3/\rule=14 then some ⟨false,true,8,2⟩
 else if ca=3/\rule=15 then some ⟨true,false,9,2⟩ else if ca=3/\rule=16 then some ⟨false,true,9,1⟩ else rowK rule
def bE:ByteArray:=⟨#[]⟩
def impF (a b:Fm):Fm:=.mk 6 bE [] [a,b]
def addS (ca rule:Nat)(A a b:Fm):List Sq :=
 if rule=3 then [⟨[],[a]⟩] else if rule=4 then [⟨[a],[]⟩] else if rule=5 then [⟨[a,b],[]⟩] else if rule=6 then [⟨[],[a]⟩,⟨[],[b]⟩]
 else if rule=7 then [⟨[a],[]⟩,⟨[b],[]⟩] else if rule=8 then (if ca=2 then [⟨[],[a]⟩] else [⟨[],[a,b]⟩]) else if rule=9 then [⟨[],[a]⟩,⟨[b],[]⟩]
 else if rule=10 then [⟨[a],[b]⟩] else if rule=11 then [⟨[impF a b,impF b a],[]⟩] else if rule=12 then [⟨[a],[b]⟩,⟨[b],[a]⟩]
 else if rule=13 then [⟨[a],[]⟩] else if rule=14 then [⟨[],[a]⟩] else if rule=15 then [⟨[a],[]⟩] else if rule=16 then [⟨[],[a]⟩]
 else if rule=17 then [⟨[],[A]⟩,⟨[A],[]⟩] else if rule=18 then [⟨[],[b]⟩] else []
noncomputable def yK7 (ca rule:Nat)(r:Rw)(A:Fm)(term:Tm)(name:ByteArray):List Sq×Nat :=
 if !fmB ca A || (decide (r.op≠0)&&decide (A.op≠r.op)) then ([],192)
 else
  let a:=(A.subs[0]?).getD fm0
  let b:=(A.subs[1]?).getD fm0
  if r.asks=0 then (addS ca rule A a b,0)
  else
   let t:=if r.asks=2 then .mk true name [] else term
   if !t.ok then ([],193)
   else if (yV7 a [(A.nm,t)]).2≠0 then ([],193) else (addS ca rule A (yV7 a [(A.nm,t)]).1 b,0)
noncomputable def zY8 (s:Sq)(n:ByteArray):Bool:=s.l.any (λf=>memB (frF f) n) || s.r.any (λf=>memB (frF f) n)
noncomputable def yWk (ca:Nat)(s:Sq)(rule:Nat)(A:Fm)(term:Tm)(name:ByteArray):List Sq×Nat :=
 if !yQm ca s then ([],190)
 else match rowS ca rule with
  | none=>([],191)
  | some r =>
   if decide ((yK7 ca rule r A term name).2=192) || (r.left&&!hasF s.l A) || (r.right&&!hasF s.r A) then ([],192)
   else if (yK7 ca rule r A term name).2≠0 then ([],(yK7 ca rule r A term name).2)
   else if decide (r.asks=2)&&zY8 s name then ([],193)
   else ((yK7 ca rule r A term name).1,0)
noncomputable def yK9 (s:Sq):List Sq->List Tr->Bool
 | m::l,t::ts=>yU2 t.sq (s.plus m)&&yK9 s l ts
 | _,_=>true
noncomputable def yXi (ca:Nat):Tr->Nat
 | .mk rule s A term name sub =>
  if (yWk ca s rule A term name).2≠0 then (yWk ca s rule A term name).2
  else if sub.length≠(yWk ca s rule A term name).1.length then 194
  else if yK9 s (yWk ca s rule A term name).1 sub then 0 else 195
noncomputable def yXz (ca:Nat)(t:Tr):List Nat×Nat :=
 if !yXy ca then ([],2) else if 300<t.steps then ([],5) else yQz (yXi ca) (t.walk [])
end Go.Proofs.Tryz
namespace Go.Iv
open Go
section
variable {P:Program}{gl:Nat->Option IV}{f:FuncId}{args args':List IV}{st:ISt}
theorem wXl {X X':WS}{g:Nat}{o:IObj}(h:Ext X X')(h0:X.st g=none)(h1:X'.st g=some o):X.w.heap.size<=g:=by
 by_cases A:g<X.w.heap.size
 ·have:=h.dom g A h0;grind
 ·omega
theorem zXr {X':WS}{S:ISt}{g:Nat}{cs:List IV}(h0:S g=none)(A:X'.st=S.put g (some (.box cs))):LendOk X'.st (ISt.put (λ_=>none) g (some (.box cs))) S:=by
 refine⟨λb o D=>?_,λb o D=>?_,λb cs' D=>?_⟩
 ·rw[ISt.put_apply] at D;split at D
  ·rename_i E;subst E;cases D;rw[A];exact ISt.put_same ..
  ·cases D
 ·rw[A,ISt.put_apply];grind
 ·rw[ISt.put_apply] at D;grind
theorem wXk {C:Cx}{X':WS}{S:ISt}{g cap es:Nat}{cs zs:List IV}(h2:Good C X')(h0:S g=none)(A:X'.st=S.put g (some (.box cs)))(hB:C.B<=g)(hn:zs.length<=140737488355328)(D:zs.length<=cap)(E:cap*es<=cs.length)
  (U:cs.take (zs.length*es)=zs.flatMap IV.cells) (G:∀z∈zs,z.cells.length=es):C.v (X'.lendS (ISt.put (λ_=>none) g (some (.box cs))) S) (.slice (some ⟨g,0,none⟩) zs.length cap) (.sl ⟨true,.app g,es⟩ zs):=by
 have ac:X'.st g=some (.box cs):=by rw[A];exact ISt.put_same ..
 have ag:=h2.lendS_ext (zXr h0 A);have aa:(ISt.put (λ_=>none) g (some (.box cs))) g=some (.box cs):=ISt.put_same ..;obtain⟨am,c,T,hh,J⟩:=h2.ok g _ ac;have al:c.toList.length=cs.length:=J.1;have af:(zs.flatMap IV.cells).length=zs.length*es:=yQt zs G;have aj:zs.length*es<=cs.length:=Nat.le_trans (Nat.mul_le_mul_right _ D) E;refine V.sl (some ⟨g,0,none⟩) cap ⟨true,.app g,es⟩ zs T (c.toList.take (zs.length*es)) rfl hn D G ?_ (λg' ae=>?_) (λ_ ad ah=>?_) (λ_=>⟨_,rfl,rfl,?_,λi r O=>?_⟩) λi r z O G=>?_
 ·grind
 ·cases ae;refine⟨T,c.size,?_,?_⟩
  ·simp[shq,WS.lendS,hh]
  ·grind
 ·cases ah;refine⟨hB,by simp,?_⟩;simp[ety,shq,WS.lendS,hh]
 ·show 0+(c.toList.take (zs.length*es)).length<=(X'.lendS _ S).L g;rw[zGx aa,List.length_take];omega
 ·show X'.w.cell? _=_;rw[Nat.zero_add,yZ1 hh];grind
 ·rw[<- U,List.getElem?_take] at G;rw[List.getElem?_take] at O;split at O
  ·rename_i hi;rw[if_pos hi] at G;exact ag.v (J.2 i r z O G)
  ·cases O
theorem ICall.fixN {K:IV->ISt->Prop}(h:ICall P gl f args st (λy st'=>K y st'\/∃g n cap cs es zs v,st g=none/\y=.tup [.raw (.slice (some ⟨g,0,none⟩) n cap),.raw v]/\st'=st.put g (some (.box cs)) /\
   zs.length=n/\n<=140737488355328/\n<=cap/\cap*es<=cs.length/\cs.take (n*es)=zs.flatMap IV.cells/\(∀z∈zs,z.cells.length=es)/\K (.tup [.sl ⟨true,.app g,es⟩ zs,.raw v]) st)) :
  ICall P gl f args st K:=by
 intro B X rs hg hst hv;subst hst;refine (h B X rs hg rfl hv).mono ?_;rintro e w' ⟨v,rfl,X',y,rfl,h2,h3,h4,hK|⟨g,n,cap,cs,es,zs,u,h0,rfl,A,rfl,hn,G,E,J,hz,hK⟩⟩
 ·exact⟨v,rfl,X',y,rfl,h2,h3,h4,hK⟩
 have aa:=wXl h3 h0 (by rw[A];exact ISt.put_same ..);have U:=zXr h0 A;refine⟨v,rfl,X'.lendS _ X.st,_,rfl,h2.lendS U,h3.trans (h2.lendS_ext U),?_,hK⟩;obtain⟨rr,rfl,O⟩:=V.tup_inv h4;refine .tup rr _ (by rw[O.1];rfl) λi r x h1 D=>?_
 match i,h1,D with
 | 1,h1,D =>
  cases D;exact (h2.lendS_ext U).v (O.2 1 r _ h1 rfl)
 | 0,h1,D =>
  cases D;obtain rfl:=V.raw_inv (O.2 0 r _ h1 rfl);exact wXk h2 h0 A (Nat.le_trans hg.B aa) hn G E J hz
theorem ICall.fixL {K:IV->ISt->Prop}(h:ICall P gl f args st (λy st'=>K y st'\/∃g es zs,st g=none/\y=.raw (.slice (some ⟨g,0,none⟩) zs.length zs.length)/\st'=st.put g (some (.box (zs.flatMap IV.cells))) /\
   zs.length<=140737488355328/\(∀z∈zs,z.cells.length=es)/\K (.sl ⟨true,.app g,es⟩ zs) st)):ICall P gl f args st K:=by
 intro B X rs U hst hv;subst hst;refine (h B X rs U rfl hv).mono ?_;rintro e w' ⟨v,rfl,X',y,rfl,h2,G,h4,hK|⟨g,es,zs,h0,rfl,A,hn,J,hK⟩⟩
 ·exact⟨v,rfl,X',y,rfl,h2,G,h4,hK⟩
 have E:=wXl G h0 (by rw[A];exact ISt.put_same ..);have O:=zXr h0 A;have D:=yQt zs J;obtain rfl:=V.raw_inv h4;exact⟨_,rfl,X'.lendS _ X.st,_,rfl,h2.lendS O,G.trans (h2.lendS_ext O),wXk h2 h0 A (Nat.le_trans U.B E) hn (Nat.le_refl _) (by rw[D];exact Nat.le_refl _) (by rw[<- D,lTl]) J,hK⟩
end
theorem ICall.give {P:Program}{gl:Nat->Option IV}{f:FuncId}{args:List IV}{st:ISt}{K:IV->ISt->Prop}(h:ICall P gl f args st (λr st'=>∃A,subSt A st'/\K r A)):ICall P gl f args st K:=by
 intro B X rs G hst hv;refine (h B X rs G hst hv).mono ?_;rintro e w' ⟨v,rfl,X',x,rfl,h2,O,J,A,hs,hK⟩;obtain⟨E,D⟩:=h2.sub hs;exact⟨v,rfl,{ X' with st:=A },x,rfl,E,O.trans D,D.v J,hK⟩
end Go.Iv
namespace Go.Proofs.Tryz
open Go Go.Iv
set_option maxRecDepth 4000
variable (gl:Nat->Option IV)
theorem yVk (us:List Fm)(G:Tag)(E:List IV)(O:okEs G 4)(J:IsFms us E)(U:yQb us<=1099511627776)(st:ISt) :
  ICall prog gl 174 [.sl G E] st (λr st'=>∃A ys,r=.sl A ys/\okEs A 4/\appT us.length A/\IsFmsD us ys/\st'=st) :=
 ICall.give ((vX6 gl us G E O J U st).mono λr st' h=>by
  obtain⟨A,ys,rfl,he,ha,hys,_,D⟩:=h;exact⟨st,D,A,ys,rfl,he,ha.1,hys,rfl⟩)
def IsSqD (s:Sq)(x:IV):Prop:=∃t1 D t2 A,x=.agg [.sl t1 D,.sl t2 A]/\okEs t1 4/\appT s.l.length t1/\IsFmsD s.l D/\okEs t2 4/\appT s.r.length t2/\IsFmsD s.r A
theorem IsSqD.w {s:Sq}{x:IV}(h:IsSqD s x):IsSq s x:=by
 obtain⟨t1,G,t2,E,rfl,D,_,i1,A,_,i2⟩:=h;exact⟨_,_,_,_,rfl,D,i1.1,A,i2.1⟩
def IsSqsD:List Sq->List IV->Prop
 | [],A=>A=[]
 | a::l,A=>∃y ys,A=y::ys/\IsSqD a y/\IsSqsD l ys
theorem IsSqsD.w:∀ {l:List Sq}{A:List IV},IsSqsD l A->IsSqs l A
 | [],_,h=>h
 | a::l,_,⟨y,ys,h1,h2,D⟩=>⟨y,ys,h1,h2.w,D.w⟩
theorem IsSqsD.mem:∀ {l:List Sq}{A:List IV},IsSqsD l A->∀ {k:Nat}{x:IV},A[k]?=some x->∃s,l[k]?=some s/\IsSqD s x
 | [],_,rfl,k,x,h=>by simp at h
 | a::l,_,⟨y,ys,rfl,h2,D⟩,0,x,h=>by cases h;exact⟨a,rfl,h2⟩
 | a::l,_,⟨y,ys,rfl,h2,D⟩,k+1,x,h=>IsSqsD.mem D (by simpa using h)
theorem IsSqD.one {s:Sq}{x:IV}(h:IsSqD s x):x.cells.length=2/\∀c∈x.cells,c.one=true:=by
 obtain⟨t1,D,t2,A,rfl,_⟩:=h;refine⟨rfl,λc hc=>?_⟩;simp only[IV.cells,List.mem_cons,List.not_mem_nil,or_false] at hc;rcases hc with rfl|rfl<;>rfl
theorem yZh {l:List Sq}{A:List IV}(h:IsSqsD l A):∀z∈A,z.cells.length=2:=λz D=>by
 obtain⟨k,E⟩:=List.mem_iff_getElem?.1 D;obtain⟨s,_,hs⟩:=h.mem E;exact hs.one.1
theorem IsSq.two {s:Sq}{x:IV}(h:IsSq s x):∃t A D ys,x=.agg [.sl t A,.sl D ys]:=by
 obtain⟨t,A,D,ys,rfl,_⟩:=h;exact⟨_,_,_,_,rfl⟩
theorem zX5 (us:List Fm)(D:Tag)(A:List IV)(G:okEs D 4)(E:IsFms us A)(J:yQb us<=1099511627776)(st:ISt) :
  ICall prog gl 145 [.sl D A] st (λr st'=>IsSqD ⟨us,[]⟩ r/\st'=st):=by
 refine iI func145 ?_;simp only[go_sem,zA,reduceCtorEq];refine (yVk gl us D A G E J _).mono ?_;rintro _ _ ⟨O,ys,rfl,U,ha,hys,rfl⟩;simp only[go_sem,zE,zA,zL,fits];exact yQ0 ⟨⟨_,_,_,_,rfl,U,ha,hys,.inl rfl,.inl rfl,IsFmsD.nil⟩,rfl⟩
theorem yWo (us:List Fm)(D:Tag)(A:List IV)(G:okEs D 4)(E:IsFms us A)(J:yQb us<=1099511627776)(st:ISt) :
  ICall prog gl 142 [.sl D A] st (λr st'=>IsSqD ⟨[],us⟩ r/\st'=st):=by
 refine iI func142 ?_;simp only[go_sem,zA,reduceCtorEq];refine (yVk gl us D A G E J _).mono ?_;rintro _ _ ⟨O,ys,rfl,U,ha,hys,rfl⟩;simp only[go_sem,zE,zA,zL,fits];exact yQ0 ⟨⟨_,_,_,_,rfl,.inl rfl,.inl rfl,IsFmsD.nil,U,ha,hys⟩,rfl⟩
theorem yXe (x y:Operand):yV1 2 [(0,x),(1,y)]=true:=rfl
theorem vWf (a b:Fm)(x y:IV)(D:IsFm a x)(A:IsFm b y)(st:ISt):ICall prog gl 176 [x,y] st (λr st'=>IsFm (impF a b) r/\st'=st):=by
 have h1:IsFms [a,b] [x,y]:=⟨_,_,rfl,D,_,_,rfl,A,rfl⟩
 obtain⟨o5,n5,t5,O,t6,J,rfl⟩:=D.agg;obtain⟨U,n7,t7,G,t8,E,rfl⟩:=A.agg;refine iI func176 ?_;simp only[go_sem,zE,zA,zM,zL,fits,yXe];exact yQ0 ⟨⟨_,_,_,_,rfl,by decide,.inl rfl,rfl,.inr rfl,h1⟩,rfl⟩
def AddOk (id:Nat)(F:Fm->Fm->Fm->List Sq):Prop:=∀(m a b:Fm) (x y z:IV) (_:IsFm m x) (_:IsFm a y) (_:IsFm b z) (_:m.size<=1000000) (_:a.size<=1000000) (_:b.size<=1000000) (st:ISt),
 ICall prog gl id [x,y,z] st (λr st'=>∃A D,r=.sl A D/\okEs A 2/\appT (F m a b).length A/\IsSqsD (F m a b) D/\st'=st)
theorem sq1 {s:Sq}{x:IV}(h:IsSqD s x):IsSqsD [s] [x]:=⟨_,_,rfl,h,rfl⟩
theorem sq2 {s s':Sq}{x A:IV}(h:IsSqD s x)(D:IsSqD s' A):IsSqsD [s,s'] [x,A]:=⟨_,_,rfl,h,_,_,rfl,D,rfl⟩
theorem AddOk.of {id:Nat}{F:Fm->Fm->Fm->List Sq}(h:∀ {o1 o2 J:Nat}{n1 n2 O:ByteArray}{t1 u1 t2 u2 t3 u3:Tag}{x1 y1 G y2 E y3:List IV}(m a b:Fm)(_:IsFm m (.agg [.raw (.int .u8 o1),.raw (.string n1),.sl t1 x1,.sl u1 y1]))(_:IsFm a (.agg [.raw (.int .u8 o2),.raw (.string n2),.sl t2 G,.sl u2 y2]))(_:IsFm b (.agg [.raw (.int .u8 J),.raw (.string O),.sl t3 E,.sl u3 y3]))(_:m.size<=1000000)(_:a.size<=1000000)(_:b.size<=1000000)
  (_:IsFms [a] [.agg [.raw (.int .u8 o2),.raw (.string n2),.sl t2 G,.sl u2 y2]]) (_:IsFms [b] [.agg [.raw (.int .u8 J),.raw (.string O),.sl t3 E,.sl u3 y3]]) (_:IsFms [m] [.agg [.raw (.int .u8 o1),.raw (.string n1),.sl t1 x1,.sl u1 y1]]) (_:IsFms [a,b] [.agg [.raw (.int .u8 o2),.raw (.string n2),.sl t2 G,.sl u2 y2],.agg [.raw (.int .u8 J),.raw (.string O),.sl t3 E,.sl u3 y3]]) (st:ISt),
  ICall prog gl id [.agg [.raw (.int .u8 o1),.raw (.string n1),.sl t1 x1,.sl u1 y1],.agg [.raw (.int .u8 o2),.raw (.string n2),.sl t2 G,.sl u2 y2],.agg [.raw (.int .u8 J),.raw (.string O),.sl t3 E,.sl u3 y3]] st (λr st'=>∃tg xs,r=.sl tg xs/\okEs tg 2/\appT (F m a b).length tg/\IsSqsD (F m a b) xs/\st'=st)):AddOk gl id F:=by
 intro m a b x y z hx hy hz hm ha hb st;have U:=hx;have D:=hy;have A:=hz;obtain⟨o1,n1,t1,x1,t2,G,rfl⟩:=hx.agg;obtain⟨J,O,t3,E,t4,x4,rfl⟩:=hy.agg;obtain⟨o5,n5,t5,x5,t6,x6,rfl⟩:=hz.agg;exact h m a b U D A hm ha hb (IsFms.one D) (IsFms.one A) (IsFms.one U) ⟨_,_,rfl,D,IsFms.one A⟩ st
theorem wVo:AddOk gl 164 (λ_ _ _=>[]):=by
 refine AddOk.of gl λm a b G E D hm ha hb U O J A st=>?_;refine iI func164 ?_;simp only[go_sem,zE];exact yQ0 ⟨_,_,rfl,.inl rfl,.inl rfl,rfl,rfl⟩
theorem wVn:AddOk gl 165 (λ_ _ _=>[]):=by
 refine AddOk.of gl λm a b G E D hm ha hb U O J A st=>?_;refine iI func165 ?_;simp only[go_sem,zE];exact yQ0 ⟨_,_,rfl,.inl rfl,.inl rfl,rfl,rfl⟩
theorem wVm:AddOk gl 166 (λm a b=>[⟨[],[a]⟩]):=by
 refine AddOk.of gl λm a b O J G hm ha hb E ib im D st=>?_;refine ICall.fixL ?_;refine ICall.intro (c:=cf prog gl [10] []) func166 rfl (by show _<=11;simp) (by kernel_rfl) ?_;simp only[go_sem,zE,zA,zM,zL,fits,yQ4];refine (yWo gl _ _ _ (.inr rfl) E (by simp only[yQb];omega) _).mono ?_;rintro r _ ⟨A,rfl⟩;have h1:=sq1 A;obtain⟨_,_,_,_,rfl⟩:=IsSq.two A.w;simp only[go_sem,zA,zM,zL,fits,yQ4];refine λg=>yQ8 λU=>?_;exact yQ0 (.inr ⟨g,2,_,U,rfl,rfl,by simp,yZh h1,_,_,rfl,.inr rfl,.inr ⟨by simp,rfl,g,rfl⟩,h1⟩)
theorem wVl:AddOk gl 167 (λm a b=>[⟨[a],[]⟩]):=by
 refine AddOk.of gl λm a b O J G hm ha hb E ib im D st=>?_;refine ICall.fixL ?_;refine ICall.intro (c:=cf prog gl [10] []) func167 rfl (by show _<=11;simp) (by kernel_rfl) ?_;simp only[go_sem,zE,zA,zM,zL,fits,yQ4];refine (zX5 gl _ _ _ (.inr rfl) E (by simp only[yQb];omega) _).mono ?_;rintro r _ ⟨A,rfl⟩;have h1:=sq1 A;obtain⟨_,_,_,_,rfl⟩:=IsSq.two A.w;simp only[go_sem,zA,zM,zL,fits,yQ4];refine λg=>yQ8 λU=>?_;exact yQ0 (.inr ⟨g,2,_,U,rfl,rfl,by simp,yZh h1,_,_,rfl,.inr rfl,.inr ⟨by simp,rfl,g,rfl⟩,h1⟩)
theorem wVk:AddOk gl 168 (λm a b=>[⟨[a,b],[]⟩]):=by
 refine AddOk.of gl λm a b J G E hm ha hb ia ib U A st=>?_;refine ICall.fixL ?_;refine ICall.intro (c:=cf prog gl [11] []) func168 rfl (by show _<=12;simp) (by kernel_rfl) ?_;simp only[go_sem,zE,zA,zM,zL,fits,yXe];refine (zX5 gl _ _ _ (.inr rfl) A (by simp only[yQb];omega) _).mono ?_;rintro r _ ⟨D,rfl⟩;have h1:=sq1 D;obtain⟨_,_,_,_,rfl⟩:=IsSq.two D.w;simp only[go_sem,zA,zM,zL,fits,yQ4];refine λg=>yQ8 λO=>?_;exact yQ0 (.inr ⟨g,2,_,O,rfl,rfl,by simp,yZh h1,_,_,rfl,.inr rfl,.inr ⟨by simp,rfl,g,rfl⟩,h1⟩)
theorem wVj:AddOk gl 169 (λm a b=>[⟨[],[a]⟩,⟨[],[b]⟩]):=by
 refine AddOk.of gl λm a b aa U O hm ha hb J E im G st=>?_;refine ICall.fixL ?_;refine ICall.intro (c:=cf prog gl [13] [(1,[0,1,3,4,2,5,6,7])]) func169 rfl (by show _<=14;simp) (by kernel_rfl) ?_;simp only[go_sem,zE,zA,zM,zL,fits,yQ4];refine (yWo gl _ _ _ (.inr rfl) J (by simp only[yQb];omega) _).mono ?_;rintro r _ ⟨A,rfl⟩;have D:=A;obtain⟨_,_,_,_,rfl⟩:=IsSq.two A.w;simp only[go_sem,zE,zA];refine (yWo gl _ _ _ (.inr rfl) E (by simp only[yQb];omega) _).mono ?_;rintro r _ ⟨A,rfl⟩;have h1:=sq2 D A;obtain⟨_,_,_,_,rfl⟩:=IsSq.two A.w;simp only[go_sem,zE,zA,zM,zL,fits,yXe];refine λg=>yQ8 λhg=>?_;exact yQ0 (.inr ⟨g,2,_,hg,rfl,rfl,by simp,yZh h1,_,_,rfl,.inr rfl,.inr ⟨by simp,rfl,g,rfl⟩,h1⟩)
theorem wVi:AddOk gl 170 (λm a b=>[⟨[a],[]⟩,⟨[b],[]⟩]):=by
 refine AddOk.of gl λm a b aa U O hm ha hb J E im G st=>?_;refine ICall.fixL ?_;refine ICall.intro (c:=cf prog gl [13] [(1,[0,1,3,4,2,5,6,7])]) func170 rfl (by show _<=14;simp) (by kernel_rfl) ?_;simp only[go_sem,zE,zA,zM,zL,fits,yQ4];refine (zX5 gl _ _ _ (.inr rfl) J (by simp only[yQb];omega) _).mono ?_;rintro r _ ⟨A,rfl⟩;have D:=A;obtain⟨_,_,_,_,rfl⟩:=IsSq.two A.w;simp only[go_sem,zE,zA];refine (zX5 gl _ _ _ (.inr rfl) E (by simp only[yQb];omega) _).mono ?_;rintro r _ ⟨A,rfl⟩;have h1:=sq2 D A;obtain⟨_,_,_,_,rfl⟩:=IsSq.two A.w;simp only[go_sem,zE,zA,zM,zL,fits,yXe];refine λg=>yQ8 λhg=>?_;exact yQ0 (.inr ⟨g,2,_,hg,rfl,rfl,by simp,yZh h1,_,_,rfl,.inr rfl,.inr ⟨by simp,rfl,g,rfl⟩,h1⟩)
theorem wVh:AddOk gl 171 (λm a b=>[⟨[],[a,b]⟩]):=by
 refine AddOk.of gl λm a b J G E hm ha hb ia ib U A st=>?_;refine ICall.fixL ?_;refine ICall.intro (c:=cf prog gl [11] []) func171 rfl (by show _<=12;simp) (by kernel_rfl) ?_;simp only[go_sem,zE,zA,zM,zL,fits,yXe];refine (yWo gl _ _ _ (.inr rfl) A (by simp only[yQb];omega) _).mono ?_;rintro r _ ⟨D,rfl⟩;have h1:=sq1 D;obtain⟨_,_,_,_,rfl⟩:=IsSq.two D.w;simp only[go_sem,zA,zM,zL,fits,yQ4];refine λg=>yQ8 λO=>?_;exact yQ0 (.inr ⟨g,2,_,O,rfl,rfl,by simp,yZh h1,_,_,rfl,.inr rfl,.inr ⟨by simp,rfl,g,rfl⟩,h1⟩)
theorem wVg:AddOk gl 172 (λm a b=>[⟨[],[a]⟩,⟨[b],[]⟩]):=by
 refine AddOk.of gl λm a b aa U O hm ha hb J E im G st=>?_;refine ICall.fixL ?_;refine ICall.intro (c:=cf prog gl [13] [(1,[0,1,3,4,2,5,6,7])]) func172 rfl (by show _<=14;simp) (by kernel_rfl) ?_;simp only[go_sem,zE,zA,zM,zL,fits,yQ4];refine (yWo gl _ _ _ (.inr rfl) J (by simp only[yQb];omega) _).mono ?_;rintro r _ ⟨A,rfl⟩;have D:=A;obtain⟨_,_,_,_,rfl⟩:=IsSq.two A.w;simp only[go_sem,zE,zA];refine (zX5 gl _ _ _ (.inr rfl) E (by simp only[yQb];omega) _).mono ?_;rintro r _ ⟨A,rfl⟩;have h1:=sq2 D A;obtain⟨_,_,_,_,rfl⟩:=IsSq.two A.w;simp only[go_sem,zE,zA,zM,zL,fits,yXe];refine λg=>yQ8 λhg=>?_;exact yQ0 (.inr ⟨g,2,_,hg,rfl,rfl,by simp,yZh h1,_,_,rfl,.inr rfl,.inr ⟨by simp,rfl,g,rfl⟩,h1⟩)
theorem xV2:AddOk gl 178 (λm a b=>[⟨[],[m]⟩,⟨[m],[]⟩]):=by
 refine AddOk.of gl λm a b U O J hm ha hb ia ib E G st=>?_;refine ICall.fixL ?_;refine ICall.intro (c:=cf prog gl [13] [(1,[0,1,3,4,2,5,6,7])]) func178 rfl (by show _<=14;simp) (by kernel_rfl) ?_;simp only[go_sem,zE,zA,zM,zL,fits,yQ4];refine (yWo gl _ _ _ (.inr rfl) E (by simp only[yQb];omega) _).mono ?_;rintro r _ ⟨A,rfl⟩;have D:=A;obtain⟨_,_,_,_,rfl⟩:=IsSq.two A.w;simp only[go_sem,zE,zA];refine (zX5 gl _ _ _ (.inr rfl) E (by simp only[yQb];omega) _).mono ?_;rintro r _ ⟨A,rfl⟩;have h1:=sq2 D A;obtain⟨_,_,_,_,rfl⟩:=IsSq.two A.w;simp only[go_sem,zE,zA,zM,zL,fits,yXe];refine λg=>yQ8 λhg=>?_;exact yQ0 (.inr ⟨g,2,_,hg,rfl,rfl,by simp,yZh h1,_,_,rfl,.inr rfl,.inr ⟨by simp,rfl,g,rfl⟩,h1⟩)
theorem xV0:AddOk gl 141 (λm a b=>[⟨[],[a]⟩]):=by
 refine AddOk.of gl λm a b O J G hm ha hb E ib im D st=>?_;refine ICall.fixL ?_;refine ICall.intro (c:=cf prog gl [10] []) func141 rfl (by show _<=11;simp) (by kernel_rfl) ?_;simp only[go_sem,zE,zA,zM,zL,fits,yQ4];refine (yWo gl _ _ _ (.inr rfl) E (by simp only[yQb];omega) _).mono ?_;rintro r _ ⟨A,rfl⟩;have h1:=sq1 A;obtain⟨_,_,_,_,rfl⟩:=IsSq.two A.w;simp only[go_sem,zA,zM,zL,fits,yQ4];refine λg=>yQ8 λU=>?_;exact yQ0 (.inr ⟨g,2,_,U,rfl,rfl,by simp,yZh h1,_,_,rfl,.inr rfl,.inr ⟨by simp,rfl,g,rfl⟩,h1⟩)
theorem xV1:AddOk gl 143 (λm a b=>[⟨[],[b]⟩]):=by
 refine AddOk.of gl λm a b O J G hm ha hb ia D im E st=>?_;refine ICall.fixL ?_;refine ICall.intro (c:=cf prog gl [10] []) func143 rfl (by show _<=11;simp) (by kernel_rfl) ?_;simp only[go_sem,zE,zA,zM,zL,fits,yQ4];refine (yWo gl _ _ _ (.inr rfl) D (by simp only[yQb];omega) _).mono ?_;rintro r _ ⟨A,rfl⟩;have h1:=sq1 A;obtain⟨_,_,_,_,rfl⟩:=IsSq.two A.w;simp only[go_sem,zA,zM,zL,fits,yQ4];refine λg=>yQ8 λU=>?_;exact yQ0 (.inr ⟨g,2,_,U,rfl,rfl,by simp,yZh h1,_,_,rfl,.inr rfl,.inr ⟨by simp,rfl,g,rfl⟩,h1⟩)
theorem wVe:AddOk gl 144 (λm a b=>[⟨[a],[]⟩]):=by
 refine AddOk.of gl λm a b O J G hm ha hb E ib im D st=>?_;refine ICall.fixL ?_;refine ICall.intro (c:=cf prog gl [10] []) func144 rfl (by show _<=11;simp) (by kernel_rfl) ?_;simp only[go_sem,zE,zA,zM,zL,fits,yQ4];refine (zX5 gl _ _ _ (.inr rfl) E (by simp only[yQb];omega) _).mono ?_;rintro r _ ⟨A,rfl⟩;have h1:=sq1 A;obtain⟨_,_,_,_,rfl⟩:=IsSq.two A.w;simp only[go_sem,zA,zM,zL,fits,yQ4];refine λg=>yQ8 λU=>?_;exact yQ0 (.inr ⟨g,2,_,U,rfl,rfl,by simp,yZh h1,_,_,rfl,.inr rfl,.inr ⟨by simp,rfl,g,rfl⟩,h1⟩)
theorem wVd:AddOk gl 146 (λm a b=>[⟨[],[a]⟩]):=by
 refine AddOk.of gl λm a b O J G hm ha hb E ib im D st=>?_;refine ICall.fixL ?_;refine ICall.intro (c:=cf prog gl [10] []) func146 rfl (by show _<=11;simp) (by kernel_rfl) ?_;simp only[go_sem,zE,zA,zM,zL,fits,yQ4];refine (yWo gl _ _ _ (.inr rfl) E (by simp only[yQb];omega) _).mono ?_;rintro r _ ⟨A,rfl⟩;have h1:=sq1 A;obtain⟨_,_,_,_,rfl⟩:=IsSq.two A.w;simp only[go_sem,zA,zM,zL,fits,yQ4];refine λg=>yQ8 λU=>?_;exact yQ0 (.inr ⟨g,2,_,U,rfl,rfl,by simp,yZh h1,_,_,rfl,.inr rfl,.inr ⟨by simp,rfl,g,rfl⟩,h1⟩)
theorem xV5:AddOk gl 173 (λm a b=>[⟨[a],[b]⟩]):=by
 refine AddOk.of gl λm a b aj ai ah hm ha hb ia ib im af st=>?_;refine ICall.fixL ?_;refine ICall.intro (c:=cf prog gl [14] [(1,[0,1,3,4,2,5,6,7,8])]) func173 rfl (by show _<=15;simp) (by kernel_rfl) ?_;simp only[go_sem,zE,zA,zM,zL,fits,yQ4];refine (yVk gl _ _ _ (.inr rfl) ia (by simp only[yQb];omega) _).mono ?_;rintro _ _ ⟨ac,aa,rfl,G,O,D,rfl⟩;simp only[go_sem,zE,zA];refine (yVk gl _ _ _ (.inr rfl) ib (by simp only[yQb];omega) _).mono ?_;rintro _ _ ⟨ab,U,rfl,E,J,A,rfl⟩;simp only[go_sem,zE,zA,zM,zL,fits,yQ4];have h1:=sq1 (s:=⟨[a],[b]⟩) ⟨_,_,_,_,rfl,G,O,D,E,J,A⟩;refine λg=>yQ8 λhg=>?_;exact yQ0 (.inr ⟨g,2,_,hg,rfl,rfl,by simp,yZh h1,_,_,rfl,.inr rfl,.inr ⟨by simp,rfl,g,rfl⟩,h1⟩)
theorem xV3:AddOk gl 177 (λm a b=>[⟨[a],[b]⟩,⟨[b],[a]⟩]):=by
 refine AddOk.of gl λm a b ax aw av hm ha hb ia ib im au st=>?_;refine ICall.fixL ?_;refine ICall.intro (c:=cf prog gl [21] [(1,[0,1,3,4,7,8,10,11,2,5,6,9,12,13,14,15])]) func177 rfl (by show _<=22;simp) (by kernel_rfl) ?_;simp only[go_sem,zE,zA,zM,zL,fits,yQ4];refine (yVk gl _ _ _ (.inr rfl) ia (by simp only[yQb];omega) _).mono ?_;rintro _ _ ⟨aq,al,rfl,aa,af,G,rfl⟩;simp only[go_sem,zE,zA];refine (yVk gl _ _ _ (.inr rfl) ib (by simp only[yQb];omega) _).mono ?_;rintro _ _ ⟨ao,ak,rfl,U,ae,E,rfl⟩;simp only[go_sem,zE,zA,zL,fits];refine (yVk gl _ _ _ (.inr rfl) ib (by simp only[yQb];omega) _).mono ?_;rintro _ _ ⟨an,aj,rfl,O,ac,D,rfl⟩;simp only[go_sem,zE,zA];refine (yVk gl _ _ _ (.inr rfl) ia (by simp only[yQb];omega) _).mono ?_;rintro _ _ ⟨am,ai,rfl,J,ab,A,rfl⟩;simp only[go_sem,zE,zA,zM,zL,fits,yXe];have h1:=sq2 (s:=⟨[a],[b]⟩) (s':=⟨[b],[a]⟩) ⟨_,_,_,_,rfl,aa,af,G,U,ae,E⟩ ⟨_,_,_,_,rfl,O,ac,D,J,ab,A⟩;refine λg=>yQ8 λhg=>?_;exact yQ0 (.inr ⟨g,2,_,hg,rfl,rfl,by simp,yZh h1,_,_,rfl,.inr rfl,.inr ⟨by simp,rfl,g,rfl⟩,h1⟩)
theorem xV4:AddOk gl 175 (λm a b=>[⟨[impF a b,impF b a],[]⟩]):=by
 refine AddOk.of gl λm a b U E D hm ha hb ia ib im O st=>?_;refine ICall.fixL ?_;refine ICall.intro (c:=cf prog gl [15] [(1,[0,1,3,4,2,5,6,7,8,9])]) func175 rfl (by show _<=16;simp) (by kernel_rfl) ?_;simp only[go_sem,zE,zA,zL];refine (vWf gl a b _ _ E D _).mono ?_;rintro r _ ⟨A,rfl⟩;have J:=A;obtain⟨_,_,_,_,_,_,rfl⟩:=A.agg;simp only[go_sem,zE,zA];refine (vWf gl b a _ _ D E _).mono ?_;rintro r _ ⟨A,rfl⟩;have G:IsFms [impF a b,impF b a] [_,_]:=⟨_,_,rfl,J,IsFms.one A⟩
 obtain⟨_,_,_,_,_,_,rfl⟩:=A.agg;simp only[go_sem,zE,zA,zM,zL,fits,yXe];refine (zX5 gl _ _ _ (.inr rfl) G (by simp only[yQb,impF,Fm.size,yQf];omega) _).mono ?_;rintro r _ ⟨A,rfl⟩;have h1:=sq1 A;obtain⟨_,_,_,_,rfl⟩:=IsSq.two A.w;simp only[go_sem,zA,zM,zL,fits,yQ4];refine λg=>yQ8 λhg=>?_;exact yQ0 (.inr ⟨g,2,_,hg,rfl,rfl,by simp,yZh h1,_,_,rfl,.inr rfl,.inr ⟨by simp,rfl,g,rfl⟩,h1⟩)
def fitL (l:List Fm):Prop:=∀f∈l,f.size<=1000000
theorem xK3 (ca:Nat)(st:ISt):ICall prog gl 51 [.raw (.int .u8 ca)] st (λr st'=>r=.raw (.bool (yXy ca))/\st'=st):=by
 refine iI func51 ?_;by_cases h1:1<=ca
 ·have A:decide (1<=(ca:Int))=true:=dEt (by omega);by_cases h2:ca<=3
  ·have D:decide ((ca:Int)<=3)=true:=dEt (by omega);simp only[go_sem,zE,reduceCtorEq,A,D];exact yQ0 ⟨by simp[yXy,h1,h2],rfl⟩
  ·have D:decide ((ca:Int)<=3)=false:=dEf (by omega);simp only[go_sem,zE,reduceCtorEq,A,D];exact yQ0 ⟨by simp[yXy,h2],rfl⟩
 ·have A:decide (1<=(ca:Int))=false:=dEf (by omega);simp only[go_sem,zE,reduceCtorEq,A];exact yQ0 ⟨by simp[yXy,h1],rfl⟩
def sOp (f:Fm):Prop:=∀(ca:Nat) (x:IV) (_:IsFm f x) (st:ISt),ICall prog gl 123 [.raw (.int .u8 ca),x] st (λr st'=>r=.raw (.bool (opsB ca f))/\st'=st)
theorem yVc (ca:Nat):∀l m:List Fm,yKw ca (l++m)=(yKw ca l&&yKw ca m)
 | [],m=>by simp[yKw]
 | a::l,m=>by simp only[List.cons_append,yKw,yVc ca l m,Bool.and_assoc]
theorem xQo {ca:Nat}{l:List Fm}{a:Fm}(A:a∈l)(h:opsB ca a=false):yKw ca l=false:=by
 obtain⟨p,q,rfl⟩:=List.append_of_mem A;rw[yVc];simp[yKw,h]
theorem wWo (o:Nat)(n:ByteArray)(us:List Tm)(sub:List Fm)(IH:∀a∈sub,sOp gl a):sOp gl (.mk o n us sub):=by
 intro ca x hx st;obtain⟨t1,x1,t2,x2,rfl,ho,ay,ag,ah,O⟩:=hx.mk;have loop:∀(am:Nat) (az:(decide (1<=o)&&decide (o<=if ca=3 then 9 else 7)&&(decide (ca=3) || us.isEmpty))=true),opsB ca (.mk o n us sub)=yKw ca sub:=λ_ h=>by
  simp only[opsB,h,Bool.true_and]
 refine iI func123 ?_;by_cases h1:1<=o
 ·have e1:decide ((o:Int)<1)=false:=dEf (by omega);by_cases E:ca=3
  ·have J:decide ((ca:Int)=3)=true:=dEt (by omega);by_cases h2:o<=9
   ·have e2:decide ((9:Int)<(o:Int))=false:=dEf (by omega);have hl:=loop 9 (by simp[h1,h2,E]);simp only[go_sem,zE,zA,reduceCtorEq,e1,e2,J,O.len];intro _;refine LoopC.ctr sub.length (λk fr st' ds=>yKw ca (sub.take k)=true/\fr 0=.iv (.raw (.int .u8 ca))/\fr 30=.iv (.sl t2 x2)/\fr 31=.iv (.raw (.int .i64 sub.length))/\fr 32=.iv (.raw (.int .i64 k))/\st'=st/\ds=[]) ?_ ?_ ?_
    ·simp only[go_sem,zE,reduceCtorEq];simp[yKw]
    ·rintro k fr G _ A ⟨U,f0,f30,f31,f32,rfl,rfl⟩;obtain⟨a,ha⟩:=yQ1 A;obtain⟨y,ae,hy⟩:=O.get ha;have D:=IH a (lMg ha) ca y hy G;obtain⟨o5,n5,t5,x5,t6,x6,rfl⟩:=hy.agg;simp only[go_sem,zE,zB,zA,zL,reduceCtorEq,f0,f30,f31,f32,lt_i A,yQ3 ah,iNn,ae,fits];refine D.mono ?_;rintro _ _ ⟨rfl,rfl⟩;cases hr:opsB ca a
     ·simp only[go_sem];exact yQ0 ⟨by rw[hl,xQo (lMg ha) hr],rfl⟩
     ·simp only[go_sem,zE,reduceCtorEq,f0,f30,f31,f32,yQc A (show sub.length<=281474976710656 by omega)];rw[yQ6 ha,yVc,U];simp[yKw,hr]
    ·rintro fr G _ ⟨U,f0,f30,f31,f32,rfl,rfl⟩;rw[lTl] at U;simp only[go_sem,f31,f32,yQl (nLi _)];exact yQ0 ⟨by rw[hl,U],rfl⟩
   ·have e2:decide ((9:Int)<(o:Int))=true:=dEt (by omega);simp only[go_sem,zE,zA,reduceCtorEq,e1,e2,J];exact yQ0 ⟨by simp[opsB,h2,E],rfl⟩
  ·have J:decide ((ca:Int)=3)=false:=dEf (by omega);by_cases h2:o<=7
   ·have e2:decide ((7:Int)<(o:Int))=false:=dEf (by omega);by_cases hu:us=[]
    ·subst hu;have e4:decide ((0:Int)<((0:Nat):Int))=false:=rfl;have hl:=loop 7 (by simp[h1,h2,E]);simp only[go_sem,zE,zA,zL,reduceCtorEq,e1,e2,J,e4,ag.len,O.len];intro _;refine LoopC.ctr sub.length (λk fr st' ds=>yKw ca (sub.take k)=true/\fr 0=.iv (.raw (.int .u8 ca))/\fr 30=.iv (.sl t2 x2)/\fr 31=.iv (.raw (.int .i64 sub.length))/\fr 32=.iv (.raw (.int .i64 k))/\st'=st/\ds=[]) ?_ ?_ ?_
     ·simp only[go_sem,zE,reduceCtorEq];simp[yKw]
     ·rintro k fr G _ A ⟨U,f0,f30,f31,f32,rfl,rfl⟩;obtain⟨a,ha⟩:=yQ1 A;obtain⟨y,ae,hy⟩:=O.get ha;have D:=IH a (lMg ha) ca y hy G;obtain⟨o5,n5,t5,x5,t6,x6,rfl⟩:=hy.agg;simp only[go_sem,zE,zB,zA,zL,reduceCtorEq,f0,f30,f31,f32,lt_i A,yQ3 ah,iNn,ae,fits];refine D.mono ?_;rintro _ _ ⟨rfl,rfl⟩;cases hr:opsB ca a
      ·simp only[go_sem];exact yQ0 ⟨by rw[hl,xQo (lMg ha) hr],rfl⟩
      ·simp only[go_sem,zE,reduceCtorEq,f0,f30,f31,f32,yQc A (show sub.length<=281474976710656 by omega)];rw[yQ6 ha,yVc,U];simp[yKw,hr]
     ·rintro fr G _ ⟨U,f0,f30,f31,f32,rfl,rfl⟩;rw[lTl] at U;simp only[go_sem,f31,f32,yQl (nLi _)];exact yQ0 ⟨by rw[hl,U],rfl⟩
    ·have an:0<us.length:=List.length_pos_iff.2 hu;have e4:decide ((0:Int)<(us.length:Int))=true:=dEt (by omega);simp only[go_sem,zE,zA,reduceCtorEq,e1,e2,J,e4,ag.len];intro _;exact yQ0 ⟨by simp[opsB,E,hu],rfl⟩
   ·have e2:decide ((7:Int)<(o:Int))=true:=dEt (by omega);simp only[go_sem,zE,zA,reduceCtorEq,e1,e2,J];exact yQ0 ⟨by simp[opsB,E,h2],rfl⟩
 ·have e1:decide ((o:Int)<1)=true:=dEt (by omega);by_cases E:ca=3
  ·have J:decide ((ca:Int)=3)=true:=dEt (by omega);simp only[go_sem,zE,zA,reduceCtorEq,e1,J];exact yQ0 ⟨by simp[opsB,h1],rfl⟩
  ·have J:decide ((ca:Int)=3)=false:=dEf (by omega);simp only[go_sem,zE,zA,reduceCtorEq,e1,J];exact yQ0 ⟨by simp[opsB,h1],rfl⟩
theorem wZy:∀(k:Nat)(f:Fm),SizeOf.sizeOf f<k->sOp gl f
 | 0,f,h=>by omega
 | k+1,.mk o n us sub,h=>wWo gl o n us sub (λa A=>wZy k a (by
   have:=lSm A;simp only[Fm.mk.sizeOf_spec] at h;omega))
theorem xJl (f:Fm):sOp gl f:=wZy gl _ f (Nat.lt_succ_self _)
theorem zKu (G:Gl gl)(ca:Nat)(f:Fm)(x:IV)(A:IsFm f x)(hs:f.size<=1000000)(st:ISt) :
  ICall prog gl 102 [.raw (.int .u8 ca),x] st (λr st'=>r=.raw (.bool (fmB ca f))/\st'=st):=by
 have h1:=λst=>zVq gl G f x A st hs;have h2:=λst=>xJl gl f ca x A st;obtain⟨O,U,t5,J,t6,E,rfl⟩:=A.agg;refine iI func102 ?_;simp only[go_sem,zE,zA,zL];refine (h1 _).mono ?_;rintro _ _ ⟨rfl,rfl⟩;cases D:f.right
 ·simp only[go_sem,zE];exact yQ0 ⟨by simp[fmB,D],rfl⟩
 ·simp only[go_sem,zE,zA,zL,reduceCtorEq];refine (h2 _).mono ?_;rintro _ _ ⟨rfl,rfl⟩;simp only[go_sem,zE];exact yQ0 ⟨by simp[fmB,D],rfl⟩
theorem wKk (G:Gl gl)(f g:Fm)(x y:IV)(J:IsFm f x)(E:IsFm g y)(hs:f.size<=1000000)(A:g.size<=1000000)(st:ISt) :
  ICall prog gl 41 [x,y] st (λr st'=>r=.raw (.bool (eqF f g))/\st'=st):=by
 have h1:=λst=>vJ7 gl G f g x y J E hs A st;obtain⟨o,n,us,sub⟩:=f;obtain⟨o',n',U,D⟩:=g;obtain⟨t1,x1,t2,x2,rfl,_⟩:=J.mk;obtain⟨t3,x3,t4,x4,rfl,_⟩:=E.mk;refine iI func41 ?_;by_cases O:o=o'
 ·subst O;simp only[go_sem,zE,zA,zL,decide_true];refine (h1 _).mono ?_;rintro _ _ ⟨rfl,rfl⟩;simp only[go_sem,zE];exact yQ0 ⟨by simp[eqF,Fm.op],rfl⟩
 ·have e:decide ((o:Int)=(o':Int))=false:=dEf (by omega);simp only[go_sem,zE,zA,e];exact yQ0 ⟨by simp[eqF,Fm.op,O],rfl⟩
theorem xV8 (g:FuncId)(A:List IV)(he:entI prog g=true)(us:List Fm)(p:Fm->Bool)(hp:∀a∈us,∀x,IsFm a x->∀st,ICall prog gl g (x::A) st (λr st'=>r=.raw (.bool (p a))/\st'=st))
  (tg:Tag) (xs:List IV) (ac:okEs tg 4) (J:IsFms us xs) (st:ISt) :
  ICall prog gl 83 [.sl tg xs,.fn (.func g) [] A] st (λr st'=>(∃n:Int,r=.raw (.int .i64 n)/\decide (0<=n)=us.any p)/\st'=st):=by
 refine iI func83 ?_;simp only[go_sem,reduceCtorEq,J.len];intro _;refine LoopC.ctr us.length (λk fr st' ds=>(us.take k).any p=false/\fr 0=.iv (.sl tg xs)/\fr 1=.iv (.fn (.func g) [] A)/\fr 7=.iv (.raw (.int .i64 us.length))/\fr 8=.iv (.raw (.int .i64 k))/\st'=st/\ds=[]) ?_ ?_ ?_
 ·simp only[go_sem,zE,reduceCtorEq];exact⟨rfl,rfl⟩
 ·rintro k fr G _ D ⟨O,f0,f1,f7,f8,rfl,rfl⟩;obtain⟨a,U⟩:=yQ1 D;obtain⟨y,ae,hy⟩:=J.get U;have E:=hp a (lMg U) y hy G;obtain⟨o5,n5,t5,x5,t6,x6,rfl⟩:=hy.agg;simp only[go_sem,zE,zB,zA,reduceCtorEq,f0,f1,f7,f8,lt_i D,yQ3 ac,iNn,ae,fits,he];refine E.mono ?_;rintro _ _ ⟨rfl,rfl⟩;cases hr:p a
  ·simp only[go_sem,zE,reduceCtorEq,f0,f1,f7,f8,yQc D (show us.length<=281474976710656 by omega)];rw[yQ6 U,List.any_append,O];simp[hr]
  ·simp only[go_sem,zE];refine yQ0 ⟨⟨_,rfl,?_⟩,rfl⟩;rw[dEt (iNn k)];exact (List.any_eq_true.2 ⟨a,lMg U,hr⟩).symm
 ·rintro fr G _ ⟨O,f0,f1,f7,f8,rfl,rfl⟩;rw[lTl] at O;simp only[go_sem,f7,f8,yQl (nLi _)];exact yQ0 ⟨⟨_,rfl,by rw[O];rfl⟩,rfl⟩
theorem yVy (g:FuncId)(A:List IV)(U:entI prog g=true)(us:List Fm)(p:Fm->Bool)(hp:∀a∈us,∀x,IsFm a x->∀st,ICall prog gl g (x::A) st (λr st'=>r=.raw (.bool (p a))/\st'=st))
  (E:Tag) (D:List IV) (J:okEs E 4) (G:IsFms us D) (st:ISt) :
  ICall prog gl 39 [.sl E D,.fn (.func g) [] A] st (λr st'=>r=.raw (.bool (us.any p))/\st'=st):=by
 refine iI func39 ?_;simp only[go_sem,zE,zA,reduceCtorEq];refine (xV8 gl g A U us p hp E D J G _).mono ?_;rintro _ _ ⟨⟨n,rfl,O⟩,rfl⟩;simp only[go_sem,O];exact yQ0 ⟨rfl,rfl⟩
theorem vU7 (G:Gl gl)(f g:Fm)(x y:IV)(E:IsFm f x)(D:IsFm g y)(hs:f.size<=1000000)(A:g.size<=1000000)(st:ISt) :
  ICall prog gl 40 [y,.cptr x] st (λr st'=>r=.raw (.bool (eqF f g))/\st'=st):=by
 have h1:=λst=>wKk gl G f g x y E D hs A st;obtain⟨o5,n5,t5,x5,t6,U,rfl⟩:=E.agg;obtain⟨o7,n7,t7,O,t8,J,rfl⟩:=D.agg;refine iI func40 ?_;simp only[go_sem,zE,zA,zL,fits];refine (h1 _).mono ?_;rintro _ _ ⟨rfl,rfl⟩;simp only[go_sem];exact yQ0 ⟨rfl,rfl⟩
theorem zYq (G:Gl gl)(l:List Fm)(f:Fm)(D:Tag)(A:List IV)(x:IV)(J:okEs D 4)(E:IsFms l A)(O:IsFm f x)(hl:fitL l)(hs:f.size<=1000000)(st:ISt) :
  ICall prog gl 16 [.sl D A,x] st (λr st'=>r=.raw (.bool (hasF l f))/\st'=st):=by
 have h1:=λst=>yVy gl 40 [.cptr x] (by simp only[go_sem]) l (eqF f) (λa ha y U st=>vU7 gl G f a x y O U hs (hl a ha) st) D A J E st;obtain⟨o5,n5,t5,x5,t6,x6,rfl⟩:=O.agg;refine ICall.intro (c:=cf prog gl [] [] [3]) func16 rfl (by show _<=8;simp) (by kernel_rfl) ?_;simp only[go_sem,zE,zA,reduceCtorEq];refine (h1 _).mono ?_;rintro _ _ ⟨rfl,rfl⟩;simp only[go_sem];exact yQ0 ⟨rfl,rfl⟩
theorem vGx (G:Gl gl)(l m:List Fm)(t O:Tag)(xs ys:List IV)(ht:okEs t 4)(ac:okEs O 4)(J:IsFms l xs)(hys:IsFms m ys)(hl:fitL l)(hm:fitL m)(st:ISt) :
  ICall prog gl 118 [.sl t xs,.sl O ys] st (λr st'=>r=.raw (.bool (allF l m))/\st'=st):=by
 refine iI func118 ?_;simp only[go_sem,reduceCtorEq,J.len];intro _;refine LoopC.ctr l.length (λk fr st' ds=>(l.take k).all (hasF m)=true/\fr 1=.iv (.sl O ys)/\fr 7=.iv (.sl t xs)/\fr 8=.iv (.raw (.int .i64 l.length))/\fr 9=.iv (.raw (.int .i64 k))/\st'=st/\ds=[]) ?_ ?_ ?_
 ·simp only[go_sem,zE];rfl
 ·rintro k fr E _ A ⟨U,f1,f7,f8,f9,rfl,rfl⟩;obtain⟨a,ha⟩:=yQ1 A;obtain⟨y,ae,hy⟩:=J.get ha;have D:=zYq gl G m a O ys y ac hys hy hm (hl a (lMg ha)) E;obtain⟨o5,n5,t5,x5,t6,x6,rfl⟩:=hy.agg;simp only[go_sem,zE,zB,zA,zL,f1,f7,f8,f9,lt_i A,yQ3 ht,iNn,ae,fits];refine D.mono ?_;rintro _ _ ⟨rfl,rfl⟩;cases hr:hasF m a
  ·simp only[go_sem];refine yQ0 ⟨?_,rfl⟩;have:allF l m=false:=by
    unfold allF;rw[List.all_eq_false];exact⟨a,lMg ha,by simp[hr]⟩
   rw[this]
  ·simp only[go_sem,zE,f1,f7,f8,f9,yQc A (show l.length<=281474976710656 by omega)];rw[yQ6 ha,List.all_append,U];simp[hr]
 ·rintro fr E _ ⟨U,f1,f7,f8,f9,rfl,rfl⟩;rw[lTl] at U;simp only[go_sem,f8,f9,yQl (nLi _)];exact yQ0 ⟨by rw[show allF l m=true from U],rfl⟩
def yXq (s:Sq):Prop:=fitL s.l/\fitL s.r
theorem wGh (G:Gl gl)(a b:Sq)(x y:IV)(hx:IsSq a x)(hy:IsSq b y)(E:yXq a)(D:yXq b)(st:ISt):ICall prog gl 93 [x,y] st (λr st'=>r=.raw (.bool (yU2 a b))/\st'=st):=by
 obtain⟨t1,x1,t2,U,rfl,e1,i1,e2,i2⟩:=hx;obtain⟨t3,O,t4,J,rfl,e3,i3,e4,i4⟩:=hy;refine iI func93 ?_;simp only[go_sem,zE,zA];refine (vGx gl G a.l b.l t1 t3 x1 O e1 e3 i1 i3 E.1 D.1 _).mono ?_;rintro _ _ ⟨rfl,rfl⟩;cases A:allF a.l b.l
 ·simp only[go_sem,zE];exact yQ0 ⟨by simp[yU2,A],rfl⟩
 ·simp only[go_sem,zE,zA];refine (vGx gl G a.r b.r t2 t4 U J e2 e4 i2 i4 E.2 D.2 _).mono ?_;rintro _ _ ⟨rfl,rfl⟩;simp only[go_sem,zE];exact yQ0 ⟨by simp[yU2,A],rfl⟩
theorem yGh (a b:Int)(v:IV):∀es:List (Value×IV),yJ4 (.int .u8 a) (updI (.int .u8 b) v es)=if a=b then some v else yJ4 (.int .u8 a) es
 | []=>by
  simp only[updI,yJ4,yKz];by_cases h:a=b<;>simp[h]
 | (x,u)::es=>by
  simp only[updI];by_cases A:yKz (.int .u8 b) x=true
  ·rw[if_pos A];have D:∀c,yKz (.int .u8 c) x=decide (c=b):=λc=>by
    cases x<;>simp[yKz] at A ⊢;rw[A]
   have e:yKz (.int .u8 a) (.int .u8 b)=decide (a=b):=rfl;simp only[yJ4,e,D];by_cases h:a=b<;>simp[h]
  ·rw[if_neg A];simp only[yJ4];rw[yGh a b v es];by_cases h:a=b
   ·subst h;simp[A]
   ·simp[h]
def zW6 (ca rule:Nat):Nat :=
 if ca=2/\rule=18 then 143 else if ca=2/\rule=8 then 141
 else if rule=13\/rule=15 then 144 else if rule=14\/rule=16 then 146
 else if rule=1 then 164 else if rule=2 then 165 else if rule=3 then 166 else if rule=4 then 167
 else if rule=5 then 168 else if rule=6 then 169 else if rule=7 then 170 else if rule=8 then 171
 else if rule=9 then 172 else if rule=10 then 173 else if rule=11 then 175 else if rule=12 then 177
 else 178
def rwI (ca rule:Nat)(r:Rw):IV:=.agg [.raw (.bool r.left),.raw (.bool r.right),.raw (.int .u8 r.op),.raw (.int .u8 r.asks),.fn (.func (zW6 ca rule)) [] []]
def rwL (a b:Bool)(op asks id:Nat):IV:=.agg [.raw (.bool a),.raw (.bool b),.raw (.int .u8 op),.raw (.int .u8 asks),.fn (.func id) [] []]
def zWp:List (Value×IV) :=
 updI (.int .u8 17) (rwL false false 0 0 178) <| updI (.int .u8 12) (rwL false true 7 0 177) <| updI (.int .u8 11) (rwL true false 7 0 175) <|
 updI (.int .u8 10) (rwL false true 6 0 173) <| updI (.int .u8 9) (rwL true false 6 0 172) <| updI (.int .u8 8) (rwL false true 5 0 171) <|
 updI (.int .u8 7) (rwL true false 5 0 170) <| updI (.int .u8 6) (rwL false true 4 0 169) <| updI (.int .u8 5) (rwL true false 4 0 168) <|
 updI (.int .u8 4) (rwL false true 3 0 167) <| updI (.int .u8 3) (rwL true false 3 0 166) <| updI (.int .u8 2) (rwL true false 2 0 165) <|
 updI (.int .u8 1) (rwL true true 0 0 164) []
def zQ4 (ca:Nat):List (Value×IV) :=
 if ca=2 then updI (.int .u8 18) (rwL false true 5 0 143) <| updI (.int .u8 8) (rwL false true 5 0 141) zWp
 else if ca=3 then updI (.int .u8 16) (rwL false true 9 1 146) <| updI (.int .u8 15) (rwL true false 9 2 144) <| updI (.int .u8 14) (rwL false true 8 2 146) <|
  updI (.int .u8 13) (rwL true false 8 1 144) zWp
 else zWp
theorem vZ7 (st:ISt):ICall prog gl 140 [] st (λr st'=>∃b,st b=none/\r=.raw (.map (some b))/\st'=st.put b (some (.map (.int .u8) zWp))):=by
 refine iI func140 ?_;simp only[go_sem,zE,zA,zL,fits];refine λb=>yQ8 λA=>?_;simp only[go_sem,yQ9];exact yQ0 ⟨b,A,rfl,rfl⟩
theorem wX0 (ca:Nat)(st:ISt):ICall prog gl 114 [.raw (.int .u8 ca)] st (λr st'=>∃b,st b=none/\r=.raw (.map (some b))/\st'=st.put b (some (.map (.int .u8) (zQ4 ca)))):=by
 refine iI func114 ?_;simp only[go_sem,zA];refine (vZ7 gl _).mono ?_;rintro _ _ ⟨b,D,rfl,rfl⟩;by_cases h2:ca=2
 ·have A:decide ((ca:Int)=2)=true:=dEt (by omega);simp only[go_sem,zE,zA,zL,reduceCtorEq,A,fits,ISt.put_same,yQ9];exact yQ0 ⟨b,D,rfl,by rw[zQ4,if_pos h2];rfl⟩
 ·have A:decide ((ca:Int)=2)=false:=dEf (by omega);by_cases G:ca=3
  ·have E:decide ((ca:Int)=3)=true:=dEt (by omega);simp only[go_sem,zE,zA,zL,reduceCtorEq,A,E,fits,ISt.put_same,yQ9];exact yQ0 ⟨b,D,rfl,by rw[zQ4,if_neg h2,if_pos G];rfl⟩
  ·have E:decide ((ca:Int)=3)=false:=dEf (by omega);simp only[go_sem,zE,reduceCtorEq,A,E];exact yQ0 ⟨b,D,rfl,by rw[zQ4,if_neg h2,if_neg G]⟩
theorem xJi (rule:Nat):yJ4 (.int .u8 rule) zWp=(rowK rule).map λr=>.agg [.raw (.bool r.left),.raw (.bool r.right),.raw (.int .u8 r.op),.raw (.int .u8 r.asks),.fn (.func (zW6 1 rule)) [] []]:=by
 unfold zWp;simp only[yGh];by_cases h:rule<=18
 ·rcases (show rule=0\/rule=1\/rule=2\/rule=3\/rule=4\/rule=5\/rule=6\/rule=7\/rule=8\/rule=9\/rule=10\/rule=11\/rule=12\/rule=13\/rule=14\/rule=15\/rule=16\/rule=17\/rule=18 by omega) with
   rfl|rfl|rfl|rfl|rfl|rfl|rfl|rfl|rfl|rfl|rfl|rfl|rfl|rfl|rfl|rfl|rfl|rfl|rfl<;>rfl
 ·have A:rowK rule=none:=by unfold rowK;repeat (rw[if_neg (by omega)])
  rw[A]
  repeat (rw[if_neg (by omega)])
  rfl
theorem yWn (ca rule:Nat):yJ4 (.int .u8 rule) (zQ4 ca)=(rowS ca rule).map (rwI ca rule):=by
 have hp:=xJi rule;by_cases h:rule<=18
 ·have D:rule=0\/rule=1\/rule=2\/rule=3\/rule=4\/rule=5\/rule=6\/rule=7\/rule=8\/rule=9\/rule=10\/rule=11\/rule=12\/rule=13\/rule=14\/rule=15\/rule=16\/rule=17\/rule=18:=by omega
  by_cases h2:ca=2
  ·subst h2;simp only[zQ4,if_true,yGh,hp];rcases D with rfl|rfl|rfl|rfl|rfl|rfl|rfl|rfl|rfl|rfl|rfl|rfl|rfl|rfl|rfl|rfl|rfl|rfl|rfl<;>rfl
  ·by_cases E:ca=3
   ·subst E;simp only[zQ4,if_true,if_neg h2,yGh,hp];rcases D with rfl|rfl|rfl|rfl|rfl|rfl|rfl|rfl|rfl|rfl|rfl|rfl|rfl|rfl|rfl|rfl|rfl|rfl|rfl<;>rfl
   ·have A:rowS ca rule=rowK rule:=by
     unfold rowS;rw[if_neg (by omega),if_neg (by omega),if_neg (by omega),if_neg (by omega),if_neg (by omega)]
    have O:∀r,rowK rule=some r->zW6 1 rule=zW6 ca rule:=λ_ _=>by
     unfold zW6;rw[if_neg (by omega),if_neg (by omega)]
     conv=>rhs;rw[if_neg (by omega),if_neg (by omega)]
    simp only[zQ4,if_neg h2,if_neg E,hp,A];cases G:rowK rule with
    | none=>rfl
    | some r=>simp only[Option.map_some,rwI,O r G]
 ·have J:rowS ca rule=none:=by
   unfold rowS;rw[if_neg (by omega),if_neg (by omega),if_neg (by omega),if_neg (by omega),if_neg (by omega)];unfold rowK;repeat (rw[if_neg (by omega)])
  have A:rowK rule=none:=by unfold rowK;repeat (rw[if_neg (by omega)])
  rw[A] at hp;rw[J];unfold zQ4;split
  ·simp only[yGh,hp];repeat (rw[if_neg (by omega)])
   rfl
  ·split
   ·simp only[yGh,hp];repeat (rw[if_neg (by omega)])
    rfl
   ·rw[hp];rfl
theorem wGg {ca rule:Nat}{r:Rw}(h:rowS ca rule=some r):AddOk gl (zW6 ca rule) (addS ca rule)/\entI prog (zW6 ca rule)=true:=by
 have O:rule<=18:=by
  refine Classical.byContradiction λhc=>?_;have D:rowS ca rule=none:=by
   unfold rowS;rw[if_neg (by omega),if_neg (by omega),if_neg (by omega),if_neg (by omega),if_neg (by omega)];unfold rowK;repeat (rw[if_neg (by omega)])
  rw[D] at h;cases h
 have A:rule=0\/rule=1\/rule=2\/rule=3\/rule=4\/rule=5\/rule=6\/rule=7\/rule=8\/rule=9\/rule=10\/rule=11\/rule=12\/rule=13\/rule=14\/rule=15\/rule=16\/rule=17\/rule=18:=by omega
 by_cases h2:ca=2
 ·subst h2;rcases A with rfl|rfl|rfl|rfl|rfl|rfl|rfl|rfl|rfl|rfl|rfl|rfl|rfl|rfl|rfl|rfl|rfl|rfl|rfl
  all_goals first|(cases h;done)|exact⟨wVo gl,by kernel_rfl⟩|exact⟨wVn gl,by kernel_rfl⟩|exact⟨wVm gl,by kernel_rfl⟩|exact⟨wVl gl,by kernel_rfl⟩|exact⟨wVk gl,by kernel_rfl⟩|exact⟨wVj gl,by kernel_rfl⟩|exact⟨wVi gl,by kernel_rfl⟩|exact⟨wVh gl,by kernel_rfl⟩|exact⟨xV0 gl,by kernel_rfl⟩|exact⟨wVg gl,by kernel_rfl⟩|exact⟨xV5 gl,by kernel_rfl⟩|exact⟨xV4 gl,by kernel_rfl⟩|exact⟨xV3 gl,by kernel_rfl⟩|exact⟨xV2 gl,by kernel_rfl⟩|exact⟨xV1 gl,by kernel_rfl⟩|exact⟨wVe gl,by kernel_rfl⟩|exact⟨wVd gl,by kernel_rfl⟩
 ·by_cases J:ca=3
  ·subst J;rcases A with rfl|rfl|rfl|rfl|rfl|rfl|rfl|rfl|rfl|rfl|rfl|rfl|rfl|rfl|rfl|rfl|rfl|rfl|rfl
   all_goals first|(cases h;done)|exact⟨wVo gl,by kernel_rfl⟩|exact⟨wVn gl,by kernel_rfl⟩|exact⟨wVm gl,by kernel_rfl⟩|exact⟨wVl gl,by kernel_rfl⟩|exact⟨wVk gl,by kernel_rfl⟩|exact⟨wVj gl,by kernel_rfl⟩|exact⟨wVi gl,by kernel_rfl⟩|exact⟨wVh gl,by kernel_rfl⟩|exact⟨xV0 gl,by kernel_rfl⟩|exact⟨wVg gl,by kernel_rfl⟩|exact⟨xV5 gl,by kernel_rfl⟩|exact⟨xV4 gl,by kernel_rfl⟩|exact⟨xV3 gl,by kernel_rfl⟩|exact⟨xV2 gl,by kernel_rfl⟩|exact⟨xV1 gl,by kernel_rfl⟩|exact⟨wVe gl,by kernel_rfl⟩|exact⟨wVd gl,by kernel_rfl⟩
  ·have E:rowS ca rule=rowS 1 rule:=by
    unfold rowS;rw[if_neg (by omega),if_neg (by omega),if_neg (by omega),if_neg (by omega),if_neg (by omega)]
    conv=>rhs;rw[if_neg (by omega),if_neg (by omega),if_neg (by omega),if_neg (by omega),if_neg (by omega)]
   have G:zW6 ca rule=zW6 1 rule:=by
    unfold zW6;rw[if_neg (by omega),if_neg (by omega)]
    conv=>rhs;rw[if_neg (by omega),if_neg (by omega)]
   have hs:addS ca rule=addS 1 rule:=by
    funext m a b;unfold addS;rw[if_neg h2,if_neg (show ¬ (1:Nat)=2 by decide)]
   rw[E] at h;rw[G,hs];rcases A with rfl|rfl|rfl|rfl|rfl|rfl|rfl|rfl|rfl|rfl|rfl|rfl|rfl|rfl|rfl|rfl|rfl|rfl|rfl
   all_goals first|(cases h;done)|exact⟨wVo gl,by kernel_rfl⟩|exact⟨wVn gl,by kernel_rfl⟩|exact⟨wVm gl,by kernel_rfl⟩|exact⟨wVl gl,by kernel_rfl⟩|exact⟨wVk gl,by kernel_rfl⟩|exact⟨wVj gl,by kernel_rfl⟩|exact⟨wVi gl,by kernel_rfl⟩|exact⟨wVh gl,by kernel_rfl⟩|exact⟨xV0 gl,by kernel_rfl⟩|exact⟨wVg gl,by kernel_rfl⟩|exact⟨xV5 gl,by kernel_rfl⟩|exact⟨xV4 gl,by kernel_rfl⟩|exact⟨xV3 gl,by kernel_rfl⟩|exact⟨xV2 gl,by kernel_rfl⟩|exact⟨xV1 gl,by kernel_rfl⟩|exact⟨wVe gl,by kernel_rfl⟩|exact⟨wVd gl,by kernel_rfl⟩
noncomputable def rB (ca:Nat)(a0 f:Fm):Bool:=fmB ca f&&(decide (ca≠2) || eqF f a0)
theorem wU5 (ca:Nat)(a0:Fm):∀l:List Fm,l.all (rB ca a0)=(l.all (fmB ca)&&(decide (ca≠2) || l.all λf=>eqF f a0))
 | []=>by simp
 | f::l=>by
  simp only[List.all_cons,wU5 ca a0 l,rB];cases fmB ca f<;>cases l.all (fmB ca)<;>cases decide (ca≠2)<;>simp
theorem wZ2 (ca:Nat)(s:Sq):yQm ca s=(yXy ca&&decide (s.l.length<=64)&&decide (s.r.length<=64)&&s.l.all (fmB ca)&&s.r.all (rB ca (s.r.headD fm0))):=by
 rw[wU5];unfold yQm zZo;cases s.r with
 | nil=>simp
 | cons a l=>simp only[List.headD_cons,Bool.and_assoc]
theorem xV6 (G:Gl gl)(ca:Nat)(s:Sq)(x:IV)(hx:IsSq s x)(hs:yXq s)(st:ISt):ICall prog gl 75 [.raw (.int .u8 ca),x] st (λr st'=>r=.raw (.bool (yQm ca s))/\st'=st):=by
 obtain⟨l,r⟩:=s;obtain⟨t1,x1,t2,x2,rfl,e1,i1,e2,i2⟩:=hx;obtain⟨hl,E⟩:=hs;simp only at i1 i2 hl E;rw[wZ2];simp only;refine iI func75 ?_;simp only[go_sem,zA,reduceCtorEq];refine (xK3 gl ca _).mono ?_;rintro _ st ⟨rfl,rfl⟩;cases hk:yXy ca
 ·simp only[go_sem,zE];exact yQ0 ⟨by simp,rfl⟩
 by_cases h1:l.length<=64
 case neg =>
  have e:decide ((64:Int)<(l.length:Int))=true:=dEt (by omega);simp only[go_sem,zE,i1.len,e];intro _;exact yQ0 ⟨by simp[h1],rfl⟩
 by_cases h2:r.length<=64
 case neg =>
  have e:decide ((64:Int)<(l.length:Int))=false:=dEf (by omega);have e':decide ((64:Int)<(r.length:Int))=true:=dEt (by omega);simp only[go_sem,zE,i1.len,i2.len,e,e'];intro _ _;exact yQ0 ⟨by simp[h2],rfl⟩
 have e:decide ((64:Int)<(l.length:Int))=false:=dEf (by omega);have e':decide ((64:Int)<(r.length:Int))=false:=dEf (by omega);simp only[go_sem,zE,i1.len,i2.len,e,e'];intros;refine LoopC.ctr l.length (λk fr st' ds=>(l.take k).all (fmB ca)=true/\fr 0=.iv (.raw (.int .u8 ca))/\fr 3=.box [.sl t1 x1,.sl t2 x2]/\fr 25=.iv (.sl t1 x1)/\fr 26=.iv (.raw (.int .i64 l.length))/\fr 27=.iv (.raw (.int .i64 k))/\st'=st/\ds=[]) ?_ ?_ ?_
 ·simp only[go_sem,zE,reduceCtorEq]
  first|rfl|exact⟨rfl,rfl⟩
 ·rintro k fr aa _ A ⟨hn,f0,f3,f25,f26,f27,rfl,rfl⟩;obtain⟨a,J⟩:=yQ1 A;obtain⟨y,ab,hy⟩:=i1.get J;have D:=zKu gl G ca a y hy (hl a (lMg J)) aa;obtain⟨o5,n5,t5,x5,t6,x6,rfl⟩:=hy.agg;simp only[go_sem,zE,zB,zA,zL,reduceCtorEq,f0,f25,f26,f27,lt_i A,yQ3 e1,iNn,ab,fits];refine D.mono ?_;rintro _ _ ⟨rfl,rfl⟩;cases E:fmB ca a
  ·simp only[go_sem];refine yQ0 ⟨?_,rfl⟩;have:l.all (fmB ca)=false:=List.all_eq_false.2 ⟨a,lMg J,by simp[E]⟩;simp[this]
  ·simp only[go_sem,zE,reduceCtorEq,f0,f3,f25,f26,f27,yQc A (show l.length<=281474976710656 by omega)];rw[yQ6 J,List.all_append,hn];simp[E]
 ·rintro fr aa _ ⟨hn,f0,f3,f25,f26,f27,rfl,rfl⟩;rw[lTl] at hn;simp only[go_sem,zE,f3,f26,f27,i2.len,yQl (nLi _)];intro _;refine LoopC.ctr r.length (λk fr st' ds=>(r.take k).all (rB ca (r.headD fm0))=true/\fr 0=.iv (.raw (.int .u8 ca))/\fr 3=.box [.sl t1 x1,.sl t2 x2]/\fr 37=.iv (.sl t2 x2)/\fr 38=.iv (.raw (.int .i64 r.length))/\fr 39=.iv (.raw (.int .i64 k))/\st'=aa/\ds=[]) ?_ ?_ ?_
  ·simp only[go_sem,zE,reduceCtorEq,f0,f3]
   first|rfl|exact⟨rfl,rfl⟩
  ·rintro k fr ae _ A ⟨hm,f0,f3,f37,f38,f39,rfl,rfl⟩;obtain⟨a,J⟩:=yQ1 A;obtain⟨y,ab,hy⟩:=i2.get J;obtain⟨a0,O⟩:=yQ1 (show 0<r.length by omega);obtain⟨y0,ah,af⟩:=i2.get O;have an:r.headD fm0=a0:=by cases r with|nil=>cases O|cons b r=>simpa using O
   have D:=zKu gl G ca a y hy (E a (lMg J)) ae;have am:=λst=>wKk gl G a a0 y y0 hy af (E a (lMg J)) (E a0 (lMg O)) st;rw[an] at hm ⊢;have U:rB ca a0 a=false->r.all (rB ca a0)=false:=λhb=>List.all_eq_false.2 ⟨a,lMg J,by simp[hb]⟩;have ai:rB ca a0 a=true->(r.take (k+1)).all (rB ca a0)=true:=λhb=>by
    rw[yQ6 J,List.all_append,hm];simp[hb]
   obtain⟨o5,n5,t5,x5,t6,x6,rfl⟩:=hy.agg;obtain⟨o7,n7,t7,x7,t8,x8,rfl⟩:=af.agg;simp only[go_sem,zE,zB,zA,zL,reduceCtorEq,f0,f37,f38,f39,lt_i A,yQ3 e2,iNn,ab,fits];refine D.mono ?_;rintro _ _ ⟨rfl,rfl⟩;cases E:fmB ca a
   ·simp only[go_sem,zE];exact yQ0 ⟨by rw[U (by simp[rB,E])];simp,rfl⟩
   by_cases hj:ca=2
   ·have ej:decide ((ca:Int)=2)=true:=dEt (by omega);simp only[go_sem,zE,zB,zA,zL,reduceCtorEq,ej,f0,f3,yQ3 e2,ah,fits,Int.le_refl,Int.toNat_zero];refine (am _).mono ?_;rintro _ _ ⟨rfl,rfl⟩;cases hq:eqF a a0
    ·simp only[go_sem,zE];exact yQ0 ⟨by rw[U (by simp[rB,hj,hq])];simp,rfl⟩
    ·simp only[go_sem,zE,reduceCtorEq,f0,f3,f37,f38,f39,yQc A (show r.length<=281474976710656 by omega)];exact ai (by simp[rB,E,hq])
   ·have ej:decide ((ca:Int)=2)=false:=dEf (by omega);simp only[go_sem,zE,reduceCtorEq,ej,f0,f3,f37,f38,f39,yQc A (show r.length<=281474976710656 by omega)];exact ai (by simp[rB,E,hj])
  ·rintro fr ae _ ⟨hm,f0,f3,f37,f38,f39,rfl,rfl⟩;rw[lTl] at hm;simp only[go_sem,f38,f39,yQl (nLi _)];exact yQ0 ⟨by rw[hn,hm];simp[h1,h2],rfl⟩
theorem wQn (J:Tag)(E:okEs J 1)(l:List ByteArray)(s:ByteArray)(st:ISt):ICall prog gl 150 [.sl J (strI l),.raw (.string s)] st (λr st'=>r=.raw (.bool (memB l s))/\st'=st):=by
 have G:ICall prog gl 181 [.sl J (strI l),.raw (.string s)] st (λr st'=>(∃n:Int,r=.raw (.int .i64 n)/\decide (0<=n)=memB l s)/\st'=st):=by
  refine iI func181 ?_;simp only[go_sem,reduceCtorEq,xXu];intro _;refine LoopC.ctr l.length (λk fr st' ds=>memB (l.take k) s=false/\fr 0=.iv (.sl J (strI l))/\fr 1=.iv (.raw (.string s))/\fr 7=.iv (.raw (.int .i64 l.length))/\fr 8=.iv (.raw (.int .i64 k))/\st'=st/\ds=[]) ?_ ?_ ?_
  ·simp only[go_sem,zE,reduceCtorEq];exact⟨rfl,rfl⟩
  ·rintro k fr U _ A ⟨D,f0,f1,f7,f8,rfl,rfl⟩;obtain⟨a,O⟩:=yQ1 A;by_cases hr:s=a
   ·subst hr;simp only[go_sem,zE,reduceCtorEq,f0,f1,f7,f8,lt_i A,yQ3 E,iNn,xVo O,fits,decide_true];refine yQ0 ⟨⟨_,rfl,?_⟩,rfl⟩;rw[dEt (iNn k)];exact (yJ6.2 (lMg O)).symm
   ·simp only[go_sem,zE,reduceCtorEq,f0,f1,f7,f8,lt_i A,yQ3 E,iNn,xVo O,fits,dEf hr,yQc A (show l.length<=281474976710656 by omega)];rw[zXu] at D ⊢;rw[yQ6 O,List.mem_append,List.mem_singleton];rintro (h|h)
    ·exact D h
    ·exact hr h
  ·rintro fr U _ ⟨D,f0,f1,f7,f8,rfl,rfl⟩;rw[lTl] at D;simp only[go_sem,f7,f8,yQl (nLi _)];exact yQ0 ⟨⟨_,rfl,by rw[D];rfl⟩,rfl⟩
 refine iI func150 ?_;simp only[go_sem,zE,zA,reduceCtorEq];refine G.mono ?_;rintro _ _ ⟨⟨n,rfl,D⟩,rfl⟩;simp only[go_sem,D];exact yQ0 ⟨rfl,rfl⟩
theorem wJz (T:Gt gl)(f:Fm)(y:IV)(D:IsFm f y)(hs:f.size<=1000000)(J:f.right=true)(s:ByteArray)(st:ISt) :
  ICall prog gl 149 [y,.cptr (.raw (.string s))] st (λr st'=>r=.raw (.bool (memB (frF f) s))/\st'=st):=by
 have h1:=λst=>vU9 gl T f y D (by omega) (λq G=>by have:=vZf (wUq f (yJw J).1 q G);omega) st;obtain⟨o5,n5,t5,U,t6,O,rfl⟩:=D.agg;refine ICall.intro (c:=cf prog gl [] [(1,[0,2,1,3,4])]) func149 rfl (by show _<=8;simp) (by kernel_rfl) ?_;simp only[go_sem,zE,zA,zL,fits];refine (h1 _).mono ?_;rintro _ _ ⟨E,l,rfl,A,hl,rfl⟩;simp only[go_sem,zE,zA];refine (wQn gl E A l s _).mono ?_;rintro _ _ ⟨rfl,rfl⟩;simp only[go_sem];refine yQ0 ⟨?_,rfl⟩;have:memB l s=memB (frF f) s:=by
  rw[Bool.eq_iff_iff,yJ6,yJ6];exact hl.2 s
 rw[this]
theorem vWs (T:Gt gl)(s:Sq)(x:IV)(U:IsSq s x)(hs:yXq s)(E:(∀f∈s.l,f.right=true)/\∀f∈s.r,f.right=true)(n:ByteArray)(st:ISt) :
  ICall prog gl 116 [x,.raw (.string n)] st (λr st'=>r=.raw (.bool (zY8 s n))/\st'=st):=by
 obtain⟨t1,O,t2,J,rfl,e1,i1,e2,i2⟩:=U;have h1:=λst=>yVy gl 149 [.cptr (.raw (.string n))] (by simp only[go_sem]) s.l (λf=>memB (frF f) n) (λa A y D st=>wJz gl T a y D (hs.1 a A) (E.1 a A) n st) t1 O e1 i1 st;have h2:=λst=>yVy gl 149 [.cptr (.raw (.string n))] (by simp only[go_sem]) s.r (λf=>memB (frF f) n) (λa A y D st=>wJz gl T a y D (hs.2 a A) (E.2 a A) n st) t2 J e2 i2 st;refine ICall.intro (c:=cf prog gl [] [] [3]) func116 rfl (by show _<=17;simp) (by kernel_rfl) ?_;simp only[go_sem,zE,zA];refine (h1 _).mono ?_;rintro _ _ ⟨rfl,rfl⟩;cases G:s.l.any λf=>memB (frF f) n
 ·simp only[go_sem,zE,zA];refine (h2 _).mono ?_;rintro _ _ ⟨rfl,rfl⟩;simp only[go_sem,zE];exact yQ0 ⟨by simp[zY8,G],rfl⟩
 ·simp only[go_sem,zE];exact yQ0 ⟨by simp[zY8,G],rfl⟩
theorem zWn (f:Fm)(l:Sb):(yV7 f l).1.size<=400:=by
 unfold yV7;split
 ·split
  ·rename_i h;simp only[bAt,dTe] at h;exact h.1
  ·show fm0.size<=400;decide
 ·show fm0.size<=400;decide
theorem xKk:IsFm fm0 (.agg [.raw (.int .u8 0),.raw (.string ⟨#[]⟩),.sl ⟨true,.nil,0⟩ [],.sl ⟨true,.nil,0⟩ []]):=vY0 _ _ (.inl rfl) (.inl rfl)
theorem xVn {sub:List Fm}{A:List IV}(h:IsFms sub A)(k:Nat):∃y,IsFm ((sub[k]?).getD fm0) y/\(sub.length<=k->y=.agg [.raw (.int .u8 0),.raw (.string ⟨#[]⟩),.sl ⟨true,.nil,0⟩ [],.sl ⟨true,.nil,0⟩ []])/\(k<sub.length->A[k]?=some y):=by
 by_cases D:k<sub.length
 ·obtain⟨a,E⟩:=yQ1 D;obtain⟨y,G,J⟩:=h.get E;exact⟨y,by rw[E];exact J,λhc=>by omega,λ_=>G⟩
 ·exact⟨_,by rw[List.getElem?_eq_none (by omega)];exact xKk,λ_=>rfl,λhc=>absurd hc D⟩
def AdR (st:ISt)(q:List Sq×Nat)(r:IV)(st':ISt):Prop:=∃D A,r=.tup [.sl D A,.raw (.int .i64 q.2)]/\okEs D 2/\IsSqs q.1 A/\st'=st
def AdRD (st:ISt)(q:List Sq×Nat)(r:IV)(st':ISt):Prop:=∃A D,r=.tup [.sl A D,.raw (.int .i64 q.2)]/\okEs A 2/\appT q.1.length A/\IsSqsD q.1 D/\st'=st
theorem AdRD.w {st:ISt}{q:List Sq×Nat}(r:IV)(st':ISt):AdRD st q r st'->AdR st q r st':=λ⟨D,A,h1,h2,_,G,E⟩=>⟨D,A,h1,h2,G.w,E⟩
theorem zXp {o:Nat}{n:ByteArray}{us:List Tm}{sub:List Fm}(h:(Fm.mk o n us sub).size<=1000000)(k:Nat):((sub[k]?).getD fm0).size<=1000000:=by
 cases A:sub[k]? with
 | none=>show fm0.size<=1000000;decide
 | some a =>
  have:=(yZ7 A).2;simp only[Fm.size] at h;show a.size<=1000000;omega
theorem xGf {ca rule:Nat}{r:Rw}{A:Fm}{term:Tm}{name:ByteArray}(h:fmB ca A=true)(D:r.op=0\/A.op=r.op):yK7 ca rule r A term name =
  if r.asks=0 then (addS ca rule A ((A.subs[0]?).getD fm0) ((A.subs[1]?).getD fm0),0)
  else if !(if r.asks=2 then Tm.mk true name [] else term).ok then ([],193)
  else if (yV7 ((A.subs[0]?).getD fm0) [(A.nm,if r.asks=2 then Tm.mk true name [] else term)]).2≠0 then ([],193)
  else (addS ca rule A (yV7 ((A.subs[0]?).getD fm0) [(A.nm,if r.asks=2 then Tm.mk true name [] else term)]).1 ((A.subs[1]?).getD fm0),0):=by
 have e:(!fmB ca A || (decide (r.op≠0)&&decide (A.op≠r.op)))=false:=by
  rw[h];rcases D with D|D<;>simp[D]
 simp only[yK7,e,bFt,if_false]
set_option maxHeartbeats 2000000 in
theorem vQ4 (G:Gl gl)(T:Gt gl)(ca rule:Nat)(r:Rw)(hr:rowS ca rule=some r)(A:Fm)(y:IV)(hy:IsFm A y)(hm:A.size<=1000000)(term:Tm)(z:IV)(hz:IsTm term z)(ht:term.size<=1000000)(name:ByteArray)(st:ISt) :
  ICall prog gl 115 [rwI ca rule r,.raw (.int .u8 ca),y,z,.raw (.string name)] st (AdRD st (yK7 ca rule r A term name)):=by
 obtain⟨aa,U⟩:=wGg gl hr;have hf:=λst=>zKu gl G ca A y hy hm st;obtain⟨rl,rr,op,asks⟩:=r;obtain⟨o,n,us,sub⟩:=A;have aw:=hy;obtain⟨t1,x1,t2,x2,rfl,ho,e1,i1,e2,i2⟩:=hy.mk;obtain⟨v,un,tz,xz,rfl⟩:∃v un tz xz,z=.agg [.raw (.bool v),.raw (.string un),.sl tz xz]:=by
  obtain⟨v,un,us⟩:=term;obtain⟨tz,xz,rfl,_⟩:=hz.mk;exact⟨_,_,_,_,rfl⟩
 obtain⟨z1,ac,au,aq⟩:=xVn i2 0;obtain⟨z2,ab,O,ao⟩:=xVn i2 1;have hE:fmB ca (.mk o n us sub)=false->yK7 ca rule ⟨rl,rr,op,asks⟩ (.mk o n us sub) term name=([],192):=λh=>by simp only[yK7,h];rfl
 refine iI func115 ?_;simp only[go_sem,zE,zA,zL,rwI];refine (hf _).mono ?_;rintro _ _ ⟨rfl,rfl⟩;cases ah:fmB ca (.mk o n us sub)
 ·simp only[go_sem,zE];exact yQ0 (by rw[hE ah];exact⟨_,_,rfl,.inl rfl,.inl rfl,rfl,rfl⟩)
 by_cases E:op=0\/o=op
 case neg =>
  have J:yK7 ca rule ⟨rl,rr,op,asks⟩ (.mk o n us sub) term name=([],192):=by
   have e:(!fmB ca (.mk o n us sub) || (decide (op≠0)&&decide ((Fm.mk o n us sub).op≠op)))=true:=by
    simp only[Fm.op,ah];simp only[not_or] at E;simp[E]
   simp only[yK7,e,if_true]
  simp only[not_or] at E;have d1:decide ((op:Int)=0)=false:=dEf (by omega);have d2:decide ((o:Int)=(op:Int))=false:=dEf (by omega);simp only[go_sem,zE,zA,d1,d2];exact yQ0 (by rw[J];exact⟨_,_,rfl,.inl rfl,.inl rfl,rfl,rfl⟩)
 obtain⟨aB,D⟩:∃b,decide ((op:Int)=0)=b:=⟨_,rfl⟩
 have aM:aB=false->decide ((o:Int)=(op:Int))=true:=λh=>by
  subst D;have:=of_decide_eq_false h;exact dEt (by omega)
 have ay:=E;replace E:(⟨rl,rr,op,asks⟩:Rw).op=0\/(Fm.mk o n us sub).op=(⟨rl,rr,op,asks⟩:Rw).op:=ay;by_cases aK:0<sub.length
 rotate_left
 have l0:decide ((0:Int)<(sub.length:Int))=false:=dEf (by omega);have l1:decide ((1:Int)<(sub.length:Int))=false:=dEf (by omega);have g0:=l0;have g1:=l0;obtain rfl:=au (by omega);obtain rfl:=O (by omega)
 rotate_left
 have l0:decide ((0:Int)<(sub.length:Int))=true:=dEt (by omega);have g0:=aq aK;obtain⟨o3,n3,t3,x3,t4,x4,rfl⟩:=ac.agg;by_cases aJ:1<sub.length;have l1:decide ((1:Int)<(sub.length:Int))=true:=dEt (by omega);have g1:=ao aJ;obtain⟨o5,n5,t5,x5,t6,x6,rfl⟩:=ab.agg
 rotate_left
 have l1:decide ((1:Int)<(sub.length:Int))=false:=dEf (by omega);have g1:=g0;obtain rfl:=O (by omega)
 all_goals cases aB
 all_goals (first|have aj:=aM rfl|have aj:=D)
 all_goals
  have J:=xGf (rule:=rule) (r:=⟨rl,rr,op,asks⟩) (term:=term) (name:=name) ah E;by_cases aA:asks=0
  ·have d0:decide ((asks:Int)=0)=true:=dEt (by omega);simp only[if_pos aA,Fm.subs] at J;simp only[go_sem,zE,zB,zA,zL,D,aj,l0,l1,i2.len,g0,g1,yQ3 e2,Int.le_refl,Int.toNat_zero,(show (0:Int)<=1 by decide),(show Int.toNat 1=1 from rfl),d0,fits,U];intros;refine (aa _ _ _ _ _ _ aw ac ab hm (zXp hm 0) (zXp hm 1) _).mono ?_;rintro _ _ ⟨tg,xs,rfl,he,ak,ae,rfl⟩;simp only[go_sem,zE];exact yQ0 (by rw[J];exact⟨_,_,rfl,he,ak,ae,rfl⟩)
  have d0:decide ((asks:Int)=0)=false:=dEf (by omega);by_cases az:asks=2;have d2:decide ((asks:Int)=2)=true:=dEt (by omega);obtain⟨w,ax,hw,af⟩:∃w,(if asks=2 then Tm.mk true name [] else term)=w/\IsTm w (.agg [.raw (.bool true),.raw (.string name),.sl ⟨true,.nil,0⟩ []])/\w.size<=1000000:=⟨_,if_pos az,⟨_,_,rfl,.inl rfl,rfl⟩,by show 1<=_;decide⟩
  rotate_left
  have d2:decide ((asks:Int)=2)=false:=dEf (by omega);obtain⟨w,ax,hw,af⟩:∃w,(if asks=2 then Tm.mk true name [] else term)=w/\IsTm w _/\w.size<=1000000:=⟨_,if_neg az,hz,ht⟩
  all_goals
   simp only[if_neg aA,ax,Fm.subs,Fm.nm] at J;simp only[go_sem,zE,zB,zA,zL,D,aj,l0,l1,i2.len,g0,g1,yQ3 e2,Int.le_refl,Int.toNat_zero,(show (0:Int)<=1 by decide),(show Int.toNat 1=1 from rfl),d0,d2,fits];intros;refine (vQ6 gl w _ hw af _).mono ?_;rintro _ _ ⟨rfl,rfl⟩;cases hk:Tm.ok w
   ·simp only[hk,Bool.not_false,if_true] at J;simp only[go_sem,zE];exact yQ0 (by rw[J];exact⟨_,_,rfl,.inl rfl,.inl rfl,rfl,rfl⟩)
   simp only[go_sem,zE,zA,zL];refine (kXd gl G T _ _ ac (zXp hm 0) n w _ hw af _).mono ?_;rintro _ _ ⟨y3,rfl,av,rfl⟩;have aG:=av;obtain⟨o8,n8,t8,x8,t9,x9,rfl⟩:=av.agg;by_cases he:(yV7 ((sub[0]?).getD fm0) [(n,w)]).2=0
   ·simp only[hk,Bool.not_true,bFt,if_false,he,ne_eq,nTf] at J;simp only[go_sem,zE,zA,zL,he,U,show decide (((0:Nat):Int)=0)=true from rfl];refine (aa _ _ _ _ _ _ aw aG ab hm (Nat.le_trans (zWn _ _) (by decide)) (zXp hm 1) _).mono ?_;rintro _ _ ⟨tg,xs,rfl,he,ak,ae,rfl⟩;simp only[go_sem,zE];exact yQ0 (by rw[J];exact⟨_,_,rfl,he,ak,ae,rfl⟩)
   ·simp only[hk,Bool.not_true,bFt,if_false,ne_eq,he,nFt,if_true] at J;simp only[go_sem,zE,zA,zL,dEf (show ¬ ((yV7 ((sub[0]?).getD fm0) [(n,w)]).2:Int)=0 by omega)];exact yQ0 (by rw[J];exact⟨_,_,rfl,.inl rfl,.inl rfl,rfl,rfl⟩)
theorem xQ0 {ca:Nat}{s:Sq}(h:yQm ca s=true):(∀f∈s.l,f.right=true)/\∀f∈s.r,f.right=true:=by
 unfold yQm at h;simp only[bAt,List.all_eq_true] at h;obtain⟨⟨⟨_,E⟩,D⟩,_⟩:=h;have key:∀f,fmB ca f=true->f.right=true:=λf A=>by
  unfold fmB at A;simp only[bAt] at A;exact A.1
 exact⟨λf A=>key f (E f A),λf A=>key f (D f A)⟩
theorem vV4 (G:Gl gl)(T:Gt gl)(ca:Nat)(s:Sq)(x:IV)(hx:IsSq s x)(hs:yXq s)(rule:Nat)(A:Fm)(y:IV)(hy:IsFm A y)(hm:A.size<=1000000)(term:Tm)(z:IV)(hz:IsTm term z)(ht:term.size<=1000000)(name:ByteArray)(st:ISt) :
  ICall prog gl 91 [.raw (.int .u8 ca),x,.raw (.int .u8 rule),y,z,.raw (.string name)] st (AdRD st (yWk ca s rule A term name)):=by
 have hV:=λst=>xV6 gl G ca s x hx hs st;have hF:=λO st=>vWs gl T s x hx hs O name st;obtain⟨t1,x1,t2,x2,rfl,e1,i1,e2,i2⟩:=hx;have au:=λst=>zYq gl G s.l A t1 x1 y e1 i1 hy hs.1 hm st;have aq:=λst=>zYq gl G s.r A t2 x2 y e2 i2 hy hs.2 hm st;have hA:=λr O st=>vQ4 gl G T ca rule r O A y hy hm term z hz ht name st;obtain⟨o3,n3,t3,x3,t4,x4,rfl⟩:=hy.agg;obtain⟨v,un,tz,xz,rfl⟩:∃v un tz xz,z=.agg [.raw (.bool v),.raw (.string un),.sl tz xz]:=by
  obtain⟨v,un,us⟩:=term;obtain⟨tz,xz,rfl,_⟩:=hz.mk;exact⟨_,_,_,_,rfl⟩
 refine iI func91 ?_;simp only[go_sem,zE,zA,zL,reduceCtorEq];refine (hV _).mono ?_;rintro _ st ⟨rfl,rfl⟩;cases hv:yQm ca s
 ·simp only[go_sem,zE];exact yQ0 (by unfold yWk;rw[hv];exact⟨_,_,rfl,.inl rfl,.inl rfl,rfl,rfl⟩)
 have J:=xQ0 hv;simp only[go_sem,zA,reduceCtorEq];refine (wX0 gl ca _).mono ?_;rintro _ _ ⟨b,U,rfl,rfl⟩;cases O:rowS ca rule with
 | none =>
  have D:yWk ca s rule A term name=([],191):=by unfold yWk;rw[hv,O];rfl
  simp only[go_sem,zE,zA,zL,ISt.put_same,yWn,O,Option.map_none,yGe];exact yQg (yQh U) (by rw[D];exact⟨_,_,rfl,.inl rfl,.inl rfl,rfl,rfl⟩)
 | some r =>
  have E:=hA r O;obtain⟨rl,rr,op,asks⟩:=r;have D:yWk ca s rule A term name=if decide ((yK7 ca rule ⟨rl,rr,op,asks⟩ A term name).2=192) || (rl&&!hasF s.l A) || (rr&&!hasF s.r A) then ([],192)
    else if (yK7 ca rule ⟨rl,rr,op,asks⟩ A term name).2≠0 then ([],(yK7 ca rule ⟨rl,rr,op,asks⟩ A term name).2)
    else if decide (asks=2)&&zY8 s name then ([],193) else ((yK7 ca rule ⟨rl,rr,op,asks⟩ A term name).1,0):=by unfold yWk;rw[hv,O];rfl
  generalize yK7 ca rule ⟨rl,rr,op,asks⟩ A term name=q at D E;obtain⟨qs,qe⟩:=q;simp only at D;simp only[go_sem,zE,zA,zL,reduceCtorEq,ISt.put_same,yWn,O,Option.map_some,zZe,rwI];refine (E _).mono ?_;rintro _ _ ⟨tg,xs,rfl,he,ah,ag,rfl⟩;by_cases aa:qe=192
  ·have d:decide ((qe:Int)=192)=true:=dEt (by omega);have an:yWk ca s rule A term name=([],192):=by rw[D,aa];rfl
   simp only[go_sem,zE,d];exact yQg (yQh U) (by rw[an];exact⟨_,_,rfl,.inl rfl,.inl rfl,rfl,rfl⟩)
  have d:decide ((qe:Int)=192)=false:=dEf (by omega);have ae:decide (qe=192)=false:=dEf aa;rw[ae,Bool.false_or] at D;cases rl
  rotate_left
  simp only[go_sem,zE,zA,zL,d];refine (au _).mono ?_;rintro _ _ ⟨rfl,rfl⟩;cases h4:hasF s.l A
  ·simp only[go_sem,zE];rw[h4] at D;exact yQg (yQh U) (by rw[D];exact⟨_,_,rfl,.inl rfl,.inl rfl,rfl,rfl⟩)
  rw[h4] at D
  rotate_left
  all_goals cases rr
  all_goals try
   simp only[go_sem,zE,zA,zL,d];refine (aq _).mono ?_;rintro _ _ ⟨rfl,rfl⟩;cases h5:hasF s.r A
   ·simp only[go_sem,zE];rw[h5] at D;exact yQg (yQh U) (by rw[D];exact⟨_,_,rfl,.inl rfl,.inl rfl,rfl,rfl⟩)
   rw[h5] at D
  all_goals
   simp only[Bool.false_and,Bool.and_false,Bool.not_true,Bool.or_false,bFt,if_false] at D;by_cases h0:qe=0
   ·subst h0;simp only[ne_eq,nTf,if_false] at D;by_cases ha:asks=2
    ·have da:decide ((asks:Int)=2)=true:=dEt (by omega);simp only[go_sem,zE,zA,zL,d,da,show decide (((0:Nat):Int)=0)=true from rfl];refine (hF J _).mono ?_;rintro _ _ ⟨rfl,rfl⟩;rw[dEt ha,Bool.true_and] at D;cases hf:zY8 s name
     ·simp only[go_sem,zE];rw[hf] at D;exact yQg (yQh U) (by rw[D];exact⟨_,_,rfl,he,ah,ag,rfl⟩)
     ·simp only[go_sem,zE];rw[hf] at D;exact yQg (yQh U) (by rw[D];exact⟨_,_,rfl,.inl rfl,.inl rfl,rfl,rfl⟩)
    ·have da:decide ((asks:Int)=2)=false:=dEf (by omega);rw[dEf ha,Bool.false_and] at D;simp only[go_sem,zE,zA,d,da,show decide (((0:Nat):Int)=0)=true from rfl];exact yQg (yQh U) (by rw[D];exact⟨_,_,rfl,he,ah,ag,rfl⟩)
   ·have d0:decide ((qe:Int)=0)=false:=dEf (by omega);rw[if_pos h0] at D;simp only[go_sem,zE,zA,d,d0];exact yQg (yQh U) (by rw[D];exact⟨_,_,rfl,.inl rfl,.inl rfl,rfl,rfl⟩)
theorem vV5 (G:Gl gl)(T:Gt gl)(ca:Nat)(s:Sq)(x:IV)(J:IsSq s x)(hs:yXq s)(rule:Nat)(A:Fm)(y:IV)(E:IsFm A y)(O:A.size<=1000000)(term:Tm)(z:IV)(D:IsTm term z)(ht:term.size<=1000000)(name:ByteArray)(st:ISt) :
  ICall prog gl 91 [.raw (.int .u8 ca),x,.raw (.int .u8 rule),y,z,.raw (.string name)] st (AdR st (yWk ca s rule A term name)) :=
 (vV4 gl G T ca s x J hs rule A y E O term z D ht name st).mono AdRD.w
