/- Sequents and trees of sequents as plain -/
import Derived.Test.YtabhgbojkjcfjaaGreatDoorKB
set_option linter.all false
open Nat renaming reduceEqDiff → zE,reduceBEq → zB,reduceAdd → zA,reduceMul → zM,reduceLeDiff → zL
namespace Go.Iv
open Go
structure Sq where
 l:List Fm
 r:List Fm
inductive Tr where
 | mk (rule:Nat) (s:Sq) (main:Fm) (term:Tm) (name:ByteArray) (sub:List Tr)
def IsSq (s:Sq)(x:IV):Prop:=∃t A D ys,x=.agg [.sl t A,.sl D ys]/\okEs t 4/\IsFms s.l A/\okEs D 4/\IsFms s.r ys
def IsSqs:List Sq->List IV->Prop
 | [],A=>A=[]
 | a::D,A=>∃y ys,A=y::ys/\IsSq a y/\IsSqs D ys
mutual
def IsTr:Tr->IV->Prop
 | .mk rule s f u n sub,x=>∃tl F tr E op fn ta J tb G v O U A W D,x=.agg [.raw (.int .u8 rule),.sl tl F,.sl tr E,.raw (.int .u8 op),.raw (.string fn),.sl ta J,.sl tb G,.raw (.bool v),.raw (.string O),.sl U A,.raw (.string n),.sl W D] /\
  rule<256/\okEs tl 4/\IsFms s.l F/\okEs tr 4/\IsFms s.r E/\IsFm f (.agg [.raw (.int .u8 op),.raw (.string fn),.sl ta J,.sl tb G])/\IsTm u (.agg [.raw (.bool v),.raw (.string O),.sl U A])/\okEs W 12/\IsTrs sub D
def IsTrs:List Tr->List IV->Prop
 | [],A=>A=[]
 | a::D,A=>∃y ys,A=y::ys/\IsTr a y/\IsTrs D ys
end
theorem IsTr.mk {rule:Nat}{s:Sq}{f:Fm}{u:Tm}{n:ByteArray}{sub:List Tr}{x:IV}(h:IsTr (.mk rule s f u n sub) x):∃tl F tr E op fn ta J tb G v O U A W D,x=.agg [.raw (.int .u8 rule),.sl tl F,.sl tr E,.raw (.int .u8 op),.raw (.string fn),.sl ta J,.sl tb G,.raw (.bool v),.raw (.string O),.sl U A,.raw (.string n),.sl W D] /\
  rule<256/\okEs tl 4/\IsFms s.l F/\okEs tr 4/\IsFms s.r E/\IsFm f (.agg [.raw (.int .u8 op),.raw (.string fn),.sl ta J,.sl tb G])/\IsTm u (.agg [.raw (.bool v),.raw (.string O),.sl U A])/\okEs W 12/\IsTrs sub D:=by
 simpa only[IsTr] using h
theorem IsSqs.len:∀ {D:List Sq}{A:List IV},IsSqs D A->A.length=D.length
 | [],A,h=>by simp only[IsSqs] at h;subst h;rfl
 | a::D,A,h=>by
  simp only[IsSqs] at h;obtain⟨y,ys,rfl,_,h⟩:=h;simp[IsSqs.len h]
theorem IsSqs.get:∀ {E:List Sq}{D:List IV}{k:Nat}{a:Sq},IsSqs E D->E[k]?=some a->∃x,D[k]?=some x/\IsSq a x
 | [],D,k,a,h,A=>by simp at A
 | b::E,D,k,a,h,A=>by
  simp only[IsSqs] at h;obtain⟨y,ys,rfl,F,h⟩:=h;cases k with
  | zero=>simp at A;subst A;exact⟨y,rfl,F⟩
  | succ k=>simpa using IsSqs.get h (by simpa using A)
theorem IsSqs.append:∀ {E D:List Sq}{A ys:List IV},IsSqs E A->IsSqs D ys->IsSqs (E++D) (A++ys)
 | [],D,A,ys,h,k=>by simp only[IsSqs] at h;subst h;exact k
 | a::E,D,A,ys,h,k=>by
  simp only[IsSqs] at h;obtain⟨y,zs,rfl,F,h⟩:=h;exact⟨y,zs++ys,rfl,F,IsSqs.append h k⟩
theorem IsTrs.len:∀ {D:List Tr}{A:List IV},IsTrs D A->A.length=D.length
 | [],A,h=>by simp only[IsTrs] at h;subst h;rfl
 | a::D,A,h=>by
  simp only[IsTrs] at h;obtain⟨y,ys,rfl,_,h⟩:=h;simp[IsTrs.len h]
theorem IsTrs.get:∀ {E:List Tr}{D:List IV}{k:Nat}{a:Tr},IsTrs E D->E[k]?=some a->∃x,D[k]?=some x/\IsTr a x
 | [],D,k,a,h,A=>by simp at A
 | b::E,D,k,a,h,A=>by
  simp only[IsTrs] at h;obtain⟨y,ys,rfl,F,h⟩:=h;cases k with
  | zero=>simp at A;subst A;exact⟨y,rfl,F⟩
  | succ k=>simpa using IsTrs.get h (by simpa using A)
theorem IsTrs.append:∀ {E D:List Tr}{A ys:List IV},IsTrs E A->IsTrs D ys->IsTrs (E++D) (A++ys)
 | [],D,A,ys,h,k=>by simp only[IsTrs] at h;subst h;exact k
 | a::E,D,A,ys,h,k=>by
  simp only[IsTrs] at h;obtain⟨y,zs,rfl,F,h⟩:=h;exact⟨y,zs++ys,rfl,F,IsTrs.append h k⟩
mutual
def Tr.steps:Tr->Nat
 | .mk _ _ _ _ _ sub=>1+yQp sub
def yQp:List Tr->Nat
 | []=>0
 | a::l=>a.steps+yQp l
end
mutual
def Tr.height:Tr->Nat
 | .mk _ _ _ _ _ sub=>1+yQz sub
def yQz:List Tr->Nat
 | []=>0
 | a::l=>max a.height (yQz l)
end
mutual
def Tr.cuts:Tr->Nat
 | .mk rule _ _ _ _ sub=>(if rule=17 then 1 else 0)+yZn sub
def yZn:List Tr->Nat
 | []=>0
 | a::l=>a.cuts+yZn l
end
theorem yJp:∀l m:List Tr,yQp (l++m)=yQp l+yQp m
 | [],m=>by simp[yQp]
 | a::l,m=>by simp only[List.cons_append,yQp,yJp l m];omega
theorem yY7:∀l m:List Tr,yZn (l++m)=yZn l+yZn m
 | [],m=>by simp[yZn]
 | a::l,m=>by simp only[List.cons_append,yZn,yY7 l m];omega
theorem yG7:∀l m:List Tr,yQz (l++m)=max (yQz l) (yQz m)
 | [],m=>by simp[yQz]
 | a::l,m=>by simp only[List.cons_append,yQz,yG7 l m];omega
theorem Tr.height_le_steps:∀t:Tr,t.height<=t.steps:=by
 have key:∀k:Nat,(∀t:Tr,SizeOf.sizeOf t<k->t.height<=t.steps):=λk=>by
  induction k with
  | zero=>intro t h;omega
  | succ k D =>
   rintro⟨rule,s,f,u,n,sub⟩ h;have:∀l:List Tr,SizeOf.sizeOf l<k+1->yQz l<=yQp l:=λl=>by
    induction l with
    | nil=>intro _;simp[yQz,yQp]
    | cons a l A =>
     intro E;simp only[List.cons.sizeOf_spec] at E;have h1:=D a (by omega);have h2:=A (by omega);simp only[yQz,yQp];omega
   simp only[Tr.mk.sizeOf_spec] at h;have:=this sub (by omega);simp only[Tr.height,Tr.steps];omega
 exact λt=>key _ t (Nat.lt_succ_self _)
mutual
def Tr.walk:List Nat->Tr->List (List Nat×Tr)
 | p,t@(.mk _ _ _ _ _ sub)=>(p,t)::yZ2 p 0 sub
def yZ2:List Nat->Nat->List Tr->List (List Nat×Tr)
 | _,_,[]=>[]
 | p,i,a::l=>a.walk (p++[i])++yZ2 p (i+1) l
end
def yZ0 (e:Tr->Nat):List (List Nat×Tr)->List Nat×Nat
 | []=>([],0)
 | (p,t)::l=>if e t=0 then yZ0 e l else (p,e t)
theorem yJ3 (e:Tr->Nat):∀l m,yZ0 e (l++m)=if (yZ0 e l).2=0 then yZ0 e m else yZ0 e l
 | [],m=>by simp[yZ0]
 | (p,t)::l,m=>by
  have A:=yJ3 e l m;by_cases h:e t=0
  ·simp only[List.cons_append,yZ0,h,if_true,A]
  ·simp[yZ0,h]
theorem zZp (e:Tr->Nat):∀l,(yZ0 e l).2=0->yZ0 e l=([],0)
 | [],_=>rfl
 | (p,t)::l,h=>by
  simp only[yZ0] at h ⊢;by_cases A:e t=0
  ·rw[if_pos A] at h ⊢;exact zZp e l h
  ·rw[if_neg A] at h;exact absurd h A
def Fm.op:Fm->Nat
 | .mk op _ _ _=>op
def Fm.subs:Fm->List Fm
 | .mk _ _ _ sub=>sub
def Fm.nm:Fm->ByteArray
 | .mk _ n _ _=>n
def Tr.sq:Tr->Sq
 | .mk _ s _ _ _ _=>s
def Sq.plus (s m:Sq):Sq:=⟨s.l++m.l,s.r++m.r⟩
end Go.Iv
namespace Go.Proofs.Tryz
open Go Go.Iv
set_option maxRecDepth 4000
variable (gl:Nat->Option IV)
theorem zQ4 (v w:Bool)(n m:ByteArray)(us D:List Tm)(x y:IV)(hx:IsTm (.mk v n us) x)(hy:IsTm (.mk w m D) y)
  (IH:∀(t W:Tag) (U ys:List IV),okEs t 3->okEs W 3->IsTms us U->IsTms D ys->∀st,ICall prog gl 130 [.sl t U,.sl W ys] st (λx st'=>x=.raw (.bool (eqB us D))/\st'=st)) (st:ISt) :
  ICall prog gl 89 [x,y] st (λr st'=>r=.raw (.bool (eqB (Tm.mk v n us) (.mk w m D)))/\st'=st):=by
 obtain⟨tx,cx,rfl,G,O⟩:=hx.mk;obtain⟨ty,cy,rfl,F,J⟩:=hy.mk;refine iI func89 ?_;by_cases E:v=w
 ·subst E;by_cases A:n=m
  ·subst A;simp only[go_sem,zE,zA,decide_true];refine (IH tx ty cx cy G F O J _).mono ?_;rintro _ _ ⟨rfl,rfl⟩;simp only[go_sem,zE];refine yQ0 ⟨?_,rfl⟩;by_cases hc:us=D
   ·subst hc;rw[yQm.2 rfl,yQm.2 rfl]
   ·rw[yQi.2 hc,yQi.2 (by rintro⟨⟩;exact hc rfl)]
  ·simp only[go_sem,zE,zA,dEf A];exact yQ0 ⟨by rw[yQi.2 (by rintro⟨⟩;exact A rfl)],rfl⟩
 ·simp only[go_sem,zE,zA,beq_eq_false_iff_ne.2 E];exact yQ0 ⟨by rw[yQi.2 (by rintro⟨⟩;exact E rfl)],rfl⟩
theorem yGy (t t':Tag)(us G:List Tm)(xs ys:List IV)(ht:okEs t 3)(ai:okEs t' 3)(W:IsTms us xs)(hb:IsTms G ys)(st:ISt) :
  ICall prog gl 130 [.sl t xs,.sl t' ys] st (λx st'=>x=.raw (.bool (eqB us G))/\st'=st):=by
 refine iI func130 ?_;simp only[go_sem,zE,reduceCtorEq,W.len,hb.len];intro aC aB;refine yZb (λh=>?_) (λh=>?_)
 ·have J:us≠G:=by rintro rfl;simp at h
  simp only[go_sem];exact yQ0 ⟨by rw[yQi.2 J],rfl⟩
 have F:us.length=G.length:=by simp at h;omega
 refine LoopC.ctr us.length (λk fr st' ds=>us.take k=G.take k/\fr 0=.iv (.sl t xs)/\fr 1=.iv (.sl t' ys)/\fr 5=.iv (.raw (.int .i64 k))/\st'=st/\ds=[]) ?_ ?_ ?_
 ·simp only[go_sem,zE,reduceCtorEq];rfl
 ·rintro k fr st' ds A ⟨U,h0,h1,h5,rfl,rfl⟩;obtain⟨a,E⟩:=yQ3 A;obtain⟨b,D⟩:=yQ3 (F▸A);obtain⟨x,ak,hx⟩:=W.get E;obtain⟨y,aj,hy⟩:=hb.get D;obtain⟨v,n,cs⟩:=a;obtain⟨w,m,ds⟩:=b;have ah:=hx;have ag:=hy;obtain⟨tx,cx,rfl,az,aF⟩:=hx.mk;obtain⟨ty,cy,rfl,ay,aE⟩:=hy.mk;have O:=zQ4 gl v w n m cs ds _ _ ah ag (λt1 t2 x1 y1 q1 q2 q3 q4 af=>yGy t1 t2 cs ds x1 y1 q1 q2 q3 q4 af) st';simp only[go_sem,zE,zB,zA,reduceCtorEq,h0,h1,h5,W.len,lt_i A,yQ2 ht,yQ2 ai,iNn,ak,aj,fits];intro _;refine O.mono ?_;rintro _ _ ⟨rfl,rfl⟩;by_cases hc:Tm.mk v n cs=.mk w m ds
  ·simp only[go_sem,zE,reduceCtorEq,h0,h1,h5,yQb A (show us.length<=281474976710656 by omega),yQm.2 hc];rw[yQ4 E,yQ4 D,U,hc]
  ·have J:us≠G:=by
    rintro rfl;rw[E] at D;exact hc (Option.some.inj D)
   simp only[go_sem,yQi.2 hc];exact yQ0 ⟨by rw[yQi.2 J],rfl⟩
 ·rintro fr st' ds ⟨U,h0,h1,h5,rfl,rfl⟩;simp only[go_sem,zE,reduceCtorEq,h0,h5,W.len,yQj (nLi _)];intro _;have he:us=G:=by rw[lTl] at U;rw[U,F,lTl]
  exact yQ0 ⟨by rw[yQm.2 he],rfl⟩
termination_by SizeOf.sizeOf us
decreasing_by exact xUj (lMg E)
theorem zQn (a b:Tm)(x y:IV)(G:IsTm a x)(F:IsTm b y)(st:ISt):ICall prog gl 89 [x,y] st (λr st'=>r=.raw (.bool (eqB a b))/\st'=st):=by
 obtain⟨v,n,us⟩:=a;obtain⟨w,m,A⟩:=b;exact zQ4 gl v w n m us A x y G F (λt E D ys h1 h2 O J st=>yGy gl t E us A D ys h1 h2 O J st) st
def kSF (f:Fm):Prop:=∀(g:Fm) (x y:IV) (_:IsFm f x) (_:IsFm g y) (st:ISt),ICall prog gl 88 [x,y] st (λr st'=>r=.raw (.bool (eqB f g))/\st'=st)
theorem yGz (us G:List Fm)(IH:∀a∈us,kSF gl a)(t t':Tag)(xs ys:List IV)(ht:okEs t 4)(ag:okEs t' 4)(ha:IsFms us xs)(hb:IsFms G ys)(st:ISt) :
  ICall prog gl 93 [.sl t xs,.sl t' ys] st (λx st'=>x=.raw (.bool (eqB us G))/\st'=st):=by
 refine iI func93 ?_;simp only[go_sem,zE,reduceCtorEq,ha.len,hb.len];intro ao an;refine yZb (λh=>?_) (λh=>?_)
 ·have J:us≠G:=by rintro rfl;simp at h
  simp only[go_sem];exact yQ0 ⟨by rw[yQi.2 J],rfl⟩
 have F:us.length=G.length:=by simp at h;omega
 refine LoopC.ctr us.length (λk fr st' ds=>us.take k=G.take k/\fr 0=.iv (.sl t xs)/\fr 1=.iv (.sl t' ys)/\fr 5=.iv (.raw (.int .i64 k))/\st'=st/\ds=[]) ?_ ?_ ?_
 ·simp only[go_sem,zE,reduceCtorEq];rfl
 ·rintro k fr st' ds A ⟨W,h0,h1,h5,rfl,rfl⟩;obtain⟨a,E⟩:=yQ3 A;obtain⟨b,D⟩:=yQ3 (F▸A);obtain⟨x,ai,hx⟩:=ha.get E;obtain⟨y,ah,hy⟩:=hb.get D;have O:=IH a (lMg E) b x y hx hy st';obtain⟨o,n,cs,sub⟩:=a;obtain⟨o',m,ds,U⟩:=b;obtain⟨tx,cx,sx,dx,rfl,_⟩:=hx.mk;obtain⟨ty,cy,sy,dy,rfl,_⟩:=hy.mk;simp only[go_sem,zE,zB,zA,reduceCtorEq,h0,h1,h5,ha.len,lt_i A,yQ2 ht,yQ2 ag,iNn,ai,ah,fits];intro _;refine O.mono ?_;rintro _ _ ⟨rfl,rfl⟩;by_cases hc:Fm.mk o n cs sub=.mk o' m ds U
  ·simp only[go_sem,zE,reduceCtorEq,h0,h1,h5,yQb A (show us.length<=281474976710656 by omega),yQm.2 hc];rw[yQ4 E,yQ4 D,W,hc]
  ·have J:us≠G:=by
    rintro rfl;rw[E] at D;exact hc (Option.some.inj D)
   simp only[go_sem,yQi.2 hc];exact yQ0 ⟨by rw[yQi.2 J],rfl⟩
 ·rintro fr st' ds ⟨W,h0,h1,h5,rfl,rfl⟩;simp only[go_sem,zE,reduceCtorEq,h0,h5,ha.len,yQj (nLi _)];intro _;have he:us=G:=by rw[lTl] at W;rw[W,F,lTl]
  exact yQ0 ⟨by rw[yQm.2 he],rfl⟩
theorem zYb (o:Nat)(n:ByteArray)(us:List Tm)(sub:List Fm)(IH:∀a∈sub,kSF gl a):kSF gl (.mk o n us sub):=by
 intro g x y hx hy st;obtain⟨o',m,ws,A⟩:=g;obtain⟨tx,cx,sx,dx,rfl,ho,J,ac,U,aa⟩:=hx.mk;obtain⟨ty,cy,sy,dy,rfl,am,G,ab,O,W⟩:=hy.mk;have E:=yGz gl sub A IH sx sy dx dy U O aa W;refine iI func88 ?_;by_cases hv:o=o'
 ·subst hv;by_cases D:n=m
  ·subst D;simp only[go_sem,zE,zA,decide_true];refine (yGy gl tx ty us ws cx cy J G ac ab _).mono ?_;rintro _ _ ⟨rfl,rfl⟩;by_cases hc:us=ws
   ·subst hc;simp only[go_sem,zE,zA,yQm.2 rfl];refine (E _).mono ?_;rintro _ _ ⟨rfl,rfl⟩;simp only[go_sem,zE];refine yQ0 ⟨?_,rfl⟩;by_cases hd:sub=A
    ·subst hd;rw[yQm.2 rfl,yQm.2 rfl]
    ·rw[yQi.2 hd,yQi.2 (by rintro⟨⟩;exact hd rfl)]
   ·simp only[go_sem,zE,yQi.2 hc];exact yQ0 ⟨by rw[yQi.2 (by rintro⟨⟩;exact hc rfl)],rfl⟩
  ·simp only[go_sem,zE,zA,dEf D,decide_true];exact yQ0 ⟨by rw[yQi.2 (by rintro⟨⟩;exact D rfl)],rfl⟩
 ·have F:decide ((o:Int)=(o':Int))=false:=dEf (by omega);simp only[go_sem,zE,zA,F];exact yQ0 ⟨by rw[yQi.2 (by rintro⟨⟩;exact hv rfl)],rfl⟩
theorem zZg:∀(k:Nat)(f:Fm),SizeOf.sizeOf f<k->kSF gl f
 | 0,f,h=>by omega
 | k+1,.mk o n us sub,h=>zYb gl o n us sub (λa A=>zZg k a (by
   have:=lSm A;simp only[Fm.mk.sizeOf_spec] at h;omega))
theorem yYy (f:Fm):kSF gl f:=zZg gl _ f (Nat.lt_succ_self _)
theorem zJa (us D:List Fm)(t E:Tag)(A ys:List IV)(G:okEs t 4)(F:okEs E 4)(O:IsFms us A)(J:IsFms D ys)(st:ISt) :
  ICall prog gl 93 [.sl t A,.sl E ys] st (λx st'=>x=.raw (.bool (eqB us D))/\st'=st):=yGz gl us D (λa _=>yYy gl a) t E A ys G F O J st
theorem yW2 (a b:Sq)(x y:IV)(O:IsSq a x)(J:IsSq b y)(st:ISt):ICall prog gl 43 [x,y] st (λr st'=>r=.raw (.bool (eqB a b))/\st'=st):=by
 obtain⟨l,r⟩:=a;obtain⟨A,r'⟩:=b;obtain⟨t1,G,t2,F,rfl,h1,h2,h3,h4⟩:=O;obtain⟨t3,E,t4,D,rfl,h5,h6,W,U⟩:=J;refine iI func43 ?_;simp only[go_sem,zE,zA];refine (zJa gl l A t1 t3 G E h1 h5 h2 h6 _).mono ?_;rintro _ _ ⟨rfl,rfl⟩;by_cases hc:l=A
 ·subst hc;simp only[go_sem,zE,zA,yQm.2 rfl];refine (zJa gl r r' t2 t4 F D h3 W h4 U _).mono ?_;rintro _ _ ⟨rfl,rfl⟩;simp only[go_sem,zE];refine yQ0 ⟨?_,rfl⟩;by_cases hd:r=r'
  ·subst hd;rw[yQm.2 rfl,yQm.2 rfl]
  ·rw[yQi.2 hd,yQi.2 (by rintro⟨⟩;exact hd rfl)]
 ·simp only[go_sem,zE,yQi.2 hc];exact yQ0 ⟨by rw[yQi.2 (by rintro⟨⟩;exact hc rfl)],rfl⟩
def xJa (l:List Nat):List IV:=l.map λ(n:Nat)=>.raw (.int .i64 (n:Int))
theorem yWr (l:List Nat):(xJa l).length=l.length:=by simp[xJa]
theorem xJ9 {l:List Nat}{k n:Nat}(h:l[k]?=some n):(xJa l)[k]?=some (.raw (.int .i64 n)):=by simp[xJa,h]
theorem wZ0 (t t':Tag)(us E:List Nat)(ht:okEs t 1)(O:okEs t' 1)(st:ISt) :
  ICall prog gl 31 [.sl t (xJa us),.sl t' (xJa E)] st (λx st'=>x=.raw (.bool (eqB us E))/\st'=st):=by
 refine iI func31 ?_;simp only[go_sem,zE,reduceCtorEq,yWr];intro ah ag;refine yZb (λh=>?_) (λh=>?_)
 ·have G:us≠E:=by rintro rfl;simp at h
  simp only[go_sem];exact yQ0 ⟨by rw[yQi.2 G],rfl⟩
 have F:us.length=E.length:=by simp at h;omega
 refine LoopC.ctr us.length (λk fr st' ds=>us.take k=E.take k/\fr 0=.iv (.sl t (xJa us))/\fr 1=.iv (.sl t' (xJa E))/\fr 5=.iv (.raw (.int .i64 k))/\st'=st/\ds=[]) ?_ ?_ ?_
 ·simp only[go_sem,zE,reduceCtorEq];rfl
 ·rintro k fr st' ds A ⟨hn,h0,h1,h5,rfl,rfl⟩;obtain⟨a,J⟩:=yQ3 A;obtain⟨b,D⟩:=yQ3 (F▸A);have W:=xJ9 J;have U:=xJ9 D;by_cases hc:a=b
  ·subst hc;simp only[go_sem,zE,reduceCtorEq,h0,h1,h5,yWr,lt_i A,yQb A (show us.length<=281474976710656 by omega),yQ2 ht,yQ2 O,iNn,W,U,fits,decide_true];intro _;rw[yQ4 J,yQ4 D,hn]
  ·have G:us≠E:=by
    rintro rfl;rw[J] at D;exact hc (Option.some.inj D)
   have hd:decide ((a:Int)=(b:Int))=false:=dEf (by omega);simp only[go_sem,zE,reduceCtorEq,h0,h1,h5,yWr,lt_i A,yQ2 ht,yQ2 O,iNn,W,U,fits,hd];intro _;exact yQ0 ⟨by rw[yQi.2 G],rfl⟩
 ·rintro fr st' ds ⟨hn,h0,h1,h5,rfl,rfl⟩;simp only[go_sem,zE,reduceCtorEq,h0,h5,yWr,yQj (nLi _)];intro _;have he:us=E:=by rw[lTl] at hn;rw[hn,F,lTl]
  exact yQ0 ⟨by rw[yQm.2 he],rfl⟩
def kCT (us:List Tm):Prop:=∀(E:Tag) (D:List IV) (_:okEs E 3) (_:IsTms us D) (_:yQa us<=1099511627776) (st:ISt),
 ICall prog gl 128 [.sl E D] st (λr st'=>∃A ys,r=.sl A ys/\okEs A 3/\appT us.length A/\IsTmsD us ys/\st'=st)
theorem zQ6 (v:Bool)(n:ByteArray)(us:List Tm)(IH:kCT gl us)(x:IV)(J:IsTm (.mk v n us) x)(O:(Tm.mk v n us).size<=1099511627776)(st:ISt) :
  ICall prog gl 80 [x] st (λr st'=>IsTmD (.mk v n us) r/\st'=st):=by
 obtain⟨F,cx,rfl,D,E⟩:=J.mk;simp only[Tm.size] at O;have A:=IH F cx D E (by omega) st;refine iI func80 ?_;simp only[go_sem,zE,zA];refine A.mono ?_;rintro _ _ ⟨G,ys,rfl,U,W,hys,rfl⟩;simp only[go_sem,zE,zA,zL];exact yQ0 ⟨IsTmD.intro U W hys,rfl⟩
theorem zVg (us:List Tm)(IH:∀v n l,Tm.mk v n l∈us->kCT gl l):kCT gl us:=by
 intro tg xs ag F aq st;have ak:=yX0 us;refine iI func128 ?_;simp only[go_sem];refine LoopC.ctr us.length (λk fr st' ds=>(∃A ys,fr 3=.iv (.sl A ys)/\IsTmsD (us.take k) ys/\appT k A/\own st' A k 3 st/\subSt st st')/\fr 0=.iv (.sl tg xs)/\fr 4=.iv (.raw (.int .i64 k))/\ds=[]) ?_ ?_ ?_
 ·simp only[go_sem,zE,reduceCtorEq];exact⟨⟨_,_,rfl,IsTmsD.nil,.inl rfl,own.nil _ _ _ _ _,subSt.refl _⟩,rfl⟩
 ·rintro k fr aa _ O ⟨⟨A,ys,f3,hys,ac,E,D⟩,f0,f4,rfl⟩;obtain⟨a,ha⟩:=yQ3 O;obtain⟨x,ah,hx⟩:=F.get ha;obtain⟨h1,h2⟩:=yZg ha;have U:ys.length=k:=by rw[hys.len,List.length_take];omega
  obtain⟨v2,n2,m⟩:=a;have W:=zQ6 gl v2 n2 m (IH _ _ _ (lMg ha)) x hx (by omega) aa;obtain⟨tx,cx,rfl,ao,av⟩:=hx.mk;simp only[go_sem,zE,zB,zA,reduceCtorEq,f0,f4,F.len,lt_i O,yQ2 ag,iNn,ah,fits];intro _;refine W.mono ?_;rintro r _ ⟨hr,rfl⟩;have hn:IsTmsD (us.take (k+1)) (ys++[r]):=by
   rw[yQ4 ha];exact hys.append (IsTmsD.one hr)
  obtain⟨t3,x3,rfl,_⟩:=hr.mk;simp only[go_sem,zE,zA,zM,zL,f3,fits,yQ1];refine yZy E U D rfl (by simp[fits,IV.one]) (by simp only;omega) (by omega) λaf st4 J G _ ab=>?_;simp only[go_sem,zE,reduceCtorEq,f0,f4,yQb O (show us.length<=281474976710656 by omega)];exact⟨af,_,rfl,hn,ab,J,G⟩
 ·rintro fr aa _ ⟨⟨A,ys,f3,hys,ac,E,D⟩,f0,f4,rfl⟩;rw[lTl] at hys;simp only[go_sem,zE,reduceCtorEq,f0,f3,f4,F.len,yQj (nLi _)];intro _;exact yQc (st':=st) D ⟨A,ys,rfl,E.es,ac,hys,rfl⟩
theorem zQ5:∀(k:Nat)(us:List Tm),SizeOf.sizeOf us<k->kCT gl us
 | 0,f,h=>by omega
 | k+1,us,h=>zVg gl us (λv n l A=>zQ5 k l (by
   have:=lSm A;simp at this;omega))
theorem zJg (us:List Tm):kCT gl us:=zQ5 gl _ us (Nat.lt_succ_self _)
theorem zVh (a:Tm)(x:IV)(A:IsTm a x)(D:a.size<=1099511627776)(st:ISt):ICall prog gl 80 [x] st (λr st'=>IsTmD a r/\st'=st):=by
 obtain⟨v,n,us⟩:=a;exact zQ6 gl v n us (zJg gl us) x A D st
def kCF (f:Fm):Prop:=∀(x:IV) (_:IsFm f x) (_:f.size<=1099511627776) (st:ISt),ICall prog gl 79 [x] st (λr st'=>IsFmD f r/\st'=st)
theorem IsFmD.aggs {f:Fm}{r:IV}(h:IsFmD f r):∃o n t x A D,r=.agg [.raw (.int .u8 o),.raw (.string n),.sl t x,.sl A D]:=by
 obtain⟨o,n,us,sub⟩:=f;obtain⟨t,E,A,ys,rfl,_⟩:=h.mk;exact⟨_,_,_,_,_,_,rfl⟩
theorem yU1 (us:List Fm)(IH:∀a∈us,kCF gl a)(tg:Tag)(xs:List IV)(ai:okEs tg 4)(F:IsFms us xs)(an:yQ9 us<=1099511627776)(st:ISt) :
  ICall prog gl 70 [.sl tg xs] st (λr st'=>∃A ys,r=.sl A ys/\okEs A 4/\appT us.length A/\IsFmsD us ys/\st'=st):=by
 have am:=yQs us;refine iI func70 ?_;simp only[go_sem];refine LoopC.ctr us.length (λk fr st' ds=>(∃A ys,fr 3=.iv (.sl A ys)/\IsFmsD (us.take k) ys/\appT k A/\own st' A k 4 st/\subSt st st')/\fr 0=.iv (.sl tg xs)/\fr 4=.iv (.raw (.int .i64 k))/\ds=[]) ?_ ?_ ?_
 ·simp only[go_sem,zE,reduceCtorEq];exact⟨⟨_,_,rfl,IsFmsD.nil,.inl rfl,own.nil _ _ _ _ _,subSt.refl _⟩,rfl⟩
 ·rintro k fr aa _ O ⟨⟨A,ys,f3,hys,ac,E,D⟩,f0,f4,rfl⟩;obtain⟨a,ha⟩:=yQ3 O;obtain⟨x,aj,hx⟩:=F.get ha;obtain⟨h1,h2⟩:=yQq ha;have U:ys.length=k:=by rw[hys.len,List.length_take];omega
  have W:=IH a (lMg ha) x hx (by omega) aa;obtain⟨o5,n5,t5,x5,t6,x6,rfl⟩:=hx.agg;simp only[go_sem,zE,zB,zA,reduceCtorEq,f0,f4,F.len,lt_i O,yQ2 ai,iNn,aj,fits];intro _;refine W.mono ?_;rintro r _ ⟨hr,rfl⟩;have hn:IsFmsD (us.take (k+1)) (ys++[r]):=by
   rw[yQ4 ha];exact hys.append (IsFmsD.one hr)
  obtain⟨o7,n7,t7,x7,t8,x8,rfl⟩:=IsFmD.aggs hr;simp only[go_sem,zE,zA,zM,zL,f3,fits,yQ1];refine yZy E U D rfl (by simp[fits,IV.one]) (by simp only;omega) (by omega) λag st4 J G _ ab=>?_;simp only[go_sem,zE,reduceCtorEq,f0,f4,yQb O (show us.length<=281474976710656 by omega)];exact⟨ag,_,rfl,hn,ab,J,G⟩
 ·rintro fr aa _ ⟨⟨A,ys,f3,hys,ac,E,D⟩,f0,f4,rfl⟩;rw[lTl] at hys;simp only[go_sem,zE,reduceCtorEq,f0,f3,f4,F.len,yQj (nLi _)];intro _;exact yQc (st':=st) D ⟨A,ys,rfl,E.es,ac,hys,rfl⟩
theorem zYc (o:Nat)(n:ByteArray)(us:List Tm)(sub:List Fm)(IH:∀a∈sub,kCF gl a):kCF gl (.mk o n us sub):=by
 intro x hx hs st;obtain⟨t1,x1,t2,x2,rfl,ho,G,E,F,D⟩:=hx.mk;simp only[Fm.size] at hs;have U:=zJg gl us t1 x1 G E (by omega) st;have O:=yU1 gl sub IH t2 x2 F D (by omega) st;refine iI func79 ?_;simp only[go_sem,zE,zA];refine U.mono ?_;rintro _ _ ⟨af,ys,rfl,he,ha,hys,rfl⟩;simp only[go_sem,zE,zA,zL];refine O.mono ?_;rintro _ _ ⟨ae,aa,rfl,J,W,A,rfl⟩;simp only[go_sem,zE,zA,zL];exact yQ0 ⟨IsFmD.intro ho he ha hys J W A,rfl⟩
theorem zZh:∀(k:Nat)(f:Fm),SizeOf.sizeOf f<k->kCF gl f
 | 0,f,h=>by omega
 | k+1,.mk o n us sub,h=>zYc gl o n us sub (λa A=>zZh k a (by
   have:=lSm A;simp only[Fm.mk.sizeOf_spec] at h;omega))
theorem yYz (f:Fm):kCF gl f:=zZh gl _ f (Nat.lt_succ_self _)
theorem zJi (us:List Fm)(E:Tag)(D:List IV)(G:okEs E 4)(F:IsFms us D)(J:yQ9 us<=1099511627776)(st:ISt) :
  ICall prog gl 70 [.sl E D] st (λr st'=>∃A ys,r=.sl A ys/\okEs A 4/\appT us.length A/\IsFmsD us ys/\st'=st):=yU1 gl us (λa _=>yYz gl a) E D G F J st
theorem zGj (s:Sq)(x:IV)(hx:IsSq s x)(h1:yQ9 s.l<=1099511627776)(h2:yQ9 s.r<=1099511627776)(st:ISt):ICall prog gl 23 [x] st (λr st' =>
  (∃t1 E t2 D,r=.agg [.sl t1 E,.sl t2 D]/\okEs t1 4/\appT s.l.length t1/\IsFmsD s.l E/\okEs t2 4/\appT s.r.length t2/\IsFmsD s.r D)/\st'=st):=by
 obtain⟨t1,E,t2,D,rfl,e1,i1,e2,i2⟩:=hx;have J:=zJi gl s.l t1 E e1 i1 h1 st;have G:=zJi gl s.r t2 D e2 i2 h2 st;refine iI func23 ?_;simp only[go_sem,zE,zA];refine J.mono ?_;rintro _ _ ⟨aa,ys,rfl,he,ha,hys,rfl⟩;simp only[go_sem,zE,zA,zL];refine G.mono ?_;rintro _ _ ⟨W,U,rfl,F,O,A,rfl⟩;simp only[go_sem,zE,zA,zL];exact yQ0 ⟨⟨_,_,_,_,rfl,he,ha,hys,F,O,A⟩,rfl⟩
end Go.Proofs.Tryz
namespace Go.Iv
open Go
section
variable {P:Program}{gl:Nat->Option IV}{f:FuncId}{args args':List IV}{st:ISt}
theorem ICall.lentOwn {K:IV->Prop}(hf:flatSt st)(ao:∀g x,gl g=some x->age x=x)(hl:Lents st args args')(h:ICall P gl f (ages args') (yY2 st) (λr st'=>st'=yY2 st/\dfr r/\K r)) :
  ICall P gl f args st (λy st'=>subSt st st'/\flatSt st'/\∃x N,K x/\OI N y x/\rawY y/\wXh N/\subSt N st'/\∀b,N b≠none->st b=none):=by
 intro B X rs J al hv;subst al;have E:=J.lend;have aq:Good ⟨P,gl,X.w.heap.size⟩ X.lend:=⟨λb o A=>(E.ok b o A).flat (hf b o (xXt X.st b o A)) rfl rfl,λg x hx=>by
   have h1:=ao g x hx;have h2:=(E.gl g x hx).aged (B':=X.w.heap.size);simp only[age,h1] at h2;exact h2,Nat.le_refl _,E.Lnew,E.gsh,E.dr⟩
 have ak:Cx.vl ⟨P,gl,X.w.heap.size⟩ X.lend rs (ages args'):=VL.aged (hl.v J hv);refine (h X.w.heap.size X.lend rs aq rfl ak).mono ?_;rintro e w' ⟨v,rfl,X',x,rfl,h2,G,h4,h5,h6,h7⟩;obtain⟨y,aj,ai,_,ah⟩:=uVr (st:=λ_=>none) h4 h6;have ab:∀ {b o},X.st b=some o->b<X.w.heap.size:=λA=>J.lt A;have aC:X.w.heap.size<=X'.w.heap.size:=G.size
 let Y:WS:={ w:=X'.w,L:=λb=>if b<X.w.heap.size then (match X.st b with|some (.box _)=>0|_=>X'.L b) else 0,st:=yG5 X'.w X.w.heap.size X.st,d:=X'.d }
 have ac:∀ {b},¬ b<X.w.heap.size->Y.L b=0:=λA=>by simp only[Y];rw[if_neg A]
 have au:∀ {b cs},X.st b=some (.box cs)->Y.L b=0:=λA=>by simp only[Y,A];split<;>rfl
 have U:∀ {b},b<X.w.heap.size->(∀cs,X.st b≠some (.box cs))->Y.L b=X'.L b:=λ{b} h0 A=>by
  simp only[Y];rw[if_pos h0]
  try split
  all_goals first|rfl|(rename_i cs hc;exact absurd hc (A _))
 have he:Ext X Y:=by
  refine⟨G.os,G.tape,G.output,G.size,λb=>?_,λb i hi=>?_,λb A hs=>?_,λb A hs=>?_,G.shape,G.d⟩
  ·by_cases h0:b<X.w.heap.size
   ·by_cases A:∃cs,X.st b=some (.box cs)
    ·obtain⟨cs,A⟩:=A;rw[(J.ok b _ A).1];exact Nat.zero_le _
    ·rw[U h0 λcs hc=>A ⟨cs,hc⟩];exact Nat.le_trans (J.lend_ext.lmono b) (G.lmono b)
   ·rw[J.Lnew b (by omega)];exact Nat.zero_le _
  ·exact G.cells b i (Nat.lt_of_lt_of_le hi (J.lend_ext.lmono b))
  ·have F:∀cs,X.st b≠some (.box cs):=λcs hc=>by rw[hs] at hc;cases hc
   obtain⟨k1,k2⟩:=G.keep b A ((yYa F).trans hs);exact⟨k1,by rw[U A F,k2,yYe F]⟩
  ·simp only[Y,yG5];rw[if_pos A];exact hs
 have aa:∀b o,Y.st b=some o->(b<X.w.heap.size/\X.st b=some o)\/(X.w.heap.size<=b/\∃c T,X'.w.heap[b]?=some (.cells c T (0,0))/\o=.box (c.toList.map rdI)):=λb o A=>by
  simp only[Y,yG5] at A;split at A
  ·exact .inl ⟨‹_›,A⟩
  ·split at A
   ·rename_i c T fz hh;split at A
    ·rename_i O;subst O;cases A;exact .inr ⟨by omega,c,T,hh,rfl⟩
    ·cases A
   ·cases A
 refine⟨v,rfl,Y,y,rfl,⟨λb o A=>?_,λg x an=>he.v (J.gl g x an),Nat.le_trans J.B G.size,λb A=>?_,h2.gsh,h2.dr⟩,he,aj _ _ _,λb o A=>?_,λb o A=>?_,x,_,h7,ai,ah,λb cs A=>?_,λb o A=>?_,λb A=>?_⟩
 ·rcases aa b o A with⟨h8,W⟩|⟨h8,c,T,hh,rfl⟩
  ·by_cases D:∃cs,X.st b=some (.box cs)
   ·obtain⟨cs,D⟩:=D;rw[D] at W;cases W;exact (J.ok b _ D).flat (hf b _ D) (G.keep b h8 (zZb D)).1 (by rw[au D,(J.ok b _ D).1])
   ·have F:∀cs,X.st b≠some (.box cs):=λcs hc=>D ⟨cs,hc⟩;have aw:X'.st b=some o:=by rw[h5];exact (yYa F).trans W
    exact (h2.ok b o aw).flat (hf b o W) rfl (U h8 F)
  ·refine⟨ac (by omega),c,T,hh,by simp,λi r z hr O=>?_⟩;rw[List.getElem?_map,hr] at O;cases O;exact uVm r
 ·exact ac (by have W:X'.w.heap.size<=b:=A;omega)
 ·simp only[Y,yG5];rw[if_pos (ab A)];exact A
 ·rcases aa b o A with⟨_,W⟩|⟨_,c,T,_,rfl⟩
  ·exact hf b o W
  ·intro z O;obtain⟨v,_,rfl⟩:=List.mem_map.1 O;exact wWh v
 ·unfold yG5 at A;split at A
  ·cases A
  ·split at A
   ·split at A
    ·cases A;intro z O;obtain⟨v,_,rfl⟩:=List.mem_map.1 O;exact wWg v
    ·cases A
   ·cases A
 ·simp only[Y,yG5] at A ⊢;split at A
  ·cases A
  ·rename_i h0;rw[if_neg h0];exact A
 ·simp only[yG5] at A;split at A
  ·exact absurd rfl A
  ·cases hq:X.st b with
   | none=>rfl
   | some o=>exact absurd (ab hq) ‹_›
theorem wUb {X X':WS}{g:Nat}{o:IObj}(h:Ext X X')(D:X.st g=none)(h1:X'.st g=some o):X.w.heap.size<=g:=by
 by_cases A:g<X.w.heap.size
 ·have:=h.dom g A D;rw[h1] at this;cases this
 ·omega
theorem xQ7 {X':WS}{S:ISt}{g:Nat}{cs:List IV}(F:S g=none)(E:X'.st=S.put g (some (.box cs))):LendOk X'.st (ISt.put (λ_=>none) g (some (.box cs))) S:=by
 refine⟨λb o A=>?_,λb o A=>?_,λb cs' A=>?_⟩
 ·rw[ISt.put_apply] at A;split at A
  ·rename_i D;subst D;cases A;rw[E];exact ISt.put_same ..
  ·cases A
 ·rw[E,ISt.put_apply];split
  ·rename_i D;rw[D,F] at A;cases A
  ·exact A
 ·rw[ISt.put_apply] at A;split at A
  ·rename_i D;rw[D];exact F
  ·cases A
theorem wUa {C:Cx}{X':WS}{S:ISt}{g cap es:Nat}{cs zs:List IV}(h2:Good C X')(h0:S g=none)(E:X'.st=S.put g (some (.box cs)))(hB:C.B<=g)(hn:zs.length<=140737488355328)(F:zs.length<=cap)(A:cap*es<=cs.length)
  (O:cs.take (zs.length*es)=zs.flatMap IV.cells) (G:∀z∈zs,z.cells.length=es):C.v (X'.lendS (ISt.put (λ_=>none) g (some (.box cs))) S) (.slice (some ⟨g,0,none⟩) zs.length cap) (.sl ⟨true,.app g,es⟩ zs):=by
 have aa:X'.st g=some (.box cs):=by rw[E];exact ISt.put_same ..
 have ae:=h2.lendS_ext (xQ7 h0 E);have U:(ISt.put (λ_=>none) g (some (.box cs))) g=some (.box cs):=ISt.put_same ..;obtain⟨ak,c,T,W,J⟩:=h2.ok g _ aa;have af:c.toList.length=cs.length:=J.1;have ac:(zs.flatMap IV.cells).length=zs.length*es:=yQy zs G;have ai:zs.length*es<=cs.length:=Nat.le_trans (Nat.mul_le_mul_right _ F) A;refine V.sl (some ⟨g,0,none⟩) cap ⟨true,.app g,es⟩ zs T (c.toList.take (zs.length*es)) rfl hn F G ?_ (λg' ab=>?_) (λ_ ad ag=>?_) (λ_=>⟨_,rfl,rfl,?_,λi r D=>?_⟩) λi r z D G=>?_
 ·rw[List.length_take];simp only;omega
 ·cases ab;refine⟨T,c.size,?_,?_⟩
  ·simp[shq,WS.lendS,W]
  ·have:c.size=c.toList.length:=by simp
   rw[this,af];exact A
 ·cases ag;refine⟨hB,by simp,?_⟩;simp[ety,shq,WS.lendS,W]
 ·show 0+(c.toList.take (zs.length*es)).length<=(X'.lendS _ S).L g;rw[xQf U,List.length_take];omega
 ·show X'.w.cell? _=_;rw[Nat.zero_add,yZh W];rw[List.getElem?_take] at D;split at D
  ·simpa using D
  ·cases D
 ·rw[<- O,List.getElem?_take] at G;rw[List.getElem?_take] at D;split at D
  ·rename_i hi;rw[if_pos hi] at G;exact ae.v (J.2 i r z D G)
  ·cases D
theorem ICall.fixN {K:IV->ISt->Prop}(h:ICall P gl f args st (λy st'=>K y st'\/∃g n cap cs es zs v,st g=none/\y=.tup [.raw (.slice (some ⟨g,0,none⟩) n cap),.raw v]/\st'=st.put g (some (.box cs)) /\
   zs.length=n/\n<=140737488355328/\n<=cap/\cap*es<=cs.length/\cs.take (n*es)=zs.flatMap IV.cells/\(∀z∈zs,z.cells.length=es)/\K (.tup [.sl ⟨true,.app g,es⟩ zs,.raw v]) st)) :
  ICall P gl f args st K:=by
 intro B X rs hg J hv;subst J;refine (h B X rs hg rfl hv).mono ?_;rintro e w' ⟨v,rfl,X',y,rfl,h2,h3,h4,hK|⟨g,n,cap,cs,es,zs,u,h0,rfl,A,rfl,hn,F,E,G,hz,hK⟩⟩
 ·exact⟨v,rfl,X',y,rfl,h2,h3,h4,hK⟩
 have W:=wUb h3 h0 (by rw[A];exact ISt.put_same ..);have U:=xQ7 h0 A;refine⟨v,rfl,X'.lendS _ X.st,_,rfl,h2.lendS U,h3.trans (h2.lendS_ext U),?_,hK⟩;obtain⟨rr,rfl,O⟩:=V.tup_inv h4;refine .tup rr _ (by rw[O.1];rfl) λi r x h1 D=>?_
 match i,h1,D with
 | 1,h1,D =>
  cases D;exact (h2.lendS_ext U).v (O.2 1 r _ h1 rfl)
 | 0,h1,D =>
  cases D;obtain rfl:=V.raw_inv (O.2 0 r _ h1 rfl);exact wUa h2 h0 A (Nat.le_trans hg.B W) hn F E G hz
theorem ICall.fixL {K:IV->ISt->Prop}(h:ICall P gl f args st (λy st'=>K y st'\/∃g es zs,st g=none/\y=.raw (.slice (some ⟨g,0,none⟩) zs.length zs.length)/\st'=st.put g (some (.box (zs.flatMap IV.cells))) /\
   zs.length<=140737488355328/\(∀z∈zs,z.cells.length=es)/\K (.sl ⟨true,.app g,es⟩ zs) st)):ICall P gl f args st K:=by
 intro B X rs hg E hv;subst E;refine (h B X rs hg rfl hv).mono ?_;rintro e w' ⟨v,rfl,X',y,rfl,h2,J,h4,G|⟨g,es,zs,O,rfl,A,hn,U,G⟩⟩
 ·exact⟨v,rfl,X',y,rfl,h2,J,h4,G⟩
 have F:=wUb J O (by rw[A];exact ISt.put_same ..);have W:=xQ7 O A;have D:=yQy zs U;obtain rfl:=V.raw_inv h4;exact⟨_,rfl,X'.lendS _ X.st,_,rfl,h2.lendS W,J.trans (h2.lendS_ext W),wUa h2 O A (Nat.le_trans hg.B F) hn (Nat.le_refl _) (by rw[D];exact Nat.le_refl _) (by rw[<- D,lTl]) U,G⟩
end
end Go.Iv
namespace Go.Proofs.Tryz
open Go Go.Iv
set_option maxRecDepth 4000
variable (gl:Nat->Option IV)
def mkT (k i:Nat):ByteArray:=⟨#[35,UInt8.ofNat k,UInt8.ofNat (k / 256),UInt8.ofNat (k / 65536),47,UInt8.ofNat i,UInt8.ofNat (i / 256),UInt8.ofNat (i / 65536)]⟩
@[go_sem] theorem vV6 (a:Option Addr)(n c:Nat):IV.one (.raw (.slice a n c))=true:=(rfl)
@[go_sem] theorem kY7:((#[]:Array UInt8).size<=281474976710656)=True:=eq_true (Nat.zero_le _)
theorem vQb (k:Nat):IntKind.u8.wrap ((k:Nat):Int)=((UInt8.ofNat k).toNat:Int):=by
 simp[IntKind.wrap,IntKind.bits,IntKind.signed]
theorem shr8 (k:Nat):Int.fdiv (k:Int) (2 ^ min (Int.toNat 8) 64)=((k / 256:Nat):Int):=by
 rw[show (2:Int) ^ min (Int.toNat 8) 64=((256:Nat):Int) from rfl];exact (Int.ofNat_fdiv k 256).symm
theorem uZ5 (k:Nat):Int.fdiv (k:Int) (2 ^ min (Int.toNat 16) 64)=((k / 65536:Nat):Int):=by
 rw[show (2:Int) ^ min (Int.toNat 16) 64=((65536:Nat):Int) from rfl];exact (Int.ofNat_fdiv k 65536).symm
theorem vWx (a b c d e f g h:UInt8):yU8 [.raw (.int .u8 (a.toNat:Int)),.raw (.int .u8 (b.toNat:Int)),.raw (.int .u8 (c.toNat:Int)),.raw (.int .u8 (d.toNat:Int)),.raw (.int .u8 (e.toNat:Int)),.raw (.int .u8 (f.toNat:Int)),.raw (.int .u8 (g.toNat:Int)),.raw (.int .u8 (h.toNat:Int))]=some [a,b,c,d,e,f,g,h]:=by
 simp only[xW6,wQu,Option.map_some]
theorem wJs (a b c d e f g h:Operand):yJx 8 [(0,a),(1,b),(2,c),(3,d),(4,e),(5,f),(6,g),(7,h)]=true:=rfl
theorem zGb (k i:Nat)(st:ISt):ICall prog gl 187 [.raw (.int .i64 k),.raw (.int .i64 i)] st (λr st'=>r=.raw (.string (mkT k i))/\st'=st):=by
 have D:=vWx 35 (UInt8.ofNat k) (UInt8.ofNat (k / 256)) (UInt8.ofNat (k / 65536)) 47 (UInt8.ofNat i) (UInt8.ofNat (i / 256)) (UInt8.ofNat (i / 65536));simp only[show (((35:UInt8).toNat:Nat):Int)=35 from rfl,show (((47:UInt8).toNat:Nat):Int)=47 from rfl] at D;have A:=λn:Int=>zW8 prog 3 5 vVn vVm .i64 n;refine iI func187 ?_;simp only[go_sem,zE,zM,zL,reduceCtorEq,A,show ((0:Int)<=8)=True from eq_true (by omega),show ((0:Int)<=16)=True from eq_true (by omega),shr8,uZ5,vQb,fits,wJs,D,Option.bind_some];exact yQ0 ⟨rfl,rfl⟩
def mkC (k j:Nat):List IV:=[.raw (.bool false),.raw (.string (mkT k j)),.sl ⟨true,.nil,0⟩ []]
def mkD (k j:Nat):List IV:=[.raw (.int .u8 (0:Nat)),.raw (.string (mkT k j)),.sl ⟨true,.nil,0⟩ [],.sl ⟨true,.nil,0⟩ []]
def mksT:Nat->List IV
 | 0=>[]
 | j+1=>mksT j++mkC 1 j
def mksF:Nat->List IV
 | 0=>[]
 | j+1=>mksF j++mkD 1 j
theorem yYu:∀j,(mksT j).length=j*3
 | 0=>rfl
 | j+1=>by simp only[mksT,lLa,yYu j,mkC,List.length_cons,List.length_nil];omega
theorem yYv:∀j,(mksF j).length=j*4
 | 0=>rfl
 | j+1=>by simp only[mksF,lLa,yYv j,mkD,List.length_cons,List.length_nil];omega
theorem zXg (k i:Nat)(st:ISt):ICall prog gl 147 [.raw (.int .i64 k),.raw (.int .i64 i)] st (λr st'=>r=.agg (mkC k i)/\st'=st):=by
 refine iI func147 ?_;simp only[go_sem,zE,zA,reduceCtorEq];refine (zGb gl k i _).mono ?_;rintro _ st ⟨rfl,rfl⟩;simp only[go_sem,zE,zA,zL,fits];exact yQ0 ⟨rfl,rfl⟩
theorem yUk (k i:Nat)(st:ISt):ICall prog gl 138 [.raw (.int .i64 k),.raw (.int .i64 i)] st (λr st'=>r=.agg (mkD k i)/\st'=st):=by
 refine iI func138 ?_;simp only[go_sem,zE,zA,reduceCtorEq];refine (zGb gl k i _).mono ?_;rintro _ st ⟨rfl,rfl⟩;simp only[go_sem,zE,zA,zL,fits];exact yQ0 ⟨rfl,rfl⟩
mutual
def LTt (T:ISt):Tm->List IV->Prop
 | .mk v n A,c=>∃a cs,c=[.raw (.bool v),.raw (.string n),.raw (.slice (some ⟨a,0,none⟩) A.length (A.length+12))]/\T a=some (.box (cs++mksT 12))/\LTc T A cs
def LTc (T:ISt):List Tm->List IV->Prop
 | [],cs=>cs=[]
 | t::l,cs=>∃c d,cs=c++d/\LTt T t c/\LTc T l d
end
mutual
def LFf (T:ISt):Fm->List IV->Prop
 | .mk o n A sub,c=>∃a cs b ds,o<256/\c=[.raw (.int .u8 o),.raw (.string n),.raw (.slice (some ⟨a,0,none⟩) A.length (A.length+12)),.raw (.slice (some ⟨b,0,none⟩) sub.length (sub.length+12))] /\
   T a=some (.box (cs++mksT 12))/\LTc T A cs/\T b=some (.box (ds++mksF 12))/\LFc T sub ds
def LFc (T:ISt):List Fm->List IV->Prop
 | [],cs=>cs=[]
 | t::l,cs=>∃c d,cs=c++d/\LFf T t c/\LFc T l d
end
mutual
theorem LTt.mono {T T':ISt}(h:subSt T T'):∀ {t:Tm} {c:List IV},LTt T t c->LTt T' t c
 | .mk v n D,c,hc=>by
  simp only[LTt] at hc ⊢;obtain⟨a,cs,h1,h2,A⟩:=hc;exact⟨a,cs,h1,h _ _ h2,LTc.mono h A⟩
theorem LTc.mono {T T':ISt}(h:subSt T T'):∀ {l:List Tm} {c:List IV},LTc T l c->LTc T' l c
 | [],c,hc=>hc
 | t::l,c,hc=>by
  simp only[LTc] at hc ⊢;obtain⟨a,b,h1,h2,A⟩:=hc;exact⟨a,b,h1,LTt.mono h h2,LTc.mono h A⟩
end
mutual
theorem LFf.mono {T T':ISt}(h:subSt T T'):∀ {t:Fm} {c:List IV},LFf T t c->LFf T' t c
 | .mk o n G sub,c,hc=>by
  simp only[LFf] at hc ⊢;obtain⟨a,cs,b,ds,F,h1,h2,E,D,A⟩:=hc;exact⟨a,cs,b,ds,F,h1,h _ _ h2,E.mono h,h _ _ D,LFc.mono h A⟩
theorem LFc.mono {T T':ISt}(h:subSt T T'):∀ {l:List Fm} {c:List IV},LFc T l c->LFc T' l c
 | [],c,hc=>hc
 | t::l,c,hc=>by
  simp only[LFc] at hc ⊢;obtain⟨a,b,h1,h2,A⟩:=hc;exact⟨a,b,h1,LFf.mono h h2,LFc.mono h A⟩
end
theorem LTt.len {T:ISt}{t:Tm}{c:List IV}(h:LTt T t c):c.length=3:=by
 cases t;simp only[LTt] at h;obtain⟨_,_,rfl,_⟩:=h;rfl
theorem LFf.len {T:ISt}{t:Fm}{c:List IV}(h:LFf T t c):c.length=4:=by
 cases t;simp only[LFf] at h;obtain⟨_,_,_,_,_,rfl,_⟩:=h;rfl
theorem LTc.len {T:ISt}:∀ {l:List Tm} {c:List IV},LTc T l c->c.length=l.length*3
 | [],c,h=>by simp only[LTc] at h;subst h;rfl
 | t::l,c,h=>by
  simp only[LTc] at h;obtain⟨a,b,rfl,h2,A⟩:=h;rw[lLa,h2.len,LTc.len A,List.length_cons];omega
theorem LFc.len {T:ISt}:∀ {l:List Fm} {c:List IV},LFc T l c->c.length=l.length*4
 | [],c,h=>by simp only[LFc] at h;subst h;rfl
 | t::l,c,h=>by
  simp only[LFc] at h;obtain⟨a,b,rfl,h2,A⟩:=h;rw[lLa,h2.len,LFc.len A,List.length_cons];omega
theorem LTc.snoc {T:ISt}{t:Tm}{c:List IV}(h:LTt T t c):∀ {l:List Tm} {cs:List IV},LTc T l cs->LTc T (l++[t]) (cs++c)
 | [],cs,k=>by
  simp only[LTc] at k;subst k;exact⟨c,[],by simp,h,rfl⟩
 | a::l,cs,k=>by
  simp only[LTc] at k;obtain⟨x,y,rfl,h2,A⟩:=k;exact⟨x,y++c,by simp,h2,LTc.snoc h A⟩
theorem LFc.snoc {T:ISt}{t:Fm}{c:List IV}(h:LFf T t c):∀ {l:List Fm} {cs:List IV},LFc T l cs->LFc T (l++[t]) (cs++c)
 | [],cs,k=>by
  simp only[LFc] at k;subst k;exact⟨c,[],by simp,h,rfl⟩
 | a::l,cs,k=>by
  simp only[LFc] at k;obtain⟨x,y,rfl,h2,A⟩:=k;exact⟨x,y++c,by simp,h2,LFc.snoc h A⟩
def nw (st st':ISt):ISt:=λb=>match st b with|none=>st' b|some _=>none
theorem yJh {st st':ISt}{b:Nat}{o:IObj}(h:nw st st' b=some o):st b=none/\st' b=some o:=by
 unfold nw at h;split at h
 ·exact⟨‹_›,h⟩
 ·cases h
theorem xXr {st st':ISt}{b:Nat}{o:IObj}(h:st b=none)(A:st' b=some o):nw st st' b=some o:=by
 unfold nw;rw[h];exact A
theorem nw_l {st s1 A:ISt}(h:subSt s1 A):subSt (nw st s1) (nw st A):=λb o D=>by
 obtain⟨h1,h2⟩:=yJh D;exact xXr h1 (h _ _ h2)
theorem nw_r {st s1 A:ISt}(h:subSt st s1):subSt (nw s1 A) (nw st A):=λb o D=>by
 obtain⟨h1,h2⟩:=yJh D;exact xXr (yVc h h1) h2
theorem wU5 {st s1 E:ISt}{g:Nat}{o:Option IObj}(h:subSt s1 E):subSt ((nw st s1).put g none) ((nw st (E.put g o)).put g none):=λb x D=>by
 rw[ISt.put_apply] at D ⊢;split at D
 ·cases D
 ·rename_i A;rw[if_neg A];obtain⟨h1,h2⟩:=yJh D;exact xXr h1 (by rw[yZ7 A];exact h _ _ h2)
theorem wU6 {st s1 D:ISt}{g:Nat}{o:Option IObj}{x:IObj}(h:subSt st s1)(E:s1 g=some x):subSt (nw s1 D) ((nw st (D.put g o)).put g none):=λb y F=>by
 obtain⟨h1,h2⟩:=yJh F;have A:b≠g:=by rintro rfl;rw[E] at h1;cases h1
 rw[yZ7 A];exact xXr (yVc h h1) (by rw[yZ7 A];exact h2)
theorem xZ4 {e:TypeId×Bool×Nat×Nat}{b n cap:Nat}{y:IV}{cs cs':List IV}{R:Rt}{st:ISt}{ds:List Dfd}(E:st b=some (.box cs))(D:fits e.2.1 e.2.2.1 y=true)(h1:(n+1)*e.2.2.2<=140737488355328/\n+1<=140737488355328)(hc:n+1<=cap)(h2:cap*e.2.2.1<=cs.length)
  (A:yXb cs (n*e.2.2.1) y.cells=cs') (h:∀st',st'=st.put b (some (.box cs'))->R (.val (.raw (.slice (some ⟨b,0,none⟩) (n+1) cap))) st' ds):appO e b 0 n cap [y] R st ds:=by
 subst A;have h:=h _ rfl;refine⟨⟨rfl,by simp[D]⟩,h1,yQ5.2 ⟨_,E,⟨by omega,h2⟩,λ_=>by simpa using h,λhd=>?_⟩⟩;exact absurd (dEt hc) (by simpa using hd)
theorem zZ3 {cs rest c:List IV}{k:Nat}(h:cs.length=k):yXb (cs++rest) k c=cs++c++rest.drop c.length:=by
 unfold yXb;rw[List.take_left' h,<- h,List.drop_append,List.drop_eq_nil_of_le (by omega),List.nil_append];simp
theorem yK9 {k n:Nat}(h:k<=n):yXm none (some ((k:Nat):Int)) n=some (0,k):=by
 simp only[yXm,Option.getD_none,Option.getD_some];rw[if_pos ⟨Int.le_refl _,by omega,by omega⟩];simp
theorem yUm {st:ISt}{g:Nat}{cs:List IV}(h:flatSt st)(hc:∀c∈cs,yU4 c):flatSt (st.put g (some (.box cs))):=h.put λx A=>by cases A;exact hc
theorem zKa {st:ISt}{g:Nat}{cs:List IV}(h:flatSt st)(A:st g=some (.box cs)):∀c∈cs,yU4 c:=h g _ A
theorem LTt.flat {T:ISt}{t:Tm}{c:List IV}(h:LTt T t c):∀x∈c,yU4 x:=by
 cases t;simp only[LTt] at h;obtain⟨_,_,rfl,_⟩:=h;intro x A;simp only[List.mem_cons,List.not_mem_nil,or_false] at A;rcases A with rfl|rfl|rfl<;>trivial
theorem LFf.flat {T:ISt}{t:Fm}{c:List IV}(h:LFf T t c):∀x∈c,yU4 x:=by
 cases t;simp only[LFf] at h;obtain⟨_,_,_,_,_,rfl,_⟩:=h;intro x A;simp only[List.mem_cons,List.not_mem_nil,or_false] at A;rcases A with rfl|rfl|rfl|rfl<;>trivial
theorem wY1 (k j:Nat):∀x∈mkC k j,yU4 x:=by
 intro x A;simp only[mkC,List.mem_cons,List.not_mem_nil,or_false] at A;rcases A with rfl|rfl|rfl<;>first|trivial|rfl
theorem wY0 (k j:Nat):∀x∈mkD k j,yU4 x:=by
 intro x A;simp only[mkD,List.mem_cons,List.not_mem_nil,or_false] at A;rcases A with rfl|rfl|rfl|rfl<;>first|trivial|rfl
theorem zK9 {cs c rest:List IV}{m:Nat}(h:∀x∈cs++rest,yU4 x)(hc:∀x∈c,yU4 x):∀x∈cs++c++rest.drop m,yU4 x:=by
 intro x A;rcases List.mem_append.1 A with A|A
 ·rcases List.mem_append.1 A with A|A
  ·exact h x (List.mem_append.2 (.inl A))
  ·exact hc x A
 ·exact h x (List.mem_append.2 (.inr (List.mem_of_mem_drop A)))
def LTP (us:List Tm):Prop:=∀(D:Tag) (A:List IV) (_:okEs D 3) (_:IsTms us A) (_:yQa us<=1099511627776) (st:ISt) (_:flatSt st),
 ICall prog gl 105 [.sl D A] st (λr st'=>∃a cs,r=.raw (.slice (some ⟨a,0,none⟩) us.length (us.length+12))/\nw st st' a=some (.box (cs++mksT 12))/\LTc (nw st st') us cs/\subSt st st'/\flatSt st')
theorem zX2 (v:Bool)(n:ByteArray)(us:List Tm)(IH:LTP gl us)(x:IV)(G:IsTm (.mk v n us) x)(J:(Tm.mk v n us).size<=1099511627776)(st:ISt)(O:flatSt st) :
  ICall prog gl 57 [x] st (λr st'=>∃c,r=.agg c/\LTt (nw st st') (.mk v n us) c/\subSt st st'/\flatSt st'):=by
 obtain⟨F,cx,rfl,D,E⟩:=G.mk;simp only[Tm.size] at J;have A:=IH F cx D E (by omega) st O;refine iI func57 ?_;simp only[go_sem,zE,zA];refine A.mono ?_;rintro _ st' ⟨a,cs,rfl,h1,h2,W,U⟩;simp only[go_sem,zE,zA,zL];exact yQc (λ_ _ h=>h) ⟨_,rfl,⟨a,cs,rfl,h1,h2⟩,W,U⟩
theorem LTt.all {T:ISt}{t:Tm}{c:List IV}(h:LTt T t c):c.all IV.one=true:=by
 cases t;simp only[LTt] at h;obtain⟨_,_,rfl,_⟩:=h;rfl
theorem LFf.all {T:ISt}{t:Fm}{c:List IV}(h:LFf T t c):c.all IV.one=true:=by
 cases t;simp only[LFf] at h;obtain⟨_,_,_,_,_,rfl,_⟩:=h;rfl
theorem zYi (us:List Tm)(IH:∀v n l,Tm.mk v n l∈us->LTP gl l):LTP gl us:=by
 intro tg xs aD ah aO st hf;have aM:=yX0 us;have step:∀a∈us,∀(x:IV) (_:IsTm a x) (_:a.size<=1099511627776) (st:ISt) (_:flatSt st),ICall prog gl 57 [x] st (λr st'=>∃c,r=.agg c/\LTt (nw st st') a c/\subSt st st'/\flatSt st'):=λa ha x hx hs st hf=>by
  obtain⟨v,n,l⟩:=a;exact zX2 gl v n l (IH _ _ _ ha) x hx hs st hf
 have aB:IntKind.i64.wrap ((us.length:Int)+12)=((us.length+12:Nat):Int):=by rw[w64]<;>omega
 refine ICall.intro (c:=cf prog gl [10] []) func105 rfl (by show _<=39;simp) (by kernel_rfl) ?_;simp only[go_sem,reduceCtorEq,ah.len];intro _;simp only[go_sem,aB];refine yQv ⟨by omega,by omega,by omega⟩ λg=>yQd λhg=>?_;refine LoopC.ctr us.length (λk fr st' ds=>(∃cs rest,fr 3=.iv (.raw (.slice (some ⟨g,0,none⟩) k (us.length+12)))/\st' g=some (.box (cs++rest))/\rest.length=(us.length+12-k)*3/\LTc ((nw st st').put g none) (us.take k) cs/\subSt st st'/\flatSt st') /\
  fr 0=.iv (.sl tg xs)/\fr 4=.iv (.raw (.int .i64 k))/\ds=[]) ?_ ?_ ?_
 ·have an:∀c∈List.replicate ((us.length+12)*3) IV.junk,yU4 c:=λc hc=>by
   obtain rfl:=List.eq_of_mem_replicate hc;trivial
  have J:st.put g (some (.box (List.replicate ((us.length+12)*3) .junk))) g=some (.box ([]++List.replicate ((us.length+12)*3) .junk)):=ISt.put_same ..;have D:=yQe (o:=some (.box (List.replicate ((us.length+12)*3) .junk))) hg;have ae:=yUm (g:=g) hf an;generalize st.put g (some (.box (List.replicate ((us.length+12)*3) .junk)))=aN at J D ae;simp only[go_sem,zE,reduceCtorEq];exact⟨⟨[],_,J,List.length_replicate ..,rfl,D,ae⟩,rfl⟩
 ·rintro k fr ab _ ak ⟨⟨cs,rest,f3,E,ac,af,D,ae⟩,f0,f4,rfl⟩;obtain⟨a,ha⟩:=yQ3 ak;obtain⟨x,aI,hx⟩:=ah.get ha;obtain⟨h1,h2⟩:=yZg ha;have ao:cs.length=k*3:=by rw[af.len,List.length_take];congr 1;omega
  have aq:=step a (lMg ha) x hx (by omega) ab ae;obtain⟨v5,n5,t5,x5,rfl⟩:=hx.agg;simp only[go_sem,zE,zB,zA,reduceCtorEq,f0,f4,ah.len,lt_i ak,yQ2 aD,iNn,aI,fits];intro _;refine aq.mono ?_;rintro _ ag ⟨c,rfl,hc,G,F⟩;have al:=hc.len;have aa:fits true 3 (.agg c)=true:=by rw[xGh,al,hc.all];rfl
  have aC:c.take 3=c:=List.take_of_length_le (by omega);simp only[go_sem,zE,zA,zM,zL,f3,aC,al,hc.all,fits,yQ1];refine xZ4 (G _ _ E) aa ⟨by simp only;omega,by omega⟩ (by omega) (by simp only[lLa];omega) (zZ3 (by exact ao)) λO A=>?_;have am:O g=some (.box (cs++c++rest.drop c.length)):=by rw[A];exact ISt.put_same ..
  have ay:LTc ((nw st O).put g none) (us.take (k+1)) (cs++c):=by
   rw[yQ4 ha,A];exact LTc.snoc (hc.mono (wU6 D E)) (af.mono (wU5 G))
  have ai:subSt st O:=λb o J=>by
   have aj:b≠g:=by rintro rfl;rw[hg] at J;cases J
   rw[A,yZ7 aj];exact G _ _ (D _ _ J)
  have W:flatSt O:=by rw[A];exact yUm F (zK9 (zKa F (G _ _ E)) hc.flat)
  simp only[go_sem,zE,reduceCtorEq,f0,f4,yQb ak (show us.length<=281474976710656 by omega)]
  first
   | exact⟨cs++c,rest.drop c.length,rfl,am,by rw[List.length_drop,ac,al];omega,ay,ai,W⟩
   | exact⟨cs++c,rest.drop c.length,am,by rw[List.length_drop,ac,al];omega,ay,ai,W⟩
 ·rintro fr ab _ ⟨⟨cs,rest,f3,E,ac,af,D,ae⟩,f0,f4,rfl⟩;rw[lTl] at af;have ao:cs.length=us.length*3:=af.len;simp only[go_sem,zE,reduceCtorEq,f0,f4,ah.len,yQj (nLi _)];intro _;refine LoopC.ctr 12 (λi fr st' ds=>(∃rest,fr 3=.iv (.raw (.slice (some ⟨g,0,none⟩) (us.length+i) (us.length+12)))/\st' g=some (.box (cs++mksT i++rest))/\rest.length=(12-i)*3/\(∀b,b≠g->st' b=ab b)/\flatSt st') /\
   fr 0=.iv (.sl tg xs)/\fr 6=.iv (.raw (.int .i64 i))/\ds=[]) ?_ ?_ ?_
  ·have ax:ab g=some (.box (cs++mksT 0++rest)):=by simpa[mksT] using E
   have av:rest.length=(12-0)*3:=by omega
   simp only[go_sem,zE,zM,reduceCtorEq,f0,f3];exact⟨⟨rest,ax,av,λ_ _=>trivial,ae⟩,rfl⟩
  ·rintro i fr ag _ ak ⟨⟨rest,f3,E,ac,U,F⟩,f0,f6,rfl⟩;have aH:=zXg gl 1 i ag;have aw:(cs++mksT i).length=(us.length+i)*3:=by rw[lLa,ao,yYu];omega
   simp only[go_sem,zE,zA,f3,f6,show decide (((i:Nat):Int)<12)=true from dEt (by omega)];refine aH.mono ?_;rintro _ ag ⟨rfl,rfl⟩;have aa:fits true 3 (.agg (mkC 1 i))=true:=rfl;simp only[go_sem,zE,zA,zM,zL,aa,yQ1];refine xZ4 E aa ⟨by simp only;omega,by omega⟩ (by omega) (by rw[lLa,aw];simp only;omega) (zZ3 (by exact aw)) λO A=>?_;have am:O g=some (.box (cs++mksT (i+1)++rest.drop (mkC 1 i).length)):=by rw[A,ISt.put_same,mksT];simp only[IV.cells,List.append_assoc]
   have aF:(rest.drop (mkC 1 i).length).length=(12-(i+1))*3:=by rw[List.length_drop,ac];simp only[mkC,List.length_cons,List.length_nil];omega
   have aG:∀b,b≠g->O b=ab b:=λb J=>by rw[A,yZ7 J];exact U b J
   have W:flatSt O:=by rw[A];exact yUm F (zK9 (zKa F E) (wY1 1 i))
   simp only[go_sem,zE,reduceCtorEq,f0,f6,show IntKind.i64.wrap (((i:Nat):Int)+1)=((i+1:Nat):Int) by rw[w64]<;>omega,Nat.add_assoc];exact⟨_,am,aF,aG,W⟩
  ·rintro fr ag _ ⟨⟨rest,f3,E,ac,U,F⟩,f0,f6,rfl⟩;obtain rfl:rest=[]:=List.eq_nil_of_length_eq_zero (by omega);rw[List.append_nil] at E;simp only[go_sem,zE,zL,reduceCtorEq,f0,f3,f6,ah.len,show decide (((12:Nat):Int)<12)=false from rfl];intro _;simp only[go_sem,reduceCtorEq,Nat.le_refl,yK9 (show us.length<=us.length+12 by omega),Nat.zero_mul];have aE:subSt ((nw st ab).put g none) (nw st ag):=λb o J=>by
    rw[ISt.put_apply] at J;split at J
    ·cases J
    ·rename_i aj;obtain⟨h1,h2⟩:=yJh J;exact xXr h1 (by rw[U b aj];exact h2)
   refine yQ0 ⟨g,cs,rfl,xXr hg E,af.mono aE,λb o J=>?_,F⟩;have aj:b≠g:=by rintro rfl;rw[hg] at J;cases J
   rw[U b aj];exact D _ _ J
theorem zX1:∀(k:Nat)(us:List Tm),SizeOf.sizeOf us<k->LTP gl us
 | 0,f,h=>by omega
 | k+1,us,h=>zYi gl us (λv n l A=>zX1 k l (by
   have:=lSm A;simp at this;omega))
theorem zWr (us:List Tm):LTP gl us:=zX1 gl _ us (Nat.lt_succ_self _)
theorem wZ1 (a:Tm)(x:IV)(A:IsTm a x)(D:a.size<=1099511627776)(st:ISt)(E:flatSt st):ICall prog gl 57 [x] st (λr st'=>∃c,r=.agg c/\LTt (nw st st') a c/\subSt st st'/\flatSt st'):=by
 obtain⟨v,n,us⟩:=a;exact zX2 gl v n us (zWr gl us) x A D st E
def LFP (a:Fm):Prop:=∀(x:IV) (_:IsFm a x) (_:a.size<=1099511627776) (st:ISt) (_:flatSt st),ICall prog gl 56 [x] st (λr st'=>∃c,r=.agg c/\LFf (nw st st') a c/\subSt st st'/\flatSt st')
theorem zQ8 (us:List Fm)(IH:∀a∈us,LFP gl a)(tg:Tag)(xs:List IV)(aE:okEs tg 4)(ah:IsFms us xs)(aN:yQ9 us<=1099511627776)(st:ISt)(hf:flatSt st) :
  ICall prog gl 94 [.sl tg xs] st (λr st'=>∃a cs,r=.raw (.slice (some ⟨a,0,none⟩) us.length (us.length+12))/\nw st st' a=some (.box (cs++mksF 12))/\LFc (nw st st') us cs/\subSt st st'/\flatSt st'):=by
 have aL:=yQs us;have aC:IntKind.i64.wrap ((us.length:Int)+12)=((us.length+12:Nat):Int):=by rw[w64]<;>omega
 refine ICall.intro (c:=cf prog gl [10] []) func94 rfl (by show _<=39;simp) (by kernel_rfl) ?_;simp only[go_sem,reduceCtorEq,ah.len];intro _;simp only[go_sem,aC];refine yQv ⟨by omega,by omega,by omega⟩ λg=>yQd λhg=>?_;refine LoopC.ctr us.length (λk fr st' ds=>(∃cs rest,fr 3=.iv (.raw (.slice (some ⟨g,0,none⟩) k (us.length+12)))/\st' g=some (.box (cs++rest))/\rest.length=(us.length+12-k)*4/\LFc ((nw st st').put g none) (us.take k) cs/\subSt st st'/\flatSt st') /\
  fr 0=.iv (.sl tg xs)/\fr 4=.iv (.raw (.int .i64 k))/\ds=[]) ?_ ?_ ?_
 ·have an:∀c∈List.replicate ((us.length+12)*4) IV.junk,yU4 c:=λc hc=>by
   obtain rfl:=List.eq_of_mem_replicate hc;trivial
  have J:st.put g (some (.box (List.replicate ((us.length+12)*4) .junk))) g=some (.box ([]++List.replicate ((us.length+12)*4) .junk)):=ISt.put_same ..;have D:=yQe (o:=some (.box (List.replicate ((us.length+12)*4) .junk))) hg;have ae:=yUm (g:=g) hf an;generalize st.put g (some (.box (List.replicate ((us.length+12)*4) .junk)))=aM at J D ae;simp only[go_sem,zE,reduceCtorEq];exact⟨⟨[],_,J,List.length_replicate ..,rfl,D,ae⟩,rfl⟩
 ·rintro k fr ab _ ak ⟨⟨cs,rest,f3,E,ac,af,D,ae⟩,f0,f4,rfl⟩;obtain⟨a,ha⟩:=yQ3 ak;obtain⟨x,aJ,hx⟩:=ah.get ha;obtain⟨h1,h2⟩:=yQq ha;have ao:cs.length=k*4:=by rw[af.len,List.length_take];congr 1;omega
  have aq:=IH a (lMg ha) x hx (by omega) ab ae;obtain⟨v5,n5,t5,x5,t6,x6,rfl⟩:=hx.agg;simp only[go_sem,zE,zB,zA,reduceCtorEq,f0,f4,ah.len,lt_i ak,yQ2 aE,iNn,aJ,fits];intro _;refine aq.mono ?_;rintro _ ag ⟨c,rfl,hc,G,F⟩;have al:=hc.len;have aa:fits true 4 (.agg c)=true:=by rw[xGh,al,hc.all];rfl
  have aD:c.take 4=c:=List.take_of_length_le (by omega);simp only[go_sem,zE,zA,zM,zL,f3,aD,al,hc.all,fits,yQ1];refine xZ4 (G _ _ E) aa ⟨by simp only;omega,by omega⟩ (by omega) (by simp only[lLa];omega) (zZ3 (by exact ao)) λO A=>?_;have am:O g=some (.box (cs++c++rest.drop c.length)):=by rw[A];exact ISt.put_same ..
  have ax:LFc ((nw st O).put g none) (us.take (k+1)) (cs++c):=by
   rw[yQ4 ha,A];exact LFc.snoc (hc.mono (wU6 D E)) (af.mono (wU5 G))
  have ai:subSt st O:=λb o J=>by
   have aj:b≠g:=by rintro rfl;rw[hg] at J;cases J
   rw[A,yZ7 aj];exact G _ _ (D _ _ J)
  have W:flatSt O:=by rw[A];exact yUm F (zK9 (zKa F (G _ _ E)) hc.flat)
  simp only[go_sem,zE,reduceCtorEq,f0,f4,yQb ak (show us.length<=281474976710656 by omega)]
  first
   | exact⟨cs++c,rest.drop c.length,rfl,am,by rw[List.length_drop,ac,al];omega,ax,ai,W⟩
   | exact⟨cs++c,rest.drop c.length,am,by rw[List.length_drop,ac,al];omega,ax,ai,W⟩
 ·rintro fr ab _ ⟨⟨cs,rest,f3,E,ac,af,D,ae⟩,f0,f4,rfl⟩;rw[lTl] at af;have ao:cs.length=us.length*4:=af.len;simp only[go_sem,zE,reduceCtorEq,f0,f4,ah.len,yQj (nLi _)];intro _;refine LoopC.ctr 12 (λi fr st' ds=>(∃rest,fr 3=.iv (.raw (.slice (some ⟨g,0,none⟩) (us.length+i) (us.length+12)))/\st' g=some (.box (cs++mksF i++rest))/\rest.length=(12-i)*4/\(∀b,b≠g->st' b=ab b)/\flatSt st') /\
   fr 0=.iv (.sl tg xs)/\fr 6=.iv (.raw (.int .i64 i))/\ds=[]) ?_ ?_ ?_
  ·have aw:ab g=some (.box (cs++mksF 0++rest)):=by simpa[mksF] using E
   have au:rest.length=(12-0)*4:=by omega
   simp only[go_sem,zE,zM,reduceCtorEq,f0,f3];exact⟨⟨rest,aw,au,λ_ _=>trivial,ae⟩,rfl⟩
  ·rintro i fr ag _ ak ⟨⟨rest,f3,E,ac,U,F⟩,f0,f6,rfl⟩;have aI:=yUk gl 1 i ag;have av:(cs++mksF i).length=(us.length+i)*4:=by rw[lLa,ao,yYv];omega
   simp only[go_sem,zE,zA,f3,f6,show decide (((i:Nat):Int)<12)=true from dEt (by omega)];refine aI.mono ?_;rintro _ ag ⟨rfl,rfl⟩;have aa:fits true 4 (.agg (mkD 1 i))=true:=rfl;simp only[go_sem,zE,zA,zM,zL,aa,yQ1];refine xZ4 E aa ⟨by simp only;omega,by omega⟩ (by omega) (by rw[lLa,av];simp only;omega) (zZ3 (by exact av)) λO A=>?_;have am:O g=some (.box (cs++mksF (i+1)++rest.drop (mkD 1 i).length)):=by rw[A,ISt.put_same,mksF];simp only[IV.cells,List.append_assoc]
   have aG:(rest.drop (mkD 1 i).length).length=(12-(i+1))*4:=by rw[List.length_drop,ac];simp only[mkD,List.length_cons,List.length_nil];omega
   have aH:∀b,b≠g->O b=ab b:=λb J=>by rw[A,yZ7 J];exact U b J
   have W:flatSt O:=by rw[A];exact yUm F (zK9 (zKa F E) (wY0 1 i))
   simp only[go_sem,zE,reduceCtorEq,f0,f6,show IntKind.i64.wrap (((i:Nat):Int)+1)=((i+1:Nat):Int) by rw[w64]<;>omega,Nat.add_assoc];exact⟨_,am,aG,aH,W⟩
  ·rintro fr ag _ ⟨⟨rest,f3,E,ac,U,F⟩,f0,f6,rfl⟩;obtain rfl:rest=[]:=List.eq_nil_of_length_eq_zero (by omega);rw[List.append_nil] at E;simp only[go_sem,zE,zL,reduceCtorEq,f0,f3,f6,ah.len,show decide (((12:Nat):Int)<12)=false from rfl];intro _;simp only[go_sem,reduceCtorEq,Nat.le_refl,yK9 (show us.length<=us.length+12 by omega),Nat.zero_mul];have aF:subSt ((nw st ab).put g none) (nw st ag):=λb o J=>by
    rw[ISt.put_apply] at J;split at J
    ·cases J
    ·rename_i aj;obtain⟨h1,h2⟩:=yJh J;exact xXr h1 (by rw[U b aj];exact h2)
   refine yQ0 ⟨g,cs,rfl,xXr hg E,af.mono aF,λb o J=>?_,F⟩;have aj:b≠g:=by rintro rfl;rw[hg] at J;cases J
   rw[U b aj];exact D _ _ J
theorem xZ5 (op:Nat)(n:ByteArray)(us:List Tm)(sub:List Fm)(IH:∀a∈sub,LFP gl a):LFP gl (.mk op n us sub):=by
 intro x J O st A;obtain⟨t1,E,t2,D,rfl,U,e1,i1,W,i2⟩:=J.mk;simp only[Fm.size] at O;have h1:=zWr gl us t1 E e1 i1 (by omega) st A;have h2:=λst A=>zQ8 gl sub IH t2 D W i2 (by omega) st A;refine iI func56 ?_;simp only[go_sem,zE,zA];refine h1.mono ?_;rintro _ G ⟨a,cs,rfl,a1,a2,a3,a4⟩;simp only[go_sem,zE,zA,zL];refine (h2 _ a4).mono ?_;rintro _ F ⟨b,ds,rfl,b1,b2,b3,b4⟩;simp only[go_sem,zE,zA,zL];exact yQc (λ_ _ h=>h) ⟨_,rfl,⟨a,cs,b,ds,U,rfl,nw_l b3 _ _ a1,a2.mono (nw_l b3),nw_r a3 _ _ b1,b2.mono (nw_r a3)⟩,λ_ _ h=>b3 _ _ (a3 _ _ h),b4⟩
theorem zJo:∀(k:Nat)(a:Fm),SizeOf.sizeOf a<k->LFP gl a
 | 0,f,h=>by omega
 | k+1,.mk o n us sub,h=>xZ5 gl o n us sub (λa A=>zJo k a (by
   have:=lSm A;simp at h;omega))
theorem zU2 (a:Fm):LFP gl a:=zJo gl _ a (Nat.lt_succ_self _)
theorem zWt (us:List Fm)(D:Tag)(A:List IV)(F:okEs D 4)(E:IsFms us A)(G:yQ9 us<=1099511627776)(st:ISt)(J:flatSt st) :
  ICall prog gl 94 [.sl D A] st (λr st'=>∃a cs,r=.raw (.slice (some ⟨a,0,none⟩) us.length (us.length+12))/\nw st st' a=some (.box (cs++mksF 12))/\LFc (nw st st') us cs/\subSt st st'/\flatSt st') :=
 zQ8 gl us (λa _=>zU2 gl a) D A F E G st J
def LSq (T:ISt)(s:Sq)(x:IV):Prop:=∃a cs b ds,x=.agg [.raw (.slice (some ⟨a,0,none⟩) s.l.length (s.l.length+12)),.raw (.slice (some ⟨b,0,none⟩) s.r.length (s.r.length+12))]/\T a=some (.box (cs++mksF 12))/\LFc T s.l cs/\T b=some (.box (ds++mksF 12))/\LFc T s.r ds
theorem LSq.mono {T T':ISt}{s:Sq}{x:IV}(h:subSt T T')(k:LSq T s x):LSq T' s x:=by
 obtain⟨a,cs,b,ds,h1,h2,E,D,A⟩:=k;exact⟨a,cs,b,ds,h1,h _ _ h2,E.mono h,h _ _ D,A.mono h⟩
theorem zWs (s:Sq)(x:IV)(J:IsSq s x)(U:yQ9 s.l<=1099511627776)(O:yQ9 s.r<=1099511627776)(st:ISt)(A:flatSt st) :
  ICall prog gl 45 [x] st (λr st'=>LSq (nw st st') s r/\subSt st st'/\flatSt st'):=by
 obtain⟨t1,E,t2,D,rfl,e1,i1,W,i2⟩:=J;have h1:=zWt gl s.l t1 E e1 i1 U st A;have h2:=λst A=>zWt gl s.r t2 D W i2 O st A;refine iI func45 ?_;simp only[go_sem,zE,zA];refine h1.mono ?_;rintro _ G ⟨a,cs,rfl,a1,a2,a3,a4⟩;simp only[go_sem,zE,zA,zL];refine (h2 _ a4).mono ?_;rintro _ F ⟨b,ds,rfl,b1,b2,b3,b4⟩;simp only[go_sem,zE,zA,zL];exact yQc (λ_ _ h=>h) ⟨⟨a,cs,b,ds,rfl,nw_l b3 _ _ a1,a2.mono (nw_l b3),nw_r a3 _ _ b1,b2.mono (nw_r a3)⟩,λ_ _ h=>b3 _ _ (a3 _ _ h),b4⟩
def sCT (us:List Tm):Prop:=∀(E:Tag) (D:List IV) (_:okEs E 3) (_:IsTms us D) (_:yQa us<=1099511627776) (st:ISt),
 ICall prog gl 176 [.sl E D,.fn (.func 177) [] []] st (λr st'=>∃A ys,r=.sl A ys/\okEs A 3/\appT us.length A/\IsTmsD us ys/\st'=st)
theorem zY5 (v:Bool)(n:ByteArray)(us:List Tm)(IH:sCT gl us)(x:IV)(J:IsTm (.mk v n us) x)(O:(Tm.mk v n us).size<=1099511627776)(st:ISt) :
  ICall prog gl 177 [x] st (λr st'=>IsTmD (.mk v n us) r/\st'=st):=by
 obtain⟨F,cx,rfl,D,E⟩:=J.mk;simp only[Tm.size] at O;have A:=IH F cx D E (by omega) st;refine iI func177 ?_;simp only[go_sem,zE,zA];refine A.mono ?_;rintro _ _ ⟨G,ys,rfl,U,W,hys,rfl⟩;simp only[go_sem,zE,zA,zL,fits];exact yQ0 ⟨IsTmD.intro U W hys,rfl⟩
theorem zKx (us:List Tm)(IH:∀v n l,Tm.mk v n l∈us->sCT gl l):sCT gl us:=by
 intro tg xs ah G av st;have al:=yX0 us;refine iI func176 ?_;simp only[go_sem,reduceCtorEq,G.len];intro _;refine yZb (λh=>?_) (λh=>?_)
 ·obtain rfl:us=[]:=List.eq_nil_of_length_eq_zero (by simpa using h);simp only[go_sem];exact yQ0 ⟨_,_,rfl,.inl rfl,.inl rfl,IsTmsD.nil,rfl⟩
 have F:0<us.length:=Nat.pos_of_ne_zero λh0=>by simp[h0] at h
 simp only[go_sem,reduceCtorEq,G.len];intro _;refine yQv ⟨iNn _,by omega,by omega⟩ λg=>yQd λhg=>?_;intro _;refine LoopC.ctr us.length (λk fr st' ds=>(∃A ys,fr 5=.iv (.sl A ys)/\IsTmsD (us.take k) ys/\appT us.length A/\own st' A k 3 st/\subSt st st')/\fr 1=.iv (.fn (.func 177) [] []) /\
  fr 14=.iv (.sl tg xs)/\fr 15=.iv (.raw (.int .i64 us.length))/\fr 16=.iv (.raw (.int .i64 k))/\ds=[]) ?_ ?_ ?_
 ·simp only[go_sem,zE];exact⟨⟨_,_,rfl,IsTmsD.nil,.inr ⟨F,rfl,g,rfl⟩,.inr (.inr ⟨g,rfl,ISt.put_same _ _ _,hg⟩),yZ4 (subSt.refl _) hg⟩,rfl⟩
 ·rintro k fr ab _ U ⟨⟨A,ys,f5,hys,ae,E,D⟩,f1,f14,f15,f16,rfl⟩;obtain⟨a,ha⟩:=yQ3 U;obtain⟨x,ai,hx⟩:=G.get ha;obtain⟨h1,h2⟩:=yZg ha;have W:ys.length=k:=by rw[hys.len,List.length_take];omega
  obtain⟨v2,n2,m⟩:=a;have aa:=zY5 gl v2 n2 m (IH _ _ _ (lMg ha)) x hx (by omega) ab;obtain⟨tx,cx,rfl,au,ax⟩:=hx.mk;simp only[go_sem,zE,zB,zA,zL,f1,f5,f14,f15,f16,lt_i U,yQ2 ah,iNn,ai,fits];refine aa.mono ?_;rintro r _ ⟨hr,rfl⟩;have hn:IsTmsD (us.take (k+1)) (ys++[r]):=by
   rw[yQ4 ha];exact hys.append (IsTmsD.one hr)
  obtain⟨t3,x3,rfl,_⟩:=IsTmD.mk hr;simp only[go_sem,zE,zA,zM,zL,fits,yQ1];refine yZy E W D rfl (by simp[fits,IV.one]) (by simp only;omega) (by omega) λag st4 O J _ ac=>?_;simp only[go_sem,zE,f1,f14,f15,f16,yQb U (show us.length<=281474976710656 by omega)];exact⟨ag,_,rfl,hn,ac.pos F,O,J⟩
 ·rintro fr ab _ ⟨⟨A,ys,f5,hys,ae,E,D⟩,f1,f14,f15,f16,rfl⟩;rw[lTl] at hys;simp only[go_sem,zE,f5,f15,f16,yQj (nLi _)];exact yQc (st':=st) D ⟨A,ys,rfl,E.es,ae,hys,rfl⟩
theorem zQ1:∀(k:Nat)(us:List Tm),SizeOf.sizeOf us<k->sCT gl us
 | 0,f,h=>by omega
 | k+1,us,h=>zKx gl us (λv n l A=>zQ1 k l (by
   have:=lSm A;simp at this;omega))
theorem xZz (us:List Tm):sCT gl us:=zQ1 gl _ us (Nat.lt_succ_self _)
def sCF (f:Fm):Prop:=∀(x:IV) (_:IsFm f x) (_:f.size<=1099511627776) (st:ISt),ICall prog gl 132 [x] st (λr st'=>IsFmD f r/\st'=st)
theorem zKy (us:List Fm)(IH:∀a∈us,sCF gl a)(tg:Tag)(xs:List IV)(aj:okEs tg 4)(G:IsFms us xs)(aq:yQ9 us<=1099511627776)(st:ISt) :
  ICall prog gl 178 [.sl tg xs,.fn (.func 132) [] []] st (λr st'=>∃A ys,r=.sl A ys/\okEs A 4/\appT us.length A/\IsFmsD us ys/\st'=st):=by
 have an:=yQs us;refine iI func178 ?_;simp only[go_sem,reduceCtorEq,G.len];intro _;refine yZb (λh=>?_) (λh=>?_)
 ·obtain rfl:us=[]:=List.eq_nil_of_length_eq_zero (by simpa using h);simp only[go_sem];exact yQ0 ⟨_,_,rfl,.inl rfl,.inl rfl,IsFmsD.nil,rfl⟩
 have F:0<us.length:=Nat.pos_of_ne_zero λh0=>by simp[h0] at h
 simp only[go_sem,reduceCtorEq,G.len];intro _;refine yQv ⟨iNn _,by omega,by omega⟩ λg=>yQd λhg=>?_;intro _;refine LoopC.ctr us.length (λk fr st' ds=>(∃A ys,fr 5=.iv (.sl A ys)/\IsFmsD (us.take k) ys/\appT us.length A/\own st' A k 4 st/\subSt st st')/\fr 1=.iv (.fn (.func 132) [] []) /\
  fr 14=.iv (.sl tg xs)/\fr 15=.iv (.raw (.int .i64 us.length))/\fr 16=.iv (.raw (.int .i64 k))/\ds=[]) ?_ ?_ ?_
 ·simp only[go_sem,zE];exact⟨⟨_,_,rfl,IsFmsD.nil,.inr ⟨F,rfl,g,rfl⟩,.inr (.inr ⟨g,rfl,ISt.put_same _ _ _,hg⟩),yZ4 (subSt.refl _) hg⟩,rfl⟩
 ·rintro k fr ab _ U ⟨⟨A,ys,f5,hys,ae,E,D⟩,f1,f14,f15,f16,rfl⟩;obtain⟨a,ha⟩:=yQ3 U;obtain⟨x,ak,hx⟩:=G.get ha;obtain⟨h1,h2⟩:=yQq ha;have W:ys.length=k:=by rw[hys.len,List.length_take];omega
  have aa:=IH a (lMg ha) x hx (by omega) ab;obtain⟨o5,n5,t5,x5,t6,x6,rfl⟩:=hx.agg;simp only[go_sem,zE,zB,zA,zL,f1,f5,f14,f15,f16,lt_i U,yQ2 aj,iNn,ak,fits];refine aa.mono ?_;rintro r _ ⟨hr,rfl⟩;have hn:IsFmsD (us.take (k+1)) (ys++[r]):=by
   rw[yQ4 ha];exact hys.append (IsFmsD.one hr)
  obtain⟨o7,n7,t7,x7,t8,x8,rfl⟩:=IsFmD.aggs hr;simp only[go_sem,zE,zA,zM,zL,fits,yQ1];refine yZy E W D rfl (by simp[fits,IV.one]) (by simp only;omega) (by omega) λah st4 O J _ ac=>?_;simp only[go_sem,zE,f1,f14,f15,f16,yQb U (show us.length<=281474976710656 by omega)];exact⟨ah,_,rfl,hn,ac.pos F,O,J⟩
 ·rintro fr ab _ ⟨⟨A,ys,f5,hys,ae,E,D⟩,f1,f14,f15,f16,rfl⟩;rw[lTl] at hys;simp only[go_sem,zE,f5,f15,f16,yQj (nLi _)];exact yQc (st':=st) D ⟨A,ys,rfl,E.es,ae,hys,rfl⟩
theorem xUm (o:Nat)(n:ByteArray)(us:List Tm)(sub:List Fm)(IH:∀a∈sub,sCF gl a):sCF gl (.mk o n us sub):=by
 intro x hx hs st;obtain⟨t1,x1,t2,x2,rfl,ho,G,E,F,D⟩:=hx.mk;simp only[Fm.size] at hs;have U:=xZz gl us t1 x1 G E (by omega) st;have O:=zKy gl sub IH t2 x2 F D (by omega) st;refine ICall.intro (c:=cf prog gl [] [(1,[0,1,2,3,4,5,7,8,6,9,10,11])]) func132 rfl (by show _<=14;simp) (by kernel_rfl) ?_;simp only[go_sem,zE,zA];refine U.mono ?_;rintro _ _ ⟨af,ys,rfl,he,ha,hys,rfl⟩;simp only[go_sem,zE,zA];refine O.mono ?_;rintro _ _ ⟨ae,aa,rfl,J,W,A,rfl⟩;simp only[go_sem,zE,zA,zL,fits];exact yQ0 ⟨IsFmD.intro ho he ha hys J W A,rfl⟩
theorem xZy:∀(k:Nat)(f:Fm),SizeOf.sizeOf f<k->sCF gl f
 | 0,f,h=>by omega
 | k+1,.mk o n us sub,h=>xUm gl o n us sub (λa A=>xZy k a (by
   have:=lSm A;simp only[Fm.mk.sizeOf_spec] at h;omega))
theorem vQx (f:Fm):sCF gl f:=xZy gl _ f (Nat.lt_succ_self _)
theorem xVw (us:List Fm)(tg:Tag)(xs:List IV)(ah:okEs tg 4)(aa:IsFms us xs)(an:yQ9 us<=1099511627776)(st:ISt) :
  ICall prog gl 91 [.sl tg xs] st (λr st'=>∃A ys,r=.sl A ys/\okEs A 4/\(appT us.length A/\A.fresh=true)/\IsFmsD us ys/\own st' A us.length 4 st/\subSt st st'):=by
 have am:=yQs us;refine iI func91 ?_;simp only[go_sem,reduceCtorEq,aa.len];intro _;refine LoopC.ctr us.length (λk fr st' ds=>(∃A ys,fr 3=.iv (.sl A ys)/\IsFmsD (us.take k) ys/\(appT k A/\A.fresh=true)/\own st' A k 4 st/\subSt st st') /\
  fr 6=.iv (.sl tg xs)/\fr 7=.iv (.raw (.int .i64 us.length))/\fr 8=.iv (.raw (.int .i64 k))/\ds=[]) ?_ ?_ ?_
 ·simp only[go_sem,zE];exact⟨⟨_,_,rfl,IsFmsD.nil,⟨.inl rfl,rfl⟩,own.nil _ _ _ _ _,subSt.refl _⟩,rfl⟩
 ·rintro k fr W _ J ⟨⟨A,ys,f3,hys,ac,D,E⟩,f6,f7,f8,rfl⟩;obtain⟨a,ha⟩:=yQ3 J;obtain⟨x,ai,hx⟩:=aa.get ha;obtain⟨h1,h2⟩:=yQq ha;have O:ys.length=k:=by rw[hys.len,List.length_take];omega
  have U:=vQx gl a x hx (by omega) W;obtain⟨o5,n5,t5,x5,t6,x6,rfl⟩:=hx.agg;simp only[go_sem,zE,zB,zA,zL,f3,f6,f7,f8,lt_i J,yQ2 ah,iNn,ai,fits];refine U.mono ?_;rintro r _ ⟨hr,rfl⟩;have hn:IsFmsD (us.take (k+1)) (ys++[r]):=by
   rw[yQ4 ha];exact hys.append (IsFmsD.one hr)
  obtain⟨o7,n7,t7,x7,t8,x8,rfl⟩:=IsFmD.aggs hr;simp only[go_sem,zE,zA,zM,zL,fits,yQ1];refine yZy D O E rfl (by simp[fits,IV.one]) (by simp only;omega) (by omega) λaf st4 F G _ ab=>?_;simp only[go_sem,zE,f6,f7,f8,yQb J (show us.length<=281474976710656 by omega)];exact⟨af,_,rfl,hn,⟨ab,by
   rcases F with⟨h0,_⟩|rfl|⟨_,rfl,_⟩
   ·omega
   ·rfl
   ·rfl⟩,F,G⟩
 ·rintro fr W _ ⟨⟨A,ys,f3,hys,ac,D,E⟩,f6,f7,f8,rfl⟩;rw[lTl] at hys;simp only[go_sem,zE,f3,f7,f8,yQj (nLi _)];exact yQ0 ⟨A,ys,rfl,D.es,ac,hys,D,E⟩
end Go.Proofs.Tryz
namespace Go.Proofs.Tryz
open Go Go.Iv
mutual
def opsB (ca:Nat):Fm->Bool
 | .mk op _ us sub=>decide (1<=op)&&decide (op<=if ca=3 then 9 else 7)&&(decide (ca=3) || us.isEmpty)&&yGb ca sub
def yGb (ca:Nat):List Fm->Bool
 | []=>true
 | a::l=>opsB ca a&&yGb ca l
end
def fmB (ca:Nat)(f:Fm):Bool:=f.right&&opsB ca f
def yX7 (ca:Nat):Bool:=decide (1<=ca)&&decide (ca<=3)
noncomputable def eqF (a b:Fm):Bool:=decide (a.op=b.op)&&yKz a b
noncomputable def hasF (l:List Fm)(f:Fm):Bool:=l.any (eqF f)
noncomputable def allF (l m:List Fm):Bool:=l.all (hasF m)
noncomputable def yXf (a b:Sq):Bool:=allF a.l b.l&&allF a.r b.r
noncomputable def zXo:List Fm->Bool
 | []=>true
 | a::l=>(a::l).all λf=>eqF f a
noncomputable def yXl (ca:Nat)(s:Sq):Bool :=
 yX7 ca&&decide (s.l.length<=64)&&decide (s.r.length<=64)&&s.l.all (fmB ca)&&s.r.all (fmB ca)&&(decide (ca≠2) || zXo s.r)
structure Rw where
 left:Bool
 right:Bool
 op:Nat
 asks:Nat
def rowK (rule:Nat):Option Rw :=
 if rule=1 then some ⟨true,true,0,0⟩ else if rule=2 then some ⟨true,false,2,0⟩ else if rule=3 then some ⟨true,false,3,0⟩ else if rule=4 then some ⟨false,true,3,0⟩
 else if rule=5 then some ⟨true,false,4,0⟩ else if rule=6 then some ⟨false,true,4,0⟩ else if rule=7 then some ⟨true,false,5,0⟩ else if rule=8 then some ⟨false,true,5,0⟩
 else if rule=9 then some ⟨true,false,6,0⟩ else if rule=10 then some ⟨false,true,6,0⟩ else if rule=11 then some ⟨true,false,7,0⟩ else if rule=12 then some ⟨false,true,7,0⟩
 else if rule=17 then some ⟨false,false,0,0⟩ else none
def rowS (ca rule:Nat):Option Rw :=
 if ca=2/\rule=18 then some ⟨false,true,5,0⟩
 else if ca=3/\rule=13 then some ⟨true,false,8,1⟩ else if ca=3/\rule=14 then some ⟨false,true,8,2⟩
 else if ca=3/\rule=15 then some ⟨true,false,9,2⟩ else if ca=3/\rule=16 then some ⟨false,true,9,1⟩ else rowK rule
def bE:ByteArray:=⟨#[]⟩
def impF (a b:Fm):Fm:=.mk 6 bE [] [a,b]
def addS (ca rule:Nat)(main a b:Fm):List Sq :=
 if rule=3 then [⟨[],[a]⟩] else if rule=4 then [⟨[a],[]⟩] else if rule=5 then [⟨[a,b],[]⟩] else if rule=6 then [⟨[],[a]⟩,⟨[],[b]⟩]
 else if rule=7 then [⟨[a],[]⟩,⟨[b],[]⟩] else if rule=8 then (if ca=2 then [⟨[],[a]⟩] else [⟨[],[a,b]⟩]) else if rule=9 then [⟨[],[a]⟩,⟨[b],[]⟩]
 else if rule=10 then [⟨[a],[b]⟩] else if rule=11 then [⟨[impF a b,impF b a],[]⟩] else if rule=12 then [⟨[a],[b]⟩,⟨[b],[a]⟩]
 else if rule=13 then [⟨[a],[]⟩] else if rule=14 then [⟨[],[a]⟩] else if rule=15 then [⟨[a],[]⟩] else if rule=16 then [⟨[],[a]⟩]
 else if rule=17 then [⟨[],[main]⟩,⟨[main],[]⟩] else if rule=18 then [⟨[],[b]⟩] else []
noncomputable def yZl (ca rule:Nat)(r:Rw)(main:Fm)(term:Tm)(name:ByteArray):List Sq×Nat :=
 if !fmB ca main || (decide (r.op≠0)&&decide (main.op≠r.op)) then ([],192)
 else
  let a:=(main.subs[0]?).getD fm0
  let b:=(main.subs[1]?).getD fm0
  if r.asks=0 then (addS ca rule main a b,0)
  else
   let t:=if r.asks=2 then .mk true name [] else term
   if !t.ok then ([],193)
   else if (yZf a [(main.nm,t)]).2≠0 then ([],193) else (addS ca rule main (yZf a [(main.nm,t)]).1 b,0)
noncomputable def yKj (s:Sq)(n:ByteArray):Bool:=s.l.any (λf=>memB (frF f) n) || s.r.any (λf=>memB (frF f) n)
noncomputable def yZt (ca:Nat)(s:Sq)(rule:Nat)(main:Fm)(term:Tm)(name:ByteArray):List Sq×Nat :=
 if !yXl ca s then ([],190)
 else match rowS ca rule with
  | none=>([],191)
  | some r =>
   if decide ((yZl ca rule r main term name).2=192) || (r.left&&!hasF s.l main) || (r.right&&!hasF s.r main) then ([],192)
   else if (yZl ca rule r main term name).2≠0 then ([],(yZl ca rule r main term name).2)
   else if decide (r.asks=2)&&yKj s name then ([],193)
   else ((yZl ca rule r main term name).1,0)
noncomputable def yJ2 (s:Sq):List Sq->List Tr->Bool
 | m::l,t::A=>yXf t.sq (s.plus m)&&yJ2 s l A
 | _,_=>true
noncomputable def yZj (ca:Nat):Tr->Nat
 | .mk rule s main term name sub =>
  if (yZt ca s rule main term name).2≠0 then (yZt ca s rule main term name).2
  else if sub.length≠(yZt ca s rule main term name).1.length then 194
  else if yJ2 s (yZt ca s rule main term name).1 sub then 0 else 195
noncomputable def yXx (ca:Nat)(t:Tr):List Nat×Nat :=
 if !yX7 ca then ([],2) else if 300<t.steps then ([],5) else yZ0 (yZj ca) (t.walk [])
end Go.Proofs.Tryz
namespace Go.Iv
open Go
theorem ICall.give {P:Program}{gl:Nat->Option IV}{f:FuncId}{args:List IV}{st:ISt}{K:IV->ISt->Prop}(h:ICall P gl f args st (λr st'=>∃A,subSt A st'/\K r A)):ICall P gl f args st K:=by
 intro B X rs O E G;refine (h B X rs O E G).mono ?_;rintro e w' ⟨v,rfl,X',x,rfl,h2,h3,W,A,J,U⟩;obtain⟨F,D⟩:=h2.sub J;exact⟨v,rfl,{ X' with st:=A },x,rfl,F,h3.trans D,D.v W,U⟩
end Go.Iv
namespace Go.Proofs.Tryz
open Go Go.Iv
set_option maxRecDepth 4000
variable (gl:Nat->Option IV)
theorem yWt (us:List Fm)(F:Tag)(E:List IV)(J:okEs F 4)(G:IsFms us E)(O:yQ9 us<=1099511627776)(st:ISt) :
  ICall prog gl 91 [.sl F E] st (λr st'=>∃A ys,r=.sl A ys/\okEs A 4/\appT us.length A/\IsFmsD us ys/\st'=st) :=
 ICall.give ((xVw gl us F E J G O st).mono λr st' h=>by
  obtain⟨A,ys,rfl,U,W,hys,_,D⟩:=h;exact⟨st,D,A,ys,rfl,U,W.1,hys,rfl⟩)
def IsSqD (s:Sq)(x:IV):Prop:=∃t1 D t2 A,x=.agg [.sl t1 D,.sl t2 A]/\okEs t1 4/\appT s.l.length t1/\IsFmsD s.l D/\okEs t2 4/\appT s.r.length t2/\IsFmsD s.r A
theorem IsSqD.w {s:Sq}{x:IV}(h:IsSqD s x):IsSq s x:=by
 obtain⟨t1,F,t2,E,rfl,D,_,i1,A,_,i2⟩:=h;exact⟨_,_,_,_,rfl,D,i1.1,A,i2.1⟩
def IsSqsD:List Sq->List IV->Prop
 | [],A=>A=[]
 | a::l,A=>∃y ys,A=y::ys/\IsSqD a y/\IsSqsD l ys
theorem IsSqsD.w:∀ {l:List Sq}{A:List IV},IsSqsD l A->IsSqs l A
 | [],_,h=>h
 | a::l,_,⟨y,ys,h1,h2,D⟩=>⟨y,ys,h1,h2.w,D.w⟩
theorem IsSqsD.append:∀ {l m:List Sq}{A ys:List IV},IsSqsD l A->IsSqsD m ys->IsSqsD (l++m) (A++ys)
 | [],m,_,ys,rfl,k=>k
 | a::l,m,_,ys,⟨z,zs,rfl,h2,D⟩,k=>⟨z,zs++ys,rfl,h2,D.append k⟩
theorem IsSqsD.mem:∀ {l:List Sq}{A:List IV},IsSqsD l A->∀ {k:Nat}{x:IV},A[k]?=some x->∃s,l[k]?=some s/\IsSqD s x
 | [],_,rfl,k,x,h=>by simp at h
 | a::l,_,⟨y,ys,rfl,h2,D⟩,0,x,h=>by cases h;exact⟨a,rfl,h2⟩
 | a::l,_,⟨y,ys,rfl,h2,D⟩,k+1,x,h=>IsSqsD.mem D (by simpa using h)
theorem zYs {t:Tag}{A:List IV}{l:List Fm}(D:appT l.length t)(h:IsFmsD l A):dfr (.sl t A):=by
 simp only[dfr];exact⟨D.to h.len,h.2,h.1.cells_one⟩
theorem IsSqD.one {s:Sq}{x:IV}(h:IsSqD s x):x.cells.length=2/\∀c∈x.cells,c.one=true:=by
 obtain⟨t1,D,t2,A,rfl,_⟩:=h;refine⟨rfl,λc hc=>?_⟩;simp only[IV.cells,List.mem_cons,List.not_mem_nil,or_false] at hc;rcases hc with rfl|rfl<;>rfl
theorem IsSqD.dfr {s:Sq}{x:IV}(h:IsSqD s x):dfr x:=by
 have h1:=h.one.2;obtain⟨t1,E,t2,D,rfl,_,A,i1,_,a2,i2⟩:=h;have d1:=zYs A i1;have d2:=zYs a2 i2;simp only[Go.Iv.dfr,dfrs,and_true] at d1 d2 ⊢;exact⟨⟨d1,d2⟩,h1⟩
theorem yZs {l:List Sq}{A:List IV}(h:IsSqsD l A):∀z∈A,z.cells.length=2:=λz D=>by
 obtain⟨k,F⟩:=List.mem_iff_getElem?.1 D;obtain⟨s,_,E⟩:=h.mem F;exact E.one.1
theorem IsSq.two {s:Sq}{x:IV}(h:IsSq s x):∃t A D ys,x=.agg [.sl t A,.sl D ys]:=by
 obtain⟨t,A,D,ys,rfl,_⟩:=h;exact⟨_,_,_,_,rfl⟩
theorem zJ9 (us:List Fm)(D:Tag)(A:List IV)(F:okEs D 4)(E:IsFms us A)(G:yQ9 us<=1099511627776)(st:ISt) :
  ICall prog gl 153 [.sl D A] st (λr st'=>IsSqD ⟨us,[]⟩ r/\st'=st):=by
 refine iI func153 ?_;simp only[go_sem,zA,reduceCtorEq];refine (yWt gl us D A F E G _).mono ?_;rintro _ _ ⟨J,ys,rfl,O,U,hys,rfl⟩;simp only[go_sem,zE,zA,zL,fits];exact yQ0 ⟨⟨_,_,_,_,rfl,O,U,hys,.inl rfl,.inl rfl,IsFmsD.nil⟩,rfl⟩
theorem yYq (us:List Fm)(D:Tag)(A:List IV)(F:okEs D 4)(E:IsFms us A)(G:yQ9 us<=1099511627776)(st:ISt) :
  ICall prog gl 150 [.sl D A] st (λr st'=>IsSqD ⟨[],us⟩ r/\st'=st):=by
 refine iI func150 ?_;simp only[go_sem,zA,reduceCtorEq];refine (yWt gl us D A F E G _).mono ?_;rintro _ _ ⟨J,ys,rfl,O,U,hys,rfl⟩;simp only[go_sem,zE,zA,zL,fits];exact yQ0 ⟨⟨_,_,_,_,rfl,.inl rfl,.inl rfl,IsFmsD.nil,O,U,hys⟩,rfl⟩
theorem yQ6 (x y:Operand):yJx 2 [(0,x),(1,y)]=true:=rfl
theorem vVo (a b:Fm)(x y:IV)(D:IsFm a x)(A:IsFm b y)(st:ISt):ICall prog gl 208 [x,y] st (λr st'=>IsFm (impF a b) r/\st'=st):=by
 have h1:IsFms [a,b] [x,y]:=⟨_,_,rfl,D,_,_,rfl,A,rfl⟩
 obtain⟨U,n5,t5,J,t6,G,rfl⟩:=D.agg;obtain⟨O,W,t7,F,t8,E,rfl⟩:=A.agg;refine iI func208 ?_;simp only[go_sem,zE,zA,zM,zL,fits,yQ6];exact yQ0 ⟨⟨_,_,_,_,rfl,by decide,.inl rfl,rfl,.inr rfl,h1⟩,rfl⟩
def yGe (id:Nat)(F:Fm->Fm->Fm->List Sq):Prop:=∀(m a b:Fm) (x y z:IV) (_:IsFm m x) (_:IsFm a y) (_:IsFm b z) (_:m.size<=1000000) (_:a.size<=1000000) (_:b.size<=1000000) (st:ISt),
 ICall prog gl id [x,y,z] st (λr st'=>∃A D,r=.sl A D/\okEs A 2/\appT (F m a b).length A/\IsSqsD (F m a b) D/\st'=st)
theorem sq1 {s:Sq}{x:IV}(h:IsSqD s x):IsSqsD [s] [x]:=⟨_,_,rfl,h,rfl⟩
theorem sq2 {s s':Sq}{x A:IV}(h:IsSqD s x)(D:IsSqD s' A):IsSqsD [s,s'] [x,A]:=⟨_,_,rfl,h,_,_,rfl,D,rfl⟩
theorem wVf:yGe gl 197 (λ_ _ _=>[]):=by
 intro m a b x y z E D A hm ha hb st;obtain⟨o1,n1,t1,W,t2,U,rfl⟩:=E.agg;obtain⟨o3,n3,t3,O,t4,J,rfl⟩:=D.agg;obtain⟨o5,n5,t5,G,t6,F,rfl⟩:=A.agg;refine iI func197 ?_;simp only[go_sem,zE];exact yQ0 ⟨_,_,rfl,.inl rfl,.inl rfl,rfl,rfl⟩
theorem wVe:yGe gl 198 (λ_ _ _=>[]):=by
 intro m a b x y z E D A hm ha hb st;obtain⟨o1,n1,t1,W,t2,U,rfl⟩:=E.agg;obtain⟨o3,n3,t3,O,t4,J,rfl⟩:=D.agg;obtain⟨o5,n5,t5,G,t6,F,rfl⟩:=A.agg;refine iI func198 ?_;simp only[go_sem,zE];exact yQ0 ⟨_,_,rfl,.inl rfl,.inl rfl,rfl,rfl⟩
theorem wVd:yGe gl 199 (λm a b=>[⟨[],[a]⟩]):=by
 intro m a b x y z J G F hm ha hb st;have E:=J;have A:=G;have D:=F;obtain⟨o1,n1,t1,x1,t2,x2,rfl⟩:=J.agg;obtain⟨o3,n3,t3,x3,t4,x4,rfl⟩:=G.agg;obtain⟨o5,n5,t5,x5,t6,x6,rfl⟩:=F.agg;have ia:=IsFms.one A;have U:=IsFms.one D;have im:=IsFms.one E;have W:IsFms [a,b] [_,_]:=⟨_,_,rfl,A,U⟩
 refine ICall.fixL ?_;refine ICall.intro (c:=cf prog gl [10] []) func199 rfl (by show _<=11;simp) (by kernel_rfl) ?_;simp only[go_sem,zE,zA,zM,zL,fits,yQ1];refine (yYq gl _ _ _ (.inr rfl) ia (by simp only[yQ9];omega) _).mono ?_;rintro r _ ⟨O,rfl⟩;have h1:=sq1 O;obtain⟨_,_,_,_,rfl⟩:=IsSq.two O.w;simp only[go_sem,zA,zM,zL,fits,yQ1];refine λg=>yQd λhg=>?_;exact yQ0 (.inr ⟨g,2,_,hg,rfl,rfl,by simp,yZs h1,_,_,rfl,.inr rfl,.inr ⟨by simp,rfl,g,rfl⟩,h1⟩)
theorem wVc:yGe gl 200 (λm a b=>[⟨[a],[]⟩]):=by
 intro m a b x y z J G F hm ha hb st;have E:=J;have A:=G;have D:=F;obtain⟨o1,n1,t1,x1,t2,x2,rfl⟩:=J.agg;obtain⟨o3,n3,t3,x3,t4,x4,rfl⟩:=G.agg;obtain⟨o5,n5,t5,x5,t6,x6,rfl⟩:=F.agg;have ia:=IsFms.one A;have U:=IsFms.one D;have im:=IsFms.one E;have W:IsFms [a,b] [_,_]:=⟨_,_,rfl,A,U⟩
 refine ICall.fixL ?_;refine ICall.intro (c:=cf prog gl [10] []) func200 rfl (by show _<=11;simp) (by kernel_rfl) ?_;simp only[go_sem,zE,zA,zM,zL,fits,yQ1];refine (zJ9 gl _ _ _ (.inr rfl) ia (by simp only[yQ9];omega) _).mono ?_;rintro r _ ⟨O,rfl⟩;have h1:=sq1 O;obtain⟨_,_,_,_,rfl⟩:=IsSq.two O.w;simp only[go_sem,zA,zM,zL,fits,yQ1];refine λg=>yQd λhg=>?_;exact yQ0 (.inr ⟨g,2,_,hg,rfl,rfl,by simp,yZs h1,_,_,rfl,.inr rfl,.inr ⟨by simp,rfl,g,rfl⟩,h1⟩)
theorem wVb:yGe gl 201 (λm a b=>[⟨[a,b],[]⟩]):=by
 intro m a b x y z O J G hm ha hb st;have F:=O;have A:=J;have E:=G;obtain⟨o1,n1,t1,x1,t2,x2,rfl⟩:=O.agg;obtain⟨o3,n3,t3,x3,t4,x4,rfl⟩:=J.agg;obtain⟨o5,n5,t5,x5,t6,x6,rfl⟩:=G.agg;have ia:=IsFms.one A;have W:=IsFms.one E;have im:=IsFms.one F;have D:IsFms [a,b] [_,_]:=⟨_,_,rfl,A,W⟩
 refine ICall.fixL ?_;refine ICall.intro (c:=cf prog gl [11] []) func201 rfl (by show _<=12;simp) (by kernel_rfl) ?_;simp only[go_sem,zE,zA,zM,zL,fits,yQ6];refine (zJ9 gl _ _ _ (.inr rfl) D (by simp only[yQ9];omega) _).mono ?_;rintro r _ ⟨U,rfl⟩;have h1:=sq1 U;obtain⟨_,_,_,_,rfl⟩:=IsSq.two U.w;simp only[go_sem,zA,zM,zL,fits,yQ1];refine λg=>yQd λhg=>?_;exact yQ0 (.inr ⟨g,2,_,hg,rfl,rfl,by simp,yZs h1,_,_,rfl,.inr rfl,.inr ⟨by simp,rfl,g,rfl⟩,h1⟩)
theorem wVa:yGe gl 202 (λm a b=>[⟨[],[a]⟩,⟨[],[b]⟩]):=by
 intro m a b x y z W U O hm ha hb st;have F:=W;have A:=U;have E:=O;obtain⟨o1,n1,t1,x1,t2,x2,rfl⟩:=W.agg;obtain⟨o3,n3,t3,x3,t4,x4,rfl⟩:=U.agg;obtain⟨o5,n5,t5,x5,t6,x6,rfl⟩:=O.agg;have ia:=IsFms.one A;have J:=IsFms.one E;have im:=IsFms.one F;have aa:IsFms [a,b] [_,_]:=⟨_,_,rfl,A,J⟩
 refine ICall.fixL ?_;refine ICall.intro (c:=cf prog gl [13] [(1,[0,1,3,4,2,5,6,7])]) func202 rfl (by show _<=14;simp) (by kernel_rfl) ?_;simp only[go_sem,zE,zA,zM,zL,fits,yQ1];refine (yYq gl _ _ _ (.inr rfl) ia (by simp only[yQ9];omega) _).mono ?_;rintro r _ ⟨D,rfl⟩;have G:=D;obtain⟨_,_,_,_,rfl⟩:=IsSq.two D.w;simp only[go_sem,zE,zA];refine (yYq gl _ _ _ (.inr rfl) J (by simp only[yQ9];omega) _).mono ?_;rintro r _ ⟨D,rfl⟩;have h1:=sq2 G D;obtain⟨_,_,_,_,rfl⟩:=IsSq.two D.w;simp only[go_sem,zE,zA,zM,zL,fits,yQ6];refine λg=>yQd λhg=>?_;exact yQ0 (.inr ⟨g,2,_,hg,rfl,rfl,by simp,yZs h1,_,_,rfl,.inr rfl,.inr ⟨by simp,rfl,g,rfl⟩,h1⟩)
theorem wV9:yGe gl 203 (λm a b=>[⟨[a],[]⟩,⟨[b],[]⟩]):=by
 intro m a b x y z W U O hm ha hb st;have F:=W;have A:=U;have E:=O;obtain⟨o1,n1,t1,x1,t2,x2,rfl⟩:=W.agg;obtain⟨o3,n3,t3,x3,t4,x4,rfl⟩:=U.agg;obtain⟨o5,n5,t5,x5,t6,x6,rfl⟩:=O.agg;have ia:=IsFms.one A;have J:=IsFms.one E;have im:=IsFms.one F;have aa:IsFms [a,b] [_,_]:=⟨_,_,rfl,A,J⟩
 refine ICall.fixL ?_;refine ICall.intro (c:=cf prog gl [13] [(1,[0,1,3,4,2,5,6,7])]) func203 rfl (by show _<=14;simp) (by kernel_rfl) ?_;simp only[go_sem,zE,zA,zM,zL,fits,yQ1];refine (zJ9 gl _ _ _ (.inr rfl) ia (by simp only[yQ9];omega) _).mono ?_;rintro r _ ⟨D,rfl⟩;have G:=D;obtain⟨_,_,_,_,rfl⟩:=IsSq.two D.w;simp only[go_sem,zE,zA];refine (zJ9 gl _ _ _ (.inr rfl) J (by simp only[yQ9];omega) _).mono ?_;rintro r _ ⟨D,rfl⟩;have h1:=sq2 G D;obtain⟨_,_,_,_,rfl⟩:=IsSq.two D.w;simp only[go_sem,zE,zA,zM,zL,fits,yQ6];refine λg=>yQd λhg=>?_;exact yQ0 (.inr ⟨g,2,_,hg,rfl,rfl,by simp,yZs h1,_,_,rfl,.inr rfl,.inr ⟨by simp,rfl,g,rfl⟩,h1⟩)
theorem wV8:yGe gl 204 (λm a b=>[⟨[],[a,b]⟩]):=by
 intro m a b x y z O J G hm ha hb st;have F:=O;have A:=J;have E:=G;obtain⟨o1,n1,t1,x1,t2,x2,rfl⟩:=O.agg;obtain⟨o3,n3,t3,x3,t4,x4,rfl⟩:=J.agg;obtain⟨o5,n5,t5,x5,t6,x6,rfl⟩:=G.agg;have ia:=IsFms.one A;have W:=IsFms.one E;have im:=IsFms.one F;have D:IsFms [a,b] [_,_]:=⟨_,_,rfl,A,W⟩
 refine ICall.fixL ?_;refine ICall.intro (c:=cf prog gl [11] []) func204 rfl (by show _<=12;simp) (by kernel_rfl) ?_;simp only[go_sem,zE,zA,zM,zL,fits,yQ6];refine (yYq gl _ _ _ (.inr rfl) D (by simp only[yQ9];omega) _).mono ?_;rintro r _ ⟨U,rfl⟩;have h1:=sq1 U;obtain⟨_,_,_,_,rfl⟩:=IsSq.two U.w;simp only[go_sem,zA,zM,zL,fits,yQ1];refine λg=>yQd λhg=>?_;exact yQ0 (.inr ⟨g,2,_,hg,rfl,rfl,by simp,yZs h1,_,_,rfl,.inr rfl,.inr ⟨by simp,rfl,g,rfl⟩,h1⟩)
theorem wV7:yGe gl 205 (λm a b=>[⟨[],[a]⟩,⟨[b],[]⟩]):=by
 intro m a b x y z W U O hm ha hb st;have F:=W;have A:=U;have E:=O;obtain⟨o1,n1,t1,x1,t2,x2,rfl⟩:=W.agg;obtain⟨o3,n3,t3,x3,t4,x4,rfl⟩:=U.agg;obtain⟨o5,n5,t5,x5,t6,x6,rfl⟩:=O.agg;have ia:=IsFms.one A;have J:=IsFms.one E;have im:=IsFms.one F;have aa:IsFms [a,b] [_,_]:=⟨_,_,rfl,A,J⟩
 refine ICall.fixL ?_;refine ICall.intro (c:=cf prog gl [13] [(1,[0,1,3,4,2,5,6,7])]) func205 rfl (by show _<=14;simp) (by kernel_rfl) ?_;simp only[go_sem,zE,zA,zM,zL,fits,yQ1];refine (yYq gl _ _ _ (.inr rfl) ia (by simp only[yQ9];omega) _).mono ?_;rintro r _ ⟨D,rfl⟩;have G:=D;obtain⟨_,_,_,_,rfl⟩:=IsSq.two D.w;simp only[go_sem,zE,zA];refine (zJ9 gl _ _ _ (.inr rfl) J (by simp only[yQ9];omega) _).mono ?_;rintro r _ ⟨D,rfl⟩;have h1:=sq2 G D;obtain⟨_,_,_,_,rfl⟩:=IsSq.two D.w;simp only[go_sem,zE,zA,zM,zL,fits,yQ6];refine λg=>yQd λhg=>?_;exact yQ0 (.inr ⟨g,2,_,hg,rfl,rfl,by simp,yZs h1,_,_,rfl,.inr rfl,.inr ⟨by simp,rfl,g,rfl⟩,h1⟩)
theorem xWc:yGe gl 210 (λm a b=>[⟨[],[m]⟩,⟨[m],[]⟩]):=by
 intro m a b x y z W U O hm ha hb st;have F:=W;have A:=U;have E:=O;obtain⟨o1,n1,t1,x1,t2,x2,rfl⟩:=W.agg;obtain⟨o3,n3,t3,x3,t4,x4,rfl⟩:=U.agg;obtain⟨o5,n5,t5,x5,t6,x6,rfl⟩:=O.agg;have ia:=IsFms.one A;have ib:=IsFms.one E;have J:=IsFms.one F;have ab:IsFms [a,b] [_,_]:=⟨_,_,rfl,A,ib⟩
 refine ICall.fixL ?_;refine ICall.intro (c:=cf prog gl [13] [(1,[0,1,3,4,2,5,6,7])]) func210 rfl (by show _<=14;simp) (by kernel_rfl) ?_;simp only[go_sem,zE,zA,zM,zL,fits,yQ1];refine (yYq gl _ _ _ (.inr rfl) J (by simp only[yQ9];omega) _).mono ?_;rintro r _ ⟨D,rfl⟩;have G:=D;obtain⟨_,_,_,_,rfl⟩:=IsSq.two D.w;simp only[go_sem,zE,zA];refine (zJ9 gl _ _ _ (.inr rfl) J (by simp only[yQ9];omega) _).mono ?_;rintro r _ ⟨D,rfl⟩;have h1:=sq2 G D;obtain⟨_,_,_,_,rfl⟩:=IsSq.two D.w;simp only[go_sem,zE,zA,zM,zL,fits,yQ6];refine λg=>yQd λhg=>?_;exact yQ0 (.inr ⟨g,2,_,hg,rfl,rfl,by simp,yZs h1,_,_,rfl,.inr rfl,.inr ⟨by simp,rfl,g,rfl⟩,h1⟩)
theorem xWa:yGe gl 149 (λm a b=>[⟨[],[a]⟩]):=by
 intro m a b x y z J G F hm ha hb st;have E:=J;have A:=G;have D:=F;obtain⟨o1,n1,t1,x1,t2,x2,rfl⟩:=J.agg;obtain⟨o3,n3,t3,x3,t4,x4,rfl⟩:=G.agg;obtain⟨o5,n5,t5,x5,t6,x6,rfl⟩:=F.agg;have ia:=IsFms.one A;have U:=IsFms.one D;have im:=IsFms.one E;have W:IsFms [a,b] [_,_]:=⟨_,_,rfl,A,U⟩
 refine ICall.fixL ?_;refine ICall.intro (c:=cf prog gl [10] []) func149 rfl (by show _<=11;simp) (by kernel_rfl) ?_;simp only[go_sem,zE,zA,zM,zL,fits,yQ1];refine (yYq gl _ _ _ (.inr rfl) ia (by simp only[yQ9];omega) _).mono ?_;rintro r _ ⟨O,rfl⟩;have h1:=sq1 O;obtain⟨_,_,_,_,rfl⟩:=IsSq.two O.w;simp only[go_sem,zA,zM,zL,fits,yQ1];refine λg=>yQd λhg=>?_;exact yQ0 (.inr ⟨g,2,_,hg,rfl,rfl,by simp,yZs h1,_,_,rfl,.inr rfl,.inr ⟨by simp,rfl,g,rfl⟩,h1⟩)
theorem xWb:yGe gl 151 (λm a b=>[⟨[],[b]⟩]):=by
 intro m a b x y z O J G hm ha hb st;have E:=O;have A:=J;have D:=G;obtain⟨o1,n1,t1,x1,t2,x2,rfl⟩:=O.agg;obtain⟨o3,n3,t3,x3,t4,x4,rfl⟩:=J.agg;obtain⟨o5,n5,t5,x5,t6,x6,rfl⟩:=G.agg;have ia:=IsFms.one A;have F:=IsFms.one D;have im:=IsFms.one E;have W:IsFms [a,b] [_,_]:=⟨_,_,rfl,A,F⟩
 refine ICall.fixL ?_;refine ICall.intro (c:=cf prog gl [10] []) func151 rfl (by show _<=11;simp) (by kernel_rfl) ?_;simp only[go_sem,zE,zA,zM,zL,fits,yQ1];refine (yYq gl _ _ _ (.inr rfl) F (by simp only[yQ9];omega) _).mono ?_;rintro r _ ⟨U,rfl⟩;have h1:=sq1 U;obtain⟨_,_,_,_,rfl⟩:=IsSq.two U.w;simp only[go_sem,zA,zM,zL,fits,yQ1];refine λg=>yQd λhg=>?_;exact yQ0 (.inr ⟨g,2,_,hg,rfl,rfl,by simp,yZs h1,_,_,rfl,.inr rfl,.inr ⟨by simp,rfl,g,rfl⟩,h1⟩)
theorem wV6:yGe gl 152 (λm a b=>[⟨[a],[]⟩]):=by
 intro m a b x y z J G F hm ha hb st;have E:=J;have A:=G;have D:=F;obtain⟨o1,n1,t1,x1,t2,x2,rfl⟩:=J.agg;obtain⟨o3,n3,t3,x3,t4,x4,rfl⟩:=G.agg;obtain⟨o5,n5,t5,x5,t6,x6,rfl⟩:=F.agg;have ia:=IsFms.one A;have U:=IsFms.one D;have im:=IsFms.one E;have W:IsFms [a,b] [_,_]:=⟨_,_,rfl,A,U⟩
 refine ICall.fixL ?_;refine ICall.intro (c:=cf prog gl [10] []) func152 rfl (by show _<=11;simp) (by kernel_rfl) ?_;simp only[go_sem,zE,zA,zM,zL,fits,yQ1];refine (zJ9 gl _ _ _ (.inr rfl) ia (by simp only[yQ9];omega) _).mono ?_;rintro r _ ⟨O,rfl⟩;have h1:=sq1 O;obtain⟨_,_,_,_,rfl⟩:=IsSq.two O.w;simp only[go_sem,zA,zM,zL,fits,yQ1];refine λg=>yQd λhg=>?_;exact yQ0 (.inr ⟨g,2,_,hg,rfl,rfl,by simp,yZs h1,_,_,rfl,.inr rfl,.inr ⟨by simp,rfl,g,rfl⟩,h1⟩)
theorem wV5:yGe gl 154 (λm a b=>[⟨[],[a]⟩]):=by
 intro m a b x y z J G F hm ha hb st;have E:=J;have A:=G;have D:=F;obtain⟨o1,n1,t1,x1,t2,x2,rfl⟩:=J.agg;obtain⟨o3,n3,t3,x3,t4,x4,rfl⟩:=G.agg;obtain⟨o5,n5,t5,x5,t6,x6,rfl⟩:=F.agg;have ia:=IsFms.one A;have U:=IsFms.one D;have im:=IsFms.one E;have W:IsFms [a,b] [_,_]:=⟨_,_,rfl,A,U⟩
 refine ICall.fixL ?_;refine ICall.intro (c:=cf prog gl [10] []) func154 rfl (by show _<=11;simp) (by kernel_rfl) ?_;simp only[go_sem,zE,zA,zM,zL,fits,yQ1];refine (yYq gl _ _ _ (.inr rfl) ia (by simp only[yQ9];omega) _).mono ?_;rintro r _ ⟨O,rfl⟩;have h1:=sq1 O;obtain⟨_,_,_,_,rfl⟩:=IsSq.two O.w;simp only[go_sem,zA,zM,zL,fits,yQ1];refine λg=>yQd λhg=>?_;exact yQ0 (.inr ⟨g,2,_,hg,rfl,rfl,by simp,yZs h1,_,_,rfl,.inr rfl,.inr ⟨by simp,rfl,g,rfl⟩,h1⟩)
theorem xWf:yGe gl 206 (λm a b=>[⟨[a],[b]⟩]):=by
 intro m a b x y z hx hy hz hm ha hb st;have G:=hx;have E:=hy;have F:=hz;obtain⟨o1,n1,t1,x1,t2,x2,rfl⟩:=hx.agg;obtain⟨o3,n3,t3,x3,t4,x4,rfl⟩:=hy.agg;obtain⟨o5,n5,t5,x5,t6,x6,rfl⟩:=hz.agg;have ia:=IsFms.one E;have ib:=IsFms.one F;have im:=IsFms.one G;have aj:IsFms [a,b] [_,_]:=⟨_,_,rfl,E,ib⟩
 refine ICall.fixL ?_;refine ICall.intro (c:=cf prog gl [14] [(1,[0,1,3,4,2,5,6,7,8])]) func206 rfl (by show _<=15;simp) (by kernel_rfl) ?_;simp only[go_sem,zE,zA,zM,zL,fits,yQ1];refine (yWt gl _ _ _ (.inr rfl) ia (by simp only[yQ9];omega) _).mono ?_;rintro _ _ ⟨ai,ag,rfl,O,W,D,rfl⟩;simp only[go_sem,zE,zA];refine (yWt gl _ _ _ (.inr rfl) ib (by simp only[yQ9];omega) _).mono ?_;rintro _ _ ⟨ah,af,rfl,J,U,A,rfl⟩;simp only[go_sem,zE,zA,zM,zL,fits,yQ1];have h1:=sq1 (s:=⟨[a],[b]⟩) ⟨_,_,_,_,rfl,O,W,D,J,U,A⟩;refine λg=>yQd λhg=>?_;exact yQ0 (.inr ⟨g,2,_,hg,rfl,rfl,by simp,yZs h1,_,_,rfl,.inr rfl,.inr ⟨by simp,rfl,g,rfl⟩,h1⟩)
theorem xWd:yGe gl 209 (λm a b=>[⟨[a],[b]⟩,⟨[b],[a]⟩]):=by
 intro m a b x y z hx hy hz hm ha hb st;have U:=hx;have G:=hy;have O:=hz;obtain⟨o1,n1,t1,x1,t2,x2,rfl⟩:=hx.agg;obtain⟨o3,n3,t3,x3,t4,x4,rfl⟩:=hy.agg;obtain⟨o5,n5,t5,x5,t6,x6,rfl⟩:=hz.agg;have ia:=IsFms.one G;have J:=IsFms.one O;have im:=IsFms.one U;have ay:IsFms [a,b] [_,_]:=⟨_,_,rfl,G,J⟩
 refine ICall.fixL ?_;refine ICall.intro (c:=cf prog gl [21] [(1,[0,1,3,4,7,8,10,11,2,5,6,9,12,13,14,15])]) func209 rfl (by show _<=22;simp) (by kernel_rfl) ?_;simp only[go_sem,zE,zA,zM,zL,fits,yQ1];refine (yWt gl _ _ _ (.inr rfl) ia (by simp only[yQ9];omega) _).mono ?_;rintro _ _ ⟨ax,aq,rfl,ac,ah,F,rfl⟩;simp only[go_sem,zE,zA];refine (yWt gl _ _ _ (.inr rfl) J (by simp only[yQ9];omega) _).mono ?_;rintro _ _ ⟨aw,ao,rfl,ab,ag,E,rfl⟩;simp only[go_sem,zE,zA,zL,fits];refine (yWt gl _ _ _ (.inr rfl) J (by simp only[yQ9];omega) _).mono ?_;rintro _ _ ⟨av,an,rfl,aa,af,D,rfl⟩;simp only[go_sem,zE,zA];refine (yWt gl _ _ _ (.inr rfl) ia (by simp only[yQ9];omega) _).mono ?_;rintro _ _ ⟨au,am,rfl,W,ae,A,rfl⟩;simp only[go_sem,zE,zA,zM,zL,fits,yQ6];have h1:=sq2 (s:=⟨[a],[b]⟩) (s':=⟨[b],[a]⟩) ⟨_,_,_,_,rfl,ac,ah,F,ab,ag,E⟩ ⟨_,_,_,_,rfl,aa,af,D,W,ae,A⟩;refine λg=>yQd λhg=>?_;exact yQ0 (.inr ⟨g,2,_,hg,rfl,rfl,by simp,yZs h1,_,_,rfl,.inr rfl,.inr ⟨by simp,rfl,g,rfl⟩,h1⟩)
theorem xWe:yGe gl 207 (λm a b=>[⟨[impF a b,impF b a],[]⟩]):=by
 intro m a b x y z W U O hm ha hb st;have F:=W;have A:=U;have E:=O;obtain⟨o1,n1,t1,x1,t2,x2,rfl⟩:=W.agg;obtain⟨o3,n3,t3,x3,t4,x4,rfl⟩:=U.agg;obtain⟨o5,n5,t5,x5,t6,x6,rfl⟩:=O.agg;have ia:=IsFms.one A;have ib:=IsFms.one E;have im:=IsFms.one F;have ab:IsFms [a,b] [_,_]:=⟨_,_,rfl,A,ib⟩
 refine ICall.fixL ?_;refine ICall.intro (c:=cf prog gl [15] [(1,[0,1,3,4,2,5,6,7,8,9])]) func207 rfl (by show _<=16;simp) (by kernel_rfl) ?_;simp only[go_sem,zE,zA,zL];refine (vVo gl a b _ _ A E _).mono ?_;rintro r _ ⟨D,rfl⟩;have J:=D;obtain⟨_,_,_,_,_,_,rfl⟩:=D.agg;simp only[go_sem,zE,zA];refine (vVo gl b a _ _ E A _).mono ?_;rintro r _ ⟨D,rfl⟩;have G:IsFms [impF a b,impF b a] [_,_]:=⟨_,_,rfl,J,IsFms.one D⟩
 obtain⟨_,_,_,_,_,_,rfl⟩:=D.agg;simp only[go_sem,zE,zA,zM,zL,fits,yQ6];refine (zJ9 gl _ _ _ (.inr rfl) G (by simp only[yQ9,impF,Fm.size,yQa];omega) _).mono ?_;rintro r _ ⟨D,rfl⟩;have h1:=sq1 D;obtain⟨_,_,_,_,rfl⟩:=IsSq.two D.w;simp only[go_sem,zA,zM,zL,fits,yQ1];refine λg=>yQd λhg=>?_;exact yQ0 (.inr ⟨g,2,_,hg,rfl,rfl,by simp,yZs h1,_,_,rfl,.inr rfl,.inr ⟨by simp,rfl,g,rfl⟩,h1⟩)
def fitL (l:List Fm):Prop:=∀f∈l,f.size<=1000000
theorem xQh (ca:Nat)(st:ISt):ICall prog gl 71 [.raw (.int .u8 ca)] st (λr st'=>r=.raw (.bool (yX7 ca))/\st'=st):=by
 refine iI func71 ?_;by_cases h1:1<=ca
 ·have A:decide (1<=(ca:Int))=true:=dEt (by omega);by_cases h2:ca<=3
  ·have D:decide ((ca:Int)<=3)=true:=dEt (by omega);simp only[go_sem,zE,reduceCtorEq,A,D];exact yQ0 ⟨by simp[yX7,h1,h2],rfl⟩
  ·have D:decide ((ca:Int)<=3)=false:=dEf (by omega);simp only[go_sem,zE,reduceCtorEq,A,D];exact yQ0 ⟨by simp[yX7,h2],rfl⟩
 ·have A:decide (1<=(ca:Int))=false:=dEf (by omega);simp only[go_sem,zE,reduceCtorEq,A];exact yQ0 ⟨by simp[yX7,h1],rfl⟩
def sOp (f:Fm):Prop:=∀(ca:Nat) (x:IV) (_:IsFm f x) (st:ISt),ICall prog gl 142 [.raw (.int .u8 ca),x] st (λr st'=>r=.raw (.bool (opsB ca f))/\st'=st)
theorem yWn (ca:Nat):∀l m:List Fm,yGb ca (l++m)=(yGb ca l&&yGb ca m)
 | [],m=>by simp[yGb]
 | a::l,m=>by simp only[List.cons_append,yGb,yWn ca l m,Bool.and_assoc]
theorem xXl {ca:Nat}{l:List Fm}{a:Fm}(A:a∈l)(h:opsB ca a=false):yGb ca l=false:=by
 obtain⟨p,q,rfl⟩:=List.append_of_mem A;rw[yWn];simp[yGb,h]
theorem wW6 (o:Nat)(n:ByteArray)(us:List Tm)(sub:List Fm)(IH:∀a∈sub,sOp gl a):sOp gl (.mk o n us sub):=by
 intro ca x hx st;obtain⟨t1,x1,t2,x2,rfl,ho,ax,ae,af,J⟩:=hx.mk;have loop:∀(al:Nat) (ay:(decide (1<=o)&&decide (o<=if ca=3 then 9 else 7)&&(decide (ca=3) || us.isEmpty))=true),opsB ca (.mk o n us sub)=yGb ca sub:=λ_ h=>by
  simp only[opsB,h,Bool.true_and]
 refine iI func142 ?_;by_cases h1:1<=o
 ·have e1:decide ((o:Int)<1)=false:=dEf (by omega);by_cases E:ca=3
  ·have G:decide ((ca:Int)=3)=true:=dEt (by omega);by_cases h2:o<=9
   ·have W:decide ((9:Int)<(o:Int))=false:=dEf (by omega);have hl:=loop 9 (by simp[h1,h2,E]);simp only[go_sem,zE,zA,reduceCtorEq,e1,W,G,J.len];intro _;refine LoopC.ctr sub.length (λk fr st' ds=>yGb ca (sub.take k)=true/\fr 0=.iv (.raw (.int .u8 ca))/\fr 30=.iv (.sl t2 x2)/\fr 31=.iv (.raw (.int .i64 sub.length))/\fr 32=.iv (.raw (.int .i64 k))/\st'=st/\ds=[]) ?_ ?_ ?_
    ·simp only[go_sem,zE,reduceCtorEq];simp[yGb]
    ·rintro k fr F _ A ⟨O,f0,f30,f31,f32,rfl,rfl⟩;obtain⟨a,U⟩:=yQ3 A;obtain⟨y,ab,hy⟩:=J.get U;have D:=IH a (lMg U) ca y hy F;obtain⟨o5,n5,t5,x5,t6,x6,rfl⟩:=hy.agg;simp only[go_sem,zE,zB,zA,zL,reduceCtorEq,f0,f30,f31,f32,lt_i A,yQ2 af,iNn,ab,fits];refine D.mono ?_;rintro _ _ ⟨rfl,rfl⟩;cases hr:opsB ca a
     ·simp only[go_sem];exact yQ0 ⟨by rw[hl,xXl (lMg U) hr],rfl⟩
     ·simp only[go_sem,zE,reduceCtorEq,f0,f30,f31,f32,yQb A (show sub.length<=281474976710656 by omega)];rw[yQ4 U,yWn,O];simp[yGb,hr]
    ·rintro fr F _ ⟨O,f0,f30,f31,f32,rfl,rfl⟩;rw[lTl] at O;simp only[go_sem,f31,f32,yQj (nLi _)];exact yQ0 ⟨by rw[hl,O],rfl⟩
   ·have W:decide ((9:Int)<(o:Int))=true:=dEt (by omega);simp only[go_sem,zE,zA,reduceCtorEq,e1,W,G];exact yQ0 ⟨by simp[opsB,h2,E],rfl⟩
  ·have G:decide ((ca:Int)=3)=false:=dEf (by omega);by_cases h2:o<=7
   ·have W:decide ((7:Int)<(o:Int))=false:=dEf (by omega);by_cases hu:us=[]
    ·subst hu;have e4:decide ((0:Int)<((0:Nat):Int))=false:=rfl;have hl:=loop 7 (by simp[h1,h2,E]);simp only[go_sem,zE,zA,zL,reduceCtorEq,e1,W,G,e4,ae.len,J.len];intro _;refine LoopC.ctr sub.length (λk fr st' ds=>yGb ca (sub.take k)=true/\fr 0=.iv (.raw (.int .u8 ca))/\fr 30=.iv (.sl t2 x2)/\fr 31=.iv (.raw (.int .i64 sub.length))/\fr 32=.iv (.raw (.int .i64 k))/\st'=st/\ds=[]) ?_ ?_ ?_
     ·simp only[go_sem,zE,reduceCtorEq];simp[yGb]
     ·rintro k fr F _ A ⟨O,f0,f30,f31,f32,rfl,rfl⟩;obtain⟨a,U⟩:=yQ3 A;obtain⟨y,ab,hy⟩:=J.get U;have D:=IH a (lMg U) ca y hy F;obtain⟨o5,n5,t5,x5,t6,x6,rfl⟩:=hy.agg;simp only[go_sem,zE,zB,zA,zL,reduceCtorEq,f0,f30,f31,f32,lt_i A,yQ2 af,iNn,ab,fits];refine D.mono ?_;rintro _ _ ⟨rfl,rfl⟩;cases hr:opsB ca a
      ·simp only[go_sem];exact yQ0 ⟨by rw[hl,xXl (lMg U) hr],rfl⟩
      ·simp only[go_sem,zE,reduceCtorEq,f0,f30,f31,f32,yQb A (show sub.length<=281474976710656 by omega)];rw[yQ4 U,yWn,O];simp[yGb,hr]
     ·rintro fr F _ ⟨O,f0,f30,f31,f32,rfl,rfl⟩;rw[lTl] at O;simp only[go_sem,f31,f32,yQj (nLi _)];exact yQ0 ⟨by rw[hl,O],rfl⟩
    ·have am:0<us.length:=List.length_pos_iff.2 hu;have e4:decide ((0:Int)<(us.length:Int))=true:=dEt (by omega);simp only[go_sem,zE,zA,reduceCtorEq,e1,W,G,e4,ae.len];intro _;exact yQ0 ⟨by simp[opsB,E,hu],rfl⟩
   ·have W:decide ((7:Int)<(o:Int))=true:=dEt (by omega);simp only[go_sem,zE,zA,reduceCtorEq,e1,W,G];exact yQ0 ⟨by simp[opsB,E,h2],rfl⟩
 ·have e1:decide ((o:Int)<1)=true:=dEt (by omega);by_cases E:ca=3
  ·have G:decide ((ca:Int)=3)=true:=dEt (by omega);simp only[go_sem,zE,zA,reduceCtorEq,e1,G];exact yQ0 ⟨by simp[opsB,h1],rfl⟩
  ·have G:decide ((ca:Int)=3)=false:=dEf (by omega);simp only[go_sem,zE,zA,reduceCtorEq,e1,G];exact yQ0 ⟨by simp[opsB,h1],rfl⟩
theorem wX4:∀(k:Nat)(f:Fm),SizeOf.sizeOf f<k->sOp gl f
 | 0,f,h=>by omega
 | k+1,.mk o n us sub,h=>wW6 gl o n us sub (λa A=>wX4 k a (by
   have:=lSm A;simp only[Fm.mk.sizeOf_spec] at h;omega))
theorem xV8 (f:Fm):sOp gl f:=wX4 gl _ f (Nat.lt_succ_self _)
theorem zVy (G:Gl gl)(ca:Nat)(f:Fm)(x:IV)(A:IsFm f x)(E:f.size<=1000000)(st:ISt) :
  ICall prog gl 97 [.raw (.int .u8 ca),x] st (λr st'=>r=.raw (.bool (fmB ca f))/\st'=st):=by
 have h1:=λst=>zWq gl G f x A st E;have h2:=λst=>xV8 gl f ca x A st;obtain⟨O,U,t5,J,t6,F,rfl⟩:=A.agg;refine iI func97 ?_;simp only[go_sem,zE,zA,zL];refine (h1 _).mono ?_;rintro _ _ ⟨rfl,rfl⟩;cases D:f.right
 ·simp only[go_sem,zE];exact yQ0 ⟨by simp[fmB,D],rfl⟩
 ·simp only[go_sem,zE,zA,zL,reduceCtorEq];refine (h2 _).mono ?_;rintro _ _ ⟨rfl,rfl⟩;simp only[go_sem,zE];exact yQ0 ⟨by simp[fmB,D],rfl⟩
theorem wKj (G:Gl gl)(f g:Fm)(x y:IV)(F:IsFm f x)(E:IsFm g y)(U:f.size<=1000000)(A:g.size<=1000000)(st:ISt) :
  ICall prog gl 98 [x,y] st (λr st'=>r=.raw (.bool (eqF f g))/\st'=st):=by
 have h1:=λst=>vXt gl G f g x y F E U A st;obtain⟨o,n,us,sub⟩:=f;obtain⟨o',n',O,D⟩:=g;obtain⟨t1,x1,t2,x2,rfl,_⟩:=F.mk;obtain⟨t3,x3,t4,W,rfl,_⟩:=E.mk;refine iI func98 ?_;by_cases J:o=o'
 ·subst J;simp only[go_sem,zE,zA,zL,decide_true];refine (h1 _).mono ?_;rintro _ _ ⟨rfl,rfl⟩;simp only[go_sem,zE];exact yQ0 ⟨by simp[eqF,Fm.op],rfl⟩
 ·have e:decide ((o:Int)=(o':Int))=false:=dEf (by omega);simp only[go_sem,zE,zA,e];exact yQ0 ⟨by simp[eqF,Fm.op,J],rfl⟩
theorem xWi (g:FuncId)(A:List IV)(he:entI prog g=true)(us:List Fm)(p:Fm->Bool)(hp:∀a∈us,∀x,IsFm a x->∀st,ICall prog gl g (x::A) st (λr st'=>r=.raw (.bool (p a))/\st'=st))
  (W:Tag) (U:List IV) (aa:okEs W 4) (G:IsFms us U) (st:ISt) :
  ICall prog gl 145 [.sl W U,.fn (.func g) [] A] st (λr st'=>(∃n:Int,r=.raw (.int .i64 n)/\decide (0<=n)=us.any p)/\st'=st):=by
 refine iI func145 ?_;simp only[go_sem,reduceCtorEq,G.len];intro _;refine LoopC.ctr us.length (λk fr st' ds=>(us.take k).any p=false/\fr 0=.iv (.sl W U)/\fr 1=.iv (.fn (.func g) [] A)/\fr 7=.iv (.raw (.int .i64 us.length))/\fr 8=.iv (.raw (.int .i64 k))/\st'=st/\ds=[]) ?_ ?_ ?_
 ·simp only[go_sem,zE,reduceCtorEq];exact⟨rfl,rfl⟩
 ·rintro k fr F _ D ⟨J,f0,f1,f7,f8,rfl,rfl⟩;obtain⟨a,O⟩:=yQ3 D;obtain⟨y,ab,hy⟩:=G.get O;have E:=hp a (lMg O) y hy F;obtain⟨o5,n5,t5,x5,t6,x6,rfl⟩:=hy.agg;simp only[go_sem,zE,zB,zA,reduceCtorEq,f0,f1,f7,f8,lt_i D,yQ2 aa,iNn,ab,fits,he];refine E.mono ?_;rintro _ _ ⟨rfl,rfl⟩;cases hr:p a
  ·simp only[go_sem,zE,reduceCtorEq,f0,f1,f7,f8,yQb D (show us.length<=281474976710656 by omega)];rw[yQ4 O,List.any_append,J];simp[hr]
  ·simp only[go_sem,zE];refine yQ0 ⟨⟨_,rfl,?_⟩,rfl⟩;rw[dEt (iNn k)];exact (List.any_eq_true.2 ⟨a,lMg O,hr⟩).symm
 ·rintro fr F _ ⟨J,f0,f1,f7,f8,rfl,rfl⟩;rw[lTl] at J;simp only[go_sem,f7,f8,yQj (nLi _)];exact yQ0 ⟨⟨_,rfl,by rw[J];rfl⟩,rfl⟩
theorem yY8 (g:FuncId)(A:List IV)(O:entI prog g=true)(us:List Fm)(p:Fm->Bool)(hp:∀a∈us,∀x,IsFm a x->∀st,ICall prog gl g (x::A) st (λr st'=>r=.raw (.bool (p a))/\st'=st))
  (E:Tag) (D:List IV) (G:okEs E 4) (F:IsFms us D) (st:ISt) :
  ICall prog gl 100 [.sl E D,.fn (.func g) [] A] st (λr st'=>r=.raw (.bool (us.any p))/\st'=st):=by
 refine iI func100 ?_;simp only[go_sem,zE,zA,reduceCtorEq];refine (xWi gl g A O us p hp E D G F _).mono ?_;rintro _ _ ⟨⟨n,rfl,J⟩,rfl⟩;simp only[go_sem,J];exact yQ0 ⟨rfl,rfl⟩
theorem vYg (G:Gl gl)(f g:Fm)(x y:IV)(E:IsFm f x)(D:IsFm g y)(F:f.size<=1000000)(A:g.size<=1000000)(st:ISt) :
  ICall prog gl 101 [y,.cptr x] st (λr st'=>r=.raw (.bool (eqF f g))/\st'=st):=by
 have h1:=λst=>wKj gl G f g x y E D F A st;obtain⟨o5,n5,t5,W,t6,U,rfl⟩:=E.agg;obtain⟨o7,n7,t7,O,t8,J,rfl⟩:=D.agg;refine iI func101 ?_;simp only[go_sem,zE,zA,zL,fits];refine (h1 _).mono ?_;rintro _ _ ⟨rfl,rfl⟩;simp only[go_sem];exact yQ0 ⟨rfl,rfl⟩
theorem xU0 (G:Gl gl)(l:List Fm)(f:Fm)(D:Tag)(A:List IV)(x:IV)(F:okEs D 4)(E:IsFms l A)(J:IsFm f x)(W:fitL l)(U:f.size<=1000000)(st:ISt) :
  ICall prog gl 50 [.sl D A,x] st (λr st'=>r=.raw (.bool (hasF l f))/\st'=st):=by
 have h1:=λst=>yY8 gl 101 [.cptr x] (by simp only[go_sem]) l (eqF f) (λa ha y O st=>vYg gl G f a x y J O U (W a ha) st) D A F E st;obtain⟨o5,n5,t5,x5,t6,x6,rfl⟩:=J.agg;refine ICall.intro (c:=cf prog gl [] [] [3]) func50 rfl (by show _<=8;simp) (by kernel_rfl) ?_;simp only[go_sem,zE,zA,reduceCtorEq];refine (h1 _).mono ?_;rintro _ _ ⟨rfl,rfl⟩;simp only[go_sem];exact yQ0 ⟨rfl,rfl⟩
theorem vY7 (G:Gl gl)(l m:List Fm)(t J:Tag)(W ys:List IV)(ht:okEs t 4)(aa:okEs J 4)(F:IsFms l W)(hys:IsFms m ys)(hl:fitL l)(hm:fitL m)(st:ISt) :
  ICall prog gl 102 [.sl t W,.sl J ys] st (λr st'=>r=.raw (.bool (allF l m))/\st'=st):=by
 refine iI func102 ?_;simp only[go_sem,reduceCtorEq,F.len];intro _;refine LoopC.ctr l.length (λk fr st' ds=>(l.take k).all (hasF m)=true/\fr 1=.iv (.sl J ys)/\fr 7=.iv (.sl t W)/\fr 8=.iv (.raw (.int .i64 l.length))/\fr 9=.iv (.raw (.int .i64 k))/\st'=st/\ds=[]) ?_ ?_ ?_
 ·simp only[go_sem,zE];rfl
 ·rintro k fr E _ A ⟨O,f1,f7,f8,f9,rfl,rfl⟩;obtain⟨a,U⟩:=yQ3 A;obtain⟨y,ab,hy⟩:=F.get U;have D:=xU0 gl G m a J ys y aa hys hy hm (hl a (lMg U)) E;obtain⟨o5,n5,t5,x5,t6,x6,rfl⟩:=hy.agg;simp only[go_sem,zE,zB,zA,zL,f1,f7,f8,f9,lt_i A,yQ2 ht,iNn,ab,fits];refine D.mono ?_;rintro _ _ ⟨rfl,rfl⟩;cases hr:hasF m a
  ·simp only[go_sem];refine yQ0 ⟨?_,rfl⟩;have:allF l m=false:=by
    unfold allF;rw[List.all_eq_false];exact⟨a,lMg U,by simp[hr]⟩
   rw[this]
  ·simp only[go_sem,zE,f1,f7,f8,f9,yQb A (show l.length<=281474976710656 by omega)];rw[yQ4 U,List.all_append,O];simp[hr]
 ·rintro fr E _ ⟨O,f1,f7,f8,f9,rfl,rfl⟩;rw[lTl] at O;simp only[go_sem,f8,f9,yQj (nLi _)];exact yQ0 ⟨by rw[show allF l m=true from O],rfl⟩
def yKm (s:Sq):Prop:=fitL s.l/\fitL s.r
theorem zKf (G:Gl gl)(a b:Sq)(x y:IV)(hx:IsSq a x)(W:IsSq b y)(E:yKm a)(D:yKm b)(st:ISt):ICall prog gl 52 [x,y] st (λr st'=>r=.raw (.bool (yXf a b))/\st'=st):=by
 obtain⟨t1,U,t2,O,rfl,e1,i1,e2,i2⟩:=hx;obtain⟨t3,J,t4,F,rfl,e3,i3,e4,i4⟩:=W;refine iI func52 ?_;simp only[go_sem,zE,zA];refine (vY7 gl G a.l b.l t1 t3 U J e1 e3 i1 i3 E.1 D.1 _).mono ?_;rintro _ _ ⟨rfl,rfl⟩;cases A:allF a.l b.l
 ·simp only[go_sem,zE];exact yQ0 ⟨by simp[yXf,A],rfl⟩
 ·simp only[go_sem,zE,zA];refine (vY7 gl G a.r b.r t2 t4 O F e2 e4 i2 i4 E.2 D.2 _).mono ?_;rintro _ _ ⟨rfl,rfl⟩;simp only[go_sem,zE];exact yQ0 ⟨by simp[yXf,A],rfl⟩
theorem wGe (G:Gl gl)(a b:Sq)(x y:IV)(D:IsSq a x)(A:IsSq b y)(F:yKm a)(E:yKm b)(st:ISt):ICall prog gl 53 [x,y] st (λr st'=>r=.raw (.bool (yXf a b&&yXf b a))/\st'=st):=by
 have h1:=λst=>zKf gl G a b x y D A F E st;have h2:=λst=>zKf gl G b a y x A D E F st;obtain⟨t1,W,t2,U,rfl,e1,i1,e2,i2⟩:=D;obtain⟨t3,O,t4,J,rfl,e3,i3,e4,i4⟩:=A;refine iI func53 ?_;simp only[go_sem,zE,zA,zL];refine (h1 _).mono ?_;rintro _ _ ⟨rfl,rfl⟩;cases hr:yXf a b
 ·simp only[go_sem,zE];exact yQ0 ⟨by simp,rfl⟩
 ·simp only[go_sem,zE,zA,zL];refine (h2 _).mono ?_;rintro _ _ ⟨rfl,rfl⟩;simp only[go_sem,zE];exact yQ0 ⟨by simp,rfl⟩
