/- Sequents and trees of sequents as plain -/
import Derived.Test.YtofmbookakncjabGreatDoorKD
set_option linter.all false
open Nat renaming reduceEqDiff → zE,reduceBEq → zB,reduceAdd → zA,reduceMul → zM,reduceLeDiff → zL
namespace Go.Iv
open Go
structure Sq where
 l:List Fm
 r:List Fm
inductive Tr where
 | mk (rule:Nat) (s:Sq) (main:Fm) (term:Tm) (name:ByteArray) (sub:List Tr)
def IsSq (s:Sq)(x:IV):Prop:=∃t A D ys,x=.agg [.sl t A,.sl D ys]/\okEs t 4/\IsFms s.l A/\okEs D 4/\IsFms s.r ys
def IsSqs:List Sq->List IV->Prop
 | [],A=>A=[]
 | a::D,A=>∃y ys,A=y::ys/\IsSq a y/\IsSqs D ys
mutual
def IsTr:Tr->IV->Prop
 | .mk rule s f u n sub,x=>∃tl xl tr E op fn ta J tb G v O U A ts D,x=.agg [.raw (.int .u8 rule),.sl tl xl,.sl tr E,.raw (.int .u8 op),.raw (.string fn),.sl ta J,.sl tb G,.raw (.bool v),.raw (.string O),.sl U A,n,.sl ts D] /\
  rule<256/\okEs tl 4/\IsFms s.l xl/\okEs tr 4/\IsFms s.r E/\IsFm f (.agg [.raw (.int .u8 op),.raw (.string fn),.sl ta J,.sl tb G])/\IsTm u (.agg [.raw (.bool v),.raw (.string O),.sl U A])/\okEs ts 12/\IsTrs sub D
def IsTrs:List Tr->List IV->Prop
 | [],A=>A=[]
 | a::D,A=>∃y ys,A=y::ys/\IsTr a y/\IsTrs D ys
end
def IsTr.mk {rule:Nat}{s:Sq}{f:Fm}{u:Tm}{n:ByteArray}{sub:List Tr}{x:IV}(h:IsTr (.mk rule s f u n sub) x):∃tl xl tr E op fn ta J tb G v O U A ts D,x=.agg [.raw (.int .u8 rule),.sl tl xl,.sl tr E,.raw (.int .u8 op),.raw (.string fn),.sl ta J,.sl tb G,.raw (.bool v),.raw (.string O),.sl U A,n,.sl ts D] /\
  rule<256/\okEs tl 4/\IsFms s.l xl/\okEs tr 4/\IsFms s.r E/\IsFm f (.agg [.raw (.int .u8 op),.raw (.string fn),.sl ta J,.sl tb G])/\IsTm u (.agg [.raw (.bool v),.raw (.string O),.sl U A])/\okEs ts 12/\IsTrs sub D:=by
 simpa only[IsTr] using h
def IsSqs.len:∀ {D:List Sq}{A:List IV},IsSqs D A->A.length=D.length
 | [],A,h=>by simp only[IsSqs] at h;subst h;rfl
 | a::D,A,h=>by
  simp only[IsSqs] at h;obtain⟨y,ys,rfl,_,h⟩:=h;simp[IsSqs.len h]
def IsSqs.get:∀ {E:List Sq}{D:List IV}{k:Nat}{a:Sq},IsSqs E D->E[k]?=some a->∃x,D[k]?=some x/\IsSq a x
 | [],D,k,a,h,A=>by simp at A
 | b::E,D,k,a,h,A=>by
  simp only[IsSqs] at h;obtain⟨y,ys,rfl,G,h⟩:=h;cases k with
  | zero=>simp at A;subst A;exact⟨y,rfl,G⟩
  | succ k=>simpa using IsSqs.get h (by simpa using A)
def IsTrs.len:∀ {D:List Tr}{A:List IV},IsTrs D A->A.length=D.length
 | [],A,h=>by simp only[IsTrs] at h;subst h;rfl
 | a::D,A,h=>by
  simp only[IsTrs] at h;obtain⟨y,ys,rfl,_,h⟩:=h;simp[IsTrs.len h]
def IsTrs.get:∀ {E:List Tr}{D:List IV}{k:Nat}{a:Tr},IsTrs E D->E[k]?=some a->∃x,D[k]?=some x/\IsTr a x
 | [],D,k,a,h,A=>by simp at A
 | b::E,D,k,a,h,A=>by
  simp only[IsTrs] at h;obtain⟨y,ys,rfl,G,h⟩:=h;cases k with
  | zero=>simp at A;subst A;exact⟨y,rfl,G⟩
  | succ k=>simpa using IsTrs.get h (by simpa using A)
def IsTrs.append:∀ {E D:List Tr}{A ys:List IV},IsTrs E A->IsTrs D ys->IsTrs (E++D) (A++ys)
 | [],D,A,ys,h,k=>by simp only[IsTrs] at h;subst h;exact k
 | a::E,D,A,ys,h,k=>by
  simp only[IsTrs] at h;obtain⟨y,zs,rfl,G,h⟩:=h;exact⟨y,zs++ys,rfl,G,IsTrs.append h k⟩
mutual
def Tr.steps:Tr->Nat
 | .mk _ _ _ _ _ sub=>1+gk sub
def gk:List Tr->Nat
 | []=>0
 | a::l=>a.steps+gk l
end
mutual
def Tr.height:Tr->Nat
 | .mk _ _ _ _ _ sub=>1+mR sub
def mR:List Tr->Nat
 | []=>0
 | a::l=>max a.height (mR l)
end
def AI:∀l m:List Tr,gk (l++m)=gk l+gk m
 | [],m=>by simp[gk]
 | a::l,m=>by simp only[fq,gk,AI l m];omega
def Tr.height_le_steps:∀t:Tr,t.height<=t.steps:=by
 have key:∀k:Nat,(∀t:Tr,SizeOf.sizeOf t<k->t.height<=t.steps):=λk=>by
  induction k with
  | zero=>intro t h;omega
  | succ k D =>
   rintro⟨rule,s,f,u,n,sub⟩ h;have:∀l:List Tr,SizeOf.sizeOf l<k+1->mR l<=gk l:=λl=>by
    induction l with
    | nil=>intro _;simp[mR,gk]
    | cons a l A =>
     intro hl;simp only[List.cons.sizeOf_spec] at hl;have h1:=D a (by omega);have h2:=A (by omega);simp only[mR,gk];omega
   simp only[Tr.mk.sizeOf_spec] at h;have:=this sub (by omega);simp only[Tr.height,Tr.steps];omega
 exact λt=>key _ t (fP _)
mutual
def Tr.walk:List Nat->Tr->List (List Nat×Tr)
 | p,t@(.mk _ _ _ _ _ sub)=>(p,t)::fJ p 0 sub
def fJ:List Nat->Nat->List Tr->List (List Nat×Tr)
 | _,_,[]=>[]
 | p,i,a::l=>a.walk (p++[i])++fJ p (i+1) l
end
def g_ (e:Tr->Nat):List (List Nat×Tr)->List Nat×Nat
 | []=>([],0)
 | (p,t)::l=>if e t=0 then g_ e l else (p,e t)
def uz (e:Tr->Nat):∀l m,g_ e (l++m)=if (g_ e l).2=0 then g_ e m else g_ e l
 | [],m=>by simp[g_]
 | (p,t)::l,m=>by
  have A:=uz e l m;by_cases h:e t=0
  ·simp only[fq,g_,h,el,A]
  ·simp[g_,h]
def Fm.op:Fm->Nat
 | .mk op _ _ _=>op
def Fm.subs:Fm->List Fm
 | .mk _ _ _ sub=>sub
def Fm.nm:Fm->ByteArray
 | .mk _ n _ _=>n
def Tr.sq:Tr->Sq
 | .mk _ s _ _ _ _=>s
def Sq.plus (s m:Sq):Sq:=⟨s.l++m.l,s.r++m.r⟩
end Go.Iv
namespace Go.Proofs.Tryz
open Go Go.Iv
set_option maxRecDepth 4000
variable (gl:Nat->Option IV)
def FK (v w:Bool)(n m:ByteArray)(us ws:List Tm)(x y:IV)(hx:IsTm (.mk v n us) x)(hy:IsTm (.mk w m ws) y)
  (IH:∀(t U:Tag) (O ys:List IV),okEs t 3->okEs U 3->IsTms us O->IsTms ws ys->∀st,ICall prog gl 44 [.sl t O,.sl U ys] st (λx st'=>x=(eqB us ws:Bool)/\st'=st)) (st:ISt) :
  ICall prog gl 40 [x,y] st (λr st'=>r=(eqB (Tm.mk v n us) (.mk w m ws):Bool)/\st'=st):=by
 obtain⟨tx,cx,rfl,E,J⟩:=hx.mk;obtain⟨ty,cy,rfl,D,G⟩:=hy.mk;refine iI func40 ?_;by_cases hv:v=w
 ·subst hv;by_cases A:n=m
  ·subst A;simp only[go_sem,zE,zA,d_];refine (IH tx ty cx cy E D J G _).q ?_;simp only[go_sem,zE];refine dw ⟨?_,rfl⟩;by_cases hc:us=ws
   ·subst hc;rw[yZ2.2 rfl,yZ2.2 rfl]
   ·rw[yQq.2 hc,yQq.2 (by rintro⟨⟩;exact hc rfl)]
  ·simp only[go_sem,zE,zA,dEf A];exact dw ⟨by rw[yQq.2 (by rintro⟨⟩;exact A rfl)],rfl⟩
 ·simp only[go_sem,zE,zA,beq_eq_false_iff_ne.2 hv];exact dw ⟨by rw[yQq.2 (by rintro⟨⟩;exact hv rfl)],rfl⟩
def AJ (t t':Tag)(us ws:List Tm)(xs ys:List IV)(ht:okEs t 3)(ai:okEs t' 3)(ha:IsTms us xs)(hb:IsTms ws ys)(st:ISt) :
  ICall prog gl 44 [.sl t xs,.sl t' ys] st (λx st'=>x=(eqB us ws:Bool)/\st'=st):=by
 refine iI func44 ?_;simp only[go_sem,zE,reduceCtorEq,ha.len,hb.len];intro aB aA;refine lI (λh=>?_) (λh=>?_)
 ·have J:us≠ws:=by rintro rfl;simp at h
  simp only[go_sem];exact dw ⟨by rw[yQq.2 J],rfl⟩
 have G:us.length=ws.length:=by simp at h;omega
 refine dC us.length (λk fr st' ds=>us.take k=ws.take k/\fr 0=.iv (.sl t xs)/\fr 1=.iv (.sl t' ys)/\fr 5=.iv (.raw (.int .i64 k))/\st'=st/\ds=[]) ?_ ?_ ?_
 ·simp only[go_sem,zE,reduceCtorEq];rfl
 ·rintro k fr st' ds A ⟨U,h0,h1,h5,rfl,rfl⟩;obtain⟨a,E⟩:=ed A;obtain⟨b,D⟩:=ed (G▸A);obtain⟨x,ak,hx⟩:=ha.get E;obtain⟨y,aj,hy⟩:=hb.get D;obtain⟨v,n,cs⟩:=a;obtain⟨w,m,ds⟩:=b;have ah:=hx;have ag:=hy;obtain⟨tx,cx,rfl,az,aE⟩:=hx.mk;obtain⟨ty,cy,rfl,ay,aD⟩:=hy.mk;have O:=FK gl v w n m cs ds _ _ ah ag (λt1 t2 x1 y1 q1 q2 q3 q4 af=>AJ t1 t2 cs ds x1 y1 q1 q2 q3 q4 af) st';simp only[go_sem,zE,zB,zA,reduceCtorEq,h0,h1,h5,ha.len,lt_i A,ec ht,ec ai,iNn,ak,aj,fits];intro _;refine O.mono ?_;rintro _ _ ⟨rfl,rfl⟩;by_cases hc:Tm.mk v n cs=.mk w m ds
  ·simp only[go_sem,zE,reduceCtorEq,h0,h1,h5,ek A (by omega),yZ2.2 hc];rw[en E,en D,U,hc]
  ·have J:us≠ws:=by
    rintro rfl;rw[E] at D;exact hc (fA D)
   simp only[go_sem,yQq.2 hc];exact dw ⟨by rw[yQq.2 J],rfl⟩
 ·rintro fr st' ds ⟨U,h0,h1,h5,rfl,rfl⟩;simp only[go_sem,zE,reduceCtorEq,h0,h5,ha.len,eI (nLi _)];intro _;have he:us=ws:=by rw[lTl] at U;rw[U,G,lTl]
  exact dw ⟨by rw[yZ2.2 he],rfl⟩
termination_by SizeOf.sizeOf us
decreasing_by exact NA (lMg E)
def NU (a b:Tm)(x y:IV)(G:IsTm a x)(E:IsTm b y)(st:ISt):ICall prog gl 40 [x,y] st (λr st'=>r=(eqB a b:Bool)/\st'=st):=by
 obtain⟨v,n,us⟩:=a;obtain⟨w,m,ws⟩:=b;exact FK gl v w n m us ws x y G E (λt D A ys h1 h2 O J st=>AJ gl t D us ws A ys h1 h2 O J st) st
def kSF (f:Fm):Prop:=∀(g:Fm) (x y:IV) (_:IsFm f x) (_:IsFm g y) (st:ISt),ICall prog gl 23 [x,y] st (λr st'=>r=(eqB f g:Bool)/\st'=st)
def FL (us ws:List Fm)(IH:∀a∈us,kSF gl a)(t t':Tag)(xs ys:List IV)(ht:okEs t 4)(ag:okEs t' 4)(ha:IsFms us xs)(hb:IsFms ws ys)(st:ISt) :
  ICall prog gl 41 [.sl t xs,.sl t' ys] st (λx st'=>x=(eqB us ws:Bool)/\st'=st):=by
 refine iI func41 ?_;simp only[go_sem,zE,reduceCtorEq,ha.len,hb.len];intro an am;refine lI (λh=>?_) (λh=>?_)
 ·have J:us≠ws:=by rintro rfl;simp at h
  simp only[go_sem];exact dw ⟨by rw[yQq.2 J],rfl⟩
 have G:us.length=ws.length:=by simp at h;omega
 refine dC us.length (λk fr st' ds=>us.take k=ws.take k/\fr 0=.iv (.sl t xs)/\fr 1=.iv (.sl t' ys)/\fr 5=.iv (.raw (.int .i64 k))/\st'=st/\ds=[]) ?_ ?_ ?_
 ·simp only[go_sem,zE,reduceCtorEq];rfl
 ·rintro k fr st' ds A ⟨hn,h0,h1,h5,rfl,rfl⟩;obtain⟨a,E⟩:=ed A;obtain⟨b,D⟩:=ed (G▸A);obtain⟨x,ai,hx⟩:=ha.get E;obtain⟨y,ah,hy⟩:=hb.get D;have O:=IH a (lMg E) b x y hx hy st';obtain⟨o,n,cs,sub⟩:=a;obtain⟨o',m,ds,U⟩:=b;obtain⟨tx,cx,sx,dx,rfl,_⟩:=hx.mk;obtain⟨ty,cy,sy,dy,rfl,_⟩:=hy.mk;simp only[go_sem,zE,zB,zA,reduceCtorEq,h0,h1,h5,ha.len,lt_i A,ec ht,ec ag,iNn,ai,ah,fits];intro _;refine O.mono ?_;rintro _ _ ⟨rfl,rfl⟩;by_cases hc:Fm.mk o n cs sub=.mk o' m ds U
  ·simp only[go_sem,zE,reduceCtorEq,h0,h1,h5,ek A (by omega),yZ2.2 hc];rw[en E,en D,hn,hc]
  ·have J:us≠ws:=by
    rintro rfl;rw[E] at D;exact hc (fA D)
   simp only[go_sem,yQq.2 hc];exact dw ⟨by rw[yQq.2 J],rfl⟩
 ·rintro fr st' ds ⟨hn,h0,h1,h5,rfl,rfl⟩;simp only[go_sem,zE,reduceCtorEq,h0,h5,ha.len,eI (nLi _)];intro _;have he:us=ws:=by rw[lTl] at hn;rw[hn,G,lTl]
  exact dw ⟨by rw[yZ2.2 he],rfl⟩
def NV (o:Nat)(n:ByteArray)(us:List Tm)(sub:List Fm)(IH:∀a∈sub,kSF gl a):kSF gl (.mk o n us sub):=by
 intro g x y hx hy st;obtain⟨o',m,ws,A⟩:=g;obtain⟨tx,cx,sx,dx,rfl,ho,O,af,aa,ac⟩:=hx.mk;obtain⟨ty,cy,sy,dy,rfl,am,J,ae,U,ab⟩:=hy.mk;have E:=FL gl sub A IH sx sy dx dy aa U ac ab;refine iI func23 ?_;by_cases hv:o=o'
 ·subst hv;by_cases D:n=m
  ·subst D;simp only[go_sem,zE,zA,d_];refine (AJ gl tx ty us ws cx cy O J af ae _).q ?_;by_cases hc:us=ws
   ·subst hc;simp only[go_sem,zE,zA,yZ2.2 rfl];refine (E _).q ?_;simp only[go_sem,zE];refine dw ⟨?_,rfl⟩;by_cases hd:sub=A
    ·subst hd;rw[yZ2.2 rfl,yZ2.2 rfl]
    ·rw[yQq.2 hd,yQq.2 (by rintro⟨⟩;exact hd rfl)]
   ·simp only[go_sem,zE,yQq.2 hc];exact dw ⟨by rw[yQq.2 (by rintro⟨⟩;exact hc rfl)],rfl⟩
  ·simp only[go_sem,zE,zA,dEf D,d_];exact dw ⟨by rw[yQq.2 (by rintro⟨⟩;exact D rfl)],rfl⟩
 ·have G:decide ((o:Int)=(o':Int))=false:=dEf (by omega);simp only[go_sem,zE,zA,G];exact dw ⟨by rw[yQq.2 (by rintro⟨⟩;exact hv rfl)],rfl⟩
def FM:∀(k:Nat)(f:Fm),SizeOf.sizeOf f<k->kSF gl f
 | 0,f,h=>by omega
 | k+1,.mk o n us sub,h=>NV gl o n us sub (λa A=>FM k a (by
   have:=lSm A;simp only[Fm.mk.sizeOf_spec] at h;omega))
def AL (f:Fm):kSF gl f:=FM gl _ f (fP _)
def FN (us ws:List Fm)(t D:Tag)(A ys:List IV)(ht:okEs t 4)(E:okEs D 4)(J:IsFms us A)(G:IsFms ws ys)(st:ISt) :
  ICall prog gl 41 [.sl t A,.sl D ys] st (λx st'=>x=(eqB us ws:Bool)/\st'=st):=FL gl us ws (λa _=>AL gl a) t D A ys ht E J G st
def AM (a b:Sq)(x y:IV)(U:IsSq a x)(O:IsSq b y)(st:ISt):ICall prog gl 15 [x,y] st (λr st'=>r=(eqB a b:Bool)/\st'=st):=by
 obtain⟨l,r⟩:=a;obtain⟨A,r'⟩:=b;obtain⟨t1,J,t2,G,rfl,h1,h2,h3,h4⟩:=U;obtain⟨t3,E,t4,D,rfl,h5,h6,h7,h8⟩:=O;refine iI func15 ?_;simp only[go_sem,zE,zA];refine (FN gl l A t1 t3 J E h1 h5 h2 h6 _).q ?_;by_cases hc:l=A
 ·subst hc;simp only[go_sem,zE,zA,yZ2.2 rfl];refine (FN gl r r' t2 t4 G D h3 h7 h4 h8 _).q ?_;simp only[go_sem,zE];refine dw ⟨?_,rfl⟩;by_cases hd:r=r'
  ·subst hd;rw[yZ2.2 rfl,yZ2.2 rfl]
  ·rw[yQq.2 hd,yQq.2 (by rintro⟨⟩;exact hd rfl)]
 ·simp only[go_sem,zE,yQq.2 hc];exact dw ⟨by rw[yQq.2 (by rintro⟨⟩;exact hc rfl)],rfl⟩
def eJ (l:List Nat):List IV:=l.map λ(n:Nat)=>(n:Int)
def wy (l:List Nat):(eJ l).length=l.length:=by simp[eJ]
def FP {l:List Nat}{k n:Nat}(h:l[k]?=some n):(eJ l)[k]?=some (.raw (.int .i64 n)):=by simp[eJ,h]
def NW (t t':Tag)(us ws:List Nat)(ht:okEs t 1)(O:okEs t' 1)(st:ISt) :
  ICall prog gl 17 [.sl t (eJ us),.sl t' (eJ ws)] st (λx st'=>x=(eqB us ws:Bool)/\st'=st):=by
 refine iI func17 ?_;simp only[go_sem,zE,reduceCtorEq,wy];intro ag af;refine lI (λh=>?_) (λh=>?_)
 ·have G:us≠ws:=by rintro rfl;simp at h
  simp only[go_sem];exact dw ⟨by rw[yQq.2 G],rfl⟩
 have E:us.length=ws.length:=by simp at h;omega
 refine dC us.length (λk fr st' ds=>us.take k=ws.take k/\fr 0=.iv (.sl t (eJ us))/\fr 1=.iv (.sl t' (eJ ws))/\fr 5=.iv (.raw (.int .i64 k))/\st'=st/\ds=[]) ?_ ?_ ?_
 ·simp only[go_sem,zE,reduceCtorEq];rfl
 ·rintro k fr st' ds A ⟨hn,h0,h1,h5,rfl,rfl⟩;obtain⟨a,J⟩:=ed A;obtain⟨b,D⟩:=ed (E▸A);have aa:=FP J;have U:=FP D;by_cases hc:a=b
  ·subst hc;simp only[go_sem,zE,reduceCtorEq,h0,h1,h5,wy,lt_i A,ek A (by omega),ec ht,ec O,iNn,aa,U,fits,d_];intro _;rw[en J,en D,hn]
  ·have G:us≠ws:=by
    rintro rfl;rw[J] at D;exact hc (fA D)
   have hd:decide ((a:Int)=(b:Int))=false:=dEf (by omega);simp only[go_sem,zE,reduceCtorEq,h0,h1,h5,wy,lt_i A,ec ht,ec O,iNn,aa,U,fits,hd];intro _;exact dw ⟨by rw[yQq.2 G],rfl⟩
 ·rintro fr st' ds ⟨hn,h0,h1,h5,rfl,rfl⟩;simp only[go_sem,zE,reduceCtorEq,h0,h5,wy,eI (nLi _)];intro _;have he:us=ws:=by rw[lTl] at hn;rw[hn,E,lTl]
  exact dw ⟨by rw[yZ2.2 he],rfl⟩
def jC {f:Fm}{r:IV}(h:IsFmD f r):∃o n t x A D,r=.agg [.raw (.int .u8 o),.raw (.string n),.sl t x,.sl A D]:=by
 obtain⟨o,n,us,sub⟩:=f;obtain⟨t,E,A,ys,rfl,_⟩:=h.mk;exact⟨_,_,_,_,_,_,rfl⟩
def sCT (us:List Tm):Prop:=∀(E:Tag) (D:List IV) (_:okEs E 3) (_:IsTms us D) (_:fp us<=1099511627776) (st:ISt),
 ICall prog gl 88 [.sl E D,.fn (.func 89) [] []] st (λr st'=>∃A ys,r=.sl A ys/\okEs A 3/\appT us.length A/\IsTmsD us ys/\st'=st)
def NX (v:Bool)(n:ByteArray)(us:List Tm)(IH:sCT gl us)(x:IV)(O:IsTm (.mk v n us) x)(hs:(Tm.mk v n us).size<=1099511627776)(st:ISt) :
  ICall prog gl 89 [x] st (λr st'=>IsTmD (.mk v n us) r/\st'=st):=by
 obtain⟨G,cx,rfl,D,E⟩:=O.mk;simp only[Tm.size] at hs;have A:=IH G cx D E (by omega) st;refine iI func89 ?_;simp only[go_sem,zE,zA];refine A.mono ?_;rintro _ _ ⟨J,ys,rfl,U,ha,hys,rfl⟩;simp only[go_sem,zE,zA,zL,fits];exact dw ⟨IsTmD.intro U ha hys,rfl⟩
def NY (us:List Tm)(IH:∀v n l,Tm.mk v n l∈us->sCT gl l):sCT gl us:=by
 intro tg xs aj J ax st;have an:=p7 us;refine iI func88 ?_;simp only[go_sem,reduceCtorEq,J.len];intro _;refine lI (λh=>?_) (λh=>?_)
 ·obtain rfl:us=[]:=fw (by simpa using h);simp only[go_sem];exact dw ⟨_,_,rfl,.inl rfl,.inl rfl,IsTmsD.nil,rfl⟩
 have G:0<us.length:=Nat.pos_of_ne_zero λh0=>by simp[h0] at h
 simp only[go_sem,reduceCtorEq,J.len];intro _;refine gp ⟨iNn _,by omega,by omega⟩ λg=>fc λhg=>?_;intro _;refine dC us.length (λk fr st' ds=>(∃A ys,fr 5=.iv (.sl A ys)/\IsTmsD (us.take k) ys/\appT us.length A/\own st' A k 3 st/\subSt st st')/\fr 1=.iv (.fn (.func 89) [] []) /\
  fr 14=.iv (.sl tg xs)/\fr 15=us.length/\fr 16=.iv (.raw (.int .i64 k))/\ds=[]) ?_ ?_ ?_
 ·simp only[go_sem,zE];exact⟨⟨_,_,rfl,IsTmsD.nil,.inr ⟨G,rfl,g,rfl⟩,.inr (.inr ⟨g,rfl,b_ _ _ _,hg⟩),fM (subSt.refl _) hg⟩,rfl⟩
 ·rintro k fr ae _ aa ⟨⟨A,ys,f5,hys,ag,E,D⟩,f1,f14,f15,f16,rfl⟩;obtain⟨a,ha⟩:=ed aa;obtain⟨x,ak,hx⟩:=J.get ha;obtain⟨h1,h2⟩:=oe ha;have ab:ys.length=k:=by rw[hys.len,eO];omega
  obtain⟨v2,n2,m⟩:=a;have ac:=NX gl v2 n2 m (IH _ _ _ (lMg ha)) x hx (by omega) ae;obtain⟨tx,cx,rfl,aw,az⟩:=hx.mk;simp only[go_sem,zE,zB,zA,zL,f1,f5,f14,f15,f16,lt_i aa,ec aj,iNn,ak,fits];refine ac.mono ?_;rintro r _ ⟨hr,rfl⟩;have hn:IsTmsD (us.take (k+1)) (ys++[r]):=by
   rw[en ha];exact hys.append (IsTmsD.one hr)
  obtain⟨t3,x3,rfl,_⟩:=IsTmD.mk hr;simp only[go_sem,zE,zA,zM,zL,fits,fg];refine ou E ab D rfl (by simp[fits,IV.one]) (by simp only;omega) (by omega) λai st4 U O _ af=>?_;simp only[go_sem,zE,f1,f14,f15,f16,ek aa (by omega)];exact⟨ai,_,rfl,hn,af.pos G,U,O⟩
 ·rintro fr ae _ ⟨⟨A,ys,f5,hys,ag,E,D⟩,f1,f14,f15,f16,rfl⟩;rw[lTl] at hys;simp only[go_sem,zE,f5,f15,f16,eI (nLi _)];exact fN (st':=st) D ⟨A,ys,rfl,E.es,ag,hys,rfl⟩
def FQ:∀(k:Nat)(us:List Tm),SizeOf.sizeOf us<k->sCT gl us
 | 0,f,h=>by omega
 | k+1,us,h=>NY gl us (λv n l A=>FQ k l (by
   have:=lSm A;simp at this;omega))
def NZ (us:List Tm):sCT gl us:=FQ gl _ us (fP _)
def sCF (f:Fm):Prop:=∀(x:IV) (_:IsFm f x) (_:f.size<=1099511627776) (st:ISt),ICall prog gl 63 [x] st (λr st'=>IsFmD f r/\st'=st)
def N0 (us:List Fm)(IH:∀a∈us,sCF gl a)(tg:Tag)(xs:List IV)(al:okEs tg 4)(J:IsFms us xs)(av:eS us<=1099511627776)(st:ISt) :
  ICall prog gl 90 [.sl tg xs,.fn (.func 63) [] []] st (λr st'=>∃A ys,r=.sl A ys/\okEs A 4/\appT us.length A/\IsFmsD us ys/\st'=st):=by
 have aq:=oj us;refine iI func90 ?_;simp only[go_sem,reduceCtorEq,J.len];intro _;refine lI (λh=>?_) (λh=>?_)
 ·obtain rfl:us=[]:=fw (by simpa using h);simp only[go_sem];exact dw ⟨_,_,rfl,.inl rfl,.inl rfl,IsFmsD.nil,rfl⟩
 have G:0<us.length:=Nat.pos_of_ne_zero λh0=>by simp[h0] at h
 simp only[go_sem,reduceCtorEq,J.len];intro _;refine gp ⟨iNn _,by omega,by omega⟩ λg=>fc λhg=>?_;intro _;refine dC us.length (λk fr st' ds=>(∃A ys,fr 5=.iv (.sl A ys)/\IsFmsD (us.take k) ys/\appT us.length A/\own st' A k 4 st/\subSt st st')/\fr 1=.iv (.fn (.func 63) [] []) /\
  fr 14=.iv (.sl tg xs)/\fr 15=us.length/\fr 16=.iv (.raw (.int .i64 k))/\ds=[]) ?_ ?_ ?_
 ·simp only[go_sem,zE];exact⟨⟨_,_,rfl,IsFmsD.nil,.inr ⟨G,rfl,g,rfl⟩,.inr (.inr ⟨g,rfl,b_ _ _ _,hg⟩),fM (subSt.refl _) hg⟩,rfl⟩
 ·rintro k fr ae _ aa ⟨⟨A,ys,f5,hys,ag,E,D⟩,f1,f14,f15,f16,rfl⟩;obtain⟨a,ha⟩:=ed aa;obtain⟨x,am,hx⟩:=J.get ha;obtain⟨h1,h2⟩:=kW ha;have ab:ys.length=k:=by rw[hys.len,eO];omega
  have ac:=IH a (lMg ha) x hx (by omega) ae;obtain⟨o5,n5,t5,x5,t6,x6,rfl⟩:=hx.agg;simp only[go_sem,zE,zB,zA,zL,f1,f5,f14,f15,f16,lt_i aa,ec al,iNn,am,fits];refine ac.mono ?_;rintro r _ ⟨hr,rfl⟩;have hn:IsFmsD (us.take (k+1)) (ys++[r]):=by
   rw[en ha];exact hys.append (IsFmsD.one hr)
  obtain⟨o7,n7,t7,x7,t8,x8,rfl⟩:=jC hr;simp only[go_sem,zE,zA,zM,zL,fits,fg];refine ou E ab D rfl (by simp[fits,IV.one]) (by simp only;omega) (by omega) λaj st4 U O _ af=>?_;simp only[go_sem,zE,f1,f14,f15,f16,ek aa (by omega)];exact⟨aj,_,rfl,hn,af.pos G,U,O⟩
 ·rintro fr ae _ ⟨⟨A,ys,f5,hys,ag,E,D⟩,f1,f14,f15,f16,rfl⟩;rw[lTl] at hys;simp only[go_sem,zE,f5,f15,f16,eI (nLi _)];exact fN (st':=st) D ⟨A,ys,rfl,E.es,ag,hys,rfl⟩
def N1 (o:Nat)(n:ByteArray)(us:List Tm)(sub:List Fm)(IH:∀a∈sub,sCF gl a):sCF gl (.mk o n us sub):=by
 intro x hx hs st;obtain⟨t1,x1,t2,x2,rfl,ho,J,E,G,D⟩:=hx.mk;simp only[Fm.size] at hs;have aa:=NZ gl us t1 x1 J E (by omega) st;have U:=N0 gl sub IH t2 x2 G D (by omega) st;refine ICall.intro (c:=cf prog gl [] [(1,[0,1,2,3,4,5,7,8,6,9,10,11])]) func63 rfl (by show _<=14;simp) (by kernel_rfl) ?_;simp only[go_sem,zE,zA];refine aa.mono ?_;rintro _ _ ⟨ah,ys,rfl,he,ha,hys,rfl⟩;simp only[go_sem,zE,zA];refine U.mono ?_;rintro _ _ ⟨ag,ac,rfl,O,ab,A,rfl⟩;simp only[go_sem,zE,zA,zL,fits];exact dw ⟨IsFmD.intro ho he ha hys O ab A,rfl⟩
def FR:∀(k:Nat)(f:Fm),SizeOf.sizeOf f<k->sCF gl f
 | 0,f,h=>by omega
 | k+1,.mk o n us sub,h=>N1 gl o n us sub (λa A=>FR k a (by
   have:=lSm A;simp only[Fm.mk.sizeOf_spec] at h;omega))
def ow (f:Fm):sCF gl f:=FR gl _ f (fP _)
def N2 (us:List Fm)(tg:Tag)(xs:List IV)(aj:okEs tg 4)(ac:IsFms us xs)(aq:eS us<=1099511627776)(st:ISt) :
  ICall prog gl 165 [.sl tg xs] st (λr st'=>∃A ys,r=.sl A ys/\okEs A 4/\(appT us.length A/\A.fresh=true)/\IsFmsD us ys/\own st' A us.length 4 st/\subSt st st'):=by
 have ao:=oj us;refine iI func165 ?_;simp only[go_sem,reduceCtorEq,ac.len];intro _;refine dC us.length (λk fr st' ds=>(∃A ys,fr 3=.iv (.sl A ys)/\IsFmsD (us.take k) ys/\(appT k A/\A.fresh=true)/\own st' A k 4 st/\subSt st st') /\
  fr 6=.iv (.sl tg xs)/\fr 7=us.length/\fr 8=.iv (.raw (.int .i64 k))/\ds=[]) ?_ ?_ ?_
 ·simp only[go_sem,zE];exact⟨⟨_,_,rfl,IsFmsD.nil,⟨.inl rfl,rfl⟩,own.nil _ _ _ _ _,subSt.refl _⟩,rfl⟩
 ·rintro k fr ab _ O ⟨⟨A,ys,f3,hys,af,D,E⟩,f6,f7,f8,rfl⟩;obtain⟨a,ha⟩:=ed O;obtain⟨x,ak,hx⟩:=ac.get ha;obtain⟨h1,h2⟩:=kW ha;have U:ys.length=k:=by rw[hys.len,eO];omega
  have aa:=ow gl a x hx (by omega) ab;obtain⟨o5,n5,t5,x5,t6,x6,rfl⟩:=hx.agg;simp only[go_sem,zE,zB,zA,zL,f3,f6,f7,f8,lt_i O,ec aj,iNn,ak,fits];refine aa.mono ?_;rintro r _ ⟨hr,rfl⟩;have hn:IsFmsD (us.take (k+1)) (ys++[r]):=by
   rw[en ha];exact hys.append (IsFmsD.one hr)
  obtain⟨o7,n7,t7,x7,t8,x8,rfl⟩:=jC hr;simp only[go_sem,zE,zA,zM,zL,fits,fg];refine ou D U E rfl (by simp[fits,IV.one]) (by simp only;omega) (by omega) λah st4 G J _ ae=>?_;simp only[go_sem,zE,f6,f7,f8,ek O (by omega)];exact⟨ah,_,rfl,hn,⟨ae,by
   rcases G with⟨h0,_⟩|rfl|⟨_,rfl,_⟩
   ·omega
   ·rfl
   ·rfl⟩,G,J⟩
 ·rintro fr ab _ ⟨⟨A,ys,f3,hys,af,D,E⟩,f6,f7,f8,rfl⟩;rw[lTl] at hys;simp only[go_sem,zE,f3,f7,f8,eI (nLi _)];exact dw ⟨A,ys,rfl,D.es,af,hys,D,E⟩
end Go.Proofs.Tryz
namespace Go.Proofs.Tryz
open Go Go.Iv
mutual
def opsB (ca:Nat):Fm->Bool
 | .mk op _ us sub=>decide (1<=op)&&decide (op<=if ca=3 then 9 else 7)&&(decide (ca=3) || us.isEmpty)&&jD ca sub
def jD (ca:Nat):List Fm->Bool
 | []=>true
 | a::l=>opsB ca a&&jD ca l
end
def fmB (ca:Nat)(f:Fm):Bool:=f.right&&opsB ca f
def jL (ca:Nat):Bool:=decide (1<=ca)&&decide (ca<=3)
noncomputable def eqF (a b:Fm):Bool:=decide (a.op=b.op)&&p8 a b
noncomputable def hasF (l:List Fm)(f:Fm):Bool:=l.any (eqF f)
noncomputable def allF (l m:List Fm):Bool:=l.all (hasF m)
noncomputable def qc (a b:Sq):Bool:=allF a.l b.l&&allF a.r b.r
noncomputable def AN:List Fm->Bool
 | []=>true
 | a::l=>(a::l).all λf=>eqF f a
noncomputable def fT (ca:Nat)(s:Sq):Bool :=
 jL ca&&decide (s.l.length<=64)&&decide (s.r.length<=64)&&s.l.all (fmB ca)&&s.r.all (fmB ca)&&(decide (ca≠2) || AN s.r)
structure Rw where
 left:Bool
 right:Bool
 op:Nat
 asks:Nat
def rowK (rule:Nat):Option Rw :=
 if rule=1 then some ⟨true,true,0,0⟩ else if rule=2 then some ⟨true,false,2,0⟩ else if rule=3 then some ⟨true,false,3,0⟩ else if rule=4 then some ⟨false,true,3,0⟩
 else if rule=5 then some ⟨true,false,4,0⟩ else if rule=6 then some ⟨false,true,4,0⟩ else if rule=7 then some ⟨true,false,5,0⟩ else if rule=8 then some ⟨false,true,5,0⟩
 else if rule=9 then some ⟨true,false,6,0⟩ else if rule=10 then some ⟨false,true,6,0⟩ else if rule=11 then some ⟨true,false,7,0⟩ else if rule=12 then some ⟨false,true,7,0⟩
 else if rule=17 then some ⟨false,false,0,0⟩ else none
def rowS (ca rule:Nat):Option Rw :=
 if ca=2/\rule=18 then some ⟨false,true,5,0⟩
 else if ca=3/\rule=13 then some ⟨true,false,8,1⟩ else if ca=3/\rule=14 then some ⟨false,true,8,2⟩
 else if ca=3/\rule=15 then some ⟨true,false,9,2⟩ else if ca=3/\rule=16 then some ⟨false,true,9,1⟩ else rowK rule
def bE:ByteArray:=⟨#[]⟩
def impF (a b:Fm):Fm:=.mk 6 bE [] [a,b]
def addS (ca rule:Nat)(A a b:Fm):List Sq :=
 if rule=3 then [⟨[],[a]⟩] else if rule=4 then [⟨[a],[]⟩] else if rule=5 then [⟨[a,b],[]⟩] else if rule=6 then [⟨[],[a]⟩,⟨[],[b]⟩]
 else if rule=7 then [⟨[a],[]⟩,⟨[b],[]⟩] else if rule=8 then (if ca=2 then [⟨[],[a]⟩] else [⟨[],[a,b]⟩]) else if rule=9 then [⟨[],[a]⟩,⟨[b],[]⟩]
 else if rule=10 then [⟨[a],[b]⟩] else if rule=11 then [⟨[impF a b,impF b a],[]⟩] else if rule=12 then [⟨[a],[b]⟩,⟨[b],[a]⟩]
 else if rule=13 then [⟨[a],[]⟩] else if rule=14 then [⟨[],[a]⟩] else if rule=15 then [⟨[a],[]⟩] else if rule=16 then [⟨[],[a]⟩]
 else if rule=17 then [⟨[],[A]⟩,⟨[A],[]⟩] else if rule=18 then [⟨[],[b]⟩] else []
noncomputable def iT (ca rule:Nat)(r:Rw)(A:Fm)(term:Tm)(name:ByteArray):List Sq×Nat :=
 if !fmB ca A || (decide (r.op≠0)&&decide (A.op≠r.op)) then ([],192)
 else
  let a:=(A.subs[0]?).getD fm0
  let b:=(A.subs[1]?).getD fm0
  if r.asks=0 then (addS ca rule A a b,0)
  else
   let t:=if r.asks=2 then .mk true name [] else term
   if !t.ok then ([],193)
   else if (jf a [(A.nm,t)]).2≠0 then ([],193) else (addS ca rule A (jf a [(A.nm,t)]).1 b,0)
noncomputable def rz (s:Sq)(n:ByteArray):Bool:=s.l.any (λf=>memB (frF f) n) || s.r.any (λf=>memB (frF f) n)
noncomputable def ju (ca:Nat)(s:Sq)(rule:Nat)(A:Fm)(term:Tm)(name:ByteArray):List Sq×Nat :=
 if !fT ca s then ([],190)
 else match rowS ca rule with
  | none=>([],191)
  | some r =>
   if decide ((iT ca rule r A term name).2=192) || (r.left&&!hasF s.l A) || (r.right&&!hasF s.r A) then ([],192)
   else if (iT ca rule r A term name).2≠0 then ([],(iT ca rule r A term name).2)
   else if decide (r.asks=2)&&rz s name then ([],193)
   else ((iT ca rule r A term name).1,0)
noncomputable def km (s:Sq):List Sq->List Tr->Bool
 | m::l,t::ts=>qc t.sq (s.plus m)&&km s l ts
 | _,_=>true
noncomputable def iC (ca:Nat):Tr->Nat
 | .mk rule s A term name sub =>
  if (ju ca s rule A term name).2≠0 then (ju ca s rule A term name).2
  else if sub.length≠(ju ca s rule A term name).1.length then 194
  else if km s (ju ca s rule A term name).1 sub then 0 else 195
noncomputable def jg (ca:Nat)(t:Tr):List Nat×Nat :=
 if !jL ca then ([],2) else if 300<t.steps then ([],5) else g_ (iC ca) (t.walk [])
mutual
def AO (p q:List Nat):∀t:Tr,t.walk (p++q)=(t.walk q).map λx=>(p++x.1,x.2)
 | .mk _ _ _ _ _ sub=>by simp only[Tr.walk,ff,FT p q 0 sub]
def FT (p q:List Nat):∀(i:Nat) (l:List Tr),fJ (p++q) i l=(fJ q i l).map λx=>(p++x.1,x.2)
 | _,[]=>rfl
 | i,a::l=>by
  simp only[fJ,fS,FT p q (i+1) l];rw[fD,AO p (q++[i]) a]
end
end Go.Proofs.Tryz
namespace Go.Iv
open Go
section
variable {P:Program}{gl:Nat->Option IV}{f:FuncId}{args args':List IV}{st:ISt}
def AP {X X':WS}{g:Nat}{o:IObj}(h:Ext X X')(h0:X.st g=none)(h1:X'.st g=some o):X.w.heap.size<=g:=by
 by_cases A:g<X.w.heap.size
 ·have:=h.dom g A h0;grind
 ·omega
def wz {X':WS}{S:ISt}{g:Nat}{cs:List IV}(h0:S g=none)(A:X'.st=S.put g (some (.box cs))):LendOk X'.st (ISt.put (λ_=>none) g (some (.box cs))) S:=by
 refine⟨λb o D=>?_,λb o D=>?_,λb cs' D=>?_⟩
 ·rw[ISt.put_apply] at D;split at D
  ·rename_i E;subst E;cases D;rw[A];exact b_ ..
  ·cases D
 ·rw[A,ISt.put_apply];grind
 ·rw[ISt.put_apply] at D;grind
def AQ {C:Cx}{X':WS}{S:ISt}{g cap es:Nat}{cs zs:List IV}(h2:Good C X')(h0:S g=none)(A:X'.st=S.put g (some (.box cs)))(hB:C.B<=g)(hn:zs.length<=140737488355328)(D:zs.length<=cap)(E:cap*es<=cs.length)
  (U:cs.take (zs.length*es)=zs.flatMap IV.cells) (G:∀z∈zs,z.cells.length=es):C.v (X'.lendS (ISt.put (λ_=>none) g (some (.box cs))) S) (.slice (some ⟨g,0,none⟩) zs.length cap) (.sl ⟨true,.app g,es⟩ zs):=by
 have ac:X'.st g=some (.box cs):=by rw[A];exact b_ ..
 have ag:=h2.lendS_ext (wz h0 A);have aa:(ISt.put (λ_=>none) g (some (.box cs))) g=some (.box cs):=b_ ..;obtain⟨am,c,T,hh,J⟩:=h2.ok g _ ac;have al:c.toList.length=cs.length:=J.1;have af:(zs.flatMap IV.cells).length=zs.length*es:=iW zs G;have aj:zs.length*es<=cs.length:=eM (gC _ D) E;refine V.sl (some ⟨g,0,none⟩) cap ⟨true,.app g,es⟩ zs T (c.toList.take (zs.length*es)) rfl hn D G ?_ (λg' ae=>?_) (λ_ ad ah=>?_) (λ_=>⟨_,rfl,rfl,?_,λi r O=>?_⟩) λi r z O G=>?_
 ·grind
 ·cases ae;refine⟨T,c.size,?_,?_⟩
  ·simp[shq,WS.lendS,hh]
  ·grind
 ·cases ah;refine⟨hB,by simp,?_⟩;simp[ety,shq,WS.lendS,hh]
 ·show 0+(c.toList.take (zs.length*es)).length<=(X'.lendS _ S).L g;rw[zH aa,eO];omega
 ·show X'.w.cell? _=_;rw[eT,kh hh];grind
 ·rw[<- U,iq] at G;rw[iq] at O;split at O
  ·rename_i hi;rw[c_ hi] at G;exact ag.v (J.2 i r z O G)
  ·cases O
def uA {K:IV->ISt->Prop}(h:ICall P gl f args st (λy st'=>K y st'\/∃g n cap cs es zs v,st g=none/\y=.tup [.raw (.slice (some ⟨g,0,none⟩) n cap),.raw v]/\st'=st.put g (some (.box cs)) /\
   zs.length=n/\n<=140737488355328/\n<=cap/\cap*es<=cs.length/\cs.take (n*es)=zs.flatMap IV.cells/\(∀z∈zs,z.cells.length=es)/\K (.tup [.sl ⟨true,.app g,es⟩ zs,.raw v]) st)) :
  ICall P gl f args st K:=by
 intro B X rs hg hst hv;subst hst;refine (h B X rs hg rfl hv).mono ?_;rintro e w' ⟨v,rfl,X',y,rfl,h2,h3,h4,hK|⟨g,n,cap,cs,es,zs,u,h0,rfl,A,rfl,hn,G,E,J,hz,hK⟩⟩
 ·exact⟨v,rfl,X',y,rfl,h2,h3,h4,hK⟩
 have aa:=AP h3 h0 (by rw[A];exact b_ ..);have U:=wz h0 A;refine⟨v,rfl,X'.lendS _ X.st,_,rfl,h2.lendS U,h3.trans (h2.lendS_ext U),?_,hK⟩;obtain⟨rr,rfl,O⟩:=pJ h4;refine .tup rr _ (by rw[O.1];rfl) λi r x h1 D=>?_
 match i,h1,D with
 | 1,h1,D =>
  cases D;exact (h2.lendS_ext U).v (O.2 1 r _ h1 rfl)
 | 0,h1,D =>
  cases D;obtain rfl:=ev (O.2 0 r _ h1 rfl);exact AQ h2 h0 A (eM hg.B aa) hn G E J hz
def gr {K:IV->ISt->Prop}(h:ICall P gl f args st (λy st'=>K y st'\/∃g es zs,st g=none/\y=.raw (.slice (some ⟨g,0,none⟩) zs.length zs.length)/\st'=st.put g (some (.box (zs.flatMap IV.cells))) /\
   zs.length<=140737488355328/\(∀z∈zs,z.cells.length=es)/\K (.sl ⟨true,.app g,es⟩ zs) st)):ICall P gl f args st K:=by
 intro B X rs U hst hv;subst hst;refine (h B X rs U rfl hv).mono ?_;rintro e w' ⟨v,rfl,X',y,rfl,h2,G,h4,hK|⟨g,es,zs,h0,rfl,A,hn,J,hK⟩⟩
 ·exact⟨v,rfl,X',y,rfl,h2,G,h4,hK⟩
 have E:=AP G h0 (by rw[A];exact b_ ..);have O:=wz h0 A;have D:=iW zs J;obtain rfl:=ev h4;exact⟨_,rfl,X'.lendS _ X.st,_,rfl,h2.lendS O,G.trans (h2.lendS_ext O),AQ h2 h0 A (eM U.B E) hn (eu _) (by rw[D];exact eu _) (by rw[<- D,lTl]) J,hK⟩
end
def uB {P:Program}{gl:Nat->Option IV}{f:FuncId}{args:List IV}{st:ISt}{K:IV->ISt->Prop}(h:ICall P gl f args st (λr st'=>∃A,subSt A st'/\K r A)):ICall P gl f args st K:=by
 intro B X rs G hst hv;refine (h B X rs G hst hv).mono ?_;rintro e w' ⟨v,rfl,X',x,rfl,h2,O,J,A,hs,hK⟩;obtain⟨E,D⟩:=h2.sub hs;exact⟨v,rfl,{ X' with st:=A },x,rfl,E,O.trans D,D.v J,hK⟩
end Go.Iv
namespace Go.Proofs.Tryz
open Go Go.Iv
set_option maxRecDepth 4000
variable (gl:Nat->Option IV)
def pe (us:List Fm)(G:Tag)(E:List IV)(O:okEs G 4)(J:IsFms us E)(U:eS us<=1099511627776)(st:ISt) :
  ICall prog gl 165 [.sl G E] st (λr st'=>∃A ys,r=.sl A ys/\okEs A 4/\appT us.length A/\IsFmsD us ys/\st'=st) :=
 uB ((N2 gl us G E O J U st).mono λr st' h=>by
  obtain⟨A,ys,rfl,he,ha,hys,_,D⟩:=h;exact⟨st,D,A,ys,rfl,he,ha.1,hys,rfl⟩)
def IsSqD (s:Sq)(x:IV):Prop:=∃t1 D t2 A,x=.agg [.sl t1 D,.sl t2 A]/\okEs t1 4/\appT s.l.length t1/\IsFmsD s.l D/\okEs t2 4/\appT s.r.length t2/\IsFmsD s.r A
def IsSqD.w {s:Sq}{x:IV}(h:IsSqD s x):IsSq s x:=by
 obtain⟨t1,G,t2,E,rfl,D,_,i1,A,_,i2⟩:=h;exact⟨_,_,_,_,rfl,D,i1.1,A,i2.1⟩
def IsSqsD:List Sq->List IV->Prop
 | [],A=>A=[]
 | a::l,A=>∃y ys,A=y::ys/\IsSqD a y/\IsSqsD l ys
def IsSqsD.w:∀ {l:List Sq}{A:List IV},IsSqsD l A->IsSqs l A
 | [],_,h=>h
 | a::l,_,⟨y,ys,h1,h2,D⟩=>⟨y,ys,h1,h2.w,D.w⟩
def IsSqsD.mem:∀ {l:List Sq}{A:List IV},IsSqsD l A->∀ {k:Nat}{x:IV},A[k]?=some x->∃s,l[k]?=some s/\IsSqD s x
 | [],_,rfl,k,x,h=>by simp at h
 | a::l,_,⟨y,ys,rfl,h2,D⟩,0,x,h=>by cases h;exact⟨a,rfl,h2⟩
 | a::l,_,⟨y,ys,rfl,h2,D⟩,k+1,x,h=>IsSqsD.mem D (by simpa using h)
def IsSqD.one {s:Sq}{x:IV}(h:IsSqD s x):x.cells.length=2/\∀c∈x.cells,c.one=true:=by
 obtain⟨t1,D,t2,A,rfl,_⟩:=h;refine⟨rfl,λc hc=>?_⟩;simp only[IV.cells,eK,h_,gq] at hc;rcases hc with rfl|rfl<;>rfl
def kM {l:List Sq}{A:List IV}(h:IsSqsD l A):∀z∈A,z.cells.length=2:=λz D=>by
 obtain⟨k,E⟩:=mq.1 D;obtain⟨s,_,hs⟩:=h.mem E;exact hs.one.1
def IsSq.two {s:Sq}{x:IV}(h:IsSq s x):∃t A D ys,x=.agg [.sl t A,.sl D ys]:=by
 obtain⟨t,A,D,ys,rfl,_⟩:=h;exact⟨_,_,_,_,rfl⟩
def pg (us:List Fm)(D:Tag)(A:List IV)(G:okEs D 4)(E:IsFms us A)(J:eS us<=1099511627776)(st:ISt) :
  ICall prog gl 130 [.sl D A] st (λr st'=>IsSqD ⟨us,[]⟩ r/\st'=st):=by
 refine iI func130 ?_;simp only[go_sem,zA,reduceCtorEq];refine (pe gl us D A G E J _).mono ?_;rintro _ _ ⟨O,ys,rfl,U,ha,hys,rfl⟩;simp only[go_sem,zE,zA,zL,fits];exact dw ⟨⟨_,_,_,_,rfl,U,ha,hys,.inl rfl,.inl rfl,IsFmsD.nil⟩,rfl⟩
def ox (us:List Fm)(D:Tag)(A:List IV)(G:okEs D 4)(E:IsFms us A)(J:eS us<=1099511627776)(st:ISt) :
  ICall prog gl 127 [.sl D A] st (λr st'=>IsSqD ⟨[],us⟩ r/\st'=st):=by
 refine iI func127 ?_;simp only[go_sem,zA,reduceCtorEq];refine (pe gl us D A G E J _).mono ?_;rintro _ _ ⟨O,ys,rfl,U,ha,hys,rfl⟩;simp only[go_sem,zE,zA,zL,fits];exact dw ⟨⟨_,_,_,_,rfl,.inl rfl,.inl rfl,IsFmsD.nil,U,ha,hys⟩,rfl⟩
def lM (x y:Operand):mA 2 [(0,x),(1,y)]=true:=rfl
def FU (a b:Fm)(x y:IV)(D:IsFm a x)(A:IsFm b y)(st:ISt):ICall prog gl 167 [x,y] st (λr st'=>IsFm (impF a b) r/\st'=st):=by
 have h1:IsFms [a,b] [x,y]:=⟨_,_,rfl,D,_,_,rfl,A,rfl⟩
 obtain⟨o5,n5,t5,O,t6,J,rfl⟩:=D.agg;obtain⟨U,n7,t7,G,t8,E,rfl⟩:=A.agg;refine iI func167 ?_;simp only[go_sem,zE,zA,zM,zL,fits,lM];exact dw ⟨⟨_,_,_,_,rfl,by decide,.inl rfl,rfl,.inr rfl,h1⟩,rfl⟩
def AddOk (id:Nat)(F:Fm->Fm->Fm->List Sq):Prop:=∀(m a b:Fm) (x y z:IV) (_:IsFm m x) (_:IsFm a y) (_:IsFm b z) (_:m.size<=1000000) (_:a.size<=1000000) (_:b.size<=1000000) (st:ISt),
 ICall prog gl id [x,y,z] st (λr st'=>∃A D,r=.sl A D/\okEs A 2/\appT (F m a b).length A/\IsSqsD (F m a b) D/\st'=st)
def sq1 {s:Sq}{x:IV}(h:IsSqD s x):IsSqsD [s] [x]:=⟨_,_,rfl,h,rfl⟩
def sq2 {s s':Sq}{x A:IV}(h:IsSqD s x)(D:IsSqD s' A):IsSqsD [s,s'] [x,A]:=⟨_,_,rfl,h,_,_,rfl,D,rfl⟩
def AddOk.of {id:Nat}{F:Fm->Fm->Fm->List Sq}(h:∀ {o1 o2 J:Nat}{n1 n2 O:ByteArray}{t1 u1 t2 u2 t3 u3:Tag}{x1 y1 G y2 E y3:List IV}(m a b:Fm)(_:IsFm m (.agg [.raw (.int .u8 o1),n1,.sl t1 x1,.sl u1 y1]))(_:IsFm a (.agg [.raw (.int .u8 o2),n2,.sl t2 G,.sl u2 y2]))(_:IsFm b (.agg [.raw (.int .u8 J),O,.sl t3 E,.sl u3 y3]))(_:m.size<=1000000)(_:a.size<=1000000)(_:b.size<=1000000)
  (_:IsFms [a] [.agg [.raw (.int .u8 o2),n2,.sl t2 G,.sl u2 y2]]) (_:IsFms [b] [.agg [.raw (.int .u8 J),O,.sl t3 E,.sl u3 y3]]) (_:IsFms [m] [.agg [.raw (.int .u8 o1),n1,.sl t1 x1,.sl u1 y1]]) (_:IsFms [a,b] [.agg [.raw (.int .u8 o2),n2,.sl t2 G,.sl u2 y2],.agg [.raw (.int .u8 J),O,.sl t3 E,.sl u3 y3]]) (st:ISt),
  ICall prog gl id [.agg [.raw (.int .u8 o1),n1,.sl t1 x1,.sl u1 y1],.agg [.raw (.int .u8 o2),n2,.sl t2 G,.sl u2 y2],.agg [.raw (.int .u8 J),O,.sl t3 E,.sl u3 y3]] st (λr st'=>∃tg xs,r=.sl tg xs/\okEs tg 2/\appT (F m a b).length tg/\IsSqsD (F m a b) xs/\st'=st)):AddOk gl id F:=by
 intro m a b x y z hx hy hz hm ha hb st;have U:=hx;have D:=hy;have A:=hz;obtain⟨o1,n1,t1,x1,t2,G,rfl⟩:=hx.agg;obtain⟨J,O,t3,E,t4,x4,rfl⟩:=hy.agg;obtain⟨o5,n5,t5,x5,t6,x6,rfl⟩:=hz.agg;exact h m a b U D A hm ha hb (IsFms.one D) (IsFms.one A) (IsFms.one U) ⟨_,_,rfl,D,IsFms.one A⟩ st
def AR:AddOk gl 155 (λ_ _ _=>[]):=by
 refine AddOk.of gl λm a b G E D hm ha hb U O J A st=>?_;refine iI func155 ?_;simp only[go_sem,zE];exact dw ⟨_,_,rfl,.inl rfl,.inl rfl,rfl,rfl⟩
def AS:AddOk gl 156 (λ_ _ _=>[]):=by
 refine AddOk.of gl λm a b G E D hm ha hb U O J A st=>?_;refine iI func156 ?_;simp only[go_sem,zE];exact dw ⟨_,_,rfl,.inl rfl,.inl rfl,rfl,rfl⟩
def AU:AddOk gl 157 (λm a b=>[⟨[],[a]⟩]):=by
 refine AddOk.of gl λm a b O J G hm ha hb E ib im D st=>?_;refine gr ?_;refine ICall.intro (c:=cf prog gl [10] []) func157 rfl (by show _<=11;simp) (by kernel_rfl) ?_;simp only[go_sem,zE,zA,zM,zL,fits,fg];refine (ox gl _ _ _ (.inr rfl) E (by simp only[eS];omega) _).mono ?_;rintro r _ ⟨A,rfl⟩;have h1:=sq1 A;obtain⟨_,_,_,_,rfl⟩:=IsSq.two A.w;simp only[go_sem,zA,zM,zL,fits,fg];refine λg=>fc λU=>?_;exact dw (.inr ⟨g,2,_,U,rfl,rfl,by simp,kM h1,_,_,rfl,.inr rfl,.inr ⟨by simp,rfl,g,rfl⟩,h1⟩)
def AV:AddOk gl 158 (λm a b=>[⟨[a],[]⟩]):=by
 refine AddOk.of gl λm a b O J G hm ha hb E ib im D st=>?_;refine gr ?_;refine ICall.intro (c:=cf prog gl [10] []) func158 rfl (by show _<=11;simp) (by kernel_rfl) ?_;simp only[go_sem,zE,zA,zM,zL,fits,fg];refine (pg gl _ _ _ (.inr rfl) E (by simp only[eS];omega) _).mono ?_;rintro r _ ⟨A,rfl⟩;have h1:=sq1 A;obtain⟨_,_,_,_,rfl⟩:=IsSq.two A.w;simp only[go_sem,zA,zM,zL,fits,fg];refine λg=>fc λU=>?_;exact dw (.inr ⟨g,2,_,U,rfl,rfl,by simp,kM h1,_,_,rfl,.inr rfl,.inr ⟨by simp,rfl,g,rfl⟩,h1⟩)
def AW:AddOk gl 159 (λm a b=>[⟨[a,b],[]⟩]):=by
 refine AddOk.of gl λm a b J G E hm ha hb ia ib U A st=>?_;refine gr ?_;refine ICall.intro (c:=cf prog gl [11] []) func159 rfl (by show _<=12;simp) (by kernel_rfl) ?_;simp only[go_sem,zE,zA,zM,zL,fits,lM];refine (pg gl _ _ _ (.inr rfl) A (by simp only[eS];omega) _).mono ?_;rintro r _ ⟨D,rfl⟩;have h1:=sq1 D;obtain⟨_,_,_,_,rfl⟩:=IsSq.two D.w;simp only[go_sem,zA,zM,zL,fits,fg];refine λg=>fc λO=>?_;exact dw (.inr ⟨g,2,_,O,rfl,rfl,by simp,kM h1,_,_,rfl,.inr rfl,.inr ⟨by simp,rfl,g,rfl⟩,h1⟩)
def AX:AddOk gl 160 (λm a b=>[⟨[],[a]⟩,⟨[],[b]⟩]):=by
 refine AddOk.of gl λm a b aa U O hm ha hb J E im G st=>?_;refine gr ?_;refine ICall.intro (c:=cf prog gl [13] [(1,[0,1,3,4,2,5,6,7])]) func160 rfl (by show _<=14;simp) (by kernel_rfl) ?_;simp only[go_sem,zE,zA,zM,zL,fits,fg];refine (ox gl _ _ _ (.inr rfl) J (by simp only[eS];omega) _).mono ?_;rintro r _ ⟨A,rfl⟩;have D:=A;obtain⟨_,_,_,_,rfl⟩:=IsSq.two A.w;simp only[go_sem,zE,zA];refine (ox gl _ _ _ (.inr rfl) E (by simp only[eS];omega) _).mono ?_;rintro r _ ⟨A,rfl⟩;have h1:=sq2 D A;obtain⟨_,_,_,_,rfl⟩:=IsSq.two A.w;simp only[go_sem,zE,zA,zM,zL,fits,lM];refine λg=>fc λhg=>?_;exact dw (.inr ⟨g,2,_,hg,rfl,rfl,by simp,kM h1,_,_,rfl,.inr rfl,.inr ⟨by simp,rfl,g,rfl⟩,h1⟩)
def AY:AddOk gl 161 (λm a b=>[⟨[a],[]⟩,⟨[b],[]⟩]):=by
 refine AddOk.of gl λm a b aa U O hm ha hb J E im G st=>?_;refine gr ?_;refine ICall.intro (c:=cf prog gl [13] [(1,[0,1,3,4,2,5,6,7])]) func161 rfl (by show _<=14;simp) (by kernel_rfl) ?_;simp only[go_sem,zE,zA,zM,zL,fits,fg];refine (pg gl _ _ _ (.inr rfl) J (by simp only[eS];omega) _).mono ?_;rintro r _ ⟨A,rfl⟩;have D:=A;obtain⟨_,_,_,_,rfl⟩:=IsSq.two A.w;simp only[go_sem,zE,zA];refine (pg gl _ _ _ (.inr rfl) E (by simp only[eS];omega) _).mono ?_;rintro r _ ⟨A,rfl⟩;have h1:=sq2 D A;obtain⟨_,_,_,_,rfl⟩:=IsSq.two A.w;simp only[go_sem,zE,zA,zM,zL,fits,lM];refine λg=>fc λhg=>?_;exact dw (.inr ⟨g,2,_,hg,rfl,rfl,by simp,kM h1,_,_,rfl,.inr rfl,.inr ⟨by simp,rfl,g,rfl⟩,h1⟩)
def AZ:AddOk gl 162 (λm a b=>[⟨[],[a,b]⟩]):=by
 refine AddOk.of gl λm a b J G E hm ha hb ia ib U A st=>?_;refine gr ?_;refine ICall.intro (c:=cf prog gl [11] []) func162 rfl (by show _<=12;simp) (by kernel_rfl) ?_;simp only[go_sem,zE,zA,zM,zL,fits,lM];refine (ox gl _ _ _ (.inr rfl) A (by simp only[eS];omega) _).mono ?_;rintro r _ ⟨D,rfl⟩;have h1:=sq1 D;obtain⟨_,_,_,_,rfl⟩:=IsSq.two D.w;simp only[go_sem,zA,zM,zL,fits,fg];refine λg=>fc λO=>?_;exact dw (.inr ⟨g,2,_,O,rfl,rfl,by simp,kM h1,_,_,rfl,.inr rfl,.inr ⟨by simp,rfl,g,rfl⟩,h1⟩)
def A0:AddOk gl 163 (λm a b=>[⟨[],[a]⟩,⟨[b],[]⟩]):=by
 refine AddOk.of gl λm a b aa U O hm ha hb J E im G st=>?_;refine gr ?_;refine ICall.intro (c:=cf prog gl [13] [(1,[0,1,3,4,2,5,6,7])]) func163 rfl (by show _<=14;simp) (by kernel_rfl) ?_;simp only[go_sem,zE,zA,zM,zL,fits,fg];refine (ox gl _ _ _ (.inr rfl) J (by simp only[eS];omega) _).mono ?_;rintro r _ ⟨A,rfl⟩;have D:=A;obtain⟨_,_,_,_,rfl⟩:=IsSq.two A.w;simp only[go_sem,zE,zA];refine (pg gl _ _ _ (.inr rfl) E (by simp only[eS];omega) _).mono ?_;rintro r _ ⟨A,rfl⟩;have h1:=sq2 D A;obtain⟨_,_,_,_,rfl⟩:=IsSq.two A.w;simp only[go_sem,zE,zA,zM,zL,fits,lM];refine λg=>fc λhg=>?_;exact dw (.inr ⟨g,2,_,hg,rfl,rfl,by simp,kM h1,_,_,rfl,.inr rfl,.inr ⟨by simp,rfl,g,rfl⟩,h1⟩)
def A1:AddOk gl 169 (λm a b=>[⟨[],[m]⟩,⟨[m],[]⟩]):=by
 refine AddOk.of gl λm a b U O J hm ha hb ia ib E G st=>?_;refine gr ?_;refine ICall.intro (c:=cf prog gl [13] [(1,[0,1,3,4,2,5,6,7])]) func169 rfl (by show _<=14;simp) (by kernel_rfl) ?_;simp only[go_sem,zE,zA,zM,zL,fits,fg];refine (ox gl _ _ _ (.inr rfl) E (by simp only[eS];omega) _).mono ?_;rintro r _ ⟨A,rfl⟩;have D:=A;obtain⟨_,_,_,_,rfl⟩:=IsSq.two A.w;simp only[go_sem,zE,zA];refine (pg gl _ _ _ (.inr rfl) E (by simp only[eS];omega) _).mono ?_;rintro r _ ⟨A,rfl⟩;have h1:=sq2 D A;obtain⟨_,_,_,_,rfl⟩:=IsSq.two A.w;simp only[go_sem,zE,zA,zM,zL,fits,lM];refine λg=>fc λhg=>?_;exact dw (.inr ⟨g,2,_,hg,rfl,rfl,by simp,kM h1,_,_,rfl,.inr rfl,.inr ⟨by simp,rfl,g,rfl⟩,h1⟩)
def A2:AddOk gl 126 (λm a b=>[⟨[],[a]⟩]):=by
 refine AddOk.of gl λm a b O J G hm ha hb E ib im D st=>?_;refine gr ?_;refine ICall.intro (c:=cf prog gl [10] []) func126 rfl (by show _<=11;simp) (by kernel_rfl) ?_;simp only[go_sem,zE,zA,zM,zL,fits,fg];refine (ox gl _ _ _ (.inr rfl) E (by simp only[eS];omega) _).mono ?_;rintro r _ ⟨A,rfl⟩;have h1:=sq1 A;obtain⟨_,_,_,_,rfl⟩:=IsSq.two A.w;simp only[go_sem,zA,zM,zL,fits,fg];refine λg=>fc λU=>?_;exact dw (.inr ⟨g,2,_,U,rfl,rfl,by simp,kM h1,_,_,rfl,.inr rfl,.inr ⟨by simp,rfl,g,rfl⟩,h1⟩)
def A3:AddOk gl 128 (λm a b=>[⟨[],[b]⟩]):=by
 refine AddOk.of gl λm a b O J G hm ha hb ia D im E st=>?_;refine gr ?_;refine ICall.intro (c:=cf prog gl [10] []) func128 rfl (by show _<=11;simp) (by kernel_rfl) ?_;simp only[go_sem,zE,zA,zM,zL,fits,fg];refine (ox gl _ _ _ (.inr rfl) D (by simp only[eS];omega) _).mono ?_;rintro r _ ⟨A,rfl⟩;have h1:=sq1 A;obtain⟨_,_,_,_,rfl⟩:=IsSq.two A.w;simp only[go_sem,zA,zM,zL,fits,fg];refine λg=>fc λU=>?_;exact dw (.inr ⟨g,2,_,U,rfl,rfl,by simp,kM h1,_,_,rfl,.inr rfl,.inr ⟨by simp,rfl,g,rfl⟩,h1⟩)
def A4:AddOk gl 129 (λm a b=>[⟨[a],[]⟩]):=by
 refine AddOk.of gl λm a b O J G hm ha hb E ib im D st=>?_;refine gr ?_;refine ICall.intro (c:=cf prog gl [10] []) func129 rfl (by show _<=11;simp) (by kernel_rfl) ?_;simp only[go_sem,zE,zA,zM,zL,fits,fg];refine (pg gl _ _ _ (.inr rfl) E (by simp only[eS];omega) _).mono ?_;rintro r _ ⟨A,rfl⟩;have h1:=sq1 A;obtain⟨_,_,_,_,rfl⟩:=IsSq.two A.w;simp only[go_sem,zA,zM,zL,fits,fg];refine λg=>fc λU=>?_;exact dw (.inr ⟨g,2,_,U,rfl,rfl,by simp,kM h1,_,_,rfl,.inr rfl,.inr ⟨by simp,rfl,g,rfl⟩,h1⟩)
def A5:AddOk gl 131 (λm a b=>[⟨[],[a]⟩]):=by
 refine AddOk.of gl λm a b O J G hm ha hb E ib im D st=>?_;refine gr ?_;refine ICall.intro (c:=cf prog gl [10] []) func131 rfl (by show _<=11;simp) (by kernel_rfl) ?_;simp only[go_sem,zE,zA,zM,zL,fits,fg];refine (ox gl _ _ _ (.inr rfl) E (by simp only[eS];omega) _).mono ?_;rintro r _ ⟨A,rfl⟩;have h1:=sq1 A;obtain⟨_,_,_,_,rfl⟩:=IsSq.two A.w;simp only[go_sem,zA,zM,zL,fits,fg];refine λg=>fc λU=>?_;exact dw (.inr ⟨g,2,_,U,rfl,rfl,by simp,kM h1,_,_,rfl,.inr rfl,.inr ⟨by simp,rfl,g,rfl⟩,h1⟩)
def A6:AddOk gl 164 (λm a b=>[⟨[a],[b]⟩]):=by
 refine AddOk.of gl λm a b aj ai ah hm ha hb ia ib im af st=>?_;refine gr ?_;refine ICall.intro (c:=cf prog gl [14] [(1,[0,1,3,4,2,5,6,7,8])]) func164 rfl (by show _<=15;simp) (by kernel_rfl) ?_;simp only[go_sem,zE,zA,zM,zL,fits,fg];refine (pe gl _ _ _ (.inr rfl) ia (by simp only[eS];omega) _).mono ?_;rintro _ _ ⟨ac,aa,rfl,G,O,D,rfl⟩;simp only[go_sem,zE,zA];refine (pe gl _ _ _ (.inr rfl) ib (by simp only[eS];omega) _).mono ?_;rintro _ _ ⟨ab,U,rfl,E,J,A,rfl⟩;simp only[go_sem,zE,zA,zM,zL,fits,fg];have h1:=sq1 (s:=⟨[a],[b]⟩) ⟨_,_,_,_,rfl,G,O,D,E,J,A⟩;refine λg=>fc λhg=>?_;exact dw (.inr ⟨g,2,_,hg,rfl,rfl,by simp,kM h1,_,_,rfl,.inr rfl,.inr ⟨by simp,rfl,g,rfl⟩,h1⟩)
def A7:AddOk gl 168 (λm a b=>[⟨[a],[b]⟩,⟨[b],[a]⟩]):=by
 refine AddOk.of gl λm a b ax aw av hm ha hb ia ib im au st=>?_;refine gr ?_;refine ICall.intro (c:=cf prog gl [21] [(1,[0,1,3,4,7,8,10,11,2,5,6,9,12,13,14,15])]) func168 rfl (by show _<=22;simp) (by kernel_rfl) ?_;simp only[go_sem,zE,zA,zM,zL,fits,fg];refine (pe gl _ _ _ (.inr rfl) ia (by simp only[eS];omega) _).mono ?_;rintro _ _ ⟨aq,al,rfl,aa,af,G,rfl⟩;simp only[go_sem,zE,zA];refine (pe gl _ _ _ (.inr rfl) ib (by simp only[eS];omega) _).mono ?_;rintro _ _ ⟨ao,ak,rfl,U,ae,E,rfl⟩;simp only[go_sem,zE,zA,zL,fits];refine (pe gl _ _ _ (.inr rfl) ib (by simp only[eS];omega) _).mono ?_;rintro _ _ ⟨an,aj,rfl,O,ac,D,rfl⟩;simp only[go_sem,zE,zA];refine (pe gl _ _ _ (.inr rfl) ia (by simp only[eS];omega) _).mono ?_;rintro _ _ ⟨am,ai,rfl,J,ab,A,rfl⟩;simp only[go_sem,zE,zA,zM,zL,fits,lM];have h1:=sq2 (s:=⟨[a],[b]⟩) (s':=⟨[b],[a]⟩) ⟨_,_,_,_,rfl,aa,af,G,U,ae,E⟩ ⟨_,_,_,_,rfl,O,ac,D,J,ab,A⟩;refine λg=>fc λhg=>?_;exact dw (.inr ⟨g,2,_,hg,rfl,rfl,by simp,kM h1,_,_,rfl,.inr rfl,.inr ⟨by simp,rfl,g,rfl⟩,h1⟩)
def A8:AddOk gl 166 (λm a b=>[⟨[impF a b,impF b a],[]⟩]):=by
 refine AddOk.of gl λm a b U E D hm ha hb ia ib im O st=>?_;refine gr ?_;refine ICall.intro (c:=cf prog gl [15] [(1,[0,1,3,4,2,5,6,7,8,9])]) func166 rfl (by show _<=16;simp) (by kernel_rfl) ?_;simp only[go_sem,zE,zA,zL];refine (FU gl a b _ _ E D _).mono ?_;rintro r _ ⟨A,rfl⟩;have J:=A;obtain⟨_,_,_,_,_,_,rfl⟩:=A.agg;simp only[go_sem,zE,zA];refine (FU gl b a _ _ D E _).mono ?_;rintro r _ ⟨A,rfl⟩;have G:IsFms [impF a b,impF b a] [_,_]:=⟨_,_,rfl,J,IsFms.one A⟩
 obtain⟨_,_,_,_,_,_,rfl⟩:=A.agg;simp only[go_sem,zE,zA,zM,zL,fits,lM];refine (pg gl _ _ _ (.inr rfl) G (by simp only[eS,impF,Fm.size,fp];omega) _).mono ?_;rintro r _ ⟨A,rfl⟩;have h1:=sq1 A;obtain⟨_,_,_,_,rfl⟩:=IsSq.two A.w;simp only[go_sem,zA,zM,zL,fits,fg];refine λg=>fc λhg=>?_;exact dw (.inr ⟨g,2,_,hg,rfl,rfl,by simp,kM h1,_,_,rfl,.inr rfl,.inr ⟨by simp,rfl,g,rfl⟩,h1⟩)
def fitL (l:List Fm):Prop:=∀f∈l,f.size<=1000000
def A9 (ca:Nat)(st:ISt):ICall prog gl 46 [.raw (.int .u8 ca)] st (λr st'=>r=(jL ca:Bool)/\st'=st):=by
 refine iI func46 ?_;by_cases h1:1<=ca
 ·have A:decide (1<=(ca:Int))=true:=dEt (by omega);by_cases h2:ca<=3
  ·have D:decide ((ca:Int)<=3)=true:=dEt (by omega);simp only[go_sem,zE,reduceCtorEq,A,D];exact dw ⟨by simp[jL,h1,h2],rfl⟩
  ·have D:decide ((ca:Int)<=3)=false:=dEf (by omega);simp only[go_sem,zE,reduceCtorEq,A,D];exact dw ⟨by simp[jL,h2],rfl⟩
 ·have A:decide (1<=(ca:Int))=false:=dEf (by omega);simp only[go_sem,zE,reduceCtorEq,A];exact dw ⟨by simp[jL,h1],rfl⟩
def sOp (f:Fm):Prop:=∀(ca:Nat) (x:IV) (_:IsFm f x) (st:ISt),ICall prog gl 108 [.raw (.int .u8 ca),x] st (λr st'=>r=(opsB ca f:Bool)/\st'=st)
def wA (ca:Nat):∀l m:List Fm,jD ca (l++m)=(jD ca l&&jD ca m)
 | [],m=>by simp[jD]
 | a::l,m=>by simp only[fq,jD,wA ca l m,qz]
def FV {ca:Nat}{l:List Fm}{a:Fm}(A:a∈l)(h:opsB ca a=false):jD ca l=false:=by
 obtain⟨p,q,rfl⟩:=List.append_of_mem A;rw[wA];simp[jD,h]
def N3 (o:Nat)(n:ByteArray)(us:List Tm)(sub:List Fm)(IH:∀a∈sub,sOp gl a):sOp gl (.mk o n us sub):=by
 intro ca x hx st;obtain⟨t1,x1,t2,x2,rfl,ho,ay,ag,ah,O⟩:=hx.mk;have loop:∀(am:Nat) (az:(decide (1<=o)&&decide (o<=if ca=3 then 9 else 7)&&(decide (ca=3) || us.isEmpty))=true),opsB ca (.mk o n us sub)=jD ca sub:=λ_ h=>by
  simp only[opsB,h,jV]
 refine iI func108 ?_;by_cases h1:1<=o
 ·have e1:decide ((o:Int)<1)=false:=dEf (by omega);by_cases E:ca=3
  ·have J:decide ((ca:Int)=3)=true:=dEt (by omega);by_cases h2:o<=9
   ·have e2:decide ((9:Int)<(o:Int))=false:=dEf (by omega);have hl:=loop 9 (by simp[h1,h2,E]);simp only[go_sem,zE,zA,reduceCtorEq,e1,e2,J,O.len];intro _;refine dC sub.length (λk fr st' ds=>jD ca (sub.take k)=true/\fr 0=.iv (.raw (.int .u8 ca))/\fr 30=.iv (.sl t2 x2)/\fr 31=sub.length/\fr 32=.iv (.raw (.int .i64 k))/\st'=st/\ds=[]) ?_ ?_ ?_
    ·simp only[go_sem,zE,reduceCtorEq];simp[jD]
    ·rintro k fr G _ A ⟨U,f0,f30,f31,f32,rfl,rfl⟩;obtain⟨a,ha⟩:=ed A;obtain⟨y,ae,hy⟩:=O.get ha;have D:=IH a (lMg ha) ca y hy G;obtain⟨o5,n5,t5,x5,t6,x6,rfl⟩:=hy.agg;simp only[go_sem,zE,zB,zA,zL,reduceCtorEq,f0,f30,f31,f32,lt_i A,ec ah,iNn,ae,fits];refine D.mono ?_;rintro _ _ ⟨rfl,rfl⟩;cases hr:opsB ca a
     ·simp only[go_sem];exact dw ⟨by rw[hl,FV (lMg ha) hr],rfl⟩
     ·simp only[go_sem,zE,reduceCtorEq,f0,f30,f31,f32,ek A (by omega)];rw[en ha,wA,U];simp[jD,hr]
    ·rintro fr G _ ⟨U,f0,f30,f31,f32,rfl,rfl⟩;rw[lTl] at U;simp only[go_sem,f31,f32,eI (nLi _)];exact dw ⟨by rw[hl,U],rfl⟩
   ·have e2:decide ((9:Int)<(o:Int))=true:=dEt (by omega);simp only[go_sem,zE,zA,reduceCtorEq,e1,e2,J];exact dw ⟨by simp[opsB,h2,E],rfl⟩
  ·have J:decide ((ca:Int)=3)=false:=dEf (by omega);by_cases h2:o<=7
   ·have e2:decide ((7:Int)<(o:Int))=false:=dEf (by omega);by_cases hu:us=[]
    ·subst hu;have e4:decide ((0:Int)<((0:Nat):Int))=false:=rfl;have hl:=loop 7 (by simp[h1,h2,E]);simp only[go_sem,zE,zA,zL,reduceCtorEq,e1,e2,J,e4,ag.len,O.len];intro _;refine dC sub.length (λk fr st' ds=>jD ca (sub.take k)=true/\fr 0=.iv (.raw (.int .u8 ca))/\fr 30=.iv (.sl t2 x2)/\fr 31=sub.length/\fr 32=.iv (.raw (.int .i64 k))/\st'=st/\ds=[]) ?_ ?_ ?_
     ·simp only[go_sem,zE,reduceCtorEq];simp[jD]
     ·rintro k fr G _ A ⟨U,f0,f30,f31,f32,rfl,rfl⟩;obtain⟨a,ha⟩:=ed A;obtain⟨y,ae,hy⟩:=O.get ha;have D:=IH a (lMg ha) ca y hy G;obtain⟨o5,n5,t5,x5,t6,x6,rfl⟩:=hy.agg;simp only[go_sem,zE,zB,zA,zL,reduceCtorEq,f0,f30,f31,f32,lt_i A,ec ah,iNn,ae,fits];refine D.mono ?_;rintro _ _ ⟨rfl,rfl⟩;cases hr:opsB ca a
      ·simp only[go_sem];exact dw ⟨by rw[hl,FV (lMg ha) hr],rfl⟩
      ·simp only[go_sem,zE,reduceCtorEq,f0,f30,f31,f32,ek A (by omega)];rw[en ha,wA,U];simp[jD,hr]
     ·rintro fr G _ ⟨U,f0,f30,f31,f32,rfl,rfl⟩;rw[lTl] at U;simp only[go_sem,f31,f32,eI (nLi _)];exact dw ⟨by rw[hl,U],rfl⟩
    ·have an:0<us.length:=kC.2 hu;have e4:decide ((0:Int)<(us.length:Int))=true:=dEt (by omega);simp only[go_sem,zE,zA,reduceCtorEq,e1,e2,J,e4,ag.len];intro _;exact dw ⟨by simp[opsB,E,hu],rfl⟩
   ·have e2:decide ((7:Int)<(o:Int))=true:=dEt (by omega);simp only[go_sem,zE,zA,reduceCtorEq,e1,e2,J];exact dw ⟨by simp[opsB,E,h2],rfl⟩
 ·have e1:decide ((o:Int)<1)=true:=dEt (by omega);by_cases E:ca=3
  ·have J:decide ((ca:Int)=3)=true:=dEt (by omega);simp only[go_sem,zE,zA,reduceCtorEq,e1,J];exact dw ⟨by simp[opsB,h1],rfl⟩
  ·have J:decide ((ca:Int)=3)=false:=dEf (by omega);simp only[go_sem,zE,zA,reduceCtorEq,e1,J];exact dw ⟨by simp[opsB,h1],rfl⟩
def FW:∀(k:Nat)(f:Fm),SizeOf.sizeOf f<k->sOp gl f
 | 0,f,h=>by omega
 | k+1,.mk o n us sub,h=>N3 gl o n us sub (λa A=>FW k a (by
   have:=lSm A;simp only[Fm.mk.sizeOf_spec] at h;omega))
def N4 (f:Fm):sOp gl f:=FW gl _ f (fP _)
def A_ (G:Gl gl)(ca:Nat)(f:Fm)(x:IV)(A:IsFm f x)(hs:f.size<=1000000)(st:ISt) :
  ICall prog gl 85 [.raw (.int .u8 ca),x] st (λr st'=>r=(fmB ca f:Bool)/\st'=st):=by
 have h1:=λst=>uh gl G f x A st hs;have h2:=λst=>N4 gl f ca x A st;obtain⟨O,U,t5,J,t6,E,rfl⟩:=A.agg;refine iI func85 ?_;simp only[go_sem,zE,zA,zL];refine (h1 _).q ?_;cases D:f.right
 ·simp only[go_sem,zE];exact dw ⟨by simp[fmB,D],rfl⟩
 ·simp only[go_sem,zE,zA,zL,reduceCtorEq];refine (h2 _).q ?_;simp only[go_sem,zE];exact dw ⟨by simp[fmB,D],rfl⟩
def FX (G:Gl gl)(f g:Fm)(x y:IV)(J:IsFm f x)(E:IsFm g y)(hs:f.size<=1000000)(A:g.size<=1000000)(st:ISt) :
  ICall prog gl 86 [x,y] st (λr st'=>r=(eqF f g:Bool)/\st'=st):=by
 have h1:=λst=>M8 gl G f g x y J E hs A st;obtain⟨o,n,us,sub⟩:=f;obtain⟨o',n',U,D⟩:=g;obtain⟨t1,x1,t2,x2,rfl,_⟩:=J.mk;obtain⟨t3,x3,t4,x4,rfl,_⟩:=E.mk;refine iI func86 ?_;by_cases O:o=o'
 ·subst O;simp only[go_sem,zE,zA,zL,d_];refine (h1 _).q ?_;simp only[go_sem,zE];exact dw ⟨by simp[eqF,Fm.op],rfl⟩
 ·have e:decide ((o:Int)=(o':Int))=false:=dEf (by omega);simp only[go_sem,zE,zA,e];exact dw ⟨by simp[eqF,Fm.op,O],rfl⟩
def N5 (g:FuncId)(A:List IV)(he:entI prog g=true)(us:List Fm)(p:Fm->Bool)(hp:∀a∈us,∀x,IsFm a x->∀st,ICall prog gl g (x::A) st (λr st'=>r=(p a:Bool)/\st'=st))
  (tg:Tag) (xs:List IV) (ac:okEs tg 4) (J:IsFms us xs) (st:ISt) :
  ICall prog gl 172 [.sl tg xs,.fn (.func g) [] A] st (λr st'=>(∃n:Int,r=n/\decide (0<=n)=us.any p)/\st'=st):=by
 refine iI func172 ?_;simp only[go_sem,reduceCtorEq,J.len];intro _;refine dC us.length (λk fr st' ds=>(us.take k).any p=false/\fr 0=.iv (.sl tg xs)/\fr 1=.iv (.fn (.func g) [] A)/\fr 7=us.length/\fr 8=.iv (.raw (.int .i64 k))/\st'=st/\ds=[]) ?_ ?_ ?_
 ·simp only[go_sem,zE,reduceCtorEq];exact⟨rfl,rfl⟩
 ·rintro k fr G _ D ⟨O,f0,f1,f7,f8,rfl,rfl⟩;obtain⟨a,U⟩:=ed D;obtain⟨y,ae,hy⟩:=J.get U;have E:=hp a (lMg U) y hy G;obtain⟨o5,n5,t5,x5,t6,x6,rfl⟩:=hy.agg;simp only[go_sem,zE,zB,zA,reduceCtorEq,f0,f1,f7,f8,lt_i D,ec ac,iNn,ae,fits,he];refine E.mono ?_;rintro _ _ ⟨rfl,rfl⟩;cases hr:p a
  ·simp only[go_sem,zE,reduceCtorEq,f0,f1,f7,f8,ek D (by omega)];rw[en U,List.any_append,O];simp[hr]
  ·simp only[go_sem,zE];refine dw ⟨⟨_,rfl,?_⟩,rfl⟩;rw[dEt (iNn k)];exact (il.2 ⟨a,lMg U,hr⟩).symm
 ·rintro fr G _ ⟨O,f0,f1,f7,f8,rfl,rfl⟩;rw[lTl] at O;simp only[go_sem,f7,f8,eI (nLi _)];exact dw ⟨⟨_,rfl,by rw[O];rfl⟩,rfl⟩
def Ba (g:FuncId)(A:List IV)(U:entI prog g=true)(us:List Fm)(p:Fm->Bool)(hp:∀a∈us,∀x,IsFm a x->∀st,ICall prog gl g (x::A) st (λr st'=>r=(p a:Bool)/\st'=st))
  (E:Tag) (D:List IV) (J:okEs E 4) (G:IsFms us D) (st:ISt) :
  ICall prog gl 134 [.sl E D,.fn (.func g) [] A] st (λr st'=>r=(us.any p:Bool)/\st'=st):=by
 refine iI func134 ?_;simp only[go_sem,zE,zA,reduceCtorEq];refine (N5 gl g A U us p hp E D J G _).mono ?_;rintro _ _ ⟨⟨n,rfl,O⟩,rfl⟩;simp only[go_sem,O];exact dw ⟨rfl,rfl⟩
def N6 (G:Gl gl)(f g:Fm)(x y:IV)(E:IsFm f x)(D:IsFm g y)(hs:f.size<=1000000)(A:g.size<=1000000)(st:ISt) :
  ICall prog gl 135 [y,.cptr x] st (λr st'=>r=(eqF f g:Bool)/\st'=st):=by
 have h1:=λst=>FX gl G f g x y E D hs A st;obtain⟨o5,n5,t5,x5,t6,U,rfl⟩:=E.agg;obtain⟨o7,n7,t7,O,t8,J,rfl⟩:=D.agg;refine iI func135 ?_;simp only[go_sem,zE,zA,zL,fits];refine (h1 _).q ?_;simp only[go_sem];exact dw ⟨rfl,rfl⟩
def wB (G:Gl gl)(l:List Fm)(f:Fm)(D:Tag)(A:List IV)(x:IV)(J:okEs D 4)(E:IsFms l A)(O:IsFm f x)(hl:fitL l)(hs:f.size<=1000000)(st:ISt) :
  ICall prog gl 102 [.sl D A,x] st (λr st'=>r=(hasF l f:Bool)/\st'=st):=by
 have h1:=λst=>Ba gl 135 [.cptr x] (by simp only[go_sem]) l (eqF f) (λa ha y U st=>N6 gl G f a x y O U hs (hl a ha) st) D A J E st;obtain⟨o5,n5,t5,x5,t6,x6,rfl⟩:=O.agg;refine ICall.intro (c:=cf prog gl [] [] [3]) func102 rfl (by show _<=8;simp) (by kernel_rfl) ?_;simp only[go_sem,zE,zA,reduceCtorEq];refine (h1 _).q ?_;simp only[go_sem];exact dw ⟨rfl,rfl⟩
def FY (G:Gl gl)(l m:List Fm)(t O:Tag)(xs ys:List IV)(ht:okEs t 4)(ac:okEs O 4)(J:IsFms l xs)(hys:IsFms m ys)(hl:fitL l)(hm:fitL m)(st:ISt) :
  ICall prog gl 105 [.sl t xs,.sl O ys] st (λr st'=>r=(allF l m:Bool)/\st'=st):=by
 refine iI func105 ?_;simp only[go_sem,reduceCtorEq,J.len];intro _;refine dC l.length (λk fr st' ds=>(l.take k).all (hasF m)=true/\fr 1=.iv (.sl O ys)/\fr 7=.iv (.sl t xs)/\fr 8=l.length/\fr 9=.iv (.raw (.int .i64 k))/\st'=st/\ds=[]) ?_ ?_ ?_
 ·simp only[go_sem,zE];rfl
 ·rintro k fr E _ A ⟨U,f1,f7,f8,f9,rfl,rfl⟩;obtain⟨a,ha⟩:=ed A;obtain⟨y,ae,hy⟩:=J.get ha;have D:=wB gl G m a O ys y ac hys hy hm (hl a (lMg ha)) E;obtain⟨o5,n5,t5,x5,t6,x6,rfl⟩:=hy.agg;simp only[go_sem,zE,zB,zA,zL,f1,f7,f8,f9,lt_i A,ec ht,iNn,ae,fits];refine D.mono ?_;rintro _ _ ⟨rfl,rfl⟩;cases hr:hasF m a
  ·simp only[go_sem];refine dw ⟨?_,rfl⟩;have:allF l m=false:=by
    unfold allF;rw[List.all_eq_false];exact⟨a,lMg ha,by simp[hr]⟩
   rw[this]
  ·simp only[go_sem,zE,f1,f7,f8,f9,ek A (by omega)];rw[en ha,lf,U];simp[hr]
 ·rintro fr E _ ⟨U,f1,f7,f8,f9,rfl,rfl⟩;rw[lTl] at U;simp only[go_sem,f8,f9,eI (nLi _)];exact dw ⟨by rw[show allF l m=true from U],rfl⟩
def ig (s:Sq):Prop:=fitL s.l/\fitL s.r
def N7 (G:Gl gl)(a b:Sq)(x y:IV)(hx:IsSq a x)(hy:IsSq b y)(E:ig a)(D:ig b)(st:ISt):ICall prog gl 82 [x,y] st (λr st'=>r=(qc a b:Bool)/\st'=st):=by
 obtain⟨t1,x1,t2,U,rfl,e1,i1,e2,i2⟩:=hx;obtain⟨t3,O,t4,J,rfl,e3,i3,e4,i4⟩:=hy;refine iI func82 ?_;simp only[go_sem,zE,zA];refine (FY gl G a.l b.l t1 t3 x1 O e1 e3 i1 i3 E.1 D.1 _).q ?_;cases A:allF a.l b.l
 ·simp only[go_sem,zE];exact dw ⟨by simp[qc,A],rfl⟩
 ·simp only[go_sem,zE,zA];refine (FY gl G a.r b.r t2 t4 U J e2 e4 i2 i4 E.2 D.2 _).q ?_;simp only[go_sem,zE];exact dw ⟨by simp[qc,A],rfl⟩
def rA (a b:Int)(v:IV):∀es:List (Value×IV),hZ (.int .u8 a) (updI (.int .u8 b) v es)=if a=b then some v else hZ (.int .u8 a) es
 | []=>by
  simp only[updI,hZ,jb];by_cases h:a=b<;>simp[h]
 | (x,u)::es=>by
  simp only[updI];by_cases A:jb (.int .u8 b) x=true
  ·rw[c_ A];have D:∀c,jb (.int .u8 c) x=decide (c=b):=λc=>by
    cases x<;>simp[jb] at A ⊢;rw[A]
   have e:jb (.int .u8 a) (.int .u8 b)=decide (a=b):=rfl;simp only[hZ,e,D];by_cases h:a=b<;>simp[h]
  ·rw[a_ A];simp only[hZ];rw[rA a b v es];by_cases h:a=b
   ·subst h;simp[A]
   ·simp[h]
def nu (ca rule:Nat):Nat :=
 if ca=2/\rule=18 then 128 else if ca=2/\rule=8 then 126
 else if rule=13\/rule=15 then 129 else if rule=14\/rule=16 then 131
 else if rule=1 then 155 else if rule=2 then 156 else if rule=3 then 157 else if rule=4 then 158
 else if rule=5 then 159 else if rule=6 then 160 else if rule=7 then 161 else if rule=8 then 162
 else if rule=9 then 163 else if rule=10 then 164 else if rule=11 then 166 else if rule=12 then 168
 else 169
def rwI (ca rule:Nat)(r:Rw):IV:=.agg [r.left,r.right,.raw (.int .u8 r.op),.raw (.int .u8 r.asks),.fn (.func (nu ca rule)) [] []]
def rwL (a b:Bool)(op asks id:Nat):IV:=.agg [a,b,.raw (.int .u8 op),.raw (.int .u8 asks),.fn (.func id) [] []]
def rC:List (Value×IV) :=
 updI (.int .u8 17) (rwL false false 0 0 169) <| updI (.int .u8 12) (rwL false true 7 0 168) <| updI (.int .u8 11) (rwL true false 7 0 166) <|
 updI (.int .u8 10) (rwL false true 6 0 164) <| updI (.int .u8 9) (rwL true false 6 0 163) <| updI (.int .u8 8) (rwL false true 5 0 162) <|
 updI (.int .u8 7) (rwL true false 5 0 161) <| updI (.int .u8 6) (rwL false true 4 0 160) <| updI (.int .u8 5) (rwL true false 4 0 159) <|
 updI (.int .u8 4) (rwL false true 3 0 158) <| updI (.int .u8 3) (rwL true false 3 0 157) <| updI (.int .u8 2) (rwL true false 2 0 156) <|
 updI (.int .u8 1) (rwL true true 0 0 155) []
def oy (ca:Nat):List (Value×IV) :=
 if ca=2 then updI (.int .u8 18) (rwL false true 5 0 128) <| updI (.int .u8 8) (rwL false true 5 0 126) rC
 else if ca=3 then updI (.int .u8 16) (rwL false true 9 1 131) <| updI (.int .u8 15) (rwL true false 9 2 129) <| updI (.int .u8 14) (rwL false true 8 2 131) <|
  updI (.int .u8 13) (rwL true false 8 1 129) rC
 else rC
def N8 (st:ISt):ICall prog gl 125 [] st (λr st'=>∃b,st b=none/\r=.raw (.map (some b))/\st'=st.put b (some (.map (.int .u8) rC))):=by
 refine iI func125 ?_;simp only[go_sem,zE,zA,zL,fits];refine λb=>fc λA=>?_;simp only[go_sem,fW];exact dw ⟨b,A,rfl,rfl⟩
def FZ (ca:Nat)(st:ISt):ICall prog gl 100 [.raw (.int .u8 ca)] st (λr st'=>∃b,st b=none/\r=.raw (.map (some b))/\st'=st.put b (some (.map (.int .u8) (oy ca)))):=by
 refine iI func100 ?_;simp only[go_sem,zA];refine (N8 gl _).mono ?_;rintro _ _ ⟨b,D,rfl,rfl⟩;by_cases h2:ca=2
 ·have A:decide ((ca:Int)=2)=true:=dEt (by omega);simp only[go_sem,zE,zA,zL,reduceCtorEq,A,fits,b_,fW];exact dw ⟨b,D,rfl,by rw[oy,c_ h2];rfl⟩
 ·have A:decide ((ca:Int)=2)=false:=dEf (by omega);by_cases G:ca=3
  ·have E:decide ((ca:Int)=3)=true:=dEt (by omega);simp only[go_sem,zE,zA,zL,reduceCtorEq,A,E,fits,b_,fW];exact dw ⟨b,D,rfl,by rw[oy,a_ h2,c_ G];rfl⟩
  ·have E:decide ((ca:Int)=3)=false:=dEf (by omega);simp only[go_sem,zE,reduceCtorEq,A,E];exact dw ⟨b,D,rfl,by rw[oy,a_ h2,a_ G]⟩
def N9 (rule:Nat):hZ (.int .u8 rule) rC=(rowK rule).map λr=>.agg [.raw (.bool r.left),.raw (.bool r.right),.raw (.int .u8 r.op),.raw (.int .u8 r.asks),.fn (.func (nu 1 rule)) [] []]:=by
 unfold rC;simp only[rA];by_cases h:rule<=18
 ·rcases (show rule=0\/rule=1\/rule=2\/rule=3\/rule=4\/rule=5\/rule=6\/rule=7\/rule=8\/rule=9\/rule=10\/rule=11\/rule=12\/rule=13\/rule=14\/rule=15\/rule=16\/rule=17\/rule=18 by omega) with
   rfl|rfl|rfl|rfl|rfl|rfl|rfl|rfl|rfl|rfl|rfl|rfl|rfl|rfl|rfl|rfl|rfl|rfl|rfl<;>rfl
 ·have A:rowK rule=none:=by unfold rowK;repeat (rw[a_ (by omega)])
  rw[A]
  repeat (rw[a_ (by omega)])
  rfl
def wC (ca rule:Nat):hZ (.int .u8 rule) (oy ca)=(rowS ca rule).map (rwI ca rule):=by
 have hp:=N9 rule;by_cases h:rule<=18
 ·have D:rule=0\/rule=1\/rule=2\/rule=3\/rule=4\/rule=5\/rule=6\/rule=7\/rule=8\/rule=9\/rule=10\/rule=11\/rule=12\/rule=13\/rule=14\/rule=15\/rule=16\/rule=17\/rule=18:=by omega
  by_cases h2:ca=2
  ·subst h2;simp only[oy,el,rA,hp];rcases D with rfl|rfl|rfl|rfl|rfl|rfl|rfl|rfl|rfl|rfl|rfl|rfl|rfl|rfl|rfl|rfl|rfl|rfl|rfl<;>rfl
  ·by_cases E:ca=3
   ·subst E;simp only[oy,el,a_ h2,rA,hp];rcases D with rfl|rfl|rfl|rfl|rfl|rfl|rfl|rfl|rfl|rfl|rfl|rfl|rfl|rfl|rfl|rfl|rfl|rfl|rfl<;>rfl
   ·have A:rowS ca rule=rowK rule:=by
     unfold rowS;rw[a_ (by omega),a_ (by omega),a_ (by omega),a_ (by omega),a_ (by omega)]
    have O:∀r,rowK rule=some r->nu 1 rule=nu ca rule:=λ_ _=>by
     unfold nu;rw[a_ (by omega),a_ (by omega)]
     conv=>rhs;rw[a_ (by omega),a_ (by omega)]
    simp only[oy,a_ h2,a_ E,hp,A];cases G:rowK rule with
    | none=>rfl
    | some r=>simp only[fK,rwI,O r G]
 ·have J:rowS ca rule=none:=by
   unfold rowS;rw[a_ (by omega),a_ (by omega),a_ (by omega),a_ (by omega),a_ (by omega)];unfold rowK;repeat (rw[a_ (by omega)])
  have A:rowK rule=none:=by unfold rowK;repeat (rw[a_ (by omega)])
  rw[A] at hp;rw[J];unfold oy;split
  ·simp only[rA,hp];repeat (rw[a_ (by omega)])
   rfl
  ·split
   ·simp only[rA,hp];repeat (rw[a_ (by omega)])
    rfl
   ·rw[hp];rfl
def N_ {ca rule:Nat}{r:Rw}(h:rowS ca rule=some r):AddOk gl (nu ca rule) (addS ca rule)/\entI prog (nu ca rule)=true:=by
 have O:rule<=18:=by
  refine jW λhc=>?_;have D:rowS ca rule=none:=by
   unfold rowS;rw[a_ (by omega),a_ (by omega),a_ (by omega),a_ (by omega),a_ (by omega)];unfold rowK;repeat (rw[a_ (by omega)])
  rw[D] at h;cases h
 have A:rule=0\/rule=1\/rule=2\/rule=3\/rule=4\/rule=5\/rule=6\/rule=7\/rule=8\/rule=9\/rule=10\/rule=11\/rule=12\/rule=13\/rule=14\/rule=15\/rule=16\/rule=17\/rule=18:=by omega
 by_cases h2:ca=2
 ·subst h2;rcases A with rfl|rfl|rfl|rfl|rfl|rfl|rfl|rfl|rfl|rfl|rfl|rfl|rfl|rfl|rfl|rfl|rfl|rfl|rfl
  all_goals first|(cases h;done)|exact⟨AR gl,by kernel_rfl⟩|exact⟨AS gl,by kernel_rfl⟩|exact⟨AU gl,by kernel_rfl⟩|exact⟨AV gl,by kernel_rfl⟩|exact⟨AW gl,by kernel_rfl⟩|exact⟨AX gl,by kernel_rfl⟩|exact⟨AY gl,by kernel_rfl⟩|exact⟨AZ gl,by kernel_rfl⟩|exact⟨A2 gl,by kernel_rfl⟩|exact⟨A0 gl,by kernel_rfl⟩|exact⟨A6 gl,by kernel_rfl⟩|exact⟨A8 gl,by kernel_rfl⟩|exact⟨A7 gl,by kernel_rfl⟩|exact⟨A1 gl,by kernel_rfl⟩|exact⟨A3 gl,by kernel_rfl⟩|exact⟨A4 gl,by kernel_rfl⟩|exact⟨A5 gl,by kernel_rfl⟩
 ·by_cases J:ca=3
  ·subst J;rcases A with rfl|rfl|rfl|rfl|rfl|rfl|rfl|rfl|rfl|rfl|rfl|rfl|rfl|rfl|rfl|rfl|rfl|rfl|rfl
   all_goals first|(cases h;done)|exact⟨AR gl,by kernel_rfl⟩|exact⟨AS gl,by kernel_rfl⟩|exact⟨AU gl,by kernel_rfl⟩|exact⟨AV gl,by kernel_rfl⟩|exact⟨AW gl,by kernel_rfl⟩|exact⟨AX gl,by kernel_rfl⟩|exact⟨AY gl,by kernel_rfl⟩|exact⟨AZ gl,by kernel_rfl⟩|exact⟨A2 gl,by kernel_rfl⟩|exact⟨A0 gl,by kernel_rfl⟩|exact⟨A6 gl,by kernel_rfl⟩|exact⟨A8 gl,by kernel_rfl⟩|exact⟨A7 gl,by kernel_rfl⟩|exact⟨A1 gl,by kernel_rfl⟩|exact⟨A3 gl,by kernel_rfl⟩|exact⟨A4 gl,by kernel_rfl⟩|exact⟨A5 gl,by kernel_rfl⟩
  ·have E:rowS ca rule=rowS 1 rule:=by
    unfold rowS;rw[a_ (by omega),a_ (by omega),a_ (by omega),a_ (by omega),a_ (by omega)]
    conv=>rhs;rw[a_ (by omega),a_ (by omega),a_ (by omega),a_ (by omega),a_ (by omega)]
   have G:nu ca rule=nu 1 rule:=by
    unfold nu;rw[a_ (by omega),a_ (by omega)]
    conv=>rhs;rw[a_ (by omega),a_ (by omega)]
   have hs:addS ca rule=addS 1 rule:=by
    funext m a b;unfold addS;rw[a_ h2,a_ (show ¬ (1:Nat)=2 by decide)]
   rw[E] at h;rw[G,hs];rcases A with rfl|rfl|rfl|rfl|rfl|rfl|rfl|rfl|rfl|rfl|rfl|rfl|rfl|rfl|rfl|rfl|rfl|rfl|rfl
   all_goals first|(cases h;done)|exact⟨AR gl,by kernel_rfl⟩|exact⟨AS gl,by kernel_rfl⟩|exact⟨AU gl,by kernel_rfl⟩|exact⟨AV gl,by kernel_rfl⟩|exact⟨AW gl,by kernel_rfl⟩|exact⟨AX gl,by kernel_rfl⟩|exact⟨AY gl,by kernel_rfl⟩|exact⟨AZ gl,by kernel_rfl⟩|exact⟨A2 gl,by kernel_rfl⟩|exact⟨A0 gl,by kernel_rfl⟩|exact⟨A6 gl,by kernel_rfl⟩|exact⟨A8 gl,by kernel_rfl⟩|exact⟨A7 gl,by kernel_rfl⟩|exact⟨A1 gl,by kernel_rfl⟩|exact⟨A3 gl,by kernel_rfl⟩|exact⟨A4 gl,by kernel_rfl⟩|exact⟨A5 gl,by kernel_rfl⟩
noncomputable def rB (ca:Nat)(a0 f:Fm):Bool:=fmB ca f&&(decide (ca≠2) || eqF f a0)
def F1 (ca:Nat)(a0:Fm):∀l:List Fm,l.all (rB ca a0)=(l.all (fmB ca)&&(decide (ca≠2) || l.all λf=>eqF f a0))
 | []=>by simp
 | f::l=>by
  simp only[ko,F1 ca a0 l,rB];cases fmB ca f<;>cases l.all (fmB ca)<;>cases decide (ca≠2)<;>simp
def Oa (ca:Nat)(s:Sq):fT ca s=(jL ca&&decide (s.l.length<=64)&&decide (s.r.length<=64)&&s.l.all (fmB ca)&&s.r.all (rB ca (s.r.headD fm0))):=by
 rw[F1];unfold fT AN;cases s.r with
 | nil=>simp
 | cons a l=>simp only[List.headD_cons,qz]
def Bb (G:Gl gl)(ca:Nat)(s:Sq)(x:IV)(hx:IsSq s x)(hs:ig s)(st:ISt):ICall prog gl 60 [.raw (.int .u8 ca),x] st (λr st'=>r=(fT ca s:Bool)/\st'=st):=by
 obtain⟨l,r⟩:=s;obtain⟨t1,x1,t2,x2,rfl,e1,i1,e2,i2⟩:=hx;obtain⟨hl,E⟩:=hs;simp only at i1 i2 hl E;rw[Oa];simp only;refine iI func60 ?_;simp only[go_sem,zA,reduceCtorEq];refine (A9 gl ca _).q ?_;cases hk:jL ca
 ·simp only[go_sem,zE];exact dw ⟨by simp,rfl⟩
 by_cases h1:l.length<=64
 case neg =>
  have e:decide ((64:Int)<(l.length:Int))=true:=dEt (by omega);simp only[go_sem,zE,i1.len,e];intro _;exact dw ⟨by simp[h1],rfl⟩
 by_cases h2:r.length<=64
 case neg =>
  have e:decide ((64:Int)<(l.length:Int))=false:=dEf (by omega);have e':decide ((64:Int)<(r.length:Int))=true:=dEt (by omega);simp only[go_sem,zE,i1.len,i2.len,e,e'];intro _ _;exact dw ⟨by simp[h2],rfl⟩
 have e:decide ((64:Int)<(l.length:Int))=false:=dEf (by omega);have e':decide ((64:Int)<(r.length:Int))=false:=dEf (by omega);simp only[go_sem,zE,i1.len,i2.len,e,e'];intros;refine dC l.length (λk fr st' ds=>(l.take k).all (fmB ca)=true/\fr 0=.iv (.raw (.int .u8 ca))/\fr 3=.box [.sl t1 x1,.sl t2 x2]/\fr 25=.iv (.sl t1 x1)/\fr 26=l.length/\fr 27=.iv (.raw (.int .i64 k))/\st'=st/\ds=[]) ?_ ?_ ?_
 ·simp only[go_sem,zE,reduceCtorEq]
  first|rfl|exact⟨rfl,rfl⟩
 ·rintro k fr aa _ A ⟨hn,f0,f3,f25,f26,f27,rfl,rfl⟩;obtain⟨a,J⟩:=ed A;obtain⟨y,ab,hy⟩:=i1.get J;have D:=A_ gl G ca a y hy (hl a (lMg J)) aa;obtain⟨o5,n5,t5,x5,t6,x6,rfl⟩:=hy.agg;simp only[go_sem,zE,zB,zA,zL,reduceCtorEq,f0,f25,f26,f27,lt_i A,ec e1,iNn,ab,fits];refine D.mono ?_;rintro _ _ ⟨rfl,rfl⟩;cases E:fmB ca a
  ·simp only[go_sem];refine dw ⟨?_,rfl⟩;have:l.all (fmB ca)=false:=List.all_eq_false.2 ⟨a,lMg J,by simp[E]⟩;simp[this]
  ·simp only[go_sem,zE,reduceCtorEq,f0,f3,f25,f26,f27,ek A (by omega)];rw[en J,lf,hn];simp[E]
 ·rintro fr aa _ ⟨hn,f0,f3,f25,f26,f27,rfl,rfl⟩;rw[lTl] at hn;simp only[go_sem,zE,f3,f26,f27,i2.len,eI (nLi _)];intro _;refine dC r.length (λk fr st' ds=>(r.take k).all (rB ca (r.headD fm0))=true/\fr 0=.iv (.raw (.int .u8 ca))/\fr 3=.box [.sl t1 x1,.sl t2 x2]/\fr 37=.iv (.sl t2 x2)/\fr 38=.iv (.raw (.int .i64 r.length))/\fr 39=.iv (.raw (.int .i64 k))/\st'=aa/\ds=[]) ?_ ?_ ?_
  ·simp only[go_sem,zE,reduceCtorEq,f0,f3]
   first|rfl|exact⟨rfl,rfl⟩
  ·rintro k fr ae _ A ⟨hm,f0,f3,f37,f38,f39,rfl,rfl⟩;obtain⟨a,J⟩:=ed A;obtain⟨y,ab,hy⟩:=i2.get J;obtain⟨a0,O⟩:=ed (show 0<r.length by omega);obtain⟨y0,ah,af⟩:=i2.get O;have an:r.headD fm0=a0:=by cases r with|nil=>cases O|cons b r=>simpa using O
   have D:=A_ gl G ca a y hy (E a (lMg J)) ae;have am:=λst=>FX gl G a a0 y y0 hy af (E a (lMg J)) (E a0 (lMg O)) st;rw[an] at hm ⊢;have U:rB ca a0 a=false->r.all (rB ca a0)=false:=λhb=>List.all_eq_false.2 ⟨a,lMg J,by simp[hb]⟩;have ai:rB ca a0 a=true->(r.take (k+1)).all (rB ca a0)=true:=λhb=>by
    rw[en J,lf,hm];simp[hb]
   obtain⟨o5,n5,t5,x5,t6,x6,rfl⟩:=hy.agg;obtain⟨o7,n7,t7,x7,t8,x8,rfl⟩:=af.agg;simp only[go_sem,zE,zB,zA,zL,reduceCtorEq,f0,f37,f38,f39,lt_i A,ec e2,iNn,ab,fits];refine D.mono ?_;rintro _ _ ⟨rfl,rfl⟩;cases E:fmB ca a
   ·simp only[go_sem,zE];exact dw ⟨by rw[U (by simp[rB,E])];simp,rfl⟩
   by_cases hj:ca=2
   ·have ej:decide ((ca:Int)=2)=true:=dEt (by omega);simp only[go_sem,zE,zB,zA,zL,reduceCtorEq,ej,f0,f3,ec e2,ah,fits,kn,jX];refine (am _).q ?_;cases hq:eqF a a0
    ·simp only[go_sem,zE];exact dw ⟨by rw[U (by simp[rB,hj,hq])];simp,rfl⟩
    ·simp only[go_sem,zE,reduceCtorEq,f0,f3,f37,f38,f39,ek A (by omega)];exact ai (by simp[rB,E,hq])
   ·have ej:decide ((ca:Int)=2)=false:=dEf (by omega);simp only[go_sem,zE,reduceCtorEq,ej,f0,f3,f37,f38,f39,ek A (by omega)];exact ai (by simp[rB,E,hj])
  ·rintro fr ae _ ⟨hm,f0,f3,f37,f38,f39,rfl,rfl⟩;rw[lTl] at hm;simp only[go_sem,f38,f39,eI (nLi _)];exact dw ⟨by rw[hn,hm];simp[h1,h2],rfl⟩
def Oc (J:Tag)(E:okEs J 1)(l:List ByteArray)(s:ByteArray)(st:ISt):ICall prog gl 137 [.sl J (strI l),s] st (λr st'=>r=(memB l s:Bool)/\st'=st):=by
 have G:ICall prog gl 173 [.sl J (strI l),s] st (λr st'=>(∃n:Int,r=n/\decide (0<=n)=memB l s)/\st'=st):=by
  refine iI func173 ?_;simp only[go_sem,reduceCtorEq,Ly];intro _;refine dC l.length (λk fr st' ds=>memB (l.take k) s=false/\fr 0=.iv (.sl J (strI l))/\fr 1=s/\fr 7=.iv (.raw (.int .i64 l.length))/\fr 8=.iv (.raw (.int .i64 k))/\st'=st/\ds=[]) ?_ ?_ ?_
  ·simp only[go_sem,zE,reduceCtorEq];exact⟨rfl,rfl⟩
  ·rintro k fr U _ A ⟨D,f0,f1,f7,f8,rfl,rfl⟩;obtain⟨a,O⟩:=ed A;by_cases hr:s=a
   ·subst hr;simp only[go_sem,zE,reduceCtorEq,f0,f1,f7,f8,lt_i A,ec E,iNn,D_ O,fits,d_];refine dw ⟨⟨_,rfl,?_⟩,rfl⟩;rw[dEt (iNn k)];exact (yJ4.2 (lMg O)).symm
   ·simp only[go_sem,zE,reduceCtorEq,f0,f1,f7,f8,lt_i A,ec E,iNn,D_ O,fits,dEf hr,ek A (by omega)];rw[zJd] at D ⊢;rw[en O,eQ,eY];rintro (h|h)
    ·exact D h
    ·exact hr h
  ·rintro fr U _ ⟨D,f0,f1,f7,f8,rfl,rfl⟩;rw[lTl] at D;simp only[go_sem,f7,f8,eI (nLi _)];exact dw ⟨⟨_,rfl,by rw[D];rfl⟩,rfl⟩
 refine iI func137 ?_;simp only[go_sem,zE,zA,reduceCtorEq];refine G.mono ?_;rintro _ _ ⟨⟨n,rfl,D⟩,rfl⟩;simp only[go_sem,D];exact dw ⟨rfl,rfl⟩
def F4 (T:Gt gl)(f:Fm)(y:IV)(D:IsFm f y)(hs:f.size<=1000000)(J:f.right=true)(s:ByteArray)(st:ISt) :
  ICall prog gl 136 [y,.cptr s] st (λr st'=>r=(memB (frF f) s:Bool)/\st'=st):=by
 have h1:=λst=>M7 gl T f y D (by omega) (λq G=>by have:=Nr (Fv f (p9 J).1 q G);omega) st;obtain⟨o5,n5,t5,U,t6,O,rfl⟩:=D.agg;refine ICall.intro (c:=cf prog gl [] [(1,[0,2,1,3,4])]) func136 rfl (by show _<=8;simp) (by kernel_rfl) ?_;simp only[go_sem,zE,zA,zL,fits];refine (h1 _).mono ?_;rintro _ _ ⟨E,l,rfl,A,hl,rfl⟩;simp only[go_sem,zE,zA];refine (Oc gl E A l s _).q ?_;simp only[go_sem];refine dw ⟨?_,rfl⟩;have:memB l s=memB (frF f) s:=by
  rw[m_,yJ4,yJ4];exact hl.2 s
 rw[this]
def Od (T:Gt gl)(s:Sq)(x:IV)(U:IsSq s x)(hs:ig s)(E:(∀f∈s.l,f.right=true)/\∀f∈s.r,f.right=true)(n:ByteArray)(st:ISt) :
  ICall prog gl 103 [x,n] st (λr st'=>r=(rz s n:Bool)/\st'=st):=by
 obtain⟨t1,O,t2,J,rfl,e1,i1,e2,i2⟩:=U;have h1:=λst=>Ba gl 136 [.cptr n] (by simp only[go_sem]) s.l (λf=>memB (frF f) n) (λa A y D st=>F4 gl T a y D (hs.1 a A) (E.1 a A) n st) t1 O e1 i1 st;have h2:=λst=>Ba gl 136 [.cptr n] (by simp only[go_sem]) s.r (λf=>memB (frF f) n) (λa A y D st=>F4 gl T a y D (hs.2 a A) (E.2 a A) n st) t2 J e2 i2 st;refine ICall.intro (c:=cf prog gl [] [] [3]) func103 rfl (by show _<=17;simp) (by kernel_rfl) ?_;simp only[go_sem,zE,zA];refine (h1 _).q ?_;cases G:s.l.any λf=>memB (frF f) n
 ·simp only[go_sem,zE,zA];refine (h2 _).q ?_;simp only[go_sem,zE];exact dw ⟨by simp[rz,G],rfl⟩
 ·simp only[go_sem,zE];exact dw ⟨by simp[rz,G],rfl⟩
def F5 (f:Fm)(l:Sb):(jf f l).1.size<=400:=by
 unfold jf;split
 ·split
  ·rename_i h;simp only[bAt,dTe] at h;exact h.1
  ·show fm0.size<=400;decide
 ·show fm0.size<=400;decide
def rD:IsFm fm0 (.agg [.raw (.int .u8 0),.raw (.string ⟨#[]⟩),(),()]):=Fs _ _ (.inl rfl) (.inl rfl)
def F6 {sub:List Fm}{A:List IV}(h:IsFms sub A)(k:Nat):∃y,IsFm ((sub[k]?).getD fm0) y/\(sub.length<=k->y=.agg [.raw (.int .u8 0),.raw (.string ⟨#[]⟩),(),()])/\(k<sub.length->A[k]?=some y):=by
 by_cases D:k<sub.length
 ·obtain⟨a,E⟩:=ed D;obtain⟨y,G,J⟩:=h.get E;exact⟨y,by rw[E];exact J,λhc=>by omega,λ_=>G⟩
 ·exact⟨_,by rw[mj (by omega)];exact rD,λ_=>rfl,λhc=>absurd hc D⟩
def AdR (st:ISt)(q:List Sq×Nat)(r:IV)(st':ISt):Prop:=∃D A,r=.tup [.sl D A,q.2]/\okEs D 2/\IsSqs q.1 A/\st'=st
def AdRD (st:ISt)(q:List Sq×Nat)(r:IV)(st':ISt):Prop:=∃A D,r=.tup [.sl A D,q.2]/\okEs A 2/\appT q.1.length A/\IsSqsD q.1 D/\st'=st
def AdRD.w {st:ISt}{q:List Sq×Nat}(r:IV)(st':ISt):AdRD st q r st'->AdR st q r st':=λ⟨D,A,h1,h2,_,G,E⟩=>⟨D,A,h1,h2,G.w,E⟩
def wD {o:Nat}{n:ByteArray}{us:List Tm}{sub:List Fm}(h:(Fm.mk o n us sub).size<=1000000)(k:Nat):((sub[k]?).getD fm0).size<=1000000:=by
 cases A:sub[k]? with
 | none=>show fm0.size<=1000000;decide
 | some a =>
  have:=(kW A).2;simp only[Fm.size] at h;show a.size<=1000000;omega
def F7 {ca rule:Nat}{r:Rw}{A:Fm}{term:Tm}{name:ByteArray}(h:fmB ca A=true)(D:r.op=0\/A.op=r.op):iT ca rule r A term name =
  if r.asks=0 then (addS ca rule A ((A.subs[0]?).getD fm0) ((A.subs[1]?).getD fm0),0)
  else if !(if r.asks=2 then Tm.mk true name [] else term).ok then ([],193)
  else if (jf ((A.subs[0]?).getD fm0) [(A.nm,if r.asks=2 then Tm.mk true name [] else term)]).2≠0 then ([],193)
  else (addS ca rule A (jf ((A.subs[0]?).getD fm0) [(A.nm,if r.asks=2 then Tm.mk true name [] else term)]).1 ((A.subs[1]?).getD fm0),0):=by
 have e:(!fmB ca A || (decide (r.op≠0)&&decide (A.op≠r.op)))=false:=by
  rw[h];rcases D with D|D<;>simp[D]
 simp only[iT,e,bFt,et]
set_option maxHeartbeats 2000000 in
def F8 (G:Gl gl)(T:Gt gl)(ca rule:Nat)(r:Rw)(hr:rowS ca rule=some r)(A:Fm)(y:IV)(hy:IsFm A y)(hm:A.size<=1000000)(term:Tm)(z:IV)(hz:IsTm term z)(ht:term.size<=1000000)(name:ByteArray)(st:ISt) :
  ICall prog gl 101 [rwI ca rule r,.raw (.int .u8 ca),y,z,name] st (AdRD st (iT ca rule r A term name)):=by
 obtain⟨aa,U⟩:=N_ gl hr;have hf:=λst=>A_ gl G ca A y hy hm st;obtain⟨rl,rr,op,asks⟩:=r;obtain⟨o,n,us,sub⟩:=A;have aw:=hy;obtain⟨t1,x1,t2,x2,rfl,ho,e1,i1,e2,i2⟩:=hy.mk;obtain⟨v,un,tz,xz,rfl⟩:∃v un tz xz,z=.agg [.raw (.bool v),.raw (.string un),.sl tz xz]:=by
  obtain⟨v,un,us⟩:=term;obtain⟨tz,xz,rfl,_⟩:=hz.mk;exact⟨_,_,_,_,rfl⟩
 obtain⟨z1,ac,au,aq⟩:=F6 i2 0;obtain⟨z2,ab,O,ao⟩:=F6 i2 1;have hE:fmB ca (.mk o n us sub)=false->iT ca rule ⟨rl,rr,op,asks⟩ (.mk o n us sub) term name=([],192):=λh=>by simp only[iT,h];rfl
 refine iI func101 ?_;simp only[go_sem,zE,zA,zL,rwI];refine (hf _).q ?_;cases ah:fmB ca (.mk o n us sub)
 ·simp only[go_sem,zE];exact dw (by rw[hE ah];exact⟨_,_,rfl,.inl rfl,.inl rfl,rfl,rfl⟩)
 by_cases E:op=0\/o=op
 case neg =>
  have J:iT ca rule ⟨rl,rr,op,asks⟩ (.mk o n us sub) term name=([],192):=by
   have e:(!fmB ca (.mk o n us sub) || (decide (op≠0)&&decide ((Fm.mk o n us sub).op≠op)))=true:=by
    simp only[Fm.op,ah];simp only[not_or] at E;simp[E]
   simp only[iT,e,el]
  simp only[not_or] at E;have d1:decide ((op:Int)=0)=false:=dEf (by omega);have d2:decide ((o:Int)=(op:Int))=false:=dEf (by omega);simp only[go_sem,zE,zA,d1,d2];exact dw (by rw[J];exact⟨_,_,rfl,.inl rfl,.inl rfl,rfl,rfl⟩)
 obtain⟨aB,D⟩:∃b,decide ((op:Int)=0)=b:=⟨_,rfl⟩
 have aM:aB=false->decide ((o:Int)=(op:Int))=true:=λh=>by
  subst D;have:=iJ h;exact dEt (by omega)
 have ay:=E;replace E:(⟨rl,rr,op,asks⟩:Rw).op=0\/(Fm.mk o n us sub).op=(⟨rl,rr,op,asks⟩:Rw).op:=ay;by_cases aK:0<sub.length
 rotate_left
 have l0:decide ((0:Int)<(sub.length:Int))=false:=dEf (by omega);have l1:decide ((1:Int)<(sub.length:Int))=false:=dEf (by omega);have g0:=l0;have g1:=l0;obtain rfl:=au (by omega);obtain rfl:=O (by omega)
 rotate_left
 have l0:decide ((0:Int)<(sub.length:Int))=true:=dEt (by omega);have g0:=aq aK;obtain⟨o3,n3,t3,x3,t4,x4,rfl⟩:=ac.agg;by_cases aJ:1<sub.length;have l1:decide ((1:Int)<(sub.length:Int))=true:=dEt (by omega);have g1:=ao aJ;obtain⟨o5,n5,t5,x5,t6,x6,rfl⟩:=ab.agg
 rotate_left
 have l1:decide ((1:Int)<(sub.length:Int))=false:=dEf (by omega);have g1:=g0;obtain rfl:=O (by omega)
 all_goals cases aB
 all_goals (first|have aj:=aM rfl|have aj:=D)
 all_goals
  have J:=F7 (rule:=rule) (r:=⟨rl,rr,op,asks⟩) (term:=term) (name:=name) ah E;by_cases aA:asks=0
  ·have d0:decide ((asks:Int)=0)=true:=dEt (by omega);simp only[c_ aA,Fm.subs] at J;simp only[go_sem,zE,zB,zA,zL,D,aj,l0,l1,i2.len,g0,g1,ec e2,kn,jX,(show (0:Int)<=1 by decide),(show Int.toNat 1=1 from rfl),d0,fits,U];intros;refine (aa _ _ _ _ _ _ aw ac ab hm (wD hm 0) (wD hm 1) _).mono ?_;rintro _ _ ⟨tg,xs,rfl,he,ak,ae,rfl⟩;simp only[go_sem,zE];exact dw (by rw[J];exact⟨_,_,rfl,he,ak,ae,rfl⟩)
  have d0:decide ((asks:Int)=0)=false:=dEf (by omega);by_cases az:asks=2;have d2:decide ((asks:Int)=2)=true:=dEt (by omega);obtain⟨w,ax,hw,af⟩:∃w,(if asks=2 then Tm.mk true name [] else term)=w/\IsTm w (.agg [true,name,()])/\w.size<=1000000:=⟨_,c_ az,⟨_,_,rfl,.inl rfl,rfl⟩,by show 1<=_;decide⟩
  rotate_left
  have d2:decide ((asks:Int)=2)=false:=dEf (by omega);obtain⟨w,ax,hw,af⟩:∃w,(if asks=2 then Tm.mk true name [] else term)=w/\IsTm w _/\w.size<=1000000:=⟨_,a_ az,hz,ht⟩
  all_goals
   simp only[a_ aA,ax,Fm.subs,Fm.nm] at J;simp only[go_sem,zE,zB,zA,zL,D,aj,l0,l1,i2.len,g0,g1,ec e2,kn,jX,(show (0:Int)<=1 by decide),(show Int.toNat 1=1 from rfl),d0,d2,fits];intros;refine (En gl w _ hw af _).q ?_;cases hk:Tm.ok w
   ·simp only[hk,Bool.not_false,el] at J;simp only[go_sem,zE];exact dw (by rw[J];exact⟨_,_,rfl,.inl rfl,.inl rfl,rfl,rfl⟩)
   simp only[go_sem,zE,zA,zL];refine (Np gl G T _ _ ac (wD hm 0) n w _ hw af _).mono ?_;rintro _ _ ⟨y3,rfl,av,rfl⟩;have aG:=av;obtain⟨o8,n8,t8,x8,t9,x9,rfl⟩:=av.agg;by_cases he:(jf ((sub[0]?).getD fm0) [(n,w)]).2=0
   ·simp only[hk,nD,bFt,et,he,ne_eq,nTf] at J;simp only[go_sem,zE,zA,zL,he,U,show decide (((0:Nat):Int)=0)=true from rfl];refine (aa _ _ _ _ _ _ aw aG ab hm (eM (F5 _ _) (by decide)) (wD hm 1) _).mono ?_;rintro _ _ ⟨tg,xs,rfl,he,ak,ae,rfl⟩;simp only[go_sem,zE];exact dw (by rw[J];exact⟨_,_,rfl,he,ak,ae,rfl⟩)
   ·simp only[hk,nD,bFt,et,ne_eq,he,nFt,el] at J;simp only[go_sem,zE,zA,zL,dEf (show ¬ ((jf ((sub[0]?).getD fm0) [(n,w)]).2:Int)=0 by omega)];exact dw (by rw[J];exact⟨_,_,rfl,.inl rfl,.inl rfl,rfl,rfl⟩)
def Oe {ca:Nat}{s:Sq}(h:fT ca s=true):(∀f∈s.l,f.right=true)/\∀f∈s.r,f.right=true:=by
 unfold fT at h;simp only[bAt,fZ] at h;obtain⟨⟨⟨_,E⟩,D⟩,_⟩:=h;have key:∀f,fmB ca f=true->f.right=true:=λf A=>by
  unfold fmB at A;simp only[bAt] at A;exact A.1
 exact⟨λf A=>key f (E f A),λf A=>key f (D f A)⟩
def Of (G:Gl gl)(T:Gt gl)(ca:Nat)(s:Sq)(x:IV)(hx:IsSq s x)(hs:ig s)(rule:Nat)(A:Fm)(y:IV)(hy:IsFm A y)(hm:A.size<=1000000)(term:Tm)(z:IV)(hz:IsTm term z)(ht:term.size<=1000000)(name:ByteArray)(st:ISt) :
  ICall prog gl 80 [.raw (.int .u8 ca),x,.raw (.int .u8 rule),y,z,name] st (AdRD st (ju ca s rule A term name)):=by
 have hV:=λst=>Bb gl G ca s x hx hs st;have hF:=λO st=>Od gl T s x hx hs O name st;obtain⟨t1,x1,t2,x2,rfl,e1,i1,e2,i2⟩:=hx;have au:=λst=>wB gl G s.l A t1 x1 y e1 i1 hy hs.1 hm st;have aq:=λst=>wB gl G s.r A t2 x2 y e2 i2 hy hs.2 hm st;have hA:=λr O st=>F8 gl G T ca rule r O A y hy hm term z hz ht name st;obtain⟨o3,n3,t3,x3,t4,x4,rfl⟩:=hy.agg;obtain⟨v,un,tz,xz,rfl⟩:∃v un tz xz,z=.agg [.raw (.bool v),.raw (.string un),.sl tz xz]:=by
  obtain⟨v,un,us⟩:=term;obtain⟨tz,xz,rfl,_⟩:=hz.mk;exact⟨_,_,_,_,rfl⟩
 refine iI func80 ?_;simp only[go_sem,zE,zA,zL,reduceCtorEq];refine (hV _).q ?_;cases hv:fT ca s
 ·simp only[go_sem,zE];exact dw (by unfold ju;rw[hv];exact⟨_,_,rfl,.inl rfl,.inl rfl,rfl,rfl⟩)
 have J:=Oe hv;simp only[go_sem,zA,reduceCtorEq];refine (FZ gl ca _).mono ?_;rintro _ _ ⟨b,U,rfl,rfl⟩;cases O:rowS ca rule with
 | none =>
  have D:ju ca s rule A term name=([],191):=by unfold ju;rw[hv,O];rfl
  simp only[go_sem,zE,zA,zL,b_,wC,O,iH,vd];exact fN (gj U) (by rw[D];exact⟨_,_,rfl,.inl rfl,.inl rfl,rfl,rfl⟩)
 | some r =>
  have E:=hA r O;obtain⟨rl,rr,op,asks⟩:=r;have D:ju ca s rule A term name=if decide ((iT ca rule ⟨rl,rr,op,asks⟩ A term name).2=192) || (rl&&!hasF s.l A) || (rr&&!hasF s.r A) then ([],192)
    else if (iT ca rule ⟨rl,rr,op,asks⟩ A term name).2≠0 then ([],(iT ca rule ⟨rl,rr,op,asks⟩ A term name).2)
    else if decide (asks=2)&&rz s name then ([],193) else ((iT ca rule ⟨rl,rr,op,asks⟩ A term name).1,0):=by unfold ju;rw[hv,O];rfl
  generalize iT ca rule ⟨rl,rr,op,asks⟩ A term name=q at D E;obtain⟨qs,qe⟩:=q;simp only at D;simp only[go_sem,zE,zA,zL,reduceCtorEq,b_,wC,O,fK,yr,rwI];refine (E _).mono ?_;rintro _ _ ⟨tg,xs,rfl,he,ah,ag,rfl⟩;by_cases aa:qe=192
  ·have d:decide ((qe:Int)=192)=true:=dEt (by omega);have an:ju ca s rule A term name=([],192):=by rw[D,aa];rfl
   simp only[go_sem,zE,d];exact fN (gj U) (by rw[an];exact⟨_,_,rfl,.inl rfl,.inl rfl,rfl,rfl⟩)
  have d:decide ((qe:Int)=192)=false:=dEf (by omega);have ae:decide (qe=192)=false:=dEf aa;rw[ae,Bool.false_or] at D;cases rl
  rotate_left
  simp only[go_sem,zE,zA,zL,d];refine (au _).q ?_;cases h4:hasF s.l A
  ·simp only[go_sem,zE];rw[h4] at D;exact fN (gj U) (by rw[D];exact⟨_,_,rfl,.inl rfl,.inl rfl,rfl,rfl⟩)
  rw[h4] at D
  rotate_left
  all_goals cases rr
  all_goals try
   simp only[go_sem,zE,zA,zL,d];refine (aq _).q ?_;cases h5:hasF s.r A
   ·simp only[go_sem,zE];rw[h5] at D;exact fN (gj U) (by rw[D];exact⟨_,_,rfl,.inl rfl,.inl rfl,rfl,rfl⟩)
   rw[h5] at D
  all_goals
   simp only[qA,Bool.and_false,nD,Bool.or_false,bFt,et] at D;by_cases h0:qe=0
   ·subst h0;simp only[ne_eq,nTf,et] at D;by_cases ha:asks=2
    ·have da:decide ((asks:Int)=2)=true:=dEt (by omega);simp only[go_sem,zE,zA,zL,d,da,show decide (((0:Nat):Int)=0)=true from rfl];refine (hF J _).q ?_;rw[dEt ha,jV] at D;cases hf:rz s name
     ·simp only[go_sem,zE];rw[hf] at D;exact fN (gj U) (by rw[D];exact⟨_,_,rfl,he,ah,ag,rfl⟩)
     ·simp only[go_sem,zE];rw[hf] at D;exact fN (gj U) (by rw[D];exact⟨_,_,rfl,.inl rfl,.inl rfl,rfl,rfl⟩)
    ·have da:decide ((asks:Int)=2)=false:=dEf (by omega);rw[dEf ha,qA] at D;simp only[go_sem,zE,zA,d,da,show decide (((0:Nat):Int)=0)=true from rfl];exact fN (gj U) (by rw[D];exact⟨_,_,rfl,he,ah,ag,rfl⟩)
   ·have d0:decide ((qe:Int)=0)=false:=dEf (by omega);rw[c_ h0] at D;simp only[go_sem,zE,zA,d,d0];exact fN (gj U) (by rw[D];exact⟨_,_,rfl,.inl rfl,.inl rfl,rfl,rfl⟩)
def Og (G:Gl gl)(T:Gt gl)(ca:Nat)(s:Sq)(x:IV)(J:IsSq s x)(hs:ig s)(rule:Nat)(A:Fm)(y:IV)(E:IsFm A y)(O:A.size<=1000000)(term:Tm)(z:IV)(D:IsTm term z)(ht:term.size<=1000000)(name:ByteArray)(st:ISt) :
  ICall prog gl 80 [.raw (.int .u8 ca),x,.raw (.int .u8 rule),y,z,name] st (AdR st (ju ca s rule A term name)) :=
 (Of gl G T ca s x J hs rule A y E O term z D ht name st).mono AdRD.w
