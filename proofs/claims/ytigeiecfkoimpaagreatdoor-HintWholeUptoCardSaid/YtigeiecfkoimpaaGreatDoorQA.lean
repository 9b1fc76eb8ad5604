/- Sequents and trees of sequents as plain -/
import Derived.Test.YtigeiecfkoimpaaGreatDoorKD
set_option linter.all false
open Nat renaming reduceEqDiff → zE,reduceBEq → zB,reduceAdd → zA,reduceMul → zM,reduceLeDiff → zL
namespace Go.Iv
open Go
structure Sq where
 l:List Fm
 r:List Fm
inductive Tr where
 | mk (rule:Nat) (s:Sq) (main:Fm) (term:Tm) (name:ByteArray) (sub:List Tr)
def IsSq (s:Sq)(x:IV):Prop:=∃t xs D ys,x=.agg [.sl t xs,.sl D ys]/\okEs t 4/\IsFms s.l xs/\okEs D 4/\IsFms s.r ys
def IsSqs:List Sq->List IV->Prop
 | [],xs=>xs=[]
 | a::D,xs=>∃y ys,xs=y::ys/\IsSq a y/\IsSqs D ys
mutual
def IsTr:Tr->IV->Prop
 | .mk rule s f u n sub,x=>∃tl xl tr E op fn ta J tb G v O tu D ts xs,x=.agg [.raw (.int .u8 rule),.sl tl xl,.sl tr E,.raw (.int .u8 op),.raw (.string fn),.sl ta J,.sl tb G,.raw (.bool v),.raw (.string O),.sl tu D,n,.sl ts xs] /\
  rule<256/\okEs tl 4/\IsFms s.l xl/\okEs tr 4/\IsFms s.r E/\IsFm f (.agg [.raw (.int .u8 op),.raw (.string fn),.sl ta J,.sl tb G])/\IsTm u (.agg [.raw (.bool v),.raw (.string O),.sl tu D])/\okEs ts 12/\IsTrs sub xs
def IsTrs:List Tr->List IV->Prop
 | [],xs=>xs=[]
 | a::D,xs=>∃y ys,xs=y::ys/\IsTr a y/\IsTrs D ys
end
def IsTr.mk {rule:Nat}{s:Sq}{f:Fm}{u:Tm}{n:ByteArray}{sub:List Tr}{x:IV}(h:IsTr (.mk rule s f u n sub) x):∃tl xl tr E op fn ta J tb G v O tu D ts xs,x=.agg [.raw (.int .u8 rule),.sl tl xl,.sl tr E,.raw (.int .u8 op),.raw (.string fn),.sl ta J,.sl tb G,.raw (.bool v),.raw (.string O),.sl tu D,n,.sl ts xs] /\
  rule<256/\okEs tl 4/\IsFms s.l xl/\okEs tr 4/\IsFms s.r E/\IsFm f (.agg [.raw (.int .u8 op),.raw (.string fn),.sl ta J,.sl tb G])/\IsTm u (.agg [.raw (.bool v),.raw (.string O),.sl tu D])/\okEs ts 12/\IsTrs sub xs:=by
 simpa only[IsTr] using h
def IsSqs.len:∀ {D:List Sq}{xs:List IV},IsSqs D xs->xs.length=D.length
 | [],xs,h=>by simp only[IsSqs] at h;subst h;rfl
 | a::D,xs,h=>by
  simp only[IsSqs] at h;obtain⟨y,ys,rfl,_,h⟩:=h;simp[IsSqs.len h]
def IsSqs.get:∀ {E:List Sq}{xs:List IV}{k:Nat}{a:Sq},IsSqs E xs->E[k]?=some a->∃x,xs[k]?=some x/\IsSq a x
 | [],xs,k,a,h,D=>by simp at D
 | b::E,xs,k,a,h,D=>by
  simp only[IsSqs] at h;obtain⟨y,ys,rfl,G,h⟩:=h;cases k with
  | zero=>simp at D;subst D;exact⟨y,rfl,G⟩
  | succ k=>simpa using IsSqs.get h (by simpa using D)
def IsTrs.len:∀ {D:List Tr}{xs:List IV},IsTrs D xs->xs.length=D.length
 | [],xs,h=>by simp only[IsTrs] at h;subst h;rfl
 | a::D,xs,h=>by
  simp only[IsTrs] at h;obtain⟨y,ys,rfl,_,h⟩:=h;simp[IsTrs.len h]
def IsTrs.get:∀ {E:List Tr}{xs:List IV}{k:Nat}{a:Tr},IsTrs E xs->E[k]?=some a->∃x,xs[k]?=some x/\IsTr a x
 | [],xs,k,a,h,D=>by simp at D
 | b::E,xs,k,a,h,D=>by
  simp only[IsTrs] at h;obtain⟨y,ys,rfl,G,h⟩:=h;cases k with
  | zero=>simp at D;subst D;exact⟨y,rfl,G⟩
  | succ k=>simpa using IsTrs.get h (by simpa using D)
def IsTrs.append:∀ {E D:List Tr}{xs ys:List IV},IsTrs E xs->IsTrs D ys->IsTrs (E++D) (xs++ys)
 | [],D,xs,ys,h,k=>by simp only[IsTrs] at h;subst h;exact k
 | a::E,D,xs,ys,h,k=>by
  simp only[IsTrs] at h;obtain⟨y,zs,rfl,G,h⟩:=h;exact⟨y,zs++ys,rfl,G,IsTrs.append h k⟩
mutual
def Tr.steps:Tr->Nat
 | .mk _ _ _ _ _ sub=>1+eE sub
def eE:List Tr->Nat
 | []=>0
 | a::l=>a.steps+eE l
end
mutual
def Tr.height:Tr->Nat
 | .mk _ _ _ _ _ sub=>1+lY sub
def lY:List Tr->Nat
 | []=>0
 | a::l=>max a.height (lY l)
end
def ym:∀l m:List Tr,eE (l++m)=eE l+eE m
 | [],m=>by simp[eE]
 | a::l,m=>by simp only[eu,eE,ym l m];omega
def Tr.height_le_steps:∀t:Tr,t.height<=t.steps:=by
 have key:∀k:Nat,(∀t:Tr,SizeOf.sizeOf t<k->t.height<=t.steps):=λk=>by
  induction k with
  | zero=>intro t h;omega
  | succ k E =>
   rintro⟨rule,s,f,u,n,sub⟩ h;have:∀l:List Tr,SizeOf.sizeOf l<k+1->lY l<=eE l:=λl=>by
    induction l with
    | nil=>intro _;simp[lY,eE]
    | cons a l D =>
     intro hl;simp only[List.cons.sizeOf_spec] at hl;have h1:=E a (by omega);have h2:=D (by omega);simp only[lY,eE];omega
   simp only[Tr.mk.sizeOf_spec] at h;have:=this sub (by omega);simp only[Tr.height,Tr.steps];omega
 exact λt=>key _ t (eS _)
mutual
def Tr.walk:List Nat->Tr->List (List Nat×Tr)
 | p,t@(.mk _ _ _ _ _ sub)=>(p,t)::eO p 0 sub
def eO:List Nat->Nat->List Tr->List (List Nat×Tr)
 | _,_,[]=>[]
 | p,i,a::l=>a.walk (p++[i])++eO p (i+1) l
end
def fz (e:Tr->Nat):List (List Nat×Tr)->List Nat×Nat
 | []=>([],0)
 | (p,t)::l=>if e t=0 then fz e l else (p,e t)
def rT (e:Tr->Nat):∀l m,fz e (l++m)=if (fz e l).2=0 then fz e m else fz e l
 | [],m=>by simp[fz]
 | (p,t)::l,m=>by
  have D:=rT e l m;by_cases h:e t=0
  ·simp only[eu,fz,h,dJ,D]
  ·simp[fz,h]
def Fm.op:Fm->Nat
 | .mk op _ _ _=>op
def Fm.subs:Fm->List Fm
 | .mk _ _ _ sub=>sub
def Fm.nm:Fm->ByteArray
 | .mk _ n _ _=>n
def Tr.sq:Tr->Sq
 | .mk _ s _ _ _ _=>s
def Sq.plus (s m:Sq):Sq:=⟨s.l++m.l,s.r++m.r⟩
end Go.Iv
namespace Go.Proofs.Tryz
open Go Go.Iv
set_option maxRecDepth 4000
variable (gl:Nat->Option IV)
def DR (v w:Bool)(n m:ByteArray)(us ws:List Tm)(x y:IV)(hx:IsTm (.mk v n us) x)(hy:IsTm (.mk w m ws) y)
  (IH:∀(t t':Tag) (xs ys:List IV),okEs t 3->okEs t' 3->IsTms us xs->IsTms ws ys->∀st,ICall prog gl 44 [.sl t xs,.sl t' ys] st (λx st'=>x=(eqB us ws:Bool)/\st'=st)) (st:ISt) :
  ICall prog gl 50 [x,y] st (λr st'=>r=(eqB (Tm.mk v n us) (.mk w m ws):Bool)/\st'=st):=by
 obtain⟨tx,cx,rfl,G,O⟩:=hx.mk;obtain⟨ty,cy,rfl,E,J⟩:=hy.mk;refine iI func50 ?_;by_cases hv:v=w
 ·subst hv;by_cases D:n=m
  ·subst D;simp only[go_sem,zE,zA,dC];refine (IH tx ty cx cy G E O J _).q ?_;simp only[go_sem,zE];refine c_ ⟨?_,rfl⟩;by_cases hc:us=ws
   ·subst hc;rw[yZ1.2 rfl,yZ1.2 rfl]
   ·rw[yQq.2 hc,yQq.2 (by rintro⟨⟩;exact hc rfl)]
  ·simp only[go_sem,zE,zA,dEf D];exact c_ ⟨by rw[yQq.2 (by rintro⟨⟩;exact D rfl)],rfl⟩
 ·simp only[go_sem,zE,zA,beq_eq_false_iff_ne.2 hv];exact c_ ⟨by rw[yQq.2 (by rintro⟨⟩;exact hv rfl)],rfl⟩
def yn (t t':Tag)(us ws:List Tm)(xs ys:List IV)(ht:okEs t 3)(aj:okEs t' 3)(ha:IsTms us xs)(hb:IsTms ws ys)(st:ISt) :
  ICall prog gl 44 [.sl t xs,.sl t' ys] st (λx st'=>x=(eqB us ws:Bool)/\st'=st):=by
 refine iI func44 ?_;simp only[go_sem,zE,reduceCtorEq,ha.len,hb.len];intro aC aB;refine kR (λh=>?_) (λh=>?_)
 ·have O:us≠ws:=by rintro rfl;simp at h
  simp only[go_sem];exact c_ ⟨by rw[yQq.2 O],rfl⟩
 have J:us.length=ws.length:=by simp at h;omega
 refine dt us.length (λk fr st' ds=>us.take k=ws.take k/\fr 0=.iv (.sl t xs)/\fr 1=.iv (.sl t' ys)/\fr 5=.iv (.raw (.int .i64 k))/\st'=st/\ds=[]) ?_ ?_ ?_
 ·simp only[go_sem,zE,reduceCtorEq];rfl
 ·rintro k fr st' ds D ⟨hn,h0,h1,h5,rfl,rfl⟩;obtain⟨a,G⟩:=dD D;obtain⟨b,E⟩:=dD (J▸D);obtain⟨x,al,hx⟩:=ha.get G;obtain⟨y,ak,hy⟩:=hb.get E;obtain⟨v,n,cs⟩:=a;obtain⟨w,m,ds⟩:=b;have ai:=hx;have ah:=hy;obtain⟨tx,cx,rfl,aA,aF⟩:=hx.mk;obtain⟨ty,cy,rfl,az,aE⟩:=hy.mk;have aa:=DR gl v w n m cs ds _ _ ai ah (λt1 t2 x1 y1 q1 q2 q3 q4 ag=>yn t1 t2 cs ds x1 y1 q1 q2 q3 q4 ag) st';simp only[go_sem,zE,zB,zA,reduceCtorEq,h0,h1,h5,ha.len,lt_i D,dB ht,dB aj,iNn,al,ak,fits];intro _;refine aa.mono ?_;rintro _ _ ⟨rfl,rfl⟩;by_cases hc:Tm.mk v n cs=.mk w m ds
  ·simp only[go_sem,zE,reduceCtorEq,h0,h1,h5,dL D (by omega),yZ1.2 hc];rw[dM G,dM E,hn,hc]
  ·have O:us≠ws:=by
    rintro rfl;rw[G] at E;exact hc (eC E)
   simp only[go_sem,yQq.2 hc];exact c_ ⟨by rw[yQq.2 O],rfl⟩
 ·rintro fr st' ds ⟨hn,h0,h1,h5,rfl,rfl⟩;simp only[go_sem,zE,reduceCtorEq,h0,h5,ha.len,dS (nLi _)];intro _;have he:us=ws:=by rw[lTl] at hn;rw[hn,J,lTl]
  exact c_ ⟨by rw[yZ1.2 he],rfl⟩
termination_by SizeOf.sizeOf us
decreasing_by exact Ma (lMg G)
def Mu (a b:Tm)(x y:IV)(G:IsTm a x)(E:IsTm b y)(st:ISt):ICall prog gl 50 [x,y] st (λr st'=>r=(eqB a b:Bool)/\st'=st):=by
 obtain⟨v,n,us⟩:=a;obtain⟨w,m,ws⟩:=b;exact DR gl v w n m us ws x y G E (λt D xs ys h1 h2 O J st=>yn gl t D us ws xs ys h1 h2 O J st) st
def kSF (f:Fm):Prop:=∀(g:Fm) (x y:IV) (_:IsFm f x) (_:IsFm g y) (st:ISt),ICall prog gl 21 [x,y] st (λr st'=>r=(eqB f g:Bool)/\st'=st)
def DS (us ws:List Fm)(IH:∀a∈us,kSF gl a)(t t':Tag)(xs ys:List IV)(ht:okEs t 4)(ah:okEs t' 4)(ha:IsFms us xs)(hb:IsFms ws ys)(st:ISt) :
  ICall prog gl 45 [.sl t xs,.sl t' ys] st (λx st'=>x=(eqB us ws:Bool)/\st'=st):=by
 refine iI func45 ?_;simp only[go_sem,zE,reduceCtorEq,ha.len,hb.len];intro ao an;refine kR (λh=>?_) (λh=>?_)
 ·have O:us≠ws:=by rintro rfl;simp at h
  simp only[go_sem];exact c_ ⟨by rw[yQq.2 O],rfl⟩
 have J:us.length=ws.length:=by simp at h;omega
 refine dt us.length (λk fr st' ds=>us.take k=ws.take k/\fr 0=.iv (.sl t xs)/\fr 1=.iv (.sl t' ys)/\fr 5=.iv (.raw (.int .i64 k))/\st'=st/\ds=[]) ?_ ?_ ?_
 ·simp only[go_sem,zE,reduceCtorEq];rfl
 ·rintro k fr st' ds D ⟨hn,h0,h1,h5,rfl,rfl⟩;obtain⟨a,G⟩:=dD D;obtain⟨b,E⟩:=dD (J▸D);obtain⟨x,aj,hx⟩:=ha.get G;obtain⟨y,ai,hy⟩:=hb.get E;have aa:=IH a (lMg G) b x y hx hy st';obtain⟨o,n,cs,sub⟩:=a;obtain⟨o',m,ds,ab⟩:=b;obtain⟨tx,cx,sx,dx,rfl,_⟩:=hx.mk;obtain⟨ty,cy,sy,dy,rfl,_⟩:=hy.mk;simp only[go_sem,zE,zB,zA,reduceCtorEq,h0,h1,h5,ha.len,lt_i D,dB ht,dB ah,iNn,aj,ai,fits];intro _;refine aa.mono ?_;rintro _ _ ⟨rfl,rfl⟩;by_cases hc:Fm.mk o n cs sub=.mk o' m ds ab
  ·simp only[go_sem,zE,reduceCtorEq,h0,h1,h5,dL D (by omega),yZ1.2 hc];rw[dM G,dM E,hn,hc]
  ·have O:us≠ws:=by
    rintro rfl;rw[G] at E;exact hc (eC E)
   simp only[go_sem,yQq.2 hc];exact c_ ⟨by rw[yQq.2 O],rfl⟩
 ·rintro fr st' ds ⟨hn,h0,h1,h5,rfl,rfl⟩;simp only[go_sem,zE,reduceCtorEq,h0,h5,ha.len,dS (nLi _)];intro _;have he:us=ws:=by rw[lTl] at hn;rw[hn,J,lTl]
  exact c_ ⟨by rw[yZ1.2 he],rfl⟩
def Mw (o:Nat)(n:ByteArray)(us:List Tm)(sub:List Fm)(IH:∀a∈sub,kSF gl a):kSF gl (.mk o n us sub):=by
 intro g x y hx hy st;obtain⟨o',m,ws,D⟩:=g;obtain⟨tx,cx,sx,dx,rfl,ho,aa,ah,ac,af⟩:=hx.mk;obtain⟨ty,cy,sy,dy,rfl,ao,O,ag,ab,ae⟩:=hy.mk;have G:=DS gl sub D IH sx sy dx dy ac ab af ae;refine iI func21 ?_;by_cases hv:o=o'
 ·subst hv;by_cases E:n=m
  ·subst E;simp only[go_sem,zE,zA,dC];refine (yn gl tx ty us ws cx cy aa O ah ag _).q ?_;by_cases hc:us=ws
   ·subst hc;simp only[go_sem,zE,zA,yZ1.2 rfl];refine (G _).q ?_;simp only[go_sem,zE];refine c_ ⟨?_,rfl⟩;by_cases hd:sub=D
    ·subst hd;rw[yZ1.2 rfl,yZ1.2 rfl]
    ·rw[yQq.2 hd,yQq.2 (by rintro⟨⟩;exact hd rfl)]
   ·simp only[go_sem,zE,yQq.2 hc];exact c_ ⟨by rw[yQq.2 (by rintro⟨⟩;exact hc rfl)],rfl⟩
  ·simp only[go_sem,zE,zA,dEf E,dC];exact c_ ⟨by rw[yQq.2 (by rintro⟨⟩;exact E rfl)],rfl⟩
 ·have J:decide ((o:Int)=(o':Int))=false:=dEf (by omega);simp only[go_sem,zE,zA,J];exact c_ ⟨by rw[yQq.2 (by rintro⟨⟩;exact hv rfl)],rfl⟩
def DT:∀(k:Nat)(f:Fm),SizeOf.sizeOf f<k->kSF gl f
 | 0,f,h=>by omega
 | k+1,.mk o n us sub,h=>Mw gl o n us sub (λa D=>DT k a (by
   have:=lSm D;simp only[Fm.mk.sizeOf_spec] at h;omega))
def yo (f:Fm):kSF gl f:=DT gl _ f (eS _)
def DU (us ws:List Fm)(t D:Tag)(xs ys:List IV)(ht:okEs t 4)(E:okEs D 4)(J:IsFms us xs)(G:IsFms ws ys)(st:ISt) :
  ICall prog gl 45 [.sl t xs,.sl D ys] st (λx st'=>x=(eqB us ws:Bool)/\st'=st):=DS gl us ws (λa _=>yo gl a) t D xs ys ht E J G st
def DV (a b:Sq)(x y:IV)(hx:IsSq a x)(hy:IsSq b y)(st:ISt):ICall prog gl 46 [x,y] st (λr st'=>r=(eqB a b:Bool)/\st'=st):=by
 obtain⟨l,r⟩:=a;obtain⟨D,r'⟩:=b;obtain⟨t1,O,t2,J,rfl,h1,h2,h3,h4⟩:=hx;obtain⟨t3,G,t4,E,rfl,h5,h6,h7,h8⟩:=hy;refine iI func46 ?_;simp only[go_sem,zE,zA];refine (DU gl l D t1 t3 O G h1 h5 h2 h6 _).q ?_;by_cases hc:l=D
 ·subst hc;simp only[go_sem,zE,zA,yZ1.2 rfl];refine (DU gl r r' t2 t4 J E h3 h7 h4 h8 _).q ?_;simp only[go_sem,zE];refine c_ ⟨?_,rfl⟩;by_cases hd:r=r'
  ·subst hd;rw[yZ1.2 rfl,yZ1.2 rfl]
  ·rw[yQq.2 hd,yQq.2 (by rintro⟨⟩;exact hd rfl)]
 ·simp only[go_sem,zE,yQq.2 hc];exact c_ ⟨by rw[yQq.2 (by rintro⟨⟩;exact hc rfl)],rfl⟩
def dO (l:List Nat):List IV:=l.map λ(n:Nat)=>(n:Int)
def uJ (l:List Nat):(dO l).length=l.length:=by simp[dO]
def DW {l:List Nat}{k n:Nat}(h:l[k]?=some n):(dO l)[k]?=some (.raw (.int .i64 n)):=by simp[dO,h]
def Mx (t t':Tag)(us ws:List Nat)(ht:okEs t 1)(aa:okEs t' 1)(st:ISt) :
  ICall prog gl 12 [.sl t (dO us),.sl t' (dO ws)] st (λx st'=>x=(eqB us ws:Bool)/\st'=st):=by
 refine iI func12 ?_;simp only[go_sem,zE,reduceCtorEq,uJ];intro ai ah;refine kR (λh=>?_) (λh=>?_)
 ·have J:us≠ws:=by rintro rfl;simp at h
  simp only[go_sem];exact c_ ⟨by rw[yQq.2 J],rfl⟩
 have G:us.length=ws.length:=by simp at h;omega
 refine dt us.length (λk fr st' ds=>us.take k=ws.take k/\fr 0=.iv (.sl t (dO us))/\fr 1=.iv (.sl t' (dO ws))/\fr 5=.iv (.raw (.int .i64 k))/\st'=st/\ds=[]) ?_ ?_ ?_
 ·simp only[go_sem,zE,reduceCtorEq];rfl
 ·rintro k fr st' ds D ⟨hn,h0,h1,h5,rfl,rfl⟩;obtain⟨a,O⟩:=dD D;obtain⟨b,E⟩:=dD (G▸D);have ac:=DW O;have ab:=DW E;by_cases hc:a=b
  ·subst hc;simp only[go_sem,zE,reduceCtorEq,h0,h1,h5,uJ,lt_i D,dL D (by omega),dB ht,dB aa,iNn,ac,ab,fits,dC];intro _;rw[dM O,dM E,hn]
  ·have J:us≠ws:=by
    rintro rfl;rw[O] at E;exact hc (eC E)
   have hd:decide ((a:Int)=(b:Int))=false:=dEf (by omega);simp only[go_sem,zE,reduceCtorEq,h0,h1,h5,uJ,lt_i D,dB ht,dB aa,iNn,ac,ab,fits,hd];intro _;exact c_ ⟨by rw[yQq.2 J],rfl⟩
 ·rintro fr st' ds ⟨hn,h0,h1,h5,rfl,rfl⟩;simp only[go_sem,zE,reduceCtorEq,h0,h5,uJ,dS (nLi _)];intro _;have he:us=ws:=by rw[lTl] at hn;rw[hn,G,lTl]
  exact c_ ⟨by rw[yZ1.2 he],rfl⟩
def iK {f:Fm}{r:IV}(h:IsFmD f r):∃o n t x D E,r=.agg [.raw (.int .u8 o),.raw (.string n),.sl t x,.sl D E]:=by
 obtain⟨o,n,us,sub⟩:=f;obtain⟨t,xs,D,ys,rfl,_⟩:=h.mk;exact⟨_,_,_,_,_,_,rfl⟩
def sCT (us:List Tm):Prop:=∀(E:Tag) (xs:List IV) (_:okEs E 3) (_:IsTms us xs) (_:el us<=1099511627776) (st:ISt),
 ICall prog gl 101 [.sl E xs,.fn (.func 102) [] []] st (λr st'=>∃D ys,r=.sl D ys/\okEs D 3/\appT us.length D/\IsTmsD us ys/\st'=st)
def My (v:Bool)(n:ByteArray)(us:List Tm)(IH:sCT gl us)(x:IV)(hx:IsTm (.mk v n us) x)(hs:(Tm.mk v n us).size<=1099511627776)(st:ISt) :
  ICall prog gl 102 [x] st (λr st'=>IsTmD (.mk v n us) r/\st'=st):=by
 obtain⟨J,cx,rfl,E,G⟩:=hx.mk;simp only[Tm.size] at hs;have D:=IH J cx E G (by omega) st;refine iI func102 ?_;simp only[go_sem,zE,zA];refine D.mono ?_;rintro _ _ ⟨O,ys,rfl,he,ha,hys,rfl⟩;simp only[go_sem,zE,zA,zL,fits];exact c_ ⟨IsTmD.intro he ha hys,rfl⟩
def Mz (us:List Tm)(IH:∀v n l,Tm.mk v n l∈us->sCT gl l):sCT gl us:=by
 intro tg xs al O ay st;have aq:=oJ us;refine iI func101 ?_;simp only[go_sem,reduceCtorEq,O.len];intro _;refine kR (λh=>?_) (λh=>?_)
 ·obtain rfl:us=[]:=ev (by simpa using h);simp only[go_sem];exact c_ ⟨_,_,rfl,.inl rfl,.inl rfl,IsTmsD.nil,rfl⟩
 have J:0<us.length:=Nat.pos_of_ne_zero λh0=>by simp[h0] at h
 simp only[go_sem,reduceCtorEq,O.len];intro _;refine fO ⟨iNn _,by omega,by omega⟩ λg=>d_ λhg=>?_;intro _;refine dt us.length (λk fr st' ds=>(∃D ys,fr 5=.iv (.sl D ys)/\IsTmsD (us.take k) ys/\appT us.length D/\own st' D k 3 st/\subSt st st')/\fr 1=.iv (.fn (.func 102) [] []) /\
  fr 14=.iv (.sl tg xs)/\fr 15=us.length/\fr 16=.iv (.raw (.int .i64 k))/\ds=[]) ?_ ?_ ?_
 ·simp only[go_sem,zE];exact⟨⟨_,_,rfl,IsTmsD.nil,.inr ⟨J,rfl,g,rfl⟩,.inr (.inr ⟨g,rfl,b_ _ _ _,hg⟩),eG (subSt.refl _) hg⟩,rfl⟩
 ·rintro k fr ag _ ac ⟨⟨D,ys,f5,hys,ai,G,E⟩,f1,f14,f15,f16,rfl⟩;obtain⟨a,ha⟩:=dD ac;obtain⟨x,am,hx⟩:=O.get ha;obtain⟨h1,h2⟩:=mP ha;have ae:ys.length=k:=by rw[hys.len,dU];omega
  obtain⟨v2,n2,m⟩:=a;have af:=My gl v2 n2 m (IH _ _ _ (lMg ha)) x hx (by omega) ag;obtain⟨tx,cx,rfl,ax,aA⟩:=hx.mk;simp only[go_sem,zE,zB,zA,zL,f1,f5,f14,f15,f16,lt_i ac,dB al,iNn,am,fits];refine af.mono ?_;rintro r _ ⟨hr,rfl⟩;have hn:IsTmsD (us.take (k+1)) (ys++[r]):=by
   rw[dM ha];exact hys.append (IsTmsD.one hr)
  obtain⟨t3,x3,rfl,_⟩:=IsTmD.mk hr;simp only[go_sem,zE,zA,zM,zL,fits,eh];refine mX G ae E rfl (by simp[fits,IV.one]) (by simp only;omega) (by omega) λak st4 ab aa _ ah=>?_;simp only[go_sem,zE,f1,f14,f15,f16,dL ac (by omega)];exact⟨ak,_,rfl,hn,ah.pos J,ab,aa⟩
 ·rintro fr ag _ ⟨⟨D,ys,f5,hys,ai,G,E⟩,f1,f14,f15,f16,rfl⟩;rw[lTl] at hys;simp only[go_sem,zE,f5,f15,f16,dS (nLi _)];exact eI (st':=st) E ⟨D,ys,rfl,G.es,ai,hys,rfl⟩
def DX:∀(k:Nat)(us:List Tm),SizeOf.sizeOf us<k->sCT gl us
 | 0,f,h=>by omega
 | k+1,us,h=>Mz gl us (λv n l D=>DX k l (by
   have:=lSm D;simp at this;omega))
def MA (us:List Tm):sCT gl us:=DX gl _ us (eS _)
def sCF (f:Fm):Prop:=∀(x:IV) (_:IsFm f x) (_:f.size<=1099511627776) (st:ISt),ICall prog gl 78 [x] st (λr st'=>IsFmD f r/\st'=st)
def MB (us:List Fm)(IH:∀a∈us,sCF gl a)(tg:Tag)(xs:List IV)(am:okEs tg 4)(O:IsFms us xs)(aw:dV us<=1099511627776)(st:ISt) :
  ICall prog gl 103 [.sl tg xs,.fn (.func 78) [] []] st (λr st'=>∃D ys,r=.sl D ys/\okEs D 4/\appT us.length D/\IsFmsD us ys/\st'=st):=by
 have au:=mS us;refine iI func103 ?_;simp only[go_sem,reduceCtorEq,O.len];intro _;refine kR (λh=>?_) (λh=>?_)
 ·obtain rfl:us=[]:=ev (by simpa using h);simp only[go_sem];exact c_ ⟨_,_,rfl,.inl rfl,.inl rfl,IsFmsD.nil,rfl⟩
 have J:0<us.length:=Nat.pos_of_ne_zero λh0=>by simp[h0] at h
 simp only[go_sem,reduceCtorEq,O.len];intro _;refine fO ⟨iNn _,by omega,by omega⟩ λg=>d_ λhg=>?_;intro _;refine dt us.length (λk fr st' ds=>(∃D ys,fr 5=.iv (.sl D ys)/\IsFmsD (us.take k) ys/\appT us.length D/\own st' D k 4 st/\subSt st st')/\fr 1=.iv (.fn (.func 78) [] []) /\
  fr 14=.iv (.sl tg xs)/\fr 15=us.length/\fr 16=.iv (.raw (.int .i64 k))/\ds=[]) ?_ ?_ ?_
 ·simp only[go_sem,zE];exact⟨⟨_,_,rfl,IsFmsD.nil,.inr ⟨J,rfl,g,rfl⟩,.inr (.inr ⟨g,rfl,b_ _ _ _,hg⟩),eG (subSt.refl _) hg⟩,rfl⟩
 ·rintro k fr ag _ ac ⟨⟨D,ys,f5,hys,ai,G,E⟩,f1,f14,f15,f16,rfl⟩;obtain⟨a,ha⟩:=dD ac;obtain⟨x,an,hx⟩:=O.get ha;obtain⟨h1,h2⟩:=j8 ha;have ae:ys.length=k:=by rw[hys.len,dU];omega
  have af:=IH a (lMg ha) x hx (by omega) ag;obtain⟨o5,n5,t5,x5,t6,x6,rfl⟩:=hx.agg;simp only[go_sem,zE,zB,zA,zL,f1,f5,f14,f15,f16,lt_i ac,dB am,iNn,an,fits];refine af.mono ?_;rintro r _ ⟨hr,rfl⟩;have hn:IsFmsD (us.take (k+1)) (ys++[r]):=by
   rw[dM ha];exact hys.append (IsFmsD.one hr)
  obtain⟨o7,n7,t7,x7,t8,x8,rfl⟩:=iK hr;simp only[go_sem,zE,zA,zM,zL,fits,eh];refine mX G ae E rfl (by simp[fits,IV.one]) (by simp only;omega) (by omega) λak st4 ab aa _ ah=>?_;simp only[go_sem,zE,f1,f14,f15,f16,dL ac (by omega)];exact⟨ak,_,rfl,hn,ah.pos J,ab,aa⟩
 ·rintro fr ag _ ⟨⟨D,ys,f5,hys,ai,G,E⟩,f1,f14,f15,f16,rfl⟩;rw[lTl] at hys;simp only[go_sem,zE,f5,f15,f16,dS (nLi _)];exact eI (st':=st) E ⟨D,ys,rfl,G.es,ai,hys,rfl⟩
def MC (o:Nat)(n:ByteArray)(us:List Tm)(sub:List Fm)(IH:∀a∈sub,sCF gl a):sCF gl (.mk o n us sub):=by
 intro x hx hs st;obtain⟨t1,x1,t2,x2,rfl,ho,O,G,J,E⟩:=hx.mk;simp only[Fm.size] at hs;have ac:=MA gl us t1 x1 O G (by omega) st;have ab:=MB gl sub IH t2 x2 J E (by omega) st;refine ICall.intro (c:=cf prog gl [] [(1,[0,1,2,3,4,5,7,8,6,9,10,11])]) func78 rfl (by show _<=14;simp) (by kernel_rfl) ?_;simp only[go_sem,zE,zA];refine ac.mono ?_;rintro _ _ ⟨aj,ys,rfl,he,ha,hys,rfl⟩;simp only[go_sem,zE,zA];refine ab.mono ?_;rintro _ _ ⟨ai,af,rfl,aa,ae,D,rfl⟩;simp only[go_sem,zE,zA,zL,fits];exact c_ ⟨IsFmD.intro ho he ha hys aa ae D,rfl⟩
def DY:∀(k:Nat)(f:Fm),SizeOf.sizeOf f<k->sCF gl f
 | 0,f,h=>by omega
 | k+1,.mk o n us sub,h=>MC gl o n us sub (λa D=>DY k a (by
   have:=lSm D;simp only[Fm.mk.sizeOf_spec] at h;omega))
def mZ (f:Fm):sCF gl f:=DY gl _ f (eS _)
def MD (us:List Fm)(tg:Tag)(xs:List IV)(ak:okEs tg 4)(af:IsFms us xs)(au:dV us<=1099511627776)(st:ISt) :
  ICall prog gl 152 [.sl tg xs] st (λr st'=>∃D ys,r=.sl D ys/\okEs D 4/\(appT us.length D/\D.fresh=true)/\IsFmsD us ys/\own st' D us.length 4 st/\subSt st st'):=by
 have aq:=mS us;refine iI func152 ?_;simp only[go_sem,reduceCtorEq,af.len];intro _;refine dt us.length (λk fr st' ds=>(∃D ys,fr 3=.iv (.sl D ys)/\IsFmsD (us.take k) ys/\(appT k D/\D.fresh=true)/\own st' D k 4 st/\subSt st st') /\
  fr 6=.iv (.sl tg xs)/\fr 7=us.length/\fr 8=.iv (.raw (.int .i64 k))/\ds=[]) ?_ ?_ ?_
 ·simp only[go_sem,zE];exact⟨⟨_,_,rfl,IsFmsD.nil,⟨.inl rfl,rfl⟩,own.nil _ _ _ _ _,subSt.refl _⟩,rfl⟩
 ·rintro k fr ae _ aa ⟨⟨D,ys,f3,hys,ah,E,G⟩,f6,f7,f8,rfl⟩;obtain⟨a,ha⟩:=dD aa;obtain⟨x,al,hx⟩:=af.get ha;obtain⟨h1,h2⟩:=j8 ha;have ab:ys.length=k:=by rw[hys.len,dU];omega
  have ac:=mZ gl a x hx (by omega) ae;obtain⟨o5,n5,t5,x5,t6,x6,rfl⟩:=hx.agg;simp only[go_sem,zE,zB,zA,zL,f3,f6,f7,f8,lt_i aa,dB ak,iNn,al,fits];refine ac.mono ?_;rintro r _ ⟨hr,rfl⟩;have hn:IsFmsD (us.take (k+1)) (ys++[r]):=by
   rw[dM ha];exact hys.append (IsFmsD.one hr)
  obtain⟨o7,n7,t7,x7,t8,x8,rfl⟩:=iK hr;simp only[go_sem,zE,zA,zM,zL,fits,eh];refine mX E ab G rfl (by simp[fits,IV.one]) (by simp only;omega) (by omega) λai st4 J O _ ag=>?_;simp only[go_sem,zE,f6,f7,f8,dL aa (by omega)];exact⟨ai,_,rfl,hn,⟨ag,by
   rcases J with⟨h0,_⟩|rfl|⟨_,rfl,_⟩
   ·omega
   ·rfl
   ·rfl⟩,J,O⟩
 ·rintro fr ae _ ⟨⟨D,ys,f3,hys,ah,E,G⟩,f6,f7,f8,rfl⟩;rw[lTl] at hys;simp only[go_sem,zE,f3,f7,f8,dS (nLi _)];exact c_ ⟨D,ys,rfl,E.es,ah,hys,E,G⟩
end Go.Proofs.Tryz
namespace Go.Proofs.Tryz
open Go Go.Iv
mutual
def opsB (ca:Nat):Fm->Bool
 | .mk op _ us sub=>decide (1<=op)&&decide (op<=if ca=3 then 9 else 7)&&(decide (ca=3) || us.isEmpty)&&iw ca sub
def iw (ca:Nat):List Fm->Bool
 | []=>true
 | a::l=>opsB ca a&&iw ca l
end
def fmB (ca:Nat)(f:Fm):Bool:=f.right&&opsB ca f
def gR (ca:Nat):Bool:=decide (1<=ca)&&decide (ca<=3)
noncomputable def eqF (a b:Fm):Bool:=decide (a.op=b.op)&&mn a b
noncomputable def hasF (l:List Fm)(f:Fm):Bool:=l.any (eqF f)
noncomputable def allF (l m:List Fm):Bool:=l.all (hasF m)
noncomputable def m_ (a b:Sq):Bool:=allF a.l b.l&&allF a.r b.r
noncomputable def p_:List Fm->Bool
 | []=>true
 | a::l=>(a::l).all λf=>eqF f a
noncomputable def en (ca:Nat)(s:Sq):Bool :=
 gR ca&&decide (s.l.length<=64)&&decide (s.r.length<=64)&&s.l.all (fmB ca)&&s.r.all (fmB ca)&&(decide (ca≠2) || p_ s.r)
structure Rw where
 left:Bool
 right:Bool
 op:Nat
 asks:Nat
def rowK (rule:Nat):Option Rw :=
 if rule=1 then some ⟨true,true,0,0⟩ else if rule=2 then some ⟨true,false,2,0⟩ else if rule=3 then some ⟨true,false,3,0⟩ else if rule=4 then some ⟨false,true,3,0⟩
 else if rule=5 then some ⟨true,false,4,0⟩ else if rule=6 then some ⟨false,true,4,0⟩ else if rule=7 then some ⟨true,false,5,0⟩ else if rule=8 then some ⟨false,true,5,0⟩
 else if rule=9 then some ⟨true,false,6,0⟩ else if rule=10 then some ⟨false,true,6,0⟩ else if rule=11 then some ⟨true,false,7,0⟩ else if rule=12 then some ⟨false,true,7,0⟩
 else if rule=17 then some ⟨false,false,0,0⟩ else none
def rowS (ca rule:Nat):Option Rw :=
 if ca=2/\rule=18 then some ⟨false,true,5,0⟩
 else if ca=3/\rule=13 then some ⟨true,false,8,1⟩ else if ca=3/\rule=14 then some ⟨false,true,8,2⟩
 else if ca=3/\rule=15 then some ⟨true,false,9,2⟩ else if ca=3/\rule=16 then some ⟨false,true,9,1⟩ else rowK rule
def bE:ByteArray:=⟨#[]⟩
def impF (a b:Fm):Fm:=.mk 6 bE [] [a,b]
def addS (ca rule:Nat)(D a b:Fm):List Sq :=
 if rule=3 then [⟨[],[a]⟩] else if rule=4 then [⟨[a],[]⟩] else if rule=5 then [⟨[a,b],[]⟩] else if rule=6 then [⟨[],[a]⟩,⟨[],[b]⟩]
 else if rule=7 then [⟨[a],[]⟩,⟨[b],[]⟩] else if rule=8 then (if ca=2 then [⟨[],[a]⟩] else [⟨[],[a,b]⟩]) else if rule=9 then [⟨[],[a]⟩,⟨[b],[]⟩]
 else if rule=10 then [⟨[a],[b]⟩] else if rule=11 then [⟨[impF a b,impF b a],[]⟩] else if rule=12 then [⟨[a],[b]⟩,⟨[b],[a]⟩]
 else if rule=13 then [⟨[a],[]⟩] else if rule=14 then [⟨[],[a]⟩] else if rule=15 then [⟨[a],[]⟩] else if rule=16 then [⟨[],[a]⟩]
 else if rule=17 then [⟨[],[D]⟩,⟨[D],[]⟩] else if rule=18 then [⟨[],[b]⟩] else []
noncomputable def fQ (ca rule:Nat)(r:Rw)(D:Fm)(term:Tm)(name:ByteArray):List Sq×Nat :=
 if !fmB ca D || (decide (r.op≠0)&&decide (D.op≠r.op)) then ([],192)
 else
  let a:=(D.subs[0]?).getD fm0
  let b:=(D.subs[1]?).getD fm0
  if r.asks=0 then (addS ca rule D a b,0)
  else
   let t:=if r.asks=2 then .mk true name [] else term
   if !t.ok then ([],193)
   else if (il a [(D.nm,t)]).2≠0 then ([],193) else (addS ca rule D (il a [(D.nm,t)]).1 b,0)
noncomputable def mq (s:Sq)(n:ByteArray):Bool:=s.l.any (λf=>memB (frF f) n) || s.r.any (λf=>memB (frF f) n)
noncomputable def fU (ca:Nat)(s:Sq)(rule:Nat)(D:Fm)(term:Tm)(name:ByteArray):List Sq×Nat :=
 if !en ca s then ([],190)
 else match rowS ca rule with
  | none=>([],191)
  | some r =>
   if decide ((fQ ca rule r D term name).2=192) || (r.left&&!hasF s.l D) || (r.right&&!hasF s.r D) then ([],192)
   else if (fQ ca rule r D term name).2≠0 then ([],(fQ ca rule r D term name).2)
   else if decide (r.asks=2)&&mq s name then ([],193)
   else ((fQ ca rule r D term name).1,0)
noncomputable def gT (s:Sq):List Sq->List Tr->Bool
 | m::l,t::ts=>m_ t.sq (s.plus m)&&gT s l ts
 | _,_=>true
noncomputable def fF (ca:Nat):Tr->Nat
 | .mk rule s D term name sub =>
  if (fU ca s rule D term name).2≠0 then (fU ca s rule D term name).2
  else if sub.length≠(fU ca s rule D term name).1.length then 194
  else if gT s (fU ca s rule D term name).1 sub then 0 else 195
noncomputable def gj (ca:Nat)(t:Tr):List Nat×Nat :=
 if !gR ca then ([],2) else if 300<t.steps then ([],5) else fz (fF ca) (t.walk [])
mutual
def DZ (p q:List Nat):∀t:Tr,t.walk (p++q)=(t.walk q).map λx=>(p++x.1,x.2)
 | .mk _ _ _ _ _ sub=>by simp only[Tr.walk,ec,D1 p q 0 sub]
def D1 (p q:List Nat):∀(i:Nat) (l:List Tr),eO (p++q) i l=(eO q i l).map λx=>(p++x.1,x.2)
 | _,[]=>rfl
 | i,a::l=>by
  simp only[eO,eQ,D1 p q (i+1) l];rw[et,DZ p (q++[i]) a]
end
end Go.Proofs.Tryz
namespace Go.Iv
open Go
section
variable {P:Program}{gl:Nat->Option IV}{f:FuncId}{args args':List IV}{st:ISt}
def yp {X X':WS}{g:Nat}{o:IObj}(h:Ext X X')(h0:X.st g=none)(h1:X'.st g=some o):X.w.heap.size<=g:=by
 by_cases D:g<X.w.heap.size
 ·have:=h.dom g D h0;grind
 ·omega
def uK {X':WS}{S:ISt}{g:Nat}{cs:List IV}(h0:S g=none)(D:X'.st=S.put g (some (.box cs))):LendOk X'.st (ISt.put (λ_=>none) g (some (.box cs))) S:=by
 refine⟨λb o E=>?_,λb o E=>?_,λb cs' E=>?_⟩
 ·rw[ISt.put_apply] at E;split at E
  ·rename_i G;subst G;cases E;rw[D];exact b_ ..
  ·cases E
 ·rw[D,ISt.put_apply];grind
 ·rw[ISt.put_apply] at E;grind
def yq {C:Cx}{X':WS}{S:ISt}{g cap es:Nat}{cs zs:List IV}(h2:Good C X')(h0:S g=none)(D:X'.st=S.put g (some (.box cs)))(hB:C.B<=g)(hn:zs.length<=140737488355328)(E:zs.length<=cap)(G:cap*es<=cs.length)
  (ab:cs.take (zs.length*es)=zs.flatMap IV.cells) (J:∀z∈zs,z.cells.length=es):C.v (X'.lendS (ISt.put (λ_=>none) g (some (.box cs))) S) (.slice (some ⟨g,0,none⟩) zs.length cap) (.sl ⟨true,.app g,es⟩ zs):=by
 have af:X'.st g=some (.box cs):=by rw[D];exact b_ ..
 have ai:=h2.lendS_ext (uK h0 D);have ac:(ISt.put (λ_=>none) g (some (.box cs))) g=some (.box cs):=b_ ..;obtain⟨ao,c,T,hh,O⟩:=h2.ok g _ af;have an:c.toList.length=cs.length:=O.1;have ah:(zs.flatMap IV.cells).length=zs.length*es:=gS zs J;have al:zs.length*es<=cs.length:=dN (fE _ E) G;refine V.sl (some ⟨g,0,none⟩) cap ⟨true,.app g,es⟩ zs T (c.toList.take (zs.length*es)) rfl hn E J ?_ (λg' ag=>?_) (λ_ ad aj=>?_) (λ_=>⟨_,rfl,rfl,?_,λi r hr=>?_⟩) λi r z hr J=>?_
 ·grind
 ·cases ag;refine⟨T,c.size,?_,?_⟩
  ·simp[shq,WS.lendS,hh]
  ·grind
 ·cases aj;refine⟨hB,by simp,?_⟩;simp[ety,shq,WS.lendS,hh]
 ·show 0+(c.toList.take (zs.length*es)).length<=(X'.lendS _ S).L g;rw[xj ac,dU];omega
 ·show X'.w.cell? _=_;rw[dY,jx hh];grind
 ·rw[<- ab,gd] at J;rw[gd] at hr;split at hr
  ·rename_i hi;rw[cX hi] at J;exact ai.v (O.2 i r z hr J)
  ·cases hr
def rU {K:IV->ISt->Prop}(h:ICall P gl f args st (λy st'=>K y st'\/∃g n cap cs es zs v,st g=none/\y=.tup [.raw (.slice (some ⟨g,0,none⟩) n cap),.raw v]/\st'=st.put g (some (.box cs)) /\
   zs.length=n/\n<=140737488355328/\n<=cap/\cap*es<=cs.length/\cs.take (n*es)=zs.flatMap IV.cells/\(∀z∈zs,z.cells.length=es)/\K (.tup [.sl ⟨true,.app g,es⟩ zs,.raw v]) st)) :
  ICall P gl f args st K:=by
 intro B X rs hg hst hv;subst hst;refine (h B X rs hg rfl hv).mono ?_;rintro e w' ⟨v,rfl,X',y,rfl,h2,h3,h4,hK|⟨g,n,cap,cs,es,zs,u,h0,rfl,D,rfl,hn,J,G,O,hz,hK⟩⟩
 ·exact⟨v,rfl,X',y,rfl,h2,h3,h4,hK⟩
 have ac:=yp h3 h0 (by rw[D];exact b_ ..);have hk:=uK h0 D;refine⟨v,rfl,X'.lendS _ X.st,_,rfl,h2.lendS hk,h3.trans (h2.lendS_ext hk),?_,hK⟩;obtain⟨rr,rfl,hr⟩:=ou h4;refine .tup rr _ (by rw[hr.1];rfl) λi r x h1 E=>?_
 match i,h1,E with
 | 1,h1,E =>
  cases E;exact (h2.lendS_ext hk).v (hr.2 1 r _ h1 rfl)
 | 0,h1,E =>
  cases E;obtain rfl:=dK (hr.2 0 r _ h1 rfl);exact yq h2 h0 D (dN hg.B ac) hn J G O hz
def fq {K:IV->ISt->Prop}(h:ICall P gl f args st (λy st'=>K y st'\/∃g es zs,st g=none/\y=.raw (.slice (some ⟨g,0,none⟩) zs.length zs.length)/\st'=st.put g (some (.box (zs.flatMap IV.cells))) /\
   zs.length<=140737488355328/\(∀z∈zs,z.cells.length=es)/\K (.sl ⟨true,.app g,es⟩ zs) st)):ICall P gl f args st K:=by
 intro B X rs hg hst hv;subst hst;refine (h B X rs hg rfl hv).mono ?_;rintro e w' ⟨v,rfl,X',y,rfl,h2,J,h4,hK|⟨g,es,zs,h0,rfl,D,hn,O,hK⟩⟩
 ·exact⟨v,rfl,X',y,rfl,h2,J,h4,hK⟩
 have G:=yp J h0 (by rw[D];exact b_ ..);have hk:=uK h0 D;have E:=gS zs O;obtain rfl:=dK h4;exact⟨_,rfl,X'.lendS _ X.st,_,rfl,h2.lendS hk,J.trans (h2.lendS_ext hk),yq h2 h0 D (dN hg.B G) hn (dG _) (by rw[E];exact dG _) (by rw[<- E,lTl]) O,hK⟩
end
def rV {P:Program}{gl:Nat->Option IV}{f:FuncId}{args:List IV}{st:ISt}{K:IV->ISt->Prop}(h:ICall P gl f args st (λr st'=>∃D,subSt D st'/\K r D)):ICall P gl f args st K:=by
 intro B X rs J hst hv;refine (h B X rs J hst hv).mono ?_;rintro e w' ⟨v,rfl,X',x,rfl,h2,h3,O,D,hs,hK⟩;obtain⟨G,E⟩:=h2.sub hs;exact⟨v,rfl,{ X' with st:=D },x,rfl,G,h3.trans E,E.v O,hK⟩
end Go.Iv
namespace Go.Proofs.Tryz
open Go Go.Iv
set_option maxRecDepth 4000
variable (gl:Nat->Option IV)
def nR (us:List Fm)(G:Tag)(xs:List IV)(O:okEs G 4)(J:IsFms us xs)(aa:dV us<=1099511627776)(st:ISt) :
  ICall prog gl 152 [.sl G xs] st (λr st'=>∃D ys,r=.sl D ys/\okEs D 4/\appT us.length D/\IsFmsD us ys/\st'=st) :=
 rV ((MD gl us G xs O J aa st).mono λr st' h=>by
  obtain⟨D,ys,rfl,he,ha,hys,_,E⟩:=h;exact⟨st,E,D,ys,rfl,he,ha.1,hys,rfl⟩)
def IsSqD (s:Sq)(x:IV):Prop:=∃t1 E t2 D,x=.agg [.sl t1 E,.sl t2 D]/\okEs t1 4/\appT s.l.length t1/\IsFmsD s.l E/\okEs t2 4/\appT s.r.length t2/\IsFmsD s.r D
def IsSqD.w {s:Sq}{x:IV}(h:IsSqD s x):IsSq s x:=by
 obtain⟨t1,J,t2,G,rfl,E,_,i1,D,_,i2⟩:=h;exact⟨_,_,_,_,rfl,E,i1.1,D,i2.1⟩
def IsSqsD:List Sq->List IV->Prop
 | [],xs=>xs=[]
 | a::l,xs=>∃y ys,xs=y::ys/\IsSqD a y/\IsSqsD l ys
def IsSqsD.w:∀ {l:List Sq}{xs:List IV},IsSqsD l xs->IsSqs l xs
 | [],_,h=>h
 | a::l,_,⟨y,ys,h1,h2,D⟩=>⟨y,ys,h1,h2.w,D.w⟩
def IsSqsD.mem:∀ {l:List Sq}{xs:List IV},IsSqsD l xs->∀ {k:Nat}{x:IV},xs[k]?=some x->∃s,l[k]?=some s/\IsSqD s x
 | [],_,rfl,k,x,h=>by simp at h
 | a::l,_,⟨y,ys,rfl,h2,D⟩,0,x,h=>by cases h;exact⟨a,rfl,h2⟩
 | a::l,_,⟨y,ys,rfl,h2,D⟩,k+1,x,h=>IsSqsD.mem D (by simpa using h)
def IsSqD.one {s:Sq}{x:IV}(h:IsSqD s x):x.cells.length=2/\∀c∈x.cells,c.one=true:=by
 obtain⟨t1,E,t2,D,rfl,_⟩:=h;refine⟨rfl,λc hc=>?_⟩;simp only[IV.cells,dF,fJ,eU] at hc;rcases hc with rfl|rfl<;>rfl
def jT {l:List Sq}{xs:List IV}(h:IsSqsD l xs):∀z∈xs,z.cells.length=2:=λz D=>by
 obtain⟨k,E⟩:=lD.1 D;obtain⟨s,_,hs⟩:=h.mem E;exact hs.one.1
def IsSq.two {s:Sq}{x:IV}(h:IsSq s x):∃t xs D ys,x=.agg [.sl t xs,.sl D ys]:=by
 obtain⟨t,xs,D,ys,rfl,_⟩:=h;exact⟨_,_,_,_,rfl⟩
def nS (us:List Fm)(D:Tag)(xs:List IV)(G:okEs D 4)(E:IsFms us xs)(J:dV us<=1099511627776)(st:ISt) :
  ICall prog gl 116 [.sl D xs] st (λr st'=>IsSqD ⟨us,[]⟩ r/\st'=st):=by
 refine iI func116 ?_;simp only[go_sem,zA,reduceCtorEq];refine (nR gl us D xs G E J _).mono ?_;rintro _ _ ⟨O,ys,rfl,he,ha,hys,rfl⟩;simp only[go_sem,zE,zA,zL,fits];exact c_ ⟨⟨_,_,_,_,rfl,he,ha,hys,.inl rfl,.inl rfl,IsFmsD.nil⟩,rfl⟩
def nc (us:List Fm)(D:Tag)(xs:List IV)(G:okEs D 4)(E:IsFms us xs)(J:dV us<=1099511627776)(st:ISt) :
  ICall prog gl 113 [.sl D xs] st (λr st'=>IsSqD ⟨[],us⟩ r/\st'=st):=by
 refine iI func113 ?_;simp only[go_sem,zA,reduceCtorEq];refine (nR gl us D xs G E J _).mono ?_;rintro _ _ ⟨O,ys,rfl,he,ha,hys,rfl⟩;simp only[go_sem,zE,zA,zL,fits];exact c_ ⟨⟨_,_,_,_,rfl,.inl rfl,.inl rfl,IsFmsD.nil,he,ha,hys⟩,rfl⟩
def kV (x y:Operand):la 2 [(0,x),(1,y)]=true:=rfl
def D2 (a b:Fm)(x y:IV)(E:IsFm a x)(D:IsFm b y)(st:ISt):ICall prog gl 154 [x,y] st (λr st'=>IsFm (impF a b) r/\st'=st):=by
 have h1:IsFms [a,b] [x,y]:=⟨_,_,rfl,E,_,_,rfl,D,rfl⟩
 obtain⟨o5,n5,t5,x5,t6,O,rfl⟩:=E.agg;obtain⟨o7,n7,t7,J,t8,G,rfl⟩:=D.agg;refine iI func154 ?_;simp only[go_sem,zE,zA,zM,zL,fits,kV];exact c_ ⟨⟨_,_,_,_,rfl,by decide,.inl rfl,rfl,.inr rfl,h1⟩,rfl⟩
def AddOk (id:Nat)(F:Fm->Fm->Fm->List Sq):Prop:=∀(m a b:Fm) (x y z:IV) (_:IsFm m x) (_:IsFm a y) (_:IsFm b z) (_:m.size<=1000000) (_:a.size<=1000000) (_:b.size<=1000000) (st:ISt),
 ICall prog gl id [x,y,z] st (λr st'=>∃D xs,r=.sl D xs/\okEs D 2/\appT (F m a b).length D/\IsSqsD (F m a b) xs/\st'=st)
def sq1 {s:Sq}{x:IV}(h:IsSqD s x):IsSqsD [s] [x]:=⟨_,_,rfl,h,rfl⟩
def sq2 {s s':Sq}{x D:IV}(h:IsSqD s x)(E:IsSqD s' D):IsSqsD [s,s'] [x,D]:=⟨_,_,rfl,h,_,_,rfl,E,rfl⟩
def AddOk.of {id:Nat}{F:Fm->Fm->Fm->List Sq}(h:∀ {o1 o2 O:Nat}{n1 n2 n3:ByteArray}{t1 u1 t2 u2 t3 u3:Tag}{x1 y1 J y2 G y3:List IV}(m a b:Fm)(_:IsFm m (.agg [.raw (.int .u8 o1),n1,.sl t1 x1,.sl u1 y1]))(_:IsFm a (.agg [.raw (.int .u8 o2),n2,.sl t2 J,.sl u2 y2]))(_:IsFm b (.agg [.raw (.int .u8 O),n3,.sl t3 G,.sl u3 y3]))(_:m.size<=1000000)(_:a.size<=1000000)(_:b.size<=1000000)
  (_:IsFms [a] [.agg [.raw (.int .u8 o2),n2,.sl t2 J,.sl u2 y2]]) (_:IsFms [b] [.agg [.raw (.int .u8 O),n3,.sl t3 G,.sl u3 y3]]) (_:IsFms [m] [.agg [.raw (.int .u8 o1),n1,.sl t1 x1,.sl u1 y1]]) (_:IsFms [a,b] [.agg [.raw (.int .u8 o2),n2,.sl t2 J,.sl u2 y2],.agg [.raw (.int .u8 O),n3,.sl t3 G,.sl u3 y3]]) (st:ISt),
  ICall prog gl id [.agg [.raw (.int .u8 o1),n1,.sl t1 x1,.sl u1 y1],.agg [.raw (.int .u8 o2),n2,.sl t2 J,.sl u2 y2],.agg [.raw (.int .u8 O),n3,.sl t3 G,.sl u3 y3]] st (λr st'=>∃tg xs,r=.sl tg xs/\okEs tg 2/\appT (F m a b).length tg/\IsSqsD (F m a b) xs/\st'=st)):AddOk gl id F:=by
 intro m a b x y z hx hy hz hm ha hb st;have ab:=hx;have E:=hy;have D:=hz;obtain⟨o1,n1,t1,x1,t2,J,rfl⟩:=hx.agg;obtain⟨O,n3,t3,G,t4,x4,rfl⟩:=hy.agg;obtain⟨o5,n5,t5,x5,t6,x6,rfl⟩:=hz.agg;exact h m a b ab E D hm ha hb (IsFms.one E) (IsFms.one D) (IsFms.one ab) ⟨_,_,rfl,E,IsFms.one D⟩ st
def yr:AddOk gl 142 (λ_ _ _=>[]):=by
 refine AddOk.of gl λm a b J G E hm ha hb ia ib O D st=>?_;refine iI func142 ?_;simp only[go_sem,zE];exact c_ ⟨_,_,rfl,.inl rfl,.inl rfl,rfl,rfl⟩
def yv:AddOk gl 143 (λ_ _ _=>[]):=by
 refine AddOk.of gl λm a b J G E hm ha hb ia ib O D st=>?_;refine iI func143 ?_;simp only[go_sem,zE];exact c_ ⟨_,_,rfl,.inl rfl,.inl rfl,rfl,rfl⟩
def yw:AddOk gl 144 (λm a b=>[⟨[],[a]⟩]):=by
 refine AddOk.of gl λm a b aa O J hm ha hb G ib im E st=>?_;refine fq ?_;refine ICall.intro (c:=cf prog gl [10] []) func144 rfl (by show _<=11;simp) (by kernel_rfl) ?_;simp only[go_sem,zE,zA,zM,zL,fits,eh];refine (nc gl _ _ _ (.inr rfl) G (by simp only[dV];omega) _).mono ?_;rintro r _ ⟨D,rfl⟩;have h1:=sq1 D;obtain⟨_,_,_,_,rfl⟩:=IsSq.two D.w;simp only[go_sem,zA,zM,zL,fits,eh];refine λg=>d_ λhg=>?_;exact c_ (.inr ⟨g,2,_,hg,rfl,rfl,by simp,jT h1,_,_,rfl,.inr rfl,.inr ⟨by simp,rfl,g,rfl⟩,h1⟩)
def yx:AddOk gl 145 (λm a b=>[⟨[a],[]⟩]):=by
 refine AddOk.of gl λm a b aa O J hm ha hb G ib im E st=>?_;refine fq ?_;refine ICall.intro (c:=cf prog gl [10] []) func145 rfl (by show _<=11;simp) (by kernel_rfl) ?_;simp only[go_sem,zE,zA,zM,zL,fits,eh];refine (nS gl _ _ _ (.inr rfl) G (by simp only[dV];omega) _).mono ?_;rintro r _ ⟨D,rfl⟩;have h1:=sq1 D;obtain⟨_,_,_,_,rfl⟩:=IsSq.two D.w;simp only[go_sem,zA,zM,zL,fits,eh];refine λg=>d_ λhg=>?_;exact c_ (.inr ⟨g,2,_,hg,rfl,rfl,by simp,jT h1,_,_,rfl,.inr rfl,.inr ⟨by simp,rfl,g,rfl⟩,h1⟩)
def yz:AddOk gl 146 (λm a b=>[⟨[a,b],[]⟩]):=by
 refine AddOk.of gl λm a b O J G hm ha hb ia ib im D st=>?_;refine fq ?_;refine ICall.intro (c:=cf prog gl [11] []) func146 rfl (by show _<=12;simp) (by kernel_rfl) ?_;simp only[go_sem,zE,zA,zM,zL,fits,kV];refine (nS gl _ _ _ (.inr rfl) D (by simp only[dV];omega) _).mono ?_;rintro r _ ⟨E,rfl⟩;have h1:=sq1 E;obtain⟨_,_,_,_,rfl⟩:=IsSq.two E.w;simp only[go_sem,zA,zM,zL,fits,eh];refine λg=>d_ λhg=>?_;exact c_ (.inr ⟨g,2,_,hg,rfl,rfl,by simp,jT h1,_,_,rfl,.inr rfl,.inr ⟨by simp,rfl,g,rfl⟩,h1⟩)
def yA:AddOk gl 147 (λm a b=>[⟨[],[a]⟩,⟨[],[b]⟩]):=by
 refine AddOk.of gl λm a b ac ab aa hm ha hb O G im J st=>?_;refine fq ?_;refine ICall.intro (c:=cf prog gl [13] [(1,[0,1,3,4,2,5,6,7])]) func147 rfl (by show _<=14;simp) (by kernel_rfl) ?_;simp only[go_sem,zE,zA,zM,zL,fits,eh];refine (nc gl _ _ _ (.inr rfl) O (by simp only[dV];omega) _).mono ?_;rintro r _ ⟨D,rfl⟩;have E:=D;obtain⟨_,_,_,_,rfl⟩:=IsSq.two D.w;simp only[go_sem,zE,zA];refine (nc gl _ _ _ (.inr rfl) G (by simp only[dV];omega) _).mono ?_;rintro r _ ⟨D,rfl⟩;have h1:=sq2 E D;obtain⟨_,_,_,_,rfl⟩:=IsSq.two D.w;simp only[go_sem,zE,zA,zM,zL,fits,kV];refine λg=>d_ λhg=>?_;exact c_ (.inr ⟨g,2,_,hg,rfl,rfl,by simp,jT h1,_,_,rfl,.inr rfl,.inr ⟨by simp,rfl,g,rfl⟩,h1⟩)
def yB:AddOk gl 148 (λm a b=>[⟨[a],[]⟩,⟨[b],[]⟩]):=by
 refine AddOk.of gl λm a b ac ab aa hm ha hb O G im J st=>?_;refine fq ?_;refine ICall.intro (c:=cf prog gl [13] [(1,[0,1,3,4,2,5,6,7])]) func148 rfl (by show _<=14;simp) (by kernel_rfl) ?_;simp only[go_sem,zE,zA,zM,zL,fits,eh];refine (nS gl _ _ _ (.inr rfl) O (by simp only[dV];omega) _).mono ?_;rintro r _ ⟨D,rfl⟩;have E:=D;obtain⟨_,_,_,_,rfl⟩:=IsSq.two D.w;simp only[go_sem,zE,zA];refine (nS gl _ _ _ (.inr rfl) G (by simp only[dV];omega) _).mono ?_;rintro r _ ⟨D,rfl⟩;have h1:=sq2 E D;obtain⟨_,_,_,_,rfl⟩:=IsSq.two D.w;simp only[go_sem,zE,zA,zM,zL,fits,kV];refine λg=>d_ λhg=>?_;exact c_ (.inr ⟨g,2,_,hg,rfl,rfl,by simp,jT h1,_,_,rfl,.inr rfl,.inr ⟨by simp,rfl,g,rfl⟩,h1⟩)
def yC:AddOk gl 149 (λm a b=>[⟨[],[a,b]⟩]):=by
 refine AddOk.of gl λm a b O J G hm ha hb ia ib im D st=>?_;refine fq ?_;refine ICall.intro (c:=cf prog gl [11] []) func149 rfl (by show _<=12;simp) (by kernel_rfl) ?_;simp only[go_sem,zE,zA,zM,zL,fits,kV];refine (nc gl _ _ _ (.inr rfl) D (by simp only[dV];omega) _).mono ?_;rintro r _ ⟨E,rfl⟩;have h1:=sq1 E;obtain⟨_,_,_,_,rfl⟩:=IsSq.two E.w;simp only[go_sem,zA,zM,zL,fits,eh];refine λg=>d_ λhg=>?_;exact c_ (.inr ⟨g,2,_,hg,rfl,rfl,by simp,jT h1,_,_,rfl,.inr rfl,.inr ⟨by simp,rfl,g,rfl⟩,h1⟩)
def yD:AddOk gl 150 (λm a b=>[⟨[],[a]⟩,⟨[b],[]⟩]):=by
 refine AddOk.of gl λm a b ac ab aa hm ha hb O G im J st=>?_;refine fq ?_;refine ICall.intro (c:=cf prog gl [13] [(1,[0,1,3,4,2,5,6,7])]) func150 rfl (by show _<=14;simp) (by kernel_rfl) ?_;simp only[go_sem,zE,zA,zM,zL,fits,eh];refine (nc gl _ _ _ (.inr rfl) O (by simp only[dV];omega) _).mono ?_;rintro r _ ⟨D,rfl⟩;have E:=D;obtain⟨_,_,_,_,rfl⟩:=IsSq.two D.w;simp only[go_sem,zE,zA];refine (nS gl _ _ _ (.inr rfl) G (by simp only[dV];omega) _).mono ?_;rintro r _ ⟨D,rfl⟩;have h1:=sq2 E D;obtain⟨_,_,_,_,rfl⟩:=IsSq.two D.w;simp only[go_sem,zE,zA,zM,zL,fits,kV];refine λg=>d_ λhg=>?_;exact c_ (.inr ⟨g,2,_,hg,rfl,rfl,by simp,jT h1,_,_,rfl,.inr rfl,.inr ⟨by simp,rfl,g,rfl⟩,h1⟩)
def yE:AddOk gl 156 (λm a b=>[⟨[],[m]⟩,⟨[m],[]⟩]):=by
 refine AddOk.of gl λm a b ab aa O hm ha hb ia ib G J st=>?_;refine fq ?_;refine ICall.intro (c:=cf prog gl [13] [(1,[0,1,3,4,2,5,6,7])]) func156 rfl (by show _<=14;simp) (by kernel_rfl) ?_;simp only[go_sem,zE,zA,zM,zL,fits,eh];refine (nc gl _ _ _ (.inr rfl) G (by simp only[dV];omega) _).mono ?_;rintro r _ ⟨D,rfl⟩;have E:=D;obtain⟨_,_,_,_,rfl⟩:=IsSq.two D.w;simp only[go_sem,zE,zA];refine (nS gl _ _ _ (.inr rfl) G (by simp only[dV];omega) _).mono ?_;rintro r _ ⟨D,rfl⟩;have h1:=sq2 E D;obtain⟨_,_,_,_,rfl⟩:=IsSq.two D.w;simp only[go_sem,zE,zA,zM,zL,fits,kV];refine λg=>d_ λhg=>?_;exact c_ (.inr ⟨g,2,_,hg,rfl,rfl,by simp,jT h1,_,_,rfl,.inr rfl,.inr ⟨by simp,rfl,g,rfl⟩,h1⟩)
def yF:AddOk gl 112 (λm a b=>[⟨[],[a]⟩]):=by
 refine AddOk.of gl λm a b aa O J hm ha hb G ib im E st=>?_;refine fq ?_;refine ICall.intro (c:=cf prog gl [10] []) func112 rfl (by show _<=11;simp) (by kernel_rfl) ?_;simp only[go_sem,zE,zA,zM,zL,fits,eh];refine (nc gl _ _ _ (.inr rfl) G (by simp only[dV];omega) _).mono ?_;rintro r _ ⟨D,rfl⟩;have h1:=sq1 D;obtain⟨_,_,_,_,rfl⟩:=IsSq.two D.w;simp only[go_sem,zA,zM,zL,fits,eh];refine λg=>d_ λhg=>?_;exact c_ (.inr ⟨g,2,_,hg,rfl,rfl,by simp,jT h1,_,_,rfl,.inr rfl,.inr ⟨by simp,rfl,g,rfl⟩,h1⟩)
def yG:AddOk gl 114 (λm a b=>[⟨[],[b]⟩]):=by
 refine AddOk.of gl λm a b aa O J hm ha hb ia E im G st=>?_;refine fq ?_;refine ICall.intro (c:=cf prog gl [10] []) func114 rfl (by show _<=11;simp) (by kernel_rfl) ?_;simp only[go_sem,zE,zA,zM,zL,fits,eh];refine (nc gl _ _ _ (.inr rfl) E (by simp only[dV];omega) _).mono ?_;rintro r _ ⟨D,rfl⟩;have h1:=sq1 D;obtain⟨_,_,_,_,rfl⟩:=IsSq.two D.w;simp only[go_sem,zA,zM,zL,fits,eh];refine λg=>d_ λhg=>?_;exact c_ (.inr ⟨g,2,_,hg,rfl,rfl,by simp,jT h1,_,_,rfl,.inr rfl,.inr ⟨by simp,rfl,g,rfl⟩,h1⟩)
def yH:AddOk gl 115 (λm a b=>[⟨[a],[]⟩]):=by
 refine AddOk.of gl λm a b aa O J hm ha hb G ib im E st=>?_;refine fq ?_;refine ICall.intro (c:=cf prog gl [10] []) func115 rfl (by show _<=11;simp) (by kernel_rfl) ?_;simp only[go_sem,zE,zA,zM,zL,fits,eh];refine (nS gl _ _ _ (.inr rfl) G (by simp only[dV];omega) _).mono ?_;rintro r _ ⟨D,rfl⟩;have h1:=sq1 D;obtain⟨_,_,_,_,rfl⟩:=IsSq.two D.w;simp only[go_sem,zA,zM,zL,fits,eh];refine λg=>d_ λhg=>?_;exact c_ (.inr ⟨g,2,_,hg,rfl,rfl,by simp,jT h1,_,_,rfl,.inr rfl,.inr ⟨by simp,rfl,g,rfl⟩,h1⟩)
def yI:AddOk gl 117 (λm a b=>[⟨[],[a]⟩]):=by
 refine AddOk.of gl λm a b aa O J hm ha hb G ib im E st=>?_;refine fq ?_;refine ICall.intro (c:=cf prog gl [10] []) func117 rfl (by show _<=11;simp) (by kernel_rfl) ?_;simp only[go_sem,zE,zA,zM,zL,fits,eh];refine (nc gl _ _ _ (.inr rfl) G (by simp only[dV];omega) _).mono ?_;rintro r _ ⟨D,rfl⟩;have h1:=sq1 D;obtain⟨_,_,_,_,rfl⟩:=IsSq.two D.w;simp only[go_sem,zA,zM,zL,fits,eh];refine λg=>d_ λhg=>?_;exact c_ (.inr ⟨g,2,_,hg,rfl,rfl,by simp,jT h1,_,_,rfl,.inr rfl,.inr ⟨by simp,rfl,g,rfl⟩,h1⟩)
def yJ:AddOk gl 151 (λm a b=>[⟨[a],[b]⟩]):=by
 refine AddOk.of gl λm a b al ak aj hm ha hb ia ib im ah st=>?_;refine fq ?_;refine ICall.intro (c:=cf prog gl [14] [(1,[0,1,3,4,2,5,6,7,8])]) func151 rfl (by show _<=15;simp) (by kernel_rfl) ?_;simp only[go_sem,zE,zA,zM,zL,fits,eh];refine (nR gl _ _ _ (.inr rfl) ia (by simp only[dV];omega) _).mono ?_;rintro _ _ ⟨af,ac,rfl,J,aa,E,rfl⟩;simp only[go_sem,zE,zA];refine (nR gl _ _ _ (.inr rfl) ib (by simp only[dV];omega) _).mono ?_;rintro _ _ ⟨ae,ab,rfl,G,O,D,rfl⟩;simp only[go_sem,zE,zA,zM,zL,fits,eh];have h1:=sq1 (s:=⟨[a],[b]⟩) ⟨_,_,_,_,rfl,J,aa,E,G,O,D⟩;refine λg=>d_ λhg=>?_;exact c_ (.inr ⟨g,2,_,hg,rfl,rfl,by simp,jT h1,_,_,rfl,.inr rfl,.inr ⟨by simp,rfl,g,rfl⟩,h1⟩)
def yK:AddOk gl 155 (λm a b=>[⟨[a],[b]⟩,⟨[b],[a]⟩]):=by
 refine AddOk.of gl λm a b az ay ax hm ha hb ia ib im aw st=>?_;refine fq ?_;refine ICall.intro (c:=cf prog gl [21] [(1,[0,1,3,4,7,8,10,11,2,5,6,9,12,13,14,15])]) func155 rfl (by show _<=22;simp) (by kernel_rfl) ?_;simp only[go_sem,zE,zA,zM,zL,fits,eh];refine (nR gl _ _ _ (.inr rfl) ia (by simp only[dV];omega) _).mono ?_;rintro _ _ ⟨av,an,rfl,ac,ah,J,rfl⟩;simp only[go_sem,zE,zA];refine (nR gl _ _ _ (.inr rfl) ib (by simp only[dV];omega) _).mono ?_;rintro _ _ ⟨au,am,rfl,ab,ag,G,rfl⟩;simp only[go_sem,zE,zA,zL,fits];refine (nR gl _ _ _ (.inr rfl) ib (by simp only[dV];omega) _).mono ?_;rintro _ _ ⟨aq,al,rfl,aa,af,E,rfl⟩;simp only[go_sem,zE,zA];refine (nR gl _ _ _ (.inr rfl) ia (by simp only[dV];omega) _).mono ?_;rintro _ _ ⟨ao,ak,rfl,O,ae,D,rfl⟩;simp only[go_sem,zE,zA,zM,zL,fits,kV];have h1:=sq2 (s:=⟨[a],[b]⟩) (s':=⟨[b],[a]⟩) ⟨_,_,_,_,rfl,ac,ah,J,ab,ag,G⟩ ⟨_,_,_,_,rfl,aa,af,E,O,ae,D⟩;refine λg=>d_ λhg=>?_;exact c_ (.inr ⟨g,2,_,hg,rfl,rfl,by simp,jT h1,_,_,rfl,.inr rfl,.inr ⟨by simp,rfl,g,rfl⟩,h1⟩)
def yM:AddOk gl 153 (λm a b=>[⟨[impF a b,impF b a],[]⟩]):=by
 refine AddOk.of gl λm a b ab G E hm ha hb ia ib im aa st=>?_;refine fq ?_;refine ICall.intro (c:=cf prog gl [15] [(1,[0,1,3,4,2,5,6,7,8,9])]) func153 rfl (by show _<=16;simp) (by kernel_rfl) ?_;simp only[go_sem,zE,zA,zL];refine (D2 gl a b _ _ G E _).mono ?_;rintro r _ ⟨D,rfl⟩;have O:=D;obtain⟨_,_,_,_,_,_,rfl⟩:=D.agg;simp only[go_sem,zE,zA];refine (D2 gl b a _ _ E G _).mono ?_;rintro r _ ⟨D,rfl⟩;have J:IsFms [impF a b,impF b a] [_,_]:=⟨_,_,rfl,O,IsFms.one D⟩
 obtain⟨_,_,_,_,_,_,rfl⟩:=D.agg;simp only[go_sem,zE,zA,zM,zL,fits,kV];refine (nS gl _ _ _ (.inr rfl) J (by simp only[dV,impF,Fm.size,el];omega) _).mono ?_;rintro r _ ⟨D,rfl⟩;have h1:=sq1 D;obtain⟨_,_,_,_,rfl⟩:=IsSq.two D.w;simp only[go_sem,zA,zM,zL,fits,eh];refine λg=>d_ λhg=>?_;exact c_ (.inr ⟨g,2,_,hg,rfl,rfl,by simp,jT h1,_,_,rfl,.inr rfl,.inr ⟨by simp,rfl,g,rfl⟩,h1⟩)
def fitL (l:List Fm):Prop:=∀f∈l,f.size<=1000000
def yN (ca:Nat)(st:ISt):ICall prog gl 33 [.raw (.int .u8 ca)] st (λr st'=>r=(gR ca:Bool)/\st'=st):=by
 refine iI func33 ?_;by_cases h1:1<=ca
 ·have D:decide (1<=(ca:Int))=true:=dEt (by omega);by_cases h2:ca<=3
  ·have E:decide ((ca:Int)<=3)=true:=dEt (by omega);simp only[go_sem,zE,reduceCtorEq,D,E];exact c_ ⟨by simp[gR,h1,h2],rfl⟩
  ·have E:decide ((ca:Int)<=3)=false:=dEf (by omega);simp only[go_sem,zE,reduceCtorEq,D,E];exact c_ ⟨by simp[gR,h2],rfl⟩
 ·have D:decide (1<=(ca:Int))=false:=dEf (by omega);simp only[go_sem,zE,reduceCtorEq,D];exact c_ ⟨by simp[gR,h1],rfl⟩
def sOp (f:Fm):Prop:=∀(ca:Nat) (x:IV) (_:IsFm f x) (st:ISt),ICall prog gl 61 [.raw (.int .u8 ca),x] st (λr st'=>r=(opsB ca f:Bool)/\st'=st)
def uL (ca:Nat):∀l m:List Fm,iw ca (l++m)=(iw ca l&&iw ca m)
 | [],m=>by simp[iw]
 | a::l,m=>by simp only[eu,iw,uL ca l m,pd]
def D3 {ca:Nat}{l:List Fm}{a:Fm}(D:a∈l)(h:opsB ca a=false):iw ca l=false:=by
 obtain⟨p,q,rfl⟩:=List.append_of_mem D;rw[uL];simp[iw,h]
def ME (o:Nat)(n:ByteArray)(us:List Tm)(sub:List Fm)(IH:∀a∈sub,sOp gl a):sOp gl (.mk o n us sub):=by
 intro ca x hx st;obtain⟨t1,x1,t2,x2,rfl,ho,aA,ai,aj,aa⟩:=hx.mk;have loop:∀(ao:Nat) (aB:(decide (1<=o)&&decide (o<=if ca=3 then 9 else 7)&&(decide (ca=3) || us.isEmpty))=true),opsB ca (.mk o n us sub)=iw ca sub:=λ_ h=>by
  simp only[opsB,h,iZ]
 refine iI func61 ?_;by_cases h1:1<=o
 ·have e1:decide ((o:Int)<1)=false:=dEf (by omega);by_cases G:ca=3
  ·have O:decide ((ca:Int)=3)=true:=dEt (by omega);by_cases h2:o<=9
   ·have e2:decide ((9:Int)<(o:Int))=false:=dEf (by omega);have hl:=loop 9 (by simp[h1,h2,G]);simp only[go_sem,zE,zA,reduceCtorEq,e1,e2,O,aa.len];intro _;refine dt sub.length (λk fr st' ds=>iw ca (sub.take k)=true/\fr 0=.iv (.raw (.int .u8 ca))/\fr 30=.iv (.sl t2 x2)/\fr 31=sub.length/\fr 32=.iv (.raw (.int .i64 k))/\st'=st/\ds=[]) ?_ ?_ ?_
    ·simp only[go_sem,zE,reduceCtorEq];simp[iw]
    ·rintro k fr J _ D ⟨hn,f0,f30,f31,f32,rfl,rfl⟩;obtain⟨a,ha⟩:=dD D;obtain⟨y,ag,hy⟩:=aa.get ha;have E:=IH a (lMg ha) ca y hy J;obtain⟨o5,n5,t5,x5,t6,x6,rfl⟩:=hy.agg;simp only[go_sem,zE,zB,zA,zL,reduceCtorEq,f0,f30,f31,f32,lt_i D,dB aj,iNn,ag,fits];refine E.mono ?_;rintro _ _ ⟨rfl,rfl⟩;cases hr:opsB ca a
     ·simp only[go_sem];exact c_ ⟨by rw[hl,D3 (lMg ha) hr],rfl⟩
     ·simp only[go_sem,zE,reduceCtorEq,f0,f30,f31,f32,dL D (by omega)];rw[dM ha,uL,hn];simp[iw,hr]
    ·rintro fr J _ ⟨hn,f0,f30,f31,f32,rfl,rfl⟩;rw[lTl] at hn;simp only[go_sem,f31,f32,dS (nLi _)];exact c_ ⟨by rw[hl,hn],rfl⟩
   ·have e2:decide ((9:Int)<(o:Int))=true:=dEt (by omega);simp only[go_sem,zE,zA,reduceCtorEq,e1,e2,O];exact c_ ⟨by simp[opsB,h2,G],rfl⟩
  ·have O:decide ((ca:Int)=3)=false:=dEf (by omega);by_cases h2:o<=7
   ·have e2:decide ((7:Int)<(o:Int))=false:=dEf (by omega);by_cases hu:us=[]
    ·subst hu;have e4:decide ((0:Int)<((0:Nat):Int))=false:=rfl;have hl:=loop 7 (by simp[h1,h2,G]);simp only[go_sem,zE,zA,zL,reduceCtorEq,e1,e2,O,e4,ai.len,aa.len];intro _;refine dt sub.length (λk fr st' ds=>iw ca (sub.take k)=true/\fr 0=.iv (.raw (.int .u8 ca))/\fr 30=.iv (.sl t2 x2)/\fr 31=sub.length/\fr 32=.iv (.raw (.int .i64 k))/\st'=st/\ds=[]) ?_ ?_ ?_
     ·simp only[go_sem,zE,reduceCtorEq];simp[iw]
     ·rintro k fr J _ D ⟨hn,f0,f30,f31,f32,rfl,rfl⟩;obtain⟨a,ha⟩:=dD D;obtain⟨y,ag,hy⟩:=aa.get ha;have E:=IH a (lMg ha) ca y hy J;obtain⟨o5,n5,t5,x5,t6,x6,rfl⟩:=hy.agg;simp only[go_sem,zE,zB,zA,zL,reduceCtorEq,f0,f30,f31,f32,lt_i D,dB aj,iNn,ag,fits];refine E.mono ?_;rintro _ _ ⟨rfl,rfl⟩;cases hr:opsB ca a
      ·simp only[go_sem];exact c_ ⟨by rw[hl,D3 (lMg ha) hr],rfl⟩
      ·simp only[go_sem,zE,reduceCtorEq,f0,f30,f31,f32,dL D (by omega)];rw[dM ha,uL,hn];simp[iw,hr]
     ·rintro fr J _ ⟨hn,f0,f30,f31,f32,rfl,rfl⟩;rw[lTl] at hn;simp only[go_sem,f31,f32,dS (nLi _)];exact c_ ⟨by rw[hl,hn],rfl⟩
    ·have aq:0<us.length:=jJ.2 hu;have e4:decide ((0:Int)<(us.length:Int))=true:=dEt (by omega);simp only[go_sem,zE,zA,reduceCtorEq,e1,e2,O,e4,ai.len];intro _;exact c_ ⟨by simp[opsB,G,hu],rfl⟩
   ·have e2:decide ((7:Int)<(o:Int))=true:=dEt (by omega);simp only[go_sem,zE,zA,reduceCtorEq,e1,e2,O];exact c_ ⟨by simp[opsB,G,h2],rfl⟩
 ·have e1:decide ((o:Int)<1)=true:=dEt (by omega);by_cases G:ca=3
  ·have O:decide ((ca:Int)=3)=true:=dEt (by omega);simp only[go_sem,zE,zA,reduceCtorEq,e1,O];exact c_ ⟨by simp[opsB,h1],rfl⟩
  ·have O:decide ((ca:Int)=3)=false:=dEf (by omega);simp only[go_sem,zE,zA,reduceCtorEq,e1,O];exact c_ ⟨by simp[opsB,h1],rfl⟩
def D4:∀(k:Nat)(f:Fm),SizeOf.sizeOf f<k->sOp gl f
 | 0,f,h=>by omega
 | k+1,.mk o n us sub,h=>ME gl o n us sub (λa D=>D4 k a (by
   have:=lSm D;simp only[Fm.mk.sizeOf_spec] at h;omega))
def MF (f:Fm):sOp gl f:=D4 gl _ f (eS _)
def yO (G:Gl gl)(ca:Nat)(f:Fm)(x:IV)(D:IsFm f x)(hs:f.size<=1000000)(st:ISt) :
  ICall prog gl 34 [.raw (.int .u8 ca),x] st (λr st'=>r=(fmB ca f:Bool)/\st'=st):=by
 have h1:=λst=>rH gl G f x D st hs;have h2:=λst=>MF gl f ca x D st;obtain⟨o5,n5,t5,O,t6,J,rfl⟩:=D.agg;refine iI func34 ?_;simp only[go_sem,zE,zA,zL];refine (h1 _).q ?_;cases E:f.right
 ·simp only[go_sem,zE];exact c_ ⟨by simp[fmB,E],rfl⟩
 ·simp only[go_sem,zE,zA,zL,reduceCtorEq];refine (h2 _).q ?_;simp only[go_sem,zE];exact c_ ⟨by simp[fmB,E],rfl⟩
def D5 (G:Gl gl)(f g:Fm)(x y:IV)(O:IsFm f x)(J:IsFm g y)(hs:f.size<=1000000)(D:g.size<=1000000)(st:ISt) :
  ICall prog gl 35 [x,y] st (λr st'=>r=(eqF f g:Bool)/\st'=st):=by
 have h1:=λst=>LH gl G f g x y O J hs D st;obtain⟨o,n,us,sub⟩:=f;obtain⟨o',n',ab,E⟩:=g;obtain⟨t1,x1,t2,x2,rfl,_⟩:=O.mk;obtain⟨t3,x3,t4,x4,rfl,_⟩:=J.mk;refine iI func35 ?_;by_cases ho:o=o'
 ·subst ho;simp only[go_sem,zE,zA,zL,dC];refine (h1 _).q ?_;simp only[go_sem,zE];exact c_ ⟨by simp[eqF,Fm.op],rfl⟩
 ·have e:decide ((o:Int)=(o':Int))=false:=dEf (by omega);simp only[go_sem,zE,zA,e];exact c_ ⟨by simp[eqF,Fm.op,ho],rfl⟩
def MG (g:FuncId)(D:List IV)(he:entI prog g=true)(us:List Fm)(p:Fm->Bool)(hp:∀a∈us,∀x,IsFm a x->∀st,ICall prog gl g (x::D) st (λr st'=>r=(p a:Bool)/\st'=st))
  (tg:Tag) (xs:List IV) (ae:okEs tg 4) (O:IsFms us xs) (st:ISt) :
  ICall prog gl 158 [.sl tg xs,.fn (.func g) [] D] st (λr st'=>(∃n:Int,r=n/\decide (0<=n)=us.any p)/\st'=st):=by
 refine iI func158 ?_;simp only[go_sem,reduceCtorEq,O.len];intro _;refine dt us.length (λk fr st' ds=>(us.take k).any p=false/\fr 0=.iv (.sl tg xs)/\fr 1=.iv (.fn (.func g) [] D)/\fr 7=us.length/\fr 8=.iv (.raw (.int .i64 k))/\st'=st/\ds=[]) ?_ ?_ ?_
 ·simp only[go_sem,zE,reduceCtorEq];exact⟨rfl,rfl⟩
 ·rintro k fr J _ E ⟨hn,f0,f1,f7,f8,rfl,rfl⟩;obtain⟨a,ha⟩:=dD E;obtain⟨y,af,hy⟩:=O.get ha;have G:=hp a (lMg ha) y hy J;obtain⟨o5,n5,t5,x5,t6,x6,rfl⟩:=hy.agg;simp only[go_sem,zE,zB,zA,reduceCtorEq,f0,f1,f7,f8,lt_i E,dB ae,iNn,af,fits,he];refine G.mono ?_;rintro _ _ ⟨rfl,rfl⟩;cases hr:p a
  ·simp only[go_sem,zE,reduceCtorEq,f0,f1,f7,f8,dL E (by omega)];rw[dM ha,List.any_append,hn];simp[hr]
  ·simp only[go_sem,zE];refine c_ ⟨⟨_,rfl,?_⟩,rfl⟩;rw[dEt (iNn k)];exact (gk.2 ⟨a,lMg ha,hr⟩).symm
 ·rintro fr J _ ⟨hn,f0,f1,f7,f8,rfl,rfl⟩;rw[lTl] at hn;simp only[go_sem,f7,f8,dS (nLi _)];exact c_ ⟨⟨_,rfl,by rw[hn];rfl⟩,rfl⟩
def yP (g:FuncId)(D:List IV)(he:entI prog g=true)(us:List Fm)(p:Fm->Bool)(hp:∀a∈us,∀x,IsFm a x->∀st,ICall prog gl g (x::D) st (λr st'=>r=(p a:Bool)/\st'=st))
  (E:Tag) (xs:List IV) (J:okEs E 4) (G:IsFms us xs) (st:ISt) :
  ICall prog gl 120 [.sl E xs,.fn (.func g) [] D] st (λr st'=>r=(us.any p:Bool)/\st'=st):=by
 refine iI func120 ?_;simp only[go_sem,zE,zA,reduceCtorEq];refine (MG gl g D he us p hp E xs J G _).mono ?_;rintro _ _ ⟨⟨n,rfl,O⟩,rfl⟩;simp only[go_sem,O];exact c_ ⟨rfl,rfl⟩
def MH (G:Gl gl)(f g:Fm)(x y:IV)(J:IsFm f x)(E:IsFm g y)(hs:f.size<=1000000)(D:g.size<=1000000)(st:ISt) :
  ICall prog gl 121 [y,.cptr x] st (λr st'=>r=(eqF f g:Bool)/\st'=st):=by
 have h1:=λst=>D5 gl G f g x y J E hs D st;obtain⟨o5,n5,t5,x5,t6,x6,rfl⟩:=J.agg;obtain⟨o7,n7,t7,x7,t8,O,rfl⟩:=E.agg;refine iI func121 ?_;simp only[go_sem,zE,zA,zL,fits];refine (h1 _).q ?_;simp only[go_sem];exact c_ ⟨rfl,rfl⟩
def uM (G:Gl gl)(l:List Fm)(f:Fm)(D:Tag)(xs:List IV)(x:IV)(J:okEs D 4)(E:IsFms l xs)(O:IsFm f x)(hl:fitL l)(hs:f.size<=1000000)(st:ISt) :
  ICall prog gl 85 [.sl D xs,x] st (λr st'=>r=(hasF l f:Bool)/\st'=st):=by
 have h1:=λst=>yP gl 121 [.cptr x] (by simp only[go_sem]) l (eqF f) (λa ha y hy st=>MH gl G f a x y O hy hs (hl a ha) st) D xs J E st;obtain⟨o5,n5,t5,x5,t6,x6,rfl⟩:=O.agg;refine ICall.intro (c:=cf prog gl [] [] [3]) func85 rfl (by show _<=8;simp) (by kernel_rfl) ?_;simp only[go_sem,zE,zA,reduceCtorEq];refine (h1 _).q ?_;simp only[go_sem];exact c_ ⟨rfl,rfl⟩
def D6 (G:Gl gl)(l m:List Fm)(t t':Tag)(xs ys:List IV)(ht:okEs t 4)(ae:okEs t' 4)(O:IsFms l xs)(hys:IsFms m ys)(hl:fitL l)(hm:fitL m)(st:ISt) :
  ICall prog gl 88 [.sl t xs,.sl t' ys] st (λr st'=>r=(allF l m:Bool)/\st'=st):=by
 refine iI func88 ?_;simp only[go_sem,reduceCtorEq,O.len];intro _;refine dt l.length (λk fr st' ds=>(l.take k).all (hasF m)=true/\fr 1=.iv (.sl t' ys)/\fr 7=.iv (.sl t xs)/\fr 8=l.length/\fr 9=.iv (.raw (.int .i64 k))/\st'=st/\ds=[]) ?_ ?_ ?_
 ·simp only[go_sem,zE];rfl
 ·rintro k fr J _ D ⟨hn,f1,f7,f8,f9,rfl,rfl⟩;obtain⟨a,ha⟩:=dD D;obtain⟨y,af,hy⟩:=O.get ha;have E:=uM gl G m a t' ys y ae hys hy hm (hl a (lMg ha)) J;obtain⟨o5,n5,t5,x5,t6,x6,rfl⟩:=hy.agg;simp only[go_sem,zE,zB,zA,zL,f1,f7,f8,f9,lt_i D,dB ht,iNn,af,fits];refine E.mono ?_;rintro _ _ ⟨rfl,rfl⟩;cases hr:hasF m a
  ·simp only[go_sem];refine c_ ⟨?_,rfl⟩;have:allF l m=false:=by
    unfold allF;rw[List.all_eq_false];exact⟨a,lMg ha,by simp[hr]⟩
   rw[this]
  ·simp only[go_sem,zE,f1,f7,f8,f9,dL D (by omega)];rw[dM ha,kl,hn];simp[hr]
 ·rintro fr J _ ⟨hn,f1,f7,f8,f9,rfl,rfl⟩;rw[lTl] at hn;simp only[go_sem,f8,f9,dS (nLi _)];exact c_ ⟨by rw[show allF l m=true from hn],rfl⟩
def fY (s:Sq):Prop:=fitL s.l/\fitL s.r
def MI (G:Gl gl)(a b:Sq)(x y:IV)(hx:IsSq a x)(hy:IsSq b y)(J:fY a)(E:fY b)(st:ISt):ICall prog gl 67 [x,y] st (λr st'=>r=(m_ a b:Bool)/\st'=st):=by
 obtain⟨t1,x1,t2,x2,rfl,e1,i1,e2,i2⟩:=hx;obtain⟨t3,x3,t4,O,rfl,e3,i3,e4,i4⟩:=hy;refine iI func67 ?_;simp only[go_sem,zE,zA];refine (D6 gl G a.l b.l t1 t3 x1 x3 e1 e3 i1 i3 J.1 E.1 _).q ?_;cases D:allF a.l b.l
 ·simp only[go_sem,zE];exact c_ ⟨by simp[m_,D],rfl⟩
 ·simp only[go_sem,zE,zA];refine (D6 gl G a.r b.r t2 t4 x2 O e2 e4 i2 i4 J.2 E.2 _).q ?_;simp only[go_sem,zE];exact c_ ⟨by simp[m_,D],rfl⟩
def qa (a b:Int)(v:IV):∀es:List (Value×IV),f_ (.int .u8 a) (updI (.int .u8 b) v es)=if a=b then some v else f_ (.int .u8 a) es
 | []=>by
  simp only[updI,f_,h_];by_cases h:a=b<;>simp[h]
 | (x,u)::es=>by
  simp only[updI];by_cases D:h_ (.int .u8 b) x=true
  ·rw[cX D];have E:∀c,h_ (.int .u8 c) x=decide (c=b):=λc=>by
    cases x<;>simp[h_] at D ⊢;rw[D]
   have e:h_ (.int .u8 a) (.int .u8 b)=decide (a=b):=rfl;simp only[f_,e,E];by_cases h:a=b<;>simp[h]
  ·rw[a_ D];simp only[f_];rw[qa a b v es];by_cases h:a=b
   ·subst h;simp[D]
   ·simp[h]
def mr (ca rule:Nat):Nat :=
 if ca=2/\rule=18 then 114 else if ca=2/\rule=8 then 112
 else if rule=13\/rule=15 then 115 else if rule=14\/rule=16 then 117
 else if rule=1 then 142 else if rule=2 then 143 else if rule=3 then 144 else if rule=4 then 145
 else if rule=5 then 146 else if rule=6 then 147 else if rule=7 then 148 else if rule=8 then 149
 else if rule=9 then 150 else if rule=10 then 151 else if rule=11 then 153 else if rule=12 then 155
 else 156
def rwI (ca rule:Nat)(r:Rw):IV:=.agg [r.left,r.right,.raw (.int .u8 r.op),.raw (.int .u8 r.asks),.fn (.func (mr ca rule)) [] []]
def rwL (a b:Bool)(op asks id:Nat):IV:=.agg [a,b,.raw (.int .u8 op),.raw (.int .u8 asks),.fn (.func id) [] []]
def qb:List (Value×IV) :=
 updI (.int .u8 17) (rwL false false 0 0 156) <| updI (.int .u8 12) (rwL false true 7 0 155) <| updI (.int .u8 11) (rwL true false 7 0 153) <|
 updI (.int .u8 10) (rwL false true 6 0 151) <| updI (.int .u8 9) (rwL true false 6 0 150) <| updI (.int .u8 8) (rwL false true 5 0 149) <|
 updI (.int .u8 7) (rwL true false 5 0 148) <| updI (.int .u8 6) (rwL false true 4 0 147) <| updI (.int .u8 5) (rwL true false 4 0 146) <|
 updI (.int .u8 4) (rwL false true 3 0 145) <| updI (.int .u8 3) (rwL true false 3 0 144) <| updI (.int .u8 2) (rwL true false 2 0 143) <|
 updI (.int .u8 1) (rwL true true 0 0 142) []
def nh (ca:Nat):List (Value×IV) :=
 if ca=2 then updI (.int .u8 18) (rwL false true 5 0 114) <| updI (.int .u8 8) (rwL false true 5 0 112) qb
 else if ca=3 then updI (.int .u8 16) (rwL false true 9 1 117) <| updI (.int .u8 15) (rwL true false 9 2 115) <| updI (.int .u8 14) (rwL false true 8 2 117) <|
  updI (.int .u8 13) (rwL true false 8 1 115) qb
 else qb
def MJ (st:ISt):ICall prog gl 111 [] st (λr st'=>∃b,st b=none/\r=.raw (.map (some b))/\st'=st.put b (some (.map (.int .u8) qb))):=by
 refine iI func111 ?_;simp only[go_sem,zE,zA,zL,fits];refine λb=>d_ λD=>?_;simp only[go_sem,eN];exact c_ ⟨b,D,rfl,rfl⟩
def D7 (ca:Nat)(st:ISt):ICall prog gl 83 [.raw (.int .u8 ca)] st (λr st'=>∃b,st b=none/\r=.raw (.map (some b))/\st'=st.put b (some (.map (.int .u8) (nh ca)))):=by
 refine iI func83 ?_;simp only[go_sem,zA];refine (MJ gl _).mono ?_;rintro _ _ ⟨b,E,rfl,rfl⟩;by_cases h2:ca=2
 ·have D:decide ((ca:Int)=2)=true:=dEt (by omega);simp only[go_sem,zE,zA,zL,reduceCtorEq,D,fits,b_,eN];exact c_ ⟨b,E,rfl,by rw[nh,cX h2];rfl⟩
 ·have D:decide ((ca:Int)=2)=false:=dEf (by omega);by_cases J:ca=3
  ·have G:decide ((ca:Int)=3)=true:=dEt (by omega);simp only[go_sem,zE,zA,zL,reduceCtorEq,D,G,fits,b_,eN];exact c_ ⟨b,E,rfl,by rw[nh,a_ h2,cX J];rfl⟩
  ·have G:decide ((ca:Int)=3)=false:=dEf (by omega);simp only[go_sem,zE,reduceCtorEq,D,G];exact c_ ⟨b,E,rfl,by rw[nh,a_ h2,a_ J]⟩
def MK (rule:Nat):f_ (.int .u8 rule) qb=(rowK rule).map λr=>.agg [.raw (.bool r.left),.raw (.bool r.right),.raw (.int .u8 r.op),.raw (.int .u8 r.asks),.fn (.func (mr 1 rule)) [] []]:=by
 unfold qb;simp only[qa];by_cases h:rule<=18
 ·rcases (show rule=0\/rule=1\/rule=2\/rule=3\/rule=4\/rule=5\/rule=6\/rule=7\/rule=8\/rule=9\/rule=10\/rule=11\/rule=12\/rule=13\/rule=14\/rule=15\/rule=16\/rule=17\/rule=18 by omega) with
   rfl|rfl|rfl|rfl|rfl|rfl|rfl|rfl|rfl|rfl|rfl|rfl|rfl|rfl|rfl|rfl|rfl|rfl|rfl<;>rfl
 ·have D:rowK rule=none:=by unfold rowK;repeat (rw[a_ (by omega)])
  rw[D]
  repeat (rw[a_ (by omega)])
  rfl
def uN (ca rule:Nat):f_ (.int .u8 rule) (nh ca)=(rowS ca rule).map (rwI ca rule):=by
 have hp:=MK rule;by_cases h:rule<=18
 ·have E:rule=0\/rule=1\/rule=2\/rule=3\/rule=4\/rule=5\/rule=6\/rule=7\/rule=8\/rule=9\/rule=10\/rule=11\/rule=12\/rule=13\/rule=14\/rule=15\/rule=16\/rule=17\/rule=18:=by omega
  by_cases h2:ca=2
  ·subst h2;simp only[nh,dJ,qa,hp];rcases E with rfl|rfl|rfl|rfl|rfl|rfl|rfl|rfl|rfl|rfl|rfl|rfl|rfl|rfl|rfl|rfl|rfl|rfl|rfl<;>rfl
  ·by_cases G:ca=3
   ·subst G;simp only[nh,dJ,a_ h2,qa,hp];rcases E with rfl|rfl|rfl|rfl|rfl|rfl|rfl|rfl|rfl|rfl|rfl|rfl|rfl|rfl|rfl|rfl|rfl|rfl|rfl<;>rfl
   ·have D:rowS ca rule=rowK rule:=by
     unfold rowS;rw[a_ (by omega),a_ (by omega),a_ (by omega),a_ (by omega),a_ (by omega)]
    have hi:∀r,rowK rule=some r->mr 1 rule=mr ca rule:=λ_ _=>by
     unfold mr;rw[a_ (by omega),a_ (by omega)]
     conv=>rhs;rw[a_ (by omega),a_ (by omega)]
    simp only[nh,a_ h2,a_ G,hp,D];cases J:rowK rule with
    | none=>rfl
    | some r=>simp only[eJ,rwI,hi r J]
 ·have O:rowS ca rule=none:=by
   unfold rowS;rw[a_ (by omega),a_ (by omega),a_ (by omega),a_ (by omega),a_ (by omega)];unfold rowK;repeat (rw[a_ (by omega)])
  have D:rowK rule=none:=by unfold rowK;repeat (rw[a_ (by omega)])
  rw[D] at hp;rw[O];unfold nh;split
  ·simp only[qa,hp];repeat (rw[a_ (by omega)])
   rfl
  ·split
   ·simp only[qa,hp];repeat (rw[a_ (by omega)])
    rfl
   ·rw[hp];rfl
def ML {ca rule:Nat}{r:Rw}(h:rowS ca rule=some r):AddOk gl (mr ca rule) (addS ca rule)/\entI prog (mr ca rule)=true:=by
 have hr:rule<=18:=by
  refine gM λhc=>?_;have E:rowS ca rule=none:=by
   unfold rowS;rw[a_ (by omega),a_ (by omega),a_ (by omega),a_ (by omega),a_ (by omega)];unfold rowK;repeat (rw[a_ (by omega)])
  rw[E] at h;cases h
 have D:rule=0\/rule=1\/rule=2\/rule=3\/rule=4\/rule=5\/rule=6\/rule=7\/rule=8\/rule=9\/rule=10\/rule=11\/rule=12\/rule=13\/rule=14\/rule=15\/rule=16\/rule=17\/rule=18:=by omega
 by_cases h2:ca=2
 ·subst h2;rcases D with rfl|rfl|rfl|rfl|rfl|rfl|rfl|rfl|rfl|rfl|rfl|rfl|rfl|rfl|rfl|rfl|rfl|rfl|rfl
  all_goals first|(cases h;done)|exact⟨yr gl,by kernel_rfl⟩|exact⟨yv gl,by kernel_rfl⟩|exact⟨yw gl,by kernel_rfl⟩|exact⟨yx gl,by kernel_rfl⟩|exact⟨yz gl,by kernel_rfl⟩|exact⟨yA gl,by kernel_rfl⟩|exact⟨yB gl,by kernel_rfl⟩|exact⟨yC gl,by kernel_rfl⟩|exact⟨yF gl,by kernel_rfl⟩|exact⟨yD gl,by kernel_rfl⟩|exact⟨yJ gl,by kernel_rfl⟩|exact⟨yM gl,by kernel_rfl⟩|exact⟨yK gl,by kernel_rfl⟩|exact⟨yE gl,by kernel_rfl⟩|exact⟨yG gl,by kernel_rfl⟩|exact⟨yH gl,by kernel_rfl⟩|exact⟨yI gl,by kernel_rfl⟩
 ·by_cases O:ca=3
  ·subst O;rcases D with rfl|rfl|rfl|rfl|rfl|rfl|rfl|rfl|rfl|rfl|rfl|rfl|rfl|rfl|rfl|rfl|rfl|rfl|rfl
   all_goals first|(cases h;done)|exact⟨yr gl,by kernel_rfl⟩|exact⟨yv gl,by kernel_rfl⟩|exact⟨yw gl,by kernel_rfl⟩|exact⟨yx gl,by kernel_rfl⟩|exact⟨yz gl,by kernel_rfl⟩|exact⟨yA gl,by kernel_rfl⟩|exact⟨yB gl,by kernel_rfl⟩|exact⟨yC gl,by kernel_rfl⟩|exact⟨yF gl,by kernel_rfl⟩|exact⟨yD gl,by kernel_rfl⟩|exact⟨yJ gl,by kernel_rfl⟩|exact⟨yM gl,by kernel_rfl⟩|exact⟨yK gl,by kernel_rfl⟩|exact⟨yE gl,by kernel_rfl⟩|exact⟨yG gl,by kernel_rfl⟩|exact⟨yH gl,by kernel_rfl⟩|exact⟨yI gl,by kernel_rfl⟩
  ·have G:rowS ca rule=rowS 1 rule:=by
    unfold rowS;rw[a_ (by omega),a_ (by omega),a_ (by omega),a_ (by omega),a_ (by omega)]
    conv=>rhs;rw[a_ (by omega),a_ (by omega),a_ (by omega),a_ (by omega),a_ (by omega)]
   have J:mr ca rule=mr 1 rule:=by
    unfold mr;rw[a_ (by omega),a_ (by omega)]
    conv=>rhs;rw[a_ (by omega),a_ (by omega)]
   have hs:addS ca rule=addS 1 rule:=by
    funext m a b;unfold addS;rw[a_ h2,a_ (show ¬ (1:Nat)=2 by decide)]
   rw[G] at h;rw[J,hs];rcases D with rfl|rfl|rfl|rfl|rfl|rfl|rfl|rfl|rfl|rfl|rfl|rfl|rfl|rfl|rfl|rfl|rfl|rfl|rfl
   all_goals first|(cases h;done)|exact⟨yr gl,by kernel_rfl⟩|exact⟨yv gl,by kernel_rfl⟩|exact⟨yw gl,by kernel_rfl⟩|exact⟨yx gl,by kernel_rfl⟩|exact⟨yz gl,by kernel_rfl⟩|exact⟨yA gl,by kernel_rfl⟩|exact⟨yB gl,by kernel_rfl⟩|exact⟨yC gl,by kernel_rfl⟩|exact⟨yF gl,by kernel_rfl⟩|exact⟨yD gl,by kernel_rfl⟩|exact⟨yJ gl,by kernel_rfl⟩|exact⟨yM gl,by kernel_rfl⟩|exact⟨yK gl,by kernel_rfl⟩|exact⟨yE gl,by kernel_rfl⟩|exact⟨yG gl,by kernel_rfl⟩|exact⟨yH gl,by kernel_rfl⟩|exact⟨yI gl,by kernel_rfl⟩
noncomputable def rB (ca:Nat)(a0 f:Fm):Bool:=fmB ca f&&(decide (ca≠2) || eqF f a0)
def D8 (ca:Nat)(a0:Fm):∀l:List Fm,l.all (rB ca a0)=(l.all (fmB ca)&&(decide (ca≠2) || l.all λf=>eqF f a0))
 | []=>by simp
 | f::l=>by
  simp only[jE,D8 ca a0 l,rB];cases fmB ca f<;>cases l.all (fmB ca)<;>cases decide (ca≠2)<;>simp
def MM (ca:Nat)(s:Sq):en ca s=(gR ca&&decide (s.l.length<=64)&&decide (s.r.length<=64)&&s.l.all (fmB ca)&&s.r.all (rB ca (s.r.headD fm0))):=by
 rw[D8];unfold en p_;cases s.r with
 | nil=>simp
 | cons a l=>simp only[List.headD_cons,pd]
def uO (G:Gl gl)(ca:Nat)(s:Sq)(x:IV)(hx:IsSq s x)(hs:fY s)(st:ISt):ICall prog gl 9 [.raw (.int .u8 ca),x] st (λr st'=>r=(en ca s:Bool)/\st'=st):=by
 obtain⟨l,r⟩:=s;obtain⟨t1,x1,t2,x2,rfl,e1,i1,e2,i2⟩:=hx;obtain⟨hl,J⟩:=hs;simp only at i1 i2 hl J;rw[MM];simp only;refine iI func9 ?_;simp only[go_sem,zA,reduceCtorEq];refine (yN gl ca _).q ?_;cases hk:gR ca
 ·simp only[go_sem,zE];exact c_ ⟨by simp,rfl⟩
 by_cases h1:l.length<=64
 case neg =>
  have e:decide ((64:Int)<(l.length:Int))=true:=dEt (by omega);simp only[go_sem,zE,i1.len,e];intro _;exact c_ ⟨by simp[h1],rfl⟩
 by_cases h2:r.length<=64
 case neg =>
  have e:decide ((64:Int)<(l.length:Int))=false:=dEf (by omega);have e':decide ((64:Int)<(r.length:Int))=true:=dEt (by omega);simp only[go_sem,zE,i1.len,i2.len,e,e'];intro _ _;exact c_ ⟨by simp[h2],rfl⟩
 have e:decide ((64:Int)<(l.length:Int))=false:=dEf (by omega);have e':decide ((64:Int)<(r.length:Int))=false:=dEf (by omega);simp only[go_sem,zE,i1.len,i2.len,e,e'];intros;refine dt l.length (λk fr st' ds=>(l.take k).all (fmB ca)=true/\fr 0=.iv (.raw (.int .u8 ca))/\fr 3=.box [.sl t1 x1,.sl t2 x2]/\fr 25=.iv (.sl t1 x1)/\fr 26=l.length/\fr 27=.iv (.raw (.int .i64 k))/\st'=st/\ds=[]) ?_ ?_ ?_
 ·simp only[go_sem,zE,reduceCtorEq]
  first|rfl|exact⟨rfl,rfl⟩
 ·rintro k fr ac _ D ⟨hn,f0,f3,f25,f26,f27,rfl,rfl⟩;obtain⟨a,O⟩:=dD D;obtain⟨y,ae,hy⟩:=i1.get O;have E:=yO gl G ca a y hy (hl a (lMg O)) ac;obtain⟨o5,n5,t5,x5,t6,x6,rfl⟩:=hy.agg;simp only[go_sem,zE,zB,zA,zL,reduceCtorEq,f0,f25,f26,f27,lt_i D,dB e1,iNn,ae,fits];refine E.mono ?_;rintro _ _ ⟨rfl,rfl⟩;cases J:fmB ca a
  ·simp only[go_sem];refine c_ ⟨?_,rfl⟩;have:l.all (fmB ca)=false:=List.all_eq_false.2 ⟨a,lMg O,by simp[J]⟩;simp[this]
  ·simp only[go_sem,zE,reduceCtorEq,f0,f3,f25,f26,f27,dL D (by omega)];rw[dM O,kl,hn];simp[J]
 ·rintro fr ac _ ⟨hn,f0,f3,f25,f26,f27,rfl,rfl⟩;rw[lTl] at hn;simp only[go_sem,zE,f3,f26,f27,i2.len,dS (nLi _)];intro _;refine dt r.length (λk fr st' ds=>(r.take k).all (rB ca (r.headD fm0))=true/\fr 0=.iv (.raw (.int .u8 ca))/\fr 3=.box [.sl t1 x1,.sl t2 x2]/\fr 37=.iv (.sl t2 x2)/\fr 38=.iv (.raw (.int .i64 r.length))/\fr 39=.iv (.raw (.int .i64 k))/\st'=ac/\ds=[]) ?_ ?_ ?_
  ·simp only[go_sem,zE,reduceCtorEq,f0,f3]
   first|rfl|exact⟨rfl,rfl⟩
  ·rintro k fr ag _ D ⟨hm,f0,f3,f37,f38,f39,rfl,rfl⟩;obtain⟨a,O⟩:=dD D;obtain⟨y,ae,hy⟩:=i2.get O;obtain⟨a0,aa⟩:=dD (show 0<r.length by omega);obtain⟨y0,aj,ah⟩:=i2.get aa;have aq:r.headD fm0=a0:=by cases r with|nil=>cases aa|cons b r=>simpa using aa
   have E:=yO gl G ca a y hy (J a (lMg O)) ag;have ao:=λst=>D5 gl G a a0 y y0 hy ah (J a (lMg O)) (J a0 (lMg aa)) st;rw[aq] at hm ⊢;have ab:rB ca a0 a=false->r.all (rB ca a0)=false:=λhb=>List.all_eq_false.2 ⟨a,lMg O,by simp[hb]⟩;have ak:rB ca a0 a=true->(r.take (k+1)).all (rB ca a0)=true:=λhb=>by
    rw[dM O,kl,hm];simp[hb]
   obtain⟨o5,n5,t5,x5,t6,x6,rfl⟩:=hy.agg;obtain⟨o7,n7,t7,x7,t8,x8,rfl⟩:=ah.agg;simp only[go_sem,zE,zB,zA,zL,reduceCtorEq,f0,f37,f38,f39,lt_i D,dB e2,iNn,ae,fits];refine E.mono ?_;rintro _ _ ⟨rfl,rfl⟩;cases J:fmB ca a
   ·simp only[go_sem,zE];exact c_ ⟨by rw[ab (by simp[rB,J])];simp,rfl⟩
   by_cases hj:ca=2
   ·have ej:decide ((ca:Int)=2)=true:=dEt (by omega);simp only[go_sem,zE,zB,zA,zL,reduceCtorEq,ej,f0,f3,dB e2,aj,fits,jD,ja];refine (ao _).q ?_;cases hq:eqF a a0
    ·simp only[go_sem,zE];exact c_ ⟨by rw[ab (by simp[rB,hj,hq])];simp,rfl⟩
    ·simp only[go_sem,zE,reduceCtorEq,f0,f3,f37,f38,f39,dL D (by omega)];exact ak (by simp[rB,J,hq])
   ·have ej:decide ((ca:Int)=2)=false:=dEf (by omega);simp only[go_sem,zE,reduceCtorEq,ej,f0,f3,f37,f38,f39,dL D (by omega)];exact ak (by simp[rB,J,hj])
  ·rintro fr ag _ ⟨hm,f0,f3,f37,f38,f39,rfl,rfl⟩;rw[lTl] at hm;simp only[go_sem,f38,f39,dS (nLi _)];exact c_ ⟨by rw[hn,hm];simp[h1,h2],rfl⟩
def MN (O:Tag)(G:okEs O 1)(l:List ByteArray)(s:ByteArray)(st:ISt):ICall prog gl 123 [.sl O (strI l),s] st (λr st'=>r=(memB l s:Bool)/\st'=st):=by
 have J:ICall prog gl 159 [.sl O (strI l),s] st (λr st'=>(∃n:Int,r=n/\decide (0<=n)=memB l s)/\st'=st):=by
  refine iI func159 ?_;simp only[go_sem,reduceCtorEq,Ka];intro _;refine dt l.length (λk fr st' ds=>memB (l.take k) s=false/\fr 0=.iv (.sl O (strI l))/\fr 1=s/\fr 7=.iv (.raw (.int .i64 l.length))/\fr 8=.iv (.raw (.int .i64 k))/\st'=st/\ds=[]) ?_ ?_ ?_
  ·simp only[go_sem,zE,reduceCtorEq];exact⟨rfl,rfl⟩
  ·rintro k fr ab _ D ⟨E,f0,f1,f7,f8,rfl,rfl⟩;obtain⟨a,ha⟩:=dD D;by_cases hr:s=a
   ·subst hr;simp only[go_sem,zE,reduceCtorEq,f0,f1,f7,f8,lt_i D,dB G,iNn,Cn ha,fits,dC];refine c_ ⟨⟨_,rfl,?_⟩,rfl⟩;rw[dEt (iNn k)];exact (yJb.2 (lMg ha)).symm
   ·simp only[go_sem,zE,reduceCtorEq,f0,f1,f7,f8,lt_i D,dB G,iNn,Cn ha,fits,dEf hr,dL D (by omega)];rw[zJi] at E ⊢;rw[dM ha,dQ,dR];rintro (h|h)
    ·exact E h
    ·exact hr h
  ·rintro fr ab _ ⟨E,f0,f1,f7,f8,rfl,rfl⟩;rw[lTl] at E;simp only[go_sem,f7,f8,dS (nLi _)];exact c_ ⟨⟨_,rfl,by rw[E];rfl⟩,rfl⟩
 refine iI func123 ?_;simp only[go_sem,zE,zA,reduceCtorEq];refine J.mono ?_;rintro _ _ ⟨⟨n,rfl,E⟩,rfl⟩;simp only[go_sem,E];exact c_ ⟨rfl,rfl⟩
def D9 (T:Gt gl)(f:Fm)(y:IV)(E:IsFm f y)(hs:f.size<=1000000)(O:f.right=true)(s:ByteArray)(st:ISt) :
  ICall prog gl 122 [y,.cptr s] st (λr st'=>r=(memB (frF f) s:Bool)/\st'=st):=by
 have h1:=λst=>LG gl T f y E (by omega) (λq J=>by have:=L1 (DD f (mV O).1 q J);omega) st;obtain⟨o5,n5,t5,x5,t6,x6,rfl⟩:=E.agg;refine ICall.intro (c:=cf prog gl [] [(1,[0,2,1,3,4])]) func122 rfl (by show _<=8;simp) (by kernel_rfl) ?_;simp only[go_sem,zE,zA,zL,fits];refine (h1 _).mono ?_;rintro _ _ ⟨G,l,rfl,D,hl,rfl⟩;simp only[go_sem,zE,zA];refine (MN gl G D l s _).q ?_;simp only[go_sem];refine c_ ⟨?_,rfl⟩;have:memB l s=memB (frF f) s:=by
  rw[ma,yJb,yJb];exact hl.2 s
 rw[this]
def MO (T:Gt gl)(s:Sq)(x:IV)(hx:IsSq s x)(hs:fY s)(G:(∀f∈s.l,f.right=true)/\∀f∈s.r,f.right=true)(n:ByteArray)(st:ISt) :
  ICall prog gl 86 [x,n] st (λr st'=>r=(mq s n:Bool)/\st'=st):=by
 obtain⟨t1,x1,t2,O,rfl,e1,i1,e2,i2⟩:=hx;have h1:=λst=>yP gl 122 [.cptr n] (by simp only[go_sem]) s.l (λf=>memB (frF f) n) (λa D y E st=>D9 gl T a y E (hs.1 a D) (G.1 a D) n st) t1 x1 e1 i1 st;have h2:=λst=>yP gl 122 [.cptr n] (by simp only[go_sem]) s.r (λf=>memB (frF f) n) (λa D y E st=>D9 gl T a y E (hs.2 a D) (G.2 a D) n st) t2 O e2 i2 st;refine ICall.intro (c:=cf prog gl [] [] [3]) func86 rfl (by show _<=17;simp) (by kernel_rfl) ?_;simp only[go_sem,zE,zA];refine (h1 _).q ?_;cases J:s.l.any λf=>memB (frF f) n
 ·simp only[go_sem,zE,zA];refine (h2 _).q ?_;simp only[go_sem,zE];exact c_ ⟨by simp[mq,J],rfl⟩
 ·simp only[go_sem,zE];exact c_ ⟨by simp[mq,J],rfl⟩
def D_ (f:Fm)(l:Sb):(il f l).1.size<=400:=by
 unfold il;split
 ·split
  ·rename_i h;simp only[bAt,dTe] at h;exact h.1
  ·show fm0.size<=400;decide
 ·show fm0.size<=400;decide
def qc:IsFm fm0 (.agg [.raw (.int .u8 0),.raw (.string ⟨#[]⟩),(),()]):=DB _ _ (.inl rfl) (.inl rfl)
def Ea {sub:List Fm}{xs:List IV}(h:IsFms sub xs)(k:Nat):∃y,IsFm ((sub[k]?).getD fm0) y/\(sub.length<=k->y=.agg [.raw (.int .u8 0),.raw (.string ⟨#[]⟩),(),()])/\(k<sub.length->xs[k]?=some y):=by
 by_cases D:k<sub.length
 ·obtain⟨a,E⟩:=dD D;obtain⟨y,G,J⟩:=h.get E;exact⟨y,by rw[E];exact J,λhc=>by omega,λ_=>G⟩
 ·exact⟨_,by rw[lA (by omega)];exact qc,λ_=>rfl,λhc=>absurd hc D⟩
def AdR (st:ISt)(q:List Sq×Nat)(r:IV)(st':ISt):Prop:=∃D xs,r=.tup [.sl D xs,q.2]/\okEs D 2/\IsSqs q.1 xs/\st'=st
def AdRD (st:ISt)(q:List Sq×Nat)(r:IV)(st':ISt):Prop:=∃D xs,r=.tup [.sl D xs,q.2]/\okEs D 2/\appT q.1.length D/\IsSqsD q.1 xs/\st'=st
def AdRD.w {st:ISt}{q:List Sq×Nat}(r:IV)(st':ISt):AdRD st q r st'->AdR st q r st':=λ⟨D,xs,h1,h2,_,G,E⟩=>⟨D,xs,h1,h2,G.w,E⟩
def uP {o:Nat}{n:ByteArray}{us:List Tm}{sub:List Fm}(h:(Fm.mk o n us sub).size<=1000000)(k:Nat):((sub[k]?).getD fm0).size<=1000000:=by
 cases D:sub[k]? with
 | none=>show fm0.size<=1000000;decide
 | some a =>
  have:=(j8 D).2;simp only[Fm.size] at h;show a.size<=1000000;omega
def Eb {ca rule:Nat}{r:Rw}{D:Fm}{term:Tm}{name:ByteArray}(h:fmB ca D=true)(E:r.op=0\/D.op=r.op):fQ ca rule r D term name =
  if r.asks=0 then (addS ca rule D ((D.subs[0]?).getD fm0) ((D.subs[1]?).getD fm0),0)
  else if !(if r.asks=2 then Tm.mk true name [] else term).ok then ([],193)
  else if (il ((D.subs[0]?).getD fm0) [(D.nm,if r.asks=2 then Tm.mk true name [] else term)]).2≠0 then ([],193)
  else (addS ca rule D (il ((D.subs[0]?).getD fm0) [(D.nm,if r.asks=2 then Tm.mk true name [] else term)]).1 ((D.subs[1]?).getD fm0),0):=by
 have e:(!fmB ca D || (decide (r.op≠0)&&decide (D.op≠r.op)))=false:=by
  rw[h];rcases E with E|E<;>simp[E]
 simp only[fQ,e,bFt,dE]
set_option maxHeartbeats 2000000 in
def Ec (G:Gl gl)(T:Gt gl)(ca rule:Nat)(r:Rw)(hr:rowS ca rule=some r)(D:Fm)(y:IV)(hy:IsFm D y)(hm:D.size<=1000000)(term:Tm)(z:IV)(hz:IsTm term z)(ht:term.size<=1000000)(name:ByteArray)(st:ISt) :
  ICall prog gl 84 [rwI ca rule r,.raw (.int .u8 ca),y,z,name] st (AdRD st (fQ ca rule r D term name)):=by
 obtain⟨ac,ab⟩:=ML gl hr;have hf:=λst=>yO gl G ca D y hy hm st;obtain⟨rl,rr,op,asks⟩:=r;obtain⟨o,n,us,sub⟩:=D;have ay:=hy;obtain⟨t1,x1,t2,x2,rfl,ho,e1,i1,e2,i2⟩:=hy.mk;obtain⟨v,un,tz,xz,rfl⟩:∃v un tz xz,z=.agg [.raw (.bool v),.raw (.string un),.sl tz xz]:=by
  obtain⟨v,un,us⟩:=term;obtain⟨tz,xz,rfl,_⟩:=hz.mk;exact⟨_,_,_,_,rfl⟩
 obtain⟨z1,af,aw,av⟩:=Ea i2 0;obtain⟨z2,ae,aa,au⟩:=Ea i2 1;have hE:fmB ca (.mk o n us sub)=false->fQ ca rule ⟨rl,rr,op,asks⟩ (.mk o n us sub) term name=([],192):=λh=>by simp only[fQ,h];rfl
 refine iI func84 ?_;simp only[go_sem,zE,zA,zL,rwI];refine (hf _).q ?_;cases aj:fmB ca (.mk o n us sub)
 ·simp only[go_sem,zE];exact c_ (by rw[hE aj];exact⟨_,_,rfl,.inl rfl,.inl rfl,rfl,rfl⟩)
 by_cases J:op=0\/o=op
 case neg =>
  have O:fQ ca rule ⟨rl,rr,op,asks⟩ (.mk o n us sub) term name=([],192):=by
   have e:(!fmB ca (.mk o n us sub) || (decide (op≠0)&&decide ((Fm.mk o n us sub).op≠op)))=true:=by
    simp only[Fm.op,aj];simp only[not_or] at J;simp[J]
   simp only[fQ,e,dJ]
  simp only[not_or] at J;have d1:decide ((op:Int)=0)=false:=dEf (by omega);have d2:decide ((o:Int)=(op:Int))=false:=dEf (by omega);simp only[go_sem,zE,zA,d1,d2];exact c_ (by rw[O];exact⟨_,_,rfl,.inl rfl,.inl rfl,rfl,rfl⟩)
 obtain⟨aD,E⟩:∃b,decide ((op:Int)=0)=b:=⟨_,rfl⟩
 have aO:aD=false->decide ((o:Int)=(op:Int))=true:=λh=>by
  subst E;have:=gE h;exact dEt (by omega)
 have aA:=J;replace J:(⟨rl,rr,op,asks⟩:Rw).op=0\/(Fm.mk o n us sub).op=(⟨rl,rr,op,asks⟩:Rw).op:=aA;by_cases aM:0<sub.length
 rotate_left
 have l0:decide ((0:Int)<(sub.length:Int))=false:=dEf (by omega);have l1:decide ((1:Int)<(sub.length:Int))=false:=dEf (by omega);have g0:=l0;have g1:=l0;obtain rfl:=aw (by omega);obtain rfl:=aa (by omega)
 rotate_left
 have l0:decide ((0:Int)<(sub.length:Int))=true:=dEt (by omega);have g0:=av aM;obtain⟨o3,n3,t3,x3,t4,x4,rfl⟩:=af.agg;by_cases aL:1<sub.length;have l1:decide ((1:Int)<(sub.length:Int))=true:=dEt (by omega);have g1:=au aL;obtain⟨o5,n5,t5,x5,t6,x6,rfl⟩:=ae.agg
 rotate_left
 have l1:decide ((1:Int)<(sub.length:Int))=false:=dEf (by omega);have g1:=g0;obtain rfl:=aa (by omega)
 all_goals cases aD
 all_goals (first|have al:=aO rfl|have al:=E)
 all_goals
  have O:=Eb (rule:=rule) (r:=⟨rl,rr,op,asks⟩) (term:=term) (name:=name) aj J;by_cases aC:asks=0
  ·have d0:decide ((asks:Int)=0)=true:=dEt (by omega);simp only[cX aC,Fm.subs] at O;simp only[go_sem,zE,zB,zA,zL,E,al,l0,l1,i2.len,g0,g1,dB e2,jD,ja,(show (0:Int)<=1 by decide),(show Int.toNat 1=1 from rfl),d0,fits,ab];intros;refine (ac _ _ _ _ _ _ ay af ae hm (uP hm 0) (uP hm 1) _).mono ?_;rintro _ _ ⟨tg,xs,rfl,he,am,ag,rfl⟩;simp only[go_sem,zE];exact c_ (by rw[O];exact⟨_,_,rfl,he,am,ag,rfl⟩)
  have d0:decide ((asks:Int)=0)=false:=dEf (by omega);by_cases aB:asks=2;have d2:decide ((asks:Int)=2)=true:=dEt (by omega);obtain⟨w,az,hw,ah⟩:∃w,(if asks=2 then Tm.mk true name [] else term)=w/\IsTm w (.agg [true,name,()])/\w.size<=1000000:=⟨_,cX aB,⟨_,_,rfl,.inl rfl,rfl⟩,by show 1<=_;decide⟩
  rotate_left
  have d2:decide ((asks:Int)=2)=false:=dEf (by omega);obtain⟨w,az,hw,ah⟩:∃w,(if asks=2 then Tm.mk true name [] else term)=w/\IsTm w _/\w.size<=1000000:=⟨_,a_ aB,hz,ht⟩
  all_goals
   simp only[a_ aC,az,Fm.subs,Fm.nm] at O;simp only[go_sem,zE,zB,zA,zL,E,al,l0,l1,i2.len,g0,g1,dB e2,jD,ja,(show (0:Int)<=1 by decide),(show Int.toNat 1=1 from rfl),d0,d2,fits];intros;refine (CD gl w _ hw ah _).q ?_;cases hk:Tm.ok w
   ·simp only[hk,Bool.not_false,dJ] at O;simp only[go_sem,zE];exact c_ (by rw[O];exact⟨_,_,rfl,.inl rfl,.inl rfl,rfl,rfl⟩)
   simp only[go_sem,zE,zA,zL];refine (LY gl G T _ _ af (uP hm 0) n w _ hw ah _).mono ?_;rintro _ _ ⟨y3,rfl,ax,rfl⟩;have aI:=ax;obtain⟨o8,n8,t8,x8,t9,x9,rfl⟩:=ax.agg;by_cases he:(il ((sub[0]?).getD fm0) [(n,w)]).2=0
   ·simp only[hk,ly,bFt,dE,he,ne_eq,nTf] at O;simp only[go_sem,zE,zA,zL,he,ab,show decide (((0:Nat):Int)=0)=true from rfl];refine (ac _ _ _ _ _ _ ay aI ae hm (dN (D_ _ _) (by decide)) (uP hm 1) _).mono ?_;rintro _ _ ⟨tg,xs,rfl,he,am,ag,rfl⟩;simp only[go_sem,zE];exact c_ (by rw[O];exact⟨_,_,rfl,he,am,ag,rfl⟩)
   ·simp only[hk,ly,bFt,dE,ne_eq,he,nFt,dJ] at O;simp only[go_sem,zE,zA,zL,dEf (show ¬ ((il ((sub[0]?).getD fm0) [(n,w)]).2:Int)=0 by omega)];exact c_ (by rw[O];exact⟨_,_,rfl,.inl rfl,.inl rfl,rfl,rfl⟩)
def MP {ca:Nat}{s:Sq}(h:en ca s=true):(∀f∈s.l,f.right=true)/\∀f∈s.r,f.right=true:=by
 unfold en at h;simp only[bAt,eF] at h;obtain⟨⟨⟨_,G⟩,E⟩,_⟩:=h;have key:∀f,fmB ca f=true->f.right=true:=λf D=>by
  unfold fmB at D;simp only[bAt] at D;exact D.1
 exact⟨λf D=>key f (G f D),λf D=>key f (E f D)⟩
def MQ (G:Gl gl)(T:Gt gl)(ca:Nat)(s:Sq)(x:IV)(hx:IsSq s x)(hs:fY s)(rule:Nat)(D:Fm)(y:IV)(hy:IsFm D y)(hm:D.size<=1000000)(term:Tm)(z:IV)(hz:IsTm term z)(ht:term.size<=1000000)(name:ByteArray)(st:ISt) :
  ICall prog gl 65 [.raw (.int .u8 ca),x,.raw (.int .u8 rule),y,z,name] st (AdRD st (fU ca s rule D term name)):=by
 have hV:=λst=>uO gl G ca s x hx hs st;have hF:=λhr st=>MO gl T s x hx hs hr name st;obtain⟨t1,x1,t2,x2,rfl,e1,i1,e2,i2⟩:=hx;have aw:=λst=>uM gl G s.l D t1 x1 y e1 i1 hy hs.1 hm st;have av:=λst=>uM gl G s.r D t2 x2 y e2 i2 hy hs.2 hm st;have hA:=λr hr st=>Ec gl G T ca rule r hr D y hy hm term z hz ht name st;obtain⟨o3,n3,t3,x3,t4,x4,rfl⟩:=hy.agg;obtain⟨v,un,tz,xz,rfl⟩:∃v un tz xz,z=.agg [.raw (.bool v),.raw (.string un),.sl tz xz]:=by
  obtain⟨v,un,us⟩:=term;obtain⟨tz,xz,rfl,_⟩:=hz.mk;exact⟨_,_,_,_,rfl⟩
 refine iI func65 ?_;simp only[go_sem,zE,zA,zL,reduceCtorEq];refine (hV _).q ?_;cases hv:en ca s
 ·simp only[go_sem,zE];exact c_ (by unfold fU;rw[hv];exact⟨_,_,rfl,.inl rfl,.inl rfl,rfl,rfl⟩)
 have O:=MP hv;simp only[go_sem,zA,reduceCtorEq];refine (D7 gl ca _).mono ?_;rintro _ _ ⟨b,hb,rfl,rfl⟩;cases hr:rowS ca rule with
 | none =>
  have E:fU ca s rule D term name=([],191):=by unfold fU;rw[hv,hr];rfl
  simp only[go_sem,zE,zA,zL,b_,uN,hr,gD,sZ];exact eI (fb hb) (by rw[E];exact⟨_,_,rfl,.inl rfl,.inl rfl,rfl,rfl⟩)
 | some r =>
  have J:=hA r hr;obtain⟨rl,rr,op,asks⟩:=r;have E:fU ca s rule D term name=if decide ((fQ ca rule ⟨rl,rr,op,asks⟩ D term name).2=192) || (rl&&!hasF s.l D) || (rr&&!hasF s.r D) then ([],192)
    else if (fQ ca rule ⟨rl,rr,op,asks⟩ D term name).2≠0 then ([],(fQ ca rule ⟨rl,rr,op,asks⟩ D term name).2)
    else if decide (asks=2)&&mq s name then ([],193) else ((fQ ca rule ⟨rl,rr,op,asks⟩ D term name).1,0):=by unfold fU;rw[hv,hr];rfl
  generalize fQ ca rule ⟨rl,rr,op,asks⟩ D term name=q at E J;obtain⟨qs,qe⟩:=q;simp only at E;simp only[go_sem,zE,zA,zL,reduceCtorEq,b_,uN,hr,eJ,vS,rwI];refine (J _).mono ?_;rintro _ _ ⟨tg,xs,rfl,he,aj,ai,rfl⟩;by_cases ac:qe=192
  ·have d:decide ((qe:Int)=192)=true:=dEt (by omega);have aq:fU ca s rule D term name=([],192):=by rw[E,ac];rfl
   simp only[go_sem,zE,d];exact eI (fb hb) (by rw[aq];exact⟨_,_,rfl,.inl rfl,.inl rfl,rfl,rfl⟩)
  have d:decide ((qe:Int)=192)=false:=dEf (by omega);have ag:decide (qe=192)=false:=dEf ac;rw[ag,Bool.false_or] at E;cases rl
  rotate_left
  simp only[go_sem,zE,zA,zL,d];refine (aw _).q ?_;cases h4:hasF s.l D
  ·simp only[go_sem,zE];rw[h4] at E;exact eI (fb hb) (by rw[E];exact⟨_,_,rfl,.inl rfl,.inl rfl,rfl,rfl⟩)
  rw[h4] at E
  rotate_left
  all_goals cases rr
  all_goals try
   simp only[go_sem,zE,zA,zL,d];refine (av _).q ?_;cases h5:hasF s.r D
   ·simp only[go_sem,zE];rw[h5] at E;exact eI (fb hb) (by rw[E];exact⟨_,_,rfl,.inl rfl,.inl rfl,rfl,rfl⟩)
   rw[h5] at E
  all_goals
   simp only[oq,Bool.and_false,ly,Bool.or_false,bFt,dE] at E;by_cases h0:qe=0
   ·subst h0;simp only[ne_eq,nTf,dE] at E;by_cases ha:asks=2
    ·have da:decide ((asks:Int)=2)=true:=dEt (by omega);simp only[go_sem,zE,zA,zL,d,da,show decide (((0:Nat):Int)=0)=true from rfl];refine (hF O _).q ?_;rw[dEt ha,iZ] at E;cases hf:mq s name
     ·simp only[go_sem,zE];rw[hf] at E;exact eI (fb hb) (by rw[E];exact⟨_,_,rfl,he,aj,ai,rfl⟩)
     ·simp only[go_sem,zE];rw[hf] at E;exact eI (fb hb) (by rw[E];exact⟨_,_,rfl,.inl rfl,.inl rfl,rfl,rfl⟩)
    ·have da:decide ((asks:Int)=2)=false:=dEf (by omega);rw[dEf ha,oq] at E;simp only[go_sem,zE,zA,d,da,show decide (((0:Nat):Int)=0)=true from rfl];exact eI (fb hb) (by rw[E];exact⟨_,_,rfl,he,aj,ai,rfl⟩)
   ·have d0:decide ((qe:Int)=0)=false:=dEf (by omega);rw[cX h0] at E;simp only[go_sem,zE,zA,d,d0];exact eI (fb hb) (by rw[E];exact⟨_,_,rfl,.inl rfl,.inl rfl,rfl,rfl⟩)
def MR (G:Gl gl)(T:Gt gl)(ca:Nat)(s:Sq)(x:IV)(O:IsSq s x)(hs:fY s)(rule:Nat)(D:Fm)(y:IV)(J:IsFm D y)(hm:D.size<=1000000)(term:Tm)(z:IV)(E:IsTm term z)(ht:term.size<=1000000)(name:ByteArray)(st:ISt) :
  ICall prog gl 65 [.raw (.int .u8 ca),x,.raw (.int .u8 rule),y,z,name] st (AdR st (fU ca s rule D term name)) :=
 (MQ gl G T ca s x O hs rule D y J hm term z E ht name st).mono AdRD.w
