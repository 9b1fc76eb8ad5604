/- Walks: formulas and sequents of a calcul -/
import Derived.Test.YtopmhkmegkpkdaaGreatDoorQA
set_option linter.all false
open Nat renaming reduceEqDiff → zE,reduceBEq → zB,reduceAdd → zA,reduceMul → zM,reduceLeDiff → zL
namespace Go.Proofs.Tryz
open Go Go.Iv
set_option maxRecDepth 4000
variable (gl:Nat->Option IV)
def fitL (l:List Fm):Prop:=∀f∈l,f.size<=1000000
def yu (ca:Nat)(st:ISt):ICall prog gl 93 [.raw (.int .u8 ca)] st (λr st'=>r=(j6 ca:Bool)/\st'=st):=by
 refine iI func93 ?_;by_cases h1:1<=ca
 ·have A:decide (1<=(ca:Int))=true:=dEt (by omega);by_cases h2:ca<=3
  ·have D:decide ((ca:Int)<=3)=true:=dEt (by omega);simp only[go_sem,zE,reduceCtorEq,A,D];exact cO ⟨by simp[j6,h1,h2],rfl⟩
  ·have D:decide ((ca:Int)<=3)=false:=dEf (by omega);simp only[go_sem,zE,reduceCtorEq,A,D];exact cO ⟨by simp[j6,h2],rfl⟩
 ·have A:decide (1<=(ca:Int))=false:=dEf (by omega);simp only[go_sem,zE,reduceCtorEq,A];exact cO ⟨by simp[j6,h1],rfl⟩
def sOp (f:Fm):Prop:=∀(ca:Nat) (x:IV) (_:IsFm f x) (st:ISt),ICall prog gl 231 [.raw (.int .u8 ca),x] st (λr st'=>r=(opsB ca f:Bool)/\st'=st)
def rX (ca:Nat):∀l m:List Fm,gG ca (l++m)=(gG ca l&&gG ca m)
 | [],m=>by simp[gG]
 | a::l,m=>by simp only[dX,gG,rX ca l m,me]
def yv {ca:Nat}{l:List Fm}{a:Fm}(A:a∈l)(h:opsB ca a=false):gG ca l=false:=by
 obtain⟨p,q,rfl⟩:=List.append_of_mem A;rw[rX];simp[gG,h]
def Nn (o:Nat)(n:ByteArray)(us:List Tm)(sub:List Fm)(IH:∀a∈sub,sOp gl a):sOp gl (.mk o n us sub):=by
 intro ca x hx st;obtain⟨t1,x1,t2,x2,rfl,ho,ay,ah,ai,W⟩:=hx.mk;have loop:∀(last:Nat) (az:(decide (1<=o)&&decide (o<=if ca=3 then 9 else 7)&&(decide (ca=3) || us.isEmpty))=true),opsB ca (.mk o n us sub)=gG ca sub:=λ_ h=>by
  simp only[opsB,h,eM]
 refine iI func231 ?_;by_cases h1:1<=o
 ·have e1:decide ((o:Int)<1)=false:=dEf (by omega);by_cases E:ca=3
  ·have U:decide ((ca:Int)=3)=true:=dEt (by omega);by_cases h2:o<=9
   ·have e2:decide ((9:Int)<(o:Int))=false:=dEf (by omega);have hl:=loop 9 (by simp[h1,h2,E]);simp only[go_sem,zE,zA,reduceCtorEq,e1,e2,U,W.len];intro _;refine cV sub.length (λk fr st' ds=>gG ca (sub.take k)=true/\fr 0=.iv (.raw (.int .u8 ca))/\fr 30=.iv (.sl t2 x2)/\fr 31=sub.length/\fr 32=.iv (.raw (.int .i64 k))/\st'=st/\ds=[]) ?_ ?_ ?_
    ·simp only[go_sem,zE,reduceCtorEq];simp[gG]
    ·rintro k fr O _ A ⟨hn,f0,f30,f31,f32,rfl,rfl⟩;obtain⟨a,ha⟩:=dd A;obtain⟨y,af,hy⟩:=W.get ha;have D:=IH a (lMg ha) ca y hy O;obtain⟨o5,n5,t5,x5,t6,x6,rfl⟩:=hy.agg;simp only[go_sem,zE,zB,zA,zL,reduceCtorEq,f0,f30,f31,f32,lt_i A,dc ai,iNn,af,fits];refine D.mono ?_;rintro _ _ ⟨rfl,rfl⟩;cases hr:opsB ca a
     ·simp only[go_sem];exact cO ⟨by rw[hl,yv (lMg ha) hr],rfl⟩
     ·simp only[go_sem,zE,reduceCtorEq,f0,f30,f31,f32,df A (by omega)];rw[dK ha,rX,hn];simp[gG,hr]
    ·rintro fr O _ ⟨hn,f0,f30,f31,f32,rfl,rfl⟩;rw[lTl] at hn;simp only[go_sem,f31,f32,dD (nLi _)];exact cO ⟨by rw[hl,hn],rfl⟩
   ·have e2:decide ((9:Int)<(o:Int))=true:=dEt (by omega);simp only[go_sem,zE,zA,reduceCtorEq,e1,e2,U];exact cO ⟨by simp[opsB,h2,E],rfl⟩
  ·have U:decide ((ca:Int)=3)=false:=dEf (by omega);by_cases h2:o<=7
   ·have e2:decide ((7:Int)<(o:Int))=false:=dEf (by omega);by_cases hu:us=[]
    ·subst hu;have e4:decide ((0:Int)<((0:Nat):Int))=false:=rfl;have hl:=loop 7 (by simp[h1,h2,E]);simp only[go_sem,zE,zA,zL,reduceCtorEq,e1,e2,U,e4,ah.len,W.len];intro _;refine cV sub.length (λk fr st' ds=>gG ca (sub.take k)=true/\fr 0=.iv (.raw (.int .u8 ca))/\fr 30=.iv (.sl t2 x2)/\fr 31=sub.length/\fr 32=.iv (.raw (.int .i64 k))/\st'=st/\ds=[]) ?_ ?_ ?_
     ·simp only[go_sem,zE,reduceCtorEq];simp[gG]
     ·rintro k fr O _ A ⟨hn,f0,f30,f31,f32,rfl,rfl⟩;obtain⟨a,ha⟩:=dd A;obtain⟨y,af,hy⟩:=W.get ha;have D:=IH a (lMg ha) ca y hy O;obtain⟨o5,n5,t5,x5,t6,x6,rfl⟩:=hy.agg;simp only[go_sem,zE,zB,zA,zL,reduceCtorEq,f0,f30,f31,f32,lt_i A,dc ai,iNn,af,fits];refine D.mono ?_;rintro _ _ ⟨rfl,rfl⟩;cases hr:opsB ca a
      ·simp only[go_sem];exact cO ⟨by rw[hl,yv (lMg ha) hr],rfl⟩
      ·simp only[go_sem,zE,reduceCtorEq,f0,f30,f31,f32,df A (by omega)];rw[dK ha,rX,hn];simp[gG,hr]
     ·rintro fr O _ ⟨hn,f0,f30,f31,f32,rfl,rfl⟩;rw[lTl] at hn;simp only[go_sem,f31,f32,dD (nLi _)];exact cO ⟨by rw[hl,hn],rfl⟩
    ·have aq:0<us.length:=List.length_pos_iff.2 hu;have e4:decide ((0:Int)<(us.length:Int))=true:=dEt (by omega);simp only[go_sem,zE,zA,reduceCtorEq,e1,e2,U,e4,ah.len];intro _;exact cO ⟨by simp[opsB,E,hu],rfl⟩
   ·have e2:decide ((7:Int)<(o:Int))=true:=dEt (by omega);simp only[go_sem,zE,zA,reduceCtorEq,e1,e2,U];exact cO ⟨by simp[opsB,E,h2],rfl⟩
 ·have e1:decide ((o:Int)<1)=true:=dEt (by omega);by_cases E:ca=3
  ·have U:decide ((ca:Int)=3)=true:=dEt (by omega);simp only[go_sem,zE,zA,reduceCtorEq,e1,U];exact cO ⟨by simp[opsB,h1],rfl⟩
  ·have U:decide ((ca:Int)=3)=false:=dEf (by omega);simp only[go_sem,zE,zA,reduceCtorEq,e1,U];exact cO ⟨by simp[opsB,h1],rfl⟩
def Ek:∀(k:Nat)(f:Fm),SizeOf.sizeOf f<k->sOp gl f
 | 0,f,h=>by omega
 | k+1,.mk o n us sub,h=>Nn gl o n us sub (λa A=>Ek k a (by
   have:=lSm A;simp only[Fm.mk.sizeOf_spec] at h;omega))
def No (f:Fm):sOp gl f:=Ek gl _ f (dM _)
def yx (G:Gl gl)(ca:Nat)(f:Fm)(x:IV)(hx:IsFm f x)(D:f.size<=1000000)(st:ISt) :
  ICall prog gl 187 [.raw (.int .u8 ca),x] st (λr st'=>r=(fmB ca f:Bool)/\st'=st):=by
 have h1:=λst=>rz gl G f x hx st D;have h2:=λst=>No gl f ca x hx st;obtain⟨U,W,t5,O,t6,E,rfl⟩:=hx.agg;refine iI func187 ?_;simp only[go_sem,zE,zA,zL];refine (h1 _).q ?_;cases A:f.right
 ·simp only[go_sem,zE];exact cO ⟨by simp[fmB,A],rfl⟩
 ·simp only[go_sem,zE,zA,zL,reduceCtorEq];refine (h2 _).q ?_;simp only[go_sem,zE];exact cO ⟨by simp[fmB,A],rfl⟩
def El (G:Gl gl)(f g:Fm)(x y:IV)(hx:IsFm f x)(E:IsFm g y)(W:f.size<=1000000)(A:g.size<=1000000)(st:ISt) :
  ICall prog gl 200 [x,y] st (λr st'=>r=(eqF f g:Bool)/\st'=st):=by
 have h1:=λst=>La gl G f g x y hx E W A st;obtain⟨o,n,us,sub⟩:=f;obtain⟨o',n',U,D⟩:=g;obtain⟨t1,x1,t2,x2,rfl,_⟩:=hx.mk;obtain⟨t3,x3,t4,x4,rfl,_⟩:=E.mk;refine iI func200 ?_;by_cases O:o=o'
 ·subst O;simp only[go_sem,zE,zA,zL,dR];refine (h1 _).q ?_;simp only[go_sem,zE];exact cO ⟨by simp[eqF,Fm.op],rfl⟩
 ·have e:decide ((o:Int)=(o':Int))=false:=dEf (by omega);simp only[go_sem,zE,zA,e];exact cO ⟨by simp[eqF,Fm.op,O],rfl⟩
def Np (g:FuncId)(A:List IV)(he:entI prog g=true)(us:List Fm)(p:Fm->Bool)(hp:∀a∈us,∀x,IsFm a x->∀st,ICall prog gl g (x::A) st (λr st'=>r=(p a:Bool)/\st'=st))
  (tg:Tag) (xs:List IV) (ae:okEs tg 4) (U:IsFms us xs) (st:ISt) :
  ICall prog gl 241 [.sl tg xs,.fn (.func g) [] A] st (λr st'=>(∃n:Int,r=n/\decide (0<=n)=us.any p)/\st'=st):=by
 refine iI func241 ?_;simp only[go_sem,reduceCtorEq,U.len];intro _;refine cV us.length (λk fr st' ds=>(us.take k).any p=false/\fr 0=.iv (.sl tg xs)/\fr 1=.iv (.fn (.func g) [] A)/\fr 7=us.length/\fr 8=.iv (.raw (.int .i64 k))/\st'=st/\ds=[]) ?_ ?_ ?_
 ·simp only[go_sem,zE,reduceCtorEq];exact⟨rfl,rfl⟩
 ·rintro k fr O _ D ⟨W,f0,f1,f7,f8,rfl,rfl⟩;obtain⟨a,ha⟩:=dd D;obtain⟨y,af,hy⟩:=U.get ha;have E:=hp a (lMg ha) y hy O;obtain⟨o5,n5,t5,x5,t6,x6,rfl⟩:=hy.agg;simp only[go_sem,zE,zB,zA,reduceCtorEq,f0,f1,f7,f8,lt_i D,dc ae,iNn,af,fits,he];refine E.mono ?_;rintro _ _ ⟨rfl,rfl⟩;cases hr:p a
  ·simp only[go_sem,zE,reduceCtorEq,f0,f1,f7,f8,df D (by omega)];rw[dK ha,List.any_append,W];simp[hr]
  ·simp only[go_sem,zE];refine cO ⟨⟨_,rfl,?_⟩,rfl⟩;rw[dEt (iNn k)];exact (jm.2 ⟨a,lMg ha,hr⟩).symm
 ·rintro fr O _ ⟨W,f0,f1,f7,f8,rfl,rfl⟩;rw[lTl] at W;simp only[go_sem,f7,f8,dD (nLi _)];exact cO ⟨⟨_,rfl,by rw[W];rfl⟩,rfl⟩
def yy (g:FuncId)(A:List IV)(he:entI prog g=true)(us:List Fm)(p:Fm->Bool)(hp:∀a∈us,∀x,IsFm a x->∀st,ICall prog gl g (x::A) st (λr st'=>r=(p a:Bool)/\st'=st))
  (E:Tag) (D:List IV) (U:okEs E 4) (O:IsFms us D) (st:ISt) :
  ICall prog gl 201 [.sl E D,.fn (.func g) [] A] st (λr st'=>r=(us.any p:Bool)/\st'=st):=by
 refine iI func201 ?_;simp only[go_sem,zE,zA,reduceCtorEq];refine (Np gl g A he us p hp E D U O _).mono ?_;rintro _ _ ⟨⟨n,rfl,W⟩,rfl⟩;simp only[go_sem,W];exact cO ⟨rfl,rfl⟩
def Nq (G:Gl gl)(f g:Fm)(x y:IV)(hx:IsFm f x)(D:IsFm g y)(E:f.size<=1000000)(A:g.size<=1000000)(st:ISt) :
  ICall prog gl 202 [y,.cptr x] st (λr st'=>r=(eqF f g:Bool)/\st'=st):=by
 have h1:=λst=>El gl G f g x y hx D E A st;obtain⟨o5,n5,t5,x5,t6,W,rfl⟩:=hx.agg;obtain⟨o7,n7,t7,U,t8,O,rfl⟩:=D.agg;refine iI func202 ?_;simp only[go_sem,zE,zA,zL,fits];refine (h1 _).q ?_;simp only[go_sem];exact cO ⟨rfl,rfl⟩
def yz (G:Gl gl)(l:List Fm)(f:Fm)(D:Tag)(A:List IV)(x:IV)(O:okEs D 4)(E:IsFms l A)(hx:IsFm f x)(hl:fitL l)(W:f.size<=1000000)(st:ISt) :
  ICall prog gl 172 [.sl D A,x] st (λr st'=>r=(hasF l f:Bool)/\st'=st):=by
 have h1:=λst=>yy gl 202 [.cptr x] (by simp only[go_sem]) l (eqF f) (λa ha y U st=>Nq gl G f a x y hx U W (hl a ha) st) D A O E st;obtain⟨o5,n5,t5,x5,t6,x6,rfl⟩:=hx.agg;refine ICall.intro (c:=cf prog gl [] [] [3]) func172 rfl (by show _<=8;simp) (by kernel_rfl) ?_;simp only[go_sem,zE,zA,reduceCtorEq];refine (h1 _).q ?_;simp only[go_sem];exact cO ⟨rfl,rfl⟩
def Em (G:Gl gl)(l m:List Fm)(t U:Tag)(xs ys:List IV)(ht:okEs t 4)(ac:okEs U 4)(O:IsFms l xs)(hys:IsFms m ys)(hl:fitL l)(hm:fitL m)(st:ISt) :
  ICall prog gl 174 [.sl t xs,.sl U ys] st (λr st'=>r=(allF l m:Bool)/\st'=st):=by
 refine iI func174 ?_;simp only[go_sem,reduceCtorEq,O.len];intro _;refine cV l.length (λk fr st' ds=>(l.take k).all (hasF m)=true/\fr 1=.iv (.sl U ys)/\fr 7=.iv (.sl t xs)/\fr 8=l.length/\fr 9=.iv (.raw (.int .i64 k))/\st'=st/\ds=[]) ?_ ?_ ?_
 ·simp only[go_sem,zE];rfl
 ·rintro k fr E _ A ⟨W,f1,f7,f8,f9,rfl,rfl⟩;obtain⟨a,ha⟩:=dd A;obtain⟨y,ae,hy⟩:=O.get ha;have D:=yz gl G m a U ys y ac hys hy hm (hl a (lMg ha)) E;obtain⟨o5,n5,t5,x5,t6,x6,rfl⟩:=hy.agg;simp only[go_sem,zE,zB,zA,zL,f1,f7,f8,f9,lt_i A,dc ht,iNn,ae,fits];refine D.mono ?_;rintro _ _ ⟨rfl,rfl⟩;cases hr:hasF m a
  ·simp only[go_sem];refine cO ⟨?_,rfl⟩;have:allF l m=false:=by
    unfold allF;rw[lA];exact⟨a,lMg ha,by simp[hr]⟩
   rw[this]
  ·simp only[go_sem,zE,f1,f7,f8,f9,df A (by omega)];rw[dK ha,List.all_append,W];simp[hr]
 ·rintro fr E _ ⟨W,f1,f7,f8,f9,rfl,rfl⟩;rw[lTl] at W;simp only[go_sem,f8,f9,dD (nLi _)];exact cO ⟨by rw[show allF l m=true from W],rfl⟩
def iQ (s:Sq):Prop:=fitL s.l/\fitL s.r
def Nr (G:Gl gl)(a b:Sq)(x y:IV)(hx:IsSq a x)(hy:IsSq b y)(E:iQ a)(D:iQ b)(st:ISt):ICall prog gl 132 [x,y] st (λr st'=>r=(kV a b:Bool)/\st'=st):=by
 obtain⟨t1,x1,t2,W,rfl,e1,i1,e2,i2⟩:=hx;obtain⟨t3,U,t4,O,rfl,e3,i3,e4,i4⟩:=hy;refine iI func132 ?_;simp only[go_sem,zE,zA];refine (Em gl G a.l b.l t1 t3 x1 U e1 e3 i1 i3 E.1 D.1 _).q ?_;cases A:allF a.l b.l
 ·simp only[go_sem,zE];exact cO ⟨by simp[kV,A],rfl⟩
 ·simp only[go_sem,zE,zA];refine (Em gl G a.r b.r t2 t4 W O e2 e4 i2 i4 E.2 D.2 _).q ?_;simp only[go_sem,zE];exact cO ⟨by simp[kV,A],rfl⟩
def l9 (a b:Int)(v:IV):∀es:List (Value×IV),e8 (.int .u8 a) (updI (.int .u8 b) v es)=if a=b then some v else e8 (.int .u8 a) es
 | []=>by
  simp only[updI,e8,f_];by_cases h:a=b<;>simp[h]
 | (x,u)::es=>by
  simp only[updI];by_cases A:f_ (.int .u8 b) x=true
  ·rw[b_ A];have hx:∀c,f_ (.int .u8 c) x=decide (c=b):=λc=>by
    cases x<;>simp[f_] at A ⊢;rw[A]
   have e:f_ (.int .u8 a) (.int .u8 b)=decide (a=b):=rfl;simp only[e8,e,hx];by_cases h:a=b<;>simp[h]
  ·rw[a_ A];simp only[e8];rw[l9 a b v es];by_cases h:a=b
   ·subst h;simp[A]
   ·simp[h]
def mE (ca rule:Nat):Nat :=
 if ca=2/\rule=18 then 183 else if ca=2/\rule=8 then 181
 else if rule=13\/rule=15 then 184 else if rule=14\/rule=16 then 186
 else if rule=1 then 216 else if rule=2 then 217 else if rule=3 then 218 else if rule=4 then 219
 else if rule=5 then 220 else if rule=6 then 221 else if rule=7 then 222 else if rule=8 then 223
 else if rule=9 then 224 else if rule=10 then 225 else if rule=11 then 227 else if rule=12 then 229
 else 230
def rwI (ca rule:Nat)(r:Rw):IV:=.agg [r.left,r.right,.raw (.int .u8 r.op),.raw (.int .u8 r.asks),.fn (.func (mE ca rule)) [] []]
def rwL (a b:Bool)(op asks id:Nat):IV:=.agg [a,b,.raw (.int .u8 op),.raw (.int .u8 asks),.fn (.func id) [] []]
def qt:List (Value×IV) :=
 updI (.int .u8 17) (rwL false false 0 0 230) <| updI (.int .u8 12) (rwL false true 7 0 229) <| updI (.int .u8 11) (rwL true false 7 0 227) <|
 updI (.int .u8 10) (rwL false true 6 0 225) <| updI (.int .u8 9) (rwL true false 6 0 224) <| updI (.int .u8 8) (rwL false true 5 0 223) <|
 updI (.int .u8 7) (rwL true false 5 0 222) <| updI (.int .u8 6) (rwL false true 4 0 221) <| updI (.int .u8 5) (rwL true false 4 0 220) <|
 updI (.int .u8 4) (rwL false true 3 0 219) <| updI (.int .u8 3) (rwL true false 3 0 218) <| updI (.int .u8 2) (rwL true false 2 0 217) <|
 updI (.int .u8 1) (rwL true true 0 0 216) []
def nv (ca:Nat):List (Value×IV) :=
 if ca=2 then updI (.int .u8 18) (rwL false true 5 0 183) <| updI (.int .u8 8) (rwL false true 5 0 181) qt
 else if ca=3 then updI (.int .u8 16) (rwL false true 9 1 186) <| updI (.int .u8 15) (rwL true false 9 2 184) <| updI (.int .u8 14) (rwL false true 8 2 186) <|
  updI (.int .u8 13) (rwL true false 8 1 184) qt
 else qt
def Ns (st:ISt):ICall prog gl 180 [] st (λr st'=>∃b,st b=none/\r=.raw (.map (some b))/\st'=st.put b (some (.map (.int .u8) qt))):=by
 refine iI func180 ?_;simp only[go_sem,zE,zA,zL,fits];refine λb=>eB λA=>?_;simp only[go_sem,eZ];exact cO ⟨b,A,rfl,rfl⟩
def En (ca:Nat)(st:ISt):ICall prog gl 136 [.raw (.int .u8 ca)] st (λr st'=>∃b,st b=none/\r=.raw (.map (some b))/\st'=st.put b (some (.map (.int .u8) (nv ca)))):=by
 refine iI func136 ?_;simp only[go_sem,zA];refine (Ns gl _).mono ?_;rintro _ _ ⟨b,D,rfl,rfl⟩;by_cases h2:ca=2
 ·have A:decide ((ca:Int)=2)=true:=dEt (by omega);simp only[go_sem,zE,zA,zL,reduceCtorEq,A,fits,cT,eZ];exact cO ⟨b,D,rfl,by rw[nv,b_ h2];rfl⟩
 ·have A:decide ((ca:Int)=2)=false:=dEf (by omega);by_cases O:ca=3
  ·have E:decide ((ca:Int)=3)=true:=dEt (by omega);simp only[go_sem,zE,zA,zL,reduceCtorEq,A,E,fits,cT,eZ];exact cO ⟨b,D,rfl,by rw[nv,a_ h2,b_ O];rfl⟩
  ·have E:decide ((ca:Int)=3)=false:=dEf (by omega);simp only[go_sem,zE,reduceCtorEq,A,E];exact cO ⟨b,D,rfl,by rw[nv,a_ h2,a_ O]⟩
def Nt (rule:Nat):e8 (.int .u8 rule) qt=(rowK rule).map λr=>.agg [.raw (.bool r.left),.raw (.bool r.right),.raw (.int .u8 r.op),.raw (.int .u8 r.asks),.fn (.func (mE 1 rule)) [] []]:=by
 unfold qt;simp only[l9];by_cases h:rule<=18
 ·rcases (show rule=0\/rule=1\/rule=2\/rule=3\/rule=4\/rule=5\/rule=6\/rule=7\/rule=8\/rule=9\/rule=10\/rule=11\/rule=12\/rule=13\/rule=14\/rule=15\/rule=16\/rule=17\/rule=18 by omega) with
   rfl|rfl|rfl|rfl|rfl|rfl|rfl|rfl|rfl|rfl|rfl|rfl|rfl|rfl|rfl|rfl|rfl|rfl|rfl<;>rfl
 ·have A:rowK rule=none:=by unfold rowK;repeat (rw[a_ (by omega)])
  rw[A]
  repeat (rw[a_ (by omega)])
  rfl
def tV (ca rule:Nat):e8 (.int .u8 rule) (nv ca)=(rowS ca rule).map (rwI ca rule):=by
 have hp:=Nt rule;by_cases h:rule<=18
 ·have D:rule=0\/rule=1\/rule=2\/rule=3\/rule=4\/rule=5\/rule=6\/rule=7\/rule=8\/rule=9\/rule=10\/rule=11\/rule=12\/rule=13\/rule=14\/rule=15\/rule=16\/rule=17\/rule=18:=by omega
  by_cases h2:ca=2
  ·subst h2;simp only[nv,dB,l9,hp];rcases D with rfl|rfl|rfl|rfl|rfl|rfl|rfl|rfl|rfl|rfl|rfl|rfl|rfl|rfl|rfl|rfl|rfl|rfl|rfl<;>rfl
  ·by_cases E:ca=3
   ·subst E;simp only[nv,dB,a_ h2,l9,hp];rcases D with rfl|rfl|rfl|rfl|rfl|rfl|rfl|rfl|rfl|rfl|rfl|rfl|rfl|rfl|rfl|rfl|rfl|rfl|rfl<;>rfl
   ·have A:rowS ca rule=rowK rule:=by
     unfold rowS;rw[a_ (by omega),a_ (by omega),a_ (by omega),a_ (by omega),a_ (by omega)]
    have W:∀r,rowK rule=some r->mE 1 rule=mE ca rule:=λ_ _=>by
     unfold mE;rw[a_ (by omega),a_ (by omega)]
     conv=>rhs;rw[a_ (by omega),a_ (by omega)]
    simp only[nv,a_ h2,a_ E,hp,A];cases O:rowK rule with
    | none=>rfl
    | some r=>simp only[fg,rwI,W r O]
 ·have U:rowS ca rule=none:=by
   unfold rowS;rw[a_ (by omega),a_ (by omega),a_ (by omega),a_ (by omega),a_ (by omega)];unfold rowK;repeat (rw[a_ (by omega)])
  have A:rowK rule=none:=by unfold rowK;repeat (rw[a_ (by omega)])
  rw[A] at hp;rw[U];unfold nv;split
  ·simp only[l9,hp];repeat (rw[a_ (by omega)])
   rfl
  ·split
   ·simp only[l9,hp];repeat (rw[a_ (by omega)])
    rfl
   ·rw[hp];rfl
def Nu {ca rule:Nat}{r:Rw}(h:rowS ca rule=some r):AddOk gl (mE ca rule) (addS ca rule)/\entI prog (mE ca rule)=true:=by
 have hr:rule<=18:=by
  refine fL λhc=>?_;have E:rowS ca rule=none:=by
   unfold rowS;rw[a_ (by omega),a_ (by omega),a_ (by omega),a_ (by omega),a_ (by omega)];unfold rowK;repeat (rw[a_ (by omega)])
  rw[E] at h;cases h
 have A:rule=0\/rule=1\/rule=2\/rule=3\/rule=4\/rule=5\/rule=6\/rule=7\/rule=8\/rule=9\/rule=10\/rule=11\/rule=12\/rule=13\/rule=14\/rule=15\/rule=16\/rule=17\/rule=18:=by omega
 by_cases h2:ca=2
 ·subst h2;rcases A with rfl|rfl|rfl|rfl|rfl|rfl|rfl|rfl|rfl|rfl|rfl|rfl|rfl|rfl|rfl|rfl|rfl|rfl|rfl
  all_goals first|(cases h;done)|exact⟨xD gl,by kernel_rfl⟩|exact⟨xE gl,by kernel_rfl⟩|exact⟨xF gl,by kernel_rfl⟩|exact⟨xG gl,by kernel_rfl⟩|exact⟨xH gl,by kernel_rfl⟩|exact⟨xI gl,by kernel_rfl⟩|exact⟨xJ gl,by kernel_rfl⟩|exact⟨xK gl,by kernel_rfl⟩|exact⟨xO gl,by kernel_rfl⟩|exact⟨xM gl,by kernel_rfl⟩|exact⟨xU gl,by kernel_rfl⟩|exact⟨xW gl,by kernel_rfl⟩|exact⟨xV gl,by kernel_rfl⟩|exact⟨xN gl,by kernel_rfl⟩|exact⟨xP gl,by kernel_rfl⟩|exact⟨xQ gl,by kernel_rfl⟩|exact⟨xT gl,by kernel_rfl⟩
 ·by_cases W:ca=3
  ·subst W;rcases A with rfl|rfl|rfl|rfl|rfl|rfl|rfl|rfl|rfl|rfl|rfl|rfl|rfl|rfl|rfl|rfl|rfl|rfl|rfl
   all_goals first|(cases h;done)|exact⟨xD gl,by kernel_rfl⟩|exact⟨xE gl,by kernel_rfl⟩|exact⟨xF gl,by kernel_rfl⟩|exact⟨xG gl,by kernel_rfl⟩|exact⟨xH gl,by kernel_rfl⟩|exact⟨xI gl,by kernel_rfl⟩|exact⟨xJ gl,by kernel_rfl⟩|exact⟨xK gl,by kernel_rfl⟩|exact⟨xO gl,by kernel_rfl⟩|exact⟨xM gl,by kernel_rfl⟩|exact⟨xU gl,by kernel_rfl⟩|exact⟨xW gl,by kernel_rfl⟩|exact⟨xV gl,by kernel_rfl⟩|exact⟨xN gl,by kernel_rfl⟩|exact⟨xP gl,by kernel_rfl⟩|exact⟨xQ gl,by kernel_rfl⟩|exact⟨xT gl,by kernel_rfl⟩
  ·have O:rowS ca rule=rowS 1 rule:=by
    unfold rowS;rw[a_ (by omega),a_ (by omega),a_ (by omega),a_ (by omega),a_ (by omega)]
    conv=>rhs;rw[a_ (by omega),a_ (by omega),a_ (by omega),a_ (by omega),a_ (by omega)]
   have U:mE ca rule=mE 1 rule:=by
    unfold mE;rw[a_ (by omega),a_ (by omega)]
    conv=>rhs;rw[a_ (by omega),a_ (by omega)]
   have D:addS ca rule=addS 1 rule:=by
    funext m a b;unfold addS;rw[a_ h2,a_ (show ¬ (1:Nat)=2 by decide)]
   rw[O] at h;rw[U,D];rcases A with rfl|rfl|rfl|rfl|rfl|rfl|rfl|rfl|rfl|rfl|rfl|rfl|rfl|rfl|rfl|rfl|rfl|rfl|rfl
   all_goals first|(cases h;done)|exact⟨xD gl,by kernel_rfl⟩|exact⟨xE gl,by kernel_rfl⟩|exact⟨xF gl,by kernel_rfl⟩|exact⟨xG gl,by kernel_rfl⟩|exact⟨xH gl,by kernel_rfl⟩|exact⟨xI gl,by kernel_rfl⟩|exact⟨xJ gl,by kernel_rfl⟩|exact⟨xK gl,by kernel_rfl⟩|exact⟨xO gl,by kernel_rfl⟩|exact⟨xM gl,by kernel_rfl⟩|exact⟨xU gl,by kernel_rfl⟩|exact⟨xW gl,by kernel_rfl⟩|exact⟨xV gl,by kernel_rfl⟩|exact⟨xN gl,by kernel_rfl⟩|exact⟨xP gl,by kernel_rfl⟩|exact⟨xQ gl,by kernel_rfl⟩|exact⟨xT gl,by kernel_rfl⟩
noncomputable def rB (ca:Nat)(a0 f:Fm):Bool:=fmB ca f&&(decide (ca≠2) || eqF f a0)
def Eo (ca:Nat)(a0:Fm):∀l:List Fm,l.all (rB ca a0)=(l.all (fmB ca)&&(decide (ca≠2) || l.all λf=>eqF f a0))
 | []=>by simp
 | f::l=>by
  simp only[List.all_cons,Eo ca a0 l,rB];cases fmB ca f<;>cases l.all (fmB ca)<;>cases decide (ca≠2)<;>simp
def Nv (ca:Nat)(s:Sq):j7 ca s=(j6 ca&&decide (s.l.length<=64)&&decide (s.r.length<=64)&&s.l.all (fmB ca)&&s.r.all (rB ca (s.r.headD fm0))):=by
 rw[Eo];unfold j7 Dm;cases s.r with
 | nil=>simp
 | cons a l=>simp only[List.headD_cons,me]
def Nw (G:Gl gl)(ca:Nat)(s:Sq)(x:IV)(hx:IsSq s x)(hs:iQ s)(st:ISt):ICall prog gl 171 [.raw (.int .u8 ca),x] st (λr st'=>r=(j7 ca s:Bool)/\st'=st):=by
 obtain⟨l,r⟩:=s;obtain⟨t1,x1,t2,x2,rfl,e1,i1,e2,i2⟩:=hx;obtain⟨hl,E⟩:=hs;simp only at i1 i2 hl E;rw[Nv];simp only;refine iI func171 ?_;simp only[go_sem,zA,reduceCtorEq];refine (yu gl ca _).q ?_;cases hk:j6 ca
 ·simp only[go_sem,zE];exact cO ⟨by simp,rfl⟩
 by_cases h1:l.length<=64
 case neg =>
  have e:decide ((64:Int)<(l.length:Int))=true:=dEt (by omega);simp only[go_sem,zE,i1.len,e];intro _;exact cO ⟨by simp[h1],rfl⟩
 by_cases h2:r.length<=64
 case neg =>
  have e:decide ((64:Int)<(l.length:Int))=false:=dEf (by omega);have e':decide ((64:Int)<(r.length:Int))=true:=dEt (by omega);simp only[go_sem,zE,i1.len,i2.len,e,e'];intro _ _;exact cO ⟨by simp[h2],rfl⟩
 have e:decide ((64:Int)<(l.length:Int))=false:=dEf (by omega);have e':decide ((64:Int)<(r.length:Int))=false:=dEf (by omega);simp only[go_sem,zE,i1.len,i2.len,e,e'];intros;refine cV l.length (λk fr st' ds=>(l.take k).all (fmB ca)=true/\fr 0=.iv (.raw (.int .u8 ca))/\fr 3=.box [.sl t1 x1,.sl t2 x2]/\fr 25=.iv (.sl t1 x1)/\fr 26=l.length/\fr 27=.iv (.raw (.int .i64 k))/\st'=st/\ds=[]) ?_ ?_ ?_
 ·simp only[go_sem,zE,reduceCtorEq]
  first|rfl|exact⟨rfl,rfl⟩
 ·rintro k fr aa _ A ⟨hn,f0,f3,f25,f26,f27,rfl,rfl⟩;obtain⟨a,O⟩:=dd A;obtain⟨y,ab,hy⟩:=i1.get O;have D:=yx gl G ca a y hy (hl a (lMg O)) aa;obtain⟨o5,n5,t5,x5,t6,x6,rfl⟩:=hy.agg;simp only[go_sem,zE,zB,zA,zL,reduceCtorEq,f0,f25,f26,f27,lt_i A,dc e1,iNn,ab,fits];refine D.mono ?_;rintro _ _ ⟨rfl,rfl⟩;cases E:fmB ca a
  ·simp only[go_sem];refine cO ⟨?_,rfl⟩;have:l.all (fmB ca)=false:=lA.2 ⟨a,lMg O,by simp[E]⟩;simp[this]
  ·simp only[go_sem,zE,reduceCtorEq,f0,f3,f25,f26,f27,df A (by omega)];rw[dK O,List.all_append,hn];simp[E]
 ·rintro fr aa _ ⟨hn,f0,f3,f25,f26,f27,rfl,rfl⟩;rw[lTl] at hn;simp only[go_sem,zE,f3,f26,f27,i2.len,dD (nLi _)];intro _;refine cV r.length (λk fr st' ds=>(r.take k).all (rB ca (r.headD fm0))=true/\fr 0=.iv (.raw (.int .u8 ca))/\fr 3=.box [.sl t1 x1,.sl t2 x2]/\fr 37=.iv (.sl t2 x2)/\fr 38=.iv (.raw (.int .i64 r.length))/\fr 39=.iv (.raw (.int .i64 k))/\st'=aa/\ds=[]) ?_ ?_ ?_
  ·simp only[go_sem,zE,reduceCtorEq,f0,f3]
   first|rfl|exact⟨rfl,rfl⟩
  ·rintro k fr ae _ A ⟨hm,f0,f3,f37,f38,f39,rfl,rfl⟩;obtain⟨a,O⟩:=dd A;obtain⟨y,ab,hy⟩:=i2.get O;obtain⟨a0,U⟩:=dd (show 0<r.length by omega);obtain⟨y0,ah,af⟩:=i2.get U;have ao:r.headD fm0=a0:=by cases r with|nil=>cases U|cons b r=>simpa using U
   have D:=yx gl G ca a y hy (E a (lMg O)) ae;have an:=λst=>El gl G a a0 y y0 hy af (E a (lMg O)) (E a0 (lMg U)) st;rw[ao] at hm ⊢;have W:rB ca a0 a=false->r.all (rB ca a0)=false:=λhb=>lA.2 ⟨a,lMg O,by simp[hb]⟩;have ai:rB ca a0 a=true->(r.take (k+1)).all (rB ca a0)=true:=λhb=>by
    rw[dK O,List.all_append,hm];simp[hb]
   obtain⟨o5,n5,t5,x5,t6,x6,rfl⟩:=hy.agg;obtain⟨o7,n7,t7,x7,t8,x8,rfl⟩:=af.agg;simp only[go_sem,zE,zB,zA,zL,reduceCtorEq,f0,f37,f38,f39,lt_i A,dc e2,iNn,ab,fits];refine D.mono ?_;rintro _ _ ⟨rfl,rfl⟩;cases E:fmB ca a
   ·simp only[go_sem,zE];exact cO ⟨by rw[W (by simp[rB,E])];simp,rfl⟩
   by_cases hj:ca=2
   ·have ej:decide ((ca:Int)=2)=true:=dEt (by omega);simp only[go_sem,zE,zB,zA,zL,reduceCtorEq,ej,f0,f3,dc e2,ah,fits,Int.le_refl,Int.toNat_zero];refine (an _).q ?_;cases hq:eqF a a0
    ·simp only[go_sem,zE];exact cO ⟨by rw[W (by simp[rB,hj,hq])];simp,rfl⟩
    ·simp only[go_sem,zE,reduceCtorEq,f0,f3,f37,f38,f39,df A (by omega)];exact ai (by simp[rB,E,hq])
   ·have ej:decide ((ca:Int)=2)=false:=dEf (by omega);simp only[go_sem,zE,reduceCtorEq,ej,f0,f3,f37,f38,f39,df A (by omega)];exact ai (by simp[rB,E,hj])
  ·rintro fr ae _ ⟨hm,f0,f3,f37,f38,f39,rfl,rfl⟩;rw[lTl] at hm;simp only[go_sem,f38,f39,dD (nLi _)];exact cO ⟨by rw[hn,hm];simp[h1,h2],rfl⟩
def Nx (U:Tag)(E:okEs U 1)(l:List ByteArray)(s:ByteArray)(st:ISt):ICall prog gl 204 [.sl U (strI l),s] st (λr st'=>r=(memB l s:Bool)/\st'=st):=by
 have O:ICall prog gl 242 [.sl U (strI l),s] st (λr st'=>(∃n:Int,r=n/\decide (0<=n)=memB l s)/\st'=st):=by
  refine iI func242 ?_;simp only[go_sem,reduceCtorEq,JE];intro _;refine cV l.length (λk fr st' ds=>memB (l.take k) s=false/\fr 0=.iv (.sl U (strI l))/\fr 1=s/\fr 7=.iv (.raw (.int .i64 l.length))/\fr 8=.iv (.raw (.int .i64 k))/\st'=st/\ds=[]) ?_ ?_ ?_
  ·simp only[go_sem,zE,reduceCtorEq];exact⟨rfl,rfl⟩
  ·rintro k fr aa _ A ⟨D,f0,f1,f7,f8,rfl,rfl⟩;obtain⟨a,W⟩:=dd A;by_cases hr:s=a
   ·subst hr;simp only[go_sem,zE,reduceCtorEq,f0,f1,f7,f8,lt_i A,dc E,iNn,BK W,fits,dR];refine cO ⟨⟨_,rfl,?_⟩,rfl⟩;rw[dEt (iNn k)];exact (yJg.2 (lMg W)).symm
   ·simp only[go_sem,zE,reduceCtorEq,f0,f1,f7,f8,lt_i A,dc E,iNn,BK W,fits,dEf hr,df A (by omega)];rw[zKb] at D ⊢;rw[dK W,eX,fD];rintro (h|h)
    ·exact D h
    ·exact hr h
  ·rintro fr aa _ ⟨D,f0,f1,f7,f8,rfl,rfl⟩;rw[lTl] at D;simp only[go_sem,f7,f8,dD (nLi _)];exact cO ⟨⟨_,rfl,by rw[D];rfl⟩,rfl⟩
 refine iI func204 ?_;simp only[go_sem,zE,zA,reduceCtorEq];refine O.mono ?_;rintro _ _ ⟨⟨n,rfl,D⟩,rfl⟩;simp only[go_sem,D];exact cO ⟨rfl,rfl⟩
def Ep (T:Gt gl)(f:Fm)(y:IV)(D:IsFm f y)(hs:f.size<=1000000)(W:f.right=true)(s:ByteArray)(st:ISt) :
  ICall prog gl 203 [y,.cptr s] st (λr st'=>r=(memB (frF f) s:Bool)/\st'=st):=by
 have h1:=λst=>K_ gl T f y D (by omega) (λq O=>by have:=Lm (CW f (oT W).1 q O);omega) st;obtain⟨o5,n5,t5,x5,t6,x6,rfl⟩:=D.agg;refine ICall.intro (c:=cf prog gl [] [(1,[0,2,1,3,4])]) func203 rfl (by show _<=8;simp) (by kernel_rfl) ?_;simp only[go_sem,zE,zA,zL,fits];refine (h1 _).mono ?_;rintro _ _ ⟨E,l,rfl,A,U,rfl⟩;simp only[go_sem,zE,zA];refine (Nx gl E A l s _).q ?_;simp only[go_sem];refine cO ⟨?_,rfl⟩;have:memB l s=memB (frF f) s:=by
  rw[mf,yJg,yJg];exact U.2 s
 rw[this]
def Ny (T:Gt gl)(s:Sq)(x:IV)(hx:IsSq s x)(E:iQ s)(O:(∀f∈s.l,f.right=true)/\∀f∈s.r,f.right=true)(n:ByteArray)(st:ISt) :
  ICall prog gl 173 [x,n] st (λr st'=>r=(qh s n:Bool)/\st'=st):=by
 obtain⟨t1,x1,t2,W,rfl,e1,i1,e2,i2⟩:=hx;have h1:=λst=>yy gl 203 [.cptr n] (by simp only[go_sem]) s.l (λf=>memB (frF f) n) (λa A y D st=>Ep gl T a y D (E.1 a A) (O.1 a A) n st) t1 x1 e1 i1 st;have h2:=λst=>yy gl 203 [.cptr n] (by simp only[go_sem]) s.r (λf=>memB (frF f) n) (λa A y D st=>Ep gl T a y D (E.2 a A) (O.2 a A) n st) t2 W e2 i2 st;refine ICall.intro (c:=cf prog gl [] [] [3]) func173 rfl (by show _<=17;simp) (by kernel_rfl) ?_;simp only[go_sem,zE,zA];refine (h1 _).q ?_;cases U:s.l.any λf=>memB (frF f) n
 ·simp only[go_sem,zE,zA];refine (h2 _).q ?_;simp only[go_sem,zE];exact cO ⟨by simp[qh,U],rfl⟩
 ·simp only[go_sem,zE];exact cO ⟨by simp[qh,U],rfl⟩
def Er (f:Fm)(l:Sb):(gV f l).1.size<=400:=by
 unfold gV;split
 ·split
  ·rename_i h;simp only[bAt,dTe] at h;exact h.1
  ·show fm0.size<=400;decide
 ·show fm0.size<=400;decide
def yA:IsFm fm0 (.agg [.raw (.int .u8 0),.raw (.string ⟨#[]⟩),(),()]):=tF _ _ (.inl rfl) (.inl rfl)
def Es {sub:List Fm}{A:List IV}(h:IsFms sub A)(k:Nat):∃y,IsFm ((sub[k]?).getD fm0) y/\(sub.length<=k->y=.agg [.raw (.int .u8 0),.raw (.string ⟨#[]⟩),(),()])/\(k<sub.length->A[k]?=some y):=by
 by_cases D:k<sub.length
 ·obtain⟨a,E⟩:=dd D;obtain⟨y,O,U⟩:=h.get E;exact⟨y,by rw[E];exact U,λhc=>by omega,λ_=>O⟩
 ·exact⟨_,by rw[lF (by omega)];exact yA,λ_=>rfl,λhc=>absurd hc D⟩
def AdR (st:ISt)(q:List Sq×Nat)(r:IV)(st':ISt):Prop:=∃D A,r=.tup [.sl D A,q.2]/\okEs D 2/\IsSqs q.1 A/\st'=st
def AdRD (st:ISt)(q:List Sq×Nat)(r:IV)(st':ISt):Prop:=∃A D,r=.tup [.sl A D,q.2]/\okEs A 2/\appT q.1.length A/\IsSqsD q.1 D/\st'=st
def AdRD.w {st:ISt}{q:List Sq×Nat}(r:IV)(st':ISt):AdRD st q r st'->AdR st q r st':=λ⟨D,A,h1,h2,_,O,E⟩=>⟨D,A,h1,h2,O.w,E⟩
def tW {o:Nat}{n:ByteArray}{us:List Tm}{sub:List Fm}(h:(Fm.mk o n us sub).size<=1000000)(k:Nat):((sub[k]?).getD fm0).size<=1000000:=by
 cases A:sub[k]? with
 | none=>show fm0.size<=1000000;decide
 | some a =>
  have:=(jK A).2;simp only[Fm.size] at h;show a.size<=1000000;omega
def Nz {ca rule:Nat}{r:Rw}{A:Fm}{term:Tm}{name:ByteArray}(h:fmB ca A=true)(D:r.op=0\/A.op=r.op):gW ca rule r A term name =
  if r.asks=0 then (addS ca rule A ((A.subs[0]?).getD fm0) ((A.subs[1]?).getD fm0),0)
  else if !(if r.asks=2 then Tm.mk true name [] else term).ok then ([],193)
  else if (gV ((A.subs[0]?).getD fm0) [(A.nm,if r.asks=2 then Tm.mk true name [] else term)]).2≠0 then ([],193)
  else (addS ca rule A (gV ((A.subs[0]?).getD fm0) [(A.nm,if r.asks=2 then Tm.mk true name [] else term)]).1 ((A.subs[1]?).getD fm0),0):=by
 have e:(!fmB ca A || (decide (r.op≠0)&&decide (A.op≠r.op)))=false:=by
  rw[h];rcases D with D|D<;>simp[D]
 simp only[gW,e,bFt,dJ]
set_option maxHeartbeats 2000000 in
def Et (G:Gl gl)(T:Gt gl)(ca rule:Nat)(r:Rw)(hr:rowS ca rule=some r)(A:Fm)(y:IV)(hy:IsFm A y)(hm:A.size<=1000000)(term:Tm)(z:IV)(hz:IsTm term z)(ht:term.size<=1000000)(name:ByteArray)(st:ISt) :
  ICall prog gl 137 [rwI ca rule r,.raw (.int .u8 ca),y,z,name] st (AdRD st (gW ca rule r A term name)):=by
 obtain⟨aa,W⟩:=Nu gl hr;have hf:=λst=>yx gl G ca A y hy hm st;obtain⟨rl,rr,op,asks⟩:=r;obtain⟨o,n,us,sub⟩:=A;have aw:=hy;obtain⟨t1,x1,t2,x2,rfl,ho,e1,i1,e2,i2⟩:=hy.mk;obtain⟨v,un,tz,xz,rfl⟩:∃v un tz xz,z=.agg [.raw (.bool v),.raw (.string un),.sl tz xz]:=by
  obtain⟨v,un,us⟩:=term;obtain⟨tz,xz,rfl,_⟩:=hz.mk;exact⟨_,_,_,_,rfl⟩
 obtain⟨z1,ac,au,ar⟩:=Es i2 0;obtain⟨z2,ab,U,aq⟩:=Es i2 1;have hE:fmB ca (.mk o n us sub)=false->gW ca rule ⟨rl,rr,op,asks⟩ (.mk o n us sub) term name=([],192):=λh=>by simp only[gW,h];rfl
 refine iI func137 ?_;simp only[go_sem,zE,zA,zL,rwI];refine (hf _).q ?_;cases ah:fmB ca (.mk o n us sub)
 ·simp only[go_sem,zE];exact cO (by rw[hE ah];exact⟨_,_,rfl,.inl rfl,.inl rfl,rfl,rfl⟩)
 by_cases E:op=0\/o=op
 case neg =>
  have O:gW ca rule ⟨rl,rr,op,asks⟩ (.mk o n us sub) term name=([],192):=by
   have e:(!fmB ca (.mk o n us sub) || (decide (op≠0)&&decide ((Fm.mk o n us sub).op≠op)))=true:=by
    simp only[Fm.op,ah];simp only[not_or] at E;simp[E]
   simp only[gW,e,dB]
  simp only[not_or] at E;have d1:decide ((op:Int)=0)=false:=dEf (by omega);have d2:decide ((o:Int)=(op:Int))=false:=dEf (by omega);simp only[go_sem,zE,zA,d1,d2];exact cO (by rw[O];exact⟨_,_,rfl,.inl rfl,.inl rfl,rfl,rfl⟩)
 obtain⟨aB,D⟩:∃b,decide ((op:Int)=0)=b:=⟨_,rfl⟩
 have aM:aB=false->decide ((o:Int)=(op:Int))=true:=λh=>by
  subst D;have:=ft h;exact dEt (by omega)
 have ay:=E;replace E:(⟨rl,rr,op,asks⟩:Rw).op=0\/(Fm.mk o n us sub).op=(⟨rl,rr,op,asks⟩:Rw).op:=ay;by_cases aK:0<sub.length
 rotate_left
 have l0:decide ((0:Int)<(sub.length:Int))=false:=dEf (by omega);have l1:decide ((1:Int)<(sub.length:Int))=false:=dEf (by omega);have g0:=l0;have g1:=l0;obtain rfl:=au (by omega);obtain rfl:=U (by omega)
 rotate_left
 have l0:decide ((0:Int)<(sub.length:Int))=true:=dEt (by omega);have g0:=ar aK;obtain⟨o3,n3,t3,x3,t4,x4,rfl⟩:=ac.agg;by_cases aJ:1<sub.length;have l1:decide ((1:Int)<(sub.length:Int))=true:=dEt (by omega);have g1:=aq aJ;obtain⟨o5,n5,t5,x5,t6,x6,rfl⟩:=ab.agg
 rotate_left
 have l1:decide ((1:Int)<(sub.length:Int))=false:=dEf (by omega);have g1:=g0;obtain rfl:=U (by omega)
 all_goals cases aB
 all_goals (first|have aj:=aM rfl|have aj:=D)
 all_goals
  have O:=Nz (rule:=rule) (r:=⟨rl,rr,op,asks⟩) (term:=term) (name:=name) ah E;by_cases aA:asks=0
  ·have d0:decide ((asks:Int)=0)=true:=dEt (by omega);simp only[b_ aA,Fm.subs] at O;simp only[go_sem,zE,zB,zA,zL,D,aj,l0,l1,i2.len,g0,g1,dc e2,Int.le_refl,Int.toNat_zero,(show (0:Int)<=1 by decide),(show Int.toNat 1=1 from rfl),d0,fits,W];intros;refine (aa _ _ _ _ _ _ aw ac ab hm (tW hm 0) (tW hm 1) _).mono ?_;rintro _ _ ⟨tg,xs,rfl,he,ak,ae,rfl⟩;simp only[go_sem,zE];exact cO (by rw[O];exact⟨_,_,rfl,he,ak,ae,rfl⟩)
  have d0:decide ((asks:Int)=0)=false:=dEf (by omega);by_cases az:asks=2;have d2:decide ((asks:Int)=2)=true:=dEt (by omega);obtain⟨w,ax,hw,af⟩:∃w,(if asks=2 then Tm.mk true name [] else term)=w/\IsTm w (.agg [true,name,()])/\w.size<=1000000:=⟨_,b_ az,⟨_,_,rfl,.inl rfl,rfl⟩,by show 1<=_;decide⟩
  rotate_left
  have d2:decide ((asks:Int)=2)=false:=dEf (by omega);obtain⟨w,ax,hw,af⟩:∃w,(if asks=2 then Tm.mk true name [] else term)=w/\IsTm w _/\w.size<=1000000:=⟨_,a_ az,hz,ht⟩
  all_goals
   simp only[a_ aA,ax,Fm.subs,Fm.nm] at O;simp only[go_sem,zE,zB,zA,zL,D,aj,l0,l1,i2.len,g0,g1,dc e2,Int.le_refl,Int.toNat_zero,(show (0:Int)<=1 by decide),(show Int.toNat 1=1 from rfl),d0,d2,fits];intros;refine (BX gl w _ hw af _).q ?_;cases hk:Tm.ok w
   ·simp only[hk,jQ,dB] at O;simp only[go_sem,zE];exact cO (by rw[O];exact⟨_,_,rfl,.inl rfl,.inl rfl,rfl,rfl⟩)
   simp only[go_sem,zE,zA,zL];refine (Ll gl G T _ _ ac (tW hm 0) n w _ hw af _).mono ?_;rintro _ _ ⟨y3,rfl,av,rfl⟩;have aG:=av;obtain⟨o8,n8,t8,x8,t9,x9,rfl⟩:=av.agg;by_cases he:(gV ((sub[0]?).getD fm0) [(n,w)]).2=0
   ·simp only[hk,fW,bFt,dJ,he,ne_eq,nTf] at O;simp only[go_sem,zE,zA,zL,he,W,show decide (((0:Nat):Int)=0)=true from rfl];refine (aa _ _ _ _ _ _ aw aG ab hm (eh (Er _ _) (by decide)) (tW hm 1) _).mono ?_;rintro _ _ ⟨tg,xs,rfl,he,ak,ae,rfl⟩;simp only[go_sem,zE];exact cO (by rw[O];exact⟨_,_,rfl,he,ak,ae,rfl⟩)
   ·simp only[hk,fW,bFt,dJ,ne_eq,he,nFt,dB] at O;simp only[go_sem,zE,zA,zL,dEf (show ¬ ((gV ((sub[0]?).getD fm0) [(n,w)]).2:Int)=0 by omega)];exact cO (by rw[O];exact⟨_,_,rfl,.inl rfl,.inl rfl,rfl,rfl⟩)
def NC {ca:Nat}{s:Sq}(h:j7 ca s=true):(∀f∈s.l,f.right=true)/\∀f∈s.r,f.right=true:=by
 unfold j7 at h;simp only[bAt,ed] at h;obtain⟨⟨⟨_,E⟩,D⟩,_⟩:=h;have key:∀f,fmB ca f=true->f.right=true:=λf A=>by
  unfold fmB at A;simp only[bAt] at A;exact A.1
 exact⟨λf A=>key f (E f A),λf A=>key f (D f A)⟩
def ND (G:Gl gl)(T:Gt gl)(ca:Nat)(s:Sq)(x:IV)(hx:IsSq s x)(hs:iQ s)(rule:Nat)(A:Fm)(y:IV)(hy:IsFm A y)(hm:A.size<=1000000)(term:Tm)(z:IV)(hz:IsTm term z)(ht:term.size<=1000000)(name:ByteArray)(st:ISt) :
  ICall prog gl 131 [.raw (.int .u8 ca),x,.raw (.int .u8 rule),y,z,name] st (AdRD st (ie ca s rule A term name)):=by
 have hV:=λst=>Nw gl G ca s x hx hs st;have hF:=λU st=>Ny gl T s x hx hs U name st;obtain⟨t1,x1,t2,x2,rfl,e1,i1,e2,i2⟩:=hx;have av:=λst=>yz gl G s.l A t1 x1 y e1 i1 hy hs.1 hm st;have au:=λst=>yz gl G s.r A t2 x2 y e2 i2 hy hs.2 hm st;have hA:=λr U st=>Et gl G T ca rule r U A y hy hm term z hz ht name st;obtain⟨o3,n3,t3,x3,t4,x4,rfl⟩:=hy.agg;obtain⟨v,un,tz,xz,rfl⟩:∃v un tz xz,z=.agg [.raw (.bool v),.raw (.string un),.sl tz xz]:=by
  obtain⟨v,un,us⟩:=term;obtain⟨tz,xz,rfl,_⟩:=hz.mk;exact⟨_,_,_,_,rfl⟩
 refine iI func131 ?_;simp only[go_sem,zE,zA,zL,reduceCtorEq];refine (hV _).q ?_;cases hv:j7 ca s
 ·simp only[go_sem,zE];exact cO (by unfold ie;rw[hv];exact⟨_,_,rfl,.inl rfl,.inl rfl,rfl,rfl⟩)
 have O:=NC hv;simp only[go_sem,zA,reduceCtorEq];refine (En gl ca _).mono ?_;rintro _ _ ⟨b,W,rfl,rfl⟩;cases U:rowS ca rule with
 | none =>
  have D:ie ca s rule A term name=([],191):=by unfold ie;rw[hv,U];rfl
  simp only[go_sem,zE,zA,zL,cT,tV,U,jv,uV];exact dZ (fj W) (by rw[D];exact⟨_,_,rfl,.inl rfl,.inl rfl,rfl,rfl⟩)
 | some r =>
  have E:=hA r U;obtain⟨rl,rr,op,asks⟩:=r;have D:ie ca s rule A term name=if decide ((gW ca rule ⟨rl,rr,op,asks⟩ A term name).2=192) || (rl&&!hasF s.l A) || (rr&&!hasF s.r A) then ([],192)
    else if (gW ca rule ⟨rl,rr,op,asks⟩ A term name).2≠0 then ([],(gW ca rule ⟨rl,rr,op,asks⟩ A term name).2)
    else if decide (asks=2)&&qh s name then ([],193) else ((gW ca rule ⟨rl,rr,op,asks⟩ A term name).1,0):=by unfold ie;rw[hv,U];rfl
  generalize gW ca rule ⟨rl,rr,op,asks⟩ A term name=q at D E;obtain⟨qs,qe⟩:=q;simp only at D;simp only[go_sem,zE,zA,zL,reduceCtorEq,cT,tV,U,fg,sA,rwI];refine (E _).mono ?_;rintro _ _ ⟨tg,xs,rfl,he,ah,ag,rfl⟩;by_cases aa:qe=192
  ·have d:decide ((qe:Int)=192)=true:=dEt (by omega);have aq:ie ca s rule A term name=([],192):=by rw[D,aa];rfl
   simp only[go_sem,zE,d];exact dZ (fj W) (by rw[aq];exact⟨_,_,rfl,.inl rfl,.inl rfl,rfl,rfl⟩)
  have d:decide ((qe:Int)=192)=false:=dEf (by omega);have ae:decide (qe=192)=false:=dEf aa;rw[ae,Bool.false_or] at D;cases rl
  rotate_left
  simp only[go_sem,zE,zA,zL,d];refine (av _).q ?_;cases h4:hasF s.l A
  ·simp only[go_sem,zE];rw[h4] at D;exact dZ (fj W) (by rw[D];exact⟨_,_,rfl,.inl rfl,.inl rfl,rfl,rfl⟩)
  rw[h4] at D
  rotate_left
  all_goals cases rr
  all_goals try
   simp only[go_sem,zE,zA,zL,d];refine (au _).q ?_;cases h5:hasF s.r A
   ·simp only[go_sem,zE];rw[h5] at D;exact dZ (fj W) (by rw[D];exact⟨_,_,rfl,.inl rfl,.inl rfl,rfl,rfl⟩)
   rw[h5] at D
  all_goals
   simp only[fk,i_,fW,Bool.or_false,bFt,dJ] at D;by_cases h0:qe=0
   ·subst h0;simp only[ne_eq,nTf,dJ] at D;by_cases ha:asks=2
    ·have da:decide ((asks:Int)=2)=true:=dEt (by omega);simp only[go_sem,zE,zA,zL,d,da,show decide (((0:Nat):Int)=0)=true from rfl];refine (hF O _).q ?_;rw[dEt ha,eM] at D;cases hf:qh s name
     ·simp only[go_sem,zE];rw[hf] at D;exact dZ (fj W) (by rw[D];exact⟨_,_,rfl,he,ah,ag,rfl⟩)
     ·simp only[go_sem,zE];rw[hf] at D;exact dZ (fj W) (by rw[D];exact⟨_,_,rfl,.inl rfl,.inl rfl,rfl,rfl⟩)
    ·have da:decide ((asks:Int)=2)=false:=dEf (by omega);rw[dEf ha,fk] at D;simp only[go_sem,zE,zA,d,da,show decide (((0:Nat):Int)=0)=true from rfl];exact dZ (fj W) (by rw[D];exact⟨_,_,rfl,he,ah,ag,rfl⟩)
   ·have d0:decide ((qe:Int)=0)=false:=dEf (by omega);rw[b_ h0] at D;simp only[go_sem,zE,zA,d,d0];exact dZ (fj W) (by rw[D];exact⟨_,_,rfl,.inl rfl,.inl rfl,rfl,rfl⟩)
def NF (G:Gl gl)(T:Gt gl)(ca:Nat)(s:Sq)(x:IV)(hx:IsSq s x)(U:iQ s)(rule:Nat)(A:Fm)(y:IV)(E:IsFm A y)(W:A.size<=1000000)(term:Tm)(z:IV)(D:IsTm term z)(O:term.size<=1000000)(name:ByteArray)(st:ISt) :
  ICall prog gl 131 [.raw (.int .u8 ca),x,.raw (.int .u8 rule),y,z,name] st (AdR st (ie ca s rule A term name)) :=
 (ND gl G T ca s x hx U rule A y E W term z D O name st).mono AdRD.w
def NG:lenI prog 3=none:=by kernel_rfl
def Eu (n:Nat):gK none (some 0) n=some (0,0):=by simp[gK]
def NH (n:Nat):gK none (some ((0:Nat):Int)) n=some (0,0):=Eu n
def NI (n:Nat)(U:n<=1099511627776)(st:ISt):ICall prog gl 133 [(),n] st (λr st' =>
  (n=0/\r=()/\st'=st)\/(∃g cap,st g=none/\n<=cap/\r=.raw (.slice (some ⟨g,0,none⟩) 0 cap)/\st'=st.put g (some (.box (List.replicate (cap*4) .junk))))):=by
 have h1:decide ((n:Int)<0)=false:=dEf (by omega);have h2:IntKind.i64.wrap ((0:Int)-((0:Nat):Int))=0:=rfl;have D:IntKind.i64.wrap ((n:Int)-0)=n:=w64 (by omega) (by omega);refine iI func133 ?_;by_cases E:n=0
 ·subst E;simp only[go_sem,zE,zL,reduceCtorEq,h1,h2,D,show decide ((0:Int)<((0:Nat):Int))=false from rfl];refine cO (.inl ?_);simp
 ·have O:decide ((0:Int)<(n:Int))=true:=dEt (by omega);simp only[go_sem,zE,zL,reduceCtorEq,h1,h2,D,O,Eu,NG];refine gv ⟨rfl,by omega,by show (n:Int)*72<=_;omega,by omega,by decide⟩ λg cap=>eB λA=>?_;obtain⟨A,hc⟩:=A;rw[jl] at hc;simp only[go_sem,zE,zL,reduceCtorEq,jl,NH,ite_self,fY,hc];exact cO (.inr ⟨g,cap,A,hc,rfl,rfl⟩)
def catL (l:List (Tag×List IV)):List IV:=l.flatMap (·.2)
def catI (l:List (Tag×List IV)):List IV:=l.map λp=>.sl p.1 p.2
def yB {l:List (Tag×List IV)}{k:Nat}{p:Tag×List IV}(h:l[k]?=some p):(catI l)[k]?=some (.sl p.1 p.2):=by simp[catI,en,h]
def pd {l:List (Tag×List IV)}{k:Nat}{p:Tag×List IV}(h:l[k]?=some p):catL (l.take (k+1))=catL (l.take k)++p.2:=by
 rw[dK h];simp[catL]
def tX (l:List (Tag×List IV))(k:Nat):(catL (l.take k)).length<=(catL l).length:=by
 conv=>rhs;rw[<- eF k l]
 unfold catL;rw[iu,lLa];omega
def pe:∀ {l:List Fm}{A:List IV},IsFms l A->∀y∈A,fits true 4 y=true
 | [],_,rfl,y,h=>by cases h
 | a::l,_,⟨x,A,rfl,hx,D⟩,y,h=>by
  rcases dC.1 h with rfl|h
  ·obtain⟨o,n,t,x,O,E,rfl⟩:=hx.agg;simp[fits,IV.one]
  ·exact pe D y h
def tY {y:IV}(h:fits true 4 y=true):y.cells.length=4:=(mQ h).2.1
def NJ {l:List IV}(h:∀y∈l,fits true 4 y=true):(l.flatMap IV.cells).length=l.length*4:=jZ l λx hx=>tY (h x hx)
def NK (l:List (Tag×List IV))(tt:Tag)(U:okEs tt 1)(O:∀p∈l,∀y∈p.2,fits true 4 y=true)(ai:(catL l).length<=1099511627776)(st:ISt) :
  ICall prog gl 100 [.sl tt (catI l)] st (λr st'=>(∃t,r=.sl t []/\okEs t 4/\catL l=[]/\st'=st) \/
   ∃g cap cs,st g=none/\(catL l).length<=cap/\cap*4<=cs.length/\cs.take ((catL l).length*4)=(catL l).flatMap IV.cells/\r=.raw (.slice (some ⟨g,0,none⟩) (catL l).length cap)/\st'=st.put g (some (.box cs))):=by
 have W:(catI l).length=l.length:=by simp[catI]
 have aA:∀y∈catL l,fits true 4 y=true:=λy hy=>by
  obtain⟨p,hp,hy⟩:=iy.1 hy;exact O p hp y hy
 refine iI func100 ?_;simp only[go_sem,reduceCtorEq,W];intro hl;refine cV l.length (λk fr st' ds=>fr 0=.iv (.sl tt (catI l))/\fr 3=.iv (.raw (.int .i64 (catL (l.take k)).length))/\fr 9=.iv (.sl tt (catI l))/\fr 10=l.length/\fr 11=.iv (.raw (.int .i64 k))/\st'=st/\ds=[]) ?_ ?_ ?_
 ·simp only[go_sem,zE,reduceCtorEq];simp[catL]
 ·rintro k fr D _ A ⟨f0,f3,f9,f10,f11,rfl,rfl⟩;obtain⟨p,hp⟩:=dd A;have h1:=tX l k;have h2:=tX l (k+1);rw[pd hp,lLa] at h2;have h3:IntKind.i64.wrap ((((catL (l.take k)).length:Nat):Int)+((p.2.length:Nat):Int))=((catL (l.take (k+1))).length:Nat):=by
   rw[w64 (by omega) (by omega),pd hp,lLa];omega
  have h4:decide ((((catL (l.take (k+1))).length:Nat):Int)<0)=false:=dEf (by omega);simp only[go_sem,zE,f3,f9,f10,f11,lt_i A,dc U,iNn,yB hp,fits,h3];intro az;simp only[go_sem,zE,reduceCtorEq,h3,h4,f0,f9,f10,f11,df A (by omega)]
 ·rintro fr D _ ⟨f0,f3,f9,f10,f11,rfl,rfl⟩;rw[lTl] at f3;simp only[go_sem,zE,zA,f3,f10,f11,dD (nLi _)];refine (NI gl (catL l).length ai _).mono ?_;have loop:∀(I:Nat->IV->ISt->Prop),True:=λ_=>trivial;rintro r aj (⟨hz,rfl,rfl⟩|⟨g,cap,hg,ar,rfl,rfl⟩)
  ·have E:catL l=[]:=eN hz;simp only[go_sem,reduceCtorEq,f0,W];intro _;refine cV l.length (λk fr st' ds=>(∃t,fr 6=.iv (.sl t [])/\t.cap=.nil)/\fr 25=.iv (.sl tt (catI l))/\fr 26=l.length/\fr 27=.iv (.raw (.int .i64 k))/\st'=aj/\ds=[]) ?_ ?_ ?_
   ·simp only[go_sem,zE];exact⟨⟨_,rfl,rfl⟩,rfl⟩
   ·rintro k fr D _ A ⟨⟨t,f6,ht⟩,f25,f26,f27,rfl,rfl⟩;obtain⟨p,hp⟩:=dd A;have an:p.2=[]:=by
     have:=pd hp;have h2:=tX l (k+1);rw[this,lLa,E,fN] at h2;exact eN (by omega)
    obtain⟨fs,c,es⟩:=t;obtain rfl:c=.nil:=ht;simp only[go_sem,zE,zA,zM,zL,f6,f25,f26,f27,lt_i A,dc U,iNn,yB hp,fits,an,df A (by omega)];exact⟨_,rfl,rfl⟩
   ·rintro fr D _ ⟨⟨t,f6,ht⟩,f25,f26,f27,rfl,rfl⟩;simp only[go_sem,zE,f6,f26,f27,dD (nLi _)];exact cO (.inl ⟨_,rfl,.inl ht,E,rfl⟩)
  ·simp only[go_sem,reduceCtorEq,f0,W];intro _;refine cV l.length (λk fr st' ds=>(∃g cap cs,D g=none/\(catL (l.take k)).length<=cap/\cap*4<=cs.length/\cs.take ((catL (l.take k)).length*4)=(catL (l.take k)).flatMap IV.cells/\fr 6=.iv (.raw (.slice (some ⟨g,0,none⟩) (catL (l.take k)).length cap))/\st'=D.put g (some (.box cs)))/\fr 25=.iv (.sl tt (catI l))/\fr 26=l.length/\fr 27=.iv (.raw (.int .i64 k))/\ds=[]) ?_ ?_ ?_
   ·simp only[go_sem,zE];exact⟨⟨g,cap,_,hg,by simp[catL],by simp,by simp[catL],by simp[catL],rfl⟩,rfl⟩
   ·rintro k fr st' _ A ⟨⟨g,cap,cs,hg,ac,ab,aa,f6,rfl⟩,f25,f26,f27,rfl⟩;obtain⟨p,hp⟩:=dd A;have h2:=tX l (k+1);rw[pd hp,lLa] at h2;have ah:=O p (lMg hp);simp only[go_sem,zE,zA,f6,f25,f26,f27,lt_i A,dc U,iNn,yB hp,fits];refine pG _ _ _ (cT ..) (ed.2 ah) ⟨by show _*72<=_;omega,by omega⟩ ⟨ac,ab⟩ (NJ ah) ?_;intro g' cap' cs' aq k1 k2 k3;simp only[go_sem,zE,f25,f26,f27,df A (by omega)];have ag:((D.put g (some (.box cs))).put g none).put g' (some (.box cs'))=D.put g' (some (.box cs')):=by
     funext c;simp only[ISt.put_apply];split
     ·rfl
     ·split
      ·subst_vars;exact hg.symm
      ·rfl
    have ao:D g'=none:=by
     rcases aq with rfl|h
     ·exact hg
     ·rw[ISt.put_apply] at h;split at h
      ·cases h
      ·exact h
    refine⟨g',cap',cs',ao,?_,k2,?_,?_,ag⟩
    ·rw[pd hp,lLa];exact k1
    ·rw[pd hp,lLa,iu,<- aa];exact k3
    ·rw[pd hp,lLa]
   ·rintro fr st' _ ⟨⟨g,cap,cs,hg,ac,ab,aa,f6,rfl⟩,f25,f26,f27,rfl⟩;rw[lTl] at *;simp only[go_sem,zE,f6,f26,f27,dD (nLi _)];exact cO (.inr ⟨g,cap,cs,hg,ac,ab,aa,rfl,rfl⟩)
def yC (l1 l2:List Fm)(t1 t2 tt:Tag)(D A:List IV)(ae:okEs tt 1)(h1:IsFms l1 D)(h2:IsFms l2 A)(O:l1.length+l2.length<=1099511627776)(st:ISt) :
  ICall prog gl 100 [.sl tt [.sl t1 D,.sl t2 A]] st (λr st'=>∃t ys,r=.sl t ys/\okEs t 4/\IsFms (l1++l2) ys/\st'=st):=by
 have hc:catL [(t1,D),(t2,A)]=D++A:=by simp[catL]
 have W:=h1.append h2;have af:(D++A).length<=1099511627776:=by rw[W.len,lLa];exact O
 have key:=NK gl [(t1,D),(t2,A)] tt ae (λp hp y U=>by
  rcases dC.1 hp with rfl|hp
  ·exact pe h1 y U
  ·obtain rfl:=fD.1 hp;exact pe h2 y U) (by rw[hc];exact af) st
 rw[hc] at key;refine lW (key.mono λr st' h=>?_);rcases h with⟨t,rfl,ht,hn,rfl⟩|⟨g,cap,cs,hg,ai,ah,ag,rfl,rfl⟩
 ·exact⟨.sl t [],(λ_=>none),st',LendOk.mk (λb o h=>by cases h) (subSt.refl _) (λb cs h=>by cases h),.refl _,⟨false,t.cap,t.es⟩,[],by simp only[age,ages],ht,hn▸W,rfl⟩
 ·have E:∀y∈D++A,y.cells.length=4:=λy U=>tY (pe W y U);refine⟨.sl ⟨true,.app g,4⟩ (D++A),ISt.put (λ_=>none) g (some (.box cs)),st,⟨λb o h=>?_,fj hg,λb cs' h=>?_⟩,.sl g cap ⟨true,.app g,4⟩ (D++A) cs rfl (by omega) ai E (cT ..) ah λi r c hr hx=>?_,⟨false,.app g,4⟩,ages (D++A),by simp only[age],.inr rfl,W.aged,rfl⟩
  ·rw[ISt.put_apply] at h ⊢;split at h
   ·rename_i hb;rw[b_ hb];exact h
   ·cases h
  ·rw[ISt.put_apply] at h;split at h
   ·rename_i hb;rw[hb];exact hg
   ·cases h
  ·have hi:i<(D++A).length*4:=by
    have:=(lGs hx).1
    rwa [jZ _ E] at this
   have:(cs.take ((D++A).length*4))[i]?=cs[i]?:=by rw[fl,b_ hi]
   rw[ag,hx,hr] at this;cases this;exact .refl _
def NL {ca:Nat}{s:Sq}{rule:Nat}{A:Fm}{term:Tm}{name:ByteArray}{ad:List Sq}(h:ie ca s rule A term name=(ad,0)) :
  j7 ca s=true/\∃r,(gW ca rule r A term name)=(ad,0):=by
 unfold ie at h;split at h
 ·simp at h
 ·rename_i O;split at h
  ·simp at h
  ·rename_i r _;split at h
   ·simp at h
   ·split at h
    ·rename_i h1 h2;injection h with E D;exact absurd D h2
    ·rename_i h1 h2;split at h
     ·simp at h
     ·injection h with E D;refine⟨by simpa using O,r,?_⟩;rw[<- E];exact Prod.ext rfl (by simpa using h2)
def i7:fitL []:=λf h=>by cases h
def yD {f:Fm}(h:f.size<=1000):fitL [f]:=λg A=>by obtain rfl:=fD.1 A;omega
def Ev {f g:Fm}(h:f.size<=1000)(A:g.size<=1000):fitL [f,g]:=λk hk=>by
 rcases dC.1 hk with rfl|hk
 ·omega
 ·obtain rfl:=fD.1 hk;omega
def jF {c:Prop} [Decidable c]{A B:List Sq}{P:Sq->Prop}(h1:∀s∈A,P s)(h2:∀s∈B,P s):∀s∈(if c then A else B),P s:=by split<;>assumption
def oo (s:Sq):Prop:=iQ s/\s.l.length<=64/\s.r.length<=64
def Ew {ca rule:Nat}{U a b:Fm}(hm:U.size<=400)(ha:a.size<=400)(hb:b.size<=400):∀s∈addS ca rule U a b,oo s:=by
 have hi:(impF a b).size<=1000:=by simp only[impF,Fm.size,dN,dt];omega
 have ac:(impF b a).size<=1000:=by simp only[impF,Fm.size,dN,dt];omega
 have l1:=yD (show U.size<=1000 by omega);have E:=yD (show a.size<=1000 by omega);have W:=yD (show b.size<=1000 by omega);have l4:=Ev (show a.size<=1000 by omega) (show b.size<=1000 by omega);have l5:=Ev hi ac;have q0:∀s∈([]:List Sq),oo s:=λs hs=>by cases hs
 have O:∀ {x:Sq},oo x->∀s∈[x],oo s:=λhx s hs=>by obtain rfl:=fD.1 hs;exact hx
 have q2:∀ {x y:Sq},oo x->oo y->∀s∈[x,y],oo s:=λhx hy s hs=>by
  rcases dC.1 hs with rfl|hs
  ·exact hx
  ·obtain rfl:=fD.1 hs;exact hy
 have D:([]:List Fm).length<=64:=fQ _;have A:∀f:Fm,[f].length<=64:=λ_=>by simp
 have c2:∀f g:Fm,[f,g].length<=64:=λ_ _=>by simp
 unfold addS;refine jF (O ⟨⟨i7,E⟩,D,A _⟩) (jF (O ⟨⟨E,i7⟩,A _,D⟩) (jF (O ⟨⟨l4,i7⟩,c2 _ _,D⟩) (jF (q2 ⟨⟨i7,E⟩,D,A _⟩ ⟨⟨i7,W⟩,D,A _⟩) (jF (q2 ⟨⟨E,i7⟩,A _,D⟩ ⟨⟨W,i7⟩,A _,D⟩)
  (jF (jF (O ⟨⟨i7,E⟩,D,A _⟩) (O ⟨⟨i7,l4⟩,D,c2 _ _⟩)) (jF (q2 ⟨⟨i7,E⟩,D,A _⟩ ⟨⟨W,i7⟩,A _,D⟩) (jF (O ⟨⟨E,W⟩,A _,A _⟩) (jF (O ⟨⟨l5,i7⟩,c2 _ _,D⟩) (jF (q2 ⟨⟨E,W⟩,A _,A _⟩ ⟨⟨W,E⟩,A _,A _⟩)
  (jF (O ⟨⟨E,i7⟩,A _,D⟩) (jF (O ⟨⟨i7,E⟩,D,A _⟩) (jF (O ⟨⟨E,i7⟩,A _,D⟩) (jF (O ⟨⟨i7,E⟩,D,A _⟩) (jF (q2 ⟨⟨i7,l1⟩,D,A _⟩ ⟨⟨l1,i7⟩,A _,D⟩) (jF (O ⟨⟨i7,W⟩,D,A _⟩) q0)))))))))))))))
def lx:∀ {l:List Fm}{g:Fm},g∈l->g.size<=dt l
 | a::l,g,h=>by
  simp only[dt];rcases dC.1 h with rfl|h
  ·omega
  ·have:=lx h;omega
def NM {l:List Fm}{n:Nat}(h:dt l<=n)(A:1<=n)(k:Nat):((l[k]?).getD fm0).size<=n:=by
 cases D:l[k]? with
 | none=>exact A
 | some a=>exact eh (lx (lMg D)) h
def NN {ca rule:Nat}{r:Rw}{A:Fm}{term:Tm}{name:ByteArray}{ad:List Sq}(h:gW ca rule r A term name=(ad,0)):∀s∈ad,oo s:=by
 unfold gW at h;by_cases hc:(!fmB ca A || (decide (r.op≠0)&&decide (A.op≠r.op)))=true
 ·rw[b_ hc] at h;cases (Prod.mk.inj h).2
 ·rw[a_ hc] at h;have O:fmB ca A=true:=by
   cases W:fmB ca A
   ·simp[W] at hc
   ·rfl
  have E:A.size<=400:=by
   unfold fmB at O;simp only[bAt] at O;exact (oT O.1).2.1
  have D:∀k,((A.subs[k]?).getD fm0).size<=400:=λk=>NM (by
   obtain⟨o,n,us,sub⟩:=A;simp only[Fm.size] at E;show dt sub<=400;omega) (by omega) k
  by_cases U:r.asks=0
  ·simp only[b_ U] at h;rw[<- (Prod.mk.inj h).1];exact Ew E (D 0) (D 1)
  ·simp only[a_ U] at h;generalize (if r.asks=2 then Tm.mk true name [] else term)=t at h;by_cases h1:(!t.ok)=true
   ·simp only[b_ h1] at h;cases (Prod.mk.inj h).2
   ·simp only[a_ h1] at h;by_cases h2:(gV ((A.subs[0]?).getD fm0) [(A.nm,t)]).2≠0
    ·simp only[b_ h2] at h;cases (Prod.mk.inj h).2
    ·simp only[a_ h2] at h;rw[<- (Prod.mk.inj h).1];exact Ew E (Er _ _) (D 1)
def yE (s:Sq):∀(l E:List Sq) (D A:List Tr),l.length=D.length->jg s (l++E) (D++A)=(jg s l D&&jg s E A)
 | [],E,[],A,_=>by simp[jg]
 | a::l,E,t::D,A,h=>by
  simp only[dX,jg,yE s l E D A (by simpa using h),me]
 | [],_,_::_,_,h=>by simp at h
 | _::_,_,[],_,h=>by simp at h
def Ex {l A:List Fm}(h:fitL l)(E:fitL A):fitL (l++A):=λf D=>(eX.1 D).elim (h f) (E f)
def NO (G:Gl gl)(T:Gt gl)(ca rule:Nat)(s:Sq)(A:Fm)(term:Tm)(name:ByteArray)(sub:List Tr)(x:IV)(hx:IsTr (.mk rule s A term name sub) x)(hs:iQ s)(hm:A.size<=1000000)(ht:term.size<=1000000)
  (aa:∀a∈sub,iQ a.sq) (st:ISt):ICall prog gl 95 [.raw (.int .u8 ca),.cptr x] st (λr st'=>r=(iP ca (.mk rule s A term name sub):Int)/\st'=st):=by
 obtain⟨tl,xl,tr,xr,op,fn,ta,xa,tb,xb,v,un,tu,xu,ts,xs,rfl,bk,e1,i1,e2,i2,hy,hz,e3,i3⟩:=hx.mk;have U:=λst=>NF gl G T ca s _ ⟨tl,xl,tr,xr,rfl,e1,i1,e2,i2⟩ hs rule A _ hy hm term _ hz ht name st;unfold iP;refine ICall.intro (c:=cf prog gl [] [(9,[0,1,2,3,4,5,6,7,9,10,11,12,13,14,15,16,19,8,17,18,20])]) func95 rfl (by show _<=84;simp) (by kernel_rfl) ?_;simp only[go_sem,zE,zB,zA,zL,reduceCtorEq,fits];refine (U _).mono ?_;rintro _ st ⟨tg,ys,rfl,he,hys,rfl⟩;generalize hq:ie ca s rule A term name=q at hys ⊢;obtain⟨ad,er⟩:=q;simp only at hys ⊢;by_cases h0:er=0
 ·subst h0;obtain⟨hv,r,hr⟩:=NL hq;have ab:=NN hr;simp only[go_sem,zE,show decide (((0:Nat):Int)=0)=true from rfl,i3.len,hys.len,fits];intro _ _;by_cases hl:sub.length=ad.length
  ·have dl:decide ((sub.length:Int)=(ad.length:Int))=true:=dEt (by omega);simp only[go_sem,zE,dl,hys.len];intro _;refine cV ad.length (λk fr st' ds=>jg s (ad.take k) (sub.take k)=true/\fr 0=.iv (.raw (.int .u8 ca))/\fr 1=.iv (.cptr (.agg [.raw (.int .u8 rule),.sl tl xl,.sl tr xr,.raw (.int .u8 op),fn,.sl ta xa,.sl tb xb,v,un,.sl tu xu,name,.sl ts xs]))/\fr 46=.iv (.sl tg ys)/\fr 47=ad.length/\fr 48=.iv (.raw (.int .i64 k))/\st'=st/\ds=[]) ?_ ?_ ?_
   ·simp only[go_sem,zE,reduceCtorEq];simp[jg]
   ·rintro k fr ak _ O ⟨hn,f0,f1,f46,f47,f48,rfl,rfl⟩;obtain⟨a,ha⟩:=dd O;obtain⟨w,au,hw⟩:=hys.get ha;obtain⟨b,hb⟩:=dd (l:=sub) (k:=k) (by omega);obtain⟨z,ar,hz⟩:=i3.get hb;have E:=ab a (lMg ha);have bi:s.l.length<=64/\s.r.length<=64:=by
     unfold j7 at hv;simp only[bAt,dTe] at hv;exact⟨hv.1.1.1.1.2,hv.1.1.1.2⟩
    obtain⟨t1,x1,t2,x2,rfl,k1,j1,k2,j2⟩:=hw;have aw:=λst=>yC gl s.l a.l tl t1 ⟨true,.full,1⟩ xl x1 (.inr rfl) i1 j1 (by have:=E.2.1;omega) st;have av:=λst=>yC gl s.r a.r tr t2 ⟨true,.full,1⟩ xr x2 (.inr rfl) i2 j2 (by have:=E.2.2;omega) st;have an:=aa b (lMg hb);obtain⟨br,bs,bm,bt,bn,aB⟩:=b;obtain⟨aY,aI,aX,aH,ba,bB,a7,aL,a1,aJ,v',aR,aT,aD,aV,aF,rfl,_,g1,m1,g2,m2,_⟩:=hz.mk;have D:(ad.take k).length=(sub.take k).length:=by rw[dO,dO];omega
    have aq:iQ (s.plus a):=⟨Ex hs.1 E.1.1,Ex hs.2 E.1.2⟩
    simp only[go_sem,zE,zB,zA,zM,zL,f1,f46,f47,f48,lt_i O,dc he,iNn,au,fits,fF];refine (aw _).mono ?_;rintro _ W ⟨t3,y1,rfl,g3,m3,rfl⟩;simp only[go_sem,zE,zA];refine (av _).mono ?_;rintro _ W ⟨t4,y2,rfl,g4,m4,rfl⟩;simp only[go_sem,zE,zB,zA,zL,f1,dc e3,iNn,ar,fits];refine (Nr gl G bs (s.plus a) _ _ ⟨_,_,_,_,rfl,g1,m1,g2,m2⟩ ⟨_,_,_,_,rfl,g3,m3,g4,m4⟩ an aq _).q ?_;cases hw:kV bs (s.plus a)
    ·simp only[go_sem];refine cO ⟨?_,rfl⟩;have hp:jg s ad sub=false:=by
      conv=>lhs;rw[<- eF k ad,<- eF k sub]
      rw[fM O,fM (show k<sub.length by omega),yE s _ _ _ _ D,(lGs ha).2,(lGs hb).2];simp only[jg,Tr.sq,hw,fk,i_]
     rw[a_ (by omega),a_ (by omega),hp];rfl
    ·simp only[go_sem,zE,reduceCtorEq,f0,f1,f46,f47,f48,df O (by omega)];rw[dK ha,dK hb,yE s _ _ _ _ D,hn];simp only[jg,Tr.sq,hw,eM]
   ·rintro fr ak _ ⟨hn,f0,f1,f46,f47,f48,rfl,rfl⟩;rw[lTl,show sub.take ad.length=sub by rw[<- hl,lTl]] at hn;simp only[go_sem,f47,f48,dD (nLi _)];refine cO ⟨?_,rfl⟩;rw[a_ (by omega),a_ (by omega),hn];rfl
  ·have dl:decide ((sub.length:Int)=(ad.length:Int))=false:=dEf (by omega);simp only[go_sem,dl];refine cO ⟨?_,rfl⟩;rw[a_ (by omega),b_ hl];rfl
 ·have d0:decide ((er:Int)=0)=false:=dEf (by omega);simp only[go_sem,zE,d0];refine cO ⟨?_,rfl⟩;rw[b_ h0]
def plI (p:List Nat):List IV:=p.map λ(i:Nat)=>(i:Int)
def pg (p:List Nat):(plI p).length=p.length:=by simp[plI]
def emp:ISt:=λ_=>none
def PlV (p:List Nat)(a:IV)(e:ISt):Prop :=
 (∃t,a=.sl t []/\t.cap=.nil/\p=[]/\e=emp) \/
 ∃g cap cs,a=.raw (.slice (some ⟨g,0,none⟩) p.length cap)/\e=emp.put g (some (.box cs))/\p.length<=cap/\cap<=cs.length/\cs.take p.length=plI p
def lkT (l:List (List Nat×Tr))(k:Nat)(zs:List IV)(e:ISt):Prop:=∃p t a x,l[k]?=some (p,t)/\IsTr t x/\PlV p a e/\zs=[a,.cptr x]
def ph (b2 b3 b4:Nat):IV:=.fn (.func 130) [] [.raw (.pointer (some ⟨b2,0,none⟩)),.raw (.pointer (some ⟨b3,0,none⟩)),.raw (.pointer (some ⟨b4,0,none⟩))]
def ownF (b2 b3 b4:Nat)(fy a:IV):ISt:=((emp.put b2 (some (.box [fy]))).put b3 (some (.box [a]))).put b4 (some (.box [ph b2 b3 b4]))
section
variable {b2 b3 b4:Nat}{fy a:IV}
def Ey (D:b2≠b3)(A:b2≠b4):ownF b2 b3 b4 fy a b2=some (.box [fy]):=by simp only[ownF,ISt.put_apply,a_ D,a_ A,dB]
def mF (A:b3≠b4):ownF b2 b3 b4 fy a b3=some (.box [a]):=by simp only[ownF,ISt.put_apply,a_ A,dB]
def rY:ownF b2 b3 b4 fy a b4=some (.box [ph b2 b3 b4]):=by simp only[ownF,ISt.put_apply,dB]
def Ez {c:Nat}(h2:c≠b2)(D:c≠b3)(A:c≠b4):ownF b2 b3 b4 fy a c=none:=by simp only[ownF,ISt.put_apply,a_ h2,a_ D,a_ A,emp]
def tZ {c:Nat}(a':IV):ownF b2 b3 b4 fy a c=none↔ownF b2 b3 b4 fy a' c=none:=by
 simp only[ownF,ISt.put_apply];by_cases A:c=b4
 ·simp[A]
 ·by_cases D:c=b3
  ·subst D;simp only[a_ A,dB,reduceCtorEq]
  ·simp[A,D]
end
def rZ (b2 b3 b4:Nat)(fy:IV)(p:List Nat)(s A:ISt):Prop:=∃a e,PlV p a e/\disj s e/\disj (join s e) (ownF b2 b3 b4 fy a)/\A=join (join s e) (ownF b2 b3 b4 fy a)
def FOkL (y:IV)(I:Nat->ISt->Prop)(S:ISt->Prop)(k0:Nat)(l:List (List Nat×Tr)):Prop :=
 ∀i p t x a e stu,l[i]?=some (p,t)->IsTr t x->PlV p a e->disj stu e->I (k0+i) stu →
  ICallV prog gl y [a,.cptr x] (join stu e) λr st'=>(r=true/\∃s1,I (k0+i+1) s1/\disj s1 e/\st'=join s1 e)\/(r=false/\S st')
section
variable {gl}{y:IV}{I:Nat->ISt->Prop}{S:ISt->Prop}{k0:Nat}
def FOkL.left {l m:List (List Nat×Tr)}(h:FOkL gl y I S k0 (l++m)):FOkL gl y I S k0 l:=λi p t x a e stu A =>
 h i p t x a e stu (by rw[fP (lGs A).1];exact A)
def FOkL.right {l m:List (List Nat×Tr)}(h:FOkL gl y I S k0 (l++m)):FOkL gl y I S (k0+l.length) m:=λi p t x a e stu A hx hp hd D=>by
 have:=h (l.length+i) p t x a e stu (by rw[gh (by omega)];simpa using A) hx hp hd (by rw[<- fa];exact D);simpa only[fa] using this
def FOkL.tail {z:List Nat×Tr}{m:List (List Nat×Tr)}(h:FOkL gl y I S k0 (z::m)):FOkL gl y I S (k0+1) m:=FOkL.right (l:=[z]) h
end
section
variable {b2 b3 b4:Nat}{fy a a':IV}{p:List Nat}{s:ISt}{g:Nat}
def t_ {c:Nat}(h:c≠b3):ownF b2 b3 b4 fy a c=ownF b2 b3 b4 fy a' c:=by simp only[ownF,ISt.put_apply,a_ h]
def EA {cs:List IV}(ac:b3≠b4)(hs:disj s (ownF b2 b3 b4 fy a))(W:s g=none)(U:ownF b2 b3 b4 fy a g=none)(hp:PlV p a' (emp.put g (some (.box cs)))) :
  rZ b2 b3 b4 fy p s (((join s (ownF b2 b3 b4 fy a)).put g (some (.box cs))).put b3 (some (.box [a']))):=by
 have D:ownF b2 b3 b4 fy a' g=none:=(tZ a').1 U;refine⟨a',_,hp,λb A=>?_,λb A=>?_,?_⟩
 ·rw[ISt.put_apply] at A;split at A
  ·rename_i h;rw[h];exact W
  ·exact absurd rfl A
 ·have ab:b≠g:=by rintro rfl;exact A D
  have he:(emp.put g (some (.box cs))) b=none:=by rw[ISt.put_apply,a_ ab];rfl
  rw[gE he];exact hs b λh=>A ((tZ a').1 h)
 ·funext c;by_cases E:c=b3
  ·rw[ISt.put_apply,b_ E,E,fS (mF ac)]
  ·rw[ISt.put_apply,a_ E,ISt.put_apply];by_cases hc:c=g
   ·rw[b_ hc,hc,gE D,fS (cT ..)]
   ·rw[a_ hc];have he:(emp.put g (some (.box cs))) c=none:=by rw[ISt.put_apply,a_ hc];rfl
    cases O:ownF b2 b3 b4 fy a c with
    | some o=>rw[fS O,fS ((t_ E).symm.trans O)]
    | none=>rw[gE O,gE ((t_ E).symm.trans O),gE he]
def NP {cs:List IV}(E:s g=none)(D:ownF b2 b3 b4 fy a g=none):(join (join s (emp.put g (some (.box cs)))) (ownF b2 b3 b4 fy a)).put g none=join s (ownF b2 b3 b4 fy a):=by
 funext c;rw[ISt.put_apply];split
 ·rename_i h;rw[h,gE D,E]
 ·rename_i h;have O:(emp.put g (some (.box cs))) c=none:=by rw[ISt.put_apply,a_ h];rfl
  cases A:ownF b2 b3 b4 fy a c with
  | some o=>rw[fS A,fS A]
  | none=>rw[gE A,gE A,gE O]
end
def PlV.cons {p:List Nat}{k:Nat}{a:IV}{e:ISt}(h:PlV (p++[k]) a e):∃g cap cs,a=.raw (.slice (some ⟨g,0,none⟩) (p.length+1) cap)/\e=emp.put g (some (.box cs))/\p.length+1<=cap/\cap<=cs.length/\cs.take p.length=plI p:=by
 rcases h with⟨t,_,_,h,_⟩|⟨g,cap,cs,rfl,rfl,h1,h2,A⟩
 ·simp at h
 ·rw[lLa] at h1 A ⊢;refine⟨g,cap,cs,rfl,rfl,h1,h2,?_⟩;have:=et (List.take p.length) A;rw[List.take_take,show min p.length (p.length+[k].length)=p.length by omega] at this;rw[this];unfold plI;rw[jn,List.take_left' (by simp)]
def EB {b2 b3 b4:Nat}{fy a a':IV}{X:ISt}(D:b3≠b4):(join X (ownF b2 b3 b4 fy a)).put b3 (some (.box [a']))=join X (ownF b2 b3 b4 fy a'):=by
 funext c;rw[ISt.put_apply];split
 ·rename_i h;rw[h,fS (mF D)]
 ·rename_i h;cases A:ownF b2 b3 b4 fy a c with
  | some o=>rw[fS A,fS ((t_ h).symm.trans A)]
  | none=>rw[gE A,gE ((t_ h).symm.trans A)]
def EC {n m:Nat}(h:n+1<=m):gK none (some ((n:Nat):Int)) m=some (0,n):=by
 simp only[gK,gm,fI];rw[b_ ⟨Int.le_refl _,by omega,by omega⟩];simp
def ED:∀ {l:List Tr}{t:Tr},t∈l->t.height<=nf l
 | a::l,t,h=>by
  simp only[nf];rcases dC.1 h with rfl|h
  ·omega
  ·have:=ED h;omega
def yF (x:Operand):jH 1 [(0,x)]=true:=rfl
def ua (p:List Nat):∀(i:Nat) (l m:List Tr),gr p i (l++m)=gr p i l++gr p (i+l.length) m
 | i,[],m=>by simp[gr]
 | i,a::l,m=>by
  simp only[dX,gr,ua p (i+1) l m,fA,eG];rw[show i+1+l.length=i+(l.length+1) by omega]
def FF (t:Tr):Prop:=∀(x:IV) (_:IsTr t x) (b2 b3 b4:Nat) (_:b2≠b3) (_:b2≠b4) (_:b3≠b4) (g:Fn) (D ca:List IV) (_:fnOk g=true) (_:∀i,g=.func i->entI prog i=true) (I:Nat->ISt->Prop) (S:ISt->Prop) (k0:Nat) (p:List Nat)
  (_:FOkL gl (.fn g D ca) I S k0 (t.walk p)) (_:p.length+t.height<=1099511627776) (s A:ISt) (_:I k0 s) (_:rZ b2 b3 b4 (.fn g D ca) p s A),
  ICall prog gl 130 [.cptr x,.raw (.pointer (some ⟨b2,0,none⟩)),.raw (.pointer (some ⟨b3,0,none⟩)),.raw (.pointer (some ⟨b4,0,none⟩))] A
   (λr st'=>(r=true/\∃s1,I (k0+(t.walk p).length) s1/\rZ b2 b3 b4 (.fn g D ca) p s1 st')\/(r=false/\∃s1,S s1/\subSt s1 st'))
def NQ (rule:Nat)(sq:Sq)(f:Fm)(u:Tm)(n:ByteArray)(sub:List Tr)(IH:∀a∈sub,FF gl a):FF gl (.mk rule sq f u n sub):=by
 intro x hx b2 b3 b4 aY aX D g E ca bk an I S k0 p hy ay s aq hI bg;have be:=hx;obtain⟨tl,xl,tr,xr,op,fn,ta,xa,tb,xb,v,un,tu,xu,ts,xs,W,b7,_,_,_,_,_,_,e3,i3⟩:=hx.mk;obtain⟨a,e,hp,ae,ab,rfl⟩:=bg;simp only[Tr.walk] at hy ⊢;have ac:=hy 0 p _ _ a e s rfl be hp ae hI;have bc:=FOkL.tail hy;have r2:join (join s e) (ownF b2 b3 b4 (.fn g E ca) a) b2=some (.box [.fn g E ca]):=fS (Ey aY aX);have r3:join (join s e) (ownF b2 b3 b4 (.fn g E ca) a) b3=some (.box [a]):=fS (mF D);refine ICall.intro (c:=cf prog gl [23,24] []) func130 rfl (by show _<=39;simp) (by kernel_rfl) ?_;have bi:ivOf a=some a:=by rcases hp with⟨t,rfl,_⟩|⟨g,cap,cs,rfl,_⟩<;>rfl
 rw[W] at ac;simp only[go_sem,zE,reduceCtorEq,r2,r3,bi,W];refine pQ an (ac.frame ab |>.mono ?_);rintro r aq ⟨s2,aT,rfl,(⟨rfl,s3,bo,bl,rfl⟩|⟨rfl,hS⟩)⟩
 ·simp only[go_sem,reduceCtorEq,i3.len];intro bs;refine cV sub.length (λk fr st' ds=>(∃s,I (k0+1+(gr p 0 (sub.take k)).length) s/\rZ b2 b3 b4 (.fn g E ca) p s st')/\fr 0=.iv (.cptr x)/\fr 1=.iv (.raw (.pointer (some ⟨b2,0,none⟩)))/\fr 2=.iv (.raw (.pointer (some ⟨b3,0,none⟩)))/\fr 3=.iv (.raw (.pointer (some ⟨b4,0,none⟩)))/\fr 16=sub.length/\fr 17=.iv (.raw (.int .i64 k))/\ds=[]) ?_ ?_ ?_
  ·simp only[go_sem,zE,reduceCtorEq,W];exact⟨⟨s3,by simpa[gr] using bo,a,e,hp,bl,aT,rfl⟩,rfl⟩
  ·rintro k fr a8 _ aa ⟨⟨s,hI,a,e,hp,ae,ab,rfl⟩,f0,f1,f2,f3,f16,f17,rfl⟩;rw[W] at f0;obtain⟨t,ht⟩:=dd aa;obtain⟨z,aS,hz⟩:=i3.get ht;have r3:join (join s e) (ownF b2 b3 b4 (.fn g E ca) a) b3=some (.box [a]):=fS (mF D);have b6:=ED (lMg ht);simp only[Tr.height] at ay;have ai:gr p 0 sub=gr p 0 (sub.take k)++(t.walk (p++[k])++gr p (k+1) (sub.drop (k+1))):=by
    conv=>lhs;rw[<- eF k sub,fM aa]
    rw[ua,(lGs ht).2,show (sub.take k).length=k by rw[dO];omega];simp only[gr,eQ]
   have aR:=bc;rw[ai] at aR;have af:=λaq hF=>IH t (lMg ht) z hz b2 b3 b4 aY aX D g E ca bk an I S _ (p++[k]) (FOkL.left (FOkL.right aR)) (by rw[lLa];simp only[iY];omega) s aq hI hF;have am:IntKind.i64.wrap (((p.length+1:Nat):Int)-1)=(p.length:Nat):=by rw[w64 (by omega) (by omega)];omega
   have bb:∃c0 c1 c2 c3 c4 c5 c6 c7 c8 c9 a6 a1,z=.agg [c0,c1,c2,c3,c4,c5,c6,c7,c8,c9,a6,a1]:=by
    obtain⟨r',s',m',t',n',b'⟩:=t;obtain⟨bT,bM,bS,bL,b0,cb,bV,bO,bU,bN,v',bP,bQ,bJ,bR,bK,rfl,_⟩:=hz.mk;exact⟨_,_,_,_,_,_,_,_,_,_,_,_,rfl⟩
   obtain⟨c0,c1,c2,c3,c4,c5,c6,c7,c8,c9,a6,a1,rfl⟩:=bb;rcases hp with⟨t0,rfl,bf,aw,rfl⟩|⟨g',cap,cs,rfl,rfl,bn,b8,bm⟩
   ·obtain⟨fs,c,es⟩:=t0;obtain rfl:c=.nil:=bf;have bh:join s emp=s:=rfl;rw[bh] at r3 ab ⊢;simp only[go_sem,zE,zA,zM,zL,reduceCtorEq,f0,f2,f3,f16,f17,lt_i aa,r3,W,yF];intro g' cap;refine eB λhg=>?_;obtain⟨hg,aV⟩:=hg;change join s (ownF b2 b3 b4 (.fn g E ca) (.sl ⟨fs,.nil,es⟩ [])) g'=none at hg;have aU:disj s (ownF b2 b3 b4 (.fn g E ca) (.sl ⟨fs,.nil,es⟩ [])):=ab;have A:ownF b2 b3 b4 (.fn g E ca) (.sl ⟨fs,.nil,es⟩ []) g'=none:=by
     cases ho:ownF b2 b3 b4 (.fn g E ca) (.sl ⟨fs,.nil,es⟩ []) g' with
     | none=>rfl
     | some o=>rw[fS ho] at hg;cases hg
    have bj:s g'=none:=by rw[<- gE (stu:=s) A];exact hg
    have aE:b3≠g':=by rintro rfl;rw[mF D] at A;cases A
    have hF:=EA (fy:=.fn g E ca) (p:=p++[k]) (a':=.raw (.slice (some ⟨g',0,none⟩) 1 cap)) (cs:=.raw (.int .i64 k)::List.replicate (cap-1) .junk) D aU bj A (.inr ⟨g',cap,_,by rw[aw];rfl,rfl,by simpa[aw] using aV,by simp;omega,by simp[plI,aw]⟩);have aD:b4≠g':=by rintro rfl;rw[rY] at A;cases A
    have au:∀o,((join s (ownF b2 b3 b4 (.fn g E ca) (.sl ⟨fs,.nil,es⟩ []))).put g' o) b3=some (.box [.sl ⟨fs,.nil,es⟩ []]):=λo=>by rw[ISt.put_apply,a_ aE];exact r3
    have ar:∀o o',(((join s (ownF b2 b3 b4 (.fn g E ca) (.sl ⟨fs,.nil,es⟩ []))).put g' o).put b3 o') b4=some (.box [ph b2 b3 b4]):=λo o'=>by rw[ISt.put_apply,a_ D.symm,ISt.put_apply,a_ aD];exact fS rY
    simp only[go_sem,zL,IV.one,ff,List.flatMap_nil,IV.cells,Nat.mul_one,au,ar,aS,dc e3,iNn,ph];refine (af _ hF).mono ?_;rintro _ a7 (⟨rfl,s1,aG,aH⟩|⟨rfl,s1,aF,U⟩)
    ·obtain⟨a2,e2,av,aA,az,rfl⟩:=aH;obtain⟨g3,O,cs3,rfl,rfl,ag,aC,aB⟩:=av.cons;have r6:join (join s1 (emp.put g3 (some (.box cs3)))) (ownF b2 b3 b4 (.fn g E ca) (.raw (.slice (some ⟨g3,0,none⟩) (p.length+1) O))) b3=some (.box [.raw (.slice (some ⟨g3,0,none⟩) (p.length+1) O)]):=fS (mF D);simp only[go_sem,zE,zL,reduceCtorEq,IV.one,r6,f0,f1,f2,f3,f16,f17,am,EC ag,ite_self,fY,ag,df aa (by omega)];refine⟨s1,?_,?_⟩
     ·rw[dK ht,ua,lLa,show (sub.take k).length=k by rw[dO];omega];simp only[gr,fH,eQ];rw[<- fa];exact aG
     ·rw[EB D];exact⟨_,_,.inr ⟨g3,O,cs3,rfl,rfl,by omega,aC,aB⟩,aA,λb hb=>az b λh=>hb ((tZ _).1 h),rfl⟩
    ·simp only[go_sem];exact cO (.inr ⟨rfl,s1,aF,U⟩)
   ·have ho:ownF b2 b3 b4 (.fn g E ca) (.raw (.slice (some ⟨g',0,none⟩) p.length cap)) g'=none:=by
     cases ho:ownF b2 b3 b4 (.fn g E ca) (.raw (.slice (some ⟨g',0,none⟩) p.length cap)) g' with
     | none=>rfl
     | some o =>
      have:=ab g' (by rw[ho];simp);rw[fS (cT ..)] at this;cases this
    have hs1:s g'=none:=ae g' (by rw[cT];simp);have r5:join (join s (emp.put g' (some (.box cs)))) (ownF b2 b3 b4 (.fn g E ca) (.raw (.slice (some ⟨g',0,none⟩) p.length cap))) g'=some (.box cs):=by
     rw[gE ho,fS (cT ..)]
    simp only[go_sem,zE,zA,zM,zL,f2,f16,f17,lt_i aa,r3,W,yF];refine pG _ _ _ r5 (by simp[fits,IV.one]) ⟨by show (_+1)*8<=_;omega,by show _+1<=_;omega⟩ ⟨bn,by show _*1<=_;omega⟩ (by simp[IV.cells]) ?_;intro g2 ao aZ A k1 k2 k3;rw[NP hs1 ho];have aj:s g2=none/\ownF b2 b3 b4 (.fn g E ca) (.raw (.slice (some ⟨g',0,none⟩) p.length cap)) g2=none:=by
     rcases A with rfl|A
     ·exact⟨hs1,ho⟩
     ·cases hq:ownF b2 b3 b4 (.fn g E ca) (.raw (.slice (some ⟨g',0,none⟩) p.length cap)) g2 with
      | some o=>rw[fS hq] at A;cases A
      | none =>
       rw[gE hq] at A;refine⟨?_,rfl⟩;cases hz:s g2 with
       | none=>rfl
       | some o=>rw[lg ae g2 o hz] at A;cases A
    have hs2:disj s (ownF b2 b3 b4 (.fn g E ca) (.raw (.slice (some ⟨g',0,none⟩) p.length cap))):=λb hb=>by
     have:=ab b hb;cases hz:s b with
     | none=>rfl
     | some o=>rw[lg ae b o hz] at this;cases this
    have hF:=EA (fy:=.fn g E ca) (p:=p++[k]) (a':=.raw (.slice (some ⟨g2,0,none⟩) (p.length+1) ao)) (cs:=aZ) D hs2 aj.1 aj.2 (.inr ⟨g2,ao,aZ,by simp,rfl,by simpa using k1,by simpa using k2,by
     simp only[Nat.mul_one] at k3;rw[lLa];exact k3.trans (by rw[bm];simp[plI,IV.cells])⟩)
    have aE:b3≠g2:=by rintro rfl;have:=aj.2;rw[mF D] at this;cases this
    have aD:b4≠g2:=by rintro rfl;have:=aj.2;rw[rY] at this;cases this
    have au:∀o,((join s (ownF b2 b3 b4 (.fn g E ca) (.raw (.slice (some ⟨g',0,none⟩) p.length cap)))).put g2 o) b3=some (.box [.raw (.slice (some ⟨g',0,none⟩) p.length cap)]):=λo=>by rw[ISt.put_apply,a_ aE];exact fS (mF D)
    have ar:∀o o',(((join s (ownF b2 b3 b4 (.fn g E ca) (.raw (.slice (some ⟨g',0,none⟩) p.length cap)))).put g2 o).put b3 o') b4=some (.box [ph b2 b3 b4]):=λo o'=>by rw[ISt.put_apply,a_ D.symm,ISt.put_apply,a_ aD];exact fS rY
    simp only[go_sem,zE,zL,reduceCtorEq,IV.one,IV.cells,au,ar,f0,f2,f3,aS,dc e3,iNn,fits,ph];refine (af _ hF).mono ?_;rintro _ a7 (⟨rfl,s1,aG,aH⟩|⟨rfl,s1,aF,U⟩)
    ·obtain⟨a2,e2,av,aA,az,rfl⟩:=aH;obtain⟨g3,O,cs3,rfl,rfl,ag,aC,aB⟩:=av.cons;have r6:join (join s1 (emp.put g3 (some (.box cs3)))) (ownF b2 b3 b4 (.fn g E ca) (.raw (.slice (some ⟨g3,0,none⟩) (p.length+1) O))) b3=some (.box [.raw (.slice (some ⟨g3,0,none⟩) (p.length+1) O)]):=fS (mF D);simp only[go_sem,zE,zL,reduceCtorEq,IV.one,r6,f0,f1,f2,f3,f16,f17,am,EC ag,ite_self,fY,ag,df aa (by omega)];refine⟨s1,?_,?_⟩
     ·rw[dK ht,ua,lLa,show (sub.take k).length=k by rw[dO];omega];simp only[gr,fH,eQ];rw[<- fa];exact aG
     ·rw[EB D];exact⟨_,_,.inr ⟨g3,O,cs3,rfl,rfl,by omega,aC,aB⟩,aA,λb hb=>az b λh=>hb ((tZ _).1 h),rfl⟩
    ·simp only[go_sem];exact cO (.inr ⟨rfl,s1,aF,U⟩)
  ·rintro fr a8 _ ⟨⟨s,hI,hF⟩,f0,f1,f2,f3,f16,f17,rfl⟩;rw[lTl] at hI;simp only[go_sem,f16,f17,dD (nLi _)];refine cO (.inl ⟨rfl,s,?_,hF⟩);rw[show k0+((gr p 0 sub).length+1)=k0+1+(gr p 0 sub).length by omega];exact hI
 ·simp only[go_sem];exact cO (.inr ⟨rfl,s2,hS,lg aT⟩)
def EE:∀(k:Nat)(t:Tr),SizeOf.sizeOf t<k->FF gl t
 | 0,t,h=>by omega
 | k+1,.mk r sq f u n sub,h=>NQ gl r sq f u n sub (λa A=>EE k a (by
   have:=lSm A;simp at h;omega))
def NR (t:Tr):FF gl t:=EE gl _ t (dM _)
def NS (t:Tr)(x:IV)(hx:IsTr t x)(hd:t.height<=1099511627776)(I:Nat->ISt->Prop):IterL prog gl 129 [] [.cptr (.cptr x)] (lkT (t.walk [])) (t.walk []).length I:=by
 rintro y I' S' st ⟨g,fi,ca,rfl,an,af⟩ _ hy h0;have U:=NR gl t x hx;have am:FOkL gl (.fn g fi ca) I' S' 0 (t.walk []):=λi p t x a e stu hi ht hp ao hI=>by
  rw[eQ] at hI ⊢;exact hy i [a,.cptr x] e stu ⟨p,t,a,x,hi,ht,hp,rfl⟩ ao hI
 have ak:∃c0 c1 c2 c3 c4 c5 c6 c7 c8 c9 aj ai,x=.agg [c0,c1,c2,c3,c4,c5,c6,c7,c8,c9,aj,ai]:=by
  obtain⟨r',s',m',t',n',b'⟩:=t;obtain⟨aU,aL,aT,aK,aY,ba,aW,aN,aV,aM,v',aO,aR,aI,aS,aJ,rfl,_⟩:=hx.mk;exact⟨_,_,_,_,_,_,_,_,_,_,_,_,rfl⟩
 obtain⟨c0,c1,c2,c3,c4,c5,c6,c7,c8,c9,aj,ai,rfl⟩:=ak;change ICall prog gl _ [.fn g fi ca,_] st _;refine ICall.intro (c:=cf prog gl [2,3,4] []) func129 rfl (by show _<=9;simp) (by kernel_rfl) ?_;simp only[go_sem,zE,zL,fits];intro b2;refine eB λau=>?_;intro b3;refine eB λD=>?_;intro b4;refine eB λA=>?_;have E:b2≠b3:=by rintro rfl;rw[cT] at D;cases D
 have W:b3≠b4:=by rintro rfl;rw[cT] at A;cases A
 have aa:b2≠b4:=by rintro rfl;rw[ISt.put_apply,a_ E,cT] at A;cases A
 rw[ISt.put_apply,a_ E.symm] at D;rw[ISt.put_apply,a_ W.symm,ISt.put_apply,a_ aa.symm] at A;have hF:rZ b2 b3 b4 (.fn g fi ca) [] st ((((st.put b2 (some (.box [.fn g fi ca]))).put b3 (some (.box [()]))).put b4 (some (.box [.raw .nilFunc]))).put b4 (some (.box [ph b2 b3 b4]))):=by
  refine⟨_,emp,.inl ⟨⟨true,.nil,0⟩,rfl,rfl,rfl,rfl⟩,λb hb=>absurd rfl hb,λb hb=>?_,?_⟩
  ·show st b=none;by_cases O:b=b4
   ·rw[O];exact A
   ·by_cases q3:b=b3
    ·rw[q3];exact D
    ·by_cases q2:b=b2
     ·rw[q2];exact au
     ·exact absurd (Ez q2 q3 O) hb
  ·funext c;by_cases O:c=b4
   ·rw[O,cT,fS rY]
   ·rw[ISt.put_apply,a_ O,ISt.put_apply,a_ O];by_cases q3:c=b3
    ·rw[q3,cT,fS (mF W)]
    ·rw[ISt.put_apply,a_ q3];by_cases q2:c=b2
     ·rw[q2,cT,fS (Ey E aa)]
     ·rw[ISt.put_apply,a_ q2,gE (Ez q2 q3 O)];rfl
 refine (U b2 b3 b4 E aa W g fi ca an af I' S' 0 [] am (by simpa using hd) st _ h0 hF).mono ?_;rintro r aX (⟨rfl,s1,ag,a,e,_,ar,aq,rfl⟩|⟨rfl,s1,aw,ae⟩)
 ·simp only[go_sem];rw[eQ] at ag;exact dZ ((lg ar).trans (lg aq)) (.inl ag)
 ·simp only[go_sem];exact dZ ae (.inr aw)
def NT (x:IV)(st:ISt)(t:Tr)(hx:IsTr t x):ICall prog gl 94 [.cptr x] st (λr st'=>r=.fn (.func 129) [] [.cptr (.cptr x)]/\st'=st):=by
 have E:∃c0 c1 c2 c3 c4 c5 c6 W U O D A,x=.agg [c0,c1,c2,c3,c4,c5,c6,W,U,O,D,A]:=by
  obtain⟨r',s',m',t',n',b'⟩:=t;obtain⟨aw,am,av,ak,az,aA,ay,ao,ax,an,v',aq,ar,ai,au,aj,rfl,_⟩:=hx.mk;exact⟨_,_,_,_,_,_,_,_,_,_,_,_,rfl⟩
 obtain⟨c0,c1,c2,c3,c4,c5,c6,W,U,O,D,A,rfl⟩:=E;refine ICall.intro (c:=cf prog gl [] [] [1]) func94 rfl (by show _<=4;simp) (by kernel_rfl) ?_;simp only[go_sem,zE];exact cO ⟨rfl,rfl⟩
def EF (t:Tag)(D:t.cap=.nil)(st:ISt):ICall prog gl 96 [.sl t []] st (λr st'=>(∃A,r=.sl A (plI [])/\okEs A 1)/\st'=st):=by
 obtain⟨O,c,es⟩:=t;obtain rfl:c=.nil:=D;refine iI func96 ?_;have E:binV prog 79 .eql (.sl ⟨O,.nil,es⟩ []) ()=some (.raw (.bool true)):=by
  have:nC prog 79=true:=by kernel_rfl
  simp[binV,kK,this]
 simp only[go_sem,reduceCtorEq,E];exact cO ⟨⟨_,rfl,.inl rfl⟩,rfl⟩
def NU (g:Nat)(p:List Nat)(hp:p≠[])(U:p.length<=1099511627776)(st:ISt):ICall prog gl 96 [.sl ⟨false,.app g,1⟩ (plI p)] st (λr st'=>(∃D,r=.sl D (plI p)/\okEs D 1)/\st'=st):=by
 obtain⟨i,p,rfl⟩:∃i q,p=i::q:=by
  cases p with
  | nil=>exact absurd rfl hp
  | cons i q=>exact⟨i,q,rfl⟩
 refine iI func96 ?_;have E:binV prog 79 .eql (.sl ⟨false,.app g,1⟩ (plI (i::p))) (.sl ⟨true,.nil,0⟩ [])=some (.raw (.bool false)):=by
  have:nC prog 79=true:=by kernel_rfl
  simp[binV,kK,this]
 have hf:(plI (i::p)).all (fits false 1)=true:=by simp[plI,fits,IV.one]
 simp only[eG] at U;have he:plI (i::p)=.raw (.int .i64 (i:Int))::plI p:=rfl;have O:=pg p;have A:(plI p).all (fits false 1)=true:=by simp[plI,fits,IV.one]
 rw[he] at E hf ⊢;simp only[go_sem,zE,zA,zM,zL,reduceCtorEq,fits,E];exact gv rfl (gv A (gv ⟨by omega,by omega⟩ λg'=>eB λW=>dZ (fj W) ⟨⟨_,rfl,.inr rfl⟩,rfl⟩))
def NV {R:Rt}{st:ISt}{ds:List Dfd}(esc:List Nat)(dst:Option Nat)(e:TypeId×Bool×Nat×Nat)(D:Bool)(es:Nat)(A:List IV):appV esc dst e ⟨D,.full,es⟩ A [] R st ds =
 chk (([]:List IV).all (fits e.2.1 e.2.2.1)=true) (chk ((A.length+0)*e.2.2.2<=140737488355328/\A.length+0<=140737488355328) (chk (es=e.2.2.1) (R (.val (.sl ⟨D,.full,es⟩ A)) st ds))):=rfl
def NW (g:Nat)(st:ISt):ICall prog gl 96 [.sl ⟨false,.app g,1⟩ (plI [])] st (λr st'=>(∃A,r=.sl A (plI [])/\okEs A 1)/\st'=st):=by
 have D:binV prog 79 .eql (.sl ⟨false,.app g,1⟩ (plI [])) ()=some (.raw (.bool false)):=by
  have:nC prog 79=true:=by kernel_rfl
  simp[binV,kK,this]
 rw[show plI []=[] from rfl] at D ⊢;refine iI func96 ?_;simp only[go_sem,zE,zA,zM,zL,reduceCtorEq,D,NV];exact gv rfl (cO ⟨⟨_,rfl,.inr rfl⟩,rfl⟩)
def NX {s e:ISt}(h:disj s e):join s e=join e s:=by
 funext b;cases A:e b with
 | none =>
  rw[gE A];cases D:s b with
  | none=>rw[gE D,A]
  | some o=>rw[fS D]
 | some o=>rw[fS A,gE (h b (by rw[A];simp)),A]
def EG:∀p:List Nat,ages (plI p)=plI p
 | []=>by simp only[plI,fm,ages]
 | i::p=>by
  have:=EG p;simp only[plI,eo,ages,age] at this ⊢;rw[this]
def EH:∀p:List Nat,(plI p).flatMap IV.cells=plI p
 | []=>rfl
 | i::p=>by
  have:=EH p;simp only[plI,eo,ff,IV.cells,List.singleton_append] at this ⊢;rw[this]
def EI (p:List Nat)(a:IV)(e s:ISt)(hp:PlV p a e)(hl:p.length<=1099511627776)(hd:disj s e):ICall prog gl 96 [a] (join s e) (λr st'=>(∃A,r=.sl A (plI p)/\okEs A 1)/\st'=s):=by
 have key:ICall prog gl 96 [a] e (λr st'=>(∃A,r=.sl A (plI p)/\okEs A 1)/\st'=emp):=by
  rcases hp with⟨t,rfl,ht,rfl,rfl⟩|⟨g,cap,cs,rfl,rfl,h1,h2,h3⟩
  ·exact EF gl t ht emp
  ·have U:gS (emp.put g (some (.box cs)))=emp:=by
    funext b;by_cases E:b=g
    ·rw[E,sU (cT ..)];rfl
    ·have:(emp.put g (some (.box cs))) b=none:=by rw[ISt.put_apply,a_ E];rfl
     rw[rp (λcs' h=>by rw[this] at h;cases h),this];rfl
   refine rq (args':=[.sl ⟨false,.app g,1⟩ (plI p)]) ⟨_,_,rfl,.inr ⟨.sl ⟨true,.app g,1⟩ (plI p),?_,?_⟩,rfl⟩ ?_
   ·rw[<- pg p];refine .sl g cap ⟨true,.app g,1⟩ (plI p) cs rfl (by rw[pg];omega) (by rw[pg];exact h1) (λx hx=>?_) (cT ..) (by simpa using h2) λi r c O hc=>?_
    ·obtain⟨i,_,rfl⟩:=eP.1 hx;rfl
    ·rw[EH p] at hc;have hi:i<p.length:=by
      have:=(lGs hc).1
      rwa [pg] at this
     have:(cs.take p.length)[i]?=cs[i]?:=by rw[fl,b_ hi]
     rw[h3,hc,O] at this;cases this;exact .refl _
   ·simp only[age,EG]
   ·rw[U];by_cases D:p=[]
    ·subst D;exact NW gl g emp
    ·exact NU gl g p D hl emp
 have h1:=key.frame (own:=s) (λb E=>by
  cases he:e b with
  | none=>rfl
  | some o=>exact absurd (hd b (by rw[he];simp)) E)
 rw[NX hd];refine h1.mono ?_;rintro r st' ⟨stu,_,rfl,O,rfl⟩;refine⟨O,?_⟩;funext b;cases W:s b with
 | none=>rw[gE W];rfl
 | some o=>rw[fS W]
def ub:Tr->Prop
 | .mk _ s m u _ sub=>iQ s/\m.size<=1000000/\u.size<=1000000/\∀a∈sub,iQ a.sq
def yG (t:Tr):Prop:=(∀q∈t.walk [],ub q.2)/\t.height<=1099511627776
def NY (G:Gl gl)(T:Gt gl)(ca:Nat)(t:Tr)(x:IV)(hx:IsTr t x)(A:ub t)(st:ISt):ICall prog gl 95 [.raw (.int .u8 ca),.cptr x] st (λr st'=>r=(iP ca t:Int)/\st'=st):=by
 obtain⟨rule,s,m,u,n,sub⟩:=t;exact NO gl G T ca rule s m u n sub x hx A.1 A.2.1 A.2.2.1 A.2.2.2 st
def gg {t:Tr}{x:IV}(h:IsTr t x):∃(rule:Nat) (tl:Tag) (xl:List IV) (tr:Tag) (W:List IV) (op:Int) (fn:ByteArray) (ta:Tag) (xa:List IV) (tb:Tag) (xb:List IV) (v:Bool) (un:ByteArray) (tu:Tag) (D:List IV) (n:ByteArray) (ts:Tag) (O:List IV),
  x=.agg [.raw (.int .u8 rule),.sl tl xl,.sl tr W,.raw (.int .u8 op),fn,.sl ta xa,.sl tb xb,v,un,.sl tu D,n,.sl ts O]:=by
 obtain⟨r',s',m',t',n',b'⟩:=t;obtain⟨aq,aa,ao,U,ax,ay,av,af,ar,ac,v',ah,aj,A,am,E,rfl,_⟩:=h.mk;exact⟨_,_,_,_,_,_,_,_,_,_,_,_,_,_,_,_,_,_,rfl⟩
mutual
def yH:∀(p:List Nat)(t:Tr),(t.walk p).length=t.steps
 | p,.mk _ _ _ _ _ sub=>by simp only[Tr.walk,Tr.steps,eG,EJ p 0 sub];omega
def EJ:∀(p:List Nat)(i:Nat)(l:List Tr),(gr p i l).length=jf l
 | _,_,[]=>rfl
 | p,i,a::l=>by simp only[gr,jf,lLa,yH (p++[i]) a,EJ p (i+1) l]
end
mutual
def EK:∀(q:List Nat)(t:Tr)(x:List Nat×Tr),x∈t.walk q->x.1.length+1<=q.length+t.height
 | q,.mk _ _ _ _ _ sub,x,h=>by
  simp only[Tr.walk,dC] at h;simp only[Tr.height];rcases h with rfl|h
  ·simp only;omega
  ·have:=EL q 0 sub x h;omega
def EL:∀(q:List Nat)(i:Nat)(l:List Tr)(x:List Nat×Tr),x∈gr q i l->x.1.length<=q.length+nf l
 | _,_,[],x,h=>by simp[gr] at h
 | q,i,a::l,x,h=>by
  simp only[gr,eX] at h;simp only[nf];rcases h with h|h
  ·have:=EK (q++[i]) a x h;rw[lLa] at this;simp only[iY] at this;omega
  ·have:=EL q (i+1) l x h;omega
end
def CkI (st:ISt)(b2 b4 D A ca c:Nat)(s:ISt):Prop:=s b2=some (.box [.raw (.int .u8 ca)])/\s b4=some (.box [()])/\s D=some (.box [(0:Int)])/\s A=some (.box [c])/\subSt st s
def CkS (st:ISt)(b4 D:Nat)(q:List Nat×Nat)(e:Exit)(s:ISt):Prop:=e=.ret/\(∃A,s b4=some (.box [.sl A (plI q.1)])/\okEs A 1)/\s D=some (.box [q.2])/\subSt st s
def EM (G:Gl gl)(T:Gt gl)(ca:Nat)(t:Tr)(x:IV)(hx:IsTr t x)(ai:yG t)(st:ISt):ICall prog gl 58 [.raw (.int .u8 ca),x] st (λr st'=>(∃tg,r=.tup [.sl tg (plI (gM ca t).1),.raw (.int .i64 (gM ca t).2)]/\okEs tg 1)/\st'=st):=by
 have au:=λst=>NT gl x st t hx;have ax:=λI=>NS gl t x hx ai.2 I;have aJ:=λst=>yu gl ca st;obtain⟨rule,tl,xl,tr,xr,op,fn,ta,xa,tb,xb,v,un,tu,xu,n,ts,xs,rfl⟩:=gg hx;refine ICall.intro (c:=cf prog gl [2,4,5,6] [] [3]) func58 rfl (by show _<=31;simp) (by kernel_rfl) ?_;simp only[go_sem,zE,zA,IV.one];intro b2;refine eB λaN=>?_;intro b4;refine eB λac=>?_;intro b5;refine eB λE=>?_;have ao:b2≠b4:=by rintro rfl;rw[cT] at ac;cases ac
 have ae:b4≠b5:=by rintro rfl;rw[cT] at E;cases E
 have aC:b2≠b5:=by rintro rfl;rw[ISt.put_apply,a_ ao,cT] at E;cases E
 rw[ISt.put_apply,a_ ao.symm] at ac;rw[ISt.put_apply,a_ ae.symm,ISt.put_apply,a_ aC.symm] at E;obtain⟨s1,hs1,f2,f4,f5,ah⟩:∃s1,s1=((st.put b2 (some (.box [.raw (.int .u8 ca)]))).put b4 (some (.box [()]))).put b5 (some (.box [(0:Int)]))/\s1 b2=some (.box [.raw (.int .u8 ca)])/\s1 b4=some (.box [()])/\s1 b5=some (.box [(0:Int)])/\subSt st s1 :=
  ⟨_,rfl,by simp only[ISt.put_apply,a_ ao,a_ aC,dB],by simp only[ISt.put_apply,a_ ae,dB],by simp only[ISt.put_apply,dB],gU (gU (gU (subSt.refl st) aN) ac) E⟩
 rw[<- hs1];simp only[go_sem,f2];refine (aJ _).mono ?_;rintro _ ar ⟨rfl,rfl⟩;have g5:∀(s:ISt) o,(s.put b4 o) b5=s b5:=λs o=>by rw[ISt.put_apply,a_ ae.symm]
 have g4:∀(s:ISt) o o',((s.put b4 o).put b5 o') b4=o:=λs o o'=>by rw[ISt.put_apply,a_ ae,cT]
 have O:∀(s:ISt) o o',subSt st s->subSt st ((s.put b4 o).put b5 o'):=λs o o' h=>gU (gU h ac) E;cases hk:j6 ca
 ·have hq:gM ca t=([],2):=by unfold gM;rw[hk];rfl
  simp only[go_sem,zE,zL,f4,f5,g5,g4,cT];exact dZ (O _ _ _ ah) ⟨⟨_,by rw[hq];rfl,.inl rfl⟩,rfl⟩
 ·simp only[go_sem,zE,zA,zL];intro b6;refine eB λD=>?_;rw[eZ];refine (au _).mono ?_;rintro _ _ ⟨rfl,rfl⟩;have aB:b2≠b6:=by rintro rfl;rw[f2] at D;cases D
  have an:b4≠b6:=by rintro rfl;rw[f4] at D;cases D
  have am:b5≠b6:=by rintro rfl;rw[f5] at D;cases D
  have aj:st b6=none:=by
   cases hq:st b6 with
   | none=>rfl
   | some o=>rw[ah b6 o hq] at D;cases D
  have aA:CkI st b2 b4 b5 b6 ca 0 (ar.put b6 (some (.box [(0:Int)]))):=⟨by rw[ISt.put_apply,a_ aB];exact f2,by rw[ISt.put_apply,a_ an];exact f4,by rw[ISt.put_apply,a_ am];exact f5,cT ..,gU ah aj⟩
  generalize ar.put b6 (some (.box [(0:Int)]))=s2 at aA ⊢;simp only[go_sem,reduceCtorEq];refine RangeL.intro (lkT (t.walk [])) (t.walk []).length (λk s=>CkI st b2 b4 b5 b6 ca k s/\k<=300) (λe s=>CkS st b4 b5 ([],5) e s/\300<t.steps) rfl ?_ ?_ ?_ (ax _) ?_ ?_
  ·rintro k a e ⟨p,u,a,y,_,_,_,rfl⟩;rfl
  ·exact⟨aA,by omega⟩
  ·rintro k _ e s ⟨p,z,a,y,U,hz,hp,rfl⟩ hd ⟨⟨c2,c4,c5,c6,A⟩,av⟩;have W:disj s e:=hd;have r6:=lg W _ _ c6;have r4:=lg W _ _ c4;have r5:=lg W _ _ c5;have e6:e b6=none:=ISt.disj.off hd c6;have hw:IntKind.i64.wrap ((k:Int)+1)=((k+1:Nat):Int):=by rw[w64]<;>omega
   have q4:∀o,((join s e).put b6 o) b4=some (.box [()]):=λo=>by rw[de an];exact r4
   have q5:∀o o',(((join s e).put b6 o).put b4 o') b5=some (.box [(0:Int)]):=λo o'=>by rw[de ae.symm,de am];exact r5
   by_cases aW:300<k+1
   ·have hb:decide ((300:Int)<((k+1:Nat):Int))=true:=dEt (by omega);simp only[go_sem,zE,zL,r6,hw,cT,hb,q4,q5];refine⟨⟨rfl,⟨⟨true,.nil,0⟩,?_,.inl rfl⟩,cT ..,gU (gU (gU (A.trans (lg W)) aj) ac) E⟩,?_⟩
    ·rw[de ae,cT];rfl
    ·have:=(lGs U).1;rw[yH] at this;omega
   ·have hb:decide ((300:Int)<((k+1:Nat):Int))=false:=dEf (by omega);simp only[go_sem,zE,zL,r6,hw,cT,hb];refine⟨s.put b6 (some (.box [((k+1:Nat):Int)])),⟨⟨by rw[de aB];exact c2,by rw[de an];exact c4,by rw[de am];exact c5,cT ..,gU A aj⟩,by omega⟩,ISt.disj.put hd e6,lS e6⟩
  ·rintro s r ⟨⟨c2,c4,c5,c6,A⟩,av⟩;rw[yH] at av;have hq:gM ca t=ic (iP ca) (t.walk []):=by
    unfold gM;rw[hk];simp only[fW,bFt,dJ];rw[a_ (by omega)]
   simp only[go_sem,zE,zA];refine (au _).mono ?_;rintro _ _ ⟨rfl,rfl⟩;simp only[go_sem,reduceCtorEq];refine RangeL.intro (lkT (t.walk [])) (t.walk []).length (λk s=>(s b2=some (.box [.raw (.int .u8 ca)])/\s b4=some (.box [()])/\s b5=some (.box [(0:Int)])/\subSt st s)/\ic (iP ca) ((t.walk []).take k)=([],0)) (λe s=>CkS st b4 b5 (gM ca t) e s) rfl ?_ ?_ ?_ (ax _) ?_ ?_
   ·rintro k a e ⟨p,u,a,y,_,_,_,rfl⟩;rfl
   ·exact⟨⟨c2,c4,c5,A⟩,by simp[ic]⟩
   ·rintro k _ e s ⟨p,z,a,y,U,hz,hp,rfl⟩ hd ⟨⟨c2,c4,c5,A⟩,hf⟩;have W:disj s e:=hd;have r2:=lg W _ _ c2;have aI:=EK [] t _ (lMg U);have bp:=ai.2;simp only[fN] at aI;have aM:=λst=>NY gl G T ca z y hz (ai.1 _ (lMg U)) st;have aL:=EI gl p a e s hp (by omega) W;have aw:ivOf a=some a:=by rcases hp with⟨t,rfl,_⟩|⟨g,cap,cs,rfl,_⟩<;>rfl
    obtain⟨aE,bf,a7,be,a6,bo,bq,bh,ba,bg,a8,v',bb,bc,aZ,n',bd,a1,rfl⟩:=gg hz;simp only[go_sem,zE,zA,r2,aw];refine (aM _).mono ?_;rintro _ _ ⟨rfl,rfl⟩;by_cases h0:iP ca z=0
    ·have d0:decide (((iP ca z:Nat):Int)=0)=true:=dEt (by omega);simp only[go_sem,d0];refine⟨s,⟨⟨c2,c4,c5,A⟩,?_⟩,hd,rfl⟩;rw[dK U,tM,hf];simp[ic,h0]
    ·have d0:decide (((iP ca z:Nat):Int)=0)=false:=dEf (by omega);have hv:gM ca t=(p,iP ca z):=by
      rw[hq]
      conv=>lhs;rw[<- eF k (t.walk [])]
      rw[fM (lGs U).1,(lGs U).2,tM,hf];simp[ic,h0]
     simp only[go_sem,zE,zA,d0,aw];refine aL.mono ?_;rintro _ _ ⟨⟨t',rfl,aG⟩,rfl⟩;simp only[go_sem,zE,zL,c4,c5,g5];refine⟨rfl,⟨t',?_,aG⟩,?_,O _ _ _ A⟩
     ·rw[g4,hv]
     ·rw[cT,hv]
   ·rintro s r ⟨⟨c2,c4,c5,A⟩,hf⟩;rw[lTl,<- hq] at hf;simp only[go_sem,zE,zL,c4,c5,g5,g4,cT];exact dZ (O _ _ _ A) ⟨⟨_,by rw[hf];rfl,.inl rfl⟩,rfl⟩
   ·rintro e s r ⟨rfl,⟨tg,c4,ht⟩,c5,A⟩;simp only[go_sem,zE,c4,c5];exact dZ A ⟨⟨_,rfl,ht⟩,rfl⟩
  ·rintro e s r ⟨⟨rfl,⟨tg,c4,ht⟩,c5,A⟩,hb⟩;have hq:gM ca t=([],5):=by unfold gM;rw[hk,b_ hb];rfl
   simp only[go_sem,zE,c4,c5];exact dZ A ⟨⟨_,by rw[hq],ht⟩,rfl⟩
