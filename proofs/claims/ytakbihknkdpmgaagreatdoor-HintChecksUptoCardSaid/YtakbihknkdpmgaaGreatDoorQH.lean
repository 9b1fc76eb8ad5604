/- Walks of the second program: Wrong, Step -/
import Derived.Test.YtakbihknkdpmgaaGreatDoorQG
set_option linter.all false
open Nat renaming reduceEqDiff → zE,reduceBEq → zB,reduceAdd → zA,reduceMul → zM,reduceLeDiff → zL
namespace Go.Proofs.Tryz
open Go Go.Iv
set_option maxRecDepth 4000
variable (gl:Nat->Option IV)
set_option maxHeartbeats 1000000 in
def Qq {ca:Nat}(hc:ca=1\/ca=2)(rule:Nat)(s:Sq)(m:Fm)(u:Tm)(n:ByteArray)(sub:List Tr)(x:IV)(hx:IsTr (.mk rule s m u n sub) x)(hn:NA (.mk rule s m u n sub))(af:∀a∈sub,a.sq.l.length<=1099511627776/\a.sq.r.length<=1099511627776)(hst:(Tr.mk rule s m u n sub).steps<=1099511627776)(st:ISt) :
  ICall prog gl 89 [.raw (.int .u8 ca),x] st (λr st'=>r=(fP ca (.mk rule s m u n sub):Int)/\st'=st):=by
 have ah:ca≠3:=by omega
 have hB:=λst=>Qh gl hc rule s m u n sub x hx hn st;obtain⟨tl,xl,tr,xr,op,fn,ta,xa,tb,xb,v,un,tu,xu,ts,xs,rfl,bI,e1,i1,e2,i2,hy,hz,e3,i3⟩:=hx.mk;simp only[NA] at hn;simp only[Tr.steps] at hst;have bJ:=lY sub;have aJ:fP ca (.mk rule s m u n sub)=if (fA ca s rule m u n).2≠0 then (fA ca s rule m u n).2 else if sub.length≠(fA ca s rule m u n).1.length then 194 else if gp s (fA ca s rule m u n).1 sub then 0 else 195:=by simp only[fP]
 rw[aJ];have G:∀ad,fA ca s rule m u n=(ad,0)->∀q∈ad,q.l.length<=2/\q.r.length<=2/\(∀f∈q.l,fmB ca f=true)/\∀f∈q.r,fmB ca f=true:=λad h=>by
  have h0:(fA ca s rule m u n).2=0:=by rw[h]
  obtain⟨r,k1,k2,k3,_,_,_,k7⟩:=Nw h0;rw[h] at k7;exact Qf hc k2 (Prod.ext (Prod.mk.inj k7).1.symm k3)
 have E:=λh=>EZ (ca:=ca) (s:=s) (rule:=rule) (main:=m) (term:=u) (name:=n) h;generalize fA ca s rule m u n=q at hB G E ⊢;obtain⟨ad,e⟩:=q;simp only at hB E ⊢;refine iI func89 ?_;simp only[go_sem,zE,zA,zL,reduceCtorEq];refine (hB _).mono ?_;rintro _ st ⟨ao,za,rfl,hta,D,rfl⟩;by_cases he:e=0
 case neg =>
  have k0:decide (((e:Nat):Int)=0)=false:=dEf (by omega);rw[cV he];simp only[go_sem,zE,k0];exact c_ ⟨rfl,rfl⟩
 subst he;rw[a_ (by simp)];have G:=G ad rfl;obtain⟨_,aY,aX,aG,aF⟩:=yGr.1 (E rfl);by_cases ae:sub.length=ad.length
 case neg =>
  have k1:decide (((ad.length:Nat):Int)=((sub.length:Nat):Int))=false:=dEf (by omega);rw[cV ae];simp only[go_sem,zE,D.len,i3.len,k1,show decide (((0:Nat):Int)=0)=true from rfl];intros;exact c_ ⟨rfl,rfl⟩
 rw[a_ (by simp[ae])];have k1:decide (((ad.length:Nat):Int)=((sub.length:Nat):Int))=true:=dEt (by omega);simp only[go_sem,zE,D.len,i3.len,k1,show decide (((0:Nat):Int)=0)=true from rfl];intros;refine dj ad.length (λk fr st' ds=>(∀(i:Nat) (m:Sq) (t:Tr),i<k->ad[i]?=some m->sub[i]?=some t->j7 t.sq (s.plus m)=true)/\fr 3=.box [.raw (.int .u8 rule),.sl tl xl,.sl tr xr,.raw (.int .u8 op),fn,.sl ta xa,.sl tb xb,v,un,.sl tu xu,n,.sl ts xs] /\
  fr 5=.iv (.sl ao za)/\fr 7=.iv (.raw (.int .i64 k))/\st'=st/\ds=[]) ?_ ?_ ?_
 ·simp only[go_sem,zE];exact⟨λi m t h=>by omega,rfl⟩
 ·rintro k fr av _ O ⟨hk,f3,f5,f7,rfl,rfl⟩;obtain⟨q,hq⟩:=dB O;have aB:=lMg hq;obtain⟨aq,ag,aL⟩:=D.get hq;obtain⟨b,hb⟩:=dB (show k<sub.length by omega);have ai:=lMg hb;obtain⟨zb,aD,aA⟩:=i3.get hb;have A:=Hs (Aj hn.2.2.2 ai);have aK:=af b ai;obtain⟨br,J,bm,bu,bn,a1⟩:=b;obtain⟨bw,be,tr5,bc,bF,bO,bB,bh,bx,bf,v5,bl,bp,a7,bt,ba,rfl,_,aU,az,aT,ay,_⟩:=aA.mk;obtain⟨bD,bj,bC,bi,rfl,aS,ax,aQ,aw⟩:=aL;simp only[Tr.sq] at A aK;obtain⟨bM,bL,aI,aH⟩:=G q aB;have aN:=λst=>Hi gl ah J.l s.l q.l _ _ _ _ _ _ aU az e1 i1 aS ax A.1 aG aI ⟨by omega,by omega,by omega⟩ st;have aM:=λst=>Hi gl ah J.r s.r q.r _ _ _ _ _ _ aT ay e2 i2 aQ aw A.2 (λf hf=>(aF f hf).1) aH ⟨by omega,by omega,by omega⟩ st;have U:j7 J (s.plus q)=(allF J.l (s.l++q.l)&&allF J.r (s.r++q.r)):=rfl;have ab:j7 J (s.plus q)=false->gp s ad sub=false:=λh=>by
   cases hp:gp s ad sub
   ·rfl
   ·have:=E9 s ad sub hp k q _ hq hb;simp only[Tr.sq] at this;rw[h] at this;cases this
  have aa:j7 J (s.plus q)=true->∀(i:Nat) (m:Sq) (t:Tr),i<k+1->ad[i]?=some m->sub[i]?=some t->j7 t.sq (s.plus m)=true:=λh i m t hi h1 h2=>by
   rcases fQ i k with ac|bK
   ·exact hk i m t ac h1 h2
   ·obtain rfl:i=k:=by omega
    rw[hq] at h1;rw[hb] at h2;cases h1;cases h2;exact h
  simp only[go_sem,zE,zB,zA,zL,f3,f5,f7,D.len,lt_i O,dz e3,dz hta,iNn,aD,ag,fits];intros;refine (aN _).q ?_;cases ak:allF J.l (s.l++q.l)
  ·rw[ak] at U;rw[ab (by rw[U];rfl)];simp only[go_sem,zE,reduceCtorEq];exact c_ ⟨rfl,rfl⟩
  ·simp only[go_sem,zE,zA,f3,f5,f7,dz hta,iNn,ag,fits];intros;refine (aM _).q ?_;cases aj:allF J.r (s.r++q.r)
   ·rw[aj,Bool.and_false] at U;rw[ab U];simp only[go_sem,zE,reduceCtorEq];exact c_ ⟨rfl,rfl⟩
   ·rw[ak,aj] at U;simp only[go_sem,zE,f3,f5,f7,dC O (by omega)];exact aa U
 ·rintro fr av _ ⟨hk,f3,f5,f7,rfl,rfl⟩;have hp:gp s ad sub=true:=HA λi m t h1 h2=>hk i m t (lGs h1).1 h1 h2;simp only[go_sem,zE,f5,f7,D.len,dF (nLi _)];intros;exact c_ ⟨by rw[hp];rfl,rfl⟩
def Qr {rule:Nat}{s:Sq}{m:Fm}{u:Tm}{n:ByteArray}{sub:List Tr}(h:okT (.mk rule s m u n sub)=true):∀a∈sub,a.sq.l.length<=1099511627776/\a.sq.r.length<=1099511627776:=λa G=>by
 simp only[okT,bAt] at h;have D:=qz h.2 G;obtain⟨br,A,bm,bu,bn,E⟩:=a;simp only[okT,bAt] at D;have h1:=(nh D.1).1;have h2:=mr A.l;have U:=mr A.r;have O:=kX A.l;have J:=kX A.r;simp only[Tr.sq];omega
def wstC (t:Tr):Prop:=∀(x:IV) (_:IsTr t x) (_:t.steps<=1099511627776) (st:ISt),ICall prog gl 40 [x] st (λr st'=>r=t.steps/\st'=st)
def Qs (rule:Nat)(s:Sq)(f:Fm)(u:Tm)(n:ByteArray)(sub:List Tr)(IH:∀a∈sub,wstC gl a):wstC gl (.mk rule s f u n sub):=by
 intro x hx hst st;obtain⟨tl,xl,tr,xr,op,fn,ta,xa,tb,xb,v,un,tu,xu,ts,xs,rfl,aG,e1,i1,e2,i2,hy,hz,e3,i3⟩:=hx.mk;simp only[Tr.steps] at hst ⊢;have U:=lY sub;refine iI func40 ?_;simp only[go_sem];refine dj sub.length (λk fr st' ds=>fr 1=.box [.raw (.int .u8 rule),.sl tl xl,.sl tr xr,.raw (.int .u8 op),fn,.sl ta xa,.sl tb xb,v,un,.sl tu xu,n,.sl ts xs]/\fr 3=((1+fj (sub.take k):Nat):Int)/\fr 4=.iv (.raw (.int .i64 k))/\st'=st/\ds=[]) ?_ ?_ ?_
 ·simp only[go_sem,zE];simp[fj]
 ·rintro k fr J _ A ⟨f1,f3,f4,rfl,rfl⟩;obtain⟨a,ha⟩:=dB A;have G:=lMg ha;obtain⟨z,aa,E⟩:=i3.get ha;have h1:=Hk ha;have h2:=Ah sub (k+1);have D:=λst=>IH a G z E (by have:=oK G;omega) st;have w7:IntKind.i64.wrap (((1+fj (sub.take k):Nat):Int)+((a.steps:Nat):Int))=((1+fj (sub.take (k+1)):Nat):Int):=by rw[w64]<;>omega
  obtain⟨O,az,aj,ay,ah,aE,aH,aC,am,aA,ak,v',aq,av,ac,n',ax,af,rfl⟩:=eT E;simp only[go_sem,zE,zB,zA,f1,f3,f4,i3.len,lt_i A,dz e3,iNn,aa,fits];intro _;refine (D _).q ?_;simp only[go_sem,zE,f1,f4,w7,dC A (by omega)]
 ·rintro fr J _ ⟨f1,f3,f4,rfl,rfl⟩;rw[lTl] at f3;simp only[go_sem,zE,f1,f3,f4,i3.len,dF (nLi _)];intro _;exact c_ ⟨rfl,rfl⟩
def HE:∀(k:Nat)(t:Tr),SizeOf.sizeOf t<k->wstC gl t
 | 0,t,h=>by omega
 | k+1,.mk r sq f u n sub,h=>Qs gl r sq f u n sub (λa A=>HE k a (by
   have:=lSm A;simp at h;omega))
def Qt (t:Tr):wstC gl t:=HE gl _ t (ew _)
def HF (rule:Nat)(s:Sq)(m:Fm)(u:Tm)(n:ByteArray)(sub:List Tr)(x:IV)(A:IsTr (.mk rule s m u n sub) x)(st:ISt) :
  ICall prog gl 42 [x] st (λr st'=>r=(gZ (.mk rule s m u n sub):Bool)/\st'=st):=by
 obtain⟨tl,xl,tr,J,op,fn,ta,U,tb,O,v,un,tu,E,ts,G,rfl,D,e1,i1,e2,i2,hy,hz,e3,i3⟩:=A.mk;have d0:decide (((rule:Nat):Int)=0)=decide (rule=0):=by rw[eX];omega
 refine iI func42 ?_;cases h0:decide (rule=0)
 ·simp only[go_sem,zE,zA,d0,h0];intros;exact c_ ⟨by simp only[gZ,h0,oe],rfl⟩
 ·simp only[go_sem,zE,d0,h0,i3.len,di0];intros;refine c_ ⟨?_,rfl⟩;simp only[gZ,h0,g_];cases sub<;>simp
def Qu {ca:Nat}(hc:ca=1\/ca=2)(rule:Nat)(s:Sq)(m:Fm)(u:Tm)(n:ByteArray)(sub:List Tr)(x:IV)(U:IsTr (.mk rule s m u n sub) x)(G:okT (.mk rule s m u n sub)=true)(hst:(Tr.mk rule s m u n sub).steps<=60)(st:ISt) :
  ICall prog gl 67 [.raw (.int .u8 ca),x] st (λr st'=>r=(iu ca (.mk rule s m u n sub):Bool)/\st'=st):=by
 rw[Qm hc _ (by omega)];have hO:=λst=>HF gl rule s m u n sub x U st;have hn:=Ak G;have ab:=λst=>Qq gl hc rule s m u n sub x U hn (Qr G) (by omega) st;obtain⟨tl,xl,tr,xr,op,fn,ta,xa,tb,xb,v,un,tu,xu,ts,xs,rfl,ak,e1,i1,e2,i2,hy,hz,e3,i3⟩:=U.mk;simp only[NA] at hn;have hV:=λst=>Hj gl hc s _ ⟨tl,xl,tr,xr,rfl,e1,i1,e2,i2⟩ hn.1 st;simp only[Ao];refine iI func67 ?_;simp only[go_sem,zE,zA,zL];refine (hO _).q ?_;cases ho:gZ (.mk rule s m u n sub)
 ·simp only[go_sem,zE,zA,zL,reduceCtorEq];refine (ab _).q ?_;simp only[go_sem];exact c_ ⟨by congr 2;rw[eX];omega,rfl⟩
 ·obtain⟨A,mn,J,ms⟩:=m;obtain⟨ah,af,ag,ae,D,al,hta,E,aj,O⟩:=hy.mk;simp only[IV.agg.injEq,List.cons.injEq,IV.raw.injEq,Value.int.injEq,Value.string.injEq,true_and,and_true] at D;obtain⟨rfl,rfl,⟨rfl,rfl⟩,rfl,rfl⟩:=D;have hm:eqB (Fm.mk A fn J ms) fm0=(decide (A=0)&&(decide (fn=⟨#[]⟩)&&(decide (J.length=0)&&decide (ms.length=0)))):=by
   rw[kN,yQx];simp only[bAt,dTe,ll,fm0,Fm.mk.injEq]
  rw[hm];have d0:decide (((A:Nat):Int)=0)=decide (A=0):=by rw[eX];omega
  simp only[go_sem,zE,zA,zL,reduceCtorEq];refine (hV _).q ?_;cases hv:ev ca s
  ·simp only[go_sem,zE];intros;exact c_ ⟨rfl,rfl⟩
  cases h0:decide (A=0)
  ·simp only[go_sem,zE,zA,d0,h0];intros;exact c_ ⟨rfl,rfl⟩
  cases h1:decide (fn=⟨#[]⟩)
  ·simp only[go_sem,zE,zA,zL,d0,h0,h1,kn];intros;exact c_ ⟨rfl,rfl⟩
  cases h2:decide (J.length=0)
  ·simp only[go_sem,zE,zA,zL,d0,h0,h1,kn,E.len,di0,h2];intros;exact c_ ⟨rfl,rfl⟩
  ·simp only[go_sem,zE,zA,zL,d0,h0,h1,kn,E.len,O.len,di0,h2];intros;exact c_ ⟨rfl,rfl⟩
def wfiC (ca:Nat)(t:Tr):Prop:=∀(x:IV) (_:IsTr t x) (_:okT t=true) (_:t.steps<=60) (p:List Nat) (D:Tag) (_:okEs D 1) (_:p.length+t.steps<=3000) (st:ISt),
 ICall prog gl 41 [.raw (.int .u8 ca),x,.sl D (plI p)] st (λr st'=>(∃A,r=.tup [.sl A (plI (eV (badN ca) (t.walk p)).1),(decide ((eV (badN ca) (t.walk p)).2≠0):Bool)]/\okEs A 1)/\st'=st)
set_option maxHeartbeats 1000000 in
def Qv {ca:Nat}(hc:ca=1\/ca=2)(rule:Nat)(s:Sq)(f:Fm)(u:Tm)(n:ByteArray)(sub:List Tr)(IH:∀a∈sub,wfiC gl ca a):wfiC gl ca (.mk rule s f u n sub):=by
 intro x hx aa hst p tg ax az st;have aF:=λst=>Qu gl hc rule s f u n sub x hx aa hst st;obtain⟨tl,xl,tr,xr,op,fn,ta,xa,tb,xb,v,un,tu,xu,ts,xs,rfl,bg,e1,i1,e2,i2,hy,hz,e3,i3⟩:=hx.mk;have aj:okTs sub=true:=by
  simp only[okT,bAt] at aa;exact aa.2
 have G:(Tr.mk rule s f u n sub).walk p=(p,.mk rule s f u n sub)::ek p 0 sub:=by simp only[Tr.walk]
 rw[G];simp only[Tr.steps] at hst az;have aC:=lY sub;refine ICall.intro (c:=cf prog gl [] [(6,[0,1,2,3,4,5,6,7,9,10,8,11,12,13,14,15,16,17])]) func41 rfl (by show _<=41;simp) (by kernel_rfl) ?_;simp only[go_sem,zE,zA,zL,reduceCtorEq];refine (aF _).q ?_;cases hr:iu ca (.mk rule s f u n sub)
 ·have h0:badN ca (.mk rule s f u n sub)=270:=by unfold badN;rw[hr];rfl
  have hq:eV (badN ca) ((p,.mk rule s f u n sub)::ek p 0 sub)=(p,270):=by simp[eV,h0]
  rw[hq];simp only[go_sem,zE];exact c_ ⟨⟨_,rfl,ax⟩,rfl⟩
 have h0:badN ca (.mk rule s f u n sub)=0:=by unfold badN;rw[hr];rfl
 have hq:eV (badN ca) ((p,.mk rule s f u n sub)::ek p 0 sub)=eV (badN ca) (ek p 0 sub):=by simp only[eV,cV h0]
 rw[hq];simp only[go_sem];refine dj sub.length (λk fr st' ds=>eV (badN ca) (ek p 0 (sub.take k))=([],0)/\subSt st st'/\fr 0=.iv (.raw (.int .u8 ca))/\fr 2=.iv (.sl tg (plI p))/\fr 4=.box [.raw (.int .u8 rule),.sl tl xl,.sl tr xr,.raw (.int .u8 op),fn,.sl ta xa,.sl tb xb,v,un,.sl tu xu,n,.sl ts xs]/\fr 8=.iv (.raw (.int .i64 k))/\ds=[]) ?_ ?_ ?_
 ·simp only[go_sem,zE,reduceCtorEq];exact⟨rfl,subSt.refl _,rfl⟩
 ·rintro k fr af _ ab ⟨hk,D,f0,f2,f4,f9,rfl⟩;obtain⟨a,ha⟩:=dB ab;have ae:=lMg ha;obtain⟨z,aD,ag⟩:=i3.get ha;have bf:=oK ae;have an:=λtg ht st=>IH a ae z ag (qz aj ae) (by omega) (p++[k]) tg ht (by simp only[lLa,dV,dU];omega) st;have am:=HD (p:=p) ha;obtain⟨mm,aB⟩:=Qn p sub (k+1);have aA:plI (p++[k])=plI p++[.raw (.int .i64 k)]:=by simp[plI]
  have al:(plI p).all (fits false 1)=true:=by
   rw[eP];intro y hy;obtain⟨i,_,rfl⟩:=dH.1 hy;rfl
  obtain⟨aw,a7,aQ,a6,aN,be,bh,bd,aU,bb,aS,v',aW,aY,aJ,n',a1,aL,rfl⟩:=eT ag;rw[aA] at an;simp only[go_sem,zE,zB,zA,zM,zL,reduceCtorEq,f0,f2,f4,f9,i3.len,lt_i ab,dz e3,iNn,aD,fits,dW,show kB 0 []=true from rfl];intros;refine uz (n:=0) (own.full af st 0 1) rfl (ir p) D rfl al (by simp only;omega) (by omega) λba st4 U J _=>?_;simp only[go_sem,zE,zA];refine jN U (by simp[ir]) J rfl (by simp[fits,IV.one]) (by simp only;omega) (by omega) λaq av O A _ _=>?_;have ac:=an aq O.es av;simp only[go_sem,zE,zA];refine ac.mono ?_;rintro _ _ ⟨⟨a8,rfl,ah⟩,rfl⟩;by_cases E:(eV (badN ca) (a.walk (p++[k]))).2=0
  ·have k2:decide ((eV (badN ca) (a.walk (p++[k]))).2≠0)=false:=dEf λh=>h E;simp only[go_sem,zE,reduceCtorEq,f0,f2,f4,f9,k2,dC ab (by omega)];refine⟨?_,A⟩;rw[am,nO,hk];simp only[dD];exact yi _ _ E
  ·have k2:decide ((eV (badN ca) (a.walk (p++[k]))).2≠0)=true:=dEt E;have ai:eV (badN ca) (ek p 0 sub)=eV (badN ca) (a.walk (p++[k])):=by
    rw[aB,nO,am,nO,hk];simp only[dD,a_ E]
   simp only[go_sem,zE,k2];exact ez (st':=st) A ⟨⟨_,by rw[ai,k2],ah⟩,rfl⟩
 ·rintro fr af _ ⟨hk,D,f0,f2,f4,f9,rfl⟩;rw[lTl] at hk;rw[hk];simp only[go_sem,zE,f4,f9,i3.len,dF (nLi _)];intros;exact ez (st':=st) D ⟨⟨_,rfl,.inl rfl⟩,rfl⟩
def HG {ca:Nat}(hc:ca=1\/ca=2):∀(k:Nat) (t:Tr),SizeOf.sizeOf t<k->wfiC gl ca t
 | 0,t,h=>by omega
 | k+1,.mk r sq f u n sub,h=>Qv gl hc r sq f u n sub (λa A=>HG hc k a (by
   have:=lSm A;simp at h;omega))
def Qw {ca:Nat}(t:Tr)(x:IV)(E:IsTr t x)(J:okT t=true)(hst:t.steps<=60)(st:ISt) :
  ICall prog gl 11 [.raw (.int .u8 ca),x] st (λr st'=>(∃A,r=.tup [.sl A (plI (hCk ca t).1),((hCk ca t).2:Int)]/\okEs A 1)/\st'=st):=by
 have hF:=λ(hc:ca=1\/ca=2) st=>HG gl hc _ t (ew _) x E J hst [] ⟨true,.nil,0⟩ (.inl rfl) (by simp only[dU];omega) st;have hS:=λst=>Qt gl t x E (by omega) st;obtain⟨D,aj,ab,ai,aa,am,aq,al,ae,ak,ac,v',af,ag,O,n',ah,U,rfl⟩:=eT E;have k3:decide ((300:Int)<((t.steps:Nat):Int))=false:=dEf (by omega);refine iI func11 ?_;unfold hCk;by_cases hc:ca=1\/ca=2
 case neg =>
  rw[a_ hc];simp only[go_sem,zE,reduceCtorEq,show decide (((ca:Nat):Int)=1)=false from dEf (by omega),show decide (((ca:Nat):Int)=2)=false from dEf (by omega)];intros;exact c_ ⟨⟨_,rfl,.inl rfl⟩,rfl⟩
 rw[cV hc,a_ (by omega)];have hF:=hF hc;have h2:(eV (badN ca) (t.walk [])).2=0\/(eV (badN ca) (t.walk [])).2=270:=by
  generalize t.walk []=w
  induction w with
  | nil=>exact .inl rfl
  | cons q w ih =>
   obtain⟨p,z⟩:=q;rw[eV];split
   ·exact ih
   ·rename_i h;unfold badN at h ⊢;split<;>simp_all
 have h1:=yi (badN ca) (t.walk []);generalize eV (badN ca) (t.walk [])=q at hF h1 h2;obtain⟨q,e⟩:=q;simp only at hF h1 h2;rcases hc with rfl|rfl
 all_goals
  simp only[go_sem,zE,zA,zL,reduceCtorEq,kc,Int.reduceEq,dA,decide_false];intros;refine (hS _).q ?_;simp only[go_sem,zE,zA,zL,reduceCtorEq,k3];refine (hF _).mono ?_;rintro _ st ⟨⟨A,rfl,G⟩,rfl⟩;rcases h2 with rfl|rfl
  ·cases h1 rfl;simp only[go_sem,zE,ne_eq,nTf,decide_false];exact c_ ⟨⟨_,rfl,.inl rfl⟩,rfl⟩
  ·simp only[go_sem,zE,reduceCtorEq,ne_eq,nFt,dA];exact c_ ⟨⟨_,rfl,G⟩,rfl⟩
def Qx (l:List Tr):(nk 0 l).length<=fj l:=by
 unfold nk;rw[dY];exact dT (iU ..) (Nat.le_of_eq (zZ _ _ _))
def wgoC (t:Tr):Prop:=∀(x:IV) (_:IsTr t x) (_:t.steps<=1000) (st:ISt),ICall prog gl 15 [x] st (λr st'=>(∃A ys,r=.sl A ys/\okEs A 1/\oU (e_ t) ys)/\st'=st)
def Qy (rule:Nat)(s:Sq)(f:Fm)(u:Tm)(n:ByteArray)(sub:List Tr)(IH:∀a∈sub,wgoC gl a):wgoC gl (.mk rule s f u n sub):=by
 intro x hx hst st;have hO:=λst=>HF gl rule s f u n sub x hx st;obtain⟨tl,xl,tr,xr,op,fn,ta,xa,tb,xb,v,un,tu,xu,ts,xs,rfl,bd,e1,i1,e2,i2,hy,hz,e3,i3⟩:=hx.mk;simp only[Tr.steps] at hst;have au:=lY sub;rw[Qo];refine iI func15 ?_;simp only[go_sem,zE,zA,zL];refine (hO _).q ?_;cases ho:gZ (.mk rule s f u n sub)
 case true =>
  simp only[go_sem,zM,zL,fits,dW];exact c_ ⟨⟨_,_,rfl,.inr rfl,AllR.nil.snoc ⟨_,rfl,.inl rfl⟩⟩,rfl⟩
 simp only[go_sem,reduceCtorEq];refine dj sub.length (λk fr st' ds=>(∃J ys,fr 3=.iv (.sl J ys)/\oU (nk 0 (sub.take k)) ys/\own st' J ys.length 1 st/\subSt st st')/\fr 1=.box [.raw (.int .u8 rule),.sl tl xl,.sl tr xr,.raw (.int .u8 op),fn,.sl ta xa,.sl tb xb,v,un,.sl tu xu,n,.sl ts xs]/\fr 4=.iv (.raw (.int .i64 k))/\ds=[]) ?_ ?_ ?_
 ·simp only[go_sem,zE];exact⟨⟨_,_,rfl,AllR.nil,own.nil _ _ _ _ _,subSt.refl _⟩,rfl⟩
 ·rintro k fr al _ ac ⟨⟨J,ys,f3,hys,D,A⟩,f1,f4,rfl⟩;obtain⟨a,ha⟩:=dB ac;have ak:=lMg ha;obtain⟨z,av,af⟩:=i3.get ha;have bc:=oK ak;have ae:=λst=>IH a ak z af (by omega) st;have ai:=Qp ha;have ax:=Qx (sub.take (k+1));have bb:=Ah sub (k+1);rw[ai,lLa,dY] at ax;obtain⟨am,aW,aN,aV,aM,a7,bh,a1,aQ,aZ,aO,v',aS,aT,aK,n',aU,aL,rfl⟩:=eT af;simp only[go_sem,zE,zB,zA,f1,f4,i3.len,lt_i ac,dz e3,iNn,av,fits];intro _;refine (ae _).mono ?_;rintro _ _ ⟨⟨t2,ls,rfl,ao,ag⟩,rfl⟩;have hll:=ag.1;simp only[go_sem];refine dj ls.length (λj fr st' ds=>(∃J ys,fr 3=.iv (.sl J ys)/\oU (nk 0 (sub.take k)++((e_ a).take j).map (k::·)) ys/\own st' J ys.length 1 st/\subSt st st')/\fr 1=.box [.raw (.int .u8 rule),.sl tl xl,.sl tr xr,.raw (.int .u8 op),fn,.sl ta xa,.sl tb xb,v,un,.sl tu xu,n,.sl ts xs]/\fr 4=.iv (.raw (.int .i64 k))/\fr 5=.iv (.sl t2 ls)/\fr 6=.iv (.raw (.int .i64 j))/\ds=[]) ?_ ?_ ?_
  ·simp only[go_sem,zE,f1,f3,f4];exact⟨⟨_,_,rfl,by simpa using hys,D,A⟩,rfl⟩
  ·rintro j fr E _ ah ⟨⟨J,ys,f3,hys,D,A⟩,f1,f4,f5,f6,rfl⟩;obtain⟨q,hq⟩:=dB (show j<(e_ a).length by omega);obtain⟨y,aw,ty,rfl,ba⟩:=ag.2 j q hq;have be:q.length<=1000:=by
    have hm:=lMg hq;unfold e_ at hm;obtain⟨w,hw,rfl⟩:=dH.1 hm;have h1:=oT [] a w (iY.1 hw).1;have h2:=a.height_le_steps;simp only[dU] at h1;omega
   have aj:(plI q).all (fits false 1)=true:=by
    rw[eP];intro y hy;obtain⟨i,_,rfl⟩:=dH.1 hy;rfl
   have an:=hys.1;rw[lLa,dY,dQ] at an;simp only[go_sem,zE,zA,zM,zL,f3,f4,f5,f6,lt_i ah,dz ao,iNn,aw,fits,dW];intros;refine uz (S0:=E) (n:=1) (own.full E E 1 1) rfl (ir q) (subSt.refl E) rfl aj (by simp only;omega) (by omega) λaY st4 aa G _=>?_;have ab:own st4 J ys.length 1 st:=D.mono λg hg _=>G g _ hg;simp only[go_sem,zE,zA,zM,zL,fits,dW];refine jN ab rfl (A.trans G) rfl (by simp[fits,IV.one]) (by simp only;omega) (by omega) λaX a6 U O _ _=>?_;simp only[go_sem,zE,f1,f4,f5,f6,dC ah (by omega)];refine⟨_,_,rfl,?_,by rw[lLa];exact U,O⟩;rw[dE hq,eJ,<- en];exact hys.snoc ⟨_,rfl,aa.es⟩
  ·rintro fr E _ ⟨⟨J,ys,f3,hys,D,A⟩,f1,f4,f5,f6,rfl⟩;rw[hll,lTl,<- ai] at hys;simp only[go_sem,zE,f1,f3,f4,f5,f6,dF (nLi _),dC ac (by omega)];intros;exact⟨_,_,rfl,hys,D,A⟩
 ·rintro fr al _ ⟨⟨J,ys,f3,hys,D,A⟩,f1,f4,rfl⟩;rw[lTl] at hys;simp only[go_sem,zE,f1,f3,f4,i3.len,dF (nLi _)];intro _;exact ez (st':=st) A ⟨⟨_,_,rfl,D.es,hys⟩,rfl⟩
def HH:∀(k:Nat)(t:Tr),SizeOf.sizeOf t<k->wgoC gl t
 | 0,t,h=>by omega
 | k+1,.mk r sq f u n sub,h=>Qy gl r sq f u n sub (λa A=>HH k a (by
   have:=lSm A;simp at h;omega))
def Qz (l:List (List Nat))(J G:Tag)(E ys:List IV)(ex:okEs J 1)(D:oU l E)(ey:okEs G 1)(hy:oU l ys)(hl:l.length<=1000000)(st:ISt) :
  ICall prog gl 13 [.sl J E,.sl G ys] st (λr st'=>r=true/\st'=st):=by
 refine iI func13 ?_;simp only[go_sem,zE,reduceCtorEq,D.1,hy.1,dA];intros;refine dj l.length (λk fr st' ds=>fr 0=.iv (.sl J E)/\fr 1=.iv (.sl G ys)/\fr 5=.iv (.raw (.int .i64 k))/\st'=st/\ds=[]) ?_ ?_ ?_
 ·simp only[go_sem,zE,reduceCtorEq];rfl
 ·rintro k fr O _ A ⟨f0,f1,f5,rfl,rfl⟩;obtain⟨p,hp⟩:=dB A;obtain⟨_,h1,t1,rfl,e1⟩:=D.2 k p hp;obtain⟨_,h2,t2,rfl,e2⟩:=hy.2 k p hp;have U:eqB p p=true:=yQx.2 rfl;simp only[go_sem,zE,zA,reduceCtorEq,f0,f1,f5,D.1,lt_i A,dz ex,dz ey,iNn,h1,h2,fits];intros;refine (DW gl t1 t2 p p e1 e2 _).q ?_;simp only[go_sem,zE,reduceCtorEq,f0,f1,f5,U,dC A (by omega)]
 ·rintro fr O _ ⟨f0,f1,f5,rfl,rfl⟩;simp only[go_sem,zE,reduceCtorEq,f0,f5,D.1,dF (nLi _)];intros;exact c_ ⟨rfl,rfl⟩
def HI (us:List Fm)(tg:Tag)(xs:List IV)(ah:okEs tg 4)(ac:IsFms us xs)(an:dL us<=1000000)(st:ISt) :
  ICall prog gl 101 [.sl tg xs] st (λr st'=>(∃A ys,r=.sl A ys/\okEs A 4/\IsFms us ys)/\st'=st):=by
 have am:=kX us;refine iI func101 ?_;simp only[go_sem,reduceCtorEq,ac.len];intro _;refine dj us.length (λk fr st' ds=>(∃A ys,fr 3=.iv (.sl A ys)/\IsFms (us.take k) ys/\own st' A k 4 st/\subSt st st') /\
  fr 6=.iv (.sl tg xs)/\fr 7=us.length/\fr 8=.iv (.raw (.int .i64 k))/\ds=[]) ?_ ?_ ?_
 ·simp only[go_sem,zE];exact⟨⟨_,[],rfl,rfl,own.nil ..,subSt.refl _⟩,rfl⟩
 ·rintro k fr ab _ O ⟨⟨A,ys,f3,hys,E,D⟩,f6,f7,f8,rfl⟩;obtain⟨a,ha⟩:=dB O;obtain⟨x,ai,hx⟩:=ac.get ha;obtain⟨h1,h2⟩:=jr ha;have U:ys.length=k:=by rw[hys.len,dQ];omega
  have aa:=mT gl a x hx (by omega) ab;obtain⟨o5,n5,t5,x5,t6,x6,rfl⟩:=hx.agg;simp only[go_sem,zE,zB,zA,zL,f3,f6,f7,f8,lt_i O,dz ah,iNn,ai,fits];refine aa.mono ?_;rintro r _ ⟨hr,rfl⟩;have hn:IsFms (us.take (k+1)) (ys++[r]):=by
   rw[dE ha];exact hys.append ⟨r,[],rfl,hr.1,rfl⟩
  obtain⟨o7,n7,t7,x7,t8,x8,rfl⟩:=gn hr;simp only[go_sem,zE,zA,zM,zL,fits,dW];refine gQ E U D rfl (by simp[fits,IV.one]) (by simp only;omega) (by omega) λaf st4 J G _=>?_;simp only[go_sem,zE,f6,f7,f8,dC O (by omega)];exact⟨af,_,rfl,hn,J,G⟩
 ·rintro fr ab _ ⟨⟨A,ys,f3,hys,E,D⟩,f6,f7,f8,rfl⟩;rw[lTl] at hys;simp only[go_sem,zE,f3,f7,f8,dF (nLi _)];exact ez D ⟨⟨A,ys,rfl,E.es,hys⟩,rfl⟩
def As (s:Sq)(x:IV)(E:IsSq s x)(h1:dL s.l<=1000000)(h2:dL s.r<=1000000)(st:ISt) :
  ICall prog gl 77 [x] st (λr st'=>IsSq s r/\st'=st):=by
 obtain⟨t1,D,t2,A,rfl,U,i1,O,i2⟩:=E;have c1:=λst=>HI gl s.l t1 D U i1 h1 st;have c2:=λst=>HI gl s.r t2 A O i2 h2 st;refine ICall.intro (c:=cf prog gl [] [(1,[0,1,3,4,2,5,6,7])]) func77 rfl (by show _<=10;simp) (by kernel_rfl) ?_;simp only[go_sem,zE,zA];refine (c1 _).mono ?_;rintro _ _ ⟨⟨t3,y1,rfl,J,i3⟩,rfl⟩;simp only[go_sem,zE,zA];refine (c2 _).mono ?_;rintro _ _ ⟨⟨t4,y2,rfl,G,i4⟩,rfl⟩;simp only[go_sem,zE,zA,zL,fits];exact c_ ⟨⟨_,_,_,_,rfl,J,i3,G,i4⟩,rfl⟩
def hTC (t:Tm):Prop:=∀(x:IV) (_:IsTm t x) (_:t.size<=1000000) (st:ISt),ICall prog gl 79 [x] st (λr st'=>IsTm t r/\st'=st)
def QA (v:Bool)(n:ByteArray)(us:List Tm)(IH:∀a∈us,hTC gl a):hTC gl (.mk v n us):=by
 intro x hx ac st;obtain⟨t,xs,rfl,ht,U⟩:=hx.mk;simp only[Tm.size] at ac;have hl:=nM us;refine iI func79 ?_;simp only[go_sem,zE,zA,zL,U.len];intro _;refine dj us.length (λk fr st' ds=>(∃tg ys,fr 1=.box [v,n,.sl tg ys]/\own st' tg k 3 st/\subSt st st'/\IsTms (us.take k) ys/\ys.length=k)/\fr 2=.box [false,.raw (.string ⟨#[]⟩),()]/\fr 9=.iv (.sl t xs)/\fr 10=(us.length:Int)/\fr 11=(k:Int)/\ds=[]) ?_ ?_ ?_
 ·simp only[go_sem,zE];exact⟨⟨_,[],rfl,own.nil ..,subSt.refl _,rfl,rfl⟩,rfl⟩
 ·rintro k fr E _ J ⟨⟨tg,ys,f1,D,A,hys,G⟩,f2,f9,f10,f11,rfl⟩;obtain⟨a,ha⟩:=dB J;obtain⟨z,ae,hz⟩:=U.get ha;obtain⟨h1,h2⟩:=mc ha;have O:=IH a (lMg ha) z hz (by omega) E;obtain⟨v2,n2,m⟩:=a;obtain⟨tx,cx,rfl,an,aq⟩:=hz.mk;simp only[go_sem,zE,zB,zA,zL,f1,f9,f10,f11,lt_i J,dz ht,iNn,ae,fits];refine O.mono ?_;rintro r E ⟨hr,rfl⟩;have hn:IsTms (us.take (k+1)) (ys++[r]):=by
   rw[dE ha];exact hys.append (IsTms.one hr)
  obtain⟨t3,x3,rfl,_⟩:=hr.mk;simp only[go_sem,zE,zA,zM,zL,fits,dW];refine gQ D G A rfl (by simp[fits,IV.one]) (by simp only;omega) (by omega) λt' al w1 w2 w3=>?_;simp only[go_sem,zE,zA,zL,f1,f2,f9,f10,f11,dC J (by omega)];exact⟨t',_,rfl,w1,w2,hn,by rw[lLa,G];rfl⟩
 ·rintro fr E _ ⟨⟨tg,ys,f1,D,A,hys,G⟩,f2,f9,f10,f11,rfl⟩;rw[lTl] at hys;simp only[go_sem,zE,zA,zL,f1,f2,f10,f11,dF (nLi _)];exact ez A ⟨⟨_,_,rfl,D.es,hys⟩,rfl⟩
def HJ:∀(k:Nat)(t:Tm),SizeOf.sizeOf t<k->hTC gl t
 | 0,t,h=>by omega
 | k+1,.mk v n us,h=>QA gl v n us (λa A=>HJ k a (by
   have:=lSm A;simp at h;omega))
def Au (t:Tm):hTC gl t:=HJ gl _ t (ew _)
def visL (g:Nat->Tr->Option Tr):Nat->List Tr->Option (List Tr)
 | _,[]=>some []
 | k,s::l=>match g k s,visL g (k+1) l with
  | some z,some zs=>some (z::zs)
  | _,_=>none
def HK {g:Nat->Tr->Option Tr}:∀ {k:Nat} {l zs:List Tr},visL g k l=some zs->zs.length=l.length/\∀(i:Nat) (s:Tr),l[i]?=some s->∃z,g (k+i) s=some z/\zs[i]?=some z
 | _,[],zs,h=>by cases h;exact⟨rfl,λi s h=>by simp at h⟩
 | k,s::l,zs,h=>by
  unfold visL at h;split at h
  ·rename_i z D h1 h2;cases h;obtain⟨J,G⟩:=HK h2;refine⟨by simp[J],λi s' A=>?_⟩;cases i with
   | zero=>cases A;exact⟨z,h1,rfl⟩
   | succ i =>
    obtain⟨E,U,O⟩:=G i s' A;exact⟨E,by rw[show k+(i+1)=k+1+i by omega];exact U,O⟩
  ·cases h
def visG (g:Tr->Bool->List Nat->Option Tr)(o:Bool)(pl:List Nat)(k:Nat)(z:Tr):Option Tr:=if o=true/\pl.head?=some k then g z true pl.tail else g z false []
noncomputable def visB (g:Tr->Bool->List Nat->Option Tr)(o:Bool)(pl:List Nat):Tr->Option Tr
 | .mk r s m u nm sub=>if (decide (u.size<=1000000)&&decide (dL s.l<=1000000)&&decide (dL s.r<=1000000)&&decide (m.size<=1000000)&&decide (sub.length<=1000000))=true then (visL (visG g o pl) 0 sub).map (λrs=>.mk r s m u nm rs) else none
noncomputable def visF (f:Tr->Tr):Nat->Tr->Bool->List Nat->Option Tr
 | 0,_,_,_=>none
 | n+1,t,A,pl=>if A=true/\pl=[] then visB (visF f n) false pl (f t) else visB (visF f n) A pl t
def Av {g:Tr->Bool->List Nat->Option Tr}{o:Bool}{pl:List Nat}{r:Nat}{s:Sq}{m:Fm}{u:Tm}{nm:ByteArray}{sub:List Tr}{A:Tr}(h:visB g o pl (.mk r s m u nm sub)=some A) :
  u.size<=1000000/\dL s.l<=1000000/\dL s.r<=1000000/\m.size<=1000000/\sub.length<=1000000/\∃rs,A=.mk r s m u nm rs/\rs.length=sub.length/\∀(i:Nat) (z:Tr),sub[i]?=some z->∃y,visG g o pl i z=some y/\rs[i]?=some y:=by
 rw[visB] at h;by_cases hc:(decide (u.size<=1000000)&&decide (dL s.l<=1000000)&&decide (dL s.r<=1000000)&&decide (m.size<=1000000)&&decide (sub.length<=1000000))=true
 ·rw[cV hc] at h;simp only[bAt,dTe] at hc;obtain⟨⟨⟨⟨c1,c2⟩,c3⟩,c4⟩,c5⟩:=hc;cases hv:visL (visG g o pl) 0 sub with
  | none=>rw[hv] at h;cases h
  | some rs =>
   rw[hv] at h;obtain⟨E,D⟩:=HK hv;refine⟨c1,c2,c3,c4,c5,rs,by cases h;rfl,E,λi z G=>?_⟩;obtain⟨y,h1,h2⟩:=D i z G;rw[ee] at h1;exact⟨y,h1,h2⟩
 ·rw[a_ hc] at h;cases h
def HL {A:Tag}{es:Nat}(h:okEs A es)(len D l:Nat):okEs (jm (reTag es A) len D l none) es:=by
 have:=dz h;unfold jm;by_cases h1:(reTag es A).cap=.nil
 ·rw[cV h1];exact .inr this
 ·rw[a_ h1];by_cases h2:l=0/\D=len
  ·simp only[cV h2];exact .inr this
  ·simp only[a_ h2];exact .inr this
def visI (c:IV)(b:Nat):IV:=.fn (.func 76) [] [.cptr c,pt b]
def HM (f:Tr->Tr)(g:Fn)(fi ca:List IV)(aI:∀i,g=.func i->entI prog i=true)(P:ISt->Prop)(hP:∀s s',P s->subSt s s'->P s')(aJ:∀t x st,P st->IsTr t x->ICallV prog gl (.fn g fi ca) [x] st (λr st'=>IsTr (f t) r/\st'=st))(b:Nat) :
  ∀(n:Nat) (t:Tr) (x:IV) (_:IsTr t x) (on:Bool) (pl:List Nat) (tg:Tag) (_:okEs tg 1) (_:pl.length<=1000000) (an:Tr) (_:visF f n t on pl=some an) (st:ISt) (_:P st) (_:st b=some (.box [visI (.fn g fi ca) b])),
   ICall prog gl 76 [x,.raw (.bool on),.sl tg (plI pl),.cptr (.fn g fi ca),pt b] st (λr st'=>IsTr an r/\st'=st)
 | 0,_,_,_,_,_,_,_,_,_,hv,_,_,_=>by cases hv
 | n+1,t,x,hx,on,pl,tg,aq,ba,an,hv,st,ai,hst=>by
  have IH:=λt x hx on pl tg aq ba an hv st ai hst=>HM f g fi ca aI P hP aJ b n t x hx on pl tg aq ba an hv st ai hst;have cq:=hx;have ch:=λst hp=>aJ t x st hp hx;rw[visF] at hv;obtain⟨U,s1,m1,u1,ao,sub1⟩:=t;obtain⟨b8,b1,tr1,b0,cc,ci,cb,b4,b9,b2,v1,b6,b7,bZ,aC,aB,rfl,aD,e1,i1,e2,i2,hf,hu,e3,i3⟩:=hx.mk;refine ICall.intro (c:=cf prog gl [53,63] [(4,[0,1,2,3,5,6,8,9,11,12,14,4,7,10,13,15])]) func76 rfl (by show _<=71;simp) (by kernel_rfl) ?_;cases on
  ·rw[a_ (by simp)] at hv;obtain⟨ku,k1,k2,k3,k4,rs,rfl,aw,av⟩:=Av hv;simp only[go_sem,zE,zA,zL];have au:=λst=>As gl s1 _ ⟨_,_,_,_,rfl,e1,i1,e2,i2⟩ k1 k2 st;have ay:=λst=>mT gl m1 _ hf (by omega) st;have htm:=λst=>Au gl u1 _ hu ku st;refine (au _).mono ?_;rintro _ st ⟨⟨q1,y1,q2,y2,rfl,g1,j1,g2,j2⟩,rfl⟩;simp only[go_sem,zE,zA];refine (ay _).mono ?_;rintro _ st ⟨⟨ae,bO⟩,rfl⟩;have ac:=ae;obtain⟨o5,n5,t5,x5,t6,x6,rfl⟩:=ae.agg;simp only[go_sem,zE,zA];refine (htm _).mono ?_;rintro _ st ⟨ab,rfl⟩;have aa:=ab;obtain⟨v5,n6,bo⟩:=u1;obtain⟨q3,y3,rfl,_,_⟩:=ab.mk;simp only[go_sem,zE,zA,zL,fits,i3.len];intro _;refine dj sub1.length (λk fr st' ds=>(∃t y,fr 9=.box [.raw (.int .u8 U),.sl q1 y1,.sl q2 y2,.raw (.int .u8 o5),n5,.sl t5 x5,.sl t6 x6,v5,n6,.sl q3 y3,ao,.sl t y]/\own st' t k 12 st/\subSt st st'/\IsTrs (rs.take k) y/\y.length=k) /\
    fr 1=false/\fr 2=.iv (.sl tg (plI pl))/\fr 4=(pt b)/\fr 8=.box z12/\fr 36=.iv (.sl aC aB)/\fr 37=(sub1.length:Int)/\fr 38=(k:Int)/\ds=[]) ?_ ?_ ?_
   ·simp only[go_sem,zE,z12];exact⟨⟨_,[],rfl,own.nil ..,subSt.refl _,rfl,rfl⟩,rfl⟩
   ·rintro k fr G _ O ⟨⟨t,y,f9,D,A,hy,J⟩,f1,f2,f4,f8,f36,f37,f38,rfl⟩;obtain⟨a,ha⟩:=dB O;obtain⟨z,al,hz⟩:=i3.get ha;obtain⟨w,hw,ak⟩:=av k a ha;have aj:=hz;have hb:=A _ _ hst;obtain⟨am,bs,bj,tr2,bi,bB,bR,bu,bl,bt,bk,v2,bp,bq,bg,n2,br,bh,rfl⟩:=eT hz;rw[visG,a_ (by simp)] at hw;have E:=IH a _ aj false [] ⟨true,.nil,0⟩ (.inl rfl) (fq _) w hw G (hP _ _ ai A) hb;simp only[go_sem,zE,zB,zA,zL,f9,f1,f4,f36,f37,f38,fits,lt_i O,dz e3,iNn,al,pt,hb,visI];refine E.mono ?_;rintro r G ⟨hr,rfl⟩;have ah:=hr;obtain⟨af,aY,aO,tr3,aN,a8,bb,a1,aS,aZ,aQ,v3,aV,aW,aL,n3,aX,aM,rfl⟩:=eT hr;simp only[go_sem,zE,zA,zM,zL,fits,dW];refine gQ D J A rfl (by simp[fits,IV.one]) (by simp only;omega) (by omega) λt' a7 w1 w2 w3=>?_;simp only[go_sem,zE,zA,zL,f9,f1,f2,f4,f8,f36,f37,f38,dC O (by omega)];refine⟨⟨t',_,rfl,w1,w2,?_,by rw[lLa,J];rfl⟩,rfl⟩;rw[dE ak];exact hy.append ⟨_,[],rfl,ah,rfl⟩
   ·rintro fr G _ ⟨⟨t,y,f9,D,A,hy,J⟩,f1,f2,f4,f8,f36,f37,f38,rfl⟩;rw[<- aw,lTl] at hy;simp only[go_sem,zE,zA,zL,f9,f8,f37,f38,z12,dF (nLi _)];exact ez A ⟨⟨_,_,_,_,_,_,_,_,_,_,_,_,_,_,_,_,rfl,aD,g1,j1,g2,j2,ac,aa,D.es,hy⟩,rfl⟩
  ·by_cases hp:pl=[]
   ·subst hp;rw[cV ⟨rfl,rfl⟩] at hv;have d:decide (((plI []).length:Int)=0)=true:=rfl;simp only[go_sem,zE,zA,zL,fits,d];intro _;refine lF aI ((ch _ ai).mono ?_);rintro _ st ⟨bM,rfl⟩;generalize f (.mk U s1 m1 u1 ao sub1)=t1 at hv bM;obtain⟨U,s1,m1,u1,ao,sub1⟩:=t1;obtain⟨b8,b1,tr1,b0,cc,ci,cb,b4,b9,b2,v1,b6,b7,bZ,aC,aB,rfl,aD,e1,i1,e2,i2,hf,hu,e3,i3⟩:=bM.mk;obtain⟨ku,k1,k2,k3,k4,rs,rfl,aw,av⟩:=Av hv;simp only[go_sem,zE,zA,zL];have au:=λst=>As gl s1 _ ⟨_,_,_,_,rfl,e1,i1,e2,i2⟩ k1 k2 st;have ay:=λst=>mT gl m1 _ hf (by omega) st;have htm:=λst=>Au gl u1 _ hu ku st;refine (au _).mono ?_;rintro _ st ⟨⟨q1,y1,q2,y2,rfl,g1,j1,g2,j2⟩,rfl⟩;simp only[go_sem,zE,zA];refine (ay _).mono ?_;rintro _ st ⟨⟨ae,bO⟩,rfl⟩;have ac:=ae;obtain⟨o5,n5,t5,x5,t6,x6,rfl⟩:=ae.agg;simp only[go_sem,zE,zA];refine (htm _).mono ?_;rintro _ st ⟨ab,rfl⟩;have aa:=ab;obtain⟨v5,n6,bo⟩:=u1;obtain⟨q3,y3,rfl,_,_⟩:=ab.mk;simp only[go_sem,zE,zA,zL,fits,i3.len];intro _;refine dj sub1.length (λk fr st' ds=>(∃t y,fr 9=.box [.raw (.int .u8 U),.sl q1 y1,.sl q2 y2,.raw (.int .u8 o5),n5,.sl t5 x5,.sl t6 x6,v5,n6,.sl q3 y3,ao,.sl t y]/\own st' t k 12 st/\subSt st st'/\IsTrs (rs.take k) y/\y.length=k) /\
     fr 1=false/\fr 2=.iv (.sl tg (plI []))/\fr 4=(pt b)/\fr 8=.box z12/\fr 36=.iv (.sl aC aB)/\fr 37=(sub1.length:Int)/\fr 38=(k:Int)/\ds=[]) ?_ ?_ ?_
    ·simp only[go_sem,zE,z12];exact⟨⟨_,[],rfl,own.nil ..,subSt.refl _,rfl,rfl⟩,rfl⟩
    ·rintro k fr G _ O ⟨⟨t,y,f9,D,A,hy,J⟩,f1,f2,f4,f8,f36,f37,f38,rfl⟩;obtain⟨a,ha⟩:=dB O;obtain⟨z,al,hz⟩:=i3.get ha;obtain⟨w,hw,ak⟩:=av k a ha;have aj:=hz;have hb:=A _ _ hst;obtain⟨am,bs,bj,tr2,bi,bB,bR,bu,bl,bt,bk,v2,bp,bq,bg,n2,br,bh,rfl⟩:=eT hz;rw[visG,a_ (by simp)] at hw;have E:=IH a _ aj false [] ⟨true,.nil,0⟩ (.inl rfl) (fq _) w hw G (hP _ _ ai A) hb;simp only[go_sem,zE,zB,zA,zL,f9,f1,f4,f36,f37,f38,fits,lt_i O,dz e3,iNn,al,pt,hb,visI];refine E.mono ?_;rintro r G ⟨hr,rfl⟩;have ah:=hr;obtain⟨af,aY,aO,tr3,aN,a8,bb,a1,aS,aZ,aQ,v3,aV,aW,aL,n3,aX,aM,rfl⟩:=eT hr;simp only[go_sem,zE,zA,zM,zL,fits,dW];refine gQ D J A rfl (by simp[fits,IV.one]) (by simp only;omega) (by omega) λt' a7 w1 w2 w3=>?_;simp only[go_sem,zE,zA,zL,f9,f1,f2,f4,f8,f36,f37,f38,dC O (by omega)];refine⟨⟨t',_,rfl,w1,w2,?_,by rw[lLa,J];rfl⟩,rfl⟩;rw[dE ak];exact hy.append ⟨_,[],rfl,ah,rfl⟩
    ·rintro fr G _ ⟨⟨t,y,f9,D,A,hy,J⟩,f1,f2,f4,f8,f36,f37,f38,rfl⟩;rw[<- aw,lTl] at hy;simp only[go_sem,zE,zA,zL,f9,f8,f37,f38,z12,dF (nLi _)];exact ez A ⟨⟨_,_,_,_,_,_,_,_,_,_,_,_,_,_,_,_,rfl,aD,g1,j1,g2,j2,ac,aa,D.es,hy⟩,rfl⟩
   ·obtain⟨p0,pr,rfl⟩:=List.exists_cons_of_ne_nil hp;rw[a_ (by simp)] at hv;obtain⟨ku,k1,k2,k3,k4,rs,rfl,aw,av⟩:=Av hv;have d:decide (((plI (p0::pr)).length:Int)=0)=false:=by rw[ir,dV];exact dEf (by omega)
    simp only[go_sem,zE,zA,zL,d];intro _;have au:=λst=>As gl s1 _ ⟨_,_,_,_,rfl,e1,i1,e2,i2⟩ k1 k2 st;have ay:=λst=>mT gl m1 _ hf (by omega) st;have htm:=λst=>Au gl u1 _ hu ku st;refine (au _).mono ?_;rintro _ st ⟨⟨q1,y1,q2,y2,rfl,g1,j1,g2,j2⟩,rfl⟩;simp only[go_sem,zE,zA];refine (ay _).mono ?_;rintro _ st ⟨⟨ae,bO⟩,rfl⟩;have ac:=ae;obtain⟨o5,n5,t5,x5,t6,x6,rfl⟩:=ae.agg;simp only[go_sem,zE,zA];refine (htm _).mono ?_;rintro _ st ⟨ab,rfl⟩;have aa:=ab;obtain⟨v5,n6,bo⟩:=u1;obtain⟨q3,y3,rfl,_,_⟩:=ab.mk;simp only[go_sem,zE,zA,zL,fits,i3.len];intro _;refine dj sub1.length (λk fr st' ds=>(∃t y,fr 9=.box [.raw (.int .u8 U),.sl q1 y1,.sl q2 y2,.raw (.int .u8 o5),n5,.sl t5 x5,.sl t6 x6,v5,n6,.sl q3 y3,ao,.sl t y]/\own st' t k 12 st/\subSt st st'/\IsTrs (rs.take k) y/\y.length=k) /\
     fr 1=true/\fr 2=.iv (.sl tg (plI (p0::pr)))/\fr 4=(pt b)/\fr 8=.box z12/\fr 36=.iv (.sl aC aB)/\fr 37=(sub1.length:Int)/\fr 38=(k:Int)/\ds=[]) ?_ ?_ ?_
    ·simp only[go_sem,zE,z12];exact⟨⟨_,[],rfl,own.nil ..,subSt.refl _,rfl,rfl⟩,rfl⟩
    ·rintro k fr G _ O ⟨⟨t,y,f9,D,A,hy,J⟩,f1,f2,f4,f8,f36,f37,f38,rfl⟩;obtain⟨a,ha⟩:=dB O;obtain⟨z,al,hz⟩:=i3.get ha;obtain⟨w,hw,ak⟩:=av k a ha;have aj:=hz;have hb:=A _ _ hst;obtain⟨am,bs,bj,tr2,bi,bB,bR,bu,bl,bt,bk,v2,bp,bq,bg,n2,br,bh,rfl⟩:=eT hz;have h0:(plI (p0::pr))[0]?=some (.raw (.int .i64 (p0:Int))):=rfl;have cg:fT (some 1) none (plI (p0::pr)).length=some (1,pr.length+1):=by
      rw[ir,dV];simp only[fT,fM,eh];rw[cV ⟨by omega,by omega,by omega⟩];simp
     have ce:List.take (pr.length+1-1) (List.drop 1 (plI (p0::pr)))=plI pr:=by
      show List.take pr.length (plI pr)=_;rw[<- ir pr,lTl]
     by_cases hk:k=p0
     ·subst hk;rw[visG,cV ⟨rfl,rfl⟩] at hw;simp only[go_sem,zE,zB,zA,zL,f9,f1,f2,f4,f36,f37,f38,fits,lt_i O,dz e3,dz aq,iNn,jw,jx,h0,dA,al,pt,hb,visI,cg];rw[ce];have E:=IH a _ aj true pr _ (HL aq (plI (k::pr)).length (pr.length+1) 1) (by simp only[dV] at ba;omega) w hw G (hP _ _ ai A) hb;refine E.mono ?_;rintro r G ⟨hr,rfl⟩;have ah:=hr;obtain⟨af,aY,aO,tr3,aN,a8,bb,a1,aS,aZ,aQ,v3,aV,aW,aL,n3,aX,aM,rfl⟩:=eT hr;simp only[go_sem,zE,zA,zM,zL,fits,dW];refine gQ D J A rfl (by simp[fits,IV.one]) (by simp only;omega) (by omega) λt' a7 w1 w2 w3=>?_;simp only[go_sem,zE,zA,zL,f9,f1,f2,f4,f8,f36,f37,f38,dC O (by omega)];refine⟨⟨t',_,rfl,w1,w2,?_,by rw[lLa,J];rfl⟩,rfl⟩;rw[dE ak];exact hy.append ⟨_,[],rfl,ah,rfl⟩
     ·rw[visG,a_ (λh=>hk (by have:=h.2;simpa using this.symm))] at hw;have dk:decide ((k:Int)=(p0:Int))=false:=dEf (by omega);have E:=IH a _ aj false [] ⟨true,.nil,0⟩ (.inl rfl) (fq _) w hw G (hP _ _ ai A) hb;simp only[go_sem,zE,zB,zA,zL,f9,f1,f2,f4,f36,f37,f38,fits,lt_i O,dz e3,dz aq,iNn,jw,jx,h0,dk,al,pt,hb,visI];refine E.mono ?_;rintro r G ⟨hr,rfl⟩;have ah:=hr;obtain⟨af,aY,aO,tr3,aN,a8,bb,a1,aS,aZ,aQ,v3,aV,aW,aL,n3,aX,aM,rfl⟩:=eT hr;simp only[go_sem,zE,zA,zM,zL,fits,dW];refine gQ D J A rfl (by simp[fits,IV.one]) (by simp only;omega) (by omega) λt' a7 w1 w2 w3=>?_;simp only[go_sem,zE,zA,zL,f9,f1,f2,f4,f8,f36,f37,f38,dC O (by omega)];refine⟨⟨t',_,rfl,w1,w2,?_,by rw[lLa,J];rfl⟩,rfl⟩;rw[dE ak];exact hy.append ⟨_,[],rfl,ah,rfl⟩
    ·rintro fr G _ ⟨⟨t,y,f9,D,A,hy,J⟩,f1,f2,f4,f8,f36,f37,f38,rfl⟩;rw[<- aw,lTl] at hy;simp only[go_sem,zE,zA,zL,f9,f8,f37,f38,z12,dF (nLi _)];exact ez A ⟨⟨_,_,_,_,_,_,_,_,_,_,_,_,_,_,_,_,rfl,aD,g1,j1,g2,j2,ac,aa,D.es,hy⟩,rfl⟩
def HN (f:Tr->Tr)(g:Fn)(fi ca:List IV)(E:∀i,g=.func i->entI prog i=true)(P:ISt->Prop)(hP:∀s s',P s->subSt s s'->P s')(G:∀t x st,P st->IsTr t x->ICallV prog gl (.fn g fi ca) [x] st (λr st'=>IsTr (f t) r/\st'=st))(n:Nat)(t:Tr)(x:IV)(hx:IsTr t x)(pl:List Nat)(O:Tag)(ab:okEs O 1)(ae:pl.length<=1000000)(A:Tr)(hv:visF f n t true pl=some A)(st:ISt)(af:P st) :
  ICall prog gl 52 [x,.sl O (plI pl),.fn g fi ca] st (λr st'=>IsTr A r/\st'=st):=by
 have D:=λb st=>HM gl f g fi ca E P hP G b n t x hx true pl O ab ae A hv st;obtain⟨aa,aI,av,aG,aq,aO,aS,aM,az,aK,ax,v',aB,aD,al,n',aF,an,rfl⟩:=eT hx;refine ICall.intro (c:=cf prog gl [7] [] [5]) func52 rfl (by show _<=13;simp) (by kernel_rfl) ?_;simp only[go_sem,zE,zA,zL];intro b;refine d_ λJ=>?_;refine (D b _ (hP _ _ af (eA (eA (subSt.refl _) J) J)) (b_ ..)).mono ?_;rintro r _ ⟨hr,rfl⟩;have ac:=hr;obtain⟨U,aH,au,tr3,ao,aN,aQ,aL,ay,aJ,aw,v3,aA,aC,ak,n3,aE,am,rfl⟩:=eT hr;simp only[go_sem,zE,zA,zL];exact ez (st':=st) (eA (eA (subSt.refl _) J) J) ⟨ac,rfl⟩
def Aw (t:Tr):Tr:=goalT t.sq
def folF (m:Nat×Fm×List Sn)(t:Tr):Tr:=.mk m.1 t.sq m.2.1 tmZ noN (m.2.2.map λp=>goalT ⟨p.1,p.2⟩)
def QB (t:Tr)(x:IV)(hx:IsTr t x)(st:ISt):ICall prog gl 53 [x] st (λr st'=>IsTr (Aw t) r/\st'=st):=by
 obtain⟨A,aj,f',u',n',D⟩:=t;obtain⟨ag,O,af,J,ak,am,ai,aa,ah,U,v',ab,ac,E,ae,G,rfl,_,e1,i1,e2,i2,_⟩:=hx.mk;refine iI func53 ?_;simp only[go_sem,zE,zA,zL,fits];exact c_ ⟨⟨_,_,_,_,_,_,_,_,_,_,_,_,_,_,_,_,rfl,by decide,e1,i1,e2,i2,qb,oV,.inl rfl,rfl⟩,rfl⟩
def QC {s:Sq}{x:IV}(h:IsSq s x):IsSq s (age x):=by
 obtain⟨t,G,A,ys,rfl,E,i1,D,i2⟩:=h;exact⟨⟨false,t.cap,t.es⟩,_,⟨false,A.cap,A.es⟩,_,by simp only[age,ages],E,i1.aged,D,i2.aged⟩
def QD {l:List IV}{i:Nat}{x:IV}(h:l[i]?=some x):(ages l)[i]?=some (age x):=by
 induction l generalizing i with
 | nil=>simp at h
 | cons a l A =>
  cases i with
  | zero=>cases h;simp[ages]
  | succ i=>simp only[ages,gJ] at h ⊢;exact A h
def Ax:∀l:List IV,(ages l).length=l.length
 | []=>by simp[ages]
 | _::l=>by simp[ages,Ax l]
def QE {m:Nat×Fm×List Sn}{x:IV}(h:gT m x):gT m (age x):=by
 obtain⟨o,n,t1,U,t2,O,t3,E,rfl,G,J,D⟩:=h;have A:=G.aged;simp only[age,ages] at A;refine⟨_,_,_,_,_,_,⟨false,t3.cap,t3.es⟩,ages E,by simp only[age,ages],A,J,by rw[Ax];exact D.1,λi p hp=>?_⟩;obtain⟨y,h1,h2⟩:=D.2 i p hp;exact⟨_,QD h1,QC h2⟩
def QF (m:Nat×Fm×List Sn)(z:List IV)(hm:gT m (.agg z))(hr:m.1<256)(hl:m.2.2.length<=1000000)(t:Tr)(x:IV)(hx:IsTr t x)(st:ISt):ICall prog gl 54 [x,.cptr (.agg z)] st (λr st'=>IsTr (folF m t) r/\st'=st):=by
 obtain⟨ae,aE,f',u',n',ai⟩:=t;obtain⟨ab,U,aa,O,aF,aM,aB,an,aA,am,v',ax,ay,ak,az,al,rfl,_,e1,i1,e2,i2,_⟩:=hx.mk;obtain⟨o,n,t1,x1,t2,x2,t3,x3,hz,hf,e3,h3⟩:=hm;injection hz with hz;subst hz;have ah:=h3.1;refine iI func54 ?_;simp only[go_sem,zE,zB,zA,zL,fits,ah];intro _;refine dj m.2.2.length (λk fr st' ds=>(∃t y,fr 4=.box [.raw (.int .u8 (m.1:Int)),.sl ab U,.sl aa O,.raw (.int .u8 o),n,.sl t1 x1,.sl t2 x2,false,.raw (.string ⟨#[]⟩),(),.raw (.string ⟨#[]⟩),.sl t y]/\own st' t k 12 st/\subSt st st'/\IsTrs ((m.2.2.take k).map λp=>goalT ⟨p.1,p.2⟩) y/\y.length=k) /\
  fr 3=.box z12/\fr 15=.iv (.sl t3 x3)/\fr 16=(m.2.2.length:Int)/\fr 17=(k:Int)/\ds=[]) ?_ ?_ ?_
 ·simp only[go_sem,zE,z12];exact⟨⟨_,[],rfl,own.nil ..,subSt.refl _,rfl,rfl⟩,rfl⟩
 ·rintro k fr ac _ G ⟨⟨t,y,f4,D,A,J,E⟩,f3,f15,f16,f17,rfl⟩;obtain⟨p,hp⟩:=dB G;obtain⟨q,hq,ag⟩:=h3.2 k p hp;obtain⟨t5,x5,t6,x6,rfl,e5,i5,e6,i6⟩:=ag;simp only[go_sem,zE,zB,zA,zM,zL,f4,f15,f16,f17,fits,lt_i G,dz e3,iNn,hq,dW];refine gQ D E A rfl (by simp[fits,IV.one]) (by simp only;omega) (by omega) λt' aD w1 w2 w3=>?_;simp only[go_sem,zE,zA,zL,f3,f4,f15,f16,f17,dC G (by omega)];refine⟨t',_,rfl,w1,w2,?_,by rw[lLa,E];rfl⟩;rw[dE hp,eJ,List.map_singleton];exact J.append ⟨_,[],rfl,⟨_,_,_,_,_,_,_,_,_,_,_,_,_,_,_,_,rfl,by decide,e5,i5,e6,i6,qb,oV,.inl rfl,rfl⟩,rfl⟩
 ·rintro fr ac _ ⟨⟨t,y,f4,D,A,J,E⟩,f3,f15,f16,f17,rfl⟩;rw[lTl] at J;simp only[go_sem,zE,zA,zL,f3,f4,f16,f17,z12,dF (nLi _)];exact ez A ⟨⟨_,_,_,_,_,_,_,_,_,_,_,_,_,_,_,_,rfl,hr,e1,i1,e2,i2,hf,oV,D.es,J⟩,rfl⟩
def LsOk (L:Sq->Nat×Nat)(ca:Nat)(t:Tr):Prop:=∀z∈Af t,∀y st,IsSq z.sq y->ICall prog gl 50 [.raw (.int .u8 (ca:Int)),y] st (λr st'=>r=.tup [((L z.sq).1:Int),((L z.sq).2:Int)]/\st'=st)
def HO {L:Sq->Nat×Nat}{ca:Nat}{t:Tr}(E:LsOk gl L ca t){p:List Nat}(hp:okP t p){rule:Nat}{sq:Sq}{f:Fm}{u:Tm}{n:ByteArray}{sub:List Tr}(D:atT t p=.mk rule sq f u n sub){y:IV}(A:IsSq sq y)(st:ISt) :
  ICall prog gl 50 [.raw (.int .u8 (ca:Int)),y] st (λr st'=>r=.tup [((L (atT t p).sq).1:Int),((L (atT t p).sq).2:Int)]/\st'=st) :=
 E _ (P5 hp) y st (by rw[D];exact A)
def QG (ag:∀g x,gl g=some x->age x=x)(L:Sq->Nat×Nat)(ca:Nat)(t:Tr)(x:IV)(hx:IsTr t x)(hs:t.steps<=1000000)(hL:LsOk gl L ca t)(st:ISt) :
  ICall prog gl 49 [.raw (.int .u8 (ca:Int)),x] st (λr st'=>(∃G,okEs G 1/\r=.tup [.sl G (plI (jQ L t (e_ t)).1),((jQ L t (e_ t)).2:Int)])/\st'=st):=by
 have hG:=λst=>z_ gl ag t x hx hs st;have hA:=λp hp G E hl st=>at_c gl t x hx p hp G E hl st;obtain⟨rule,tl,xl,tr,xr,op,fn,ta,xa,tb,xb,v,un,tu,xu,n,ts,xs,rfl⟩:=eT hx;refine iI func49 ?_;simp only[go_sem,zE,zA,zL];refine (hG _).mono ?_;rintro _ st ⟨⟨G,ys,rfl,E,hys⟩,rfl⟩;have ac:=hys.1;simp only[go_sem,ac];intro _;refine dj (e_ t).length (λk fr st' ds=>jQ L t (e_ t)=jQ L t ((e_ t).drop k)/\st'=st/\fr 0=.iv (.raw (.int .u8 (ca:Int)))/\fr 3=.box [.raw (.int .u8 rule),.sl tl xl,.sl tr xr,.raw (.int .u8 op),fn,.sl ta xa,.sl tb xb,v,un,.sl tu xu,n,.sl ts xs]/\fr 11=.iv (.sl G ys)/\fr 12=((e_ t).length:Int)/\fr 13=(k:Int)/\ds=[]) ?_ ?_ ?_
 ·simp only[go_sem,zE,reduceCtorEq];exact rfl
 ·rintro k fr A _ D ⟨hd,rfl,f0,f3,f11,f12,f13,rfl⟩;obtain⟨p,hp⟩:=dB D;obtain⟨y,hy,t',rfl,J⟩:=hys.2 k p hp;obtain⟨O,_,af⟩:=He (lMg hp);have ha:=hA p O t' J (dT af hs) A;rw[fa D,(lGs hp).2,jQ] at hd;simp only[go_sem,zE,zA,zL,reduceCtorEq,f0,f3,f11,f12,f13,fits,lt_i D,dz E,iNn,hy];refine ha.mono ?_;rintro r A ⟨hr,rfl⟩;obtain⟨U,aN,f',u',n',al,hz⟩:∃a b c d e f,atT t p=.mk a b c d e f:=by cases atT t p;exact⟨_,_,_,_,_,_,rfl⟩
  rw[hz] at hr;obtain⟨aJ,ay,aI,aw,aO,aV,aM,aB,aK,az,v',aD,aF,ao,aH,au,rfl,_,aj,ab,ai,aa,_⟩:=hr.mk;have ah:=λst=>HO gl hL O hz ⟨_,_,_,_,rfl,aj,ab,ai,aa⟩ st;simp only[go_sem,zE,zA,zL];refine (ah _).q ?_;by_cases h1:(L (atT t p).sq).2=0
  ·have d1:decide (((L (atT t p).sq).2:Int)=0)=true:=dEt (by omega);rw[a_ (λh=>h h1)] at hd;by_cases h2:(L (atT t p).sq).1=0
   ·have d2:decide (((L (atT t p).sq).1:Int)=0)=true:=dEt (by omega);rw[cV h2] at hd;simp only[go_sem,zE,d1,d2];exact c_ ⟨⟨t',J,by rw[hd];rfl⟩,rfl⟩
   ·have d2:decide (((L (atT t p).sq).1:Int)=0)=false:=dEf (by omega);rw[a_ h2] at hd;simp only[go_sem,zE,reduceCtorEq,f0,f3,f11,f12,f13,d1,d2,dC D (by omega)];exact hd
  ·have d1:decide (((L (atT t p).sq).2:Int)=0)=false:=dEf (by omega);rw[cV h1] at hd;simp only[go_sem,zE,d1];exact c_ ⟨⟨⟨true,.nil,0⟩,.inl rfl,by rw[hd];rfl⟩,rfl⟩
 ·rintro fr A _ ⟨hd,rfl,f0,f3,f11,f12,f13,rfl⟩;rw[List.drop_length,jQ] at hd;simp only[go_sem,zE,f12,f13,dF (nLi _)];exact c_ ⟨⟨⟨true,.nil,0⟩,.inl rfl,by rw[hd];rfl⟩,rfl⟩
def QH (G:Gl gl)(T:Gt gl)(aB:∀g x,gl g=some x->age x=x)(L:Sq->Nat×Nat)(ca:Nat)(t:Tr)(x:IV)(hx:IsTr t x)(ac:n_ t)(hs:t.steps<=1000000)(hL:LsOk gl L ca t)(st:ISt) :
  ICall prog gl 26 [.raw (.int .u8 (ca:Int)),x] st (λr st'=>(∃E,okEs E 1/\r=.tup [.sl E (plI (sE L ca t).1),((sE L ca t).2:Int)])/\st'=st):=by
 have hC:=λst=>Ae gl G T ca t x hx ac hs st;have hA:=λp hp E A hl st=>at_c gl t x hx p hp E A hl st;have aA:=λst=>QG gl aB L ca t x hx hs hL st;obtain⟨U,aq,ai,ao,ah,ax,aD,av,ak,au,aj,v',al,am,af,n',an,ag,rfl⟩:=eT hx;refine iI func26 ?_;simp only[go_sem,zE,zA,zL,reduceCtorEq];refine (hC _).mono ?_;rintro _ st ⟨⟨aY,rfl,_⟩,rfl⟩;unfold sE;by_cases h0:(hCk ca t).2=0
 case neg =>
  have d0:decide (((hCk ca t).2:Int)=0)=false:=dEf (by omega);rw[cV h0];simp only[go_sem,zE,d0];exact c_ ⟨⟨⟨true,.nil,0⟩,.inl rfl,rfl⟩,rfl⟩
 have d0:decide (((hCk ca t).2:Int)=0)=true:=dEt (by omega);rw[a_ (λh=>h h0)];simp only[go_sem,zE,zA,zL,reduceCtorEq,d0];refine (aA _).mono ?_;rintro _ st ⟨⟨E,A,rfl⟩,rfl⟩;rcases Hd L t (e_ t) with⟨p,h1,h2,h3⟩|⟨h1,_⟩|⟨p,h1,h2,h3⟩
 case inr.inl =>
  rw[h1,cV (by decide)];simp only[go_sem,zE,show decide (((271:Nat):Int)=0)=false from rfl];exact c_ ⟨⟨⟨true,.nil,0⟩,.inl rfl,rfl⟩,rfl⟩
 case inr.inr =>
  have d1:decide (((L (atT t p).sq).2:Int)=0)=false:=dEf (by omega);rw[h2,cV h3];simp only[go_sem,zE,d1];exact c_ ⟨⟨⟨true,.nil,0⟩,.inl rfl,rfl⟩,rfl⟩
 obtain⟨az,_,ba⟩:=He h1;rw[h2,a_ (by simp)];simp only[go_sem,zE,show decide (((0:Nat):Int)=0)=true from rfl];refine dj p.length (λk fr st' ds=>(∃E,okEs E 1/\fr 8=.iv (.sl E (plI (p.take (p.length-k)))))/\upG L t p p.length=upG L t p (p.length-k)/\st'=st/\fr 0=.iv (.raw (.int .u8 (ca:Int)))/\fr 3=.box [.raw (.int .u8 U),.sl aq ai,.sl ao ah,.raw (.int .u8 ax),aD,.sl av ak,.sl au aj,v',al,.sl am af,n',.sl an ag]/\ds=[]) ?_ ?_ ?_
 ·simp only[go_sem,zE,reduceCtorEq];exact⟨E,A,by rw[lTl]⟩
 ·rintro k fr J _ bc ⟨⟨E,A,f8⟩,D,rfl,f0,f3,rfl⟩;obtain⟨m,hm⟩:∃m,p.length-k=m+1:=⟨p.length-k-1,by omega⟩
  rw[hm] at f8 D;have hl:(plI (p.take (m+1))).length=m+1:=by rw[ir,dQ];omega
  have hw:IntKind.i64.wrap (((m+1:Nat):Int)-1)=(m:Int):=by rw[show ((m+1:Nat):Int)-1=(m:Int) by omega];exact w64 (by omega) (by omega)
  have ay:fT none (some (m:Int)) (m+1)=some (0,m):=by
   simp only[fT,fM,eh];rw[cV ⟨by omega,by omega,by omega⟩];simp
  have ab:List.take (m-0) (List.drop 0 (plI (p.take (m+1))))=plI (p.take m):=by
   rw[List.drop_zero,iZ];unfold plI;rw[<- List.map_take,List.take_take,Nat.min_eq_left (by omega)]
  rw[upG] at D;have O:okP t (p.take m):=Ac (l:=p.drop m) (by rw[el];exact az);have aa:=HL A (m+1) m 0;have ha:=hA (p.take m) O _ aa (by rw[dQ];omega) J;rw[iZ,List.drop_zero] at ab;simp only[go_sem,zE,zA,zL,reduceCtorEq,f0,f3,f8,hl,hw,ay,ab,show decide ((0:Int)<((m+1:Nat):Int))=true from dEt (by omega),dz A];intro _ _;refine ha.mono ?_;rintro r J ⟨hr,rfl⟩;obtain⟨aw,sq2,bg,u2,n2,aE,hz⟩:∃a b c d e f,atT t (p.take m)=.mk a b c d e f:=by cases atT t (p.take m);exact⟨_,_,_,_,_,_,rfl⟩
  rw[hz] at hr;obtain⟨aX,aO,tr2,aN,a6,bf,a1,aS,aZ,aQ,v2,aU,aV,aL,aW,aM,rfl,_,e1,i1,e2,i2,_⟩:=hr.mk;have aC:=λst=>HO gl hL O hz ⟨_,_,_,_,rfl,e1,i1,e2,i2⟩ st;simp only[go_sem,zE,zA,zL];refine (aC _).q ?_;by_cases h4:(L (atT t (p.take m)).sq).2=0
  ·have d1:decide (((L (atT t (p.take m)).sq).2:Int)=0)=true:=dEt (by omega);rw[a_ (λh=>h h4)] at D;by_cases h5:0<(L (atT t (p.take m)).sq).1
   ·have d2:decide ((0:Int)<((L (atT t (p.take m)).sq).1:Int))=true:=dEt (by omega);rw[cV h5] at D;simp only[go_sem,zE,d1,d2];exact c_ ⟨⟨_,aa,by rw[D];rfl⟩,rfl⟩
   ·have d2:decide ((0:Int)<((L (atT t (p.take m)).sq).1:Int))=false:=dEf (by omega);rw[a_ h5] at D;simp only[go_sem,zE,reduceCtorEq,f0,f3,d1,d2];rw[show p.length-(k+1)=m by omega];exact⟨⟨_,aa,rfl⟩,D⟩
  ·have d1:decide (((L (atT t (p.take m)).sq).2:Int)=0)=false:=dEf (by omega);rw[cV h4] at D;simp only[go_sem,zE,d1];exact c_ ⟨⟨⟨true,.nil,0⟩,.inl rfl,by rw[D];rfl⟩,rfl⟩
 ·rintro fr J _ ⟨⟨E,A,f8⟩,D,rfl,f0,f3,rfl⟩;rw[fS] at f8 D;rw[List.take_zero] at f8;rw[upG] at D;have hl:(plI []).length=0:=rfl;simp only[go_sem,zE,zL,f8,hl,show decide ((0:Int)<((0:Nat):Int))=false from rfl];exact c_ ⟨⟨⟨true,.nil,0⟩,.inl rfl,by rw[D];rfl⟩,rfl⟩
def QI (ca:Nat)(t D:Tr)(x:IV)(J:IsTr t x)(pl:List Nat)(ab:pl.length<=1000000)(e:Nat)(hB:∀st,ICall prog gl 26 [.raw (.int .u8 (ca:Int)),x] st (λr st'=>((e≠0/\∃A xs,okEs A 1/\r=.tup [.sl A xs,(e:Int)])\/(e=0/\∃A,okEs A 1/\r=.tup [.sl A (plI pl),(0:Int)]))/\st'=st))
  (n:Nat) (hv:e=0->visF Aw n t true pl=some D) (st:ISt) :
  ICall prog gl 27 [.raw (.int .u8 (ca:Int)),x] st (λr st'=>((e≠0/\r=.tup [.agg z12,(e:Int)])\/(e=0/\∃z,IsTr D z/\r=.tup [z,(0:Int)]))/\st'=st):=by
 have aa:=λG A E st=>HN gl Aw (.func 53) [] [] (λi h=>by cases h;simp only[go_sem]) (λ_=>True) (λ_ _ _ _=>trivial) (λt x st _ J=>.of_ICall (by simp only[go_sem]) (QB gl t x J st)) n t x J pl A E ab D (hv G) st trivial;obtain⟨rule,tl,xl,tr,xr,op,fn,ta,xa,tb,xb,v,un,tu,xu,n',ts,xs,rfl⟩:=eT J;refine iI func27 ?_;simp only[go_sem,zE,zA,zL,reduceCtorEq];refine (hB _).mono ?_;rintro _ st ⟨⟨G,A,zs,_,rfl⟩|⟨G,A,E,rfl⟩,rfl⟩
 ·have d0:decide ((e:Int)=0)=false:=dEf (by omega);simp only[go_sem,zE,zA,zL,d0];exact c_ ⟨.inl ⟨G,rfl⟩,rfl⟩
 ·simp only[go_sem,zE,zA,zL,dA];refine (aa G A E _).mono ?_;rintro z st ⟨hz,rfl⟩;have U:=hz;obtain⟨O,aq,ai,ao,ah,aw,az,av,ak,au,aj,v',al,am,af,n',an,ag,rfl⟩:=eT hz;simp only[go_sem,zE,zA,zL];exact c_ ⟨.inr ⟨G,_,U,rfl⟩,rfl⟩
def HP (ca:Nat)(t D:Tr)(x:IV)(U:IsTr t x)(hs:t.steps<=1000000)(h:Nat)(m:Nat×Fm×List Sn)(hr:m.1<256)(hF:∀st,ICall prog gl 45 [.raw (.int .u8 (ca:Int)),x] st (λr st'=>sD ca t h m r/\st'=st))
  (n:Nat) (hv:∀p ps,0<h->e_ t=p::ps->t.steps+m.2.2.length<=300/\visF (folF m) n t true p=some D) (st:ISt) :
  ICall prog gl 28 [.raw (.int .u8 (ca:Int)),x] st (λr st'=>(((hCk ca t).2≠0/\r=.tup [.agg z12,((hCk ca t).2:Int)])\/((hCk ca t).2=0/\e_ t=[]/\r=.tup [.agg z12,(271:Int)])\/((hCk ca t).2=0/\h=0)\/((hCk ca t).2=0/\e_ t≠[]/\∃z,IsTr D z/\r=.tup [z,(0:Int)]))/\st'=st):=by
 have hN:=λst=>G4 gl t x U (by omega) st;have ae:=λp ps G A z hm tg E st=>HN gl (folF m) (.func 54) [] [.cptr (.agg z)] (λi h=>by cases h;simp only[go_sem]) (λ_=>True) (λ_ _ _ _=>trivial) (λt x st _ U=>.of_ICall (by simp only[go_sem]) (QF gl m z hm hr (by have:=(hv p ps G A).1;omega) t x U st)) n t x U p tg E (dT (Hb A).2 hs) D (hv p ps G A).2 st trivial;obtain⟨rule,tl,xl,tr,xr,op,fn,ta,xa,tb,xb,v,un,tu,xu,n',ts,xs,rfl⟩:=eT U;refine j_ (t:=8) (n:=2) (c:=cf prog gl [8] [(4,[0,2,3,4,1,5,6])]) func28 rfl (by show _<=34;simp) (by show _<34;simp) (by kernel_rfl) ?_;simp only[go_sem,zE,zA,zL,reduceCtorEq];refine (hF _).mono ?_;rintro r st ⟨⟨h0,rfl⟩|⟨h0,A,rfl⟩|⟨h0,p,ps,tg,A,E,⟨G,rfl⟩|⟨G,z,hz,rfl⟩⟩,rfl⟩
 ·have d0:decide (((hCk ca t).2:Int)=0)=false:=dEf (by omega);simp only[go_sem,zE,zA,zL];refine λb=>d_ λJ=>?_;refine⟨b,mvZ,by simp only[go_sem,zE],b_ ..,?_⟩;rw[nY J];simp only[go_sem,zE,zA,zL,d0];exact c_ ⟨.inl ⟨h0,rfl⟩,rfl⟩
 ·simp only[go_sem,zE,zA,zL];refine λb=>d_ λJ=>?_;refine⟨b,mvZ,by simp only[go_sem,zE],b_ ..,?_⟩;rw[nY J];simp only[go_sem,zE,zA,zL,show decide ((271:Int)=0)=false from rfl];exact c_ ⟨.inr (.inl ⟨h0,A,rfl⟩),rfl⟩
 ·simp only[go_sem,zE,zA,zL];refine λb=>d_ λJ=>?_;refine⟨b,mvZ,by simp only[go_sem,zE],b_ ..,?_⟩;rw[nY J];simp only[go_sem,zE,zA,zL,show decide ((272:Int)=0)=false from rfl];exact c_ ⟨.inr (.inr (.inl ⟨h0,G⟩)),rfl⟩
 ·have O:=QE hz;obtain⟨hst,_⟩:=hv p ps G A;obtain⟨o,nm,q1,z1,q2,z2,q3,z3,rfl,_,_,h3⟩:=hz;have af:=h3.1;simp only[go_sem,zE,zA,zL];refine λb=>d_ λJ=>?_;refine⟨b,.agg [.raw (.int .u8 (m.1:Int)),.raw (.int .u8 o),nm,.sl q1 z1,.sl q2 z2,.sl q3 z3],by simp only[go_sem,zE],b_ ..,?_⟩;rw[nY J];simp only[age,ages] at O ⊢;have ag:(ages z3).length=m.2.2.length:=by rw[Ax];exact af
  have dn:decide ((300:Int)<IntKind.i64.wrap ((t.steps:Int)+(m.2.2.length:Int)))=false:=dEf (by rw[w64 (by omega) (by omega)];omega);simp only[go_sem,zE,zA,zL,fits,dA,ag];refine (hN _).q ?_;simp only[go_sem,zE,zA,zL,dn];refine (ae p ps G A _ O tg E _).mono ?_;rintro y st ⟨hy,rfl⟩;have ac:=hy;obtain⟨ab,ay,an,ax,am,aE,aK,aA,aq,az,ao,v',au,av,ak,n',aw,al,rfl⟩:=eT hy;simp only[go_sem,zE,zA,zL];exact c_ ⟨.inr (.inr (.inr ⟨h0,by rw[A];simp,_,ac,rfl⟩)),rfl⟩
abbrev advZ:List IV:=[nlS,.raw (.int .i64 0),.raw (.bool false),.raw (.int .u8 0),.raw (.string ⟨#[]⟩),nlS,nlS,.raw (.int .u8 0),nlS]
def onR (r:Nat):Bool:=decide (r=4\/r=6\/r=8\/r=18\/r=10\/r=12)
def QJ (r:Nat)(st:ISt):ICall prog gl 71 [.raw (.int .u8 (r:Int))] st (λx st'=>x=(onR r:Bool)/\st'=st):=by
 refine iI func71 ?_;by_cases J:r=4
 ·simp only[go_sem,reduceCtorEq,show decide ((r:Int)=4)=true from dEt (by omega)];exact c_ ⟨by simp[onR,J],rfl⟩
 have d4:decide ((r:Int)=4)=false:=dEf (by omega);by_cases G:r=6
 ·simp only[go_sem,zE,reduceCtorEq,d4,show decide ((r:Int)=6)=true from dEt (by omega)];exact c_ ⟨by simp[onR,G],rfl⟩
 have d6:decide ((r:Int)=6)=false:=dEf (by omega);by_cases E:r=8
 ·simp only[go_sem,zE,reduceCtorEq,d4,d6,show decide ((r:Int)=8)=true from dEt (by omega)];exact c_ ⟨by simp[onR,E],rfl⟩
 have d8:decide ((r:Int)=8)=false:=dEf (by omega);by_cases g18:r=18
 ·simp only[go_sem,zE,reduceCtorEq,d4,d6,d8,show decide ((r:Int)=18)=true from dEt (by omega)];exact c_ ⟨by simp[onR,g18],rfl⟩
 have d18:decide ((r:Int)=18)=false:=dEf (by omega);by_cases D:r=10
 ·simp only[go_sem,zE,reduceCtorEq,d4,d6,d8,d18,show decide ((r:Int)=10)=true from dEt (by omega)];exact c_ ⟨by simp[onR,D],rfl⟩
 have d10:decide ((r:Int)=10)=false:=dEf (by omega);by_cases A:r=12
 ·simp only[go_sem,zE,reduceCtorEq,d4,d6,d8,d18,d10,show decide ((r:Int)=12)=true from dEt (by omega)];exact c_ ⟨by simp[onR,A],rfl⟩
 have d12:decide ((r:Int)=12)=false:=dEf (by omega);simp only[go_sem,zE,reduceCtorEq,d4,d6,d8,d18,d10,d12];exact c_ ⟨by simp[onR,J,G,E,g18,D,A],rfl⟩
def D1J (D:Tag)(pl:List IV)(h:Int)(b:Nat)(c0 c1:IV)(z:List IV)(S:ISt)(A:Array Bool):Kt:=λad fr st ds=>(∀s,ad s=none)/\ds=[]/\fr 0=(pt b)/\fr 1=.iv (.cptr (.sl D pl))/\fr 2=.iv (.cptr h) /\
 (A.getD 0 false=true->fr 4=(pt b))/\(A.getD 1 false=true->fr 5=(pt b))/\(A.getD 2 false=true->fr 6=.iv (.sl D pl))/\(A.getD 3 false=true->fr 7=h)/\(A.getD 4 false=true->fr 8=(pt b))/\(A.getD 5 false=true->fr 9=(pt b)) /\
 (A.getD 7 false=true->fr 10=(pt b))/\(A.getD 8 false=true->fr 11=.iv (.raw (.pointer (some ⟨b,1,none⟩))))/\st=S.put b (some (.box ((if A.getD 6 false=true then .sl D pl else c0)::(if A.getD 9 false=true then h else c1)::z)))
section
variable (c0 c1 c2 c3 c4 c5 c6 c7 c8:IV)(b:Nat)(st:ISt)(hst:st b=some (.box [c0,c1,c2,c3,c4,c5,c6,c7,c8]))
include hst
def QK (tg:Tag)(pl:List IV)(h:Int):ICall prog gl 69 [pt b,.cptr (.sl tg pl),.cptr h] st (λ_ st'=>st'=st.put b (some (.box [.sl tg pl,h,c2,c3,c4,c5,c6,c7,c8]))):=by
 refine ICall.intro (c:=cf prog gl [2] [(0,[])]) func69 rfl (by show _<=12;simp) (by kernel_rfl) ?_;have hS:st=st.put b (some (.box (c0::c1::[c2,c3,c4,c5,c6,c7,c8]))):=by
  funext c;by_cases hc:c=b
  ·rw[hc,b_];exact hst
  ·rw[dw hc]
 simp only[go_sem];refine wM (D1J tg pl h b c0 c1 [c2,c3,c4,c5,c6,c7,c8] st) ?_ ?_ _ _ _ _ _ _ rfl ?_
 ·intro E ad fr ag ds ae hJ i hi;replace ae:E.size=10:=ae;obtain⟨ay,o,ho,D⟩:=mem_ready.1 hi;have aw:i<10:=(iF.1 ho).1;have e':∀j,(E.setIfInBounds i true).getD j false=if i=j then true else E.getD j false:=λj=>GX (by omega)
  obtain⟨A,rfl,f0,f1,f2,g0,g1,g2,g3,U,O,J,G,rfl⟩:=hJ;rcases (show i=0\/i=1\/i=2\/i=3\/i=4\/i=5\/i=6\/i=7\/i=8\/i=9 by omega) with rfl|rfl|rfl|rfl|rfl|rfl|rfl|rfl|rfl|rfl
  all_goals obtain rfl:_=o:=eE ho
  ·simp only[go_sem,ju,f0,pt];simp only[D1J,e',iteT,iteF,reduceCtorEq,fu];exact⟨kM A _,trivial,f0,f1,f2,rfl,g1,g2,g3,U,O,J,G,trivial⟩
  ·simp only[go_sem,ju,f0,pt];simp only[D1J,e',zE,iteT,iteF,reduceCtorEq,fu];exact⟨kM A _,trivial,f0,f1,f2,g0,rfl,g2,g3,U,O,J,G,trivial⟩
  ·simp only[go_sem,ju,A,f1,fits];simp only[D1J,e',zE,iteT,iteF,reduceCtorEq,fu];exact⟨kM A _,trivial,f0,f1,f2,g0,g1,rfl,g3,U,O,J,G,trivial⟩
  ·simp only[go_sem,ju,A,f2,fits];simp only[D1J,e',zE,iteT,iteF,reduceCtorEq,fu];exact⟨kM A _,trivial,f0,f1,f2,g0,g1,g2,rfl,U,O,J,G,trivial⟩
  ·have q0:=g0 (D ⟨0,.data⟩ (by simp) rfl);simp only[go_sem,ju,A,q0,pt];simp only[D1J,e',zE,iteT,iteF,reduceCtorEq,fu];exact⟨kM A _,trivial,f0,f1,f2,g0,g1,g2,g3,rfl,O,J,G,trivial⟩
  ·have q4:=U (D ⟨4,.data⟩ (by simp) rfl);simp only[go_sem,ju,A,q4,pt];simp only[D1J,e',zE,iteT,iteF,reduceCtorEq,fu];exact⟨kM A _,trivial,f0,f1,f2,g0,g1,g2,g3,U,rfl,J,G,trivial⟩
  ·have q5:=O (D ⟨5,.data⟩ (by simp) rfl);have q2:=g2 (D ⟨2,.data⟩ (by simp) rfl);simp only[go_sem,zA,zL,ju,A,q5,q2,pt,b_,eN];simp only[D1J,e',zE,iteT,iteF,reduceCtorEq];exact⟨A,trivial,f0,f1,f2,g0,g1,g2,g3,U,O,J,G,trivial⟩
  ·have q1:=g1 (D ⟨1,.data⟩ (by simp) rfl);simp only[go_sem,ju,A,q1,pt];simp only[D1J,e',zE,iteT,iteF,reduceCtorEq,fu];exact⟨kM A _,trivial,f0,f1,f2,g0,g1,g2,g3,U,O,rfl,G,trivial⟩
  ·have q7:=J (D ⟨7,.data⟩ (by simp) rfl);simp only[go_sem,ju,A,q7,pt];simp only[D1J,e',zE,iteT,iteF,reduceCtorEq,fu];exact⟨kM A _,trivial,f0,f1,f2,g0,g1,g2,g3,U,O,J,rfl,trivial⟩
  ·have q8:=G (D ⟨8,.data⟩ (by simp) rfl);have q3:=g3 (D ⟨3,.data⟩ (by simp) rfl);simp only[go_sem,zA,zL,ju,A,q8,q3,b_,eN];simp only[D1J,e',zE,iteT,iteF,reduceCtorEq];exact⟨A,trivial,f0,f1,f2,g0,g1,g2,g3,U,O,J,G,trivial⟩
 ·intro E ad fr ag ds ae hr hJ;have hl:=GY (by decide) ae hr;obtain⟨_,rfl,_,_,_,_,_,_,_,_,_,_,_,rfl⟩:=hJ;rw[hl 6 (by decide),hl 9 (by decide)];simp only[go_sem];exact c_ rfl
 ·exact⟨λ_=>rfl,rfl,rfl,rfl,rfl,nofun,nofun,nofun,nofun,nofun,nofun,nofun,nofun,hS⟩
def QL (r:Nat)(o:Int)(n:ByteArray)(t1:Tag)(D:List IV)(t2:Tag)(A:List IV)(t3:Tag)(E:List IV):ICall prog gl 70 [pt b,.cptr (.agg [.raw (.int .u8 (r:Int)),.raw (.int .u8 o),n,.sl t1 D,.sl t2 A,.sl t3 E])] st (λ_ st'=>st'=st.put b (some (.box [c0,c1,(onR r:Bool),.raw (.int .u8 o),n,.sl t1 D,.sl t2 A,c7,c8]))):=by
 have G:=λst=>QJ gl r st;refine iI func70 ?_;simp only[go_sem,zE,zB,zA,zL,reduceCtorEq,fits,pt];refine (G _).q ?_;simp only[go_sem,zE,zA,zL,hst,b_,eN];exact c_ rfl
def QM (r:Nat)(o n a A ps:IV):ICall prog gl 72 [pt b,.cptr (.agg [.raw (.int .u8 (r:Int)),o,n,a,A,ps])] st (λ_ st'=>st'=st.put b (some (.box [c0,c1,c2,c3,c4,c5,c6,.raw (.int .u8 (r:Int)),c8]))):=by
 refine iI func72 ?_;simp only[go_sem,zE,zA,zL,fits,pt,hst];exact c_ rfl
def QN (r o n a D:IV)(t3:Tag)(A:List IV):ICall prog gl 73 [pt b,.cptr (.agg [r,o,n,a,D,.sl t3 A])] st (λ_ st'=>st'=st.put b (some (.box [c0,c1,c2,c3,c4,c5,c6,c7,.sl t3 A]))):=by
 refine iI func73 ?_;simp only[go_sem,zE,zA,zL,fits,pt,hst];exact c_ rfl
end
def degI (pl h m:IV):IV:=.agg [.fn (.func 69) [] [.cptr pl,.cptr h],.fn (.func 70) [] [.cptr m],.fn (.func 72) [] [.cptr m],.fn (.func 73) [] [.cptr m]]
def QO (A:Tag)(pl:List IV)(h:Int)(m:Nat×Fm×List Sn)(z:IV)(D:gT m z)(st:ISt):ICall prog gl 46 [.sl A pl,h,z] st (λr st'=>r=degI (.sl A pl) h z/\st'=st):=by
 obtain⟨o,n,t1,x1,t2,x2,t3,U,rfl,_⟩:=D;refine ICall.intro (c:=cf prog gl [] [] [3,4,5]) func46 rfl (by show _<=12;simp) (by kernel_rfl) ?_;have J:∀i,fldI prog 91 i=none:=λi=>by
  cases h:fldI prog 91 i with
  | none=>rfl
  | some f =>
   obtain⟨fs,_,h1,_⟩:=sY (fo:=f.1) (ag:=f.2.1) (n:=f.2.2) h;have h2:(match prog.underlying 91 with|some (.struct _)=>true|_=>false)=false:=by kernel_rfl
   rw[h1] at h2;cases h2
 have O:arrI prog 91=some (4,false,1):=by kernel_rfl
 have E:∀b:Option (Nat×Bool×Nat),orO none b=b:=λ_=>rfl;have G:gz prog 91=true:=by kernel_rfl
 simp only[go_sem,zE,zA,zM,zL,fits,J,O,E,G,eK];exact c_ ⟨rfl,rfl⟩
def HQ:∀(l:List (List Nat×Tr))(ca:Nat),(eV (badN ca) l).2<=270
 | [],_=>fq _
 | (p,t)::l,ca=>by
  rw[eV];split
  ·exact HQ l ca
  ·show badN ca t<=270;unfold badN;split<;>omega
def QP (ca:Nat)(t:Tr):(hCk ca t).2<=270:=by
 unfold hCk;split
 ·split
  ·decide
  ·exact HQ _ _
 ·decide
def advK (pl:IV)(h:Int)(r:Nat)(o:Int)(n:ByteArray)(s1 A D:IV):Nat->List IV
 | 0=>advZ
 | 1=>pl::h::advZ.drop 2
 | 2=>[pl,h,(onR r:Bool),.raw (.int .u8 o),n,s1,A,.raw (.int .u8 0),nlS]
 | 3=>[pl,h,(onR r:Bool),.raw (.int .u8 o),n,s1,A,.raw (.int .u8 (r:Int)),nlS]
 | _=>[pl,h,(onR r:Bool),.raw (.int .u8 o),n,s1,A,.raw (.int .u8 (r:Int)),D]
def HR (ca:Nat)(t:Tr)(h e:Nat)(m:Nat×Fm×List Sn)(F:Prop)(l:Nat)(r:IV):Prop :=
 ((hCk ca t).2≠0/\r=.tup [.agg advZ,((hCk ca t).2:Int)])\/((hCk ca t).2=0/\e_ t=[]/\r=.tup [.agg advZ,(271:Int)]) \/
  ((hCk ca t).2=0/\∃p ps A,e_ t=p::ps/\okEs A 1/\((e≠0/\r=.tup [.agg advZ,(e:Int)])\/(e=0/\F/\((h=0/\r=.tup [.agg (.sl A (plI p)::advZ.tail),(272:Int)])\/(0<h/\∃o n t1 G t2 E t3 D,gT m (.agg [.raw (.int .u8 (m.1:Int)),.raw (.int .u8 o),.raw (.string n),.sl t1 G,.sl t2 E,.sl t3 D]) /\
   r=.tup [.agg (advK (.sl A (plI p)) h m.1 o n (.sl t1 G) (.sl t2 E) (.sl t3 D) l),(0:Int)])))))
def QQ (ca:Nat)(t:Tr)(x:IV)(hx:IsTr t x)(h e:Nat)(he:e<272)(m:Nat×Fm×List Sn)(F:Prop)(E:Int)(l:Nat)(am:¬ E<1)(al:¬ 4<E)(aw:E=l)(hF:∀st,ICall prog gl 45 [.raw (.int .u8 (ca:Int)),x] st (λr st'=>Ha ca t h e m F r/\st'=st))(st:ISt) :
  ICall prog gl 22 [.raw (.int .u8 (ca:Int)),x,E] st (λr st'=>HR ca t h e m F l r/\st'=st):=by
 obtain⟨rule,tl,xl,tr,xr,op,fn,ta,xa,tb,xb,v,un,tu,xu,n',ts,xs,rfl⟩:=eT hx;refine ICall.intro (c:=cf prog gl [12] []) func22 rfl (by show _<=54;simp) (by kernel_rfl) ?_;have d1:decide (E<1)=false:=dEf am;have d2:decide (4<E)=false:=dEf al;simp only[go_sem,zE,zA,zL,reduceCtorEq,d1,d2];refine (hF _).mono ?_;rintro r st ⟨⟨h0,rfl⟩|⟨h0,D,rfl⟩|⟨h0,p,ps,G,D,J,⟨ak,rfl⟩|⟨ab,hFF,⟨hh,rfl⟩|⟨hh,z,hz,rfl⟩⟩⟩,rfl⟩
 ·have d0:decide (((hCk ca t).2:Int)=272)=false:=dEf (by have:=QP ca t;omega);have d3:decide (((hCk ca t).2:Int)=0)=false:=dEf (by omega);simp only[go_sem,zE,zA,zL,d0,d3];exact c_ ⟨.inl ⟨h0,rfl⟩,rfl⟩
 ·simp only[go_sem,zE,zA,zL,show decide ((271:Int)=272)=false from rfl,show decide ((271:Int)=0)=false from rfl];exact c_ ⟨.inr (.inl ⟨h0,D,rfl⟩),rfl⟩
 ·have d0:decide ((e:Int)=272)=false:=dEf (by omega);have d3:decide ((e:Int)=0)=false:=dEf (by omega);simp only[go_sem,zE,zA,zL,d0,d3];exact c_ ⟨.inr (.inr ⟨h0,p,ps,G,D,J,.inl ⟨ak,rfl⟩⟩),rfl⟩
 ·simp only[go_sem,zE,zA,zL,fits,dA];exact c_ ⟨.inr (.inr ⟨h0,p,ps,G,D,J,.inr ⟨ab,hFF,.inl ⟨hh,rfl⟩⟩⟩),rfl⟩
 ·have ai:=hz;have ao:=λst=>QO gl G (plI p) (h:Int) m z hz st;obtain⟨o,nm,q1,z1,q2,z2,q3,z3,rfl,_⟩:=hz;simp only[go_sem,zE,zA,zL,show decide ((0:Int)=272)=false from rfl,dA];refine λb=>d_ λhb=>?_;refine (ao _).mono ?_;rintro _ aq ⟨rfl,U⟩;subst U;have O:arrI prog 91=some (4,false,1):=by kernel_rfl
  have A:lenI prog 91=some (.arr 4):=by kernel_rfl
  simp only[go_sem];refine dj 4 (λk fr st' ds=>(∃j:Nat,j=min k l/\st'=st.put b (some (.box (advK (.sl G (plI p)) h m.1 o nm (.sl q1 z1) (.sl q2 z2) (.sl q3 z3) j))))/\fr 2=E/\fr 12=(pt b)/\fr 6=.box advZ/\fr 42=(degI (.sl G (plI p)) (h:Int) (.agg [.raw (.int .u8 (m.1:Int)),.raw (.int .u8 o),nm,.sl q1 z1,.sl q2 z2,.sl q3 z3]))/\fr 43=(k:Int)/\ds=[]) ?_ ?_ ?_
  ·simp only[go_sem,zE];exact⟨⟨0,by omega,rfl⟩,rfl,rfl⟩
  ·rintro k fr ae _ ax ⟨⟨j,hj,rfl⟩,f2,f12,f6,f42,f43,rfl⟩;unfold degI at f42;by_cases aa:(k:Int)<E
   ·have dk:decide ((k:Int)<E)=true:=dEt aa;obtain rfl:j=k:=by omega
    rcases (show j=0\/j=1\/j=2\/j=3 by omega) with rfl|rfl|rfl|rfl
    ·simp only[go_sem,zE,zM,f2,f12,f42,f43,O,A,pt,dk,show decide (((0:Nat):Int)<4)=true from rfl,show (0<=((0:Nat):Int)/\((0:Nat):Int)<((4:Nat):Int))=True from eQ (by omega),show Int.toNat ((0:Nat):Int)=0 from rfl];refine (QK gl _ _ _ _ _ _ _ _ _ b _ (b_ ..) _ _ _).mono ?_;rintro _ _ rfl;rw[eN];simp only[go_sem,zE,f2,f12,f6,f42,f43];exact⟨⟨1,by omega,rfl⟩,rfl,rfl,rfl⟩
    ·simp only[go_sem,zE,zA,zM,f2,f12,f42,f43,O,A,pt,dk,show decide (((1:Nat):Int)<4)=true from rfl,show (0<=((1:Nat):Int)/\((1:Nat):Int)<((4:Nat):Int))=True from eQ (by omega),show Int.toNat ((1:Nat):Int)=1 from rfl];refine (QL gl _ _ _ _ _ _ _ _ _ b _ (b_ ..) _ _ _ _ _ _ _ _ _).mono ?_;rintro _ _ rfl;rw[eN];simp only[go_sem,zE,f2,f12,f6,f42,f43];exact⟨⟨2,by omega,rfl⟩,rfl,rfl,rfl⟩
    ·simp only[go_sem,zE,zA,zM,f2,f12,f42,f43,O,A,pt,dk,show decide (((2:Nat):Int)<4)=true from rfl,show (0<=((2:Nat):Int)/\((2:Nat):Int)<((4:Nat):Int))=True from eQ (by omega),show Int.toNat ((2:Nat):Int)=2 from rfl];refine (QM gl _ _ _ _ _ _ _ _ _ b _ (b_ ..) _ _ _ _ _ _).mono ?_;rintro _ _ rfl;rw[eN];simp only[go_sem,zE,f2,f12,f6,f42,f43];exact⟨⟨3,by omega,rfl⟩,rfl,rfl,rfl⟩
    ·simp only[go_sem,zE,zA,zM,f2,f12,f42,f43,O,A,pt,dk,show decide (((3:Nat):Int)<4)=true from rfl,show (0<=((3:Nat):Int)/\((3:Nat):Int)<((4:Nat):Int))=True from eQ (by omega),show Int.toNat ((3:Nat):Int)=3 from rfl];refine (QN gl _ _ _ _ _ _ _ _ _ b _ (b_ ..) _ _ _ _ _ _ _).mono ?_;rintro _ _ rfl;rw[eN];simp only[go_sem,zE,f2,f12,f6,f42,f43];exact⟨⟨4,by omega,rfl⟩,rfl,rfl,rfl⟩
   ·have dk:decide ((k:Int)<E)=false:=dEf aa;rcases (show k=1\/k=2\/k=3 by omega) with rfl|rfl|rfl
    ·simp only[go_sem,zE,zA,zM,f2,f12,f42,f43,O,A,pt,dk,show decide (((1:Nat):Int)<4)=true from rfl,show (0<=((1:Nat):Int)/\((1:Nat):Int)<((4:Nat):Int))=True from eQ (by omega),show Int.toNat ((1:Nat):Int)=1 from rfl];exact⟨⟨j,by omega,rfl⟩,f6,rfl,rfl⟩
    ·simp only[go_sem,zE,zA,zM,f2,f12,f42,f43,O,A,pt,dk,show decide (((2:Nat):Int)<4)=true from rfl,show (0<=((2:Nat):Int)/\((2:Nat):Int)<((4:Nat):Int))=True from eQ (by omega),show Int.toNat ((2:Nat):Int)=2 from rfl];exact⟨⟨j,by omega,rfl⟩,f6,rfl,rfl⟩
    ·simp only[go_sem,zE,zA,zM,f2,f12,f42,f43,O,A,pt,dk,show decide (((3:Nat):Int)<4)=true from rfl,show (0<=((3:Nat):Int)/\((3:Nat):Int)<((4:Nat):Int))=True from eQ (by omega),show Int.toNat ((3:Nat):Int)=3 from rfl];exact⟨⟨j,by omega,rfl⟩,f6,rfl,rfl⟩
  ·rintro fr ae _ ⟨⟨j,hj,rfl⟩,f2,f12,f6,f42,f43,rfl⟩;obtain rfl:j=l:=by omega
   have hr:=show HR ca t h e m F j (.tup [.agg (advK (.sl G (plI p)) h m.1 o nm (.sl q1 z1) (.sl q2 z2) (.sl q3 z3) j),(0:Int)]) from .inr (.inr ⟨h0,p,ps,G,D,J,.inr ⟨ab,hFF,.inr ⟨hh,_,_,_,_,_,_,_,_,ai,rfl⟩⟩⟩);rcases (show j=1\/j=2\/j=3\/j=4 by omega) with rfl|rfl|rfl|rfl <;>
   ·simp only[go_sem,zE,zA,zL,f12,f6,f43,pt,advK,b_,show decide (((4:Nat):Int)<4)=false from rfl];exact ez (st':=st) (ff hb) ⟨hr,rfl⟩
def QR (ca:Nat)(t:Tr)(h:Nat)(m:Nat×Fm×List Sn)(A:Int)(r:IV):Prop :=
 ((A<1\/4<A)/\r=.tup [.agg advZ,(2:Int)])\/(¬ (A<1\/4<A)/\(((hCk ca t).2≠0/\r=.tup [.agg advZ,((hCk ca t).2:Int)])\/((hCk ca t).2=0/\e_ t=[]/\r=.tup [.agg advZ,(271:Int)]) \/
  ((hCk ca t).2=0/\∃p ps D,e_ t=p::ps/\okEs D 1/\((h=0/\r=.tup [.agg (.sl D (plI p)::advZ.tail),(272:Int)])\/(0<h/\∃o n t1 J t2 G t3 E,gT m (.agg [.raw (.int .u8 (m.1:Int)),.raw (.int .u8 o),.raw (.string n),.sl t1 J,.sl t2 G,.sl t3 E]) /\
   r=.tup [.agg [.sl D (plI p),(h:Int),(onR m.1:Bool),.raw (.int .u8 o),.raw (.string n),.sl t1 J,.sl t2 G,.raw (.int .u8 (m.1:Int)),.sl t3 E],(0:Int)])))))
def HS (ca:Nat)(t:Tr)(x:IV)(O:IsTr t x)(h:Nat)(m:Nat×Fm×List Sn)(A:Int)(G:(hCk ca t).2=0->0<h->e_ t≠[]->¬ (A<1\/4<A)->A=4)(hF:¬ (A<1\/4<A)->∀st,ICall prog gl 45 [.raw (.int .u8 (ca:Int)),x] st (λr st'=>sD ca t h m r/\st'=st))(st:ISt) :
  ICall prog gl 22 [.raw (.int .u8 (ca:Int)),x,A] st (λr st'=>QR ca t h m A r/\st'=st):=by
 by_cases h1:A<1\/4<A
 ·obtain⟨rule,tl,xl,tr,xr,op,fn,ta,xa,tb,xb,v,un,tu,xu,n',ts,xs,rfl⟩:=eT O;refine ICall.intro (c:=cf prog gl [12] []) func22 rfl (by show _<=54;simp) (by kernel_rfl) ?_;by_cases h2:A<1
  ·have d1:decide (A<1)=true:=dEt h2;simp only[go_sem,zE,zA,zL,d1];exact c_ ⟨.inl ⟨h1,rfl⟩,rfl⟩
  ·have d1:decide (A<1)=false:=dEf h2;have d2:decide (4<A)=true:=dEt (by omega);simp only[go_sem,zE,zA,zL,d1,d2];exact c_ ⟨.inl ⟨h1,rfl⟩,rfl⟩
 refine (QQ gl ca t x O h 0 (by decide) m True A A.toNat (by omega) (by omega) (by omega) (λst=>(hF h1 st).mono λr st' ⟨a,b⟩=>⟨?_,b⟩) st).mono λr st' ⟨a,b⟩=>⟨.inr ⟨h1,?_⟩,b⟩
 ·rcases a with a|a|⟨h0,p,ps,E,h1,h2,D⟩
  ·exact .inl a
  ·exact .inr (.inl a)
  ·exact .inr (.inr ⟨h0,p,ps,E,h1,h2,.inr ⟨rfl,trivial,D⟩⟩)
 ·rcases a with a|a|⟨h0,p,ps,E,D,h2,⟨J,_⟩|⟨_,_,J|⟨U,o,n,t1,x1,t2,x2,t3,x3,h6,rfl⟩⟩⟩
  ·exact .inl a
  ·exact .inr (.inl a)
  ·exact absurd rfl J
  ·exact .inr (.inr ⟨h0,p,ps,E,D,h2,.inl J⟩)
  ·refine .inr (.inr ⟨h0,p,ps,E,D,h2,.inr ⟨U,o,n,t1,x1,t2,x2,t3,x3,h6,?_⟩⟩);rw[G h0 U (by rw[D];simp) h1];rfl
set_option maxRecDepth 8000
def k_p (n:ByteArray)(st:ISt):ICall prog gl 17 [n] st (λr st'=>r=.agg [.raw (.int .u8 1),n,nlS,nlS]/\st'=st):=by
 refine iI func17 ?_;simp only[go_sem,zE,zA,zL,reduceCtorEq,fits];exact c_ ⟨rfl,rfl⟩
def k_of (op:Int)(t:Tag)(A:List IV)(st:ISt):ICall prog gl 18 [.raw (.int .u8 op),.sl t A] st (λr st'=>r=.agg [.raw (.int .u8 op),.raw (.string ⟨#[]⟩),nlS,.sl t A]/\st'=st):=by
 refine iI func18 ?_;simp only[go_sem,zE,zA,zL,reduceCtorEq,fits];exact c_ ⟨rfl,rfl⟩
def k_fs (t:Tag)(A:List IV)(st:ISt):ICall prog gl 21 [.sl t A] st (λr st'=>r=.sl t A/\st'=st):=by
 refine iI func21 ?_;simp only[go_sem,reduceCtorEq];exact c_ ⟨rfl,rfl⟩
def k_sq (t:Tag)(A:List IV)(D:Tag)(ys:List IV)(st:ISt):ICall prog gl 20 [.sl t A,.sl D ys] st (λr st'=>r=.agg [.sl t A,.sl D ys]/\st'=st):=by
 refine iI func20 ?_;simp only[go_sem,zE,zA,zL,reduceCtorEq,fits];exact c_ ⟨rfl,rfl⟩
def gI (t:Tag)(A:List IV)(D:Tag)(ys:List IV):IV:=.agg [.raw (.int .u8 0),.sl t A,.sl D ys,.raw (.int .u8 0),.raw (.string ⟨#[]⟩),nlS,nlS,false,.raw (.string ⟨#[]⟩),nlS,.raw (.string ⟨#[]⟩),nlS]
def vC (t:Tag)(A:List IV)(D:Tag)(ys:List IV)(st:ISt):ICall prog gl 19 [.agg [.sl t A,.sl D ys]] st (λr st'=>r=gI t A D ys/\st'=st):=by
 refine iI func19 ?_;simp only[go_sem,zE,zA,zL,fits];exact c_ ⟨rfl,rfl⟩
def vD (r o:Int)(n:ByteArray)(t1:Tag)(E:List IV)(t2:Tag)(D:List IV)(t:Tag)(A:List IV)(G:Tag)(ys:List IV)(ts:Tag)(zs:List IV)(st:ISt) :
  ICall prog gl 25 [.raw (.int .u8 r),.agg [.raw (.int .u8 o),n,.sl t1 E,.sl t2 D],.agg [.sl t A,.sl G ys],.sl ts zs] st
   (λy st'=>y=.agg [.raw (.int .u8 r),.sl t A,.sl G ys,.raw (.int .u8 o),n,.sl t1 E,.sl t2 D,false,.raw (.string ⟨#[]⟩),nlS,.raw (.string ⟨#[]⟩),.sl ts zs]/\st'=st):=by
 refine iI func25 ?_;simp only[go_sem,zE,zA,zL,reduceCtorEq,fits];exact c_ ⟨rfl,rfl⟩
def Ay {s:Sq}{t:Tag}{A:List IV}{D:Tag}{ys:List IV}(h:IsSq s (.agg [.sl t A,.sl D ys])):IsTr (goalT s) (gI t A D ys):=by
 obtain⟨t1,U,t2,O,E,J,i1,G,i2⟩:=h;cases E;exact⟨_,_,_,_,_,_,_,_,_,_,_,_,_,_,_,_,rfl,by decide,J,i1,G,i2,qb,oV,.inl rfl,rfl⟩
def sH (G:Gl gl)(T:Gt gl)(U:∀g x,gl g=some x->age x=x){ca:Nat}(hc:ca=1\/ca=2){t:Tr}{x:IV}(hx:IsTr t x)(O:okT t=true)(hs:t.steps<=300){p:List Nat}(J:e_ t=[p]){s:Sq}(D:(atT t p).sq=s)(hv:ev ca s=true){h:Nat}{K:List Sn}(hK:hF (calJ ca) (s.l,s.r)=h/\ReachOk (calJ ca) (nf (s.l,s.r)) K)(aa:fW s)(m:Nat×Fm×List Sn)
  (hB:0<h->∀y st,IsSq s y->ICall prog gl 68 [.raw (.int .u8 (ca:Int)),y,(h:Int)] st (λr st'=>(∃z,gT m z/\r=.tup [z,(0:Int)])/\st'=st)) (st:ISt) :
  ICall prog gl 45 [.raw (.int .u8 (ca:Int)),x] st (λr st'=>sD ca t h m r/\st'=st):=by
 refine Hc gl G T U ca t x hx (vA O (by omega)) (by omega) h m (λq qs _ E y st A=>?_) (λq qs hh _ E y st A=>?_) st
 ·rw[J] at E;cases E;rw[D] at A;exact oQ gl G T ca s hc hv hK y A aa st
 ·rw[J] at E;cases E;rw[D] at A;exact hB hh y st A
def QS (G:Gl gl)(T:Gt gl)(y:IV)(st:ISt)(A:IsSq sM y):ICall prog gl 68 [.raw (.int .u8 ((2:Nat):Int)),y,((3:Nat):Int)] st (λr st'=>(∃z,gT mv1 z/\r=.tup [z,(0:Int)])/\st'=st):=by
 refine vr gl G T 2 sM (.inr rfl) hvM 3 mv1 y A (jl (by decide)) (λh=>(nclM h).elim) (λ_=>⟨sd2.2.top (by rw[nfM];exact nclM),?_,?_,?_⟩) st
 ·rw[show nf (sM.l,sM.r)=([],[mnF]) from nfM,show mvF (calJ 2) ([],[mnF])=_ from mvM];have E:lowB (calJ 2) 3 [(([]:List Fm),[faP])]=false:=by unfold lowB;simp only[List.all_cons,List.all_nil];rw[show Tryz.hF (calJ 2) ([],[faP])=0 from sd1.1];rfl
  have D:lowB (calJ 2) 3 [(([]:List Fm),[qqF])]=true:=by unfold lowB;simp only[List.all_cons,List.all_nil];rw[show Tryz.hF (calJ 2) ([],[qqF])=2 from sd3.1];rfl
  rw[kh,E,kh,D]
 ·rw[show nf (sM.l,sM.r)=([],[mnF]) from nfM,show mvF (calJ 2) ([],[mnF])=_ from mvM];decide
 ·rw[show nf (sM.l,sM.r)=([],[mnF]) from nfM,show mvF (calJ 2) ([],[mnF])=_ from mvM];intro v hv;simp only[dN,ga,fe] at hv;rcases hv with rfl|rfl
  ·refine⟨by show 1<=1000000;decide,λp hp y st A=>?_⟩;rw[dZ.1 hp] at A ⊢;rw[show Tryz.hF (calJ 2) ([],[faP])=0 from sd1.1];exact oQ gl G T 2 sP (.inr rfl) hvP sd1 y A (jl (by decide)) st
  ·refine⟨by show 1<=1000000;decide,λp hp y st A=>?_⟩;rw[dZ.1 hp] at A ⊢;rw[show Tryz.hF (calJ 2) ([],[qqF])=2 from sd3.1];exact oQ gl G T 2 sQ (.inr rfl) hvQ sd3 y A (jl (by decide)) st
def QT (G:Gl gl)(T:Gt gl)(y:IV)(st:ISt)(A:IsSq sQ y):ICall prog gl 68 [.raw (.int .u8 ((2:Nat):Int)),y,((2:Nat):Int)] st (λr st'=>(∃z,gT mv2 z/\r=.tup [z,(0:Int)])/\st'=st):=by
 refine vr gl G T 2 sQ (.inr rfl) hvQ 2 mv2 y A (jl (by decide)) (λh=>(nclQ h).elim) (λ_=>⟨sd3.2.top (by rw[nfQ];exact nclQ),?_,?_,?_⟩) st
 ·rw[show nf (sQ.l,sQ.r)=([],[qqF]) from nfQ,show mvF (calJ 2) ([],[qqF])=_ from mvQ];have D:lowB (calJ 2) 2 [([faQ],[faQ])]=true:=by unfold lowB;simp only[List.all_cons,List.all_nil];rw[show Tryz.hF (calJ 2) ([faQ],[faQ])=1 from sd4.1];rfl
  rw[kh,D]
 ·rw[show nf (sQ.l,sQ.r)=([],[qqF]) from nfQ,show mvF (calJ 2) ([],[qqF])=_ from mvQ];decide
 ·rw[show nf (sQ.l,sQ.r)=([],[qqF]) from nfQ,show mvF (calJ 2) ([],[qqF])=_ from mvQ];intro v hv;rw[dZ.1 hv];refine⟨by show 1<=1000000;decide,λp hp y st A=>?_⟩;rw[dZ.1 hp] at A ⊢;rw[show Tryz.hF (calJ 2) ([faQ],[faQ])=1 from sd4.1];exact oQ gl G T 2 sA (.inr rfl) hvA sd4 y A (jl (by decide)) st
def QU (G:Gl gl)(T:Gt gl)(y:IV)(st:ISt)(A:IsSq sO y):ICall prog gl 68 [.raw (.int .u8 ((1:Nat):Int)),y,((3:Nat):Int)] st (λr st'=>(∃z,gT mv4 z/\r=.tup [z,(0:Int)])/\st'=st):=by
 refine vr gl G T 1 sO (.inl rfl) awv2 3 mv4 y A (jl (by decide)) (λh=>(nclO h).elim) (λ_=>⟨aw2.2.top (by rw[nfO];exact nclO),?_,?_,?_⟩) st
 ·rw[show nf (sO.l,sO.r)=([],[orP]) from nfO,show mvF (calJ 1) ([],[orP])=_ from mvO];have D:lowB (calJ 1) 3 [([],[faP,fno faP,orP])]=true:=by unfold lowB;simp only[List.all_cons,List.all_nil];rw[show Tryz.hF (calJ 1) ([],[faP,fno faP,orP])=2 from sd5.1];rfl
  rw[kh,D]
 ·rw[show nf (sO.l,sO.r)=([],[orP]) from nfO,show mvF (calJ 1) ([],[orP])=_ from mvO];decide
 ·rw[show nf (sO.l,sO.r)=([],[orP]) from nfO,show mvF (calJ 1) ([],[orP])=_ from mvO];intro v hv;rw[dZ.1 hv];refine⟨by show 1<=1000000;decide,λp hp y st A=>?_⟩;rw[dZ.1 hp] at A ⊢;rw[show Tryz.hF (calJ 1) ([],[faP,fno faP,orP])=2 from sd5.1];exact oQ gl G T 1 ⟨[],[faP,fno faP,orP]⟩ (.inl rfl) hvE sd5 y A (jl (by decide)) st
def QV (G:Gl gl)(T:Gt gl)(y:IV)(st:ISt)(A:IsSq sA y):ICall prog gl 68 [.raw (.int .u8 ((2:Nat):Int)),y,((1:Nat):Int)] st (λr st'=>(∃z,gT mv3 z/\r=.tup [z,(0:Int)])/\st'=st):=by
 have hS:SetS sA=(sA,0):=by rw[Qj (.inr rfl) hvA,show nf (sA.l,sA.r)=([faQ],[faQ]) from nfA];rfl
 have D:sA.l.find? (hasF sA.r)=some faQ:=by
  have:hasF [faQ] faQ=true:=by simp only[hasF,List.any_cons,GI (show faQ.right=true by kernel_rfl),Bool.true_or]
  simp only[kh,this]
 have hM:clM sA=mv3:=by simp only[clM,D]
 exact vr gl G T 2 sA (.inr rfl) hvA 1 mv3 y A (jl (by decide)) (λ_ st=>hM▸P3 gl G T sA sA y A (jl (by decide)) (by decide) hS (jl (by decide)) (by decide) st) (λh=>(h clA).elim) st
set_option maxRecDepth 4000
def vE (t:Tr):Prop:=∀(x y:IV) (_:IsTr t x) (_:IsTr t y) (_:t.steps<=1099511627776) (st:ISt),ICall prog gl 16 [x,y] st (λr st'=>r=true/\st'=st)
def QW (rule:Nat)(s:Sq)(f:Fm)(u:Tm)(n:ByteArray)(sub:List Tr)(IH:∀a∈sub,vE gl a):vE gl (.mk rule s f u n sub):=by
 intro x y hx hy hst st;obtain⟨tl,xl,tr,xr,op,fn,ta,xa,tb,xb,v,un,tu,xu,ts,xs,rfl,bl,e1,i1,e2,i2,aM,hz,e3,i3⟩:=hx.mk;obtain⟨U,O,tr2,J,aH,aV,aE,ao,aC,am,v2,au,aw,ag,ay,ai,rfl,a6,aZ,aK,aY,aJ,ac,aL,aX,aa⟩:=hy.mk;simp only[Tr.steps] at hst;have aS:=lY sub;have h1:=λst=>DU gl s s (.agg [.sl tl xl,.sl tr xr]) (.agg [.sl U O,.sl tr2 J]) ⟨_,_,_,_,rfl,e1,i1,e2,i2⟩ ⟨_,_,_,_,rfl,aZ,aK,aY,aJ⟩ st;have h2:=λst=>yk gl f f _ _ aM ac st;have h3:=λst=>Mz gl u u _ _ hz aL st;have aQ:eqB s s=true:=yQx.2 rfl;have aO:eqB f f=true:=yQx.2 rfl;have aN:eqB u u=true:=yQx.2 rfl;refine iI func16 ?_;simp only[go_sem,zE,zA,zL,dA];refine (h1 _).q ?_;simp only[go_sem,zE,zA,zL,aQ];refine (h2 _).q ?_;simp only[go_sem,zE,zA,zL,aO];refine (h3 _).q ?_;simp only[go_sem,zE,zA,aN,dA,i3.len,aa.len];intros;refine dj sub.length (λk fr st' ds=>fr 2=.box [.raw (.int .u8 rule),.sl tl xl,.sl tr xr,.raw (.int .u8 op),fn,.sl ta xa,.sl tb xb,v,un,.sl tu xu,n,.sl ts xs] /\
  fr 3=.box [.raw (.int .u8 rule),.sl U O,.sl tr2 J,.raw (.int .u8 aH),aV,.sl aE ao,.sl aC am,v2,au,.sl aw ag,n,.sl ay ai]/\fr 5=.iv (.raw (.int .i64 k))/\st'=st/\ds=[]) ?_ ?_ ?_
 ·simp only[go_sem,zE];rfl
 ·rintro k fr aG _ E ⟨f2,f3,f5,rfl,rfl⟩;obtain⟨a,ha⟩:=dB E;have af:=lMg ha;obtain⟨z,aT,ab⟩:=i3.get ha;obtain⟨z2,ae,A⟩:=aa.get ha;have G:=λst=>IH a af z z2 ab A (by have:=oK af;omega) st;obtain⟨D,aB,al,aA,ak,aI,aW,aF,aq,aD,an,v',av,ax,ah,n',az,aj,rfl⟩:=eT ab;obtain⟨D,aB,al,aA,ak,aI,aW,aF,aq,aD,an,v',av,ax,ah,n',az,aj,rfl⟩:=eT A;simp only[go_sem,zE,zB,zA,f2,f3,f5,i3.len,lt_i E,dz e3,dz aX,iNn,aT,ae,fits];intros;refine (G _).q ?_;simp only[go_sem,zE,f2,f3,f5,dC E (by omega)]
 ·rintro fr aG _ ⟨f2,f3,f5,rfl,rfl⟩;simp only[go_sem,zE,f2,f5,i3.len,dF (nLi _)];intros;exact c_ ⟨rfl,rfl⟩
def HT:∀(k:Nat)(t:Tr),SizeOf.sizeOf t<k->vE gl t
 | 0,t,h=>by omega
 | k+1,.mk r sq f u n sub,h=>QW gl r sq f u n sub (λa A=>HT k a (by
   have:=lSm A;simp at h;omega))
def HU (t:Tr):vE gl t:=HT gl _ t (ew _)
set_option maxRecDepth 8000
def QX {r:Nat}(J:r<256){s:Sq}{m:Fm}{sub:List Tr}{t G t1 t2 ts:Tag}{A ys E D zs:List IV}{o:Int}{n:ByteArray}(h1:IsSq s (.agg [.sl t A,.sl G ys]))(h2:IsFm m (.agg [.raw (.int .u8 o),n,.sl t1 E,.sl t2 D]))(h3:okEs ts 12)(U:IsTrs sub zs) :
  IsTr (.mk r s m tmZ noN sub) (.agg [.raw (.int .u8 (r:Int)),.sl t A,.sl G ys,.raw (.int .u8 o),n,.sl t1 E,.sl t2 D,false,.raw (.string ⟨#[]⟩),nlS,.raw (.string ⟨#[]⟩),.sl ts zs]):=by
 obtain⟨a1,b1,a2,b2,O,e1,i1,e2,i2⟩:=h1;cases O;exact⟨_,_,_,_,_,_,_,_,_,_,_,_,_,_,_,_,rfl,J,e1,i1,e2,i2,h2,oV,h3,U⟩
def Az {t A:Tr}{x:IV}(J:IsTr t x)(hs:t.steps<=200){h:Nat}{m:Nat×Fm×List Sn}(O:m.1<256)(hm:m.2.2.length<=100)(D:hCk 2 t=([],0)){p:List Nat}(G:e_ t=[p])(hh:0<h)
  (hF:∀st,ICall prog gl 45 [.raw (.int .u8 ((2:Nat):Int)),x] st (λr st'=>sD 2 t h m r/\st'=st)) (n:Nat) (hv:visF (folF m) n t true p=some A) (st:ISt) :
  ICall prog gl 28 [.raw (.int .u8 ((2:Nat):Int)),x] st (λr st'=>(∃z,IsTr A z/\r=.tup [z,(0:Int)])/\st'=st):=by
 refine (HP gl 2 t A x J (by omega) h m O hF n (λq U _ E=>by rw[G] at E;cases E;exact⟨by omega,hv⟩) st).mono ?_;rintro r st' ⟨⟨h0,_⟩|⟨_,h0,_⟩|⟨_,h0⟩|⟨_,_,h0⟩,h1⟩
 ·rw[D] at h0;exact absurd rfl h0
 ·rw[G] at h0;cases h0
 ·omega
 ·exact⟨h0,h1⟩
def skK:Nat->Tr
 | 0=>goalT sM
 | 1=>sk1
 | 2=>sk2
 | _=>sk3
def QY (G:Gl gl)(T:Gt gl)(A:∀g x,gl g=some x->age x=x)(k:Nat)(J:k<3)(x:IV)(D:IsTr (skK k) x)(st:ISt) :
  ICall prog gl 28 [.raw (.int .u8 ((2:Nat):Int)),x] st (λr st'=>(∃z,IsTr (skK (k+1)) z/\r=.tup [z,(0:Int)])/\st'=st):=by
 rcases (show k=0\/k=1\/k=2 by omega) with rfl|rfl|rfl
 ·exact Az gl D (by decide) (m:=mv1) (by decide) (by decide) ckM (p:=[]) rfl (by decide) (λst=>sH gl G T A (.inr rfl) D (by decide) (by decide) (p:=[]) rfl rfl hvM sd2 (jl (by decide)) mv1 (λ_ y st E=>QS gl G T y st E) st) 3 (by kernel_rfl) st
 ·exact Az gl D (by decide) (m:=mv2) (by decide) (by decide) ck1 (p:=[0]) rfl (by decide) (λst=>sH gl G T A (.inr rfl) D (by decide) (by decide) (p:=[0]) rfl rfl hvQ sd3 (jl (by decide)) mv2 (λ_ y st E=>QT gl G T y st E) st) 4 (by kernel_rfl) st
 ·exact Az gl D (by decide) (m:=mv3) (by decide) (by decide) ck2 (p:=[0,0]) rfl (by decide) (λst=>sH gl G T A (.inr rfl) D (by decide) (by decide) (p:=[0,0]) rfl rfl hvA sd4 (jl (by decide)) mv3 (λ_ y st E=>QV gl G T y st E) st) 5 (by kernel_rfl) st
def QZ (G:Gl gl)(T:Gt gl)(D:∀g x,gl g=some x->age x=x)(x:IV)(E:IsTr sk3 x)(st:ISt) :
  ICall prog gl 28 [.raw (.int .u8 ((2:Nat):Int)),x] st (λr st'=>r=.tup [.agg z12,(271:Int)]/\st'=st):=by
 have A:e_ sk3=[]:=rfl;refine (HP gl 2 sk3 sk3 x E (by decide) 1 mv3 (by decide) (λst=>Hc gl G T D 2 sk3 x E (vA (by decide) (by decide)) (by decide) 1 mv3 (λp ps _ h=>by rw[A] at h;cases h) (λp ps _ _ h=>by rw[A] at h;cases h) st) 0 (λq O _ J=>by rw[A] at J;cases J) st).mono ?_;rintro r st' ⟨⟨h0,_⟩|⟨_,_,h0⟩|⟨_,h0⟩|⟨_,h0,_⟩,h1⟩
 ·rw[ck3] at h0;exact absurd rfl h0
 ·exact⟨h0,h1⟩
 ·omega
 ·exact absurd A h0
def ckS3:gS 2 sk3=([],0):=by
 have c1:fP 2 sk3=0:=sG (s:=([],[mnF])) hvM rfl fmM (m:=mv1) (by rw[mvM];exact .tail _ (.head _)) rfl;have c2:fP 2 (.mk 10 sQ qqF tmZ noN [.mk 1 sA faQ tmZ noN []])=0:=sG (s:=([],[qqF])) hvQ rfl fmQ (m:=mv2) (by rw[mvQ];exact .head _) rfl;have c3:fP 2 (.mk 1 sA faQ tmZ noN [])=0:=(GL (.inr rfl) (s:=([faQ],[faQ])) hvA (λf D=>by rw[dZ.1 D];kernel_rfl) (by simp[axF])).1;have e:gS 2 sk3=eV (fP 2) (sk3.walk []):=by
  unfold gS;rw[show gv 2=true from rfl];simp only[mw,bFt,dI];rw[a_ (by decide)]
 rw[e];refine Am λq A=>?_;simp only[Tr.walk,ek,eo,eY,dN,ga,fe] at A;rcases A with rfl|rfl|rfl
 ·exact c1
 ·exact c2
 ·exact c3
def lW (s:Sq):Nat×Nat:=if wFms s.r=wFms [faP] then (0,0) else (3,0)
def Q0 (G:Gl gl)(T:Gt gl)(E:∀g x,gl g=some x->age x=x)(st:ISt):ICall prog gl 6 [] st (λr st'=>r=true/\st'=st):=by
 have hO:=Ay (sr sO (by decide));have aA:=λst=>HS gl 1 (goalT sO) _ hO 3 mv4 4 (λ_ _ _ _=>rfl) (λ_ st=>sH gl G T E (.inl rfl) hO (by decide) (by decide) (p:=[]) rfl rfl awv2 aw2 (jl (by decide)) mv4 (λ_ y st hy=>QU gl G T y st hy) st) st;have az:=λst=>HS gl 2 (goalT sO) _ hO 0 mv4 4 (λ_ h _ _=>absurd h (by decide)) (λ_ st=>sH gl G T E (.inr rfl) hO (by decide) (by decide) (p:=[]) rfl rfl awv3 aw3 (jl (by decide)) mv4 (λh=>absurd h (by decide)) st) st;have aj:IsTr skW _:=QX (r:=8) (ts:=⟨true,.full,12⟩) (by decide) (sr sM (by decide)) (xR mnF (by decide)) (.inr rfl) ⟨_,[],rfl,Ay (sr sP (by decide)),rfl⟩;have au:sE lW 2 skW=([],0):=by unfold sE;rw[ckW];kernel_rfl
 have ac:=λst=>QH gl G T E lW 2 skW _ aj (vA (by decide) (by decide)) (by decide) (λz U y st hy=>by
  have U:z=skW\/z=goalT sP:=by
   rw[show Af skW=[skW,goalT sP] from rfl] at U;simpa using U
  rcases U with rfl|rfl
  ·rw[show lW skW.sq=(3,0) by kernel_rfl];exact oQ gl G T 2 sM (.inr rfl) hvM sd2 y hy (jl (by decide)) st
  ·rw[show lW (goalT sP).sq=(0,0) by kernel_rfl];exact oQ gl G T 2 sP (.inr rfl) hvP sd1 y hy (jl (by decide)) st) st
 rw[au] at ac;have av:=λst=>QI gl 2 skW (goalT sM) _ aj [] (by decide) 0 (λst=>(ac st).mono λr st' ⟨a,b⟩=>⟨.inr ⟨rfl,a⟩,b⟩) 3 (λ_=>by kernel_rfl) st;refine ICall.intro (c:=cf prog gl [] [(9,[0,1,2,3,7,4,5,6,8]),(10,[0,1,2,5,6,12,3,4,7,8,9,10,11,13])]) func6 rfl (by show _<=179;simp) (by kernel_rfl) ?_;simp only[go_sem,zA,zL,pF]
 repeat ((first|refine (k_p gl _ _).mono ?_|refine (k_of gl _ _ _ _).mono ?_|refine (k_fs gl _ _ _).mono ?_|refine (k_sq gl _ _ _ _ _).mono ?_|refine (vC gl _ _ _ _ _).mono ?_|refine (vD gl _ _ _ _ _ _ _ _ _ _ _ _ _ _).mono ?_);rintro _ st ⟨rfl,rfl⟩;simp only[go_sem,zE,zA,zM,zL,fits,dW,kK,pF,gI])
 refine (aA _).mono ?_;rintro r st ⟨hr,rfl⟩;obtain⟨D,O,o,n,t1,x1,t2,x2,t3,x3,hm,rfl⟩:∃D,okEs D 1/\∃o n t1 x1 t2 x2 t3 x3,gT mv4 (.agg [.raw (.int .u8 ((8:Nat):Int)),.raw (.int .u8 o),.raw (.string n),.sl t1 x1,.sl t2 x2,.sl t3 x3]) /\
   r=.tup [.agg [.sl D [],((3:Nat):Int),true,.raw (.int .u8 o),.raw (.string n),.sl t1 x1,.sl t2 x2,.raw (.int .u8 ((8:Nat):Int)),.sl t3 x3],(0:Int)]:=by
  rcases hr with⟨h,_⟩|⟨_,⟨h,_⟩|⟨_,h,_⟩|⟨_,p,ps,D,ab,O,⟨h,_⟩|⟨_,o,n,t1,x1,t2,x2,t3,x3,hm,rfl⟩⟩⟩
  ·omega
  ·rw[ckO1] at h;exact absurd rfl h
  ·cases h
  ·cases h
  ·cases ab;exact⟨D,O,o,n,t1,x1,t2,x2,t3,x3,hm,rfl⟩
 simp only[go_sem,zE,zA,zL];refine (az _).mono ?_;rintro r st ⟨hr,rfl⟩;obtain⟨aS,aI,rfl⟩:∃D,okEs D 1/\r=.tup [.agg (.sl D []::advZ.tail),(272:Int)]:=by
  rcases hr with⟨h,_⟩|⟨_,⟨h,_⟩|⟨_,h,_⟩|⟨_,p,ps,D,ab,O,⟨_,rfl⟩|⟨h,_⟩⟩⟩
  ·omega
  ·rw[ckO2] at h;exact absurd rfl h
  ·cases h
  ·cases ab;exact⟨D,O,rfl⟩
  ·omega
 obtain⟨o',n',q1,z1,q2,z2,q3,z3,he,hf,e3,h3⟩:=hm;cases he;have hp1:IsSqs [⟨[],[faP,fno faP,orP]⟩] [sI ⟨[],[faP,fno faP,orP]⟩]:=⟨_,_,rfl,sr _ (by decide),rfl⟩
 have ay:=λst=>yk gl orP orP _ _ hf (xR orP (by decide)) st;have ax:=λst=>Pk gl _ _ t3 ⟨true,.full,2⟩ x3 [sI ⟨[],[faP,fno faP,orP]⟩] e3 (by simp[okEs]) (GG h3) hp1 st;simp only[go_sem,zE,zA,zL,show advZ.tail=[.raw (.int .i64 0),.raw (.bool false),.raw (.int .u8 0),.raw (.string ⟨#[]⟩),nlS,nlS,.raw (.int .u8 0),nlS] from rfl,dA,show decide (((3:Nat):Int)=3)=true from rfl,show decide (((8:Nat):Int)=8)=true from rfl,show decide (((0:Nat):Int)=0)=true from rfl];refine (ay _).q ?_;have hq:eqB orP orP=true:=yQx.2 rfl;simp only[go_sem,zE,zA,zM,zL,fits,hq,Pm]
 repeat ((first|refine (k_p gl _ _).mono ?_|refine (k_of gl _ _ _ _).mono ?_|refine (k_fs gl _ _ _).mono ?_|refine (k_sq gl _ _ _ _ _).mono ?_|refine (vC gl _ _ _ _ _).mono ?_|refine (vD gl _ _ _ _ _ _ _ _ _ _ _ _ _ _).mono ?_);rintro _ st ⟨rfl,rfl⟩;simp only[go_sem,zE,zA,zM,zL,fits,dW])
 refine (ax _).q ?_;have an:eqB ([⟨[],[faP,fno faP,orP]⟩]:List Sq) [⟨[],[faP,fno faP,orP]⟩]=true:=yQx.2 rfl;simp only[go_sem,zE,zA,zM,zL,fits,an,kK]
 repeat ((first|refine (k_p gl _ _).mono ?_|refine (k_of gl _ _ _ _).mono ?_|refine (k_fs gl _ _ _).mono ?_|refine (k_sq gl _ _ _ _ _).mono ?_|refine (vC gl _ _ _ _ _).mono ?_|refine (vD gl _ _ _ _ _ _ _ _ _ _ _ _ _ _).mono ?_);rintro _ st ⟨rfl,rfl⟩;simp only[go_sem,zE,zA,zM,zL,fits,dW,kK,gI])
 refine (ac _).mono ?_;rintro r st ⟨hr,rfl⟩;obtain⟨aQ,aH,rfl⟩:∃D,okEs D 1/\r=.tup [.sl D [],(0:Int)]:=hr;simp only[go_sem,zE,zA,zL];refine (av _).mono ?_;rintro r st ⟨hr,rfl⟩;obtain⟨u,hu,rfl⟩:∃z,IsTr (goalT sM) z/\r=.tup [z,(0:Int)]:=by
  rcases hr with⟨h,_⟩|⟨_,h⟩
  ·exact absurd rfl h
  ·exact h
 have ah:=hu;obtain⟨r1,a1,b1,a2,b2,o1,n1,a3,b3,a4,b4,v1,n2,a5,b5,n3,a6,b6,rfl⟩:=eT hu;have aw:=λst=>HU gl (goalT sM) _ _ ah (Ay (sr sM (by decide))) (by decide) st;simp only[go_sem,zE,zA,zM,zL,fits,dA,show decide (((0:Nat):Int)=0)=true from rfl,dW]
 repeat ((first|refine (k_p gl _ _).mono ?_|refine (k_of gl _ _ _ _).mono ?_|refine (k_fs gl _ _ _).mono ?_|refine (k_sq gl _ _ _ _ _).mono ?_|refine (vC gl _ _ _ _ _).mono ?_|refine (vD gl _ _ _ _ _ _ _ _ _ _ _ _ _ _).mono ?_);rintro _ st ⟨rfl,rfl⟩;simp only[go_sem,zE,zA,gI])
 refine (aw _).q ?_;simp only[go_sem,zE];refine dj 3 (λk fr st' ds=>(∃c,fr 14=.box c/\IsTr (skK k) (.agg c))/\st'=st/\fr 16=(k:Int)/\ds=[]) ?_ ?_ ?_
 ·simp only[go_sem,zE];exact⟨⟨_,rfl,ah⟩,rfl⟩
 ·rintro k fr J _ ai ⟨⟨c,f14,hc⟩,rfl,f16,rfl⟩;have aq:=λst=>QY gl G T E k ai _ hc st;obtain⟨r1,a1,b1,a2,b2,o1,n1,a3,b3,a4,b4,v1,n2,a5,b5,n3,a6,b6,A⟩:=eT hc;injection A with A;subst A;simp only[go_sem,zE,zA,zL,f14,f16,show decide ((k:Int)<3)=true from dEt (by omega)];refine (aq _).mono ?_;rintro _ J ⟨⟨z,U,rfl⟩,rfl⟩;have am:=U;obtain⟨r2,c1,e1,c2,e2,o2,m1,c3,aY,c4,e4,v2,m2,c5,e5,m3,c6,e6,rfl⟩:=eT U;simp only[go_sem,zE,zA,zL,f14,f16,dA,dC ai (by omega)];exact⟨_,rfl,am⟩
 ·rintro fr J _ ⟨⟨c,f14,hc⟩,rfl,f16,rfl⟩;have hC:=λst=>GS gl G T 2 sk3 _ hc (vA (by decide) (by decide)) st;have aB:=λst=>QZ gl G T E _ hc st;obtain⟨a1,b1,a2,b2,o1,n1,a3,b3,a4,b4,v1,n2,a5,b5,a6,b6,A,_⟩:=IsTr.mk hc;injection A with A;subst A;rw[ckS3] at hC;simp only[go_sem,zE,zA,zL,f14,f16,show decide (((3:Nat):Int)<3)=false from rfl];refine (hC _).mono ?_;rintro _ J ⟨⟨D,rfl,_⟩,rfl⟩;simp only[go_sem,zE,zA,zL,f14];refine (aB _).q ?_;simp only[go_sem,zE,zA,zL,f14,dA,show decide (((0:Nat):Int)=0)=true from rfl,show decide (((18:Nat):Int)=18)=true from rfl];exact c_ ⟨rfl,rfl⟩
