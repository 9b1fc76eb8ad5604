/- Walks: mapTerm, copyTerm. -/
import Derived.Test.YtopmhkmegkpkdaaGreatDoorJP
set_option linter.all false
open Nat renaming reduceEqDiff → zE,reduceBEq → zB,reduceAdd → zA,reduceMul → zM,reduceLeDiff → zL
namespace Go.Proofs.Tryz
open Go Go.Iv
set_option maxRecDepth 4000
variable (gl:Nat->Option IV)
mutual
def jL (F:ByteArray->Option Tm):Tm->Tm
 | .mk true n l=>match F n with
  | some u=>u
  | none=>.mk true n (hZ F l)
 | .mk false n l=>.mk false n (hZ F l)
def hZ (F:ByteArray->Option Tm):List Tm->List Tm
 | []=>[]
 | a::l=>jL F a::hZ F l
end
def s_ (F:ByteArray->Option Tm):∀(l m:List Tm),hZ F (l++m)=hZ F l++hZ F m
 | [],m=>by simp[hZ]
 | a::l,m=>by simp only[dX,hZ,s_ F l m]
def nT (F:ByteArray->Option Tm):∀(l:List Tm),(hZ F l).length=l.length
 | []=>rfl
 | a::l=>by simp only[hZ,eG,nT F l]
mutual
def B8:∀t:Tm,jL (λ_=>none) t=t
 | .mk true n l=>by simp only[jL,wy l]
 | .mk false n l=>by simp only[jL,wy l]
def wy:∀l:List Tm,hZ (λ_=>none) l=l
 | []=>rfl
 | a::l=>by simp only[hZ,B8 a,wy l]
end
def wz (F:ByteArray->Option Tm)(nm:ByteArray)(st:ISt)(r:IV)(st':ISt):Prop:=st'=st/\∃u x,IsTm u x/\r=.tup [x,.raw (.bool (F nm).isSome)]/\∀w,F nm=some w->w=u
def MOk (y:IV)(F:ByteArray->Option Tm)(A:ISt):Prop:=∀nm st,subSt A st->ICallV prog gl y [.raw (.string nm)] st (wz F nm st)
def Kf (nm:ByteArray)(st:ISt):ICall prog gl 316 [nm] st (wz (λ_=>none) nm st):=by
 refine iI func316 ?_;simp only[go_sem,zE,zA,zL];refine cO ⟨rfl,.mk false ⟨#[]⟩ [],_,?_,rfl,λw h=>by cases h⟩;exact⟨_,[],rfl,by simp only[go_sem],rfl⟩
def mv:∀l:List Tm,l.length<=dN l
 | []=>dz _
 | a::l=>by have:=mv l;have:=a.size_pos;simp only[eG,dN];omega
def CP (F:ByteArray->Option Tm):Prop:=∀nm u x st,F nm=some u->IsTm u x->ICall prog gl 300 [x] st (λr st'=>IsTmD u r/\st'=st)
def MT (F:ByteArray->Option Tm)(t:Tm):Prop:=∀(x:IV) (_:IsTm t x) (_:t.size<=1099511627776) (g:Fn) (D ca:List IV) (_:fnOk g=true) (_:∀i,g=.func i->entI prog i=true) (A:ISt) (_:MOk gl (.fn g D ca) F A) (st:ISt) (_:subSt A st),
  ICall prog gl 285 [x,.fn g D ca] st (λr st'=>IsTmD (jL F t) r/\st'=st)
def B9 (st:ISt)(k:Nat)(A:Tag)(st':ISt):Prop:=(k=0/\A.cap=.nil/\st'=st)\/(0<k/\∃g,A=⟨true,.app g,3⟩/\st g=none/\st'=st.put g (some (.front k 3)))
def Kg (F:ByteArray->Option Tm)(aH:CP gl F)(v:Bool)(n:ByteArray)(us:List Tm)(IH:∀a∈us,MT gl F a):MT gl F (.mk v n us):=by
 intro x hx aF g fi ca ax ai ak hy st aa;obtain⟨tg,xs,rfl,au,am⟩:=hx.mk;have aB:=hy n st aa;simp only[Tm.size] at aF;have aK:=mv us;refine iI func285 ?_;cases v
 ·simp only[go_sem,zE,zA,zL,am.len,fits];intro av;refine cV us.length (λk fr st' ds=>(∃A ys,fr 7=.box [.raw (.bool false),.raw (.string n),.sl A ys]/\IsTmsD (hZ F (us.take k)) ys/\B9 st k A st')/\fr 4=.box [.raw (.bool false),.raw (.string ⟨#[]⟩),.sl ⟨true,.nil,0⟩ []]/\fr 1=.iv (.fn g fi ca)/\fr 28=.iv (.sl tg xs)/\fr 29=.iv (.raw (.int .i64 us.length))/\fr 30=.iv (.raw (.int .i64 k))/\ds=[]) ?_ ?_ ?_
  ·simp only[go_sem,zE];exact⟨⟨_,_,rfl,IsTmsD.nil,.inl ⟨rfl,rfl,rfl⟩⟩,rfl⟩
  ·rintro k fr ab _ af ⟨⟨A,ys,f7,hys,D⟩,f4,f1,f28,f29,f30,rfl⟩;obtain⟨a,ha⟩:=dd af;obtain⟨x,ao,hx⟩:=am.get ha;obtain⟨h1,h2⟩:=mr ha;have ac:subSt ak ab:=by
    rcases D with⟨_,_,rfl⟩|⟨_,g,_,W,rfl⟩
    ·exact aa
    ·exact aa.trans (fj W)
   have U:=IH a (lMg ha) x hx (by omega) g fi ca ax ai ak hy ab ac;have O:ys.length=k:=by rw[hys.len,nT,dO];omega
   have E:∀r,IsTmD (jL F a) r->IsTmsD (hZ F (us.take (k+1))) (ys++[r]):=λr hr=>by
    rw[dK ha,s_];exact hys.append (IsTmsD.one hr)
   obtain⟨v2,n2,m⟩:=a;obtain⟨tx,cx,rfl,aE,aG⟩:=hx.mk;simp only[go_sem,zE,zB,zA,zL,f1,f7,f28,f29,f30,lt_i af,dc au,iNn,ao,fits];refine U.mono ?_;rintro r _ ⟨hr,rfl⟩;have hn:=E r hr;clear E U;generalize jL F (.mk v2 n2 m)=w at hr;obtain⟨v3,n3,m3⟩:=w;obtain⟨t3,x3,rfl,_⟩:=hr.mk;rcases D with⟨rfl,hc,rfl⟩|⟨hk,g0,rfl,ag,rfl⟩
   ·obtain⟨tf,tc,te⟩:=A;simp only at hc;subst hc;obtain rfl:ys=[]:=eN O;simp only[go_sem,zE,zA,zM,zL,f1,f4,f7,f28,f29,f30,fits];refine gv rfl λg'=>eB λW=>⟨⟨_,_,rfl,hn,.inr ⟨Nat.one_pos,g',rfl,W,rfl⟩⟩,?_⟩
    rfl
   ·simp only[go_sem,zE,zA,zM,zL,f1,f4,f7,f28,f29,f30,fits,cT,O];refine gv rfl (gv ⟨by omega,by omega⟩ λg'=>eB λW=>⟨⟨_,_,rfl,hn,.inr ⟨Nat.succ_pos _,g',rfl,?_,?_⟩⟩,?_⟩)
    ·rcases W with rfl|W
     ·exact ag
     ·by_cases ah:g'=g0
      ·rw[ah];exact ag
      ·rw[de ah] at W;exact W
    ·rw[eZ,lj ag]
    ·rw[df af (by omega)]
  ·rintro fr ab _ ⟨⟨A,ys,f7,hys,D⟩,f4,f1,f28,f29,f30,rfl⟩;rw[lTl] at hys;have aq:okEs A 3:=by
    rcases D with⟨_,h,_⟩|⟨_,g,rfl,_⟩
    ·exact .inl h
    ·exact .inr rfl
   have ar:appT us.length A:=by
    rcases D with⟨_,h,_⟩|⟨hk,g,rfl,_⟩
    ·exact .inl h
    ·exact .inr ⟨hk,rfl,g,rfl⟩
   simp only[go_sem,zE,zA,zL,f4,f7,f29,f30,dD (nLi _)];refine dZ (st':=st) ?_ ⟨?_,rfl⟩
   ·rcases D with⟨_,_,rfl⟩|⟨_,g,_,W,rfl⟩
    ·exact subSt.refl _
    ·exact fj W
   ·exact IsTmD.intro aq (ar.to (nT ..)) hys
 ·simp only[go_sem,zE];refine pQ ai (aB.mono ?_);rintro _ st ⟨rfl,u,x,hu,rfl,hF⟩;cases hn:F n with
  | some w =>
   obtain rfl:=hF w hn;have hc:=aH n w x st hn hu;simp only[jL,hn];obtain⟨v3,n3,m3⟩:=w;obtain⟨t3,x3,rfl,_⟩:=hu.mk;simp only[go_sem,zE,zA,zL,Option.isSome_some];refine hc.mono ?_;rintro r _ ⟨hr,rfl⟩;generalize hw:Tm.mk v3 n3 m3=w at hr ⊢;obtain⟨v4,n4,m4⟩:=w;obtain⟨t4,x4,rfl,_⟩:=hr.mk;simp only[go_sem,zE,zA,zL];exact cO ⟨hr,rfl⟩
  | none =>
   simp only[jL,hn];obtain⟨v3,n3,m3⟩:=u;obtain⟨t3,x3,rfl,_⟩:=hu.mk;simp only[go_sem,zE,zA,zL,fits,am.len,ju];intro av;refine cV us.length (λk fr st' ds=>(∃A ys,fr 7=.box [.raw (.bool true),.raw (.string n),.sl A ys]/\IsTmsD (hZ F (us.take k)) ys/\B9 st k A st')/\fr 4=.box [.raw (.bool false),.raw (.string ⟨#[]⟩),.sl ⟨true,.nil,0⟩ []]/\fr 1=.iv (.fn g fi ca)/\fr 28=.iv (.sl tg xs)/\fr 29=.iv (.raw (.int .i64 us.length))/\fr 30=.iv (.raw (.int .i64 k))/\ds=[]) ?_ ?_ ?_
   ·simp only[go_sem,zE];exact⟨⟨_,_,rfl,IsTmsD.nil,.inl ⟨rfl,rfl,rfl⟩⟩,rfl⟩
   ·rintro k fr ab _ af ⟨⟨A,ys,f7,hys,D⟩,f4,f1,f28,f29,f30,rfl⟩;obtain⟨a,ha⟩:=dd af;obtain⟨x,ao,hx⟩:=am.get ha;obtain⟨h1,h2⟩:=mr ha;have ac:subSt ak ab:=by
     rcases D with⟨_,_,rfl⟩|⟨_,g,_,W,rfl⟩
     ·exact aa
     ·exact aa.trans (fj W)
    have U:=IH a (lMg ha) x hx (by omega) g fi ca ax ai ak hy ab ac;have O:ys.length=k:=by rw[hys.len,nT,dO];omega
    have E:∀r,IsTmD (jL F a) r->IsTmsD (hZ F (us.take (k+1))) (ys++[r]):=λr hr=>by
     rw[dK ha,s_];exact hys.append (IsTmsD.one hr)
    obtain⟨v2,n2,m⟩:=a;obtain⟨tx,cx,rfl,aE,aG⟩:=hx.mk;simp only[go_sem,zE,zB,zA,zL,f1,f7,f28,f29,f30,lt_i af,dc au,iNn,ao,fits];refine U.mono ?_;rintro r _ ⟨hr,rfl⟩;have hn:=E r hr;clear E U;generalize jL F (.mk v2 n2 m)=w at hr;obtain⟨v3,n3,m3⟩:=w;obtain⟨t3,x3,rfl,_⟩:=hr.mk;rcases D with⟨rfl,hc,rfl⟩|⟨hk,g0,rfl,ag,rfl⟩
    ·obtain⟨tf,tc,te⟩:=A;simp only at hc;subst hc;obtain rfl:ys=[]:=eN O;simp only[go_sem,zE,zA,zM,zL,f1,f4,f7,f28,f29,f30,fits];refine gv rfl λg'=>eB λW=>⟨⟨_,_,rfl,hn,.inr ⟨Nat.one_pos,g',rfl,W,rfl⟩⟩,?_⟩
     rfl
    ·simp only[go_sem,zE,zA,zM,zL,f1,f4,f7,f28,f29,f30,fits,cT,O];refine gv rfl (gv ⟨by omega,by omega⟩ λg'=>eB λW=>⟨⟨_,_,rfl,hn,.inr ⟨Nat.succ_pos _,g',rfl,?_,?_⟩⟩,?_⟩)
     ·rcases W with rfl|W
      ·exact ag
      ·by_cases ah:g'=g0
       ·rw[ah];exact ag
       ·rw[de ah] at W;exact W
     ·rw[eZ,lj ag]
     ·rw[df af (by omega)]
   ·rintro fr ab _ ⟨⟨A,ys,f7,hys,D⟩,f4,f1,f28,f29,f30,rfl⟩;rw[lTl] at hys;have aq:okEs A 3:=by
     rcases D with⟨_,h,_⟩|⟨_,g,rfl,_⟩
     ·exact .inl h
     ·exact .inr rfl
    have ar:appT us.length A:=by
     rcases D with⟨_,h,_⟩|⟨hk,g,rfl,_⟩
     ·exact .inl h
     ·exact .inr ⟨hk,rfl,g,rfl⟩
    simp only[go_sem,zE,zA,zL,f4,f7,f29,f30,dD (nLi _)];refine dZ (st':=st) ?_ ⟨?_,rfl⟩
    ·rcases D with⟨_,_,rfl⟩|⟨_,g,_,W,rfl⟩
     ·exact subSt.refl _
     ·exact fj W
    ·exact IsTmD.intro aq (ar.to (nT ..)) hys
def wA (F:ByteArray->Option Tm)(A:CP gl F):∀(k:Nat) (t:Tm),SizeOf.sizeOf t<k->MT gl F t
 | 0,f,h=>by omega
 | k+1,.mk v n us,h=>Kg gl F A v n us (λa D=>wA F A k a (by
   have:=lSm D;simp at h;omega))
def Kh (t:Tm)(x:IV)(hx:IsTm t x)(W:t.size<=1099511627776)(st:ISt) :
  ICall prog gl 300 [x] st (λr st'=>IsTmD t r/\st'=st):=by
 have A:=λst=>wA gl (λ_=>none) (λ_ _ _ _ h=>by cases h) _ t (dM _) x hx W (.func 316) [] [] rfl (λi hi=>by cases hi;simp only[go_sem]) st
  (λnm st _=>lR (by simp only[go_sem]) (Kf gl nm st)) st (subSt.refl _)
 rw[B8] at A;obtain⟨v,n,us⟩:=t;obtain⟨U,O,rfl,_⟩:=hx.mk;refine iI func300 ?_;simp only[go_sem,zE,zA,zL];refine (A _).mono ?_;rintro r _ ⟨E,rfl⟩;have D:=E;obtain⟨U,O,rfl,_⟩:=E.mk;simp only[go_sem,zE,zA,zL];exact cO ⟨D,rfl⟩
def Ki (F:ByteArray->Option Tm)(A:∀nm u,F nm=some u->u.size<=1099511627776)(t:Tm):MT gl F t :=
 wA gl F (λnm u x st h hx=>Kh gl u x hx (A nm u h) st) _ t (dM _)
def kT (nm:ByteArray)(v:Bool)(n:ByteArray)(D:Tag)(A:List IV)(m:Nat)(t:Tm):IV :=
 .agg [nm,v,n,.sl D A,.raw (.map (some m)),t.size,t.deep]
def B_ (nm:ByteArray)(v:Bool)(n:ByteArray)(us:List Tm)(tg:Tag)(xs:List IV)(hx:IsTm (.mk v n us) (.agg [v,n,.sl tg xs]))(hs:(Tm.mk v n us).size<=1099511627776)(st:ISt) :
  ICall prog gl 257 [.agg [nm,v,n,.sl tg xs]] st
   (λr st'=>∃m,st m=none/\r=kT nm v n tg xs m (.mk v n us)/\st'=st.put m (some (.map .str (setE (fK (.mk v n us)))))):=by
 have E:=λst=>JR gl (.mk v n us) _ hx st;have ae:=λst=>wt gl 297 [.cptr (.agg [v,n,.sl tg xs])] (fK (.mk v n us)) st (by simp only[go_sem]) (λI=>JS gl _ _ hx I);have U:∀t,okEs t 3->IsFm (.mk 0 ⟨#[]⟩ [.mk v n us] []) (.agg [.raw (.int .u8 0),.raw (.string ⟨#[]⟩),.sl t [.agg [v,n,.sl tg xs]],()]) :=
  λt ht=>⟨_,_,_,_,rfl,by omega,ht,IsTms.one hx,by simp only[go_sem],rfl⟩
 have O:(Fm.mk 0 ⟨#[]⟩ [.mk v n us] []).size=(Tm.mk v n us).size+1:=by simp[Fm.size,dN,dt]
 have W:(Fm.mk 0 ⟨#[]⟩ [.mk v n us] []).deep=(Tm.mk v n us).deep+1:=by simp[Fm.deep,eE,eU]
 have ai:=Tm.deep_le (.mk v n us);have A:=λt ht st=>Ke gl _ _ (U t ht) (by rw[O];omega) st;have D:=λt ht st=>J4 gl _ _ (U t ht) (by rw[W];omega) st;rw[O] at A;rw[W] at D;clear O W U;have ag:IntKind.i64.wrap ((((Tm.mk v n us).size+1:Nat):Int)-1)=(((Tm.mk v n us).size:Nat):Int):=by rw[w64]<;>omega
 have af:IntKind.i64.wrap ((((Tm.mk v n us).deep+1:Nat):Int)-1)=(((Tm.mk v n us).deep:Nat):Int):=by rw[w64]<;>omega
 unfold kT;generalize (Tm.mk v n us).size=a at *;generalize (Tm.mk v n us).deep=d at *;generalize fK (.mk v n us)=l at *;refine ICall.intro (c:=cf prog gl [] [(2,[0,1,2,5,8,3,4,6,7,9,10,11,12])]) func257 rfl (by show _<=20;simp) (by kernel_rfl) ?_;simp only[go_sem,zE,zA,zM,zL,fits];refine gv rfl ((E _).mono ?_);rintro _ st ⟨rfl,rfl⟩;simp only[go_sem,zA];refine (ae _).mono ?_;rintro _ st' ⟨m,hm,rfl,rfl⟩;simp only[go_sem,zE,zA];refine (A _ (by simp only[go_sem]) _).q ?_;simp only[go_sem,zE,zA,ag];refine (D _ (by simp only[go_sem]) _).q ?_;simp only[go_sem,zE,zA,zL,fits,af];exact cO ⟨m,hm,rfl,rfl⟩
structure Pc where
 nm:ByteArray
 tm:Tm
 at_:Nat
def IsPc (p:Pc)(x:IV):Prop:=∃v n D A,x=kT p.nm v n D A p.at_ p.tm/\IsTm p.tm (.agg [.raw (.bool v),.raw (.string n),.sl D A])
def IsPcs:List Pc->List IV->Prop
 | [],A=>A=[]
 | a::l,A=>∃y ys,A=y::ys/\IsPc a y/\IsPcs l ys
def IsPcs.len:∀ {l:List Pc}{A:List IV},IsPcs l A->A.length=l.length
 | [],A,h=>by simp only[IsPcs] at h;subst h;rfl
 | a::l,A,h=>by
  simp only[IsPcs] at h;obtain⟨y,ys,rfl,_,h⟩:=h;simp[IsPcs.len h]
def IsPcs.get:∀ {l:List Pc}{D:List IV}{k:Nat}{a:Pc},IsPcs l D->l[k]?=some a->∃x,D[k]?=some x/\IsPc a x
 | [],D,k,a,h,A=>by simp at A
 | b::l,D,k,a,h,A=>by
  simp only[IsPcs] at h;obtain⟨y,ys,rfl,E,h⟩:=h;cases k with
  | zero=>simp at A;subst A;exact⟨y,rfl,E⟩
  | succ k=>simpa using IsPcs.get h (by simpa using A)
def putF (ps:List Pc)(nm:ByteArray):Option Tm:=(ps.find? λp=>decide (p.nm=nm)).map Pc.tm
def Kj {ps:List Pc}{k:Nat}{a:Pc}{q:Pc->Bool}(h:ps[k]?=some a)(D:(ps.take k).find? q=none):ps.find? q=(if q a then some a else (ps.drop (k+1)).find? q):=by
 have A:=(lGs h).1
 conv=>lhs;rw[<- eF k ps,fM A,lD,D,(lGs h).2]
 simp only[Option.none_or,List.find?_cons];cases q a<;>rfl
def Kk (ps:List Pc)(tg:Tag)(xs:List IV)(U:okEs tg 7)(E:IsPcs ps xs)(nm:ByteArray)(st:ISt) :
  ICall prog gl 286 [.sl tg xs,nm] st (wz (putF ps) nm st):=by
 refine iI func286 ?_;simp only[go_sem,reduceCtorEq,E.len];intro ah;refine cV ps.length (λk fr st' ds=>(ps.take k).find? (λp=>decide (p.nm=nm))=none/\fr 1=nm/\fr 4=.box [false,.raw (.string ⟨#[]⟩),()]/\fr 8=.iv (.sl tg xs)/\fr 9=ps.length/\fr 10=.iv (.raw (.int .i64 k))/\st'=st/\ds=[]) ?_ ?_ ?_
 ·simp only[go_sem,zE];exact⟨rfl,rfl⟩
 ·rintro k fr _ _ A ⟨hn,f1,f4,f8,f9,f10,rfl,rfl⟩;obtain⟨a,ha⟩:=dd A;obtain⟨x,D,v,n,ai,ys,rfl,hx⟩:=E.get ha;have ac:=Kj ha hn;unfold kT at D;cases W:decide (a.nm=nm)
  ·simp only[go_sem,zE,zB,zA,zL,f1,f4,f8,f9,f10,lt_i A,dc U,iNn,D,fits,W,df A (by omega)];rw[dK ha,lD,hn];simp[W]
  ·simp only[go_sem,zE,zB,zA,zL,f1,f4,f8,f9,f10,lt_i A,dc U,iNn,D,fits,W];refine cO ⟨rfl,a.tm,_,hx,?_,?_⟩
   ·simp only[putF,ac,W];rfl
   ·intro w O;simp only[putF,ac,W] at O;exact (eK O).symm
 ·rintro fr _ _ ⟨hn,f1,f4,f8,f9,f10,rfl,rfl⟩;rw[lTl] at hn;simp only[go_sem,zE,zA,zL,f4,f9,f10,dD (nLi _)];have aa:putF ps nm=none:=by simp only[putF,hn];rfl
  refine cO ⟨rfl,.mk false ⟨#[]⟩ [],_,?_,by rw[aa];rfl,λw O=>by rw[aa] at O;cases O⟩;exact⟨_,[],rfl,.inl rfl,rfl⟩
