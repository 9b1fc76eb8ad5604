/- Walks: mapTerm, copyTerm. -/
import Derived.Test.YtigeiecfkoimpaaGreatDoorJP
set_option linter.all false
open Nat renaming reduceEqDiff → zE,reduceBEq → zB,reduceAdd → zA,reduceMul → zM,reduceLeDiff → zL
namespace Go.Proofs.Tryz
open Go Go.Iv
set_option maxRecDepth 4000
variable (gl:Nat->Option IV)
mutual
def iV (F:ByteArray->Option Tm):Tm->Tm
 | .mk true n l=>match F n with
  | some u=>u
  | none=>.mk true n (gr F l)
 | .mk false n l=>.mk false n (gr F l)
def gr (F:ByteArray->Option Tm):List Tm->List Tm
 | []=>[]
 | a::l=>iV F a::gr F l
end
def rK (F:ByteArray->Option Tm):∀(l m:List Tm),gr F (l++m)=gr F l++gr F m
 | [],m=>by simp[gr]
 | a::l,m=>by simp only[eu,gr,rK F l m]
def mj (F:ByteArray->Option Tm):∀(l:List Tm),(gr F l).length=l.length
 | []=>rfl
 | a::l=>by simp only[gr,dX,mj F l]
mutual
def CQ:∀t:Tm,iV (λ_=>none) t=t
 | .mk true n l=>by simp only[iV,xI l]
 | .mk false n l=>by simp only[iV,xI l]
def xI:∀l:List Tm,gr (λ_=>none) l=l
 | []=>rfl
 | a::l=>by simp only[gr,CQ a,xI l]
end
def uv (F:ByteArray->Option Tm)(nm:ByteArray)(st:ISt)(r:IV)(st':ISt):Prop:=st'=st/\∃u x,IsTm u x/\r=.tup [x,.raw (.bool (F nm).isSome)]/\∀w,F nm=some w->w=u
def MOk (y:IV)(F:ByteArray->Option Tm)(D:ISt):Prop:=∀nm st,subSt D st->ICallV prog gl y [.raw (.string nm)] st (uv F nm st)
def KN (nm:ByteArray)(st:ISt):ICall prog gl 271 [nm] st (uv (λ_=>none) nm st):=by
 refine iI func271 ?_;simp only[go_sem,zE,zA,zL];refine c_ ⟨rfl,.mk false ⟨#[]⟩ [],_,?_,rfl,λw h=>by cases h⟩;exact⟨_,[],rfl,by simp only[go_sem],rfl⟩
def oJ:∀l:List Tm,l.length<=el l
 | []=>dG _
 | a::l=>by have:=oJ l;have:=a.size_pos;simp only[dX,el];omega
def CP (F:ByteArray->Option Tm):Prop:=∀nm u x st,F nm=some u->IsTm u x->ICall prog gl 247 [x] st (λr st'=>IsTmD u r/\st'=st)
def MT (F:ByteArray->Option Tm)(t:Tm):Prop:=∀(x:IV) (_:IsTm t x) (_:t.size<=1099511627776) (g:Fn) (E ca:List IV) (_:fnOk g=true) (_:∀i,g=.func i->entI prog i=true) (D:ISt) (_:MOk gl (.fn g E ca) F D) (st:ISt) (_:subSt D st),
  ICall prog gl 216 [x,.fn g E ca] st (λr st'=>IsTmD (iV F t) r/\st'=st)
def frontAt (st:ISt)(k:Nat)(D:Tag)(st':ISt):Prop:=(k=0/\D.cap=.nil/\st'=st)\/(0<k/\∃g,D=⟨true,.app g,3⟩/\st g=none/\st'=st.put g (some (.front k 3)))
def KO (F:ByteArray->Option Tm)(aM:CP gl F)(v:Bool)(n:ByteArray)(us:List Tm)(IH:∀a∈us,MT gl F a):MT gl F (.mk v n us):=by
 intro x hx aK g fi ca aA aj al hy st ab;obtain⟨tg,xs,rfl,ax,am⟩:=hx.mk;have aG:=hy n st ab;simp only[Tm.size] at aK;have aO:=oJ us;refine iI func216 ?_;cases v
 ·simp only[go_sem,zE,zA,zL,am.len,fits];intro ay;refine dt us.length (λk fr st' ds=>(∃D ys,fr 7=.box [false,n,.sl D ys]/\IsTmsD (gr F (us.take k)) ys/\frontAt st k D st')/\fr 4=.box [false,.raw (.string ⟨#[]⟩),()]/\fr 1=.iv (.fn g fi ca)/\fr 28=.iv (.sl tg xs)/\fr 29=us.length/\fr 30=.iv (.raw (.int .i64 k))/\ds=[]) ?_ ?_ ?_
  ·simp only[go_sem,zE];exact⟨⟨_,_,rfl,IsTmsD.nil,.inl ⟨rfl,rfl,rfl⟩⟩,rfl⟩
  ·rintro k fr ac _ ag ⟨⟨D,ys,f7,hys,E⟩,f4,f1,f28,f29,f30,rfl⟩;obtain⟨a,ha⟩:=dD ag;obtain⟨x,au,hx⟩:=am.get ha;obtain⟨h1,h2⟩:=mP ha;have ae:subSt al ac:=by
    rcases E with⟨_,_,rfl⟩|⟨_,g,_,hg,rfl⟩
    ·exact ab
    ·exact ab.trans (fb hg)
   have O:=IH a (lMg ha) x hx (by omega) g fi ca aA aj al hy ac ae;have J:ys.length=k:=by rw[hys.len,mj,dU];omega
   have G:∀r,IsTmD (iV F a) r->IsTmsD (gr F (us.take (k+1))) (ys++[r]):=λr hr=>by
    rw[dM ha,rK];exact hys.append (IsTmsD.one hr)
   obtain⟨v2,n2,m⟩:=a;obtain⟨tx,cx,rfl,aJ,aL⟩:=hx.mk;simp only[go_sem,zE,zB,zA,zL,f1,f7,f28,f29,f30,lt_i ag,dB ax,iNn,au,fits];refine O.mono ?_;rintro r _ ⟨hr,rfl⟩;have hn:=G r hr;clear G O;generalize iV F (.mk v2 n2 m)=w at hr;obtain⟨v3,n3,m3⟩:=w;obtain⟨t3,x3,rfl,_⟩:=hr.mk;rcases E with⟨rfl,hc,rfl⟩|⟨hk,g0,rfl,ah,rfl⟩
   ·obtain⟨tf,tc,te⟩:=D;simp only at hc;subst hc;obtain rfl:ys=[]:=ev J;simp only[go_sem,zE,zA,zM,zL,f1,f4,f7,f28,f29,f30,fits];refine fO rfl λg'=>d_ λhg=>⟨⟨_,_,rfl,hn,.inr ⟨Nat.one_pos,g',rfl,hg,rfl⟩⟩,?_⟩
    rfl
   ·simp only[go_sem,zE,zA,zM,zL,f1,f4,f7,f28,f29,f30,fits,b_,J];refine fO rfl (fO ⟨by omega,by omega⟩ λg'=>d_ λhg=>⟨⟨_,_,rfl,hn,.inr ⟨hZ _,g',rfl,?_,?_⟩⟩,?_⟩)
    ·rcases hg with rfl|hg
     ·exact ah
     ·by_cases ai:g'=g0
      ·rw[ai];exact ah
      ·rw[dz ai] at hg;exact hg
    ·rw[eN,jy ah]
    ·rw[dL ag (by omega)]
  ·rintro fr ac _ ⟨⟨D,ys,f7,hys,E⟩,f4,f1,f28,f29,f30,rfl⟩;rw[lTl] at hys;have av:okEs D 3:=by
    rcases E with⟨_,h,_⟩|⟨_,g,rfl,_⟩
    ·exact .inl h
    ·exact .inr rfl
   have aw:appT us.length D:=by
    rcases E with⟨_,h,_⟩|⟨hk,g,rfl,_⟩
    ·exact .inl h
    ·exact .inr ⟨hk,rfl,g,rfl⟩
   simp only[go_sem,zE,zA,zL,f4,f7,f29,f30,dS (nLi _)];refine eI (st':=st) ?_ ⟨?_,rfl⟩
   ·rcases E with⟨_,_,rfl⟩|⟨_,g,_,hg,rfl⟩
    ·exact subSt.refl _
    ·exact fb hg
   ·exact IsTmD.intro av (aw.to (mj ..)) hys
 ·simp only[go_sem,zE];refine lO aj (aG.mono ?_);rintro _ st ⟨rfl,u,x,hu,rfl,hF⟩;cases hn:F n with
  | some w =>
   obtain rfl:=hF w hn;have hc:=aM n w x st hn hu;simp only[iV,hn];obtain⟨v3,n3,m3⟩:=w;obtain⟨t3,x3,rfl,_⟩:=hu.mk;simp only[go_sem,zE,zA,zL,Option.isSome_some];refine hc.mono ?_;rintro r _ ⟨hr,rfl⟩;generalize hw:Tm.mk v3 n3 m3=w at hr ⊢;obtain⟨v4,n4,m4⟩:=w;obtain⟨t4,x4,rfl,_⟩:=hr.mk;simp only[go_sem,zE,zA,zL];exact c_ ⟨hr,rfl⟩
  | none =>
   simp only[iV,hn];obtain⟨v3,n3,m3⟩:=u;obtain⟨t3,x3,rfl,_⟩:=hu.mk;simp only[go_sem,zE,zA,zL,fits,am.len,gn];intro ay;refine dt us.length (λk fr st' ds=>(∃D ys,fr 7=.box [true,n,.sl D ys]/\IsTmsD (gr F (us.take k)) ys/\frontAt st k D st')/\fr 4=.box [false,.raw (.string ⟨#[]⟩),()]/\fr 1=.iv (.fn g fi ca)/\fr 28=.iv (.sl tg xs)/\fr 29=us.length/\fr 30=.iv (.raw (.int .i64 k))/\ds=[]) ?_ ?_ ?_
   ·simp only[go_sem,zE];exact⟨⟨_,_,rfl,IsTmsD.nil,.inl ⟨rfl,rfl,rfl⟩⟩,rfl⟩
   ·rintro k fr ac _ ag ⟨⟨D,ys,f7,hys,E⟩,f4,f1,f28,f29,f30,rfl⟩;obtain⟨a,ha⟩:=dD ag;obtain⟨x,au,hx⟩:=am.get ha;obtain⟨h1,h2⟩:=mP ha;have ae:subSt al ac:=by
     rcases E with⟨_,_,rfl⟩|⟨_,g,_,hg,rfl⟩
     ·exact ab
     ·exact ab.trans (fb hg)
    have O:=IH a (lMg ha) x hx (by omega) g fi ca aA aj al hy ac ae;have J:ys.length=k:=by rw[hys.len,mj,dU];omega
    have G:∀r,IsTmD (iV F a) r->IsTmsD (gr F (us.take (k+1))) (ys++[r]):=λr hr=>by
     rw[dM ha,rK];exact hys.append (IsTmsD.one hr)
    obtain⟨v2,n2,m⟩:=a;obtain⟨tx,cx,rfl,aJ,aL⟩:=hx.mk;simp only[go_sem,zE,zB,zA,zL,f1,f7,f28,f29,f30,lt_i ag,dB ax,iNn,au,fits];refine O.mono ?_;rintro r _ ⟨hr,rfl⟩;have hn:=G r hr;clear G O;generalize iV F (.mk v2 n2 m)=w at hr;obtain⟨v3,n3,m3⟩:=w;obtain⟨t3,x3,rfl,_⟩:=hr.mk;rcases E with⟨rfl,hc,rfl⟩|⟨hk,g0,rfl,ah,rfl⟩
    ·obtain⟨tf,tc,te⟩:=D;simp only at hc;subst hc;obtain rfl:ys=[]:=ev J;simp only[go_sem,zE,zA,zM,zL,f1,f4,f7,f28,f29,f30,fits];refine fO rfl λg'=>d_ λhg=>⟨⟨_,_,rfl,hn,.inr ⟨Nat.one_pos,g',rfl,hg,rfl⟩⟩,?_⟩
     rfl
    ·simp only[go_sem,zE,zA,zM,zL,f1,f4,f7,f28,f29,f30,fits,b_,J];refine fO rfl (fO ⟨by omega,by omega⟩ λg'=>d_ λhg=>⟨⟨_,_,rfl,hn,.inr ⟨hZ _,g',rfl,?_,?_⟩⟩,?_⟩)
     ·rcases hg with rfl|hg
      ·exact ah
      ·by_cases ai:g'=g0
       ·rw[ai];exact ah
       ·rw[dz ai] at hg;exact hg
     ·rw[eN,jy ah]
     ·rw[dL ag (by omega)]
   ·rintro fr ac _ ⟨⟨D,ys,f7,hys,E⟩,f4,f1,f28,f29,f30,rfl⟩;rw[lTl] at hys;have av:okEs D 3:=by
     rcases E with⟨_,h,_⟩|⟨_,g,rfl,_⟩
     ·exact .inl h
     ·exact .inr rfl
    have aw:appT us.length D:=by
     rcases E with⟨_,h,_⟩|⟨hk,g,rfl,_⟩
     ·exact .inl h
     ·exact .inr ⟨hk,rfl,g,rfl⟩
    simp only[go_sem,zE,zA,zL,f4,f7,f29,f30,dS (nLi _)];refine eI (st':=st) ?_ ⟨?_,rfl⟩
    ·rcases E with⟨_,_,rfl⟩|⟨_,g,_,hg,rfl⟩
     ·exact subSt.refl _
     ·exact fb hg
    ·exact IsTmD.intro av (aw.to (mj ..)) hys
def xJ (F:ByteArray->Option Tm)(D:CP gl F):∀(k:Nat) (t:Tm),SizeOf.sizeOf t<k->MT gl F t
 | 0,f,h=>by omega
 | k+1,.mk v n us,h=>KO gl F D v n us (λa E=>xJ F D k a (by
   have:=lSm E;simp at h;omega))
def KP (t:Tm)(x:IV)(G:IsTm t x)(hs:t.size<=1099511627776)(st:ISt) :
  ICall prog gl 247 [x] st (λr st'=>IsTmD t r/\st'=st):=by
 have D:=λst=>xJ gl (λ_=>none) (λ_ _ _ _ h=>by cases h) _ t (eS _) x G hs (.func 271) [] [] rfl (λi hi=>by cases hi;simp only[go_sem]) st
  (λnm st _=>ICallV.of_ICall (by simp only[go_sem]) (KN gl nm st)) st (subSt.refl _)
 rw[CQ] at D;obtain⟨v,n,us⟩:=t;obtain⟨O,xs,rfl,_⟩:=G.mk;refine iI func247 ?_;simp only[go_sem,zE,zA,zL];refine (D _).mono ?_;rintro r _ ⟨J,rfl⟩;have E:=J;obtain⟨O,xs,rfl,_⟩:=J.mk;simp only[go_sem,zE,zA,zL];exact c_ ⟨E,rfl⟩
def CR (F:ByteArray->Option Tm)(hF:∀nm u,F nm=some u->u.size<=1099511627776)(t:Tm):MT gl F t :=
 xJ gl F (λnm u x st h D=>KP gl u x D (hF nm u h) st) _ t (eS _)
def kT (nm:ByteArray)(v:Bool)(n:ByteArray)(D:Tag)(xs:List IV)(m:Nat)(t:Tm):IV :=
 .agg [nm,v,n,.sl D xs,.raw (.map (some m)),t.size,t.deep]
def CS (nm:ByteArray)(v:Bool)(n:ByteArray)(us:List Tm)(tg:Tag)(xs:List IV)(hx:IsTm (.mk v n us) (.agg [v,n,.sl tg xs]))(hs:(Tm.mk v n us).size<=1099511627776)(st:ISt) :
  ICall prog gl 188 [.agg [nm,v,n,.sl tg xs]] st
   (λr st'=>∃m,st m=none/\r=kT nm v n tg xs m (.mk v n us)/\st'=st.put m (some (.map .str (setE (fP (.mk v n us)))))):=by
 have G:=λst=>Ko gl (.mk v n us) _ hx st;have ac:=λst=>uk gl 244 [.cptr (.agg [v,n,.sl tg xs])] (fP (.mk v n us)) st (by simp only[go_sem]) (λI=>Kp gl _ _ hx I);have O:∀t,okEs t 3->IsFm (.mk 0 ⟨#[]⟩ [.mk v n us] []) (.agg [.raw (.int .u8 0),.raw (.string ⟨#[]⟩),.sl t [.agg [v,n,.sl tg xs]],()]) :=
  λt ht=>⟨_,_,_,_,rfl,by omega,ht,IsTms.one hx,by simp only[go_sem],rfl⟩
 have J:(Fm.mk 0 ⟨#[]⟩ [.mk v n us] []).size=(Tm.mk v n us).size+1:=by simp[Fm.size,el,dV]
 have aa:(Fm.mk 0 ⟨#[]⟩ [.mk v n us] []).deep=(Tm.mk v n us).deep+1:=by simp[Fm.deep,fB,fX]
 have ai:=Tm.deep_le (.mk v n us);have D:=λt ht st=>KM gl _ _ (O t ht) (by rw[J];omega) st;have E:=λt ht st=>KC gl _ _ (O t ht) (by rw[aa];omega) st;rw[J] at D;rw[aa] at E;clear J aa O;have ag:IntKind.i64.wrap ((((Tm.mk v n us).size+1:Nat):Int)-1)=(((Tm.mk v n us).size:Nat):Int):=by rw[w64]<;>omega
 have af:IntKind.i64.wrap ((((Tm.mk v n us).deep+1:Nat):Int)-1)=(((Tm.mk v n us).deep:Nat):Int):=by rw[w64]<;>omega
 unfold kT;generalize (Tm.mk v n us).size=a at *;generalize (Tm.mk v n us).deep=d at *;generalize fP (.mk v n us)=l at *;refine ICall.intro (c:=cf prog gl [] [(2,[0,1,2,5,8,3,4,6,7,9,10,11,12])]) func188 rfl (by show _<=20;simp) (by kernel_rfl) ?_;simp only[go_sem,zE,zA,zM,zL,fits];refine fO rfl ((G _).mono ?_);rintro _ st ⟨rfl,rfl⟩;simp only[go_sem,zA];refine (ac _).mono ?_;rintro _ st' ⟨m,hm,rfl,rfl⟩;simp only[go_sem,zE,zA];refine (D _ (by simp only[go_sem]) _).q ?_;simp only[go_sem,zE,zA,ag];refine (E _ (by simp only[go_sem]) _).q ?_;simp only[go_sem,zE,zA,zL,fits,af];exact c_ ⟨m,hm,rfl,rfl⟩
structure Pc where
 nm:ByteArray
 tm:Tm
 at_:Nat
def IsPc (p:Pc)(x:IV):Prop:=∃v n D xs,x=kT p.nm v n D xs p.at_ p.tm/\IsTm p.tm (.agg [.raw (.bool v),.raw (.string n),.sl D xs])
def IsPcs:List Pc->List IV->Prop
 | [],xs=>xs=[]
 | a::l,xs=>∃y ys,xs=y::ys/\IsPc a y/\IsPcs l ys
def IsPcs.len:∀ {l:List Pc}{xs:List IV},IsPcs l xs->xs.length=l.length
 | [],xs,h=>by simp only[IsPcs] at h;subst h;rfl
 | a::l,xs,h=>by
  simp only[IsPcs] at h;obtain⟨y,ys,rfl,_,h⟩:=h;simp[IsPcs.len h]
def IsPcs.get:∀ {l:List Pc}{xs:List IV}{k:Nat}{a:Pc},IsPcs l xs->l[k]?=some a->∃x,xs[k]?=some x/\IsPc a x
 | [],xs,k,a,h,D=>by simp at D
 | b::l,xs,k,a,h,D=>by
  simp only[IsPcs] at h;obtain⟨y,ys,rfl,E,h⟩:=h;cases k with
  | zero=>simp at D;subst D;exact⟨y,rfl,E⟩
  | succ k=>simpa using IsPcs.get h (by simpa using D)
def putF (ps:List Pc)(nm:ByteArray):Option Tm:=(ps.find? λp=>decide (p.nm=nm)).map Pc.tm
def KQ {ps:List Pc}{k:Nat}{a:Pc}{q:Pc->Bool}(h:ps[k]?=some a)(E:(ps.take k).find? q=none):ps.find? q=(if q a then some a else (ps.drop (k+1)).find? q):=by
 have D:=(lGs h).1
 conv=>lhs;rw[<- eA k ps,fC D,jb,E,(lGs h).2]
 simp only[Option.none_or,ko];cases q a<;>rfl
def KR (ps:List Pc)(tg:Tag)(xs:List IV)(O:okEs tg 7)(G:IsPcs ps xs)(nm:ByteArray)(st:ISt) :
  ICall prog gl 217 [.sl tg xs,nm] st (uv (putF ps) nm st):=by
 refine iI func217 ?_;simp only[go_sem,reduceCtorEq,G.len];intro ah;refine dt ps.length (λk fr st' ds=>(ps.take k).find? (λp=>decide (p.nm=nm))=none/\fr 1=nm/\fr 4=.box [false,.raw (.string ⟨#[]⟩),()]/\fr 8=.iv (.sl tg xs)/\fr 9=ps.length/\fr 10=.iv (.raw (.int .i64 k))/\st'=st/\ds=[]) ?_ ?_ ?_
 ·simp only[go_sem,zE];exact⟨rfl,rfl⟩
 ·rintro k fr _ _ D ⟨hn,f1,f4,f8,f9,f10,rfl,rfl⟩;obtain⟨a,ha⟩:=dD D;obtain⟨x,E,v,n,ai,ys,rfl,hx⟩:=G.get ha;have ae:=KQ ha hn;unfold kT at E;cases hq:decide (a.nm=nm)
  ·simp only[go_sem,zE,zB,zA,zL,f1,f4,f8,f9,f10,lt_i D,dB O,iNn,E,fits,hq,dL D (by omega)];rw[dM ha,jb,hn];simp[hq]
  ·simp only[go_sem,zE,zB,zA,zL,f1,f4,f8,f9,f10,lt_i D,dB O,iNn,E,fits,hq];refine c_ ⟨rfl,a.tm,_,hx,?_,?_⟩
   ·simp only[putF,ae,hq];rfl
   ·intro w J;simp only[putF,ae,hq] at J;exact (eC J).symm
 ·rintro fr _ _ ⟨hn,f1,f4,f8,f9,f10,rfl,rfl⟩;rw[lTl] at hn;simp only[go_sem,zE,zA,zL,f4,f9,f10,dS (nLi _)];have ab:putF ps nm=none:=by simp only[putF,hn];rfl
  refine c_ ⟨rfl,.mk false ⟨#[]⟩ [],_,?_,by rw[ab];rfl,λw J=>by rw[ab] at J;cases J⟩;exact⟨_,[],rfl,.inl rfl,rfl⟩
