/- Walks: mapTerm, copyTerm. -/
import Derived.Test.YtakbihknkdpmgaaGreatDoorJP
set_option linter.all false
open Nat renaming reduceEqDiff → zE,reduceBEq → zB,reduceAdd → zA,reduceMul → zM,reduceLeDiff → zL
namespace Go.Proofs.Tryz
open Go Go.Iv
set_option maxRecDepth 4000
variable (gl:Nat->Option IV)
mutual
def iO (F:ByteArray->Option Tm):Tm->Tm
 | .mk true n l=>match F n with
  | some u=>u
  | none=>.mk true n (gk F l)
 | .mk false n l=>.mk false n (gk F l)
def gk (F:ByteArray->Option Tm):List Tm->List Tm
 | []=>[]
 | a::l=>iO F a::gk F l
end
def rC (F:ByteArray->Option Tm):∀(l m:List Tm),gk F (l++m)=gk F l++gk F m
 | [],m=>by simp[gk]
 | a::l,m=>by simp only[ed,gk,rC F l m]
def mf (F:ByteArray->Option Tm):∀(l:List Tm),(gk F l).length=l.length
 | []=>rfl
 | a::l=>by simp only[gk,dV,mf F l]
mutual
def CB:∀t:Tm,iO (λ_=>none) t=t
 | .mk true n l=>by simp only[iO,xo l]
 | .mk false n l=>by simp only[iO,xo l]
def xo:∀l:List Tm,gk (λ_=>none) l=l
 | []=>rfl
 | a::l=>by simp only[gk,CB a,xo l]
end
def ue (F:ByteArray->Option Tm)(nm:ByteArray)(st:ISt)(r:IV)(st':ISt):Prop:=st'=st/\∃u x,IsTm u x/\r=.tup [x,.raw (.bool (F nm).isSome)]/\∀w,F nm=some w->w=u
def MOk (y:IV)(F:ByteArray->Option Tm)(A:ISt):Prop:=∀nm st,subSt A st->ICallV prog gl y [.raw (.string nm)] st (ue F nm st)
def KD (nm:ByteArray)(st:ISt):ICall prog gl 326 [nm] st (ue (λ_=>none) nm st):=by
 refine iI func326 ?_;simp only[go_sem,zE,zA,zL];refine c_ ⟨rfl,.mk false ⟨#[]⟩ [],_,?_,rfl,λw h=>by cases h⟩;exact⟨_,[],rfl,by simp only[go_sem],rfl⟩
def nM:∀l:List Tm,l.length<=dP l
 | []=>dJ _
 | a::l=>by have:=nM l;have:=a.size_pos;simp only[dV,dP];omega
def CP (F:ByteArray->Option Tm):Prop:=∀nm u x st,F nm=some u->IsTm u x->ICall prog gl 308 [x] st (λr st'=>IsTmD u r/\st'=st)
def MT (F:ByteArray->Option Tm)(t:Tm):Prop:=∀(x:IV) (_:IsTm t x) (_:t.size<=1099511627776) (g:Fn) (D ca:List IV) (_:fnOk g=true) (_:∀i,g=.func i->entI prog i=true) (A:ISt) (_:MOk gl (.fn g D ca) F A) (st:ISt) (_:subSt A st),
  ICall prog gl 276 [x,.fn g D ca] st (λr st'=>IsTmD (iO F t) r/\st'=st)
def frontAt (st:ISt)(k:Nat)(A:Tag)(st':ISt):Prop:=(k=0/\A.cap=.nil/\st'=st)\/(0<k/\∃g,A=⟨true,.app g,3⟩/\st g=none/\st'=st.put g (some (.front k 3)))
def KE (F:ByteArray->Option Tm)(aK:CP gl F)(v:Bool)(n:ByteArray)(us:List Tm)(IH:∀a∈us,MT gl F a):MT gl F (.mk v n us):=by
 intro x hx aI g fi ca ay ah aj hy st U;obtain⟨tg,xs,rfl,av,ak⟩:=hx.mk;have aE:=hy n st U;simp only[Tm.size] at aI;have aN:=nM us;refine iI func276 ?_;cases v
 ·simp only[go_sem,zE,zA,zL,ak.len,fits];intro aw;refine dj us.length (λk fr st' ds=>(∃A ys,fr 7=.box [false,n,.sl A ys]/\IsTmsD (gk F (us.take k)) ys/\frontAt st k A st')/\fr 4=.box [false,.raw (.string ⟨#[]⟩),()]/\fr 1=.iv (.fn g fi ca)/\fr 28=.iv (.sl tg xs)/\fr 29=us.length/\fr 30=.iv (.raw (.int .i64 k))/\ds=[]) ?_ ?_ ?_
  ·simp only[go_sem,zE];exact⟨⟨_,_,rfl,IsTmsD.nil,.inl ⟨rfl,rfl,rfl⟩⟩,rfl⟩
  ·rintro k fr aa _ ae ⟨⟨A,ys,f7,hys,D⟩,f4,f1,f28,f29,f30,rfl⟩;obtain⟨a,ha⟩:=dB ae;obtain⟨x,ao,hx⟩:=ak.get ha;obtain⟨h1,h2⟩:=mc ha;have ab:subSt aj aa:=by
    rcases D with⟨_,_,rfl⟩|⟨_,g,_,O,rfl⟩
    ·exact U
    ·exact U.trans (ff O)
   have J:=IH a (lMg ha) x hx (by omega) g fi ca ay ah aj hy aa ab;have G:ys.length=k:=by rw[hys.len,mf,dQ];omega
   have E:∀r,IsTmD (iO F a) r->IsTmsD (gk F (us.take (k+1))) (ys++[r]):=λr hr=>by
    rw[dE ha,rC];exact hys.append (IsTmsD.one hr)
   obtain⟨v2,n2,m⟩:=a;obtain⟨tx,cx,rfl,aH,aJ⟩:=hx.mk;simp only[go_sem,zE,zB,zA,zL,f1,f7,f28,f29,f30,lt_i ae,dz av,iNn,ao,fits];refine J.mono ?_;rintro r _ ⟨hr,rfl⟩;have hn:=E r hr;clear E J;generalize iO F (.mk v2 n2 m)=w at hr;obtain⟨v3,n3,m3⟩:=w;obtain⟨t3,x3,rfl,_⟩:=hr.mk;rcases D with⟨rfl,hc,rfl⟩|⟨hk,g0,rfl,af,rfl⟩
   ·obtain⟨tf,tc,te⟩:=A;simp only at hc;subst hc;obtain rfl:ys=[]:=eG G;simp only[go_sem,zE,zA,zM,zL,f1,f4,f7,f28,f29,f30,fits];refine fJ rfl λg'=>d_ λO=>⟨⟨_,_,rfl,hn,.inr ⟨Nat.one_pos,g',rfl,O,rfl⟩⟩,?_⟩
    rfl
   ·simp only[go_sem,zE,zA,zM,zL,f1,f4,f7,f28,f29,f30,fits,b_,G];refine fJ rfl (fJ ⟨by omega,by omega⟩ λg'=>d_ λO=>⟨⟨_,_,rfl,hn,.inr ⟨jH _,g',rfl,?_,?_⟩⟩,?_⟩)
    ·rcases O with rfl|O
     ·exact af
     ·by_cases ag:g'=g0
      ·rw[ag];exact af
      ·rw[dw ag] at O;exact O
    ·rw[eN,jo af]
    ·rw[dC ae (by omega)]
  ·rintro fr aa _ ⟨⟨A,ys,f7,hys,D⟩,f4,f1,f28,f29,f30,rfl⟩;rw[lTl] at hys;have aq:okEs A 3:=by
    rcases D with⟨_,h,_⟩|⟨_,g,rfl,_⟩
    ·exact .inl h
    ·exact .inr rfl
   have au:appT us.length A:=by
    rcases D with⟨_,h,_⟩|⟨hk,g,rfl,_⟩
    ·exact .inl h
    ·exact .inr ⟨hk,rfl,g,rfl⟩
   simp only[go_sem,zE,zA,zL,f4,f7,f29,f30,dF (nLi _)];refine ez (st':=st) ?_ ⟨?_,rfl⟩
   ·rcases D with⟨_,_,rfl⟩|⟨_,g,_,O,rfl⟩
    ·exact subSt.refl _
    ·exact ff O
   ·exact IsTmD.intro aq (au.to (mf ..)) hys
 ·simp only[go_sem,zE];refine lF ah (aE.mono ?_);rintro _ st ⟨rfl,u,x,hu,rfl,hF⟩;cases hn:F n with
  | some w =>
   obtain rfl:=hF w hn;have hc:=aK n w x st hn hu;simp only[iO,hn];obtain⟨v3,n3,m3⟩:=w;obtain⟨t3,x3,rfl,_⟩:=hu.mk;simp only[go_sem,zE,zA,zL,Option.isSome_some];refine hc.mono ?_;rintro r _ ⟨hr,rfl⟩;generalize hw:Tm.mk v3 n3 m3=w at hr ⊢;obtain⟨v4,n4,m4⟩:=w;obtain⟨t4,x4,rfl,_⟩:=hr.mk;simp only[go_sem,zE,zA,zL];exact c_ ⟨hr,rfl⟩
  | none =>
   simp only[iO,hn];obtain⟨v3,n3,m3⟩:=u;obtain⟨t3,x3,rfl,_⟩:=hu.mk;simp only[go_sem,zE,zA,zL,fits,ak.len,gy];intro aw;refine dj us.length (λk fr st' ds=>(∃A ys,fr 7=.box [true,n,.sl A ys]/\IsTmsD (gk F (us.take k)) ys/\frontAt st k A st')/\fr 4=.box [false,.raw (.string ⟨#[]⟩),()]/\fr 1=.iv (.fn g fi ca)/\fr 28=.iv (.sl tg xs)/\fr 29=us.length/\fr 30=.iv (.raw (.int .i64 k))/\ds=[]) ?_ ?_ ?_
   ·simp only[go_sem,zE];exact⟨⟨_,_,rfl,IsTmsD.nil,.inl ⟨rfl,rfl,rfl⟩⟩,rfl⟩
   ·rintro k fr aa _ ae ⟨⟨A,ys,f7,hys,D⟩,f4,f1,f28,f29,f30,rfl⟩;obtain⟨a,ha⟩:=dB ae;obtain⟨x,ao,hx⟩:=ak.get ha;obtain⟨h1,h2⟩:=mc ha;have ab:subSt aj aa:=by
     rcases D with⟨_,_,rfl⟩|⟨_,g,_,O,rfl⟩
     ·exact U
     ·exact U.trans (ff O)
    have J:=IH a (lMg ha) x hx (by omega) g fi ca ay ah aj hy aa ab;have G:ys.length=k:=by rw[hys.len,mf,dQ];omega
    have E:∀r,IsTmD (iO F a) r->IsTmsD (gk F (us.take (k+1))) (ys++[r]):=λr hr=>by
     rw[dE ha,rC];exact hys.append (IsTmsD.one hr)
    obtain⟨v2,n2,m⟩:=a;obtain⟨tx,cx,rfl,aH,aJ⟩:=hx.mk;simp only[go_sem,zE,zB,zA,zL,f1,f7,f28,f29,f30,lt_i ae,dz av,iNn,ao,fits];refine J.mono ?_;rintro r _ ⟨hr,rfl⟩;have hn:=E r hr;clear E J;generalize iO F (.mk v2 n2 m)=w at hr;obtain⟨v3,n3,m3⟩:=w;obtain⟨t3,x3,rfl,_⟩:=hr.mk;rcases D with⟨rfl,hc,rfl⟩|⟨hk,g0,rfl,af,rfl⟩
    ·obtain⟨tf,tc,te⟩:=A;simp only at hc;subst hc;obtain rfl:ys=[]:=eG G;simp only[go_sem,zE,zA,zM,zL,f1,f4,f7,f28,f29,f30,fits];refine fJ rfl λg'=>d_ λO=>⟨⟨_,_,rfl,hn,.inr ⟨Nat.one_pos,g',rfl,O,rfl⟩⟩,?_⟩
     rfl
    ·simp only[go_sem,zE,zA,zM,zL,f1,f4,f7,f28,f29,f30,fits,b_,G];refine fJ rfl (fJ ⟨by omega,by omega⟩ λg'=>d_ λO=>⟨⟨_,_,rfl,hn,.inr ⟨jH _,g',rfl,?_,?_⟩⟩,?_⟩)
     ·rcases O with rfl|O
      ·exact af
      ·by_cases ag:g'=g0
       ·rw[ag];exact af
       ·rw[dw ag] at O;exact O
     ·rw[eN,jo af]
     ·rw[dC ae (by omega)]
   ·rintro fr aa _ ⟨⟨A,ys,f7,hys,D⟩,f4,f1,f28,f29,f30,rfl⟩;rw[lTl] at hys;have aq:okEs A 3:=by
     rcases D with⟨_,h,_⟩|⟨_,g,rfl,_⟩
     ·exact .inl h
     ·exact .inr rfl
    have au:appT us.length A:=by
     rcases D with⟨_,h,_⟩|⟨hk,g,rfl,_⟩
     ·exact .inl h
     ·exact .inr ⟨hk,rfl,g,rfl⟩
    simp only[go_sem,zE,zA,zL,f4,f7,f29,f30,dF (nLi _)];refine ez (st':=st) ?_ ⟨?_,rfl⟩
    ·rcases D with⟨_,_,rfl⟩|⟨_,g,_,O,rfl⟩
     ·exact subSt.refl _
     ·exact ff O
    ·exact IsTmD.intro aq (au.to (mf ..)) hys
def xp (F:ByteArray->Option Tm)(A:CP gl F):∀(k:Nat) (t:Tm),SizeOf.sizeOf t<k->MT gl F t
 | 0,f,h=>by omega
 | k+1,.mk v n us,h=>KE gl F A v n us (λa D=>xp F A k a (by
   have:=lSm D;simp at h;omega))
def KF (t:Tm)(x:IV)(E:IsTm t x)(hs:t.size<=1099511627776)(st:ISt) :
  ICall prog gl 308 [x] st (λr st'=>IsTmD t r/\st'=st):=by
 have A:=λst=>xp gl (λ_=>none) (λ_ _ _ _ h=>by cases h) _ t (ew _) x E hs (.func 326) [] [] rfl (λi U=>by cases U;simp only[go_sem]) st
  (λnm st _=>ICallV.of_ICall (by simp only[go_sem]) (KD gl nm st)) st (subSt.refl _)
 rw[CB] at A;obtain⟨v,n,us⟩:=t;obtain⟨O,J,rfl,_⟩:=E.mk;refine iI func308 ?_;simp only[go_sem,zE,zA,zL];refine (A _).mono ?_;rintro r _ ⟨G,rfl⟩;have D:=G;obtain⟨O,J,rfl,_⟩:=G.mk;simp only[go_sem,zE,zA,zL];exact c_ ⟨D,rfl⟩
def CC (F:ByteArray->Option Tm)(hF:∀nm u,F nm=some u->u.size<=1099511627776)(t:Tm):MT gl F t :=
 xp gl F (λnm u x st h A=>KF gl u x A (hF nm u h) st) _ t (ew _)
def kI (nm:ByteArray)(v:Bool)(n:ByteArray)(D:Tag)(A:List IV)(m:Nat)(t:Tm):IV :=
 .agg [nm,v,n,.sl D A,.raw (.map (some m)),t.size,t.deep]
def CD (nm:ByteArray)(v:Bool)(n:ByteArray)(us:List Tm)(tg:Tag)(U:List IV)(hx:IsTm (.mk v n us) (.agg [v,n,.sl tg U]))(hs:(Tm.mk v n us).size<=1099511627776)(st:ISt) :
  ICall prog gl 223 [.agg [nm,v,n,.sl tg U]] st
   (λr st'=>∃m,st m=none/\r=kI nm v n tg U m (.mk v n us)/\st'=st.put m (some (.map .str (setE (fK (.mk v n us)))))):=by
 have E:=λst=>Ke gl (.mk v n us) _ hx st;have ab:=λst=>tY gl 305 [.cptr (.agg [v,n,.sl tg U])] (fK (.mk v n us)) st (by simp only[go_sem]) (λI=>Kf gl _ _ hx I);have J:∀t,okEs t 3->IsFm (.mk 0 ⟨#[]⟩ [.mk v n us] []) (.agg [.raw (.int .u8 0),.raw (.string ⟨#[]⟩),.sl t [.agg [v,n,.sl tg U]],()]) :=
  λt ht=>⟨_,_,_,_,rfl,by omega,ht,IsTms.one hx,by simp only[go_sem],rfl⟩
 have G:(Fm.mk 0 ⟨#[]⟩ [.mk v n us] []).size=(Tm.mk v n us).size+1:=by simp[Fm.size,dP,dL]
 have O:(Fm.mk 0 ⟨#[]⟩ [.mk v n us] []).deep=(Tm.mk v n us).deep+1:=by simp[Fm.deep,eu,eU]
 have ah:=Tm.deep_le (.mk v n us);have A:=λt ht st=>KC gl _ _ (J t ht) (by rw[G];omega) st;have D:=λt ht st=>Kr gl _ _ (J t ht) (by rw[O];omega) st;rw[G] at A;rw[O] at D;clear G O J;have af:IntKind.i64.wrap ((((Tm.mk v n us).size+1:Nat):Int)-1)=(((Tm.mk v n us).size:Nat):Int):=by rw[w64]<;>omega
 have ae:IntKind.i64.wrap ((((Tm.mk v n us).deep+1:Nat):Int)-1)=(((Tm.mk v n us).deep:Nat):Int):=by rw[w64]<;>omega
 unfold kI;generalize (Tm.mk v n us).size=a at *;generalize (Tm.mk v n us).deep=d at *;generalize fK (.mk v n us)=l at *;refine ICall.intro (c:=cf prog gl [] [(2,[0,1,2,5,8,3,4,6,7,9,10,11,12])]) func223 rfl (by show _<=20;simp) (by kernel_rfl) ?_;simp only[go_sem,zE,zA,zM,zL,fits];refine fJ rfl ((E _).mono ?_);rintro _ st ⟨rfl,rfl⟩;simp only[go_sem,zA];refine (ab _).mono ?_;rintro _ st' ⟨m,hm,rfl,rfl⟩;simp only[go_sem,zE,zA];refine (A _ (by simp only[go_sem]) _).q ?_;simp only[go_sem,zE,zA,af];refine (D _ (by simp only[go_sem]) _).q ?_;simp only[go_sem,zE,zA,zL,fits,ae];exact c_ ⟨m,hm,rfl,rfl⟩
structure Pc where
 nm:ByteArray
 tm:Tm
 at_:Nat
def IsPc (p:Pc)(x:IV):Prop:=∃v n D A,x=kI p.nm v n D A p.at_ p.tm/\IsTm p.tm (.agg [.raw (.bool v),.raw (.string n),.sl D A])
def IsPcs:List Pc->List IV->Prop
 | [],A=>A=[]
 | a::l,A=>∃y ys,A=y::ys/\IsPc a y/\IsPcs l ys
def IsPcs.len:∀ {l:List Pc}{A:List IV},IsPcs l A->A.length=l.length
 | [],A,h=>by simp only[IsPcs] at h;subst h;rfl
 | a::l,A,h=>by
  simp only[IsPcs] at h;obtain⟨y,ys,rfl,_,h⟩:=h;simp[IsPcs.len h]
def IsPcs.get:∀ {l:List Pc}{D:List IV}{k:Nat}{a:Pc},IsPcs l D->l[k]?=some a->∃x,D[k]?=some x/\IsPc a x
 | [],D,k,a,h,A=>by simp at A
 | b::l,D,k,a,h,A=>by
  simp only[IsPcs] at h;obtain⟨y,ys,rfl,E,h⟩:=h;cases k with
  | zero=>simp at A;subst A;exact⟨y,rfl,E⟩
  | succ k=>simpa using IsPcs.get h (by simpa using A)
def putF (ps:List Pc)(nm:ByteArray):Option Tm:=(ps.find? λp=>decide (p.nm=nm)).map Pc.tm
def KG {ps:List Pc}{k:Nat}{a:Pc}{q:Pc->Bool}(h:ps[k]?=some a)(D:(ps.take k).find? q=none):ps.find? q=(if q a then some a else (ps.drop (k+1)).find? q):=by
 have A:=(lGs h).1
 conv=>lhs;rw[<- el k ps,fa A,iS,D,(lGs h).2]
 simp only[Option.none_or,kh];cases q a<;>rfl
def KH (ps:List Pc)(tg:Tag)(xs:List IV)(J:okEs tg 7)(E:IsPcs ps xs)(nm:ByteArray)(st:ISt) :
  ICall prog gl 277 [.sl tg xs,nm] st (ue (putF ps) nm st):=by
 refine iI func277 ?_;simp only[go_sem,reduceCtorEq,E.len];intro ag;refine dj ps.length (λk fr st' ds=>(ps.take k).find? (λp=>decide (p.nm=nm))=none/\fr 1=nm/\fr 4=.box [false,.raw (.string ⟨#[]⟩),()]/\fr 8=.iv (.sl tg xs)/\fr 9=ps.length/\fr 10=.iv (.raw (.int .i64 k))/\st'=st/\ds=[]) ?_ ?_ ?_
 ·simp only[go_sem,zE];exact⟨rfl,rfl⟩
 ·rintro k fr _ _ A ⟨hn,f1,f4,f8,f9,f10,rfl,rfl⟩;obtain⟨a,ha⟩:=dB A;obtain⟨x,D,v,n,ah,ys,rfl,hx⟩:=E.get ha;have ab:=KG ha hn;unfold kI at D;cases O:decide (a.nm=nm)
  ·simp only[go_sem,zE,zB,zA,zL,f1,f4,f8,f9,f10,lt_i A,dz J,iNn,D,fits,O,dC A (by omega)];rw[dE ha,iS,hn];simp[O]
  ·simp only[go_sem,zE,zB,zA,zL,f1,f4,f8,f9,f10,lt_i A,dz J,iNn,D,fits,O];refine c_ ⟨rfl,a.tm,_,hx,?_,?_⟩
   ·simp only[putF,ab,O];rfl
   ·intro w G;simp only[putF,ab,O] at G;exact (eE G).symm
 ·rintro fr _ _ ⟨hn,f1,f4,f8,f9,f10,rfl,rfl⟩;rw[lTl] at hn;simp only[go_sem,zE,zA,zL,f4,f9,f10,dF (nLi _)];have U:putF ps nm=none:=by simp only[putF,hn];rfl
  refine c_ ⟨rfl,.mk false ⟨#[]⟩ [],_,?_,by rw[U];rfl,λw G=>by rw[U] at G;cases G⟩;exact⟨_,[],rfl,.inl rfl,rfl⟩
