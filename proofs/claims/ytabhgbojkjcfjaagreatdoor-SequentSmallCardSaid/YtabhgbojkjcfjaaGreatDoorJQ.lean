/- Walks: mapTerm, copyTerm. -/
import Derived.Test.YtabhgbojkjcfjaaGreatDoorJP
set_option linter.all false
open Nat renaming reduceEqDiff → zE,reduceBEq → zB,reduceAdd → zA,reduceMul → zM,reduceLeDiff → zL
namespace Go.Proofs.Tryz
open Go Go.Iv
set_option maxRecDepth 4000
variable (gl:Nat->Option IV)
mutual
def yJi (F:ByteArray->Option Tm):Tm->Tm
 | .mk true n l=>match F n with
  | some u=>u
  | none=>.mk true n (yZd F l)
 | .mk false n l=>.mk false n (yZd F l)
def yZd (F:ByteArray->Option Tm):List Tm->List Tm
 | []=>[]
 | a::l=>yJi F a::yZd F l
end
theorem yX4 (F:ByteArray->Option Tm):∀(l m:List Tm),yZd F (l++m)=yZd F l++yZd F m
 | [],m=>by simp[yZd]
 | a::l,m=>by simp only[List.cons_append,yZd,yX4 F l m]
theorem yZ5 (F:ByteArray->Option Tm):∀(l:List Tm),(yZd F l).length=l.length
 | []=>rfl
 | a::l=>by simp only[yZd,List.length_cons,yZ5 F l]
mutual
theorem zGc:∀t:Tm,yJi (λ_=>none) t=t
 | .mk true n l=>by simp only[yJi,zQk l]
 | .mk false n l=>by simp only[yJi,zQk l]
theorem zQk:∀l:List Tm,yZd (λ_=>none) l=l
 | []=>rfl
 | a::l=>by simp only[yZd,zGc a,zQk l]
end
def wGg (F:ByteArray->Option Tm)(nm:ByteArray)(st:ISt)(r:IV)(st':ISt):Prop:=st'=st/\∃u x,IsTm u x/\r=.tup [x,.raw (.bool (F nm).isSome)]/\∀w,F nm=some w->w=u
def MOk (y:IV)(F:ByteArray->Option Tm)(A:ISt):Prop:=∀nm st,subSt A st->ICallV prog gl y [.raw (.string nm)] st (wGg F nm st)
theorem xW3 (nm:ByteArray)(st:ISt):ICall prog gl 310 [.raw (.string nm)] st (wGg (λ_=>none) nm st):=by
 refine iI func310 ?_;simp only[go_sem,zE,zA,zL];refine yQ0 ⟨rfl,.mk false ⟨#[]⟩ [],_,?_,rfl,λw h=>by cases h⟩;exact⟨_,[],rfl,by simp only[go_sem],rfl⟩
theorem yX0:∀l:List Tm,l.length<=yQa l
 | []=>Nat.le_refl _
 | a::l=>by have:=yX0 l;have:=a.size_pos;simp only[List.length_cons,yQa];omega
def CP (F:ByteArray->Option Tm):Prop:=∀nm u x st,F nm=some u->IsTm u x->ICall prog gl 276 [x] st (λr st'=>IsTmD u r/\st'=st)
def MT (F:ByteArray->Option Tm)(t:Tm):Prop:=∀(x:IV) (_:IsTm t x) (_:t.size<=1099511627776) (g:Fn) (D ca:List IV) (_:fnOk g=true) (_:∀i,g=.func i->entI prog i=true) (A:ISt) (_:MOk gl (.fn g D ca) F A) (st:ISt) (_:subSt A st),
  ICall prog gl 234 [x,.fn g D ca] st (λr st'=>IsTmD (yJi F t) r/\st'=st)
def frontAt (st:ISt)(k:Nat)(A:Tag)(st':ISt):Prop:=(k=0/\A.cap=.nil/\st'=st)\/(0<k/\∃g,A=⟨true,.app g,3⟩/\st g=none/\st'=st.put g (some (.front k 3)))
theorem xXu (F:ByteArray->Option Tm)(aJ:CP gl F)(v:Bool)(n:ByteArray)(us:List Tm)(IH:∀a∈us,MT gl F a):MT gl F (.mk v n us):=by
 intro x hx aH g fi ca ax ag ai hy st U;obtain⟨tg,xs,rfl,au,aj⟩:=hx.mk;have aD:=hy n st U;simp only[Tm.size] at aH;have aM:=yX0 us;refine iI func234 ?_;cases v
 ·simp only[go_sem,zE,zA,zL,aj.len,fits];intro av;refine LoopC.ctr us.length (λk fr st' ds=>(∃A ys,fr 7=.box [.raw (.bool false),.raw (.string n),.sl A ys]/\IsTmsD (yZd F (us.take k)) ys/\frontAt st k A st')/\fr 4=.box [.raw (.bool false),.raw (.string ⟨#[]⟩),.sl ⟨true,.nil,0⟩ []]/\fr 1=.iv (.fn g fi ca)/\fr 28=.iv (.sl tg xs)/\fr 29=.iv (.raw (.int .i64 us.length))/\fr 30=.iv (.raw (.int .i64 k))/\ds=[]) ?_ ?_ ?_
  ·simp only[go_sem,zE];exact⟨⟨_,_,rfl,IsTmsD.nil,.inl ⟨rfl,rfl,rfl⟩⟩,rfl⟩
  ·rintro k fr W _ ac ⟨⟨A,ys,f7,hys,D⟩,f4,f1,f28,f29,f30,rfl⟩;obtain⟨a,ha⟩:=yQ3 ac;obtain⟨x,an,hx⟩:=aj.get ha;obtain⟨h1,h2⟩:=yZg ha;have aa:subSt ai W:=by
    rcases D with⟨_,_,rfl⟩|⟨_,g,_,O,rfl⟩
    ·exact U
    ·exact U.trans (yQe O)
   have J:=IH a (lMg ha) x hx (by omega) g fi ca ax ag ai hy W aa;have G:ys.length=k:=by rw[hys.len,yZ5,List.length_take];omega
   have E:∀r,IsTmD (yJi F a) r->IsTmsD (yZd F (us.take (k+1))) (ys++[r]):=λr hr=>by
    rw[yQ4 ha,yX4];exact hys.append (IsTmsD.one hr)
   obtain⟨v2,n2,m⟩:=a;obtain⟨tx,cx,rfl,aG,aI⟩:=hx.mk;simp only[go_sem,zE,zB,zA,zL,f1,f7,f28,f29,f30,lt_i ac,yQ2 au,iNn,an,fits];refine J.mono ?_;rintro r _ ⟨hr,rfl⟩;have hn:=E r hr;clear E J;generalize yJi F (.mk v2 n2 m)=w at hr;obtain⟨v3,n3,m3⟩:=w;obtain⟨t3,x3,rfl,_⟩:=hr.mk;rcases D with⟨rfl,hc,rfl⟩|⟨hk,g0,rfl,ae,rfl⟩
   ·obtain⟨tf,tc,te⟩:=A;simp only at hc;subst hc;obtain rfl:ys=[]:=List.eq_nil_of_length_eq_zero G;simp only[go_sem,zE,zA,zM,zL,f1,f4,f7,f28,f29,f30,fits];refine yQv rfl λg'=>yQd λO=>⟨⟨_,_,rfl,hn,.inr ⟨Nat.one_pos,g',rfl,O,rfl⟩⟩,?_⟩
    rfl
   ·simp only[go_sem,zE,zA,zM,zL,f1,f4,f7,f28,f29,f30,fits,ISt.put_same,G];refine yQv rfl (yQv ⟨by omega,by omega⟩ λg'=>yQd λO=>⟨⟨_,_,rfl,hn,.inr ⟨Nat.succ_pos _,g',rfl,?_,?_⟩⟩,?_⟩)
    ·rcases O with rfl|O
     ·exact ae
     ·by_cases af:g'=g0
      ·rw[af];exact ae
      ·rw[yZ7 af] at O;exact O
    ·rw[yQg,yJ8 ae]
    ·rw[yQb ac (show us.length<=281474976710656 by omega)]
  ·rintro fr W _ ⟨⟨A,ys,f7,hys,D⟩,f4,f1,f28,f29,f30,rfl⟩;rw[lTl] at hys;have ao:okEs A 3:=by
    rcases D with⟨_,h,_⟩|⟨_,g,rfl,_⟩
    ·exact .inl h
    ·exact .inr rfl
   have aq:appT us.length A:=by
    rcases D with⟨_,h,_⟩|⟨hk,g,rfl,_⟩
    ·exact .inl h
    ·exact .inr ⟨hk,rfl,g,rfl⟩
   simp only[go_sem,zE,zA,zL,f4,f7,f29,f30,yQj (nLi _)];refine yQc (st':=st) ?_ ⟨?_,rfl⟩
   ·rcases D with⟨_,_,rfl⟩|⟨_,g,_,O,rfl⟩
    ·exact subSt.refl _
    ·exact yQe O
   ·exact IsTmD.intro ao (aq.to (yZ5 ..)) hys
 ·simp only[go_sem,zE];refine yJz ag (aD.mono ?_);rintro _ st ⟨rfl,u,x,hu,rfl,hF⟩;cases hn:F n with
  | some w =>
   obtain rfl:=hF w hn;have hc:=aJ n w x st hn hu;simp only[yJi,hn];obtain⟨v3,n3,m3⟩:=w;obtain⟨t3,x3,rfl,_⟩:=hu.mk;simp only[go_sem,zE,zA,zL,Option.isSome_some];refine hc.mono ?_;rintro r _ ⟨hr,rfl⟩;generalize hw:Tm.mk v3 n3 m3=w at hr ⊢;obtain⟨v4,n4,m4⟩:=w;obtain⟨t4,x4,rfl,_⟩:=hr.mk;simp only[go_sem,zE,zA,zL];exact yQ0 ⟨hr,rfl⟩
  | none =>
   simp only[yJi,hn];obtain⟨v3,n3,m3⟩:=u;obtain⟨t3,x3,rfl,_⟩:=hu.mk;simp only[go_sem,zE,zA,zL,fits,aj.len,Option.isSome_none];intro av;refine LoopC.ctr us.length (λk fr st' ds=>(∃A ys,fr 7=.box [.raw (.bool true),.raw (.string n),.sl A ys]/\IsTmsD (yZd F (us.take k)) ys/\frontAt st k A st')/\fr 4=.box [.raw (.bool false),.raw (.string ⟨#[]⟩),.sl ⟨true,.nil,0⟩ []]/\fr 1=.iv (.fn g fi ca)/\fr 28=.iv (.sl tg xs)/\fr 29=.iv (.raw (.int .i64 us.length))/\fr 30=.iv (.raw (.int .i64 k))/\ds=[]) ?_ ?_ ?_
   ·simp only[go_sem,zE];exact⟨⟨_,_,rfl,IsTmsD.nil,.inl ⟨rfl,rfl,rfl⟩⟩,rfl⟩
   ·rintro k fr W _ ac ⟨⟨A,ys,f7,hys,D⟩,f4,f1,f28,f29,f30,rfl⟩;obtain⟨a,ha⟩:=yQ3 ac;obtain⟨x,an,hx⟩:=aj.get ha;obtain⟨h1,h2⟩:=yZg ha;have aa:subSt ai W:=by
     rcases D with⟨_,_,rfl⟩|⟨_,g,_,O,rfl⟩
     ·exact U
     ·exact U.trans (yQe O)
    have J:=IH a (lMg ha) x hx (by omega) g fi ca ax ag ai hy W aa;have G:ys.length=k:=by rw[hys.len,yZ5,List.length_take];omega
    have E:∀r,IsTmD (yJi F a) r->IsTmsD (yZd F (us.take (k+1))) (ys++[r]):=λr hr=>by
     rw[yQ4 ha,yX4];exact hys.append (IsTmsD.one hr)
    obtain⟨v2,n2,m⟩:=a;obtain⟨tx,cx,rfl,aG,aI⟩:=hx.mk;simp only[go_sem,zE,zB,zA,zL,f1,f7,f28,f29,f30,lt_i ac,yQ2 au,iNn,an,fits];refine J.mono ?_;rintro r _ ⟨hr,rfl⟩;have hn:=E r hr;clear E J;generalize yJi F (.mk v2 n2 m)=w at hr;obtain⟨v3,n3,m3⟩:=w;obtain⟨t3,x3,rfl,_⟩:=hr.mk;rcases D with⟨rfl,hc,rfl⟩|⟨hk,g0,rfl,ae,rfl⟩
    ·obtain⟨tf,tc,te⟩:=A;simp only at hc;subst hc;obtain rfl:ys=[]:=List.eq_nil_of_length_eq_zero G;simp only[go_sem,zE,zA,zM,zL,f1,f4,f7,f28,f29,f30,fits];refine yQv rfl λg'=>yQd λO=>⟨⟨_,_,rfl,hn,.inr ⟨Nat.one_pos,g',rfl,O,rfl⟩⟩,?_⟩
     rfl
    ·simp only[go_sem,zE,zA,zM,zL,f1,f4,f7,f28,f29,f30,fits,ISt.put_same,G];refine yQv rfl (yQv ⟨by omega,by omega⟩ λg'=>yQd λO=>⟨⟨_,_,rfl,hn,.inr ⟨Nat.succ_pos _,g',rfl,?_,?_⟩⟩,?_⟩)
     ·rcases O with rfl|O
      ·exact ae
      ·by_cases af:g'=g0
       ·rw[af];exact ae
       ·rw[yZ7 af] at O;exact O
     ·rw[yQg,yJ8 ae]
     ·rw[yQb ac (show us.length<=281474976710656 by omega)]
   ·rintro fr W _ ⟨⟨A,ys,f7,hys,D⟩,f4,f1,f28,f29,f30,rfl⟩;rw[lTl] at hys;have ao:okEs A 3:=by
     rcases D with⟨_,h,_⟩|⟨_,g,rfl,_⟩
     ·exact .inl h
     ·exact .inr rfl
    have aq:appT us.length A:=by
     rcases D with⟨_,h,_⟩|⟨hk,g,rfl,_⟩
     ·exact .inl h
     ·exact .inr ⟨hk,rfl,g,rfl⟩
    simp only[go_sem,zE,zA,zL,f4,f7,f29,f30,yQj (nLi _)];refine yQc (st':=st) ?_ ⟨?_,rfl⟩
    ·rcases D with⟨_,_,rfl⟩|⟨_,g,_,O,rfl⟩
     ·exact subSt.refl _
     ·exact yQe O
    ·exact IsTmD.intro ao (aq.to (yZ5 ..)) hys
theorem zQl (F:ByteArray->Option Tm)(A:CP gl F):∀(k:Nat) (t:Tm),SizeOf.sizeOf t<k->MT gl F t
 | 0,f,h=>by omega
 | k+1,.mk v n us,h=>xXu gl F A v n us (λa D=>zQl F A k a (by
   have:=lSm D;simp at h;omega))
theorem wQq (t:Tm)(x:IV)(E:IsTm t x)(O:t.size<=1099511627776)(st:ISt) :
  ICall prog gl 276 [x] st (λr st'=>IsTmD t r/\st'=st):=by
 have A:=λst=>zQl gl (λ_=>none) (λ_ _ _ _ h=>by cases h) _ t (Nat.lt_succ_self _) x E O (.func 310) [] [] rfl (λi U=>by cases U;simp only[go_sem]) st
  (λnm st _=>ICallV.of_ICall (by simp only[go_sem]) (xW3 gl nm st)) st (subSt.refl _)
 rw[zGc] at A;obtain⟨v,n,us⟩:=t;obtain⟨J,G,rfl,_⟩:=E.mk;refine iI func276 ?_;simp only[go_sem,zE,zA,zL];refine (A _).mono ?_;rintro r _ ⟨F,rfl⟩;have D:=F;obtain⟨J,G,rfl,_⟩:=F.mk;simp only[go_sem,zE,zA,zL];exact yQ0 ⟨D,rfl⟩
theorem xXv (F:ByteArray->Option Tm)(D:∀nm u,F nm=some u->u.size<=1099511627776)(t:Tm):MT gl F t :=
 zQl gl F (λnm u x st h A=>wQq gl u x A (D nm u h) st) _ t (Nat.lt_succ_self _)
def yY9 (nm:ByteArray)(v:Bool)(n:ByteArray)(D:Tag)(A:List IV)(m:Nat)(t:Tm):IV :=
 .agg [.raw (.string nm),.raw (.bool v),.raw (.string n),.sl D A,.raw (.map (some m)),.raw (.int .i64 t.size),.raw (.int .i64 t.deep)]
theorem zGa (nm:ByteArray)(v:Bool)(n:ByteArray)(us:List Tm)(U:Tag)(O:List IV)(hx:IsTm (.mk v n us) (.agg [.raw (.bool v),.raw (.string n),.sl U O]))(hs:(Tm.mk v n us).size<=1099511627776)(st:ISt) :
  ICall prog gl 261 [.agg [.raw (.string nm),.raw (.bool v),.raw (.string n),.sl U O]] st
   (λr st'=>∃m,st m=none/\r=yY9 nm v n U O m (.mk v n us)/\st'=st.put m (some (.map .str (setE (yQo (.mk v n us)))))):=by
 have E:=λst=>xKg gl (.mk v n us) _ hx st;have aa:=λst=>wW2 gl 318 [.cptr (.agg [.raw (.bool v),.raw (.string n),.sl U O])] (yQo (.mk v n us)) st (by simp only[go_sem]) (λI=>xZj gl _ _ hx I);have G:∀t,okEs t 3->IsFm (.mk 0 ⟨#[]⟩ [.mk v n us] []) (.agg [.raw (.int .u8 0),.raw (.string ⟨#[]⟩),.sl t [.agg [.raw (.bool v),.raw (.string n),.sl U O]],.sl ⟨true,.nil,0⟩ []]) :=
  λt W=>⟨_,_,_,_,rfl,by omega,W,IsTms.one hx,by simp only[go_sem],rfl⟩
 have F:(Fm.mk 0 ⟨#[]⟩ [.mk v n us] []).size=(Tm.mk v n us).size+1:=by simp[Fm.size,yQa,yQ9]
 have J:(Fm.mk 0 ⟨#[]⟩ [.mk v n us] []).deep=(Tm.mk v n us).deep+1:=by simp[Fm.deep,yQl,yQu]
 have ag:=Tm.deep_le (.mk v n us);have A:=λt W st=>vXn gl _ _ (G t W) (by rw[F];omega) st;have D:=λt W st=>vXr gl _ _ (G t W) (by rw[J];omega) st;rw[F] at A;rw[J] at D;clear F J G;have ae:IntKind.i64.wrap ((((Tm.mk v n us).size+1:Nat):Int)-1)=(((Tm.mk v n us).size:Nat):Int):=by rw[w64]<;>omega
 have ac:IntKind.i64.wrap ((((Tm.mk v n us).deep+1:Nat):Int)-1)=(((Tm.mk v n us).deep:Nat):Int):=by rw[w64]<;>omega
 unfold yY9;generalize (Tm.mk v n us).size=a at *;generalize (Tm.mk v n us).deep=d at *;generalize yQo (.mk v n us)=l at *;refine ICall.intro (c:=cf prog gl [] [(2,[0,1,2,5,8,3,4,6,7,9,10,11,12])]) func261 rfl (by show _<=20;simp) (by kernel_rfl) ?_;simp only[go_sem,zE,zA,zM,zL,fits];refine yQv rfl ((E _).mono ?_);rintro _ st ⟨rfl,rfl⟩;simp only[go_sem,zA];refine (aa _).mono ?_;rintro _ st' ⟨m,hm,rfl,rfl⟩;simp only[go_sem,zE,zA];refine (A _ (by simp only[go_sem]) _).mono ?_;rintro _ _ ⟨rfl,rfl⟩;simp only[go_sem,zE,zA,ae];refine (D _ (by simp only[go_sem]) _).mono ?_;rintro _ _ ⟨rfl,rfl⟩;simp only[go_sem,zE,zA,zL,fits,ac];exact yQ0 ⟨m,hm,rfl,rfl⟩
structure Pc where
 nm:ByteArray
 tm:Tm
 at_:Nat
def IsPc (p:Pc)(x:IV):Prop:=∃v n D A,x=yY9 p.nm v n D A p.at_ p.tm/\IsTm p.tm (.agg [.raw (.bool v),.raw (.string n),.sl D A])
def IsPcs:List Pc->List IV->Prop
 | [],A=>A=[]
 | a::l,A=>∃y ys,A=y::ys/\IsPc a y/\IsPcs l ys
theorem IsPcs.len:∀ {l:List Pc}{A:List IV},IsPcs l A->A.length=l.length
 | [],A,h=>by simp only[IsPcs] at h;subst h;rfl
 | a::l,A,h=>by
  simp only[IsPcs] at h;obtain⟨y,ys,rfl,_,h⟩:=h;simp[IsPcs.len h]
theorem IsPcs.get:∀ {l:List Pc}{D:List IV}{k:Nat}{a:Pc},IsPcs l D->l[k]?=some a->∃x,D[k]?=some x/\IsPc a x
 | [],D,k,a,h,A=>by simp at A
 | b::l,D,k,a,h,A=>by
  simp only[IsPcs] at h;obtain⟨y,ys,rfl,E,h⟩:=h;cases k with
  | zero=>simp at A;subst A;exact⟨y,rfl,E⟩
  | succ k=>simpa using IsPcs.get h (by simpa using A)
def putF (ps:List Pc)(nm:ByteArray):Option Tm:=(ps.find? λp=>decide (p.nm=nm)).map Pc.tm
theorem wKf {ps:List Pc}{k:Nat}{a:Pc}{q:Pc->Bool}(h:ps[k]?=some a)(D:(ps.take k).find? q=none):ps.find? q=(if q a then some a else (ps.drop (k+1)).find? q):=by
 have A:=(lGs h).1
 conv=>lhs;rw[<- List.take_append_drop k ps,List.drop_eq_getElem_cons A,List.find?_append,D,(lGs h).2]
 simp only[Option.none_or,List.find?_cons];cases q a<;>rfl
theorem wJq (ps:List Pc)(tg:Tag)(xs:List IV)(G:okEs tg 7)(E:IsPcs ps xs)(nm:ByteArray)(st:ISt) :
  ICall prog gl 297 [.sl tg xs,.raw (.string nm)] st (wGg (putF ps) nm st):=by
 refine iI func297 ?_;simp only[go_sem,reduceCtorEq,E.len];intro ae;refine LoopC.ctr ps.length (λk fr st' ds=>(ps.take k).find? (λp=>decide (p.nm=nm))=none/\fr 1=.iv (.raw (.string nm))/\fr 4=.box [.raw (.bool false),.raw (.string ⟨#[]⟩),.sl ⟨true,.nil,0⟩ []]/\fr 8=.iv (.sl tg xs)/\fr 9=.iv (.raw (.int .i64 ps.length))/\fr 10=.iv (.raw (.int .i64 k))/\st'=st/\ds=[]) ?_ ?_ ?_
 ·simp only[go_sem,zE];exact⟨rfl,rfl⟩
 ·rintro k fr _ _ A ⟨U,f1,f4,f8,f9,f10,rfl,rfl⟩;obtain⟨a,ha⟩:=yQ3 A;obtain⟨x,D,v,n,af,ys,rfl,hx⟩:=E.get ha;have W:=wKf ha U;unfold yY9 at D;cases J:decide (a.nm=nm)
  ·simp only[go_sem,zE,zB,zA,zL,f1,f4,f8,f9,f10,lt_i A,yQ2 G,iNn,D,fits,J,yQb A (show ps.length<=281474976710656 by omega)];rw[yQ4 ha,List.find?_append,U];simp[J]
  ·simp only[go_sem,zE,zB,zA,zL,f1,f4,f8,f9,f10,lt_i A,yQ2 G,iNn,D,fits,J];refine yQ0 ⟨rfl,a.tm,_,hx,?_,?_⟩
   ·simp only[putF,W,J];rfl
   ·intro w F;simp only[putF,W,J] at F;exact (Option.some.inj F).symm
 ·rintro fr _ _ ⟨U,f1,f4,f8,f9,f10,rfl,rfl⟩;rw[lTl] at U;simp only[go_sem,zE,zA,zL,f4,f9,f10,yQj (nLi _)];have O:putF ps nm=none:=by simp only[putF,U];rfl
  refine yQ0 ⟨rfl,.mk false ⟨#[]⟩ [],_,?_,by rw[O];rfl,λw F=>by rw[O] at F;cases F⟩;exact⟨_,[],rfl,.inl rfl,rfl⟩
