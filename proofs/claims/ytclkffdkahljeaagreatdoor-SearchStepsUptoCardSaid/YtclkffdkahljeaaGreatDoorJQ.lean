/- Walks: mapTerm, copyTerm. -/
import Derived.Test.YtclkffdkahljeaaGreatDoorJP
set_option linter.all false
open Nat renaming reduceEqDiff → zE,reduceBEq → zB,reduceAdd → zA,reduceMul → zM,reduceLeDiff → zL
namespace Go.Proofs.Tryz
open Go Go.Iv
set_option maxRecDepth 4000
variable (gl:Nat->Option IV)
mutual
def yY7 (F:ByteArray->Option Tm):Tm->Tm
 | .mk true n l=>match F n with
  | some u=>u
  | none=>.mk true n (yX5 F l)
 | .mk false n l=>.mk false n (yX5 F l)
def yX5 (F:ByteArray->Option Tm):List Tm->List Tm
 | []=>[]
 | a::l=>yY7 F a::yX5 F l
end
theorem yJg (F:ByteArray->Option Tm):∀(l m:List Tm),yX5 F (l++m)=yX5 F l++yX5 F m
 | [],m=>by simp[yX5]
 | a::l,m=>by simp only[List.cons_append,yX5,yJg F l m]
theorem yZj (F:ByteArray->Option Tm):∀(l:List Tm),(yX5 F l).length=l.length
 | []=>rfl
 | a::l=>by simp only[yX5,List.length_cons,yZj F l]
mutual
theorem zWb:∀t:Tm,yY7 (λ_=>none) t=t
 | .mk true n l=>by simp only[yY7,yU4 l]
 | .mk false n l=>by simp only[yY7,yU4 l]
theorem yU4:∀l:List Tm,yX5 (λ_=>none) l=l
 | []=>rfl
 | a::l=>by simp only[yX5,zWb a,yU4 l]
end
def wY9 (F:ByteArray->Option Tm)(nm:ByteArray)(st:ISt)(r:IV)(st':ISt):Prop:=st'=st/\∃u x,IsTm u x/\r=.tup [x,.raw (.bool (F nm).isSome)]/\∀w,F nm=some w->w=u
def MOk (y:IV)(F:ByteArray->Option Tm)(A:ISt):Prop:=∀nm st,subSt A st->ICallV prog gl y [.raw (.string nm)] st (wY9 F nm st)
theorem xJt (nm:ByteArray)(st:ISt):ICall prog gl 240 [.raw (.string nm)] st (wY9 (λ_=>none) nm st):=by
 refine iI func240 ?_;simp only[go_sem,zE,zA,zL];refine yQ0 ⟨rfl,.mk false ⟨#[]⟩ [],_,?_,rfl,λw h=>by cases h⟩;exact⟨_,[],rfl,by simp only[go_sem],rfl⟩
theorem yJv:∀l:List Tm,l.length<=yQh l
 | []=>Nat.le_refl _
 | a::l=>by have:=yJv l;have:=a.size_pos;simp only[List.length_cons,yQh];omega
def CP (F:ByteArray->Option Tm):Prop:=∀nm u x st,F nm=some u->IsTm u x->ICall prog gl 197 [x] st (λr st'=>IsTmD u r/\st'=st)
def MT (F:ByteArray->Option Tm)(t:Tm):Prop:=∀(x:IV) (_:IsTm t x) (_:t.size<=1099511627776) (g:Fn) (D ca:List IV) (_:fnOk g=true) (_:∀i,g=.func i->entI prog i=true) (A:ISt) (_:MOk gl (.fn g D ca) F A) (st:ISt) (_:subSt A st),
  ICall prog gl 149 [x,.fn g D ca] st (λr st'=>IsTmD (yY7 F t) r/\st'=st)
def frontAt (st:ISt)(k:Nat)(A:Tag)(st':ISt):Prop:=(k=0/\A.cap=.nil/\st'=st)\/(0<k/\∃g,A=⟨true,.app g,3⟩/\st g=none/\st'=st.put g (some (.front k 3)))
theorem xQc (F:ByteArray->Option Tm)(aK:CP gl F)(v:Bool)(n:ByteArray)(us:List Tm)(IH:∀a∈us,MT gl F a):MT gl F (.mk v n us):=by
 intro x hx aI g fi ca ay ai ak hy st aa;obtain⟨tg,xs,rfl,av,al⟩:=hx.mk;have aE:=hy n st aa;simp only[Tm.size] at aI;have aN:=yJv us;refine iI func149 ?_;cases v
 ·simp only[go_sem,zE,zA,zL,al.len,fits];intro aw;refine LoopC.ctr us.length (λk fr st' ds=>(∃A ys,fr 7=.box [.raw (.bool false),.raw (.string n),.sl A ys]/\IsTmsD (yX5 F (us.take k)) ys/\frontAt st k A st')/\fr 4=.box [.raw (.bool false),.raw (.string ⟨#[]⟩),.sl ⟨true,.nil,0⟩ []]/\fr 1=.iv (.fn g fi ca)/\fr 28=.iv (.sl tg xs)/\fr 29=.iv (.raw (.int .i64 us.length))/\fr 30=.iv (.raw (.int .i64 k))/\ds=[]) ?_ ?_ ?_
  ·simp only[go_sem,zE];exact⟨⟨_,_,rfl,IsTmsD.nil,.inl ⟨rfl,rfl,rfl⟩⟩,rfl⟩
  ·rintro k fr ab _ af ⟨⟨A,ys,f7,hys,D⟩,f4,f1,f28,f29,f30,rfl⟩;obtain⟨a,ha⟩:=yQ1 af;obtain⟨x,ao,hx⟩:=al.get ha;obtain⟨h1,h2⟩:=yXf ha;have ac:subSt ak ab:=by
    rcases D with⟨_,_,rfl⟩|⟨_,g,_,U,rfl⟩
    ·exact aa
    ·exact aa.trans (yQa U)
   have O:=IH a (lMg ha) x hx (by omega) g fi ca ay ai ak hy ab ac;have J:ys.length=k:=by rw[hys.len,yZj,List.length_take];omega
   have E:∀r,IsTmD (yY7 F a) r->IsTmsD (yX5 F (us.take (k+1))) (ys++[r]):=λr hr=>by
    rw[yQ7 ha,yJg];exact hys.append (IsTmsD.one hr)
   obtain⟨v2,n2,m⟩:=a;obtain⟨tx,cx,rfl,aH,aJ⟩:=hx.mk;simp only[go_sem,zE,zB,zA,zL,f1,f7,f28,f29,f30,lt_i af,yQ3 av,iNn,ao,fits];refine O.mono ?_;rintro r _ ⟨hr,rfl⟩;have hn:=E r hr;clear E O;generalize yY7 F (.mk v2 n2 m)=w at hr;obtain⟨v3,n3,m3⟩:=w;obtain⟨t3,x3,rfl,_⟩:=hr.mk;rcases D with⟨rfl,hc,rfl⟩|⟨hk,g0,rfl,ag,rfl⟩
   ·obtain⟨tf,tc,te⟩:=A;simp only at hc;subst hc;obtain rfl:ys=[]:=List.eq_nil_of_length_eq_zero J;simp only[go_sem,zE,zA,zM,zL,f1,f4,f7,f28,f29,f30,fits];refine yQj rfl λg'=>yQ8 λU=>⟨⟨_,_,rfl,hn,.inr ⟨Nat.one_pos,g',rfl,U,rfl⟩⟩,?_⟩
    rfl
   ·simp only[go_sem,zE,zA,zM,zL,f1,f4,f7,f28,f29,f30,fits,ISt.put_same,J];refine yQj rfl (yQj ⟨by omega,by omega⟩ λg'=>yQ8 λU=>⟨⟨_,_,rfl,hn,.inr ⟨Nat.succ_pos _,g',rfl,?_,?_⟩⟩,?_⟩)
    ·rcases U with rfl|U
     ·exact ag
     ·by_cases ah:g'=g0
      ·rw[ah];exact ag
      ·rw[yQ5 ah] at U;exact U
    ·rw[yQ9,yZm ag]
    ·rw[yQc af (show us.length<=281474976710656 by omega)]
  ·rintro fr ab _ ⟨⟨A,ys,f7,hys,D⟩,f4,f1,f28,f29,f30,rfl⟩;rw[lTl] at hys;have aq:okEs A 3:=by
    rcases D with⟨_,h,_⟩|⟨_,g,rfl,_⟩
    ·exact .inl h
    ·exact .inr rfl
   have au:appT us.length A:=by
    rcases D with⟨_,h,_⟩|⟨hk,g,rfl,_⟩
    ·exact .inl h
    ·exact .inr ⟨hk,rfl,g,rfl⟩
   simp only[go_sem,zE,zA,zL,f4,f7,f29,f30,yQi (nLi _)];refine yQf (st':=st) ?_ ⟨?_,rfl⟩
   ·rcases D with⟨_,_,rfl⟩|⟨_,g,_,U,rfl⟩
    ·exact subSt.refl _
    ·exact yQa U
   ·exact IsTmD.intro aq (au.to (yZj ..)) hys
 ·simp only[go_sem,zE];refine yZ4 ai (aE.mono ?_);rintro _ st ⟨rfl,u,x,hu,rfl,hF⟩;cases hn:F n with
  | some w =>
   obtain rfl:=hF w hn;have hc:=aK n w x st hn hu;simp only[yY7,hn];obtain⟨v3,n3,m3⟩:=w;obtain⟨t3,x3,rfl,_⟩:=hu.mk;simp only[go_sem,zE,zA,zL,Option.isSome_some];refine hc.mono ?_;rintro r _ ⟨hr,rfl⟩;generalize hw:Tm.mk v3 n3 m3=w at hr ⊢;obtain⟨v4,n4,m4⟩:=w;obtain⟨t4,x4,rfl,_⟩:=hr.mk;simp only[go_sem,zE,zA,zL];exact yQ0 ⟨hr,rfl⟩
  | none =>
   simp only[yY7,hn];obtain⟨v3,n3,m3⟩:=u;obtain⟨t3,x3,rfl,_⟩:=hu.mk;simp only[go_sem,zE,zA,zL,fits,al.len,Option.isSome_none];intro aw;refine LoopC.ctr us.length (λk fr st' ds=>(∃A ys,fr 7=.box [.raw (.bool true),.raw (.string n),.sl A ys]/\IsTmsD (yX5 F (us.take k)) ys/\frontAt st k A st')/\fr 4=.box [.raw (.bool false),.raw (.string ⟨#[]⟩),.sl ⟨true,.nil,0⟩ []]/\fr 1=.iv (.fn g fi ca)/\fr 28=.iv (.sl tg xs)/\fr 29=.iv (.raw (.int .i64 us.length))/\fr 30=.iv (.raw (.int .i64 k))/\ds=[]) ?_ ?_ ?_
   ·simp only[go_sem,zE];exact⟨⟨_,_,rfl,IsTmsD.nil,.inl ⟨rfl,rfl,rfl⟩⟩,rfl⟩
   ·rintro k fr ab _ af ⟨⟨A,ys,f7,hys,D⟩,f4,f1,f28,f29,f30,rfl⟩;obtain⟨a,ha⟩:=yQ1 af;obtain⟨x,ao,hx⟩:=al.get ha;obtain⟨h1,h2⟩:=yXf ha;have ac:subSt ak ab:=by
     rcases D with⟨_,_,rfl⟩|⟨_,g,_,U,rfl⟩
     ·exact aa
     ·exact aa.trans (yQa U)
    have O:=IH a (lMg ha) x hx (by omega) g fi ca ay ai ak hy ab ac;have J:ys.length=k:=by rw[hys.len,yZj,List.length_take];omega
    have E:∀r,IsTmD (yY7 F a) r->IsTmsD (yX5 F (us.take (k+1))) (ys++[r]):=λr hr=>by
     rw[yQ7 ha,yJg];exact hys.append (IsTmsD.one hr)
    obtain⟨v2,n2,m⟩:=a;obtain⟨tx,cx,rfl,aH,aJ⟩:=hx.mk;simp only[go_sem,zE,zB,zA,zL,f1,f7,f28,f29,f30,lt_i af,yQ3 av,iNn,ao,fits];refine O.mono ?_;rintro r _ ⟨hr,rfl⟩;have hn:=E r hr;clear E O;generalize yY7 F (.mk v2 n2 m)=w at hr;obtain⟨v3,n3,m3⟩:=w;obtain⟨t3,x3,rfl,_⟩:=hr.mk;rcases D with⟨rfl,hc,rfl⟩|⟨hk,g0,rfl,ag,rfl⟩
    ·obtain⟨tf,tc,te⟩:=A;simp only at hc;subst hc;obtain rfl:ys=[]:=List.eq_nil_of_length_eq_zero J;simp only[go_sem,zE,zA,zM,zL,f1,f4,f7,f28,f29,f30,fits];refine yQj rfl λg'=>yQ8 λU=>⟨⟨_,_,rfl,hn,.inr ⟨Nat.one_pos,g',rfl,U,rfl⟩⟩,?_⟩
     rfl
    ·simp only[go_sem,zE,zA,zM,zL,f1,f4,f7,f28,f29,f30,fits,ISt.put_same,J];refine yQj rfl (yQj ⟨by omega,by omega⟩ λg'=>yQ8 λU=>⟨⟨_,_,rfl,hn,.inr ⟨Nat.succ_pos _,g',rfl,?_,?_⟩⟩,?_⟩)
     ·rcases U with rfl|U
      ·exact ag
      ·by_cases ah:g'=g0
       ·rw[ah];exact ag
       ·rw[yQ5 ah] at U;exact U
     ·rw[yQ9,yZm ag]
     ·rw[yQc af (show us.length<=281474976710656 by omega)]
   ·rintro fr ab _ ⟨⟨A,ys,f7,hys,D⟩,f4,f1,f28,f29,f30,rfl⟩;rw[lTl] at hys;have aq:okEs A 3:=by
     rcases D with⟨_,h,_⟩|⟨_,g,rfl,_⟩
     ·exact .inl h
     ·exact .inr rfl
    have au:appT us.length A:=by
     rcases D with⟨_,h,_⟩|⟨hk,g,rfl,_⟩
     ·exact .inl h
     ·exact .inr ⟨hk,rfl,g,rfl⟩
    simp only[go_sem,zE,zA,zL,f4,f7,f29,f30,yQi (nLi _)];refine yQf (st':=st) ?_ ⟨?_,rfl⟩
    ·rcases D with⟨_,_,rfl⟩|⟨_,g,_,U,rfl⟩
     ·exact subSt.refl _
     ·exact yQa U
    ·exact IsTmD.intro aq (au.to (yZj ..)) hys
theorem yU5 (F:ByteArray->Option Tm)(A:CP gl F):∀(k:Nat) (t:Tm),SizeOf.sizeOf t<k->MT gl F t
 | 0,f,h=>by omega
 | k+1,.mk v n us,h=>xQc gl F A v n us (λa D=>yU5 F A k a (by
   have:=lSm D;simp at h;omega))
theorem xGs (t:Tm)(x:IV)(hx:IsTm t x)(hs:t.size<=1099511627776)(st:ISt) :
  ICall prog gl 197 [x] st (λr st'=>IsTmD t r/\st'=st):=by
 have A:=λst=>yU5 gl (λ_=>none) (λ_ _ _ _ h=>by cases h) _ t (Nat.lt_succ_self _) x hx hs (.func 240) [] [] rfl (λi U=>by cases U;simp only[go_sem]) st
  (λnm st _=>ICallV.of_ICall (by simp only[go_sem]) (xJt gl nm st)) st (subSt.refl _)
 rw[zWb] at A;obtain⟨v,n,us⟩:=t;obtain⟨O,J,rfl,_⟩:=hx.mk;refine iI func197 ?_;simp only[go_sem,zE,zA,zL];refine (A _).mono ?_;rintro r _ ⟨E,rfl⟩;have D:=E;obtain⟨O,J,rfl,_⟩:=E.mk;simp only[go_sem,zE,zA,zL];exact yQ0 ⟨D,rfl⟩
theorem xQd (F:ByteArray->Option Tm)(hF:∀nm u,F nm=some u->u.size<=1099511627776)(t:Tm):MT gl F t :=
 yU5 gl F (λnm u x st h hx=>xGs gl u x hx (hF nm u h) st) _ t (Nat.lt_succ_self _)
def yW3 (nm:ByteArray)(v:Bool)(n:ByteArray)(D:Tag)(A:List IV)(m:Nat)(t:Tm):IV :=
 .agg [.raw (.string nm),.raw (.bool v),.raw (.string n),.sl D A,.raw (.map (some m)),.raw (.int .i64 t.size),.raw (.int .i64 t.deep)]
theorem zW9 (nm:ByteArray)(v:Bool)(n:ByteArray)(us:List Tm)(tg:Tag)(xs:List IV)(hx:IsTm (.mk v n us) (.agg [.raw (.bool v),.raw (.string n),.sl tg xs]))(hs:(Tm.mk v n us).size<=1099511627776)(st:ISt) :
  ICall prog gl 243 [.agg [.raw (.string nm),.raw (.bool v),.raw (.string n),.sl tg xs]] st
   (λr st'=>∃m,st m=none/\r=yW3 nm v n tg xs m (.mk v n us)/\st'=st.put m (some (.map .str (setE (yZ0 (.mk v n us)))))):=by
 have E:=λst=>xX3 gl (.mk v n us) _ hx st;have ac:=λst=>wV0 gl 280 [.cptr (.agg [.raw (.bool v),.raw (.string n),.sl tg xs])] (yZ0 (.mk v n us)) st (by simp only[go_sem]) (λI=>zUl gl _ _ hx I);have O:∀t,okEs t 3->IsFm (.mk 0 ⟨#[]⟩ [.mk v n us] []) (.agg [.raw (.int .u8 0),.raw (.string ⟨#[]⟩),.sl t [.agg [.raw (.bool v),.raw (.string n),.sl tg xs]],.sl ⟨true,.nil,0⟩ []]) :=
  λt ht=>⟨_,_,_,_,rfl,by omega,ht,IsTms.one hx,by simp only[go_sem],rfl⟩
 have J:(Fm.mk 0 ⟨#[]⟩ [.mk v n us] []).size=(Tm.mk v n us).size+1:=by simp[Fm.size,yQh,yQe]
 have U:(Fm.mk 0 ⟨#[]⟩ [.mk v n us] []).deep=(Tm.mk v n us).deep+1:=by simp[Fm.deep,yQr,yZ2]
 have ah:=Tm.deep_le (.mk v n us);have A:=λt ht st=>vZl gl _ _ (O t ht) (by rw[J];omega) st;have D:=λt ht st=>vZs gl _ _ (O t ht) (by rw[U];omega) st;rw[J] at A;rw[U] at D;clear J U O;have af:IntKind.i64.wrap ((((Tm.mk v n us).size+1:Nat):Int)-1)=(((Tm.mk v n us).size:Nat):Int):=by rw[w64]<;>omega
 have ae:IntKind.i64.wrap ((((Tm.mk v n us).deep+1:Nat):Int)-1)=(((Tm.mk v n us).deep:Nat):Int):=by rw[w64]<;>omega
 unfold yW3;generalize (Tm.mk v n us).size=a at *;generalize (Tm.mk v n us).deep=d at *;generalize yZ0 (.mk v n us)=l at *;refine ICall.intro (c:=cf prog gl [] [(2,[0,1,2,5,8,3,4,6,7,9,10,11,12])]) func243 rfl (by show _<=20;simp) (by kernel_rfl) ?_;simp only[go_sem,zE,zA,zM,zL,fits];refine yQj rfl ((E _).mono ?_);rintro _ st ⟨rfl,rfl⟩;simp only[go_sem,zA];refine (ac _).mono ?_;rintro _ st' ⟨m,hm,rfl,rfl⟩;simp only[go_sem,zE,zA];refine (A _ (by simp only[go_sem]) _).mono ?_;rintro _ _ ⟨rfl,rfl⟩;simp only[go_sem,zE,zA,af];refine (D _ (by simp only[go_sem]) _).mono ?_;rintro _ _ ⟨rfl,rfl⟩;simp only[go_sem,zE,zA,zL,fits,ae];exact yQ0 ⟨m,hm,rfl,rfl⟩
structure Pc where
 nm:ByteArray
 tm:Tm
 at_:Nat
def IsPc (p:Pc)(x:IV):Prop:=∃v n D A,x=yW3 p.nm v n D A p.at_ p.tm/\IsTm p.tm (.agg [.raw (.bool v),.raw (.string n),.sl D A])
def IsPcs:List Pc->List IV->Prop
 | [],A=>A=[]
 | a::l,A=>∃y ys,A=y::ys/\IsPc a y/\IsPcs l ys
theorem IsPcs.len:∀ {l:List Pc}{A:List IV},IsPcs l A->A.length=l.length
 | [],A,h=>by simp only[IsPcs] at h;subst h;rfl
 | a::l,A,h=>by
  simp only[IsPcs] at h;obtain⟨y,ys,rfl,_,h⟩:=h;simp[IsPcs.len h]
theorem IsPcs.get:∀ {l:List Pc}{D:List IV}{k:Nat}{a:Pc},IsPcs l D->l[k]?=some a->∃x,D[k]?=some x/\IsPc a x
 | [],D,k,a,h,A=>by simp at A
 | b::l,D,k,a,h,A=>by
  simp only[IsPcs] at h;obtain⟨y,ys,rfl,E,h⟩:=h;cases k with
  | zero=>simp at A;subst A;exact⟨y,rfl,E⟩
  | succ k=>simpa using IsPcs.get h (by simpa using A)
def putF (ps:List Pc)(nm:ByteArray):Option Tm:=(ps.find? λp=>decide (p.nm=nm)).map Pc.tm
theorem wJ0 {ps:List Pc}{k:Nat}{a:Pc}{q:Pc->Bool}(h:ps[k]?=some a)(D:(ps.take k).find? q=none):ps.find? q=(if q a then some a else (ps.drop (k+1)).find? q):=by
 have A:=(lGs h).1
 conv=>lhs;rw[<- List.take_append_drop k ps,List.drop_eq_getElem_cons A,List.find?_append,D,(lGs h).2]
 simp only[Option.none_or,List.find?_cons];cases q a<;>rfl
theorem wXd (ps:List Pc)(tg:Tag)(xs:List IV)(O:okEs tg 7)(E:IsPcs ps xs)(nm:ByteArray)(st:ISt) :
  ICall prog gl 269 [.sl tg xs,.raw (.string nm)] st (wY9 (putF ps) nm st):=by
 refine iI func269 ?_;simp only[go_sem,reduceCtorEq,E.len];intro ah;refine LoopC.ctr ps.length (λk fr st' ds=>(ps.take k).find? (λp=>decide (p.nm=nm))=none/\fr 1=.iv (.raw (.string nm))/\fr 4=.box [.raw (.bool false),.raw (.string ⟨#[]⟩),.sl ⟨true,.nil,0⟩ []]/\fr 8=.iv (.sl tg xs)/\fr 9=.iv (.raw (.int .i64 ps.length))/\fr 10=.iv (.raw (.int .i64 k))/\st'=st/\ds=[]) ?_ ?_ ?_
 ·simp only[go_sem,zE];exact⟨rfl,rfl⟩
 ·rintro k fr _ _ A ⟨hn,f1,f4,f8,f9,f10,rfl,rfl⟩;obtain⟨a,ha⟩:=yQ1 A;obtain⟨x,D,v,n,ai,ys,rfl,hx⟩:=E.get ha;have ac:=wJ0 ha hn;unfold yW3 at D;cases U:decide (a.nm=nm)
  ·simp only[go_sem,zE,zB,zA,zL,f1,f4,f8,f9,f10,lt_i A,yQ3 O,iNn,D,fits,U,yQc A (show ps.length<=281474976710656 by omega)];rw[yQ7 ha,List.find?_append,hn];simp[U]
  ·simp only[go_sem,zE,zB,zA,zL,f1,f4,f8,f9,f10,lt_i A,yQ3 O,iNn,D,fits,U];refine yQ0 ⟨rfl,a.tm,_,hx,?_,?_⟩
   ·simp only[putF,ac,U];rfl
   ·intro w J;simp only[putF,ac,U] at J;exact (Option.some.inj J).symm
 ·rintro fr _ _ ⟨hn,f1,f4,f8,f9,f10,rfl,rfl⟩;rw[lTl] at hn;simp only[go_sem,zE,zA,zL,f4,f9,f10,yQi (nLi _)];have aa:putF ps nm=none:=by simp only[putF,hn];rfl
  refine yQ0 ⟨rfl,.mk false ⟨#[]⟩ [],_,?_,by rw[aa];rfl,λw J=>by rw[aa] at J;cases J⟩;exact⟨_,[],rfl,.inl rfl,rfl⟩
