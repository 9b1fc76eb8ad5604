/- Walks: mapTerm, copyTerm. -/
import Derived.Test.YtdbmgeebmfpmpaaGreatDoorJP
set_option linter.all false
open Nat renaming reduceEqDiff → zE,reduceBEq → zB,reduceAdd → zA,reduceMul → zM,reduceLeDiff → zL
namespace Go.Proofs.Tryz
open Go Go.Iv
set_option maxRecDepth 4000
variable (gl:Nat->Option IV)
mutual
def yY2 (F:ByteArray->Option Tm):Tm->Tm
 | .mk true n l=>match F n with
  | some u=>u
  | none=>.mk true n (yZz F l)
 | .mk false n l=>.mk false n (yZz F l)
def yZz (F:ByteArray->Option Tm):List Tm->List Tm
 | []=>[]
 | a::l=>yY2 F a::yZz F l
end
theorem yJc (F:ByteArray->Option Tm):∀(l m:List Tm),yZz F (l++m)=yZz F l++yZz F m
 | [],m=>by simp[yZz]
 | a::l,m=>by simp only[List.cons_append,yZz,yJc F l m]
theorem yZj (F:ByteArray->Option Tm):∀(l:List Tm),(yZz F l).length=l.length
 | []=>rfl
 | a::l=>by simp only[yZz,List.length_cons,yZj F l]
mutual
theorem zWf:∀t:Tm,yY2 (λ_=>none) t=t
 | .mk true n l=>by simp only[yY2,yU2 l]
 | .mk false n l=>by simp only[yY2,yU2 l]
theorem yU2:∀l:List Tm,yZz (λ_=>none) l=l
 | []=>rfl
 | a::l=>by simp only[yZz,zWf a,yU2 l]
end
def wY7 (F:ByteArray->Option Tm)(nm:ByteArray)(st:ISt)(r:IV)(st':ISt):Prop:=st'=st/\∃u x,IsTm u x/\r=.tup [x,.raw (.bool (F nm).isSome)]/\∀w,F nm=some w->w=u
def MOk (y:IV)(F:ByteArray->Option Tm)(st0:ISt):Prop:=∀nm st,subSt st0 st->ICallV prog gl y [.raw (.string nm)] st (wY7 F nm st)
theorem xJs (nm:ByteArray)(st:ISt):ICall prog gl 269 [.raw (.string nm)] st (wY7 (λ_=>none) nm st):=by
 refine iI func269 ?_;simp only[go_sem,zE,zA,zL];refine yQ0 ⟨rfl,.mk false ⟨#[]⟩ [],_,?_,rfl,λw h=>by cases h⟩;exact⟨_,[],rfl,by simp only[go_sem],rfl⟩
theorem yJr:∀l:List Tm,l.length<=yQf l
 | []=>Nat.le_refl _
 | a::l=>by have:=yJr l;have:=a.size_pos;simp only[List.length_cons,yQf];omega
def CP (F:ByteArray->Option Tm):Prop:=∀nm u x st,F nm=some u->IsTm u x->ICall prog gl 253 [x] st (λr st'=>IsTmD u r/\st'=st)
def MT (F:ByteArray->Option Tm)(t:Tm):Prop:=∀(x:IV) (_:IsTm t x) (_:t.size<=1099511627776) (g:Fn) (fi ca:List IV) (_:fnOk g=true) (_:∀i,g=.func i->entI prog i=true) (st0:ISt) (_:MOk gl (.fn g fi ca) F st0) (st:ISt) (_:subSt st0 st),
  ICall prog gl 226 [x,.fn g fi ca] st (λr st'=>IsTmD (yY2 F t) r/\st'=st)
def frontAt (st:ISt)(k:Nat)(tg:Tag)(st':ISt):Prop:=(k=0/\tg.cap=.nil/\st'=st)\/(0<k/\∃g,tg=⟨true,.app g,3⟩/\st g=none/\st'=st.put g (some (.front k 3)))
theorem xQ7 (F:ByteArray->Option Tm)(hcp:CP gl F)(v:Bool)(n:ByteArray)(us:List Tm)(IH:∀a∈us,MT gl F a):MT gl F (.mk v n us):=by
 intro x hx hsz g fi ca hfn hent st0 hy st hsub;obtain⟨tg,xs,rfl,htg,hxs⟩:=hx.mk;have hy0:=hy n st hsub;simp only[Tm.size] at hsz;have hlsz:=yJr us;refine iI func226 ?_;cases v
 ·simp only[go_sem,zE,zA,zL,hxs.len,fits];intro hlen;refine LoopC.ctr us.length (λk fr st' ds=>(∃tg' ys,fr 7=.box [.raw (.bool false),.raw (.string n),.sl tg' ys]/\IsTmsD (yZz F (us.take k)) ys/\frontAt st k tg' st')/\fr 4=.box [.raw (.bool false),.raw (.string ⟨#[]⟩),.sl ⟨true,.nil,0⟩ []]/\fr 1=.iv (.fn g fi ca)/\fr 28=.iv (.sl tg xs)/\fr 29=.iv (.raw (.int .i64 us.length))/\fr 30=.iv (.raw (.int .i64 k))/\ds=[]) ?_ ?_ ?_
  ·simp only[go_sem,zE];exact⟨⟨_,_,rfl,IsTmsD.nil,.inl ⟨rfl,rfl,rfl⟩⟩,rfl⟩
  ·rintro k fr st1 _ hlt ⟨⟨tg',ys,f7,hys,hfr⟩,f4,f1,f28,f29,f30,rfl⟩;obtain⟨a,ha⟩:=yQ1 hlt;obtain⟨x,hkx,hx⟩:=hxs.get ha;obtain⟨h1,h2⟩:=yXd ha;have hsub1:subSt st0 st1:=by
    rcases hfr with⟨_,_,rfl⟩|⟨_,g,_,hg,rfl⟩
    ·exact hsub
    ·exact hsub.trans (yQh hg)
   have hcall:=IH a (lMg ha) x hx (by omega) g fi ca hfn hent st0 hy st1 hsub1;have hlen2:ys.length=k:=by rw[hys.len,yZj,List.length_take];omega
   have hnext:∀r,IsTmD (yY2 F a) r->IsTmsD (yZz F (us.take (k+1))) (ys++[r]):=λr hr=>by
    rw[yQ8 ha,yJc];exact hys.append (IsTmsD.one hr)
   obtain⟨v2,n2,m⟩:=a;obtain⟨tx,cx,rfl,htx,hcx⟩:=hx.mk;simp only[go_sem,zE,zB,zA,zL,f1,f7,f28,f29,f30,lt_i hlt,yQ4 htg,iNn,hkx,fits];refine hcall.mono ?_;rintro r _ ⟨hr,rfl⟩;have hn:=hnext r hr;clear hnext hcall;generalize yY2 F (.mk v2 n2 m)=w at hr;obtain⟨v3,n3,m3⟩:=w;obtain⟨t3,x3,rfl,_⟩:=hr.mk;rcases hfr with⟨rfl,hc,rfl⟩|⟨hk,g0,rfl,hg0,rfl⟩
   ·obtain⟨tf,tc,te⟩:=tg';simp only at hc;subst hc;obtain rfl:ys=[]:=List.eq_nil_of_length_eq_zero hlen2;simp only[go_sem,zE,zA,zM,zL,f1,f4,f7,f28,f29,f30,fits];refine yQm rfl λg'=>yQ9 λhg=>⟨⟨_,_,rfl,hn,.inr ⟨Nat.one_pos,g',rfl,hg,rfl⟩⟩,?_⟩
    rfl
   ·simp only[go_sem,zE,zA,zM,zL,f1,f4,f7,f28,f29,f30,fits,ISt.put_same,hlen2];refine yQm rfl (yQm ⟨by omega,by omega⟩ λg'=>yQ9 λhg=>⟨⟨_,_,rfl,hn,.inr ⟨Nat.succ_pos _,g',rfl,?_,?_⟩⟩,?_⟩)
    ·rcases hg with rfl|hg
     ·exact hg0
     ·by_cases hgg:g'=g0
      ·rw[hgg];exact hg0
      ·rw[yQ7 hgg] at hg;exact hg
    ·rw[yQ6,yX7 hg0]
    ·rw[yQd hlt (show us.length<=281474976710656 by omega)]
  ·rintro fr st1 _ ⟨⟨tg',ys,f7,hys,hfr⟩,f4,f1,f28,f29,f30,rfl⟩;rw[lTl] at hys;have hes:okEs tg' 3:=by
    rcases hfr with⟨_,h,_⟩|⟨_,g,rfl,_⟩
    ·exact .inl h
    ·exact .inr rfl
   have hap:appT us.length tg':=by
    rcases hfr with⟨_,h,_⟩|⟨hk,g,rfl,_⟩
    ·exact .inl h
    ·exact .inr ⟨hk,rfl,g,rfl⟩
   simp only[go_sem,zE,zA,zL,f4,f7,f29,f30,yQl (nLi _)];refine yQg (st':=st) ?_ ⟨?_,rfl⟩
   ·rcases hfr with⟨_,_,rfl⟩|⟨_,g,_,hg,rfl⟩
    ·exact subSt.refl _
    ·exact yQh hg
   ·exact IsTmD.intro hes (hap.to (yZj ..)) hys
 ·simp only[go_sem,zE];refine yZ2 hent (hy0.mono ?_);rintro _ st ⟨rfl,u,x,hu,rfl,hF⟩;cases hn:F n with
  | some w =>
   obtain rfl:=hF w hn;have hc:=hcp n w x st hn hu;simp only[yY2,hn];obtain⟨v3,n3,m3⟩:=w;obtain⟨t3,x3,rfl,_⟩:=hu.mk;simp only[go_sem,zE,zA,zL,Option.isSome_some];refine hc.mono ?_;rintro r _ ⟨hr,rfl⟩;generalize hw:Tm.mk v3 n3 m3=w at hr ⊢;obtain⟨v4,n4,m4⟩:=w;obtain⟨t4,x4,rfl,_⟩:=hr.mk;simp only[go_sem,zE,zA,zL];exact yQ0 ⟨hr,rfl⟩
  | none =>
   simp only[yY2,hn];obtain⟨v3,n3,m3⟩:=u;obtain⟨t3,x3,rfl,_⟩:=hu.mk;simp only[go_sem,zE,zA,zL,fits,hxs.len,Option.isSome_none];intro hlen;refine LoopC.ctr us.length (λk fr st' ds=>(∃tg' ys,fr 7=.box [.raw (.bool true),.raw (.string n),.sl tg' ys]/\IsTmsD (yZz F (us.take k)) ys/\frontAt st k tg' st')/\fr 4=.box [.raw (.bool false),.raw (.string ⟨#[]⟩),.sl ⟨true,.nil,0⟩ []]/\fr 1=.iv (.fn g fi ca)/\fr 28=.iv (.sl tg xs)/\fr 29=.iv (.raw (.int .i64 us.length))/\fr 30=.iv (.raw (.int .i64 k))/\ds=[]) ?_ ?_ ?_
   ·simp only[go_sem,zE];exact⟨⟨_,_,rfl,IsTmsD.nil,.inl ⟨rfl,rfl,rfl⟩⟩,rfl⟩
   ·rintro k fr st1 _ hlt ⟨⟨tg',ys,f7,hys,hfr⟩,f4,f1,f28,f29,f30,rfl⟩;obtain⟨a,ha⟩:=yQ1 hlt;obtain⟨x,hkx,hx⟩:=hxs.get ha;obtain⟨h1,h2⟩:=yXd ha;have hsub1:subSt st0 st1:=by
     rcases hfr with⟨_,_,rfl⟩|⟨_,g,_,hg,rfl⟩
     ·exact hsub
     ·exact hsub.trans (yQh hg)
    have hcall:=IH a (lMg ha) x hx (by omega) g fi ca hfn hent st0 hy st1 hsub1;have hlen2:ys.length=k:=by rw[hys.len,yZj,List.length_take];omega
    have hnext:∀r,IsTmD (yY2 F a) r->IsTmsD (yZz F (us.take (k+1))) (ys++[r]):=λr hr=>by
     rw[yQ8 ha,yJc];exact hys.append (IsTmsD.one hr)
    obtain⟨v2,n2,m⟩:=a;obtain⟨tx,cx,rfl,htx,hcx⟩:=hx.mk;simp only[go_sem,zE,zB,zA,zL,f1,f7,f28,f29,f30,lt_i hlt,yQ4 htg,iNn,hkx,fits];refine hcall.mono ?_;rintro r _ ⟨hr,rfl⟩;have hn:=hnext r hr;clear hnext hcall;generalize yY2 F (.mk v2 n2 m)=w at hr;obtain⟨v3,n3,m3⟩:=w;obtain⟨t3,x3,rfl,_⟩:=hr.mk;rcases hfr with⟨rfl,hc,rfl⟩|⟨hk,g0,rfl,hg0,rfl⟩
    ·obtain⟨tf,tc,te⟩:=tg';simp only at hc;subst hc;obtain rfl:ys=[]:=List.eq_nil_of_length_eq_zero hlen2;simp only[go_sem,zE,zA,zM,zL,f1,f4,f7,f28,f29,f30,fits];refine yQm rfl λg'=>yQ9 λhg=>⟨⟨_,_,rfl,hn,.inr ⟨Nat.one_pos,g',rfl,hg,rfl⟩⟩,?_⟩
     rfl
    ·simp only[go_sem,zE,zA,zM,zL,f1,f4,f7,f28,f29,f30,fits,ISt.put_same,hlen2];refine yQm rfl (yQm ⟨by omega,by omega⟩ λg'=>yQ9 λhg=>⟨⟨_,_,rfl,hn,.inr ⟨Nat.succ_pos _,g',rfl,?_,?_⟩⟩,?_⟩)
     ·rcases hg with rfl|hg
      ·exact hg0
      ·by_cases hgg:g'=g0
       ·rw[hgg];exact hg0
       ·rw[yQ7 hgg] at hg;exact hg
     ·rw[yQ6,yX7 hg0]
     ·rw[yQd hlt (show us.length<=281474976710656 by omega)]
   ·rintro fr st1 _ ⟨⟨tg',ys,f7,hys,hfr⟩,f4,f1,f28,f29,f30,rfl⟩;rw[lTl] at hys;have hes:okEs tg' 3:=by
     rcases hfr with⟨_,h,_⟩|⟨_,g,rfl,_⟩
     ·exact .inl h
     ·exact .inr rfl
    have hap:appT us.length tg':=by
     rcases hfr with⟨_,h,_⟩|⟨hk,g,rfl,_⟩
     ·exact .inl h
     ·exact .inr ⟨hk,rfl,g,rfl⟩
    simp only[go_sem,zE,zA,zL,f4,f7,f29,f30,yQl (nLi _)];refine yQg (st':=st) ?_ ⟨?_,rfl⟩
    ·rcases hfr with⟨_,_,rfl⟩|⟨_,g,_,hg,rfl⟩
     ·exact subSt.refl _
     ·exact yQh hg
    ·exact IsTmD.intro hes (hap.to (yZj ..)) hys
theorem yU3 (F:ByteArray->Option Tm)(hcp:CP gl F):∀(k:Nat) (t:Tm),SizeOf.sizeOf t<k->MT gl F t
 | 0,f,h=>by omega
 | k+1,.mk v n us,h=>xQ7 gl F hcp v n us (λa ha=>yU3 F hcp k a (by
   have:=lSm ha;simp at h;omega))
theorem xU2 (t:Tm)(x:IV)(hx:IsTm t x)(hs:t.size<=1099511627776)(st:ISt) :
  ICall prog gl 253 [x] st (λr st'=>IsTmD t r/\st'=st):=by
 have hcall:=λst=>yU3 gl (λ_=>none) (λ_ _ _ _ h=>by cases h) _ t (Nat.lt_succ_self _) x hx hs (.func 269) [] [] rfl (λi hi=>by cases hi;simp only[go_sem]) st
  (λnm st _=>ICallV.of_ICall (by simp only[go_sem]) (xJs gl nm st)) st (subSt.refl _)
 rw[zWf] at hcall;obtain⟨v,n,us⟩:=t;obtain⟨tg,xs,rfl,_⟩:=hx.mk;refine iI func253 ?_;simp only[go_sem,zE,zA,zL];refine (hcall _).mono ?_;rintro r _ ⟨hr,rfl⟩;have hr0:=hr;obtain⟨tg,xs,rfl,_⟩:=hr.mk;simp only[go_sem,zE,zA,zL];exact yQ0 ⟨hr0,rfl⟩
theorem xQ8 (F:ByteArray->Option Tm)(hF:∀nm u,F nm=some u->u.size<=1099511627776)(t:Tm):MT gl F t :=
 yU3 gl F (λnm u x st h hx=>xU2 gl u x hx (hF nm u h) st) _ t (Nat.lt_succ_self _)
def yVy (nm:ByteArray)(v:Bool)(n:ByteArray)(tg:Tag)(xs:List IV)(m:Nat)(t:Tm):IV :=
 .agg [.raw (.string nm),.raw (.bool v),.raw (.string n),.sl tg xs,.raw (.map (some m)),.raw (.int .i64 t.size),.raw (.int .i64 t.deep)]
theorem zWd (nm:ByteArray)(v:Bool)(n:ByteArray)(us:List Tm)(tg:Tag)(xs:List IV)(hx:IsTm (.mk v n us) (.agg [.raw (.bool v),.raw (.string n),.sl tg xs]))(hs:(Tm.mk v n us).size<=1099511627776)(st:ISt) :
  ICall prog gl 184 [.agg [.raw (.string nm),.raw (.bool v),.raw (.string n),.sl tg xs]] st
   (λr st'=>∃m,st m=none/\r=yVy nm v n tg xs m (.mk v n us)/\st'=st.put m (some (.map .str (setE (yZ1 (.mk v n us)))))):=by
 have hnames:=λst=>xZw gl (.mk v n us) _ hx st;have hset:=λst=>wV5 gl 250 [.cptr (.agg [.raw (.bool v),.raw (.string n),.sl tg xs])] (yZ1 (.mk v n us)) st (by simp only[go_sem]) (λI=>zUf gl _ _ hx I);have hfm:∀t,okEs t 3->IsFm (.mk 0 ⟨#[]⟩ [.mk v n us] []) (.agg [.raw (.int .u8 0),.raw (.string ⟨#[]⟩),.sl t [.agg [.raw (.bool v),.raw (.string n),.sl tg xs]],.sl ⟨true,.nil,0⟩ []]) :=
  λt ht=>⟨_,_,_,_,rfl,by omega,ht,IsTms.one hx,by simp only[go_sem],rfl⟩
 have hsz:(Fm.mk 0 ⟨#[]⟩ [.mk v n us] []).size=(Tm.mk v n us).size+1:=by simp[Fm.size,yQf,yQb]
 have hdp:(Fm.mk 0 ⟨#[]⟩ [.mk v n us] []).deep=(Tm.mk v n us).deep+1:=by simp[Fm.deep,yQu,yZ5]
 have hdl:=Tm.deep_le (.mk v n us);have hnodes:=λt ht st=>vZf gl _ _ (hfm t ht) (by rw[hsz];omega) st;have hdepth:=λt ht st=>vZi gl _ _ (hfm t ht) (by rw[hdp];omega) st;rw[hsz] at hnodes;rw[hdp] at hdepth;clear hsz hdp hfm;have hw1:IntKind.i64.wrap ((((Tm.mk v n us).size+1:Nat):Int)-1)=(((Tm.mk v n us).size:Nat):Int):=by rw[w64]<;>omega
 have hw2:IntKind.i64.wrap ((((Tm.mk v n us).deep+1:Nat):Int)-1)=(((Tm.mk v n us).deep:Nat):Int):=by rw[w64]<;>omega
 unfold yVy;generalize (Tm.mk v n us).size=a at *;generalize (Tm.mk v n us).deep=d at *;generalize yZ1 (.mk v n us)=l at *;refine ICall.intro (c:=cf prog gl [] [(2,[0,1,2,5,8,3,4,6,7,9,10,11,12])]) func184 rfl (by show _<=20;simp) (by kernel_rfl) ?_;simp only[go_sem,zE,zA,zM,zL,fits];refine yQm rfl ((hnames _).mono ?_);rintro _ st ⟨rfl,rfl⟩;simp only[go_sem,zA];refine (hset _).mono ?_;rintro _ st' ⟨m,hm,rfl,rfl⟩;simp only[go_sem,zE,zA];refine (hnodes _ (by simp only[go_sem]) _).mono ?_;rintro _ _ ⟨rfl,rfl⟩;simp only[go_sem,zE,zA,hw1];refine (hdepth _ (by simp only[go_sem]) _).mono ?_;rintro _ _ ⟨rfl,rfl⟩;simp only[go_sem,zE,zA,zL,fits,hw2];exact yQ0 ⟨m,hm,rfl,rfl⟩
structure Pc where
 nm:ByteArray
 tm:Tm
 at_:Nat
def IsPc (p:Pc)(x:IV):Prop:=∃v n tg xs,x=yVy p.nm v n tg xs p.at_ p.tm/\IsTm p.tm (.agg [.raw (.bool v),.raw (.string n),.sl tg xs])
def IsPcs:List Pc->List IV->Prop
 | [],xs=>xs=[]
 | a::l,xs=>∃y ys,xs=y::ys/\IsPc a y/\IsPcs l ys
theorem IsPcs.len:∀ {l:List Pc}{xs:List IV},IsPcs l xs->xs.length=l.length
 | [],xs,h=>by simp only[IsPcs] at h;subst h;rfl
 | a::l,xs,h=>by
  simp only[IsPcs] at h;obtain⟨y,ys,rfl,_,h⟩:=h;simp[IsPcs.len h]
theorem IsPcs.get:∀ {l:List Pc}{xs:List IV}{k:Nat}{a:Pc},IsPcs l xs->l[k]?=some a->∃x,xs[k]?=some x/\IsPc a x
 | [],xs,k,a,h,hk=>by simp at hk
 | b::l,xs,k,a,h,hk=>by
  simp only[IsPcs] at h;obtain⟨y,ys,rfl,hy,h⟩:=h;cases k with
  | zero=>simp at hk;subst hk;exact⟨y,rfl,hy⟩
  | succ k=>simpa using IsPcs.get h (by simpa using hk)
def putF (ps:List Pc)(nm:ByteArray):Option Tm:=(ps.find? λp=>decide (p.nm=nm)).map Pc.tm
theorem wJ5 {ps:List Pc}{k:Nat}{a:Pc}{q:Pc->Bool}(h:ps[k]?=some a)(hn:(ps.take k).find? q=none):ps.find? q=(if q a then some a else (ps.drop (k+1)).find? q):=by
 have hlt:=(lGs h).1
 conv=>lhs;rw[<- List.take_append_drop k ps,List.drop_eq_getElem_cons hlt,List.find?_append,hn,(lGs h).2]
 simp only[Option.none_or,List.find?_cons];cases q a<;>rfl
theorem wXf (ps:List Pc)(tg:Tag)(xs:List IV)(htg:okEs tg 7)(hxs:IsPcs ps xs)(nm:ByteArray)(st:ISt) :
  ICall prog gl 227 [.sl tg xs,.raw (.string nm)] st (wY7 (putF ps) nm st):=by
 refine iI func227 ?_;simp only[go_sem,reduceCtorEq,hxs.len];intro hlen;refine LoopC.ctr ps.length (λk fr st' ds=>(ps.take k).find? (λp=>decide (p.nm=nm))=none/\fr 1=.iv (.raw (.string nm))/\fr 4=.box [.raw (.bool false),.raw (.string ⟨#[]⟩),.sl ⟨true,.nil,0⟩ []]/\fr 8=.iv (.sl tg xs)/\fr 9=.iv (.raw (.int .i64 ps.length))/\fr 10=.iv (.raw (.int .i64 k))/\st'=st/\ds=[]) ?_ ?_ ?_
 ·simp only[go_sem,zE];exact⟨rfl,rfl⟩
 ·rintro k fr _ _ hlt ⟨hn,f1,f4,f8,f9,f10,rfl,rfl⟩;obtain⟨a,ha⟩:=yQ1 hlt;obtain⟨x,hkx,v,n,tg2,ys,rfl,hx⟩:=hxs.get ha;have hft:=wJ5 ha hn;unfold yVy at hkx;cases hq:decide (a.nm=nm)
  ·simp only[go_sem,zE,zB,zA,zL,f1,f4,f8,f9,f10,lt_i hlt,yQ4 htg,iNn,hkx,fits,hq,yQd hlt (show ps.length<=281474976710656 by omega)];rw[yQ8 ha,List.find?_append,hn];simp[hq]
  ·simp only[go_sem,zE,zB,zA,zL,f1,f4,f8,f9,f10,lt_i hlt,yQ4 htg,iNn,hkx,fits,hq];refine yQ0 ⟨rfl,a.tm,_,hx,?_,?_⟩
   ·simp only[putF,hft,hq];rfl
   ·intro w hw;simp only[putF,hft,hq] at hw;exact (Option.some.inj hw).symm
 ·rintro fr _ _ ⟨hn,f1,f4,f8,f9,f10,rfl,rfl⟩;rw[lTl] at hn;simp only[go_sem,zE,zA,zL,f4,f9,f10,yQl (nLi _)];have hpf:putF ps nm=none:=by simp only[putF,hn];rfl
  refine yQ0 ⟨rfl,.mk false ⟨#[]⟩ [],_,?_,by rw[hpf];rfl,λw hw=>by rw[hpf] at hw;cases hw⟩;exact⟨_,[],rfl,.inl rfl,rfl⟩
