/- Walks: the order of formulas. -/
import Derived.Test.YtigeiecfkoimpaaGreatDoorQB
import Derived.Lib.Bytealg
set_option linter.all false
open Nat renaming reduceEqDiff → zE,reduceBEq → zB,reduceAdd → zA,reduceMul → zM,reduceSub → zS,reduceLeDiff → zL
namespace Go.Proofs.Tryz
open Go Go.Iv Go.Shelf Go.RowKit
set_option maxRecDepth 4000
variable (gl:Nat->Option IV)
theorem Nl (a b:ByteArray)(w:World):Calls prog 179 #[.string a,.string b] w λe w'=>e=.returned (.int .i64 (Lib.compareBytes a.data.toList b.data.toList))/\w'=w:=by
 have t9:prog.underlying 9=some .string:=by kernel_rfl
 have a9:∀w,(isAgg 9).run prog w=.ok false w:=run_isAgg_plain t9 rfl;have t3:prog.underlying 3=some (.int .i64):=by kernel_rfl
 have a3:∀w,(isAgg 3).run prog w=.ok false w:=run_isAgg_plain t3 rfl
 go_enter func179,(show _=_ from rfl)
 go_wp2
 rw[run_callFunc_extern func205 (by kernel_rfl) (by kernel_rfl) (by kernel_rfl) (e:=Extern.BytealgCompare.compare) (by kernel_rfl),Lib.run_compareString];simp only[Result.andThen];rw[Oper.upon_value]
 go_wp2
 go_ret
 exact⟨rfl,rfl⟩
theorem EB:∀x y:List UInt8,Lib.compareBytes x y=if Op.bytesLess x y=true then -1 else if Op.bytesLess y x=true then 1 else 0
 | [],[]=>by simp[Lib.compareBytes,Op.bytesLess]
 | [],_::_=>by simp[Lib.compareBytes,Op.bytesLess]
 | _::_,[]=>by simp[Lib.compareBytes,Op.bytesLess]
 | a::x,b::y=>by
  have ih:=EB x y;unfold Lib.compareBytes Op.bytesLess;by_cases h1:a<b
  ·have h2:¬ b<a:=λh=>UInt8.lt_irrefl _ (UInt8.lt_trans h1 h);simp[h1]
  ·by_cases h2:b<a
   ·have h3:a≠b:=by rintro rfl;exact UInt8.lt_irrefl _ h2
    simp[h1,h2,h3]
   ·have:a=b:=UInt8.le_antisymm (UInt8.not_lt.1 h2) (UInt8.not_lt.1 h1);subst this;simp[h1,ih]
theorem Nn (a b:ByteArray)(st:ISt):ICall prog gl 179 [.raw (.string a),.raw (.string b)] st (λr st'=>r=.raw (.int .i64 (cmpB a b))/\st'=st):=by
 intro B X rs hg hst hv;have hr:rs=[.string a,.string b]:=by
  match rs,hv with
  | [r,r'],hv=>rw[dK (hv.2 0 r _ rfl rfl),dK (hv.2 1 r' _ rfl rfl)]
  | [],hv=>cases hv.1
  | [_],hv=>cases hv.1
  | _::_::_::_,hv=>cases hv.1
 subst hr;refine Calls.mono (Nl a b X.w) ?_;rintro e w' ⟨rfl,rfl⟩;refine⟨_,rfl,X,.raw (.int .i64 (cmpB a b)),rfl,hg,Ext.refl X,?_,rfl,hst⟩;rw[EB];exact .raw _ trivial
theorem EC (a b:ByteArray)(st:ISt):ICall prog gl 133 [.raw (.string a),.raw (.string b)] st (λr st'=>r=.raw (.int .i64 (cmpB a b))/\st'=st):=by
 refine iI func133 ?_;simp only[go_sem,zE,zA,reduceCtorEq];refine (Nn gl a b _).mono ?_;rintro _ _ ⟨rfl,rfl⟩;simp only[go_sem];exact c_ ⟨rfl,rfl⟩
theorem ED (a:Nat)(st:ISt):ICall prog gl 178 [.raw (.int .u8 a)] st (λr st'=>r=.raw (.bool false)/\st'=st):=by
 refine iI func178 ?_;simp only[go_sem,zE,reduceCtorEq];exact c_ ⟨rfl,rfl⟩
theorem No (a b:Nat)(st:ISt):ICall prog gl 132 [.raw (.int .u8 a),.raw (.int .u8 b)] st (λr st'=>r=.raw (.int .i64 (cmpN a b))/\st'=st):=by
 refine iI func132 ?_;simp only[go_sem,zA,reduceCtorEq];refine (ED gl a _).mono ?_;rintro _ _ ⟨rfl,rfl⟩;simp only[go_sem,zE,zA];refine (ED gl b _).mono ?_;rintro _ _ ⟨rfl,rfl⟩;unfold cmpN;by_cases h1:a<b
 ·simp only[go_sem,zE,reduceCtorEq,lt_i h1];exact c_ ⟨by rw[if_pos h1],rfl⟩
 ·by_cases h2:b<a
  ·simp only[go_sem,zE,reduceCtorEq,dS h1,lt_i h2];exact c_ ⟨by rw[if_neg h1,if_pos h2],rfl⟩
  ·simp only[go_sem,zE,reduceCtorEq,dS h1,dS h2];exact c_ ⟨by rw[if_neg h1,if_neg h2],rfl⟩
theorem EE (a:Nat)(st:ISt):ICall prog gl 200 [.raw (.int .i64 a)] st (λr st'=>r=.raw (.bool false)/\st'=st):=by
 refine iI func200 ?_;simp only[go_sem,zE,reduceCtorEq];exact c_ ⟨rfl,rfl⟩
theorem EF (a b:Nat)(st:ISt):ICall prog gl 180 [.raw (.int .i64 a),.raw (.int .i64 b)] st (λr st'=>r=.raw (.int .i64 (cmpN a b))/\st'=st):=by
 refine iI func180 ?_;simp only[go_sem,zA,reduceCtorEq];refine (EE gl a _).mono ?_;rintro _ _ ⟨rfl,rfl⟩;simp only[go_sem,zE,zA];refine (EE gl b _).mono ?_;rintro _ _ ⟨rfl,rfl⟩;unfold cmpN;by_cases h1:a<b
 ·simp only[go_sem,zE,reduceCtorEq,lt_i h1];exact c_ ⟨by rw[if_pos h1],rfl⟩
 ·by_cases h2:b<a
  ·simp only[go_sem,zE,reduceCtorEq,dS h1,lt_i h2];exact c_ ⟨by rw[if_neg h1,if_pos h2],rfl⟩
  ·simp only[go_sem,zE,reduceCtorEq,dS h1,dS h2];exact c_ ⟨by rw[if_neg h1,if_neg h2],rfl⟩
theorem y8 {t:Tm}{x:IV}(h:IsTm t x):∃v n tg xs,x=.agg [.raw (.bool v),.raw (.string n),.sl tg xs]:=by
 obtain⟨v,n,us⟩:=t;obtain⟨tg,xs,rfl,_⟩:=h.mk;exact⟨_,_,_,_,rfl⟩
theorem sh {α:Type}{f:α->α->Int}{g:List α->List α->Int}(g0:g [] []=0)(g1:∀a b l m,g (a::l) (b::m)=lexI (f a b) (g l m)):∀(l m l' m':List α),l.length=m.length->g (l++l') (m++m')=lexI (g l m) (g l' m')
 | [],[],l',m',_=>by rw[g0];simp[lexI]
 | a::l,b::m,l',m',h=>by
  rw[List.cons_append,List.cons_append,g1,g1,sh g0 g1 l m l' m' (by simpa using h)];unfold lexI;by_cases h1:f a b=0
  ·simp[h1]
  ·simp[h1]
 | [],_::_,_,_,h=>by simp at h
 | _::_,[],_,_,h=>by simp at h
theorem i0 (x:Int)(h:x=0):decide (x=0)=true:=dEt h
theorem i1 (x:Int)(h:¬ x=0):decide (x=0)=false:=dEf h
def CmpT (a:Tm):Prop:=∀(b:Tm) (x y:IV) (_:IsTm a x) (_:IsTm b y) (st:ISt),ICall prog gl 135 [x,y] st (λr st'=>r=.raw (.int .i64 (iM a b))/\st'=st)
def CmpF (a:Fm):Prop:=∀(b:Fm) (x y:IV) (_:IsFm a x) (_:IsFm b y) (st:ISt),ICall prog gl 104 [x,y] st (λr st'=>r=.raw (.int .i64 (eK a b))/\st'=st)
theorem EG (us:List Tm)(IH:∀a∈us,CmpT gl a)(ws:List Tm)(t t':Tag)(xs ys:List IV)(ht:okEs t 3)(ht':okEs t' 3)(ha:IsTms us xs)(hb:IsTms ws ys)(st:ISt) :
  ICall prog gl 134 [.sl t xs,.sl t' ys,.fn (.func 135) [] []] st (λr st'=>r=.raw (.int .i64 (lenL iX us ws))/\st'=st):=by
 refine iI func134 ?_;simp only[go_sem,zE,zA,reduceCtorEq,ha.len,hb.len];intro hla hlb;refine (EF gl us.length ws.length _).mono ?_;rintro _ st ⟨rfl,rfl⟩;unfold lenL;by_cases h0:cmpN us.length ws.length=0
 ·have hlen:=yX8.1 h0;simp only[go_sem,reduceCtorEq,i0 _ h0,ha.len];intro _;refine dt us.length (λk fr st' ds=>iX (us.take k) (ws.take k)=0/\fr 0=.iv (.sl t xs)/\fr 1=.iv (.sl t' ys)/\fr 2=.iv (.fn (.func 135) [] [])/\fr 19=.iv (.raw (.int .i64 us.length))/\fr 20=.iv (.raw (.int .i64 k))/\st'=st/\ds=[]) ?_ ?_ ?_
  ·simp only[go_sem,zE,reduceCtorEq];exact⟨lj,rfl⟩
  ·rintro k fr st1 _ hlt ⟨hn,f0,f1,f2,f19,f20,rfl,rfl⟩;obtain⟨a,hka⟩:=dD hlt;obtain⟨b,hkb⟩:=dD (l:=ws) (k:=k) (by omega);obtain⟨x,hkx,hx⟩:=ha.get hka;obtain⟨y,hky,hy⟩:=hb.get hkb;have hcall:=IH a (lMg hka) b x y hx hy st1;have htl:(us.take k).length=(ws.take k).length:=by rw[List.length_take,List.length_take];omega
   obtain⟨x1,x2,x3,x4,rfl⟩:=y8 hx;obtain⟨y1,y2,y3,y4,rfl⟩:=y8 hy;simp only[go_sem,zE,zB,zA,reduceCtorEq,f0,f1,f2,f19,f20,lt_i hlt,dB ht,dB ht',iNn,hkx,hky,fits];refine hcall.mono ?_;rintro _ _ ⟨rfl,rfl⟩;by_cases hc:iM a b=0
   ·simp only[go_sem,zE,reduceCtorEq,i0 _ hc,f0,f1,f2,f19,f20,dL hlt (show us.length<=281474976710656 by omega)];rw[dM hka,dM hkb,sh lj ll _ _ _ _ htl,hn,ll,lj,hc];simp[lexI]
   ·simp only[go_sem,zE,i1 _ hc];refine c_ ⟨?_,rfl⟩;rw[h0];have h2:iX us ws=iM a b:=by
     conv=>lhs;rw[<- List.take_append_drop k us,<- List.take_append_drop k ws]
     rw[List.drop_eq_getElem_cons hlt,List.drop_eq_getElem_cons (show k<ws.length by omega),sh lj ll _ _ _ _ htl,hn,ll,(lGs hka).2,(lGs hkb).2];simp[lexI,hc]
    rw[h2];simp[lexI]
  ·rintro fr st1 _ ⟨hn,f0,f1,f2,f19,f20,rfl,rfl⟩;rw[lTl,show ws.take us.length=ws by rw[hlen,lTl]] at hn;simp only[go_sem,f19,f20,dS (nLi _)];exact c_ ⟨by rw[h0,hn];simp[lexI],rfl⟩
 ·simp only[go_sem,zE,i1 _ h0];exact c_ ⟨by simp[lexI,h0],rfl⟩
theorem Np (v:Bool)(n:ByteArray)(us:List Tm)(IH:∀a∈us,CmpT gl a):CmpT gl (.mk v n us):=by
 rintro⟨w,m,ws⟩ x y hx hy st;obtain⟨tx,cx,rfl,htx,hcx⟩:=hx.mk;obtain⟨ty,cy,rfl,hty,hcy⟩:=hy.mk;have hl:=λst=>EG gl us IH ws tx ty cx cy htx hty hcx hcy st;simp only[iM];refine iI func135 ?_;by_cases hv:v=w
 ·subst hv;simp only[go_sem,zE,zA,beq_self_eq_true];refine (EC gl n m _).mono ?_;rintro _ _ ⟨rfl,rfl⟩;by_cases h0:cmpB n m=0
  ·simp only[go_sem,zE,zA,i0 _ h0];refine (hl _).mono ?_;rintro _ _ ⟨rfl,rfl⟩;simp only[go_sem];exact c_ ⟨by simp[lexI,h0,lenL],rfl⟩
  ·simp only[go_sem,zE,i1 _ h0];exact c_ ⟨by simp[lexI,h0],rfl⟩
 ·cases v<;>cases w<;>first|exact absurd rfl hv|skip
  all_goals
   simp only[go_sem,zE,reduceCtorEq,beq_eq_false_iff_ne.2 hv];exact c_ ⟨by simp,rfl⟩
theorem EH:∀(k:Nat)(t:Tm),SizeOf.sizeOf t<k->CmpT gl t
 | 0,t,h=>by omega
 | k+1,.mk v n us,h=>Np gl v n us (λa ha=>EH k a (by
   have:=lSm ha;simp at h;omega))
theorem Nq (t:Tm):CmpT gl t:=EH gl _ t (Nat.lt_succ_self _)
theorem Nr (us:List Fm)(IH:∀a∈us,CmpF gl a)(ws:List Fm)(t t':Tag)(xs ys:List IV)(ht:okEs t 4)(ht':okEs t' 4)(ha:IsFms us xs)(hb:IsFms ws ys)(st:ISt) :
  ICall prog gl 136 [.sl t xs,.sl t' ys,.fn (.func 104) [] []] st (λr st'=>r=.raw (.int .i64 (lenL l7 us ws))/\st'=st):=by
 refine iI func136 ?_;simp only[go_sem,zE,zA,reduceCtorEq,ha.len,hb.len];intro hla hlb;refine (EF gl us.length ws.length _).mono ?_;rintro _ st ⟨rfl,rfl⟩;unfold lenL;by_cases h0:cmpN us.length ws.length=0
 ·have hlen:=yX8.1 h0;simp only[go_sem,reduceCtorEq,i0 _ h0,ha.len];intro _;refine dt us.length (λk fr st' ds=>l7 (us.take k) (ws.take k)=0/\fr 0=.iv (.sl t xs)/\fr 1=.iv (.sl t' ys)/\fr 2=.iv (.fn (.func 104) [] [])/\fr 19=.iv (.raw (.int .i64 us.length))/\fr 20=.iv (.raw (.int .i64 k))/\st'=st/\ds=[]) ?_ ?_ ?_
  ·simp only[go_sem,zE,reduceCtorEq];exact⟨oP,rfl⟩
  ·rintro k fr st1 _ hlt ⟨hn,f0,f1,f2,f19,f20,rfl,rfl⟩;obtain⟨a,hka⟩:=dD hlt;obtain⟨b,hkb⟩:=dD (l:=ws) (k:=k) (by omega);obtain⟨x,hkx,hx⟩:=ha.get hka;obtain⟨y,hky,hy⟩:=hb.get hkb;have hcall:=IH a (lMg hka) b x y hx hy st1;have htl:(us.take k).length=(ws.take k).length:=by rw[List.length_take,List.length_take];omega
   obtain⟨x1,x2,x3,x4,x5,x6,rfl⟩:=hx.agg;obtain⟨y1,y2,y3,y4,y5,y6,rfl⟩:=hy.agg;simp only[go_sem,zE,zB,zA,reduceCtorEq,f0,f1,f2,f19,f20,lt_i hlt,dB ht,dB ht',iNn,hkx,hky,fits];refine hcall.mono ?_;rintro _ _ ⟨rfl,rfl⟩;by_cases hc:eK a b=0
   ·simp only[go_sem,zE,reduceCtorEq,i0 _ hc,f0,f1,f2,f19,f20,dL hlt (show us.length<=281474976710656 by omega)];rw[dM hka,dM hkb,sh oP oQ _ _ _ _ htl,hn,oQ,oP,hc];simp[lexI]
   ·simp only[go_sem,zE,i1 _ hc];refine c_ ⟨?_,rfl⟩;rw[h0];have h2:l7 us ws=eK a b:=by
     conv=>lhs;rw[<- List.take_append_drop k us,<- List.take_append_drop k ws]
     rw[List.drop_eq_getElem_cons hlt,List.drop_eq_getElem_cons (show k<ws.length by omega),sh oP oQ _ _ _ _ htl,hn,oQ,(lGs hka).2,(lGs hkb).2];simp[lexI,hc]
    rw[h2];simp[lexI]
  ·rintro fr st1 _ ⟨hn,f0,f1,f2,f19,f20,rfl,rfl⟩;rw[lTl,show ws.take us.length=ws by rw[hlen,lTl]] at hn;simp only[go_sem,f19,f20,dS (nLi _)];exact c_ ⟨by rw[h0,hn];simp[lexI],rfl⟩
 ·simp only[go_sem,zE,i1 _ h0];exact c_ ⟨by simp[lexI,h0],rfl⟩
theorem Ns (o:Nat)(n:ByteArray)(us:List Tm)(sub:List Fm)(IH:∀a∈sub,CmpF gl a):CmpF gl (.mk o n us sub):=by
 rintro⟨w,m,ws,sub'⟩ x y hx hy st;obtain⟨t1,x1,t2,x2,rfl,_,e1,i1',e2,i2⟩:=hx.mk;obtain⟨t3,x3,t4,x4,rfl,_,e3,i3,e4,i4⟩:=hy.mk;have hl1:=λst=>EG gl us (λa _=>Nq gl a) ws t1 t3 x1 x3 e1 e3 i1' i3 st;have hl2:=λst=>Nr gl sub IH sub' t2 t4 x2 x4 e2 e4 i2 i4 st;simp only[eK];refine iI func104 ?_;simp only[go_sem,zE,zA];refine (No gl o w _).mono ?_;rintro _ _ ⟨rfl,rfl⟩;by_cases h0:cmpN o w=0
 ·simp only[go_sem,zE,zA,i0 _ h0];refine (EC gl n m _).mono ?_;rintro _ _ ⟨rfl,rfl⟩;by_cases h1:cmpB n m=0
  ·simp only[go_sem,zE,zA,i0 _ h1];refine (hl1 _).mono ?_;rintro _ _ ⟨rfl,rfl⟩;by_cases h2:lenL iX us ws=0
   ·simp only[go_sem,zE,zA,i0 _ h2];refine (hl2 _).mono ?_;rintro _ _ ⟨rfl,rfl⟩;simp only[go_sem];refine c_ ⟨?_,rfl⟩;unfold lenL at h2 ⊢;rw[h0,h1,h2];simp[lexI]
   ·simp only[go_sem,zE,i1 _ h2];refine c_ ⟨?_,rfl⟩;unfold lenL at h2 ⊢;rw[h0,h1];generalize lexI (cmpN us.length ws.length) (iX us ws)=q at h2 ⊢;simp[lexI,h2]
  ·simp only[go_sem,zE,i1 _ h1];exact c_ ⟨by rw[h0];simp[lexI,h1],rfl⟩
 ·simp only[go_sem,zE,i1 _ h0];exact c_ ⟨by simp[lexI,h0],rfl⟩
theorem EJ:∀(k:Nat)(t:Fm),SizeOf.sizeOf t<k->CmpF gl t
 | 0,t,h=>by omega
 | k+1,.mk o n us sub,h=>Ns gl o n us sub (λa ha=>EJ k a (by
   have:=lSm ha;simp at h;omega))
theorem uY (t:Fm):CmpF gl t:=EJ gl _ t (Nat.lt_succ_self _)
theorem EK (a b:Fm)(x y:IV)(hx:IsFm a x)(hy:IsFm b y)(st:ISt):ICall prog gl 80 [x,y] st (λr st'=>r=.raw (.bool (decide (eK a b=0)))/\st'=st):=by
 have hc:=λst=>uY gl a b x y hx hy st;obtain⟨x1,x2,x3,x4,x5,x6,rfl⟩:=hx.agg;obtain⟨y1,y2,y3,y4,y5,y6,rfl⟩:=hy.agg;refine iI func80 ?_;simp only[go_sem,zE,zA,zL];refine (hc _).mono ?_;rintro _ _ ⟨rfl,rfl⟩;simp only[go_sem];exact c_ ⟨rfl,rfl⟩
end Go.Proofs.Tryz
namespace Go.Proofs.Tryz
open Go Go.Iv Go.Sort Go.Shelf Go.RowKit
set_option maxRecDepth 4000
variable (gl:Nat->Option IV)
end Go.Proofs.Tryz
namespace Go.Iv
open Go
theorem si {P:Program}{gl:Nat->Option IV}{f:FuncId}{args:List IV}{st:ISt}{K:IV->ISt->Prop}(h:ICall P gl f args st (λy st'=>K y st'\/∃g n cap cs es zs,st g=none/\y=.raw (.slice (some ⟨g,0,none⟩) n cap)/\st'=st.put g (some (.box cs)) /\
   zs.length=n/\n<=140737488355328/\n<=cap/\cap*es<=cs.length/\cs.take (n*es)=zs.flatMap IV.cells/\(∀z∈zs,z.cells.length=es)/\K (.sl ⟨true,.app g,es⟩ zs) st)) :
  ICall P gl f args st K:=by
 intro B X rs hg hst hv;subst hst;refine (h B X rs hg rfl hv).mono ?_;rintro e w' ⟨v,rfl,X',y,rfl,h2,h3,h4,hK|⟨g,n,cap,cs,es,zs,h0,rfl,hst',rfl,hn,hcap,hroom,htk,hz,hK⟩⟩
 ·exact⟨v,rfl,X',y,rfl,h2,h3,h4,hK⟩
 have hgn:=yp h3 h0 (by rw[hst'];exact b_ ..);have hk:=uK h0 hst';obtain rfl:=dK h4;exact⟨_,rfl,X'.lendS _ X.st,_,rfl,h2.lendS hk,h3.trans (h2.lendS_ext hk),yq h2 h0 hst' (Nat.le_trans hg.B hgn) hn hcap hroom htk hz,hK⟩
end Go.Iv
namespace Go.Proofs.Tryz
open Go Go.Iv
set_option maxRecDepth 4000
variable (gl:Nat->Option IV)
end Go.Proofs.Tryz
namespace Go.Proofs.Tryz
open Go Go.Iv Go.Shelf Go.RowKit
set_option maxRecDepth 4000
variable (gl:Nat->Option IV)
mutual
theorem Nt:∀(a b:Tm)(x:IV),IsTm a x->IsTm b x->a=b
 | .mk v n us,.mk w m ws,x,h,k=>by
  obtain⟨t,xs,rfl,_,h1⟩:=h.mk;obtain⟨t',xs',hx,_,h2⟩:=k.mk;simp only[IV.agg.injEq,List.cons.injEq,IV.raw.injEq,Value.bool.injEq,Value.string.injEq,IV.sl.injEq,and_true] at hx;obtain⟨rfl,rfl,rfl,rfl⟩:=hx;rw[y9 us ws xs h1 h2]
theorem y9:∀(l m:List Tm)(xs:List IV),IsTms l xs->IsTms m xs->l=m
 | [],[],_,_,_=>rfl
 | [],b::m,xs,h,k=>by
  simp only[IsTms] at h k;obtain⟨y,ys,rfl,_⟩:=k;cases h
 | a::l,[],xs,h,k=>by
  simp only[IsTms] at h k;obtain⟨y,ys,rfl,_⟩:=h;cases k
 | a::l,b::m,xs,h,k=>by
  simp only[IsTms] at h k;obtain⟨y,ys,rfl,h1,h2⟩:=h;obtain⟨y',ys',he,k1,k2⟩:=k;cases he;rw[Nt a b y h1 k1,y9 l m ys h2 k2]
end
mutual
theorem EL:∀(a b:Fm)(x:IV),IsFm a x->IsFm b x->a=b
 | .mk o n us sub,.mk o' m ws sub',x,h,k=>by
  obtain⟨t,xs,t2,xs2,rfl,_,_,h1,_,h2⟩:=h.mk;obtain⟨t',xs',t2',xs2',hx,_,_,k1,_,k2⟩:=k.mk;simp only[IV.agg.injEq,List.cons.injEq,IV.raw.injEq,Value.int.injEq,Value.string.injEq,IV.sl.injEq,and_true,true_and,Int.natCast_inj] at hx;obtain⟨rfl,rfl,⟨rfl,rfl⟩,rfl,rfl⟩:=hx;rw[y9 us ws xs h1 k1,EM sub sub' xs2 h2 k2]
theorem EM:∀(l m:List Fm)(xs:List IV),IsFms l xs->IsFms m xs->l=m
 | [],[],_,_,_=>rfl
 | [],b::m,xs,h,k=>by
  simp only[IsFms] at h k;obtain⟨y,ys,rfl,_⟩:=k;cases h
 | a::l,[],xs,h,k=>by
  simp only[IsFms] at h k;obtain⟨y,ys,rfl,_⟩:=h;cases k
 | a::l,b::m,xs,h,k=>by
  simp only[IsFms] at h k;obtain⟨y,ys,rfl,h1,h2⟩:=h;obtain⟨y',ys',he,k1,k2⟩:=k;cases he;rw[EL a b y h1 k1,EM l m ys h2 k2]
end
open Classical in
noncomputable def rdF (x:IV):Fm:=if h:∃a,IsFm a x then h.choose else fm0
theorem uZ {a:Fm}{x:IV}(h:IsFm a x):rdF x=a:=by
 have he:∃a,IsFm a x:=⟨a,h⟩
 unfold rdF;rw[dif_pos he];exact EL _ _ x he.choose_spec h
theorem EN:∀ {l:List Fm}{xs:List IV},IsFms l xs->xs.map rdF=l
 | [],_,rfl=>rfl
 | a::l,_,⟨x,xs,rfl,hx,hl⟩=>by rw[List.map_cons,uZ hx,EN hl]
theorem EO:∀ {ys:List IV},(∀y∈ys,∃a,IsFm a y)->IsFms (ys.map rdF) ys
 | [],_=>rfl
 | y::ys,h=>by
  obtain⟨a,ha⟩:=h y (by simp);exact⟨y,ys,rfl,by rw[uZ ha];exact ha,EO λz hz=>h z (by simp[hz])⟩
theorem qt:∀ {l:List Fm}{xs:List IV},IsFms l xs->∀y∈xs,∃a,IsFm a y/\a∈l
 | [],_,rfl,y,h=>by cases h
 | a::l,_,⟨x,xs,rfl,hx,hl⟩,y,h=>by
  rcases List.mem_cons.1 h with rfl|h
  ·exact⟨a,hx,by simp⟩
  ·obtain⟨b,hb,hm⟩:=qt hl y h;exact⟨b,hb,by simp[hm]⟩
theorem EP (l:List Fm)(xs rest:List IV)(hx:IsFms l xs)(hne:xs≠[])(hlen:xs.length<=140737488355328)(b cap:Nat)(st:ISt)(hb:st b=some (.box (xs.flatMap IV.cells++rest))) :
  ICall prog gl 165 [.raw (.slice (some ⟨b,0,none⟩) xs.length cap),.fn (.func 104) [] []] st
   (λr st'=>r=.tup []/\∃(m:List Fm) (ys:List IV),IsFms m ys/\m.Perm l/\m.Pairwise (λx y=>¬ eK y x<0)/\(∀y∈ys,y∈xs)/\st'=st.put b (some (.box (ys.flatMap IV.cells++rest)))):=by
 refine (Ni gl 104 ?_ xs rest b cap st hne hlen (nU hx) hb (λx y=>eK (rdF x) (rdF y)) (λx _=>qq _) (λx _ y _ z _=>oR _ _ _) (λx _ y _ z _ h1 h2 h3=>?_) (λx hxm y hym=>?_)).mono ?_
 ·exact enters_of func104 (by kernel_rfl) rfl
 ·rcases Int.lt_or_le (eK (rdF y) (rdF x)) 0 with h|h
  ·have:=oR _ _ _ h h3;exact h2 this
  ·have hxy:eK (rdF x) (rdF y)=0:=by
    have:=qp (rdF x) (rdF y);omega
   rw[(kc _ _).1 hxy] at h3;exact h2 h3
 ·obtain⟨a,ha,_⟩:=qt hx x hxm;obtain⟨c,hc,_⟩:=qt hx y hym;rw[uZ ha,uZ hc];exact (uY (λ_=>none) a c x y ha hc _).mono λr st' h=>h.1
 ·rintro r st' ⟨rfl,ys,hp,hpw,rfl⟩;refine⟨rfl,ys.map rdF,ys,EO λy hy=>?_,?_,?_,λy hy=>hp.mem_iff.1 hy,rfl⟩
  ·obtain⟨a,ha,_⟩:=qt hx y (hp.mem_iff.1 hy);exact⟨a,ha⟩
  ·rw[<- EN hx];exact hp.map rdF
  ·exact List.pairwise_map.2 hpw
theorem ER (t:Tag)(ht:t.cap=.nil)(st:ISt):ICall prog gl 165 [.sl t [],.fn (.func 104) [] []] st (λr st'=>r=.tup []/\st'=st):=by
 obtain⟨fs,c,es⟩:=t;obtain rfl:c=.nil:=ht;intro B X rs hg hst hv;obtain⟨r0,r1,rfl⟩:∃r0 r1,rs=[r0,r1]:=by
  match rs,hv with
  | [a,b],_=>exact⟨a,b,rfl⟩
  | [],hv=>cases hv.1
  | [_],hv=>cases hv.1
  | _::_::_::_,hv=>cases hv.1
 obtain⟨p,cap,rfl⟩:∃p cap,r0=.slice p 0 cap:=by
  have:=hv.2 0 r0 _ rfl rfl;obtain⟨a,cap,_,_,rfl,_⟩:=jo this;exact⟨a,cap,rfl⟩
 refine Calls.mono (AnyF.slices_SortFunc_none nX p cap r1 X.w) ?_;rintro e w' ⟨rfl,rfl⟩;exact⟨_,rfl,X,.tup [],rfl,hg,Ext.refl X,.tup [] [] rfl (λi r c h=>by simp at h),rfl,hst⟩
noncomputable def ddF (p:Fm):List Fm->List Fm
 | []=>[]
 | b::l=>if eK b p=0 then ddF b l else b::ddF b l
noncomputable def dd:List Fm->List Fm
 | []=>[]
 | a::l=>a::ddF a l
theorem ET:∀(p:Fm)(l:List Fm)(a b:Fm),(p::l).getLast?=some a->ddF p (l++[b])=ddF p l++(if eK b a=0 then [] else [b])
 | p,[],a,b,h=>by
  simp only[List.getLast?_singleton,Option.some.injEq] at h;subst h;simp only[List.nil_append,ddF]
 | p,c::l,a,b,h=>by
  rw[List.getLast?_cons_cons] at h;simp only[List.cons_append,ddF,ET c l a b h];split<;>rfl
theorem Nu:∀(l:List Fm)(a b:Fm),l.getLast?=some a->dd (l++[b])=dd l++(if eK b a=0 then [] else [b])
 | p::l,a,b,h=>by simp only[List.cons_append,dd,ET p l a b h]
theorem EU {m:List Fm}{k:Nat}{a b:Fm}(ha:m[k]?=some a)(hb:m[k+1]?=some b):dd (m.take (k+1+1))=dd (m.take (k+1))++(if eK b a=0 then [] else [b]):=by
 rw[dM hb];exact Nu _ a b (by rw[dM ha,List.getLast?_concat])
theorem EV:∀(p:Fm)(l:List Fm),(p::l).Pairwise (λx y=>¬ eK y x<0)->(∀f,f∈p::ddF p l↔f∈p::l)/\(p::ddF p l).Pairwise (λx y=>eK x y<0)
 | p,[],_=>⟨λf=>Iff.rfl,List.pairwise_singleton ..⟩
 | p,b::l,h=>by
  have h1:=List.pairwise_cons.1 h;obtain⟨i1,i2⟩:=EV b l h1.2;simp only[ddF];by_cases hc:eK b p=0
  ·have hbp:=(kc b p).1 hc;subst hbp;rw[if_pos hc];refine⟨λf=>?_,i2⟩;rw[i1 f];simp
  ·rw[if_neg hc];have hlt:eK p b<0:=by
    have:=h1.1 b (by simp);have:=qp b p;omega
   refine⟨λf=>?_,List.pairwise_cons.2 ⟨λf hf=>?_,i2⟩⟩
   ·rw[List.mem_cons,i1 f,List.mem_cons (l:=b::l)]
   ·rcases List.mem_cons.1 hf with rfl|hf
    ·exact hlt
    ·exact oR _ _ _ hlt ((List.pairwise_cons.1 i2).1 f hf)
theorem u7 (l m:List Fm)(hp:m.Perm l)(h:m.Pairwise (λx y=>¬ eK y x<0)):SetF l (dd m):=by
 cases m with
 | nil =>
  obtain rfl:=List.Perm.nil_eq hp;exact⟨List.Pairwise.nil,λf=>Iff.rfl⟩
 | cons a m =>
  obtain⟨h1,h2⟩:=EV a m h;exact⟨h2,λf=>(h1 f).trans hp.mem_iff⟩
theorem rd4 {ys rest cs:List IV}(hf:∀y∈ys,y.cells.length=4)(hlen:cs.length=(ys.flatMap IV.cells++rest).length){i:Nat}{y:IV}(hy:ys[i]?=some y)(hc:∀j,i*4<=j->cs[j]?=(ys.flatMap IV.cells++rest)[j]?) :
  i*4+4<=cs.length/\(cs.drop (i*4)).take 4=y.cells:=by
 have hi:=(lGs hy).1;have h0:ys.flatMap IV.cells=(ys.take i).flatMap IV.cells++(y.cells++(ys.drop (i+1)).flatMap IV.cells):=by
  conv=>lhs;rw[<- List.take_append_drop i ys,List.drop_eq_getElem_cons hi,(lGs hy).2]
  rw[List.flatMap_append,List.flatMap_cons]
 have h1:((ys.take i).flatMap IV.cells).length=i*4:=by
  rw[gS _ λz hz=>hf z (List.mem_of_mem_take hz),List.length_take];omega
 have hy4:=hf y (lMg hy);have hd:cs.drop (i*4)=(ys.flatMap IV.cells++rest).drop (i*4):=by
  apply List.ext_getElem?;intro j;rw[List.getElem?_drop,List.getElem?_drop,hc _ (by omega)]
 refine⟨?_,?_⟩
 ·rw[hlen,h0];simp only[lLa,h1,hy4];omega
 ·rw[hd,h0,List.append_assoc,List.drop_left' h1,List.append_assoc,List.take_left' hy4]
theorem EW:∀ {l:List Fm}{xs:List IV}(k:Nat),IsFms l xs->IsFms (l.take k) (xs.take k)
 | [],_,k,rfl=>by simp[IsFms]
 | a::l,_,0,_=>by simp[IsFms]
 | a::l,_,k+1,⟨y,ys,rfl,hy,h⟩=>by
  rw[List.take_succ_cons,List.take_succ_cons];exact⟨y,ys.take k,rfl,hy,EW k h⟩
theorem st4 {cs l:List IV}{k n:Nat}(hl:l.length=n)(h:k*4+n<=cs.length):(fu cs (k*4) l).length=cs.length/\(fu cs (k*4) l).take (k*4)=cs.take (k*4)/\(fu cs (k*4) l).take (k*4+n)=cs.take (k*4)++l/\∀i,k*4+n<=i->(fu cs (k*4) l)[i]?=cs[i]?:=by
 have h1:(cs.take (k*4)).length=k*4:=by rw[List.length_take];omega
 have h2:(cs.take (k*4)++l).length=k*4+n:=by rw[lLa,h1,hl]
 unfold fu;refine⟨?_,?_,List.take_left' h2,λi hi=>?_⟩
 ·rw[lLa,h2,List.length_drop,hl];omega
 ·rw[List.append_assoc,List.take_left' h1]
 ·rw[List.getElem?_append_right (by omega),h2,List.getElem?_drop,hl];congr 1;omega
theorem u9 {k n:Nat}(h:k<=n):gq (some ((k:Nat):Int)) none n=some (k,n):=by
 simp only[gq,Option.getD_none,Option.getD_some];rw[if_pos ⟨by omega,by omega,Int.le_refl _⟩];simp
theorem y_ {k n:Nat}(h:k<=n):gq none (some ((k:Nat):Int)) n=some (0,k):=by
 simp only[gq,Option.getD_none,Option.getD_some];rw[if_pos ⟨Int.le_refl _,by omega,by omega⟩];simp
theorem EX (qf:FuncId)(ce:entI prog qf=true)(hcmp:∀a b x y,IsFm a x->IsFm b y->∀st,ICall prog gl qf [x,y] st (λr st'=>r=.raw (.bool (decide (eK a b=0)))/\st'=st))(m:List Fm)(ys rest:List IV)(hx:IsFms m ys)(hlen:m.length<=1099511627776)(g cap:Nat)(hcap:m.length<=cap)(st:ISt)(hb:st g=some (.box (ys.flatMap IV.cells++rest))) :
  ICall prog gl 166 [.raw (.slice (some ⟨g,0,none⟩) m.length cap),.fn (.func qf) [] []] st
   (λr st'=>∃k cs zs,r=.raw (.slice (some ⟨g,0,none⟩) k cap)/\st'=st.put g (some (.box cs))/\cs.length=(ys.flatMap IV.cells++rest).length/\cs.take (k*4)=zs.flatMap IV.cells/\IsFms (dd m) zs/\zs.length=k/\k<=m.length/\∀z∈zs,z∈ys):=by
 have hf4:∀y∈ys,y.cells.length=4:=λy hy=>rX (nU hx y hy);have hyl:=hx.len;have hput:st.put g (some (.box (ys.flatMap IV.cells++rest)))=st:=jy hb;have same:∀k,dd (m.take k)=m.take k->k=m.length->∃k cs zs,IV.raw (.slice (some ⟨g,0,none⟩) m.length cap)=.raw (.slice (some ⟨g,0,none⟩) k cap)/\st=st.put g (some (.box cs))/\cs.length=(ys.flatMap IV.cells++rest).length/\cs.take (k*4)=zs.flatMap IV.cells/\IsFms (dd m) zs/\zs.length=k/\k<=m.length/\∀z∈zs,z∈ys:=by
  intro k hk hkl;rw[hkl,lTl] at hk;refine⟨m.length,_,ys,rfl,hput.symm,rfl,?_,by rw[hk];exact hx,hyl,Nat.le_refl _,λ_ h=>h⟩;rw[<- hyl,List.take_left' (gS _ hf4)]
 refine ICall.intro (c:=cf prog gl [22,27,42,47] []) func166 rfl (by show _<=66;simp) (by kernel_rfl) ?_;by_cases h2:m.length<2
 ·have d2:decide (((m.length:Nat):Int)<2)=true:=dEt (by omega);simp only[go_sem,zE,zB,zA,zM,zS,zL,reduceCtorEq,d2];refine c_ (same m.length ?_ rfl);rw[lTl]
  match m,h2 with
  | [],_=>rfl
  | [a],_=>rfl
 ·have d2:decide (((m.length:Nat):Int)<2)=false:=dEf (by omega);simp only[go_sem,zE,zB,zA,zM,zS,zL,reduceCtorEq,d2];refine dt (m.length-1) (λc fr st' ds=>dd (m.take (c+1))=m.take (c+1)/\fr 0=.iv (.raw (.slice (some ⟨g,0,none⟩) m.length cap))/\fr 1=.iv (.fn (.func qf) [] [])/\fr 5=.iv (.raw (.int .i64 ((c+1:Nat):Int)))/\st'=st/\ds=[]) ?_ ?_ ?_
  ·simp only[go_sem,zE,zB,zA,zM,zS,zL,reduceCtorEq];refine⟨?_,rfl⟩
   match m,h2 with
   | [],h=>exact absurd (show 0<2 by decide) h
   | [a],h=>exact absurd (show 1<2 by decide) h
   | a::b::l,_=>rfl
  ·rintro c fr st1 _ hlt ⟨hd,f0,f1,f5,rfl,rfl⟩;have hlt':c+1<m.length:=by omega
   obtain⟨a,ha⟩:=dD (l:=m) (k:=c) (by omega);obtain⟨b,hbm⟩:=dD hlt';obtain⟨x,hkx,hxa⟩:=hx.get ha;obtain⟨y,hky,hyb⟩:=hx.get hbm;have hcall:=hcmp b a y x hyb hxa st1;obtain⟨rx1,rx2⟩:=rd4 (rest:=rest) hf4 rfl hkx (λ_ _=>rfl);obtain⟨ry1,ry2⟩:=rd4 (rest:=rest) hf4 rfl hky (λ_ _=>rfl);obtain⟨x1,x2,x3,x4,x5,x6,rfl⟩:=hxa.agg;obtain⟨y1,y2,y3,y4,y5,y6,rfl⟩:=hyb.agg;simp only[IV.cells] at rx2 ry2;have hw:IntKind.i64.wrap (((c+1:Nat):Int)-1)=(c:Nat):=by rw[w64 (by omega) (by omega)];omega
   simp only[go_sem,zE,zB,zA,zM,zS,zL,reduceCtorEq,f0,f1,f5,lt_i hlt',hw,hlt',show c<m.length by omega,iNn,hb,rx1,ry1,rx2,ry2,fits,ce];refine hcall.mono ?_;rintro _ st1 ⟨rfl,rfl⟩;have hds:=EU ha hbm;by_cases he:eK b a=0
   ·rw[if_pos he,List.append_nil,hd] at hds;have hcne:¬ cap=c+1:=by omega
    simp only[go_sem,zE,zB,zA,zM,zS,zL,reduceCtorEq,dEt he,f0,f1,f5,u9 (show c+1<=m.length by omega),hcap,hcne];refine dt (m.length-(c+1)-1) (λj fr st' ds=>(∃k cs zs,fr 5=.iv (.raw (.int .i64 ((k:Nat):Int)))/\st'=st1.put g (some (.box cs))/\cs.length=(ys.flatMap IV.cells++rest).length/\cs.take (k*4)=zs.flatMap IV.cells/\IsFms (dd (m.take (c+1+j+1))) zs/\zs.length=k/\k<=c+1+j/\(∀z∈zs,z∈ys)/\∀i,(c+1+j)*4<=i->cs[i]?=(ys.flatMap IV.cells++rest)[i]?) /\
     fr 0=.iv (.raw (.slice (some ⟨g,0,none⟩) m.length cap))/\fr 1=.iv (.fn (.func qf) [] [])/\fr 6=.iv (.raw (.slice (some ⟨g,(c+1)*4,none⟩) (m.length-(c+1)) (cap-(c+1))))/\fr 7=.iv (.raw (.int .i64 ((j+1:Nat):Int)))/\ds=[]) ?_ ?_ ?_
    ·simp only[go_sem,zE,zB,zA,zM,zS,zL,reduceCtorEq];refine⟨⟨c+1,ys.flatMap IV.cells++rest,ys.take (c+1),f5,(jy hb).symm,rfl,?_,?_,?_,Nat.le_refl _,λz hz=>List.mem_of_mem_take hz,λ_ _=>rfl⟩,f0,f1,rfl⟩
     ·conv=>lhs;rw[<- List.take_append_drop (c+1) ys]
      rw[List.flatMap_append,List.append_assoc,List.take_left' (by rw[gS _ λz hz=>hf4 z (List.mem_of_mem_take hz),List.length_take];omega)]
     ·rw[hds];exact EW _ hx
     ·rw[List.length_take];omega
    ·rintro j fr st2 _ hj ⟨⟨k,cs,zs,f5,rfl,hcl,hct,hz,hzl,hk,hzm,hcs⟩,f0,f1,f6,f7,rfl⟩;obtain⟨a',ha'⟩:=dD (l:=m) (k:=c+1+j) (by omega);obtain⟨b',hb'⟩:=dD (l:=m) (k:=c+1+j+1) (by omega);obtain⟨x',hkx',hxa'⟩:=hx.get ha';obtain⟨y',hky',hyb'⟩:=hx.get hb';have hyb0:=hyb';have hcall':=hcmp b' a' y' x' hyb' hxa' (st1.put g (some (.box cs)));obtain⟨rx1',rx2'⟩:=rd4 hf4 hcl hkx' hcs;obtain⟨ry1',ry2'⟩:=rd4 hf4 hcl hky' (λi hi=>hcs i (by omega));have hy4:=hf4 y' (lMg hky');obtain⟨p1,p2,p3,p4,p5,p6,rfl⟩:=hxa'.agg;obtain⟨q1,q2,q3,q4,q5,q6,rfl⟩:=hyb'.agg;simp only[IV.cells] at rx2' ry2' hy4;have hw':IntKind.i64.wrap (((j+1:Nat):Int)-1)=(j:Nat):=by rw[w64 (by omega) (by omega)];omega
     have o1:(c+1)*4+j*4=(c+1+j)*4:=by omega
     have o2:(c+1)*4+(j+1)*4=(c+1+j+1)*4:=by omega
     have hj1:j+1<m.length-(c+1):=by omega
     have hj0:j<m.length-(c+1):=by omega
     have hds':=EU ha' hb';simp only[go_sem,zE,zB,zA,zM,zS,zL,reduceCtorEq,f0,f1,f5,f6,f7,lt_i hj1,hj0,hj1,hw',iNn,b_,o1,o2,rx1',ry1',rx2',ry2',fits,ce];refine hcall'.mono ?_;rintro _ _ ⟨rfl,rfl⟩;by_cases he':eK b' a'=0
     ·rw[if_pos he',List.append_nil] at hds';simp only[go_sem,zE,zB,zA,zM,zS,zL,reduceCtorEq,dEt he',f0,f1,f5,f6,f7,dL hj1 (show m.length-(c+1)<=281474976710656 by omega)];exact⟨k,cs,zs,rfl,rfl,hcl,hct,by rw[show c+1+(j+1)+1=c+1+j+1+1 by omega,hds'];exact hz,hzl,by omega,hzm,λi hi=>hcs i (by omega)⟩
     ·rw[if_neg he'] at hds';have hkm:k<m.length:=by omega
      have hk4:k*4+4<=cs.length:=by omega
      obtain⟨s1,s2,s3,s4⟩:=st4 hy4 hk4;simp only[go_sem,zE,zB,zA,zM,zS,zL,reduceCtorEq,dEf he',f0,f1,f5,f6,f7,hj1,hkm,iNn,b_,o2,ry1',ry2',hk4,fits,dL hkm (show m.length<=281474976710656 by omega),dL hj1 (show m.length-(c+1)<=281474976710656 by omega)];refine⟨k+1,fu cs (k*4) [.raw (.int .u8 q1),.raw (.string q2),.sl q3 q4,.sl q5 q6],zs++[.agg [.raw (.int .u8 q1),.raw (.string q2),.sl q3 q4,.sl q5 q6]],rfl,by rw[eN];rfl,s1.trans hcl,?_,?_,by simp[hzl],by omega,λz hz=>by
        rcases List.mem_append.1 hz with hz|hz
        ·exact hzm z hz
        ·rw[List.mem_singleton.1 hz];exact lMg hky',λi hi=>(s4 i (by omega)).trans (hcs i (by omega))⟩
      ·rw[show (k+1)*4=k*4+4 by omega,s3,hct,List.flatMap_append];simp[IV.cells]
      ·rw[show c+1+(j+1)+1=c+1+j+1+1 by omega,hds'];exact hz.append ⟨_,_,rfl,hyb0,rfl⟩
    ·rintro fr st2 _ ⟨⟨k,cs,zs,f5,rfl,hcl,hct,hz,hzl,hk,hzm,hcs⟩,f0,f1,f6,f7,rfl⟩;have hkm:k<m.length:=by omega
     have hck:¬ cap=k:=by omega
     have hmk:¬ m.length-k=0:=by omega
     have hlen4:m.length*4<=cs.length:=by rw[hcl,lLa,gS _ hf4];omega
     have hk4:k*4+(m.length-k)*4<=cs.length:=by omega
     obtain⟨s1,s2,s3,s4⟩:=st4 (cs:=cs) (k:=k) (l:=List.replicate ((m.length-k)*4) .junk) (List.length_replicate ..) hk4;rw[show m.length-(c+1)-1+1=m.length-(c+1) by omega] at f7;simp only[go_sem,zE,zB,zA,zM,zS,zL,reduceCtorEq,f0,f1,f5,f6,f7,dS (nLi _),u9 (show k<=m.length by omega),y_ (show k<=cap by omega),hcap,hck,hmk,b_,hk4,ite_self,Nat.zero_mul];rw[show c+1+(m.length-(c+1)-1)+1=m.length by omega,lTl] at hz;exact c_ ⟨k,fu cs (k*4) (List.replicate ((m.length-k)*4) .junk),zs,rfl,by rw[eN];rfl,s1.trans hcl,s2.trans hct,hz,hzl,by omega,hzm⟩
   ·rw[if_neg he,hd] at hds;simp only[go_sem,zE,zB,zA,zM,zS,zL,reduceCtorEq,dEf he,f0,f1,f5,dL hlt' (show m.length<=281474976710656 by omega)];rw[hds,dM hbm]
  ·rintro fr st1 _ ⟨hd,f0,f1,f5,rfl,rfl⟩;rw[show m.length-1+1=m.length by omega] at hd f5;simp only[go_sem,zE,zB,zA,zM,zS,zL,reduceCtorEq,f0,f5,dS (nLi _)];exact c_ (same m.length hd rfl)
theorem Nv (a b:Fm)(x y:IV)(hx:IsFm a x)(hy:IsFm b y)(st:ISt):ICall prog gl 80 [x,y] st (λr st'=>r=.raw (.bool (decide (eK a b=0)))/\st'=st):=EK gl a b x y hx hy st
end Go.Proofs.Tryz
namespace Go.Proofs.Tryz
open Go Go.Iv
open Classical in
noncomputable def setF (l:List Fm):List Fm:=if h:∃r,SetF l r then h.choose else []
theorem my {l r:List Fm}(h:SetF l r):setF l=r:=by
 have he:∃r,SetF l r:=⟨r,h⟩
 unfold setF;rw[dif_pos he];exact SetF.one he.choose_spec h
theorem EY:setF []=[]:=my ⟨List.Pairwise.nil,λ_=>Iff.rfl⟩
theorem EZ {α:Type}(p q:α->Bool)(h:∀x,¬ (p x=true/\q x=true)):∀l:List α,(l.filter p).length+(l.filter q).length<=l.length
 | []=>by simp
 | a::l=>by
  have ih:=EZ p q h l;grind
theorem za:∀l:List Fm,∃r,SetF l r/\r.length<=l.length
 | []=>⟨[],⟨List.Pairwise.nil,λ_=>Iff.rfl⟩,Nat.le_refl _⟩
 | a::l=>by
  obtain⟨r,⟨h1,h2⟩,h3⟩:=za l;by_cases ha:a∈r
  ·refine⟨r,⟨h1,λf=>?_⟩,by simp only[List.length_cons];omega⟩;grind
  ·have hx:∀x∈r,eK x a<0\/eK a x<0:=λx hx=>by
    have h0:eK a x≠0:=λh=>ha (((kc a x).1 h)▸hx);have hn:=qp a x;omega
   have h4:=EZ (λx=>decide (eK x a<0)) (λx=>decide (eK a x<0)) (λx ⟨q1,q2⟩=>by
    have q1:=of_decide_eq_true q1;have q2:=of_decide_eq_true q2;have hn:=qp a x;omega) r
   refine⟨r.filter (λx=>decide (eK x a<0))++a::r.filter (λx=>decide (eK a x<0)),⟨?_,λf=>?_⟩,by simp only[lLa,List.length_cons];omega⟩
   ·refine List.pairwise_append.2 ⟨h1.filter _,List.pairwise_cons.2 ⟨λy hy=>?_,h1.filter _⟩,λx hxm y hy=>?_⟩
    ·grind
    ·have hxa:=of_decide_eq_true (List.mem_filter.1 hxm).2;rcases List.mem_cons.1 hy with rfl|hy
     ·exact hxa
     ·exact oR _ _ _ hxa (of_decide_eq_true (List.mem_filter.1 hy).2)
   ·grind
theorem zb (l:List Fm):SetF l (setF l):=by
 obtain⟨r,h,_⟩:=za l;rw[my h];exact h
theorem Nw (l:List Fm):setF (setF l)=setF l:=my ⟨(zb l).1,λ_=>Iff.rfl⟩
end Go.Proofs.Tryz
namespace Go.Proofs.Tryz
open Go Go.Iv
set_option maxRecDepth 4000
variable (gl:Nat->Option IV)
noncomputable def iC (l:List Fm):List Fm×Nat:=if l.all Fm.right then (setF (l.map lV),0) else ([],2)
theorem E0 (qf:FuncId)(t:Tag)(ht:t.cap=.nil)(st:ISt):ICall prog gl 166 [.sl t [],.fn (.func qf) [] []] st (λr st'=>(∃t',r=.sl t' []/\t'.cap=.nil)/\st'=st):=by
 obtain⟨fs,c,es⟩:=t;obtain rfl:c=.nil:=ht;refine ICall.intro (c:=cf prog gl [22,27,42,47] []) func166 rfl (by show _<=66;simp) (by kernel_rfl) ?_;simp only[go_sem,zL,reduceCtorEq,show decide (((0:Nat):Int)<2)=true from rfl];exact c_ ⟨⟨_,rfl,rfl⟩,rfl⟩
theorem Nx {l:List IV}(h:∀x∈l,dfr x):dfrs l:=by
 induction l with
 | nil=>trivial
 | cons x l ih=>exact⟨h x (by simp),ih λy hy=>h y (by simp[hy])⟩
theorem Ny {l m:List Fm}(hp:m.Perm l)(h:m.Pairwise (λx y=>¬ eK y x<0))(hl:0<l.length):0<(setF l).length:=by
 rw[my (u7 _ m hp h)];have:=hp.length_eq
 match m,this with
 | [],e=>simp at e;omega
 | a::m,_=>simp[dd]
theorem E1 (G:Gl gl)(T:Gt gl)(l:List Fm)(tg:Tag)(xs:List IV)(htg:okEs tg 4)(hx:IsFms l xs)(hs:fitL l)(hlen:l.length<=1099511627776)(st:ISt) :
  ICall prog gl 177 [.sl tg xs] st (λr st'=>(∃t ys,r=.tup [.sl t ys,.raw (.int .i64 (iC l).2)]/\okEs t 4/\appT (iC l).1.length t/\IsFmsD (iC l).1 ys)/\st'=st):=by
 refine rU (ICall.mono (K:=λy st'=>(l.all Fm.right=false/\y=.tup [.sl ⟨true,.nil,0⟩ [],.raw (.int .i64 2)]/\st'=st)\/(l=[]/\(∃t,y=.tup [.sl t [],.raw (.int .i64 0)]/\t.cap=.nil)/\st'=st) \/
   (l.all Fm.right=true/\∃g cap k cs zs,st g=none/\k<=cap/\cap*4<=cs.length/\cs.take (k*4)=zs.flatMap IV.cells/\0<k/\IsFmsD (setF (l.map lV)) zs/\zs.length=k/\k<=l.length/\y=.tup [.raw (.slice (some ⟨g,0,none⟩) k cap),.raw (.int .i64 0)]/\st'=st.put g (some (.box cs)))) ?_ ?_)
 ·refine ICall.intro (c:=cf prog gl [26] []) func177 rfl (by show _<=32;simp) (by kernel_rfl) ?_;simp only[go_sem,reduceCtorEq,hx.len];intro _;refine dt l.length (λk fr st' ds=>(l.take k).all Fm.right=true/\((k=0/\fr 4=.iv (.sl ⟨true,.nil,0⟩ [])/\st'=st)\/(0<k/\∃g cap cs zs,st g=none/\k<=cap/\cap*4<=cs.length/\cs.take (k*4)=zs.flatMap IV.cells/\IsFmsD ((l.take k).map lV) zs/\zs.length=k/\fr 4=.iv (.raw (.slice (some ⟨g,0,none⟩) k cap))/\st'=st.put g (some (.box cs)))) /\
   fr 9=.iv (.sl tg xs)/\fr 10=.iv (.raw (.int .i64 l.length))/\fr 11=.iv (.raw (.int .i64 k))/\ds=[]) ?_ ?_ ?_
  ·simp only[go_sem,zE,zM];rfl
  ·rintro k fr st1 _ hlt ⟨hall,hor,f9,f10,f11,rfl⟩;obtain⟨a,ha⟩:=dD hlt;obtain⟨y,hky,hya⟩:=hx.get ha;have ham:=lMg ha;have hcall:=LN gl G T a y hya (hs a ham) st1;obtain⟨y1,y2,y3,y4,y5,y6,rfl⟩:=hya.agg;simp only[go_sem,zE,zB,zA,zL,reduceCtorEq,f9,f10,f11,lt_i hlt,dB htg,iNn,hky,fits];refine hcall.mono ?_;rintro _ st1 ⟨y',rfl,hyD,rfl⟩;have hy':=hyD.1;unfold lX at hy';cases hr:a.right
   ·rw[hr] at hy';simp only[bFt,if_false] at hy';obtain⟨z1,z2,z3,z4,z5,z6,rfl⟩:=hy'.agg;unfold lX;rw[hr];simp only[bFt,if_false];simp only[go_sem,zE,zA,zL,show decide (((2:Nat):Int)=0)=false from rfl];have hsub:subSt st st1:=by
     rcases hor with⟨_,_,h⟩|⟨_,g,cap,cs,zs,hg,_,_,_,_,_,_,h⟩
     ·rw[h];exact subSt.refl _
     ·rw[h];exact fb hg
    exact eI hsub (.inl ⟨List.all_eq_false.2 ⟨a,ham,by simp[hr]⟩,rfl,rfl⟩)
   ·rw[hr] at hy';simp only[if_true] at hy';rw[show (lX a).1=lV a by unfold lX;rw[hr];simp] at hyD;have hy0:=hyD;obtain⟨z1,z2,z3,z4,z5,z6,rfl⟩:=hy'.agg;unfold lX;rw[hr];simp only[if_true];have hall':(l.take (k+1)).all Fm.right=true:=by
     rw[dM ha,List.all_append,hall];simp[hr]
    rcases hor with⟨rfl,f4,rfl⟩|⟨hk0,g,cap,cs,zs,hg,h1,h2,h3,hz,hzl,f4,rfl⟩
    ·simp only[go_sem,zE,zA,zM,zL,show decide (((0:Nat):Int)=0)=true from rfl,fits,f4,eh];intro g cap;refine d_ λhg=>?_;obtain⟨hg,hcap⟩:=hg;simp only[go_sem,zE,f9,f10,f11,show IntKind.i64.wrap (((0:Nat):Int)+1)=((1:Nat):Int) from rfl];have hl1:(l.take 1).map lV=[lV a]:=by
      have:=dM ha;simp only[Nat.zero_add,List.take_zero,List.nil_append] at this;rw[this];rfl
     refine⟨by simpa using hall',.inr ⟨by omega,g,cap,_,[.agg [.raw (.int .u8 z1),.raw (.string z2),.sl z3 z4,.sl z5 z6]],hg,hcap,?_,?_,by rw[hl1];exact IsFmsD.one hy0,rfl,rfl,rfl⟩⟩
     ·simp[IV.cells];omega
     ·simp[IV.cells]
    ·simp only[go_sem,zE,zA,zM,zL,show decide (((0:Nat):Int)=0)=true from rfl,fits,f4,eh];have hkk:k<=1099511627776:=by omega
     refine kN _ _ _ (b_ ..) (by simp[fits,IV.one]) ⟨by show (_+1)*72<=_;omega,by show _+1<=_;omega⟩ ⟨h1,h2⟩ (by simp[IV.cells]) ?_;intro g' cap' cs' hg' q1 q2 q3;have hst':((st.put g (some (.box cs))).put g none).put g' (some (.box cs'))=st.put g' (some (.box cs')):=by
      funext c;simp only[ISt.put_apply];split
      ·rfl
      ·split
       ·subst_vars;exact hg.symm
       ·rfl
     have hg1:st g'=none:=by
      rcases hg' with rfl|h
      ·exact hg
      ·rw[ISt.put_apply] at h;split at h
       ·cases h
       ·exact h
     simp only[go_sem,zE,f9,f10,f11,dL hlt (show l.length<=281474976710656 by omega)];refine⟨hall',.inr ⟨by omega,g',cap',cs',zs++[.agg [.raw (.int .u8 z1),.raw (.string z2),.sl z3 z4,.sl z5 z6]],hg1,q1,q2,?_,?_,by simp[hzl],rfl,hst'⟩⟩
     ·rw[List.flatMap_append,<- h3];exact q3
     ·rw[dM ha,List.map_append];exact hz.append (IsFmsD.one hy0)
  ·rintro fr st1 _ ⟨hall,hor,f9,f10,f11,rfl⟩;rw[lTl] at hall hor;rcases hor with⟨h0,f4,rfl⟩|⟨hk0,g,cap,cs,zs,hg,h1,h2,h3,hz,hzl,f4,rfl⟩
   ·simp only[go_sem,zE,zA,f4,f10,f11,dS (nLi _)];refine (ER gl _ rfl _).mono ?_;rintro _ _ ⟨rfl,rfl⟩;simp only[go_sem,zE,zA,f4];refine (E0 gl _ _ rfl _).mono ?_;rintro _ _ ⟨⟨t',rfl,ht'⟩,rfl⟩;simp only[go_sem,zE];exact c_ (.inr (.inl ⟨List.eq_nil_of_length_eq_zero h0,⟨t',rfl,ht'⟩,rfl⟩))
   ·have hcs:cs=zs.flatMap IV.cells++cs.drop (l.length*4):=by rw[<- h3,List.take_append_drop]
    have hzl':=hz.len;have hsort:=EP gl (l.map lV) zs (cs.drop (l.length*4)) hz.1 (by rintro rfl;simp at hzl;omega) (by omega) g cap (st.put g (some (.box cs))) (by rw[b_,<- hcs]);rw[hzl] at hsort;simp only[go_sem,zE,zA,f4,f10,f11,dS (nLi _)];refine hsort.mono ?_;rintro _ _ ⟨rfl,m,ys,hm,hperm,hpw,hym,rfl⟩;have hml:m.length=l.length:=by rw[hperm.length_eq,List.length_map]
    have hcom:=EX gl 80 (by kernel_rfl) (Nv gl) m ys (cs.drop (l.length*4)) hm (by omega) g cap (by omega) ((st.put g (some (.box cs))).put g (some (.box (ys.flatMap IV.cells++cs.drop (l.length*4))))) (b_ ..);rw[hml] at hcom;simp only[go_sem,zE,zA,f4];refine hcom.mono ?_;rintro _ _ ⟨k,cs2,zs2,rfl,rfl,hl2,ht2,hz2,hzl2,hk2,hzm2⟩;rw[eN,eN];simp only[go_sem,zE];have hyl:(ys.flatMap IV.cells).length=l.length*4:=by rw[gS _ λy hy=>rX (nU hm y hy),hm.len,hml]
    rw[lLa,hyl,List.length_drop] at hl2;exact c_ (.inr (.inr ⟨hall,g,cap,k,cs2,zs2,hg,by omega,by omega,ht2,by
     have h1:=Ny hperm hpw (by rw[List.length_map];exact hk0);rw[my (u7 _ m hperm hpw),<- hz2.len,hzl2] at h1;exact h1,by rw[my (u7 _ m hperm hpw)];exact⟨hz2,Nx λz hz'=>Ck hz.2 (hym z (hzm2 z hz'))⟩,hzl2,hk2,rfl,rfl⟩))
 ·rintro y st' (⟨ha,rfl,rfl⟩|⟨rfl,⟨t,rfl,ht⟩,rfl⟩|⟨ha,g,cap,k,cs,zs,hg,hc1,hc2,hct,hk0,hz,hzl,hkl,rfl,rfl⟩)
  ·have hn:iC l=([],2):=by unfold iC;rw[ha];rfl
   exact .inl ⟨⟨_,_,by rw[hn];rfl,.inl rfl,.inl rfl,by rw[hn];exact IsFmsD.nil⟩,rfl⟩
  ·have hn:iC []=([],0):=by unfold iC;simp only[List.all_nil,if_true,List.map_nil,EY]
   exact .inl ⟨⟨_,_,by rw[hn];rfl,.inl ht,.inl ht,by rw[hn];exact IsFmsD.nil⟩,rfl⟩
  ·have hn:iC l=(setF (l.map lV),0):=by unfold iC;rw[ha];rfl
   exact .inr ⟨g,k,cap,cs,4,zs,_,hg,rfl,rfl,hzl,by omega,hc1,hc2,hct,λz hz'=>rX (nU hz.1 z hz'),⟨_,_,by rw[hn];rfl,.inr rfl,.inr ⟨by rw[hn];simp only;rw[<- hz.len,hzl];exact hk0,rfl,g,rfl⟩,by rw[hn];exact hz⟩,rfl⟩
noncomputable def SetS (s:Sq):Sq×Nat :=
 if (iC s.l).2≠0 then (⟨[],[]⟩,(iC s.l).2) else if (iC s.r).2≠0 then (⟨[],[]⟩,(iC s.r).2) else (⟨(iC s.l).1,(iC s.r).1⟩,0)
theorem Nz (G:Gl gl)(T:Gt gl)(s:Sq)(x:IV)(hx:IsSq s x)(hs:fY s)(hl:s.l.length<=1099511627776/\s.r.length<=1099511627776)(st:ISt) :
  ICall prog gl 130 [x] st (λr st'=>(∃y,r=.tup [y,.raw (.int .i64 (SetS s).2)]/\IsSqD (SetS s).1 y)/\st'=st):=by
 obtain⟨t1,x1,t2,x2,rfl,e1,i1,e2,i2⟩:=hx;have h1:=λst=>E1 gl G T s.l t1 x1 e1 i1 hs.1 hl.1 st;have h2:=λst=>E1 gl G T s.r t2 x2 e2 i2 hs.2 hl.2 st;unfold SetS;refine iI func130 ?_;simp only[go_sem,zE,zA];refine (h1 _).mono ?_;rintro _ st ⟨⟨t3,y1,rfl,e3,a3,j1⟩,rfl⟩;by_cases q1:(iC s.l).2=0
 ·rw[if_neg (by omega)];simp only[go_sem,zE,zA,q1,show decide (((0:Nat):Int)=0)=true from rfl];refine (h2 _).mono ?_;rintro _ st ⟨⟨t4,y2,rfl,e4,a4,j2⟩,rfl⟩;by_cases q2:(iC s.r).2=0
  ·rw[if_neg (by omega)];simp only[go_sem,zE,zA,zL,q2,show decide (((0:Nat):Int)=0)=true from rfl,fits];exact c_ ⟨⟨_,rfl,_,_,_,_,rfl,e3,a3,j1,e4,a4,j2⟩,rfl⟩
  ·rw[if_pos q2];simp only[go_sem,zE,zA,zL,show decide ((((iC s.r).2:Nat):Int)=0)=false from dEf (by omega)];exact c_ ⟨⟨_,rfl,_,_,_,_,rfl,.inl rfl,.inl rfl,IsFmsD.nil,.inl rfl,.inl rfl,IsFmsD.nil⟩,rfl⟩
 ·rw[if_pos q1];simp only[go_sem,zE,zA,zL,show decide ((((iC s.l).2:Nat):Int)=0)=false from dEf (by omega)];exact c_ ⟨⟨_,rfl,_,_,_,_,rfl,.inl rfl,.inl rfl,IsFmsD.nil,.inl rfl,.inl rfl,IsFmsD.nil⟩,rfl⟩
theorem NA (G:Gl gl)(T:Gt gl)(s:Sq)(x:IV)(hx:IsSq s x)(hs:fY s)(hl:s.l.length<=1099511627776/\s.r.length<=1099511627776)(st:ISt) :
  ICall prog gl 130 [x] st (λr st'=>(∃y,r=.tup [y,.raw (.int .i64 (SetS s).2)]/\IsSq (SetS s).1 y)/\st'=st) :=
 (Nz gl G T s x hx hs hl st).mono λr st' ⟨⟨y,h1,h2⟩,h3⟩=>⟨⟨y,h1,h2.w⟩,h3⟩
noncomputable def nY (ca rule:Nat)(main:Fm)(term:Tm)(name:ByteArray):List Sq×Nat :=
 if !gR ca then ([],2) else match rowS ca rule with
  | none=>([],191)
  | some r=>fQ ca rule r main term name
theorem NB (G:Gl gl)(T:Gt gl)(ca rule:Nat)(main:Fm)(y:IV)(hy:IsFm main y)(hm:main.size<=1000000)(term:Tm)(z:IV)(hz:IsTm term z)(ht:term.size<=1000000)(name:ByteArray)(st:ISt) :
  ICall prog gl 202 [.raw (.int .u8 ca),.raw (.int .u8 rule),y,z,.raw (.string name)] st (AdRD st (nY ca rule main term name)):=by
 have hA:=λr hr st=>Ec gl G T ca rule r hr main y hy hm term z hz ht name st;have hkn:=λst=>yN gl ca st;obtain⟨o3,n3,t3,x3,t4,x4,rfl⟩:=hy.agg;obtain⟨v,un,tz,xz,rfl⟩:=y8 hz;unfold nY;refine iI func202 ?_;simp only[go_sem,zE,zA,reduceCtorEq];refine (hkn _).mono ?_;rintro _ st ⟨rfl,rfl⟩;cases hk:gR ca
 ·simp only[go_sem,zE];exact c_ ⟨_,_,rfl,.inl rfl,.inl rfl,rfl,rfl⟩
 simp only[go_sem,zA,reduceCtorEq];refine (D7 gl ca _).mono ?_;rintro _ _ ⟨b,hb,rfl,rfl⟩;cases hr:rowS ca rule with
 | none =>
  simp only[go_sem,zE,zA,zL,b_,uN,hr,Option.map_none,sZ];exact eI (fb hb) ⟨_,_,rfl,.inl rfl,.inl rfl,rfl,rfl⟩
 | some r =>
  have hcall:=hA r hr;obtain⟨rl,rr,op,asks⟩:=r;simp only[go_sem,zE,zA,zL,reduceCtorEq,b_,uN,hr,Option.map_some,vS,rwI];refine (hcall _).mono ?_;rintro _ _ ⟨tg,xs,rfl,he,hap,hxs,rfl⟩;simp only[go_sem,zE];exact eI (fb hb) ⟨_,_,rfl,he,hap,hxs,rfl⟩
theorem NC (G:Gl gl)(T:Gt gl)(ca rule:Nat)(main:Fm)(y:IV)(hy:IsFm main y)(hm:main.size<=1000000)(term:Tm)(z:IV)(hz:IsTm term z)(ht:term.size<=1000000)(name:ByteArray)(st:ISt) :
  ICall prog gl 202 [.raw (.int .u8 ca),.raw (.int .u8 rule),y,z,.raw (.string name)] st (AdR st (nY ca rule main term name)) :=
 (NB gl G T ca rule main y hy hm term z hz ht name st).mono AdRD.w
mutual
def wTm:Tm->Nat
 | .mk _ n us=>1+n.size / 20+wTms us
def wTms:List Tm->Nat
 | []=>0
 | a::l=>wTm a+wTms l
end
mutual
def wFm:Fm->Nat
 | .mk _ n us sub=>1+n.size / 20+wTms us+wFms sub
def wFms:List Fm->Nat
 | []=>0
 | a::l=>wFm a+wFms l
end
theorem zd:∀l m:List Tm,wTms (l++m)=wTms l+wTms m
 | [],m=>by simp[wTms]
 | a::l,m=>by simp only[List.cons_append,wTms,zd l m];omega
theorem ND {l:List Tm}{k:Nat}{a:Tm}(h:l[k]?=some a):wTms (l.take (k+1))=wTms (l.take k)+wTm a:=by
 rw[dM h,zd];simp[wTms]
theorem E2 (l:List Tm)(k:Nat):wTms (l.take k)<=wTms l:=by
 conv=>rhs;rw[<- List.take_append_drop k l]
 rw[zd];omega
theorem zg:∀l m:List Fm,wFms (l++m)=wFms l+wFms m
 | [],m=>by simp[wFms]
 | a::l,m=>by simp only[List.cons_append,wFms,zg l m];omega
theorem NF {l:List Fm}{k:Nat}{a:Fm}(h:l[k]?=some a):wFms (l.take (k+1))=wFms (l.take k)+wFm a:=by
 rw[dM h,zg];simp[wFms]
theorem E3 (l:List Fm)(k:Nat):wFms (l.take k)<=wFms l:=by
 conv=>rhs;rw[<- List.take_append_drop k l]
 rw[zg];omega
def Sum (w:Nat)(lim:Int)(r:IV):Prop:=∃n:Nat,r=.raw (.int .i64 n)/\n<=w/\((n:Int)<=lim->n=w)
def tC (us:List Tm):Prop:=∀(t:Tag) (xs:List IV) (_:okEs t 3) (_:IsTms us xs) (lim:Int) (_:-1<=lim/\lim<=1000) (_:wTms us<=1099511627776) (st:ISt),
 ICall prog gl 53 [.sl t xs,.raw (.int .i64 lim)] st (λr st'=>Sum (wTms us) lim r/\st'=st)
theorem NG (us:List Tm)(IH:∀v n l,Tm.mk v n l∈us->tC gl l):tC gl us:=by
 intro t xs ht hx lim hlim hw st;refine iI func53 ?_;simp only[go_sem];refine dt us.length (λk fr st' ds=>(∃n:Nat,fr 5=.iv (.raw (.int .i64 n))/\n<=wTms (us.take k)/\((n:Int)<=lim->n=wTms (us.take k)))/\fr 0=.iv (.sl t xs)/\fr 1=.iv (.raw (.int .i64 lim))/\fr 6=.iv (.raw (.int .i64 k))/\st'=st/\ds=[]) ?_ ?_ ?_
 ·simp only[go_sem,zE,reduceCtorEq];exact⟨⟨0,rfl,Nat.le_refl _,λ_=>rfl⟩,rfl⟩
 ·rintro k fr st1 _ hlt ⟨⟨n,f5,hn1,hn2⟩,f0,f1,f6,rfl,rfl⟩;obtain⟨a,ha⟩:=dD hlt;obtain⟨x,hkx,hxa⟩:=hx.get ha;obtain⟨v2,n2,l2⟩:=a;obtain⟨tx,cx,rfl,htx,hcx⟩:=hxa.mk;have hwt:=ND ha;have hwl:=E2 us (k+1);have hwk:=E2 us k;simp only[wTm] at hwt;by_cases hle:(n:Int)<=lim
  ·have hnk:=hn2 hle;have hcall:=λst=>IH _ _ _ (lMg ha) tx cx htx hcx (lim-n-1) ⟨by omega,by omega⟩ (by omega) st;have hq:IntKind.i64.wrap (((n2.size:Nat):Int).tdiv 20)=((n2.size / 20:Nat):Int):=by
    have:((n2.size:Nat):Int).tdiv 20=((n2.size / 20:Nat):Int):=rfl;rw[this,w64 (by omega) (by omega)]
   have hz:¬ ((20:Int)=0):=by decide
   generalize n2.size / 20=q at hq hwt;have w1:IntKind.i64.wrap (1+((q:Nat):Int))=((1+q:Nat):Int):=by rw[w64]<;>omega
   have w2:IntKind.i64.wrap (IntKind.i64.wrap (lim-(n:Int))-1)=lim-n-1:=by rw[w64 (n:=lim-n) (by omega) (by omega),w64 (by omega) (by omega)]
   simp only[go_sem,zE,zA,reduceCtorEq,f0,f1,f5,f6,hx.len,lt_i hlt,dEt hle,dB ht,iNn,hkx,fits,hq,hz,w1,w2];intro _;refine (hcall _).mono ?_;rintro _ st2 ⟨⟨m,rfl,hm1,hm2⟩,rfl⟩;have w3:IntKind.i64.wrap (((1+q:Nat):Int)+(m:Int))=((1+q+m:Nat):Int):=by rw[w64]<;>omega
   have w4:IntKind.i64.wrap ((n:Int)+((1+q+m:Nat):Int))=((n+(1+q+m):Nat):Int):=by rw[w64]<;>omega
   simp only[go_sem,zE,reduceCtorEq,f0,f1,f6,w3,w4,dL hlt (show us.length<=281474976710656 by omega)];exact⟨n+(1+q+m),rfl,by omega,λh=>by have:=hm2 (by omega);omega⟩
  ·simp only[go_sem,zE,reduceCtorEq,f0,f1,f5,f6,hx.len,lt_i hlt,dEf hle];intro _;exact c_ ⟨⟨n,rfl,by omega,λh=>absurd h hle⟩,rfl⟩
 ·rintro fr st1 _ ⟨⟨n,f5,hn1,hn2⟩,f0,f1,f6,rfl,rfl⟩;rw[lTl] at hn1 hn2;simp only[go_sem,zE,reduceCtorEq,f0,f5,f6,hx.len,dS (nLi _)];intro _;exact c_ ⟨⟨n,rfl,hn1,hn2⟩,rfl⟩
theorem E4:∀(k:Nat)(us:List Tm),SizeOf.sizeOf us<k->tC gl us
 | 0,f,h=>by omega
 | k+1,us,h=>NG gl us (λv n l ha=>E4 k l (by
   have:=lSm ha;simp at this;omega))
theorem E5 (us:List Tm):tC gl us:=E4 gl _ us (Nat.lt_succ_self _)
def zC (us:List Fm):Prop:=∀(t:Tag) (xs:List IV) (_:okEs t 4) (_:IsFms us xs) (lim:Int) (_:-1<=lim/\lim<=1000) (_:wFms us<=1099511627776) (st:ISt),
 ICall prog gl 52 [.sl t xs,.raw (.int .i64 lim)] st (λr st'=>Sum (wFms us) lim r/\st'=st)
theorem NH (us:List Fm)(IH:∀o n l m,Fm.mk o n l m∈us->zC gl m):zC gl us:=by
 intro t xs ht hx lim hlim hw st;refine ICall.intro (c:=cf prog gl [] [(5,[0,1,2,3,4,5,6,7,8,9,10,11,12,13,14,15,16,19,20,21,22,23,24,25,26,27,17,18,28,29,30,31])]) func52 rfl (by show _<=50;simp) (by kernel_rfl) ?_;simp only[go_sem];refine dt us.length (λk fr st' ds=>(∃n:Nat,fr 5=.iv (.raw (.int .i64 n))/\n<=wFms (us.take k)/\((n:Int)<=lim->n=wFms (us.take k)))/\fr 0=.iv (.sl t xs)/\fr 1=.iv (.raw (.int .i64 lim))/\fr 6=.iv (.raw (.int .i64 k))/\st'=st/\ds=[]) ?_ ?_ ?_
 ·simp only[go_sem,zE,reduceCtorEq];exact⟨⟨0,rfl,Nat.le_refl _,λ_=>rfl⟩,rfl⟩
 ·rintro k fr st1 _ hlt ⟨⟨n,f5,hn1,hn2⟩,f0,f1,f6,rfl,rfl⟩;obtain⟨a,ha⟩:=dD hlt;obtain⟨x,hkx,hxa⟩:=hx.get ha;obtain⟨o2,n2,l2,m2⟩:=a;obtain⟨tx,cx,ty,cy,rfl,_,htx,hcx,hty,hcy⟩:=hxa.mk;have hwt:=NF ha;have hwl:=E3 us (k+1);have hwk:=E3 us k;simp only[wFm] at hwt;by_cases hle:(n:Int)<=lim
  ·have hnk:=hn2 hle;have hcall:=λst=>IH _ _ _ _ (lMg ha) ty cy hty hcy (lim-n-1) ⟨by omega,by omega⟩ (by omega) st;have hterm:=λst=>E5 gl l2 tx cx htx hcx (lim-n) ⟨by omega,by omega⟩ (by omega) st;have hq:IntKind.i64.wrap (((n2.size:Nat):Int).tdiv 20)=((n2.size / 20:Nat):Int):=by
    have:((n2.size:Nat):Int).tdiv 20=((n2.size / 20:Nat):Int):=rfl;rw[this,w64 (by omega) (by omega)]
   have hz:¬ ((20:Int)=0):=by decide
   generalize n2.size / 20=q at hq hwt;have w1:IntKind.i64.wrap (1+((q:Nat):Int))=((1+q:Nat):Int):=by rw[w64]<;>omega
   have w0:IntKind.i64.wrap (lim-(n:Int))=lim-n:=w64 (by omega) (by omega);have w2:IntKind.i64.wrap (lim-(n:Int)-1)=lim-n-1:=w64 (by omega) (by omega);simp only[go_sem,zE,zA,reduceCtorEq,f0,f1,f5,f6,hx.len,lt_i hlt,dEt hle,dB ht,iNn,hkx,fits,hq,hz,w1,w0,w2];intro _;refine (hterm _).mono ?_;rintro _ st2 ⟨⟨m1,rfl,hm1,hm1'⟩,rfl⟩;have w3:IntKind.i64.wrap (((1+q:Nat):Int)+(m1:Int))=((1+q+m1:Nat):Int):=by rw[w64]<;>omega
   simp only[go_sem,zE,zA,w3];refine (hcall _).mono ?_;rintro _ st2 ⟨⟨m,rfl,hm,hm'⟩,rfl⟩;have w4:IntKind.i64.wrap (((1+q+m1:Nat):Int)+(m:Int))=((1+q+m1+m:Nat):Int):=by rw[w64]<;>omega
   have w5:IntKind.i64.wrap ((n:Int)+((1+q+m1+m:Nat):Int))=((n+(1+q+m1+m):Nat):Int):=by rw[w64]<;>omega
   simp only[go_sem,zE,reduceCtorEq,f0,f1,f6,w4,w5,dL hlt (show us.length<=281474976710656 by omega)];exact⟨n+(1+q+m1+m),rfl,by omega,λh=>by have:=hm1' (by omega);have:=hm' (by omega);omega⟩
  ·simp only[go_sem,zE,reduceCtorEq,f0,f1,f5,f6,hx.len,lt_i hlt,dEf hle];intro _;exact c_ ⟨⟨n,rfl,by omega,λh=>absurd h hle⟩,rfl⟩
 ·rintro fr st1 _ ⟨⟨n,f5,hn1,hn2⟩,f0,f1,f6,rfl,rfl⟩;rw[lTl] at hn1 hn2;simp only[go_sem,zE,reduceCtorEq,f0,f5,f6,hx.len,dS (nLi _)];intro _;exact c_ ⟨⟨n,rfl,hn1,hn2⟩,rfl⟩
theorem E6:∀(k:Nat)(us:List Fm),SizeOf.sizeOf us<k->zC gl us
 | 0,f,h=>by omega
 | k+1,us,h=>NH gl us (λo n l m ha=>E6 k m (by
   have:=lSm ha;simp at this;omega))
theorem zh (us:List Fm):zC gl us:=E6 gl _ us (Nat.lt_succ_self _)
theorem E7 (s:Sq)(x:IV)(hx:IsSq s x)(hw:wFms s.l<=1099511627776/\wFms s.r<=1099511627776)(st:ISt):ICall prog gl 42 [x] st (λr st'=>(r=.raw (.bool (decide (wFms s.l+wFms s.r<=300))))/\st'=st):=by
 obtain⟨t1,x1,t2,x2,rfl,e1,i1,e2,i2⟩:=hx;have h1:=λst=>zh gl s.l t1 x1 e1 i1 300 ⟨by omega,by omega⟩ hw.1 st;have h2:=λst=>zh gl s.r t2 x2 e2 i2 300 ⟨by omega,by omega⟩ hw.2 st;refine ICall.intro (c:=cf prog gl [] [(1,[0,1,3,4,2,5,6,7,8])]) func42 rfl (by show _<=11;simp) (by kernel_rfl) ?_;simp only[go_sem,zE,zA];refine (h1 _).mono ?_;rintro _ st2 ⟨⟨n,rfl,hn1,hn2⟩,rfl⟩;simp only[go_sem,zE,zA];refine (h2 _).mono ?_;rintro _ st2 ⟨⟨m,rfl,hm1,hm2⟩,rfl⟩;have w:IntKind.i64.wrap ((n:Int)+(m:Int))=((n+m:Nat):Int):=by rw[w64]<;>omega
 have hd:decide (((n+m:Nat):Int)<=300)=decide (wFms s.l+wFms s.r<=300):=by
  rw[decide_eq_decide];constructor
  ·intro h;have:=hn2 (by omega);have:=hm2 (by omega);omega
  ·intro h;omega
 simp only[go_sem,zE,w,hd];exact c_ ⟨rfl,rfl⟩
mutual
theorem NI:∀t:Tm,t.size<=wTm t
 | .mk _ n us=>by have:=zj us;simp only[wTm,Tm.size];omega
theorem zj:∀l:List Tm,el l<=wTms l
 | []=>Nat.le_refl _
 | a::l=>by have:=NI a;have:=zj l;simp only[wTms,el];omega
end
mutual
theorem NJ:∀f:Fm,f.size<=wFm f
 | .mk _ n us sub=>by have:=zj us;have:=u_ sub;simp only[wFm,Fm.size];omega
theorem u_:∀l:List Fm,dV l<=wFms l
 | []=>Nat.le_refl _
 | a::l=>by have:=NJ a;have:=u_ l;simp only[wFms,dV];omega
end
mutual
def wtF:Fm->Nat
 | .mk o _ _ sub=>if o=1\/o=2 then 0 else if o=7 then 3+wtFs sub else 1+wtFs sub
def wtFs:List Fm->Nat
 | []=>0
 | a::l=>wtF a+wtFs l
end
theorem zk:∀l m:List Fm,wtFs (l++m)=wtFs l+wtFs m
 | [],m=>by simp[wtFs]
 | a::l,m=>by simp only[List.cons_append,wtFs,zk l m];omega
theorem NK {l:List Fm}{k:Nat}{a:Fm}(h:l[k]?=some a):wtFs (l.take (k+1))=wtFs (l.take k)+wtF a:=by
 rw[dM h,zk];simp[wtFs]
mutual
theorem E8:∀f:Fm,wtF f<=3*f.size
 | .mk o n us sub=>by
  have:=qu sub;simp only[wtF,Fm.size];split
  ·omega
  ·split<;>omega
theorem qu:∀l:List Fm,wtFs l<=3*dV l
 | []=>by simp[wtFs]
 | a::l=>by have:=E8 a;have:=qu l;simp only[wtFs,dV];omega
end
def wtC (us:List Fm):Prop:=∀(tg:Tag) (xs:List IV) (_:okEs tg 4) (_:IsFms us xs) (_:dV us<=1000000) (st:ISt),
 ICall prog gl 43 [.sl tg xs] st (λr st'=>r=.raw (.int .i64 (wtFs us:Int))/\st'=st)
theorem NL (us:List Fm)(IH:∀o n l m,Fm.mk o n l m∈us->wtC gl m):wtC gl us:=by
 intro tg xs ht hx hsz st;refine iI func43 ?_;refine dt us.length (λk fr st' ds=>fr 3=.iv (.raw (.int .i64 (wtFs (us.take k):Int)))/\fr 0=.iv (.sl tg xs)/\fr 4=.iv (.raw (.int .i64 k))/\st'=st/\ds=[]) ?_ ?_ ?_
 ·simp only[go_sem,zE,reduceCtorEq];simp[wtFs]
 ·rintro k fr st1 _ hlt ⟨f3,f0,f4,rfl,rfl⟩;obtain⟨a,ha⟩:=dD hlt;obtain⟨x,hkx,hxa⟩:=hx.get ha;have hsa:=rY (lMg ha);have hwt:=NK ha;have hwl:wtFs us=wtFs (us.take k)+wtFs (us.drop k):=by rw[<- zk,List.take_append_drop]
  have hws:=qu us;have hwa:=E8 a;obtain⟨o,n,l,m⟩:=a;have hcall:=λtg xs h1 h2 st=>IH o n l m (lMg ha) tg xs h1 h2 (by simp only[Fm.size] at hsa;omega) st;obtain⟨tx,cx,ty,cy,rfl,hop,htx,hcx,hty,hcy⟩:=hxa.mk;have hlen:us.length<=1000000:=Nat.le_trans (mS us) hsz;by_cases h1:o=1
  ·subst h1;simp only[go_sem,zE,reduceCtorEq,f0,f3,f4,hx.len,lt_i hlt,dB ht,iNn,hkx,fits,show decide (((1:Nat):Int)=1)=true from rfl,dL hlt (show us.length<=281474976710656 by omega)];intro _;rw[hwt];simp[wtF]
  have d1:decide ((o:Int)=1)=false:=dEf (by omega);by_cases h2:o=2
  ·subst h2;simp only[go_sem,zE,reduceCtorEq,f0,f3,f4,hx.len,lt_i hlt,dB ht,iNn,hkx,fits,d1,show decide (((2:Nat):Int)=2)=true from rfl,dL hlt (show us.length<=281474976710656 by omega)];intro _;rw[hwt];simp[wtF]
  have d2:decide ((o:Int)=2)=false:=dEf (by omega);have hmb:wtFs m<=3*1000000:=Nat.le_trans (qu m) (by simp only[Fm.size] at hsa;omega);have htb:wtFs (us.take k)<=3*1000000:=by omega
  by_cases h7:o=7
  ·subst h7;simp only[go_sem,zE,zA,reduceCtorEq,f0,f3,f4,hx.len,lt_i hlt,dB ht,iNn,hkx,fits,d1,d2,show decide (((7:Nat):Int)=7)=true from rfl];intro _;refine (hcall ty cy hty hcy _).mono ?_;rintro _ st2 ⟨rfl,rfl⟩;have w4:IntKind.i64.wrap ((3:Int)+(wtFs m:Int))=((3+wtFs m:Nat):Int):=by rw[w64]<;>omega
   have w5:IntKind.i64.wrap ((wtFs (us.take k):Int)+((3+wtFs m:Nat):Int))=((wtFs (us.take k)+(3+wtFs m):Nat):Int):=by rw[w64]<;>omega
   simp only[go_sem,zE,reduceCtorEq,f0,f4,w4,w5,dL hlt (show us.length<=281474976710656 by omega)];rw[hwt];simp[wtF]
  ·have d7:decide ((o:Int)=7)=false:=dEf (by omega);simp only[go_sem,zE,zA,reduceCtorEq,f0,f3,f4,hx.len,lt_i hlt,dB ht,iNn,hkx,fits,d1,d2,d7];intro _;refine (hcall ty cy hty hcy _).mono ?_;rintro _ st2 ⟨rfl,rfl⟩;have w4:IntKind.i64.wrap ((1:Int)+(wtFs m:Int))=((1+wtFs m:Nat):Int):=by rw[w64]<;>omega
   have w5:IntKind.i64.wrap ((wtFs (us.take k):Int)+((1+wtFs m:Nat):Int))=((wtFs (us.take k)+(1+wtFs m):Nat):Int):=by rw[w64]<;>omega
   simp only[go_sem,zE,reduceCtorEq,f0,f4,w4,w5,dL hlt (show us.length<=281474976710656 by omega)];rw[hwt];simp[wtF,h1,h2,h7]
 ·rintro fr st1 _ ⟨f3,f0,f4,rfl,rfl⟩;rw[lTl] at f3;simp only[go_sem,zE,reduceCtorEq,f0,f3,f4,hx.len,dS (nLi _)];intro _;exact c_ ⟨rfl,rfl⟩
theorem E9:∀(k:Nat)(us:List Fm),SizeOf.sizeOf us<k->wtC gl us
 | 0,f,h=>by omega
 | k+1,us,h=>NL gl us (λo n l m ha=>E9 k m (by
   have:=lSm ha;simp at this;omega))
theorem E_ (us:List Fm):wtC gl us:=E9 gl _ us (Nat.lt_succ_self _)
noncomputable def va (s:Sq):Bool:=decide (wFms s.l+wFms s.r<=300)&&decide (wtFs s.l+wtFs s.r<=8)
theorem NN (s:Sq)(x:IV)(hx:IsSq s x)(hw:wFms s.l<=1099511627776/\wFms s.r<=1099511627776)(st:ISt):ICall prog gl 16 [x] st (λr st'=>r=.raw (.bool (va s))/\st'=st):=by
 have hF:=λst=>E7 gl s x hx hw st;obtain⟨t1,x1,t2,x2,rfl,e1,i1,e2,i2⟩:=hx;refine ICall.intro (c:=cf prog gl [] [(1,[0,1,2,3,4,6,7,5,8,9,10,11,12])]) func16 rfl (by show _<=15;simp) (by kernel_rfl) ?_;simp only[go_sem,zE,zA,zL];refine (hF _).mono ?_;rintro _ st ⟨rfl,rfl⟩;by_cases h:wFms s.l+wFms s.r<=300
 ·have h1:=u_ s.l;have h2:=u_ s.r;have hw1:=qu s.l;have hw2:=qu s.r;simp only[go_sem,zE,zA,dEt h];refine (E_ gl s.l t1 x1 e1 i1 (by omega) _).mono ?_;rintro _ st ⟨rfl,rfl⟩;simp only[go_sem,zE,zA];refine (E_ gl s.r t2 x2 e2 i2 (by omega) _).mono ?_;rintro _ st ⟨rfl,rfl⟩;have w:IntKind.i64.wrap ((wtFs s.l:Int)+(wtFs s.r:Int))=((wtFs s.l+wtFs s.r:Nat):Int):=by rw[w64]<;>omega
  have hd:decide (((wtFs s.l+wtFs s.r:Nat):Int)<=8)=decide (wtFs s.l+wtFs s.r<=8):=by rw[decide_eq_decide];omega
  simp only[go_sem,zE,w,hd];exact c_ ⟨by unfold va;rw[dEt h];rfl,rfl⟩
 ·simp only[go_sem,zE,dEf h];exact c_ ⟨by unfold va;rw[dEf h];rfl,rfl⟩
end Go.Proofs.Tryz
namespace Go.Proofs.Tryz
open Go Go.Iv
abbrev noN:ByteArray:=⟨#[]⟩
abbrev imF (a b:Fm):Fm:=.mk 6 noN [] [a,b]
inductive PF:Fm->Prop
 | atom (n:ByteArray):PF (.mk 1 n [] [])
 | fls:PF (.mk 2 noN [] [])
 | neg {a:Fm} (h:PF a):PF (.mk 3 noN [] [a])
 | bin {o:Nat} {a b:Fm} (h4:4<=o) (h7:o<=7) (ha:PF a) (hb:PF b):PF (.mk o noN [] [a,b])
def addF (j:Bool):Fm->Bool->List (Nat×List (List Fm×List Fm))
 | .mk 3 _ _ [a],true=>[(4,[([a],[])])]
 | .mk 3 _ _ [a],false=>[(3,[([],[a])])]
 | .mk 4 _ _ [a,b],true=>[(6,[([],[a]),([],[b])])]
 | .mk 4 _ _ [a,b],false=>[(5,[([a,b],[])])]
 | .mk 5 _ _ [a,b],true=>if j=true then [(8,[([],[a])]),(18,[([],[b])])] else [(8,[([],[a,b])])]
 | .mk 5 _ _ [a,b],false=>[(7,[([a],[]),([b],[])])]
 | .mk 6 _ _ [a,b],true=>[(10,[([a],[b])])]
 | .mk 6 _ _ [a,b],false=>[(9,[([],[a]),([b],[])])]
 | .mk 7 _ _ [a,b],true=>[(12,[([a],[b]),([b],[a])])]
 | .mk 7 _ _ [a,b],false=>[(11,[([imF a b,imF b a],[])])]
 | _,_=>[]
def rgt (j:Bool)(R r:List Fm):List Fm:=if j=true/\r≠[] then r else R++r
def jU (f:Fm):Bool:=match f with|.mk o _ _ _=>decide (o=2)
def ClF (L R:List Fm):Prop:=(∃f∈L,f∈R)\/∃f∈L,jU f=true
def HtF (j:Bool):Nat->List Fm->List Fm->Prop
 | 0,_,_=>False
 | n+1,L,R=>ClF L R\/∃f r,f∈(if r=true then R else L)/\∃t∈addF j f r,∀p∈t.2,HtF j n (L++p.1) (rgt j R p.2)
theorem NO {j:Bool}{R R' r:List Fm}(h:∀f∈R,f∈R'):∀f∈rgt j R r,f∈rgt j R' r:=by
 unfold rgt;split
 ·exact λ_ h=>h
 ·intro f hf;rcases List.mem_append.1 hf with h1|h1
  ·exact List.mem_append_left _ (h f h1)
  ·exact List.mem_append_right _ h1
theorem NP {L L' l:List Fm}(h:∀f∈L,f∈L'):∀f∈L++l,f∈L'++l:=λf hf=>by
 rcases List.mem_append.1 hf with h1|h1
 ·exact List.mem_append_left _ (h f h1)
 ·exact List.mem_append_right _ h1
theorem HtF.sub {j:Bool}:∀ {n:Nat} {L R L' R':List Fm},HtF j n L R->(∀f∈L,f∈L')->(∀f∈R,f∈R')->HtF j n L' R'
 | 0,_,_,_,_,h,_,_=>h.elim
 | n+1,L,R,L',R',h,hl,hr=>by
  rcases h with (⟨f,h1,h2⟩|⟨f,h1,h2⟩)|⟨f,r,h1,t,h2,h3⟩
  ·exact .inl (.inl ⟨f,hl f h1,hr f h2⟩)
  ·exact .inl (.inr ⟨f,hl f h1,h2⟩)
  ·refine .inr ⟨f,r,?_,t,h2,λp hp=>(h3 p hp).sub (NP hl) (NO hr)⟩;cases r
   ·exact hl f h1
   ·exact hr f h1
theorem HtF.up {j:Bool}:∀ {n m:Nat} {L R:List Fm},HtF j n L R->n<=m->HtF j m L R
 | 0,_,_,_,h,_=>h.elim
 | n+1,0,_,_,_,hm=>absurd hm (by omega)
 | n+1,m+1,L,R,h,hm=>by
  rcases h with h|⟨f,r,h1,t,h2,h3⟩
  ·exact .inl h
  ·exact .inr ⟨f,r,h1,t,h2,λp hp=>(h3 p hp).up (by omega)⟩
mutual
def hp (S:Nat->List Nat)(v:Nat->ByteArray->Bool):Fm->Nat->Bool
 | .mk op n _ sub,w =>
  if op=1 then v w n
  else if op=4 then (hpL S v sub w).all id
  else if op=5 then (hpL S v sub w).any id
  else if op=3\/op=6\/op=7 then (S w).all λu=>match hpL S v sub u with
   | [a]=>!a
   | [a,b]=>(!a || b)&&(decide (op=6) || (!b || a))
   | _=>true
  else false
def hpL (S:Nat->List Nat)(v:Nat->ByteArray->Bool):List Fm->Nat->List Bool
 | [],_=>[]
 | a::l,w=>hp S v a w::hpL S v l w
end
section
variable (S:Nat->List Nat)(v:Nat->ByteArray->Bool)(w:Nat)(a b:Fm)(n:ByteArray)(us:List Tm)
theorem hp1:hp S v (.mk 1 n us []) w=v w n:=by simp[hp]
theorem hp2:hp S v (.mk 2 n us []) w=false:=by simp[hp]
theorem hp3:hp S v (.mk 3 n us [a]) w=(S w).all λu=>!hp S v a u:=by simp[hp,hpL]
theorem hp4:hp S v (.mk 4 n us [a,b]) w=(hp S v a w&&hp S v b w):=by simp[hp,hpL]
theorem hp5:hp S v (.mk 5 n us [a,b]) w=(hp S v a w || hp S v b w):=by simp[hp,hpL]
theorem hp6:hp S v (.mk 6 n us [a,b]) w=(S w).all λu=>!hp S v a u || hp S v b u:=by simp[hp,hpL]
theorem hp7:hp S v (.mk 7 n us [a,b]) w=(S w).all λu=>(!hp S v a u || hp S v b u)&&(!hp S v b u || hp S v a u):=by simp[hp,hpL]
end
theorem PF.add {j:Bool}{f:Fm}(h:PF f){r:Bool}{t:Nat×List (List Fm×List Fm)}(ht:t∈addF j f r):∀p∈t.2,(∀g∈p.1,PF g)/\∀g∈p.2,PF g:=by
 cases h with
 | atom n=>simp[addF] at ht
 | fls=>simp[addF] at ht
 | neg ha=>cases r<;>simp[addF] at ht<;>subst ht<;>simp[ha]
 | @bin o a b h4 h7 ha hb =>
  have h1:PF (imF a b):=.bin (by omega) (by omega) ha hb;have h2:PF (imF b a):=.bin (by omega) (by omega) hb ha;obtain rfl|rfl|rfl|rfl:o=4\/o=5\/o=6\/o=7:=by omega
  all_goals cases r<;>cases j<;>simp[addF] at ht
  all_goals first|(subst ht;simp[ha,hb,h1,h2])|(rcases ht with rfl|rfl<;>simp[ha,hb])
def UnP (j:Bool)(L R:List Fm):Prop:=∀n,¬ HtF j n L R
theorem zl {j:Bool}{q:(List Fm×List Fm)->List Fm×List Fm}:∀ {l:List (List Fm×List Fm)},(∀p∈l,∃n,HtF j n (q p).1 (q p).2)->∃n,∀p∈l,HtF j n (q p).1 (q p).2
 | [],_=>⟨0,λ_ h=>by cases h⟩
 | p::l,h=>by
  obtain⟨n,hn⟩:=h p (.head _);obtain⟨m,hm⟩:=zl λp hp=>h p (.tail _ hp);refine⟨max n m,λx hx=>?_⟩;rcases List.mem_cons.1 hx with rfl|hx
  ·exact hn.up (Nat.le_max_left _ _)
  ·exact (hm x hx).up (Nat.le_max_right _ _)
theorem UnP.step {j:Bool}{L R:List Fm}(h:UnP j L R){f:Fm}{r:Bool}(hf:f∈(if r=true then R else L)){t:Nat×List (List Fm×List Fm)}(ht:t∈addF j f r):∃p∈t.2,UnP j (L++p.1) (rgt j R p.2):=by
 refine Classical.byContradiction λhno=>?_;have hall:∀p∈t.2,∃n,HtF j n (L++p.1) (rgt j R p.2):=λp hp=>Classical.byContradiction λhn=>hno ⟨p,hp,λn hh=>hn ⟨n,hh⟩⟩;obtain⟨n,hn⟩:=zl (q:=λp=>(L++p.1,rgt j R p.2)) hall;exact h (n+1) (.inr ⟨f,r,hf,t,ht,hn⟩)
theorem UnP.open_ {j:Bool}{L R:List Fm}(h:UnP j L R):¬ ClF L R:=λhc=>h 1 (.inl hc)
def Full (U:List Fm):Prop:=∀f∈U,∀j r,∀t∈addF j f r,∀p∈t.2,(∀g∈p.1,g∈U)/\∀g∈p.2,g∈U
open Classical in
noncomputable def lack (U L:List Fm):Nat:=(U.filter λf=>!decide (f∈L)).length
open Classical in
theorem zm {U L L':List Fm}(h:∀f∈L,f∈L'):lack U L'<=lack U L:=by
 unfold lack
 induction U with
 | nil=>exact Nat.le_refl _
 | cons a U ih =>
  simp only[List.filter_cons];by_cases h1:a∈L'
  ·by_cases h2:a∈L
   ·simpa[h1,h2] using ih
   ·simp[h1,h2];omega
  ·have h2:a ∉ L:=λh3=>h1 (h a h3);simp[h1,h2];exact ih
open Classical in
theorem Fa {U L L':List Fm}(h:∀f∈L,f∈L'){x:Fm}(hx:x∈U)(h1:x∈L')(h2:x ∉ L):lack U L'<lack U L:=by
 have key:=λV=>zm (U:=V) h;unfold lack at *
 induction U with
 | nil=>cases hx
 | cons a U ih =>
  simp only[List.filter_cons];rcases List.mem_cons.1 hx with rfl|hx
  ·have:=key U;simp[h1,h2];omega
  ·have:=ih hx;by_cases h3:a∈L'
   ·by_cases h4:a∈L
    ·simpa[h3,h4] using this
    ·simp[h3,h4];omega
   ·have h4:a ∉ L:=λh5=>h3 (h a h5);simp[h3,h4];exact this
def one (_:Nat):List Nat:=[0]
abbrev tr (v:ByteArray->Bool)(f:Fm):Bool:=hp one (λ_=>v) f 0
section
variable (v:ByteArray->Bool)(a b:Fm)(n:ByteArray)(us:List Tm)
theorem tr1:tr v (.mk 1 n us [])=v n:=hp1 _ _ _ _ _
theorem tr2:tr v (.mk 2 n us [])=false:=hp2 _ _ _ _ _
theorem tr3:tr v (.mk 3 n us [a])=!tr v a:=by simp[tr,hp3,one]
theorem tr4:tr v (.mk 4 n us [a,b])=(tr v a&&tr v b):=hp4 _ _ _ _ _ _ _
theorem tr5:tr v (.mk 5 n us [a,b])=(tr v a || tr v b):=hp5 _ _ _ _ _ _ _
theorem tr6:tr v (.mk 6 n us [a,b])=(!tr v a || tr v b):=by simp[tr,hp6,one]
theorem tr7:tr v (.mk 7 n us [a,b])=((!tr v a || tr v b)&&(!tr v b || tr v a)):=by simp[tr,hp7,one]
end
theorem HtF.valid (v:ByteArray->Bool):∀ {n:Nat} {L R:List Fm},HtF false n L R->(∀f∈L,PF f)->(∀f∈R,PF f)->(∀f∈L,tr v f=true)->∃f∈R,tr v f=true
 | 0,_,_,h,_,_,_=>h.elim
 | n+1,L,R,hh,hL,hR,hw=>by
  rcases hh with (⟨f,h1,h2⟩|⟨f,h1,h2⟩)|⟨f,r,h1,t,h2,h3⟩
  ·exact⟨f,h2,hw f h1⟩
  ·have:=hw f h1;cases hL f h1 with
   | fls=>rw[tr2] at this;cases this
   | bin h4 h7 _ _=>simp[jU] at h2;omega
   | _=>simp[jU] at h2
  ·have hPf:PF f:=by
    cases r
    ·exact hL f h1
    ·exact hR f h1
   have ih:∀p∈t.2,(∀g∈p.1,tr v g=true)->(∃g∈R,tr v g=true)\/∃g∈p.2,tr v g=true:=λp hp' hg=>by
    have h4:=h3 p hp';simp only[rgt,bFt,false_and,if_false] at h4;obtain⟨g,hg1,hg2⟩:=h4.valid v (λg hg=>(List.mem_append.1 hg).elim (hL g) ((hPf.add h2 p hp').1 g)) (λg hg=>(List.mem_append.1 hg).elim (hR g) ((hPf.add h2 p hp').2 g)) λg hg'=>(List.mem_append.1 hg').elim (hw g) (hg g);rcases List.mem_append.1 hg1 with h|h
    ·exact .inl ⟨g,h,hg2⟩
    ·exact .inr ⟨g,h,hg2⟩
   refine Classical.byContradiction λhno=>?_;have ih':∀p∈t.2,(∀g∈p.1,tr v g=true)->∃g∈p.2,tr v g=true:=λp hp' hg=>(ih p hp' hg).resolve_left hno;have hfr:r=true->tr v f=false:=λhr=>by
    cases hx:tr v f with
    | false=>rfl
    | true=>exact (hno ⟨f,by rw[hr] at h1;exact h1,hx⟩).elim
   have hfl:r=false->tr v f=true:=λhr=>hw f (by rw[hr] at h1;exact h1);clear ih h3 h1 hno hw;cases hPf with
   | atom n=>simp[addF] at h2
   | fls=>simp[addF] at h2
   | @neg a ha=>cases r<;>simp[addF] at h2<;>subst h2<;>simp[tr3] at hfr hfl ih'<;>simp_all
   | @bin o a b h4 h7 ha hb =>
    obtain rfl|rfl|rfl|rfl:o=4\/o=5\/o=6\/o=7:=by omega
    all_goals cases r<;>simp[addF] at h2<;>subst h2<;>simp[tr4,tr5,tr6,tr7] at hfr hfl ih'<;>cases hA:tr v a<;>cases hB:tr v b<;>simp_all
theorem NQ {U L R:List Fm}(hn:UnP false L R)(hs:∀f r,f∈(if r=true then R else L)->∀t∈addF false f r,∃p∈t.2,(∀g∈p.1,g∈L)/\∀g∈p.2,g∈R){v:ByteArray->Bool}(hv:∀n,v n=true↔Fm.mk 1 n [] []∈L){f:Fm}(hf:PF f):(f∈L->tr v f=true)/\(f∈R->tr v f=false):=by
 have key:∀f r,f∈(if r=true then R else L)->∀t∈addF false f r,∃p∈t.2,(∀g∈p.1,g∈L)/\∀g∈p.2,g∈R:=hs
 induction hf with
 | atom n =>
  rw[tr1];refine⟨(hv n).2,λh=>?_⟩;cases hx:v n with
  | false=>rfl
  | true=>exact (hn.open_ (.inl ⟨_,(hv n).1 hx,h⟩)).elim
 | fls=>exact⟨λh=>(hn.open_ (.inr ⟨_,h,rfl⟩)).elim,λ_=>tr2 ..⟩
 | @neg a ha ih =>
  rw[tr3];refine⟨λh=>?_,λh=>?_⟩
  ·obtain⟨p,h1,h2,h3⟩:=key _ false h (3,[([],[a])]) (by simp[addF]);obtain rfl:=List.mem_singleton.1 h1;simp[ih.2 (h3 a (.head _))]
  ·obtain⟨p,h1,h2,h3⟩:=key _ true h (4,[([a],[])]) (by simp[addF]);obtain rfl:=List.mem_singleton.1 h1;simp[ih.1 (h2 a (.head _))]
 | @bin o a b h4 h7 ha hb ia ib =>
  obtain rfl|rfl|rfl|rfl:o=4\/o=5\/o=6\/o=7:=by omega
  ·rw[tr4];refine⟨λh=>?_,λh=>?_⟩
   ·obtain⟨p,h1,h2,h3⟩:=key _ false h (5,[([a,b],[])]) (by simp[addF]);obtain rfl:=List.mem_singleton.1 h1;simp[ia.1 (h2 a (.head _)),ib.1 (h2 b (.tail _ (.head _)))]
   ·obtain⟨p,h1,h2,h3⟩:=key _ true h (6,[([],[a]),([],[b])]) (by simp[addF]);simp only[List.mem_cons,List.not_mem_nil,or_false] at h1;rcases h1 with rfl|rfl
    ·simp[ia.2 (h3 a (.head _))]
    ·simp[ib.2 (h3 b (.head _))]
  ·rw[tr5];refine⟨λh=>?_,λh=>?_⟩
   ·obtain⟨p,h1,h2,h3⟩:=key _ false h (7,[([a],[]),([b],[])]) (by simp[addF]);simp only[List.mem_cons,List.not_mem_nil,or_false] at h1;rcases h1 with rfl|rfl
    ·simp[ia.1 (h2 a (.head _))]
    ·simp[ib.1 (h2 b (.head _))]
   ·obtain⟨p,h1,h2,h3⟩:=key _ true h (8,[([],[a,b])]) (by simp[addF]);obtain rfl:=List.mem_singleton.1 h1;simp[ia.2 (h3 a (.head _)),ib.2 (h3 b (.tail _ (.head _)))]
  ·rw[tr6];refine⟨λh=>?_,λh=>?_⟩
   ·obtain⟨p,h1,h2,h3⟩:=key _ false h (9,[([],[a]),([b],[])]) (by simp[addF]);simp only[List.mem_cons,List.not_mem_nil,or_false] at h1;rcases h1 with rfl|rfl
    ·simp[ia.2 (h3 a (.head _))]
    ·simp[ib.1 (h2 b (.head _))]
   ·obtain⟨p,h1,h2,h3⟩:=key _ true h (10,[([a],[b])]) (by simp[addF]);obtain rfl:=List.mem_singleton.1 h1;simp[ia.1 (h2 a (.head _)),ib.2 (h3 b (.head _))]
  ·rw[tr7];have im:∀x y,imF x y∈L->y∈L\/x∈R:=λx y h=>by
    obtain⟨p,h1,h2,h3⟩:=key _ false h (9,[([],[x]),([y],[])]) (by simp[addF]);simp only[List.mem_cons,List.not_mem_nil,or_false] at h1;rcases h1 with rfl|rfl
    ·exact .inr (h3 x (.head _))
    ·exact .inl (h2 y (.head _))
   refine⟨λh=>?_,λh=>?_⟩
   ·obtain⟨p,h1,h2,h3⟩:=key _ false h (11,[([imF a b,imF b a],[])]) (by simp[addF]);obtain rfl:=List.mem_singleton.1 h1;rcases im a b (h2 _ (.head _)) with h5|h5<;>rcases im b a (h2 _ (.tail _ (.head _))) with h6|h6
    ·simp[ib.1 h5,ia.1 h6]
    ·exact (hn.open_ (.inl ⟨b,h5,h6⟩)).elim
    ·exact (hn.open_ (.inl ⟨a,h6,h5⟩)).elim
    ·simp[ia.2 h5,ib.2 h6]
   ·obtain⟨p,h1,h2,h3⟩:=key _ true h (12,[([a],[b]),([b],[a])]) (by simp[addF]);simp only[List.mem_cons,List.not_mem_nil,or_false] at h1;rcases h1 with rfl|rfl
    ·simp[ia.1 (h2 a (.head _)),ib.2 (h3 b (.head _))]
    ·simp[ib.1 (h2 b (.head _)),ia.2 (h3 a (.head _))]
open Classical in
theorem UnP.refuted {U:List Fm}(hU:Full U)(hP:∀f∈U,PF f):∀(m:Nat) (L R:List Fm),(∀f∈L,f∈U)->(∀f∈R,f∈U)->UnP false L R->lack U L+lack U R<=m->∃v:ByteArray->Bool,(∀f∈L,tr v f=true)/\∀f∈R,tr v f=false
 | m,L,R,hL,hR,hn,hm=>by
  by_cases hs:∀f r,f∈(if r=true then R else L)->∀t∈addF false f r,∃p∈t.2,(∀g∈p.1,g∈L)/\∀g∈p.2,g∈R
  ·have hh:=λf (hf:PF f)=>NQ (U:=U) hn hs (v:=λn=>decide (Fm.mk 1 n [] []∈L)) (λn=>by simp) hf;exact⟨_,λf hf=>(hh f (hP f (hL f hf))).1 hf,λf hf=>(hh f (hP f (hR f hf))).2 hf⟩
  ·obtain⟨f,hs⟩:=Classical.not_forall.1 hs;obtain⟨r,hs⟩:=Classical.not_forall.1 hs;obtain⟨h1,hs⟩:=Classical.not_forall.1 hs;obtain⟨t,hs⟩:=Classical.not_forall.1 hs;obtain⟨h2,hs⟩:=Classical.not_forall.1 hs;obtain⟨p,h3,h4⟩:=hn.step h1 h2;simp only[rgt,bFt,false_and,if_false] at h4;have hfU:f∈U:=by
    cases r
    ·exact hL f h1
    ·exact hR f h1
   obtain⟨u1,u2⟩:=hU f hfU false r t h2 p h3;have hl:∀f∈L,f∈L++p.1:=λf hf=>List.mem_append_left _ hf;have hr:∀f∈R,f∈R++p.2:=λf hf=>List.mem_append_left _ hf;have hlt:lack U (L++p.1)+lack U (R++p.2)<lack U L+lack U R:=by
    by_cases h5:∀g∈p.1,g∈L
    ·have h6:¬ ∀g∈p.2,g∈R:=λh6=>hs ⟨p,h3,h5,h6⟩;obtain⟨g,h6⟩:=Classical.not_forall.1 h6;obtain⟨h7,h8⟩:=Classical.not_forall.1 h6;have:=Fa hr (u2 g h7) (List.mem_append_right _ h7) h8;have:=zm (U:=U) hl;omega
    ·obtain⟨g,h6⟩:=Classical.not_forall.1 h5;obtain⟨h7,h8⟩:=Classical.not_forall.1 h6;have:=Fa hl (u1 g h7) (List.mem_append_right _ h7) h8;have:=zm (U:=U) hr;omega
   obtain⟨v,h5,h6⟩:=UnP.refuted hU hP (m-1) (L++p.1) (R++p.2) (λg hg=>(List.mem_append.1 hg).elim (hL g) (u1 g)) (λg hg=>(List.mem_append.1 hg).elim (hR g) (u2 g)) h4 (by omega);exact⟨v,λf hf=>h5 f (hl f hf),λf hf=>h6 f (hr f hf)⟩
termination_by m=>m
decreasing_by omega
abbrev Sn:=List Fm×List Fm
noncomputable def nf (s:Sn):Sn:=(setF s.1,setF s.2)
theorem yXq {l:List Fm}{f:Fm}:f∈setF l↔f∈l:=(zb l).2 f
theorem Fb (s:Sn):nf (nf s)=nf s:=by simp only[nf,Nw]
noncomputable def np (j:Bool)(s p:Sn):Sn:=nf (s.1++p.1,rgt j s.2 p.2)
noncomputable def jB (j:Bool)(s:Sn)(r:Bool)(f:Fm):List (Nat×Fm×List Sn):=(addF j f r).map λt=>(t.1,f,t.2.map (np j s))
noncomputable def mvF (j:Bool)(s:Sn):List (Nat×Fm×List Sn):=s.1.flatMap (jB j s false)++s.2.flatMap (jB j s true)
def tooL (j:Bool)(s p:Sn):Prop:=64<s.1.length+p.1.length\/64<(if j=true/\p.2≠[] then 0 else s.2.length)+p.2.length
def nq (j:Bool)(s:Sn):Prop:=∃f r,f∈(if r=true then s.2 else s.1)/\∃t∈addF j f r,∃p∈t.2,tooL j s p
inductive Rch (j:Bool)(s0:Sn):Sn->Prop
 | refl:Rch j s0 s0
 | step {s:Sn} (h:Rch j s0 s) (hc:¬ ClF s.1 s.2) {m:Nat×Fm×List Sn} (hm:m∈mvF j s) {p:Sn} (hp:p∈m.2.2):Rch j s0 p
theorem Rch.trans {j:Bool}{s0 s1 s:Sn}(h:Rch j s0 s1)(k:Rch j s1 s):Rch j s0 s:=by
 induction k with
 | refl=>exact h
 | step _ hc hm hp ih=>exact .step ih hc hm hp
structure ReachOk (j:Bool)(s0:Sn)(K:List Sn):Prop where
 nodup:K.Nodup
 mem:∀s,s∈K↔Rch j s0 s
 short:∀s∈K,¬ ClF s.1 s.2->¬ nq j s
 len:K.length<=20000
def qv (j:Bool)(s0:Sn)(e:Nat):Prop:=(e=4/\∃K:List Sn,K.Nodup/\(∀s∈K,Rch j s0 s)/\20000<K.length)\/(e=5/\∃s,Rch j s0 s/\¬ ClF s.1 s.2/\nq j s)
open Classical in
theorem qw {α:Type}{a b:List α}(h:a.Nodup)(hs:∀x∈a,x∈b):a.length<=b.length:=xK a b h hs
theorem ReachOk.no {j:Bool}{s0 s1:Sn}{K:List Sn}(h:ReachOk j s0 K)(hr:Rch j s0 s1){e:Nat}(hn:qv j s1 e):False:=by
 rcases hn with⟨_,L,h1,h2,h3⟩|⟨_,s,h1,h2,h3⟩
 ·have:=qw h1 λs hs=>(h.mem s).2 (hr.trans (h2 s hs));have:=h.len;omega
 ·exact h.short s ((h.mem s).2 (hr.trans h1)) h2 h3
abbrev HtS (j:Bool)(n:Nat)(s:Sn):Prop:=HtF j n s.1 s.2
theorem wVu {j:Bool}{n:Nat}{s:Sn}:HtS j n (nf s)↔HtS j n s :=
 ⟨λh=>h.sub (λ_=>yXq.1) λ_=>yXq.1,λh=>h.sub (λ_=>yXq.2) λ_=>yXq.2⟩
open Classical in
noncomputable def hF (j:Bool)(s:Sn):Nat:=if h:∃n,HtS j n s then (tU h).choose else 0
theorem nr {j:Bool}{s:Sn}{n:Nat}(h:HtS j n s):HtS j (hF j s) s/\hF j s<=n/\0<hF j s:=by
 have he:∃n,HtS j n s:=⟨n,h⟩
 unfold hF;rw[dif_pos he];have h1:=(tU he).choose_spec;refine⟨h1.1,h1.2 n h,?_⟩;have h1:=h1.1;cases hz:(tU he).choose with
 | zero=>rw[hz] at h1;exact h1.elim
 | succ k=>omega
theorem xVj {j:Bool}{s:Sn}:hF j s=0↔UnP j s.1 s.2:=by
 constructor
 ·intro h n hn;have:=(nr hn).2.2;omega
 ·intro h;unfold hF;rw[dif_neg λ⟨n,hn⟩=>h n hn]
theorem zn {j:Bool}{s:Sn}(h:0<hF j s):HtS j (hF j s) s:=by
 by_cases he:∃n,HtS j n s
 ·obtain⟨n,hn⟩:=he;exact (nr hn).1
 ·unfold hF at h;rw[dif_neg he] at h;omega
theorem vc {j:Bool}{s:Sn}{h:Nat}(h1:0<h->HtS j h s)(h2:∀n,HtS j n s->0<h/\h<=n):hF j s=h:=by
 by_cases he:∃n,HtS j n s
 ·obtain⟨n,hn⟩:=he;have h3:=h2 _ (nr hn).1;have h4:=(nr (h1 h3.1)).2.1;omega
 ·have:hF j s=0:=xVj.2 λn hn=>he ⟨n,hn⟩;rw[this];rcases Nat.eq_zero_or_pos h with h0|h0
  ·exact h0.symm
  ·exact (he ⟨h,h1 h0⟩).elim
theorem zo (j:Bool)(s:Sn):hF j (nf s)=hF j s:=by
 refine vc (λh=>wVu.2 (zn h)) λn hn=>?_;have:=nr (wVu.1 hn);exact⟨this.2.2,this.2.1⟩
theorem yGs {j:Bool}{n:Nat}{s:Sn}:HtS j (n+1) s↔ClF s.1 s.2\/∃m∈mvF j s,∀p∈m.2.2,HtS j n p:=by
 have key:∀f r,(∃m∈jB j s r f,∀p∈m.2.2,HtS j n p)↔∃t∈addF j f r,∀p∈t.2,HtF j n (s.1++p.1) (rgt j s.2 p.2):=λf r=>by
  constructor
  ·rintro⟨m,hm,h⟩;obtain⟨t,ht,rfl⟩:=List.mem_map.1 hm;exact⟨t,ht,λp hp=>wVu.1 (h _ (List.mem_map_of_mem hp))⟩
  ·rintro⟨t,ht,h⟩;refine⟨_,List.mem_map_of_mem ht,λp hp=>?_⟩;obtain⟨q,hq,rfl⟩:=List.mem_map.1 hp;exact wVu.2 (h q hq)
 constructor
 ·rintro (h|⟨f,r,h1,h2⟩)
  ·exact .inl h
  ·obtain⟨m,hm,h⟩:=(key f r).2 h2;refine .inr ⟨m,?_,h⟩;cases r
   ·exact List.mem_append_left _ (List.mem_flatMap.2 ⟨f,h1,hm⟩)
   ·exact List.mem_append_right _ (List.mem_flatMap.2 ⟨f,h1,hm⟩)
 ·rintro (h|⟨m,hm,h⟩)
  ·exact .inl h
  ·rcases List.mem_append.1 hm with hm|hm
   ·obtain⟨f,hf,hm⟩:=List.mem_flatMap.1 hm;exact .inr ⟨f,false,hf,(key f false).1 ⟨m,hm,h⟩⟩
   ·obtain⟨f,hf,hm⟩:=List.mem_flatMap.1 hm;exact .inr ⟨f,true,hf,(key f true).1 ⟨m,hm,h⟩⟩
theorem NR {j:Bool}{s:Sn}(h:ClF s.1 s.2):hF j s=1 :=
 vc (λ_=>.inl h) λn hn=>⟨Nat.one_pos,by cases n with|zero=>exact hn.elim|succ n=>omega⟩
def insN (x:Nat):List Nat->List Nat
 | []=>[x]
 | y::l=>if x<y then x::y::l else if x=y then y::l else y::insN x l
def sdN:List Nat->List Nat
 | []=>[]
 | x::l=>insN x (sdN l)
def Inc (l:List Nat):Prop:=l.Pairwise (·<·)
theorem zUv {x y:Nat}:∀ {l:List Nat},y∈insN x l↔y=x\/y∈l
 | []=>by simp[insN]
 | z::l=>by
  unfold insN;split
  ·simp
  ·split
   ·rename_i h;subst h;simp
   ·rw[List.mem_cons,zUv,List.mem_cons];grind
theorem Fc {x:Nat}:∀ {l:List Nat},Inc l->Inc (insN x l)
 | [],_=>List.pairwise_singleton ..
 | z::l,h=>by
  have h1:=List.pairwise_cons.1 h;unfold insN;split
  ·rename_i hx;refine List.pairwise_cons.2 ⟨λy hy=>?_,h⟩;rcases List.mem_cons.1 hy with rfl|hy
   ·exact hx
   ·exact Nat.lt_trans hx (h1.1 y hy)
  ·split
   ·exact h
   ·refine List.pairwise_cons.2 ⟨λy hy=>?_,Fc h1.2⟩;rcases zUv.1 hy with rfl|hy
    ·omega
    ·exact h1.1 y hy
theorem sdN_mem {x:Nat}:∀ {l:List Nat},x∈sdN l↔x∈l
 | []=>Iff.rfl
 | y::l=>by rw[sdN,zUv,sdN_mem,List.mem_cons]
theorem sj:∀l:List Nat,Inc (sdN l)
 | []=>List.Pairwise.nil
 | _::l=>Fc (sj l)
theorem Inc.uniq:∀ {r r':List Nat},Inc r->Inc r'->(∀x,x∈r↔x∈r')->r=r'
 | [],r',_,_,h=>by
  cases r' with
  | nil=>rfl
  | cons b r'=>exact absurd ((h b).2 (.head _)) (by simp)
 | a::r,[],_,_,h=>absurd ((h a).1 (.head _)) (by simp)
 | a::r,b::r',h1,h2,h=>by
  have p1:=List.pairwise_cons.1 h1;have p2:=List.pairwise_cons.1 h2;have hab:a=b:=by
   have ha:=(h a).1 (.head _);have hb:=(h b).2 (.head _);rcases List.mem_cons.1 ha with e|ha
   ·exact e
   ·rcases List.mem_cons.1 hb with e|hb
    ·exact e.symm
    ·have:=p1.1 b hb;have:=p2.1 a ha;omega
  subst hab;congr 1;refine Inc.uniq p1.2 p2.2 λx=>?_;constructor
  ·intro hx;rcases List.mem_cons.1 ((h x).1 (.tail _ hx)) with e|e
   ·subst e;exact absurd (p1.1 _ hx) (nLi _)
   ·exact e
  ·intro hx;rcases List.mem_cons.1 ((h x).2 (.tail _ hx)) with e|e
   ·subst e;exact absurd (p2.1 _ hx) (nLi _)
   ·exact e
theorem NS {l r:List Nat}(h:Inc r)(hm:∀x,x∈r↔x∈l):sdN l=r:=Inc.uniq (sj l) h λx=>sdN_mem.trans (hm x).symm
theorem Fe {l:List Nat}(h:Inc l):l.Nodup:=h.imp λh=>Nat.ne_of_lt h
theorem nZ {l:List Nat}(h:Inc l){n:Nat}(hn:∀x∈l,x<n):l.length<=n:=by
 have:=qw (Fe h) (b:=List.range n) λx hx=>List.mem_range.2 (hn x hx)
 rwa [List.length_range] at this
def ddP (p:Nat):List Nat->List Nat
 | []=>[]
 | b::l=>if b=p then ddP b l else b::ddP b l
def ddN:List Nat->List Nat
 | []=>[]
 | a::l=>a::ddP a l
theorem zp:∀(p:Nat)(l:List Nat)(a b:Nat),(p::l).getLast?=some a->ddP p (l++[b])=ddP p l++(if b=a then [] else [b])
 | p,[],a,b,h=>by
  simp only[List.getLast?_singleton,Option.some.injEq] at h;subst h;simp only[List.nil_append,ddP]
 | p,c::l,a,b,h=>by
  rw[List.getLast?_cons_cons] at h;simp only[List.cons_append,ddP,zp c l a b h];split<;>rfl
theorem Ff {m:List Nat}{k a b:Nat}(ha:m[k]?=some a)(hb:m[k+1]?=some b):ddN (m.take (k+1+1))=ddN (m.take (k+1))++(if b=a then [] else [b]):=by
 rw[dM hb,dM ha];cases hm:m.take k with
 | nil=>exact congrArg (a::·) (zp a [] a b rfl)
 | cons p l=>exact congrArg (p::·) (zp p (l++[a]) a b (by rw[<- List.cons_append,List.getLast?_concat]))
theorem Fg:∀(p:Nat)(l:List Nat),(p::l).Pairwise (·<=·)->(∀x,x∈p::ddP p l↔x∈p::l)/\Inc (p::ddP p l)
 | p,[],_=>⟨λ_=>Iff.rfl,List.pairwise_singleton ..⟩
 | p,b::l,h=>by
  have h1:=List.pairwise_cons.1 h;obtain⟨i1,i2⟩:=Fg b l h1.2;simp only[ddP];by_cases hc:b=p
  ·subst hc;rw[if_pos rfl];exact⟨λx=>by rw[i1 x];simp,i2⟩
  ·rw[if_neg hc];have hlt:p<b:=by have:=h1.1 b (.head _);omega
   refine⟨λx=>by rw[List.mem_cons,i1 x,List.mem_cons (l:=b::l)],List.pairwise_cons.2 ⟨λy hy=>?_,i2⟩⟩;rcases List.mem_cons.1 hy with rfl|hy
   ·exact hlt
   ·exact Nat.lt_trans hlt ((List.pairwise_cons.1 i2).1 y hy)
theorem Fh {l:List Nat}(h:l.Pairwise (·<=·)):(∀x,x∈ddN l↔x∈l)/\Inc (ddN l):=by
 cases l with
 | nil=>exact⟨λ_=>Iff.rfl,List.Pairwise.nil⟩
 | cons a l=>exact Fg a l h
theorem Fi {l m:List Nat}(hp:m.Perm l)(h:m.Pairwise (·<=·)):ddN m=sdN l :=
 (NS (Fh h).2 λx=>((Fh h).1 x).trans hp.mem_iff).symm
theorem sn (l:List Nat):(sdN l).length<=l.length:=qw (Fe (sj l)) λ_=>sdN_mem.1
def Srt (W:List Fm):Prop:=W.Pairwise λa b=>eK a b<0
theorem qx {W:List Fm}(h:Srt W){i k:Nat}{a b:Fm}(ha:W[i]?=some a)(hb:W[k]?=some b)(hik:i<k):eK a b<0:=by
 obtain⟨h1,h2⟩:=lGs ha;obtain⟨h3,h4⟩:=lGs hb;have:=List.pairwise_iff_getElem.1 h i k h1 h3 hik
 rwa [h2,h4] at this
theorem zr {W:List Fm}(h:Srt W){i k:Nat}{a:Fm}(ha:W[i]?=some a)(hb:W[k]?=some a):i=k:=by
 rcases Nat.lt_trichotomy i k with h1|h1|h1
 ·exact absurd (qx h ha hb h1) (qq a)
 ·exact h1
 ·exact absurd (qx h hb ha h1) (qq a)
def fmW (W:List Fm)(l:List Nat):List Fm:=l.filterMap λi=>W[i]?
theorem yZo {W:List Fm}{l:List Nat}{f:Fm}:f∈fmW W l↔∃i∈l,W[i]?=some f:=by simp[fmW]
def Ix (W:List Fm)(l:List Nat):Prop:=Inc l/\∀i∈l,i<W.length
theorem Ix.tail {W:List Fm}{i:Nat}{l:List Nat}(h:Ix W (i::l)):Ix W l:=⟨(List.pairwise_cons.1 h.1).2,λk hk=>h.2 k (.tail _ hk)⟩
theorem Ix.get {W:List Fm}{l:List Nat}(h:Ix W l){i:Nat}(hi:i∈l):∃f,W[i]?=some f:=⟨_,List.getElem?_eq_getElem (h.2 i hi)⟩
theorem zt {W:List Fm}{i:Nat}{l:List Nat}{f:Fm}(h:W[i]?=some f):fmW W (i::l)=f::fmW W l:=by simp[fmW,h]
theorem Fj {W:List Fm}(hW:Srt W):∀ {l:List Nat},Ix W l->Srt (fmW W l)
 | [],_=>List.Pairwise.nil
 | i::l,h=>by
  obtain⟨f,hf⟩:=h.get (.head _);rw[zt hf];refine List.pairwise_cons.2 ⟨λg hg=>?_,Fj hW h.tail⟩;obtain⟨k,hk,hkg⟩:=yZo.1 hg;exact qx hW hf hkg ((List.pairwise_cons.1 h.1).1 k hk)
theorem zu {W:List Fm}:∀ {l:List Nat},Ix W l->(fmW W l).length=l.length
 | [],_=>rfl
 | i::l,h=>by
  obtain⟨f,hf⟩:=h.get (.head _);rw[zt hf,List.length_cons,List.length_cons,zu h.tail]
theorem vd {W:List Fm}(hW:Srt W){l:List Nat}(h:Ix W l){m:List Fm}(hm:∀f,f∈fmW W l↔f∈m):fmW W l=setF m:=(my ⟨Fj hW h,hm⟩).symm
theorem Fk {W:List Fm}(hW:Srt W){l m:List Nat}(hl:Ix W l)(hm:Ix W m)(h:fmW W l=fmW W m):l=m:=by
 refine Inc.uniq hl.1 hm.1 λi=>?_;have key:∀ {l m:List Nat},Ix W l->fmW W l=fmW W m->i∈l->i∈m:=λhl h hi=>by
  obtain⟨f,hf⟩:=hl.get hi;have:f∈fmW W _:=yZo.2 ⟨i,hi,hf⟩;rw[h] at this;obtain⟨k,hk,hkf⟩:=yZo.1 this
  rwa [zr hW hf hkf]
 exact⟨key hl h,key hm h.symm⟩
open Classical in
noncomputable def noW (W:List Fm)(f:Fm):Nat:=if h:∃i,W[i]?=some f then h.choose else 0
theorem ve {W:List Fm}{f:Fm}(h:f∈W):W[noW W f]?=some f:=by
 obtain⟨i,hi⟩:=List.mem_iff_getElem?.1 h;have he:∃i,W[i]?=some f:=⟨i,hi⟩
 unfold noW;rw[dif_pos he];exact he.choose_spec
theorem NT {W:List Fm}(hW:Srt W){f:Fm}{i:Nat}(h:W[i]?=some f):noW W f=i:=zr hW (ve (lMg h)) h
noncomputable def l8 (W:List Fm)(l:List Fm):List Nat:=sdN (l.map (noW W))
theorem qy {W:List Fm}{l:List Fm}(h:∀f∈l,f∈W):Ix W (l8 W l):=by
 refine⟨sj _,λi hi=>?_⟩;obtain⟨f,hf,rfl⟩:=List.mem_map.1 (sdN_mem.1 hi);exact (lGs (ve (h f hf))).1
theorem sr {W:List Fm}{l:List Fm}(h:∀f∈l,f∈W){f:Fm}:f∈fmW W (l8 W l)↔f∈l:=by
 rw[yZo];constructor
 ·rintro⟨i,hi,hf⟩;obtain⟨g,hg,rfl⟩:=List.mem_map.1 (sdN_mem.1 hi);rw[ve (h g hg)] at hf;cases hf;exact hg
 ·intro hf;exact⟨_,sdN_mem.2 (List.mem_map_of_mem hf),ve (h f hf)⟩
abbrev Ln:=List Nat×List Nat
def lnW (W:List Fm)(ln:Ln):Sn:=(fmW W ln.1,fmW W ln.2)
def LnOk (W:List Fm)(ln:Ln):Prop:=Ix W ln.1/\Ix W ln.2
noncomputable def lp (W:List Fm)(s:Sn):Ln:=(l8 W s.1,l8 W s.2)
def InW (W:List Fm)(s:Sn):Prop:=(∀f∈s.1,f∈W)/\∀f∈s.2,f∈W
theorem zw {W:List Fm}{s:Sn}(h:InW W s):LnOk W (lp W s):=⟨qy h.1,qy h.2⟩
theorem vf {W:List Fm}(hW:Srt W){s:Sn}(h:InW W s):lnW W (lp W s)=nf s:=by
 unfold lnW lp nf;rw[vd hW (qy h.1) λf=>sr h.1,vd hW (qy h.2) λf=>sr h.2]
theorem Fl {W:List Fm}(hW:Srt W){a b:Ln}(ha:LnOk W a)(hb:LnOk W b)(h:lnW W a=lnW W b):a=b:=by
 have h1:=congrArg Prod.fst h;have h2:=congrArg Prod.snd h;exact Prod.ext (Fk hW ha.1 hb.1 h1) (Fk hW ha.2 hb.2 h2)
abbrev Ex:=Ln×Nat×Nat
noncomputable def exW (W:List Fm)(p:Sn):Ex:=(lp W p,p.1.length,p.2.length)
def rgtN (j:Bool)(ln:Ln)(x:Ex):List Nat:=if j=true/\0<x.2.2 then [] else ln.2
def kd (j:Bool)(ln:Ln)(x:Ex):Ln:=(sdN (ln.1++x.1.1),sdN (rgtN j ln x++x.1.2))
def tooN (j:Bool)(ln:Ln)(x:Ex):Bool:=decide (64<ln.1.length+x.2.1) || decide (64<(rgtN j ln x).length+x.2.2)
theorem Fp {W:List Fm}{a b:List Nat}(ha:∀i∈a,i<W.length)(hb:∀i∈b,i<W.length):Ix W (sdN (a++b)) :=
 ⟨sj _,λi hi=>(List.mem_append.1 (sdN_mem.1 hi)).elim (ha i) (hb i)⟩
theorem NU {W:List Fm}{j:Bool}{ln:Ln}{x:Ex}(h:LnOk W ln):∀i∈rgtN j ln x,i<W.length:=by
 unfold rgtN;split
 ·intro i hi;cases hi
 ·exact h.2.2
theorem Fq {W:List Fm}{j:Bool}{ln:Ln}{p:Sn}(h:LnOk W ln)(hp:InW W p):LnOk W (kd j ln (exW W p)) :=
 ⟨Fp h.1.2 (qy hp.1).2,Fp (NU h) (qy hp.2).2⟩
theorem NV {W:List Fm}(hW:Srt W){j:Bool}{ln:Ln}{p:Sn}(h:LnOk W ln)(hp:InW W p):lnW W (kd j ln (exW W p))=np j (lnW W ln) p:=by
 have hk:=Fq (j:=j) h hp;unfold np nf;refine Prod.ext ?_ ?_
 ·refine vd hW hk.1 λf=>?_;rw[yZo,List.mem_append];simp only[kd,sdN_mem,List.mem_append];constructor
  ·rintro⟨i,hi|hi,hf⟩
   ·exact .inl (yZo.2 ⟨i,hi,hf⟩)
   ·exact .inr ((sr hp.1).1 (yZo.2 ⟨i,hi,hf⟩))
  ·rintro (hf|hf)
   ·obtain⟨i,hi,hf⟩:=yZo.1 hf;exact⟨i,.inl hi,hf⟩
   ·obtain⟨i,hi,hf⟩:=yZo.1 ((sr hp.1).2 hf);exact⟨i,.inr hi,hf⟩
 ·refine vd hW hk.2 λf=>?_;have hpos:0<(exW W p).2.2↔p.2≠[]:=by simp[exW,List.length_pos_iff]
  rw[yZo];unfold rgt;simp only[kd,sdN_mem,List.mem_append,rgtN,hpos];have hr:∀ {f},f∈fmW W (exW W p).1.2↔f∈p.2:=sr hp.2;by_cases hc:j=true/\p.2≠[]
  ·rw[if_pos hc,if_pos hc];constructor
   ·rintro⟨i,hi|hi,hf⟩
    ·cases hi
    ·exact hr.1 (yZo.2 ⟨i,hi,hf⟩)
   ·intro hf;obtain⟨i,hi,hf⟩:=yZo.1 (hr.2 hf);exact⟨i,.inr hi,hf⟩
  ·rw[if_neg hc,if_neg hc,List.mem_append];constructor
   ·rintro⟨i,hi|hi,hf⟩
    ·exact .inl (yZo.2 ⟨i,hi,hf⟩)
    ·exact .inr (hr.1 (yZo.2 ⟨i,hi,hf⟩))
   ·rintro (hf|hf)
    ·obtain⟨i,hi,hf⟩:=yZo.1 hf;exact⟨i,.inl hi,hf⟩
    ·obtain⟨i,hi,hf⟩:=yZo.1 (hr.2 hf);exact⟨i,.inr hi,hf⟩
theorem Fs {W:List Fm}{j:Bool}{ln:Ln}{p:Sn}(h:LnOk W ln):tooN j ln (exW W p)=true↔tooL j (lnW W ln) p:=by
 have hpos:0<(exW W p).2.2↔p.2≠[]:=by simp[exW,List.length_pos_iff]
 have hr:(rgtN j ln (exW W p)).length=if j=true/\p.2≠[] then 0 else (fmW W ln.2).length:=by
  unfold rgtN;by_cases hc:j=true/\p.2≠[]
  ·rw[if_pos hc,if_pos ⟨hc.1,hpos.2 hc.2⟩];rfl
  ·rw[if_neg hc,if_neg λh=>hc ⟨h.1,hpos.1 h.2⟩,zu h.2]
 unfold tooN tooL;rw[Bool.or_eq_true,dTe,dTe,hr,lnW,zu h.1];rfl
def clN (W:List Fm)(ln:Ln):Prop:=(∃i∈ln.1,i∈ln.2)\/∃i∈ln.1,∃f,W[i]?=some f/\jU f=true
theorem n_ {W:List Fm}(hW:Srt W){ln:Ln}(h:LnOk W ln):clN W ln↔ClF (lnW W ln).1 (lnW W ln).2:=by
 unfold clN ClF lnW;refine or_congr ⟨?_,?_⟩ ⟨?_,?_⟩
 ·rintro⟨i,h1,h2⟩;obtain⟨f,hf⟩:=h.1.get h1;exact⟨f,yZo.2 ⟨i,h1,hf⟩,yZo.2 ⟨i,h2,hf⟩⟩
 ·rintro⟨f,h1,h2⟩;obtain⟨i,hi,hf⟩:=yZo.1 h1;obtain⟨k,hk,hkf⟩:=yZo.1 h2;exact⟨i,hi,by rw[zr hW hf hkf];exact hk⟩
 ·rintro⟨i,h1,f,hf,h2⟩;exact⟨f,yZo.2 ⟨i,h1,hf⟩,h2⟩
 ·rintro⟨f,h1,h2⟩;obtain⟨i,hi,hf⟩:=yZo.1 h1;exact⟨i,hi,f,hf,h2⟩
end Go.Proofs.Tryz
namespace Go.Proofs
open Go.Shelf
def Tryz.sortIL_ren:Go.Shelf.Ren:=⟨λ| 5=>170|8=>197|7=>199|19=>232|20=>233|10=>234|11=>235|12=>236|13=>237|14=>238|15=>239|16=>172|17=>240|18=>241|30=>263|31=>259|32=>260|33=>264|34=>265|35=>200|40=>278|n=>n,λ| 23=>36|25=>3|3=>3|32=>242|22=>36|0=>0|44=>298|46=>300|4=>4|36=>292|35=>291|41=>200|5=>5|9=>9|53=>318|57=>54|63=>333|64=>266|n=>n,λ| n=>n⟩
theorem oe:Go.Proofs.SlLaysM.n5 Tryz.prog Tryz.sortIL_ren:={
 mixed:=by kernel_rfl
 f5:=⟨Tryz.f170.name,by decide,Tryz.func170.trans (congrArg some (by kernel_rfl))⟩
 f7:=⟨Tryz.f199.name,by decide,Tryz.func199.trans (congrArg some (by kernel_rfl))⟩
 f8:=Tryz.func197.trans (congrArg some (by kernel_rfl))
 f10:=⟨Tryz.f234.name,by decide,Tryz.func234.trans (congrArg some (by kernel_rfl))⟩
 f11:=⟨Tryz.f235.name,by decide,Tryz.func235.trans (congrArg some (by kernel_rfl))⟩
 f12:=⟨Tryz.f236.name,by decide,Tryz.func236.trans (congrArg some (by kernel_rfl))⟩
 f13:=⟨Tryz.f237.name,by decide,Tryz.func237.trans (congrArg some (by kernel_rfl))⟩
 f14:=⟨Tryz.f238.name,by decide,Tryz.func238.trans (congrArg some (by kernel_rfl))⟩
 f15:=⟨Tryz.f239.name,by decide,Tryz.func239.trans (congrArg some (by kernel_rfl))⟩
 f16:=⟨Tryz.f172.name,by decide,Tryz.func172.trans (congrArg some (by kernel_rfl))⟩
 f17:=⟨Tryz.f240.name,by decide,Tryz.func240.trans (congrArg some (by kernel_rfl))⟩
 f18:=⟨Tryz.f241.name,by decide,Tryz.func241.trans (congrArg some (by kernel_rfl))⟩
 f19:=Tryz.func232.trans (congrArg some (by kernel_rfl))
 f20:=Tryz.func233.trans (congrArg some (by kernel_rfl))
 f30:=⟨Tryz.f263.name,by decide,Tryz.func263.trans (congrArg some (by kernel_rfl))⟩
 f31:=Tryz.func259.trans (congrArg some (by kernel_rfl))
 f32:=Tryz.func260.trans (congrArg some (by kernel_rfl))
 f33:=⟨Tryz.f264.name,by decide,Tryz.func264.trans (congrArg some (by kernel_rfl))⟩
 f34:=⟨Tryz.f265.name,by decide,Tryz.func265.trans (congrArg some (by kernel_rfl))⟩
 f35:=⟨Tryz.f200.name,by decide,Tryz.func200.trans (congrArg some (by kernel_rfl))⟩
 f40:=⟨Tryz.f278.name,by decide,Tryz.func278.trans (congrArg some (by kernel_rfl))⟩
 t0:=Tryz.underlying0
 a0:=Tryz.isAgg0
 z0:=Tryz.sizeOf0
 v0:=Tryz.zeroValue0
 t3:=Tryz.underlying3
 a3:=Tryz.isAgg3
 z3:=Tryz.sizeOf3
 v3:=Tryz.zeroValue3
 t4:=Tryz.underlying4
 a4:=Tryz.isAgg4
 z4:=Tryz.sizeOf4
 v4:=Tryz.zeroValue4
 t5:=Tryz.underlying5
 a5:=Tryz.isAgg5
 z5:=Tryz.sizeOf5
 v5:=Tryz.zeroValue5
 t9:=Tryz.underlying9
 a9:=Tryz.isAgg9
 z9:=Tryz.sizeOf9
 v9:=Tryz.zeroValue9
 t22:=Tryz.underlying36
 a22:=Tryz.isAgg36
 z22:=Tryz.sizeOf36
 v22:=Tryz.zeroValue36
 t23:=Tryz.underlying36
 a23:=Tryz.isAgg36
 z23:=Tryz.sizeOf36
 v23:=Tryz.zeroValue36
 t25:=Tryz.underlying3
 a25:=Tryz.isAgg3
 z25:=Tryz.sizeOf3
 v25:=Tryz.zeroValue3
 t32:=Tryz.underlying242
 a32:=Tryz.isAgg242
 z32:=Tryz.sizeOf242
 v32:=Tryz.zeroValue242
 t35:=Tryz.underlying291
 a35:=Tryz.isAgg291
 z35:=Tryz.sizeOf291
 v35:=Tryz.zeroValue291
 t36:=Tryz.underlying292
 a36:=Tryz.isAgg292
 z36:=Tryz.sizeOf292
 v36:=Tryz.zeroValue292
 t41:=Tryz.underlying200
 a41:=Tryz.isAgg200
 z41:=Tryz.sizeOf200
 v41:=Tryz.zeroValue200
 t44:=Tryz.underlying298
 a44:=Tryz.isAgg298
 z44:=Tryz.sizeOf298
 v44:=Tryz.zeroValue298
 t46:=Tryz.underlying300
 a46:=Tryz.isAgg300
 z46:=Tryz.sizeOf300
 v46:=Tryz.zeroValue300
 t53:=Tryz.underlying318
 a53:=Tryz.isAgg318
 z53:=Tryz.sizeOf318
 v53:=Tryz.zeroValue318
 t57:=Tryz.underlying54
 a57:=Tryz.isAgg54
 z57:=Tryz.sizeOf54
 v57:=Tryz.zeroValue54
 t63:=Tryz.underlying333
 a63:=Tryz.isAgg333
 z63:=Tryz.sizeOf333
 v63:=Tryz.zeroValue333
 t64:=Tryz.underlying266
 a64:=Tryz.isAgg266
 z64:=Tryz.sizeOf266
 v64:=Tryz.zeroValue266 }
end Go.Proofs
namespace Go.Proofs.Tryz
set_option maxRecDepth 4000
open Go Go.Iv Go.Sort
open Go.RowKit (Below)
variable (gl:Nat->Option IV)
theorem NW {ys:List Int}{l:List Nat}(h:ys.Perm (l.map λ(n:Nat)=>(n:Int))):∃m:List Nat,ys=m.map (λ(n:Nat)=>(n:Int))/\m.Perm l:=by
 refine⟨ys.map Int.toNat,?_,?_⟩
 ·rw[List.map_map];refine (List.map_id ys).symm.trans (List.map_congr_left λy hy=>?_);obtain⟨n,_,rfl⟩:=List.mem_map.1 (h.mem_iff.1 hy);rfl
 ·have:=h.map Int.toNat;rw[List.map_map] at this;have e:(Int.toNat ∘ λ(n:Nat)=>(n:Int))=id:=by funext n;rfl
  rwa [e,List.map_id] at this
theorem Fu (T:Gt gl)(l:List Nat)(rest:List IV)(b cap:Nat)(st:ISt)(hlen:l.length<=1099511627776)(hb:st b=some (.box (dO l++rest))) :
  ICall prog gl 170 [.raw (.slice (some ⟨b,0,none⟩) l.length cap)] st
   (λr st'=>r=.tup []/\∃m:List Nat,m.Perm l/\m.Pairwise (λx y=>x<=y)/\st'=st.put b (some (.box (dO m++rest)))):=by
 intro B X rs hg hst hv;subst hst;obtain⟨r0,rfl⟩:∃r0,rs=[r0]:=by
  match rs,hv with
  | [a],_=>exact⟨a,rfl⟩
  | [],hv=>cases hv.1
  | _::_::_,hv=>cases hv.1
 obtain rfl:=dK (hv.2 0 r0 _ rfl rfl);obtain⟨hL,c,Ty,hh,hvl⟩:=hg.ok b _ hb;have hblk:b<X.w.heap.size:=hg.lt hb;have hcs:c.toList.length=l.length+rest.length:=by
  have:=hvl.1;rw[lLa,dO,List.length_map] at this;exact this
 have hget:∀j,j<l.length->c[j]?=some (.int .i64 ((l[j]?.getD 0:Nat):Int)):=λj hj=>by
  obtain⟨n,hn⟩:=dD hj;have h1:(dO l++rest)[j]?=some (.raw (.int .i64 (n:Int))):=by
   rw[List.getElem?_append_left (by rw[dO,List.length_map];exact hj),dO,List.getElem?_map,hn];rfl
  obtain⟨r,hr,hrv⟩:=VL.get hvl h1;rw[dK hrv,Array.getElem?_toList] at hr;rw[hr,hn];rfl
 let zs:List Int:=l.map λ(n:Nat)=>(n:Int)
 have hH:Holds (Value.int .i64) X.w b 0 zs.toArray:=by
  intro j hj;have hj':j<l.length:=by simpa[zs] using hj
  obtain⟨n,hn⟩:=dD hj';refine⟨?_,?_⟩
  ·rw[Nat.zero_add,jx hh,Array.getElem?_toList,hget j hj',hn];have:(zs.toArray[j]!)=(n:Int):=by
    rw[getElem!_pos zs.toArray j hj];simp only[zs,List.getElem_toArray,List.getElem_map];rw[(lGs hn).2]
   rw[this];rfl
  ·simp only[World.frozen?,hh];simp
 have hcon:=AnyM.slices_Sort_int oe b 0 cap zs X.w hH hblk (by simp[zs];omega);have harr:(⟨[.slice (some ⟨b,0,none⟩) l.length cap]⟩:Array Value)=#[.slice (some ⟨b,0,none⟩) zs.length cap]:=by simp[zs]
 rw[harr];refine Calls.mono hcon ?_;rintro e w' ⟨rfl,n,os,rfl⟩;obtain⟨m,hm1,hm2⟩:=NW (l:=l) (List.mergeSort_perm zs λx y=>decide (x<=y));have hsrt:m.Pairwise (λx y=>x<=y):=by
  have:=List.pairwise_mergeSort (le:=λx y:Int=>decide (x<=y)) (λa b c h1 h2=>by simp at h1 h2 ⊢;omega) (λa b=>by simp;omega) zs;rw[hm1,List.pairwise_map] at this;exact this.imp λh=>by simpa using h
 have hml:m.length=l.length:=hm2.length_eq
 let cs':Array Value:=putCells (Value.int .i64) 0 (zs.mergeSort λx y=>decide (x<=y)).toArray c
 have hsz:cs'.size=c.size:=by simp[cs',putCells]
 have hcl:cs'.toList=(m.map λ(n:Nat)=>Value.int .i64 (n:Int))++c.toList.drop l.length:=by
  apply List.ext_getElem?;intro i;have hzl:(zs.mergeSort λx y=>decide (x<=y)).toArray.size=l.length:=by simp[zs]
  show (putCells (Value.int .i64) 0 _ c).toList[i]?=_;unfold putCells;rw[Array.getElem?_toList,Array.getElem?_mapIdx];by_cases hi:i<l.length
  ·rw[List.getElem?_append_left (by rw[List.length_map,hml];exact hi),List.getElem?_map];have hic:i<c.size:=by rw[<- Array.length_toList];omega
   rw[Array.getElem?_eq_getElem hic];simp only[Option.map_some,Nat.zero_add,Nat.zero_le,true_and,Nat.sub_zero];rw[if_pos (by omega),hm1];have hmi:i<m.length:=by omega
   rw[List.getElem?_eq_getElem hmi];simp only[Option.map_some];rw[getElem!_pos _ i (by simpa using hmi)];simp
  ·rw[List.getElem?_append_right (by rw[List.length_map,hml];omega),List.getElem?_drop,List.length_map,hml,Array.getElem?_toList];rw[show l.length+(i-l.length)=i by omega];cases hc:c[i]? with
   | none=>rfl
   | some v =>
    simp only[Option.map_some,Nat.zero_add,Nat.zero_le,true_and];rw[if_neg (by omega)]
 have hkeep:∀i,i<X.L b->cs'[i]?=c[i]?:=λi hi=>by rw[hL] at hi;omega
 have hnew:VL B X.L X.w cs'.toList (dO m++rest):=by
  rw[hcl];refine VL.append ⟨by simp[dO],λi r x hr hx=>?_⟩ ?_
  ·rw[dO,List.getElem?_map] at hx;rw[List.getElem?_map] at hr;cases hq:m[i]? with
   | none=>rw[hq] at hr;cases hr
   | some k=>rw[hq] at hr hx;cases hr;cases hx;exact .raw _ trivial
  ·have:=hvl.drop l.length
   rwa [List.drop_left' (by rw[dO,List.length_map])] at this
 have hrow:=hg.row (cs':=cs') (n:=0) (so:=some (.box (dO m++rest))) hh hsz (by omega) hkeep (λi hi=>by
  cases hi;refine⟨by simp[WS.row],_,_,setRow_heap X.w b c cs' Ty (0,0) hh,?_⟩;exact⟨hnew.1,λi r x hr hx=>kH hh hsz (by omega) hkeep (hnew.2 i r x hr hx)⟩)
 have hxr:Ext X (X.row b cs' 0 (some (.box (dO m++rest)))):=(Ext.refl X).row hh hsz (by omega) hkeep (.inr (by rw[hb];simp));have hw:(putRow (Value.int .i64) (Sort.ahead X.w n) b 0 (zs.mergeSort λx y=>decide (x<=y)).toArray)=(X.w.setRow b cs').drewN n:=by
  unfold putRow mapBlock World.setRow Sort.ahead World.drewN;simp only;congr 1;apply Array.ext_getElem?;intro j;by_cases hj:j=b
  ·subst hj;rw[Array.getElem?_modify,if_pos rfl,hh];have:=setRow_heap X.w j c cs' Ty (0,0) hh;unfold World.setRow at this;rw[this];rfl
  ·have:=setRow_other X.w b j cs' hj;unfold World.setRow at this;rw[this,Array.getElem?_modify,if_neg (λh=>hj h.symm)]
 have hb2:Below (X.row b cs' 0 (some (.box (dO m++rest)))).w.heap.size (X.row b cs' 0 (some (.box (dO m++rest)))).w (grow ((X.row b cs' 0 (some (.box (dO m++rest)))).w.drewN n) os):=⟨rfl,rfl,rfl,by simp[grow,World.drewN],λj hj=>by
  show ((X.row b cs' 0 (some (.box (dO m++rest)))).w.heap++os)[j]?=_;rw[Array.getElem?_append_left hj]⟩
 rw[hw];exact⟨_,rfl,{ X.row b cs' 0 (some (.box (dO m++rest))) with w:=grow ((X.row b cs' 0 (some (.box (dO m++rest)))).w.drewN n) os },.tup [],rfl,xU hrow hb2 T.some,hxr.trans (oL hrow hb2),.tup [] [] rfl (λi r c h=>by simp at h),rfl,m,hm2,hsrt,rfl⟩
theorem Fv (t:Tag)(ht:t.cap=.nil)(st:ISt):ICall prog gl 170 [.sl t []] st (λr st'=>r=.tup []/\st'=st):=by
 intro B X rs hg hst hv;obtain⟨r0,rfl⟩:∃r0,rs=[r0]:=by
  match rs,hv with
  | [a],_=>exact⟨a,rfl⟩
  | [],hv=>cases hv.1
  | _::_::_,hv=>cases hv.1
 obtain⟨p,cap,rfl⟩:∃p cap,r0=.slice p 0 cap:=by
  have:=hv.2 0 r0 _ rfl rfl;obtain⟨a,cap,_,_,rfl,_⟩:=jo this;exact⟨a,cap,rfl⟩
 refine Calls.mono (AnyM.slices_Sort_int_none oe p cap X.w) ?_;rintro e w' ⟨rfl,rfl⟩;exact⟨_,rfl,X,.tup [],rfl,hg,Ext.refl X,.tup [] [] rfl (λi r c h=>by simp at h),rfl,hst⟩
