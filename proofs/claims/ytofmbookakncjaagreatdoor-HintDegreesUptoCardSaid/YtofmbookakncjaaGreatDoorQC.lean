/- Walks: the order of formulas. -/
import Derived.Test.YtofmbookakncjaaGreatDoorQB
import Derived.Lib.Bytealg
set_option linter.all false
open Nat renaming reduceEqDiff → zE,reduceBEq → zB,reduceAdd → zA,reduceMul → zM,reduceSub → zS,reduceLeDiff → zL
namespace Go.Proofs.Tryz
open Go Go.Iv Go.Shelf Go.RowKit
set_option maxRecDepth 4000
variable (gl:Nat->Option IV)
theorem zZx (a b:ByteArray)(w:World):Calls prog 100 #[.string a,.string b] w λe w'=>e=.returned (.int .i64 (Lib.compareBytes a.data.toList b.data.toList))/\w'=w:=by
 have t9:prog.underlying 9=some .string:=by kernel_rfl
 have a9:∀w,(isAgg 9).run prog w=.ok false w:=run_isAgg_plain t9 rfl;have t3:prog.underlying 3=some (.int .i64):=by kernel_rfl
 have a3:∀w,(isAgg 3).run prog w=.ok false w:=run_isAgg_plain t3 rfl
 go_enter func100,(show _=_ from rfl)
 go_wp2
 rw[run_callFunc_extern func121 (by kernel_rfl) (by kernel_rfl) (by kernel_rfl) (e:=Extern.BytealgCompare.compare) (by kernel_rfl),Lib.run_compareString];simp only[Result.andThen];rw[Oper.upon_value]
 go_wp2
 go_ret
 exact⟨rfl,rfl⟩
theorem yG2:∀x y:List UInt8,Lib.compareBytes x y=if Op.bytesLess x y=true then -1 else if Op.bytesLess y x=true then 1 else 0
 | [],[]=>by simp[Lib.compareBytes,Op.bytesLess]
 | [],_::_=>by simp[Lib.compareBytes,Op.bytesLess]
 | _::_,[]=>by simp[Lib.compareBytes,Op.bytesLess]
 | a::x,b::y=>by
  have ih:=yG2 x y;unfold Lib.compareBytes Op.bytesLess;by_cases h1:a<b
  ·have h2:¬ b<a:=λh=>UInt8.lt_irrefl _ (UInt8.lt_trans h1 h);simp[h1]
  ·by_cases h2:b<a
   ·have h3:a≠b:=by rintro rfl;exact UInt8.lt_irrefl _ h2
    simp[h1,h2,h3]
   ·have:a=b:=UInt8.le_antisymm (UInt8.not_lt.1 h2) (UInt8.not_lt.1 h1);subst this;simp[h1,ih]
theorem zVr (a b:ByteArray)(st:ISt):ICall prog gl 100 [.raw (.string a),.raw (.string b)] st (λr st'=>r=.raw (.int .i64 (cmpB a b))/\st'=st):=by
 intro B X rs hg hst hv;have hr:rs=[.string a,.string b]:=by
  match rs,hv with
  | [r,r'],hv=>rw[V.raw_inv (hv.2 0 r _ rfl rfl),V.raw_inv (hv.2 1 r' _ rfl rfl)]
  | [],hv=>cases hv.1
  | [_],hv=>cases hv.1
  | _::_::_::_,hv=>cases hv.1
 subst hr;refine Calls.mono (zZx a b X.w) ?_;rintro e w' ⟨rfl,rfl⟩;refine⟨_,rfl,X,.raw (.int .i64 (cmpB a b)),rfl,hg,Ext.refl X,?_,rfl,hst⟩;rw[yG2];exact .raw _ trivial
theorem xXg (a b:ByteArray)(st:ISt):ICall prog gl 67 [.raw (.string a),.raw (.string b)] st (λr st'=>r=.raw (.int .i64 (cmpB a b))/\st'=st):=by
 refine iI func67 ?_;simp only[go_sem,zE,zA,reduceCtorEq];refine (zVr gl a b _).mono ?_;rintro _ _ ⟨rfl,rfl⟩;simp only[go_sem];exact yQ0 ⟨rfl,rfl⟩
theorem zWc (a:Nat)(st:ISt):ICall prog gl 99 [.raw (.int .u8 a)] st (λr st'=>r=.raw (.bool false)/\st'=st):=by
 refine iI func99 ?_;simp only[go_sem,zE,reduceCtorEq];exact yQ0 ⟨rfl,rfl⟩
theorem xGo (a b:Nat)(st:ISt):ICall prog gl 66 [.raw (.int .u8 a),.raw (.int .u8 b)] st (λr st'=>r=.raw (.int .i64 (cmpN a b))/\st'=st):=by
 refine iI func66 ?_;simp only[go_sem,zA,reduceCtorEq];refine (zWc gl a _).mono ?_;rintro _ _ ⟨rfl,rfl⟩;simp only[go_sem,zE,zA];refine (zWc gl b _).mono ?_;rintro _ _ ⟨rfl,rfl⟩;unfold cmpN;by_cases h1:a<b
 ·simp only[go_sem,zE,reduceCtorEq,lt_i h1];exact yQ0 ⟨by rw[if_pos h1],rfl⟩
 ·by_cases h2:b<a
  ·simp only[go_sem,zE,reduceCtorEq,yQl h1,lt_i h2];exact yQ0 ⟨by rw[if_neg h1,if_pos h2],rfl⟩
  ·simp only[go_sem,zE,reduceCtorEq,yQl h1,yQl h2];exact yQ0 ⟨by rw[if_neg h1,if_neg h2],rfl⟩
theorem xY4 (a:Nat)(st:ISt):ICall prog gl 122 [.raw (.int .i64 a)] st (λr st'=>r=.raw (.bool false)/\st'=st):=by
 refine iI func122 ?_;simp only[go_sem,zE,reduceCtorEq];exact yQ0 ⟨rfl,rfl⟩
theorem xY6 (a b:Nat)(st:ISt):ICall prog gl 101 [.raw (.int .i64 a),.raw (.int .i64 b)] st (λr st'=>r=.raw (.int .i64 (cmpN a b))/\st'=st):=by
 refine iI func101 ?_;simp only[go_sem,zA,reduceCtorEq];refine (xY4 gl a _).mono ?_;rintro _ _ ⟨rfl,rfl⟩;simp only[go_sem,zE,zA];refine (xY4 gl b _).mono ?_;rintro _ _ ⟨rfl,rfl⟩;unfold cmpN;by_cases h1:a<b
 ·simp only[go_sem,zE,reduceCtorEq,lt_i h1];exact yQ0 ⟨by rw[if_pos h1],rfl⟩
 ·by_cases h2:b<a
  ·simp only[go_sem,zE,reduceCtorEq,yQl h1,lt_i h2];exact yQ0 ⟨by rw[if_neg h1,if_pos h2],rfl⟩
  ·simp only[go_sem,zE,reduceCtorEq,yQl h1,yQl h2];exact yQ0 ⟨by rw[if_neg h1,if_neg h2],rfl⟩
theorem vQq {t:Tm}{x:IV}(h:IsTm t x):∃v n tg xs,x=.agg [.raw (.bool v),.raw (.string n),.sl tg xs]:=by
 obtain⟨v,n,us⟩:=t;obtain⟨tg,xs,rfl,_⟩:=h.mk;exact⟨_,_,_,_,rfl⟩
theorem zQd {α:Type}{f:α->α->Int}{g:List α->List α->Int}(g0:g [] []=0)(g1:∀a b l m,g (a::l) (b::m)=lexI (f a b) (g l m)):∀(l m l' m':List α),l.length=m.length->g (l++l') (m++m')=lexI (g l m) (g l' m')
 | [],[],l',m',_=>by rw[g0];simp[lexI]
 | a::l,b::m,l',m',h=>by
  rw[List.cons_append,List.cons_append,g1,g1,zQd g0 g1 l m l' m' (by simpa using h)];unfold lexI;by_cases h1:f a b=0
  ·simp[h1]
  ·simp[h1]
 | [],_::_,_,_,h=>by simp at h
 | _::_,[],_,_,h=>by simp at h
theorem i0 (x:Int)(h:x=0):decide (x=0)=true:=dEt h
theorem i1 (x:Int)(h:¬ x=0):decide (x=0)=false:=dEf h
def CmpT (a:Tm):Prop:=∀(b:Tm) (x y:IV) (_:IsTm a x) (_:IsTm b y) (st:ISt),ICall prog gl 69 [x,y] st (λr st'=>r=.raw (.int .i64 (yWd a b))/\st'=st)
def CmpF (a:Fm):Prop:=∀(b:Fm) (x y:IV) (_:IsFm a x) (_:IsFm b y) (st:ISt),ICall prog gl 34 [x,y] st (λr st'=>r=.raw (.int .i64 (yZa a b))/\st'=st)
theorem xG9 (us:List Tm)(IH:∀a∈us,CmpT gl a)(ws:List Tm)(t t':Tag)(xs ys:List IV)(ht:okEs t 3)(ht':okEs t' 3)(ha:IsTms us xs)(hb:IsTms ws ys)(st:ISt) :
  ICall prog gl 68 [.sl t xs,.sl t' ys,.fn (.func 69) [] []] st (λr st'=>r=.raw (.int .i64 (lenL yJo us ws))/\st'=st):=by
 refine iI func68 ?_;simp only[go_sem,zE,zA,reduceCtorEq,ha.len,hb.len];intro hla hlb;refine (xY6 gl us.length ws.length _).mono ?_;rintro _ st ⟨rfl,rfl⟩;unfold lenL;by_cases h0:cmpN us.length ws.length=0
 ·have hlen:=yX5.1 h0;simp only[go_sem,reduceCtorEq,i0 _ h0,ha.len];intro _;refine LoopC.ctr us.length (λk fr st' ds=>yJo (us.take k) (ws.take k)=0/\fr 0=.iv (.sl t xs)/\fr 1=.iv (.sl t' ys)/\fr 2=.iv (.fn (.func 69) [] [])/\fr 19=.iv (.raw (.int .i64 us.length))/\fr 20=.iv (.raw (.int .i64 k))/\st'=st/\ds=[]) ?_ ?_ ?_
  ·simp only[go_sem,zE,reduceCtorEq];exact⟨yK6,rfl⟩
  ·rintro k fr st1 _ hlt ⟨hn,f0,f1,f2,f19,f20,rfl,rfl⟩;obtain⟨a,hka⟩:=yQ1 hlt;obtain⟨b,hkb⟩:=yQ1 (l:=ws) (k:=k) (by omega);obtain⟨x,hkx,hx⟩:=ha.get hka;obtain⟨y,hky,hy⟩:=hb.get hkb;have hcall:=IH a (lMg hka) b x y hx hy st1;have htl:(us.take k).length=(ws.take k).length:=by rw[List.length_take,List.length_take];omega
   obtain⟨x1,x2,x3,x4,rfl⟩:=vQq hx;obtain⟨y1,y2,y3,y4,rfl⟩:=vQq hy;simp only[go_sem,zE,zB,zA,reduceCtorEq,f0,f1,f2,f19,f20,lt_i hlt,yQ3 ht,yQ3 ht',iNn,hkx,hky,fits];refine hcall.mono ?_;rintro _ _ ⟨rfl,rfl⟩;by_cases hc:yWd a b=0
   ·simp only[go_sem,zE,reduceCtorEq,i0 _ hc,f0,f1,f2,f19,f20,yQc hlt (show us.length<=281474976710656 by omega)];rw[yQ6 hka,yQ6 hkb,zQd yK6 yK5 _ _ _ _ htl,hn,yK5,yK6,hc];simp[lexI]
   ·simp only[go_sem,zE,i1 _ hc];refine yQ0 ⟨?_,rfl⟩;rw[h0];have h2:yJo us ws=yWd a b:=by
     conv=>lhs;rw[<- List.take_append_drop k us,<- List.take_append_drop k ws]
     rw[List.drop_eq_getElem_cons hlt,List.drop_eq_getElem_cons (show k<ws.length by omega),zQd yK6 yK5 _ _ _ _ htl,hn,yK5,(lGs hka).2,(lGs hkb).2];simp[lexI,hc]
    rw[h2];simp[lexI]
  ·rintro fr st1 _ ⟨hn,f0,f1,f2,f19,f20,rfl,rfl⟩;rw[lTl,show ws.take us.length=ws by rw[hlen,lTl]] at hn;simp only[go_sem,f19,f20,yQl (nLi _)];exact yQ0 ⟨by rw[h0,hn];simp[lexI],rfl⟩
 ·simp only[go_sem,zE,i1 _ h0];exact yQ0 ⟨by simp[lexI,h0],rfl⟩
theorem xZx (v:Bool)(n:ByteArray)(us:List Tm)(IH:∀a∈us,CmpT gl a):CmpT gl (.mk v n us):=by
 rintro⟨w,m,ws⟩ x y hx hy st;obtain⟨tx,cx,rfl,htx,hcx⟩:=hx.mk;obtain⟨ty,cy,rfl,hty,hcy⟩:=hy.mk;have hl:=λst=>xG9 gl us IH ws tx ty cx cy htx hty hcx hcy st;simp only[yWd];refine iI func69 ?_;by_cases hv:v=w
 ·subst hv;simp only[go_sem,zE,zA,beq_self_eq_true];refine (xXg gl n m _).mono ?_;rintro _ _ ⟨rfl,rfl⟩;by_cases h0:cmpB n m=0
  ·simp only[go_sem,zE,zA,i0 _ h0];refine (hl _).mono ?_;rintro _ _ ⟨rfl,rfl⟩;simp only[go_sem];exact yQ0 ⟨by simp[lexI,h0,lenL],rfl⟩
  ·simp only[go_sem,zE,i1 _ h0];exact yQ0 ⟨by simp[lexI,h0],rfl⟩
 ·cases v<;>cases w<;>first|exact absurd rfl hv|skip
  all_goals
   simp only[go_sem,zE,reduceCtorEq,beq_eq_false_iff_ne.2 hv];exact yQ0 ⟨by simp,rfl⟩
theorem zV8:∀(k:Nat)(t:Tm),SizeOf.sizeOf t<k->CmpT gl t
 | 0,t,h=>by omega
 | k+1,.mk v n us,h=>xZx gl v n us (λa ha=>zV8 k a (by
   have:=lSm ha;simp at h;omega))
theorem wKz (t:Tm):CmpT gl t:=zV8 gl _ t (Nat.lt_succ_self _)
theorem wG7 (us:List Fm)(IH:∀a∈us,CmpF gl a)(ws:List Fm)(t t':Tag)(xs ys:List IV)(ht:okEs t 4)(ht':okEs t' 4)(ha:IsFms us xs)(hb:IsFms ws ys)(st:ISt) :
  ICall prog gl 70 [.sl t xs,.sl t' ys,.fn (.func 34) [] []] st (λr st'=>r=.raw (.int .i64 (lenL yG3 us ws))/\st'=st):=by
 refine iI func70 ?_;simp only[go_sem,zE,zA,reduceCtorEq,ha.len,hb.len];intro hla hlb;refine (xY6 gl us.length ws.length _).mono ?_;rintro _ st ⟨rfl,rfl⟩;unfold lenL;by_cases h0:cmpN us.length ws.length=0
 ·have hlen:=yX5.1 h0;simp only[go_sem,reduceCtorEq,i0 _ h0,ha.len];intro _;refine LoopC.ctr us.length (λk fr st' ds=>yG3 (us.take k) (ws.take k)=0/\fr 0=.iv (.sl t xs)/\fr 1=.iv (.sl t' ys)/\fr 2=.iv (.fn (.func 34) [] [])/\fr 19=.iv (.raw (.int .i64 us.length))/\fr 20=.iv (.raw (.int .i64 k))/\st'=st/\ds=[]) ?_ ?_ ?_
  ·simp only[go_sem,zE,reduceCtorEq];exact⟨yUk,rfl⟩
  ·rintro k fr st1 _ hlt ⟨hn,f0,f1,f2,f19,f20,rfl,rfl⟩;obtain⟨a,hka⟩:=yQ1 hlt;obtain⟨b,hkb⟩:=yQ1 (l:=ws) (k:=k) (by omega);obtain⟨x,hkx,hx⟩:=ha.get hka;obtain⟨y,hky,hy⟩:=hb.get hkb;have hcall:=IH a (lMg hka) b x y hx hy st1;have htl:(us.take k).length=(ws.take k).length:=by rw[List.length_take,List.length_take];omega
   obtain⟨x1,x2,x3,x4,x5,x6,rfl⟩:=hx.agg;obtain⟨y1,y2,y3,y4,y5,y6,rfl⟩:=hy.agg;simp only[go_sem,zE,zB,zA,reduceCtorEq,f0,f1,f2,f19,f20,lt_i hlt,yQ3 ht,yQ3 ht',iNn,hkx,hky,fits];refine hcall.mono ?_;rintro _ _ ⟨rfl,rfl⟩;by_cases hc:yZa a b=0
   ·simp only[go_sem,zE,reduceCtorEq,i0 _ hc,f0,f1,f2,f19,f20,yQc hlt (show us.length<=281474976710656 by omega)];rw[yQ6 hka,yQ6 hkb,zQd yUk yUj _ _ _ _ htl,hn,yUj,yUk,hc];simp[lexI]
   ·simp only[go_sem,zE,i1 _ hc];refine yQ0 ⟨?_,rfl⟩;rw[h0];have h2:yG3 us ws=yZa a b:=by
     conv=>lhs;rw[<- List.take_append_drop k us,<- List.take_append_drop k ws]
     rw[List.drop_eq_getElem_cons hlt,List.drop_eq_getElem_cons (show k<ws.length by omega),zQd yUk yUj _ _ _ _ htl,hn,yUj,(lGs hka).2,(lGs hkb).2];simp[lexI,hc]
    rw[h2];simp[lexI]
  ·rintro fr st1 _ ⟨hn,f0,f1,f2,f19,f20,rfl,rfl⟩;rw[lTl,show ws.take us.length=ws by rw[hlen,lTl]] at hn;simp only[go_sem,f19,f20,yQl (nLi _)];exact yQ0 ⟨by rw[h0,hn];simp[lexI],rfl⟩
 ·simp only[go_sem,zE,i1 _ h0];exact yQ0 ⟨by simp[lexI,h0],rfl⟩
theorem xZy (o:Nat)(n:ByteArray)(us:List Tm)(sub:List Fm)(IH:∀a∈sub,CmpF gl a):CmpF gl (.mk o n us sub):=by
 rintro⟨w,m,ws,sub'⟩ x y hx hy st;obtain⟨t1,x1,t2,x2,rfl,_,e1,i1',e2,i2⟩:=hx.mk;obtain⟨t3,x3,t4,x4,rfl,_,e3,i3,e4,i4⟩:=hy.mk;have hl1:=λst=>xG9 gl us (λa _=>wKz gl a) ws t1 t3 x1 x3 e1 e3 i1' i3 st;have hl2:=λst=>wG7 gl sub IH sub' t2 t4 x2 x4 e2 e4 i2 i4 st;simp only[yZa];refine iI func34 ?_;simp only[go_sem,zE,zA];refine (xGo gl o w _).mono ?_;rintro _ _ ⟨rfl,rfl⟩;by_cases h0:cmpN o w=0
 ·simp only[go_sem,zE,zA,i0 _ h0];refine (xXg gl n m _).mono ?_;rintro _ _ ⟨rfl,rfl⟩;by_cases h1:cmpB n m=0
  ·simp only[go_sem,zE,zA,i0 _ h1];refine (hl1 _).mono ?_;rintro _ _ ⟨rfl,rfl⟩;by_cases h2:lenL yJo us ws=0
   ·simp only[go_sem,zE,zA,i0 _ h2];refine (hl2 _).mono ?_;rintro _ _ ⟨rfl,rfl⟩;simp only[go_sem];refine yQ0 ⟨?_,rfl⟩;unfold lenL at h2 ⊢;rw[h0,h1,h2];simp[lexI]
   ·simp only[go_sem,zE,i1 _ h2];refine yQ0 ⟨?_,rfl⟩;unfold lenL at h2 ⊢;rw[h0,h1];generalize lexI (cmpN us.length ws.length) (yJo us ws)=q at h2 ⊢;simp[lexI,h2]
  ·simp only[go_sem,zE,i1 _ h1];exact yQ0 ⟨by rw[h0];simp[lexI,h1],rfl⟩
 ·simp only[go_sem,zE,i1 _ h0];exact yQ0 ⟨by simp[lexI,h0],rfl⟩
theorem zVa:∀(k:Nat)(t:Fm),SizeOf.sizeOf t<k->CmpF gl t
 | 0,t,h=>by omega
 | k+1,.mk o n us sub,h=>xZy gl o n us sub (λa ha=>zVa k a (by
   have:=lSm ha;simp at h;omega))
theorem zQr (t:Fm):CmpF gl t:=zVa gl _ t (Nat.lt_succ_self _)
theorem zGa (a b:Fm)(x y:IV)(hx:IsFm a x)(hy:IsFm b y)(st:ISt):ICall prog gl 11 [x,y] st (λr st'=>r=.raw (.bool (decide (yZa a b=0)))/\st'=st):=by
 have hc:=λst=>zQr gl a b x y hx hy st;obtain⟨x1,x2,x3,x4,x5,x6,rfl⟩:=hx.agg;obtain⟨y1,y2,y3,y4,y5,y6,rfl⟩:=hy.agg;refine iI func11 ?_;simp only[go_sem,zE,zA,zL];refine (hc _).mono ?_;rintro _ _ ⟨rfl,rfl⟩;simp only[go_sem];exact yQ0 ⟨rfl,rfl⟩
end Go.Proofs.Tryz
namespace Go.Proofs.Tryz
open Go Go.Iv Go.Sort Go.Shelf Go.RowKit
set_option maxRecDepth 4000
variable (gl:Nat->Option IV)
end Go.Proofs.Tryz
namespace Go.Iv
open Go
theorem ICall.fix1 {P:Program}{gl:Nat->Option IV}{f:FuncId}{args:List IV}{st:ISt}{K:IV->ISt->Prop}(h:ICall P gl f args st (λy st'=>K y st'\/∃g n cap cs es zs,st g=none/\y=.raw (.slice (some ⟨g,0,none⟩) n cap)/\st'=st.put g (some (.box cs)) /\
   zs.length=n/\n<=140737488355328/\n<=cap/\cap*es<=cs.length/\cs.take (n*es)=zs.flatMap IV.cells/\(∀z∈zs,z.cells.length=es)/\K (.sl ⟨true,.app g,es⟩ zs) st)) :
  ICall P gl f args st K:=by
 intro B X rs hg hst hv;subst hst;refine (h B X rs hg rfl hv).mono ?_;rintro e w' ⟨v,rfl,X',y,rfl,h2,h3,h4,hK|⟨g,n,cap,cs,es,zs,h0,rfl,hst',rfl,hn,hcap,hroom,htk,hz,hK⟩⟩
 ·exact⟨v,rfl,X',y,rfl,h2,h3,h4,hK⟩
 have hgn:=wXl h3 h0 (by rw[hst'];exact ISt.put_same ..);have hk:=zXr h0 hst';obtain rfl:=V.raw_inv h4;exact⟨_,rfl,X'.lendS _ X.st,_,rfl,h2.lendS hk,h3.trans (h2.lendS_ext hk),wXk h2 h0 hst' (Nat.le_trans hg.B hgn) hn hcap hroom htk hz,hK⟩
end Go.Iv
namespace Go.Proofs.Tryz
open Go Go.Iv
set_option maxRecDepth 4000
variable (gl:Nat->Option IV)
end Go.Proofs.Tryz
namespace Go.Proofs.Tryz
open Go Go.Iv Go.Shelf Go.RowKit
set_option maxRecDepth 4000
variable (gl:Nat->Option IV)
mutual
theorem vKy:∀(a b:Tm)(x:IV),IsTm a x->IsTm b x->a=b
 | .mk v n us,.mk w m ws,x,h,k=>by
  obtain⟨t,xs,rfl,_,h1⟩:=h.mk;obtain⟨t',xs',hx,_,h2⟩:=k.mk;simp only[IV.agg.injEq,List.cons.injEq,IV.raw.injEq,Value.bool.injEq,Value.string.injEq,IV.sl.injEq,and_true] at hx;obtain⟨rfl,rfl,rfl,rfl⟩:=hx;rw[xXo us ws xs h1 h2]
theorem xXo:∀(l m:List Tm)(xs:List IV),IsTms l xs->IsTms m xs->l=m
 | [],[],_,_,_=>rfl
 | [],b::m,xs,h,k=>by
  simp only[IsTms] at h k;obtain⟨y,ys,rfl,_⟩:=k;cases h
 | a::l,[],xs,h,k=>by
  simp only[IsTms] at h k;obtain⟨y,ys,rfl,_⟩:=h;cases k
 | a::l,b::m,xs,h,k=>by
  simp only[IsTms] at h k;obtain⟨y,ys,rfl,h1,h2⟩:=h;obtain⟨y',ys',he,k1,k2⟩:=k;cases he;rw[vKy a b y h1 k1,xXo l m ys h2 k2]
end
mutual
theorem wUs:∀(a b:Fm)(x:IV),IsFm a x->IsFm b x->a=b
 | .mk o n us sub,.mk o' m ws sub',x,h,k=>by
  obtain⟨t,xs,t2,xs2,rfl,_,_,h1,_,h2⟩:=h.mk;obtain⟨t',xs',t2',xs2',hx,_,_,k1,_,k2⟩:=k.mk;simp only[IV.agg.injEq,List.cons.injEq,IV.raw.injEq,Value.int.injEq,Value.string.injEq,IV.sl.injEq,and_true,true_and,Int.natCast_inj] at hx;obtain⟨rfl,rfl,⟨rfl,rfl⟩,rfl,rfl⟩:=hx;rw[xXo us ws xs h1 k1,wK4 sub sub' xs2 h2 k2]
theorem wK4:∀(l m:List Fm)(xs:List IV),IsFms l xs->IsFms m xs->l=m
 | [],[],_,_,_=>rfl
 | [],b::m,xs,h,k=>by
  simp only[IsFms] at h k;obtain⟨y,ys,rfl,_⟩:=k;cases h
 | a::l,[],xs,h,k=>by
  simp only[IsFms] at h k;obtain⟨y,ys,rfl,_⟩:=h;cases k
 | a::l,b::m,xs,h,k=>by
  simp only[IsFms] at h k;obtain⟨y,ys,rfl,h1,h2⟩:=h;obtain⟨y',ys',he,k1,k2⟩:=k;cases he;rw[wUs a b y h1 k1,wK4 l m ys h2 k2]
end
open Classical in
noncomputable def rdF (x:IV):Fm:=if h:∃a,IsFm a x then h.choose else fm0
theorem xW2 {a:Fm}{x:IV}(h:IsFm a x):rdF x=a:=by
 have he:∃a,IsFm a x:=⟨a,h⟩
 unfold rdF;rw[dif_pos he];exact wUs _ _ x he.choose_spec h
theorem xW1:∀ {l:List Fm}{xs:List IV},IsFms l xs->xs.map rdF=l
 | [],_,rfl=>rfl
 | a::l,_,⟨x,xs,rfl,hx,hl⟩=>by rw[List.map_cons,xW2 hx,xW1 hl]
theorem wUr:∀ {ys:List IV},(∀y∈ys,∃a,IsFm a y)->IsFms (ys.map rdF) ys
 | [],_=>rfl
 | y::ys,h=>by
  obtain⟨a,ha⟩:=h y (by simp);exact⟨y,ys,rfl,by rw[xW2 ha];exact ha,wUr λz hz=>h z (by simp[hz])⟩
theorem zZn:∀ {l:List Fm}{xs:List IV},IsFms l xs->∀y∈xs,∃a,IsFm a y/\a∈l
 | [],_,rfl,y,h=>by cases h
 | a::l,_,⟨x,xs,rfl,hx,hl⟩,y,h=>by
  rcases List.mem_cons.1 h with rfl|h
  ·exact⟨a,hx,by simp⟩
  ·obtain⟨b,hb,hm⟩:=zZn hl y h;exact⟨b,hb,by simp[hm]⟩
theorem vQ7 (l:List Fm)(xs rest:List IV)(hx:IsFms l xs)(hne:xs≠[])(hlen:xs.length<=140737488355328)(b cap:Nat)(st:ISt)(hb:st b=some (.box (xs.flatMap IV.cells++rest))) :
  ICall prog gl 125 [.raw (.slice (some ⟨b,0,none⟩) xs.length cap),.fn (.func 34) [] []] st
   (λr st'=>r=.tup []/\∃(m:List Fm) (ys:List IV),IsFms m ys/\m.Perm l/\m.Pairwise (λx y=>¬ yZa y x<0)/\(∀y∈ys,y∈xs)/\st'=st.put b (some (.box (ys.flatMap IV.cells++rest)))):=by
 refine (wQi gl 34 ?_ xs rest b cap st hne hlen (yVl hx) hb (λx y=>yZa (rdF x) (rdF y)) (λx _=>yWf _) (λx _ y _ z _=>yWx _ _ _) (λx _ y _ z _ h1 h2 h3=>?_) (λx hxm y hym=>?_)).mono ?_
 ·exact enters_of func34 (by kernel_rfl) rfl
 ·rcases Int.lt_or_le (yZa (rdF y) (rdF x)) 0 with h|h
  ·have:=yWx _ _ _ h h3;exact h2 this
  ·have hxy:yZa (rdF x) (rdF y)=0:=by
    have:=yWe (rdF x) (rdF y);omega
   rw[(yXp _ _).1 hxy] at h3;exact h2 h3
 ·obtain⟨a,ha,_⟩:=zZn hx x hxm;obtain⟨c,hc,_⟩:=zZn hx y hym;rw[xW2 ha,xW2 hc];exact (zQr (λ_=>none) a c x y ha hc _).mono λr st' h=>h.1
 ·rintro r st' ⟨rfl,ys,hp,hpw,rfl⟩;refine⟨rfl,ys.map rdF,ys,wUr λy hy=>?_,?_,?_,λy hy=>hp.mem_iff.1 hy,rfl⟩
  ·obtain⟨a,ha,_⟩:=zZn hx y (hp.mem_iff.1 hy);exact⟨a,ha⟩
  ·rw[<- xW1 hx];exact hp.map rdF
  ·exact List.pairwise_map.2 hpw
theorem xXc (t:Tag)(ht:t.cap=.nil)(st:ISt):ICall prog gl 125 [.sl t [],.fn (.func 34) [] []] st (λr st'=>r=.tup []/\st'=st):=by
 obtain⟨fs,c,es⟩:=t;obtain rfl:c=.nil:=ht;intro B X rs hg hst hv;obtain⟨r0,r1,rfl⟩:∃r0 r1,rs=[r0,r1]:=by
  match rs,hv with
  | [a,b],_=>exact⟨a,b,rfl⟩
  | [],hv=>cases hv.1
  | [_],hv=>cases hv.1
  | _::_::_::_,hv=>cases hv.1
 obtain⟨p,cap,rfl⟩:∃p cap,r0=.slice p 0 cap:=by
  have:=hv.2 0 r0 _ rfl rfl;obtain⟨a,cap,_,_,rfl,_⟩:=V.sl_inv this;exact⟨a,cap,rfl⟩
 refine Calls.mono (AnyF.slices_SortFunc_none Tryz.sortFL p cap r1 X.w) ?_;rintro e w' ⟨rfl,rfl⟩;exact⟨_,rfl,X,.tup [],rfl,hg,Ext.refl X,.tup [] [] rfl (λi r c h=>by simp at h),rfl,hst⟩
noncomputable def ddF (p:Fm):List Fm->List Fm
 | []=>[]
 | b::l=>if yZa b p=0 then ddF b l else b::ddF b l
noncomputable def dd:List Fm->List Fm
 | []=>[]
 | a::l=>a::ddF a l
theorem xG6:∀(p:Fm)(l:List Fm)(a b:Fm),(p::l).getLast?=some a->ddF p (l++[b])=ddF p l++(if yZa b a=0 then [] else [b])
 | p,[],a,b,h=>by
  simp only[List.getLast?_singleton,Option.some.injEq] at h;subst h;simp only[List.nil_append,ddF]
 | p,c::l,a,b,h=>by
  rw[List.getLast?_cons_cons] at h;simp only[List.cons_append,ddF,xG6 c l a b h];split<;>rfl
theorem vXg:∀(l:List Fm)(a b:Fm),l.getLast?=some a->dd (l++[b])=dd l++(if yZa b a=0 then [] else [b])
 | p::l,a,b,h=>by simp only[List.cons_append,dd,xG6 p l a b h]
theorem wKr {m:List Fm}{k:Nat}{a b:Fm}(ha:m[k]?=some a)(hb:m[k+1]?=some b):dd (m.take (k+1+1))=dd (m.take (k+1))++(if yZa b a=0 then [] else [b]):=by
 rw[yQ6 hb];exact vXg _ a b (by rw[yQ6 ha,List.getLast?_concat])
theorem wKs:∀(p:Fm)(l:List Fm),(p::l).Pairwise (λx y=>¬ yZa y x<0)->(∀f,f∈p::ddF p l↔f∈p::l)/\(p::ddF p l).Pairwise (λx y=>yZa x y<0)
 | p,[],_=>⟨λf=>Iff.rfl,List.pairwise_singleton ..⟩
 | p,b::l,h=>by
  have h1:=List.pairwise_cons.1 h;obtain⟨i1,i2⟩:=wKs b l h1.2;simp only[ddF];by_cases hc:yZa b p=0
  ·have hbp:=(yXp b p).1 hc;subst hbp;rw[if_pos hc];refine⟨λf=>?_,i2⟩;rw[i1 f];simp
  ·rw[if_neg hc];have hlt:yZa p b<0:=by
    have:=h1.1 b (by simp);have:=yWe b p;omega
   refine⟨λf=>?_,List.pairwise_cons.2 ⟨λf hf=>?_,i2⟩⟩
   ·rw[List.mem_cons,i1 f,List.mem_cons (l:=b::l)]
   ·rcases List.mem_cons.1 hf with rfl|hf
    ·exact hlt
    ·exact yWx _ _ _ hlt ((List.pairwise_cons.1 i2).1 f hf)
theorem xG4 (l m:List Fm)(hp:m.Perm l)(h:m.Pairwise (λx y=>¬ yZa y x<0)):SetF l (dd m):=by
 cases m with
 | nil =>
  obtain rfl:=List.Perm.nil_eq hp;exact⟨List.Pairwise.nil,λf=>Iff.rfl⟩
 | cons a m =>
  obtain⟨h1,h2⟩:=wKs a m h;exact⟨h2,λf=>(h1 f).trans hp.mem_iff⟩
theorem rd4 {ys rest cs:List IV}(hf:∀y∈ys,y.cells.length=4)(hlen:cs.length=(ys.flatMap IV.cells++rest).length){i:Nat}{y:IV}(hy:ys[i]?=some y)(hc:∀j,i*4<=j->cs[j]?=(ys.flatMap IV.cells++rest)[j]?) :
  i*4+4<=cs.length/\(cs.drop (i*4)).take 4=y.cells:=by
 have hi:=(lGs hy).1;have h0:ys.flatMap IV.cells=(ys.take i).flatMap IV.cells++(y.cells++(ys.drop (i+1)).flatMap IV.cells):=by
  conv=>lhs;rw[<- List.take_append_drop i ys,List.drop_eq_getElem_cons hi,(lGs hy).2]
  rw[List.flatMap_append,List.flatMap_cons]
 have h1:((ys.take i).flatMap IV.cells).length=i*4:=by
  rw[yQt _ λz hz=>hf z (List.mem_of_mem_take hz),List.length_take];omega
 have hy4:=hf y (lMg hy);have hd:cs.drop (i*4)=(ys.flatMap IV.cells++rest).drop (i*4):=by
  apply List.ext_getElem?;intro j;rw[List.getElem?_drop,List.getElem?_drop,hc _ (by omega)]
 refine⟨?_,?_⟩
 ·rw[hlen,h0];simp only[lLa,h1,hy4];omega
 ·rw[hd,h0,List.append_assoc,List.drop_left' h1,List.append_assoc,List.take_left' hy4]
theorem xYo:∀ {l:List Fm}{xs:List IV}(k:Nat),IsFms l xs->IsFms (l.take k) (xs.take k)
 | [],_,k,rfl=>by simp[IsFms]
 | a::l,_,0,_=>by simp[IsFms]
 | a::l,_,k+1,⟨y,ys,rfl,hy,h⟩=>by
  rw[List.take_succ_cons,List.take_succ_cons];exact⟨y,ys.take k,rfl,hy,xYo k h⟩
theorem st4 {cs l:List IV}{k n:Nat}(hl:l.length=n)(h:k*4+n<=cs.length):(yXg cs (k*4) l).length=cs.length/\(yXg cs (k*4) l).take (k*4)=cs.take (k*4)/\(yXg cs (k*4) l).take (k*4+n)=cs.take (k*4)++l/\∀i,k*4+n<=i->(yXg cs (k*4) l)[i]?=cs[i]?:=by
 have h1:(cs.take (k*4)).length=k*4:=by rw[List.length_take];omega
 have h2:(cs.take (k*4)++l).length=k*4+n:=by rw[lLa,h1,hl]
 unfold yXg;refine⟨?_,?_,List.take_left' h2,λi hi=>?_⟩
 ·rw[lLa,h2,List.length_drop,hl];omega
 ·rw[List.append_assoc,List.take_left' h1]
 ·rw[List.getElem?_append_right (by omega),h2,List.getElem?_drop,hl];congr 1;omega
theorem yVa {k n:Nat}(h:k<=n):yXb (some ((k:Nat):Int)) none n=some (k,n):=by
 simp only[yXb,Option.getD_none,Option.getD_some];rw[if_pos ⟨by omega,by omega,Int.le_refl _⟩];simp
theorem zZ0 {k n:Nat}(h:k<=n):yXb none (some ((k:Nat):Int)) n=some (0,k):=by
 simp only[yXb,Option.getD_none,Option.getD_some];rw[if_pos ⟨Int.le_refl _,by omega,by omega⟩];simp
theorem xXh (qf:FuncId)(ce:entI prog qf=true)(hcmp:∀a b x y,IsFm a x->IsFm b y->∀st,ICall prog gl qf [x,y] st (λr st'=>r=.raw (.bool (decide (yZa a b=0)))/\st'=st))(m:List Fm)(ys rest:List IV)(hx:IsFms m ys)(hlen:m.length<=1099511627776)(g cap:Nat)(hcap:m.length<=cap)(st:ISt)(hb:st g=some (.box (ys.flatMap IV.cells++rest))) :
  ICall prog gl 126 [.raw (.slice (some ⟨g,0,none⟩) m.length cap),.fn (.func qf) [] []] st
   (λr st'=>∃k cs zs,r=.raw (.slice (some ⟨g,0,none⟩) k cap)/\st'=st.put g (some (.box cs))/\cs.length=(ys.flatMap IV.cells++rest).length/\cs.take (k*4)=zs.flatMap IV.cells/\IsFms (dd m) zs/\zs.length=k/\k<=m.length/\∀z∈zs,z∈ys):=by
 have hf4:∀y∈ys,y.cells.length=4:=λy hy=>wKc (yVl hx y hy);have hyl:=hx.len;have hput:st.put g (some (.box (ys.flatMap IV.cells++rest)))=st:=yXc hb;have same:∀k,dd (m.take k)=m.take k->k=m.length->∃k cs zs,IV.raw (.slice (some ⟨g,0,none⟩) m.length cap)=.raw (.slice (some ⟨g,0,none⟩) k cap)/\st=st.put g (some (.box cs))/\cs.length=(ys.flatMap IV.cells++rest).length/\cs.take (k*4)=zs.flatMap IV.cells/\IsFms (dd m) zs/\zs.length=k/\k<=m.length/\∀z∈zs,z∈ys:=by
  intro k hk hkl;rw[hkl,lTl] at hk;refine⟨m.length,_,ys,rfl,hput.symm,rfl,?_,by rw[hk];exact hx,hyl,Nat.le_refl _,λ_ h=>h⟩;rw[<- hyl,List.take_left' (yQt _ hf4)]
 refine ICall.intro (c:=cf prog gl [22,27,42,47] []) func126 rfl (by show _<=66;simp) (by kernel_rfl) ?_;by_cases h2:m.length<2
 ·have d2:decide (((m.length:Nat):Int)<2)=true:=dEt (by omega);simp only[go_sem,zE,zB,zA,zM,zS,zL,reduceCtorEq,d2];refine yQ0 (same m.length ?_ rfl);rw[lTl]
  match m,h2 with
  | [],_=>rfl
  | [a],_=>rfl
 ·have d2:decide (((m.length:Nat):Int)<2)=false:=dEf (by omega);simp only[go_sem,zE,zB,zA,zM,zS,zL,reduceCtorEq,d2];refine LoopC.ctr (m.length-1) (λc fr st' ds=>dd (m.take (c+1))=m.take (c+1)/\fr 0=.iv (.raw (.slice (some ⟨g,0,none⟩) m.length cap))/\fr 1=.iv (.fn (.func qf) [] [])/\fr 5=.iv (.raw (.int .i64 ((c+1:Nat):Int)))/\st'=st/\ds=[]) ?_ ?_ ?_
  ·simp only[go_sem,zE,zB,zA,zM,zS,zL,reduceCtorEq];refine⟨?_,rfl⟩
   match m,h2 with
   | [],h=>exact absurd (show 0<2 by decide) h
   | [a],h=>exact absurd (show 1<2 by decide) h
   | a::b::l,_=>rfl
  ·rintro c fr st1 _ hlt ⟨hd,f0,f1,f5,rfl,rfl⟩;have hlt':c+1<m.length:=by omega
   obtain⟨a,ha⟩:=yQ1 (l:=m) (k:=c) (by omega);obtain⟨b,hbm⟩:=yQ1 hlt';obtain⟨x,hkx,hxa⟩:=hx.get ha;obtain⟨y,hky,hyb⟩:=hx.get hbm;have hcall:=hcmp b a y x hyb hxa st1;obtain⟨rx1,rx2⟩:=rd4 (rest:=rest) hf4 rfl hkx (λ_ _=>rfl);obtain⟨ry1,ry2⟩:=rd4 (rest:=rest) hf4 rfl hky (λ_ _=>rfl);obtain⟨x1,x2,x3,x4,x5,x6,rfl⟩:=hxa.agg;obtain⟨y1,y2,y3,y4,y5,y6,rfl⟩:=hyb.agg;simp only[IV.cells] at rx2 ry2;have hw:IntKind.i64.wrap (((c+1:Nat):Int)-1)=(c:Nat):=by rw[w64 (by omega) (by omega)];omega
   simp only[go_sem,zE,zB,zA,zM,zS,zL,reduceCtorEq,f0,f1,f5,lt_i hlt',hw,hlt',show c<m.length by omega,iNn,hb,rx1,ry1,rx2,ry2,fits,ce];refine hcall.mono ?_;rintro _ st1 ⟨rfl,rfl⟩;have hds:=wKr ha hbm;by_cases he:yZa b a=0
   ·rw[if_pos he,List.append_nil,hd] at hds;have hcne:¬ cap=c+1:=by omega
    simp only[go_sem,zE,zB,zA,zM,zS,zL,reduceCtorEq,dEt he,f0,f1,f5,yVa (show c+1<=m.length by omega),hcap,hcne];refine LoopC.ctr (m.length-(c+1)-1) (λj fr st' ds=>(∃k cs zs,fr 5=.iv (.raw (.int .i64 ((k:Nat):Int)))/\st'=st1.put g (some (.box cs))/\cs.length=(ys.flatMap IV.cells++rest).length/\cs.take (k*4)=zs.flatMap IV.cells/\IsFms (dd (m.take (c+1+j+1))) zs/\zs.length=k/\k<=c+1+j/\(∀z∈zs,z∈ys)/\∀i,(c+1+j)*4<=i->cs[i]?=(ys.flatMap IV.cells++rest)[i]?) /\
     fr 0=.iv (.raw (.slice (some ⟨g,0,none⟩) m.length cap))/\fr 1=.iv (.fn (.func qf) [] [])/\fr 6=.iv (.raw (.slice (some ⟨g,(c+1)*4,none⟩) (m.length-(c+1)) (cap-(c+1))))/\fr 7=.iv (.raw (.int .i64 ((j+1:Nat):Int)))/\ds=[]) ?_ ?_ ?_
    ·simp only[go_sem,zE,zB,zA,zM,zS,zL,reduceCtorEq];refine⟨⟨c+1,ys.flatMap IV.cells++rest,ys.take (c+1),f5,(yXc hb).symm,rfl,?_,?_,?_,Nat.le_refl _,λz hz=>List.mem_of_mem_take hz,λ_ _=>rfl⟩,f0,f1,rfl⟩
     ·conv=>lhs;rw[<- List.take_append_drop (c+1) ys]
      rw[List.flatMap_append,List.append_assoc,List.take_left' (by rw[yQt _ λz hz=>hf4 z (List.mem_of_mem_take hz),List.length_take];omega)]
     ·rw[hds];exact xYo _ hx
     ·rw[List.length_take];omega
    ·rintro j fr st2 _ hj ⟨⟨k,cs,zs,f5,rfl,hcl,hct,hz,hzl,hk,hzm,hcs⟩,f0,f1,f6,f7,rfl⟩;obtain⟨a',ha'⟩:=yQ1 (l:=m) (k:=c+1+j) (by omega);obtain⟨b',hb'⟩:=yQ1 (l:=m) (k:=c+1+j+1) (by omega);obtain⟨x',hkx',hxa'⟩:=hx.get ha';obtain⟨y',hky',hyb'⟩:=hx.get hb';have hyb0:=hyb';have hcall':=hcmp b' a' y' x' hyb' hxa' (st1.put g (some (.box cs)));obtain⟨rx1',rx2'⟩:=rd4 hf4 hcl hkx' hcs;obtain⟨ry1',ry2'⟩:=rd4 hf4 hcl hky' (λi hi=>hcs i (by omega));have hy4:=hf4 y' (lMg hky');obtain⟨p1,p2,p3,p4,p5,p6,rfl⟩:=hxa'.agg;obtain⟨q1,q2,q3,q4,q5,q6,rfl⟩:=hyb'.agg;simp only[IV.cells] at rx2' ry2' hy4;have hw':IntKind.i64.wrap (((j+1:Nat):Int)-1)=(j:Nat):=by rw[w64 (by omega) (by omega)];omega
     have o1:(c+1)*4+j*4=(c+1+j)*4:=by omega
     have o2:(c+1)*4+(j+1)*4=(c+1+j+1)*4:=by omega
     have hj1:j+1<m.length-(c+1):=by omega
     have hj0:j<m.length-(c+1):=by omega
     have hds':=wKr ha' hb';simp only[go_sem,zE,zB,zA,zM,zS,zL,reduceCtorEq,f0,f1,f5,f6,f7,lt_i hj1,hj0,hj1,hw',iNn,ISt.put_same,o1,o2,rx1',ry1',rx2',ry2',fits,ce];refine hcall'.mono ?_;rintro _ _ ⟨rfl,rfl⟩;by_cases he':yZa b' a'=0
     ·rw[if_pos he',List.append_nil] at hds';simp only[go_sem,zE,zB,zA,zM,zS,zL,reduceCtorEq,dEt he',f0,f1,f5,f6,f7,yQc hj1 (show m.length-(c+1)<=281474976710656 by omega)];exact⟨k,cs,zs,rfl,rfl,hcl,hct,by rw[show c+1+(j+1)+1=c+1+j+1+1 by omega,hds'];exact hz,hzl,by omega,hzm,λi hi=>hcs i (by omega)⟩
     ·rw[if_neg he'] at hds';have hkm:k<m.length:=by omega
      have hk4:k*4+4<=cs.length:=by omega
      obtain⟨s1,s2,s3,s4⟩:=st4 hy4 hk4;simp only[go_sem,zE,zB,zA,zM,zS,zL,reduceCtorEq,dEf he',f0,f1,f5,f6,f7,hj1,hkm,iNn,ISt.put_same,o2,ry1',ry2',hk4,fits,yQc hkm (show m.length<=281474976710656 by omega),yQc hj1 (show m.length-(c+1)<=281474976710656 by omega)];refine⟨k+1,yXg cs (k*4) [.raw (.int .u8 q1),.raw (.string q2),.sl q3 q4,.sl q5 q6],zs++[.agg [.raw (.int .u8 q1),.raw (.string q2),.sl q3 q4,.sl q5 q6]],rfl,by rw[yQ9];rfl,s1.trans hcl,?_,?_,by simp[hzl],by omega,λz hz=>by
        rcases List.mem_append.1 hz with hz|hz
        ·exact hzm z hz
        ·rw[List.mem_singleton.1 hz];exact lMg hky',λi hi=>(s4 i (by omega)).trans (hcs i (by omega))⟩
      ·rw[show (k+1)*4=k*4+4 by omega,s3,hct,List.flatMap_append];simp[IV.cells]
      ·rw[show c+1+(j+1)+1=c+1+j+1+1 by omega,hds'];exact hz.append ⟨_,_,rfl,hyb0,rfl⟩
    ·rintro fr st2 _ ⟨⟨k,cs,zs,f5,rfl,hcl,hct,hz,hzl,hk,hzm,hcs⟩,f0,f1,f6,f7,rfl⟩;have hkm:k<m.length:=by omega
     have hck:¬ cap=k:=by omega
     have hmk:¬ m.length-k=0:=by omega
     have hlen4:m.length*4<=cs.length:=by rw[hcl,lLa,yQt _ hf4];omega
     have hk4:k*4+(m.length-k)*4<=cs.length:=by omega
     obtain⟨s1,s2,s3,s4⟩:=st4 (cs:=cs) (k:=k) (l:=List.replicate ((m.length-k)*4) .junk) (List.length_replicate ..) hk4;rw[show m.length-(c+1)-1+1=m.length-(c+1) by omega] at f7;simp only[go_sem,zE,zB,zA,zM,zS,zL,reduceCtorEq,f0,f1,f5,f6,f7,yQl (nLi _),yVa (show k<=m.length by omega),zZ0 (show k<=cap by omega),hcap,hck,hmk,ISt.put_same,hk4,ite_self,Nat.zero_mul];rw[show c+1+(m.length-(c+1)-1)+1=m.length by omega,lTl] at hz;exact yQ0 ⟨k,yXg cs (k*4) (List.replicate ((m.length-k)*4) .junk),zs,rfl,by rw[yQ9];rfl,s1.trans hcl,s2.trans hct,hz,hzl,by omega,hzm⟩
   ·rw[if_neg he,hd] at hds;simp only[go_sem,zE,zB,zA,zM,zS,zL,reduceCtorEq,dEf he,f0,f1,f5,yQc hlt' (show m.length<=281474976710656 by omega)];rw[hds,yQ6 hbm]
  ·rintro fr st1 _ ⟨hd,f0,f1,f5,rfl,rfl⟩;rw[show m.length-1+1=m.length by omega] at hd f5;simp only[go_sem,zE,zB,zA,zM,zS,zL,reduceCtorEq,f0,f5,yQl (nLi _)];exact yQ0 (same m.length hd rfl)
theorem vZ1 (a b:Fm)(x y:IV)(hx:IsFm a x)(hy:IsFm b y)(st:ISt):ICall prog gl 11 [x,y] st (λr st'=>r=.raw (.bool (decide (yZa a b=0)))/\st'=st):=zGa gl a b x y hx hy st
end Go.Proofs.Tryz
namespace Go.Proofs.Tryz
open Go Go.Iv
open Classical in
noncomputable def setF (l:List Fm):List Fm:=if h:∃r,SetF l r then h.choose else []
theorem yKq {l r:List Fm}(h:SetF l r):setF l=r:=by
 have he:∃r,SetF l r:=⟨r,h⟩
 unfold setF;rw[dif_pos he];exact SetF.one he.choose_spec h
theorem xVu:setF []=[]:=yKq ⟨List.Pairwise.nil,λ_=>Iff.rfl⟩
theorem vG9 {α:Type}(p q:α->Bool)(h:∀x,¬ (p x=true/\q x=true)):∀l:List α,(l.filter p).length+(l.filter q).length<=l.length
 | []=>by simp
 | a::l=>by
  have ih:=vG9 p q h l;grind
theorem xJd:∀l:List Fm,∃r,SetF l r/\r.length<=l.length
 | []=>⟨[],⟨List.Pairwise.nil,λ_=>Iff.rfl⟩,Nat.le_refl _⟩
 | a::l=>by
  obtain⟨r,⟨h1,h2⟩,h3⟩:=xJd l;by_cases ha:a∈r
  ·refine⟨r,⟨h1,λf=>?_⟩,by simp only[List.length_cons];omega⟩;grind
  ·have hx:∀x∈r,yZa x a<0\/yZa a x<0:=λx hx=>by
    have h0:yZa a x≠0:=λh=>ha (((yXp a x).1 h)▸hx);have hn:=yWe a x;omega
   have h4:=vG9 (λx=>decide (yZa x a<0)) (λx=>decide (yZa a x<0)) (λx ⟨q1,q2⟩=>by
    have q1:=of_decide_eq_true q1;have q2:=of_decide_eq_true q2;have hn:=yWe a x;omega) r
   refine⟨r.filter (λx=>decide (yZa x a<0))++a::r.filter (λx=>decide (yZa a x<0)),⟨?_,λf=>?_⟩,by simp only[lLa,List.length_cons];omega⟩
   ·refine List.pairwise_append.2 ⟨h1.filter _,List.pairwise_cons.2 ⟨λy hy=>?_,h1.filter _⟩,λx hxm y hy=>?_⟩
    ·grind
    ·have hxa:=of_decide_eq_true (List.mem_filter.1 hxm).2;rcases List.mem_cons.1 hy with rfl|hy
     ·exact hxa
     ·exact yWx _ _ _ hxa (of_decide_eq_true (List.mem_filter.1 hy).2)
   ·grind
theorem zJu (l:List Fm):SetF l (setF l):=by
 obtain⟨r,h,_⟩:=xJd l;rw[yKq h];exact h
theorem xQe {l m:List Fm}(h:∀x,x∈l↔x∈m):setF l=setF m :=
 yKq ⟨(zJu m).1,λf=>((zJu m).2 f).trans (h f).symm⟩
theorem wZr (l:List Fm):setF (setF l)=setF l:=yKq ⟨(zJu l).1,λ_=>Iff.rfl⟩
end Go.Proofs.Tryz
namespace Go.Proofs.Tryz
open Go Go.Iv
set_option maxRecDepth 4000
variable (gl:Nat->Option IV)
noncomputable def yXa (l:List Fm):List Fm×Nat:=if l.all Fm.right then (setF (l.map zKb),0) else ([],2)
theorem zXd (qf:FuncId)(t:Tag)(ht:t.cap=.nil)(st:ISt):ICall prog gl 126 [.sl t [],.fn (.func qf) [] []] st (λr st'=>(∃t',r=.sl t' []/\t'.cap=.nil)/\st'=st):=by
 obtain⟨fs,c,es⟩:=t;obtain rfl:c=.nil:=ht;refine ICall.intro (c:=cf prog gl [22,27,42,47] []) func126 rfl (by show _<=66;simp) (by kernel_rfl) ?_;simp only[go_sem,zL,reduceCtorEq,show decide (((0:Nat):Int)<2)=true from rfl];exact yQ0 ⟨⟨_,rfl,rfl⟩,rfl⟩
theorem wG0 {l:List IV}(h:∀x∈l,dfr x):dfrs l:=by
 induction l with
 | nil=>trivial
 | cons x l ih=>exact⟨h x (by simp),ih λy hy=>h y (by simp[hy])⟩
theorem wWj {l m:List Fm}(hp:m.Perm l)(h:m.Pairwise (λx y=>¬ yZa y x<0))(hl:0<l.length):0<(setF l).length:=by
 rw[yKq (xG4 _ m hp h)];have:=hp.length_eq
 match m,this with
 | [],e=>simp at e;omega
 | a::m,_=>simp[dd]
theorem xQk (G:Gl gl)(T:Gt gl)(l:List Fm)(tg:Tag)(xs:List IV)(htg:okEs tg 4)(hx:IsFms l xs)(hs:fitL l)(hlen:l.length<=1099511627776)(st:ISt) :
  ICall prog gl 152 [.sl tg xs] st (λr st'=>(∃t ys,r=.tup [.sl t ys,.raw (.int .i64 (yXa l).2)]/\okEs t 4/\appT (yXa l).1.length t/\IsFmsD (yXa l).1 ys)/\st'=st):=by
 refine ICall.fixN (ICall.mono (K:=λy st'=>(l.all Fm.right=false/\y=.tup [.sl ⟨true,.nil,0⟩ [],.raw (.int .i64 2)]/\st'=st)\/(l=[]/\(∃t,y=.tup [.sl t [],.raw (.int .i64 0)]/\t.cap=.nil)/\st'=st) \/
   (l.all Fm.right=true/\∃g cap k cs zs,st g=none/\k<=cap/\cap*4<=cs.length/\cs.take (k*4)=zs.flatMap IV.cells/\0<k/\IsFmsD (setF (l.map zKb)) zs/\zs.length=k/\k<=l.length/\y=.tup [.raw (.slice (some ⟨g,0,none⟩) k cap),.raw (.int .i64 0)]/\st'=st.put g (some (.box cs)))) ?_ ?_)
 ·refine ICall.intro (c:=cf prog gl [26] []) func152 rfl (by show _<=32;simp) (by kernel_rfl) ?_;simp only[go_sem,reduceCtorEq,hx.len];intro _;refine LoopC.ctr l.length (λk fr st' ds=>(l.take k).all Fm.right=true/\((k=0/\fr 4=.iv (.sl ⟨true,.nil,0⟩ [])/\st'=st)\/(0<k/\∃g cap cs zs,st g=none/\k<=cap/\cap*4<=cs.length/\cs.take (k*4)=zs.flatMap IV.cells/\IsFmsD ((l.take k).map zKb) zs/\zs.length=k/\fr 4=.iv (.raw (.slice (some ⟨g,0,none⟩) k cap))/\st'=st.put g (some (.box cs)))) /\
   fr 9=.iv (.sl tg xs)/\fr 10=.iv (.raw (.int .i64 l.length))/\fr 11=.iv (.raw (.int .i64 k))/\ds=[]) ?_ ?_ ?_
  ·simp only[go_sem,zE,zM];rfl
  ·rintro k fr st1 _ hlt ⟨hall,hor,f9,f10,f11,rfl⟩;obtain⟨a,ha⟩:=yQ1 hlt;obtain⟨y,hky,hya⟩:=hx.get ha;have ham:=lMg ha;have hcall:=wGk gl G T a y hya (hs a ham) st1;obtain⟨y1,y2,y3,y4,y5,y6,rfl⟩:=hya.agg;simp only[go_sem,zE,zB,zA,zL,reduceCtorEq,f9,f10,f11,lt_i hlt,yQ3 htg,iNn,hky,fits];refine hcall.mono ?_;rintro _ st1 ⟨y',rfl,hyD,rfl⟩;have hy':=hyD.1;unfold yV8 at hy';cases hr:a.right
   ·rw[hr] at hy';simp only[bFt,if_false] at hy';obtain⟨z1,z2,z3,z4,z5,z6,rfl⟩:=hy'.agg;unfold yV8;rw[hr];simp only[bFt,if_false];simp only[go_sem,zE,zA,zL,show decide (((2:Nat):Int)=0)=false from rfl];have hsub:subSt st st1:=by
     rcases hor with⟨_,_,h⟩|⟨_,g,cap,cs,zs,hg,_,_,_,_,_,_,h⟩
     ·rw[h];exact subSt.refl _
     ·rw[h];exact yQh hg
    exact yQg hsub (.inl ⟨List.all_eq_false.2 ⟨a,ham,by simp[hr]⟩,rfl,rfl⟩)
   ·rw[hr] at hy';simp only[if_true] at hy';rw[show (yV8 a).1=zKb a by unfold yV8;rw[hr];simp] at hyD;have hy0:=hyD;obtain⟨z1,z2,z3,z4,z5,z6,rfl⟩:=hy'.agg;unfold yV8;rw[hr];simp only[if_true];have hall':(l.take (k+1)).all Fm.right=true:=by
     rw[yQ6 ha,List.all_append,hall];simp[hr]
    rcases hor with⟨rfl,f4,rfl⟩|⟨hk0,g,cap,cs,zs,hg,h1,h2,h3,hz,hzl,f4,rfl⟩
    ·simp only[go_sem,zE,zA,zM,zL,show decide (((0:Nat):Int)=0)=true from rfl,fits,f4,yQ4];intro g cap;refine yQ8 λhg=>?_;obtain⟨hg,hcap⟩:=hg;simp only[go_sem,zE,f9,f10,f11,show IntKind.i64.wrap (((0:Nat):Int)+1)=((1:Nat):Int) from rfl];have hl1:(l.take 1).map zKb=[zKb a]:=by
      have:=yQ6 ha;simp only[Nat.zero_add,List.take_zero,List.nil_append] at this;rw[this];rfl
     refine⟨by simpa using hall',.inr ⟨by omega,g,cap,_,[.agg [.raw (.int .u8 z1),.raw (.string z2),.sl z3 z4,.sl z5 z6]],hg,hcap,?_,?_,by rw[hl1];exact IsFmsD.one hy0,rfl,rfl,rfl⟩⟩
     ·simp[IV.cells];omega
     ·simp[IV.cells]
    ·simp only[go_sem,zE,zA,zM,zL,show decide (((0:Nat):Int)=0)=true from rfl,fits,f4,yQ4];have hkk:k<=1099511627776:=by omega
     refine yZx _ _ _ (ISt.put_same ..) (by simp[fits,IV.one]) ⟨by show (_+1)*72<=_;omega,by show _+1<=_;omega⟩ ⟨h1,h2⟩ (by simp[IV.cells]) ?_;intro g' cap' cs' hg' q1 q2 q3;have hst':((st.put g (some (.box cs))).put g none).put g' (some (.box cs'))=st.put g' (some (.box cs')):=by
      funext c;simp only[ISt.put_apply];split
      ·rfl
      ·split
       ·subst_vars;exact hg.symm
       ·rfl
     have hg1:st g'=none:=by
      rcases hg' with rfl|h
      ·exact hg
      ·rw[ISt.put_apply] at h;split at h
       ·cases h
       ·exact h
     simp only[go_sem,zE,f9,f10,f11,yQc hlt (show l.length<=281474976710656 by omega)];refine⟨hall',.inr ⟨by omega,g',cap',cs',zs++[.agg [.raw (.int .u8 z1),.raw (.string z2),.sl z3 z4,.sl z5 z6]],hg1,q1,q2,?_,?_,by simp[hzl],rfl,hst'⟩⟩
     ·rw[List.flatMap_append,<- h3];exact q3
     ·rw[yQ6 ha,List.map_append];exact hz.append (IsFmsD.one hy0)
  ·rintro fr st1 _ ⟨hall,hor,f9,f10,f11,rfl⟩;rw[lTl] at hall hor;rcases hor with⟨h0,f4,rfl⟩|⟨hk0,g,cap,cs,zs,hg,h1,h2,h3,hz,hzl,f4,rfl⟩
   ·simp only[go_sem,zE,zA,f4,f10,f11,yQl (nLi _)];refine (xXc gl _ rfl _).mono ?_;rintro _ _ ⟨rfl,rfl⟩;simp only[go_sem,zE,zA,f4];refine (zXd gl _ _ rfl _).mono ?_;rintro _ _ ⟨⟨t',rfl,ht'⟩,rfl⟩;simp only[go_sem,zE];exact yQ0 (.inr (.inl ⟨List.eq_nil_of_length_eq_zero h0,⟨t',rfl,ht'⟩,rfl⟩))
   ·have hcs:cs=zs.flatMap IV.cells++cs.drop (l.length*4):=by rw[<- h3,List.take_append_drop]
    have hzl':=hz.len;have hsort:=vQ7 gl (l.map zKb) zs (cs.drop (l.length*4)) hz.1 (by rintro rfl;simp at hzl;omega) (by omega) g cap (st.put g (some (.box cs))) (by rw[ISt.put_same,<- hcs]);rw[hzl] at hsort;simp only[go_sem,zE,zA,f4,f10,f11,yQl (nLi _)];refine hsort.mono ?_;rintro _ _ ⟨rfl,m,ys,hm,hperm,hpw,hym,rfl⟩;have hml:m.length=l.length:=by rw[hperm.length_eq,List.length_map]
    have hcom:=xXh gl 11 (by kernel_rfl) (vZ1 gl) m ys (cs.drop (l.length*4)) hm (by omega) g cap (by omega) ((st.put g (some (.box cs))).put g (some (.box (ys.flatMap IV.cells++cs.drop (l.length*4))))) (ISt.put_same ..);rw[hml] at hcom;simp only[go_sem,zE,zA,f4];refine hcom.mono ?_;rintro _ _ ⟨k,cs2,zs2,rfl,rfl,hl2,ht2,hz2,hzl2,hk2,hzm2⟩;rw[yQ9,yQ9];simp only[go_sem,zE];have hyl:(ys.flatMap IV.cells).length=l.length*4:=by rw[yQt _ λy hy=>wKc (yVl hm y hy),hm.len,hml]
    rw[lLa,hyl,List.length_drop] at hl2;exact yQ0 (.inr (.inr ⟨hall,g,cap,k,cs2,zs2,hg,by omega,by omega,ht2,by
     have h1:=wWj hperm hpw (by rw[List.length_map];exact hk0);rw[yKq (xG4 _ m hperm hpw),<- hz2.len,hzl2] at h1;exact h1,by rw[yKq (xG4 _ m hperm hpw)];exact⟨hz2,wG0 λz hz'=>xG2 hz.2 (hym z (hzm2 z hz'))⟩,hzl2,hk2,rfl,rfl⟩))
 ·rintro y st' (⟨ha,rfl,rfl⟩|⟨rfl,⟨t,rfl,ht⟩,rfl⟩|⟨ha,g,cap,k,cs,zs,hg,hc1,hc2,hct,hk0,hz,hzl,hkl,rfl,rfl⟩)
  ·have hn:yXa l=([],2):=by unfold yXa;rw[ha];rfl
   exact .inl ⟨⟨_,_,by rw[hn];rfl,.inl rfl,.inl rfl,by rw[hn];exact IsFmsD.nil⟩,rfl⟩
  ·have hn:yXa []=([],0):=by unfold yXa;simp only[List.all_nil,if_true,List.map_nil,xVu]
   exact .inl ⟨⟨_,_,by rw[hn];rfl,.inl ht,.inl ht,by rw[hn];exact IsFmsD.nil⟩,rfl⟩
  ·have hn:yXa l=(setF (l.map zKb),0):=by unfold yXa;rw[ha];rfl
   exact .inr ⟨g,k,cap,cs,4,zs,_,hg,rfl,rfl,hzl,by omega,hc1,hc2,hct,λz hz'=>wKc (yVl hz.1 z hz'),⟨_,_,by rw[hn];rfl,.inr rfl,.inr ⟨by rw[hn];simp only;rw[<- hz.len,hzl];exact hk0,rfl,g,rfl⟩,by rw[hn];exact hz⟩,rfl⟩
noncomputable def SetS (s:Sq):Sq×Nat :=
 if (yXa s.l).2≠0 then (⟨[],[]⟩,(yXa s.l).2) else if (yXa s.r).2≠0 then (⟨[],[]⟩,(yXa s.r).2) else (⟨(yXa s.l).1,(yXa s.r).1⟩,0)
theorem kXa (G:Gl gl)(T:Gt gl)(s:Sq)(x:IV)(hx:IsSq s x)(hs:yXq s)(hl:s.l.length<=1099511627776/\s.r.length<=1099511627776)(st:ISt) :
  ICall prog gl 119 [x] st (λr st'=>(∃y,r=.tup [y,.raw (.int .i64 (SetS s).2)]/\IsSqD (SetS s).1 y)/\st'=st):=by
 obtain⟨t1,x1,t2,x2,rfl,e1,i1,e2,i2⟩:=hx;have h1:=λst=>xQk gl G T s.l t1 x1 e1 i1 hs.1 hl.1 st;have h2:=λst=>xQk gl G T s.r t2 x2 e2 i2 hs.2 hl.2 st;unfold SetS;refine iI func119 ?_;simp only[go_sem,zE,zA];refine (h1 _).mono ?_;rintro _ st ⟨⟨t3,y1,rfl,e3,a3,j1⟩,rfl⟩;by_cases q1:(yXa s.l).2=0
 ·rw[if_neg (by omega)];simp only[go_sem,zE,zA,q1,show decide (((0:Nat):Int)=0)=true from rfl];refine (h2 _).mono ?_;rintro _ st ⟨⟨t4,y2,rfl,e4,a4,j2⟩,rfl⟩;by_cases q2:(yXa s.r).2=0
  ·rw[if_neg (by omega)];simp only[go_sem,zE,zA,zL,q2,show decide (((0:Nat):Int)=0)=true from rfl,fits];exact yQ0 ⟨⟨_,rfl,_,_,_,_,rfl,e3,a3,j1,e4,a4,j2⟩,rfl⟩
  ·rw[if_pos q2];simp only[go_sem,zE,zA,zL,show decide ((((yXa s.r).2:Nat):Int)=0)=false from dEf (by omega)];exact yQ0 ⟨⟨_,rfl,_,_,_,_,rfl,.inl rfl,.inl rfl,IsFmsD.nil,.inl rfl,.inl rfl,IsFmsD.nil⟩,rfl⟩
 ·rw[if_pos q1];simp only[go_sem,zE,zA,zL,show decide ((((yXa s.l).2:Nat):Int)=0)=false from dEf (by omega)];exact yQ0 ⟨⟨_,rfl,_,_,_,_,rfl,.inl rfl,.inl rfl,IsFmsD.nil,.inl rfl,.inl rfl,IsFmsD.nil⟩,rfl⟩
theorem kXb (G:Gl gl)(T:Gt gl)(s:Sq)(x:IV)(hx:IsSq s x)(hs:yXq s)(hl:s.l.length<=1099511627776/\s.r.length<=1099511627776)(st:ISt) :
  ICall prog gl 119 [x] st (λr st'=>(∃y,r=.tup [y,.raw (.int .i64 (SetS s).2)]/\IsSq (SetS s).1 y)/\st'=st) :=
 (kXa gl G T s x hx hs hl st).mono λr st' ⟨⟨y,h1,h2⟩,h3⟩=>⟨⟨y,h1,h2.w⟩,h3⟩
noncomputable def zXe (ca rule:Nat)(main:Fm)(term:Tm)(name:ByteArray):List Sq×Nat :=
 if !yXy ca then ([],2) else match rowS ca rule with
  | none=>([],191)
  | some r=>yK7 ca rule r main term name
theorem vJ8 (G:Gl gl)(T:Gt gl)(ca rule:Nat)(main:Fm)(y:IV)(hy:IsFm main y)(hm:main.size<=1000000)(term:Tm)(z:IV)(hz:IsTm term z)(ht:term.size<=1000000)(name:ByteArray)(st:ISt) :
  ICall prog gl 158 [.raw (.int .u8 ca),.raw (.int .u8 rule),y,z,.raw (.string name)] st (AdRD st (zXe ca rule main term name)):=by
 have hA:=λr hr st=>vQ4 gl G T ca rule r hr main y hy hm term z hz ht name st;have hkn:=λst=>xK3 gl ca st;obtain⟨o3,n3,t3,x3,t4,x4,rfl⟩:=hy.agg;obtain⟨v,un,tz,xz,rfl⟩:=vQq hz;unfold zXe;refine iI func158 ?_;simp only[go_sem,zE,zA,reduceCtorEq];refine (hkn _).mono ?_;rintro _ st ⟨rfl,rfl⟩;cases hk:yXy ca
 ·simp only[go_sem,zE];exact yQ0 ⟨_,_,rfl,.inl rfl,.inl rfl,rfl,rfl⟩
 simp only[go_sem,zA,reduceCtorEq];refine (wX0 gl ca _).mono ?_;rintro _ _ ⟨b,hb,rfl,rfl⟩;cases hr:rowS ca rule with
 | none =>
  simp only[go_sem,zE,zA,zL,ISt.put_same,yWn,hr,Option.map_none,yGe];exact yQg (yQh hb) ⟨_,_,rfl,.inl rfl,.inl rfl,rfl,rfl⟩
 | some r =>
  have hcall:=hA r hr;obtain⟨rl,rr,op,asks⟩:=r;simp only[go_sem,zE,zA,zL,reduceCtorEq,ISt.put_same,yWn,hr,Option.map_some,zZe,rwI];refine (hcall _).mono ?_;rintro _ _ ⟨tg,xs,rfl,he,hap,hxs,rfl⟩;simp only[go_sem,zE];exact yQg (yQh hb) ⟨_,_,rfl,he,hap,hxs,rfl⟩
theorem vJ9 (G:Gl gl)(T:Gt gl)(ca rule:Nat)(main:Fm)(y:IV)(hy:IsFm main y)(hm:main.size<=1000000)(term:Tm)(z:IV)(hz:IsTm term z)(ht:term.size<=1000000)(name:ByteArray)(st:ISt) :
  ICall prog gl 158 [.raw (.int .u8 ca),.raw (.int .u8 rule),y,z,.raw (.string name)] st (AdR st (zXe ca rule main term name)) :=
 (vJ8 gl G T ca rule main y hy hm term z hz ht name st).mono AdRD.w
mutual
def wTm:Tm->Nat
 | .mk _ n us=>1+n.size / 20+wTms us
def wTms:List Tm->Nat
 | []=>0
 | a::l=>wTm a+wTms l
end
mutual
def wFm:Fm->Nat
 | .mk _ n us sub=>1+n.size / 20+wTms us+wFms sub
def wFms:List Fm->Nat
 | []=>0
 | a::l=>wFm a+wFms l
end
theorem yU3:∀l m:List Tm,wTms (l++m)=wTms l+wTms m
 | [],m=>by simp[wTms]
 | a::l,m=>by simp only[List.cons_append,wTms,yU3 l m];omega
theorem wQw {l:List Tm}{k:Nat}{a:Tm}(h:l[k]?=some a):wTms (l.take (k+1))=wTms (l.take k)+wTm a:=by
 rw[yQ6 h,yU3];simp[wTms]
theorem wQx (l:List Tm)(k:Nat):wTms (l.take k)<=wTms l:=by
 conv=>rhs;rw[<- List.take_append_drop k l]
 rw[yU3];omega
theorem yU4:∀l m:List Fm,wFms (l++m)=wFms l+wFms m
 | [],m=>by simp[wFms]
 | a::l,m=>by simp only[List.cons_append,wFms,yU4 l m];omega
theorem wQy {l:List Fm}{k:Nat}{a:Fm}(h:l[k]?=some a):wFms (l.take (k+1))=wFms (l.take k)+wFm a:=by
 rw[yQ6 h,yU4];simp[wFms]
theorem wQz (l:List Fm)(k:Nat):wFms (l.take k)<=wFms l:=by
 conv=>rhs;rw[<- List.take_append_drop k l]
 rw[yU4];omega
def Sum (w:Nat)(lim:Int)(r:IV):Prop:=∃n:Nat,r=.raw (.int .i64 n)/\n<=w/\((n:Int)<=lim->n=w)
def tC (us:List Tm):Prop:=∀(t:Tag) (xs:List IV) (_:okEs t 3) (_:IsTms us xs) (lim:Int) (_:-1<=lim/\lim<=1000) (_:wTms us<=1099511627776) (st:ISt),
 ICall prog gl 56 [.sl t xs,.raw (.int .i64 lim)] st (λr st'=>Sum (wTms us) lim r/\st'=st)
theorem xJg (us:List Tm)(IH:∀v n l,Tm.mk v n l∈us->tC gl l):tC gl us:=by
 intro t xs ht hx lim hlim hw st;refine iI func56 ?_;simp only[go_sem];refine LoopC.ctr us.length (λk fr st' ds=>(∃n:Nat,fr 5=.iv (.raw (.int .i64 n))/\n<=wTms (us.take k)/\((n:Int)<=lim->n=wTms (us.take k)))/\fr 0=.iv (.sl t xs)/\fr 1=.iv (.raw (.int .i64 lim))/\fr 6=.iv (.raw (.int .i64 k))/\st'=st/\ds=[]) ?_ ?_ ?_
 ·simp only[go_sem,zE,reduceCtorEq];exact⟨⟨0,rfl,Nat.le_refl _,λ_=>rfl⟩,rfl⟩
 ·rintro k fr st1 _ hlt ⟨⟨n,f5,hn1,hn2⟩,f0,f1,f6,rfl,rfl⟩;obtain⟨a,ha⟩:=yQ1 hlt;obtain⟨x,hkx,hxa⟩:=hx.get ha;obtain⟨v2,n2,l2⟩:=a;obtain⟨tx,cx,rfl,htx,hcx⟩:=hxa.mk;have hwt:=wQw ha;have hwl:=wQx us (k+1);have hwk:=wQx us k;simp only[wTm] at hwt;by_cases hle:(n:Int)<=lim
  ·have hnk:=hn2 hle;have hcall:=λst=>IH _ _ _ (lMg ha) tx cx htx hcx (lim-n-1) ⟨by omega,by omega⟩ (by omega) st;have hq:IntKind.i64.wrap (((n2.size:Nat):Int).tdiv 20)=((n2.size / 20:Nat):Int):=by
    have:((n2.size:Nat):Int).tdiv 20=((n2.size / 20:Nat):Int):=rfl;rw[this,w64 (by omega) (by omega)]
   have hz:¬ ((20:Int)=0):=by decide
   generalize n2.size / 20=q at hq hwt;have w1:IntKind.i64.wrap (1+((q:Nat):Int))=((1+q:Nat):Int):=by rw[w64]<;>omega
   have w2:IntKind.i64.wrap (IntKind.i64.wrap (lim-(n:Int))-1)=lim-n-1:=by rw[w64 (n:=lim-n) (by omega) (by omega),w64 (by omega) (by omega)]
   simp only[go_sem,zE,zA,reduceCtorEq,f0,f1,f5,f6,hx.len,lt_i hlt,dEt hle,yQ3 ht,iNn,hkx,fits,hq,hz,w1,w2];intro _;refine (hcall _).mono ?_;rintro _ st2 ⟨⟨m,rfl,hm1,hm2⟩,rfl⟩;have w3:IntKind.i64.wrap (((1+q:Nat):Int)+(m:Int))=((1+q+m:Nat):Int):=by rw[w64]<;>omega
   have w4:IntKind.i64.wrap ((n:Int)+((1+q+m:Nat):Int))=((n+(1+q+m):Nat):Int):=by rw[w64]<;>omega
   simp only[go_sem,zE,reduceCtorEq,f0,f1,f6,w3,w4,yQc hlt (show us.length<=281474976710656 by omega)];exact⟨n+(1+q+m),rfl,by omega,λh=>by have:=hm2 (by omega);omega⟩
  ·simp only[go_sem,zE,reduceCtorEq,f0,f1,f5,f6,hx.len,lt_i hlt,dEf hle];intro _;exact yQ0 ⟨⟨n,rfl,by omega,λh=>absurd h hle⟩,rfl⟩
 ·rintro fr st1 _ ⟨⟨n,f5,hn1,hn2⟩,f0,f1,f6,rfl,rfl⟩;rw[lTl] at hn1 hn2;simp only[go_sem,zE,reduceCtorEq,f0,f5,f6,hx.len,yQl (nLi _)];intro _;exact yQ0 ⟨⟨n,rfl,hn1,hn2⟩,rfl⟩
theorem zWm:∀(k:Nat)(us:List Tm),SizeOf.sizeOf us<k->tC gl us
 | 0,f,h=>by omega
 | k+1,us,h=>xJg gl us (λv n l ha=>zWm k l (by
   have:=lSm ha;simp at this;omega))
theorem xW4 (us:List Tm):tC gl us:=zWm gl _ us (Nat.lt_succ_self _)
def zC (us:List Fm):Prop:=∀(t:Tag) (xs:List IV) (_:okEs t 4) (_:IsFms us xs) (lim:Int) (_:-1<=lim/\lim<=1000) (_:wFms us<=1099511627776) (st:ISt),
 ICall prog gl 55 [.sl t xs,.raw (.int .i64 lim)] st (λr st'=>Sum (wFms us) lim r/\st'=st)
theorem xU8 (us:List Fm)(IH:∀o n l m,Fm.mk o n l m∈us->zC gl m):zC gl us:=by
 intro t xs ht hx lim hlim hw st;refine ICall.intro (c:=cf prog gl [] [(5,[0,1,2,3,4,5,6,7,8,9,10,11,12,13,14,15,16,19,20,21,22,23,24,25,26,27,17,18,28,29,30,31])]) func55 rfl (by show _<=50;simp) (by kernel_rfl) ?_;simp only[go_sem];refine LoopC.ctr us.length (λk fr st' ds=>(∃n:Nat,fr 5=.iv (.raw (.int .i64 n))/\n<=wFms (us.take k)/\((n:Int)<=lim->n=wFms (us.take k)))/\fr 0=.iv (.sl t xs)/\fr 1=.iv (.raw (.int .i64 lim))/\fr 6=.iv (.raw (.int .i64 k))/\st'=st/\ds=[]) ?_ ?_ ?_
 ·simp only[go_sem,zE,reduceCtorEq];exact⟨⟨0,rfl,Nat.le_refl _,λ_=>rfl⟩,rfl⟩
 ·rintro k fr st1 _ hlt ⟨⟨n,f5,hn1,hn2⟩,f0,f1,f6,rfl,rfl⟩;obtain⟨a,ha⟩:=yQ1 hlt;obtain⟨x,hkx,hxa⟩:=hx.get ha;obtain⟨o2,n2,l2,m2⟩:=a;obtain⟨tx,cx,ty,cy,rfl,_,htx,hcx,hty,hcy⟩:=hxa.mk;have hwt:=wQy ha;have hwl:=wQz us (k+1);have hwk:=wQz us k;simp only[wFm] at hwt;by_cases hle:(n:Int)<=lim
  ·have hnk:=hn2 hle;have hcall:=λst=>IH _ _ _ _ (lMg ha) ty cy hty hcy (lim-n-1) ⟨by omega,by omega⟩ (by omega) st;have hterm:=λst=>xW4 gl l2 tx cx htx hcx (lim-n) ⟨by omega,by omega⟩ (by omega) st;have hq:IntKind.i64.wrap (((n2.size:Nat):Int).tdiv 20)=((n2.size / 20:Nat):Int):=by
    have:((n2.size:Nat):Int).tdiv 20=((n2.size / 20:Nat):Int):=rfl;rw[this,w64 (by omega) (by omega)]
   have hz:¬ ((20:Int)=0):=by decide
   generalize n2.size / 20=q at hq hwt;have w1:IntKind.i64.wrap (1+((q:Nat):Int))=((1+q:Nat):Int):=by rw[w64]<;>omega
   have w0:IntKind.i64.wrap (lim-(n:Int))=lim-n:=w64 (by omega) (by omega);have w2:IntKind.i64.wrap (lim-(n:Int)-1)=lim-n-1:=w64 (by omega) (by omega);simp only[go_sem,zE,zA,reduceCtorEq,f0,f1,f5,f6,hx.len,lt_i hlt,dEt hle,yQ3 ht,iNn,hkx,fits,hq,hz,w1,w0,w2];intro _;refine (hterm _).mono ?_;rintro _ st2 ⟨⟨m1,rfl,hm1,hm1'⟩,rfl⟩;have w3:IntKind.i64.wrap (((1+q:Nat):Int)+(m1:Int))=((1+q+m1:Nat):Int):=by rw[w64]<;>omega
   simp only[go_sem,zE,zA,w3];refine (hcall _).mono ?_;rintro _ st2 ⟨⟨m,rfl,hm,hm'⟩,rfl⟩;have w4:IntKind.i64.wrap (((1+q+m1:Nat):Int)+(m:Int))=((1+q+m1+m:Nat):Int):=by rw[w64]<;>omega
   have w5:IntKind.i64.wrap ((n:Int)+((1+q+m1+m:Nat):Int))=((n+(1+q+m1+m):Nat):Int):=by rw[w64]<;>omega
   simp only[go_sem,zE,reduceCtorEq,f0,f1,f6,w4,w5,yQc hlt (show us.length<=281474976710656 by omega)];exact⟨n+(1+q+m1+m),rfl,by omega,λh=>by have:=hm1' (by omega);have:=hm' (by omega);omega⟩
  ·simp only[go_sem,zE,reduceCtorEq,f0,f1,f5,f6,hx.len,lt_i hlt,dEf hle];intro _;exact yQ0 ⟨⟨n,rfl,by omega,λh=>absurd h hle⟩,rfl⟩
 ·rintro fr st1 _ ⟨⟨n,f5,hn1,hn2⟩,f0,f1,f6,rfl,rfl⟩;rw[lTl] at hn1 hn2;simp only[go_sem,zE,reduceCtorEq,f0,f5,f6,hx.len,yQl (nLi _)];intro _;exact yQ0 ⟨⟨n,rfl,hn1,hn2⟩,rfl⟩
theorem xQj:∀(k:Nat)(us:List Fm),SizeOf.sizeOf us<k->zC gl us
 | 0,f,h=>by omega
 | k+1,us,h=>xU8 gl us (λo n l m ha=>xQj k m (by
   have:=lSm ha;simp at this;omega))
theorem xJh (us:List Fm):zC gl us:=xQj gl _ us (Nat.lt_succ_self _)
theorem vUa (s:Sq)(x:IV)(hx:IsSq s x)(hw:wFms s.l<=1099511627776/\wFms s.r<=1099511627776)(st:ISt):ICall prog gl 54 [x] st (λr st'=>(r=.raw (.bool (decide (wFms s.l+wFms s.r<=300))))/\st'=st):=by
 obtain⟨t1,x1,t2,x2,rfl,e1,i1,e2,i2⟩:=hx;have h1:=λst=>xJh gl s.l t1 x1 e1 i1 300 ⟨by omega,by omega⟩ hw.1 st;have h2:=λst=>xJh gl s.r t2 x2 e2 i2 300 ⟨by omega,by omega⟩ hw.2 st;refine ICall.intro (c:=cf prog gl [] [(1,[0,1,3,4,2,5,6,7,8])]) func54 rfl (by show _<=11;simp) (by kernel_rfl) ?_;simp only[go_sem,zE,zA];refine (h1 _).mono ?_;rintro _ st2 ⟨⟨n,rfl,hn1,hn2⟩,rfl⟩;simp only[go_sem,zE,zA];refine (h2 _).mono ?_;rintro _ st2 ⟨⟨m,rfl,hm1,hm2⟩,rfl⟩;have w:IntKind.i64.wrap ((n:Int)+(m:Int))=((n+m:Nat):Int):=by rw[w64]<;>omega
 have hd:decide (((n+m:Nat):Int)<=300)=decide (wFms s.l+wFms s.r<=300):=by
  rw[decide_eq_decide];constructor
  ·intro h;have:=hn2 (by omega);have:=hm2 (by omega);omega
  ·intro h;omega
 simp only[go_sem,zE,w,hd];exact yQ0 ⟨rfl,rfl⟩
mutual
theorem vV0:∀t:Tm,t.size<=wTm t
 | .mk _ n us=>by have:=xXt us;simp only[wTm,Tm.size];omega
theorem xXt:∀l:List Tm,yQf l<=wTms l
 | []=>Nat.le_refl _
 | a::l=>by have:=vV0 a;have:=xXt l;simp only[wTms,yQf];omega
end
mutual
theorem vV1:∀f:Fm,f.size<=wFm f
 | .mk _ n us sub=>by have:=xXt us;have:=zG0 sub;simp only[wFm,Fm.size];omega
theorem zG0:∀l:List Fm,yQb l<=wFms l
 | []=>Nat.le_refl _
 | a::l=>by have:=vV1 a;have:=zG0 l;simp only[wFms,yQb];omega
end
mutual
def wtF:Fm->Nat
 | .mk o _ _ sub=>if o=1\/o=2 then 0 else if o=7 then 3+wtFs sub else 1+wtFs sub
def wtFs:List Fm->Nat
 | []=>0
 | a::l=>wtF a+wtFs l
end
theorem yU1:∀l m:List Fm,wtFs (l++m)=wtFs l+wtFs m
 | [],m=>by simp[wtFs]
 | a::l,m=>by simp only[List.cons_append,wtFs,yU1 l m];omega
theorem wQs {l:List Fm}{k:Nat}{a:Fm}(h:l[k]?=some a):wtFs (l.take (k+1))=wtFs (l.take k)+wtF a:=by
 rw[yQ6 h,yU1];simp[wtFs]
mutual
theorem wGs:∀f:Fm,wtF f<=3*f.size
 | .mk o n us sub=>by
  have:=zQz sub;simp only[wtF,Fm.size];split
  ·omega
  ·split<;>omega
theorem zQz:∀l:List Fm,wtFs l<=3*yQb l
 | []=>by simp[wtFs]
 | a::l=>by have:=wGs a;have:=zQz l;simp only[wtFs,yQb];omega
end
def wtC (us:List Fm):Prop:=∀(tg:Tag) (xs:List IV) (_:okEs tg 4) (_:IsFms us xs) (_:yQb us<=1000000) (st:ISt),
 ICall prog gl 94 [.sl tg xs] st (λr st'=>r=.raw (.int .i64 (wtFs us:Int))/\st'=st)
theorem xXk (us:List Fm)(IH:∀o n l m,Fm.mk o n l m∈us->wtC gl m):wtC gl us:=by
 intro tg xs ht hx hsz st;refine iI func94 ?_;refine LoopC.ctr us.length (λk fr st' ds=>fr 3=.iv (.raw (.int .i64 (wtFs (us.take k):Int)))/\fr 0=.iv (.sl tg xs)/\fr 4=.iv (.raw (.int .i64 k))/\st'=st/\ds=[]) ?_ ?_ ?_
 ·simp only[go_sem,zE,reduceCtorEq];simp[wtFs]
 ·rintro k fr st1 _ hlt ⟨f3,f0,f4,rfl,rfl⟩;obtain⟨a,ha⟩:=yQ1 hlt;obtain⟨x,hkx,hxa⟩:=hx.get ha;have hsa:=yW3 (lMg ha);have hwt:=wQs ha;have hwl:wtFs us=wtFs (us.take k)+wtFs (us.drop k):=by rw[<- yU1,List.take_append_drop]
  have hws:=zQz us;have hwa:=wGs a;obtain⟨o,n,l,m⟩:=a;have hcall:=λtg xs h1 h2 st=>IH o n l m (lMg ha) tg xs h1 h2 (by simp only[Fm.size] at hsa;omega) st;obtain⟨tx,cx,ty,cy,rfl,hop,htx,hcx,hty,hcy⟩:=hxa.mk;have hlen:us.length<=1000000:=Nat.le_trans (yX4 us) hsz;by_cases h1:o=1
  ·subst h1;simp only[go_sem,zE,reduceCtorEq,f0,f3,f4,hx.len,lt_i hlt,yQ3 ht,iNn,hkx,fits,show decide (((1:Nat):Int)=1)=true from rfl,yQc hlt (show us.length<=281474976710656 by omega)];intro _;rw[hwt];simp[wtF]
  have d1:decide ((o:Int)=1)=false:=dEf (by omega);by_cases h2:o=2
  ·subst h2;simp only[go_sem,zE,reduceCtorEq,f0,f3,f4,hx.len,lt_i hlt,yQ3 ht,iNn,hkx,fits,d1,show decide (((2:Nat):Int)=2)=true from rfl,yQc hlt (show us.length<=281474976710656 by omega)];intro _;rw[hwt];simp[wtF]
  have d2:decide ((o:Int)=2)=false:=dEf (by omega);have hmb:wtFs m<=3*1000000:=Nat.le_trans (zQz m) (by simp only[Fm.size] at hsa;omega);have htb:wtFs (us.take k)<=3*1000000:=by omega
  by_cases h7:o=7
  ·subst h7;simp only[go_sem,zE,zA,reduceCtorEq,f0,f3,f4,hx.len,lt_i hlt,yQ3 ht,iNn,hkx,fits,d1,d2,show decide (((7:Nat):Int)=7)=true from rfl];intro _;refine (hcall ty cy hty hcy _).mono ?_;rintro _ st2 ⟨rfl,rfl⟩;have w4:IntKind.i64.wrap ((3:Int)+(wtFs m:Int))=((3+wtFs m:Nat):Int):=by rw[w64]<;>omega
   have w5:IntKind.i64.wrap ((wtFs (us.take k):Int)+((3+wtFs m:Nat):Int))=((wtFs (us.take k)+(3+wtFs m):Nat):Int):=by rw[w64]<;>omega
   simp only[go_sem,zE,reduceCtorEq,f0,f4,w4,w5,yQc hlt (show us.length<=281474976710656 by omega)];rw[hwt];simp[wtF]
  ·have d7:decide ((o:Int)=7)=false:=dEf (by omega);simp only[go_sem,zE,zA,reduceCtorEq,f0,f3,f4,hx.len,lt_i hlt,yQ3 ht,iNn,hkx,fits,d1,d2,d7];intro _;refine (hcall ty cy hty hcy _).mono ?_;rintro _ st2 ⟨rfl,rfl⟩;have w4:IntKind.i64.wrap ((1:Int)+(wtFs m:Int))=((1+wtFs m:Nat):Int):=by rw[w64]<;>omega
   have w5:IntKind.i64.wrap ((wtFs (us.take k):Int)+((1+wtFs m:Nat):Int))=((wtFs (us.take k)+(1+wtFs m):Nat):Int):=by rw[w64]<;>omega
   simp only[go_sem,zE,reduceCtorEq,f0,f4,w4,w5,yQc hlt (show us.length<=281474976710656 by omega)];rw[hwt];simp[wtF,h1,h2,h7]
 ·rintro fr st1 _ ⟨f3,f0,f4,rfl,rfl⟩;rw[lTl] at f3;simp only[go_sem,zE,reduceCtorEq,f0,f3,f4,hx.len,yQl (nLi _)];intro _;exact yQ0 ⟨rfl,rfl⟩
theorem zW7:∀(k:Nat)(us:List Fm),SizeOf.sizeOf us<k->wtC gl us
 | 0,f,h=>by omega
 | k+1,us,h=>xXk gl us (λo n l m ha=>zW7 k m (by
   have:=lSm ha;simp at this;omega))
theorem xVd (us:List Fm):wtC gl us:=zW7 gl _ us (Nat.lt_succ_self _)
noncomputable def xWs (s:Sq):Bool:=decide (wFms s.l+wFms s.r<=300)&&decide (wtFs s.l+wtFs s.r<=8)
theorem vJ2 (s:Sq)(x:IV)(hx:IsSq s x)(hw:wFms s.l<=1099511627776/\wFms s.r<=1099511627776)(st:ISt):ICall prog gl 57 [x] st (λr st'=>r=.raw (.bool (xWs s))/\st'=st):=by
 have hF:=λst=>vUa gl s x hx hw st;obtain⟨t1,x1,t2,x2,rfl,e1,i1,e2,i2⟩:=hx;refine ICall.intro (c:=cf prog gl [] [(1,[0,1,2,3,4,6,7,5,8,9,10,11,12])]) func57 rfl (by show _<=15;simp) (by kernel_rfl) ?_;simp only[go_sem,zE,zA,zL];refine (hF _).mono ?_;rintro _ st ⟨rfl,rfl⟩;by_cases h:wFms s.l+wFms s.r<=300
 ·have h1:=zG0 s.l;have h2:=zG0 s.r;have hw1:=zQz s.l;have hw2:=zQz s.r;simp only[go_sem,zE,zA,dEt h];refine (xVd gl s.l t1 x1 e1 i1 (by omega) _).mono ?_;rintro _ st ⟨rfl,rfl⟩;simp only[go_sem,zE,zA];refine (xVd gl s.r t2 x2 e2 i2 (by omega) _).mono ?_;rintro _ st ⟨rfl,rfl⟩;have w:IntKind.i64.wrap ((wtFs s.l:Int)+(wtFs s.r:Int))=((wtFs s.l+wtFs s.r:Nat):Int):=by rw[w64]<;>omega
  have hd:decide (((wtFs s.l+wtFs s.r:Nat):Int)<=8)=decide (wtFs s.l+wtFs s.r<=8):=by rw[decide_eq_decide];omega
  simp only[go_sem,zE,w,hd];exact yQ0 ⟨by unfold xWs;rw[dEt h];rfl,rfl⟩
 ·simp only[go_sem,zE,dEf h];exact yQ0 ⟨by unfold xWs;rw[dEf h];rfl,rfl⟩
end Go.Proofs.Tryz
namespace Go.Proofs.Tryz
open Go Go.Iv
abbrev noN:ByteArray:=⟨#[]⟩
abbrev imF (a b:Fm):Fm:=.mk 6 noN [] [a,b]
inductive PF:Fm->Prop
 | atom (n:ByteArray):PF (.mk 1 n [] [])
 | fls:PF (.mk 2 noN [] [])
 | neg {a:Fm} (h:PF a):PF (.mk 3 noN [] [a])
 | bin {o:Nat} {a b:Fm} (h4:4<=o) (h7:o<=7) (ha:PF a) (hb:PF b):PF (.mk o noN [] [a,b])
def addF (j:Bool):Fm->Bool->List (Nat×List (List Fm×List Fm))
 | .mk 3 _ _ [a],true=>[(4,[([a],[])])]
 | .mk 3 _ _ [a],false=>[(3,[([],[a])])]
 | .mk 4 _ _ [a,b],true=>[(6,[([],[a]),([],[b])])]
 | .mk 4 _ _ [a,b],false=>[(5,[([a,b],[])])]
 | .mk 5 _ _ [a,b],true=>if j=true then [(8,[([],[a])]),(18,[([],[b])])] else [(8,[([],[a,b])])]
 | .mk 5 _ _ [a,b],false=>[(7,[([a],[]),([b],[])])]
 | .mk 6 _ _ [a,b],true=>[(10,[([a],[b])])]
 | .mk 6 _ _ [a,b],false=>[(9,[([],[a]),([b],[])])]
 | .mk 7 _ _ [a,b],true=>[(12,[([a],[b]),([b],[a])])]
 | .mk 7 _ _ [a,b],false=>[(11,[([imF a b,imF b a],[])])]
 | _,_=>[]
def rgt (j:Bool)(R r:List Fm):List Fm:=if j=true/\r≠[] then r else R++r
def zZj (f:Fm):Bool:=match f with|.mk o _ _ _=>decide (o=2)
def ClF (L R:List Fm):Prop:=(∃f∈L,f∈R)\/∃f∈L,zZj f=true
def HtF (j:Bool):Nat->List Fm->List Fm->Prop
 | 0,_,_=>False
 | n+1,L,R=>ClF L R\/∃f r,f∈(if r=true then R else L)/\∃t∈addF j f r,∀p∈t.2,HtF j n (L++p.1) (rgt j R p.2)
theorem vZ2 {j:Bool}{R R' r:List Fm}(h:∀f∈R,f∈R'):∀f∈rgt j R r,f∈rgt j R' r:=by
 unfold rgt;split
 ·exact λ_ h=>h
 ·intro f hf;rcases List.mem_append.1 hf with h1|h1
  ·exact List.mem_append_left _ (h f h1)
  ·exact List.mem_append_right _ h1
theorem vXv {L L' l:List Fm}(h:∀f∈L,f∈L'):∀f∈L++l,f∈L'++l:=λf hf=>by
 rcases List.mem_append.1 hf with h1|h1
 ·exact List.mem_append_left _ (h f h1)
 ·exact List.mem_append_right _ h1
theorem HtF.sub {j:Bool}:∀ {n:Nat} {L R L' R':List Fm},HtF j n L R->(∀f∈L,f∈L')->(∀f∈R,f∈R')->HtF j n L' R'
 | 0,_,_,_,_,h,_,_=>h.elim
 | n+1,L,R,L',R',h,hl,hr=>by
  rcases h with (⟨f,h1,h2⟩|⟨f,h1,h2⟩)|⟨f,r,h1,t,h2,h3⟩
  ·exact .inl (.inl ⟨f,hl f h1,hr f h2⟩)
  ·exact .inl (.inr ⟨f,hl f h1,h2⟩)
  ·refine .inr ⟨f,r,?_,t,h2,λp hp=>(h3 p hp).sub (vXv hl) (vZ2 hr)⟩;cases r
   ·exact hl f h1
   ·exact hr f h1
theorem HtF.up {j:Bool}:∀ {n m:Nat} {L R:List Fm},HtF j n L R->n<=m->HtF j m L R
 | 0,_,_,_,h,_=>h.elim
 | n+1,0,_,_,_,hm=>absurd hm (by omega)
 | n+1,m+1,L,R,h,hm=>by
  rcases h with h|⟨f,r,h1,t,h2,h3⟩
  ·exact .inl h
  ·exact .inr ⟨f,r,h1,t,h2,λp hp=>(h3 p hp).up (by omega)⟩
mutual
def hp (S:Nat->List Nat)(v:Nat->ByteArray->Bool):Fm->Nat->Bool
 | .mk op n _ sub,w =>
  if op=1 then v w n
  else if op=4 then (hpL S v sub w).all id
  else if op=5 then (hpL S v sub w).any id
  else if op=3\/op=6\/op=7 then (S w).all λu=>match hpL S v sub u with
   | [a]=>!a
   | [a,b]=>(!a || b)&&(decide (op=6) || (!b || a))
   | _=>true
  else false
def hpL (S:Nat->List Nat)(v:Nat->ByteArray->Bool):List Fm->Nat->List Bool
 | [],_=>[]
 | a::l,w=>hp S v a w::hpL S v l w
end
section
variable (S:Nat->List Nat)(v:Nat->ByteArray->Bool)(w:Nat)(a b:Fm)(n:ByteArray)(us:List Tm)
theorem hp1:hp S v (.mk 1 n us []) w=v w n:=by simp[hp]
theorem hp2:hp S v (.mk 2 n us []) w=false:=by simp[hp]
theorem hp3:hp S v (.mk 3 n us [a]) w=(S w).all λu=>!hp S v a u:=by simp[hp,hpL]
end
def UnP (j:Bool)(L R:List Fm):Prop:=∀n,¬ HtF j n L R
def Full (U:List Fm):Prop:=∀f∈U,∀j r,∀t∈addF j f r,∀p∈t.2,(∀g∈p.1,g∈U)/\∀g∈p.2,g∈U
def one (_:Nat):List Nat:=[0]
abbrev tr (v:ByteArray->Bool)(f:Fm):Bool:=hp one (λ_=>v) f 0
section
variable (v:ByteArray->Bool)(a b:Fm)(n:ByteArray)(us:List Tm)
theorem tr1:tr v (.mk 1 n us [])=v n:=hp1 _ _ _ _ _
theorem tr2:tr v (.mk 2 n us [])=false:=hp2 _ _ _ _ _
theorem tr3:tr v (.mk 3 n us [a])=!tr v a:=by simp[tr,hp3,one]
end
abbrev Sn:=List Fm×List Fm
noncomputable def nf (s:Sn):Sn:=(setF s.1,setF s.2)
theorem yZg {l:List Fm}{f:Fm}:f∈setF l↔f∈l:=(zJu l).2 f
theorem vVv (s:Sn):nf (nf s)=nf s:=by simp only[nf,wZr]
noncomputable def zQ6 (j:Bool)(s p:Sn):Sn:=nf (s.1++p.1,rgt j s.2 p.2)
noncomputable def yW7 (j:Bool)(s:Sn)(r:Bool)(f:Fm):List (Nat×Fm×List Sn):=(addF j f r).map λt=>(t.1,f,t.2.map (zQ6 j s))
noncomputable def mvF (j:Bool)(s:Sn):List (Nat×Fm×List Sn):=s.1.flatMap (yW7 j s false)++s.2.flatMap (yW7 j s true)
def tooL (j:Bool)(s p:Sn):Prop:=64<s.1.length+p.1.length\/64<(if j=true/\p.2≠[] then 0 else s.2.length)+p.2.length
def zGt (j:Bool)(s:Sn):Prop:=∃f r,f∈(if r=true then s.2 else s.1)/\∃t∈addF j f r,∃p∈t.2,tooL j s p
inductive Rch (j:Bool)(s0:Sn):Sn->Prop
 | refl:Rch j s0 s0
 | step {s:Sn} (h:Rch j s0 s) (hc:¬ ClF s.1 s.2) {m:Nat×Fm×List Sn} (hm:m∈mvF j s) {p:Sn} (hp:p∈m.2.2):Rch j s0 p
theorem Rch.trans {j:Bool}{s0 s1 s:Sn}(h:Rch j s0 s1)(k:Rch j s1 s):Rch j s0 s:=by
 induction k with
 | refl=>exact h
 | step _ hc hm hp ih=>exact .step ih hc hm hp
structure ReachOk (j:Bool)(s0:Sn)(K:List Sn):Prop where
 nodup:K.Nodup
 mem:∀s,s∈K↔Rch j s0 s
 short:∀s∈K,¬ ClF s.1 s.2->¬ zGt j s
 len:K.length<=20000
def zZw (j:Bool)(s0:Sn)(e:Nat):Prop:=(e=4/\∃K:List Sn,K.Nodup/\(∀s∈K,Rch j s0 s)/\20000<K.length)\/(e=5/\∃s,Rch j s0 s/\¬ ClF s.1 s.2/\zGt j s)
open Classical in
theorem zKd {α:Type}{a b:List α}(h:a.Nodup)(hs:∀x∈a,x∈b):a.length<=b.length:=zGp a b h hs
theorem ReachOk.no {j:Bool}{s0 s1:Sn}{K:List Sn}(h:ReachOk j s0 K)(hr:Rch j s0 s1){e:Nat}(hn:zZw j s1 e):False:=by
 rcases hn with⟨_,L,h1,h2,h3⟩|⟨_,s,h1,h2,h3⟩
 ·have:=zKd h1 λs hs=>(h.mem s).2 (hr.trans (h2 s hs));have:=h.len;omega
 ·exact h.short s ((h.mem s).2 (hr.trans h1)) h2 h3
abbrev HtS (j:Bool)(n:Nat)(s:Sn):Prop:=HtF j n s.1 s.2
theorem wJr {j:Bool}{n:Nat}{s:Sn}:HtS j n (nf s)↔HtS j n s :=
 ⟨λh=>h.sub (λ_=>yZg.1) λ_=>yZg.1,λh=>h.sub (λ_=>yZg.2) λ_=>yZg.2⟩
open Classical in
noncomputable def hF (j:Bool)(s:Sn):Nat:=if h:∃n,HtS j n s then (yVm h).choose else 0
theorem xUz {j:Bool}{s:Sn}{n:Nat}(h:HtS j n s):HtS j (hF j s) s/\hF j s<=n/\0<hF j s:=by
 have he:∃n,HtS j n s:=⟨n,h⟩
 unfold hF;rw[dif_pos he];have h1:=(yVm he).choose_spec;refine⟨h1.1,h1.2 n h,?_⟩;have h1:=h1.1;cases hz:(yVm he).choose with
 | zero=>rw[hz] at h1;exact h1.elim
 | succ k=>omega
theorem vX1 {j:Bool}{s:Sn}:hF j s=0↔UnP j s.1 s.2:=by
 constructor
 ·intro h n hn;have:=(xUz hn).2.2;omega
 ·intro h;unfold hF;rw[dif_neg λ⟨n,hn⟩=>h n hn]
theorem wUn {j:Bool}{s:Sn}(h:0<hF j s):HtS j (hF j s) s:=by
 by_cases he:∃n,HtS j n s
 ·obtain⟨n,hn⟩:=he;exact (xUz hn).1
 ·unfold hF at h;rw[dif_neg he] at h;omega
theorem wYo {j:Bool}{s:Sn}{h:Nat}(h1:0<h->HtS j h s)(h2:∀n,HtS j n s->0<h/\h<=n):hF j s=h:=by
 by_cases he:∃n,HtS j n s
 ·obtain⟨n,hn⟩:=he;have h3:=h2 _ (xUz hn).1;have h4:=(xUz (h1 h3.1)).2.1;omega
 ·have:hF j s=0:=vX1.2 λn hn=>he ⟨n,hn⟩;rw[this];rcases Nat.eq_zero_or_pos h with h0|h0
  ·exact h0.symm
  ·exact (he ⟨h,h1 h0⟩).elim
theorem vWi (j:Bool)(s:Sn):hF j (nf s)=hF j s:=by
 refine wYo (λh=>wJr.2 (wUn h)) λn hn=>?_;have:=xUz (wJr.1 hn);exact⟨this.2.2,this.2.1⟩
theorem zJ3 {j:Bool}{n:Nat}{s:Sn}:HtS j (n+1) s↔ClF s.1 s.2\/∃m∈mvF j s,∀p∈m.2.2,HtS j n p:=by
 have key:∀f r,(∃m∈yW7 j s r f,∀p∈m.2.2,HtS j n p)↔∃t∈addF j f r,∀p∈t.2,HtF j n (s.1++p.1) (rgt j s.2 p.2):=λf r=>by
  constructor
  ·rintro⟨m,hm,h⟩;obtain⟨t,ht,rfl⟩:=List.mem_map.1 hm;exact⟨t,ht,λp hp=>wJr.1 (h _ (List.mem_map_of_mem hp))⟩
  ·rintro⟨t,ht,h⟩;refine⟨_,List.mem_map_of_mem ht,λp hp=>?_⟩;obtain⟨q,hq,rfl⟩:=List.mem_map.1 hp;exact wJr.2 (h q hq)
 constructor
 ·rintro (h|⟨f,r,h1,h2⟩)
  ·exact .inl h
  ·obtain⟨m,hm,h⟩:=(key f r).2 h2;refine .inr ⟨m,?_,h⟩;cases r
   ·exact List.mem_append_left _ (List.mem_flatMap.2 ⟨f,h1,hm⟩)
   ·exact List.mem_append_right _ (List.mem_flatMap.2 ⟨f,h1,hm⟩)
 ·rintro (h|⟨m,hm,h⟩)
  ·exact .inl h
  ·rcases List.mem_append.1 hm with hm|hm
   ·obtain⟨f,hf,hm⟩:=List.mem_flatMap.1 hm;exact .inr ⟨f,false,hf,(key f false).1 ⟨m,hm,h⟩⟩
   ·obtain⟨f,hf,hm⟩:=List.mem_flatMap.1 hm;exact .inr ⟨f,true,hf,(key f true).1 ⟨m,hm,h⟩⟩
theorem wJw {j:Bool}{s:Sn}(h:ClF s.1 s.2):hF j s=1 :=
 wYo (λ_=>.inl h) λn hn=>⟨Nat.one_pos,by cases n with|zero=>exact hn.elim|succ n=>omega⟩
def insN (x:Nat):List Nat->List Nat
 | []=>[x]
 | y::l=>if x<y then x::y::l else if x=y then y::l else y::insN x l
def sdN:List Nat->List Nat
 | []=>[]
 | x::l=>insN x (sdN l)
def Inc (l:List Nat):Prop:=l.Pairwise (·<·)
theorem zU2 {x y:Nat}:∀ {l:List Nat},y∈insN x l↔y=x\/y∈l
 | []=>by simp[insN]
 | z::l=>by
  unfold insN;split
  ·simp
  ·split
   ·rename_i h;subst h;simp
   ·rw[List.mem_cons,zU2,List.mem_cons];grind
theorem xY7 {x:Nat}:∀ {l:List Nat},Inc l->Inc (insN x l)
 | [],_=>List.pairwise_singleton ..
 | z::l,h=>by
  have h1:=List.pairwise_cons.1 h;unfold insN;split
  ·rename_i hx;refine List.pairwise_cons.2 ⟨λy hy=>?_,h⟩;rcases List.mem_cons.1 hy with rfl|hy
   ·exact hx
   ·exact Nat.lt_trans hx (h1.1 y hy)
  ·split
   ·exact h
   ·refine List.pairwise_cons.2 ⟨λy hy=>?_,xY7 h1.2⟩;rcases zU2.1 hy with rfl|hy
    ·omega
    ·exact h1.1 y hy
theorem sdN_mem {x:Nat}:∀ {l:List Nat},x∈sdN l↔x∈l
 | []=>Iff.rfl
 | y::l=>by rw[sdN,zU2,sdN_mem,List.mem_cons]
theorem zJw:∀l:List Nat,Inc (sdN l)
 | []=>List.Pairwise.nil
 | _::l=>xY7 (zJw l)
theorem Inc.uniq:∀ {r r':List Nat},Inc r->Inc r'->(∀x,x∈r↔x∈r')->r=r'
 | [],r',_,_,h=>by
  cases r' with
  | nil=>rfl
  | cons b r'=>exact absurd ((h b).2 (.head _)) (by simp)
 | a::r,[],_,_,h=>absurd ((h a).1 (.head _)) (by simp)
 | a::r,b::r',h1,h2,h=>by
  have p1:=List.pairwise_cons.1 h1;have p2:=List.pairwise_cons.1 h2;have hab:a=b:=by
   have ha:=(h a).1 (.head _);have hb:=(h b).2 (.head _);rcases List.mem_cons.1 ha with e|ha
   ·exact e
   ·rcases List.mem_cons.1 hb with e|hb
    ·exact e.symm
    ·have:=p1.1 b hb;have:=p2.1 a ha;omega
  subst hab;congr 1;refine Inc.uniq p1.2 p2.2 λx=>?_;constructor
  ·intro hx;rcases List.mem_cons.1 ((h x).1 (.tail _ hx)) with e|e
   ·subst e;exact absurd (p1.1 _ hx) (nLi _)
   ·exact e
  ·intro hx;rcases List.mem_cons.1 ((h x).2 (.tail _ hx)) with e|e
   ·subst e;exact absurd (p2.1 _ hx) (nLi _)
   ·exact e
theorem vVc {l r:List Nat}(h:Inc r)(hm:∀x,x∈r↔x∈l):sdN l=r:=Inc.uniq (zJw l) h λx=>sdN_mem.trans (hm x).symm
theorem xZf {l:List Nat}(h:Inc l):l.Nodup:=h.imp λh=>Nat.ne_of_lt h
theorem yYw {l:List Nat}(h:Inc l){n:Nat}(hn:∀x∈l,x<n):l.length<=n:=by
 have:=zKd (xZf h) (b:=List.range n) λx hx=>List.mem_range.2 (hn x hx)
 rwa [List.length_range] at this
def ddP (p:Nat):List Nat->List Nat
 | []=>[]
 | b::l=>if b=p then ddP b l else b::ddP b l
def ddN:List Nat->List Nat
 | []=>[]
 | a::l=>a::ddP a l
theorem zUi:∀(p:Nat)(l:List Nat)(a b:Nat),(p::l).getLast?=some a->ddP p (l++[b])=ddP p l++(if b=a then [] else [b])
 | p,[],a,b,h=>by
  simp only[List.getLast?_singleton,Option.some.injEq] at h;subst h;simp only[List.nil_append,ddP]
 | p,c::l,a,b,h=>by
  rw[List.getLast?_cons_cons] at h;simp only[List.cons_append,ddP,zUi c l a b h];split<;>rfl
theorem xG5 {m:List Nat}{k a b:Nat}(ha:m[k]?=some a)(hb:m[k+1]?=some b):ddN (m.take (k+1+1))=ddN (m.take (k+1))++(if b=a then [] else [b]):=by
 rw[yQ6 hb,yQ6 ha];cases hm:m.take k with
 | nil=>exact congrArg (a::·) (zUi a [] a b rfl)
 | cons p l=>exact congrArg (p::·) (zUi p (l++[a]) a b (by rw[<- List.cons_append,List.getLast?_concat]))
theorem wUx:∀(p:Nat)(l:List Nat),(p::l).Pairwise (·<=·)->(∀x,x∈p::ddP p l↔x∈p::l)/\Inc (p::ddP p l)
 | p,[],_=>⟨λ_=>Iff.rfl,List.pairwise_singleton ..⟩
 | p,b::l,h=>by
  have h1:=List.pairwise_cons.1 h;obtain⟨i1,i2⟩:=wUx b l h1.2;simp only[ddP];by_cases hc:b=p
  ·subst hc;rw[if_pos rfl];exact⟨λx=>by rw[i1 x];simp,i2⟩
  ·rw[if_neg hc];have hlt:p<b:=by have:=h1.1 b (.head _);omega
   refine⟨λx=>by rw[List.mem_cons,i1 x,List.mem_cons (l:=b::l)],List.pairwise_cons.2 ⟨λy hy=>?_,i2⟩⟩;rcases List.mem_cons.1 hy with rfl|hy
   ·exact hlt
   ·exact Nat.lt_trans hlt ((List.pairwise_cons.1 i2).1 y hy)
theorem wUz {l:List Nat}(h:l.Pairwise (·<=·)):(∀x,x∈ddN l↔x∈l)/\Inc (ddN l):=by
 cases l with
 | nil=>exact⟨λ_=>Iff.rfl,List.Pairwise.nil⟩
 | cons a l=>exact wUx a l h
theorem wUy {l m:List Nat}(hp:m.Perm l)(h:m.Pairwise (·<=·)):ddN m=sdN l :=
 (vVc (wUz h).2 λx=>((wUz h).1 x).trans hp.mem_iff).symm
theorem zJv (l:List Nat):(sdN l).length<=l.length:=zKd (xZf (zJw l)) λ_=>sdN_mem.1
def Srt (W:List Fm):Prop:=W.Pairwise λa b=>yZa a b<0
theorem zWf {W:List Fm}(h:Srt W){i k:Nat}{a b:Fm}(ha:W[i]?=some a)(hb:W[k]?=some b)(hik:i<k):yZa a b<0:=by
 obtain⟨h1,h2⟩:=lGs ha;obtain⟨h3,h4⟩:=lGs hb;have:=List.pairwise_iff_getElem.1 h i k h1 h3 hik
 rwa [h2,h4] at this
theorem xXy {W:List Fm}(h:Srt W){i k:Nat}{a:Fm}(ha:W[i]?=some a)(hb:W[k]?=some a):i=k:=by
 rcases Nat.lt_trichotomy i k with h1|h1|h1
 ·exact absurd (zWf h ha hb h1) (yWf a)
 ·exact h1
 ·exact absurd (zWf h hb ha h1) (yWf a)
def fmW (W:List Fm)(l:List Nat):List Fm:=l.filterMap λi=>W[i]?
theorem yZn {W:List Fm}{l:List Nat}{f:Fm}:f∈fmW W l↔∃i∈l,W[i]?=some f:=by simp[fmW]
def Ix (W:List Fm)(l:List Nat):Prop:=Inc l/\∀i∈l,i<W.length
theorem Ix.tail {W:List Fm}{i:Nat}{l:List Nat}(h:Ix W (i::l)):Ix W l:=⟨(List.pairwise_cons.1 h.1).2,λk hk=>h.2 k (.tail _ hk)⟩
theorem Ix.get {W:List Fm}{l:List Nat}(h:Ix W l){i:Nat}(hi:i∈l):∃f,W[i]?=some f:=⟨_,List.getElem?_eq_getElem (h.2 i hi)⟩
theorem zUc {W:List Fm}{i:Nat}{l:List Nat}{f:Fm}(h:W[i]?=some f):fmW W (i::l)=f::fmW W l:=by simp[fmW,h]
theorem wK5 {W:List Fm}(hW:Srt W):∀ {l:List Nat},Ix W l->Srt (fmW W l)
 | [],_=>List.Pairwise.nil
 | i::l,h=>by
  obtain⟨f,hf⟩:=h.get (.head _);rw[zUc hf];refine List.pairwise_cons.2 ⟨λg hg=>?_,wK5 hW h.tail⟩;obtain⟨k,hk,hkg⟩:=yZn.1 hg;exact zWf hW hf hkg ((List.pairwise_cons.1 h.1).1 k hk)
theorem xKj {W:List Fm}:∀ {l:List Nat},Ix W l->(fmW W l).length=l.length
 | [],_=>rfl
 | i::l,h=>by
  obtain⟨f,hf⟩:=h.get (.head _);rw[zUc hf,List.length_cons,List.length_cons,xKj h.tail]
theorem xYr {W:List Fm}(hW:Srt W){l:List Nat}(h:Ix W l){m:List Fm}(hm:∀f,f∈fmW W l↔f∈m):fmW W l=setF m:=(yKq ⟨wK5 hW h,hm⟩).symm
theorem wK6 {W:List Fm}(hW:Srt W){l m:List Nat}(hl:Ix W l)(hm:Ix W m)(h:fmW W l=fmW W m):l=m:=by
 refine Inc.uniq hl.1 hm.1 λi=>?_;have key:∀ {l m:List Nat},Ix W l->fmW W l=fmW W m->i∈l->i∈m:=λhl h hi=>by
  obtain⟨f,hf⟩:=hl.get hi;have:f∈fmW W _:=yZn.2 ⟨i,hi,hf⟩;rw[h] at this;obtain⟨k,hk,hkf⟩:=yZn.1 this
  rwa [xXy hW hf hkf]
 exact⟨key hl h,key hm h.symm⟩
open Classical in
noncomputable def noW (W:List Fm)(f:Fm):Nat:=if h:∃i,W[i]?=some f then h.choose else 0
theorem xWj {W:List Fm}{f:Fm}(h:f∈W):W[noW W f]?=some f:=by
 obtain⟨i,hi⟩:=List.mem_iff_getElem?.1 h;have he:∃i,W[i]?=some f:=⟨i,hi⟩
 unfold noW;rw[dif_pos he];exact he.choose_spec
theorem vVs {W:List Fm}(hW:Srt W){f:Fm}{i:Nat}(h:W[i]?=some f):noW W f=i:=xXy hW (xWj (lMg h)) h
noncomputable def zKa (W:List Fm)(l:List Fm):List Nat:=sdN (l.map (noW W))
theorem yGc {W:List Fm}{l:List Fm}(h:∀f∈l,f∈W):Ix W (zKa W l):=by
 refine⟨zJw _,λi hi=>?_⟩;obtain⟨f,hf,rfl⟩:=List.mem_map.1 (sdN_mem.1 hi);exact (lGs (xWj (h f hf))).1
theorem yYm {W:List Fm}{l:List Fm}(h:∀f∈l,f∈W){f:Fm}:f∈fmW W (zKa W l)↔f∈l:=by
 rw[yZn];constructor
 ·rintro⟨i,hi,hf⟩;obtain⟨g,hg,rfl⟩:=List.mem_map.1 (sdN_mem.1 hi);rw[xWj (h g hg)] at hf;cases hf;exact hg
 ·intro hf;exact⟨_,sdN_mem.2 (List.mem_map_of_mem hf),xWj (h f hf)⟩
abbrev Ln:=List Nat×List Nat
def lnW (W:List Fm)(ln:Ln):Sn:=(fmW W ln.1,fmW W ln.2)
def LnOk (W:List Fm)(ln:Ln):Prop:=Ix W ln.1/\Ix W ln.2
noncomputable def zXj (W:List Fm)(s:Sn):Ln:=(zKa W s.1,zKa W s.2)
def InW (W:List Fm)(s:Sn):Prop:=(∀f∈s.1,f∈W)/\∀f∈s.2,f∈W
theorem zGu {W:List Fm}{s:Sn}(h:InW W s):LnOk W (zXj W s):=⟨yGc h.1,yGc h.2⟩
theorem zXx {W:List Fm}(hW:Srt W){s:Sn}(h:InW W s):lnW W (zXj W s)=nf s:=by
 unfold lnW zXj nf;rw[xYr hW (yGc h.1) λf=>yYm h.1,xYr hW (yGc h.2) λf=>yYm h.2]
theorem wXz {W:List Fm}(hW:Srt W){a b:Ln}(ha:LnOk W a)(hb:LnOk W b)(h:lnW W a=lnW W b):a=b:=by
 have h1:=congrArg Prod.fst h;have h2:=congrArg Prod.snd h;exact Prod.ext (wK6 hW ha.1 hb.1 h1) (wK6 hW ha.2 hb.2 h2)
abbrev Ex:=Ln×Nat×Nat
noncomputable def exW (W:List Fm)(p:Sn):Ex:=(zXj W p,p.1.length,p.2.length)
def rgtN (j:Bool)(ln:Ln)(x:Ex):List Nat:=if j=true/\0<x.2.2 then [] else ln.2
def zQ5 (j:Bool)(ln:Ln)(x:Ex):Ln:=(sdN (ln.1++x.1.1),sdN (rgtN j ln x++x.1.2))
def tooN (j:Bool)(ln:Ln)(x:Ex):Bool:=decide (64<ln.1.length+x.2.1) || decide (64<(rgtN j ln x).length+x.2.2)
theorem wUi {W:List Fm}{a b:List Nat}(ha:∀i∈a,i<W.length)(hb:∀i∈b,i<W.length):Ix W (sdN (a++b)) :=
 ⟨zJw _,λi hi=>(List.mem_append.1 (sdN_mem.1 hi)).elim (ha i) (hb i)⟩
theorem vZ3 {W:List Fm}{j:Bool}{ln:Ln}{x:Ex}(h:LnOk W ln):∀i∈rgtN j ln x,i<W.length:=by
 unfold rgtN;split
 ·intro i hi;cases hi
 ·exact h.2.2
theorem xW6 {W:List Fm}{j:Bool}{ln:Ln}{p:Sn}(h:LnOk W ln)(hp:InW W p):LnOk W (zQ5 j ln (exW W p)) :=
 ⟨wUi h.1.2 (yGc hp.1).2,wUi (vZ3 h) (yGc hp.2).2⟩
theorem wWz {W:List Fm}(hW:Srt W){j:Bool}{ln:Ln}{p:Sn}(h:LnOk W ln)(hp:InW W p):lnW W (zQ5 j ln (exW W p))=zQ6 j (lnW W ln) p:=by
 have hk:=xW6 (j:=j) h hp;unfold zQ6 nf;refine Prod.ext ?_ ?_
 ·refine xYr hW hk.1 λf=>?_;rw[yZn,List.mem_append];simp only[zQ5,sdN_mem,List.mem_append];constructor
  ·rintro⟨i,hi|hi,hf⟩
   ·exact .inl (yZn.2 ⟨i,hi,hf⟩)
   ·exact .inr ((yYm hp.1).1 (yZn.2 ⟨i,hi,hf⟩))
  ·rintro (hf|hf)
   ·obtain⟨i,hi,hf⟩:=yZn.1 hf;exact⟨i,.inl hi,hf⟩
   ·obtain⟨i,hi,hf⟩:=yZn.1 ((yYm hp.1).2 hf);exact⟨i,.inr hi,hf⟩
 ·refine xYr hW hk.2 λf=>?_;have hpos:0<(exW W p).2.2↔p.2≠[]:=by simp[exW,List.length_pos_iff]
  rw[yZn];unfold rgt;simp only[zQ5,sdN_mem,List.mem_append,rgtN,hpos];have hr:∀ {f},f∈fmW W (exW W p).1.2↔f∈p.2:=yYm hp.2;by_cases hc:j=true/\p.2≠[]
  ·rw[if_pos hc,if_pos hc];constructor
   ·rintro⟨i,hi|hi,hf⟩
    ·cases hi
    ·exact hr.1 (yZn.2 ⟨i,hi,hf⟩)
   ·intro hf;obtain⟨i,hi,hf⟩:=yZn.1 (hr.2 hf);exact⟨i,.inr hi,hf⟩
  ·rw[if_neg hc,if_neg hc,List.mem_append];constructor
   ·rintro⟨i,hi|hi,hf⟩
    ·exact .inl (yZn.2 ⟨i,hi,hf⟩)
    ·exact .inr (hr.1 (yZn.2 ⟨i,hi,hf⟩))
   ·rintro (hf|hf)
    ·obtain⟨i,hi,hf⟩:=yZn.1 hf;exact⟨i,.inl hi,hf⟩
    ·obtain⟨i,hi,hf⟩:=yZn.1 (hr.2 hf);exact⟨i,.inr hi,hf⟩
theorem wZ5 {W:List Fm}{j:Bool}{ln:Ln}{p:Sn}(h:LnOk W ln):tooN j ln (exW W p)=true↔tooL j (lnW W ln) p:=by
 have hpos:0<(exW W p).2.2↔p.2≠[]:=by simp[exW,List.length_pos_iff]
 have hr:(rgtN j ln (exW W p)).length=if j=true/\p.2≠[] then 0 else (fmW W ln.2).length:=by
  unfold rgtN;by_cases hc:j=true/\p.2≠[]
  ·rw[if_pos hc,if_pos ⟨hc.1,hpos.2 hc.2⟩];rfl
  ·rw[if_neg hc,if_neg λh=>hc ⟨h.1,hpos.1 h.2⟩,xKj h.2]
 unfold tooN tooL;rw[Bool.or_eq_true,dTe,dTe,hr,lnW,xKj h.1];rfl
def clN (W:List Fm)(ln:Ln):Prop:=(∃i∈ln.1,i∈ln.2)\/∃i∈ln.1,∃f,W[i]?=some f/\zZj f=true
theorem zXb {W:List Fm}(hW:Srt W){ln:Ln}(h:LnOk W ln):clN W ln↔ClF (lnW W ln).1 (lnW W ln).2:=by
 unfold clN ClF lnW;refine or_congr ⟨?_,?_⟩ ⟨?_,?_⟩
 ·rintro⟨i,h1,h2⟩;obtain⟨f,hf⟩:=h.1.get h1;exact⟨f,yZn.2 ⟨i,h1,hf⟩,yZn.2 ⟨i,h2,hf⟩⟩
 ·rintro⟨f,h1,h2⟩;obtain⟨i,hi,hf⟩:=yZn.1 h1;obtain⟨k,hk,hkf⟩:=yZn.1 h2;exact⟨i,hi,by rw[xXy hW hf hkf];exact hk⟩
 ·rintro⟨i,h1,f,hf,h2⟩;exact⟨f,yZn.2 ⟨i,h1,hf⟩,h2⟩
 ·rintro⟨f,h1,h2⟩;obtain⟨i,hi,hf⟩:=yZn.1 h1;exact⟨i,hi,f,hf,h2⟩
end Go.Proofs.Tryz
namespace Go.Proofs
open Go.Shelf
def Tryz.sortIL_ren:Go.Shelf.Ren:=⟨λ| 5=>130|8=>154|7=>156|19=>195|20=>196|10=>197|11=>198|12=>199|13=>200|14=>201|15=>202|16=>132|17=>203|18=>204|30=>225|31=>221|32=>222|33=>226|34=>227|35=>122|40=>252|n=>n,λ| 23=>36|25=>3|3=>3|32=>203|22=>36|0=>0|44=>272|46=>274|4=>4|36=>266|35=>265|41=>167|5=>5|9=>9|53=>293|57=>297|63=>315|64=>287|n=>n,λ| n=>n⟩
theorem Tryz.sortIL:Go.Proofs.SlLaysM.n5 Tryz.prog Tryz.sortIL_ren:={
 mixed:=by kernel_rfl
 f5:=⟨Tryz.f130.name,by decide,Tryz.func130.trans (congrArg some (by kernel_rfl))⟩
 f7:=⟨Tryz.f156.name,by decide,Tryz.func156.trans (congrArg some (by kernel_rfl))⟩
 f8:=Tryz.func154.trans (congrArg some (by kernel_rfl))
 f10:=⟨Tryz.f197.name,by decide,Tryz.func197.trans (congrArg some (by kernel_rfl))⟩
 f11:=⟨Tryz.f198.name,by decide,Tryz.func198.trans (congrArg some (by kernel_rfl))⟩
 f12:=⟨Tryz.f199.name,by decide,Tryz.func199.trans (congrArg some (by kernel_rfl))⟩
 f13:=⟨Tryz.f200.name,by decide,Tryz.func200.trans (congrArg some (by kernel_rfl))⟩
 f14:=⟨Tryz.f201.name,by decide,Tryz.func201.trans (congrArg some (by kernel_rfl))⟩
 f15:=⟨Tryz.f202.name,by decide,Tryz.func202.trans (congrArg some (by kernel_rfl))⟩
 f16:=⟨Tryz.f132.name,by decide,Tryz.func132.trans (congrArg some (by kernel_rfl))⟩
 f17:=⟨Tryz.f203.name,by decide,Tryz.func203.trans (congrArg some (by kernel_rfl))⟩
 f18:=⟨Tryz.f204.name,by decide,Tryz.func204.trans (congrArg some (by kernel_rfl))⟩
 f19:=Tryz.func195.trans (congrArg some (by kernel_rfl))
 f20:=Tryz.func196.trans (congrArg some (by kernel_rfl))
 f30:=⟨Tryz.f225.name,by decide,Tryz.func225.trans (congrArg some (by kernel_rfl))⟩
 f31:=Tryz.func221.trans (congrArg some (by kernel_rfl))
 f32:=Tryz.func222.trans (congrArg some (by kernel_rfl))
 f33:=⟨Tryz.f226.name,by decide,Tryz.func226.trans (congrArg some (by kernel_rfl))⟩
 f34:=⟨Tryz.f227.name,by decide,Tryz.func227.trans (congrArg some (by kernel_rfl))⟩
 f35:=⟨Tryz.f122.name,by decide,Tryz.func122.trans (congrArg some (by kernel_rfl))⟩
 f40:=⟨Tryz.f252.name,by decide,Tryz.func252.trans (congrArg some (by kernel_rfl))⟩
 t0:=Tryz.underlying0
 a0:=Tryz.isAgg0
 z0:=Tryz.sizeOf0
 v0:=Tryz.zeroValue0
 t3:=Tryz.underlying3
 a3:=Tryz.isAgg3
 z3:=Tryz.sizeOf3
 v3:=Tryz.zeroValue3
 t4:=Tryz.underlying4
 a4:=Tryz.isAgg4
 z4:=Tryz.sizeOf4
 v4:=Tryz.zeroValue4
 t5:=Tryz.underlying5
 a5:=Tryz.isAgg5
 z5:=Tryz.sizeOf5
 v5:=Tryz.zeroValue5
 t9:=Tryz.underlying9
 a9:=Tryz.isAgg9
 z9:=Tryz.sizeOf9
 v9:=Tryz.zeroValue9
 t22:=Tryz.underlying36
 a22:=Tryz.isAgg36
 z22:=Tryz.sizeOf36
 v22:=Tryz.zeroValue36
 t23:=Tryz.underlying36
 a23:=Tryz.isAgg36
 z23:=Tryz.sizeOf36
 v23:=Tryz.zeroValue36
 t25:=Tryz.underlying3
 a25:=Tryz.isAgg3
 z25:=Tryz.sizeOf3
 v25:=Tryz.zeroValue3
 t32:=Tryz.underlying203
 a32:=Tryz.isAgg203
 z32:=Tryz.sizeOf203
 v32:=Tryz.zeroValue203
 t35:=Tryz.underlying265
 a35:=Tryz.isAgg265
 z35:=Tryz.sizeOf265
 v35:=Tryz.zeroValue265
 t36:=Tryz.underlying266
 a36:=Tryz.isAgg266
 z36:=Tryz.sizeOf266
 v36:=Tryz.zeroValue266
 t41:=Tryz.underlying167
 a41:=Tryz.isAgg167
 z41:=Tryz.sizeOf167
 v41:=Tryz.zeroValue167
 t44:=Tryz.underlying272
 a44:=Tryz.isAgg272
 z44:=Tryz.sizeOf272
 v44:=Tryz.zeroValue272
 t46:=Tryz.underlying274
 a46:=Tryz.isAgg274
 z46:=Tryz.sizeOf274
 v46:=Tryz.zeroValue274
 t53:=Tryz.underlying293
 a53:=Tryz.isAgg293
 z53:=Tryz.sizeOf293
 v53:=Tryz.zeroValue293
 t57:=Tryz.underlying297
 a57:=Tryz.isAgg297
 z57:=Tryz.sizeOf297
 v57:=Tryz.zeroValue297
 t63:=Tryz.underlying315
 a63:=Tryz.isAgg315
 z63:=Tryz.sizeOf315
 v63:=Tryz.zeroValue315
 t64:=Tryz.underlying287
 a64:=Tryz.isAgg287
 z64:=Tryz.sizeOf287
 v64:=Tryz.zeroValue287 }
end Go.Proofs
namespace Go.Proofs.Tryz
set_option maxRecDepth 4000
open Go Go.Iv Go.Sort
open Go.RowKit (Below)
variable (gl:Nat->Option IV)
theorem xUf {ys:List Int}{l:List Nat}(h:ys.Perm (l.map λ(n:Nat)=>(n:Int))):∃m:List Nat,ys=m.map (λ(n:Nat)=>(n:Int))/\m.Perm l:=by
 refine⟨ys.map Int.toNat,?_,?_⟩
 ·rw[List.map_map];refine (List.map_id ys).symm.trans (List.map_congr_left λy hy=>?_);obtain⟨n,_,rfl⟩:=List.mem_map.1 (h.mem_iff.1 hy);rfl
 ·have:=h.map Int.toNat;rw[List.map_map] at this;have e:(Int.toNat ∘ λ(n:Nat)=>(n:Int))=id:=by funext n;rfl
  rwa [e,List.map_id] at this
theorem xXd (T:Gt gl)(l:List Nat)(rest:List IV)(b cap:Nat)(st:ISt)(hlen:l.length<=1099511627776)(hb:st b=some (.box (yQj l++rest))) :
  ICall prog gl 130 [.raw (.slice (some ⟨b,0,none⟩) l.length cap)] st
   (λr st'=>r=.tup []/\∃m:List Nat,m.Perm l/\m.Pairwise (λx y=>x<=y)/\st'=st.put b (some (.box (yQj m++rest)))):=by
 intro B X rs hg hst hv;subst hst;obtain⟨r0,rfl⟩:∃r0,rs=[r0]:=by
  match rs,hv with
  | [a],_=>exact⟨a,rfl⟩
  | [],hv=>cases hv.1
  | _::_::_,hv=>cases hv.1
 obtain rfl:=V.raw_inv (hv.2 0 r0 _ rfl rfl);obtain⟨hL,c,Ty,hh,hvl⟩:=hg.ok b _ hb;have hblk:b<X.w.heap.size:=hg.lt hb;have hcs:c.toList.length=l.length+rest.length:=by
  have:=hvl.1;rw[lLa,yQj,List.length_map] at this;exact this
 have hget:∀j,j<l.length->c[j]?=some (.int .i64 ((l[j]?.getD 0:Nat):Int)):=λj hj=>by
  obtain⟨n,hn⟩:=yQ1 hj;have h1:(yQj l++rest)[j]?=some (.raw (.int .i64 (n:Int))):=by
   rw[List.getElem?_append_left (by rw[yQj,List.length_map];exact hj),yQj,List.getElem?_map,hn];rfl
  obtain⟨r,hr,hrv⟩:=VL.get hvl h1;rw[V.raw_inv hrv,Array.getElem?_toList] at hr;rw[hr,hn];rfl
 let zs:List Int:=l.map λ(n:Nat)=>(n:Int)
 have hH:Holds (Value.int .i64) X.w b 0 zs.toArray:=by
  intro j hj;have hj':j<l.length:=by simpa[zs] using hj
  obtain⟨n,hn⟩:=yQ1 hj';refine⟨?_,?_⟩
  ·rw[Nat.zero_add,yZ1 hh,Array.getElem?_toList,hget j hj',hn];have:(zs.toArray[j]!)=(n:Int):=by
    rw[getElem!_pos zs.toArray j hj];simp only[zs,List.getElem_toArray,List.getElem_map];rw[(lGs hn).2]
   rw[this];rfl
  ·simp only[World.frozen?,hh];simp
 have hcon:=AnyM.slices_Sort_int Tryz.sortIL b 0 cap zs X.w hH hblk (by simp[zs];omega);have harr:(⟨[.slice (some ⟨b,0,none⟩) l.length cap]⟩:Array Value)=#[.slice (some ⟨b,0,none⟩) zs.length cap]:=by simp[zs]
 rw[harr];refine Calls.mono hcon ?_;rintro e w' ⟨rfl,n,os,rfl⟩;obtain⟨m,hm1,hm2⟩:=xUf (l:=l) (List.mergeSort_perm zs λx y=>decide (x<=y));have hsrt:m.Pairwise (λx y=>x<=y):=by
  have:=List.pairwise_mergeSort (le:=λx y:Int=>decide (x<=y)) (λa b c h1 h2=>by simp at h1 h2 ⊢;omega) (λa b=>by simp;omega) zs;rw[hm1,List.pairwise_map] at this;exact this.imp λh=>by simpa using h
 have hml:m.length=l.length:=hm2.length_eq
 let cs':Array Value:=putCells (Value.int .i64) 0 (zs.mergeSort λx y=>decide (x<=y)).toArray c
 have hsz:cs'.size=c.size:=by simp[cs',putCells]
 have hcl:cs'.toList=(m.map λ(n:Nat)=>Value.int .i64 (n:Int))++c.toList.drop l.length:=by
  apply List.ext_getElem?;intro i;have hzl:(zs.mergeSort λx y=>decide (x<=y)).toArray.size=l.length:=by simp[zs]
  show (putCells (Value.int .i64) 0 _ c).toList[i]?=_;unfold putCells;rw[Array.getElem?_toList,Array.getElem?_mapIdx];by_cases hi:i<l.length
  ·rw[List.getElem?_append_left (by rw[List.length_map,hml];exact hi),List.getElem?_map];have hic:i<c.size:=by rw[<- Array.length_toList];omega
   rw[Array.getElem?_eq_getElem hic];simp only[Option.map_some,Nat.zero_add,Nat.zero_le,true_and,Nat.sub_zero];rw[if_pos (by omega),hm1];have hmi:i<m.length:=by omega
   rw[List.getElem?_eq_getElem hmi];simp only[Option.map_some];rw[getElem!_pos _ i (by simpa using hmi)];simp
  ·rw[List.getElem?_append_right (by rw[List.length_map,hml];omega),List.getElem?_drop,List.length_map,hml,Array.getElem?_toList];rw[show l.length+(i-l.length)=i by omega];cases hc:c[i]? with
   | none=>rfl
   | some v =>
    simp only[Option.map_some,Nat.zero_add,Nat.zero_le,true_and];rw[if_neg (by omega)]
 have hkeep:∀i,i<X.L b->cs'[i]?=c[i]?:=λi hi=>by rw[hL] at hi;omega
 have hnew:VL B X.L X.w cs'.toList (yQj m++rest):=by
  rw[hcl];refine VL.append ⟨by simp[yQj],λi r x hr hx=>?_⟩ ?_
  ·rw[yQj,List.getElem?_map] at hx;rw[List.getElem?_map] at hr;cases hq:m[i]? with
   | none=>rw[hq] at hr;cases hr
   | some k=>rw[hq] at hr hx;cases hr;cases hx;exact .raw _ trivial
  ·have:=hvl.drop l.length
   rwa [List.drop_left' (by rw[yQj,List.length_map])] at this
 have hrow:=hg.row (cs':=cs') (n:=0) (so:=some (.box (yQj m++rest))) hh hsz (by omega) hkeep (λi hi=>by
  cases hi;refine⟨by simp[WS.row],_,_,setRow_heap X.w b c cs' Ty (0,0) hh,?_⟩;exact⟨hnew.1,λi r x hr hx=>zZ6 hh hsz (by omega) hkeep (hnew.2 i r x hr hx)⟩)
 have hxr:Ext X (X.row b cs' 0 (some (.box (yQj m++rest)))):=(Ext.refl X).row hh hsz (by omega) hkeep (.inr (by rw[hb];simp));have hw:(putRow (Value.int .i64) (Sort.ahead X.w n) b 0 (zs.mergeSort λx y=>decide (x<=y)).toArray)=(X.w.setRow b cs').drewN n:=by
  unfold putRow mapBlock World.setRow Sort.ahead World.drewN;simp only;congr 1;apply Array.ext_getElem?;intro j;by_cases hj:j=b
  ·subst hj;rw[Array.getElem?_modify,if_pos rfl,hh];have:=setRow_heap X.w j c cs' Ty (0,0) hh;unfold World.setRow at this;rw[this];rfl
  ·have:=setRow_other X.w b j cs' hj;unfold World.setRow at this;rw[this,Array.getElem?_modify,if_neg (λh=>hj h.symm)]
 have hb2:Below (X.row b cs' 0 (some (.box (yQj m++rest)))).w.heap.size (X.row b cs' 0 (some (.box (yQj m++rest)))).w (grow ((X.row b cs' 0 (some (.box (yQj m++rest)))).w.drewN n) os):=⟨rfl,rfl,rfl,by simp[grow,World.drewN],λj hj=>by
  show ((X.row b cs' 0 (some (.box (yQj m++rest)))).w.heap++os)[j]?=_;rw[Array.getElem?_append_left hj]⟩
 rw[hw];exact⟨_,rfl,{ X.row b cs' 0 (some (.box (yQj m++rest))) with w:=grow ((X.row b cs' 0 (some (.box (yQj m++rest)))).w.drewN n) os },.tup [],rfl,zZs hrow hb2 T.some,hxr.trans (yV6 hrow hb2),.tup [] [] rfl (λi r c h=>by simp at h),rfl,m,hm2,hsrt,rfl⟩
theorem zXc (t:Tag)(ht:t.cap=.nil)(st:ISt):ICall prog gl 130 [.sl t []] st (λr st'=>r=.tup []/\st'=st):=by
 intro B X rs hg hst hv;obtain⟨r0,rfl⟩:∃r0,rs=[r0]:=by
  match rs,hv with
  | [a],_=>exact⟨a,rfl⟩
  | [],hv=>cases hv.1
  | _::_::_,hv=>cases hv.1
 obtain⟨p,cap,rfl⟩:∃p cap,r0=.slice p 0 cap:=by
  have:=hv.2 0 r0 _ rfl rfl;obtain⟨a,cap,_,_,rfl,_⟩:=V.sl_inv this;exact⟨a,cap,rfl⟩
 refine Calls.mono (AnyM.slices_Sort_int_none Tryz.sortIL p cap X.w) ?_;rintro e w' ⟨rfl,rfl⟩;exact⟨_,rfl,X,.tup [],rfl,hg,Ext.refl X,.tup [] [] rfl (λi r c h=>by simp at h),rfl,hst⟩
end Go.Proofs.Tryz
namespace Go.Proofs.Tryz
open Go Go.Iv
set_option maxRecDepth 4000
variable (gl:Nat->Option IV)
theorem yQu (l:List Nat):(yQj l).length=l.length:=by simp[yQj]
theorem yXx {l:List Nat}{i n:Nat}(h:l[i]?=some n):(yQj l)[i]?=some (.raw (.int .i64 (n:Int))):=by simp[yQj,h]
theorem wJi (l:List Nat)(k:Nat):(yQj l).take k=yQj (l.take k):=by simp[yQj,List.map_take]
theorem zU1 (l m:List Nat):yQj (l++m)=yQj l++yQj m:=by simp[yQj]
theorem rd1 {m:List Nat}{rest cs:List IV}{i n:Nat}(h:m[i]?=some n)(hc:cs[i]?=(yQj m++rest)[i]?):cs[i]?=some (.raw (.int .i64 (n:Int))):=by
 rw[hc,List.getElem?_append_left (by rw[yQu];exact (lGs h).1),yXx h]
theorem st1_ {cs l:List IV}{k n:Nat}(hl:l.length=n)(h:k+n<=cs.length):(yXg cs k l).length=cs.length/\(yXg cs k l).take k=cs.take k/\(yXg cs k l).take (k+n)=cs.take k++l/\∀i,k+n<=i->(yXg cs k l)[i]?=cs[i]?:=by
 have h1:(cs.take k).length=k:=by rw[List.length_take];omega
 have h2:(cs.take k++l).length=k+n:=by rw[lLa,h1,hl]
 unfold yXg;refine⟨?_,?_,List.take_left' h2,λi hi=>?_⟩
 ·rw[lLa,h2,List.length_drop,hl];omega
 ·rw[List.append_assoc,List.take_left' h1]
 ·rw[List.getElem?_append_right (by omega),h2,List.getElem?_drop,hl];congr 1;omega
theorem zYr (m:List Nat)(rest:List IV)(hlen:m.length<=1099511627776)(g cap:Nat)(hcap:m.length<=cap)(st:ISt)(hb:st g=some (.box (yQj m++rest))) :
  ICall prog gl 131 [.raw (.slice (some ⟨g,0,none⟩) m.length cap)] st
   (λr st'=>∃cs,r=.raw (.slice (some ⟨g,0,none⟩) (ddN m).length cap)/\st'=st.put g (some (.box cs))/\cs.length=(yQj m++rest).length/\cs.take (ddN m).length=yQj (ddN m)/\(ddN m).length<=m.length):=by
 have hput:st.put g (some (.box (yQj m++rest)))=st:=yXc hb;have same:ddN m=m->∃cs,IV.raw (.slice (some ⟨g,0,none⟩) m.length cap)=.raw (.slice (some ⟨g,0,none⟩) (ddN m).length cap)/\st=st.put g (some (.box cs))/\cs.length=(yQj m++rest).length/\cs.take (ddN m).length=yQj (ddN m)/\(ddN m).length<=m.length:=by
  intro hk;rw[hk];exact⟨_,rfl,hput.symm,rfl,by rw[List.take_left' (yQu m)],Nat.le_refl _⟩
 refine ICall.intro (c:=cf prog gl [19,24,38,43] []) func131 rfl (by show _<=61;simp) (by kernel_rfl) ?_;by_cases h2:m.length<2
 ·have d2:decide (((m.length:Nat):Int)<2)=true:=dEt (by omega);simp only[go_sem,reduceCtorEq,d2];refine yQ0 (same ?_)
  match m,h2 with
  | [],_=>rfl
  | [a],_=>rfl
 ·have d2:decide (((m.length:Nat):Int)<2)=false:=dEf (by omega);simp only[go_sem,reduceCtorEq,d2];refine LoopC.ctr (m.length-1) (λc fr st' ds=>ddN (m.take (c+1))=m.take (c+1)/\fr 0=.iv (.raw (.slice (some ⟨g,0,none⟩) m.length cap))/\fr 3=.iv (.raw (.int .i64 ((c+1:Nat):Int)))/\st'=st/\ds=[]) ?_ ?_ ?_
  ·simp only[go_sem,reduceCtorEq];refine⟨?_,rfl⟩
   match m,h2 with
   | [],h=>exact absurd (show 0<2 by decide) h
   | [a],h=>exact absurd (show 1<2 by decide) h
   | a::b::l,_=>rfl
  ·rintro c fr st1 _ hlt ⟨hd,f0,f3,rfl,rfl⟩;have hlt':c+1<m.length:=by omega
   obtain⟨a,ha⟩:=yQ1 (l:=m) (k:=c) (by omega);obtain⟨b,hbm⟩:=yQ1 hlt';have rx:=rd1 (rest:=rest) ha rfl;have ry:=rd1 (rest:=rest) hbm rfl;have hw:IntKind.i64.wrap (((c+1:Nat):Int)-1)=(c:Nat):=by rw[w64 (by omega) (by omega)];omega
   have hds:=xG5 ha hbm;by_cases he:b=a
   ·rw[if_pos he,List.append_nil,hd] at hds;have hcne:¬ cap=c+1:=by omega
    simp only[go_sem,zE,reduceCtorEq,f0,f3,lt_i hlt',hw,hlt',show c<m.length by omega,iNn,Nat.mul_one,hb,rx,ry,dEt (show (b:Int)=a by omega),yVa (show c+1<=m.length by omega),hcap,hcne];refine LoopC.ctr (m.length-(c+1)-1) (λj fr st' ds=>(∃k cs,fr 3=.iv (.raw (.int .i64 ((k:Nat):Int)))/\st'=st1.put g (some (.box cs))/\cs.length=(yQj m++rest).length/\k=(ddN (m.take (c+1+j+1))).length/\cs.take k=yQj (ddN (m.take (c+1+j+1)))/\k<=c+1+j/\∀i,c+1+j<=i->cs[i]?=(yQj m++rest)[i]?) /\
     fr 0=.iv (.raw (.slice (some ⟨g,0,none⟩) m.length cap))/\fr 4=.iv (.raw (.slice (some ⟨g,c+1,none⟩) (m.length-(c+1)) (cap-(c+1))))/\fr 5=.iv (.raw (.int .i64 ((j+1:Nat):Int)))/\ds=[]) ?_ ?_ ?_
    ·simp only[go_sem,zE,reduceCtorEq];refine⟨⟨c+1,yQj m++rest,f3,(yXc hb).symm,rfl,?_,?_,Nat.le_refl _,λ_ _=>rfl⟩,f0,rfl⟩
     ·rw[hds,List.length_take];omega
     ·rw[hds,List.take_append_of_le_length (by rw[yQu];omega),wJi]
    ·rintro j fr st2 _ hj ⟨⟨k,cs,f3,rfl,hcl,hkl,hct,hk,hcs⟩,f0,f4,f5,rfl⟩;obtain⟨a',ha'⟩:=yQ1 (l:=m) (k:=c+1+j) (by omega);obtain⟨b',hb'⟩:=yQ1 (l:=m) (k:=c+1+j+1) (by omega);have rx':=rd1 ha' (hcs _ (Nat.le_refl _));have ry':=rd1 hb' (hcs _ (by omega));have hw':IntKind.i64.wrap (((j+1:Nat):Int)-1)=(j:Nat):=by rw[w64 (by omega) (by omega)];omega
     have o2:c+1+(j+1)=c+1+j+1:=by omega
     have hj1:j+1<m.length-(c+1):=by omega
     have hj0:j<m.length-(c+1):=by omega
     have hds':=xG5 ha' hb';by_cases he':b'=a'
     ·rw[if_pos he',List.append_nil] at hds';simp only[go_sem,zE,reduceCtorEq,f0,f3,f4,f5,lt_i hj1,hj0,hj1,hw',iNn,Nat.mul_one,ISt.put_same,o2,rx',ry',dEt (show (b':Int)=a' by omega),yQc hj1 (show m.length-(c+1)<=281474976710656 by omega)];exact⟨k,cs,rfl,rfl,hcl,by rw[hds'];exact hkl,by rw[hds'];exact hct,by omega,λi hi=>hcs i (by omega)⟩
     ·rw[if_neg he'] at hds';have hkm:k<m.length:=by omega
      have hml:m.length<=cs.length:=by rw[hcl,lLa,yQu];omega
      have hk1:k+1<=cs.length:=by omega
      obtain⟨s1,s2,s3,s4⟩:=st1_ (n:=1) (l:=[.raw (.int .i64 (b':Int))]) rfl hk1;simp only[go_sem,zE,reduceCtorEq,f0,f3,f4,f5,lt_i hj1,hj0,hj1,hw',iNn,Nat.mul_one,ISt.put_same,o2,rx',ry',dEf (show ¬ (b':Int)=a' by omega),hkm,hk1,yQc hkm (show m.length<=281474976710656 by omega),yQc hj1 (show m.length-(c+1)<=281474976710656 by omega)];refine⟨k+1,yXg cs k [.raw (.int .i64 (b':Int))],rfl,by rw[yQ9];rfl,s1.trans hcl,?_,?_,by omega,λi hi=>?_⟩
      ·rw[hds',lLa,<- hkl];rfl
      ·rw[hds',s3,hct,zU1];rfl
      ·exact (s4 i (by omega)).trans (hcs i (by omega))
    ·rintro fr st2 _ ⟨⟨k,cs,f3,rfl,hcl,hkl,hct,hk,hcs⟩,f0,f4,f5,rfl⟩;have hkm:k<m.length:=by omega
     have hck:¬ cap=k:=by omega
     have hmk:¬ m.length-k=0:=by omega
     have hlen4:m.length<=cs.length:=by rw[hcl,lLa,yQu];omega
     have hk4:k+(m.length-k)<=cs.length:=by omega
     obtain⟨s1,s2,s3,s4⟩:=st1_ (cs:=cs) (k:=k) (l:=List.replicate (m.length-k) .junk) (List.length_replicate ..) hk4;rw[show m.length-(c+1)-1+1=m.length-(c+1) by omega] at f5;simp only[go_sem,zE,reduceCtorEq,f0,f3,f4,f5,yQl (nLi _),yVa (show k<=m.length by omega),zZ0 (show k<=cap by omega),hcap,hck,hmk,ISt.put_same,hk4,ite_self,Nat.mul_one];rw[show c+1+(m.length-(c+1)-1)+1=m.length by omega,lTl] at hkl hct;subst hkl;exact yQ0 ⟨yXg cs (ddN m).length (List.replicate (m.length-(ddN m).length) .junk),rfl,by rw[yQ9];rfl,s1.trans hcl,s2.trans hct,by omega⟩
   ·rw[if_neg he,hd] at hds;simp only[go_sem,zE,reduceCtorEq,f0,f3,lt_i hlt',hw,hlt',show c<m.length by omega,iNn,Nat.mul_one,hb,rx,ry,dEf (show ¬ (b:Int)=a by omega),yQc hlt' (show m.length<=281474976710656 by omega)];rw[hds,yQ6 hbm]
  ·rintro fr st1 _ ⟨hd,f0,f3,rfl,rfl⟩;rw[show m.length-1+1=m.length by omega] at hd f3;rw[lTl] at hd;simp only[go_sem,zE,reduceCtorEq,f0,f3,yQl (nLi _)];exact yQ0 (same hd)
theorem zQy (t:Tag)(ht:t.cap=.nil)(st:ISt):ICall prog gl 131 [.sl t []] st (λr st'=>(∃t',r=.sl t' []/\t'.cap=.nil)/\st'=st):=by
 obtain⟨fs,c,es⟩:=t;obtain rfl:c=.nil:=ht;refine ICall.intro (c:=cf prog gl [19,24,38,43] []) func131 rfl (by show _<=61;simp) (by kernel_rfl) ?_;simp only[go_sem,zL,reduceCtorEq,show decide (((0:Nat):Int)<2)=true from rfl];exact yQ0 ⟨⟨_,rfl,rfl⟩,rfl⟩
theorem vJ4 (n:Nat)(hn:n<=1099511627776)(st:ISt):ICall prog gl 228 [.sl ⟨true,.nil,0⟩ [],.raw (.int .i64 n)] st (λr st' =>
  (n=0/\r=.sl ⟨true,.nil,0⟩ []/\st'=st)\/(∃g cap,st g=none/\n<=cap/\r=.raw (.slice (some ⟨g,0,none⟩) 0 cap)/\st'=st.put g (some (.box (List.replicate cap .junk))))):=by
 have h1:decide ((n:Int)<0)=false:=dEf (by omega);have h2:IntKind.i64.wrap ((0:Int)-((0:Nat):Int))=0:=rfl;have h3:IntKind.i64.wrap ((n:Int)-0)=n:=w64 (by omega) (by omega);refine iI func228 ?_;by_cases hz:n=0
 ·subst hz;simp only[go_sem,zE,zL,reduceCtorEq,h1,h2,h3,show decide ((0:Int)<((0:Nat):Int))=false from rfl];refine yQ0 (.inl ?_);simp
 ·have h4:decide ((0:Int)<(n:Int))=true:=dEt (by omega);simp only[go_sem,zE,zL,reduceCtorEq,h1,h2,h3,h4,zZ4,xWu];refine yQp ⟨rfl,by omega,by show (n:Int)*8<=_;omega,by omega,by decide⟩ λg cap=>yQ8 λhg=>?_;obtain⟨hg,hc⟩:=hg;rw[Int.toNat_natCast] at hc;simp only[go_sem,zE,zL,reduceCtorEq,Int.toNat_natCast,zJr,ite_self,Nat.mul_one,hc];exact yQ0 (.inr ⟨g,cap,hg,hc,rfl,rfl⟩)
theorem vG8 {y:IV}(h:fits false 1 y=true):y.cells.length=1:=(yXf h).2.1
theorem uGm {l:List IV}(h:∀y∈l,fits false 1 y=true):(l.flatMap IV.cells).length=l.length:=(yQt l λx hx=>vG8 (h x hx)).trans (Nat.mul_one _)
theorem wVu (l:List (Tag×List IV))(tt:Tag)(htt:okEs tt 1)(hfit:∀p∈l,∀y∈p.2,fits false 1 y=true)(hlen:(catL l).length<=1099511627776)(st:ISt) :
  ICall prog gl 205 [.sl tt (catI l)] st (λr st'=>(∃t,r=.sl t []/\t.cap=.nil/\catL l=[]/\st'=st) \/
   ∃g cap cs,st g=none/\(catL l).length<=cap/\cap<=cs.length/\cs.take ((catL l).length)=(catL l).flatMap IV.cells/\r=.raw (.slice (some ⟨g,0,none⟩) (catL l).length cap)/\st'=st.put g (some (.box cs))):=by
 have hli:(catI l).length=l.length:=by simp[catI]
 have hfc:∀y∈catL l,fits false 1 y=true:=λy hy=>by
  obtain⟨p,hp,hy⟩:=List.mem_flatMap.1 hy;exact hfit p hp y hy
 refine iI func205 ?_;simp only[go_sem,reduceCtorEq,hli];intro hl;refine LoopC.ctr l.length (λk fr st' ds=>fr 0=.iv (.sl tt (catI l))/\fr 3=.iv (.raw (.int .i64 (catL (l.take k)).length))/\fr 9=.iv (.sl tt (catI l))/\fr 10=.iv (.raw (.int .i64 l.length))/\fr 11=.iv (.raw (.int .i64 k))/\st'=st/\ds=[]) ?_ ?_ ?_
 ·simp only[go_sem,zE,reduceCtorEq];simp[catL]
 ·rintro k fr st1 _ hlt ⟨f0,f3,f9,f10,f11,rfl,rfl⟩;obtain⟨p,hp⟩:=yQ1 hlt;have h1:=yG4 l k;have h2:=yG4 l (k+1);rw[yX6 hp,lLa] at h2;have h3:IntKind.i64.wrap ((((catL (l.take k)).length:Nat):Int)+((p.2.length:Nat):Int))=((catL (l.take (k+1))).length:Nat):=by
   rw[w64 (by omega) (by omega),yX6 hp,lLa];omega
  have h4:decide ((((catL (l.take (k+1))).length:Nat):Int)<0)=false:=dEf (by omega);simp only[go_sem,zE,f3,f9,f10,f11,lt_i hlt,yQ3 htt,iNn,yGn hp,fits,h3];intro hpl;simp only[go_sem,zE,reduceCtorEq,h3,h4,f0,f9,f10,f11,yQc hlt (show l.length<=281474976710656 by omega)]
 ·rintro fr st1 _ ⟨f0,f3,f9,f10,f11,rfl,rfl⟩;rw[lTl] at f3;simp only[go_sem,zE,zA,f3,f10,f11,yQl (nLi _)];refine (vJ4 gl (catL l).length hlen _).mono ?_;have loop:∀(I:Nat->IV->ISt->Prop),True:=λ_=>trivial;rintro r st2 (⟨hz,rfl,rfl⟩|⟨g,cap,hg,hcap,rfl,rfl⟩)
  ·have hnil:catL l=[]:=List.eq_nil_of_length_eq_zero hz;simp only[go_sem,reduceCtorEq,f0,hli];intro _;refine LoopC.ctr l.length (λk fr st' ds=>(∃t,fr 6=.iv (.sl t [])/\t.cap=.nil)/\fr 25=.iv (.sl tt (catI l))/\fr 26=.iv (.raw (.int .i64 l.length))/\fr 27=.iv (.raw (.int .i64 k))/\st'=st2/\ds=[]) ?_ ?_ ?_
   ·simp only[go_sem,zE];exact⟨⟨_,rfl,rfl⟩,rfl⟩
   ·rintro k fr st1 _ hlt ⟨⟨t,f6,ht⟩,f25,f26,f27,rfl,rfl⟩;obtain⟨p,hp⟩:=yQ1 hlt;have hp0:p.2=[]:=by
     have:=yX6 hp;have h2:=yG4 l (k+1);rw[this,lLa,hnil,List.length_nil] at h2;exact List.eq_nil_of_length_eq_zero (by omega)
    obtain⟨fs,c,es⟩:=t;obtain rfl:c=.nil:=ht;simp only[go_sem,zE,zA,zM,zL,f6,f25,f26,f27,lt_i hlt,yQ3 htt,iNn,yGn hp,fits,hp0,yQc hlt (show l.length<=281474976710656 by omega)];exact⟨_,rfl,rfl⟩
   ·rintro fr st1 _ ⟨⟨t,f6,ht⟩,f25,f26,f27,rfl,rfl⟩;simp only[go_sem,zE,f6,f26,f27,yQl (nLi _)];exact yQ0 (.inl ⟨_,rfl,ht,hnil,rfl⟩)
  ·simp only[go_sem,reduceCtorEq,f0,hli];intro _;refine LoopC.ctr l.length (λk fr st' ds=>(∃g cap cs,st1 g=none/\(catL (l.take k)).length<=cap/\cap<=cs.length/\cs.take ((catL (l.take k)).length)=(catL (l.take k)).flatMap IV.cells/\fr 6=.iv (.raw (.slice (some ⟨g,0,none⟩) (catL (l.take k)).length cap))/\st'=st1.put g (some (.box cs)))/\fr 25=.iv (.sl tt (catI l))/\fr 26=.iv (.raw (.int .i64 l.length))/\fr 27=.iv (.raw (.int .i64 k))/\ds=[]) ?_ ?_ ?_
   ·simp only[go_sem,zE];exact⟨⟨g,cap,_,hg,by simp[catL],by simp,by simp[catL],by simp[catL],rfl⟩,rfl⟩
   ·rintro k fr st' _ hlt ⟨⟨g,cap,cs,hg,hc1,hc2,hc3,f6,rfl⟩,f25,f26,f27,rfl⟩;obtain⟨p,hp⟩:=yQ1 hlt;have h2:=yG4 l (k+1);rw[yX6 hp,lLa] at h2;have hpf:=hfit p (lMg hp);simp only[go_sem,zE,zA,f6,f25,f26,f27,lt_i hlt,yQ3 htt,iNn,yGn hp,fits];refine yZx _ _ _ (ISt.put_same ..) (List.all_eq_true.2 hpf) ⟨by show _*8<=_;omega,by omega⟩ ⟨hc1,by simp only[Nat.mul_one];exact hc2⟩ ((uGm hpf).trans (Nat.mul_one _).symm) ?_;intro g' cap' cs' hg' k1 k2 k3;simp only[Nat.mul_one] at k2 k3;simp only[go_sem,zE,f25,f26,f27,yQc hlt (show l.length<=281474976710656 by omega)];have hst':((st1.put g (some (.box cs))).put g none).put g' (some (.box cs'))=st1.put g' (some (.box cs')):=by
     funext c;simp only[ISt.put_apply];split
     ·rfl
     ·split
      ·subst_vars;exact hg.symm
      ·rfl
    have hg1:st1 g'=none:=by
     rcases hg' with rfl|h
     ·exact hg
     ·rw[ISt.put_apply] at h;split at h
      ·cases h
      ·exact h
    refine⟨g',cap',cs',hg1,?_,k2,?_,?_,hst'⟩
    ·rw[yX6 hp,lLa];exact k1
    ·rw[yX6 hp,lLa,List.flatMap_append,<- hc3];exact k3
    ·rw[yX6 hp,lLa]
   ·rintro fr st' _ ⟨⟨g,cap,cs,hg,hc1,hc2,hc3,f6,rfl⟩,f25,f26,f27,rfl⟩;rw[lTl] at *;simp only[go_sem,zE,f6,f26,f27,yQl (nLi _)];exact yQ0 (.inr ⟨g,cap,cs,hg,hc1,hc2,hc3,rfl,rfl⟩)
