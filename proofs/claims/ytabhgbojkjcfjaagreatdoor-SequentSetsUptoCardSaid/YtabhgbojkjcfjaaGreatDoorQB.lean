/- Walks: sequents of a calculus; free vari -/
import Derived.Test.YtabhgbojkjcfjaaGreatDoorQA
import Derived.Test.YtabhgbojkjcfjaaGreatDoorKD
set_option linter.all false
open Nat renaming reduceEqDiff → zE,reduceBEq → zB,reduceAdd → zA,reduceMul → zM,reduceLeDiff → zL
namespace Go.Proofs.Tryz
open Go Go.Iv
set_option maxRecDepth 4000
variable (gl:Nat->Option IV)
noncomputable def rB (ca:Nat)(a0 f:Fm):Bool:=fmB ca f&&(decide (ca≠2) || eqF f a0)
theorem wVu (ca:Nat)(a0:Fm):∀l:List Fm,l.all (rB ca a0)=(l.all (fmB ca)&&(decide (ca≠2) || l.all λf=>eqF f a0))
 | []=>by simp
 | f::l=>by
  simp only[List.all_cons,wVu ca a0 l,rB];cases fmB ca f<;>cases l.all (fmB ca)<;>cases decide (ca≠2)<;>simp
theorem xGj (ca:Nat)(s:Sq):yXr ca s=(yJm ca&&decide (s.l.length<=64)&&decide (s.r.length<=64)&&s.l.all (fmB ca)&&s.r.all (rB ca (s.r.headD fm0))):=by
 rw[wVu];unfold yXr zZa;cases s.r with
 | nil=>simp
 | cons a l=>simp only[List.headD_cons,Bool.and_assoc]
theorem wXc (G:Gl gl)(ca:Nat)(s:Sq)(x:IV)(hx:IsSq s x)(hs:yKt s)(st:ISt):ICall prog gl 48 [.raw (.int .u8 ca),x] st (λr st'=>r=.raw (.bool (yXr ca s))/\st'=st):=by
 obtain⟨l,r⟩:=s;obtain⟨t1,x1,t2,x2,rfl,e1,i1,e2,i2⟩:=hx;obtain⟨hl,hr⟩:=hs;simp only at i1 i2 hl hr;rw[xGj];simp only;refine iI func48 ?_;simp only[go_sem,zA,reduceCtorEq];refine (xJ4 gl ca _).mono ?_;rintro _ st ⟨rfl,rfl⟩;cases hk:yJm ca
 ·simp only[go_sem,zE];exact yQ0 ⟨by simp,rfl⟩
 by_cases h1:l.length<=64
 case neg =>
  have e:decide ((64:Int)<(l.length:Int))=true:=dEt (by omega);simp only[go_sem,zE,i1.len,e];intro _;exact yQ0 ⟨by simp[h1],rfl⟩
 by_cases h2:r.length<=64
 case neg =>
  have e:decide ((64:Int)<(l.length:Int))=false:=dEf (by omega);have e':decide ((64:Int)<(r.length:Int))=true:=dEt (by omega);simp only[go_sem,zE,i1.len,i2.len,e,e'];intro _ _;exact yQ0 ⟨by simp[h2],rfl⟩
 have e:decide ((64:Int)<(l.length:Int))=false:=dEf (by omega);have e':decide ((64:Int)<(r.length:Int))=false:=dEf (by omega);simp only[go_sem,zE,i1.len,i2.len,e,e'];intros;refine LoopC.ctr l.length (λk fr st' ds=>(l.take k).all (fmB ca)=true/\fr 0=.iv (.raw (.int .u8 ca))/\fr 3=.box [.sl t1 x1,.sl t2 x2]/\fr 25=.iv (.sl t1 x1)/\fr 26=.iv (.raw (.int .i64 l.length))/\fr 27=.iv (.raw (.int .i64 k))/\st'=st/\ds=[]) ?_ ?_ ?_
 ·simp only[go_sem,zE,reduceCtorEq]
  first|rfl|exact⟨rfl,rfl⟩
 ·rintro k fr st1 _ hlt ⟨hn,f0,f3,f25,f26,f27,rfl,rfl⟩;obtain⟨a,ha⟩:=yQ2 hlt;obtain⟨y,hky,hy⟩:=i1.get ha;have hcall:=zK9 gl G ca a y hy (hl a (lMg ha)) st1;obtain⟨o5,n5,t5,x5,t6,x6,rfl⟩:=hy.agg;simp only[go_sem,zE,zB,zA,zL,reduceCtorEq,f0,f25,f26,f27,lt_i hlt,yQ1 e1,iNn,hky,fits];refine hcall.mono ?_;rintro _ _ ⟨rfl,rfl⟩;cases hr:fmB ca a
  ·simp only[go_sem];refine yQ0 ⟨?_,rfl⟩;have:l.all (fmB ca)=false:=List.all_eq_false.2 ⟨a,lMg ha,by simp[hr]⟩;simp[this]
  ·simp only[go_sem,zE,reduceCtorEq,f0,f3,f25,f26,f27,yQa hlt (show l.length<=281474976710656 by omega)];rw[yQ5 ha,List.all_append,hn];simp[hr]
 ·rintro fr st1 _ ⟨hn,f0,f3,f25,f26,f27,rfl,rfl⟩;rw[lTl] at hn;simp only[go_sem,zE,f3,f26,f27,i2.len,yQk (nLi _)];intro _;refine LoopC.ctr r.length (λk fr st' ds=>(r.take k).all (rB ca (r.headD fm0))=true/\fr 0=.iv (.raw (.int .u8 ca))/\fr 3=.box [.sl t1 x1,.sl t2 x2]/\fr 37=.iv (.sl t2 x2)/\fr 38=.iv (.raw (.int .i64 r.length))/\fr 39=.iv (.raw (.int .i64 k))/\st'=st1/\ds=[]) ?_ ?_ ?_
  ·simp only[go_sem,zE,reduceCtorEq,f0,f3]
   first|rfl|exact⟨rfl,rfl⟩
  ·rintro k fr st2 _ hlt ⟨hm,f0,f3,f37,f38,f39,rfl,rfl⟩;obtain⟨a,ha⟩:=yQ2 hlt;obtain⟨y,hky,hy⟩:=i2.get ha;obtain⟨a0,ha0⟩:=yQ2 (show 0<r.length by omega);obtain⟨y0,hky0,hy0⟩:=i2.get ha0;have hd0:r.headD fm0=a0:=by cases r with|nil=>cases ha0|cons b r=>simpa using ha0
   have hcall:=zK9 gl G ca a y hy (hr a (lMg ha)) st2;have heq:=λst=>wZi gl G a a0 y y0 hy hy0 (hr a (lMg ha)) (hr a0 (lMg ha0)) st;rw[hd0] at hm ⊢;have hout:rB ca a0 a=false->r.all (rB ca a0)=false:=λhb=>List.all_eq_false.2 ⟨a,lMg ha,by simp[hb]⟩;have hin:rB ca a0 a=true->(r.take (k+1)).all (rB ca a0)=true:=λhb=>by
    rw[yQ5 ha,List.all_append,hm];simp[hb]
   obtain⟨o5,n5,t5,x5,t6,x6,rfl⟩:=hy.agg;obtain⟨o7,n7,t7,x7,t8,x8,rfl⟩:=hy0.agg;simp only[go_sem,zE,zB,zA,zL,reduceCtorEq,f0,f37,f38,f39,lt_i hlt,yQ1 e2,iNn,hky,fits];refine hcall.mono ?_;rintro _ _ ⟨rfl,rfl⟩;cases hr:fmB ca a
   ·simp only[go_sem,zE];exact yQ0 ⟨by rw[hout (by simp[rB,hr])];simp,rfl⟩
   by_cases hj:ca=2
   ·have ej:decide ((ca:Int)=2)=true:=dEt (by omega);simp only[go_sem,zE,zB,zA,zL,reduceCtorEq,ej,f0,f3,yQ1 e2,hky0,fits,Int.le_refl,Int.toNat_zero];refine (heq _).mono ?_;rintro _ _ ⟨rfl,rfl⟩;cases hq:eqF a a0
    ·simp only[go_sem,zE];exact yQ0 ⟨by rw[hout (by simp[rB,hj,hq])];simp,rfl⟩
    ·simp only[go_sem,zE,reduceCtorEq,f0,f3,f37,f38,f39,yQa hlt (show r.length<=281474976710656 by omega)];exact hin (by simp[rB,hr,hq])
   ·have ej:decide ((ca:Int)=2)=false:=dEf (by omega);simp only[go_sem,zE,reduceCtorEq,ej,f0,f3,f37,f38,f39,yQa hlt (show r.length<=281474976710656 by omega)];exact hin (by simp[rB,hr,hj])
  ·rintro fr st2 _ ⟨hm,f0,f3,f37,f38,f39,rfl,rfl⟩;rw[lTl] at hm;simp only[go_sem,f38,f39,yQk (nLi _)];exact yQ0 ⟨by rw[hn,hm];simp[h1,h2],rfl⟩
theorem xGa (tg:Tag)(htg:okEs tg 1)(l:List ByteArray)(s:ByteArray)(st:ISt):ICall prog gl 175 [.sl tg (strI l),.raw (.string s)] st (λr st'=>r=.raw (.bool (memB l s))/\st'=st):=by
 have hidx:ICall prog gl 233 [.sl tg (strI l),.raw (.string s)] st (λr st'=>(∃n:Int,r=.raw (.int .i64 n)/\decide (0<=n)=memB l s)/\st'=st):=by
  refine iI func233 ?_;simp only[go_sem,reduceCtorEq,yQj];intro _;refine LoopC.ctr l.length (λk fr st' ds=>memB (l.take k) s=false/\fr 0=.iv (.sl tg (strI l))/\fr 1=.iv (.raw (.string s))/\fr 7=.iv (.raw (.int .i64 l.length))/\fr 8=.iv (.raw (.int .i64 k))/\st'=st/\ds=[]) ?_ ?_ ?_
  ·simp only[go_sem,zE,reduceCtorEq];exact⟨rfl,rfl⟩
  ·rintro k fr st1 _ hlt ⟨hn,f0,f1,f7,f8,rfl,rfl⟩;obtain⟨a,ha⟩:=yQ2 hlt;by_cases hr:s=a
   ·subst hr;simp only[go_sem,zE,reduceCtorEq,f0,f1,f7,f8,lt_i hlt,yQ1 htg,iNn,yJ6 ha,fits,decide_true];refine yQ0 ⟨⟨_,rfl,?_⟩,rfl⟩;rw[dEt (iNn k)];exact (yJh.2 (lMg ha)).symm
   ·simp only[go_sem,zE,reduceCtorEq,f0,f1,f7,f8,lt_i hlt,yQ1 htg,iNn,yJ6 ha,fits,dEf hr,yQa hlt (show l.length<=281474976710656 by omega)];rw[zXh] at hn ⊢;rw[yQ5 ha,List.mem_append,List.mem_singleton];rintro (h|h)
    ·exact hn h
    ·exact hr h
  ·rintro fr st1 _ ⟨hn,f0,f1,f7,f8,rfl,rfl⟩;rw[lTl] at hn;simp only[go_sem,f7,f8,yQk (nLi _)];exact yQ0 ⟨⟨_,rfl,by rw[hn];rfl⟩,rfl⟩
 refine iI func175 ?_;simp only[go_sem,zE,zA,reduceCtorEq];refine hidx.mono ?_;rintro _ _ ⟨⟨n,rfl,hn⟩,rfl⟩;simp only[go_sem,hn];exact yQ0 ⟨rfl,rfl⟩
theorem wZ5 (T:Gt gl)(f:Fm)(y:IV)(hy:IsFm f y)(hs:f.size<=1000000)(hf:f.right=true)(s:ByteArray)(st:ISt) :
  ICall prog gl 174 [y,.cptr (.raw (.string s))] st (λr st'=>r=.raw (.bool (memB (frF f) s))/\st'=st):=by
 have h1:=λst=>vK1 gl T f y hy (by omega) (λq hq=>by have:=wYz (wWd f (yJr hf).1 q hq);omega) st;obtain⟨o5,n5,t5,x5,t6,x6,rfl⟩:=hy.agg;refine ICall.intro (c:=cf prog gl [] [(1,[0,2,1,3,4])]) func174 rfl (by show _<=8;simp) (by kernel_rfl) ?_;simp only[go_sem,zE,zA,zL,fits];refine (h1 _).mono ?_;rintro _ _ ⟨tg,l,rfl,htg,hl,rfl⟩;simp only[go_sem,zE,zA];refine (xGa gl tg htg l s _).mono ?_;rintro _ _ ⟨rfl,rfl⟩;simp only[go_sem];refine yQ0 ⟨?_,rfl⟩;have:memB l s=memB (frF f) s:=by
  rw[Bool.eq_iff_iff,yJh,yJh];exact hl.2 s
 rw[this]
theorem vXd (T:Gt gl)(s:Sq)(x:IV)(hx:IsSq s x)(hs:yKt s)(hr:(∀f∈s.l,f.right=true)/\∀f∈s.r,f.right=true)(n:ByteArray)(st:ISt) :
  ICall prog gl 131 [x,.raw (.string n)] st (λr st'=>r=.raw (.bool (yY7 s n))/\st'=st):=by
 obtain⟨t1,x1,t2,x2,rfl,e1,i1,e2,i2⟩:=hx;have h1:=λst=>yW8 gl 174 [.cptr (.raw (.string n))] (by simp only[go_sem]) s.l (λf=>memB (frF f) n) (λa ha y hy st=>wZ5 gl T a y hy (hs.1 a ha) (hr.1 a ha) n st) t1 x1 e1 i1 st;have h2:=λst=>yW8 gl 174 [.cptr (.raw (.string n))] (by simp only[go_sem]) s.r (λf=>memB (frF f) n) (λa ha y hy st=>wZ5 gl T a y hy (hs.2 a ha) (hr.2 a ha) n st) t2 x2 e2 i2 st;refine ICall.intro (c:=cf prog gl [] [] [3]) func131 rfl (by show _<=17;simp) (by kernel_rfl) ?_;simp only[go_sem,zE,zA];refine (h1 _).mono ?_;rintro _ _ ⟨rfl,rfl⟩;cases hq:s.l.any λf=>memB (frF f) n
 ·simp only[go_sem,zE,zA];refine (h2 _).mono ?_;rintro _ _ ⟨rfl,rfl⟩;simp only[go_sem,zE];exact yQ0 ⟨by simp[yY7,hq],rfl⟩
 ·simp only[go_sem,zE];exact yQ0 ⟨by simp[yY7,hq],rfl⟩
theorem yZu (f:Fm)(l:Sb):(yZz f l).1.size<=400:=by
 unfold yZz;split
 ·split
  ·rename_i h;simp only[bAt,dTe] at h;exact h.1
  ·show fm0.size<=400;decide
 ·show fm0.size<=400;decide
theorem uXj:IsFm fm0 (.agg [.raw (.int .u8 0),.raw (.string ⟨#[]⟩),.sl ⟨true,.nil,0⟩ [],.sl ⟨true,.nil,0⟩ []]):=vXi _ _ (.inl rfl) (.inl rfl)
theorem xKg {sub:List Fm}{xs:List IV}(h:IsFms sub xs)(k:Nat):∃y,IsFm ((sub[k]?).getD fm0) y/\(sub.length<=k->y=.agg [.raw (.int .u8 0),.raw (.string ⟨#[]⟩),.sl ⟨true,.nil,0⟩ [],.sl ⟨true,.nil,0⟩ []])/\(k<sub.length->xs[k]?=some y):=by
 by_cases hk:k<sub.length
 ·obtain⟨a,ha⟩:=yQ2 hk;obtain⟨y,hy,hf⟩:=h.get ha;exact⟨y,by rw[ha];exact hf,λhc=>by omega,λ_=>hy⟩
 ·exact⟨_,by rw[List.getElem?_eq_none (by omega)];exact uXj,λ_=>rfl,λhc=>absurd hc hk⟩
def AdR (st:ISt)(q:List Sq×Nat)(r:IV)(st':ISt):Prop:=∃tg xs,r=.tup [.sl tg xs,.raw (.int .i64 q.2)]/\okEs tg 2/\IsSqs q.1 xs/\st'=st
def AdRD (st:ISt)(q:List Sq×Nat)(r:IV)(st':ISt):Prop:=∃tg xs,r=.tup [.sl tg xs,.raw (.int .i64 q.2)]/\okEs tg 2/\appT q.1.length tg/\IsSqsD q.1 xs/\st'=st
theorem AdRD.w {st:ISt}{q:List Sq×Nat}(r:IV)(st':ISt):AdRD st q r st'->AdR st q r st':=λ⟨tg,xs,h1,h2,_,h4,h5⟩=>⟨tg,xs,h1,h2,h4.w,h5⟩
theorem yQt {o:Nat}{n:ByteArray}{us:List Tm}{sub:List Fm}(h:(Fm.mk o n us sub).size<=1000000)(k:Nat):((sub[k]?).getD fm0).size<=1000000:=by
 cases ha:sub[k]? with
 | none=>show fm0.size<=1000000;decide
 | some a =>
  have:=(yQr ha).2;simp only[Fm.size] at h;show a.size<=1000000;omega
theorem yQo {ca rule:Nat}{r:Rw}{main:Fm}{term:Tm}{name:ByteArray}(h:fmB ca main=true)(h':r.op=0\/main.op=r.op):yV1 ca rule r main term name =
  if r.asks=0 then (addS ca rule main ((main.subs[0]?).getD fm0) ((main.subs[1]?).getD fm0),0)
  else if !(if r.asks=2 then Tm.mk true name [] else term).ok then ([],193)
  else if (yZz ((main.subs[0]?).getD fm0) [(main.nm,if r.asks=2 then Tm.mk true name [] else term)]).2≠0 then ([],193)
  else (addS ca rule main (yZz ((main.subs[0]?).getD fm0) [(main.nm,if r.asks=2 then Tm.mk true name [] else term)]).1 ((main.subs[1]?).getD fm0),0):=by
 have e:(!fmB ca main || (decide (r.op≠0)&&decide (main.op≠r.op)))=false:=by
  rw[h];rcases h' with h'|h'<;>simp[h']
 simp only[yV1,e,bFt,if_false]
set_option maxHeartbeats 2000000 in
theorem vJr (G:Gl gl)(T:Gt gl)(ca rule:Nat)(r:Rw)(hr:rowS ca rule=some r)(main:Fm)(y:IV)(hy:IsFm main y)(hm:main.size<=1000000)(term:Tm)(z:IV)(hz:IsTm term z)(ht:term.size<=1000000)(name:ByteArray)(st:ISt) :
  ICall prog gl 107 [rwI ca rule r,.raw (.int .u8 ca),y,z,.raw (.string name)] st (AdRD st (yV1 ca rule r main term name)):=by
 obtain⟨hadd,hent⟩:=wV1 gl hr;have hf:=λst=>zK9 gl G ca main y hy hm st;obtain⟨rl,rr,op,asks⟩:=r;obtain⟨o,n,us,sub⟩:=main;have hy0:=hy;obtain⟨t1,x1,t2,x2,rfl,ho,e1,i1,e2,i2⟩:=hy.mk;obtain⟨v,un,tz,xz,rfl⟩:∃v un tz xz,z=.agg [.raw (.bool v),.raw (.string un),.sl tz xz]:=by
  obtain⟨v,un,us⟩:=term;obtain⟨tz,xz,rfl,_⟩:=hz.mk;exact⟨_,_,_,_,rfl⟩
 obtain⟨z1,hz1,hz1n,hz1s⟩:=xKg i2 0;obtain⟨z2,hz2,hz2n,hz2s⟩:=xKg i2 1;have hE:fmB ca (.mk o n us sub)=false->yV1 ca rule ⟨rl,rr,op,asks⟩ (.mk o n us sub) term name=([],192):=λh=>by simp only[yV1,h];rfl
 refine iI func107 ?_;simp only[go_sem,zE,zA,zL,rwI];refine (hf _).mono ?_;rintro _ _ ⟨rfl,rfl⟩;cases hfm:fmB ca (.mk o n us sub)
 ·simp only[go_sem,zE];exact yQ0 (by rw[hE hfm];exact⟨_,_,rfl,.inl rfl,.inl rfl,rfl,rfl⟩)
 by_cases hop:op=0\/o=op
 case neg =>
  have hq:yV1 ca rule ⟨rl,rr,op,asks⟩ (.mk o n us sub) term name=([],192):=by
   have e:(!fmB ca (.mk o n us sub) || (decide (op≠0)&&decide ((Fm.mk o n us sub).op≠op)))=true:=by
    simp only[Fm.op,hfm];simp only[not_or] at hop;simp[hop]
   simp only[yV1,e,if_true]
  simp only[not_or] at hop;have d1:decide ((op:Int)=0)=false:=dEf (by omega);have d2:decide ((o:Int)=(op:Int))=false:=dEf (by omega);simp only[go_sem,zE,zA,d1,d2];exact yQ0 (by rw[hq];exact⟨_,_,rfl,.inl rfl,.inl rfl,rfl,rfl⟩)
 obtain⟨dop,hdop⟩:∃b,decide ((op:Int)=0)=b:=⟨_,rfl⟩
 have hdo:dop=false->decide ((o:Int)=(op:Int))=true:=λh=>by
  subst hdop;have:=of_decide_eq_false h;exact dEt (by omega)
 have hop0:=hop;replace hop:(⟨rl,rr,op,asks⟩:Rw).op=0\/(Fm.mk o n us sub).op=(⟨rl,rr,op,asks⟩:Rw).op:=hop0;by_cases hl0:0<sub.length
 ·have l0:decide ((0:Int)<(sub.length:Int))=true:=dEt (by omega);have g0:=hz1s hl0;obtain⟨o3,n3,t3,x3,t4,x4,rfl⟩:=hz1.agg;by_cases hl1:1<sub.length
  ·have l1:decide ((1:Int)<(sub.length:Int))=true:=dEt (by omega);have g1:=hz2s hl1;obtain⟨o5,n5,t5,x5,t6,x6,rfl⟩:=hz2.agg;cases dop
   ·have hd2:=hdo rfl;by_cases ha0:asks=0
    ·have d0:decide ((asks:Int)=0)=true:=dEt (by omega);have hq:=yQo (rule:=rule) (r:=⟨rl,rr,op,asks⟩) (term:=term) (name:=name) hfm hop;simp only[if_pos ha0,Fm.subs] at hq;simp only[go_sem,zE,zB,zA,zL,hdop,hd2,l0,l1,i2.len,g0,g1,yQ1 e2,Int.le_refl,Int.toNat_zero,(show (0:Int)<=1 by decide),(show Int.toNat 1=1 from rfl),d0,fits,hent];intros;refine (hadd _ _ _ _ _ _ hy0 hz1 hz2 hm (yQt hm 0) (yQt hm 1) _).mono ?_;rintro _ _ ⟨tg,xs,rfl,he,hap,hxs,rfl⟩;simp only[go_sem,zE];exact yQ0 (by rw[hq];exact⟨_,_,rfl,he,hap,hxs,rfl⟩)
    ·have d0:decide ((asks:Int)=0)=false:=dEf (by omega);by_cases ha2:asks=2
     ·have d2:decide ((asks:Int)=2)=true:=dEt (by omega);simp only[go_sem,zE,zB,zA,zL,hdop,hd2,l0,l1,i2.len,g0,g1,yQ1 e2,Int.le_refl,Int.toNat_zero,(show (0:Int)<=1 by decide),(show Int.toNat 1=1 from rfl),d0,d2,fits];intros;refine (yWm gl (Tm.mk true name []) _ (show IsTm (Tm.mk true name []) _ from⟨_,_,rfl,.inl rfl,rfl⟩) (by show 1<=_;decide) _).mono ?_;rintro _ _ ⟨rfl,rfl⟩;cases hk:Tm.ok (Tm.mk true name [])
      ·simp only[go_sem,zE];have hq:=yQo (rule:=rule) (r:=⟨rl,rr,op,asks⟩) (term:=term) (name:=name) hfm hop;simp only[if_neg ha0,if_pos ha2,hk,Bool.not_false,if_true] at hq;exact yQ0 (by rw[hq];exact⟨_,_,rfl,.inl rfl,.inl rfl,rfl,rfl⟩)
      simp only[go_sem,zE,zA,zL];refine (zXe gl G T _ _ hz1 (yQt hm 0) n (Tm.mk true name []) _ (show IsTm (Tm.mk true name []) _ from⟨_,_,rfl,.inl rfl,rfl⟩) (by show 1<=_;decide) _).mono ?_;rintro _ _ ⟨y3,rfl,hy3,rfl⟩;have hy4:=hy3;obtain⟨o8,n8,t8,x8,t9,x9,rfl⟩:=hy3.agg;by_cases he:(yZz ((sub[0]?).getD fm0) [(n,(Tm.mk true name []))]).2=0
      ·have hq:=yQo (rule:=rule) (r:=⟨rl,rr,op,asks⟩) (term:=term) (name:=name) hfm hop;simp only[if_neg ha0,if_pos ha2,hk,Bool.not_true,bFt,if_false,Fm.subs,Fm.nm,he,ne_eq,nTf] at hq;simp only[go_sem,zE,zA,zL,he,hent,show decide (((0:Nat):Int)=0)=true from rfl];refine (hadd _ _ _ _ _ _ hy0 hy4 hz2 hm (Nat.le_trans (yZu _ _) (by decide)) (yQt hm 1) _).mono ?_;rintro _ _ ⟨tg,xs,rfl,he,hap,hxs,rfl⟩;simp only[go_sem,zE];exact yQ0 (by rw[hq];exact⟨_,_,rfl,he,hap,hxs,rfl⟩)
      ·have hq:=yQo (rule:=rule) (r:=⟨rl,rr,op,asks⟩) (term:=term) (name:=name) hfm hop;simp only[if_neg ha0,if_pos ha2,hk,Bool.not_true,bFt,if_false,Fm.subs,Fm.nm,ne_eq,he,nFt,if_true] at hq;have hd:decide (((yZz ((sub[0]?).getD fm0) [(n,(Tm.mk true name []))]).2:Int)=0)=false:=dEf (by omega);simp only[go_sem,zE,zA,zL,hd];exact yQ0 (by rw[hq];exact⟨_,_,rfl,.inl rfl,.inl rfl,rfl,rfl⟩)
     ·have d2:decide ((asks:Int)=2)=false:=dEf (by omega);simp only[go_sem,zE,zB,zA,zL,hdop,hd2,l0,l1,i2.len,g0,g1,yQ1 e2,Int.le_refl,Int.toNat_zero,(show (0:Int)<=1 by decide),(show Int.toNat 1=1 from rfl),d0,d2,fits];intros;refine (yWm gl term _ hz ht _).mono ?_;rintro _ _ ⟨rfl,rfl⟩;cases hk:Tm.ok term
      ·simp only[go_sem,zE];have hq:=yQo (rule:=rule) (r:=⟨rl,rr,op,asks⟩) (term:=term) (name:=name) hfm hop;simp only[if_neg ha0,if_neg ha2,hk,Bool.not_false,if_true] at hq;exact yQ0 (by rw[hq];exact⟨_,_,rfl,.inl rfl,.inl rfl,rfl,rfl⟩)
      simp only[go_sem,zE,zA,zL];refine (zXe gl G T _ _ hz1 (yQt hm 0) n term _ hz ht _).mono ?_;rintro _ _ ⟨y3,rfl,hy3,rfl⟩;have hy4:=hy3;obtain⟨o8,n8,t8,x8,t9,x9,rfl⟩:=hy3.agg;by_cases he:(yZz ((sub[0]?).getD fm0) [(n,term)]).2=0
      ·have hq:=yQo (rule:=rule) (r:=⟨rl,rr,op,asks⟩) (term:=term) (name:=name) hfm hop;simp only[if_neg ha0,if_neg ha2,hk,Bool.not_true,bFt,if_false,Fm.subs,Fm.nm,he,ne_eq,nTf] at hq;simp only[go_sem,zE,zA,zL,he,hent,show decide (((0:Nat):Int)=0)=true from rfl];refine (hadd _ _ _ _ _ _ hy0 hy4 hz2 hm (Nat.le_trans (yZu _ _) (by decide)) (yQt hm 1) _).mono ?_;rintro _ _ ⟨tg,xs,rfl,he,hap,hxs,rfl⟩;simp only[go_sem,zE];exact yQ0 (by rw[hq];exact⟨_,_,rfl,he,hap,hxs,rfl⟩)
      ·have hq:=yQo (rule:=rule) (r:=⟨rl,rr,op,asks⟩) (term:=term) (name:=name) hfm hop;simp only[if_neg ha0,if_neg ha2,hk,Bool.not_true,bFt,if_false,Fm.subs,Fm.nm,ne_eq,he,nFt,if_true] at hq;have hd:decide (((yZz ((sub[0]?).getD fm0) [(n,term)]).2:Int)=0)=false:=dEf (by omega);simp only[go_sem,zE,zA,zL,hd];exact yQ0 (by rw[hq];exact⟨_,_,rfl,.inl rfl,.inl rfl,rfl,rfl⟩)
   ·by_cases ha0:asks=0
    ·have d0:decide ((asks:Int)=0)=true:=dEt (by omega);have hq:=yQo (rule:=rule) (r:=⟨rl,rr,op,asks⟩) (term:=term) (name:=name) hfm hop;simp only[if_pos ha0,Fm.subs] at hq;simp only[go_sem,zE,zB,zA,zL,hdop,l0,l1,i2.len,g0,g1,yQ1 e2,Int.le_refl,Int.toNat_zero,(show (0:Int)<=1 by decide),(show Int.toNat 1=1 from rfl),d0,fits,hent];intros;refine (hadd _ _ _ _ _ _ hy0 hz1 hz2 hm (yQt hm 0) (yQt hm 1) _).mono ?_;rintro _ _ ⟨tg,xs,rfl,he,hap,hxs,rfl⟩;simp only[go_sem,zE];exact yQ0 (by rw[hq];exact⟨_,_,rfl,he,hap,hxs,rfl⟩)
    ·have d0:decide ((asks:Int)=0)=false:=dEf (by omega);by_cases ha2:asks=2
     ·have d2:decide ((asks:Int)=2)=true:=dEt (by omega);simp only[go_sem,zE,zB,zA,zL,hdop,l0,l1,i2.len,g0,g1,yQ1 e2,Int.le_refl,Int.toNat_zero,(show (0:Int)<=1 by decide),(show Int.toNat 1=1 from rfl),d0,d2,fits];intros;refine (yWm gl (Tm.mk true name []) _ (show IsTm (Tm.mk true name []) _ from⟨_,_,rfl,.inl rfl,rfl⟩) (by show 1<=_;decide) _).mono ?_;rintro _ _ ⟨rfl,rfl⟩;cases hk:Tm.ok (Tm.mk true name [])
      ·simp only[go_sem,zE];have hq:=yQo (rule:=rule) (r:=⟨rl,rr,op,asks⟩) (term:=term) (name:=name) hfm hop;simp only[if_neg ha0,if_pos ha2,hk,Bool.not_false,if_true] at hq;exact yQ0 (by rw[hq];exact⟨_,_,rfl,.inl rfl,.inl rfl,rfl,rfl⟩)
      simp only[go_sem,zE,zA,zL];refine (zXe gl G T _ _ hz1 (yQt hm 0) n (Tm.mk true name []) _ (show IsTm (Tm.mk true name []) _ from⟨_,_,rfl,.inl rfl,rfl⟩) (by show 1<=_;decide) _).mono ?_;rintro _ _ ⟨y3,rfl,hy3,rfl⟩;have hy4:=hy3;obtain⟨o8,n8,t8,x8,t9,x9,rfl⟩:=hy3.agg;by_cases he:(yZz ((sub[0]?).getD fm0) [(n,(Tm.mk true name []))]).2=0
      ·have hq:=yQo (rule:=rule) (r:=⟨rl,rr,op,asks⟩) (term:=term) (name:=name) hfm hop;simp only[if_neg ha0,if_pos ha2,hk,Bool.not_true,bFt,if_false,Fm.subs,Fm.nm,he,ne_eq,nTf] at hq;simp only[go_sem,zE,zA,zL,he,hent,show decide (((0:Nat):Int)=0)=true from rfl];refine (hadd _ _ _ _ _ _ hy0 hy4 hz2 hm (Nat.le_trans (yZu _ _) (by decide)) (yQt hm 1) _).mono ?_;rintro _ _ ⟨tg,xs,rfl,he,hap,hxs,rfl⟩;simp only[go_sem,zE];exact yQ0 (by rw[hq];exact⟨_,_,rfl,he,hap,hxs,rfl⟩)
      ·have hq:=yQo (rule:=rule) (r:=⟨rl,rr,op,asks⟩) (term:=term) (name:=name) hfm hop;simp only[if_neg ha0,if_pos ha2,hk,Bool.not_true,bFt,if_false,Fm.subs,Fm.nm,ne_eq,he,nFt,if_true] at hq;have hd:decide (((yZz ((sub[0]?).getD fm0) [(n,(Tm.mk true name []))]).2:Int)=0)=false:=dEf (by omega);simp only[go_sem,zE,zA,zL,hd];exact yQ0 (by rw[hq];exact⟨_,_,rfl,.inl rfl,.inl rfl,rfl,rfl⟩)
     ·have d2:decide ((asks:Int)=2)=false:=dEf (by omega);simp only[go_sem,zE,zB,zA,zL,hdop,l0,l1,i2.len,g0,g1,yQ1 e2,Int.le_refl,Int.toNat_zero,(show (0:Int)<=1 by decide),(show Int.toNat 1=1 from rfl),d0,d2,fits];intros;refine (yWm gl term _ hz ht _).mono ?_;rintro _ _ ⟨rfl,rfl⟩;cases hk:Tm.ok term
      ·simp only[go_sem,zE];have hq:=yQo (rule:=rule) (r:=⟨rl,rr,op,asks⟩) (term:=term) (name:=name) hfm hop;simp only[if_neg ha0,if_neg ha2,hk,Bool.not_false,if_true] at hq;exact yQ0 (by rw[hq];exact⟨_,_,rfl,.inl rfl,.inl rfl,rfl,rfl⟩)
      simp only[go_sem,zE,zA,zL];refine (zXe gl G T _ _ hz1 (yQt hm 0) n term _ hz ht _).mono ?_;rintro _ _ ⟨y3,rfl,hy3,rfl⟩;have hy4:=hy3;obtain⟨o8,n8,t8,x8,t9,x9,rfl⟩:=hy3.agg;by_cases he:(yZz ((sub[0]?).getD fm0) [(n,term)]).2=0
      ·have hq:=yQo (rule:=rule) (r:=⟨rl,rr,op,asks⟩) (term:=term) (name:=name) hfm hop;simp only[if_neg ha0,if_neg ha2,hk,Bool.not_true,bFt,if_false,Fm.subs,Fm.nm,he,ne_eq,nTf] at hq;simp only[go_sem,zE,zA,zL,he,hent,show decide (((0:Nat):Int)=0)=true from rfl];refine (hadd _ _ _ _ _ _ hy0 hy4 hz2 hm (Nat.le_trans (yZu _ _) (by decide)) (yQt hm 1) _).mono ?_;rintro _ _ ⟨tg,xs,rfl,he,hap,hxs,rfl⟩;simp only[go_sem,zE];exact yQ0 (by rw[hq];exact⟨_,_,rfl,he,hap,hxs,rfl⟩)
      ·have hq:=yQo (rule:=rule) (r:=⟨rl,rr,op,asks⟩) (term:=term) (name:=name) hfm hop;simp only[if_neg ha0,if_neg ha2,hk,Bool.not_true,bFt,if_false,Fm.subs,Fm.nm,ne_eq,he,nFt,if_true] at hq;have hd:decide (((yZz ((sub[0]?).getD fm0) [(n,term)]).2:Int)=0)=false:=dEf (by omega);simp only[go_sem,zE,zA,zL,hd];exact yQ0 (by rw[hq];exact⟨_,_,rfl,.inl rfl,.inl rfl,rfl,rfl⟩)
  ·have l1:decide ((1:Int)<(sub.length:Int))=false:=dEf (by omega);obtain rfl:=hz2n (by omega);cases dop
   ·have hd2:=hdo rfl;by_cases ha0:asks=0
    ·have d0:decide ((asks:Int)=0)=true:=dEt (by omega);have hq:=yQo (rule:=rule) (r:=⟨rl,rr,op,asks⟩) (term:=term) (name:=name) hfm hop;simp only[if_pos ha0,Fm.subs] at hq;simp only[go_sem,zE,zB,zA,zL,hdop,hd2,l0,l1,i2.len,g0,yQ1 e2,Int.le_refl,Int.toNat_zero,d0,fits,hent];intros;refine (hadd _ _ _ _ _ _ hy0 hz1 hz2 hm (yQt hm 0) (yQt hm 1) _).mono ?_;rintro _ _ ⟨tg,xs,rfl,he,hap,hxs,rfl⟩;simp only[go_sem,zE];exact yQ0 (by rw[hq];exact⟨_,_,rfl,he,hap,hxs,rfl⟩)
    ·have d0:decide ((asks:Int)=0)=false:=dEf (by omega);by_cases ha2:asks=2
     ·have d2:decide ((asks:Int)=2)=true:=dEt (by omega);simp only[go_sem,zE,zB,zA,zL,hdop,hd2,l0,l1,i2.len,g0,yQ1 e2,Int.le_refl,Int.toNat_zero,d0,d2,fits];intros;refine (yWm gl (Tm.mk true name []) _ (show IsTm (Tm.mk true name []) _ from⟨_,_,rfl,.inl rfl,rfl⟩) (by show 1<=_;decide) _).mono ?_;rintro _ _ ⟨rfl,rfl⟩;cases hk:Tm.ok (Tm.mk true name [])
      ·simp only[go_sem,zE];have hq:=yQo (rule:=rule) (r:=⟨rl,rr,op,asks⟩) (term:=term) (name:=name) hfm hop;simp only[if_neg ha0,if_pos ha2,hk,Bool.not_false,if_true] at hq;exact yQ0 (by rw[hq];exact⟨_,_,rfl,.inl rfl,.inl rfl,rfl,rfl⟩)
      simp only[go_sem,zE,zA,zL];refine (zXe gl G T _ _ hz1 (yQt hm 0) n (Tm.mk true name []) _ (show IsTm (Tm.mk true name []) _ from⟨_,_,rfl,.inl rfl,rfl⟩) (by show 1<=_;decide) _).mono ?_;rintro _ _ ⟨y3,rfl,hy3,rfl⟩;have hy4:=hy3;obtain⟨o8,n8,t8,x8,t9,x9,rfl⟩:=hy3.agg;by_cases he:(yZz ((sub[0]?).getD fm0) [(n,(Tm.mk true name []))]).2=0
      ·have hq:=yQo (rule:=rule) (r:=⟨rl,rr,op,asks⟩) (term:=term) (name:=name) hfm hop;simp only[if_neg ha0,if_pos ha2,hk,Bool.not_true,bFt,if_false,Fm.subs,Fm.nm,he,ne_eq,nTf] at hq;simp only[go_sem,zE,zA,zL,he,hent,show decide (((0:Nat):Int)=0)=true from rfl];refine (hadd _ _ _ _ _ _ hy0 hy4 hz2 hm (Nat.le_trans (yZu _ _) (by decide)) (yQt hm 1) _).mono ?_;rintro _ _ ⟨tg,xs,rfl,he,hap,hxs,rfl⟩;simp only[go_sem,zE];exact yQ0 (by rw[hq];exact⟨_,_,rfl,he,hap,hxs,rfl⟩)
      ·have hq:=yQo (rule:=rule) (r:=⟨rl,rr,op,asks⟩) (term:=term) (name:=name) hfm hop;simp only[if_neg ha0,if_pos ha2,hk,Bool.not_true,bFt,if_false,Fm.subs,Fm.nm,ne_eq,he,nFt,if_true] at hq;have hd:decide (((yZz ((sub[0]?).getD fm0) [(n,(Tm.mk true name []))]).2:Int)=0)=false:=dEf (by omega);simp only[go_sem,zE,zA,zL,hd];exact yQ0 (by rw[hq];exact⟨_,_,rfl,.inl rfl,.inl rfl,rfl,rfl⟩)
     ·have d2:decide ((asks:Int)=2)=false:=dEf (by omega);simp only[go_sem,zE,zB,zA,zL,hdop,hd2,l0,l1,i2.len,g0,yQ1 e2,Int.le_refl,Int.toNat_zero,d0,d2,fits];intros;refine (yWm gl term _ hz ht _).mono ?_;rintro _ _ ⟨rfl,rfl⟩;cases hk:Tm.ok term
      ·simp only[go_sem,zE];have hq:=yQo (rule:=rule) (r:=⟨rl,rr,op,asks⟩) (term:=term) (name:=name) hfm hop;simp only[if_neg ha0,if_neg ha2,hk,Bool.not_false,if_true] at hq;exact yQ0 (by rw[hq];exact⟨_,_,rfl,.inl rfl,.inl rfl,rfl,rfl⟩)
      simp only[go_sem,zE,zA,zL];refine (zXe gl G T _ _ hz1 (yQt hm 0) n term _ hz ht _).mono ?_;rintro _ _ ⟨y3,rfl,hy3,rfl⟩;have hy4:=hy3;obtain⟨o8,n8,t8,x8,t9,x9,rfl⟩:=hy3.agg;by_cases he:(yZz ((sub[0]?).getD fm0) [(n,term)]).2=0
      ·have hq:=yQo (rule:=rule) (r:=⟨rl,rr,op,asks⟩) (term:=term) (name:=name) hfm hop;simp only[if_neg ha0,if_neg ha2,hk,Bool.not_true,bFt,if_false,Fm.subs,Fm.nm,he,ne_eq,nTf] at hq;simp only[go_sem,zE,zA,zL,he,hent,show decide (((0:Nat):Int)=0)=true from rfl];refine (hadd _ _ _ _ _ _ hy0 hy4 hz2 hm (Nat.le_trans (yZu _ _) (by decide)) (yQt hm 1) _).mono ?_;rintro _ _ ⟨tg,xs,rfl,he,hap,hxs,rfl⟩;simp only[go_sem,zE];exact yQ0 (by rw[hq];exact⟨_,_,rfl,he,hap,hxs,rfl⟩)
      ·have hq:=yQo (rule:=rule) (r:=⟨rl,rr,op,asks⟩) (term:=term) (name:=name) hfm hop;simp only[if_neg ha0,if_neg ha2,hk,Bool.not_true,bFt,if_false,Fm.subs,Fm.nm,ne_eq,he,nFt,if_true] at hq;have hd:decide (((yZz ((sub[0]?).getD fm0) [(n,term)]).2:Int)=0)=false:=dEf (by omega);simp only[go_sem,zE,zA,zL,hd];exact yQ0 (by rw[hq];exact⟨_,_,rfl,.inl rfl,.inl rfl,rfl,rfl⟩)
   ·by_cases ha0:asks=0
    ·have d0:decide ((asks:Int)=0)=true:=dEt (by omega);have hq:=yQo (rule:=rule) (r:=⟨rl,rr,op,asks⟩) (term:=term) (name:=name) hfm hop;simp only[if_pos ha0,Fm.subs] at hq;simp only[go_sem,zE,zB,zA,zL,hdop,l0,l1,i2.len,g0,yQ1 e2,Int.le_refl,Int.toNat_zero,d0,fits,hent];intros;refine (hadd _ _ _ _ _ _ hy0 hz1 hz2 hm (yQt hm 0) (yQt hm 1) _).mono ?_;rintro _ _ ⟨tg,xs,rfl,he,hap,hxs,rfl⟩;simp only[go_sem,zE];exact yQ0 (by rw[hq];exact⟨_,_,rfl,he,hap,hxs,rfl⟩)
    ·have d0:decide ((asks:Int)=0)=false:=dEf (by omega);by_cases ha2:asks=2
     ·have d2:decide ((asks:Int)=2)=true:=dEt (by omega);simp only[go_sem,zE,zB,zA,zL,hdop,l0,l1,i2.len,g0,yQ1 e2,Int.le_refl,Int.toNat_zero,d0,d2,fits];intros;refine (yWm gl (Tm.mk true name []) _ (show IsTm (Tm.mk true name []) _ from⟨_,_,rfl,.inl rfl,rfl⟩) (by show 1<=_;decide) _).mono ?_;rintro _ _ ⟨rfl,rfl⟩;cases hk:Tm.ok (Tm.mk true name [])
      ·simp only[go_sem,zE];have hq:=yQo (rule:=rule) (r:=⟨rl,rr,op,asks⟩) (term:=term) (name:=name) hfm hop;simp only[if_neg ha0,if_pos ha2,hk,Bool.not_false,if_true] at hq;exact yQ0 (by rw[hq];exact⟨_,_,rfl,.inl rfl,.inl rfl,rfl,rfl⟩)
      simp only[go_sem,zE,zA,zL];refine (zXe gl G T _ _ hz1 (yQt hm 0) n (Tm.mk true name []) _ (show IsTm (Tm.mk true name []) _ from⟨_,_,rfl,.inl rfl,rfl⟩) (by show 1<=_;decide) _).mono ?_;rintro _ _ ⟨y3,rfl,hy3,rfl⟩;have hy4:=hy3;obtain⟨o8,n8,t8,x8,t9,x9,rfl⟩:=hy3.agg;by_cases he:(yZz ((sub[0]?).getD fm0) [(n,(Tm.mk true name []))]).2=0
      ·have hq:=yQo (rule:=rule) (r:=⟨rl,rr,op,asks⟩) (term:=term) (name:=name) hfm hop;simp only[if_neg ha0,if_pos ha2,hk,Bool.not_true,bFt,if_false,Fm.subs,Fm.nm,he,ne_eq,nTf] at hq;simp only[go_sem,zE,zA,zL,he,hent,show decide (((0:Nat):Int)=0)=true from rfl];refine (hadd _ _ _ _ _ _ hy0 hy4 hz2 hm (Nat.le_trans (yZu _ _) (by decide)) (yQt hm 1) _).mono ?_;rintro _ _ ⟨tg,xs,rfl,he,hap,hxs,rfl⟩;simp only[go_sem,zE];exact yQ0 (by rw[hq];exact⟨_,_,rfl,he,hap,hxs,rfl⟩)
      ·have hq:=yQo (rule:=rule) (r:=⟨rl,rr,op,asks⟩) (term:=term) (name:=name) hfm hop;simp only[if_neg ha0,if_pos ha2,hk,Bool.not_true,bFt,if_false,Fm.subs,Fm.nm,ne_eq,he,nFt,if_true] at hq;have hd:decide (((yZz ((sub[0]?).getD fm0) [(n,(Tm.mk true name []))]).2:Int)=0)=false:=dEf (by omega);simp only[go_sem,zE,zA,zL,hd];exact yQ0 (by rw[hq];exact⟨_,_,rfl,.inl rfl,.inl rfl,rfl,rfl⟩)
     ·have d2:decide ((asks:Int)=2)=false:=dEf (by omega);simp only[go_sem,zE,zB,zA,zL,hdop,l0,l1,i2.len,g0,yQ1 e2,Int.le_refl,Int.toNat_zero,d0,d2,fits];intros;refine (yWm gl term _ hz ht _).mono ?_;rintro _ _ ⟨rfl,rfl⟩;cases hk:Tm.ok term
      ·simp only[go_sem,zE];have hq:=yQo (rule:=rule) (r:=⟨rl,rr,op,asks⟩) (term:=term) (name:=name) hfm hop;simp only[if_neg ha0,if_neg ha2,hk,Bool.not_false,if_true] at hq;exact yQ0 (by rw[hq];exact⟨_,_,rfl,.inl rfl,.inl rfl,rfl,rfl⟩)
      simp only[go_sem,zE,zA,zL];refine (zXe gl G T _ _ hz1 (yQt hm 0) n term _ hz ht _).mono ?_;rintro _ _ ⟨y3,rfl,hy3,rfl⟩;have hy4:=hy3;obtain⟨o8,n8,t8,x8,t9,x9,rfl⟩:=hy3.agg;by_cases he:(yZz ((sub[0]?).getD fm0) [(n,term)]).2=0
      ·have hq:=yQo (rule:=rule) (r:=⟨rl,rr,op,asks⟩) (term:=term) (name:=name) hfm hop;simp only[if_neg ha0,if_neg ha2,hk,Bool.not_true,bFt,if_false,Fm.subs,Fm.nm,he,ne_eq,nTf] at hq;simp only[go_sem,zE,zA,zL,he,hent,show decide (((0:Nat):Int)=0)=true from rfl];refine (hadd _ _ _ _ _ _ hy0 hy4 hz2 hm (Nat.le_trans (yZu _ _) (by decide)) (yQt hm 1) _).mono ?_;rintro _ _ ⟨tg,xs,rfl,he,hap,hxs,rfl⟩;simp only[go_sem,zE];exact yQ0 (by rw[hq];exact⟨_,_,rfl,he,hap,hxs,rfl⟩)
      ·have hq:=yQo (rule:=rule) (r:=⟨rl,rr,op,asks⟩) (term:=term) (name:=name) hfm hop;simp only[if_neg ha0,if_neg ha2,hk,Bool.not_true,bFt,if_false,Fm.subs,Fm.nm,ne_eq,he,nFt,if_true] at hq;have hd:decide (((yZz ((sub[0]?).getD fm0) [(n,term)]).2:Int)=0)=false:=dEf (by omega);simp only[go_sem,zE,zA,zL,hd];exact yQ0 (by rw[hq];exact⟨_,_,rfl,.inl rfl,.inl rfl,rfl,rfl⟩)
 ·have l0:decide ((0:Int)<(sub.length:Int))=false:=dEf (by omega);have l1:decide ((1:Int)<(sub.length:Int))=false:=dEf (by omega);obtain rfl:=hz1n (by omega);obtain rfl:=hz2n (by omega);cases dop
  ·have hd2:=hdo rfl;by_cases ha0:asks=0
   ·have d0:decide ((asks:Int)=0)=true:=dEt (by omega);have hq:=yQo (rule:=rule) (r:=⟨rl,rr,op,asks⟩) (term:=term) (name:=name) hfm hop;simp only[if_pos ha0,Fm.subs] at hq;simp only[go_sem,zE,zA,zL,hdop,hd2,l0,l1,i2.len,d0,hent];intros;refine (hadd _ _ _ _ _ _ hy0 hz1 hz2 hm (yQt hm 0) (yQt hm 1) _).mono ?_;rintro _ _ ⟨tg,xs,rfl,he,hap,hxs,rfl⟩;simp only[go_sem,zE];exact yQ0 (by rw[hq];exact⟨_,_,rfl,he,hap,hxs,rfl⟩)
   ·have d0:decide ((asks:Int)=0)=false:=dEf (by omega);by_cases ha2:asks=2
    ·have d2:decide ((asks:Int)=2)=true:=dEt (by omega);simp only[go_sem,zE,zA,zL,hdop,hd2,l0,l1,i2.len,d0,d2,fits];intros;refine (yWm gl (Tm.mk true name []) _ (show IsTm (Tm.mk true name []) _ from⟨_,_,rfl,.inl rfl,rfl⟩) (by show 1<=_;decide) _).mono ?_;rintro _ _ ⟨rfl,rfl⟩;cases hk:Tm.ok (Tm.mk true name [])
     ·simp only[go_sem,zE];have hq:=yQo (rule:=rule) (r:=⟨rl,rr,op,asks⟩) (term:=term) (name:=name) hfm hop;simp only[if_neg ha0,if_pos ha2,hk,Bool.not_false,if_true] at hq;exact yQ0 (by rw[hq];exact⟨_,_,rfl,.inl rfl,.inl rfl,rfl,rfl⟩)
     simp only[go_sem,zE,zA,zL];refine (zXe gl G T _ _ hz1 (yQt hm 0) n (Tm.mk true name []) _ (show IsTm (Tm.mk true name []) _ from⟨_,_,rfl,.inl rfl,rfl⟩) (by show 1<=_;decide) _).mono ?_;rintro _ _ ⟨y3,rfl,hy3,rfl⟩;have hy4:=hy3;obtain⟨o8,n8,t8,x8,t9,x9,rfl⟩:=hy3.agg;by_cases he:(yZz ((sub[0]?).getD fm0) [(n,(Tm.mk true name []))]).2=0
     ·have hq:=yQo (rule:=rule) (r:=⟨rl,rr,op,asks⟩) (term:=term) (name:=name) hfm hop;simp only[if_neg ha0,if_pos ha2,hk,Bool.not_true,bFt,if_false,Fm.subs,Fm.nm,he,ne_eq,nTf] at hq;simp only[go_sem,zE,zA,zL,he,hent,show decide (((0:Nat):Int)=0)=true from rfl];refine (hadd _ _ _ _ _ _ hy0 hy4 hz2 hm (Nat.le_trans (yZu _ _) (by decide)) (yQt hm 1) _).mono ?_;rintro _ _ ⟨tg,xs,rfl,he,hap,hxs,rfl⟩;simp only[go_sem,zE];exact yQ0 (by rw[hq];exact⟨_,_,rfl,he,hap,hxs,rfl⟩)
     ·have hq:=yQo (rule:=rule) (r:=⟨rl,rr,op,asks⟩) (term:=term) (name:=name) hfm hop;simp only[if_neg ha0,if_pos ha2,hk,Bool.not_true,bFt,if_false,Fm.subs,Fm.nm,ne_eq,he,nFt,if_true] at hq;have hd:decide (((yZz ((sub[0]?).getD fm0) [(n,(Tm.mk true name []))]).2:Int)=0)=false:=dEf (by omega);simp only[go_sem,zE,zA,zL,hd];exact yQ0 (by rw[hq];exact⟨_,_,rfl,.inl rfl,.inl rfl,rfl,rfl⟩)
    ·have d2:decide ((asks:Int)=2)=false:=dEf (by omega);simp only[go_sem,zE,zA,zL,hdop,hd2,l0,l1,i2.len,d0,d2];intros;refine (yWm gl term _ hz ht _).mono ?_;rintro _ _ ⟨rfl,rfl⟩;cases hk:Tm.ok term
     ·simp only[go_sem,zE];have hq:=yQo (rule:=rule) (r:=⟨rl,rr,op,asks⟩) (term:=term) (name:=name) hfm hop;simp only[if_neg ha0,if_neg ha2,hk,Bool.not_false,if_true] at hq;exact yQ0 (by rw[hq];exact⟨_,_,rfl,.inl rfl,.inl rfl,rfl,rfl⟩)
     simp only[go_sem,zE,zA,zL];refine (zXe gl G T _ _ hz1 (yQt hm 0) n term _ hz ht _).mono ?_;rintro _ _ ⟨y3,rfl,hy3,rfl⟩;have hy4:=hy3;obtain⟨o8,n8,t8,x8,t9,x9,rfl⟩:=hy3.agg;by_cases he:(yZz ((sub[0]?).getD fm0) [(n,term)]).2=0
     ·have hq:=yQo (rule:=rule) (r:=⟨rl,rr,op,asks⟩) (term:=term) (name:=name) hfm hop;simp only[if_neg ha0,if_neg ha2,hk,Bool.not_true,bFt,if_false,Fm.subs,Fm.nm,he,ne_eq,nTf] at hq;simp only[go_sem,zE,zA,zL,he,hent,show decide (((0:Nat):Int)=0)=true from rfl];refine (hadd _ _ _ _ _ _ hy0 hy4 hz2 hm (Nat.le_trans (yZu _ _) (by decide)) (yQt hm 1) _).mono ?_;rintro _ _ ⟨tg,xs,rfl,he,hap,hxs,rfl⟩;simp only[go_sem,zE];exact yQ0 (by rw[hq];exact⟨_,_,rfl,he,hap,hxs,rfl⟩)
     ·have hq:=yQo (rule:=rule) (r:=⟨rl,rr,op,asks⟩) (term:=term) (name:=name) hfm hop;simp only[if_neg ha0,if_neg ha2,hk,Bool.not_true,bFt,if_false,Fm.subs,Fm.nm,ne_eq,he,nFt,if_true] at hq;have hd:decide (((yZz ((sub[0]?).getD fm0) [(n,term)]).2:Int)=0)=false:=dEf (by omega);simp only[go_sem,zE,zA,zL,hd];exact yQ0 (by rw[hq];exact⟨_,_,rfl,.inl rfl,.inl rfl,rfl,rfl⟩)
  ·by_cases ha0:asks=0
   ·have d0:decide ((asks:Int)=0)=true:=dEt (by omega);have hq:=yQo (rule:=rule) (r:=⟨rl,rr,op,asks⟩) (term:=term) (name:=name) hfm hop;simp only[if_pos ha0,Fm.subs] at hq;simp only[go_sem,zE,zA,zL,hdop,l0,l1,i2.len,d0,hent];intros;refine (hadd _ _ _ _ _ _ hy0 hz1 hz2 hm (yQt hm 0) (yQt hm 1) _).mono ?_;rintro _ _ ⟨tg,xs,rfl,he,hap,hxs,rfl⟩;simp only[go_sem,zE];exact yQ0 (by rw[hq];exact⟨_,_,rfl,he,hap,hxs,rfl⟩)
   ·have d0:decide ((asks:Int)=0)=false:=dEf (by omega);by_cases ha2:asks=2
    ·have d2:decide ((asks:Int)=2)=true:=dEt (by omega);simp only[go_sem,zE,zA,zL,hdop,l0,l1,i2.len,d0,d2,fits];intros;refine (yWm gl (Tm.mk true name []) _ (show IsTm (Tm.mk true name []) _ from⟨_,_,rfl,.inl rfl,rfl⟩) (by show 1<=_;decide) _).mono ?_;rintro _ _ ⟨rfl,rfl⟩;cases hk:Tm.ok (Tm.mk true name [])
     ·simp only[go_sem,zE];have hq:=yQo (rule:=rule) (r:=⟨rl,rr,op,asks⟩) (term:=term) (name:=name) hfm hop;simp only[if_neg ha0,if_pos ha2,hk,Bool.not_false,if_true] at hq;exact yQ0 (by rw[hq];exact⟨_,_,rfl,.inl rfl,.inl rfl,rfl,rfl⟩)
     simp only[go_sem,zE,zA,zL];refine (zXe gl G T _ _ hz1 (yQt hm 0) n (Tm.mk true name []) _ (show IsTm (Tm.mk true name []) _ from⟨_,_,rfl,.inl rfl,rfl⟩) (by show 1<=_;decide) _).mono ?_;rintro _ _ ⟨y3,rfl,hy3,rfl⟩;have hy4:=hy3;obtain⟨o8,n8,t8,x8,t9,x9,rfl⟩:=hy3.agg;by_cases he:(yZz ((sub[0]?).getD fm0) [(n,(Tm.mk true name []))]).2=0
     ·have hq:=yQo (rule:=rule) (r:=⟨rl,rr,op,asks⟩) (term:=term) (name:=name) hfm hop;simp only[if_neg ha0,if_pos ha2,hk,Bool.not_true,bFt,if_false,Fm.subs,Fm.nm,he,ne_eq,nTf] at hq;simp only[go_sem,zE,zA,zL,he,hent,show decide (((0:Nat):Int)=0)=true from rfl];refine (hadd _ _ _ _ _ _ hy0 hy4 hz2 hm (Nat.le_trans (yZu _ _) (by decide)) (yQt hm 1) _).mono ?_;rintro _ _ ⟨tg,xs,rfl,he,hap,hxs,rfl⟩;simp only[go_sem,zE];exact yQ0 (by rw[hq];exact⟨_,_,rfl,he,hap,hxs,rfl⟩)
     ·have hq:=yQo (rule:=rule) (r:=⟨rl,rr,op,asks⟩) (term:=term) (name:=name) hfm hop;simp only[if_neg ha0,if_pos ha2,hk,Bool.not_true,bFt,if_false,Fm.subs,Fm.nm,ne_eq,he,nFt,if_true] at hq;have hd:decide (((yZz ((sub[0]?).getD fm0) [(n,(Tm.mk true name []))]).2:Int)=0)=false:=dEf (by omega);simp only[go_sem,zE,zA,zL,hd];exact yQ0 (by rw[hq];exact⟨_,_,rfl,.inl rfl,.inl rfl,rfl,rfl⟩)
    ·have d2:decide ((asks:Int)=2)=false:=dEf (by omega);simp only[go_sem,zE,zA,zL,hdop,l0,l1,i2.len,d0,d2];intros;refine (yWm gl term _ hz ht _).mono ?_;rintro _ _ ⟨rfl,rfl⟩;cases hk:Tm.ok term
     ·simp only[go_sem,zE];have hq:=yQo (rule:=rule) (r:=⟨rl,rr,op,asks⟩) (term:=term) (name:=name) hfm hop;simp only[if_neg ha0,if_neg ha2,hk,Bool.not_false,if_true] at hq;exact yQ0 (by rw[hq];exact⟨_,_,rfl,.inl rfl,.inl rfl,rfl,rfl⟩)
     simp only[go_sem,zE,zA,zL];refine (zXe gl G T _ _ hz1 (yQt hm 0) n term _ hz ht _).mono ?_;rintro _ _ ⟨y3,rfl,hy3,rfl⟩;have hy4:=hy3;obtain⟨o8,n8,t8,x8,t9,x9,rfl⟩:=hy3.agg;by_cases he:(yZz ((sub[0]?).getD fm0) [(n,term)]).2=0
     ·have hq:=yQo (rule:=rule) (r:=⟨rl,rr,op,asks⟩) (term:=term) (name:=name) hfm hop;simp only[if_neg ha0,if_neg ha2,hk,Bool.not_true,bFt,if_false,Fm.subs,Fm.nm,he,ne_eq,nTf] at hq;simp only[go_sem,zE,zA,zL,he,hent,show decide (((0:Nat):Int)=0)=true from rfl];refine (hadd _ _ _ _ _ _ hy0 hy4 hz2 hm (Nat.le_trans (yZu _ _) (by decide)) (yQt hm 1) _).mono ?_;rintro _ _ ⟨tg,xs,rfl,he,hap,hxs,rfl⟩;simp only[go_sem,zE];exact yQ0 (by rw[hq];exact⟨_,_,rfl,he,hap,hxs,rfl⟩)
     ·have hq:=yQo (rule:=rule) (r:=⟨rl,rr,op,asks⟩) (term:=term) (name:=name) hfm hop;simp only[if_neg ha0,if_neg ha2,hk,Bool.not_true,bFt,if_false,Fm.subs,Fm.nm,ne_eq,he,nFt,if_true] at hq;have hd:decide (((yZz ((sub[0]?).getD fm0) [(n,term)]).2:Int)=0)=false:=dEf (by omega);simp only[go_sem,zE,zA,zL,hd];exact yQ0 (by rw[hq];exact⟨_,_,rfl,.inl rfl,.inl rfl,rfl,rfl⟩)
theorem zU3 {ca:Nat}{s:Sq}(h:yXr ca s=true):(∀f∈s.l,f.right=true)/\∀f∈s.r,f.right=true:=by
 unfold yXr at h;simp only[bAt,List.all_eq_true] at h;obtain⟨⟨⟨_,h4⟩,h5⟩,_⟩:=h;have key:∀f,fmB ca f=true->f.right=true:=λf hf=>by
  unfold fmB at hf;simp only[bAt] at hf;exact hf.1
 exact⟨λf hf=>key f (h4 f hf),λf hf=>key f (h5 f hf)⟩
theorem wVn (G:Gl gl)(T:Gt gl)(ca:Nat)(s:Sq)(x:IV)(hx:IsSq s x)(hs:yKt s)(rule:Nat)(main:Fm)(y:IV)(hy:IsFm main y)(hm:main.size<=1000000)(term:Tm)(z:IV)(hz:IsTm term z)(ht:term.size<=1000000)(name:ByteArray)(st:ISt) :
  ICall prog gl 90 [.raw (.int .u8 ca),x,.raw (.int .u8 rule),y,z,.raw (.string name)] st (AdRD st (yXw ca s rule main term name)):=by
 have hV:=λst=>wXc gl G ca s x hx hs st;have hF:=λhr st=>vXd gl T s x hx hs hr name st;obtain⟨t1,x1,t2,x2,rfl,e1,i1,e2,i2⟩:=hx;have hH1:=λst=>xWa gl G s.l main t1 x1 y e1 i1 hy hs.1 hm st;have hH2:=λst=>xWa gl G s.r main t2 x2 y e2 i2 hy hs.2 hm st;have hA:=λr hr st=>vJr gl G T ca rule r hr main y hy hm term z hz ht name st;obtain⟨o3,n3,t3,x3,t4,x4,rfl⟩:=hy.agg;obtain⟨v,un,tz,xz,rfl⟩:∃v un tz xz,z=.agg [.raw (.bool v),.raw (.string un),.sl tz xz]:=by
  obtain⟨v,un,us⟩:=term;obtain⟨tz,xz,rfl,_⟩:=hz.mk;exact⟨_,_,_,_,rfl⟩
 refine iI func90 ?_;simp only[go_sem,zE,zA,zL,reduceCtorEq];refine (hV _).mono ?_;rintro _ st ⟨rfl,rfl⟩;cases hv:yXr ca s
 ·simp only[go_sem,zE];exact yQ0 (by unfold yXw;rw[hv];exact⟨_,_,rfl,.inl rfl,.inl rfl,rfl,rfl⟩)
 have hright:=zU3 hv;simp only[go_sem,zA,reduceCtorEq];refine (wYj gl ca _).mono ?_;rintro _ _ ⟨b,hb,rfl,rfl⟩;cases hr:rowS ca rule with
 | none =>
  have hq:yXw ca s rule main term name=([],191):=by unfold yXw;rw[hv,hr];rfl
  simp only[go_sem,zE,zA,zL,ISt.put_same,zJg,hr,Option.map_none,xYd];exact yQ9 (yQe hb) (by rw[hq];exact⟨_,_,rfl,.inl rfl,.inl rfl,rfl,rfl⟩)
 | some r =>
  have hcall:=hA r hr;obtain⟨rl,rr,op,asks⟩:=r;have hq:yXw ca s rule main term name=if decide ((yV1 ca rule ⟨rl,rr,op,asks⟩ main term name).2=192) || (rl&&!hasF s.l main) || (rr&&!hasF s.r main) then ([],192)
    else if (yV1 ca rule ⟨rl,rr,op,asks⟩ main term name).2≠0 then ([],(yV1 ca rule ⟨rl,rr,op,asks⟩ main term name).2)
    else if decide (asks=2)&&yY7 s name then ([],193) else ((yV1 ca rule ⟨rl,rr,op,asks⟩ main term name).1,0):=by unfold yXw;rw[hv,hr];rfl
  generalize yV1 ca rule ⟨rl,rr,op,asks⟩ main term name=q at hq hcall;obtain⟨qs,qe⟩:=q;simp only at hq;simp only[go_sem,zE,zA,zL,reduceCtorEq,ISt.put_same,zJg,hr,Option.map_some,xYc,rwI];refine (hcall _).mono ?_;rintro _ _ ⟨tg,xs,rfl,he,hap,hxs,rfl⟩;by_cases h192:qe=192
  ·have d:decide ((qe:Int)=192)=true:=dEt (by omega);have hq':yXw ca s rule main term name=([],192):=by rw[hq,h192];rfl
   simp only[go_sem,zE,d];exact yQ9 (yQe hb) (by rw[hq'];exact⟨_,_,rfl,.inl rfl,.inl rfl,rfl,rfl⟩)
  have d:decide ((qe:Int)=192)=false:=dEf (by omega);have h192':decide (qe=192)=false:=dEf h192;rw[h192',Bool.false_or] at hq;cases rl
  ·cases rr
   ·simp only[Bool.false_and,Bool.false_and,Bool.or_false,bFt,if_false] at hq;by_cases h0:qe=0
    ·subst h0;simp only[ne_eq,nTf,if_false] at hq;by_cases ha:asks=2
     ·have da:decide ((asks:Int)=2)=true:=dEt (by omega);simp only[go_sem,zE,zA,zL,d,da,show decide (((0:Nat):Int)=0)=true from rfl];refine (hF hright _).mono ?_;rintro _ _ ⟨rfl,rfl⟩;rw[dEt ha,Bool.true_and] at hq;cases hf:yY7 s name
      ·simp only[go_sem,zE];rw[hf] at hq;exact yQ9 (yQe hb) (by rw[hq];exact⟨_,_,rfl,he,hap,hxs,rfl⟩)
      ·simp only[go_sem,zE];rw[hf] at hq;exact yQ9 (yQe hb) (by rw[hq];exact⟨_,_,rfl,.inl rfl,.inl rfl,rfl,rfl⟩)
     ·have da:decide ((asks:Int)=2)=false:=dEf (by omega);rw[dEf ha,Bool.false_and] at hq;simp only[go_sem,zE,zA,d,da,show decide (((0:Nat):Int)=0)=true from rfl];exact yQ9 (yQe hb) (by rw[hq];exact⟨_,_,rfl,he,hap,hxs,rfl⟩)
    ·have d0:decide ((qe:Int)=0)=false:=dEf (by omega);rw[if_pos h0] at hq;simp only[go_sem,zE,zA,d,d0];exact yQ9 (yQe hb) (by rw[hq];exact⟨_,_,rfl,.inl rfl,.inl rfl,rfl,rfl⟩)
   ·simp only[go_sem,zE,zA,zL,d];refine (hH2 _).mono ?_;rintro _ _ ⟨rfl,rfl⟩;cases h5:hasF s.r main
    ·simp only[go_sem,zE];rw[h5] at hq;exact yQ9 (yQe hb) (by rw[hq];exact⟨_,_,rfl,.inl rfl,.inl rfl,rfl,rfl⟩)
    ·simp only[h5,Bool.false_and,Bool.and_false,Bool.not_true,Bool.or_false,bFt,if_false] at hq;by_cases h0:qe=0
     ·subst h0;simp only[ne_eq,nTf,if_false] at hq;by_cases ha:asks=2
      ·have da:decide ((asks:Int)=2)=true:=dEt (by omega);simp only[go_sem,zE,zA,zL,da,show decide (((0:Nat):Int)=0)=true from rfl];refine (hF hright _).mono ?_;rintro _ _ ⟨rfl,rfl⟩;rw[dEt ha,Bool.true_and] at hq;cases hf:yY7 s name
       ·simp only[go_sem,zE];rw[hf] at hq;exact yQ9 (yQe hb) (by rw[hq];exact⟨_,_,rfl,he,hap,hxs,rfl⟩)
       ·simp only[go_sem,zE];rw[hf] at hq;exact yQ9 (yQe hb) (by rw[hq];exact⟨_,_,rfl,.inl rfl,.inl rfl,rfl,rfl⟩)
      ·have da:decide ((asks:Int)=2)=false:=dEf (by omega);rw[dEf ha,Bool.false_and] at hq;simp only[go_sem,zE,zA,da,show decide (((0:Nat):Int)=0)=true from rfl];exact yQ9 (yQe hb) (by rw[hq];exact⟨_,_,rfl,he,hap,hxs,rfl⟩)
     ·have d0:decide ((qe:Int)=0)=false:=dEf (by omega);rw[if_pos h0] at hq;simp only[go_sem,zE,d0];exact yQ9 (yQe hb) (by rw[hq];exact⟨_,_,rfl,.inl rfl,.inl rfl,rfl,rfl⟩)
  ·simp only[go_sem,zE,zA,zL,d];refine (hH1 _).mono ?_;rintro _ _ ⟨rfl,rfl⟩;cases h4:hasF s.l main
   ·simp only[go_sem,zE];rw[h4] at hq;exact yQ9 (yQe hb) (by rw[hq];exact⟨_,_,rfl,.inl rfl,.inl rfl,rfl,rfl⟩)
   cases rr
   ·simp only[h4,Bool.false_and,Bool.and_false,Bool.not_true,Bool.or_false,bFt,if_false] at hq;by_cases h0:qe=0
    ·subst h0;simp only[ne_eq,nTf,if_false] at hq;by_cases ha:asks=2
     ·have da:decide ((asks:Int)=2)=true:=dEt (by omega);simp only[go_sem,zE,zA,zL,da,show decide (((0:Nat):Int)=0)=true from rfl];refine (hF hright _).mono ?_;rintro _ _ ⟨rfl,rfl⟩;rw[dEt ha,Bool.true_and] at hq;cases hf:yY7 s name
      ·simp only[go_sem,zE];rw[hf] at hq;exact yQ9 (yQe hb) (by rw[hq];exact⟨_,_,rfl,he,hap,hxs,rfl⟩)
      ·simp only[go_sem,zE];rw[hf] at hq;exact yQ9 (yQe hb) (by rw[hq];exact⟨_,_,rfl,.inl rfl,.inl rfl,rfl,rfl⟩)
     ·have da:decide ((asks:Int)=2)=false:=dEf (by omega);rw[dEf ha,Bool.false_and] at hq;simp only[go_sem,zE,zA,da,show decide (((0:Nat):Int)=0)=true from rfl];exact yQ9 (yQe hb) (by rw[hq];exact⟨_,_,rfl,he,hap,hxs,rfl⟩)
    ·have d0:decide ((qe:Int)=0)=false:=dEf (by omega);rw[if_pos h0] at hq;simp only[go_sem,zE,zA,d0];exact yQ9 (yQe hb) (by rw[hq];exact⟨_,_,rfl,.inl rfl,.inl rfl,rfl,rfl⟩)
   ·simp only[go_sem,zE,zA,zL];refine (hH2 _).mono ?_;rintro _ _ ⟨rfl,rfl⟩;cases h5:hasF s.r main
    ·simp only[go_sem,zE];rw[h4,h5] at hq;exact yQ9 (yQe hb) (by rw[hq];exact⟨_,_,rfl,.inl rfl,.inl rfl,rfl,rfl⟩)
    ·simp only[h4,h5,Bool.and_false,Bool.not_true,Bool.or_false,bFt,if_false] at hq;by_cases h0:qe=0
     ·subst h0;simp only[ne_eq,nTf,if_false] at hq;by_cases ha:asks=2
      ·have da:decide ((asks:Int)=2)=true:=dEt (by omega);simp only[go_sem,zE,zA,zL,da,show decide (((0:Nat):Int)=0)=true from rfl];refine (hF hright _).mono ?_;rintro _ _ ⟨rfl,rfl⟩;rw[dEt ha,Bool.true_and] at hq;cases hf:yY7 s name
       ·simp only[go_sem,zE];rw[hf] at hq;exact yQ9 (yQe hb) (by rw[hq];exact⟨_,_,rfl,he,hap,hxs,rfl⟩)
       ·simp only[go_sem,zE];rw[hf] at hq;exact yQ9 (yQe hb) (by rw[hq];exact⟨_,_,rfl,.inl rfl,.inl rfl,rfl,rfl⟩)
      ·have da:decide ((asks:Int)=2)=false:=dEf (by omega);rw[dEf ha,Bool.false_and] at hq;simp only[go_sem,zE,zA,da,show decide (((0:Nat):Int)=0)=true from rfl];exact yQ9 (yQe hb) (by rw[hq];exact⟨_,_,rfl,he,hap,hxs,rfl⟩)
     ·have d0:decide ((qe:Int)=0)=false:=dEf (by omega);rw[if_pos h0] at hq;simp only[go_sem,zE,d0];exact yQ9 (yQe hb) (by rw[hq];exact⟨_,_,rfl,.inl rfl,.inl rfl,rfl,rfl⟩)
theorem vZ0 (G:Gl gl)(T:Gt gl)(ca:Nat)(s:Sq)(x:IV)(hx:IsSq s x)(hs:yKt s)(rule:Nat)(main:Fm)(y:IV)(hy:IsFm main y)(hm:main.size<=1000000)(term:Tm)(z:IV)(hz:IsTm term z)(ht:term.size<=1000000)(name:ByteArray)(st:ISt) :
  ICall prog gl 90 [.raw (.int .u8 ca),x,.raw (.int .u8 rule),y,z,.raw (.string name)] st (AdR st (yXw ca s rule main term name)) :=
 (wVn gl G T ca s x hx hs rule main y hy hm term z hz ht name st).mono AdRD.w
theorem wK0:lenI prog 3=none:=by kernel_rfl
theorem zVv (n:Nat):yXf none (some 0) n=some (0,0):=by simp[yXf]
theorem xXb (n:Nat):yXf none (some ((0:Nat):Int)) n=some (0,0):=zVv n
theorem vK0 (n:Nat)(hn:n<=1099511627776)(st:ISt):ICall prog gl 164 [.sl ⟨true,.nil,0⟩ [],.raw (.int .i64 n)] st (λr st' =>
  (n=0/\r=.sl ⟨true,.nil,0⟩ []/\st'=st)\/(∃g cap,st g=none/\n<=cap/\r=.raw (.slice (some ⟨g,0,none⟩) 0 cap)/\st'=st.put g (some (.box (List.replicate (cap*4) .junk))))):=by
 have h1:decide ((n:Int)<0)=false:=dEf (by omega);have h2:IntKind.i64.wrap ((0:Int)-((0:Nat):Int))=0:=rfl;have h3:IntKind.i64.wrap ((n:Int)-0)=n:=w64 (by omega) (by omega);refine iI func164 ?_;by_cases hz:n=0
 ·subst hz;simp only[go_sem,zE,zL,reduceCtorEq,h1,h2,h3,show decide ((0:Int)<((0:Nat):Int))=false from rfl];refine yQ0 (.inl ?_);simp
 ·have h4:decide ((0:Int)<(n:Int))=true:=dEt (by omega);simp only[go_sem,zE,zL,reduceCtorEq,h1,h2,h3,h4,zVv,wK0];refine yQs ⟨rfl,by omega,by show (n:Int)*72<=_;omega,by omega⟩ λg cap=>yQb λhg=>?_;obtain⟨hg,hc⟩:=hg;rw[Int.toNat_natCast] at hc;simp only[go_sem,zE,zL,reduceCtorEq,Int.toNat_natCast,xXb,ite_self,Nat.zero_mul,hc];exact yQ0 (.inr ⟨g,cap,hg,hc,rfl,rfl⟩)
def catL (l:List (Tag×List IV)):List IV:=l.flatMap (·.2)
def catI (l:List (Tag×List IV)):List IV:=l.map λp=>.sl p.1 p.2
theorem zGn {l:List (Tag×List IV)}{k:Nat}{p:Tag×List IV}(h:l[k]?=some p):(catI l)[k]?=some (.sl p.1 p.2):=by simp[catI,List.getElem?_map,h]
theorem yVo {l:List (Tag×List IV)}{k:Nat}{p:Tag×List IV}(h:l[k]?=some p):catL (l.take (k+1))=catL (l.take k)++p.2:=by
 rw[yQ5 h];simp[catL]
theorem zGm (l:List (Tag×List IV))(k:Nat):(catL (l.take k)).length<=(catL l).length:=by
 conv=>rhs;rw[<- List.take_append_drop k l]
 unfold catL;rw[List.flatMap_append,lLa];omega
theorem yJ8:∀ {l:List Fm}{xs:List IV},IsFms l xs->∀y∈xs,fits true 4 y=true
 | [],_,rfl,y,h=>by cases h
 | a::l,_,⟨x,xs,rfl,hx,hl⟩,y,h=>by
  rcases List.mem_cons.1 h with rfl|h
  ·obtain⟨o,n,t,x,t',x',rfl⟩:=hx.agg;simp[fits,IV.one]
  ·exact yJ8 hl y h
theorem xJj {y:IV}(h:fits true 4 y=true):y.cells.length=4:=(yXo h).2.1
theorem uXo {l:List IV}(h:∀y∈l,fits true 4 y=true):(l.flatMap IV.cells).length=l.length*4:=yQu l λx hx=>xJj (h x hx)
theorem wV9 (l:List (Tag×List IV))(tt:Tag)(htt:okEs tt 1)(hfit:∀p∈l,∀y∈p.2,fits true 4 y=true)(hlen:(catL l).length<=1099511627776)(st:ISt) :
  ICall prog gl 119 [.sl tt (catI l)] st (λr st'=>(∃t,r=.sl t []/\okEs t 4/\catL l=[]/\st'=st) \/
   ∃g cap cs,st g=none/\(catL l).length<=cap/\cap*4<=cs.length/\cs.take ((catL l).length*4)=(catL l).flatMap IV.cells/\r=.raw (.slice (some ⟨g,0,none⟩) (catL l).length cap)/\st'=st.put g (some (.box cs))):=by
 have hli:(catI l).length=l.length:=by simp[catI]
 have hfc:∀y∈catL l,fits true 4 y=true:=λy hy=>by
  obtain⟨p,hp,hy⟩:=List.mem_flatMap.1 hy;exact hfit p hp y hy
 refine iI func119 ?_;simp only[go_sem,reduceCtorEq,hli];intro hl;refine LoopC.ctr l.length (λk fr st' ds=>fr 0=.iv (.sl tt (catI l))/\fr 3=.iv (.raw (.int .i64 (catL (l.take k)).length))/\fr 9=.iv (.sl tt (catI l))/\fr 10=.iv (.raw (.int .i64 l.length))/\fr 11=.iv (.raw (.int .i64 k))/\st'=st/\ds=[]) ?_ ?_ ?_
 ·simp only[go_sem,zE,reduceCtorEq];simp[catL]
 ·rintro k fr st1 _ hlt ⟨f0,f3,f9,f10,f11,rfl,rfl⟩;obtain⟨p,hp⟩:=yQ2 hlt;have h1:=zGm l k;have h2:=zGm l (k+1);rw[yVo hp,lLa] at h2;have h3:IntKind.i64.wrap ((((catL (l.take k)).length:Nat):Int)+((p.2.length:Nat):Int))=((catL (l.take (k+1))).length:Nat):=by
   rw[w64 (by omega) (by omega),yVo hp,lLa];omega
  have h4:decide ((((catL (l.take (k+1))).length:Nat):Int)<0)=false:=dEf (by omega);simp only[go_sem,zE,f3,f9,f10,f11,lt_i hlt,yQ1 htt,iNn,zGn hp,fits,h3];intro hpl;simp only[go_sem,zE,reduceCtorEq,h3,h4,f0,f9,f10,f11,yQa hlt (show l.length<=281474976710656 by omega)]
 ·rintro fr st1 _ ⟨f0,f3,f9,f10,f11,rfl,rfl⟩;rw[lTl] at f3;simp only[go_sem,zE,zA,f3,f10,f11,yQk (nLi _)];refine (vK0 gl (catL l).length hlen _).mono ?_;have loop:∀(I:Nat->IV->ISt->Prop),True:=λ_=>trivial;rintro r st2 (⟨hz,rfl,rfl⟩|⟨g,cap,hg,hcap,rfl,rfl⟩)
  ·have hnil:catL l=[]:=List.eq_nil_of_length_eq_zero hz;simp only[go_sem,reduceCtorEq,f0,hli];intro _;refine LoopC.ctr l.length (λk fr st' ds=>(∃t,fr 6=.iv (.sl t [])/\t.cap=.nil)/\fr 25=.iv (.sl tt (catI l))/\fr 26=.iv (.raw (.int .i64 l.length))/\fr 27=.iv (.raw (.int .i64 k))/\st'=st2/\ds=[]) ?_ ?_ ?_
   ·simp only[go_sem,zE];exact⟨⟨_,rfl,rfl⟩,rfl⟩
   ·rintro k fr st1 _ hlt ⟨⟨t,f6,ht⟩,f25,f26,f27,rfl,rfl⟩;obtain⟨p,hp⟩:=yQ2 hlt;have hp0:p.2=[]:=by
     have:=yVo hp;have h2:=zGm l (k+1);rw[this,lLa,hnil,List.length_nil] at h2;exact List.eq_nil_of_length_eq_zero (by omega)
    obtain⟨fs,c,es⟩:=t;obtain rfl:c=.nil:=ht;simp only[go_sem,zE,zA,zM,zL,f6,f25,f26,f27,lt_i hlt,yQ1 htt,iNn,zGn hp,fits,hp0,yQa hlt (show l.length<=281474976710656 by omega)];exact⟨_,rfl,rfl⟩
   ·rintro fr st1 _ ⟨⟨t,f6,ht⟩,f25,f26,f27,rfl,rfl⟩;simp only[go_sem,zE,f6,f26,f27,yQk (nLi _)];exact yQ0 (.inl ⟨_,rfl,.inl ht,hnil,rfl⟩)
  ·simp only[go_sem,reduceCtorEq,f0,hli];intro _;refine LoopC.ctr l.length (λk fr st' ds=>(∃g cap cs,st1 g=none/\(catL (l.take k)).length<=cap/\cap*4<=cs.length/\cs.take ((catL (l.take k)).length*4)=(catL (l.take k)).flatMap IV.cells/\fr 6=.iv (.raw (.slice (some ⟨g,0,none⟩) (catL (l.take k)).length cap))/\st'=st1.put g (some (.box cs)))/\fr 25=.iv (.sl tt (catI l))/\fr 26=.iv (.raw (.int .i64 l.length))/\fr 27=.iv (.raw (.int .i64 k))/\ds=[]) ?_ ?_ ?_
   ·simp only[go_sem,zE];exact⟨⟨g,cap,_,hg,by simp[catL],by simp,by simp[catL],by simp[catL],rfl⟩,rfl⟩
   ·rintro k fr st' _ hlt ⟨⟨g,cap,cs,hg,hc1,hc2,hc3,f6,rfl⟩,f25,f26,f27,rfl⟩;obtain⟨p,hp⟩:=yQ2 hlt;have h2:=zGm l (k+1);rw[yVo hp,lLa] at h2;have hpf:=hfit p (lMg hp);simp only[go_sem,zE,zA,f6,f25,f26,f27,lt_i hlt,yQ1 htt,iNn,zGn hp,fits];refine zZh _ _ _ (ISt.put_same ..) (List.all_eq_true.2 hpf) ⟨by show _*72<=_;omega,by omega⟩ ⟨hc1,hc2⟩ (uXo hpf) ?_;intro g' cap' cs' hg' k1 k2 k3;simp only[go_sem,zE,f25,f26,f27,yQa hlt (show l.length<=281474976710656 by omega)];have hst':((st1.put g (some (.box cs))).put g none).put g' (some (.box cs'))=st1.put g' (some (.box cs')):=by
     funext c;simp only[ISt.put_apply];split
     ·rfl
     ·split
      ·subst_vars;exact hg.symm
      ·rfl
    have hg1:st1 g'=none:=by
     rcases hg' with rfl|h
     ·exact hg
     ·rw[ISt.put_apply] at h;split at h
      ·cases h
      ·exact h
    refine⟨g',cap',cs',hg1,?_,k2,?_,?_,hst'⟩
    ·rw[yVo hp,lLa];exact k1
    ·rw[yVo hp,lLa,List.flatMap_append,<- hc3];exact k3
    ·rw[yVo hp,lLa]
   ·rintro fr st' _ ⟨⟨g,cap,cs,hg,hc1,hc2,hc3,f6,rfl⟩,f25,f26,f27,rfl⟩;rw[lTl] at *;simp only[go_sem,zE,f6,f26,f27,yQk (nLi _)];exact yQ0 (.inr ⟨g,cap,cs,hg,hc1,hc2,hc3,rfl,rfl⟩)
theorem xWb (l1 l2:List Fm)(t1 t2 tt:Tag)(x1 x2:List IV)(htt:okEs tt 1)(h1:IsFms l1 x1)(h2:IsFms l2 x2)(hlen:l1.length+l2.length<=1099511627776)(st:ISt) :
  ICall prog gl 119 [.sl tt [.sl t1 x1,.sl t2 x2]] st (λr st'=>∃t ys,r=.sl t ys/\okEs t 4/\IsFms (l1++l2) ys/\st'=st):=by
 have hc:catL [(t1,x1),(t2,x2)]=x1++x2:=by simp[catL]
 have hf:=h1.append h2;have hlx:(x1++x2).length<=1099511627776:=by rw[hf.len,lLa];exact hlen
 have key:=wV9 gl [(t1,x1),(t2,x2)] tt htt (λp hp y hy=>by
  rcases List.mem_cons.1 hp with rfl|hp
  ·exact yJ8 h1 y hy
  ·obtain rfl:=List.mem_singleton.1 hp;exact yJ8 h2 y hy) (by rw[hc];exact hlx) st
 rw[hc] at key;refine ICall.fix (key.mono λr st' h=>?_);rcases h with⟨t,rfl,ht,hn,rfl⟩|⟨g,cap,cs,hg,hc1,hc2,hc3,rfl,rfl⟩
 ·exact⟨.sl t [],(λ_=>none),st',LendOk.mk (λb o h=>by cases h) (subSt.refl _) (λb cs h=>by cases h),.refl _,⟨false,t.cap,t.es⟩,[],by simp only[age,ages],ht,hn▸hf,rfl⟩
 ·have hcell:∀y∈x1++x2,y.cells.length=4:=λy hy=>xJj (yJ8 hf y hy);refine⟨.sl ⟨true,.app g,4⟩ (x1++x2),ISt.put (λ_=>none) g (some (.box cs)),st,⟨λb o h=>?_,yQe hg,λb cs' h=>?_⟩,.sl g cap ⟨true,.app g,4⟩ (x1++x2) cs rfl (by omega) hc1 hcell (ISt.put_same ..) hc2 λi r c hr hx=>?_,⟨false,.app g,4⟩,ages (x1++x2),by simp only[age],.inr rfl,hf.aged,rfl⟩
  ·rw[ISt.put_apply] at h ⊢;split at h
   ·rename_i hb;rw[if_pos hb];exact h
   ·cases h
  ·rw[ISt.put_apply] at h;split at h
   ·rename_i hb;rw[hb];exact hg
   ·cases h
  ·have hi:i<(x1++x2).length*4:=by
    have:=(lGs hx).1
    rwa [yQu _ hcell] at this
   have:(cs.take ((x1++x2).length*4))[i]?=cs[i]?:=by rw[List.getElem?_take,if_pos hi]
   rw[hc3,hx,hr] at this;cases this;exact .refl _
theorem xGu {ca:Nat}{s:Sq}{rule:Nat}{main:Fm}{term:Tm}{name:ByteArray}{ad:List Sq}(h:yXw ca s rule main term name=(ad,0)) :
  yXr ca s=true/\∃r,(yV1 ca rule r main term name)=(ad,0):=by
 unfold yXw at h;split at h
 ·simp at h
 ·rename_i hv;split at h
  ·simp at h
  ·rename_i r _;split at h
   ·simp at h
   ·split at h
    ·rename_i h1 h2;injection h with h3 h4;exact absurd h4 h2
    ·rename_i h1 h2;split at h
     ·simp at h
     ·injection h with h3 h4;refine⟨by simpa using hv,r,?_⟩;rw[<- h3];exact Prod.ext rfl (by simpa using h2)
theorem yZt:fitL []:=λf h=>by cases h
theorem zGf {f:Fm}(h:f.size<=1000):fitL [f]:=λg hg=>by obtain rfl:=List.mem_singleton.1 hg;omega
theorem xVv {f g:Fm}(h:f.size<=1000)(h':g.size<=1000):fitL [f,g]:=λk hk=>by
 rcases List.mem_cons.1 hk with rfl|hk
 ·omega
 ·obtain rfl:=List.mem_singleton.1 hk;omega
theorem yJ1 {c:Prop} [Decidable c]{A B:List Sq}{P:Sq->Prop}(h1:∀s∈A,P s)(h2:∀s∈B,P s):∀s∈(if c then A else B),P s:=by split<;>assumption
def yYh (s:Sq):Prop:=yKt s/\s.l.length<=64/\s.r.length<=64
theorem xW9 {ca rule:Nat}{main a b:Fm}(hm:main.size<=400)(ha:a.size<=400)(hb:b.size<=400):∀s∈addS ca rule main a b,yYh s:=by
 have hi:(impF a b).size<=1000:=by simp only[impF,Fm.size,yQ8,yQ7];omega
 have hi':(impF b a).size<=1000:=by simp only[impF,Fm.size,yQ8,yQ7];omega
 have l1:=zGf (show main.size<=1000 by omega);have l2:=zGf (show a.size<=1000 by omega);have l3:=zGf (show b.size<=1000 by omega);have l4:=xVv (show a.size<=1000 by omega) (show b.size<=1000 by omega);have l5:=xVv hi hi';have q0:∀s∈([]:List Sq),yYh s:=λs hs=>by cases hs
 have q1:∀ {x:Sq},yYh x->∀s∈[x],yYh s:=λhx s hs=>by obtain rfl:=List.mem_singleton.1 hs;exact hx
 have q2:∀ {x y:Sq},yYh x->yYh y->∀s∈[x,y],yYh s:=λhx hy s hs=>by
  rcases List.mem_cons.1 hs with rfl|hs
  ·exact hx
  ·obtain rfl:=List.mem_singleton.1 hs;exact hy
 have c0:([]:List Fm).length<=64:=Nat.zero_le _;have c1:∀f:Fm,[f].length<=64:=λ_=>by simp
 have c2:∀f g:Fm,[f,g].length<=64:=λ_ _=>by simp
 unfold addS;refine yJ1 (q1 ⟨⟨yZt,l2⟩,c0,c1 _⟩) (yJ1 (q1 ⟨⟨l2,yZt⟩,c1 _,c0⟩) (yJ1 (q1 ⟨⟨l4,yZt⟩,c2 _ _,c0⟩) (yJ1 (q2 ⟨⟨yZt,l2⟩,c0,c1 _⟩ ⟨⟨yZt,l3⟩,c0,c1 _⟩) (yJ1 (q2 ⟨⟨l2,yZt⟩,c1 _,c0⟩ ⟨⟨l3,yZt⟩,c1 _,c0⟩)
  (yJ1 (yJ1 (q1 ⟨⟨yZt,l2⟩,c0,c1 _⟩) (q1 ⟨⟨yZt,l4⟩,c0,c2 _ _⟩)) (yJ1 (q2 ⟨⟨yZt,l2⟩,c0,c1 _⟩ ⟨⟨l3,yZt⟩,c1 _,c0⟩) (yJ1 (q1 ⟨⟨l2,l3⟩,c1 _,c1 _⟩) (yJ1 (q1 ⟨⟨l5,yZt⟩,c2 _ _,c0⟩) (yJ1 (q2 ⟨⟨l2,l3⟩,c1 _,c1 _⟩ ⟨⟨l3,l2⟩,c1 _,c1 _⟩)
  (yJ1 (q1 ⟨⟨l2,yZt⟩,c1 _,c0⟩) (yJ1 (q1 ⟨⟨yZt,l2⟩,c0,c1 _⟩) (yJ1 (q1 ⟨⟨l2,yZt⟩,c1 _,c0⟩) (yJ1 (q1 ⟨⟨yZt,l2⟩,c0,c1 _⟩) (yJ1 (q2 ⟨⟨yZt,l1⟩,c0,c1 _⟩ ⟨⟨l1,yZt⟩,c1 _,c0⟩) (yJ1 (q1 ⟨⟨yZt,l3⟩,c0,c1 _⟩) q0)))))))))))))))
theorem zVx:∀ {l:List Fm}{g:Fm},g∈l->g.size<=yQ7 l
 | a::l,g,h=>by
  simp only[yQ7];rcases List.mem_cons.1 h with rfl|h
  ·omega
  ·have:=zVx h;omega
theorem wK6 {l:List Fm}{n:Nat}(h:yQ7 l<=n)(hn:1<=n)(k:Nat):((l[k]?).getD fm0).size<=n:=by
 cases hk:l[k]? with
 | none=>exact hn
 | some a=>exact Nat.le_trans (zVx (lMg hk)) h
theorem xZi {ca rule:Nat}{r:Rw}{main:Fm}{term:Tm}{name:ByteArray}{ad:List Sq}(h:yV1 ca rule r main term name=(ad,0)):∀s∈ad,yYh s:=by
 unfold yV1 at h;by_cases hc:(!fmB ca main || (decide (r.op≠0)&&decide (main.op≠r.op)))=true
 ·rw[if_pos hc] at h;cases (Prod.mk.inj h).2
 ·rw[if_neg hc] at h;have hf:fmB ca main=true:=by
   cases hq:fmB ca main
   ·simp[hq] at hc
   ·rfl
  have hm:main.size<=400:=by
   unfold fmB at hf;simp only[bAt] at hf;exact (yJr hf.1).2.1
  have hs:∀k,((main.subs[k]?).getD fm0).size<=400:=λk=>wK6 (by
   obtain⟨o,n,us,sub⟩:=main;simp only[Fm.size] at hm;show yQ7 sub<=400;omega) (by omega) k
  by_cases h0:r.asks=0
  ·simp only[if_pos h0] at h;rw[<- (Prod.mk.inj h).1];exact xW9 hm (hs 0) (hs 1)
  ·simp only[if_neg h0] at h;generalize (if r.asks=2 then Tm.mk true name [] else term)=t at h;by_cases h1:(!t.ok)=true
   ·simp only[if_pos h1] at h;cases (Prod.mk.inj h).2
   ·simp only[if_neg h1] at h;by_cases h2:(yZz ((main.subs[0]?).getD fm0) [(main.nm,t)]).2≠0
    ·simp only[if_pos h2] at h;cases (Prod.mk.inj h).2
    ·simp only[if_neg h2] at h;rw[<- (Prod.mk.inj h).1];exact xW9 hm (yZu _ _) (hs 1)
theorem yWs (s:Sq):∀(l l':List Sq) (ts ts':List Tr),l.length=ts.length->yJs s (l++l') (ts++ts')=(yJs s l ts&&yJs s l' ts')
 | [],l',[],ts',_=>by simp[yJs]
 | a::l,l',t::ts,ts',h=>by
  simp only[List.cons_append,yJs,yWs s l l' ts ts' (by simpa using h),Bool.and_assoc]
 | [],_,_::_,_,h=>by simp at h
 | _::_,_,[],_,h=>by simp at h
theorem zKc {l l':List Fm}(h:fitL l)(h':fitL l'):fitL (l++l'):=λf hf=>(List.mem_append.1 hf).elim (h f) (h' f)
theorem wGx (G:Gl gl)(T:Gt gl)(ca rule:Nat)(s:Sq)(main:Fm)(term:Tm)(name:ByteArray)(sub:List Tr)(x:IV)(hx:IsTr (.mk rule s main term name sub) x)(hs:yKt s)(hm:main.size<=1000000)(ht:term.size<=1000000)
  (hsub:∀a∈sub,yKt a.sq) (st:ISt):ICall prog gl 73 [.raw (.int .u8 ca),.cptr x] st (λr st'=>r=.raw (.int .i64 (yJ4 ca (.mk rule s main term name sub)))/\st'=st):=by
 obtain⟨tl,xl,tr,xr,op,fn,ta,xa,tb,xb,v,un,tu,xu,ts,xs,rfl,hru,e1,i1,e2,i2,hy,hz,e3,i3⟩:=hx.mk;have hstep:=λst=>vZ0 gl G T ca s _ ⟨tl,xl,tr,xr,rfl,e1,i1,e2,i2⟩ hs rule main _ hy hm term _ hz ht name st;unfold yJ4;refine ICall.intro (c:=cf prog gl [] [(9,[0,1,2,3,4,5,6,7,9,10,11,12,13,14,15,16,19,8,17,18,20])]) func73 rfl (by show _<=84;simp) (by kernel_rfl) ?_;simp only[go_sem,zE,zB,zA,zL,reduceCtorEq,fits];refine (hstep _).mono ?_;rintro _ st ⟨tg,ys,rfl,he,hys,rfl⟩;generalize hq:yXw ca s rule main term name=q at hys ⊢;obtain⟨ad,er⟩:=q;simp only at hys ⊢;by_cases h0:er=0
 ·subst h0;obtain⟨hv,r,hr⟩:=xGu hq;have hfit:=xZi hr;simp only[go_sem,zE,show decide (((0:Nat):Int)=0)=true from rfl,i3.len,hys.len,fits];intro _ _;by_cases hl:sub.length=ad.length
  ·have dl:decide ((sub.length:Int)=(ad.length:Int))=true:=dEt (by omega);simp only[go_sem,zE,dl,hys.len];intro _;refine LoopC.ctr ad.length (λk fr st' ds=>yJs s (ad.take k) (sub.take k)=true/\fr 0=.iv (.raw (.int .u8 ca))/\fr 1=.iv (.cptr (.agg [.raw (.int .u8 rule),.sl tl xl,.sl tr xr,.raw (.int .u8 op),.raw (.string fn),.sl ta xa,.sl tb xb,.raw (.bool v),.raw (.string un),.sl tu xu,.raw (.string name),.sl ts xs]))/\fr 46=.iv (.sl tg ys)/\fr 47=.iv (.raw (.int .i64 ad.length))/\fr 48=.iv (.raw (.int .i64 k))/\st'=st/\ds=[]) ?_ ?_ ?_
   ·simp only[go_sem,zE,reduceCtorEq];simp[yJs]
   ·rintro k fr st1 _ hlt ⟨hn,f0,f1,f46,f47,f48,rfl,rfl⟩;obtain⟨a,ha⟩:=yQ2 hlt;obtain⟨w,hkw,hw⟩:=hys.get ha;obtain⟨b,hb⟩:=yQ2 (l:=sub) (k:=k) (by omega);obtain⟨z,hkz,hz⟩:=i3.get hb;have hza:=hfit a (lMg ha);have hvl:s.l.length<=64/\s.r.length<=64:=by
     unfold yXr at hv;simp only[bAt,dTe] at hv;exact⟨hv.1.1.1.1.2,hv.1.1.1.2⟩
    obtain⟨t1,x1,t2,x2,rfl,k1,j1,k2,j2⟩:=hw;have hC1:=λst=>xWb gl s.l a.l tl t1 ⟨true,.full,1⟩ xl x1 (.inr rfl) i1 j1 (by have:=hza.2.1;omega) st;have hC2:=λst=>xWb gl s.r a.r tr t2 ⟨true,.full,1⟩ xr x2 (.inr rfl) i2 j2 (by have:=hza.2.2;omega) st;have hsb:=hsub b (lMg hb);obtain⟨br,bs,bm,bt,bn,bsub⟩:=b;obtain⟨tl',xl',tr',xr',op',fn',ta',xa',tb',xb',v',un',tu',xu',ts',xs',rfl,_,g1,m1,g2,m2,_⟩:=hz.mk;have hlen1:(ad.take k).length=(sub.take k).length:=by rw[List.length_take,List.length_take];omega
    have hpl:yKt (s.plus a):=⟨zKc hs.1 hza.1.1,zKc hs.2 hza.1.2⟩
    simp only[go_sem,zE,zB,zA,zM,zL,f1,f46,f47,f48,lt_i hlt,yQ1 he,iNn,hkw,fits,yQp];refine (hC1 _).mono ?_;rintro _ st2 ⟨t3,y1,rfl,g3,m3,rfl⟩;simp only[go_sem,zE,zA];refine (hC2 _).mono ?_;rintro _ st2 ⟨t4,y2,rfl,g4,m4,rfl⟩;simp only[go_sem,zE,zB,zA,zL,f1,yQ1 e3,iNn,hkz,fits];refine (zXv gl G bs (s.plus a) _ _ ⟨_,_,_,_,rfl,g1,m1,g2,m2⟩ ⟨_,_,_,_,rfl,g3,m3,g4,m4⟩ hsb hpl _).mono ?_;rintro _ st2 ⟨rfl,rfl⟩;cases hw:yJa bs (s.plus a)
    ·simp only[go_sem];refine yQ0 ⟨?_,rfl⟩;have hp:yJs s ad sub=false:=by
      conv=>lhs;rw[<- List.take_append_drop k ad,<- List.take_append_drop k sub]
      rw[List.drop_eq_getElem_cons hlt,List.drop_eq_getElem_cons (show k<sub.length by omega),yWs s _ _ _ _ hlen1,(lGs ha).2,(lGs hb).2];simp only[yJs,Tr.sq,hw,Bool.false_and,Bool.and_false]
     rw[if_neg (by omega),if_neg (by omega),hp];rfl
    ·simp only[go_sem,zE,reduceCtorEq,f0,f1,f46,f47,f48,yQa hlt (show ad.length<=281474976710656 by omega)];rw[yQ5 ha,yQ5 hb,yWs s _ _ _ _ hlen1,hn];simp only[yJs,Tr.sq,hw,Bool.true_and]
   ·rintro fr st1 _ ⟨hn,f0,f1,f46,f47,f48,rfl,rfl⟩;rw[lTl,show sub.take ad.length=sub by rw[<- hl,lTl]] at hn;simp only[go_sem,f47,f48,yQk (nLi _)];refine yQ0 ⟨?_,rfl⟩;rw[if_neg (by omega),if_neg (by omega),hn];rfl
  ·have dl:decide ((sub.length:Int)=(ad.length:Int))=false:=dEf (by omega);simp only[go_sem,dl];refine yQ0 ⟨?_,rfl⟩;rw[if_neg (by omega),if_pos hl];rfl
 ·have d0:decide ((er:Int)=0)=false:=dEf (by omega);simp only[go_sem,zE,d0];refine yQ0 ⟨?_,rfl⟩;rw[if_pos h0]
def OIc (T:ISt)(cs ds:List IV):Prop:=cs.length=ds.length/\∀(i:Nat) (r c:IV),cs[i]?=some r->ds[i]?=some c->OI T r c
theorem OIc.nil (T:ISt):OIc T [] []:=⟨rfl,λi r c h=>by simp at h⟩
theorem OIc.cons {T:ISt}{r c:IV}{cs ds:List IV}(h:OI T r c)(k:OIc T cs ds):OIc T (r::cs) (c::ds) :=
 ⟨by simp[k.1],λi a b ha hb=>by
  cases i with
  | zero=>cases ha;cases hb;exact h
  | succ i=>exact k.2 i a b (by simpa using ha) (by simpa using hb)⟩
theorem OIc.append {T:ISt}{cs ds:List IV}:∀ {us bs:List IV},OIc T us bs->OIc T cs ds->OIc T (us++cs) (bs++ds)
 | [],[],_,k=>k
 | [],_::_,h,_=>by cases h.1
 | _::_,[],h,_=>by cases h.1
 | a::us,b::bs,h,k=>OIc.cons (h.2 0 a b rfl rfl) (OIc.append ⟨by have:=h.1;simpa using this,λi r c hr hc=>h.2 (i+1) r c (by simpa using hr) (by simpa using hc)⟩ k)
theorem OIc.front {T:ISt}{cs ds rest:List IV}(h:OIc T cs ds)(i:Nat)(r c:IV)(hr:(cs++rest)[i]?=some r)(hc:ds[i]?=some c):OI T r c:=by
 have hi:=(lGs hc).1;rw[List.getElem?_append_left (by rw[h.1];exact hi)] at hr;exact h.2 i r c hr hc
theorem OIc.agg {T:ISt}{cs ds:List IV}(h:OIc T cs ds):OI T (.agg cs) (.agg ds):=.agg _ _ h.1 h.2
theorem zJ1:∀ {l:List Tm}{xs:List IV},IsTms l xs->∀x∈xs,x.cells.length=3
 | [],xs,h,x,hx=>by simp only[IsTms] at h;subst h;cases hx
 | a::l,xs,h,x,hx=>by
  obtain⟨y,ys,rfl,hy,h⟩:=h;rcases List.mem_cons.1 hx with rfl|hx
  ·obtain⟨_,_,_,_,rfl⟩:=hy.agg;rfl
  ·exact zJ1 h x hx
theorem _root_.Go.Iv.IsSq.aged {s:Sq}{x:IV}(h:IsSq s x):IsSq s (age x):=by
 obtain⟨t1,x1,t2,x2,rfl,e1,i1,e2,i2⟩:=h;exact⟨_,_,_,_,by simp only[age,ages],zQ3 e1,i1.aged,zQ3 e2,i2.aged⟩
mutual
theorem LTt.oi {T:ISt}:∀ {t:Tm} {c:List IV},LTt T t c->t.size<=1099511627776->∃x,IsTm t x/\OIc T c x.cells
 | .mk v n ws,c,h,hs=>by
  simp only[LTt] at h;obtain⟨a,cs,rfl,hb,hc⟩:=h;simp only[Tm.size] at hs;obtain⟨xs,hxs,ho⟩:=LTc.oi hc (by omega);have hl:=hxs.len;have hsz:=yZo ws;refine⟨.agg [.raw (.bool v),.raw (.string n),.sl ⟨true,.app a,3⟩ xs],⟨_,_,rfl,.inr rfl,hxs⟩,.cons (.refl _) (.cons (.refl _) (.cons ?_ (.nil _)))⟩;rw[<- hl];exact .sl a _ _ xs _ rfl (by omega) (by omega) (zJ1 hxs) hb (by rw[lLa,hc.len,yWv];simp only;omega) (ho.front (rest:=mksT 12))
theorem LTc.oi {T:ISt}:∀ {l:List Tm} {c:List IV},LTc T l c->yQ8 l<=1099511627776->∃xs,IsTms l xs/\OIc T c (xs.flatMap IV.cells)
 | [],c,h,_=>by
  simp only[LTc] at h;subst h;exact⟨[],rfl,.nil _⟩
 | t::l,c,h,hs=>by
  simp only[LTc] at h;obtain⟨a,b,rfl,h2,h3⟩:=h;simp only[yQ8] at hs;obtain⟨x,hx,hxo⟩:=LTt.oi h2 (by omega);obtain⟨xs,hxs,hxso⟩:=LTc.oi h3 (by omega);exact⟨x::xs,⟨x,xs,rfl,hx,hxs⟩,by rw[List.flatMap_cons];exact OIc.append hxo hxso⟩
end
mutual
theorem LFf.oi {T:ISt}:∀ {t:Fm} {c:List IV},LFf T t c->t.size<=1099511627776->∃x,IsFm t x/\OIc T c x.cells
 | .mk o n ws sub,c,h,hs=>by
  simp only[LFf] at h;obtain⟨a,cs,b,ds,ho,rfl,hb,hc,hd,he⟩:=h;simp only[Fm.size] at hs;obtain⟨xs,hxs,hox⟩:=LTc.oi hc (by omega);obtain⟨ys,hys,hoy⟩:=LFc.oi he (by omega);have hl:=hxs.len;have hm:=hys.len;have hsz:=yZo ws;have hsz2:=yQw sub;refine⟨.agg [.raw (.int .u8 o),.raw (.string n),.sl ⟨true,.app a,3⟩ xs,.sl ⟨true,.app b,4⟩ ys],⟨_,_,_,_,rfl,ho,.inr rfl,hxs,.inr rfl,hys⟩,.cons (.refl _) (.cons (.refl _) (.cons ?_ (.cons ?_ (.nil _))))⟩
  ·rw[<- hl];exact .sl a _ _ xs _ rfl (by omega) (by omega) (zJ1 hxs) hb (by rw[lLa,hc.len,yWv];simp only;omega) (hox.front (rest:=mksT 12))
  ·rw[<- hm];exact .sl b _ _ ys _ rfl (by omega) (by omega) (λy hy=>xJj (yJ8 hys y hy)) hd (by rw[lLa,he.len,yWw];simp only;omega) (hoy.front (rest:=mksF 12))
theorem LFc.oi {T:ISt}:∀ {l:List Fm} {c:List IV},LFc T l c->yQ7 l<=1099511627776->∃xs,IsFms l xs/\OIc T c (xs.flatMap IV.cells)
 | [],c,h,_=>by
  simp only[LFc] at h;subst h;exact⟨[],rfl,.nil _⟩
 | t::l,c,h,hs=>by
  simp only[LFc] at h;obtain⟨a,b,rfl,h2,h3⟩:=h;simp only[yQ7] at hs;obtain⟨x,hx,hxo⟩:=LFf.oi h2 (by omega);obtain⟨xs,hxs,hxso⟩:=LFc.oi h3 (by omega);exact⟨x::xs,⟨x,xs,rfl,hx,hxs⟩,by rw[List.flatMap_cons];exact OIc.append hxo hxso⟩
end
theorem LTt.agg {T:ISt}{t:Tm}{c:List IV}(h:LTt T t c)(hs:t.size<=1099511627776):∃x,IsTm t x/\OI T (.agg c) x:=by
 obtain⟨x,hx,ho⟩:=h.oi hs;obtain⟨_,_,_,_,rfl⟩:=hx.agg;exact⟨_,hx,ho.agg⟩
theorem LFf.agg {T:ISt}{t:Fm}{c:List IV}(h:LFf T t c)(hs:t.size<=1099511627776):∃x,IsFm t x/\OI T (.agg c) x:=by
 obtain⟨x,hx,ho⟩:=h.oi hs;obtain⟨_,_,_,_,_,_,rfl⟩:=hx.agg;exact⟨_,hx,ho.agg⟩
theorem LFc.sl {T:ISt}{l:List Fm}{c:List IV}{a:Nat}(h:LFc T l c)(hb:T a=some (.box (c++mksF 12)))(hs:yQ7 l<=1099511627776):∃xs,IsFms l xs/\OI T (.raw (.slice (some ⟨a,0,none⟩) l.length (l.length+12))) (.sl ⟨true,.app a,4⟩ xs):=by
 obtain⟨ys,hys,hoy⟩:=h.oi hs;have hm:=hys.len;have hsz2:=yQw l;refine⟨ys,hys,?_⟩;rw[<- hm];exact .sl a _ _ ys _ rfl (by omega) (by omega) (λy hy=>xJj (yJ8 hys y hy)) hb (by rw[lLa,h.len,yWw];simp only;omega) (hoy.front (rest:=mksF 12))
theorem LSq.oi {T:ISt}{s:Sq}{x:IV}(h:LSq T s x)(hl:yQ7 s.l<=1099511627776)(hr:yQ7 s.r<=1099511627776):∃y,IsSq s y/\OI T x y:=by
 obtain⟨a,cs,b,ds,rfl,h2,h3,h4,h5⟩:=h;obtain⟨xs,hxs,ho⟩:=h3.sl h2 hl;obtain⟨ys,hys,ho'⟩:=h5.sl h4 hr;exact⟨.agg [.sl ⟨true,.app a,4⟩ xs,.sl ⟨true,.app b,4⟩ ys],⟨_,_,_,_,rfl,.inr rfl,hxs,.inr rfl,hys⟩,(OIc.cons ho (.cons ho' (.nil _))).agg⟩
def tmPF:FuncId->List IV->Option IV
 | g,[.raw (.int .i64 k),.raw (.int .i64 i)]=>if g=147/\0<=k/\0<=i then some (.agg (mkC k.toNat i.toNat)) else none
 | _,_=>none
def fmPF:FuncId->List IV->Option IV
 | g,[.raw (.int .i64 k),.raw (.int .i64 i)]=>if g=138/\0<=k/\0<=i then some (.agg (mkD k.toNat i.toNat)) else none
 | _,_=>none
theorem wWz:∀g us v,tmPF g us=some v->entI prog g=true/\∀st,ICall prog gl g us st (λr st'=>r=v/\st'=st):=by
 intro g us v h;unfold tmPF at h;split at h
 ·rename_i k i;split at h
  ·rename_i hc;obtain⟨rfl,hk,hi⟩:=hc;cases h;refine⟨by simp only[go_sem],λst=>?_⟩;have:=zZ2 gl k.toNat i.toNat st
   rwa [Int.toNat_of_nonneg hk,Int.toNat_of_nonneg hi] at this
  ·cases h
 ·cases h
theorem wGh:∀g us v,fmPF g us=some v->entI prog g=true/\∀st,ICall prog gl g us st (λr st'=>r=v/\st'=st):=by
 intro g us v h;unfold fmPF at h;split at h
 ·rename_i k i;split at h
  ·rename_i hc;obtain⟨rfl,hk,hi⟩:=hc;cases h;refine⟨by simp only[go_sem],λst=>?_⟩;have:=zZ3 gl k.toNat i.toNat st
   rwa [Int.toNat_of_nonneg hk,Int.toNat_of_nonneg hi] at this
  ·cases h
 ·cases h
theorem vQw (j:Nat):tmPF 147 [.raw (.int .i64 1),.raw (.int .i64 (j:Int))]=some (.agg (mkC 1 j)):=by simp[tmPF]
theorem vXh (j:Nat):fmPF 138 [.raw (.int .i64 1),.raw (.int .i64 (j:Int))]=some (.agg (mkD 1 j)):=by simp[fmPF]
theorem LTc.get {T:ISt}:∀ {l:List Tm} {cs rest:List IV} {k:Nat} {t:Tm},LTc T l cs->l[k]?=some t->∃c,LTt T t c/\k*3+3<=(cs++rest).length/\((cs++rest).drop (k*3)).take 3=c
 | [],_,_,k,_,_,h=>by simp at h
 | a::l,cs,rest,0,t,h,hk=>by
  simp only[LTc] at h;obtain⟨c,d,rfl,h2,h3⟩:=h;cases hk;refine⟨c,h2,by simp only[lLa,h2.len];omega,?_⟩;rw[Nat.zero_mul,List.drop_zero,List.append_assoc,List.take_left' h2.len]
 | a::l,cs,rest,k+1,t,h,hk=>by
  simp only[LTc] at h;obtain⟨c,d,rfl,h2,h3⟩:=h;obtain⟨e,he1,he2,he3⟩:=LTc.get (rest:=rest) h3 (by simpa using hk);have hc:=h2.len;refine⟨e,he1,by simp only[lLa] at he2 ⊢;omega,?_⟩;rw[List.append_assoc,show (k+1)*3=c.length+k*3 by omega,<- List.drop_drop,List.drop_left];exact he3
theorem LFc.get {T:ISt}:∀ {l:List Fm} {cs rest:List IV} {k:Nat} {t:Fm},LFc T l cs->l[k]?=some t->∃c,LFf T t c/\k*4+4<=(cs++rest).length/\((cs++rest).drop (k*4)).take 4=c
 | [],_,_,k,_,_,h=>by simp at h
 | a::l,cs,rest,0,t,h,hk=>by
  simp only[LFc] at h;obtain⟨c,d,rfl,h2,h3⟩:=h;cases hk;refine⟨c,h2,by simp only[lLa,h2.len];omega,?_⟩;rw[Nat.zero_mul,List.drop_zero,List.append_assoc,List.take_left' h2.len]
 | a::l,cs,rest,k+1,t,h,hk=>by
  simp only[LFc] at h;obtain⟨c,d,rfl,h2,h3⟩:=h;obtain⟨e,he1,he2,he3⟩:=LFc.get (rest:=rest) h3 (by simpa using hk);have hc:=h2.len;refine⟨e,he1,by simp only[lLa] at he2 ⊢;omega,?_⟩;rw[List.append_assoc,show (k+1)*4=c.length+k*4 by omega,<- List.drop_drop,List.drop_left];exact he3
theorem xV5:∀ {m j:Nat},j<m->((mksT m).drop (j*3)).take 3=mkC 1 j
 | m+1,j,h=>by
  simp only[mksT];by_cases hj:j=m
  ·subst hj;rw[List.drop_left' (yWv j)];rfl
  ·have:=xV5 (show j<m by omega);have hl:=yWv m;rw[List.drop_append_of_le_length (by omega),List.take_append_of_le_length (by rw[List.length_drop];omega)];exact this
theorem xV6:∀ {m j:Nat},j<m->((mksF m).drop (j*4)).take 4=mkD 1 j
 | m+1,j,h=>by
  simp only[mksF];by_cases hj:j=m
  ·subst hj;rw[List.drop_left' (yWw j)];rfl
  ·have:=xV6 (show j<m by omega);have hl:=yWw m;rw[List.drop_append_of_le_length (by omega),List.take_append_of_le_length (by rw[List.length_drop];omega)];exact this
theorem wG3 (k j:Nat):IsTm (.mk false (mkT k j) []) (.agg (mkC k j)):=⟨_,_,rfl,.inl rfl,rfl⟩
theorem wG4 (k j:Nat):IsFm (.mk 0 (mkT k j) [] []) (.agg (mkD k j)):=⟨_,_,_,_,rfl,by omega,.inl rfl,rfl,.inl rfl,rfl⟩
theorem wQj {st:ISt}(h:flatSt st):∀b o,st b=some o->(∃cs,o=.box cs)\/wZd o:=λb o hb=>.inr (h b o hb)
theorem vX0 {st:ISt}{x x0 y:IV}(ho:OI st x x0):Lents st [x,y] [age x0,y]:=⟨_,_,rfl,.inr ⟨x0,ho,rfl⟩,_,_,rfl,.inl rfl,rfl⟩
theorem zG1 {f:FuncId}{x x0 y:IV}{b:Bool}{st T:ISt}(hf:flatSt st)(hT:subSt T st)(ho:OI T x x0)(h:∀st,ICall prog gl f [age x0,y] st (λr st'=>r=.raw (.bool b)/\st'=st)) :
  ICall prog gl f [x,y] st (λr st'=>r=.raw (.bool b)/\st'=st) :=
 (ICall.lent (K:=λr=>r=.raw (.bool b)) (wQj hf) (vX0 (ho.mono λ_ _ h=>hT _ _ h)) ((h (yYp st)).mono λr st' k=>⟨k.2,by rw[k.1];trivial,k.1⟩)).mono λr st' k=>⟨k.2,k.1⟩
def KTP (us:List Tm):Prop:=∀(tg:Tag) (xs:List IV) (_:okEs tg 3) (_:IsTms us xs) (_:yQ8 us<=1099511627776) (a:Nat) (cs:List IV) (st:ISt) (_:flatSt st) (_:st a=some (.box (cs++mksT 12))) (_:LTc st us cs),
 ICall prog gl 110 [.raw (.slice (some ⟨a,0,none⟩) us.length (us.length+12)),.sl tg xs] st (λr st'=>r=.raw (.bool true)/\st'=st)
def KFP (us:List Fm):Prop:=∀(tg:Tag) (xs:List IV) (_:okEs tg 4) (_:IsFms us xs) (_:yQ7 us<=1099511627776) (a:Nat) (cs:List IV) (st:ISt) (_:flatSt st) (_:st a=some (.box (cs++mksF 12))) (_:LFc st us cs),
 ICall prog gl 104 [.raw (.slice (some ⟨a,0,none⟩) us.length (us.length+12)),.sl tg xs] st (λr st'=>r=.raw (.bool true)/\st'=st)
theorem zGu (v:Bool)(n:ByteArray)(us:List Tm)(IH:KTP gl us)(x:IV)(hx:IsTm (.mk v n us) x)(hs:(Tm.mk v n us).size<=1099511627776)(c:List IV)(st:ISt)(hf:flatSt st)(hc:LTt st (.mk v n us) c) :
  ICall prog gl 63 [.agg c,x] st (λr st'=>r=.raw (.bool true)/\st'=st):=by
 obtain⟨y,hy,ho⟩:=hc.agg hs;have h1:=zG1 gl hf (subSt.refl _) ho (λst=>zJv gl _ _ _ _ hy.aged hx st);rw[yQl.2 rfl] at h1;simp only[LTt] at hc;obtain⟨a,cs,rfl,hb,hc⟩:=hc;obtain⟨tx,cx,rfl,htx,hcx⟩:=hx.mk;simp only[Tm.size] at hs;have h2:=IH tx cx htx hcx (by omega) a cs st hf hb hc;refine iI func63 ?_;simp only[go_sem,zE,zA,zL];refine h1.mono ?_;rintro _ st ⟨rfl,rfl⟩;simp only[go_sem,zE,zA];refine h2.mono ?_;rintro _ st ⟨rfl,rfl⟩;simp only[go_sem,zE];exact yQ0 ⟨rfl,rfl⟩
theorem wW5 (k j:Nat):IsTm (.mk false (mkT k j) []) (.agg (mkC k j)):=wG3 k j
theorem wW4 (k j:Nat):IsFm (.mk 0 (mkT k j) [] []) (.agg (mkD k j)):=wG4 k j
theorem zVm (us:List Tm)(IH:∀v n l,Tm.mk v n l∈us->KTP gl l):KTP gl us:=by
 intro tg xs htg hxs hsz a cs st hf hb hc;have hlsz:=yZo us;have step:∀t∈us,∀(x:IV) (_:IsTm t x) (_:t.size<=1099511627776) (c:List IV) (_:LTt st t c),ICall prog gl 63 [.agg c,x] st (λr st'=>r=.raw (.bool true)/\st'=st):=λt ht x hx hs c hc=>by
  obtain⟨v,n,l⟩:=t;exact zGu gl v n l (IH _ _ _ ht) x hx hs c st hf hc
 have hbl:(cs++mksT 12).length=(us.length+12)*3:=by rw[lLa,hc.len,yWv];omega
 have hwn:IntKind.i64.wrap ((us.length:Int)+12)=((us.length+12:Nat):Int):=by rw[w64]<;>omega
 refine ICall.intro (c:=cfp prog gl [31,48,1000147] [] tmPF (wWz gl)) func110 rfl (by show _<=58;simp) (by kernel_rfl) ?_;simp only[go_sem,zE,reduceCtorEq,hxs.len,decide_true];intro _;simp only[go_sem,reduceCtorEq,hwn,Nat.le_add_right,yKd (Nat.le_refl (us.length+12)),Nat.zero_mul];intro _;refine LoopC.ctr (us.length+12) (λk fr st' ds=>fr 0=.iv (.raw (.slice (some ⟨a,0,none⟩) us.length (us.length+12)))/\fr 1=.iv (.sl tg xs)/\fr 5=.iv (.raw (.slice (some ⟨a,0,none⟩) (us.length+12) (us.length+12)))/\fr 6=.iv (.raw (.int .i64 k))/\st'=st/\ds=[]) ?_ ?_ ?_
 ·simp only[go_sem,zE,reduceCtorEq]
  first|rfl|exact⟨rfl,rfl⟩
 ·rintro k fr st _ hlt ⟨f0,f1,f5,f6,rfl,rfl⟩;by_cases hk:k<us.length
  ·obtain⟨t,ht⟩:=yQ2 hk;obtain⟨y,hky,hy⟩:=hxs.get ht;obtain⟨c,hct,hr1,hr2⟩:=hc.get (rest:=mksT 12) ht;obtain⟨h1,h2⟩:=yZ9 ht;have hcall:=step t (lMg ht) y hy (by omega) c hct;have hgeq:decide (((us.length:Nat):Int)<=(k:Nat))=false:=dEf (by omega);obtain⟨v5,n5,t5,x5,rfl⟩:=hy.agg;simp only[go_sem,zE,zB,zA,f1,f5,f6,lt_i hlt,lt_i hk,hxs.len,yQ1 htg,iNn,hky,hb,hr1,hr2,fits,hlt];refine hcall.mono ?_;rintro _ st ⟨rfl,rfl⟩;simp only[go_sem,zE,reduceCtorEq,f0,f1,f5,f6,hxs.len,hgeq,yQa hlt (show us.length+12<=281474976710656 by omega)]
  ·obtain⟨j,hj⟩:∃j,k=us.length+j:=⟨k-us.length,by omega⟩
   have hnlt:decide (((k:Nat):Int)<us.length)=false:=dEf (by omega);have hgeq:decide (((us.length:Nat):Int)<=(k:Nat))=true:=dEt (by omega);have hw:IntKind.i64.wrap (((k:Nat):Int)-us.length)=((j:Nat):Int):=by rw[w64]<;>omega
   have hr1:k*3+3<=(cs++mksT 12).length:=by rw[hbl];omega
   have hr2:((cs++mksT 12).drop (k*3)).take 3=mkC 1 j:=by
    have hcl:cs.length=us.length*3:=hc.len;rw[show k*3=cs.length+j*3 by omega,<- List.drop_drop,List.drop_left];exact xV5 (by omega)
   have hsame:=zJv gl _ _ _ _ (wW5 1 j) (wW5 1 j) st;rw[yQl.2 rfl] at hsame;have hall:(mkC 1 j).all IV.one=true:=rfl;have hml:(mkC 1 j).length=3:=rfl;simp only[go_sem,zE,zB,zA,f1,f5,f6,lt_i hlt,hnlt,hgeq,hxs.len,iNn,hb,hr1,hr2,fits,hlt,hw,vQw];intros;refine hsame.mono ?_;rintro _ st ⟨rfl,rfl⟩;simp only[go_sem,zE,reduceCtorEq,f0,f1,f5,f6,yQa hlt (show us.length+12<=281474976710656 by omega)]
 ·rintro fr st _ ⟨f0,f1,f5,f6,rfl,rfl⟩;simp only[go_sem,zE,f5,f6,yQk (nLi _)];exact yQ0 ⟨rfl,rfl⟩
theorem zQq:∀(k:Nat)(us:List Tm),SizeOf.sizeOf us<k->KTP gl us
 | 0,f,h=>by omega
 | k+1,us,h=>zVm gl us (λv n l ha=>zQq k l (by
   have:=lSm ha;simp at this;omega))
theorem xK4 (us:List Tm):KTP gl us:=zQq gl _ us (Nat.lt_succ_self _)
def KFf (t:Fm):Prop:=∀(x:IV) (_:IsFm t x) (_:t.size<=1099511627776) (c:List IV) (st:ISt) (_:flatSt st) (_:LFf st t c),
 ICall prog gl 62 [.agg c,x] st (λr st'=>r=.raw (.bool true)/\st'=st)
theorem yU2 (us:List Fm)(IH:∀a∈us,KFf gl a):KFP gl us:=by
 intro tg xs htg hxs hsz a cs st hf hb hc;have hlsz:=yQw us;have hbl:(cs++mksF 12).length=(us.length+12)*4:=by rw[lLa,hc.len,yWw];omega
 have hwn:IntKind.i64.wrap ((us.length:Int)+12)=((us.length+12:Nat):Int):=by rw[w64]<;>omega
 refine ICall.intro (c:=cfp prog gl [31,48,1000138] [] fmPF (wGh gl)) func104 rfl (by show _<=58;simp) (by kernel_rfl) ?_;simp only[go_sem,zE,reduceCtorEq,hxs.len,decide_true];intro _;simp only[go_sem,reduceCtorEq,hwn,Nat.le_add_right,yKd (Nat.le_refl (us.length+12)),Nat.zero_mul];intro _;refine LoopC.ctr (us.length+12) (λk fr st' ds=>fr 0=.iv (.raw (.slice (some ⟨a,0,none⟩) us.length (us.length+12)))/\fr 1=.iv (.sl tg xs)/\fr 5=.iv (.raw (.slice (some ⟨a,0,none⟩) (us.length+12) (us.length+12)))/\fr 6=.iv (.raw (.int .i64 k))/\st'=st/\ds=[]) ?_ ?_ ?_
 ·simp only[go_sem,zE,reduceCtorEq]
  first|rfl|exact⟨rfl,rfl⟩
 ·rintro k fr st _ hlt ⟨f0,f1,f5,f6,rfl,rfl⟩;by_cases hk:k<us.length
  ·obtain⟨t,ht⟩:=yQ2 hk;obtain⟨y,hky,hy⟩:=hxs.get ht;obtain⟨c,hct,hr1,hr2⟩:=hc.get (rest:=mksF 12) ht;obtain⟨h1,h2⟩:=yQr ht;have hcall:=IH t (lMg ht) y hy (by omega) c st hf hct;have hgeq:decide (((us.length:Nat):Int)<=(k:Nat))=false:=dEf (by omega);obtain⟨v5,n5,t5,x5,t6,x6,rfl⟩:=hy.agg;simp only[go_sem,zE,zB,zA,f1,f5,f6,lt_i hlt,lt_i hk,hxs.len,yQ1 htg,iNn,hky,hb,hr1,hr2,fits,hlt];refine hcall.mono ?_;rintro _ st ⟨rfl,rfl⟩;simp only[go_sem,zE,reduceCtorEq,f0,f1,f5,f6,hxs.len,hgeq,yQa hlt (show us.length+12<=281474976710656 by omega)]
  ·obtain⟨j,hj⟩:∃j,k=us.length+j:=⟨k-us.length,by omega⟩
   have hnlt:decide (((k:Nat):Int)<us.length)=false:=dEf (by omega);have hgeq:decide (((us.length:Nat):Int)<=(k:Nat))=true:=dEt (by omega);have hw:IntKind.i64.wrap (((k:Nat):Int)-us.length)=((j:Nat):Int):=by rw[w64]<;>omega
   have hr1:k*4+4<=(cs++mksF 12).length:=by rw[hbl];omega
   have hr2:((cs++mksF 12).drop (k*4)).take 4=mkD 1 j:=by
    have hcl:cs.length=us.length*4:=hc.len;rw[show k*4=cs.length+j*4 by omega,<- List.drop_drop,List.drop_left];exact xV6 (by omega)
   have hsame:=yUh gl _ _ _ _ (wW4 1 j) (wW4 1 j) st;rw[yQl.2 rfl] at hsame;have hall:(mkD 1 j).all IV.one=true:=rfl;have hml:(mkD 1 j).length=4:=rfl;simp only[go_sem,zE,zB,zA,f1,f5,f6,lt_i hlt,hnlt,hgeq,hxs.len,iNn,hb,hr1,hr2,fits,hlt,hw,vXh];intros;refine hsame.mono ?_;rintro _ st ⟨rfl,rfl⟩;simp only[go_sem,zE,reduceCtorEq,f0,f1,f5,f6,yQa hlt (show us.length+12<=281474976710656 by omega)]
 ·rintro fr st _ ⟨f0,f1,f5,f6,rfl,rfl⟩;simp only[go_sem,zE,f5,f6,yQk (nLi _)];exact yQ0 ⟨rfl,rfl⟩
theorem zGv (op:Nat)(n:ByteArray)(us:List Tm)(sub:List Fm)(IH:∀a∈sub,KFf gl a):KFf gl (.mk op n us sub):=by
 intro x hx hs c st hf hc;obtain⟨y,hy,ho⟩:=hc.agg hs;have h1:=zG1 gl hf (subSt.refl _) ho (λst=>yUh gl _ _ _ _ hy.aged hx st);rw[yQl.2 rfl] at h1;simp only[LFf] at hc;obtain⟨a,cs,b,ds,_,rfl,hb,hc,hd,he⟩:=hc;obtain⟨tx,cx,ty,cy,rfl,_,htx,hcx,hty,hcy⟩:=hx.mk;simp only[Fm.size] at hs;have h2:=xK4 gl us tx cx htx hcx (by omega) a cs st hf hb hc;have h3:=yU2 gl sub IH ty cy hty hcy (by omega) b ds st hf hd he;refine iI func62 ?_;simp only[go_sem,zE,zA,zL];refine h1.mono ?_;rintro _ st ⟨rfl,rfl⟩;simp only[go_sem,zE,zA];refine h2.mono ?_;rintro _ st ⟨rfl,rfl⟩;simp only[go_sem,zE,zA];refine h3.mono ?_;rintro _ st ⟨rfl,rfl⟩;simp only[go_sem,zE];exact yQ0 ⟨rfl,rfl⟩
theorem zX8:∀(k:Nat)(a:Fm),SizeOf.sizeOf a<k->KFf gl a
 | 0,f,h=>by omega
 | k+1,.mk o n us sub,h=>zGv gl o n us sub (λa ha=>zX8 k a (by
   have:=lSm ha;simp at h;omega))
theorem xG7 (a:Fm):KFf gl a:=zX8 gl _ a (Nat.lt_succ_self _)
theorem zV2 (us:List Fm):KFP gl us:=yU2 gl us (λa _=>xG7 gl a)
theorem xZk (s:Sq)(x y:IV)(hx:IsSq s x)(hl:yQ7 s.l<=1099511627776)(hr:yQ7 s.r<=1099511627776)(st:ISt)(hf:flatSt st)(hc:LSq st s y) :
  ICall prog gl 55 [y,x] st (λr st'=>r=.raw (.bool true)/\st'=st):=by
 obtain⟨z,hz,ho⟩:=hc.oi hl hr;have h1:=zG1 gl hf (subSt.refl _) ho (λst=>yGg gl _ _ _ _ (IsSq.aged hz) hx st);rw[yQl.2 rfl] at h1;obtain⟨a,cs,b,ds,rfl,hb,hc,hd,he⟩:=hc;obtain⟨t1,x1,t2,x2,rfl,e1,i1,e2,i2⟩:=hx;have h2:=zV2 gl s.l t1 x1 e1 i1 hl a cs st hf hb hc;have h3:=zV2 gl s.r t2 x2 e2 i2 hr b ds st hf hd he;refine iI func55 ?_;simp only[go_sem,zE,zA,zL];refine h1.mono ?_;rintro _ st ⟨rfl,rfl⟩;simp only[go_sem,zE,zA];refine h2.mono ?_;rintro _ st ⟨rfl,rfl⟩;simp only[go_sem,zE,zA];refine h3.mono ?_;rintro _ st ⟨rfl,rfl⟩;simp only[go_sem,zE];exact yQ0 ⟨rfl,rfl⟩
