/- Walks: sequents of a calculus; free vari -/
import Derived.Test.YtddfdpbibloljaaGreatDoorQB
set_option linter.all false
open Nat renaming reduceEqDiff → zE,reduceBEq → zB,reduceAdd → zA,reduceMul → zM,reduceLeDiff → zL
namespace Go.Proofs.Tryz
open Go Go.Iv
set_option maxRecDepth 4000
variable (gl:Nat->Option IV)
noncomputable def rB (ca:Nat)(a0 f:Fm):Bool:=fmB ca f&&(decide (ca≠2) || eqF f a0)
theorem wGn (ca:Nat)(a0:Fm):∀l:List Fm,l.all (rB ca a0)=(l.all (fmB ca)&&(decide (ca≠2) || l.all λf=>eqF f a0))
 | []=>by simp
 | f::l=>by
  simp only[List.all_cons,wGn ca a0 l,rB];cases fmB ca f<;>cases l.all (fmB ca)<;>cases decide (ca≠2)<;>simp
theorem wQl (ca:Nat)(s:Sq):yZz ca s=(yK4 ca&&decide (s.l.length<=64)&&decide (s.r.length<=64)&&s.l.all (fmB ca)&&s.r.all (rB ca (s.r.headD fm0))):=by
 rw[wGn];unfold yZz wJu;cases s.r with
 | nil=>simp
 | cons a l=>simp only[List.headD_cons,Bool.and_assoc]
theorem vXe (G:Gl gl)(ca:Nat)(s:Sq)(x:IV)(hx:IsSq s x)(hs:yGd s)(st:ISt):ICall prog gl 19 [.raw (.int .u8 ca),x] st (λr st'=>r=.raw (.bool (yZz ca s))/\st'=st):=by
 obtain⟨l,r⟩:=s;obtain⟨t1,x1,t2,x2,rfl,e1,i1,e2,i2⟩:=hx;obtain⟨hl,hr⟩:=hs;simp only at i1 i2 hl hr;rw[wQl];simp only;refine iI func19 ?_;simp only[go_sem,zA,reduceCtorEq];refine (xK6 gl ca _).mono ?_;rintro _ st ⟨rfl,rfl⟩;cases hk:yK4 ca
 ·simp only[go_sem,zE];exact yQ0 ⟨by simp,rfl⟩
 by_cases h1:l.length<=64
 case neg =>
  have e:decide ((64:Int)<(l.length:Int))=true:=dEt (by omega);simp only[go_sem,zE,i1.len,e];intro _;exact yQ0 ⟨by simp[h1],rfl⟩
 by_cases h2:r.length<=64
 case neg =>
  have e:decide ((64:Int)<(l.length:Int))=false:=dEf (by omega);have e':decide ((64:Int)<(r.length:Int))=true:=dEt (by omega);simp only[go_sem,zE,i1.len,i2.len,e,e'];intro _ _;exact yQ0 ⟨by simp[h2],rfl⟩
 have e:decide ((64:Int)<(l.length:Int))=false:=dEf (by omega);have e':decide ((64:Int)<(r.length:Int))=false:=dEf (by omega);simp only[go_sem,zE,i1.len,i2.len,e,e'];intros;refine LoopC.ctr l.length (λk fr st' ds=>(l.take k).all (fmB ca)=true/\fr 0=.iv (.raw (.int .u8 ca))/\fr 3=.box [.sl t1 x1,.sl t2 x2]/\fr 25=.iv (.sl t1 x1)/\fr 26=.iv (.raw (.int .i64 l.length))/\fr 27=.iv (.raw (.int .i64 k))/\st'=st/\ds=[]) ?_ ?_ ?_
 ·simp only[go_sem,zE,reduceCtorEq]
  first|rfl|exact⟨rfl,rfl⟩
 ·rintro k fr st1 _ hlt ⟨hn,f0,f3,f25,f26,f27,rfl,rfl⟩;obtain⟨a,ha⟩:=yQ4 hlt;obtain⟨y,hky,hy⟩:=i1.get ha;have hcall:=zV1 gl G ca a y hy (hl a (lMg ha)) st1;obtain⟨o5,n5,t5,x5,t6,x6,rfl⟩:=hy.agg;simp only[go_sem,zE,zB,zA,zL,reduceCtorEq,f0,f25,f26,f27,lt_i hlt,yQ3 e1,iNn,hky,fits];refine hcall.mono ?_;rintro _ _ ⟨rfl,rfl⟩;cases hr:fmB ca a
  ·simp only[go_sem];refine yQ0 ⟨?_,rfl⟩;have:l.all (fmB ca)=false:=List.all_eq_false.2 ⟨a,lMg ha,by simp[hr]⟩;simp[this]
  ·simp only[go_sem,zE,reduceCtorEq,f0,f3,f25,f26,f27,yQf hlt (show l.length<=281474976710656 by omega)];rw[yQ7 ha,List.all_append,hn];simp[hr]
 ·rintro fr st1 _ ⟨hn,f0,f3,f25,f26,f27,rfl,rfl⟩;rw[lTl] at hn;simp only[go_sem,zE,f3,f26,f27,i2.len,yQo (nLi _)];intro _;refine LoopC.ctr r.length (λk fr st' ds=>(r.take k).all (rB ca (r.headD fm0))=true/\fr 0=.iv (.raw (.int .u8 ca))/\fr 3=.box [.sl t1 x1,.sl t2 x2]/\fr 37=.iv (.sl t2 x2)/\fr 38=.iv (.raw (.int .i64 r.length))/\fr 39=.iv (.raw (.int .i64 k))/\st'=st1/\ds=[]) ?_ ?_ ?_
  ·simp only[go_sem,zE,reduceCtorEq,f0,f3]
   first|rfl|exact⟨rfl,rfl⟩
  ·rintro k fr st2 _ hlt ⟨hm,f0,f3,f37,f38,f39,rfl,rfl⟩;obtain⟨a,ha⟩:=yQ4 hlt;obtain⟨y,hky,hy⟩:=i2.get ha;obtain⟨a0,ha0⟩:=yQ4 (show 0<r.length by omega);obtain⟨y0,hky0,hy0⟩:=i2.get ha0;have hd0:r.headD fm0=a0:=by cases r with|nil=>cases ha0|cons b r=>simpa using ha0
   have hcall:=zV1 gl G ca a y hy (hr a (lMg ha)) st2;have heq:=λst=>wJz gl G a a0 y y0 hy hy0 (hr a (lMg ha)) (hr a0 (lMg ha0)) st;rw[hd0] at hm ⊢;have hout:rB ca a0 a=false->r.all (rB ca a0)=false:=λhb=>List.all_eq_false.2 ⟨a,lMg ha,by simp[hb]⟩;have hin:rB ca a0 a=true->(r.take (k+1)).all (rB ca a0)=true:=λhb=>by
    rw[yQ7 ha,List.all_append,hm];simp[hb]
   obtain⟨o5,n5,t5,x5,t6,x6,rfl⟩:=hy.agg;obtain⟨o7,n7,t7,x7,t8,x8,rfl⟩:=hy0.agg;simp only[go_sem,zE,zB,zA,zL,reduceCtorEq,f0,f37,f38,f39,lt_i hlt,yQ3 e2,iNn,hky,fits];refine hcall.mono ?_;rintro _ _ ⟨rfl,rfl⟩;cases hr:fmB ca a
   ·simp only[go_sem,zE];exact yQ0 ⟨by rw[hout (by simp[rB,hr])];simp,rfl⟩
   by_cases hj:ca=2
   ·have ej:decide ((ca:Int)=2)=true:=dEt (by omega);simp only[go_sem,zE,zB,zA,zL,reduceCtorEq,ej,f0,f3,yQ3 e2,hky0,fits,Int.le_refl,Int.toNat_zero];refine (heq _).mono ?_;rintro _ _ ⟨rfl,rfl⟩;cases hq:eqF a a0
    ·simp only[go_sem,zE];exact yQ0 ⟨by rw[hout (by simp[rB,hj,hq])];simp,rfl⟩
    ·simp only[go_sem,zE,reduceCtorEq,f0,f3,f37,f38,f39,yQf hlt (show r.length<=281474976710656 by omega)];exact hin (by simp[rB,hr,hq])
   ·have ej:decide ((ca:Int)=2)=false:=dEf (by omega);simp only[go_sem,zE,reduceCtorEq,ej,f0,f3,f37,f38,f39,yQf hlt (show r.length<=281474976710656 by omega)];exact hin (by simp[rB,hr,hj])
  ·rintro fr st2 _ ⟨hm,f0,f3,f37,f38,f39,rfl,rfl⟩;rw[lTl] at hm;simp only[go_sem,f38,f39,yQo (nLi _)];exact yQ0 ⟨by rw[hn,hm];simp[h1,h2],rfl⟩
theorem wQ6 (tg:Tag)(htg:okEs tg 1)(l:List ByteArray)(s:ByteArray)(st:ISt):ICall prog gl 174 [.sl tg (strI l),.raw (.string s)] st (λr st'=>r=.raw (.bool (memB l s))/\st'=st):=by
 have hidx:ICall prog gl 206 [.sl tg (strI l),.raw (.string s)] st (λr st'=>(∃n:Int,r=.raw (.int .i64 n)/\decide (0<=n)=memB l s)/\st'=st):=by
  refine iI func206 ?_;simp only[go_sem,reduceCtorEq,xXv];intro _;refine LoopC.ctr l.length (λk fr st' ds=>memB (l.take k) s=false/\fr 0=.iv (.sl tg (strI l))/\fr 1=.iv (.raw (.string s))/\fr 7=.iv (.raw (.int .i64 l.length))/\fr 8=.iv (.raw (.int .i64 k))/\st'=st/\ds=[]) ?_ ?_ ?_
  ·simp only[go_sem,zE,reduceCtorEq];exact⟨rfl,rfl⟩
  ·rintro k fr st1 _ hlt ⟨hn,f0,f1,f7,f8,rfl,rfl⟩;obtain⟨a,ha⟩:=yQ4 hlt;by_cases hr:s=a
   ·subst hr;simp only[go_sem,zE,reduceCtorEq,f0,f1,f7,f8,lt_i hlt,yQ3 htg,iNn,xVo ha,fits,decide_true];refine yQ0 ⟨⟨_,rfl,?_⟩,rfl⟩;rw[dEt (iNn k)];exact (yJg.2 (lMg ha)).symm
   ·simp only[go_sem,zE,reduceCtorEq,f0,f1,f7,f8,lt_i hlt,yQ3 htg,iNn,xVo ha,fits,dEf hr,yQf hlt (show l.length<=281474976710656 by omega)];rw[zXz] at hn ⊢;rw[yQ7 ha,List.mem_append,List.mem_singleton];rintro (h|h)
    ·exact hn h
    ·exact hr h
  ·rintro fr st1 _ ⟨hn,f0,f1,f7,f8,rfl,rfl⟩;rw[lTl] at hn;simp only[go_sem,f7,f8,yQo (nLi _)];exact yQ0 ⟨⟨_,rfl,by rw[hn];rfl⟩,rfl⟩
 refine iI func174 ?_;simp only[go_sem,zE,zA,reduceCtorEq];refine hidx.mono ?_;rintro _ _ ⟨⟨n,rfl,hn⟩,rfl⟩;simp only[go_sem,hn];exact yQ0 ⟨rfl,rfl⟩
theorem wJn (T:Gt gl)(f:Fm)(y:IV)(hy:IsFm f y)(hs:f.size<=1000000)(hf:f.right=true)(s:ByteArray)(st:ISt) :
  ICall prog gl 173 [y,.cptr (.raw (.string s))] st (λr st'=>r=.raw (.bool (memB (frF f) s))/\st'=st):=by
 have h1:=λst=>vGa gl T f y hy (by omega) (λq hq=>by have:=vQv (wU8 f (yGq hf).1 q hq);omega) st;obtain⟨o5,n5,t5,x5,t6,x6,rfl⟩:=hy.agg;refine ICall.intro (c:=cf prog gl [] [(1,[0,2,1,3,4])]) func173 rfl (by show _<=8;simp) (by kernel_rfl) ?_;simp only[go_sem,zE,zA,zL,fits];refine (h1 _).mono ?_;rintro _ _ ⟨tg,l,rfl,htg,hl,rfl⟩;simp only[go_sem,zE,zA];refine (wQ6 gl tg htg l s _).mono ?_;rintro _ _ ⟨rfl,rfl⟩;simp only[go_sem];refine yQ0 ⟨?_,rfl⟩;have:memB l s=memB (frF f) s:=by
  rw[Bool.eq_iff_iff,yJg,yJg];exact hl.2 s
 rw[this]
theorem vVy (T:Gt gl)(s:Sq)(x:IV)(hx:IsSq s x)(hs:yGd s)(hr:(∀f∈s.l,f.right=true)/\∀f∈s.r,f.right=true)(n:ByteArray)(st:ISt) :
  ICall prog gl 130 [x,.raw (.string n)] st (λr st'=>r=.raw (.bool (zQn s n))/\st'=st):=by
 obtain⟨t1,x1,t2,x2,rfl,e1,i1,e2,i2⟩:=hx;have h1:=λst=>yW7 gl 173 [.cptr (.raw (.string n))] (by simp only[go_sem]) s.l (λf=>memB (frF f) n) (λa ha y hy st=>wJn gl T a y hy (hs.1 a ha) (hr.1 a ha) n st) t1 x1 e1 i1 st;have h2:=λst=>yW7 gl 173 [.cptr (.raw (.string n))] (by simp only[go_sem]) s.r (λf=>memB (frF f) n) (λa ha y hy st=>wJn gl T a y hy (hs.2 a ha) (hr.2 a ha) n st) t2 x2 e2 i2 st;refine ICall.intro (c:=cf prog gl [] [] [3]) func130 rfl (by show _<=17;simp) (by kernel_rfl) ?_;simp only[go_sem,zE,zA];refine (h1 _).mono ?_;rintro _ _ ⟨rfl,rfl⟩;cases hq:s.l.any λf=>memB (frF f) n
 ·simp only[go_sem,zE,zA];refine (h2 _).mono ?_;rintro _ _ ⟨rfl,rfl⟩;simp only[go_sem,zE];exact yQ0 ⟨by simp[zQn,hq],rfl⟩
 ·simp only[go_sem,zE];exact yQ0 ⟨by simp[zQn,hq],rfl⟩
theorem yX0 (f:Fm)(l:Sb):(yX5 f l).1.size<=400:=by
 unfold yX5;split
 ·split
  ·rename_i h;simp only[bAt,dTe] at h;exact h.1
  ·show fm0.size<=400;decide
 ·show fm0.size<=400;decide
theorem vZm:IsFm fm0 (.agg [.raw (.int .u8 0),.raw (.string ⟨#[]⟩),.sl ⟨true,.nil,0⟩ [],.sl ⟨true,.nil,0⟩ []]):=wY5 _ _ (.inl rfl) (.inl rfl)
theorem xVn {sub:List Fm}{xs:List IV}(h:IsFms sub xs)(k:Nat):∃y,IsFm ((sub[k]?).getD fm0) y/\(sub.length<=k->y=.agg [.raw (.int .u8 0),.raw (.string ⟨#[]⟩),.sl ⟨true,.nil,0⟩ [],.sl ⟨true,.nil,0⟩ []])/\(k<sub.length->xs[k]?=some y):=by
 by_cases hk:k<sub.length
 ·obtain⟨a,ha⟩:=yQ4 hk;obtain⟨y,hy,hf⟩:=h.get ha;exact⟨y,by rw[ha];exact hf,λhc=>by omega,λ_=>hy⟩
 ·exact⟨_,by rw[List.getElem?_eq_none (by omega)];exact vZm,λ_=>rfl,λhc=>absurd hc hk⟩
def AdR (st:ISt)(q:List Sq×Nat)(r:IV)(st':ISt):Prop:=∃tg xs,r=.tup [.sl tg xs,.raw (.int .i64 q.2)]/\okEs tg 2/\IsSqs q.1 xs/\st'=st
def AdRD (st:ISt)(q:List Sq×Nat)(r:IV)(st':ISt):Prop:=∃tg xs,r=.tup [.sl tg xs,.raw (.int .i64 q.2)]/\okEs tg 2/\appT q.1.length tg/\IsSqsD q.1 xs/\st'=st
theorem AdRD.w {st:ISt}{q:List Sq×Nat}(r:IV)(st':ISt):AdRD st q r st'->AdR st q r st':=λ⟨tg,xs,h1,h2,_,h4,h5⟩=>⟨tg,xs,h1,h2,h4.w,h5⟩
theorem yQt {o:Nat}{n:ByteArray}{us:List Tm}{sub:List Fm}(h:(Fm.mk o n us sub).size<=1000000)(k:Nat):((sub[k]?).getD fm0).size<=1000000:=by
 cases ha:sub[k]? with
 | none=>show fm0.size<=1000000;decide
 | some a =>
  have:=(yZ6 ha).2;simp only[Fm.size] at h;show a.size<=1000000;omega
theorem yQn {ca rule:Nat}{r:Rw}{main:Fm}{term:Tm}{name:ByteArray}(h:fmB ca main=true)(h':r.op=0\/main.op=r.op):yJ7 ca rule r main term name =
  if r.asks=0 then (addS ca rule main ((main.subs[0]?).getD fm0) ((main.subs[1]?).getD fm0),0)
  else if !(if r.asks=2 then Tm.mk true name [] else term).ok then ([],193)
  else if (yX5 ((main.subs[0]?).getD fm0) [(main.nm,if r.asks=2 then Tm.mk true name [] else term)]).2≠0 then ([],193)
  else (addS ca rule main (yX5 ((main.subs[0]?).getD fm0) [(main.nm,if r.asks=2 then Tm.mk true name [] else term)]).1 ((main.subs[1]?).getD fm0),0):=by
 have e:(!fmB ca main || (decide (r.op≠0)&&decide (main.op≠r.op)))=false:=by
  rw[h];rcases h' with h'|h'<;>simp[h']
 simp only[yJ7,e,bFt,if_false]
set_option maxHeartbeats 2000000 in
theorem wUf (G:Gl gl)(T:Gt gl)(ca rule:Nat)(r:Rw)(hr:rowS ca rule=some r)(main:Fm)(y:IV)(hy:IsFm main y)(hm:main.size<=1000000)(term:Tm)(z:IV)(hz:IsTm term z)(ht:term.size<=1000000)(name:ByteArray)(st:ISt) :
  ICall prog gl 129 [rwI ca rule r,.raw (.int .u8 ca),y,z,.raw (.string name)] st (AdRD st (yJ7 ca rule r main term name)):=by
 obtain⟨hadd,hent⟩:=wYr gl hr;have hf:=λst=>zV1 gl G ca main y hy hm st;obtain⟨rl,rr,op,asks⟩:=r;obtain⟨o,n,us,sub⟩:=main;have hy0:=hy;obtain⟨t1,x1,t2,x2,rfl,ho,e1,i1,e2,i2⟩:=hy.mk;obtain⟨v,un,tz,xz,rfl⟩:∃v un tz xz,z=.agg [.raw (.bool v),.raw (.string un),.sl tz xz]:=by
  obtain⟨v,un,us⟩:=term;obtain⟨tz,xz,rfl,_⟩:=hz.mk;exact⟨_,_,_,_,rfl⟩
 obtain⟨z1,hz1,hz1n,hz1s⟩:=xVn i2 0;obtain⟨z2,hz2,hz2n,hz2s⟩:=xVn i2 1;have hE:fmB ca (.mk o n us sub)=false->yJ7 ca rule ⟨rl,rr,op,asks⟩ (.mk o n us sub) term name=([],192):=λh=>by simp only[yJ7,h];rfl
 refine iI func129 ?_;simp only[go_sem,zE,zA,zL,rwI];refine (hf _).mono ?_;rintro _ _ ⟨rfl,rfl⟩;cases hfm:fmB ca (.mk o n us sub)
 ·simp only[go_sem,zE];exact yQ0 (by rw[hE hfm];exact⟨_,_,rfl,.inl rfl,.inl rfl,rfl,rfl⟩)
 by_cases hop:op=0\/o=op
 case neg =>
  have hq:yJ7 ca rule ⟨rl,rr,op,asks⟩ (.mk o n us sub) term name=([],192):=by
   have e:(!fmB ca (.mk o n us sub) || (decide (op≠0)&&decide ((Fm.mk o n us sub).op≠op)))=true:=by
    simp only[Fm.op,hfm];simp only[not_or] at hop;simp[hop]
   simp only[yJ7,e,if_true]
  simp only[not_or] at hop;have d1:decide ((op:Int)=0)=false:=dEf (by omega);have d2:decide ((o:Int)=(op:Int))=false:=dEf (by omega);simp only[go_sem,zE,zA,d1,d2];exact yQ0 (by rw[hq];exact⟨_,_,rfl,.inl rfl,.inl rfl,rfl,rfl⟩)
 obtain⟨dop,hdop⟩:∃b,decide ((op:Int)=0)=b:=⟨_,rfl⟩
 have hdo:dop=false->decide ((o:Int)=(op:Int))=true:=λh=>by
  subst hdop;have:=of_decide_eq_false h;exact dEt (by omega)
 have hop0:=hop;replace hop:(⟨rl,rr,op,asks⟩:Rw).op=0\/(Fm.mk o n us sub).op=(⟨rl,rr,op,asks⟩:Rw).op:=hop0;by_cases hl0:0<sub.length
 ·have l0:decide ((0:Int)<(sub.length:Int))=true:=dEt (by omega);have g0:=hz1s hl0;obtain⟨o3,n3,t3,x3,t4,x4,rfl⟩:=hz1.agg;by_cases hl1:1<sub.length
  ·have l1:decide ((1:Int)<(sub.length:Int))=true:=dEt (by omega);have g1:=hz2s hl1;obtain⟨o5,n5,t5,x5,t6,x6,rfl⟩:=hz2.agg;cases dop
   ·have hd2:=hdo rfl;by_cases ha0:asks=0
    ·have d0:decide ((asks:Int)=0)=true:=dEt (by omega);have hq:=yQn (rule:=rule) (r:=⟨rl,rr,op,asks⟩) (term:=term) (name:=name) hfm hop;simp only[if_pos ha0,Fm.subs] at hq;simp only[go_sem,zE,zB,zA,zL,hdop,hd2,l0,l1,i2.len,g0,g1,yQ3 e2,Int.le_refl,Int.toNat_zero,(show (0:Int)<=1 by decide),(show Int.toNat 1=1 from rfl),d0,fits,hent];intros;refine (hadd _ _ _ _ _ _ hy0 hz1 hz2 hm (yQt hm 0) (yQt hm 1) _).mono ?_;rintro _ _ ⟨tg,xs,rfl,he,hap,hxs,rfl⟩;simp only[go_sem,zE];exact yQ0 (by rw[hq];exact⟨_,_,rfl,he,hap,hxs,rfl⟩)
    ·have d0:decide ((asks:Int)=0)=false:=dEf (by omega);by_cases ha2:asks=2
     ·have d2:decide ((asks:Int)=2)=true:=dEt (by omega);simp only[go_sem,zE,zB,zA,zL,hdop,hd2,l0,l1,i2.len,g0,g1,yQ3 e2,Int.le_refl,Int.toNat_zero,(show (0:Int)<=1 by decide),(show Int.toNat 1=1 from rfl),d0,d2,fits];intros;refine (yWt gl (Tm.mk true name []) _ (show IsTm (Tm.mk true name []) _ from⟨_,_,rfl,.inl rfl,rfl⟩) (by show 1<=_;decide) _).mono ?_;rintro _ _ ⟨rfl,rfl⟩;cases hk:Tm.ok (Tm.mk true name [])
      ·simp only[go_sem,zE];have hq:=yQn (rule:=rule) (r:=⟨rl,rr,op,asks⟩) (term:=term) (name:=name) hfm hop;simp only[if_neg ha0,if_pos ha2,hk,Bool.not_false,if_true] at hq;exact yQ0 (by rw[hq];exact⟨_,_,rfl,.inl rfl,.inl rfl,rfl,rfl⟩)
      simp only[go_sem,zE,zA,zL];refine (zXt gl G T _ _ hz1 (yQt hm 0) n (Tm.mk true name []) _ (show IsTm (Tm.mk true name []) _ from⟨_,_,rfl,.inl rfl,rfl⟩) (by show 1<=_;decide) _).mono ?_;rintro _ _ ⟨y3,rfl,hy3,rfl⟩;have hy4:=hy3;obtain⟨o8,n8,t8,x8,t9,x9,rfl⟩:=hy3.agg;by_cases he:(yX5 ((sub[0]?).getD fm0) [(n,(Tm.mk true name []))]).2=0
      ·have hq:=yQn (rule:=rule) (r:=⟨rl,rr,op,asks⟩) (term:=term) (name:=name) hfm hop;simp only[if_neg ha0,if_pos ha2,hk,Bool.not_true,bFt,if_false,Fm.subs,Fm.nm,he,ne_eq,nTf] at hq;simp only[go_sem,zE,zA,zL,he,hent,show decide (((0:Nat):Int)=0)=true from rfl];refine (hadd _ _ _ _ _ _ hy0 hy4 hz2 hm (Nat.le_trans (yX0 _ _) (by decide)) (yQt hm 1) _).mono ?_;rintro _ _ ⟨tg,xs,rfl,he,hap,hxs,rfl⟩;simp only[go_sem,zE];exact yQ0 (by rw[hq];exact⟨_,_,rfl,he,hap,hxs,rfl⟩)
      ·have hq:=yQn (rule:=rule) (r:=⟨rl,rr,op,asks⟩) (term:=term) (name:=name) hfm hop;simp only[if_neg ha0,if_pos ha2,hk,Bool.not_true,bFt,if_false,Fm.subs,Fm.nm,ne_eq,he,nFt,if_true] at hq;have hd:decide (((yX5 ((sub[0]?).getD fm0) [(n,(Tm.mk true name []))]).2:Int)=0)=false:=dEf (by omega);simp only[go_sem,zE,zA,zL,hd];exact yQ0 (by rw[hq];exact⟨_,_,rfl,.inl rfl,.inl rfl,rfl,rfl⟩)
     ·have d2:decide ((asks:Int)=2)=false:=dEf (by omega);simp only[go_sem,zE,zB,zA,zL,hdop,hd2,l0,l1,i2.len,g0,g1,yQ3 e2,Int.le_refl,Int.toNat_zero,(show (0:Int)<=1 by decide),(show Int.toNat 1=1 from rfl),d0,d2,fits];intros;refine (yWt gl term _ hz ht _).mono ?_;rintro _ _ ⟨rfl,rfl⟩;cases hk:Tm.ok term
      ·simp only[go_sem,zE];have hq:=yQn (rule:=rule) (r:=⟨rl,rr,op,asks⟩) (term:=term) (name:=name) hfm hop;simp only[if_neg ha0,if_neg ha2,hk,Bool.not_false,if_true] at hq;exact yQ0 (by rw[hq];exact⟨_,_,rfl,.inl rfl,.inl rfl,rfl,rfl⟩)
      simp only[go_sem,zE,zA,zL];refine (zXt gl G T _ _ hz1 (yQt hm 0) n term _ hz ht _).mono ?_;rintro _ _ ⟨y3,rfl,hy3,rfl⟩;have hy4:=hy3;obtain⟨o8,n8,t8,x8,t9,x9,rfl⟩:=hy3.agg;by_cases he:(yX5 ((sub[0]?).getD fm0) [(n,term)]).2=0
      ·have hq:=yQn (rule:=rule) (r:=⟨rl,rr,op,asks⟩) (term:=term) (name:=name) hfm hop;simp only[if_neg ha0,if_neg ha2,hk,Bool.not_true,bFt,if_false,Fm.subs,Fm.nm,he,ne_eq,nTf] at hq;simp only[go_sem,zE,zA,zL,he,hent,show decide (((0:Nat):Int)=0)=true from rfl];refine (hadd _ _ _ _ _ _ hy0 hy4 hz2 hm (Nat.le_trans (yX0 _ _) (by decide)) (yQt hm 1) _).mono ?_;rintro _ _ ⟨tg,xs,rfl,he,hap,hxs,rfl⟩;simp only[go_sem,zE];exact yQ0 (by rw[hq];exact⟨_,_,rfl,he,hap,hxs,rfl⟩)
      ·have hq:=yQn (rule:=rule) (r:=⟨rl,rr,op,asks⟩) (term:=term) (name:=name) hfm hop;simp only[if_neg ha0,if_neg ha2,hk,Bool.not_true,bFt,if_false,Fm.subs,Fm.nm,ne_eq,he,nFt,if_true] at hq;have hd:decide (((yX5 ((sub[0]?).getD fm0) [(n,term)]).2:Int)=0)=false:=dEf (by omega);simp only[go_sem,zE,zA,zL,hd];exact yQ0 (by rw[hq];exact⟨_,_,rfl,.inl rfl,.inl rfl,rfl,rfl⟩)
   ·by_cases ha0:asks=0
    ·have d0:decide ((asks:Int)=0)=true:=dEt (by omega);have hq:=yQn (rule:=rule) (r:=⟨rl,rr,op,asks⟩) (term:=term) (name:=name) hfm hop;simp only[if_pos ha0,Fm.subs] at hq;simp only[go_sem,zE,zB,zA,zL,hdop,l0,l1,i2.len,g0,g1,yQ3 e2,Int.le_refl,Int.toNat_zero,(show (0:Int)<=1 by decide),(show Int.toNat 1=1 from rfl),d0,fits,hent];intros;refine (hadd _ _ _ _ _ _ hy0 hz1 hz2 hm (yQt hm 0) (yQt hm 1) _).mono ?_;rintro _ _ ⟨tg,xs,rfl,he,hap,hxs,rfl⟩;simp only[go_sem,zE];exact yQ0 (by rw[hq];exact⟨_,_,rfl,he,hap,hxs,rfl⟩)
    ·have d0:decide ((asks:Int)=0)=false:=dEf (by omega);by_cases ha2:asks=2
     ·have d2:decide ((asks:Int)=2)=true:=dEt (by omega);simp only[go_sem,zE,zB,zA,zL,hdop,l0,l1,i2.len,g0,g1,yQ3 e2,Int.le_refl,Int.toNat_zero,(show (0:Int)<=1 by decide),(show Int.toNat 1=1 from rfl),d0,d2,fits];intros;refine (yWt gl (Tm.mk true name []) _ (show IsTm (Tm.mk true name []) _ from⟨_,_,rfl,.inl rfl,rfl⟩) (by show 1<=_;decide) _).mono ?_;rintro _ _ ⟨rfl,rfl⟩;cases hk:Tm.ok (Tm.mk true name [])
      ·simp only[go_sem,zE];have hq:=yQn (rule:=rule) (r:=⟨rl,rr,op,asks⟩) (term:=term) (name:=name) hfm hop;simp only[if_neg ha0,if_pos ha2,hk,Bool.not_false,if_true] at hq;exact yQ0 (by rw[hq];exact⟨_,_,rfl,.inl rfl,.inl rfl,rfl,rfl⟩)
      simp only[go_sem,zE,zA,zL];refine (zXt gl G T _ _ hz1 (yQt hm 0) n (Tm.mk true name []) _ (show IsTm (Tm.mk true name []) _ from⟨_,_,rfl,.inl rfl,rfl⟩) (by show 1<=_;decide) _).mono ?_;rintro _ _ ⟨y3,rfl,hy3,rfl⟩;have hy4:=hy3;obtain⟨o8,n8,t8,x8,t9,x9,rfl⟩:=hy3.agg;by_cases he:(yX5 ((sub[0]?).getD fm0) [(n,(Tm.mk true name []))]).2=0
      ·have hq:=yQn (rule:=rule) (r:=⟨rl,rr,op,asks⟩) (term:=term) (name:=name) hfm hop;simp only[if_neg ha0,if_pos ha2,hk,Bool.not_true,bFt,if_false,Fm.subs,Fm.nm,he,ne_eq,nTf] at hq;simp only[go_sem,zE,zA,zL,he,hent,show decide (((0:Nat):Int)=0)=true from rfl];refine (hadd _ _ _ _ _ _ hy0 hy4 hz2 hm (Nat.le_trans (yX0 _ _) (by decide)) (yQt hm 1) _).mono ?_;rintro _ _ ⟨tg,xs,rfl,he,hap,hxs,rfl⟩;simp only[go_sem,zE];exact yQ0 (by rw[hq];exact⟨_,_,rfl,he,hap,hxs,rfl⟩)
      ·have hq:=yQn (rule:=rule) (r:=⟨rl,rr,op,asks⟩) (term:=term) (name:=name) hfm hop;simp only[if_neg ha0,if_pos ha2,hk,Bool.not_true,bFt,if_false,Fm.subs,Fm.nm,ne_eq,he,nFt,if_true] at hq;have hd:decide (((yX5 ((sub[0]?).getD fm0) [(n,(Tm.mk true name []))]).2:Int)=0)=false:=dEf (by omega);simp only[go_sem,zE,zA,zL,hd];exact yQ0 (by rw[hq];exact⟨_,_,rfl,.inl rfl,.inl rfl,rfl,rfl⟩)
     ·have d2:decide ((asks:Int)=2)=false:=dEf (by omega);simp only[go_sem,zE,zB,zA,zL,hdop,l0,l1,i2.len,g0,g1,yQ3 e2,Int.le_refl,Int.toNat_zero,(show (0:Int)<=1 by decide),(show Int.toNat 1=1 from rfl),d0,d2,fits];intros;refine (yWt gl term _ hz ht _).mono ?_;rintro _ _ ⟨rfl,rfl⟩;cases hk:Tm.ok term
      ·simp only[go_sem,zE];have hq:=yQn (rule:=rule) (r:=⟨rl,rr,op,asks⟩) (term:=term) (name:=name) hfm hop;simp only[if_neg ha0,if_neg ha2,hk,Bool.not_false,if_true] at hq;exact yQ0 (by rw[hq];exact⟨_,_,rfl,.inl rfl,.inl rfl,rfl,rfl⟩)
      simp only[go_sem,zE,zA,zL];refine (zXt gl G T _ _ hz1 (yQt hm 0) n term _ hz ht _).mono ?_;rintro _ _ ⟨y3,rfl,hy3,rfl⟩;have hy4:=hy3;obtain⟨o8,n8,t8,x8,t9,x9,rfl⟩:=hy3.agg;by_cases he:(yX5 ((sub[0]?).getD fm0) [(n,term)]).2=0
      ·have hq:=yQn (rule:=rule) (r:=⟨rl,rr,op,asks⟩) (term:=term) (name:=name) hfm hop;simp only[if_neg ha0,if_neg ha2,hk,Bool.not_true,bFt,if_false,Fm.subs,Fm.nm,he,ne_eq,nTf] at hq;simp only[go_sem,zE,zA,zL,he,hent,show decide (((0:Nat):Int)=0)=true from rfl];refine (hadd _ _ _ _ _ _ hy0 hy4 hz2 hm (Nat.le_trans (yX0 _ _) (by decide)) (yQt hm 1) _).mono ?_;rintro _ _ ⟨tg,xs,rfl,he,hap,hxs,rfl⟩;simp only[go_sem,zE];exact yQ0 (by rw[hq];exact⟨_,_,rfl,he,hap,hxs,rfl⟩)
      ·have hq:=yQn (rule:=rule) (r:=⟨rl,rr,op,asks⟩) (term:=term) (name:=name) hfm hop;simp only[if_neg ha0,if_neg ha2,hk,Bool.not_true,bFt,if_false,Fm.subs,Fm.nm,ne_eq,he,nFt,if_true] at hq;have hd:decide (((yX5 ((sub[0]?).getD fm0) [(n,term)]).2:Int)=0)=false:=dEf (by omega);simp only[go_sem,zE,zA,zL,hd];exact yQ0 (by rw[hq];exact⟨_,_,rfl,.inl rfl,.inl rfl,rfl,rfl⟩)
  ·have l1:decide ((1:Int)<(sub.length:Int))=false:=dEf (by omega);obtain rfl:=hz2n (by omega);cases dop
   ·have hd2:=hdo rfl;by_cases ha0:asks=0
    ·have d0:decide ((asks:Int)=0)=true:=dEt (by omega);have hq:=yQn (rule:=rule) (r:=⟨rl,rr,op,asks⟩) (term:=term) (name:=name) hfm hop;simp only[if_pos ha0,Fm.subs] at hq;simp only[go_sem,zE,zB,zA,zL,hdop,hd2,l0,l1,i2.len,g0,yQ3 e2,Int.le_refl,Int.toNat_zero,d0,fits,hent];intros;refine (hadd _ _ _ _ _ _ hy0 hz1 hz2 hm (yQt hm 0) (yQt hm 1) _).mono ?_;rintro _ _ ⟨tg,xs,rfl,he,hap,hxs,rfl⟩;simp only[go_sem,zE];exact yQ0 (by rw[hq];exact⟨_,_,rfl,he,hap,hxs,rfl⟩)
    ·have d0:decide ((asks:Int)=0)=false:=dEf (by omega);by_cases ha2:asks=2
     ·have d2:decide ((asks:Int)=2)=true:=dEt (by omega);simp only[go_sem,zE,zB,zA,zL,hdop,hd2,l0,l1,i2.len,g0,yQ3 e2,Int.le_refl,Int.toNat_zero,d0,d2,fits];intros;refine (yWt gl (Tm.mk true name []) _ (show IsTm (Tm.mk true name []) _ from⟨_,_,rfl,.inl rfl,rfl⟩) (by show 1<=_;decide) _).mono ?_;rintro _ _ ⟨rfl,rfl⟩;cases hk:Tm.ok (Tm.mk true name [])
      ·simp only[go_sem,zE];have hq:=yQn (rule:=rule) (r:=⟨rl,rr,op,asks⟩) (term:=term) (name:=name) hfm hop;simp only[if_neg ha0,if_pos ha2,hk,Bool.not_false,if_true] at hq;exact yQ0 (by rw[hq];exact⟨_,_,rfl,.inl rfl,.inl rfl,rfl,rfl⟩)
      simp only[go_sem,zE,zA,zL];refine (zXt gl G T _ _ hz1 (yQt hm 0) n (Tm.mk true name []) _ (show IsTm (Tm.mk true name []) _ from⟨_,_,rfl,.inl rfl,rfl⟩) (by show 1<=_;decide) _).mono ?_;rintro _ _ ⟨y3,rfl,hy3,rfl⟩;have hy4:=hy3;obtain⟨o8,n8,t8,x8,t9,x9,rfl⟩:=hy3.agg;by_cases he:(yX5 ((sub[0]?).getD fm0) [(n,(Tm.mk true name []))]).2=0
      ·have hq:=yQn (rule:=rule) (r:=⟨rl,rr,op,asks⟩) (term:=term) (name:=name) hfm hop;simp only[if_neg ha0,if_pos ha2,hk,Bool.not_true,bFt,if_false,Fm.subs,Fm.nm,he,ne_eq,nTf] at hq;simp only[go_sem,zE,zA,zL,he,hent,show decide (((0:Nat):Int)=0)=true from rfl];refine (hadd _ _ _ _ _ _ hy0 hy4 hz2 hm (Nat.le_trans (yX0 _ _) (by decide)) (yQt hm 1) _).mono ?_;rintro _ _ ⟨tg,xs,rfl,he,hap,hxs,rfl⟩;simp only[go_sem,zE];exact yQ0 (by rw[hq];exact⟨_,_,rfl,he,hap,hxs,rfl⟩)
      ·have hq:=yQn (rule:=rule) (r:=⟨rl,rr,op,asks⟩) (term:=term) (name:=name) hfm hop;simp only[if_neg ha0,if_pos ha2,hk,Bool.not_true,bFt,if_false,Fm.subs,Fm.nm,ne_eq,he,nFt,if_true] at hq;have hd:decide (((yX5 ((sub[0]?).getD fm0) [(n,(Tm.mk true name []))]).2:Int)=0)=false:=dEf (by omega);simp only[go_sem,zE,zA,zL,hd];exact yQ0 (by rw[hq];exact⟨_,_,rfl,.inl rfl,.inl rfl,rfl,rfl⟩)
     ·have d2:decide ((asks:Int)=2)=false:=dEf (by omega);simp only[go_sem,zE,zB,zA,zL,hdop,hd2,l0,l1,i2.len,g0,yQ3 e2,Int.le_refl,Int.toNat_zero,d0,d2,fits];intros;refine (yWt gl term _ hz ht _).mono ?_;rintro _ _ ⟨rfl,rfl⟩;cases hk:Tm.ok term
      ·simp only[go_sem,zE];have hq:=yQn (rule:=rule) (r:=⟨rl,rr,op,asks⟩) (term:=term) (name:=name) hfm hop;simp only[if_neg ha0,if_neg ha2,hk,Bool.not_false,if_true] at hq;exact yQ0 (by rw[hq];exact⟨_,_,rfl,.inl rfl,.inl rfl,rfl,rfl⟩)
      simp only[go_sem,zE,zA,zL];refine (zXt gl G T _ _ hz1 (yQt hm 0) n term _ hz ht _).mono ?_;rintro _ _ ⟨y3,rfl,hy3,rfl⟩;have hy4:=hy3;obtain⟨o8,n8,t8,x8,t9,x9,rfl⟩:=hy3.agg;by_cases he:(yX5 ((sub[0]?).getD fm0) [(n,term)]).2=0
      ·have hq:=yQn (rule:=rule) (r:=⟨rl,rr,op,asks⟩) (term:=term) (name:=name) hfm hop;simp only[if_neg ha0,if_neg ha2,hk,Bool.not_true,bFt,if_false,Fm.subs,Fm.nm,he,ne_eq,nTf] at hq;simp only[go_sem,zE,zA,zL,he,hent,show decide (((0:Nat):Int)=0)=true from rfl];refine (hadd _ _ _ _ _ _ hy0 hy4 hz2 hm (Nat.le_trans (yX0 _ _) (by decide)) (yQt hm 1) _).mono ?_;rintro _ _ ⟨tg,xs,rfl,he,hap,hxs,rfl⟩;simp only[go_sem,zE];exact yQ0 (by rw[hq];exact⟨_,_,rfl,he,hap,hxs,rfl⟩)
      ·have hq:=yQn (rule:=rule) (r:=⟨rl,rr,op,asks⟩) (term:=term) (name:=name) hfm hop;simp only[if_neg ha0,if_neg ha2,hk,Bool.not_true,bFt,if_false,Fm.subs,Fm.nm,ne_eq,he,nFt,if_true] at hq;have hd:decide (((yX5 ((sub[0]?).getD fm0) [(n,term)]).2:Int)=0)=false:=dEf (by omega);simp only[go_sem,zE,zA,zL,hd];exact yQ0 (by rw[hq];exact⟨_,_,rfl,.inl rfl,.inl rfl,rfl,rfl⟩)
   ·by_cases ha0:asks=0
    ·have d0:decide ((asks:Int)=0)=true:=dEt (by omega);have hq:=yQn (rule:=rule) (r:=⟨rl,rr,op,asks⟩) (term:=term) (name:=name) hfm hop;simp only[if_pos ha0,Fm.subs] at hq;simp only[go_sem,zE,zB,zA,zL,hdop,l0,l1,i2.len,g0,yQ3 e2,Int.le_refl,Int.toNat_zero,d0,fits,hent];intros;refine (hadd _ _ _ _ _ _ hy0 hz1 hz2 hm (yQt hm 0) (yQt hm 1) _).mono ?_;rintro _ _ ⟨tg,xs,rfl,he,hap,hxs,rfl⟩;simp only[go_sem,zE];exact yQ0 (by rw[hq];exact⟨_,_,rfl,he,hap,hxs,rfl⟩)
    ·have d0:decide ((asks:Int)=0)=false:=dEf (by omega);by_cases ha2:asks=2
     ·have d2:decide ((asks:Int)=2)=true:=dEt (by omega);simp only[go_sem,zE,zB,zA,zL,hdop,l0,l1,i2.len,g0,yQ3 e2,Int.le_refl,Int.toNat_zero,d0,d2,fits];intros;refine (yWt gl (Tm.mk true name []) _ (show IsTm (Tm.mk true name []) _ from⟨_,_,rfl,.inl rfl,rfl⟩) (by show 1<=_;decide) _).mono ?_;rintro _ _ ⟨rfl,rfl⟩;cases hk:Tm.ok (Tm.mk true name [])
      ·simp only[go_sem,zE];have hq:=yQn (rule:=rule) (r:=⟨rl,rr,op,asks⟩) (term:=term) (name:=name) hfm hop;simp only[if_neg ha0,if_pos ha2,hk,Bool.not_false,if_true] at hq;exact yQ0 (by rw[hq];exact⟨_,_,rfl,.inl rfl,.inl rfl,rfl,rfl⟩)
      simp only[go_sem,zE,zA,zL];refine (zXt gl G T _ _ hz1 (yQt hm 0) n (Tm.mk true name []) _ (show IsTm (Tm.mk true name []) _ from⟨_,_,rfl,.inl rfl,rfl⟩) (by show 1<=_;decide) _).mono ?_;rintro _ _ ⟨y3,rfl,hy3,rfl⟩;have hy4:=hy3;obtain⟨o8,n8,t8,x8,t9,x9,rfl⟩:=hy3.agg;by_cases he:(yX5 ((sub[0]?).getD fm0) [(n,(Tm.mk true name []))]).2=0
      ·have hq:=yQn (rule:=rule) (r:=⟨rl,rr,op,asks⟩) (term:=term) (name:=name) hfm hop;simp only[if_neg ha0,if_pos ha2,hk,Bool.not_true,bFt,if_false,Fm.subs,Fm.nm,he,ne_eq,nTf] at hq;simp only[go_sem,zE,zA,zL,he,hent,show decide (((0:Nat):Int)=0)=true from rfl];refine (hadd _ _ _ _ _ _ hy0 hy4 hz2 hm (Nat.le_trans (yX0 _ _) (by decide)) (yQt hm 1) _).mono ?_;rintro _ _ ⟨tg,xs,rfl,he,hap,hxs,rfl⟩;simp only[go_sem,zE];exact yQ0 (by rw[hq];exact⟨_,_,rfl,he,hap,hxs,rfl⟩)
      ·have hq:=yQn (rule:=rule) (r:=⟨rl,rr,op,asks⟩) (term:=term) (name:=name) hfm hop;simp only[if_neg ha0,if_pos ha2,hk,Bool.not_true,bFt,if_false,Fm.subs,Fm.nm,ne_eq,he,nFt,if_true] at hq;have hd:decide (((yX5 ((sub[0]?).getD fm0) [(n,(Tm.mk true name []))]).2:Int)=0)=false:=dEf (by omega);simp only[go_sem,zE,zA,zL,hd];exact yQ0 (by rw[hq];exact⟨_,_,rfl,.inl rfl,.inl rfl,rfl,rfl⟩)
     ·have d2:decide ((asks:Int)=2)=false:=dEf (by omega);simp only[go_sem,zE,zB,zA,zL,hdop,l0,l1,i2.len,g0,yQ3 e2,Int.le_refl,Int.toNat_zero,d0,d2,fits];intros;refine (yWt gl term _ hz ht _).mono ?_;rintro _ _ ⟨rfl,rfl⟩;cases hk:Tm.ok term
      ·simp only[go_sem,zE];have hq:=yQn (rule:=rule) (r:=⟨rl,rr,op,asks⟩) (term:=term) (name:=name) hfm hop;simp only[if_neg ha0,if_neg ha2,hk,Bool.not_false,if_true] at hq;exact yQ0 (by rw[hq];exact⟨_,_,rfl,.inl rfl,.inl rfl,rfl,rfl⟩)
      simp only[go_sem,zE,zA,zL];refine (zXt gl G T _ _ hz1 (yQt hm 0) n term _ hz ht _).mono ?_;rintro _ _ ⟨y3,rfl,hy3,rfl⟩;have hy4:=hy3;obtain⟨o8,n8,t8,x8,t9,x9,rfl⟩:=hy3.agg;by_cases he:(yX5 ((sub[0]?).getD fm0) [(n,term)]).2=0
      ·have hq:=yQn (rule:=rule) (r:=⟨rl,rr,op,asks⟩) (term:=term) (name:=name) hfm hop;simp only[if_neg ha0,if_neg ha2,hk,Bool.not_true,bFt,if_false,Fm.subs,Fm.nm,he,ne_eq,nTf] at hq;simp only[go_sem,zE,zA,zL,he,hent,show decide (((0:Nat):Int)=0)=true from rfl];refine (hadd _ _ _ _ _ _ hy0 hy4 hz2 hm (Nat.le_trans (yX0 _ _) (by decide)) (yQt hm 1) _).mono ?_;rintro _ _ ⟨tg,xs,rfl,he,hap,hxs,rfl⟩;simp only[go_sem,zE];exact yQ0 (by rw[hq];exact⟨_,_,rfl,he,hap,hxs,rfl⟩)
      ·have hq:=yQn (rule:=rule) (r:=⟨rl,rr,op,asks⟩) (term:=term) (name:=name) hfm hop;simp only[if_neg ha0,if_neg ha2,hk,Bool.not_true,bFt,if_false,Fm.subs,Fm.nm,ne_eq,he,nFt,if_true] at hq;have hd:decide (((yX5 ((sub[0]?).getD fm0) [(n,term)]).2:Int)=0)=false:=dEf (by omega);simp only[go_sem,zE,zA,zL,hd];exact yQ0 (by rw[hq];exact⟨_,_,rfl,.inl rfl,.inl rfl,rfl,rfl⟩)
 ·have l0:decide ((0:Int)<(sub.length:Int))=false:=dEf (by omega);have l1:decide ((1:Int)<(sub.length:Int))=false:=dEf (by omega);obtain rfl:=hz1n (by omega);obtain rfl:=hz2n (by omega);cases dop
  ·have hd2:=hdo rfl;by_cases ha0:asks=0
   ·have d0:decide ((asks:Int)=0)=true:=dEt (by omega);have hq:=yQn (rule:=rule) (r:=⟨rl,rr,op,asks⟩) (term:=term) (name:=name) hfm hop;simp only[if_pos ha0,Fm.subs] at hq;simp only[go_sem,zE,zA,zL,hdop,hd2,l0,l1,i2.len,d0,hent];intros;refine (hadd _ _ _ _ _ _ hy0 hz1 hz2 hm (yQt hm 0) (yQt hm 1) _).mono ?_;rintro _ _ ⟨tg,xs,rfl,he,hap,hxs,rfl⟩;simp only[go_sem,zE];exact yQ0 (by rw[hq];exact⟨_,_,rfl,he,hap,hxs,rfl⟩)
   ·have d0:decide ((asks:Int)=0)=false:=dEf (by omega);by_cases ha2:asks=2
    ·have d2:decide ((asks:Int)=2)=true:=dEt (by omega);simp only[go_sem,zE,zA,zL,hdop,hd2,l0,l1,i2.len,d0,d2,fits];intros;refine (yWt gl (Tm.mk true name []) _ (show IsTm (Tm.mk true name []) _ from⟨_,_,rfl,.inl rfl,rfl⟩) (by show 1<=_;decide) _).mono ?_;rintro _ _ ⟨rfl,rfl⟩;cases hk:Tm.ok (Tm.mk true name [])
     ·simp only[go_sem,zE];have hq:=yQn (rule:=rule) (r:=⟨rl,rr,op,asks⟩) (term:=term) (name:=name) hfm hop;simp only[if_neg ha0,if_pos ha2,hk,Bool.not_false,if_true] at hq;exact yQ0 (by rw[hq];exact⟨_,_,rfl,.inl rfl,.inl rfl,rfl,rfl⟩)
     simp only[go_sem,zE,zA,zL];refine (zXt gl G T _ _ hz1 (yQt hm 0) n (Tm.mk true name []) _ (show IsTm (Tm.mk true name []) _ from⟨_,_,rfl,.inl rfl,rfl⟩) (by show 1<=_;decide) _).mono ?_;rintro _ _ ⟨y3,rfl,hy3,rfl⟩;have hy4:=hy3;obtain⟨o8,n8,t8,x8,t9,x9,rfl⟩:=hy3.agg;by_cases he:(yX5 ((sub[0]?).getD fm0) [(n,(Tm.mk true name []))]).2=0
     ·have hq:=yQn (rule:=rule) (r:=⟨rl,rr,op,asks⟩) (term:=term) (name:=name) hfm hop;simp only[if_neg ha0,if_pos ha2,hk,Bool.not_true,bFt,if_false,Fm.subs,Fm.nm,he,ne_eq,nTf] at hq;simp only[go_sem,zE,zA,zL,he,hent,show decide (((0:Nat):Int)=0)=true from rfl];refine (hadd _ _ _ _ _ _ hy0 hy4 hz2 hm (Nat.le_trans (yX0 _ _) (by decide)) (yQt hm 1) _).mono ?_;rintro _ _ ⟨tg,xs,rfl,he,hap,hxs,rfl⟩;simp only[go_sem,zE];exact yQ0 (by rw[hq];exact⟨_,_,rfl,he,hap,hxs,rfl⟩)
     ·have hq:=yQn (rule:=rule) (r:=⟨rl,rr,op,asks⟩) (term:=term) (name:=name) hfm hop;simp only[if_neg ha0,if_pos ha2,hk,Bool.not_true,bFt,if_false,Fm.subs,Fm.nm,ne_eq,he,nFt,if_true] at hq;have hd:decide (((yX5 ((sub[0]?).getD fm0) [(n,(Tm.mk true name []))]).2:Int)=0)=false:=dEf (by omega);simp only[go_sem,zE,zA,zL,hd];exact yQ0 (by rw[hq];exact⟨_,_,rfl,.inl rfl,.inl rfl,rfl,rfl⟩)
    ·have d2:decide ((asks:Int)=2)=false:=dEf (by omega);simp only[go_sem,zE,zA,zL,hdop,hd2,l0,l1,i2.len,d0,d2];intros;refine (yWt gl term _ hz ht _).mono ?_;rintro _ _ ⟨rfl,rfl⟩;cases hk:Tm.ok term
     ·simp only[go_sem,zE];have hq:=yQn (rule:=rule) (r:=⟨rl,rr,op,asks⟩) (term:=term) (name:=name) hfm hop;simp only[if_neg ha0,if_neg ha2,hk,Bool.not_false,if_true] at hq;exact yQ0 (by rw[hq];exact⟨_,_,rfl,.inl rfl,.inl rfl,rfl,rfl⟩)
     simp only[go_sem,zE,zA,zL];refine (zXt gl G T _ _ hz1 (yQt hm 0) n term _ hz ht _).mono ?_;rintro _ _ ⟨y3,rfl,hy3,rfl⟩;have hy4:=hy3;obtain⟨o8,n8,t8,x8,t9,x9,rfl⟩:=hy3.agg;by_cases he:(yX5 ((sub[0]?).getD fm0) [(n,term)]).2=0
     ·have hq:=yQn (rule:=rule) (r:=⟨rl,rr,op,asks⟩) (term:=term) (name:=name) hfm hop;simp only[if_neg ha0,if_neg ha2,hk,Bool.not_true,bFt,if_false,Fm.subs,Fm.nm,he,ne_eq,nTf] at hq;simp only[go_sem,zE,zA,zL,he,hent,show decide (((0:Nat):Int)=0)=true from rfl];refine (hadd _ _ _ _ _ _ hy0 hy4 hz2 hm (Nat.le_trans (yX0 _ _) (by decide)) (yQt hm 1) _).mono ?_;rintro _ _ ⟨tg,xs,rfl,he,hap,hxs,rfl⟩;simp only[go_sem,zE];exact yQ0 (by rw[hq];exact⟨_,_,rfl,he,hap,hxs,rfl⟩)
     ·have hq:=yQn (rule:=rule) (r:=⟨rl,rr,op,asks⟩) (term:=term) (name:=name) hfm hop;simp only[if_neg ha0,if_neg ha2,hk,Bool.not_true,bFt,if_false,Fm.subs,Fm.nm,ne_eq,he,nFt,if_true] at hq;have hd:decide (((yX5 ((sub[0]?).getD fm0) [(n,term)]).2:Int)=0)=false:=dEf (by omega);simp only[go_sem,zE,zA,zL,hd];exact yQ0 (by rw[hq];exact⟨_,_,rfl,.inl rfl,.inl rfl,rfl,rfl⟩)
  ·by_cases ha0:asks=0
   ·have d0:decide ((asks:Int)=0)=true:=dEt (by omega);have hq:=yQn (rule:=rule) (r:=⟨rl,rr,op,asks⟩) (term:=term) (name:=name) hfm hop;simp only[if_pos ha0,Fm.subs] at hq;simp only[go_sem,zE,zA,zL,hdop,l0,l1,i2.len,d0,hent];intros;refine (hadd _ _ _ _ _ _ hy0 hz1 hz2 hm (yQt hm 0) (yQt hm 1) _).mono ?_;rintro _ _ ⟨tg,xs,rfl,he,hap,hxs,rfl⟩;simp only[go_sem,zE];exact yQ0 (by rw[hq];exact⟨_,_,rfl,he,hap,hxs,rfl⟩)
   ·have d0:decide ((asks:Int)=0)=false:=dEf (by omega);by_cases ha2:asks=2
    ·have d2:decide ((asks:Int)=2)=true:=dEt (by omega);simp only[go_sem,zE,zA,zL,hdop,l0,l1,i2.len,d0,d2,fits];intros;refine (yWt gl (Tm.mk true name []) _ (show IsTm (Tm.mk true name []) _ from⟨_,_,rfl,.inl rfl,rfl⟩) (by show 1<=_;decide) _).mono ?_;rintro _ _ ⟨rfl,rfl⟩;cases hk:Tm.ok (Tm.mk true name [])
     ·simp only[go_sem,zE];have hq:=yQn (rule:=rule) (r:=⟨rl,rr,op,asks⟩) (term:=term) (name:=name) hfm hop;simp only[if_neg ha0,if_pos ha2,hk,Bool.not_false,if_true] at hq;exact yQ0 (by rw[hq];exact⟨_,_,rfl,.inl rfl,.inl rfl,rfl,rfl⟩)
     simp only[go_sem,zE,zA,zL];refine (zXt gl G T _ _ hz1 (yQt hm 0) n (Tm.mk true name []) _ (show IsTm (Tm.mk true name []) _ from⟨_,_,rfl,.inl rfl,rfl⟩) (by show 1<=_;decide) _).mono ?_;rintro _ _ ⟨y3,rfl,hy3,rfl⟩;have hy4:=hy3;obtain⟨o8,n8,t8,x8,t9,x9,rfl⟩:=hy3.agg;by_cases he:(yX5 ((sub[0]?).getD fm0) [(n,(Tm.mk true name []))]).2=0
     ·have hq:=yQn (rule:=rule) (r:=⟨rl,rr,op,asks⟩) (term:=term) (name:=name) hfm hop;simp only[if_neg ha0,if_pos ha2,hk,Bool.not_true,bFt,if_false,Fm.subs,Fm.nm,he,ne_eq,nTf] at hq;simp only[go_sem,zE,zA,zL,he,hent,show decide (((0:Nat):Int)=0)=true from rfl];refine (hadd _ _ _ _ _ _ hy0 hy4 hz2 hm (Nat.le_trans (yX0 _ _) (by decide)) (yQt hm 1) _).mono ?_;rintro _ _ ⟨tg,xs,rfl,he,hap,hxs,rfl⟩;simp only[go_sem,zE];exact yQ0 (by rw[hq];exact⟨_,_,rfl,he,hap,hxs,rfl⟩)
     ·have hq:=yQn (rule:=rule) (r:=⟨rl,rr,op,asks⟩) (term:=term) (name:=name) hfm hop;simp only[if_neg ha0,if_pos ha2,hk,Bool.not_true,bFt,if_false,Fm.subs,Fm.nm,ne_eq,he,nFt,if_true] at hq;have hd:decide (((yX5 ((sub[0]?).getD fm0) [(n,(Tm.mk true name []))]).2:Int)=0)=false:=dEf (by omega);simp only[go_sem,zE,zA,zL,hd];exact yQ0 (by rw[hq];exact⟨_,_,rfl,.inl rfl,.inl rfl,rfl,rfl⟩)
    ·have d2:decide ((asks:Int)=2)=false:=dEf (by omega);simp only[go_sem,zE,zA,zL,hdop,l0,l1,i2.len,d0,d2];intros;refine (yWt gl term _ hz ht _).mono ?_;rintro _ _ ⟨rfl,rfl⟩;cases hk:Tm.ok term
     ·simp only[go_sem,zE];have hq:=yQn (rule:=rule) (r:=⟨rl,rr,op,asks⟩) (term:=term) (name:=name) hfm hop;simp only[if_neg ha0,if_neg ha2,hk,Bool.not_false,if_true] at hq;exact yQ0 (by rw[hq];exact⟨_,_,rfl,.inl rfl,.inl rfl,rfl,rfl⟩)
     simp only[go_sem,zE,zA,zL];refine (zXt gl G T _ _ hz1 (yQt hm 0) n term _ hz ht _).mono ?_;rintro _ _ ⟨y3,rfl,hy3,rfl⟩;have hy4:=hy3;obtain⟨o8,n8,t8,x8,t9,x9,rfl⟩:=hy3.agg;by_cases he:(yX5 ((sub[0]?).getD fm0) [(n,term)]).2=0
     ·have hq:=yQn (rule:=rule) (r:=⟨rl,rr,op,asks⟩) (term:=term) (name:=name) hfm hop;simp only[if_neg ha0,if_neg ha2,hk,Bool.not_true,bFt,if_false,Fm.subs,Fm.nm,he,ne_eq,nTf] at hq;simp only[go_sem,zE,zA,zL,he,hent,show decide (((0:Nat):Int)=0)=true from rfl];refine (hadd _ _ _ _ _ _ hy0 hy4 hz2 hm (Nat.le_trans (yX0 _ _) (by decide)) (yQt hm 1) _).mono ?_;rintro _ _ ⟨tg,xs,rfl,he,hap,hxs,rfl⟩;simp only[go_sem,zE];exact yQ0 (by rw[hq];exact⟨_,_,rfl,he,hap,hxs,rfl⟩)
     ·have hq:=yQn (rule:=rule) (r:=⟨rl,rr,op,asks⟩) (term:=term) (name:=name) hfm hop;simp only[if_neg ha0,if_neg ha2,hk,Bool.not_true,bFt,if_false,Fm.subs,Fm.nm,ne_eq,he,nFt,if_true] at hq;have hd:decide (((yX5 ((sub[0]?).getD fm0) [(n,term)]).2:Int)=0)=false:=dEf (by omega);simp only[go_sem,zE,zA,zL,hd];exact yQ0 (by rw[hq];exact⟨_,_,rfl,.inl rfl,.inl rfl,rfl,rfl⟩)
theorem xQ4 {ca:Nat}{s:Sq}(h:yZz ca s=true):(∀f∈s.l,f.right=true)/\∀f∈s.r,f.right=true:=by
 unfold yZz at h;simp only[bAt,List.all_eq_true] at h;obtain⟨⟨⟨_,h4⟩,h5⟩,_⟩:=h;have key:∀f,fmB ca f=true->f.right=true:=λf hf=>by
  unfold fmB at hf;simp only[bAt] at hf;exact hf.1
 exact⟨λf hf=>key f (h4 f hf),λf hf=>key f (h5 f hf)⟩
theorem vKh (G:Gl gl)(T:Gt gl)(ca:Nat)(s:Sq)(x:IV)(hx:IsSq s x)(hs:yGd s)(rule:Nat)(main:Fm)(y:IV)(hy:IsFm main y)(hm:main.size<=1000000)(term:Tm)(z:IV)(hz:IsTm term z)(ht:term.size<=1000000)(name:ByteArray)(st:ISt) :
  ICall prog gl 105 [.raw (.int .u8 ca),x,.raw (.int .u8 rule),y,z,.raw (.string name)] st (AdRD st (yJl ca s rule main term name)):=by
 have hV:=λst=>vXe gl G ca s x hx hs st;have hF:=λhr st=>vVy gl T s x hx hs hr name st;obtain⟨t1,x1,t2,x2,rfl,e1,i1,e2,i2⟩:=hx;have hH1:=λst=>wVb gl G s.l main t1 x1 y e1 i1 hy hs.1 hm st;have hH2:=λst=>wVb gl G s.r main t2 x2 y e2 i2 hy hs.2 hm st;have hA:=λr hr st=>wUf gl G T ca rule r hr main y hy hm term z hz ht name st;obtain⟨o3,n3,t3,x3,t4,x4,rfl⟩:=hy.agg;obtain⟨v,un,tz,xz,rfl⟩:∃v un tz xz,z=.agg [.raw (.bool v),.raw (.string un),.sl tz xz]:=by
  obtain⟨v,un,us⟩:=term;obtain⟨tz,xz,rfl,_⟩:=hz.mk;exact⟨_,_,_,_,rfl⟩
 refine iI func105 ?_;simp only[go_sem,zE,zA,zL,reduceCtorEq];refine (hV _).mono ?_;rintro _ st ⟨rfl,rfl⟩;cases hv:yZz ca s
 ·simp only[go_sem,zE];exact yQ0 (by unfold yJl;rw[hv];exact⟨_,_,rfl,.inl rfl,.inl rfl,rfl,rfl⟩)
 have hright:=xQ4 hv;simp only[go_sem,zA,reduceCtorEq];refine (wZp gl ca _).mono ?_;rintro _ _ ⟨b,hb,rfl,rfl⟩;cases hr:rowS ca rule with
 | none =>
  have hq:yJl ca s rule main term name=([],191):=by unfold yJl;rw[hv,hr];rfl
  simp only[go_sem,zE,zA,zL,ISt.put_same,yY0,hr,Option.map_none,zZg];exact yQa (yQg hb) (by rw[hq];exact⟨_,_,rfl,.inl rfl,.inl rfl,rfl,rfl⟩)
 | some r =>
  have hcall:=hA r hr;obtain⟨rl,rr,op,asks⟩:=r;have hq:yJl ca s rule main term name=if decide ((yJ7 ca rule ⟨rl,rr,op,asks⟩ main term name).2=192) || (rl&&!hasF s.l main) || (rr&&!hasF s.r main) then ([],192)
    else if (yJ7 ca rule ⟨rl,rr,op,asks⟩ main term name).2≠0 then ([],(yJ7 ca rule ⟨rl,rr,op,asks⟩ main term name).2)
    else if decide (asks=2)&&zQn s name then ([],193) else ((yJ7 ca rule ⟨rl,rr,op,asks⟩ main term name).1,0):=by unfold yJl;rw[hv,hr];rfl
  generalize yJ7 ca rule ⟨rl,rr,op,asks⟩ main term name=q at hq hcall;obtain⟨qs,qe⟩:=q;simp only at hq;simp only[go_sem,zE,zA,zL,reduceCtorEq,ISt.put_same,yY0,hr,Option.map_some,yGt,rwI];refine (hcall _).mono ?_;rintro _ _ ⟨tg,xs,rfl,he,hap,hxs,rfl⟩;by_cases h192:qe=192
  ·have d:decide ((qe:Int)=192)=true:=dEt (by omega);have hq':yJl ca s rule main term name=([],192):=by rw[hq,h192];rfl
   simp only[go_sem,zE,d];exact yQa (yQg hb) (by rw[hq'];exact⟨_,_,rfl,.inl rfl,.inl rfl,rfl,rfl⟩)
  have d:decide ((qe:Int)=192)=false:=dEf (by omega);have h192':decide (qe=192)=false:=dEf h192;rw[h192',Bool.false_or] at hq;cases rl
  ·cases rr
   ·simp only[Bool.false_and,Bool.false_and,Bool.or_false,bFt,if_false] at hq;by_cases h0:qe=0
    ·subst h0;simp only[ne_eq,nTf,if_false] at hq;by_cases ha:asks=2
     ·have da:decide ((asks:Int)=2)=true:=dEt (by omega);simp only[go_sem,zE,zA,zL,d,da,show decide (((0:Nat):Int)=0)=true from rfl];refine (hF hright _).mono ?_;rintro _ _ ⟨rfl,rfl⟩;rw[dEt ha,Bool.true_and] at hq;cases hf:zQn s name
      ·simp only[go_sem,zE];rw[hf] at hq;exact yQa (yQg hb) (by rw[hq];exact⟨_,_,rfl,he,hap,hxs,rfl⟩)
      ·simp only[go_sem,zE];rw[hf] at hq;exact yQa (yQg hb) (by rw[hq];exact⟨_,_,rfl,.inl rfl,.inl rfl,rfl,rfl⟩)
     ·have da:decide ((asks:Int)=2)=false:=dEf (by omega);rw[dEf ha,Bool.false_and] at hq;simp only[go_sem,zE,zA,d,da,show decide (((0:Nat):Int)=0)=true from rfl];exact yQa (yQg hb) (by rw[hq];exact⟨_,_,rfl,he,hap,hxs,rfl⟩)
    ·have d0:decide ((qe:Int)=0)=false:=dEf (by omega);rw[if_pos h0] at hq;simp only[go_sem,zE,zA,d,d0];exact yQa (yQg hb) (by rw[hq];exact⟨_,_,rfl,.inl rfl,.inl rfl,rfl,rfl⟩)
   ·simp only[go_sem,zE,zA,zL,d];refine (hH2 _).mono ?_;rintro _ _ ⟨rfl,rfl⟩;cases h5:hasF s.r main
    ·simp only[go_sem,zE];rw[h5] at hq;exact yQa (yQg hb) (by rw[hq];exact⟨_,_,rfl,.inl rfl,.inl rfl,rfl,rfl⟩)
    ·simp only[h5,Bool.false_and,Bool.and_false,Bool.not_true,Bool.or_false,bFt,if_false] at hq;by_cases h0:qe=0
     ·subst h0;simp only[ne_eq,nTf,if_false] at hq;by_cases ha:asks=2
      ·have da:decide ((asks:Int)=2)=true:=dEt (by omega);simp only[go_sem,zE,zA,zL,da,show decide (((0:Nat):Int)=0)=true from rfl];refine (hF hright _).mono ?_;rintro _ _ ⟨rfl,rfl⟩;rw[dEt ha,Bool.true_and] at hq;cases hf:zQn s name
       ·simp only[go_sem,zE];rw[hf] at hq;exact yQa (yQg hb) (by rw[hq];exact⟨_,_,rfl,he,hap,hxs,rfl⟩)
       ·simp only[go_sem,zE];rw[hf] at hq;exact yQa (yQg hb) (by rw[hq];exact⟨_,_,rfl,.inl rfl,.inl rfl,rfl,rfl⟩)
      ·have da:decide ((asks:Int)=2)=false:=dEf (by omega);rw[dEf ha,Bool.false_and] at hq;simp only[go_sem,zE,zA,da,show decide (((0:Nat):Int)=0)=true from rfl];exact yQa (yQg hb) (by rw[hq];exact⟨_,_,rfl,he,hap,hxs,rfl⟩)
     ·have d0:decide ((qe:Int)=0)=false:=dEf (by omega);rw[if_pos h0] at hq;simp only[go_sem,zE,d0];exact yQa (yQg hb) (by rw[hq];exact⟨_,_,rfl,.inl rfl,.inl rfl,rfl,rfl⟩)
  ·simp only[go_sem,zE,zA,zL,d];refine (hH1 _).mono ?_;rintro _ _ ⟨rfl,rfl⟩;cases h4:hasF s.l main
   ·simp only[go_sem,zE];rw[h4] at hq;exact yQa (yQg hb) (by rw[hq];exact⟨_,_,rfl,.inl rfl,.inl rfl,rfl,rfl⟩)
   cases rr
   ·simp only[h4,Bool.false_and,Bool.and_false,Bool.not_true,Bool.or_false,bFt,if_false] at hq;by_cases h0:qe=0
    ·subst h0;simp only[ne_eq,nTf,if_false] at hq;by_cases ha:asks=2
     ·have da:decide ((asks:Int)=2)=true:=dEt (by omega);simp only[go_sem,zE,zA,zL,da,show decide (((0:Nat):Int)=0)=true from rfl];refine (hF hright _).mono ?_;rintro _ _ ⟨rfl,rfl⟩;rw[dEt ha,Bool.true_and] at hq;cases hf:zQn s name
      ·simp only[go_sem,zE];rw[hf] at hq;exact yQa (yQg hb) (by rw[hq];exact⟨_,_,rfl,he,hap,hxs,rfl⟩)
      ·simp only[go_sem,zE];rw[hf] at hq;exact yQa (yQg hb) (by rw[hq];exact⟨_,_,rfl,.inl rfl,.inl rfl,rfl,rfl⟩)
     ·have da:decide ((asks:Int)=2)=false:=dEf (by omega);rw[dEf ha,Bool.false_and] at hq;simp only[go_sem,zE,zA,da,show decide (((0:Nat):Int)=0)=true from rfl];exact yQa (yQg hb) (by rw[hq];exact⟨_,_,rfl,he,hap,hxs,rfl⟩)
    ·have d0:decide ((qe:Int)=0)=false:=dEf (by omega);rw[if_pos h0] at hq;simp only[go_sem,zE,zA,d0];exact yQa (yQg hb) (by rw[hq];exact⟨_,_,rfl,.inl rfl,.inl rfl,rfl,rfl⟩)
   ·simp only[go_sem,zE,zA,zL];refine (hH2 _).mono ?_;rintro _ _ ⟨rfl,rfl⟩;cases h5:hasF s.r main
    ·simp only[go_sem,zE];rw[h4,h5] at hq;exact yQa (yQg hb) (by rw[hq];exact⟨_,_,rfl,.inl rfl,.inl rfl,rfl,rfl⟩)
    ·simp only[h4,h5,Bool.and_false,Bool.not_true,Bool.or_false,bFt,if_false] at hq;by_cases h0:qe=0
     ·subst h0;simp only[ne_eq,nTf,if_false] at hq;by_cases ha:asks=2
      ·have da:decide ((asks:Int)=2)=true:=dEt (by omega);simp only[go_sem,zE,zA,zL,da,show decide (((0:Nat):Int)=0)=true from rfl];refine (hF hright _).mono ?_;rintro _ _ ⟨rfl,rfl⟩;rw[dEt ha,Bool.true_and] at hq;cases hf:zQn s name
       ·simp only[go_sem,zE];rw[hf] at hq;exact yQa (yQg hb) (by rw[hq];exact⟨_,_,rfl,he,hap,hxs,rfl⟩)
       ·simp only[go_sem,zE];rw[hf] at hq;exact yQa (yQg hb) (by rw[hq];exact⟨_,_,rfl,.inl rfl,.inl rfl,rfl,rfl⟩)
      ·have da:decide ((asks:Int)=2)=false:=dEf (by omega);rw[dEf ha,Bool.false_and] at hq;simp only[go_sem,zE,zA,da,show decide (((0:Nat):Int)=0)=true from rfl];exact yQa (yQg hb) (by rw[hq];exact⟨_,_,rfl,he,hap,hxs,rfl⟩)
     ·have d0:decide ((qe:Int)=0)=false:=dEf (by omega);rw[if_pos h0] at hq;simp only[go_sem,zE,d0];exact yQa (yQg hb) (by rw[hq];exact⟨_,_,rfl,.inl rfl,.inl rfl,rfl,rfl⟩)
theorem vKi (G:Gl gl)(T:Gt gl)(ca:Nat)(s:Sq)(x:IV)(hx:IsSq s x)(hs:yGd s)(rule:Nat)(main:Fm)(y:IV)(hy:IsFm main y)(hm:main.size<=1000000)(term:Tm)(z:IV)(hz:IsTm term z)(ht:term.size<=1000000)(name:ByteArray)(st:ISt) :
  ICall prog gl 105 [.raw (.int .u8 ca),x,.raw (.int .u8 rule),y,z,.raw (.string name)] st (AdR st (yJl ca s rule main term name)) :=
 (vKh gl G T ca s x hx hs rule main y hy hm term z hz ht name st).mono AdRD.w
theorem wWu:lenI prog 3=none:=by kernel_rfl
theorem zWq (n:Nat):yXv none (some 0) n=some (0,0):=by simp[yXv]
theorem xJd (n:Nat):yXv none (some ((0:Nat):Int)) n=some (0,0):=zWq n
theorem vG9 (n:Nat)(hn:n<=1099511627776)(st:ISt):ICall prog gl 106 [.sl ⟨true,.nil,0⟩ [],.raw (.int .i64 n)] st (λr st' =>
  (n=0/\r=.sl ⟨true,.nil,0⟩ []/\st'=st)\/(∃g cap,st g=none/\n<=cap/\r=.raw (.slice (some ⟨g,0,none⟩) 0 cap)/\st'=st.put g (some (.box (List.replicate (cap*4) .junk))))):=by
 have h1:decide ((n:Int)<0)=false:=dEf (by omega);have h2:IntKind.i64.wrap ((0:Int)-((0:Nat):Int))=0:=rfl;have h3:IntKind.i64.wrap ((n:Int)-0)=n:=w64 (by omega) (by omega);refine iI func106 ?_;by_cases hz:n=0
 ·subst hz;simp only[go_sem,zE,zL,reduceCtorEq,h1,h2,h3,show decide ((0:Int)<((0:Nat):Int))=false from rfl];refine yQ0 (.inl ?_);simp
 ·have h4:decide ((0:Int)<(n:Int))=true:=dEt (by omega);simp only[go_sem,zE,zL,reduceCtorEq,h1,h2,h3,h4,zWq,wWu];refine yQm ⟨rfl,by omega,by show (n:Int)*72<=_;omega,by omega,by decide⟩ λg cap=>yQc λhg=>?_;obtain⟨hg,hc⟩:=hg;rw[Int.toNat_natCast] at hc;simp only[go_sem,zE,zL,reduceCtorEq,Int.toNat_natCast,xJd,ite_self,Nat.zero_mul,hc];exact yQ0 (.inr ⟨g,cap,hg,hc,rfl,rfl⟩)
def catL (l:List (Tag×List IV)):List IV:=l.flatMap (·.2)
def catI (l:List (Tag×List IV)):List IV:=l.map λp=>.sl p.1 p.2
theorem zUk {l:List (Tag×List IV)}{k:Nat}{p:Tag×List IV}(h:l[k]?=some p):(catI l)[k]?=some (.sl p.1 p.2):=by simp[catI,List.getElem?_map,h]
theorem yVs {l:List (Tag×List IV)}{k:Nat}{p:Tag×List IV}(h:l[k]?=some p):catL (l.take (k+1))=catL (l.take k)++p.2:=by
 rw[yQ7 h];simp[catL]
theorem zUj (l:List (Tag×List IV))(k:Nat):(catL (l.take k)).length<=(catL l).length:=by
 conv=>rhs;rw[<- List.take_append_drop k l]
 unfold catL;rw[List.flatMap_append,lLa];omega
theorem zQp:∀ {l:List Fm}{xs:List IV},IsFms l xs->∀y∈xs,fits true 4 y=true
 | [],_,rfl,y,h=>by cases h
 | a::l,_,⟨x,xs,rfl,hx,hl⟩,y,h=>by
  rcases List.mem_cons.1 h with rfl|h
  ·obtain⟨o,n,t,x,t',x',rfl⟩:=hx.agg;simp[fits,IV.one]
  ·exact zQp hl y h
theorem vY5 {y:IV}(h:fits true 4 y=true):y.cells.length=4:=(yJ4 h).2.1
theorem uYp {l:List IV}(h:∀y∈l,fits true 4 y=true):(l.flatMap IV.cells).length=l.length*4:=yZ3 l λx hx=>vY5 (h x hx)
theorem wG4 (l:List (Tag×List IV))(tt:Tag)(htt:okEs tt 1)(hfit:∀p∈l,∀y∈p.2,fits true 4 y=true)(hlen:(catL l).length<=1099511627776)(st:ISt) :
  ICall prog gl 67 [.sl tt (catI l)] st (λr st'=>(∃t,r=.sl t []/\okEs t 4/\catL l=[]/\st'=st) \/
   ∃g cap cs,st g=none/\(catL l).length<=cap/\cap*4<=cs.length/\cs.take ((catL l).length*4)=(catL l).flatMap IV.cells/\r=.raw (.slice (some ⟨g,0,none⟩) (catL l).length cap)/\st'=st.put g (some (.box cs))):=by
 have hli:(catI l).length=l.length:=by simp[catI]
 have hfc:∀y∈catL l,fits true 4 y=true:=λy hy=>by
  obtain⟨p,hp,hy⟩:=List.mem_flatMap.1 hy;exact hfit p hp y hy
 refine iI func67 ?_;simp only[go_sem,reduceCtorEq,hli];intro hl;refine LoopC.ctr l.length (λk fr st' ds=>fr 0=.iv (.sl tt (catI l))/\fr 3=.iv (.raw (.int .i64 (catL (l.take k)).length))/\fr 9=.iv (.sl tt (catI l))/\fr 10=.iv (.raw (.int .i64 l.length))/\fr 11=.iv (.raw (.int .i64 k))/\st'=st/\ds=[]) ?_ ?_ ?_
 ·simp only[go_sem,zE,reduceCtorEq];simp[catL]
 ·rintro k fr st1 _ hlt ⟨f0,f3,f9,f10,f11,rfl,rfl⟩;obtain⟨p,hp⟩:=yQ4 hlt;have h1:=zUj l k;have h2:=zUj l (k+1);rw[yVs hp,lLa] at h2;have h3:IntKind.i64.wrap ((((catL (l.take k)).length:Nat):Int)+((p.2.length:Nat):Int))=((catL (l.take (k+1))).length:Nat):=by
   rw[w64 (by omega) (by omega),yVs hp,lLa];omega
  have h4:decide ((((catL (l.take (k+1))).length:Nat):Int)<0)=false:=dEf (by omega);simp only[go_sem,zE,f3,f9,f10,f11,lt_i hlt,yQ3 htt,iNn,zUk hp,fits,h3];intro hpl;simp only[go_sem,zE,reduceCtorEq,h3,h4,f0,f9,f10,f11,yQf hlt (show l.length<=281474976710656 by omega)]
 ·rintro fr st1 _ ⟨f0,f3,f9,f10,f11,rfl,rfl⟩;rw[lTl] at f3;simp only[go_sem,zE,zA,f3,f10,f11,yQo (nLi _)];refine (vG9 gl (catL l).length hlen _).mono ?_;have loop:∀(I:Nat->IV->ISt->Prop),True:=λ_=>trivial;rintro r st2 (⟨hz,rfl,rfl⟩|⟨g,cap,hg,hcap,rfl,rfl⟩)
  ·have hnil:catL l=[]:=List.eq_nil_of_length_eq_zero hz;simp only[go_sem,reduceCtorEq,f0,hli];intro _;refine LoopC.ctr l.length (λk fr st' ds=>(∃t,fr 6=.iv (.sl t [])/\t.cap=.nil)/\fr 25=.iv (.sl tt (catI l))/\fr 26=.iv (.raw (.int .i64 l.length))/\fr 27=.iv (.raw (.int .i64 k))/\st'=st2/\ds=[]) ?_ ?_ ?_
   ·simp only[go_sem,zE];exact⟨⟨_,rfl,rfl⟩,rfl⟩
   ·rintro k fr st1 _ hlt ⟨⟨t,f6,ht⟩,f25,f26,f27,rfl,rfl⟩;obtain⟨p,hp⟩:=yQ4 hlt;have hp0:p.2=[]:=by
     have:=yVs hp;have h2:=zUj l (k+1);rw[this,lLa,hnil,List.length_nil] at h2;exact List.eq_nil_of_length_eq_zero (by omega)
    obtain⟨fs,c,es⟩:=t;obtain rfl:c=.nil:=ht;simp only[go_sem,zE,zA,zM,zL,f6,f25,f26,f27,lt_i hlt,yQ3 htt,iNn,zUk hp,fits,hp0,yQf hlt (show l.length<=281474976710656 by omega)];exact⟨_,rfl,rfl⟩
   ·rintro fr st1 _ ⟨⟨t,f6,ht⟩,f25,f26,f27,rfl,rfl⟩;simp only[go_sem,zE,f6,f26,f27,yQo (nLi _)];exact yQ0 (.inl ⟨_,rfl,.inl ht,hnil,rfl⟩)
  ·simp only[go_sem,reduceCtorEq,f0,hli];intro _;refine LoopC.ctr l.length (λk fr st' ds=>(∃g cap cs,st1 g=none/\(catL (l.take k)).length<=cap/\cap*4<=cs.length/\cs.take ((catL (l.take k)).length*4)=(catL (l.take k)).flatMap IV.cells/\fr 6=.iv (.raw (.slice (some ⟨g,0,none⟩) (catL (l.take k)).length cap))/\st'=st1.put g (some (.box cs)))/\fr 25=.iv (.sl tt (catI l))/\fr 26=.iv (.raw (.int .i64 l.length))/\fr 27=.iv (.raw (.int .i64 k))/\ds=[]) ?_ ?_ ?_
   ·simp only[go_sem,zE];exact⟨⟨g,cap,_,hg,by simp[catL],by simp,by simp[catL],by simp[catL],rfl⟩,rfl⟩
   ·rintro k fr st' _ hlt ⟨⟨g,cap,cs,hg,hc1,hc2,hc3,f6,rfl⟩,f25,f26,f27,rfl⟩;obtain⟨p,hp⟩:=yQ4 hlt;have h2:=zUj l (k+1);rw[yVs hp,lLa] at h2;have hpf:=hfit p (lMg hp);simp only[go_sem,zE,zA,f6,f25,f26,f27,lt_i hlt,yQ3 htt,iNn,zUk hp,fits];refine yKe _ _ _ (ISt.put_same ..) (List.all_eq_true.2 hpf) ⟨by show _*72<=_;omega,by omega⟩ ⟨hc1,hc2⟩ (uYp hpf) ?_;intro g' cap' cs' hg' k1 k2 k3;simp only[go_sem,zE,f25,f26,f27,yQf hlt (show l.length<=281474976710656 by omega)];have hst':((st1.put g (some (.box cs))).put g none).put g' (some (.box cs'))=st1.put g' (some (.box cs')):=by
     funext c;simp only[ISt.put_apply];split
     ·rfl
     ·split
      ·subst_vars;exact hg.symm
      ·rfl
    have hg1:st1 g'=none:=by
     rcases hg' with rfl|h
     ·exact hg
     ·rw[ISt.put_apply] at h;split at h
      ·cases h
      ·exact h
    refine⟨g',cap',cs',hg1,?_,k2,?_,?_,hst'⟩
    ·rw[yVs hp,lLa];exact k1
    ·rw[yVs hp,lLa,List.flatMap_append,<- hc3];exact k3
    ·rw[yVs hp,lLa]
   ·rintro fr st' _ ⟨⟨g,cap,cs,hg,hc1,hc2,hc3,f6,rfl⟩,f25,f26,f27,rfl⟩;rw[lTl] at *;simp only[go_sem,zE,f6,f26,f27,yQo (nLi _)];exact yQ0 (.inr ⟨g,cap,cs,hg,hc1,hc2,hc3,rfl,rfl⟩)
theorem zUq (l1 l2:List Fm)(t1 t2 tt:Tag)(x1 x2:List IV)(htt:okEs tt 1)(h1:IsFms l1 x1)(h2:IsFms l2 x2)(hlen:l1.length+l2.length<=1099511627776)(st:ISt) :
  ICall prog gl 67 [.sl tt [.sl t1 x1,.sl t2 x2]] st (λr st'=>∃t ys,r=.sl t ys/\okEs t 4/\IsFms (l1++l2) ys/\st'=st):=by
 have hc:catL [(t1,x1),(t2,x2)]=x1++x2:=by simp[catL]
 have hf:=h1.append h2;have hlx:(x1++x2).length<=1099511627776:=by rw[hf.len,lLa];exact hlen
 have key:=wG4 gl [(t1,x1),(t2,x2)] tt htt (λp hp y hy=>by
  rcases List.mem_cons.1 hp with rfl|hp
  ·exact zQp h1 y hy
  ·obtain rfl:=List.mem_singleton.1 hp;exact zQp h2 y hy) (by rw[hc];exact hlx) st
 rw[hc] at key;refine ICall.fix (key.mono λr st' h=>?_);rcases h with⟨t,rfl,ht,hn,rfl⟩|⟨g,cap,cs,hg,hc1,hc2,hc3,rfl,rfl⟩
 ·exact⟨.sl t [],(λ_=>none),st',LendOk.mk (λb o h=>by cases h) (subSt.refl _) (λb cs h=>by cases h),.refl _,⟨false,t.cap,t.es⟩,[],by simp only[age,ages],ht,hn▸hf,rfl⟩
 ·have hcell:∀y∈x1++x2,y.cells.length=4:=λy hy=>vY5 (zQp hf y hy);refine⟨.sl ⟨true,.app g,4⟩ (x1++x2),ISt.put (λ_=>none) g (some (.box cs)),st,⟨λb o h=>?_,yQg hg,λb cs' h=>?_⟩,.sl g cap ⟨true,.app g,4⟩ (x1++x2) cs rfl (by omega) hc1 hcell (ISt.put_same ..) hc2 λi r c hr hx=>?_,⟨false,.app g,4⟩,ages (x1++x2),by simp only[age],.inr rfl,hf.aged,rfl⟩
  ·rw[ISt.put_apply] at h ⊢;split at h
   ·rename_i hb;rw[if_pos hb];exact h
   ·cases h
  ·rw[ISt.put_apply] at h;split at h
   ·rename_i hb;rw[hb];exact hg
   ·cases h
  ·have hi:i<(x1++x2).length*4:=by
    have:=(lGs hx).1
    rwa [yZ3 _ hcell] at this
   have:(cs.take ((x1++x2).length*4))[i]?=cs[i]?:=by rw[List.getElem?_take,if_pos hi]
   rw[hc3,hx,hr] at this;cases this;exact .refl _
theorem vQ8 {ca:Nat}{s:Sq}{rule:Nat}{main:Fm}{term:Tm}{name:ByteArray}{ad:List Sq}(h:yJl ca s rule main term name=(ad,0)) :
  yZz ca s=true/\∃r,(yJ7 ca rule r main term name)=(ad,0):=by
 unfold yJl at h;split at h
 ·simp at h
 ·rename_i hv;split at h
  ·simp at h
  ·rename_i r _;split at h
   ·simp at h
   ·split at h
    ·rename_i h1 h2;injection h with h3 h4;exact absurd h4 h2
    ·rename_i h1 h2;split at h
     ·simp at h
     ·injection h with h3 h4;refine⟨by simpa using hv,r,?_⟩;rw[<- h3];exact Prod.ext rfl (by simpa using h2)
theorem yZw:fitL []:=λf h=>by cases h
theorem zUc {f:Fm}(h:f.size<=1000):fitL [f]:=λg hg=>by obtain rfl:=List.mem_singleton.1 hg;omega
theorem xYj {f g:Fm}(h:f.size<=1000)(h':g.size<=1000):fitL [f,g]:=λk hk=>by
 rcases List.mem_cons.1 hk with rfl|hk
 ·omega
 ·obtain rfl:=List.mem_singleton.1 hk;omega
theorem yJ0 {c:Prop} [Decidable c]{A B:List Sq}{P:Sq->Prop}(h1:∀s∈A,P s)(h2:∀s∈B,P s):∀s∈(if c then A else B),P s:=by split<;>assumption
def yYu (s:Sq):Prop:=yGd s/\s.l.length<=64/\s.r.length<=64
theorem xYx {ca rule:Nat}{main a b:Fm}(hm:main.size<=400)(ha:a.size<=400)(hb:b.size<=400):∀s∈addS ca rule main a b,yYu s:=by
 have hi:(impF a b).size<=1000:=by simp only[impF,Fm.size,yQh,yQ9];omega
 have hi':(impF b a).size<=1000:=by simp only[impF,Fm.size,yQh,yQ9];omega
 have l1:=zUc (show main.size<=1000 by omega);have l2:=zUc (show a.size<=1000 by omega);have l3:=zUc (show b.size<=1000 by omega);have l4:=xYj (show a.size<=1000 by omega) (show b.size<=1000 by omega);have l5:=xYj hi hi';have q0:∀s∈([]:List Sq),yYu s:=λs hs=>by cases hs
 have q1:∀ {x:Sq},yYu x->∀s∈[x],yYu s:=λhx s hs=>by obtain rfl:=List.mem_singleton.1 hs;exact hx
 have q2:∀ {x y:Sq},yYu x->yYu y->∀s∈[x,y],yYu s:=λhx hy s hs=>by
  rcases List.mem_cons.1 hs with rfl|hs
  ·exact hx
  ·obtain rfl:=List.mem_singleton.1 hs;exact hy
 have c0:([]:List Fm).length<=64:=Nat.zero_le _;have c1:∀f:Fm,[f].length<=64:=λ_=>by simp
 have c2:∀f g:Fm,[f,g].length<=64:=λ_ _=>by simp
 unfold addS;refine yJ0 (q1 ⟨⟨yZw,l2⟩,c0,c1 _⟩) (yJ0 (q1 ⟨⟨l2,yZw⟩,c1 _,c0⟩) (yJ0 (q1 ⟨⟨l4,yZw⟩,c2 _ _,c0⟩) (yJ0 (q2 ⟨⟨yZw,l2⟩,c0,c1 _⟩ ⟨⟨yZw,l3⟩,c0,c1 _⟩) (yJ0 (q2 ⟨⟨l2,yZw⟩,c1 _,c0⟩ ⟨⟨l3,yZw⟩,c1 _,c0⟩)
  (yJ0 (yJ0 (q1 ⟨⟨yZw,l2⟩,c0,c1 _⟩) (q1 ⟨⟨yZw,l4⟩,c0,c2 _ _⟩)) (yJ0 (q2 ⟨⟨yZw,l2⟩,c0,c1 _⟩ ⟨⟨l3,yZw⟩,c1 _,c0⟩) (yJ0 (q1 ⟨⟨l2,l3⟩,c1 _,c1 _⟩) (yJ0 (q1 ⟨⟨l5,yZw⟩,c2 _ _,c0⟩) (yJ0 (q2 ⟨⟨l2,l3⟩,c1 _,c1 _⟩ ⟨⟨l3,l2⟩,c1 _,c1 _⟩)
  (yJ0 (q1 ⟨⟨l2,yZw⟩,c1 _,c0⟩) (yJ0 (q1 ⟨⟨yZw,l2⟩,c0,c1 _⟩) (yJ0 (q1 ⟨⟨l2,yZw⟩,c1 _,c0⟩) (yJ0 (q1 ⟨⟨yZw,l2⟩,c0,c1 _⟩) (yJ0 (q2 ⟨⟨yZw,l1⟩,c0,c1 _⟩ ⟨⟨l1,yZw⟩,c1 _,c0⟩) (yJ0 (q1 ⟨⟨yZw,l3⟩,c0,c1 _⟩) q0)))))))))))))))
theorem yXh:∀ {l:List Fm}{g:Fm},g∈l->g.size<=yQ9 l
 | a::l,g,h=>by
  simp only[yQ9];rcases List.mem_cons.1 h with rfl|h
  ·omega
  ·have:=yXh h;omega
theorem wY0 {l:List Fm}{n:Nat}(h:yQ9 l<=n)(hn:1<=n)(k:Nat):((l[k]?).getD fm0).size<=n:=by
 cases hk:l[k]? with
 | none=>exact hn
 | some a=>exact Nat.le_trans (yXh (lMg hk)) h
theorem wKs {ca rule:Nat}{r:Rw}{main:Fm}{term:Tm}{name:ByteArray}{ad:List Sq}(h:yJ7 ca rule r main term name=(ad,0)):∀s∈ad,yYu s:=by
 unfold yJ7 at h;by_cases hc:(!fmB ca main || (decide (r.op≠0)&&decide (main.op≠r.op)))=true
 ·rw[if_pos hc] at h;cases (Prod.mk.inj h).2
 ·rw[if_neg hc] at h;have hf:fmB ca main=true:=by
   cases hq:fmB ca main
   ·simp[hq] at hc
   ·rfl
  have hm:main.size<=400:=by
   unfold fmB at hf;simp only[bAt] at hf;exact (yGq hf.1).2.1
  have hs:∀k,((main.subs[k]?).getD fm0).size<=400:=λk=>wY0 (by
   obtain⟨o,n,us,sub⟩:=main;simp only[Fm.size] at hm;show yQ9 sub<=400;omega) (by omega) k
  by_cases h0:r.asks=0
  ·simp only[if_pos h0] at h;rw[<- (Prod.mk.inj h).1];exact xYx hm (hs 0) (hs 1)
  ·simp only[if_neg h0] at h;generalize (if r.asks=2 then Tm.mk true name [] else term)=t at h;by_cases h1:(!t.ok)=true
   ·simp only[if_pos h1] at h;cases (Prod.mk.inj h).2
   ·simp only[if_neg h1] at h;by_cases h2:(yX5 ((main.subs[0]?).getD fm0) [(main.nm,t)]).2≠0
    ·simp only[if_pos h2] at h;cases (Prod.mk.inj h).2
    ·simp only[if_neg h2] at h;rw[<- (Prod.mk.inj h).1];exact xYx hm (yX0 _ _) (hs 1)
theorem yY2 (s:Sq):∀(l l':List Sq) (ts ts':List Tr),l.length=ts.length->yX3 s (l++l') (ts++ts')=(yX3 s l ts&&yX3 s l' ts')
 | [],l',[],ts',_=>by simp[yX3]
 | a::l,l',t::ts,ts',h=>by
  simp only[List.cons_append,yX3,yY2 s l l' ts ts' (by simpa using h),Bool.and_assoc]
 | [],_,_::_,_,h=>by simp at h
 | _::_,_,[],_,h=>by simp at h
theorem zV4 {l l':List Fm}(h:fitL l)(h':fitL l'):fitL (l++l'):=λf hf=>(List.mem_append.1 hf).elim (h f) (h' f)
theorem vX7 (G:Gl gl)(T:Gt gl)(ca rule:Nat)(s:Sq)(main:Fm)(term:Tm)(name:ByteArray)(sub:List Tr)(x:IV)(hx:IsTr (.mk rule s main term name sub) x)(hs:yGd s)(hm:main.size<=1000000)(ht:term.size<=1000000)
  (hsub:∀a∈sub,yGd a.sq) (st:ISt):ICall prog gl 61 [.raw (.int .u8 ca),.cptr x] st (λr st'=>r=.raw (.int .i64 (yZu ca (.mk rule s main term name sub)))/\st'=st):=by
 obtain⟨tl,xl,tr,xr,op,fn,ta,xa,tb,xb,v,un,tu,xu,ts,xs,rfl,hru,e1,i1,e2,i2,hy,hz,e3,i3⟩:=hx.mk;have hstep:=λst=>vKi gl G T ca s _ ⟨tl,xl,tr,xr,rfl,e1,i1,e2,i2⟩ hs rule main _ hy hm term _ hz ht name st;unfold yZu;refine ICall.intro (c:=cf prog gl [] [(9,[0,1,2,3,4,5,6,7,9,10,11,12,13,14,15,16,19,8,17,18,20])]) func61 rfl (by show _<=84;simp) (by kernel_rfl) ?_;simp only[go_sem,zE,zB,zA,zL,reduceCtorEq,fits];refine (hstep _).mono ?_;rintro _ st ⟨tg,ys,rfl,he,hys,rfl⟩;generalize hq:yJl ca s rule main term name=q at hys ⊢;obtain⟨ad,er⟩:=q;simp only at hys ⊢;by_cases h0:er=0
 ·subst h0;obtain⟨hv,r,hr⟩:=vQ8 hq;have hfit:=wKs hr;simp only[go_sem,zE,show decide (((0:Nat):Int)=0)=true from rfl,i3.len,hys.len,fits];intro _ _;by_cases hl:sub.length=ad.length
  ·have dl:decide ((sub.length:Int)=(ad.length:Int))=true:=dEt (by omega);simp only[go_sem,zE,dl,hys.len];intro _;refine LoopC.ctr ad.length (λk fr st' ds=>yX3 s (ad.take k) (sub.take k)=true/\fr 0=.iv (.raw (.int .u8 ca))/\fr 1=.iv (.cptr (.agg [.raw (.int .u8 rule),.sl tl xl,.sl tr xr,.raw (.int .u8 op),.raw (.string fn),.sl ta xa,.sl tb xb,.raw (.bool v),.raw (.string un),.sl tu xu,.raw (.string name),.sl ts xs]))/\fr 46=.iv (.sl tg ys)/\fr 47=.iv (.raw (.int .i64 ad.length))/\fr 48=.iv (.raw (.int .i64 k))/\st'=st/\ds=[]) ?_ ?_ ?_
   ·simp only[go_sem,zE,reduceCtorEq];simp[yX3]
   ·rintro k fr st1 _ hlt ⟨hn,f0,f1,f46,f47,f48,rfl,rfl⟩;obtain⟨a,ha⟩:=yQ4 hlt;obtain⟨w,hkw,hw⟩:=hys.get ha;obtain⟨b,hb⟩:=yQ4 (l:=sub) (k:=k) (by omega);obtain⟨z,hkz,hz⟩:=i3.get hb;have hza:=hfit a (lMg ha);have hvl:s.l.length<=64/\s.r.length<=64:=by
     unfold yZz at hv;simp only[bAt,dTe] at hv;exact⟨hv.1.1.1.1.2,hv.1.1.1.2⟩
    obtain⟨t1,x1,t2,x2,rfl,k1,j1,k2,j2⟩:=hw;have hC1:=λst=>zUq gl s.l a.l tl t1 ⟨true,.full,1⟩ xl x1 (.inr rfl) i1 j1 (by have:=hza.2.1;omega) st;have hC2:=λst=>zUq gl s.r a.r tr t2 ⟨true,.full,1⟩ xr x2 (.inr rfl) i2 j2 (by have:=hza.2.2;omega) st;have hsb:=hsub b (lMg hb);obtain⟨br,bs,bm,bt,bn,bsub⟩:=b;obtain⟨tl',xl',tr',xr',op',fn',ta',xa',tb',xb',v',un',tu',xu',ts',xs',rfl,_,g1,m1,g2,m2,_⟩:=hz.mk;have hlen1:(ad.take k).length=(sub.take k).length:=by rw[List.length_take,List.length_take];omega
    have hpl:yGd (s.plus a):=⟨zV4 hs.1 hza.1.1,zV4 hs.2 hza.1.2⟩
    simp only[go_sem,zE,zB,zA,zM,zL,f1,f46,f47,f48,lt_i hlt,yQ3 he,iNn,hkw,fits,yQd];refine (hC1 _).mono ?_;rintro _ st2 ⟨t3,y1,rfl,g3,m3,rfl⟩;simp only[go_sem,zE,zA];refine (hC2 _).mono ?_;rintro _ st2 ⟨t4,y2,rfl,g4,m4,rfl⟩;simp only[go_sem,zE,zB,zA,zL,f1,yQ3 e3,iNn,hkz,fits];refine (xYy gl G bs (s.plus a) _ _ ⟨_,_,_,_,rfl,g1,m1,g2,m2⟩ ⟨_,_,_,_,rfl,g3,m3,g4,m4⟩ hsb hpl _).mono ?_;rintro _ st2 ⟨rfl,rfl⟩;cases hw:yXp bs (s.plus a)
    ·simp only[go_sem];refine yQ0 ⟨?_,rfl⟩;have hp:yX3 s ad sub=false:=by
      conv=>lhs;rw[<- List.take_append_drop k ad,<- List.take_append_drop k sub]
      rw[List.drop_eq_getElem_cons hlt,List.drop_eq_getElem_cons (show k<sub.length by omega),yY2 s _ _ _ _ hlen1,(lGs ha).2,(lGs hb).2];simp only[yX3,Tr.sq,hw,Bool.false_and,Bool.and_false]
     rw[if_neg (by omega),if_neg (by omega),hp];rfl
    ·simp only[go_sem,zE,reduceCtorEq,f0,f1,f46,f47,f48,yQf hlt (show ad.length<=281474976710656 by omega)];rw[yQ7 ha,yQ7 hb,yY2 s _ _ _ _ hlen1,hn];simp only[yX3,Tr.sq,hw,Bool.true_and]
   ·rintro fr st1 _ ⟨hn,f0,f1,f46,f47,f48,rfl,rfl⟩;rw[lTl,show sub.take ad.length=sub by rw[<- hl,lTl]] at hn;simp only[go_sem,f47,f48,yQo (nLi _)];refine yQ0 ⟨?_,rfl⟩;rw[if_neg (by omega),if_neg (by omega),hn];rfl
  ·have dl:decide ((sub.length:Int)=(ad.length:Int))=false:=dEf (by omega);simp only[go_sem,dl];refine yQ0 ⟨?_,rfl⟩;rw[if_neg (by omega),if_pos hl];rfl
 ·have d0:decide ((er:Int)=0)=false:=dEf (by omega);simp only[go_sem,zE,d0];refine yQ0 ⟨?_,rfl⟩;rw[if_pos h0]
def plI (p:List Nat):List IV:=p.map λ(i:Nat)=>.raw (.int .i64 (i:Int))
theorem yVh (p:List Nat):(plI p).length=p.length:=by simp[plI]
def emp:ISt:=λ_=>none
def PlV (p:List Nat)(a:IV)(e:ISt):Prop :=
 (∃t,a=.sl t []/\t.cap=.nil/\p=[]/\e=emp) \/
 ∃g cap cs,a=.raw (.slice (some ⟨g,0,none⟩) p.length cap)/\e=emp.put g (some (.box cs))/\p.length<=cap/\cap<=cs.length/\cs.take p.length=plI p
def lkT (l:List (List Nat×Tr))(k:Nat)(zs:List IV)(e:ISt):Prop:=∃p t a x,l[k]?=some (p,t)/\IsTr t x/\PlV p a e/\zs=[a,.cptr x]
def xKe (b2 b3 b4:Nat):IV:=.fn (.func 104) [] [.raw (.pointer (some ⟨b2,0,none⟩)),.raw (.pointer (some ⟨b3,0,none⟩)),.raw (.pointer (some ⟨b4,0,none⟩))]
def ownF (b2 b3 b4:Nat)(fy a:IV):ISt:=((emp.put b2 (some (.box [fy]))).put b3 (some (.box [a]))).put b4 (some (.box [xKe b2 b3 b4]))
section
variable {b2 b3 b4:Nat}{fy a:IV}
theorem wGq (h3:b2≠b3)(h4:b2≠b4):ownF b2 b3 b4 fy a b2=some (.box [fy]):=by simp only[ownF,ISt.put_apply,if_neg h3,if_neg h4,if_true]
theorem yUa (h4:b3≠b4):ownF b2 b3 b4 fy a b3=some (.box [a]):=by simp only[ownF,ISt.put_apply,if_neg h4,if_true]
theorem xZ1:ownF b2 b3 b4 fy a b4=some (.box [xKe b2 b3 b4]):=by simp only[ownF,ISt.put_apply,if_true]
theorem xWc {c:Nat}(h2:c≠b2)(h3:c≠b3)(h4:c≠b4):ownF b2 b3 b4 fy a c=none:=by simp only[ownF,ISt.put_apply,if_neg h2,if_neg h3,if_neg h4,emp]
theorem zXx {c:Nat}(a':IV):ownF b2 b3 b4 fy a c=none↔ownF b2 b3 b4 fy a' c=none:=by
 simp only[ownF,ISt.put_apply];by_cases h4:c=b4
 ·simp[h4]
 ·by_cases h3:c=b3
  ·subst h3;simp only[if_neg h4,if_true,reduceCtorEq]
  ·simp[h4,h3]
end
def xXi (b2 b3 b4:Nat)(fy:IV)(p:List Nat)(s stt:ISt):Prop:=∃a e,PlV p a e/\disj s e/\disj (join s e) (ownF b2 b3 b4 fy a)/\stt=join (join s e) (ownF b2 b3 b4 fy a)
def FOkL (y:IV)(I:Nat->ISt->Prop)(S:ISt->Prop)(k0:Nat)(l:List (List Nat×Tr)):Prop :=
 ∀i p t x a e stu,l[i]?=some (p,t)->IsTr t x->PlV p a e->disj stu e->I (k0+i) stu →
  ICallV prog gl y [a,.cptr x] (join stu e) λr st'=>(r=.raw (.bool true)/\∃s1,I (k0+i+1) s1/\disj s1 e/\st'=join s1 e)\/(r=.raw (.bool false)/\S st')
section
variable {gl}{y:IV}{I:Nat->ISt->Prop}{S:ISt->Prop}{k0:Nat}
theorem FOkL.left {l m:List (List Nat×Tr)}(h:FOkL gl y I S k0 (l++m)):FOkL gl y I S k0 l:=λi p t x a e stu hi =>
 h i p t x a e stu (by rw[List.getElem?_append_left (lGs hi).1];exact hi)
theorem FOkL.right {l m:List (List Nat×Tr)}(h:FOkL gl y I S k0 (l++m)):FOkL gl y I S (k0+l.length) m:=λi p t x a e stu hi hx hp hd hI=>by
 have:=h (l.length+i) p t x a e stu (by rw[List.getElem?_append_right (by omega)];simpa using hi) hx hp hd (by rw[<- Nat.add_assoc];exact hI);simpa only[Nat.add_assoc] using this
theorem FOkL.tail {z:List Nat×Tr}{m:List (List Nat×Tr)}(h:FOkL gl y I S k0 (z::m)):FOkL gl y I S (k0+1) m:=FOkL.right (l:=[z]) h
end
section
variable {b2 b3 b4:Nat}{fy a a':IV}{p:List Nat}{s:ISt}{g:Nat}
theorem zGr {c:Nat}(h:c≠b3):ownF b2 b3 b4 fy a c=ownF b2 b3 b4 fy a' c:=by simp only[ownF,ISt.put_apply,if_neg h]
theorem wZw {cs:List IV}(h34:b3≠b4)(hs:disj s (ownF b2 b3 b4 fy a))(hg1:s g=none)(hg2:ownF b2 b3 b4 fy a g=none)(hp:PlV p a' (emp.put g (some (.box cs)))) :
  xXi b2 b3 b4 fy p s (((join s (ownF b2 b3 b4 fy a)).put g (some (.box cs))).put b3 (some (.box [a']))):=by
 have hg3:ownF b2 b3 b4 fy a' g=none:=(zXx a').1 hg2;refine⟨a',_,hp,λb hb=>?_,λb hb=>?_,?_⟩
 ·rw[ISt.put_apply] at hb;split at hb
  ·rename_i h;rw[h];exact hg1
  ·exact absurd rfl hb
 ·have hbg:b≠g:=by rintro rfl;exact hb hg3
  have he:(emp.put g (some (.box cs))) b=none:=by rw[ISt.put_apply,if_neg hbg];rfl
  rw[yZ0 he];exact hs b λh=>hb ((zXx a').1 h)
 ·funext c;by_cases h3:c=b3
  ·rw[ISt.put_apply,if_pos h3,h3,yQx (yUa h34)]
  ·rw[ISt.put_apply,if_neg h3,ISt.put_apply];by_cases hc:c=g
   ·rw[if_pos hc,hc,yZ0 hg3,yQx (ISt.put_same ..)]
   ·rw[if_neg hc];have he:(emp.put g (some (.box cs))) c=none:=by rw[ISt.put_apply,if_neg hc];rfl
    cases ho:ownF b2 b3 b4 fy a c with
    | some o=>rw[yQx ho,yQx ((zGr h3).symm.trans ho)]
    | none=>rw[yZ0 ho,yZ0 ((zGr h3).symm.trans ho),yZ0 he]
theorem vZv {cs:List IV}(hd1:s g=none)(hd2:ownF b2 b3 b4 fy a g=none):(join (join s (emp.put g (some (.box cs)))) (ownF b2 b3 b4 fy a)).put g none=join s (ownF b2 b3 b4 fy a):=by
 funext c;rw[ISt.put_apply];split
 ·rename_i h;rw[h,yZ0 hd2,hd1]
 ·rename_i h;have he:(emp.put g (some (.box cs))) c=none:=by rw[ISt.put_apply,if_neg h];rfl
  cases ho:ownF b2 b3 b4 fy a c with
  | some o=>rw[yQx ho,yQx ho]
  | none=>rw[yZ0 ho,yZ0 ho,yZ0 he]
end
theorem PlV.cons {p:List Nat}{k:Nat}{a:IV}{e:ISt}(h:PlV (p++[k]) a e):∃g cap cs,a=.raw (.slice (some ⟨g,0,none⟩) (p.length+1) cap)/\e=emp.put g (some (.box cs))/\p.length+1<=cap/\cap<=cs.length/\cs.take p.length=plI p:=by
 rcases h with⟨t,_,_,h,_⟩|⟨g,cap,cs,rfl,rfl,h1,h2,h3⟩
 ·simp at h
 ·rw[lLa] at h1 h3 ⊢;refine⟨g,cap,cs,rfl,rfl,h1,h2,?_⟩;have:=congrArg (List.take p.length) h3;rw[List.take_take,show min p.length (p.length+[k].length)=p.length by omega] at this;rw[this];unfold plI;rw[List.map_append,List.take_left' (by simp)]
theorem wGj {b2 b3 b4:Nat}{fy a a':IV}{X:ISt}(h34:b3≠b4):(join X (ownF b2 b3 b4 fy a)).put b3 (some (.box [a']))=join X (ownF b2 b3 b4 fy a'):=by
 funext c;rw[ISt.put_apply];split
 ·rename_i h;rw[h,yQx (yUa h34)]
 ·rename_i h;cases ho:ownF b2 b3 b4 fy a c with
  | some o=>rw[yQx ho,yQx ((zGr h).symm.trans ho)]
  | none=>rw[yZ0 ho,yZ0 ((zGr h).symm.trans ho)]
theorem zWr {n m:Nat}(h:n+1<=m):yXv none (some ((n:Nat):Int)) m=some (0,n):=by
 simp only[yXv,Option.getD_none,Option.getD_some];rw[if_pos ⟨Int.le_refl _,by omega,by omega⟩];simp
theorem zYj:∀ {l:List Tr}{t:Tr},t∈l->t.height<=yZc l
 | a::l,t,h=>by
  simp only[yZc];rcases List.mem_cons.1 h with rfl|h
  ·omega
  ·have:=zYj h;omega
theorem zKv (x:Operand):yKb 1 [(0,x)]=true:=rfl
theorem yKf (p:List Nat):∀(i:Nat) (l m:List Tr),yZj p i (l++m)=yZj p i l++yZj p (i+l.length) m
 | i,[],m=>by simp[yZj]
 | i,a::l,m=>by
  simp only[List.cons_append,yZj,yKf p (i+1) l m,List.append_assoc,List.length_cons];rw[show i+1+l.length=i+(l.length+1) by omega]
def FF (t:Tr):Prop:=∀(x:IV) (_:IsTr t x) (b2 b3 b4:Nat) (_:b2≠b3) (_:b2≠b4) (_:b3≠b4) (g:Fn) (fi ca:List IV) (_:fnOk g=true) (_:∀i,g=.func i->entI prog i=true) (I:Nat->ISt->Prop) (S:ISt->Prop) (k0:Nat) (p:List Nat)
  (_:FOkL gl (.fn g fi ca) I S k0 (t.walk p)) (_:p.length+t.height<=1099511627776) (s stt:ISt) (_:I k0 s) (_:xXi b2 b3 b4 (.fn g fi ca) p s stt),
  ICall prog gl 104 [.cptr x,.raw (.pointer (some ⟨b2,0,none⟩)),.raw (.pointer (some ⟨b3,0,none⟩)),.raw (.pointer (some ⟨b4,0,none⟩))] stt
   (λr st'=>(r=.raw (.bool true)/\∃s1,I (k0+(t.walk p).length) s1/\xXi b2 b3 b4 (.fn g fi ca) p s1 st')\/(r=.raw (.bool false)/\∃s1,S s1/\subSt s1 st'))
theorem wJl (rule:Nat)(sq:Sq)(f:Fm)(u:Tm)(n:ByteArray)(sub:List Tr)(IH:∀a∈sub,FF gl a):FF gl (.mk rule sq f u n sub):=by
 intro x hx b2 b3 b4 h23 h24 h34 g fi ca hfn hent I S k0 p hy hdeep s stt hI hst;have hx0:=hx;obtain⟨tl,xl,tr,xr,op,fn,ta,xa,tb,xb,v,un,tu,xu,ts,xs,hxe,hru,_,_,_,_,_,_,e3,i3⟩:=hx.mk;obtain⟨a,e,hp,hd1,hd2,rfl⟩:=hst;simp only[Tr.walk] at hy ⊢;have hhead:=hy 0 p _ _ a e s rfl hx0 hp hd1 hI;have hy':=FOkL.tail hy;have r2:join (join s e) (ownF b2 b3 b4 (.fn g fi ca) a) b2=some (.box [.fn g fi ca]):=yQx (wGq h23 h24);have r3:join (join s e) (ownF b2 b3 b4 (.fn g fi ca) a) b3=some (.box [a]):=yQx (yUa h34);refine ICall.intro (c:=cf prog gl [23,24] []) func104 rfl (by show _<=39;simp) (by kernel_rfl) ?_;have hiv:ivOf (.iv a)=some a:=by rcases hp with⟨t,rfl,_⟩|⟨g,cap,cs,rfl,_⟩<;>rfl
 rw[hxe] at hhead;simp only[go_sem,zE,reduceCtorEq,r2,r3,hiv,hxe];refine yXk hent (hhead.frame hd2 |>.mono ?_);rintro r stt ⟨s2,hd3,rfl,(⟨rfl,s3,hI3,hd4,rfl⟩|⟨rfl,hS⟩)⟩
 ·simp only[go_sem,reduceCtorEq,i3.len];intro hlen;refine LoopC.ctr sub.length (λk fr st' ds=>(∃s,I (k0+1+(yZj p 0 (sub.take k)).length) s/\xXi b2 b3 b4 (.fn g fi ca) p s st')/\fr 0=.iv (.cptr x)/\fr 1=.iv (.raw (.pointer (some ⟨b2,0,none⟩)))/\fr 2=.iv (.raw (.pointer (some ⟨b3,0,none⟩)))/\fr 3=.iv (.raw (.pointer (some ⟨b4,0,none⟩)))/\fr 16=.iv (.raw (.int .i64 sub.length))/\fr 17=.iv (.raw (.int .i64 k))/\ds=[]) ?_ ?_ ?_
  ·simp only[go_sem,zE,reduceCtorEq,hxe];exact⟨⟨s3,by simpa[yZj] using hI3,a,e,hp,hd4,hd3,rfl⟩,rfl⟩
  ·rintro k fr st1 _ hlt ⟨⟨s,hI,a,e,hp,hd1,hd2,rfl⟩,f0,f1,f2,f3,f16,f17,rfl⟩;rw[hxe] at f0;obtain⟨t,ht⟩:=yQ4 hlt;obtain⟨z,hkz,hz⟩:=i3.get ht;have r3:join (join s e) (ownF b2 b3 b4 (.fn g fi ca) a) b3=some (.box [a]):=yQx (yUa h34);have hth:=zYj (lMg ht);simp only[Tr.height] at hdeep;have hsplit:yZj p 0 sub=yZj p 0 (sub.take k)++(t.walk (p++[k])++yZj p (k+1) (sub.drop (k+1))):=by
    conv=>lhs;rw[<- List.take_append_drop k sub,List.drop_eq_getElem_cons hlt]
    rw[yKf,(lGs ht).2,show (sub.take k).length=k by rw[List.length_take];omega];simp only[yZj,Nat.zero_add]
   have hya:=hy';rw[hsplit] at hya;have hcall:=λstt hF=>IH t (lMg ht) z hz b2 b3 b4 h23 h24 h34 g fi ca hfn hent I S _ (p++[k]) (FOkL.left (FOkL.right hya)) (by rw[lLa];simp only[List.length_singleton];omega) s stt hI hF;have wcut:IntKind.i64.wrap (((p.length+1:Nat):Int)-1)=(p.length:Nat):=by rw[w64 (by omega) (by omega)];omega
   have hz':∃c0 c1 c2 c3 c4 c5 c6 c7 c8 c9 c10 c11,z=.agg [c0,c1,c2,c3,c4,c5,c6,c7,c8,c9,c10,c11]:=by
    obtain⟨r',s',m',t',n',b'⟩:=t;obtain⟨tl',xl',tr',xr',op',fn',ta',xa',tb',xb',v',un',tu',xu',ts',xs',rfl,_⟩:=hz.mk;exact⟨_,_,_,_,_,_,_,_,_,_,_,_,rfl⟩
   obtain⟨c0,c1,c2,c3,c4,c5,c6,c7,c8,c9,c10,c11,rfl⟩:=hz';rcases hp with⟨t0,rfl,hta,hp0,rfl⟩|⟨g',cap,cs,rfl,rfl,hc1,hc2,hc3⟩
   ·obtain⟨fs,c,es⟩:=t0;obtain rfl:c=.nil:=hta;have hje:join s emp=s:=rfl;rw[hje] at r3 hd2 ⊢;simp only[go_sem,zE,zA,zM,zL,reduceCtorEq,f0,f2,f3,f16,f17,lt_i hlt,r3,hxe,zKv];intro g' cap;refine yQc λhg=>?_;obtain⟨hg,hcap⟩:=hg;change join s (ownF b2 b3 b4 (.fn g fi ca) (.sl ⟨fs,.nil,es⟩ [])) g'=none at hg;have hd2':disj s (ownF b2 b3 b4 (.fn g fi ca) (.sl ⟨fs,.nil,es⟩ [])):=hd2;have hg2:ownF b2 b3 b4 (.fn g fi ca) (.sl ⟨fs,.nil,es⟩ []) g'=none:=by
     cases ho:ownF b2 b3 b4 (.fn g fi ca) (.sl ⟨fs,.nil,es⟩ []) g' with
     | none=>rfl
     | some o=>rw[yQx ho] at hg;cases hg
    have hg1:s g'=none:=by rw[<- yZ0 (stu:=s) hg2];exact hg
    have hb3:b3≠g':=by rintro rfl;rw[yUa h34] at hg2;cases hg2
    have hF:=wZw (fy:=.fn g fi ca) (p:=p++[k]) (a':=.raw (.slice (some ⟨g',0,none⟩) 1 cap)) (cs:=.raw (.int .i64 k)::List.replicate (cap-1) .junk) h34 hd2' hg1 hg2 (.inr ⟨g',cap,_,by rw[hp0];rfl,rfl,by simpa[hp0] using hcap,by simp;omega,by simp[plI,hp0]⟩);have hb4:b4≠g':=by rintro rfl;rw[xZ1] at hg2;cases hg2
    have r3':∀o,((join s (ownF b2 b3 b4 (.fn g fi ca) (.sl ⟨fs,.nil,es⟩ []))).put g' o) b3=some (.box [.sl ⟨fs,.nil,es⟩ []]):=λo=>by rw[ISt.put_apply,if_neg hb3];exact r3
    have r4':∀o o',(((join s (ownF b2 b3 b4 (.fn g fi ca) (.sl ⟨fs,.nil,es⟩ []))).put g' o).put b3 o') b4=some (.box [xKe b2 b3 b4]):=λo o'=>by rw[ISt.put_apply,if_neg h34.symm,ISt.put_apply,if_neg hb4];exact yQx xZ1
    simp only[go_sem,zL,IV.one,List.flatMap_cons,List.flatMap_nil,IV.cells,Nat.mul_one,r3',r4',hkz,yQ3 e3,iNn,xKe];refine (hcall _ hF).mono ?_;rintro _ st2 (⟨rfl,s1,hI1,hF1⟩|⟨rfl,s1,hS1,hsub1⟩)
    ·obtain⟨a2,e2,hp2,hd5,hd6,rfl⟩:=hF1;obtain⟨g3,cap3,cs3,rfl,rfl,hc4,hc5,hc6⟩:=hp2.cons;have r6:join (join s1 (emp.put g3 (some (.box cs3)))) (ownF b2 b3 b4 (.fn g fi ca) (.raw (.slice (some ⟨g3,0,none⟩) (p.length+1) cap3))) b3=some (.box [.raw (.slice (some ⟨g3,0,none⟩) (p.length+1) cap3)]):=yQx (yUa h34);simp only[go_sem,zE,zL,reduceCtorEq,IV.one,r6,f0,f1,f2,f3,f16,f17,wcut,zWr hc4,ite_self,Nat.zero_mul,hc4,yQf hlt (show sub.length<=281474976710656 by omega)];refine⟨s1,?_,?_⟩
     ·rw[yQ7 ht,yKf,lLa,show (sub.take k).length=k by rw[List.length_take];omega];simp only[yZj,List.append_nil,Nat.zero_add];rw[<- Nat.add_assoc];exact hI1
     ·rw[wGj h34];exact⟨_,_,.inr ⟨g3,cap3,cs3,rfl,rfl,by omega,hc5,hc6⟩,hd5,λb hb=>hd6 b λh=>hb ((zXx _).1 h),rfl⟩
    ·simp only[go_sem];exact yQ0 (.inr ⟨rfl,s1,hS1,hsub1⟩)
   ·have ho:ownF b2 b3 b4 (.fn g fi ca) (.raw (.slice (some ⟨g',0,none⟩) p.length cap)) g'=none:=by
     cases ho:ownF b2 b3 b4 (.fn g fi ca) (.raw (.slice (some ⟨g',0,none⟩) p.length cap)) g' with
     | none=>rfl
     | some o =>
      have:=hd2 g' (by rw[ho];simp);rw[yQx (ISt.put_same ..)] at this;cases this
    have hs1:s g'=none:=hd1 g' (by rw[ISt.put_same];simp);have r5:join (join s (emp.put g' (some (.box cs)))) (ownF b2 b3 b4 (.fn g fi ca) (.raw (.slice (some ⟨g',0,none⟩) p.length cap))) g'=some (.box cs):=by
     rw[yZ0 ho,yQx (ISt.put_same ..)]
    simp only[go_sem,zE,zA,zM,zL,f2,f16,f17,lt_i hlt,r3,hxe,zKv];refine yKe _ _ _ r5 (by simp[fits,IV.one]) ⟨by show (_+1)*8<=_;omega,by show _+1<=_;omega⟩ ⟨hc1,by show _*1<=_;omega⟩ (by simp[IV.cells]) ?_;intro g2 cap2 cs2 hg2 k1 k2 k3;rw[vZv hs1 ho];have hgo:s g2=none/\ownF b2 b3 b4 (.fn g fi ca) (.raw (.slice (some ⟨g',0,none⟩) p.length cap)) g2=none:=by
     rcases hg2 with rfl|hg2
     ·exact⟨hs1,ho⟩
     ·cases hq:ownF b2 b3 b4 (.fn g fi ca) (.raw (.slice (some ⟨g',0,none⟩) p.length cap)) g2 with
      | some o=>rw[yQx hq] at hg2;cases hg2
      | none =>
       rw[yZ0 hq] at hg2;refine⟨?_,rfl⟩;cases hz:s g2 with
       | none=>rfl
       | some o=>rw[yJh hd1 g2 o hz] at hg2;cases hg2
    have hs2:disj s (ownF b2 b3 b4 (.fn g fi ca) (.raw (.slice (some ⟨g',0,none⟩) p.length cap))):=λb hb=>by
     have:=hd2 b hb;cases hz:s b with
     | none=>rfl
     | some o=>rw[yJh hd1 b o hz] at this;cases this
    have hF:=wZw (fy:=.fn g fi ca) (p:=p++[k]) (a':=.raw (.slice (some ⟨g2,0,none⟩) (p.length+1) cap2)) (cs:=cs2) h34 hs2 hgo.1 hgo.2 (.inr ⟨g2,cap2,cs2,by simp,rfl,by simpa using k1,by simpa using k2,by
     simp only[Nat.mul_one] at k3;rw[lLa];exact k3.trans (by rw[hc3];simp[plI,IV.cells])⟩)
    have hb3:b3≠g2:=by rintro rfl;have:=hgo.2;rw[yUa h34] at this;cases this
    have hb4:b4≠g2:=by rintro rfl;have:=hgo.2;rw[xZ1] at this;cases this
    have r3':∀o,((join s (ownF b2 b3 b4 (.fn g fi ca) (.raw (.slice (some ⟨g',0,none⟩) p.length cap)))).put g2 o) b3=some (.box [.raw (.slice (some ⟨g',0,none⟩) p.length cap)]):=λo=>by rw[ISt.put_apply,if_neg hb3];exact yQx (yUa h34)
    have r4':∀o o',(((join s (ownF b2 b3 b4 (.fn g fi ca) (.raw (.slice (some ⟨g',0,none⟩) p.length cap)))).put g2 o).put b3 o') b4=some (.box [xKe b2 b3 b4]):=λo o'=>by rw[ISt.put_apply,if_neg h34.symm,ISt.put_apply,if_neg hb4];exact yQx xZ1
    simp only[go_sem,zE,zL,reduceCtorEq,IV.one,IV.cells,r3',r4',f0,f2,f3,hkz,yQ3 e3,iNn,fits,xKe];refine (hcall _ hF).mono ?_;rintro _ st2 (⟨rfl,s1,hI1,hF1⟩|⟨rfl,s1,hS1,hsub1⟩)
    ·obtain⟨a2,e2,hp2,hd5,hd6,rfl⟩:=hF1;obtain⟨g3,cap3,cs3,rfl,rfl,hc4,hc5,hc6⟩:=hp2.cons;have r6:join (join s1 (emp.put g3 (some (.box cs3)))) (ownF b2 b3 b4 (.fn g fi ca) (.raw (.slice (some ⟨g3,0,none⟩) (p.length+1) cap3))) b3=some (.box [.raw (.slice (some ⟨g3,0,none⟩) (p.length+1) cap3)]):=yQx (yUa h34);simp only[go_sem,zE,zL,reduceCtorEq,IV.one,r6,f0,f1,f2,f3,f16,f17,wcut,zWr hc4,ite_self,Nat.zero_mul,hc4,yQf hlt (show sub.length<=281474976710656 by omega)];refine⟨s1,?_,?_⟩
     ·rw[yQ7 ht,yKf,lLa,show (sub.take k).length=k by rw[List.length_take];omega];simp only[yZj,List.append_nil,Nat.zero_add];rw[<- Nat.add_assoc];exact hI1
     ·rw[wGj h34];exact⟨_,_,.inr ⟨g3,cap3,cs3,rfl,rfl,by omega,hc5,hc6⟩,hd5,λb hb=>hd6 b λh=>hb ((zXx _).1 h),rfl⟩
    ·simp only[go_sem];exact yQ0 (.inr ⟨rfl,s1,hS1,hsub1⟩)
  ·rintro fr st1 _ ⟨⟨s,hI,hF⟩,f0,f1,f2,f3,f16,f17,rfl⟩;rw[lTl] at hI;simp only[go_sem,f16,f17,yQo (nLi _)];refine yQ0 (.inl ⟨rfl,s,?_,hF⟩);rw[show k0+((yZj p 0 sub).length+1)=k0+1+(yZj p 0 sub).length by omega];exact hI
 ·simp only[go_sem];exact yQ0 (.inr ⟨rfl,s2,hS,yJh hd3⟩)
theorem xYf:∀(k:Nat)(t:Tr),SizeOf.sizeOf t<k->FF gl t
 | 0,t,h=>by omega
 | k+1,.mk r sq f u n sub,h=>wJl gl r sq f u n sub (λa ha=>xYf k a (by
   have:=lSm ha;simp at h;omega))
theorem vVx (t:Tr):FF gl t:=xYf gl _ t (Nat.lt_succ_self _)
theorem wVx (t:Tr)(x:IV)(hx:IsTr t x)(hd:t.height<=1099511627776)(I:Nat->ISt->Prop):wG1 prog gl 103 [] [.cptr (.cptr x)] (lkT (t.walk [])) (t.walk []).length I:=by
 rintro y I' S' st ⟨g,fi,ca,rfl,hfn,hent⟩ _ hy h0;have hfrom:=vVx gl t x hx;have hok:FOkL gl (.fn g fi ca) I' S' 0 (t.walk []):=λi p t x a e stu hi ht hp hdj hI=>by
  rw[Nat.zero_add] at hI ⊢;exact hy i [a,.cptr x] e stu ⟨p,t,a,x,hi,ht,hp,rfl⟩ hdj hI
 have hz':∃c0 c1 c2 c3 c4 c5 c6 c7 c8 c9 c10 c11,x=.agg [c0,c1,c2,c3,c4,c5,c6,c7,c8,c9,c10,c11]:=by
  obtain⟨r',s',m',t',n',b'⟩:=t;obtain⟨tl',xl',tr',xr',op',fn',ta',xa',tb',xb',v',un',tu',xu',ts',xs',rfl,_⟩:=hx.mk;exact⟨_,_,_,_,_,_,_,_,_,_,_,_,rfl⟩
 obtain⟨c0,c1,c2,c3,c4,c5,c6,c7,c8,c9,c10,c11,rfl⟩:=hz';change ICall prog gl _ [.fn g fi ca,_] st _;refine ICall.intro (c:=cf prog gl [2,3,4] []) func103 rfl (by show _<=9;simp) (by kernel_rfl) ?_;simp only[go_sem,zE,zL,fits];intro b2;refine yQc λhb2=>?_;intro b3;refine yQc λhb3=>?_;intro b4;refine yQc λhb4=>?_;have h23:b2≠b3:=by rintro rfl;rw[ISt.put_same] at hb3;cases hb3
 have h34:b3≠b4:=by rintro rfl;rw[ISt.put_same] at hb4;cases hb4
 have h24:b2≠b4:=by rintro rfl;rw[ISt.put_apply,if_neg h23,ISt.put_same] at hb4;cases hb4
 rw[ISt.put_apply,if_neg h23.symm] at hb3;rw[ISt.put_apply,if_neg h34.symm,ISt.put_apply,if_neg h24.symm] at hb4;have hF:xXi b2 b3 b4 (.fn g fi ca) [] st ((((st.put b2 (some (.box [.fn g fi ca]))).put b3 (some (.box [.sl ⟨true,.nil,0⟩ []]))).put b4 (some (.box [.raw .nilFunc]))).put b4 (some (.box [xKe b2 b3 b4]))):=by
  refine⟨_,emp,.inl ⟨⟨true,.nil,0⟩,rfl,rfl,rfl,rfl⟩,λb hb=>absurd rfl hb,λb hb=>?_,?_⟩
  ·show st b=none;by_cases q4:b=b4
   ·rw[q4];exact hb4
   ·by_cases q3:b=b3
    ·rw[q3];exact hb3
    ·by_cases q2:b=b2
     ·rw[q2];exact hb2
     ·exact absurd (xWc q2 q3 q4) hb
  ·funext c;by_cases q4:c=b4
   ·rw[q4,ISt.put_same,yQx xZ1]
   ·rw[ISt.put_apply,if_neg q4,ISt.put_apply,if_neg q4];by_cases q3:c=b3
    ·rw[q3,ISt.put_same,yQx (yUa h34)]
    ·rw[ISt.put_apply,if_neg q3];by_cases q2:c=b2
     ·rw[q2,ISt.put_same,yQx (wGq h23 h24)]
     ·rw[ISt.put_apply,if_neg q2,yZ0 (xWc q2 q3 q4)];rfl
 refine (hfrom b2 b3 b4 h23 h24 h34 g fi ca hfn hent I' S' 0 [] hok (by simpa using hd) st _ h0 hF).mono ?_;rintro r stt (⟨rfl,s1,hI1,a,e,_,hd1,hd2,rfl⟩|⟨rfl,s1,hS1,hsub⟩)
 ·simp only[go_sem];rw[Nat.zero_add] at hI1;exact yQa ((yJh hd1).trans (yJh hd2)) (.inl hI1)
 ·simp only[go_sem];exact yQa hsub (.inr hS1)
theorem vQ6 (x:IV)(st:ISt)(t:Tr)(hx:IsTr t x):ICall prog gl 60 [.cptr x] st (λr st'=>r=.fn (.func 103) [] [.cptr (.cptr x)]/\st'=st):=by
 have hz':∃c0 c1 c2 c3 c4 c5 c6 c7 c8 c9 c10 c11,x=.agg [c0,c1,c2,c3,c4,c5,c6,c7,c8,c9,c10,c11]:=by
  obtain⟨r',s',m',t',n',b'⟩:=t;obtain⟨tl',xl',tr',xr',op',fn',ta',xa',tb',xb',v',un',tu',xu',ts',xs',rfl,_⟩:=hx.mk;exact⟨_,_,_,_,_,_,_,_,_,_,_,_,rfl⟩
 obtain⟨c0,c1,c2,c3,c4,c5,c6,c7,c8,c9,c10,c11,rfl⟩:=hz';refine ICall.intro (c:=cf prog gl [] [] [1]) func60 rfl (by show _<=4;simp) (by kernel_rfl) ?_;simp only[go_sem,zE];exact yQ0 ⟨rfl,rfl⟩
theorem xXl (t:Tag)(ht:t.cap=.nil)(st:ISt):ICall prog gl 62 [.sl t []] st (λr st'=>(∃t',r=.sl t' (plI [])/\okEs t' 1)/\st'=st):=by
 obtain⟨fs,c,es⟩:=t;obtain rfl:c=.nil:=ht;refine iI func62 ?_;have hb:binV prog 55 .eql (.sl ⟨fs,.nil,es⟩ []) (.sl ⟨true,.nil,0⟩ [])=some (.raw (.bool true)):=by
  have:yVw prog 55=true:=by kernel_rfl
  simp[binV,zZ6,this]
 simp only[go_sem,reduceCtorEq,hb];exact yQ0 ⟨⟨_,rfl,.inl rfl⟩,rfl⟩
theorem wVf (g:Nat)(p:List Nat)(hp:p≠[])(hl:p.length<=1099511627776)(st:ISt):ICall prog gl 62 [.sl ⟨false,.app g,1⟩ (plI p)] st (λr st'=>(∃t',r=.sl t' (plI p)/\okEs t' 1)/\st'=st):=by
 obtain⟨i,p,rfl⟩:∃i q,p=i::q:=by
  cases p with
  | nil=>exact absurd rfl hp
  | cons i q=>exact⟨i,q,rfl⟩
 refine iI func62 ?_;have hb:binV prog 55 .eql (.sl ⟨false,.app g,1⟩ (plI (i::p))) (.sl ⟨true,.nil,0⟩ [])=some (.raw (.bool false)):=by
  have:yVw prog 55=true:=by kernel_rfl
  simp[binV,zZ6,this]
 have hf:(plI (i::p)).all (fits false 1)=true:=by simp[plI,fits,IV.one]
 simp only[List.length_cons] at hl;have he:plI (i::p)=.raw (.int .i64 (i:Int))::plI p:=rfl;have hpl:=yVh p;have hf':(plI p).all (fits false 1)=true:=by simp[plI,fits,IV.one]
 rw[he] at hb hf ⊢;simp only[go_sem,zE,zA,zM,zL,reduceCtorEq,fits,hb];exact yQm rfl (yQm hf' (yQm ⟨by omega,by omega⟩ λg'=>yQc λhg=>yQa (yQg hg) ⟨⟨_,rfl,.inr rfl⟩,rfl⟩))
theorem wQ0 {R:Rt}{st:ISt}{ds:List Dfd}(esc:List Nat)(dst:Option Nat)(e:TypeId×Bool×Nat×Nat)(fs:Bool)(es:Nat)(xs:List IV):appV esc dst e ⟨fs,.full,es⟩ xs [] R st ds =
 chk (([]:List IV).all (fits e.2.1 e.2.2.1)=true) (chk ((xs.length+0)*e.2.2.2<=140737488355328/\xs.length+0<=140737488355328) (chk (es=e.2.2.1) (R (.val (.sl ⟨fs,.full,es⟩ xs)) st ds))):=rfl
theorem wQ7 (g:Nat)(st:ISt):ICall prog gl 62 [.sl ⟨false,.app g,1⟩ (plI [])] st (λr st'=>(∃t',r=.sl t' (plI [])/\okEs t' 1)/\st'=st):=by
 have hb:binV prog 55 .eql (.sl ⟨false,.app g,1⟩ (plI [])) (.sl ⟨true,.nil,0⟩ [])=some (.raw (.bool false)):=by
  have:yVw prog 55=true:=by kernel_rfl
  simp[binV,zZ6,this]
 rw[show plI []=[] from rfl] at hb ⊢;refine iI func62 ?_;simp only[go_sem,zE,zA,zM,zL,reduceCtorEq,hb,wQ0];exact yQm rfl (yQ0 ⟨⟨_,rfl,.inr rfl⟩,rfl⟩)
theorem wJ6 {s e:ISt}(h:disj s e):join s e=join e s:=by
 funext b;cases he:e b with
 | none =>
  rw[yZ0 he];cases hs:s b with
  | none=>rw[yZ0 hs,he]
  | some o=>rw[yQx hs]
 | some o=>rw[yQx he,yZ0 (h b (by rw[he];simp)),he]
theorem xYu:∀p:List Nat,ages (plI p)=plI p
 | []=>by simp only[plI,List.map_nil,ages]
 | i::p=>by
  have:=xYu p;simp only[plI,List.map_cons,ages,age] at this ⊢;rw[this]
theorem xW7:∀p:List Nat,(plI p).flatMap IV.cells=plI p
 | []=>rfl
 | i::p=>by
  have:=xW7 p;simp only[plI,List.map_cons,List.flatMap_cons,IV.cells,List.singleton_append] at this ⊢;rw[this]
theorem wVe (p:List Nat)(a:IV)(e s:ISt)(hp:PlV p a e)(hl:p.length<=1099511627776)(hd:disj s e):ICall prog gl 62 [a] (join s e) (λr st'=>(∃t',r=.sl t' (plI p)/\okEs t' 1)/\st'=s):=by
 have key:ICall prog gl 62 [a] e (λr st'=>(∃t',r=.sl t' (plI p)/\okEs t' 1)/\st'=emp):=by
  rcases hp with⟨t,rfl,ht,rfl,rfl⟩|⟨g,cap,cs,rfl,rfl,h1,h2,h3⟩
  ·exact xXl gl t ht emp
  ·have hnb:yVt (emp.put g (some (.box cs)))=emp:=by
    funext b;by_cases hb:b=g
    ·rw[hb,zQb (ISt.put_same ..)];rfl
    ·have:(emp.put g (some (.box cs))) b=none:=by rw[ISt.put_apply,if_neg hb];rfl
     rw[yWd (λcs' h=>by rw[this] at h;cases h),this];rfl
   refine ICall.freeze (args':=[.sl ⟨false,.app g,1⟩ (plI p)]) ⟨_,_,rfl,.inr ⟨.sl ⟨true,.app g,1⟩ (plI p),?_,?_⟩,rfl⟩ ?_
   ·rw[<- yVh p];refine .sl g cap ⟨true,.app g,1⟩ (plI p) cs rfl (by rw[yVh];omega) (by rw[yVh];exact h1) (λx hx=>?_) (ISt.put_same ..) (by simpa using h2) λi r c hr hc=>?_
    ·obtain⟨i,_,rfl⟩:=List.mem_map.1 hx;rfl
    ·rw[xW7 p] at hc;have hi:i<p.length:=by
      have:=(lGs hc).1
      rwa [yVh] at this
     have:(cs.take p.length)[i]?=cs[i]?:=by rw[List.getElem?_take,if_pos hi]
     rw[h3,hc,hr] at this;cases this;exact .refl _
   ·simp only[age,xYu]
   ·rw[hnb];by_cases hpn:p=[]
    ·subst hpn;exact wQ7 gl g emp
    ·exact wVf gl g p hpn hl emp
 have h1:=key.frame (own:=s) (λb hb=>by
  cases he:e b with
  | none=>rfl
  | some o=>exact absurd (hd b (by rw[he];simp)) hb)
 rw[wJ6 hd];refine h1.mono ?_;rintro r st' ⟨stu,_,rfl,hr,rfl⟩;refine⟨hr,?_⟩;funext b;cases hs:s b with
 | none=>rw[yZ0 hs];rfl
 | some o=>rw[yQx hs]
def xWm:Tr->Prop
 | .mk _ s m u _ sub=>yGd s/\m.size<=1000000/\u.size<=1000000/\∀a∈sub,yGd a.sq
def vZp (t:Tr):Prop:=(∀q∈t.walk [],xWm q.2)/\t.height<=1099511627776
theorem wYf (G:Gl gl)(T:Gt gl)(ca:Nat)(t:Tr)(x:IV)(hx:IsTr t x)(hn:xWm t)(st:ISt):ICall prog gl 61 [.raw (.int .u8 ca),.cptr x] st (λr st'=>r=.raw (.int .i64 (yZu ca t))/\st'=st):=by
 obtain⟨rule,s,m,u,n,sub⟩:=t;exact vX7 gl G T ca rule s m u n sub x hx hn.1 hn.2.1 hn.2.2.1 hn.2.2.2 st
theorem yJk {t:Tr}{x:IV}(h:IsTr t x):∃(rule:Nat) (tl:Tag) (xl:List IV) (tr:Tag) (xr:List IV) (op:Int) (fn:ByteArray) (ta:Tag) (xa:List IV) (tb:Tag) (xb:List IV) (v:Bool) (un:ByteArray) (tu:Tag) (xu:List IV) (n:ByteArray) (ts:Tag) (xs:List IV),
  x=.agg [.raw (.int .u8 rule),.sl tl xl,.sl tr xr,.raw (.int .u8 op),.raw (.string fn),.sl ta xa,.sl tb xb,.raw (.bool v),.raw (.string un),.sl tu xu,.raw (.string n),.sl ts xs]:=by
 obtain⟨r',s',m',t',n',b'⟩:=t;obtain⟨tl',xl',tr',xr',op',fn',ta',xa',tb',xb',v',un',tu',xu',ts',xs',rfl,_⟩:=h.mk;exact⟨_,_,_,_,_,_,_,_,_,_,_,_,_,_,_,_,_,_,rfl⟩
mutual
theorem zG5:∀(p:List Nat)(t:Tr),(t.walk p).length=t.steps
 | p,.mk _ _ _ _ _ sub=>by simp only[Tr.walk,Tr.steps,List.length_cons,zJg p 0 sub];omega
theorem zJg:∀(p:List Nat)(i:Nat)(l:List Tr),(yZj p i l).length=yQj l
 | _,_,[]=>rfl
 | p,i,a::l=>by simp only[yZj,yQj,lLa,zG5 (p++[i]) a,zJg p (i+1) l]
end
mutual
theorem zUu:∀(q:List Nat)(t:Tr)(x:List Nat×Tr),x∈t.walk q->x.1.length+1<=q.length+t.height
 | q,.mk _ _ _ _ _ sub,x,h=>by
  simp only[Tr.walk,List.mem_cons] at h;simp only[Tr.height];rcases h with rfl|h
  ·simp only;omega
  ·have:=zX6 q 0 sub x h;omega
theorem zX6:∀(q:List Nat)(i:Nat)(l:List Tr)(x:List Nat×Tr),x∈yZj q i l->x.1.length<=q.length+yZc l
 | _,_,[],x,h=>by simp[yZj] at h
 | q,i,a::l,x,h=>by
  simp only[yZj,List.mem_append] at h;simp only[yZc];rcases h with h|h
  ·have:=zUu (q++[i]) a x h;rw[lLa] at this;simp only[List.length_singleton] at this;omega
  ·have:=zX6 q (i+1) l x h;omega
end
def CkI (st:ISt)(b2 b4 b5 b6 ca c:Nat)(s:ISt):Prop:=s b2=some (.box [.raw (.int .u8 ca)])/\s b4=some (.box [.sl ⟨true,.nil,0⟩ []])/\s b5=some (.box [.raw (.int .i64 0)])/\s b6=some (.box [.raw (.int .i64 c)])/\subSt st s
def CkS (st:ISt)(b4 b5:Nat)(q:List Nat×Nat)(e:Exit)(s:ISt):Prop:=e=.ret/\(∃tg,s b4=some (.box [.sl tg (plI q.1)])/\okEs tg 1)/\s b5=some (.box [.raw (.int .i64 q.2)])/\subSt st s
theorem zVt (G:Gl gl)(T:Gt gl)(ca:Nat)(t:Tr)(x:IV)(hx:IsTr t x)(hfit:vZp t)(st:ISt):ICall prog gl 22 [.raw (.int .u8 ca),x] st (λr st'=>(∃tg,r=.tup [.sl tg (plI (yZp ca t).1),.raw (.int .i64 (yZp ca t).2)]/\okEs tg 1)/\st'=st):=by
 have hst:=λst=>vQ6 gl x st t hx;have hit:=λI=>wVx gl t x hx hfit.2 I;have hkn:=λst=>xK6 gl ca st;obtain⟨rule,tl,xl,tr,xr,op,fn,ta,xa,tb,xb,v,un,tu,xu,n,ts,xs,rfl⟩:=yJk hx;refine ICall.intro (c:=cf prog gl [2,4,5,6] [] [3]) func22 rfl (by show _<=31;simp) (by kernel_rfl) ?_;simp only[go_sem,zE,zA,IV.one];intro b2;refine yQc λhb2=>?_;intro b4;refine yQc λhb4=>?_;intro b5;refine yQc λhb5=>?_;have h24:b2≠b4:=by rintro rfl;rw[ISt.put_same] at hb4;cases hb4
 have h45:b4≠b5:=by rintro rfl;rw[ISt.put_same] at hb5;cases hb5
 have h25:b2≠b5:=by rintro rfl;rw[ISt.put_apply,if_neg h24,ISt.put_same] at hb5;cases hb5
 rw[ISt.put_apply,if_neg h24.symm] at hb4;rw[ISt.put_apply,if_neg h45.symm,ISt.put_apply,if_neg h25.symm] at hb5;obtain⟨s1,hs1,f2,f4,f5,hsub⟩:∃s1,s1=((st.put b2 (some (.box [.raw (.int .u8 ca)]))).put b4 (some (.box [.sl ⟨true,.nil,0⟩ []]))).put b5 (some (.box [.raw (.int .i64 0)]))/\s1 b2=some (.box [.raw (.int .u8 ca)])/\s1 b4=some (.box [.sl ⟨true,.nil,0⟩ []])/\s1 b5=some (.box [.raw (.int .i64 0)])/\subSt st s1 :=
  ⟨_,rfl,by simp only[ISt.put_apply,if_neg h24,if_neg h25,if_true],by simp only[ISt.put_apply,if_neg h45,if_true],by simp only[ISt.put_apply,if_true],yZ5 (yZ5 (yZ5 (subSt.refl st) hb2) hb4) hb5⟩
 rw[<- hs1];simp only[go_sem,f2];refine (hkn _).mono ?_;rintro _ s1' ⟨rfl,rfl⟩;have g5:∀(s:ISt) o,(s.put b4 o) b5=s b5:=λs o=>by rw[ISt.put_apply,if_neg h45.symm]
 have g4:∀(s:ISt) o o',((s.put b4 o).put b5 o') b4=o:=λs o o'=>by rw[ISt.put_apply,if_neg h45,ISt.put_same]
 have hsub':∀(s:ISt) o o',subSt st s->subSt st ((s.put b4 o).put b5 o'):=λs o o' h=>yZ5 (yZ5 h hb4) hb5;cases hk:yK4 ca
 ·have hq:yZp ca t=([],2):=by unfold yZp;rw[hk];rfl
  simp only[go_sem,zE,zL,f4,f5,g5,g4,ISt.put_same];exact yQa (hsub' _ _ _ hsub) ⟨⟨_,by rw[hq];rfl,.inl rfl⟩,rfl⟩
 ·simp only[go_sem,zE,zA,zL];intro b6;refine yQc λhb6=>?_;rw[yQ8];refine (hst _).mono ?_;rintro _ _ ⟨rfl,rfl⟩;have h26:b2≠b6:=by rintro rfl;rw[f2] at hb6;cases hb6
  have h46:b4≠b6:=by rintro rfl;rw[f4] at hb6;cases hb6
  have h56:b5≠b6:=by rintro rfl;rw[f5] at hb6;cases hb6
  have hb6':st b6=none:=by
   cases hq:st b6 with
   | none=>rfl
   | some o=>rw[hsub b6 o hq] at hb6;cases hb6
  have hI0:CkI st b2 b4 b5 b6 ca 0 (s1'.put b6 (some (.box [.raw (.int .i64 0)]))):=⟨by rw[ISt.put_apply,if_neg h26];exact f2,by rw[ISt.put_apply,if_neg h46];exact f4,by rw[ISt.put_apply,if_neg h56];exact f5,ISt.put_same ..,yZ5 hsub hb6'⟩
  generalize s1'.put b6 (some (.box [.raw (.int .i64 0)]))=s2 at hI0 ⊢;simp only[go_sem,reduceCtorEq];refine RangeL.intro (lkT (t.walk [])) (t.walk []).length (λk s=>CkI st b2 b4 b5 b6 ca k s/\k<=300) (λe s=>CkS st b4 b5 ([],5) e s/\300<t.steps) rfl ?_ ?_ ?_ (hit _) ?_ ?_
  ·rintro k a e ⟨p,u,a,y,_,_,_,rfl⟩;rfl
  ·exact⟨hI0,by omega⟩
  ·rintro k _ e s ⟨p,z,a,y,hkz,hz,hp,rfl⟩ hd ⟨⟨c2,c4,c5,c6,hss⟩,hk3⟩;have hd':disj s e:=hd;have r6:=yJh hd' _ _ c6;have r4:=yJh hd' _ _ c4;have r5:=yJh hd' _ _ c5;have e6:e b6=none:=ISt.disj.off hd c6;have hw:IntKind.i64.wrap ((k:Int)+1)=((k+1:Nat):Int):=by rw[w64]<;>omega
   have q4:∀o,((join s e).put b6 o) b4=some (.box [.sl ⟨true,.nil,0⟩ []]):=λo=>by rw[yQb h46];exact r4
   have q5:∀o o',(((join s e).put b6 o).put b4 o') b5=some (.box [.raw (.int .i64 0)]):=λo o'=>by rw[yQb h45.symm,yQb h56];exact r5
   by_cases hbig:300<k+1
   ·have hb:decide ((300:Int)<((k+1:Nat):Int))=true:=dEt (by omega);simp only[go_sem,zE,zL,r6,hw,ISt.put_same,hb,q4,q5];refine⟨⟨rfl,⟨⟨true,.nil,0⟩,?_,.inl rfl⟩,ISt.put_same ..,yZ5 (yZ5 (yZ5 (hss.trans (yJh hd')) hb6') hb4) hb5⟩,?_⟩
    ·rw[yQb h45,ISt.put_same];rfl
    ·have:=(lGs hkz).1;rw[zG5] at this;omega
   ·have hb:decide ((300:Int)<((k+1:Nat):Int))=false:=dEf (by omega);simp only[go_sem,zE,zL,r6,hw,ISt.put_same,hb];refine⟨s.put b6 (some (.box [.raw (.int .i64 ((k+1:Nat):Int))])),⟨⟨by rw[yQb h26];exact c2,by rw[yQb h46];exact c4,by rw[yQb h56];exact c5,ISt.put_same ..,yZ5 hss hb6'⟩,by omega⟩,ISt.disj.put hd e6,ISt.put_add e6⟩
  ·rintro s r ⟨⟨c2,c4,c5,c6,hss⟩,hk3⟩;rw[zG5] at hk3;have hq:yZp ca t=yZk (yZu ca) (t.walk []):=by
    unfold yZp;rw[hk];simp only[Bool.not_true,bFt,if_false];rw[if_neg (by omega)]
   simp only[go_sem,zE,zA];refine (hst _).mono ?_;rintro _ _ ⟨rfl,rfl⟩;simp only[go_sem,reduceCtorEq];refine RangeL.intro (lkT (t.walk [])) (t.walk []).length (λk s=>(s b2=some (.box [.raw (.int .u8 ca)])/\s b4=some (.box [.sl ⟨true,.nil,0⟩ []])/\s b5=some (.box [.raw (.int .i64 0)])/\subSt st s)/\yZk (yZu ca) ((t.walk []).take k)=([],0)) (λe s=>CkS st b4 b5 (yZp ca t) e s) rfl ?_ ?_ ?_ (hit _) ?_ ?_
   ·rintro k a e ⟨p,u,a,y,_,_,_,rfl⟩;rfl
   ·exact⟨⟨c2,c4,c5,hss⟩,by simp[yZk]⟩
   ·rintro k _ e s ⟨p,z,a,y,hkz,hz,hp,rfl⟩ hd ⟨⟨c2,c4,c5,hss⟩,hf⟩;have hd':disj s e:=hd;have r2:=yJh hd' _ _ c2;have hpl:=zUu [] t _ (lMg hkz);have hfd:=hfit.2;simp only[List.length_nil] at hpl;have hck:=λst=>wYf gl G T ca z y hz (hfit.1 _ (lMg hkz)) st;have hcl:=wVe gl p a e s hp (by omega) hd';have hiv:ivOf (.iv a)=some a:=by rcases hp with⟨t,rfl,_⟩|⟨g,cap,cs,rfl,_⟩<;>rfl
    obtain⟨rule',tl',xl',tr',xr',op',fn',ta',xa',tb',xb',v',un',tu',xu',n',ts',xs',rfl⟩:=yJk hz;simp only[go_sem,zE,zA,r2,hiv];refine (hck _).mono ?_;rintro _ _ ⟨rfl,rfl⟩;by_cases h0:yZu ca z=0
    ·have d0:decide (((yZu ca z:Nat):Int)=0)=true:=dEt (by omega);simp only[go_sem,d0];refine⟨s,⟨⟨c2,c4,c5,hss⟩,?_⟩,hd,rfl⟩;rw[yQ7 hkz,yK0,hf];simp[yZk,h0]
    ·have d0:decide (((yZu ca z:Nat):Int)=0)=false:=dEf (by omega);have hv:yZp ca t=(p,yZu ca z):=by
      rw[hq]
      conv=>lhs;rw[<- List.take_append_drop k (t.walk [])]
      rw[List.drop_eq_getElem_cons (lGs hkz).1,(lGs hkz).2,yK0,hf];simp[yZk,h0]
     simp only[go_sem,zE,zA,d0,hiv];refine hcl.mono ?_;rintro _ _ ⟨⟨t',rfl,ht'⟩,rfl⟩;simp only[go_sem,zE,zL,c4,c5,g5];refine⟨rfl,⟨t',?_,ht'⟩,?_,hsub' _ _ _ hss⟩
     ·rw[g4,hv]
     ·rw[ISt.put_same,hv]
   ·rintro s r ⟨⟨c2,c4,c5,hss⟩,hf⟩;rw[lTl,<- hq] at hf;simp only[go_sem,zE,zL,c4,c5,g5,g4,ISt.put_same];exact yQa (hsub' _ _ _ hss) ⟨⟨_,by rw[hf];rfl,.inl rfl⟩,rfl⟩
   ·rintro e s r ⟨rfl,⟨tg,c4,ht⟩,c5,hss⟩;simp only[go_sem,zE,c4,c5];exact yQa hss ⟨⟨_,rfl,ht⟩,rfl⟩
  ·rintro e s r ⟨⟨rfl,⟨tg,c4,ht⟩,c5,hss⟩,hb⟩;have hq:yZp ca t=([],5):=by unfold yZp;rw[hk,if_pos hb];rfl
   simp only[go_sem,zE,c4,c5];exact yQa hss ⟨⟨_,by rw[hq],ht⟩,rfl⟩
