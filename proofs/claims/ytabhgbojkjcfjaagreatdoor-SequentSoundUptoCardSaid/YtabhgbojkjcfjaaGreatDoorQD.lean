/- Walks: sequents of a calculus; free vari -/
import Derived.Test.YtabhgbojkjcfjaaGreatDoorQC
set_option linter.all false
open Nat renaming reduceEqDiff → zE,reduceBEq → zB,reduceAdd → zA,reduceMul → zM,reduceLeDiff → zL
namespace Go.Proofs.Tryz
open Go Go.Iv
set_option maxRecDepth 4000
variable (gl:Nat->Option IV)
noncomputable def rB (ca:Nat)(a0 f:Fm):Bool:=fmB ca f&&(decide (ca≠2) || eqF f a0)
theorem wW2 (ca:Nat)(a0:Fm):∀l:List Fm,l.all (rB ca a0)=(l.all (fmB ca)&&(decide (ca≠2) || l.all λf=>eqF f a0))
 | []=>by simp
 | f::l=>by
  simp only[List.all_cons,wW2 ca a0 l,rB];cases fmB ca f<;>cases l.all (fmB ca)<;>cases decide (ca≠2)<;>simp
theorem xG3 (ca:Nat)(s:Sq):yXe ca s=(yKf ca&&decide (s.l.length<=64)&&decide (s.r.length<=64)&&s.l.all (fmB ca)&&s.r.all (rB ca (s.r.headD fm0))):=by
 rw[wW2];unfold yXe yWn;cases s.r with
 | nil=>simp
 | cons a l=>simp only[List.headD_cons,Bool.and_assoc]
theorem wUc (G:Gl gl)(ca:Nat)(s:Sq)(x:IV)(hx:IsSq s x)(hs:yYm s)(st:ISt):ICall prog gl 48 [.raw (.int .u8 ca),x] st (λr st'=>r=.raw (.bool (yXe ca s))/\st'=st):=by
 obtain⟨l,r⟩:=s;obtain⟨t1,x1,t2,x2,rfl,e1,i1,e2,i2⟩:=hx;obtain⟨hl,hr⟩:=hs;simp only at i1 i2 hl hr;rw[xG3];simp only;refine iI func48 ?_;simp only[go_sem,zA,reduceCtorEq];refine (xX3 gl ca _).mono ?_;rintro _ st ⟨rfl,rfl⟩;cases hk:yKf ca
 ·simp only[go_sem,zE];exact yQ0 ⟨by simp,rfl⟩
 by_cases h1:l.length<=64
 case neg =>
  have e:decide ((64:Int)<(l.length:Int))=true:=dEt (by omega);simp only[go_sem,zE,i1.len,e];intro _;exact yQ0 ⟨by simp[h1],rfl⟩
 by_cases h2:r.length<=64
 case neg =>
  have e:decide ((64:Int)<(l.length:Int))=false:=dEf (by omega);have e':decide ((64:Int)<(r.length:Int))=true:=dEt (by omega);simp only[go_sem,zE,i1.len,i2.len,e,e'];intro _ _;exact yQ0 ⟨by simp[h2],rfl⟩
 have e:decide ((64:Int)<(l.length:Int))=false:=dEf (by omega);have e':decide ((64:Int)<(r.length:Int))=false:=dEf (by omega);simp only[go_sem,zE,i1.len,i2.len,e,e'];intros;refine LoopC.ctr l.length (λk fr st' ds=>(l.take k).all (fmB ca)=true/\fr 0=.iv (.raw (.int .u8 ca))/\fr 3=.box [.sl t1 x1,.sl t2 x2]/\fr 25=.iv (.sl t1 x1)/\fr 26=.iv (.raw (.int .i64 l.length))/\fr 27=.iv (.raw (.int .i64 k))/\st'=st/\ds=[]) ?_ ?_ ?_
 ·simp only[go_sem,zE,reduceCtorEq]
  first|rfl|exact⟨rfl,rfl⟩
 ·rintro k fr st1 _ hlt ⟨hn,f0,f3,f25,f26,f27,rfl,rfl⟩;obtain⟨a,ha⟩:=yQ4 hlt;obtain⟨y,hky,hy⟩:=i1.get ha;have hcall:=zJg gl G ca a y hy (hl a (lMg ha)) st1;obtain⟨o5,n5,t5,x5,t6,x6,rfl⟩:=hy.agg;simp only[go_sem,zE,zB,zA,zL,reduceCtorEq,f0,f25,f26,f27,lt_i hlt,yQ1 e1,iNn,hky,fits];refine hcall.mono ?_;rintro _ _ ⟨rfl,rfl⟩;cases hr:fmB ca a
  ·simp only[go_sem];refine yQ0 ⟨?_,rfl⟩;have:l.all (fmB ca)=false:=List.all_eq_false.2 ⟨a,lMg ha,by simp[hr]⟩;simp[this]
  ·simp only[go_sem,zE,reduceCtorEq,f0,f3,f25,f26,f27,yQf hlt (show l.length<=281474976710656 by omega)];rw[yQ6 ha,List.all_append,hn];simp[hr]
 ·rintro fr st1 _ ⟨hn,f0,f3,f25,f26,f27,rfl,rfl⟩;rw[lTl] at hn;simp only[go_sem,zE,f3,f26,f27,i2.len,yQs (nLi _)];intro _;refine LoopC.ctr r.length (λk fr st' ds=>(r.take k).all (rB ca (r.headD fm0))=true/\fr 0=.iv (.raw (.int .u8 ca))/\fr 3=.box [.sl t1 x1,.sl t2 x2]/\fr 37=.iv (.sl t2 x2)/\fr 38=.iv (.raw (.int .i64 r.length))/\fr 39=.iv (.raw (.int .i64 k))/\st'=st1/\ds=[]) ?_ ?_ ?_
  ·simp only[go_sem,zE,reduceCtorEq,f0,f3]
   first|rfl|exact⟨rfl,rfl⟩
  ·rintro k fr st2 _ hlt ⟨hm,f0,f3,f37,f38,f39,rfl,rfl⟩;obtain⟨a,ha⟩:=yQ4 hlt;obtain⟨y,hky,hy⟩:=i2.get ha;obtain⟨a0,ha0⟩:=yQ4 (show 0<r.length by omega);obtain⟨y0,hky0,hy0⟩:=i2.get ha0;have hd0:r.headD fm0=a0:=by cases r with|nil=>cases ha0|cons b r=>simpa using ha0
   have hcall:=zJg gl G ca a y hy (hr a (lMg ha)) st2;have heq:=λst=>wZk gl G a a0 y y0 hy hy0 (hr a (lMg ha)) (hr a0 (lMg ha0)) st;rw[hd0] at hm ⊢;have hout:rB ca a0 a=false->r.all (rB ca a0)=false:=λhb=>List.all_eq_false.2 ⟨a,lMg ha,by simp[hb]⟩;have hin:rB ca a0 a=true->(r.take (k+1)).all (rB ca a0)=true:=λhb=>by
    rw[yQ6 ha,List.all_append,hm];simp[hb]
   obtain⟨o5,n5,t5,x5,t6,x6,rfl⟩:=hy.agg;obtain⟨o7,n7,t7,x7,t8,x8,rfl⟩:=hy0.agg;simp only[go_sem,zE,zB,zA,zL,reduceCtorEq,f0,f37,f38,f39,lt_i hlt,yQ1 e2,iNn,hky,fits];refine hcall.mono ?_;rintro _ _ ⟨rfl,rfl⟩;cases hr:fmB ca a
   ·simp only[go_sem,zE];exact yQ0 ⟨by rw[hout (by simp[rB,hr])];simp,rfl⟩
   by_cases hj:ca=2
   ·have ej:decide ((ca:Int)=2)=true:=dEt (by omega);simp only[go_sem,zE,zB,zA,zL,reduceCtorEq,ej,f0,f3,yQ1 e2,hky0,fits,Int.le_refl,Int.toNat_zero];refine (heq _).mono ?_;rintro _ _ ⟨rfl,rfl⟩;cases hq:eqF a a0
    ·simp only[go_sem,zE];exact yQ0 ⟨by rw[hout (by simp[rB,hj,hq])];simp,rfl⟩
    ·simp only[go_sem,zE,reduceCtorEq,f0,f3,f37,f38,f39,yQf hlt (show r.length<=281474976710656 by omega)];exact hin (by simp[rB,hr,hq])
   ·have ej:decide ((ca:Int)=2)=false:=dEf (by omega);simp only[go_sem,zE,reduceCtorEq,ej,f0,f3,f37,f38,f39,yQf hlt (show r.length<=281474976710656 by omega)];exact hin (by simp[rB,hr,hj])
  ·rintro fr st2 _ ⟨hm,f0,f3,f37,f38,f39,rfl,rfl⟩;rw[lTl] at hm;simp only[go_sem,f38,f39,yQs (nLi _)];exact yQ0 ⟨by rw[hn,hm];simp[h1,h2],rfl⟩
theorem xYr (tg:Tag)(htg:okEs tg 1)(l:List ByteArray)(s:ByteArray)(st:ISt):ICall prog gl 175 [.sl tg (strI l),.raw (.string s)] st (λr st'=>r=.raw (.bool (memB l s))/\st'=st):=by
 have hidx:ICall prog gl 233 [.sl tg (strI l),.raw (.string s)] st (λr st'=>(∃n:Int,r=.raw (.int .i64 n)/\decide (0<=n)=memB l s)/\st'=st):=by
  refine iI func233 ?_;simp only[go_sem,reduceCtorEq,xQw];intro _;refine LoopC.ctr l.length (λk fr st' ds=>memB (l.take k) s=false/\fr 0=.iv (.sl tg (strI l))/\fr 1=.iv (.raw (.string s))/\fr 7=.iv (.raw (.int .i64 l.length))/\fr 8=.iv (.raw (.int .i64 k))/\st'=st/\ds=[]) ?_ ?_ ?_
  ·simp only[go_sem,zE,reduceCtorEq];exact⟨rfl,rfl⟩
  ·rintro k fr st1 _ hlt ⟨hn,f0,f1,f7,f8,rfl,rfl⟩;obtain⟨a,ha⟩:=yQ4 hlt;by_cases hr:s=a
   ·subst hr;simp only[go_sem,zE,reduceCtorEq,f0,f1,f7,f8,lt_i hlt,yQ1 htg,iNn,xJn ha,fits,decide_true];refine yQ0 ⟨⟨_,rfl,?_⟩,rfl⟩;rw[dEt (iNn k)];exact (yZo.2 (lMg ha)).symm
   ·simp only[go_sem,zE,reduceCtorEq,f0,f1,f7,f8,lt_i hlt,yQ1 htg,iNn,xJn ha,fits,dEf hr,yQf hlt (show l.length<=281474976710656 by omega)];rw[zZo] at hn ⊢;rw[yQ6 ha,List.mem_append,List.mem_singleton];rintro (h|h)
    ·exact hn h
    ·exact hr h
  ·rintro fr st1 _ ⟨hn,f0,f1,f7,f8,rfl,rfl⟩;rw[lTl] at hn;simp only[go_sem,f7,f8,yQs (nLi _)];exact yQ0 ⟨⟨_,rfl,by rw[hn];rfl⟩,rfl⟩
 refine iI func175 ?_;simp only[go_sem,zE,zA,reduceCtorEq];refine hidx.mono ?_;rintro _ _ ⟨⟨n,rfl,hn⟩,rfl⟩;simp only[go_sem,hn];exact yQ0 ⟨rfl,rfl⟩
theorem wZ0 (T:Gt gl)(f:Fm)(y:IV)(hy:IsFm f y)(hs:f.size<=1000000)(hf:f.right=true)(s:ByteArray)(st:ISt) :
  ICall prog gl 174 [y,.cptr (.raw (.string s))] st (λr st'=>r=.raw (.bool (memB (frF f) s))/\st'=st):=by
 have h1:=λst=>wWv gl T f y hy (by omega) (λq hq=>by have:=wG4 (wZ1 f (yJo hf).1 q hq);omega) st;obtain⟨o5,n5,t5,x5,t6,x6,rfl⟩:=hy.agg;refine ICall.intro (c:=cf prog gl [] [(1,[0,2,1,3,4])]) func174 rfl (by show _<=8;simp) (by kernel_rfl) ?_;simp only[go_sem,zE,zA,zL,fits];refine (h1 _).mono ?_;rintro _ _ ⟨tg,l,rfl,htg,hl,rfl⟩;simp only[go_sem,zE,zA];refine (xYr gl tg htg l s _).mono ?_;rintro _ _ ⟨rfl,rfl⟩;simp only[go_sem];refine yQ0 ⟨?_,rfl⟩;have:memB l s=memB (frF f) s:=by
  rw[Bool.eq_iff_iff,yZo,yZo];exact hl.2 s
 rw[this]
theorem vXx (T:Gt gl)(s:Sq)(x:IV)(hx:IsSq s x)(hs:yYm s)(hr:(∀f∈s.l,f.right=true)/\∀f∈s.r,f.right=true)(n:ByteArray)(st:ISt) :
  ICall prog gl 131 [x,.raw (.string n)] st (λr st'=>r=.raw (.bool (yJu s n))/\st'=st):=by
 obtain⟨t1,x1,t2,x2,rfl,e1,i1,e2,i2⟩:=hx;have h1:=λst=>yVx gl 174 [.cptr (.raw (.string n))] (by simp only[go_sem]) s.l (λf=>memB (frF f) n) (λa ha y hy st=>wZ0 gl T a y hy (hs.1 a ha) (hr.1 a ha) n st) t1 x1 e1 i1 st;have h2:=λst=>yVx gl 174 [.cptr (.raw (.string n))] (by simp only[go_sem]) s.r (λf=>memB (frF f) n) (λa ha y hy st=>wZ0 gl T a y hy (hs.2 a ha) (hr.2 a ha) n st) t2 x2 e2 i2 st;refine ICall.intro (c:=cf prog gl [] [] [3]) func131 rfl (by show _<=17;simp) (by kernel_rfl) ?_;simp only[go_sem,zE,zA];refine (h1 _).mono ?_;rintro _ _ ⟨rfl,rfl⟩;cases hq:s.l.any λf=>memB (frF f) n
 ·simp only[go_sem,zE,zA];refine (h2 _).mono ?_;rintro _ _ ⟨rfl,rfl⟩;simp only[go_sem,zE];exact yQ0 ⟨by simp[yJu,hq],rfl⟩
 ·simp only[go_sem,zE];exact yQ0 ⟨by simp[yJu,hq],rfl⟩
theorem yZq (f:Fm)(l:Sb):(yZf f l).1.size<=400:=by
 unfold yZf;split
 ·split
  ·rename_i h;simp only[bAt,dTe] at h;exact h.1
  ·show fm0.size<=400;decide
 ·show fm0.size<=400;decide
theorem uXw:IsFm fm0 (.agg [.raw (.int .u8 0),.raw (.string ⟨#[]⟩),.sl ⟨true,.nil,0⟩ [],.sl ⟨true,.nil,0⟩ []]):=vJ3 _ _ (.inl rfl) (.inl rfl)
theorem xJm {sub:List Fm}{xs:List IV}(h:IsFms sub xs)(k:Nat):∃y,IsFm ((sub[k]?).getD fm0) y/\(sub.length<=k->y=.agg [.raw (.int .u8 0),.raw (.string ⟨#[]⟩),.sl ⟨true,.nil,0⟩ [],.sl ⟨true,.nil,0⟩ []])/\(k<sub.length->xs[k]?=some y):=by
 by_cases hk:k<sub.length
 ·obtain⟨a,ha⟩:=yQ4 hk;obtain⟨y,hy,hf⟩:=h.get ha;exact⟨y,by rw[ha];exact hf,λhc=>by omega,λ_=>hy⟩
 ·exact⟨_,by rw[List.getElem?_eq_none (by omega)];exact uXw,λ_=>rfl,λhc=>absurd hc hk⟩
def AdR (st:ISt)(q:List Sq×Nat)(r:IV)(st':ISt):Prop:=∃tg xs,r=.tup [.sl tg xs,.raw (.int .i64 q.2)]/\okEs tg 2/\IsSqs q.1 xs/\st'=st
def AdRD (st:ISt)(q:List Sq×Nat)(r:IV)(st':ISt):Prop:=∃tg xs,r=.tup [.sl tg xs,.raw (.int .i64 q.2)]/\okEs tg 2/\appT q.1.length tg/\IsSqsD q.1 xs/\st'=st
theorem AdRD.w {st:ISt}{q:List Sq×Nat}(r:IV)(st':ISt):AdRD st q r st'->AdR st q r st':=λ⟨tg,xs,h1,h2,_,h4,h5⟩=>⟨tg,xs,h1,h2,h4.w,h5⟩
theorem yQt {o:Nat}{n:ByteArray}{us:List Tm}{sub:List Fm}(h:(Fm.mk o n us sub).size<=1000000)(k:Nat):((sub[k]?).getD fm0).size<=1000000:=by
 cases ha:sub[k]? with
 | none=>show fm0.size<=1000000;decide
 | some a =>
  have:=(yQv ha).2;simp only[Fm.size] at h;show a.size<=1000000;omega
theorem yQm {ca rule:Nat}{r:Rw}{main:Fm}{term:Tm}{name:ByteArray}(h:fmB ca main=true)(h':r.op=0\/main.op=r.op):yXw ca rule r main term name =
  if r.asks=0 then (addS ca rule main ((main.subs[0]?).getD fm0) ((main.subs[1]?).getD fm0),0)
  else if !(if r.asks=2 then Tm.mk true name [] else term).ok then ([],193)
  else if (yZf ((main.subs[0]?).getD fm0) [(main.nm,if r.asks=2 then Tm.mk true name [] else term)]).2≠0 then ([],193)
  else (addS ca rule main (yZf ((main.subs[0]?).getD fm0) [(main.nm,if r.asks=2 then Tm.mk true name [] else term)]).1 ((main.subs[1]?).getD fm0),0):=by
 have e:(!fmB ca main || (decide (r.op≠0)&&decide (main.op≠r.op)))=false:=by
  rw[h];rcases h' with h'|h'<;>simp[h']
 simp only[yXw,e,bFt,if_false]
set_option maxHeartbeats 2000000 in
theorem vKf (G:Gl gl)(T:Gt gl)(ca rule:Nat)(r:Rw)(hr:rowS ca rule=some r)(main:Fm)(y:IV)(hy:IsFm main y)(hm:main.size<=1000000)(term:Tm)(z:IV)(hz:IsTm term z)(ht:term.size<=1000000)(name:ByteArray)(st:ISt) :
  ICall prog gl 107 [rwI ca rule r,.raw (.int .u8 ca),y,z,.raw (.string name)] st (AdRD st (yXw ca rule r main term name)):=by
 obtain⟨hadd,hent⟩:=wV5 gl hr;have hf:=λst=>zJg gl G ca main y hy hm st;obtain⟨rl,rr,op,asks⟩:=r;obtain⟨o,n,us,sub⟩:=main;have hy0:=hy;obtain⟨t1,x1,t2,x2,rfl,ho,e1,i1,e2,i2⟩:=hy.mk;obtain⟨v,un,tz,xz,rfl⟩:∃v un tz xz,z=.agg [.raw (.bool v),.raw (.string un),.sl tz xz]:=by
  obtain⟨v,un,us⟩:=term;obtain⟨tz,xz,rfl,_⟩:=hz.mk;exact⟨_,_,_,_,rfl⟩
 obtain⟨z1,hz1,hz1n,hz1s⟩:=xJm i2 0;obtain⟨z2,hz2,hz2n,hz2s⟩:=xJm i2 1;have hE:fmB ca (.mk o n us sub)=false->yXw ca rule ⟨rl,rr,op,asks⟩ (.mk o n us sub) term name=([],192):=λh=>by simp only[yXw,h];rfl
 refine iI func107 ?_;simp only[go_sem,zE,zA,zL,rwI];refine (hf _).mono ?_;rintro _ _ ⟨rfl,rfl⟩;cases hfm:fmB ca (.mk o n us sub)
 ·simp only[go_sem,zE];exact yQ0 (by rw[hE hfm];exact⟨_,_,rfl,.inl rfl,.inl rfl,rfl,rfl⟩)
 by_cases hop:op=0\/o=op
 case neg =>
  have hq:yXw ca rule ⟨rl,rr,op,asks⟩ (.mk o n us sub) term name=([],192):=by
   have e:(!fmB ca (.mk o n us sub) || (decide (op≠0)&&decide ((Fm.mk o n us sub).op≠op)))=true:=by
    simp only[Fm.op,hfm];simp only[not_or] at hop;simp[hop]
   simp only[yXw,e,if_true]
  simp only[not_or] at hop;have d1:decide ((op:Int)=0)=false:=dEf (by omega);have d2:decide ((o:Int)=(op:Int))=false:=dEf (by omega);simp only[go_sem,zE,zA,d1,d2];exact yQ0 (by rw[hq];exact⟨_,_,rfl,.inl rfl,.inl rfl,rfl,rfl⟩)
 obtain⟨dop,hdop⟩:∃b,decide ((op:Int)=0)=b:=⟨_,rfl⟩
 have hdo:dop=false->decide ((o:Int)=(op:Int))=true:=λh=>by
  subst hdop;have:=of_decide_eq_false h;exact dEt (by omega)
 have hop0:=hop;replace hop:(⟨rl,rr,op,asks⟩:Rw).op=0\/(Fm.mk o n us sub).op=(⟨rl,rr,op,asks⟩:Rw).op:=hop0;by_cases hl0:0<sub.length
 ·have l0:decide ((0:Int)<(sub.length:Int))=true:=dEt (by omega);have g0:=hz1s hl0;obtain⟨o3,n3,t3,x3,t4,x4,rfl⟩:=hz1.agg;by_cases hl1:1<sub.length
  ·have l1:decide ((1:Int)<(sub.length:Int))=true:=dEt (by omega);have g1:=hz2s hl1;obtain⟨o5,n5,t5,x5,t6,x6,rfl⟩:=hz2.agg;cases dop
   ·have hd2:=hdo rfl;by_cases ha0:asks=0
    ·have d0:decide ((asks:Int)=0)=true:=dEt (by omega);have hq:=yQm (rule:=rule) (r:=⟨rl,rr,op,asks⟩) (term:=term) (name:=name) hfm hop;simp only[if_pos ha0,Fm.subs] at hq;simp only[go_sem,zE,zB,zA,zL,hdop,hd2,l0,l1,i2.len,g0,g1,yQ1 e2,Int.le_refl,Int.toNat_zero,(show (0:Int)<=1 by decide),(show Int.toNat 1=1 from rfl),d0,fits,hent];intros;refine (hadd _ _ _ _ _ _ hy0 hz1 hz2 hm (yQt hm 0) (yQt hm 1) _).mono ?_;rintro _ _ ⟨tg,xs,rfl,he,hap,hxs,rfl⟩;simp only[go_sem,zE];exact yQ0 (by rw[hq];exact⟨_,_,rfl,he,hap,hxs,rfl⟩)
    ·have d0:decide ((asks:Int)=0)=false:=dEf (by omega);by_cases ha2:asks=2
     ·have d2:decide ((asks:Int)=2)=true:=dEt (by omega);simp only[go_sem,zE,zB,zA,zL,hdop,hd2,l0,l1,i2.len,g0,g1,yQ1 e2,Int.le_refl,Int.toNat_zero,(show (0:Int)<=1 by decide),(show Int.toNat 1=1 from rfl),d0,d2,fits];intros;refine (yW9 gl (Tm.mk true name []) _ (show IsTm (Tm.mk true name []) _ from⟨_,_,rfl,.inl rfl,rfl⟩) (by show 1<=_;decide) _).mono ?_;rintro _ _ ⟨rfl,rfl⟩;cases hk:Tm.ok (Tm.mk true name [])
      ·simp only[go_sem,zE];have hq:=yQm (rule:=rule) (r:=⟨rl,rr,op,asks⟩) (term:=term) (name:=name) hfm hop;simp only[if_neg ha0,if_pos ha2,hk,Bool.not_false,if_true] at hq;exact yQ0 (by rw[hq];exact⟨_,_,rfl,.inl rfl,.inl rfl,rfl,rfl⟩)
      simp only[go_sem,zE,zA,zL];refine (zZj gl G T _ _ hz1 (yQt hm 0) n (Tm.mk true name []) _ (show IsTm (Tm.mk true name []) _ from⟨_,_,rfl,.inl rfl,rfl⟩) (by show 1<=_;decide) _).mono ?_;rintro _ _ ⟨y3,rfl,hy3,rfl⟩;have hy4:=hy3;obtain⟨o8,n8,t8,x8,t9,x9,rfl⟩:=hy3.agg;by_cases he:(yZf ((sub[0]?).getD fm0) [(n,(Tm.mk true name []))]).2=0
      ·have hq:=yQm (rule:=rule) (r:=⟨rl,rr,op,asks⟩) (term:=term) (name:=name) hfm hop;simp only[if_neg ha0,if_pos ha2,hk,Bool.not_true,bFt,if_false,Fm.subs,Fm.nm,he,ne_eq,nTf] at hq;simp only[go_sem,zE,zA,zL,he,hent,show decide (((0:Nat):Int)=0)=true from rfl];refine (hadd _ _ _ _ _ _ hy0 hy4 hz2 hm (Nat.le_trans (yZq _ _) (by decide)) (yQt hm 1) _).mono ?_;rintro _ _ ⟨tg,xs,rfl,he,hap,hxs,rfl⟩;simp only[go_sem,zE];exact yQ0 (by rw[hq];exact⟨_,_,rfl,he,hap,hxs,rfl⟩)
      ·have hq:=yQm (rule:=rule) (r:=⟨rl,rr,op,asks⟩) (term:=term) (name:=name) hfm hop;simp only[if_neg ha0,if_pos ha2,hk,Bool.not_true,bFt,if_false,Fm.subs,Fm.nm,ne_eq,he,nFt,if_true] at hq;have hd:decide (((yZf ((sub[0]?).getD fm0) [(n,(Tm.mk true name []))]).2:Int)=0)=false:=dEf (by omega);simp only[go_sem,zE,zA,zL,hd];exact yQ0 (by rw[hq];exact⟨_,_,rfl,.inl rfl,.inl rfl,rfl,rfl⟩)
     ·have d2:decide ((asks:Int)=2)=false:=dEf (by omega);simp only[go_sem,zE,zB,zA,zL,hdop,hd2,l0,l1,i2.len,g0,g1,yQ1 e2,Int.le_refl,Int.toNat_zero,(show (0:Int)<=1 by decide),(show Int.toNat 1=1 from rfl),d0,d2,fits];intros;refine (yW9 gl term _ hz ht _).mono ?_;rintro _ _ ⟨rfl,rfl⟩;cases hk:Tm.ok term
      ·simp only[go_sem,zE];have hq:=yQm (rule:=rule) (r:=⟨rl,rr,op,asks⟩) (term:=term) (name:=name) hfm hop;simp only[if_neg ha0,if_neg ha2,hk,Bool.not_false,if_true] at hq;exact yQ0 (by rw[hq];exact⟨_,_,rfl,.inl rfl,.inl rfl,rfl,rfl⟩)
      simp only[go_sem,zE,zA,zL];refine (zZj gl G T _ _ hz1 (yQt hm 0) n term _ hz ht _).mono ?_;rintro _ _ ⟨y3,rfl,hy3,rfl⟩;have hy4:=hy3;obtain⟨o8,n8,t8,x8,t9,x9,rfl⟩:=hy3.agg;by_cases he:(yZf ((sub[0]?).getD fm0) [(n,term)]).2=0
      ·have hq:=yQm (rule:=rule) (r:=⟨rl,rr,op,asks⟩) (term:=term) (name:=name) hfm hop;simp only[if_neg ha0,if_neg ha2,hk,Bool.not_true,bFt,if_false,Fm.subs,Fm.nm,he,ne_eq,nTf] at hq;simp only[go_sem,zE,zA,zL,he,hent,show decide (((0:Nat):Int)=0)=true from rfl];refine (hadd _ _ _ _ _ _ hy0 hy4 hz2 hm (Nat.le_trans (yZq _ _) (by decide)) (yQt hm 1) _).mono ?_;rintro _ _ ⟨tg,xs,rfl,he,hap,hxs,rfl⟩;simp only[go_sem,zE];exact yQ0 (by rw[hq];exact⟨_,_,rfl,he,hap,hxs,rfl⟩)
      ·have hq:=yQm (rule:=rule) (r:=⟨rl,rr,op,asks⟩) (term:=term) (name:=name) hfm hop;simp only[if_neg ha0,if_neg ha2,hk,Bool.not_true,bFt,if_false,Fm.subs,Fm.nm,ne_eq,he,nFt,if_true] at hq;have hd:decide (((yZf ((sub[0]?).getD fm0) [(n,term)]).2:Int)=0)=false:=dEf (by omega);simp only[go_sem,zE,zA,zL,hd];exact yQ0 (by rw[hq];exact⟨_,_,rfl,.inl rfl,.inl rfl,rfl,rfl⟩)
   ·by_cases ha0:asks=0
    ·have d0:decide ((asks:Int)=0)=true:=dEt (by omega);have hq:=yQm (rule:=rule) (r:=⟨rl,rr,op,asks⟩) (term:=term) (name:=name) hfm hop;simp only[if_pos ha0,Fm.subs] at hq;simp only[go_sem,zE,zB,zA,zL,hdop,l0,l1,i2.len,g0,g1,yQ1 e2,Int.le_refl,Int.toNat_zero,(show (0:Int)<=1 by decide),(show Int.toNat 1=1 from rfl),d0,fits,hent];intros;refine (hadd _ _ _ _ _ _ hy0 hz1 hz2 hm (yQt hm 0) (yQt hm 1) _).mono ?_;rintro _ _ ⟨tg,xs,rfl,he,hap,hxs,rfl⟩;simp only[go_sem,zE];exact yQ0 (by rw[hq];exact⟨_,_,rfl,he,hap,hxs,rfl⟩)
    ·have d0:decide ((asks:Int)=0)=false:=dEf (by omega);by_cases ha2:asks=2
     ·have d2:decide ((asks:Int)=2)=true:=dEt (by omega);simp only[go_sem,zE,zB,zA,zL,hdop,l0,l1,i2.len,g0,g1,yQ1 e2,Int.le_refl,Int.toNat_zero,(show (0:Int)<=1 by decide),(show Int.toNat 1=1 from rfl),d0,d2,fits];intros;refine (yW9 gl (Tm.mk true name []) _ (show IsTm (Tm.mk true name []) _ from⟨_,_,rfl,.inl rfl,rfl⟩) (by show 1<=_;decide) _).mono ?_;rintro _ _ ⟨rfl,rfl⟩;cases hk:Tm.ok (Tm.mk true name [])
      ·simp only[go_sem,zE];have hq:=yQm (rule:=rule) (r:=⟨rl,rr,op,asks⟩) (term:=term) (name:=name) hfm hop;simp only[if_neg ha0,if_pos ha2,hk,Bool.not_false,if_true] at hq;exact yQ0 (by rw[hq];exact⟨_,_,rfl,.inl rfl,.inl rfl,rfl,rfl⟩)
      simp only[go_sem,zE,zA,zL];refine (zZj gl G T _ _ hz1 (yQt hm 0) n (Tm.mk true name []) _ (show IsTm (Tm.mk true name []) _ from⟨_,_,rfl,.inl rfl,rfl⟩) (by show 1<=_;decide) _).mono ?_;rintro _ _ ⟨y3,rfl,hy3,rfl⟩;have hy4:=hy3;obtain⟨o8,n8,t8,x8,t9,x9,rfl⟩:=hy3.agg;by_cases he:(yZf ((sub[0]?).getD fm0) [(n,(Tm.mk true name []))]).2=0
      ·have hq:=yQm (rule:=rule) (r:=⟨rl,rr,op,asks⟩) (term:=term) (name:=name) hfm hop;simp only[if_neg ha0,if_pos ha2,hk,Bool.not_true,bFt,if_false,Fm.subs,Fm.nm,he,ne_eq,nTf] at hq;simp only[go_sem,zE,zA,zL,he,hent,show decide (((0:Nat):Int)=0)=true from rfl];refine (hadd _ _ _ _ _ _ hy0 hy4 hz2 hm (Nat.le_trans (yZq _ _) (by decide)) (yQt hm 1) _).mono ?_;rintro _ _ ⟨tg,xs,rfl,he,hap,hxs,rfl⟩;simp only[go_sem,zE];exact yQ0 (by rw[hq];exact⟨_,_,rfl,he,hap,hxs,rfl⟩)
      ·have hq:=yQm (rule:=rule) (r:=⟨rl,rr,op,asks⟩) (term:=term) (name:=name) hfm hop;simp only[if_neg ha0,if_pos ha2,hk,Bool.not_true,bFt,if_false,Fm.subs,Fm.nm,ne_eq,he,nFt,if_true] at hq;have hd:decide (((yZf ((sub[0]?).getD fm0) [(n,(Tm.mk true name []))]).2:Int)=0)=false:=dEf (by omega);simp only[go_sem,zE,zA,zL,hd];exact yQ0 (by rw[hq];exact⟨_,_,rfl,.inl rfl,.inl rfl,rfl,rfl⟩)
     ·have d2:decide ((asks:Int)=2)=false:=dEf (by omega);simp only[go_sem,zE,zB,zA,zL,hdop,l0,l1,i2.len,g0,g1,yQ1 e2,Int.le_refl,Int.toNat_zero,(show (0:Int)<=1 by decide),(show Int.toNat 1=1 from rfl),d0,d2,fits];intros;refine (yW9 gl term _ hz ht _).mono ?_;rintro _ _ ⟨rfl,rfl⟩;cases hk:Tm.ok term
      ·simp only[go_sem,zE];have hq:=yQm (rule:=rule) (r:=⟨rl,rr,op,asks⟩) (term:=term) (name:=name) hfm hop;simp only[if_neg ha0,if_neg ha2,hk,Bool.not_false,if_true] at hq;exact yQ0 (by rw[hq];exact⟨_,_,rfl,.inl rfl,.inl rfl,rfl,rfl⟩)
      simp only[go_sem,zE,zA,zL];refine (zZj gl G T _ _ hz1 (yQt hm 0) n term _ hz ht _).mono ?_;rintro _ _ ⟨y3,rfl,hy3,rfl⟩;have hy4:=hy3;obtain⟨o8,n8,t8,x8,t9,x9,rfl⟩:=hy3.agg;by_cases he:(yZf ((sub[0]?).getD fm0) [(n,term)]).2=0
      ·have hq:=yQm (rule:=rule) (r:=⟨rl,rr,op,asks⟩) (term:=term) (name:=name) hfm hop;simp only[if_neg ha0,if_neg ha2,hk,Bool.not_true,bFt,if_false,Fm.subs,Fm.nm,he,ne_eq,nTf] at hq;simp only[go_sem,zE,zA,zL,he,hent,show decide (((0:Nat):Int)=0)=true from rfl];refine (hadd _ _ _ _ _ _ hy0 hy4 hz2 hm (Nat.le_trans (yZq _ _) (by decide)) (yQt hm 1) _).mono ?_;rintro _ _ ⟨tg,xs,rfl,he,hap,hxs,rfl⟩;simp only[go_sem,zE];exact yQ0 (by rw[hq];exact⟨_,_,rfl,he,hap,hxs,rfl⟩)
      ·have hq:=yQm (rule:=rule) (r:=⟨rl,rr,op,asks⟩) (term:=term) (name:=name) hfm hop;simp only[if_neg ha0,if_neg ha2,hk,Bool.not_true,bFt,if_false,Fm.subs,Fm.nm,ne_eq,he,nFt,if_true] at hq;have hd:decide (((yZf ((sub[0]?).getD fm0) [(n,term)]).2:Int)=0)=false:=dEf (by omega);simp only[go_sem,zE,zA,zL,hd];exact yQ0 (by rw[hq];exact⟨_,_,rfl,.inl rfl,.inl rfl,rfl,rfl⟩)
  ·have l1:decide ((1:Int)<(sub.length:Int))=false:=dEf (by omega);obtain rfl:=hz2n (by omega);cases dop
   ·have hd2:=hdo rfl;by_cases ha0:asks=0
    ·have d0:decide ((asks:Int)=0)=true:=dEt (by omega);have hq:=yQm (rule:=rule) (r:=⟨rl,rr,op,asks⟩) (term:=term) (name:=name) hfm hop;simp only[if_pos ha0,Fm.subs] at hq;simp only[go_sem,zE,zB,zA,zL,hdop,hd2,l0,l1,i2.len,g0,yQ1 e2,Int.le_refl,Int.toNat_zero,d0,fits,hent];intros;refine (hadd _ _ _ _ _ _ hy0 hz1 hz2 hm (yQt hm 0) (yQt hm 1) _).mono ?_;rintro _ _ ⟨tg,xs,rfl,he,hap,hxs,rfl⟩;simp only[go_sem,zE];exact yQ0 (by rw[hq];exact⟨_,_,rfl,he,hap,hxs,rfl⟩)
    ·have d0:decide ((asks:Int)=0)=false:=dEf (by omega);by_cases ha2:asks=2
     ·have d2:decide ((asks:Int)=2)=true:=dEt (by omega);simp only[go_sem,zE,zB,zA,zL,hdop,hd2,l0,l1,i2.len,g0,yQ1 e2,Int.le_refl,Int.toNat_zero,d0,d2,fits];intros;refine (yW9 gl (Tm.mk true name []) _ (show IsTm (Tm.mk true name []) _ from⟨_,_,rfl,.inl rfl,rfl⟩) (by show 1<=_;decide) _).mono ?_;rintro _ _ ⟨rfl,rfl⟩;cases hk:Tm.ok (Tm.mk true name [])
      ·simp only[go_sem,zE];have hq:=yQm (rule:=rule) (r:=⟨rl,rr,op,asks⟩) (term:=term) (name:=name) hfm hop;simp only[if_neg ha0,if_pos ha2,hk,Bool.not_false,if_true] at hq;exact yQ0 (by rw[hq];exact⟨_,_,rfl,.inl rfl,.inl rfl,rfl,rfl⟩)
      simp only[go_sem,zE,zA,zL];refine (zZj gl G T _ _ hz1 (yQt hm 0) n (Tm.mk true name []) _ (show IsTm (Tm.mk true name []) _ from⟨_,_,rfl,.inl rfl,rfl⟩) (by show 1<=_;decide) _).mono ?_;rintro _ _ ⟨y3,rfl,hy3,rfl⟩;have hy4:=hy3;obtain⟨o8,n8,t8,x8,t9,x9,rfl⟩:=hy3.agg;by_cases he:(yZf ((sub[0]?).getD fm0) [(n,(Tm.mk true name []))]).2=0
      ·have hq:=yQm (rule:=rule) (r:=⟨rl,rr,op,asks⟩) (term:=term) (name:=name) hfm hop;simp only[if_neg ha0,if_pos ha2,hk,Bool.not_true,bFt,if_false,Fm.subs,Fm.nm,he,ne_eq,nTf] at hq;simp only[go_sem,zE,zA,zL,he,hent,show decide (((0:Nat):Int)=0)=true from rfl];refine (hadd _ _ _ _ _ _ hy0 hy4 hz2 hm (Nat.le_trans (yZq _ _) (by decide)) (yQt hm 1) _).mono ?_;rintro _ _ ⟨tg,xs,rfl,he,hap,hxs,rfl⟩;simp only[go_sem,zE];exact yQ0 (by rw[hq];exact⟨_,_,rfl,he,hap,hxs,rfl⟩)
      ·have hq:=yQm (rule:=rule) (r:=⟨rl,rr,op,asks⟩) (term:=term) (name:=name) hfm hop;simp only[if_neg ha0,if_pos ha2,hk,Bool.not_true,bFt,if_false,Fm.subs,Fm.nm,ne_eq,he,nFt,if_true] at hq;have hd:decide (((yZf ((sub[0]?).getD fm0) [(n,(Tm.mk true name []))]).2:Int)=0)=false:=dEf (by omega);simp only[go_sem,zE,zA,zL,hd];exact yQ0 (by rw[hq];exact⟨_,_,rfl,.inl rfl,.inl rfl,rfl,rfl⟩)
     ·have d2:decide ((asks:Int)=2)=false:=dEf (by omega);simp only[go_sem,zE,zB,zA,zL,hdop,hd2,l0,l1,i2.len,g0,yQ1 e2,Int.le_refl,Int.toNat_zero,d0,d2,fits];intros;refine (yW9 gl term _ hz ht _).mono ?_;rintro _ _ ⟨rfl,rfl⟩;cases hk:Tm.ok term
      ·simp only[go_sem,zE];have hq:=yQm (rule:=rule) (r:=⟨rl,rr,op,asks⟩) (term:=term) (name:=name) hfm hop;simp only[if_neg ha0,if_neg ha2,hk,Bool.not_false,if_true] at hq;exact yQ0 (by rw[hq];exact⟨_,_,rfl,.inl rfl,.inl rfl,rfl,rfl⟩)
      simp only[go_sem,zE,zA,zL];refine (zZj gl G T _ _ hz1 (yQt hm 0) n term _ hz ht _).mono ?_;rintro _ _ ⟨y3,rfl,hy3,rfl⟩;have hy4:=hy3;obtain⟨o8,n8,t8,x8,t9,x9,rfl⟩:=hy3.agg;by_cases he:(yZf ((sub[0]?).getD fm0) [(n,term)]).2=0
      ·have hq:=yQm (rule:=rule) (r:=⟨rl,rr,op,asks⟩) (term:=term) (name:=name) hfm hop;simp only[if_neg ha0,if_neg ha2,hk,Bool.not_true,bFt,if_false,Fm.subs,Fm.nm,he,ne_eq,nTf] at hq;simp only[go_sem,zE,zA,zL,he,hent,show decide (((0:Nat):Int)=0)=true from rfl];refine (hadd _ _ _ _ _ _ hy0 hy4 hz2 hm (Nat.le_trans (yZq _ _) (by decide)) (yQt hm 1) _).mono ?_;rintro _ _ ⟨tg,xs,rfl,he,hap,hxs,rfl⟩;simp only[go_sem,zE];exact yQ0 (by rw[hq];exact⟨_,_,rfl,he,hap,hxs,rfl⟩)
      ·have hq:=yQm (rule:=rule) (r:=⟨rl,rr,op,asks⟩) (term:=term) (name:=name) hfm hop;simp only[if_neg ha0,if_neg ha2,hk,Bool.not_true,bFt,if_false,Fm.subs,Fm.nm,ne_eq,he,nFt,if_true] at hq;have hd:decide (((yZf ((sub[0]?).getD fm0) [(n,term)]).2:Int)=0)=false:=dEf (by omega);simp only[go_sem,zE,zA,zL,hd];exact yQ0 (by rw[hq];exact⟨_,_,rfl,.inl rfl,.inl rfl,rfl,rfl⟩)
   ·by_cases ha0:asks=0
    ·have d0:decide ((asks:Int)=0)=true:=dEt (by omega);have hq:=yQm (rule:=rule) (r:=⟨rl,rr,op,asks⟩) (term:=term) (name:=name) hfm hop;simp only[if_pos ha0,Fm.subs] at hq;simp only[go_sem,zE,zB,zA,zL,hdop,l0,l1,i2.len,g0,yQ1 e2,Int.le_refl,Int.toNat_zero,d0,fits,hent];intros;refine (hadd _ _ _ _ _ _ hy0 hz1 hz2 hm (yQt hm 0) (yQt hm 1) _).mono ?_;rintro _ _ ⟨tg,xs,rfl,he,hap,hxs,rfl⟩;simp only[go_sem,zE];exact yQ0 (by rw[hq];exact⟨_,_,rfl,he,hap,hxs,rfl⟩)
    ·have d0:decide ((asks:Int)=0)=false:=dEf (by omega);by_cases ha2:asks=2
     ·have d2:decide ((asks:Int)=2)=true:=dEt (by omega);simp only[go_sem,zE,zB,zA,zL,hdop,l0,l1,i2.len,g0,yQ1 e2,Int.le_refl,Int.toNat_zero,d0,d2,fits];intros;refine (yW9 gl (Tm.mk true name []) _ (show IsTm (Tm.mk true name []) _ from⟨_,_,rfl,.inl rfl,rfl⟩) (by show 1<=_;decide) _).mono ?_;rintro _ _ ⟨rfl,rfl⟩;cases hk:Tm.ok (Tm.mk true name [])
      ·simp only[go_sem,zE];have hq:=yQm (rule:=rule) (r:=⟨rl,rr,op,asks⟩) (term:=term) (name:=name) hfm hop;simp only[if_neg ha0,if_pos ha2,hk,Bool.not_false,if_true] at hq;exact yQ0 (by rw[hq];exact⟨_,_,rfl,.inl rfl,.inl rfl,rfl,rfl⟩)
      simp only[go_sem,zE,zA,zL];refine (zZj gl G T _ _ hz1 (yQt hm 0) n (Tm.mk true name []) _ (show IsTm (Tm.mk true name []) _ from⟨_,_,rfl,.inl rfl,rfl⟩) (by show 1<=_;decide) _).mono ?_;rintro _ _ ⟨y3,rfl,hy3,rfl⟩;have hy4:=hy3;obtain⟨o8,n8,t8,x8,t9,x9,rfl⟩:=hy3.agg;by_cases he:(yZf ((sub[0]?).getD fm0) [(n,(Tm.mk true name []))]).2=0
      ·have hq:=yQm (rule:=rule) (r:=⟨rl,rr,op,asks⟩) (term:=term) (name:=name) hfm hop;simp only[if_neg ha0,if_pos ha2,hk,Bool.not_true,bFt,if_false,Fm.subs,Fm.nm,he,ne_eq,nTf] at hq;simp only[go_sem,zE,zA,zL,he,hent,show decide (((0:Nat):Int)=0)=true from rfl];refine (hadd _ _ _ _ _ _ hy0 hy4 hz2 hm (Nat.le_trans (yZq _ _) (by decide)) (yQt hm 1) _).mono ?_;rintro _ _ ⟨tg,xs,rfl,he,hap,hxs,rfl⟩;simp only[go_sem,zE];exact yQ0 (by rw[hq];exact⟨_,_,rfl,he,hap,hxs,rfl⟩)
      ·have hq:=yQm (rule:=rule) (r:=⟨rl,rr,op,asks⟩) (term:=term) (name:=name) hfm hop;simp only[if_neg ha0,if_pos ha2,hk,Bool.not_true,bFt,if_false,Fm.subs,Fm.nm,ne_eq,he,nFt,if_true] at hq;have hd:decide (((yZf ((sub[0]?).getD fm0) [(n,(Tm.mk true name []))]).2:Int)=0)=false:=dEf (by omega);simp only[go_sem,zE,zA,zL,hd];exact yQ0 (by rw[hq];exact⟨_,_,rfl,.inl rfl,.inl rfl,rfl,rfl⟩)
     ·have d2:decide ((asks:Int)=2)=false:=dEf (by omega);simp only[go_sem,zE,zB,zA,zL,hdop,l0,l1,i2.len,g0,yQ1 e2,Int.le_refl,Int.toNat_zero,d0,d2,fits];intros;refine (yW9 gl term _ hz ht _).mono ?_;rintro _ _ ⟨rfl,rfl⟩;cases hk:Tm.ok term
      ·simp only[go_sem,zE];have hq:=yQm (rule:=rule) (r:=⟨rl,rr,op,asks⟩) (term:=term) (name:=name) hfm hop;simp only[if_neg ha0,if_neg ha2,hk,Bool.not_false,if_true] at hq;exact yQ0 (by rw[hq];exact⟨_,_,rfl,.inl rfl,.inl rfl,rfl,rfl⟩)
      simp only[go_sem,zE,zA,zL];refine (zZj gl G T _ _ hz1 (yQt hm 0) n term _ hz ht _).mono ?_;rintro _ _ ⟨y3,rfl,hy3,rfl⟩;have hy4:=hy3;obtain⟨o8,n8,t8,x8,t9,x9,rfl⟩:=hy3.agg;by_cases he:(yZf ((sub[0]?).getD fm0) [(n,term)]).2=0
      ·have hq:=yQm (rule:=rule) (r:=⟨rl,rr,op,asks⟩) (term:=term) (name:=name) hfm hop;simp only[if_neg ha0,if_neg ha2,hk,Bool.not_true,bFt,if_false,Fm.subs,Fm.nm,he,ne_eq,nTf] at hq;simp only[go_sem,zE,zA,zL,he,hent,show decide (((0:Nat):Int)=0)=true from rfl];refine (hadd _ _ _ _ _ _ hy0 hy4 hz2 hm (Nat.le_trans (yZq _ _) (by decide)) (yQt hm 1) _).mono ?_;rintro _ _ ⟨tg,xs,rfl,he,hap,hxs,rfl⟩;simp only[go_sem,zE];exact yQ0 (by rw[hq];exact⟨_,_,rfl,he,hap,hxs,rfl⟩)
      ·have hq:=yQm (rule:=rule) (r:=⟨rl,rr,op,asks⟩) (term:=term) (name:=name) hfm hop;simp only[if_neg ha0,if_neg ha2,hk,Bool.not_true,bFt,if_false,Fm.subs,Fm.nm,ne_eq,he,nFt,if_true] at hq;have hd:decide (((yZf ((sub[0]?).getD fm0) [(n,term)]).2:Int)=0)=false:=dEf (by omega);simp only[go_sem,zE,zA,zL,hd];exact yQ0 (by rw[hq];exact⟨_,_,rfl,.inl rfl,.inl rfl,rfl,rfl⟩)
 ·have l0:decide ((0:Int)<(sub.length:Int))=false:=dEf (by omega);have l1:decide ((1:Int)<(sub.length:Int))=false:=dEf (by omega);obtain rfl:=hz1n (by omega);obtain rfl:=hz2n (by omega);cases dop
  ·have hd2:=hdo rfl;by_cases ha0:asks=0
   ·have d0:decide ((asks:Int)=0)=true:=dEt (by omega);have hq:=yQm (rule:=rule) (r:=⟨rl,rr,op,asks⟩) (term:=term) (name:=name) hfm hop;simp only[if_pos ha0,Fm.subs] at hq;simp only[go_sem,zE,zA,zL,hdop,hd2,l0,l1,i2.len,d0,hent];intros;refine (hadd _ _ _ _ _ _ hy0 hz1 hz2 hm (yQt hm 0) (yQt hm 1) _).mono ?_;rintro _ _ ⟨tg,xs,rfl,he,hap,hxs,rfl⟩;simp only[go_sem,zE];exact yQ0 (by rw[hq];exact⟨_,_,rfl,he,hap,hxs,rfl⟩)
   ·have d0:decide ((asks:Int)=0)=false:=dEf (by omega);by_cases ha2:asks=2
    ·have d2:decide ((asks:Int)=2)=true:=dEt (by omega);simp only[go_sem,zE,zA,zL,hdop,hd2,l0,l1,i2.len,d0,d2,fits];intros;refine (yW9 gl (Tm.mk true name []) _ (show IsTm (Tm.mk true name []) _ from⟨_,_,rfl,.inl rfl,rfl⟩) (by show 1<=_;decide) _).mono ?_;rintro _ _ ⟨rfl,rfl⟩;cases hk:Tm.ok (Tm.mk true name [])
     ·simp only[go_sem,zE];have hq:=yQm (rule:=rule) (r:=⟨rl,rr,op,asks⟩) (term:=term) (name:=name) hfm hop;simp only[if_neg ha0,if_pos ha2,hk,Bool.not_false,if_true] at hq;exact yQ0 (by rw[hq];exact⟨_,_,rfl,.inl rfl,.inl rfl,rfl,rfl⟩)
     simp only[go_sem,zE,zA,zL];refine (zZj gl G T _ _ hz1 (yQt hm 0) n (Tm.mk true name []) _ (show IsTm (Tm.mk true name []) _ from⟨_,_,rfl,.inl rfl,rfl⟩) (by show 1<=_;decide) _).mono ?_;rintro _ _ ⟨y3,rfl,hy3,rfl⟩;have hy4:=hy3;obtain⟨o8,n8,t8,x8,t9,x9,rfl⟩:=hy3.agg;by_cases he:(yZf ((sub[0]?).getD fm0) [(n,(Tm.mk true name []))]).2=0
     ·have hq:=yQm (rule:=rule) (r:=⟨rl,rr,op,asks⟩) (term:=term) (name:=name) hfm hop;simp only[if_neg ha0,if_pos ha2,hk,Bool.not_true,bFt,if_false,Fm.subs,Fm.nm,he,ne_eq,nTf] at hq;simp only[go_sem,zE,zA,zL,he,hent,show decide (((0:Nat):Int)=0)=true from rfl];refine (hadd _ _ _ _ _ _ hy0 hy4 hz2 hm (Nat.le_trans (yZq _ _) (by decide)) (yQt hm 1) _).mono ?_;rintro _ _ ⟨tg,xs,rfl,he,hap,hxs,rfl⟩;simp only[go_sem,zE];exact yQ0 (by rw[hq];exact⟨_,_,rfl,he,hap,hxs,rfl⟩)
     ·have hq:=yQm (rule:=rule) (r:=⟨rl,rr,op,asks⟩) (term:=term) (name:=name) hfm hop;simp only[if_neg ha0,if_pos ha2,hk,Bool.not_true,bFt,if_false,Fm.subs,Fm.nm,ne_eq,he,nFt,if_true] at hq;have hd:decide (((yZf ((sub[0]?).getD fm0) [(n,(Tm.mk true name []))]).2:Int)=0)=false:=dEf (by omega);simp only[go_sem,zE,zA,zL,hd];exact yQ0 (by rw[hq];exact⟨_,_,rfl,.inl rfl,.inl rfl,rfl,rfl⟩)
    ·have d2:decide ((asks:Int)=2)=false:=dEf (by omega);simp only[go_sem,zE,zA,zL,hdop,hd2,l0,l1,i2.len,d0,d2];intros;refine (yW9 gl term _ hz ht _).mono ?_;rintro _ _ ⟨rfl,rfl⟩;cases hk:Tm.ok term
     ·simp only[go_sem,zE];have hq:=yQm (rule:=rule) (r:=⟨rl,rr,op,asks⟩) (term:=term) (name:=name) hfm hop;simp only[if_neg ha0,if_neg ha2,hk,Bool.not_false,if_true] at hq;exact yQ0 (by rw[hq];exact⟨_,_,rfl,.inl rfl,.inl rfl,rfl,rfl⟩)
     simp only[go_sem,zE,zA,zL];refine (zZj gl G T _ _ hz1 (yQt hm 0) n term _ hz ht _).mono ?_;rintro _ _ ⟨y3,rfl,hy3,rfl⟩;have hy4:=hy3;obtain⟨o8,n8,t8,x8,t9,x9,rfl⟩:=hy3.agg;by_cases he:(yZf ((sub[0]?).getD fm0) [(n,term)]).2=0
     ·have hq:=yQm (rule:=rule) (r:=⟨rl,rr,op,asks⟩) (term:=term) (name:=name) hfm hop;simp only[if_neg ha0,if_neg ha2,hk,Bool.not_true,bFt,if_false,Fm.subs,Fm.nm,he,ne_eq,nTf] at hq;simp only[go_sem,zE,zA,zL,he,hent,show decide (((0:Nat):Int)=0)=true from rfl];refine (hadd _ _ _ _ _ _ hy0 hy4 hz2 hm (Nat.le_trans (yZq _ _) (by decide)) (yQt hm 1) _).mono ?_;rintro _ _ ⟨tg,xs,rfl,he,hap,hxs,rfl⟩;simp only[go_sem,zE];exact yQ0 (by rw[hq];exact⟨_,_,rfl,he,hap,hxs,rfl⟩)
     ·have hq:=yQm (rule:=rule) (r:=⟨rl,rr,op,asks⟩) (term:=term) (name:=name) hfm hop;simp only[if_neg ha0,if_neg ha2,hk,Bool.not_true,bFt,if_false,Fm.subs,Fm.nm,ne_eq,he,nFt,if_true] at hq;have hd:decide (((yZf ((sub[0]?).getD fm0) [(n,term)]).2:Int)=0)=false:=dEf (by omega);simp only[go_sem,zE,zA,zL,hd];exact yQ0 (by rw[hq];exact⟨_,_,rfl,.inl rfl,.inl rfl,rfl,rfl⟩)
  ·by_cases ha0:asks=0
   ·have d0:decide ((asks:Int)=0)=true:=dEt (by omega);have hq:=yQm (rule:=rule) (r:=⟨rl,rr,op,asks⟩) (term:=term) (name:=name) hfm hop;simp only[if_pos ha0,Fm.subs] at hq;simp only[go_sem,zE,zA,zL,hdop,l0,l1,i2.len,d0,hent];intros;refine (hadd _ _ _ _ _ _ hy0 hz1 hz2 hm (yQt hm 0) (yQt hm 1) _).mono ?_;rintro _ _ ⟨tg,xs,rfl,he,hap,hxs,rfl⟩;simp only[go_sem,zE];exact yQ0 (by rw[hq];exact⟨_,_,rfl,he,hap,hxs,rfl⟩)
   ·have d0:decide ((asks:Int)=0)=false:=dEf (by omega);by_cases ha2:asks=2
    ·have d2:decide ((asks:Int)=2)=true:=dEt (by omega);simp only[go_sem,zE,zA,zL,hdop,l0,l1,i2.len,d0,d2,fits];intros;refine (yW9 gl (Tm.mk true name []) _ (show IsTm (Tm.mk true name []) _ from⟨_,_,rfl,.inl rfl,rfl⟩) (by show 1<=_;decide) _).mono ?_;rintro _ _ ⟨rfl,rfl⟩;cases hk:Tm.ok (Tm.mk true name [])
     ·simp only[go_sem,zE];have hq:=yQm (rule:=rule) (r:=⟨rl,rr,op,asks⟩) (term:=term) (name:=name) hfm hop;simp only[if_neg ha0,if_pos ha2,hk,Bool.not_false,if_true] at hq;exact yQ0 (by rw[hq];exact⟨_,_,rfl,.inl rfl,.inl rfl,rfl,rfl⟩)
     simp only[go_sem,zE,zA,zL];refine (zZj gl G T _ _ hz1 (yQt hm 0) n (Tm.mk true name []) _ (show IsTm (Tm.mk true name []) _ from⟨_,_,rfl,.inl rfl,rfl⟩) (by show 1<=_;decide) _).mono ?_;rintro _ _ ⟨y3,rfl,hy3,rfl⟩;have hy4:=hy3;obtain⟨o8,n8,t8,x8,t9,x9,rfl⟩:=hy3.agg;by_cases he:(yZf ((sub[0]?).getD fm0) [(n,(Tm.mk true name []))]).2=0
     ·have hq:=yQm (rule:=rule) (r:=⟨rl,rr,op,asks⟩) (term:=term) (name:=name) hfm hop;simp only[if_neg ha0,if_pos ha2,hk,Bool.not_true,bFt,if_false,Fm.subs,Fm.nm,he,ne_eq,nTf] at hq;simp only[go_sem,zE,zA,zL,he,hent,show decide (((0:Nat):Int)=0)=true from rfl];refine (hadd _ _ _ _ _ _ hy0 hy4 hz2 hm (Nat.le_trans (yZq _ _) (by decide)) (yQt hm 1) _).mono ?_;rintro _ _ ⟨tg,xs,rfl,he,hap,hxs,rfl⟩;simp only[go_sem,zE];exact yQ0 (by rw[hq];exact⟨_,_,rfl,he,hap,hxs,rfl⟩)
     ·have hq:=yQm (rule:=rule) (r:=⟨rl,rr,op,asks⟩) (term:=term) (name:=name) hfm hop;simp only[if_neg ha0,if_pos ha2,hk,Bool.not_true,bFt,if_false,Fm.subs,Fm.nm,ne_eq,he,nFt,if_true] at hq;have hd:decide (((yZf ((sub[0]?).getD fm0) [(n,(Tm.mk true name []))]).2:Int)=0)=false:=dEf (by omega);simp only[go_sem,zE,zA,zL,hd];exact yQ0 (by rw[hq];exact⟨_,_,rfl,.inl rfl,.inl rfl,rfl,rfl⟩)
    ·have d2:decide ((asks:Int)=2)=false:=dEf (by omega);simp only[go_sem,zE,zA,zL,hdop,l0,l1,i2.len,d0,d2];intros;refine (yW9 gl term _ hz ht _).mono ?_;rintro _ _ ⟨rfl,rfl⟩;cases hk:Tm.ok term
     ·simp only[go_sem,zE];have hq:=yQm (rule:=rule) (r:=⟨rl,rr,op,asks⟩) (term:=term) (name:=name) hfm hop;simp only[if_neg ha0,if_neg ha2,hk,Bool.not_false,if_true] at hq;exact yQ0 (by rw[hq];exact⟨_,_,rfl,.inl rfl,.inl rfl,rfl,rfl⟩)
     simp only[go_sem,zE,zA,zL];refine (zZj gl G T _ _ hz1 (yQt hm 0) n term _ hz ht _).mono ?_;rintro _ _ ⟨y3,rfl,hy3,rfl⟩;have hy4:=hy3;obtain⟨o8,n8,t8,x8,t9,x9,rfl⟩:=hy3.agg;by_cases he:(yZf ((sub[0]?).getD fm0) [(n,term)]).2=0
     ·have hq:=yQm (rule:=rule) (r:=⟨rl,rr,op,asks⟩) (term:=term) (name:=name) hfm hop;simp only[if_neg ha0,if_neg ha2,hk,Bool.not_true,bFt,if_false,Fm.subs,Fm.nm,he,ne_eq,nTf] at hq;simp only[go_sem,zE,zA,zL,he,hent,show decide (((0:Nat):Int)=0)=true from rfl];refine (hadd _ _ _ _ _ _ hy0 hy4 hz2 hm (Nat.le_trans (yZq _ _) (by decide)) (yQt hm 1) _).mono ?_;rintro _ _ ⟨tg,xs,rfl,he,hap,hxs,rfl⟩;simp only[go_sem,zE];exact yQ0 (by rw[hq];exact⟨_,_,rfl,he,hap,hxs,rfl⟩)
     ·have hq:=yQm (rule:=rule) (r:=⟨rl,rr,op,asks⟩) (term:=term) (name:=name) hfm hop;simp only[if_neg ha0,if_neg ha2,hk,Bool.not_true,bFt,if_false,Fm.subs,Fm.nm,ne_eq,he,nFt,if_true] at hq;have hd:decide (((yZf ((sub[0]?).getD fm0) [(n,term)]).2:Int)=0)=false:=dEf (by omega);simp only[go_sem,zE,zA,zL,hd];exact yQ0 (by rw[hq];exact⟨_,_,rfl,.inl rfl,.inl rfl,rfl,rfl⟩)
theorem zG9 {ca:Nat}{s:Sq}(h:yXe ca s=true):(∀f∈s.l,f.right=true)/\∀f∈s.r,f.right=true:=by
 unfold yXe at h;simp only[bAt,List.all_eq_true] at h;obtain⟨⟨⟨_,h4⟩,h5⟩,_⟩:=h;have key:∀f,fmB ca f=true->f.right=true:=λf hf=>by
  unfold fmB at hf;simp only[bAt] at hf;exact hf.1
 exact⟨λf hf=>key f (h4 f hf),λf hf=>key f (h5 f hf)⟩
theorem wVu (G:Gl gl)(T:Gt gl)(ca:Nat)(s:Sq)(x:IV)(hx:IsSq s x)(hs:yYm s)(rule:Nat)(main:Fm)(y:IV)(hy:IsFm main y)(hm:main.size<=1000000)(term:Tm)(z:IV)(hz:IsTm term z)(ht:term.size<=1000000)(name:ByteArray)(st:ISt) :
  ICall prog gl 90 [.raw (.int .u8 ca),x,.raw (.int .u8 rule),y,z,.raw (.string name)] st (AdRD st (yZv ca s rule main term name)):=by
 have hV:=λst=>wUc gl G ca s x hx hs st;have hF:=λhr st=>vXx gl T s x hx hs hr name st;obtain⟨t1,x1,t2,x2,rfl,e1,i1,e2,i2⟩:=hx;have hH1:=λst=>wXm gl G s.l main t1 x1 y e1 i1 hy hs.1 hm st;have hH2:=λst=>wXm gl G s.r main t2 x2 y e2 i2 hy hs.2 hm st;have hA:=λr hr st=>vKf gl G T ca rule r hr main y hy hm term z hz ht name st;obtain⟨o3,n3,t3,x3,t4,x4,rfl⟩:=hy.agg;obtain⟨v,un,tz,xz,rfl⟩:∃v un tz xz,z=.agg [.raw (.bool v),.raw (.string un),.sl tz xz]:=by
  obtain⟨v,un,us⟩:=term;obtain⟨tz,xz,rfl,_⟩:=hz.mk;exact⟨_,_,_,_,rfl⟩
 refine iI func90 ?_;simp only[go_sem,zE,zA,zL,reduceCtorEq];refine (hV _).mono ?_;rintro _ st ⟨rfl,rfl⟩;cases hv:yXe ca s
 ·simp only[go_sem,zE];exact yQ0 (by unfold yZv;rw[hv];exact⟨_,_,rfl,.inl rfl,.inl rfl,rfl,rfl⟩)
 have hright:=zG9 hv;simp only[go_sem,zA,reduceCtorEq];refine (wYt gl ca _).mono ?_;rintro _ _ ⟨b,hb,rfl,rfl⟩;cases hr:rowS ca rule with
 | none =>
  have hq:yZv ca s rule main term name=([],191):=by unfold yZv;rw[hv,hr];rfl
  simp only[go_sem,zE,zA,zL,ISt.put_same,zXn,hr,Option.map_none,xWr];exact yQa (yQb hb) (by rw[hq];exact⟨_,_,rfl,.inl rfl,.inl rfl,rfl,rfl⟩)
 | some r =>
  have hcall:=hA r hr;obtain⟨rl,rr,op,asks⟩:=r;have hq:yZv ca s rule main term name=if decide ((yXw ca rule ⟨rl,rr,op,asks⟩ main term name).2=192) || (rl&&!hasF s.l main) || (rr&&!hasF s.r main) then ([],192)
    else if (yXw ca rule ⟨rl,rr,op,asks⟩ main term name).2≠0 then ([],(yXw ca rule ⟨rl,rr,op,asks⟩ main term name).2)
    else if decide (asks=2)&&yJu s name then ([],193) else ((yXw ca rule ⟨rl,rr,op,asks⟩ main term name).1,0):=by unfold yZv;rw[hv,hr];rfl
  generalize yXw ca rule ⟨rl,rr,op,asks⟩ main term name=q at hq hcall;obtain⟨qs,qe⟩:=q;simp only at hq;simp only[go_sem,zE,zA,zL,reduceCtorEq,ISt.put_same,zXn,hr,Option.map_some,xWq,rwI];refine (hcall _).mono ?_;rintro _ _ ⟨tg,xs,rfl,he,hap,hxs,rfl⟩;by_cases h192:qe=192
  ·have d:decide ((qe:Int)=192)=true:=dEt (by omega);have hq':yZv ca s rule main term name=([],192):=by rw[hq,h192];rfl
   simp only[go_sem,zE,d];exact yQa (yQb hb) (by rw[hq'];exact⟨_,_,rfl,.inl rfl,.inl rfl,rfl,rfl⟩)
  have d:decide ((qe:Int)=192)=false:=dEf (by omega);have h192':decide (qe=192)=false:=dEf h192;rw[h192',Bool.false_or] at hq;cases rl
  ·cases rr
   ·simp only[Bool.false_and,Bool.false_and,Bool.or_false,bFt,if_false] at hq;by_cases h0:qe=0
    ·subst h0;simp only[ne_eq,nTf,if_false] at hq;by_cases ha:asks=2
     ·have da:decide ((asks:Int)=2)=true:=dEt (by omega);simp only[go_sem,zE,zA,zL,d,da,show decide (((0:Nat):Int)=0)=true from rfl];refine (hF hright _).mono ?_;rintro _ _ ⟨rfl,rfl⟩;rw[dEt ha,Bool.true_and] at hq;cases hf:yJu s name
      ·simp only[go_sem,zE];rw[hf] at hq;exact yQa (yQb hb) (by rw[hq];exact⟨_,_,rfl,he,hap,hxs,rfl⟩)
      ·simp only[go_sem,zE];rw[hf] at hq;exact yQa (yQb hb) (by rw[hq];exact⟨_,_,rfl,.inl rfl,.inl rfl,rfl,rfl⟩)
     ·have da:decide ((asks:Int)=2)=false:=dEf (by omega);rw[dEf ha,Bool.false_and] at hq;simp only[go_sem,zE,zA,d,da,show decide (((0:Nat):Int)=0)=true from rfl];exact yQa (yQb hb) (by rw[hq];exact⟨_,_,rfl,he,hap,hxs,rfl⟩)
    ·have d0:decide ((qe:Int)=0)=false:=dEf (by omega);rw[if_pos h0] at hq;simp only[go_sem,zE,zA,d,d0];exact yQa (yQb hb) (by rw[hq];exact⟨_,_,rfl,.inl rfl,.inl rfl,rfl,rfl⟩)
   ·simp only[go_sem,zE,zA,zL,d];refine (hH2 _).mono ?_;rintro _ _ ⟨rfl,rfl⟩;cases h5:hasF s.r main
    ·simp only[go_sem,zE];rw[h5] at hq;exact yQa (yQb hb) (by rw[hq];exact⟨_,_,rfl,.inl rfl,.inl rfl,rfl,rfl⟩)
    ·simp only[h5,Bool.false_and,Bool.and_false,Bool.not_true,Bool.or_false,bFt,if_false] at hq;by_cases h0:qe=0
     ·subst h0;simp only[ne_eq,nTf,if_false] at hq;by_cases ha:asks=2
      ·have da:decide ((asks:Int)=2)=true:=dEt (by omega);simp only[go_sem,zE,zA,zL,da,show decide (((0:Nat):Int)=0)=true from rfl];refine (hF hright _).mono ?_;rintro _ _ ⟨rfl,rfl⟩;rw[dEt ha,Bool.true_and] at hq;cases hf:yJu s name
       ·simp only[go_sem,zE];rw[hf] at hq;exact yQa (yQb hb) (by rw[hq];exact⟨_,_,rfl,he,hap,hxs,rfl⟩)
       ·simp only[go_sem,zE];rw[hf] at hq;exact yQa (yQb hb) (by rw[hq];exact⟨_,_,rfl,.inl rfl,.inl rfl,rfl,rfl⟩)
      ·have da:decide ((asks:Int)=2)=false:=dEf (by omega);rw[dEf ha,Bool.false_and] at hq;simp only[go_sem,zE,zA,da,show decide (((0:Nat):Int)=0)=true from rfl];exact yQa (yQb hb) (by rw[hq];exact⟨_,_,rfl,he,hap,hxs,rfl⟩)
     ·have d0:decide ((qe:Int)=0)=false:=dEf (by omega);rw[if_pos h0] at hq;simp only[go_sem,zE,d0];exact yQa (yQb hb) (by rw[hq];exact⟨_,_,rfl,.inl rfl,.inl rfl,rfl,rfl⟩)
  ·simp only[go_sem,zE,zA,zL,d];refine (hH1 _).mono ?_;rintro _ _ ⟨rfl,rfl⟩;cases h4:hasF s.l main
   ·simp only[go_sem,zE];rw[h4] at hq;exact yQa (yQb hb) (by rw[hq];exact⟨_,_,rfl,.inl rfl,.inl rfl,rfl,rfl⟩)
   cases rr
   ·simp only[h4,Bool.false_and,Bool.and_false,Bool.not_true,Bool.or_false,bFt,if_false] at hq;by_cases h0:qe=0
    ·subst h0;simp only[ne_eq,nTf,if_false] at hq;by_cases ha:asks=2
     ·have da:decide ((asks:Int)=2)=true:=dEt (by omega);simp only[go_sem,zE,zA,zL,da,show decide (((0:Nat):Int)=0)=true from rfl];refine (hF hright _).mono ?_;rintro _ _ ⟨rfl,rfl⟩;rw[dEt ha,Bool.true_and] at hq;cases hf:yJu s name
      ·simp only[go_sem,zE];rw[hf] at hq;exact yQa (yQb hb) (by rw[hq];exact⟨_,_,rfl,he,hap,hxs,rfl⟩)
      ·simp only[go_sem,zE];rw[hf] at hq;exact yQa (yQb hb) (by rw[hq];exact⟨_,_,rfl,.inl rfl,.inl rfl,rfl,rfl⟩)
     ·have da:decide ((asks:Int)=2)=false:=dEf (by omega);rw[dEf ha,Bool.false_and] at hq;simp only[go_sem,zE,zA,da,show decide (((0:Nat):Int)=0)=true from rfl];exact yQa (yQb hb) (by rw[hq];exact⟨_,_,rfl,he,hap,hxs,rfl⟩)
    ·have d0:decide ((qe:Int)=0)=false:=dEf (by omega);rw[if_pos h0] at hq;simp only[go_sem,zE,zA,d0];exact yQa (yQb hb) (by rw[hq];exact⟨_,_,rfl,.inl rfl,.inl rfl,rfl,rfl⟩)
   ·simp only[go_sem,zE,zA,zL];refine (hH2 _).mono ?_;rintro _ _ ⟨rfl,rfl⟩;cases h5:hasF s.r main
    ·simp only[go_sem,zE];rw[h4,h5] at hq;exact yQa (yQb hb) (by rw[hq];exact⟨_,_,rfl,.inl rfl,.inl rfl,rfl,rfl⟩)
    ·simp only[h4,h5,Bool.and_false,Bool.not_true,Bool.or_false,bFt,if_false] at hq;by_cases h0:qe=0
     ·subst h0;simp only[ne_eq,nTf,if_false] at hq;by_cases ha:asks=2
      ·have da:decide ((asks:Int)=2)=true:=dEt (by omega);simp only[go_sem,zE,zA,zL,da,show decide (((0:Nat):Int)=0)=true from rfl];refine (hF hright _).mono ?_;rintro _ _ ⟨rfl,rfl⟩;rw[dEt ha,Bool.true_and] at hq;cases hf:yJu s name
       ·simp only[go_sem,zE];rw[hf] at hq;exact yQa (yQb hb) (by rw[hq];exact⟨_,_,rfl,he,hap,hxs,rfl⟩)
       ·simp only[go_sem,zE];rw[hf] at hq;exact yQa (yQb hb) (by rw[hq];exact⟨_,_,rfl,.inl rfl,.inl rfl,rfl,rfl⟩)
      ·have da:decide ((asks:Int)=2)=false:=dEf (by omega);rw[dEf ha,Bool.false_and] at hq;simp only[go_sem,zE,zA,da,show decide (((0:Nat):Int)=0)=true from rfl];exact yQa (yQb hb) (by rw[hq];exact⟨_,_,rfl,he,hap,hxs,rfl⟩)
     ·have d0:decide ((qe:Int)=0)=false:=dEf (by omega);rw[if_pos h0] at hq;simp only[go_sem,zE,d0];exact yQa (yQb hb) (by rw[hq];exact⟨_,_,rfl,.inl rfl,.inl rfl,rfl,rfl⟩)
theorem vZe (G:Gl gl)(T:Gt gl)(ca:Nat)(s:Sq)(x:IV)(hx:IsSq s x)(hs:yYm s)(rule:Nat)(main:Fm)(y:IV)(hy:IsFm main y)(hm:main.size<=1000000)(term:Tm)(z:IV)(hz:IsTm term z)(ht:term.size<=1000000)(name:ByteArray)(st:ISt) :
  ICall prog gl 90 [.raw (.int .u8 ca),x,.raw (.int .u8 rule),y,z,.raw (.string name)] st (AdR st (yZv ca s rule main term name)) :=
 (wVu gl G T ca s x hx hs rule main y hy hm term z hz ht name st).mono AdRD.w
theorem wK1:lenI prog 3=none:=by kernel_rfl
theorem zV2 (n:Nat):yJ5 none (some 0) n=some (0,0):=by simp[yJ5]
theorem xZc (n:Nat):yJ5 none (some ((0:Nat):Int)) n=some (0,0):=zV2 n
theorem vKn (n:Nat)(hn:n<=1099511627776)(st:ISt):ICall prog gl 164 [.sl ⟨true,.nil,0⟩ [],.raw (.int .i64 n)] st (λr st' =>
  (n=0/\r=.sl ⟨true,.nil,0⟩ []/\st'=st)\/(∃g cap,st g=none/\n<=cap/\r=.raw (.slice (some ⟨g,0,none⟩) 0 cap)/\st'=st.put g (some (.box (List.replicate (cap*4) .junk))))):=by
 have h1:decide ((n:Int)<0)=false:=dEf (by omega);have h2:IntKind.i64.wrap ((0:Int)-((0:Nat):Int))=0:=rfl;have h3:IntKind.i64.wrap ((n:Int)-0)=n:=w64 (by omega) (by omega);refine iI func164 ?_;by_cases hz:n=0
 ·subst hz;simp only[go_sem,zE,zL,reduceCtorEq,h1,h2,h3,show decide ((0:Int)<((0:Nat):Int))=false from rfl];refine yQ0 (.inl ?_);simp
 ·have h4:decide ((0:Int)<(n:Int))=true:=dEt (by omega);simp only[go_sem,zE,zL,reduceCtorEq,h1,h2,h3,h4,zV2,wK1];refine yQq ⟨rfl,by omega,by show (n:Int)*72<=_;omega,by omega⟩ λg cap=>yQ9 λhg=>?_;obtain⟨hg,hc⟩:=hg;rw[Int.toNat_natCast] at hc;simp only[go_sem,zE,zL,reduceCtorEq,Int.toNat_natCast,xZc,ite_self,Nat.zero_mul,hc];exact yQ0 (.inr ⟨g,cap,hg,hc,rfl,rfl⟩)
def catL (l:List (Tag×List IV)):List IV:=l.flatMap (·.2)
def catI (l:List (Tag×List IV)):List IV:=l.map λp=>.sl p.1 p.2
theorem zYy {l:List (Tag×List IV)}{k:Nat}{p:Tag×List IV}(h:l[k]?=some p):(catI l)[k]?=some (.sl p.1 p.2):=by simp[catI,List.getElem?_map,h]
theorem yVe {l:List (Tag×List IV)}{k:Nat}{p:Tag×List IV}(h:l[k]?=some p):catL (l.take (k+1))=catL (l.take k)++p.2:=by
 rw[yQ6 h];simp[catL]
theorem zYx (l:List (Tag×List IV))(k:Nat):(catL (l.take k)).length<=(catL l).length:=by
 conv=>rhs;rw[<- List.take_append_drop k l]
 unfold catL;rw[List.flatMap_append,lLa];omega
theorem yJv:∀ {l:List Fm}{xs:List IV},IsFms l xs->∀y∈xs,fits true 4 y=true
 | [],_,rfl,y,h=>by cases h
 | a::l,_,⟨x,xs,rfl,hx,hl⟩,y,h=>by
  rcases List.mem_cons.1 h with rfl|h
  ·obtain⟨o,n,t,x,t',x',rfl⟩:=hx.agg;simp[fits,IV.one]
  ·exact yJv hl y h
theorem wZe {y:IV}(h:fits true 4 y=true):y.cells.length=4:=(yX0 h).2.1
theorem uJ1 {l:List IV}(h:∀y∈l,fits true 4 y=true):(l.flatMap IV.cells).length=l.length*4:=yQp l λx hx=>wZe (h x hx)
theorem wVf (l:List (Tag×List IV))(tt:Tag)(htt:okEs tt 1)(hfit:∀p∈l,∀y∈p.2,fits true 4 y=true)(hlen:(catL l).length<=1099511627776)(st:ISt) :
  ICall prog gl 119 [.sl tt (catI l)] st (λr st'=>(∃t,r=.sl t []/\okEs t 4/\catL l=[]/\st'=st) \/
   ∃g cap cs,st g=none/\(catL l).length<=cap/\cap*4<=cs.length/\cs.take ((catL l).length*4)=(catL l).flatMap IV.cells/\r=.raw (.slice (some ⟨g,0,none⟩) (catL l).length cap)/\st'=st.put g (some (.box cs))):=by
 have hli:(catI l).length=l.length:=by simp[catI]
 have hfc:∀y∈catL l,fits true 4 y=true:=λy hy=>by
  obtain⟨p,hp,hy⟩:=List.mem_flatMap.1 hy;exact hfit p hp y hy
 refine iI func119 ?_;simp only[go_sem,reduceCtorEq,hli];intro hl;refine LoopC.ctr l.length (λk fr st' ds=>fr 0=.iv (.sl tt (catI l))/\fr 3=.iv (.raw (.int .i64 (catL (l.take k)).length))/\fr 9=.iv (.sl tt (catI l))/\fr 10=.iv (.raw (.int .i64 l.length))/\fr 11=.iv (.raw (.int .i64 k))/\st'=st/\ds=[]) ?_ ?_ ?_
 ·simp only[go_sem,zE,reduceCtorEq];simp[catL]
 ·rintro k fr st1 _ hlt ⟨f0,f3,f9,f10,f11,rfl,rfl⟩;obtain⟨p,hp⟩:=yQ4 hlt;have h1:=zYx l k;have h2:=zYx l (k+1);rw[yVe hp,lLa] at h2;have h3:IntKind.i64.wrap ((((catL (l.take k)).length:Nat):Int)+((p.2.length:Nat):Int))=((catL (l.take (k+1))).length:Nat):=by
   rw[w64 (by omega) (by omega),yVe hp,lLa];omega
  have h4:decide ((((catL (l.take (k+1))).length:Nat):Int)<0)=false:=dEf (by omega);simp only[go_sem,zE,f3,f9,f10,f11,lt_i hlt,yQ1 htt,iNn,zYy hp,fits,h3];intro hpl;simp only[go_sem,zE,reduceCtorEq,h3,h4,f0,f9,f10,f11,yQf hlt (show l.length<=281474976710656 by omega)]
 ·rintro fr st1 _ ⟨f0,f3,f9,f10,f11,rfl,rfl⟩;rw[lTl] at f3;simp only[go_sem,zE,zA,f3,f10,f11,yQs (nLi _)];refine (vKn gl (catL l).length hlen _).mono ?_;have loop:∀(I:Nat->IV->ISt->Prop),True:=λ_=>trivial;rintro r st2 (⟨hz,rfl,rfl⟩|⟨g,cap,hg,hcap,rfl,rfl⟩)
  ·have hnil:catL l=[]:=List.eq_nil_of_length_eq_zero hz;simp only[go_sem,reduceCtorEq,f0,hli];intro _;refine LoopC.ctr l.length (λk fr st' ds=>(∃t,fr 6=.iv (.sl t [])/\t.cap=.nil)/\fr 25=.iv (.sl tt (catI l))/\fr 26=.iv (.raw (.int .i64 l.length))/\fr 27=.iv (.raw (.int .i64 k))/\st'=st2/\ds=[]) ?_ ?_ ?_
   ·simp only[go_sem,zE];exact⟨⟨_,rfl,rfl⟩,rfl⟩
   ·rintro k fr st1 _ hlt ⟨⟨t,f6,ht⟩,f25,f26,f27,rfl,rfl⟩;obtain⟨p,hp⟩:=yQ4 hlt;have hp0:p.2=[]:=by
     have:=yVe hp;have h2:=zYx l (k+1);rw[this,lLa,hnil,List.length_nil] at h2;exact List.eq_nil_of_length_eq_zero (by omega)
    obtain⟨fs,c,es⟩:=t;obtain rfl:c=.nil:=ht;simp only[go_sem,zE,zA,zM,zL,f6,f25,f26,f27,lt_i hlt,yQ1 htt,iNn,zYy hp,fits,hp0,yQf hlt (show l.length<=281474976710656 by omega)];exact⟨_,rfl,rfl⟩
   ·rintro fr st1 _ ⟨⟨t,f6,ht⟩,f25,f26,f27,rfl,rfl⟩;simp only[go_sem,zE,f6,f26,f27,yQs (nLi _)];exact yQ0 (.inl ⟨_,rfl,.inl ht,hnil,rfl⟩)
  ·simp only[go_sem,reduceCtorEq,f0,hli];intro _;refine LoopC.ctr l.length (λk fr st' ds=>(∃g cap cs,st1 g=none/\(catL (l.take k)).length<=cap/\cap*4<=cs.length/\cs.take ((catL (l.take k)).length*4)=(catL (l.take k)).flatMap IV.cells/\fr 6=.iv (.raw (.slice (some ⟨g,0,none⟩) (catL (l.take k)).length cap))/\st'=st1.put g (some (.box cs)))/\fr 25=.iv (.sl tt (catI l))/\fr 26=.iv (.raw (.int .i64 l.length))/\fr 27=.iv (.raw (.int .i64 k))/\ds=[]) ?_ ?_ ?_
   ·simp only[go_sem,zE];exact⟨⟨g,cap,_,hg,by simp[catL],by simp,by simp[catL],by simp[catL],rfl⟩,rfl⟩
   ·rintro k fr st' _ hlt ⟨⟨g,cap,cs,hg,hc1,hc2,hc3,f6,rfl⟩,f25,f26,f27,rfl⟩;obtain⟨p,hp⟩:=yQ4 hlt;have h2:=zYx l (k+1);rw[yVe hp,lLa] at h2;have hpf:=hfit p (lMg hp);simp only[go_sem,zE,zA,f6,f25,f26,f27,lt_i hlt,yQ1 htt,iNn,zYy hp,fits];refine yGc _ _ _ (ISt.put_same ..) (List.all_eq_true.2 hpf) ⟨by show _*72<=_;omega,by omega⟩ ⟨hc1,hc2⟩ (uJ1 hpf) ?_;intro g' cap' cs' hg' k1 k2 k3;simp only[go_sem,zE,f25,f26,f27,yQf hlt (show l.length<=281474976710656 by omega)];have hst':((st1.put g (some (.box cs))).put g none).put g' (some (.box cs'))=st1.put g' (some (.box cs')):=by
     funext c;simp only[ISt.put_apply];split
     ·rfl
     ·split
      ·subst_vars;exact hg.symm
      ·rfl
    have hg1:st1 g'=none:=by
     rcases hg' with rfl|h
     ·exact hg
     ·rw[ISt.put_apply] at h;split at h
      ·cases h
      ·exact h
    refine⟨g',cap',cs',hg1,?_,k2,?_,?_,hst'⟩
    ·rw[yVe hp,lLa];exact k1
    ·rw[yVe hp,lLa,List.flatMap_append,<- hc3];exact k3
    ·rw[yVe hp,lLa]
   ·rintro fr st' _ ⟨⟨g,cap,cs,hg,hc1,hc2,hc3,f6,rfl⟩,f25,f26,f27,rfl⟩;rw[lTl] at *;simp only[go_sem,zE,f6,f26,f27,yQs (nLi _)];exact yQ0 (.inr ⟨g,cap,cs,hg,hc1,hc2,hc3,rfl,rfl⟩)
theorem xVr (l1 l2:List Fm)(t1 t2 tt:Tag)(x1 x2:List IV)(htt:okEs tt 1)(h1:IsFms l1 x1)(h2:IsFms l2 x2)(hlen:l1.length+l2.length<=1099511627776)(st:ISt) :
  ICall prog gl 119 [.sl tt [.sl t1 x1,.sl t2 x2]] st (λr st'=>∃t ys,r=.sl t ys/\okEs t 4/\IsFms (l1++l2) ys/\st'=st):=by
 have hc:catL [(t1,x1),(t2,x2)]=x1++x2:=by simp[catL]
 have hf:=h1.append h2;have hlx:(x1++x2).length<=1099511627776:=by rw[hf.len,lLa];exact hlen
 have key:=wVf gl [(t1,x1),(t2,x2)] tt htt (λp hp y hy=>by
  rcases List.mem_cons.1 hp with rfl|hp
  ·exact yJv h1 y hy
  ·obtain rfl:=List.mem_singleton.1 hp;exact yJv h2 y hy) (by rw[hc];exact hlx) st
 rw[hc] at key;refine ICall.fix (key.mono λr st' h=>?_);rcases h with⟨t,rfl,ht,hn,rfl⟩|⟨g,cap,cs,hg,hc1,hc2,hc3,rfl,rfl⟩
 ·exact⟨.sl t [],(λ_=>none),st',LendOk.mk (λb o h=>by cases h) (subSt.refl _) (λb cs h=>by cases h),.refl _,⟨false,t.cap,t.es⟩,[],by simp only[age,ages],ht,hn▸hf,rfl⟩
 ·have hcell:∀y∈x1++x2,y.cells.length=4:=λy hy=>wZe (yJv hf y hy);refine⟨.sl ⟨true,.app g,4⟩ (x1++x2),ISt.put (λ_=>none) g (some (.box cs)),st,⟨λb o h=>?_,yQb hg,λb cs' h=>?_⟩,.sl g cap ⟨true,.app g,4⟩ (x1++x2) cs rfl (by omega) hc1 hcell (ISt.put_same ..) hc2 λi r c hr hx=>?_,⟨false,.app g,4⟩,ages (x1++x2),by simp only[age],.inr rfl,hf.aged,rfl⟩
  ·rw[ISt.put_apply] at h ⊢;split at h
   ·rename_i hb;rw[if_pos hb];exact h
   ·cases h
  ·rw[ISt.put_apply] at h;split at h
   ·rename_i hb;rw[hb];exact hg
   ·cases h
  ·have hi:i<(x1++x2).length*4:=by
    have:=(lGs hx).1
    rwa [yQp _ hcell] at this
   have:(cs.take ((x1++x2).length*4))[i]?=cs[i]?:=by rw[List.getElem?_take,if_pos hi]
   rw[hc3,hx,hr] at this;cases this;exact .refl _
theorem xGi {ca:Nat}{s:Sq}{rule:Nat}{main:Fm}{term:Tm}{name:ByteArray}{ad:List Sq}(h:yZv ca s rule main term name=(ad,0)) :
  yXe ca s=true/\∃r,(yXw ca rule r main term name)=(ad,0):=by
 unfold yZv at h;split at h
 ·simp at h
 ·rename_i hv;split at h
  ·simp at h
  ·rename_i r _;split at h
   ·simp at h
   ·split at h
    ·rename_i h1 h2;injection h with h3 h4;exact absurd h4 h2
    ·rename_i h1 h2;split at h
     ·simp at h
     ·injection h with h3 h4;refine⟨by simpa using hv,r,?_⟩;rw[<- h3];exact Prod.ext rfl (by simpa using h2)
theorem yZp:fitL []:=λf h=>by cases h
theorem zYr {f:Fm}(h:f.size<=1000):fitL [f]:=λg hg=>by obtain rfl:=List.mem_singleton.1 hg;omega
theorem xV6 {f g:Fm}(h:f.size<=1000)(h':g.size<=1000):fitL [f,g]:=λk hk=>by
 rcases List.mem_cons.1 hk with rfl|hk
 ·omega
 ·obtain rfl:=List.mem_singleton.1 hk;omega
theorem yXu {c:Prop} [Decidable c]{A B:List Sq}{P:Sq->Prop}(h1:∀s∈A,P s)(h2:∀s∈B,P s):∀s∈(if c then A else B),P s:=by split<;>assumption
def yY2 (s:Sq):Prop:=yYm s/\s.l.length<=64/\s.r.length<=64
theorem xVn {ca rule:Nat}{main a b:Fm}(hm:main.size<=400)(ha:a.size<=400)(hb:b.size<=400):∀s∈addS ca rule main a b,yY2 s:=by
 have hi:(impF a b).size<=1000:=by simp only[impF,Fm.size,yQd,yQ7];omega
 have hi':(impF b a).size<=1000:=by simp only[impF,Fm.size,yQd,yQ7];omega
 have l1:=zYr (show main.size<=1000 by omega);have l2:=zYr (show a.size<=1000 by omega);have l3:=zYr (show b.size<=1000 by omega);have l4:=xV6 (show a.size<=1000 by omega) (show b.size<=1000 by omega);have l5:=xV6 hi hi';have q0:∀s∈([]:List Sq),yY2 s:=λs hs=>by cases hs
 have q1:∀ {x:Sq},yY2 x->∀s∈[x],yY2 s:=λhx s hs=>by obtain rfl:=List.mem_singleton.1 hs;exact hx
 have q2:∀ {x y:Sq},yY2 x->yY2 y->∀s∈[x,y],yY2 s:=λhx hy s hs=>by
  rcases List.mem_cons.1 hs with rfl|hs
  ·exact hx
  ·obtain rfl:=List.mem_singleton.1 hs;exact hy
 have c0:([]:List Fm).length<=64:=Nat.zero_le _;have c1:∀f:Fm,[f].length<=64:=λ_=>by simp
 have c2:∀f g:Fm,[f,g].length<=64:=λ_ _=>by simp
 unfold addS;refine yXu (q1 ⟨⟨yZp,l2⟩,c0,c1 _⟩) (yXu (q1 ⟨⟨l2,yZp⟩,c1 _,c0⟩) (yXu (q1 ⟨⟨l4,yZp⟩,c2 _ _,c0⟩) (yXu (q2 ⟨⟨yZp,l2⟩,c0,c1 _⟩ ⟨⟨yZp,l3⟩,c0,c1 _⟩) (yXu (q2 ⟨⟨l2,yZp⟩,c1 _,c0⟩ ⟨⟨l3,yZp⟩,c1 _,c0⟩)
  (yXu (yXu (q1 ⟨⟨yZp,l2⟩,c0,c1 _⟩) (q1 ⟨⟨yZp,l4⟩,c0,c2 _ _⟩)) (yXu (q2 ⟨⟨yZp,l2⟩,c0,c1 _⟩ ⟨⟨l3,yZp⟩,c1 _,c0⟩) (yXu (q1 ⟨⟨l2,l3⟩,c1 _,c1 _⟩) (yXu (q1 ⟨⟨l5,yZp⟩,c2 _ _,c0⟩) (yXu (q2 ⟨⟨l2,l3⟩,c1 _,c1 _⟩ ⟨⟨l3,l2⟩,c1 _,c1 _⟩)
  (yXu (q1 ⟨⟨l2,yZp⟩,c1 _,c0⟩) (yXu (q1 ⟨⟨yZp,l2⟩,c0,c1 _⟩) (yXu (q1 ⟨⟨l2,yZp⟩,c1 _,c0⟩) (yXu (q1 ⟨⟨yZp,l2⟩,c0,c1 _⟩) (yXu (q2 ⟨⟨yZp,l1⟩,c0,c1 _⟩ ⟨⟨l1,yZp⟩,c1 _,c0⟩) (yXu (q1 ⟨⟨yZp,l3⟩,c0,c1 _⟩) q0)))))))))))))))
theorem yYx:∀ {l:List Fm}{g:Fm},g∈l->g.size<=yQ7 l
 | a::l,g,h=>by
  simp only[yQ7];rcases List.mem_cons.1 h with rfl|h
  ·omega
  ·have:=yYx h;omega
theorem wK8 {l:List Fm}{n:Nat}(h:yQ7 l<=n)(hn:1<=n)(k:Nat):((l[k]?).getD fm0).size<=n:=by
 cases hk:l[k]? with
 | none=>exact hn
 | some a=>exact Nat.le_trans (yYx (lMg hk)) h
theorem xQe {ca rule:Nat}{r:Rw}{main:Fm}{term:Tm}{name:ByteArray}{ad:List Sq}(h:yXw ca rule r main term name=(ad,0)):∀s∈ad,yY2 s:=by
 unfold yXw at h;by_cases hc:(!fmB ca main || (decide (r.op≠0)&&decide (main.op≠r.op)))=true
 ·rw[if_pos hc] at h;cases (Prod.mk.inj h).2
 ·rw[if_neg hc] at h;have hf:fmB ca main=true:=by
   cases hq:fmB ca main
   ·simp[hq] at hc
   ·rfl
  have hm:main.size<=400:=by
   unfold fmB at hf;simp only[bAt] at hf;exact (yJo hf.1).2.1
  have hs:∀k,((main.subs[k]?).getD fm0).size<=400:=λk=>wK8 (by
   obtain⟨o,n,us,sub⟩:=main;simp only[Fm.size] at hm;show yQ7 sub<=400;omega) (by omega) k
  by_cases h0:r.asks=0
  ·simp only[if_pos h0] at h;rw[<- (Prod.mk.inj h).1];exact xVn hm (hs 0) (hs 1)
  ·simp only[if_neg h0] at h;generalize (if r.asks=2 then Tm.mk true name [] else term)=t at h;by_cases h1:(!t.ok)=true
   ·simp only[if_pos h1] at h;cases (Prod.mk.inj h).2
   ·simp only[if_neg h1] at h;by_cases h2:(yZf ((main.subs[0]?).getD fm0) [(main.nm,t)]).2≠0
    ·simp only[if_pos h2] at h;cases (Prod.mk.inj h).2
    ·simp only[if_neg h2] at h;rw[<- (Prod.mk.inj h).1];exact xVn hm (yZq _ _) (hs 1)
theorem yWd (s:Sq):∀(l l':List Sq) (ts ts':List Tr),l.length=ts.length->yJ6 s (l++l') (ts++ts')=(yJ6 s l ts&&yJ6 s l' ts')
 | [],l',[],ts',_=>by simp[yJ6]
 | a::l,l',t::ts,ts',h=>by
  simp only[List.cons_append,yJ6,yWd s l l' ts ts' (by simpa using h),Bool.and_assoc]
 | [],_,_::_,_,h=>by simp at h
 | _::_,_,[],_,h=>by simp at h
theorem zJj {l l':List Fm}(h:fitL l)(h':fitL l'):fitL (l++l'):=λf hf=>(List.mem_append.1 hf).elim (h f) (h' f)
theorem wU4 (G:Gl gl)(T:Gt gl)(ca rule:Nat)(s:Sq)(main:Fm)(term:Tm)(name:ByteArray)(sub:List Tr)(x:IV)(hx:IsTr (.mk rule s main term name sub) x)(hs:yYm s)(hm:main.size<=1000000)(ht:term.size<=1000000)
  (hsub:∀a∈sub,yYm a.sq) (st:ISt):ICall prog gl 73 [.raw (.int .u8 ca),.cptr x] st (λr st'=>r=.raw (.int .i64 (yZn ca (.mk rule s main term name sub)))/\st'=st):=by
 obtain⟨tl,xl,tr,xr,op,fn,ta,xa,tb,xb,v,un,tu,xu,ts,xs,rfl,hru,e1,i1,e2,i2,hy,hz,e3,i3⟩:=hx.mk;have hstep:=λst=>vZe gl G T ca s _ ⟨tl,xl,tr,xr,rfl,e1,i1,e2,i2⟩ hs rule main _ hy hm term _ hz ht name st;unfold yZn;refine ICall.intro (c:=cf prog gl [] [(9,[0,1,2,3,4,5,6,7,9,10,11,12,13,14,15,16,19,8,17,18,20])]) func73 rfl (by show _<=84;simp) (by kernel_rfl) ?_;simp only[go_sem,zE,zB,zA,zL,reduceCtorEq,fits];refine (hstep _).mono ?_;rintro _ st ⟨tg,ys,rfl,he,hys,rfl⟩;generalize hq:yZv ca s rule main term name=q at hys ⊢;obtain⟨ad,er⟩:=q;simp only at hys ⊢;by_cases h0:er=0
 ·subst h0;obtain⟨hv,r,hr⟩:=xGi hq;have hfit:=xQe hr;simp only[go_sem,zE,show decide (((0:Nat):Int)=0)=true from rfl,i3.len,hys.len,fits];intro _ _;by_cases hl:sub.length=ad.length
  ·have dl:decide ((sub.length:Int)=(ad.length:Int))=true:=dEt (by omega);simp only[go_sem,zE,dl,hys.len];intro _;refine LoopC.ctr ad.length (λk fr st' ds=>yJ6 s (ad.take k) (sub.take k)=true/\fr 0=.iv (.raw (.int .u8 ca))/\fr 1=.iv (.cptr (.agg [.raw (.int .u8 rule),.sl tl xl,.sl tr xr,.raw (.int .u8 op),.raw (.string fn),.sl ta xa,.sl tb xb,.raw (.bool v),.raw (.string un),.sl tu xu,.raw (.string name),.sl ts xs]))/\fr 46=.iv (.sl tg ys)/\fr 47=.iv (.raw (.int .i64 ad.length))/\fr 48=.iv (.raw (.int .i64 k))/\st'=st/\ds=[]) ?_ ?_ ?_
   ·simp only[go_sem,zE,reduceCtorEq];simp[yJ6]
   ·rintro k fr st1 _ hlt ⟨hn,f0,f1,f46,f47,f48,rfl,rfl⟩;obtain⟨a,ha⟩:=yQ4 hlt;obtain⟨w,hkw,hw⟩:=hys.get ha;obtain⟨b,hb⟩:=yQ4 (l:=sub) (k:=k) (by omega);obtain⟨z,hkz,hz⟩:=i3.get hb;have hza:=hfit a (lMg ha);have hvl:s.l.length<=64/\s.r.length<=64:=by
     unfold yXe at hv;simp only[bAt,dTe] at hv;exact⟨hv.1.1.1.1.2,hv.1.1.1.2⟩
    obtain⟨t1,x1,t2,x2,rfl,k1,j1,k2,j2⟩:=hw;have hC1:=λst=>xVr gl s.l a.l tl t1 ⟨true,.full,1⟩ xl x1 (.inr rfl) i1 j1 (by have:=hza.2.1;omega) st;have hC2:=λst=>xVr gl s.r a.r tr t2 ⟨true,.full,1⟩ xr x2 (.inr rfl) i2 j2 (by have:=hza.2.2;omega) st;have hsb:=hsub b (lMg hb);obtain⟨br,bs,bm,bt,bn,bsub⟩:=b;obtain⟨tl',xl',tr',xr',op',fn',ta',xa',tb',xb',v',un',tu',xu',ts',xs',rfl,_,g1,m1,g2,m2,_⟩:=hz.mk;have hlen1:(ad.take k).length=(sub.take k).length:=by rw[List.length_take,List.length_take];omega
    have hpl:yYm (s.plus a):=⟨zJj hs.1 hza.1.1,zJj hs.2 hza.1.2⟩
    simp only[go_sem,zE,zB,zA,zM,zL,f1,f46,f47,f48,lt_i hlt,yQ1 he,iNn,hkw,fits,yQn];refine (hC1 _).mono ?_;rintro _ st2 ⟨t3,y1,rfl,g3,m3,rfl⟩;simp only[go_sem,zE,zA];refine (hC2 _).mono ?_;rintro _ st2 ⟨t4,y2,rfl,g4,m4,rfl⟩;simp only[go_sem,zE,zB,zA,zL,f1,yQ1 e3,iNn,hkz,fits];refine (wV6 gl G bs (s.plus a) _ _ ⟨_,_,_,_,rfl,g1,m1,g2,m2⟩ ⟨_,_,_,_,rfl,g3,m3,g4,m4⟩ hsb hpl _).mono ?_;rintro _ st2 ⟨rfl,rfl⟩;cases hw:yKm bs (s.plus a)
    ·simp only[go_sem];refine yQ0 ⟨?_,rfl⟩;have hp:yJ6 s ad sub=false:=by
      conv=>lhs;rw[<- List.take_append_drop k ad,<- List.take_append_drop k sub]
      rw[List.drop_eq_getElem_cons hlt,List.drop_eq_getElem_cons (show k<sub.length by omega),yWd s _ _ _ _ hlen1,(lGs ha).2,(lGs hb).2];simp only[yJ6,Tr.sq,hw,Bool.false_and,Bool.and_false]
     rw[if_neg (by omega),if_neg (by omega),hp];rfl
    ·simp only[go_sem,zE,reduceCtorEq,f0,f1,f46,f47,f48,yQf hlt (show ad.length<=281474976710656 by omega)];rw[yQ6 ha,yQ6 hb,yWd s _ _ _ _ hlen1,hn];simp only[yJ6,Tr.sq,hw,Bool.true_and]
   ·rintro fr st1 _ ⟨hn,f0,f1,f46,f47,f48,rfl,rfl⟩;rw[lTl,show sub.take ad.length=sub by rw[<- hl,lTl]] at hn;simp only[go_sem,f47,f48,yQs (nLi _)];refine yQ0 ⟨?_,rfl⟩;rw[if_neg (by omega),if_neg (by omega),hn];rfl
  ·have dl:decide ((sub.length:Int)=(ad.length:Int))=false:=dEf (by omega);simp only[go_sem,dl];refine yQ0 ⟨?_,rfl⟩;rw[if_neg (by omega),if_pos hl];rfl
 ·have d0:decide ((er:Int)=0)=false:=dEf (by omega);simp only[go_sem,zE,d0];refine yQ0 ⟨?_,rfl⟩;rw[if_pos h0]
end Go.Proofs.Tryz
namespace Go.Proofs.Tryz
open Go Go.Iv Go.Shelf Go.RowKit
set_option maxRecDepth 4000
variable (gl:Nat->Option IV)
mutual
theorem vZ6:∀(a b:Tm)(x:IV),IsTm a x->IsTm b x->a=b
 | .mk v n us,.mk w m ws,x,h,k=>by
  obtain⟨t,xs,rfl,_,h1⟩:=h.mk;obtain⟨t',xs',hx,_,h2⟩:=k.mk;simp only[IV.agg.injEq,List.cons.injEq,IV.raw.injEq,Value.bool.injEq,Value.string.injEq,IV.sl.injEq,and_true] at hx;obtain⟨rfl,rfl,rfl,rfl⟩:=hx;rw[xQr us ws xs h1 h2]
theorem xQr:∀(l m:List Tm)(xs:List IV),IsTms l xs->IsTms m xs->l=m
 | [],[],_,_,_=>rfl
 | [],b::m,xs,h,k=>by
  simp only[IsTms] at h k;obtain⟨y,ys,rfl,_⟩:=k;cases h
 | a::l,[],xs,h,k=>by
  simp only[IsTms] at h k;obtain⟨y,ys,rfl,_⟩:=h;cases k
 | a::l,b::m,xs,h,k=>by
  simp only[IsTms] at h k;obtain⟨y,ys,rfl,h1,h2⟩:=h;obtain⟨y',ys',he,k1,k2⟩:=k;cases he;rw[vZ6 a b y h1 k1,xQr l m ys h2 k2]
end
mutual
theorem wWm:∀(a b:Fm)(x:IV),IsFm a x->IsFm b x->a=b
 | .mk o n us sub,.mk o' m ws sub',x,h,k=>by
  obtain⟨t,xs,t2,xs2,rfl,_,_,h1,_,h2⟩:=h.mk;obtain⟨t',xs',t2',xs2',hx,_,_,k1,_,k2⟩:=k.mk;simp only[IV.agg.injEq,List.cons.injEq,IV.raw.injEq,Value.int.injEq,Value.string.injEq,IV.sl.injEq,and_true,true_and,Int.natCast_inj] at hx;obtain⟨rfl,rfl,⟨rfl,rfl⟩,rfl,rfl⟩:=hx;rw[xQr us ws xs h1 k1,wZ9 sub sub' xs2 h2 k2]
theorem wZ9:∀(l m:List Fm)(xs:List IV),IsFms l xs->IsFms m xs->l=m
 | [],[],_,_,_=>rfl
 | [],b::m,xs,h,k=>by
  simp only[IsFms] at h k;obtain⟨y,ys,rfl,_⟩:=k;cases h
 | a::l,[],xs,h,k=>by
  simp only[IsFms] at h k;obtain⟨y,ys,rfl,_⟩:=h;cases k
 | a::l,b::m,xs,h,k=>by
  simp only[IsFms] at h k;obtain⟨y,ys,rfl,h1,h2⟩:=h;obtain⟨y',ys',he,k1,k2⟩:=k;cases he;rw[wWm a b y h1 k1,wZ9 l m ys h2 k2]
end
open Classical in
noncomputable def rdF (x:IV):Fm:=if h:∃a,IsFm a x then h.choose else fm0
theorem xJy {a:Fm}{x:IV}(h:IsFm a x):rdF x=a:=by
 have he:∃a,IsFm a x:=⟨a,h⟩
 unfold rdF;rw[dif_pos he];exact wWm _ _ x he.choose_spec h
theorem xJx:∀ {l:List Fm}{xs:List IV},IsFms l xs->xs.map rdF=l
 | [],_,rfl=>rfl
 | a::l,_,⟨x,xs,rfl,hx,hl⟩=>by rw[List.map_cons,xJy hx,xJx hl]
theorem wWl:∀ {ys:List IV},(∀y∈ys,∃a,IsFm a y)->IsFms (ys.map rdF) ys
 | [],_=>rfl
 | y::ys,h=>by
  obtain⟨a,ha⟩:=h y (by simp);exact⟨y,ys,rfl,by rw[xJy ha];exact ha,wWl λz hz=>h z (by simp[hz])⟩
theorem zYo:∀ {l:List Fm}{xs:List IV},IsFms l xs->∀y∈xs,∃a,IsFm a y/\a∈l
 | [],_,rfl,y,h=>by cases h
 | a::l,_,⟨x,xs,rfl,hx,hl⟩,y,h=>by
  rcases List.mem_cons.1 h with rfl|h
  ·exact⟨a,hx,by simp⟩
  ·obtain⟨b,hb,hm⟩:=zYo hl y h;exact⟨b,hb,by simp[hm]⟩
theorem vKg (l:List Fm)(xs rest:List IV)(hx:IsFms l xs)(hne:xs≠[])(hlen:xs.length<=140737488355328)(b cap:Nat)(st:ISt)(hb:st b=some (.box (xs.flatMap IV.cells++rest))) :
  ICall prog gl 134 [.raw (.slice (some ⟨b,0,none⟩) xs.length cap),.fn (.func 135) [] []] st
   (λr st'=>r=.tup []/\∃(m:List Fm) (ys:List IV),IsFms m ys/\m.Perm l/\m.Pairwise (λx y=>¬ yXa y x<0)/\(∀y∈ys,y∈xs)/\st'=st.put b (some (.box (ys.flatMap IV.cells++rest)))):=by
 refine (xYo gl 135 ?_ xs rest b cap st hne hlen (yJv hx) hb (λx y=>yXa (rdF x) (rdF y)) (λx _=>zJw _) (λx _ y _ z _=>zYw _ _ _) (λx _ y _ z _ h1 h2 h3=>?_) (λx hxm y hym=>?_)).mono ?_
 ·exact enters_of func135 (by kernel_rfl) rfl
 ·rcases Int.lt_or_le (yXa (rdF y) (rdF x)) 0 with h|h
  ·have:=zYw _ _ _ h h3;exact h2 this
  ·have hxy:yXa (rdF x) (rdF y)=0:=by
    have:=zJv (rdF x) (rdF y);omega
   rw[(zZy _ _).1 hxy] at h3;exact h2 h3
 ·obtain⟨a,ha,_⟩:=zYo hx x hxm;obtain⟨c,hc,_⟩:=zYo hx y hym;rw[xJy ha,xJy hc];exact (xQ5 (λ_=>none) a c x y ha hc _).mono λr st' h=>h.1
 ·rintro r st' ⟨rfl,ys,hp,hpw,rfl⟩;refine⟨rfl,ys.map rdF,ys,wWl λy hy=>?_,?_,?_,λy hy=>hp.mem_iff.1 hy,rfl⟩
  ·obtain⟨a,ha,_⟩:=zYo hx y (hp.mem_iff.1 hy);exact⟨a,ha⟩
  ·rw[<- xJx hx];exact hp.map rdF
  ·exact List.pairwise_map.2 hpw
theorem wXk (t:Tag)(ht:t.cap=.nil)(st:ISt):ICall prog gl 134 [.sl t [],.fn (.func 135) [] []] st (λr st'=>r=.tup []/\st'=st):=by
 obtain⟨fs,c,es⟩:=t;obtain rfl:c=.nil:=ht;intro B X rs hg hst hv;obtain⟨r0,r1,rfl⟩:∃r0 r1,rs=[r0,r1]:=by
  match rs,hv with
  | [a,b],_=>exact⟨a,b,rfl⟩
  | [],hv=>cases hv.1
  | [_],hv=>cases hv.1
  | _::_::_::_,hv=>cases hv.1
 obtain⟨p,cap,rfl⟩:∃p cap,r0=.slice p 0 cap:=by
  have:=hv.2 0 r0 _ rfl rfl;obtain⟨a,cap,_,_,rfl,_⟩:=V.sl_inv this;exact⟨a,cap,rfl⟩
 refine Calls.mono (AnyF.slices_SortFunc_none Tryz.sortFL p cap r1 X.w) ?_;rintro e w' ⟨rfl,rfl⟩;exact⟨_,rfl,X,.tup [],rfl,hg,Ext.refl X,.tup [] [] rfl (λi r c h=>by simp at h),rfl,hst⟩
noncomputable def ddF (p:Fm):List Fm->List Fm
 | []=>[]
 | b::l=>if yXa b p=0 then ddF b l else b::ddF b l
noncomputable def dd:List Fm->List Fm
 | []=>[]
 | a::l=>a::ddF a l
theorem xVb:∀(p:Fm)(l:List Fm)(a b:Fm),(p::l).getLast?=some a->ddF p (l++[b])=ddF p l++(if yXa b a=0 then [] else [b])
 | p,[],a,b,h=>by
  simp only[List.getLast?_singleton,Option.some.injEq] at h;subst h;simp only[List.nil_append,ddF]
 | p,c::l,a,b,h=>by
  rw[List.getLast?_cons_cons] at h;simp only[List.cons_append,ddF,xVb c l a b h];split<;>rfl
theorem wGx:∀(l:List Fm)(a b:Fm),l.getLast?=some a->dd (l++[b])=dd l++(if yXa b a=0 then [] else [b])
 | p::l,a,b,h=>by simp only[List.cons_append,dd,xVb p l a b h]
theorem wZq {m:List Fm}{k:Nat}{a b:Fm}(ha:m[k]?=some a)(hb:m[k+1]?=some b):dd (m.take (k+1+1))=dd (m.take (k+1))++(if yXa b a=0 then [] else [b]):=by
 rw[yQ6 hb];exact wGx _ a b (by rw[yQ6 ha,List.getLast?_concat])
theorem wZs:∀(p:Fm)(l:List Fm),(p::l).Pairwise (λx y=>¬ yXa y x<0)->(∀f,f∈p::ddF p l↔f∈p::l)/\(p::ddF p l).Pairwise (λx y=>yXa x y<0)
 | p,[],_=>⟨λf=>Iff.rfl,List.pairwise_singleton ..⟩
 | p,b::l,h=>by
  have h1:=List.pairwise_cons.1 h;obtain⟨i1,i2⟩:=wZs b l h1.2;simp only[ddF];by_cases hc:yXa b p=0
  ·have hbp:=(zZy b p).1 hc;subst hbp;rw[if_pos hc];refine⟨λf=>?_,i2⟩;rw[i1 f];simp
  ·rw[if_neg hc];have hlt:yXa p b<0:=by
    have:=h1.1 b (by simp);have:=zJv b p;omega
   refine⟨λf=>?_,List.pairwise_cons.2 ⟨λf hf=>?_,i2⟩⟩
   ·rw[List.mem_cons,i1 f,List.mem_cons (l:=b::l)]
   ·rcases List.mem_cons.1 hf with rfl|hf
    ·exact hlt
    ·exact zYw _ _ _ hlt ((List.pairwise_cons.1 i2).1 f hf)
theorem wZr (l m:List Fm)(hp:m.Perm l)(h:m.Pairwise (λx y=>¬ yXa y x<0)):SetF l (dd m):=by
 cases m with
 | nil =>
  obtain rfl:=List.Perm.nil_eq hp;exact⟨List.Pairwise.nil,λf=>Iff.rfl⟩
 | cons a m =>
  obtain⟨h1,h2⟩:=wZs a m h;exact⟨h2,λf=>(h1 f).trans hp.mem_iff⟩
theorem rd4 {ys rest cs:List IV}(hf:∀y∈ys,y.cells.length=4)(hlen:cs.length=(ys.flatMap IV.cells++rest).length){i:Nat}{y:IV}(hy:ys[i]?=some y)(hc:∀j,i*4<=j->cs[j]?=(ys.flatMap IV.cells++rest)[j]?) :
  i*4+4<=cs.length/\(cs.drop (i*4)).take 4=y.cells:=by
 have hi:=(lGs hy).1;have h0:ys.flatMap IV.cells=(ys.take i).flatMap IV.cells++(y.cells++(ys.drop (i+1)).flatMap IV.cells):=by
  conv=>lhs;rw[<- List.take_append_drop i ys,List.drop_eq_getElem_cons hi,(lGs hy).2]
  rw[List.flatMap_append,List.flatMap_cons]
 have h1:((ys.take i).flatMap IV.cells).length=i*4:=by
  rw[yQp _ λz hz=>hf z (List.mem_of_mem_take hz),List.length_take];omega
 have hy4:=hf y (lMg hy);have hd:cs.drop (i*4)=(ys.flatMap IV.cells++rest).drop (i*4):=by
  apply List.ext_getElem?;intro j;rw[List.getElem?_drop,List.getElem?_drop,hc _ (by omega)]
 refine⟨?_,?_⟩
 ·rw[hlen,h0];simp only[lLa,h1,hy4];omega
 ·rw[hd,h0,List.append_assoc,List.drop_left' h1,List.append_assoc,List.take_left' hy4]
theorem xV3:∀ {l:List Fm}{xs:List IV}(k:Nat),IsFms l xs->IsFms (l.take k) (xs.take k)
 | [],_,k,rfl=>by simp[IsFms]
 | a::l,_,0,_=>by simp[IsFms]
 | a::l,_,k+1,⟨y,ys,rfl,hy,h⟩=>by
  rw[List.take_succ_cons,List.take_succ_cons];exact⟨y,ys.take k,rfl,hy,xV3 k h⟩
theorem st4 {cs l:List IV}{k n:Nat}(hl:l.length=n)(h:k*4+n<=cs.length):(yJn cs (k*4) l).length=cs.length/\(yJn cs (k*4) l).take (k*4)=cs.take (k*4)/\(yJn cs (k*4) l).take (k*4+n)=cs.take (k*4)++l/\∀i,k*4+n<=i->(yJn cs (k*4) l)[i]?=cs[i]?:=by
 have h1:(cs.take (k*4)).length=k*4:=by rw[List.length_take];omega
 have h2:(cs.take (k*4)++l).length=k*4+n:=by rw[lLa,h1,hl]
 unfold yJn;refine⟨?_,?_,List.take_left' h2,λi hi=>?_⟩
 ·rw[lLa,h2,List.length_drop,hl];omega
 ·rw[List.append_assoc,List.take_left' h1]
 ·rw[List.getElem?_append_right (by omega),h2,List.getElem?_drop,hl];congr 1;omega
theorem zZ0 {k n:Nat}(h:k<=n):yJ5 (some ((k:Nat):Int)) none n=some (k,n):=by
 simp only[yJ5,Option.getD_none,Option.getD_some];rw[if_pos ⟨by omega,by omega,Int.le_refl _⟩];simp
theorem xVs {k n:Nat}(h:k<=n):yJ5 none (some ((k:Nat):Int)) n=some (0,k):=by
 simp only[yJ5,Option.getD_none,Option.getD_some];rw[if_pos ⟨Int.le_refl _,by omega,by omega⟩];simp
theorem wXo (m:List Fm)(ys rest:List IV)(hx:IsFms m ys)(hlen:m.length<=1099511627776)(g cap:Nat)(hcap:m.length<=cap)(st:ISt)(hb:st g=some (.box (ys.flatMap IV.cells++rest))) :
  ICall prog gl 136 [.raw (.slice (some ⟨g,0,none⟩) m.length cap),.fn (.func 137) [] []] st
   (λr st'=>∃k cs zs,r=.raw (.slice (some ⟨g,0,none⟩) k cap)/\st'=st.put g (some (.box cs))/\cs.length=(ys.flatMap IV.cells++rest).length/\cs.take (k*4)=zs.flatMap IV.cells/\IsFms (dd m) zs/\zs.length=k/\k<=m.length/\∀z∈zs,z∈ys):=by
 have hf4:∀y∈ys,y.cells.length=4:=λy hy=>wZe (yJv hx y hy);have hyl:=hx.len;have hput:st.put g (some (.box (ys.flatMap IV.cells++rest)))=st:=yX2 hb;have same:∀k,dd (m.take k)=m.take k->k=m.length->∃k cs zs,IV.raw (.slice (some ⟨g,0,none⟩) m.length cap)=.raw (.slice (some ⟨g,0,none⟩) k cap)/\st=st.put g (some (.box cs))/\cs.length=(ys.flatMap IV.cells++rest).length/\cs.take (k*4)=zs.flatMap IV.cells/\IsFms (dd m) zs/\zs.length=k/\k<=m.length/\∀z∈zs,z∈ys:=by
  intro k hk hkl;rw[hkl,lTl] at hk;refine⟨m.length,_,ys,rfl,hput.symm,rfl,?_,by rw[hk];exact hx,hyl,Nat.le_refl _,λ_ h=>h⟩;rw[<- hyl,List.take_left' (yQp _ hf4)]
 refine ICall.intro (c:=cf prog gl [22,27,42,47] []) func136 rfl (by show _<=66;simp) (by kernel_rfl) ?_;by_cases h2:m.length<2
 ·have d2:decide (((m.length:Nat):Int)<2)=true:=dEt (by omega);simp only[go_sem,reduceCtorEq,d2];refine yQ0 (same m.length ?_ rfl);rw[lTl]
  match m,h2 with
  | [],_=>rfl
  | [a],_=>rfl
 ·have d2:decide (((m.length:Nat):Int)<2)=false:=dEf (by omega);simp only[go_sem,reduceCtorEq,d2];refine LoopC.ctr (m.length-1) (λc fr st' ds=>dd (m.take (c+1))=m.take (c+1)/\fr 0=.iv (.raw (.slice (some ⟨g,0,none⟩) m.length cap))/\fr 1=.iv (.fn (.func 137) [] [])/\fr 5=.iv (.raw (.int .i64 ((c+1:Nat):Int)))/\st'=st/\ds=[]) ?_ ?_ ?_
  ·simp only[go_sem,zE,reduceCtorEq];refine⟨?_,rfl⟩
   match m,h2 with
   | [],h=>exact absurd (show 0<2 by decide) h
   | [a],h=>exact absurd (show 1<2 by decide) h
   | a::b::l,_=>rfl
  ·rintro c fr st1 _ hlt ⟨hd,f0,f1,f5,rfl,rfl⟩;have hlt':c+1<m.length:=by omega
   obtain⟨a,ha⟩:=yQ4 (l:=m) (k:=c) (by omega);obtain⟨b,hbm⟩:=yQ4 hlt';obtain⟨x,hkx,hxa⟩:=hx.get ha;obtain⟨y,hky,hyb⟩:=hx.get hbm;have hcall:=xGx gl b a y x hyb hxa st1;obtain⟨rx1,rx2⟩:=rd4 (rest:=rest) hf4 rfl hkx (λ_ _=>rfl);obtain⟨ry1,ry2⟩:=rd4 (rest:=rest) hf4 rfl hky (λ_ _=>rfl);obtain⟨x1,x2,x3,x4,x5,x6,rfl⟩:=hxa.agg;obtain⟨y1,y2,y3,y4,y5,y6,rfl⟩:=hyb.agg;simp only[IV.cells] at rx2 ry2;have hw:IntKind.i64.wrap (((c+1:Nat):Int)-1)=(c:Nat):=by rw[w64 (by omega) (by omega)];omega
   simp only[go_sem,zE,zB,reduceCtorEq,f0,f1,f5,lt_i hlt',hw,hlt',show c<m.length by omega,iNn,hb,rx1,ry1,rx2,ry2,fits];refine hcall.mono ?_;rintro _ st1 ⟨rfl,rfl⟩;have hds:=wZq ha hbm;by_cases he:yXa b a=0
   ·rw[if_pos he,List.append_nil,hd] at hds;have hcne:¬ cap=c+1:=by omega
    simp only[go_sem,zE,reduceCtorEq,dEt he,f0,f5,zZ0 (show c+1<=m.length by omega),hcap,hcne];refine LoopC.ctr (m.length-(c+1)-1) (λj fr st' ds=>(∃k cs zs,fr 5=.iv (.raw (.int .i64 ((k:Nat):Int)))/\st'=st1.put g (some (.box cs))/\cs.length=(ys.flatMap IV.cells++rest).length/\cs.take (k*4)=zs.flatMap IV.cells/\IsFms (dd (m.take (c+1+j+1))) zs/\zs.length=k/\k<=c+1+j/\(∀z∈zs,z∈ys)/\∀i,(c+1+j)*4<=i->cs[i]?=(ys.flatMap IV.cells++rest)[i]?) /\
     fr 0=.iv (.raw (.slice (some ⟨g,0,none⟩) m.length cap))/\fr 1=.iv (.fn (.func 137) [] [])/\fr 6=.iv (.raw (.slice (some ⟨g,(c+1)*4,none⟩) (m.length-(c+1)) (cap-(c+1))))/\fr 7=.iv (.raw (.int .i64 ((j+1:Nat):Int)))/\ds=[]) ?_ ?_ ?_
    ·simp only[go_sem,zE,reduceCtorEq];refine⟨⟨c+1,ys.flatMap IV.cells++rest,ys.take (c+1),f5,(yX2 hb).symm,rfl,?_,?_,?_,Nat.le_refl _,λz hz=>List.mem_of_mem_take hz,λ_ _=>rfl⟩,f0,f1,rfl⟩
     ·conv=>lhs;rw[<- List.take_append_drop (c+1) ys]
      rw[List.flatMap_append,List.append_assoc,List.take_left' (by rw[yQp _ λz hz=>hf4 z (List.mem_of_mem_take hz),List.length_take];omega)]
     ·rw[hds];exact xV3 _ hx
     ·rw[List.length_take];omega
    ·rintro j fr st2 _ hj ⟨⟨k,cs,zs,f5,rfl,hcl,hct,hz,hzl,hk,hzm,hcs⟩,f0,f1,f6,f7,rfl⟩;obtain⟨a',ha'⟩:=yQ4 (l:=m) (k:=c+1+j) (by omega);obtain⟨b',hb'⟩:=yQ4 (l:=m) (k:=c+1+j+1) (by omega);obtain⟨x',hkx',hxa'⟩:=hx.get ha';obtain⟨y',hky',hyb'⟩:=hx.get hb';have hyb0:=hyb';have hcall':=xGx gl b' a' y' x' hyb' hxa' (st1.put g (some (.box cs)));obtain⟨rx1',rx2'⟩:=rd4 hf4 hcl hkx' hcs;obtain⟨ry1',ry2'⟩:=rd4 hf4 hcl hky' (λi hi=>hcs i (by omega));have hy4:=hf4 y' (lMg hky');obtain⟨p1,p2,p3,p4,p5,p6,rfl⟩:=hxa'.agg;obtain⟨q1,q2,q3,q4,q5,q6,rfl⟩:=hyb'.agg;simp only[IV.cells] at rx2' ry2' hy4;have hw':IntKind.i64.wrap (((j+1:Nat):Int)-1)=(j:Nat):=by rw[w64 (by omega) (by omega)];omega
     have o1:(c+1)*4+j*4=(c+1+j)*4:=by omega
     have o2:(c+1)*4+(j+1)*4=(c+1+j+1)*4:=by omega
     have hj1:j+1<m.length-(c+1):=by omega
     have hj0:j<m.length-(c+1):=by omega
     have hds':=wZq ha' hb';simp only[go_sem,zE,zB,f1,f6,f7,lt_i hj1,hj0,hj1,hw',iNn,ISt.put_same,o1,o2,rx1',ry1',rx2',ry2',fits];refine hcall'.mono ?_;rintro _ _ ⟨rfl,rfl⟩;by_cases he':yXa b' a'=0
     ·rw[if_pos he',List.append_nil] at hds';simp only[go_sem,zE,reduceCtorEq,dEt he',f0,f1,f5,f6,f7,yQf hj1 (show m.length-(c+1)<=281474976710656 by omega)];exact⟨k,cs,zs,rfl,rfl,hcl,hct,by rw[show c+1+(j+1)+1=c+1+j+1+1 by omega,hds'];exact hz,hzl,by omega,hzm,λi hi=>hcs i (by omega)⟩
     ·rw[if_neg he'] at hds';have hkm:k<m.length:=by omega
      have hk4:k*4+4<=cs.length:=by omega
      obtain⟨s1,s2,s3,s4⟩:=st4 hy4 hk4;simp only[go_sem,zE,zB,zA,reduceCtorEq,dEf he',f0,f1,f5,f6,f7,hj1,hkm,iNn,ISt.put_same,o2,ry1',ry2',hk4,fits,yQf hkm (show m.length<=281474976710656 by omega),yQf hj1 (show m.length-(c+1)<=281474976710656 by omega)];refine⟨k+1,yJn cs (k*4) [.raw (.int .u8 q1),.raw (.string q2),.sl q3 q4,.sl q5 q6],zs++[.agg [.raw (.int .u8 q1),.raw (.string q2),.sl q3 q4,.sl q5 q6]],rfl,by rw[yQ8];rfl,s1.trans hcl,?_,?_,by simp[hzl],by omega,λz hz=>by
        rcases List.mem_append.1 hz with hz|hz
        ·exact hzm z hz
        ·rw[List.mem_singleton.1 hz];exact lMg hky',λi hi=>(s4 i (by omega)).trans (hcs i (by omega))⟩
      ·rw[show (k+1)*4=k*4+4 by omega,s3,hct,List.flatMap_append];simp[IV.cells]
      ·rw[show c+1+(j+1)+1=c+1+j+1+1 by omega,hds'];exact hz.append ⟨_,_,rfl,hyb0,rfl⟩
    ·rintro fr st2 _ ⟨⟨k,cs,zs,f5,rfl,hcl,hct,hz,hzl,hk,hzm,hcs⟩,f0,f1,f6,f7,rfl⟩;have hkm:k<m.length:=by omega
     have hck:¬ cap=k:=by omega
     have hmk:¬ m.length-k=0:=by omega
     have hlen4:m.length*4<=cs.length:=by rw[hcl,lLa,yQp _ hf4];omega
     have hk4:k*4+(m.length-k)*4<=cs.length:=by omega
     obtain⟨s1,s2,s3,s4⟩:=st4 (cs:=cs) (k:=k) (l:=List.replicate ((m.length-k)*4) .junk) (List.length_replicate ..) hk4;rw[show m.length-(c+1)-1+1=m.length-(c+1) by omega] at f7;simp only[go_sem,zE,reduceCtorEq,f0,f5,f6,f7,yQs (nLi _),zZ0 (show k<=m.length by omega),xVs (show k<=cap by omega),hcap,hck,hmk,ISt.put_same,hk4,ite_self,Nat.zero_mul];rw[show c+1+(m.length-(c+1)-1)+1=m.length by omega,lTl] at hz;exact yQ0 ⟨k,yJn cs (k*4) (List.replicate ((m.length-k)*4) .junk),zs,rfl,by rw[yQ8];rfl,s1.trans hcl,s2.trans hct,hz,hzl,by omega,hzm⟩
   ·rw[if_neg he,hd] at hds;simp only[go_sem,zE,reduceCtorEq,dEf he,f0,f1,f5,yQf hlt' (show m.length<=281474976710656 by omega)];rw[hds,yQ6 hbm]
  ·rintro fr st1 _ ⟨hd,f0,f1,f5,rfl,rfl⟩;rw[show m.length-1+1=m.length by omega] at hd f5;simp only[go_sem,zE,reduceCtorEq,f0,f5,yQs (nLi _)];exact yQ0 (same m.length hd rfl)
end Go.Proofs.Tryz
namespace Go.Proofs.Tryz
open Go Go.Iv
set_option maxRecDepth 4000
variable (gl:Nat->Option IV)
open Classical in
noncomputable def setF (l:List Fm):List Fm:=if h:∃r,SetF l r then h.choose else []
theorem zXk {l r:List Fm}(h:SetF l r):setF l=r:=by
 have he:∃r,SetF l r:=⟨r,h⟩
 unfold setF;rw[dif_pos he];exact SetF.one he.choose_spec h
theorem xJu:setF []=[]:=zXk ⟨List.Pairwise.nil,λ_=>Iff.rfl⟩
noncomputable def yZt (l:List Fm):List Fm×Nat:=if l.all Fm.right then (setF (l.map zZe),0) else ([],2)
theorem xQi (t:Tag)(ht:t.cap=.nil)(st:ISt):ICall prog gl 136 [.sl t [],.fn (.func 137) [] []] st (λr st'=>(∃t',r=.sl t' []/\t'.cap=.nil)/\st'=st):=by
 obtain⟨fs,c,es⟩:=t;obtain rfl:c=.nil:=ht;refine ICall.intro (c:=cf prog gl [22,27,42,47] []) func136 rfl (by show _<=66;simp) (by kernel_rfl) ?_;simp only[go_sem,zL,reduceCtorEq,show decide (((0:Nat):Int)<2)=true from rfl];exact yQ0 ⟨⟨_,rfl,rfl⟩,rfl⟩
theorem wKi {l:List IV}(h:∀x∈l,dfr x):dfrs l:=by
 induction l with
 | nil=>trivial
 | cons x l ih=>exact⟨h x (by simp),ih λy hy=>h y (by simp[hy])⟩
theorem wJc {l m:List Fm}(hp:m.Perm l)(h:m.Pairwise (λx y=>¬ yXa y x<0))(hl:0<l.length):0<(setF l).length:=by
 rw[zXk (wZr _ m hp h)];have:=hp.length_eq
 match m,this with
 | [],e=>simp at e;omega
 | a::m,_=>simp[dd]
theorem zGr (G:Gl gl)(T:Gt gl)(l:List Fm)(tg:Tag)(xs:List IV)(htg:okEs tg 4)(hx:IsFms l xs)(hs:fitL l)(hlen:l.length<=1099511627776)(st:ISt) :
  ICall prog gl 92 [.sl tg xs] st (λr st'=>(∃t ys,r=.tup [.sl t ys,.raw (.int .i64 (yZt l).2)]/\okEs t 4/\appT (yZt l).1.length t/\IsFmsD (yZt l).1 ys)/\st'=st):=by
 refine ICall.fixN (ICall.mono (K:=λy st'=>(l.all Fm.right=false/\y=.tup [.sl ⟨true,.nil,0⟩ [],.raw (.int .i64 2)]/\st'=st)\/(l=[]/\(∃t,y=.tup [.sl t [],.raw (.int .i64 0)]/\t.cap=.nil)/\st'=st) \/
   (l.all Fm.right=true/\∃g cap k cs zs,st g=none/\k<=cap/\cap*4<=cs.length/\cs.take (k*4)=zs.flatMap IV.cells/\0<k/\IsFmsD (setF (l.map zZe)) zs/\zs.length=k/\k<=l.length/\y=.tup [.raw (.slice (some ⟨g,0,none⟩) k cap),.raw (.int .i64 0)]/\st'=st.put g (some (.box cs)))) ?_ ?_)
 ·refine ICall.intro (c:=cf prog gl [26] []) func92 rfl (by show _<=32;simp) (by kernel_rfl) ?_;simp only[go_sem,reduceCtorEq,hx.len];intro _;refine LoopC.ctr l.length (λk fr st' ds=>(l.take k).all Fm.right=true/\((k=0/\fr 4=.iv (.sl ⟨true,.nil,0⟩ [])/\st'=st)\/(0<k/\∃g cap cs zs,st g=none/\k<=cap/\cap*4<=cs.length/\cs.take (k*4)=zs.flatMap IV.cells/\IsFmsD ((l.take k).map zZe) zs/\zs.length=k/\fr 4=.iv (.raw (.slice (some ⟨g,0,none⟩) k cap))/\st'=st.put g (some (.box cs)))) /\
   fr 9=.iv (.sl tg xs)/\fr 10=.iv (.raw (.int .i64 l.length))/\fr 11=.iv (.raw (.int .i64 k))/\ds=[]) ?_ ?_ ?_
  ·simp only[go_sem,zE,zM];rfl
  ·rintro k fr st1 _ hlt ⟨hall,hor,f9,f10,f11,rfl⟩;obtain⟨a,ha⟩:=yQ4 hlt;obtain⟨y,hky,hya⟩:=hx.get ha;have ham:=lMg ha;have hcall:=wV9 gl G T a y hya (hs a ham) st1;obtain⟨y1,y2,y3,y4,y5,y6,rfl⟩:=hya.agg;simp only[go_sem,zE,zB,zA,zL,reduceCtorEq,f9,f10,f11,lt_i hlt,yQ1 htg,iNn,hky,fits];refine hcall.mono ?_;rintro _ st1 ⟨y',rfl,hyD,rfl⟩;have hy':=hyD.1;unfold yVf at hy';cases hr:a.right
   ·rw[hr] at hy';simp only[bFt,if_false] at hy';obtain⟨z1,z2,z3,z4,z5,z6,rfl⟩:=hy'.agg;unfold yVf;rw[hr];simp only[bFt,if_false];simp only[go_sem,zE,zA,zL,show decide (((2:Nat):Int)=0)=false from rfl];have hsub:subSt st st1:=by
     rcases hor with⟨_,_,h⟩|⟨_,g,cap,cs,zs,hg,_,_,_,_,_,_,h⟩
     ·rw[h];exact subSt.refl _
     ·rw[h];exact yQb hg
    exact yQa hsub (.inl ⟨List.all_eq_false.2 ⟨a,ham,by simp[hr]⟩,rfl,rfl⟩)
   ·rw[hr] at hy';simp only[if_true] at hy';rw[show (yVf a).1=zZe a by unfold yVf;rw[hr];simp] at hyD;have hy0:=hyD;obtain⟨z1,z2,z3,z4,z5,z6,rfl⟩:=hy'.agg;unfold yVf;rw[hr];simp only[if_true];have hall':(l.take (k+1)).all Fm.right=true:=by
     rw[yQ6 ha,List.all_append,hall];simp[hr]
    rcases hor with⟨rfl,f4,rfl⟩|⟨hk0,g,cap,cs,zs,hg,h1,h2,h3,hz,hzl,f4,rfl⟩
    ·simp only[go_sem,zE,zA,zM,zL,show decide (((0:Nat):Int)=0)=true from rfl,fits,f4,yQ5];intro g cap;refine yQ9 λhg=>?_;obtain⟨hg,hcap⟩:=hg;simp only[go_sem,zE,f9,f10,f11,show IntKind.i64.wrap (((0:Nat):Int)+1)=((1:Nat):Int) from rfl];have hl1:(l.take 1).map zZe=[zZe a]:=by
      have:=yQ6 ha;simp only[Nat.zero_add,List.take_zero,List.nil_append] at this;rw[this];rfl
     refine⟨by simpa using hall',.inr ⟨by omega,g,cap,_,[.agg [.raw (.int .u8 z1),.raw (.string z2),.sl z3 z4,.sl z5 z6]],hg,hcap,?_,?_,by rw[hl1];exact IsFmsD.one hy0,rfl,rfl,rfl⟩⟩
     ·simp[IV.cells];omega
     ·simp[IV.cells]
    ·simp only[go_sem,zE,zA,zM,zL,show decide (((0:Nat):Int)=0)=true from rfl,fits,f4,yQ5];have hkk:k<=1099511627776:=by omega
     refine yGc _ _ _ (ISt.put_same ..) (by simp[fits,IV.one]) ⟨by show (_+1)*72<=_;omega,by show _+1<=_;omega⟩ ⟨h1,h2⟩ (by simp[IV.cells]) ?_;intro g' cap' cs' hg' q1 q2 q3;have hst':((st.put g (some (.box cs))).put g none).put g' (some (.box cs'))=st.put g' (some (.box cs')):=by
      funext c;simp only[ISt.put_apply];split
      ·rfl
      ·split
       ·subst_vars;exact hg.symm
       ·rfl
     have hg1:st g'=none:=by
      rcases hg' with rfl|h
      ·exact hg
      ·rw[ISt.put_apply] at h;split at h
       ·cases h
       ·exact h
     simp only[go_sem,zE,f9,f10,f11,yQf hlt (show l.length<=281474976710656 by omega)];refine⟨hall',.inr ⟨by omega,g',cap',cs',zs++[.agg [.raw (.int .u8 z1),.raw (.string z2),.sl z3 z4,.sl z5 z6]],hg1,q1,q2,?_,?_,by simp[hzl],rfl,hst'⟩⟩
     ·rw[List.flatMap_append,<- h3];exact q3
     ·rw[yQ6 ha,List.map_append];exact hz.append (IsFmsD.one hy0)
  ·rintro fr st1 _ ⟨hall,hor,f9,f10,f11,rfl⟩;rw[lTl] at hall hor;rcases hor with⟨h0,f4,rfl⟩|⟨hk0,g,cap,cs,zs,hg,h1,h2,h3,hz,hzl,f4,rfl⟩
   ·simp only[go_sem,zE,zA,f4,f10,f11,yQs (nLi _)];refine (wXk gl _ rfl _).mono ?_;rintro _ _ ⟨rfl,rfl⟩;simp only[go_sem,zE,zA,f4];refine (xQi gl _ rfl _).mono ?_;rintro _ _ ⟨⟨t',rfl,ht'⟩,rfl⟩;simp only[go_sem,zE];exact yQ0 (.inr (.inl ⟨List.eq_nil_of_length_eq_zero h0,⟨t',rfl,ht'⟩,rfl⟩))
   ·have hcs:cs=zs.flatMap IV.cells++cs.drop (l.length*4):=by rw[<- h3,List.take_append_drop]
    have hzl':=hz.len;have hsort:=vKg gl (l.map zZe) zs (cs.drop (l.length*4)) hz.1 (by rintro rfl;simp at hzl;omega) (by omega) g cap (st.put g (some (.box cs))) (by rw[ISt.put_same,<- hcs]);rw[hzl] at hsort;simp only[go_sem,zE,zA,f4,f10,f11,yQs (nLi _)];refine hsort.mono ?_;rintro _ _ ⟨rfl,m,ys,hm,hperm,hpw,hym,rfl⟩;have hml:m.length=l.length:=by rw[hperm.length_eq,List.length_map]
    have hcom:=wXo gl m ys (cs.drop (l.length*4)) hm (by omega) g cap (by omega) ((st.put g (some (.box cs))).put g (some (.box (ys.flatMap IV.cells++cs.drop (l.length*4))))) (ISt.put_same ..);rw[hml] at hcom;simp only[go_sem,zE,zA,f4];refine hcom.mono ?_;rintro _ _ ⟨k,cs2,zs2,rfl,rfl,hl2,ht2,hz2,hzl2,hk2,hzm2⟩;rw[yQ8,yQ8];simp only[go_sem,zE];have hyl:(ys.flatMap IV.cells).length=l.length*4:=by rw[yQp _ λy hy=>wZe (yJv hm y hy),hm.len,hml]
    rw[lLa,hyl,List.length_drop] at hl2;exact yQ0 (.inr (.inr ⟨hall,g,cap,k,cs2,zs2,hg,by omega,by omega,ht2,by
     have h1:=wJc hperm hpw (by rw[List.length_map];exact hk0);rw[zXk (wZr _ m hperm hpw),<- hz2.len,hzl2] at h1;exact h1,by rw[zXk (wZr _ m hperm hpw)];exact⟨hz2,wKi λz hz'=>xVa hz.2 (hym z (hzm2 z hz'))⟩,hzl2,hk2,rfl,rfl⟩))
 ·rintro y st' (⟨ha,rfl,rfl⟩|⟨rfl,⟨t,rfl,ht⟩,rfl⟩|⟨ha,g,cap,k,cs,zs,hg,hc1,hc2,hct,hk0,hz,hzl,hkl,rfl,rfl⟩)
  ·have hn:yZt l=([],2):=by unfold yZt;rw[ha];rfl
   exact .inl ⟨⟨_,_,by rw[hn];rfl,.inl rfl,.inl rfl,by rw[hn];exact IsFmsD.nil⟩,rfl⟩
  ·have hn:yZt []=([],0):=by unfold yZt;simp only[List.all_nil,if_true,List.map_nil,xJu]
   exact .inl ⟨⟨_,_,by rw[hn];rfl,.inl ht,.inl ht,by rw[hn];exact IsFmsD.nil⟩,rfl⟩
  ·have hn:yZt l=(setF (l.map zZe),0):=by unfold yZt;rw[ha];rfl
   exact .inr ⟨g,k,cap,cs,4,zs,_,hg,rfl,rfl,hzl,by omega,hc1,hc2,hct,λz hz'=>wZe (yJv hz.1 z hz'),⟨_,_,by rw[hn];rfl,.inr rfl,.inr ⟨by rw[hn];simp only;rw[<- hz.len,hzl];exact hk0,rfl,g,rfl⟩,by rw[hn];exact hz⟩,rfl⟩
noncomputable def SetS (s:Sq):Sq×Nat :=
 if (yZt s.l).2≠0 then (⟨[],[]⟩,(yZt s.l).2) else if (yZt s.r).2≠0 then (⟨[],[]⟩,(yZt s.r).2) else (⟨(yZt s.l).1,(yZt s.r).1⟩,0)
theorem uWk (G:Gl gl)(T:Gt gl)(s:Sq)(x:IV)(hx:IsSq s x)(hs:yYm s)(hl:s.l.length<=1099511627776/\s.r.length<=1099511627776)(st:ISt) :
  ICall prog gl 42 [x] st (λr st'=>(∃y,r=.tup [y,.raw (.int .i64 (SetS s).2)]/\IsSqD (SetS s).1 y)/\st'=st):=by
 obtain⟨t1,x1,t2,x2,rfl,e1,i1,e2,i2⟩:=hx;have h1:=λst=>zGr gl G T s.l t1 x1 e1 i1 hs.1 hl.1 st;have h2:=λst=>zGr gl G T s.r t2 x2 e2 i2 hs.2 hl.2 st;unfold SetS;refine iI func42 ?_;simp only[go_sem,zE,zA];refine (h1 _).mono ?_;rintro _ st ⟨⟨t3,y1,rfl,e3,a3,j1⟩,rfl⟩;by_cases q1:(yZt s.l).2=0
 ·rw[if_neg (by omega)];simp only[go_sem,zE,zA,q1,show decide (((0:Nat):Int)=0)=true from rfl];refine (h2 _).mono ?_;rintro _ st ⟨⟨t4,y2,rfl,e4,a4,j2⟩,rfl⟩;by_cases q2:(yZt s.r).2=0
  ·rw[if_neg (by omega)];simp only[go_sem,zE,zA,zL,q2,show decide (((0:Nat):Int)=0)=true from rfl,fits];exact yQ0 ⟨⟨_,rfl,_,_,_,_,rfl,e3,a3,j1,e4,a4,j2⟩,rfl⟩
  ·rw[if_pos q2];simp only[go_sem,zE,zA,zL,show decide ((((yZt s.r).2:Nat):Int)=0)=false from dEf (by omega)];exact yQ0 ⟨⟨_,rfl,_,_,_,_,rfl,.inl rfl,.inl rfl,IsFmsD.nil,.inl rfl,.inl rfl,IsFmsD.nil⟩,rfl⟩
 ·rw[if_pos q1];simp only[go_sem,zE,zA,zL,show decide ((((yZt s.l).2:Nat):Int)=0)=false from dEf (by omega)];exact yQ0 ⟨⟨_,rfl,_,_,_,_,rfl,.inl rfl,.inl rfl,IsFmsD.nil,.inl rfl,.inl rfl,IsFmsD.nil⟩,rfl⟩
theorem uWl (G:Gl gl)(T:Gt gl)(s:Sq)(x:IV)(hx:IsSq s x)(hs:yYm s)(hl:s.l.length<=1099511627776/\s.r.length<=1099511627776)(st:ISt) :
  ICall prog gl 42 [x] st (λr st'=>(∃y,r=.tup [y,.raw (.int .i64 (SetS s).2)]/\IsSq (SetS s).1 y)/\st'=st) :=
 (uWk gl G T s x hx hs hl st).mono λr st' ⟨⟨y,h1,h2⟩,h3⟩=>⟨⟨y,h1,h2.w⟩,h3⟩
theorem zYn:∀ {l:List Fm}{c:Nat},(∀f∈l,f.size<=c)->yQ7 l<=l.length*c
 | [],c,_=>by simp[yQ7]
 | a::l,c,h=>by
  have h1:=h a (by simp);have h2:=zYn (l:=l) λf hf=>h f (by simp[hf]);rw[List.length_cons,Nat.succ_mul];simp only[yQ7];omega
def yXq (ca:Nat)(s m:Sq):Sq:=⟨s.l++m.l,if ca≠2\/m.r.length=0 then s.r++m.r else m.r⟩
def okI (ca:Nat)(s m:Sq):Bool:=decide ((yXq ca s m).l.length<=64)&&decide ((yXq ca s m).r.length<=64)
noncomputable def xJ2 (ca:Nat)(s:Sq)(rule:Nat)(main:Fm)(term:Tm)(name:ByteArray):List Sq×Nat :=
 if !yKf ca then ([],2) else if (yZv ca s rule main term name).2≠0 then ([],(yZv ca s rule main term name).2)
 else if (yZv ca s rule main term name).1.all (okI ca s) then ((yZv ca s rule main term name).1.map (yXq ca s),0) else ([],5)
theorem wGh {c:Prop} [Decidable c]{A B:List Sq}(h1:A.length<=2)(h2:B.length<=2):(if c then A else B).length<=2:=by split<;>assumption
theorem xVm (ca rule:Nat)(main a b:Fm):(addS ca rule main a b).length<=2:=by
 unfold addS
 repeat' apply wGh
 all_goals first|exact Nat.zero_le _|exact Nat.le_refl 2|exact Nat.le_succ 1
theorem wX6 {ca rule:Nat}{r:Rw}{main:Fm}{term:Tm}{name:ByteArray}{ad:List Sq}(h:yXw ca rule r main term name=(ad,0)):ad.length<=2:=by
 unfold yXw at h;by_cases hc:(!fmB ca main || (decide (r.op≠0)&&decide (main.op≠r.op)))=true
 ·rw[if_pos hc] at h;cases (Prod.mk.inj h).2
 ·rw[if_neg hc] at h;by_cases h0:r.asks=0
  ·simp only[if_pos h0] at h;rw[<- (Prod.mk.inj h).1];exact xVm ..
  ·simp only[if_neg h0] at h;generalize (if r.asks=2 then Tm.mk true name [] else term)=t at h;by_cases h1:(!t.ok)=true
   ·simp only[if_pos h1] at h;cases (Prod.mk.inj h).2
   ·simp only[if_neg h1] at h;by_cases h2:(yZf ((main.subs[0]?).getD fm0) [(main.nm,t)]).2≠0
    ·simp only[if_pos h2] at h;cases (Prod.mk.inj h).2
    ·simp only[if_neg h2] at h;rw[<- (Prod.mk.inj h).1];exact xVm ..
theorem xUc {st st' S0:ISt}{tg:Tag}{n s:Nat}(h:own st tg n s S0)(hs:subSt st st'):own st' tg n s S0:=h.mono λg hg _=>hs g _ hg
theorem vKq (G:Gl gl)(T:Gt gl)(ca:Nat)(s:Sq)(x:IV)(hx:IsSq s x)(hs:yYm s)(rule:Nat)(main:Fm)(y:IV)(hy:IsFm main y)(hm:main.size<=1000000)(term:Tm)(z:IV)(hz:IsTm term z)(ht:term.size<=1000000)(name:ByteArray)(st:ISt) :
  ICall prog gl 41 [.raw (.int .u8 ca),x,.raw (.int .u8 rule),y,z,.raw (.string name)] st (AdRD st (xJ2 ca s rule main term name)):=by
 have hstep:=λst=>wVu gl G T ca s x hx hs rule main y hy hm term z hz ht name st;have hkn:=λst=>xX3 gl ca st;obtain⟨t1,x1,t2,x2,rfl,e1,i1,e2,i2⟩:=hx;obtain⟨o3,n3,t3,x3,t4,x4,rfl⟩:=hy.agg;obtain⟨v,un,tz,xz,rfl⟩:=wJ3 hz;unfold xJ2;refine ICall.intro (c:=cf prog gl [] [(10,[0,1,3,4,6,7,9,2,5,8,10]),(12,[0,1,3,4,2,5,6,7])]) func41 rfl (by show _<=82;simp) (by kernel_rfl) ?_;simp only[go_sem,zE,zA,reduceCtorEq];refine (hkn _).mono ?_;rintro _ st ⟨rfl,rfl⟩;cases hk:yKf ca
 ·simp only[go_sem,zE];exact yQ0 ⟨_,_,rfl,.inl rfl,.inl rfl,rfl,rfl⟩
 simp only[go_sem,zE,zA,zL,reduceCtorEq];refine (hstep _).mono ?_;rintro _ st ⟨tg,ys,rfl,he,hap,hysD,rfl⟩;have hys:=hysD.w;generalize hq:yZv ca s rule main term name=q at hysD hys ⊢;obtain⟨ad,er⟩:=q;simp only at hysD hys ⊢;by_cases h0:er=0
 ·subst h0;obtain⟨hv,r,hr⟩:=xGi hq;have hfit:=xQe hr;have hal2:=wX6 hr;have hvl:s.l.length<=64/\s.r.length<=64:=by
   unfold yXe at hv;simp only[bAt,dTe] at hv;exact⟨hv.1.1.1.1.2,hv.1.1.1.2⟩
  have hF1:=λst=>xXf gl s.l t1 x1 e1 i1 (by have:=zYn hs.1;omega) st;have hF2:=λst=>xXf gl s.r t2 x2 e2 i2 (by have:=zYn hs.2;omega) st;simp only[if_false,ne_eq,nTf];simp only[go_sem,zE,show decide (((0:Nat):Int)=0)=true from rfl,hys.len];intro hal;refine LoopC.ctr ad.length (λk fr st' ds=>(ad.take k).all (okI ca s)=true/\(∃tg' zs,fr 16=.iv (.sl tg' zs)/\IsSqsD ((ad.take k).map (yXq ca s)) zs/\appT k tg'/\own st' tg' k 2 st/\subSt st st')/\fr 0=.iv (.raw (.int .u8 ca))/\fr 7=.box [.sl t1 x1,.sl t2 x2] /\
   fr 36=.iv (.sl tg ys)/\fr 37=.iv (.raw (.int .i64 ad.length))/\fr 38=.iv (.raw (.int .i64 k))/\ds=[]) ?_ ?_ ?_
  ·simp only[go_sem,zE,reduceCtorEq];exact⟨⟨_,_,rfl,rfl,.inl rfl,.inl ⟨rfl,rfl⟩,subSt.refl _⟩,rfl⟩
  ·rintro k fr st1 _ hlt ⟨hall,⟨tgo,zs,f16,hzs,hapo,hown,hsub⟩,f0,f7,f36,f37,f38,rfl⟩;obtain⟨a,ha⟩:=yQ4 hlt;obtain⟨w,hkw,hw⟩:=hys.get ha;have hza:=hfit a (lMg ha);obtain⟨_,e1',hwD⟩:=hysD.mem hkw;obtain rfl:=Option.some.inj (ha.symm.trans e1');obtain⟨t5,x5,t6,x6,rfl,k5,a5,j5D,k6,a6,j6D⟩:=hwD;have j5:=j5D.1;have j6:=j6D.1;simp only[go_sem,zE,zB,zA,zL,f7,f36,f37,f38,lt_i hlt,yQ1 he,iNn,hkw,fits];refine (hF1 _).mono ?_;rintro _ st2 ⟨t7,y7,rfl,k7,a7,hy7,hown7,hsub7⟩;simp only[go_sem,zE,zA];refine yGb hown7 hy7.len j5.len hsub7 rfl (List.all_eq_true.2 (yJv j5)) (by show _*72<=_;have:=hza.2.1;omega) (by have:=hza.2.1;omega) λt8 st3 hown8 hsub8 _ a8=>?_;obtain⟨L,hL⟩:∃L,L=y7++x5:=⟨_,rfl⟩
   have hLD:IsFmsD (yXq ca s a).l L:=hL▸hy7.append j5D;have hLs:=hLD.1;have aL:appT (yXq ca s a).l.length t8:=(a8 a7.1).to (by show (s.l++a.l).length=_;rw[lLa]);have tL:=hown8.es;rw[<- hL];by_cases hca:ca=2
   ·have dca:decide ((ca:Int)=2)=true:=dEt (by omega);by_cases hr0:a.r.length=0
    ·simp only[go_sem,zE,zA,zL,reduceCtorEq,f0,f7,fits,dca,j6.len,hr0,show decide (((0:Nat):Int)=0)=true from rfl];refine (hF2 _).mono ?_;rintro _ st4 ⟨t9,y9,rfl,k9,a9,hy9,hown9,hsub9⟩;simp only[go_sem,zE,zA];refine yGb hown9 hy9.len j6.len hsub9 rfl (List.all_eq_true.2 (yJv j6)) (by show _*72<=_;have:=hza.2.2;omega) (by have:=hza.2.2;omega) λt10 st5 hown10 hsub10 _ a10=>?_;obtain⟨R,hR⟩:∃R,R=y9++x6:=⟨_,rfl⟩
     have hRD:IsFmsD (yXq ca s a).r R:=by rw[hR];unfold yXq;rw[if_pos (by omega)];exact hy9.append j6D
     have hRs:=hRD.1;have aR:appT (yXq ca s a).r.length t10:=(a10 a9.1).to (by unfold yXq;rw[if_pos (by omega),lLa]);rw[<- hR];have hown':=xUc hown (hsub8.trans hsub10);have hallA:∀(h:okI ca s a=false),ad.all (okI ca s)=false:=λh=>List.all_eq_false.2 ⟨a,lMg ha,by rw[h];simp⟩;by_cases hl64:(yXq ca s a).l.length<=64
     ·have dl:decide ((64:Int)<(((yXq ca s a).l.length:Nat):Int))=false:=dEf (by omega);by_cases hr64:(yXq ca s a).r.length<=64
      ·have dr:decide ((64:Int)<(((yXq ca s a).r.length:Nat):Int))=false:=dEf (by omega);have hok:okI ca s a=true:=by unfold okI;rw[dEt hl64,dEt hr64];rfl
       simp only[go_sem,zE,zA,zM,zL,f16,fits,hLs.len,hRs.len,dl,dr,yQ5];intros;refine yXl hown' (by rw[hzs.w.len,List.length_map,List.length_take];omega) (hsub.trans (hsub8.trans hsub10)) rfl (by simp[fits,IV.one]) (by simp only;omega) (by omega) λtg2 st6 hown2 hsub4 _ hap2=>?_;simp only[go_sem,zE,reduceCtorEq,f0,f7,f36,f37,f38,yQf hlt (show ad.length<=281474976710656 by omega)];refine⟨by rw[yQ6 ha,List.all_append,hall];simp[hok],tg2,_,rfl,?_,hap2,hown2,hsub4⟩;rw[yQ6 ha,List.map_append];exact hzs.append ⟨_,_,rfl,⟨_,_,_,_,rfl,tL,aL,hLD,hown10.es,aR,hRD⟩,rfl⟩
      ·have dr:decide ((64:Int)<(((yXq ca s a).r.length:Nat):Int))=true:=dEt (by omega);simp only[go_sem,zE,zA,zL,hLs.len,hRs.len,dl,dr];intros;refine yQa (hsub.trans (hsub8.trans hsub10)) ?_;rw[hallA (by unfold okI;rw[dEf hr64,Bool.and_false])];exact⟨_,_,rfl,.inl rfl,.inl rfl,rfl,rfl⟩
     ·have dl:decide ((64:Int)<(((yXq ca s a).l.length:Nat):Int))=true:=dEt (by omega);simp only[go_sem,zE,zA,zL,hLs.len,dl];intros;refine yQa (hsub.trans (hsub8.trans hsub10)) ?_;rw[hallA (by unfold okI;rw[dEf hl64,Bool.false_and])];exact⟨_,_,rfl,.inl rfl,.inl rfl,rfl,rfl⟩
    ·simp only[go_sem,zE,zA,zL,reduceCtorEq,f0,fits,dca,j6.len,show decide (((a.r.length:Nat):Int)=0)=false from dEf (by omega),hLs.len];intros;have hRD:IsFmsD (yXq ca s a).r x6:=by unfold yXq;rw[if_neg (by omega)];exact j6D
     have hRs:=hRD.1;have aR:appT (yXq ca s a).r.length t6:=a6.to (by unfold yXq;rw[if_neg (by omega)]);have hown':=xUc hown hsub8;have hallA:∀(h:okI ca s a=false),ad.all (okI ca s)=false:=λh=>List.all_eq_false.2 ⟨a,lMg ha,by rw[h];simp⟩;by_cases hl64:(yXq ca s a).l.length<=64
     ·have dl:decide ((64:Int)<(((yXq ca s a).l.length:Nat):Int))=false:=dEf (by omega);by_cases hr64:(yXq ca s a).r.length<=64
      ·have dr:decide ((64:Int)<(((yXq ca s a).r.length:Nat):Int))=false:=dEf (by omega);have hok:okI ca s a=true:=by unfold okI;rw[dEt hl64,dEt hr64];rfl
       simp only[go_sem,zE,zA,zM,zL,f16,fits,hRs.len,dl,dr,yQ5];intros;refine yXl hown' (by rw[hzs.w.len,List.length_map,List.length_take];omega) (hsub.trans hsub8) rfl (by simp[fits,IV.one]) (by simp only;omega) (by omega) λtg2 st6 hown2 hsub4 _ hap2=>?_;simp only[go_sem,zE,reduceCtorEq,f0,f7,f36,f37,f38,yQf hlt (show ad.length<=281474976710656 by omega)];refine⟨by rw[yQ6 ha,List.all_append,hall];simp[hok],tg2,_,rfl,?_,hap2,hown2,hsub4⟩;rw[yQ6 ha,List.map_append];exact hzs.append ⟨_,_,rfl,⟨_,_,_,_,rfl,tL,aL,hLD,k6,aR,hRD⟩,rfl⟩
      ·have dr:decide ((64:Int)<(((yXq ca s a).r.length:Nat):Int))=true:=dEt (by omega);simp only[go_sem,zE,hRs.len,dl,dr];intros;refine yQa (hsub.trans hsub8) ?_;rw[hallA (by unfold okI;rw[dEf hr64,Bool.and_false])];exact⟨_,_,rfl,.inl rfl,.inl rfl,rfl,rfl⟩
     ·have dl:decide ((64:Int)<(((yXq ca s a).l.length:Nat):Int))=true:=dEt (by omega);simp only[go_sem,zE,dl];intros;refine yQa (hsub.trans hsub8) ?_;rw[hallA (by unfold okI;rw[dEf hl64,Bool.false_and])];exact⟨_,_,rfl,.inl rfl,.inl rfl,rfl,rfl⟩
   ·have dca:decide ((ca:Int)=2)=false:=dEf (by omega);simp only[go_sem,zE,zA,zL,reduceCtorEq,f0,f7,fits,dca];refine (hF2 _).mono ?_;rintro _ st4 ⟨t9,y9,rfl,k9,a9,hy9,hown9,hsub9⟩;simp only[go_sem,zE,zA];refine yGb hown9 hy9.len j6.len hsub9 rfl (List.all_eq_true.2 (yJv j6)) (by show _*72<=_;have:=hza.2.2;omega) (by have:=hza.2.2;omega) λt10 st5 hown10 hsub10 _ a10=>?_;obtain⟨R,hR⟩:∃R,R=y9++x6:=⟨_,rfl⟩
    have hRD:IsFmsD (yXq ca s a).r R:=by rw[hR];unfold yXq;rw[if_pos (by omega)];exact hy9.append j6D
    have hRs:=hRD.1;have aR:appT (yXq ca s a).r.length t10:=(a10 a9.1).to (by unfold yXq;rw[if_pos (by omega),lLa]);rw[<- hR];have hown':=xUc hown (hsub8.trans hsub10);have hallA:∀(h:okI ca s a=false),ad.all (okI ca s)=false:=λh=>List.all_eq_false.2 ⟨a,lMg ha,by rw[h];simp⟩;by_cases hl64:(yXq ca s a).l.length<=64
    ·have dl:decide ((64:Int)<(((yXq ca s a).l.length:Nat):Int))=false:=dEf (by omega);by_cases hr64:(yXq ca s a).r.length<=64
     ·have dr:decide ((64:Int)<(((yXq ca s a).r.length:Nat):Int))=false:=dEf (by omega);have hok:okI ca s a=true:=by unfold okI;rw[dEt hl64,dEt hr64];rfl
      simp only[go_sem,zE,zA,zM,zL,f16,fits,hLs.len,hRs.len,dl,dr,yQ5];intros;refine yXl hown' (by rw[hzs.w.len,List.length_map,List.length_take];omega) (hsub.trans (hsub8.trans hsub10)) rfl (by simp[fits,IV.one]) (by simp only;omega) (by omega) λtg2 st6 hown2 hsub4 _ hap2=>?_;simp only[go_sem,zE,reduceCtorEq,f0,f7,f36,f37,f38,yQf hlt (show ad.length<=281474976710656 by omega)];refine⟨by rw[yQ6 ha,List.all_append,hall];simp[hok],tg2,_,rfl,?_,hap2,hown2,hsub4⟩;rw[yQ6 ha,List.map_append];exact hzs.append ⟨_,_,rfl,⟨_,_,_,_,rfl,tL,aL,hLD,hown10.es,aR,hRD⟩,rfl⟩
     ·have dr:decide ((64:Int)<(((yXq ca s a).r.length:Nat):Int))=true:=dEt (by omega);simp only[go_sem,zE,zA,zL,hLs.len,hRs.len,dl,dr];intros;refine yQa (hsub.trans (hsub8.trans hsub10)) ?_;rw[hallA (by unfold okI;rw[dEf hr64,Bool.and_false])];exact⟨_,_,rfl,.inl rfl,.inl rfl,rfl,rfl⟩
    ·have dl:decide ((64:Int)<(((yXq ca s a).l.length:Nat):Int))=true:=dEt (by omega);simp only[go_sem,zE,zA,zL,hLs.len,dl];intros;refine yQa (hsub.trans (hsub8.trans hsub10)) ?_;rw[hallA (by unfold okI;rw[dEf hl64,Bool.false_and])];exact⟨_,_,rfl,.inl rfl,.inl rfl,rfl,rfl⟩
  ·rintro fr st1 _ ⟨hall,⟨tgo,zs,f16,hzs,hapo,hown,hsub⟩,f0,f7,f36,f37,f38,rfl⟩;rw[lTl] at hall hzs;simp only[go_sem,zE,f16,f37,f38,yQs (nLi _)];rw[if_pos hall];exact yQa hsub ⟨_,_,rfl,hown.es,hapo.to (by rw[List.length_map]),hzs,rfl⟩
 ·have d0:decide ((er:Int)=0)=false:=dEf (by omega);simp only[go_sem,zE,d0];rw[if_pos h0];exact yQ0 ⟨_,_,rfl,.inl rfl,.inl rfl,rfl,rfl⟩
theorem wWw (G:Gl gl)(T:Gt gl)(ca:Nat)(s:Sq)(x:IV)(hx:IsSq s x)(hs:yYm s)(rule:Nat)(main:Fm)(y:IV)(hy:IsFm main y)(hm:main.size<=1000000)(term:Tm)(z:IV)(hz:IsTm term z)(ht:term.size<=1000000)(name:ByteArray)(st:ISt) :
  ICall prog gl 41 [.raw (.int .u8 ca),x,.raw (.int .u8 rule),y,z,.raw (.string name)] st (AdR st (xJ2 ca s rule main term name)) :=
 (vKq gl G T ca s x hx hs rule main y hy hm term z hz ht name st).mono AdRD.w
