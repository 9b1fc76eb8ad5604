/- Walks: sequents of a calculus; free vari -/
import Derived.Test.YtakbihknkdpmgaaGreatDoorQA
import Derived.Test.YtakbihknkdpmgaaGreatDoorKD
import Derived.Shelf.SlSortCmp.NoneTotal
import Derived.Test.YtakbihknkdpmgaaGreatDoorLE
set_option linter.all false
open Nat renaming reduceEqDiff → zE,reduceBEq → zB,reduceAdd → zA,reduceMul → zM,reduceSub → zS,reduceLeDiff → zL
namespace Go.Proofs.Tryz
open Go Go.Iv
set_option maxRecDepth 4000
variable (gl:Nat->Option IV)
noncomputable def rB (ca:Nat)(a0 f:Fm):Bool:=fmB ca f&&(decide (ca≠2) || eqF f a0)
theorem Er (ca:Nat)(a0:Fm):∀l:List Fm,l.all (rB ca a0)=(l.all (fmB ca)&&(decide (ca≠2) || l.all λf=>eqF f a0))
 | []=>by simp
 | f::l=>by
  simp only[List.all_cons,Er ca a0 l,rB];cases fmB ca f<;>cases l.all (fmB ca)<;>cases decide (ca≠2)<;>simp
theorem M1 (ca:Nat)(s:Sq):ev ca s=(gv ca&&decide (s.l.length<=64)&&decide (s.r.length<=64)&&s.l.all (fmB ca)&&s.r.all (rB ca (s.r.headD fm0))):=by
 rw[Er];unfold ev uE;cases s.r with
 | nil=>simp
 | cons a l=>simp only[List.headD_cons,Bool.and_assoc]
theorem yS (G:Gl gl)(ca:Nat)(s:Sq)(x:IV)(hx:IsSq s x)(hs:fW s)(st:ISt):ICall prog gl 66 [.raw (.int .u8 ca),x] st (λr st'=>r=.raw (.bool (ev ca s))/\st'=st):=by
 obtain⟨l,r⟩:=s;obtain⟨t1,x1,t2,x2,rfl,e1,i1,e2,i2⟩:=hx;obtain⟨hl,hr⟩:=hs;simp only at i1 i2 hl hr;rw[M1];simp only;refine iI func66 ?_;simp only[go_sem,zA,reduceCtorEq];refine (yP gl ca _).mono ?_;rintro _ st ⟨rfl,rfl⟩;cases hk:gv ca
 ·simp only[go_sem,zE];exact c_ ⟨by simp,rfl⟩
 by_cases h1:l.length<=64
 case neg =>
  have e:decide ((64:Int)<(l.length:Int))=true:=dEt (by omega);simp only[go_sem,zE,i1.len,e];intro _;exact c_ ⟨by simp[h1],rfl⟩
 by_cases h2:r.length<=64
 case neg =>
  have e:decide ((64:Int)<(l.length:Int))=false:=dEf (by omega);have e':decide ((64:Int)<(r.length:Int))=true:=dEt (by omega);simp only[go_sem,zE,i1.len,i2.len,e,e'];intro _ _;exact c_ ⟨by simp[h2],rfl⟩
 have e:decide ((64:Int)<(l.length:Int))=false:=dEf (by omega);have e':decide ((64:Int)<(r.length:Int))=false:=dEf (by omega);simp only[go_sem,zE,i1.len,i2.len,e,e'];intros;refine dj l.length (λk fr st' ds=>(l.take k).all (fmB ca)=true/\fr 0=.iv (.raw (.int .u8 ca))/\fr 3=.box [.sl t1 x1,.sl t2 x2]/\fr 25=.iv (.sl t1 x1)/\fr 26=.iv (.raw (.int .i64 l.length))/\fr 27=.iv (.raw (.int .i64 k))/\st'=st/\ds=[]) ?_ ?_ ?_
 ·simp only[go_sem,zE,reduceCtorEq]
  first|rfl|exact⟨rfl,rfl⟩
 ·rintro k fr st1 _ hlt ⟨hn,f0,f3,f25,f26,f27,rfl,rfl⟩;obtain⟨a,ha⟩:=dB hlt;obtain⟨y,hky,hy⟩:=i1.get ha;have hcall:=yQ gl G ca a y hy (hl a (lMg ha)) st1;obtain⟨o5,n5,t5,x5,t6,x6,rfl⟩:=hy.agg;simp only[go_sem,zE,zB,zA,zL,reduceCtorEq,f0,f25,f26,f27,lt_i hlt,dz e1,iNn,hky,fits];refine hcall.mono ?_;rintro _ _ ⟨rfl,rfl⟩;cases hr:fmB ca a
  ·simp only[go_sem];refine c_ ⟨?_,rfl⟩;have:l.all (fmB ca)=false:=List.all_eq_false.2 ⟨a,lMg ha,by simp[hr]⟩;simp[this]
  ·simp only[go_sem,zE,reduceCtorEq,f0,f3,f25,f26,f27,dC hlt (show l.length<=281474976710656 by omega)];rw[dE ha,List.all_append,hn];simp[hr]
 ·rintro fr st1 _ ⟨hn,f0,f3,f25,f26,f27,rfl,rfl⟩;rw[lTl] at hn;simp only[go_sem,zE,f3,f26,f27,i2.len,dF (nLi _)];intro _;refine dj r.length (λk fr st' ds=>(r.take k).all (rB ca (r.headD fm0))=true/\fr 0=.iv (.raw (.int .u8 ca))/\fr 3=.box [.sl t1 x1,.sl t2 x2]/\fr 37=.iv (.sl t2 x2)/\fr 38=.iv (.raw (.int .i64 r.length))/\fr 39=.iv (.raw (.int .i64 k))/\st'=st1/\ds=[]) ?_ ?_ ?_
  ·simp only[go_sem,zE,reduceCtorEq,f0,f3]
   first|rfl|exact⟨rfl,rfl⟩
  ·rintro k fr st2 _ hlt ⟨hm,f0,f3,f37,f38,f39,rfl,rfl⟩;obtain⟨a,ha⟩:=dB hlt;obtain⟨y,hky,hy⟩:=i2.get ha;obtain⟨a0,ha0⟩:=dB (show 0<r.length by omega);obtain⟨y0,hky0,hy0⟩:=i2.get ha0;have hd0:r.headD fm0=a0:=by cases r with|nil=>cases ha0|cons b r=>simpa using ha0
   have hcall:=yQ gl G ca a y hy (hr a (lMg ha)) st2;have heq:=λst=>En gl G a a0 y y0 hy hy0 (hr a (lMg ha)) (hr a0 (lMg ha0)) st;rw[hd0] at hm ⊢;have hout:rB ca a0 a=false->r.all (rB ca a0)=false:=λhb=>List.all_eq_false.2 ⟨a,lMg ha,by simp[hb]⟩;have hin:rB ca a0 a=true->(r.take (k+1)).all (rB ca a0)=true:=λhb=>by
    rw[dE ha,List.all_append,hm];simp[hb]
   obtain⟨o5,n5,t5,x5,t6,x6,rfl⟩:=hy.agg;obtain⟨o7,n7,t7,x7,t8,x8,rfl⟩:=hy0.agg;simp only[go_sem,zE,zB,zA,zL,reduceCtorEq,f0,f37,f38,f39,lt_i hlt,dz e2,iNn,hky,fits];refine hcall.mono ?_;rintro _ _ ⟨rfl,rfl⟩;cases hr:fmB ca a
   ·simp only[go_sem,zE];exact c_ ⟨by rw[hout (by simp[rB,hr])];simp,rfl⟩
   by_cases hj:ca=2
   ·have ej:decide ((ca:Int)=2)=true:=dEt (by omega);simp only[go_sem,zE,zB,zA,zL,reduceCtorEq,ej,f0,f3,dz e2,hky0,fits,Int.le_refl,Int.toNat_zero];refine (heq _).mono ?_;rintro _ _ ⟨rfl,rfl⟩;cases hq:eqF a a0
    ·simp only[go_sem,zE];exact c_ ⟨by rw[hout (by simp[rB,hj,hq])];simp,rfl⟩
    ·simp only[go_sem,zE,reduceCtorEq,f0,f3,f37,f38,f39,dC hlt (show r.length<=281474976710656 by omega)];exact hin (by simp[rB,hr,hq])
   ·have ej:decide ((ca:Int)=2)=false:=dEf (by omega);simp only[go_sem,zE,reduceCtorEq,ej,f0,f3,f37,f38,f39,dC hlt (show r.length<=281474976710656 by omega)];exact hin (by simp[rB,hr,hj])
  ·rintro fr st2 _ ⟨hm,f0,f3,f37,f38,f39,rfl,rfl⟩;rw[lTl] at hm;simp only[go_sem,f38,f39,dF (nLi _)];exact c_ ⟨by rw[hn,hm];simp[h1,h2],rfl⟩
theorem M3 (tg:Tag)(htg:okEs tg 1)(l:List ByteArray)(s:ByteArray)(st:ISt):ICall prog gl 138 [.sl tg (strI l),.raw (.string s)] st (λr st'=>r=.raw (.bool (memB l s))/\st'=st):=by
 have hidx:ICall prog gl 186 [.sl tg (strI l),.raw (.string s)] st (λr st'=>(∃n:Int,r=.raw (.int .i64 n)/\decide (0<=n)=memB l s)/\st'=st):=by
  refine iI func186 ?_;simp only[go_sem,reduceCtorEq,J2];intro _;refine dj l.length (λk fr st' ds=>memB (l.take k) s=false/\fr 0=.iv (.sl tg (strI l))/\fr 1=.iv (.raw (.string s))/\fr 7=.iv (.raw (.int .i64 l.length))/\fr 8=.iv (.raw (.int .i64 k))/\st'=st/\ds=[]) ?_ ?_ ?_
  ·simp only[go_sem,zE,reduceCtorEq];exact⟨rfl,rfl⟩
  ·rintro k fr st1 _ hlt ⟨hn,f0,f1,f7,f8,rfl,rfl⟩;obtain⟨a,ha⟩:=dB hlt;by_cases hr:s=a
   ·subst hr;simp only[go_sem,zE,reduceCtorEq,f0,f1,f7,f8,lt_i hlt,dz htg,iNn,Ca ha,fits,decide_true];refine c_ ⟨⟨_,rfl,?_⟩,rfl⟩;rw[dEt (iNn k)];exact (yJj.2 (lMg ha)).symm
   ·simp only[go_sem,zE,reduceCtorEq,f0,f1,f7,f8,lt_i hlt,dz htg,iNn,Ca ha,fits,dEf hr,dC hlt (show l.length<=281474976710656 by omega)];rw[zJn] at hn ⊢;rw[dE ha,List.mem_append,List.mem_singleton];rintro (h|h)
    ·exact hn h
    ·exact hr h
  ·rintro fr st1 _ ⟨hn,f0,f1,f7,f8,rfl,rfl⟩;rw[lTl] at hn;simp only[go_sem,f7,f8,dF (nLi _)];exact c_ ⟨⟨_,rfl,by rw[hn];rfl⟩,rfl⟩
 refine iI func138 ?_;simp only[go_sem,zE,zA,reduceCtorEq];refine hidx.mono ?_;rintro _ _ ⟨⟨n,rfl,hn⟩,rfl⟩;simp only[go_sem,hn];exact c_ ⟨rfl,rfl⟩
theorem Es (T:Gt gl)(f:Fm)(y:IV)(hy:IsFm f y)(hs:f.size<=1000000)(hf:f.right=true)(s:ByteArray)(st:ISt) :
  ICall prog gl 137 [y,.cptr (.raw (.string s))] st (λr st'=>r=.raw (.bool (memB (frF f) s))/\st'=st):=by
 have h1:=λst=>Lv gl T f y hy (by omega) (λq hq=>by have:=LP (Dq f (mQ hf).1 q hq);omega) st;obtain⟨o5,n5,t5,x5,t6,x6,rfl⟩:=hy.agg;refine ICall.intro (c:=cf prog gl [] [(1,[0,2,1,3,4])]) func137 rfl (by show _<=8;simp) (by kernel_rfl) ?_;simp only[go_sem,zE,zA,zL,fits];refine (h1 _).mono ?_;rintro _ _ ⟨tg,l,rfl,htg,hl,rfl⟩;simp only[go_sem,zE,zA];refine (M3 gl tg htg l s _).mono ?_;rintro _ _ ⟨rfl,rfl⟩;simp only[go_sem];refine c_ ⟨?_,rfl⟩;have:memB l s=memB (frF f) s:=by
  rw[Bool.eq_iff_iff,yJj,yJj];exact hl.2 s
 rw[this]
theorem M4 (T:Gt gl)(s:Sq)(x:IV)(hx:IsSq s x)(hs:fW s)(hr:(∀f∈s.l,f.right=true)/\∀f∈s.r,f.right=true)(n:ByteArray)(st:ISt) :
  ICall prog gl 108 [x,.raw (.string n)] st (λr st'=>r=.raw (.bool (mj s n))/\st'=st):=by
 obtain⟨t1,x1,t2,x2,rfl,e1,i1,e2,i2⟩:=hx;have h1:=λst=>yR gl 137 [.cptr (.raw (.string n))] (by simp only[go_sem]) s.l (λf=>memB (frF f) n) (λa ha y hy st=>Es gl T a y hy (hs.1 a ha) (hr.1 a ha) n st) t1 x1 e1 i1 st;have h2:=λst=>yR gl 137 [.cptr (.raw (.string n))] (by simp only[go_sem]) s.r (λf=>memB (frF f) n) (λa ha y hy st=>Es gl T a y hy (hs.2 a ha) (hr.2 a ha) n st) t2 x2 e2 i2 st;refine ICall.intro (c:=cf prog gl [] [] [3]) func108 rfl (by show _<=17;simp) (by kernel_rfl) ?_;simp only[go_sem,zE,zA];refine (h1 _).mono ?_;rintro _ _ ⟨rfl,rfl⟩;cases hq:s.l.any λf=>memB (frF f) n
 ·simp only[go_sem,zE,zA];refine (h2 _).mono ?_;rintro _ _ ⟨rfl,rfl⟩;simp only[go_sem,zE];exact c_ ⟨by simp[mj,hq],rfl⟩
 ·simp only[go_sem,zE];exact c_ ⟨by simp[mj,hq],rfl⟩
theorem Et (f:Fm)(l:Sb):(gR f l).1.size<=400:=by
 unfold gR;split
 ·split
  ·rename_i h;simp only[bAt,dTe] at h;exact h.1
  ·show fm0.size<=400;decide
 ·show fm0.size<=400;decide
theorem qb:IsFm fm0 (.agg [.raw (.int .u8 0),.raw (.string ⟨#[]⟩),.sl ⟨true,.nil,0⟩ [],.sl ⟨true,.nil,0⟩ []]):=Dn _ _ (.inl rfl) (.inl rfl)
theorem Eu {sub:List Fm}{xs:List IV}(h:IsFms sub xs)(k:Nat):∃y,IsFm ((sub[k]?).getD fm0) y/\(sub.length<=k->y=.agg [.raw (.int .u8 0),.raw (.string ⟨#[]⟩),.sl ⟨true,.nil,0⟩ [],.sl ⟨true,.nil,0⟩ []])/\(k<sub.length->xs[k]?=some y):=by
 by_cases hk:k<sub.length
 ·obtain⟨a,ha⟩:=dB hk;obtain⟨y,hy,hf⟩:=h.get ha;exact⟨y,by rw[ha];exact hf,λhc=>by omega,λ_=>hy⟩
 ·exact⟨_,by rw[List.getElem?_eq_none (by omega)];exact qb,λ_=>rfl,λhc=>absurd hc hk⟩
def AdR (st:ISt)(q:List Sq×Nat)(r:IV)(st':ISt):Prop:=∃tg xs,r=.tup [.sl tg xs,.raw (.int .i64 q.2)]/\okEs tg 2/\IsSqs q.1 xs/\st'=st
def AdRD (st:ISt)(q:List Sq×Nat)(r:IV)(st':ISt):Prop:=∃tg xs,r=.tup [.sl tg xs,.raw (.int .i64 q.2)]/\okEs tg 2/\appT q.1.length tg/\IsSqsD q.1 xs/\st'=st
theorem AdRD.w {st:ISt}{q:List Sq×Nat}(r:IV)(st':ISt):AdRD st q r st'->AdR st q r st':=λ⟨tg,xs,h1,h2,_,h4,h5⟩=>⟨tg,xs,h1,h2,h4.w,h5⟩
theorem uJ {o:Nat}{n:ByteArray}{us:List Tm}{sub:List Fm}(h:(Fm.mk o n us sub).size<=1000000)(k:Nat):((sub[k]?).getD fm0).size<=1000000:=by
 cases ha:sub[k]? with
 | none=>show fm0.size<=1000000;decide
 | some a =>
  have:=(jr ha).2;simp only[Fm.size] at h;show a.size<=1000000;omega
theorem yT {ca rule:Nat}{r:Rw}{main:Fm}{term:Tm}{name:ByteArray}(h:fmB ca main=true)(h':r.op=0\/main.op=r.op):fH ca rule r main term name =
  if r.asks=0 then (addS ca rule main ((main.subs[0]?).getD fm0) ((main.subs[1]?).getD fm0),0)
  else if !(if r.asks=2 then Tm.mk true name [] else term).ok then ([],193)
  else if (gR ((main.subs[0]?).getD fm0) [(main.nm,if r.asks=2 then Tm.mk true name [] else term)]).2≠0 then ([],193)
  else (addS ca rule main (gR ((main.subs[0]?).getD fm0) [(main.nm,if r.asks=2 then Tm.mk true name [] else term)]).1 ((main.subs[1]?).getD fm0),0):=by
 have e:(!fmB ca main || (decide (r.op≠0)&&decide (main.op≠r.op)))=false:=by
  rw[h];rcases h' with h'|h'<;>simp[h']
 simp only[fH,e,bFt,if_false]
set_option maxHeartbeats 2000000 in
theorem Ev (G:Gl gl)(T:Gt gl)(ca rule:Nat)(r:Rw)(hr:rowS ca rule=some r)(main:Fm)(y:IV)(hy:IsFm main y)(hm:main.size<=1000000)(term:Tm)(z:IV)(hz:IsTm term z)(ht:term.size<=1000000)(name:ByteArray)(st:ISt) :
  ICall prog gl 106 [rwI ca rule r,.raw (.int .u8 ca),y,z,.raw (.string name)] st (AdRD st (fH ca rule r main term name)):=by
 obtain⟨hadd,hent⟩:=M0 gl hr;have hf:=λst=>yQ gl G ca main y hy hm st;obtain⟨rl,rr,op,asks⟩:=r;obtain⟨o,n,us,sub⟩:=main;have hy0:=hy;obtain⟨t1,x1,t2,x2,rfl,ho,e1,i1,e2,i2⟩:=hy.mk;obtain⟨v,un,tz,xz,rfl⟩:∃v un tz xz,z=.agg [.raw (.bool v),.raw (.string un),.sl tz xz]:=by
  obtain⟨v,un,us⟩:=term;obtain⟨tz,xz,rfl,_⟩:=hz.mk;exact⟨_,_,_,_,rfl⟩
 obtain⟨z1,hz1,hz1n,hz1s⟩:=Eu i2 0;obtain⟨z2,hz2,hz2n,hz2s⟩:=Eu i2 1;have hE:fmB ca (.mk o n us sub)=false->fH ca rule ⟨rl,rr,op,asks⟩ (.mk o n us sub) term name=([],192):=λh=>by simp only[fH,h];rfl
 refine iI func106 ?_;simp only[go_sem,zE,zA,zL,rwI];refine (hf _).mono ?_;rintro _ _ ⟨rfl,rfl⟩;cases hfm:fmB ca (.mk o n us sub)
 ·simp only[go_sem,zE];exact c_ (by rw[hE hfm];exact⟨_,_,rfl,.inl rfl,.inl rfl,rfl,rfl⟩)
 by_cases hop:op=0\/o=op
 case neg =>
  have hq:fH ca rule ⟨rl,rr,op,asks⟩ (.mk o n us sub) term name=([],192):=by
   have e:(!fmB ca (.mk o n us sub) || (decide (op≠0)&&decide ((Fm.mk o n us sub).op≠op)))=true:=by
    simp only[Fm.op,hfm];simp only[not_or] at hop;simp[hop]
   simp only[fH,e,if_true]
  simp only[not_or] at hop;have d1:decide ((op:Int)=0)=false:=dEf (by omega);have d2:decide ((o:Int)=(op:Int))=false:=dEf (by omega);simp only[go_sem,zE,zA,d1,d2];exact c_ (by rw[hq];exact⟨_,_,rfl,.inl rfl,.inl rfl,rfl,rfl⟩)
 obtain⟨dop,hdop⟩:∃b,decide ((op:Int)=0)=b:=⟨_,rfl⟩
 have hdo:dop=false->decide ((o:Int)=(op:Int))=true:=λh=>by
  subst hdop;have:=of_decide_eq_false h;exact dEt (by omega)
 have hop0:=hop;replace hop:(⟨rl,rr,op,asks⟩:Rw).op=0\/(Fm.mk o n us sub).op=(⟨rl,rr,op,asks⟩:Rw).op:=hop0;by_cases hl0:0<sub.length
 rotate_left
 have l0:decide ((0:Int)<(sub.length:Int))=false:=dEf (by omega);have l1:decide ((1:Int)<(sub.length:Int))=false:=dEf (by omega);have g0:=l0;have g1:=l0;obtain rfl:=hz1n (by omega);obtain rfl:=hz2n (by omega)
 rotate_left
 have l0:decide ((0:Int)<(sub.length:Int))=true:=dEt (by omega);have g0:=hz1s hl0;obtain⟨o3,n3,t3,x3,t4,x4,rfl⟩:=hz1.agg;by_cases hl1:1<sub.length;have l1:decide ((1:Int)<(sub.length:Int))=true:=dEt (by omega);have g1:=hz2s hl1;obtain⟨o5,n5,t5,x5,t6,x6,rfl⟩:=hz2.agg
 rotate_left
 have l1:decide ((1:Int)<(sub.length:Int))=false:=dEf (by omega);have g1:=g0;obtain rfl:=hz2n (by omega)
 all_goals cases dop
 all_goals (first|have hd2:=hdo rfl|have hd2:=hdop)
 all_goals
  have hq:=yT (rule:=rule) (r:=⟨rl,rr,op,asks⟩) (term:=term) (name:=name) hfm hop;by_cases ha0:asks=0
  ·have d0:decide ((asks:Int)=0)=true:=dEt (by omega);simp only[if_pos ha0,Fm.subs] at hq;simp only[go_sem,zE,zB,zA,zL,hdop,hd2,l0,l1,i2.len,g0,g1,dz e2,Int.le_refl,Int.toNat_zero,(show (0:Int)<=1 by decide),(show Int.toNat 1=1 from rfl),d0,fits,hent];intros;refine (hadd _ _ _ _ _ _ hy0 hz1 hz2 hm (uJ hm 0) (uJ hm 1) _).mono ?_;rintro _ _ ⟨tg,xs,rfl,he,hap,hxs,rfl⟩;simp only[go_sem,zE];exact c_ (by rw[hq];exact⟨_,_,rfl,he,hap,hxs,rfl⟩)
  have d0:decide ((asks:Int)=0)=false:=dEf (by omega);by_cases ha2:asks=2;have d2:decide ((asks:Int)=2)=true:=dEt (by omega);obtain⟨w,hwe,hw,hws⟩:∃w,(if asks=2 then Tm.mk true name [] else term)=w/\IsTm w (.agg [.raw (.bool true),.raw (.string name),.sl ⟨true,.nil,0⟩ []])/\w.size<=1000000:=⟨_,if_pos ha2,⟨_,_,rfl,.inl rfl,rfl⟩,by show 1<=_;decide⟩
  rotate_left
  have d2:decide ((asks:Int)=2)=false:=dEf (by omega);obtain⟨w,hwe,hw,hws⟩:∃w,(if asks=2 then Tm.mk true name [] else term)=w/\IsTm w _/\w.size<=1000000:=⟨_,if_neg ha2,hz,ht⟩
  all_goals
   simp only[if_neg ha0,hwe,Fm.subs,Fm.nm] at hq;simp only[go_sem,zE,zB,zA,zL,hdop,hd2,l0,l1,i2.len,g0,g1,dz e2,Int.le_refl,Int.toNat_zero,(show (0:Int)<=1 by decide),(show Int.toNat 1=1 from rfl),d0,d2,fits];intros;refine (Co gl w _ hw hws _).mono ?_;rintro _ _ ⟨rfl,rfl⟩;cases hk:Tm.ok w
   ·simp only[hk,Bool.not_false,if_true] at hq;simp only[go_sem,zE];exact c_ (by rw[hq];exact⟨_,_,rfl,.inl rfl,.inl rfl,rfl,rfl⟩)
   simp only[go_sem,zE,zA,zL];refine (LN gl G T _ _ hz1 (uJ hm 0) n w _ hw hws _).mono ?_;rintro _ _ ⟨y3,rfl,hy3,rfl⟩;have hy4:=hy3;obtain⟨o8,n8,t8,x8,t9,x9,rfl⟩:=hy3.agg;by_cases he:(gR ((sub[0]?).getD fm0) [(n,w)]).2=0
   ·simp only[hk,Bool.not_true,bFt,if_false,he,ne_eq,nTf] at hq;simp only[go_sem,zE,zA,zL,he,hent,show decide (((0:Nat):Int)=0)=true from rfl];refine (hadd _ _ _ _ _ _ hy0 hy4 hz2 hm (Nat.le_trans (Et _ _) (by decide)) (uJ hm 1) _).mono ?_;rintro _ _ ⟨tg,xs,rfl,he,hap,hxs,rfl⟩;simp only[go_sem,zE];exact c_ (by rw[hq];exact⟨_,_,rfl,he,hap,hxs,rfl⟩)
   ·simp only[hk,Bool.not_true,bFt,if_false,ne_eq,he,nFt,if_true] at hq;simp only[go_sem,zE,zA,zL,dEf (show ¬ ((gR ((sub[0]?).getD fm0) [(n,w)]).2:Int)=0 by omega)];exact c_ (by rw[hq];exact⟨_,_,rfl,.inl rfl,.inl rfl,rfl,rfl⟩)
theorem M5 {ca:Nat}{s:Sq}(h:ev ca s=true):(∀f∈s.l,f.right=true)/\∀f∈s.r,f.right=true:=by
 unfold ev at h;simp only[bAt,List.all_eq_true] at h;obtain⟨⟨⟨_,h4⟩,h5⟩,_⟩:=h;have key:∀f,fmB ca f=true->f.right=true:=λf hf=>by
  unfold fmB at hf;simp only[bAt] at hf;exact hf.1
 exact⟨λf hf=>key f (h4 f hf),λf hf=>key f (h5 f hf)⟩
theorem M6 (G:Gl gl)(T:Gt gl)(ca:Nat)(s:Sq)(x:IV)(hx:IsSq s x)(hs:fW s)(rule:Nat)(main:Fm)(y:IV)(hy:IsFm main y)(hm:main.size<=1000000)(term:Tm)(z:IV)(hz:IsTm term z)(ht:term.size<=1000000)(name:ByteArray)(st:ISt) :
  ICall prog gl 82 [.raw (.int .u8 ca),x,.raw (.int .u8 rule),y,z,.raw (.string name)] st (AdRD st (fA ca s rule main term name)):=by
 have hV:=λst=>yS gl G ca s x hx hs st;have hF:=λhr st=>M4 gl T s x hx hs hr name st;obtain⟨t1,x1,t2,x2,rfl,e1,i1,e2,i2⟩:=hx;have hH1:=λst=>uH gl G s.l main t1 x1 y e1 i1 hy hs.1 hm st;have hH2:=λst=>uH gl G s.r main t2 x2 y e2 i2 hy hs.2 hm st;have hA:=λr hr st=>Ev gl G T ca rule r hr main y hy hm term z hz ht name st;obtain⟨o3,n3,t3,x3,t4,x4,rfl⟩:=hy.agg;obtain⟨v,un,tz,xz,rfl⟩:∃v un tz xz,z=.agg [.raw (.bool v),.raw (.string un),.sl tz xz]:=by
  obtain⟨v,un,us⟩:=term;obtain⟨tz,xz,rfl,_⟩:=hz.mk;exact⟨_,_,_,_,rfl⟩
 refine iI func82 ?_;simp only[go_sem,zE,zA,zL,reduceCtorEq];refine (hV _).mono ?_;rintro _ st ⟨rfl,rfl⟩;cases hv:ev ca s
 ·simp only[go_sem,zE];exact c_ (by unfold fA;rw[hv];exact⟨_,_,rfl,.inl rfl,.inl rfl,rfl,rfl⟩)
 have hright:=M5 hv;simp only[go_sem,zA,reduceCtorEq];refine (Ep gl ca _).mono ?_;rintro _ _ ⟨b,hb,rfl,rfl⟩;cases hr:rowS ca rule with
 | none =>
  have hq:fA ca s rule main term name=([],191):=by unfold fA;rw[hv,hr];rfl
  simp only[go_sem,zE,zA,zL,b_,uI,hr,Option.map_none,sL];exact ez (ff hb) (by rw[hq];exact⟨_,_,rfl,.inl rfl,.inl rfl,rfl,rfl⟩)
 | some r =>
  have hcall:=hA r hr;obtain⟨rl,rr,op,asks⟩:=r;have hq:fA ca s rule main term name=if decide ((fH ca rule ⟨rl,rr,op,asks⟩ main term name).2=192) || (rl&&!hasF s.l main) || (rr&&!hasF s.r main) then ([],192)
    else if (fH ca rule ⟨rl,rr,op,asks⟩ main term name).2≠0 then ([],(fH ca rule ⟨rl,rr,op,asks⟩ main term name).2)
    else if decide (asks=2)&&mj s name then ([],193) else ((fH ca rule ⟨rl,rr,op,asks⟩ main term name).1,0):=by unfold fA;rw[hv,hr];rfl
  generalize fH ca rule ⟨rl,rr,op,asks⟩ main term name=q at hq hcall;obtain⟨qs,qe⟩:=q;simp only at hq;simp only[go_sem,zE,zA,zL,reduceCtorEq,b_,uI,hr,Option.map_some,vJ,rwI];refine (hcall _).mono ?_;rintro _ _ ⟨tg,xs,rfl,he,hap,hxs,rfl⟩;by_cases h192:qe=192
  ·have d:decide ((qe:Int)=192)=true:=dEt (by omega);have hq':fA ca s rule main term name=([],192):=by rw[hq,h192];rfl
   simp only[go_sem,zE,d];exact ez (ff hb) (by rw[hq'];exact⟨_,_,rfl,.inl rfl,.inl rfl,rfl,rfl⟩)
  have d:decide ((qe:Int)=192)=false:=dEf (by omega);have h192':decide (qe=192)=false:=dEf h192;rw[h192',Bool.false_or] at hq;cases rl
  rotate_left
  simp only[go_sem,zE,zA,zL,d];refine (hH1 _).mono ?_;rintro _ _ ⟨rfl,rfl⟩;cases h4:hasF s.l main
  ·simp only[go_sem,zE];rw[h4] at hq;exact ez (ff hb) (by rw[hq];exact⟨_,_,rfl,.inl rfl,.inl rfl,rfl,rfl⟩)
  rw[h4] at hq
  rotate_left
  all_goals cases rr
  all_goals try
   simp only[go_sem,zE,zA,zL,d];refine (hH2 _).mono ?_;rintro _ _ ⟨rfl,rfl⟩;cases h5:hasF s.r main
   ·simp only[go_sem,zE];rw[h5] at hq;exact ez (ff hb) (by rw[hq];exact⟨_,_,rfl,.inl rfl,.inl rfl,rfl,rfl⟩)
   rw[h5] at hq
  all_goals
   simp only[Bool.false_and,Bool.and_false,Bool.not_true,Bool.or_false,bFt,if_false] at hq;by_cases h0:qe=0
   ·subst h0;simp only[ne_eq,nTf,if_false] at hq;by_cases ha:asks=2
    ·have da:decide ((asks:Int)=2)=true:=dEt (by omega);simp only[go_sem,zE,zA,zL,d,da,show decide (((0:Nat):Int)=0)=true from rfl];refine (hF hright _).mono ?_;rintro _ _ ⟨rfl,rfl⟩;rw[dEt ha,Bool.true_and] at hq;cases hf:mj s name
     ·simp only[go_sem,zE];rw[hf] at hq;exact ez (ff hb) (by rw[hq];exact⟨_,_,rfl,he,hap,hxs,rfl⟩)
     ·simp only[go_sem,zE];rw[hf] at hq;exact ez (ff hb) (by rw[hq];exact⟨_,_,rfl,.inl rfl,.inl rfl,rfl,rfl⟩)
    ·have da:decide ((asks:Int)=2)=false:=dEf (by omega);rw[dEf ha,Bool.false_and] at hq;simp only[go_sem,zE,zA,d,da,show decide (((0:Nat):Int)=0)=true from rfl];exact ez (ff hb) (by rw[hq];exact⟨_,_,rfl,he,hap,hxs,rfl⟩)
   ·have d0:decide ((qe:Int)=0)=false:=dEf (by omega);rw[if_pos h0] at hq;simp only[go_sem,zE,zA,d,d0];exact ez (ff hb) (by rw[hq];exact⟨_,_,rfl,.inl rfl,.inl rfl,rfl,rfl⟩)
theorem M7 (G:Gl gl)(T:Gt gl)(ca:Nat)(s:Sq)(x:IV)(hx:IsSq s x)(hs:fW s)(rule:Nat)(main:Fm)(y:IV)(hy:IsFm main y)(hm:main.size<=1000000)(term:Tm)(z:IV)(hz:IsTm term z)(ht:term.size<=1000000)(name:ByteArray)(st:ISt) :
  ICall prog gl 82 [.raw (.int .u8 ca),x,.raw (.int .u8 rule),y,z,.raw (.string name)] st (AdR st (fA ca s rule main term name)) :=
 (M6 gl G T ca s x hx hs rule main y hy hm term z hz ht name st).mono AdRD.w
theorem Ew:lenI prog 3=none:=by kernel_rfl
theorem yU (n:Nat):fT none (some 0) n=some (0,0):=by simp[fT]
theorem Ey (n:Nat):fT none (some ((0:Nat):Int)) n=some (0,0):=yU n
theorem M8 (n:Nat)(hn:n<=1099511627776)(st:ISt):ICall prog gl 109 [.sl ⟨true,.nil,0⟩ [],.raw (.int .i64 n)] st (λr st' =>
  (n=0/\r=.sl ⟨true,.nil,0⟩ []/\st'=st)\/(∃g cap,st g=none/\n<=cap/\r=.raw (.slice (some ⟨g,0,none⟩) 0 cap)/\st'=st.put g (some (.box (List.replicate (cap*4) .junk))))):=by
 have h1:decide ((n:Int)<0)=false:=dEf (by omega);have h2:IntKind.i64.wrap ((0:Int)-((0:Nat):Int))=0:=rfl;have h3:IntKind.i64.wrap ((n:Int)-0)=n:=w64 (by omega) (by omega);refine iI func109 ?_;by_cases hz:n=0
 ·subst hz;simp only[go_sem,zE,zL,reduceCtorEq,h1,h2,h3,show decide ((0:Int)<((0:Nat):Int))=false from rfl];refine c_ (.inl ?_);simp
 ·have h4:decide ((0:Int)<(n:Int))=true:=dEt (by omega);simp only[go_sem,zE,zL,reduceCtorEq,h1,h2,h3,h4,yU,Ew];refine fJ ⟨rfl,by omega,by show (n:Int)*72<=_;omega,by omega,by decide⟩ λg cap=>d_ λhg=>?_;obtain⟨hg,hc⟩:=hg;rw[Int.toNat_natCast] at hc;simp only[go_sem,zE,zL,reduceCtorEq,Int.toNat_natCast,Ey,ite_self,Nat.zero_mul,hc];exact c_ (.inr ⟨g,cap,hg,hc,rfl,rfl⟩)
def catL (l:List (Tag×List IV)):List IV:=l.flatMap (·.2)
def catI (l:List (Tag×List IV)):List IV:=l.map λp=>.sl p.1 p.2
theorem qc {l:List (Tag×List IV)}{k:Nat}{p:Tag×List IV}(h:l[k]?=some p):(catI l)[k]?=some (.sl p.1 p.2):=by simp[catI,List.getElem?_map,h]
theorem j8 {l:List (Tag×List IV)}{k:Nat}{p:Tag×List IV}(h:l[k]?=some p):catL (l.take (k+1))=catL (l.take k)++p.2:=by
 rw[dE h];simp[catL]
theorem nR (l:List (Tag×List IV))(k:Nat):(catL (l.take k)).length<=(catL l).length:=by
 conv=>rhs;rw[<- List.take_append_drop k l]
 unfold catL;rw[List.flatMap_append,lLa];omega
theorem nS:∀ {l:List Fm}{xs:List IV},IsFms l xs->∀y∈xs,fits true 4 y=true
 | [],_,rfl,y,h=>by cases h
 | a::l,_,⟨x,xs,rfl,hx,hl⟩,y,h=>by
  rcases List.mem_cons.1 h with rfl|h
  ·obtain⟨o,n,t,x,t',x',rfl⟩:=hx.agg;simp[fits,IV.one]
  ·exact nS hl y h
theorem rV {y:IV}(h:fits true 4 y=true):y.cells.length=4:=(lA h).2.1
theorem M9 {l:List IV}(h:∀y∈l,fits true 4 y=true):(l.flatMap IV.cells).length=l.length*4:=gD l λx hx=>rV (h x hx)
theorem M_ (l:List (Tag×List IV))(tt:Tag)(htt:okEs tt 1)(hfit:∀p∈l,∀y∈p.2,fits true 4 y=true)(hlen:(catL l).length<=1099511627776)(st:ISt) :
  ICall prog gl 83 [.sl tt (catI l)] st (λr st'=>(∃t,r=.sl t []/\okEs t 4/\catL l=[]/\st'=st) \/
   ∃g cap cs,st g=none/\(catL l).length<=cap/\cap*4<=cs.length/\cs.take ((catL l).length*4)=(catL l).flatMap IV.cells/\r=.raw (.slice (some ⟨g,0,none⟩) (catL l).length cap)/\st'=st.put g (some (.box cs))):=by
 have hli:(catI l).length=l.length:=by simp[catI]
 have hfc:∀y∈catL l,fits true 4 y=true:=λy hy=>by
  obtain⟨p,hp,hy⟩:=List.mem_flatMap.1 hy;exact hfit p hp y hy
 refine iI func83 ?_;simp only[go_sem,reduceCtorEq,hli];intro hl;refine dj l.length (λk fr st' ds=>fr 0=.iv (.sl tt (catI l))/\fr 3=.iv (.raw (.int .i64 (catL (l.take k)).length))/\fr 9=.iv (.sl tt (catI l))/\fr 10=.iv (.raw (.int .i64 l.length))/\fr 11=.iv (.raw (.int .i64 k))/\st'=st/\ds=[]) ?_ ?_ ?_
 ·simp only[go_sem,zE,reduceCtorEq];simp[catL]
 ·rintro k fr st1 _ hlt ⟨f0,f3,f9,f10,f11,rfl,rfl⟩;obtain⟨p,hp⟩:=dB hlt;have h1:=nR l k;have h2:=nR l (k+1);rw[j8 hp,lLa] at h2;have h3:IntKind.i64.wrap ((((catL (l.take k)).length:Nat):Int)+((p.2.length:Nat):Int))=((catL (l.take (k+1))).length:Nat):=by
   rw[w64 (by omega) (by omega),j8 hp,lLa];omega
  have h4:decide ((((catL (l.take (k+1))).length:Nat):Int)<0)=false:=dEf (by omega);simp only[go_sem,zE,f3,f9,f10,f11,lt_i hlt,dz htt,iNn,qc hp,fits,h3];intro hpl;simp only[go_sem,zE,reduceCtorEq,h3,h4,f0,f9,f10,f11,dC hlt (show l.length<=281474976710656 by omega)]
 ·rintro fr st1 _ ⟨f0,f3,f9,f10,f11,rfl,rfl⟩;rw[lTl] at f3;simp only[go_sem,zE,zA,f3,f10,f11,dF (nLi _)];refine (M8 gl (catL l).length hlen _).mono ?_;have loop:∀(I:Nat->IV->ISt->Prop),True:=λ_=>trivial;rintro r st2 (⟨hz,rfl,rfl⟩|⟨g,cap,hg,hcap,rfl,rfl⟩)
  ·have hnil:catL l=[]:=List.eq_nil_of_length_eq_zero hz;simp only[go_sem,reduceCtorEq,f0,hli];intro _;refine dj l.length (λk fr st' ds=>(∃t,fr 6=.iv (.sl t [])/\t.cap=.nil)/\fr 25=.iv (.sl tt (catI l))/\fr 26=.iv (.raw (.int .i64 l.length))/\fr 27=.iv (.raw (.int .i64 k))/\st'=st2/\ds=[]) ?_ ?_ ?_
   ·simp only[go_sem,zE];exact⟨⟨_,rfl,rfl⟩,rfl⟩
   ·rintro k fr st1 _ hlt ⟨⟨t,f6,ht⟩,f25,f26,f27,rfl,rfl⟩;obtain⟨p,hp⟩:=dB hlt;have hp0:p.2=[]:=by
     have:=j8 hp;have h2:=nR l (k+1);rw[this,lLa,hnil,List.length_nil] at h2;exact List.eq_nil_of_length_eq_zero (by omega)
    obtain⟨fs,c,es⟩:=t;obtain rfl:c=.nil:=ht;simp only[go_sem,zE,zA,zM,zL,f6,f25,f26,f27,lt_i hlt,dz htt,iNn,qc hp,fits,hp0,dC hlt (show l.length<=281474976710656 by omega)];exact⟨_,rfl,rfl⟩
   ·rintro fr st1 _ ⟨⟨t,f6,ht⟩,f25,f26,f27,rfl,rfl⟩;simp only[go_sem,zE,f6,f26,f27,dF (nLi _)];exact c_ (.inl ⟨_,rfl,.inl ht,hnil,rfl⟩)
  ·simp only[go_sem,reduceCtorEq,f0,hli];intro _;refine dj l.length (λk fr st' ds=>(∃g cap cs,st1 g=none/\(catL (l.take k)).length<=cap/\cap*4<=cs.length/\cs.take ((catL (l.take k)).length*4)=(catL (l.take k)).flatMap IV.cells/\fr 6=.iv (.raw (.slice (some ⟨g,0,none⟩) (catL (l.take k)).length cap))/\st'=st1.put g (some (.box cs)))/\fr 25=.iv (.sl tt (catI l))/\fr 26=.iv (.raw (.int .i64 l.length))/\fr 27=.iv (.raw (.int .i64 k))/\ds=[]) ?_ ?_ ?_
   ·simp only[go_sem,zE];exact⟨⟨g,cap,_,hg,by simp[catL],by simp,by simp[catL],by simp[catL],rfl⟩,rfl⟩
   ·rintro k fr st' _ hlt ⟨⟨g,cap,cs,hg,hc1,hc2,hc3,f6,rfl⟩,f25,f26,f27,rfl⟩;obtain⟨p,hp⟩:=dB hlt;have h2:=nR l (k+1);rw[j8 hp,lLa] at h2;have hpf:=hfit p (lMg hp);simp only[go_sem,zE,zA,f6,f25,f26,f27,lt_i hlt,dz htt,iNn,qc hp,fits];refine kU _ _ _ (b_ ..) (List.all_eq_true.2 hpf) ⟨by show _*72<=_;omega,by omega⟩ ⟨hc1,hc2⟩ (M9 hpf) ?_;intro g' cap' cs' hg' k1 k2 k3;simp only[go_sem,zE,f25,f26,f27,dC hlt (show l.length<=281474976710656 by omega)];have hst':((st1.put g (some (.box cs))).put g none).put g' (some (.box cs'))=st1.put g' (some (.box cs')):=by
     funext c;simp only[ISt.put_apply];split
     ·rfl
     ·split
      ·subst_vars;exact hg.symm
      ·rfl
    have hg1:st1 g'=none:=by
     rcases hg' with rfl|h
     ·exact hg
     ·rw[ISt.put_apply] at h;split at h
      ·cases h
      ·exact h
    refine⟨g',cap',cs',hg1,?_,k2,?_,?_,hst'⟩
    ·rw[j8 hp,lLa];exact k1
    ·rw[j8 hp,lLa,List.flatMap_append,<- hc3];exact k3
    ·rw[j8 hp,lLa]
   ·rintro fr st' _ ⟨⟨g,cap,cs,hg,hc1,hc2,hc3,f6,rfl⟩,f25,f26,f27,rfl⟩;rw[lTl] at *;simp only[go_sem,zE,f6,f26,f27,dF (nLi _)];exact c_ (.inr ⟨g,cap,cs,hg,hc1,hc2,hc3,rfl,rfl⟩)
theorem yV (l1 l2:List Fm)(t1 t2 tt:Tag)(x1 x2:List IV)(htt:okEs tt 1)(h1:IsFms l1 x1)(h2:IsFms l2 x2)(hlen:l1.length+l2.length<=1099511627776)(st:ISt) :
  ICall prog gl 83 [.sl tt [.sl t1 x1,.sl t2 x2]] st (λr st'=>∃t ys,r=.sl t ys/\okEs t 4/\IsFms (l1++l2) ys/\st'=st):=by
 have hc:catL [(t1,x1),(t2,x2)]=x1++x2:=by simp[catL]
 have hf:=h1.append h2;have hlx:(x1++x2).length<=1099511627776:=by rw[hf.len,lLa];exact hlen
 have key:=M_ gl [(t1,x1),(t2,x2)] tt htt (λp hp y hy=>by
  rcases List.mem_cons.1 hp with rfl|hp
  ·exact nS h1 y hy
  ·obtain rfl:=List.mem_singleton.1 hp;exact nS h2 y hy) (by rw[hc];exact hlx) st
 rw[hc] at key;refine nI (key.mono λr st' h=>?_);rcases h with⟨t,rfl,ht,hn,rfl⟩|⟨g,cap,cs,hg,hc1,hc2,hc3,rfl,rfl⟩
 ·exact⟨.sl t [],(λ_=>none),st',LendOk.mk (λb o h=>by cases h) (subSt.refl _) (λb cs h=>by cases h),.refl _,⟨false,t.cap,t.es⟩,[],by simp only[age,ages],ht,hn▸hf,rfl⟩
 ·have hcell:∀y∈x1++x2,y.cells.length=4:=λy hy=>rV (nS hf y hy);refine⟨.sl ⟨true,.app g,4⟩ (x1++x2),ISt.put (λ_=>none) g (some (.box cs)),st,⟨λb o h=>?_,ff hg,λb cs' h=>?_⟩,.sl g cap ⟨true,.app g,4⟩ (x1++x2) cs rfl (by omega) hc1 hcell (b_ ..) hc2 λi r c hr hx=>?_,⟨false,.app g,4⟩,ages (x1++x2),by simp only[age],.inr rfl,hf.aged,rfl⟩
  ·rw[ISt.put_apply] at h ⊢;split at h
   ·rename_i hb;rw[if_pos hb];exact h
   ·cases h
  ·rw[ISt.put_apply] at h;split at h
   ·rename_i hb;rw[hb];exact hg
   ·cases h
  ·have hi:i<(x1++x2).length*4:=by
    have:=(lGs hx).1
    rwa [gD _ hcell] at this
   have:(cs.take ((x1++x2).length*4))[i]?=cs[i]?:=by rw[List.getElem?_take,if_pos hi]
   rw[hc3,hx,hr] at this;cases this;exact .refl _
theorem Na {ca:Nat}{s:Sq}{rule:Nat}{main:Fm}{term:Tm}{name:ByteArray}{ad:List Sq}(h:fA ca s rule main term name=(ad,0)) :
  ev ca s=true/\∃r,(fH ca rule r main term name)=(ad,0):=by
 unfold fA at h;split at h
 ·simp at h
 ·rename_i hv;split at h
  ·simp at h
  ·rename_i r _;split at h
   ·simp at h
   ·split at h
    ·rename_i h1 h2;injection h with h3 h4;exact absurd h4 h2
    ·rename_i h1 h2;split at h
     ·simp at h
     ·injection h with h3 h4;refine⟨by simpa using hv,r,?_⟩;rw[<- h3];exact Prod.ext rfl (by simpa using h2)
theorem iK:fitL []:=λf h=>by cases h
theorem yW {f:Fm}(h:f.size<=1000):fitL [f]:=λg hg=>by obtain rfl:=List.mem_singleton.1 hg;omega
theorem Ez {f g:Fm}(h:f.size<=1000)(h':g.size<=1000):fitL [f,g]:=λk hk=>by
 rcases List.mem_cons.1 hk with rfl|hk
 ·omega
 ·obtain rfl:=List.mem_singleton.1 hk;omega
theorem ji {c:Prop} [Decidable c]{A B:List Sq}{P:Sq->Prop}(h1:∀s∈A,P s)(h2:∀s∈B,P s):∀s∈(if c then A else B),P s:=by split<;>assumption
def nT (s:Sq):Prop:=fW s/\s.l.length<=64/\s.r.length<=64
theorem EA {ca rule:Nat}{main a b:Fm}(hm:main.size<=400)(ha:a.size<=400)(hb:b.size<=400):∀s∈addS ca rule main a b,nT s:=by
 have hi:(impF a b).size<=1000:=by simp only[impF,Fm.size,dP,dL];omega
 have hi':(impF b a).size<=1000:=by simp only[impF,Fm.size,dP,dL];omega
 have l1:=yW (show main.size<=1000 by omega);have l2:=yW (show a.size<=1000 by omega);have l3:=yW (show b.size<=1000 by omega);have l4:=Ez (show a.size<=1000 by omega) (show b.size<=1000 by omega);have l5:=Ez hi hi';have q0:∀s∈([]:List Sq),nT s:=λs hs=>by cases hs
 have q1:∀ {x:Sq},nT x->∀s∈[x],nT s:=λhx s hs=>by obtain rfl:=List.mem_singleton.1 hs;exact hx
 have q2:∀ {x y:Sq},nT x->nT y->∀s∈[x,y],nT s:=λhx hy s hs=>by
  rcases List.mem_cons.1 hs with rfl|hs
  ·exact hx
  ·obtain rfl:=List.mem_singleton.1 hs;exact hy
 have c0:([]:List Fm).length<=64:=Nat.zero_le _;have c1:∀f:Fm,[f].length<=64:=λ_=>by simp
 have c2:∀f g:Fm,[f,g].length<=64:=λ_ _=>by simp
 unfold addS;refine ji (q1 ⟨⟨iK,l2⟩,c0,c1 _⟩) (ji (q1 ⟨⟨l2,iK⟩,c1 _,c0⟩) (ji (q1 ⟨⟨l4,iK⟩,c2 _ _,c0⟩) (ji (q2 ⟨⟨iK,l2⟩,c0,c1 _⟩ ⟨⟨iK,l3⟩,c0,c1 _⟩) (ji (q2 ⟨⟨l2,iK⟩,c1 _,c0⟩ ⟨⟨l3,iK⟩,c1 _,c0⟩)
  (ji (ji (q1 ⟨⟨iK,l2⟩,c0,c1 _⟩) (q1 ⟨⟨iK,l4⟩,c0,c2 _ _⟩)) (ji (q2 ⟨⟨iK,l2⟩,c0,c1 _⟩ ⟨⟨l3,iK⟩,c1 _,c0⟩) (ji (q1 ⟨⟨l2,l3⟩,c1 _,c1 _⟩) (ji (q1 ⟨⟨l5,iK⟩,c2 _ _,c0⟩) (ji (q2 ⟨⟨l2,l3⟩,c1 _,c1 _⟩ ⟨⟨l3,l2⟩,c1 _,c1 _⟩)
  (ji (q1 ⟨⟨l2,iK⟩,c1 _,c0⟩) (ji (q1 ⟨⟨iK,l2⟩,c0,c1 _⟩) (ji (q1 ⟨⟨l2,iK⟩,c1 _,c0⟩) (ji (q1 ⟨⟨iK,l2⟩,c0,c1 _⟩) (ji (q2 ⟨⟨iK,l1⟩,c0,c1 _⟩ ⟨⟨l1,iK⟩,c1 _,c0⟩) (ji (q1 ⟨⟨iK,l3⟩,c0,c1 _⟩) q0)))))))))))))))
theorem uK:∀ {l:List Fm}{g:Fm},g∈l->g.size<=dL l
 | a::l,g,h=>by
  simp only[dL];rcases List.mem_cons.1 h with rfl|h
  ·omega
  ·have:=uK h;omega
theorem Nb {l:List Fm}{n:Nat}(h:dL l<=n)(hn:1<=n)(k:Nat):((l[k]?).getD fm0).size<=n:=by
 cases hk:l[k]? with
 | none=>exact hn
 | some a=>exact Nat.le_trans (uK (lMg hk)) h
theorem Nc {ca rule:Nat}{r:Rw}{main:Fm}{term:Tm}{name:ByteArray}{ad:List Sq}(h:fH ca rule r main term name=(ad,0)):∀s∈ad,nT s:=by
 unfold fH at h;by_cases hc:(!fmB ca main || (decide (r.op≠0)&&decide (main.op≠r.op)))=true
 ·rw[if_pos hc] at h;cases (Prod.mk.inj h).2
 ·rw[if_neg hc] at h;have hf:fmB ca main=true:=by
   cases hq:fmB ca main
   ·simp[hq] at hc
   ·rfl
  have hm:main.size<=400:=by
   unfold fmB at hf;simp only[bAt] at hf;exact (mQ hf.1).2.1
  have hs:∀k,((main.subs[k]?).getD fm0).size<=400:=λk=>Nb (by
   obtain⟨o,n,us,sub⟩:=main;simp only[Fm.size] at hm;show dL sub<=400;omega) (by omega) k
  by_cases h0:r.asks=0
  ·simp only[if_pos h0] at h;rw[<- (Prod.mk.inj h).1];exact EA hm (hs 0) (hs 1)
  ·simp only[if_neg h0] at h;generalize (if r.asks=2 then Tm.mk true name [] else term)=t at h;by_cases h1:(!t.ok)=true
   ·simp only[if_pos h1] at h;cases (Prod.mk.inj h).2
   ·simp only[if_neg h1] at h;by_cases h2:(gR ((main.subs[0]?).getD fm0) [(main.nm,t)]).2≠0
    ·simp only[if_pos h2] at h;cases (Prod.mk.inj h).2
    ·simp only[if_neg h2] at h;rw[<- (Prod.mk.inj h).1];exact EA hm (Et _ _) (hs 1)
theorem yX (s:Sq):∀(l l':List Sq) (ts ts':List Tr),l.length=ts.length->gp s (l++l') (ts++ts')=(gp s l ts&&gp s l' ts')
 | [],l',[],ts',_=>by simp[gp]
 | a::l,l',t::ts,ts',h=>by
  simp only[List.cons_append,gp,yX s l l' ts ts' (by simpa using h),Bool.and_assoc]
 | [],_,_::_,_,h=>by simp at h
 | _::_,_,[],_,h=>by simp at h
theorem EB {l l':List Fm}(h:fitL l)(h':fitL l'):fitL (l++l'):=λf hf=>(List.mem_append.1 hf).elim (h f) (h' f)
theorem Nd (G:Gl gl)(T:Gt gl)(ca rule:Nat)(s:Sq)(main:Fm)(term:Tm)(name:ByteArray)(sub:List Tr)(x:IV)(hx:IsTr (.mk rule s main term name sub) x)(hs:fW s)(hm:main.size<=1000000)(ht:term.size<=1000000)
  (hsub:∀a∈sub,fW a.sq) (st:ISt):ICall prog gl 57 [.raw (.int .u8 ca),.cptr x] st (λr st'=>r=.raw (.int .i64 (fP ca (.mk rule s main term name sub)))/\st'=st):=by
 obtain⟨tl,xl,tr,xr,op,fn,ta,xa,tb,xb,v,un,tu,xu,ts,xs,rfl,hru,e1,i1,e2,i2,hy,hz,e3,i3⟩:=hx.mk;have hstep:=λst=>M7 gl G T ca s _ ⟨tl,xl,tr,xr,rfl,e1,i1,e2,i2⟩ hs rule main _ hy hm term _ hz ht name st;unfold fP;refine ICall.intro (c:=cf prog gl [] [(9,[0,1,2,3,4,5,6,7,9,10,11,12,13,14,15,16,19,8,17,18,20])]) func57 rfl (by show _<=84;simp) (by kernel_rfl) ?_;simp only[go_sem,zE,zB,zA,zL,reduceCtorEq,fits];refine (hstep _).mono ?_;rintro _ st ⟨tg,ys,rfl,he,hys,rfl⟩;generalize hq:fA ca s rule main term name=q at hys ⊢;obtain⟨ad,er⟩:=q;simp only at hys ⊢;by_cases h0:er=0
 ·subst h0;obtain⟨hv,r,hr⟩:=Na hq;have hfit:=Nc hr;simp only[go_sem,zE,show decide (((0:Nat):Int)=0)=true from rfl,i3.len,hys.len,fits];intro _ _;by_cases hl:sub.length=ad.length
  ·have dl:decide ((sub.length:Int)=(ad.length:Int))=true:=dEt (by omega);simp only[go_sem,zE,dl,hys.len];intro _;refine dj ad.length (λk fr st' ds=>gp s (ad.take k) (sub.take k)=true/\fr 0=.iv (.raw (.int .u8 ca))/\fr 1=.iv (.cptr (.agg [.raw (.int .u8 rule),.sl tl xl,.sl tr xr,.raw (.int .u8 op),.raw (.string fn),.sl ta xa,.sl tb xb,.raw (.bool v),.raw (.string un),.sl tu xu,.raw (.string name),.sl ts xs]))/\fr 46=.iv (.sl tg ys)/\fr 47=.iv (.raw (.int .i64 ad.length))/\fr 48=.iv (.raw (.int .i64 k))/\st'=st/\ds=[]) ?_ ?_ ?_
   ·simp only[go_sem,zE,reduceCtorEq];simp[gp]
   ·rintro k fr st1 _ hlt ⟨hn,f0,f1,f46,f47,f48,rfl,rfl⟩;obtain⟨a,ha⟩:=dB hlt;obtain⟨w,hkw,hw⟩:=hys.get ha;obtain⟨b,hb⟩:=dB (l:=sub) (k:=k) (by omega);obtain⟨z,hkz,hz⟩:=i3.get hb;have hza:=hfit a (lMg ha);have hvl:s.l.length<=64/\s.r.length<=64:=by
     unfold ev at hv;simp only[bAt,dTe] at hv;exact⟨hv.1.1.1.1.2,hv.1.1.1.2⟩
    obtain⟨t1,x1,t2,x2,rfl,k1,j1,k2,j2⟩:=hw;have hC1:=λst=>yV gl s.l a.l tl t1 ⟨true,.full,1⟩ xl x1 (.inr rfl) i1 j1 (by have:=hza.2.1;omega) st;have hC2:=λst=>yV gl s.r a.r tr t2 ⟨true,.full,1⟩ xr x2 (.inr rfl) i2 j2 (by have:=hza.2.2;omega) st;have hsb:=hsub b (lMg hb);obtain⟨br,bs,bm,bt,bn,bsub⟩:=b;obtain⟨tl',xl',tr',xr',op',fn',ta',xa',tb',xb',v',un',tu',xu',ts',xs',rfl,_,g1,m1,g2,m2,_⟩:=hz.mk;have hlen1:(ad.take k).length=(sub.take k).length:=by rw[List.length_take,List.length_take];omega
    have hpl:fW (s.plus a):=⟨EB hs.1 hza.1.1,EB hs.2 hza.1.2⟩
    simp only[go_sem,zE,zB,zA,zM,zL,f1,f46,f47,f48,lt_i hlt,dz he,iNn,hkw,fits,kK];refine (hC1 _).mono ?_;rintro _ st2 ⟨t3,y1,rfl,g3,m3,rfl⟩;simp only[go_sem,zE,zA];refine (hC2 _).mono ?_;rintro _ st2 ⟨t4,y2,rfl,g4,m4,rfl⟩;simp only[go_sem,zE,zB,zA,zL,f1,dz e3,iNn,hkz,fits];refine (MX gl G bs (s.plus a) _ _ ⟨_,_,_,_,rfl,g1,m1,g2,m2⟩ ⟨_,_,_,_,rfl,g3,m3,g4,m4⟩ hsb hpl _).mono ?_;rintro _ st2 ⟨rfl,rfl⟩;cases hw:j7 bs (s.plus a)
    ·simp only[go_sem];refine c_ ⟨?_,rfl⟩;have hp:gp s ad sub=false:=by
      conv=>lhs;rw[<- List.take_append_drop k ad,<- List.take_append_drop k sub]
      rw[List.drop_eq_getElem_cons hlt,List.drop_eq_getElem_cons (show k<sub.length by omega),yX s _ _ _ _ hlen1,(lGs ha).2,(lGs hb).2];simp only[gp,Tr.sq,hw,Bool.false_and,Bool.and_false]
     rw[if_neg (by omega),if_neg (by omega),hp];rfl
    ·simp only[go_sem,zE,reduceCtorEq,f0,f1,f46,f47,f48,dC hlt (show ad.length<=281474976710656 by omega)];rw[dE ha,dE hb,yX s _ _ _ _ hlen1,hn];simp only[gp,Tr.sq,hw,Bool.true_and]
   ·rintro fr st1 _ ⟨hn,f0,f1,f46,f47,f48,rfl,rfl⟩;rw[lTl,show sub.take ad.length=sub by rw[<- hl,lTl]] at hn;simp only[go_sem,f47,f48,dF (nLi _)];refine c_ ⟨?_,rfl⟩;rw[if_neg (by omega),if_neg (by omega),hn];rfl
  ·have dl:decide ((sub.length:Int)=(ad.length:Int))=false:=dEf (by omega);simp only[go_sem,dl];refine c_ ⟨?_,rfl⟩;rw[if_neg (by omega),if_pos hl];rfl
 ·have d0:decide ((er:Int)=0)=false:=dEf (by omega);simp only[go_sem,zE,d0];refine c_ ⟨?_,rfl⟩;rw[if_pos h0]
end Go.Proofs.Tryz
namespace Go.Proofs
open Go.Shelf
def Tryz.sortFL_ren:Go.Shelf.Ren:=⟨λ| 6=>160|15=>217|14=>216|28=>255|29=>256|20=>247|21=>248|22=>249|23=>250|24=>251|25=>252|26=>253|27=>254|46=>293|47=>294|48=>295|49=>296|50=>297|57=>321|n=>n,λ| 22=>22|24=>27|25=>178|3=>3|39=>243|0=>0|53=>320|55=>322|4=>4|46=>314|45=>313|50=>198|5=>5|9=>9|66=>342|70=>346|76=>361|77=>295|n=>n,λ| n=>n⟩
theorem nU:Go.Proofs.SlLaysF0.n6 Tryz.prog Tryz.sortFL_ren:={
 mixed:=by kernel_rfl
 f6:=⟨Tryz.f160.name,by decide,Tryz.func160.trans (congrArg some (by kernel_rfl))⟩
 f14:=⟨Tryz.f216.name,by decide,Tryz.func216.trans (congrArg some (by kernel_rfl))⟩
 f15:=Tryz.func217.trans (congrArg some (by kernel_rfl))
 f20:=⟨Tryz.f247.name,by decide,Tryz.func247.trans (congrArg some (by kernel_rfl))⟩
 f21:=⟨Tryz.f248.name,by decide,Tryz.func248.trans (congrArg some (by kernel_rfl))⟩
 f22:=⟨Tryz.f249.name,by decide,Tryz.func249.trans (congrArg some (by kernel_rfl))⟩
 f23:=⟨Tryz.f250.name,by decide,Tryz.func250.trans (congrArg some (by kernel_rfl))⟩
 f24:=⟨Tryz.f251.name,by decide,Tryz.func251.trans (congrArg some (by kernel_rfl))⟩
 f25:=⟨Tryz.f252.name,by decide,Tryz.func252.trans (congrArg some (by kernel_rfl))⟩
 f26:=⟨Tryz.f253.name,by decide,Tryz.func253.trans (congrArg some (by kernel_rfl))⟩
 f27:=⟨Tryz.f254.name,by decide,Tryz.func254.trans (congrArg some (by kernel_rfl))⟩
 f28:=Tryz.func255.trans (congrArg some (by kernel_rfl))
 f29:=Tryz.func256.trans (congrArg some (by kernel_rfl))
 f46:=⟨Tryz.f293.name,by decide,Tryz.func293.trans (congrArg some (by kernel_rfl))⟩
 f47:=Tryz.func294.trans (congrArg some (by kernel_rfl))
 f48:=Tryz.func295.trans (congrArg some (by kernel_rfl))
 f49:=⟨Tryz.f296.name,by decide,Tryz.func296.trans (congrArg some (by kernel_rfl))⟩
 f50:=⟨Tryz.f297.name,by decide,Tryz.func297.trans (congrArg some (by kernel_rfl))⟩
 f57:=⟨Tryz.f321.name,by decide,Tryz.func321.trans (congrArg some (by kernel_rfl))⟩
 t0:=Tryz.underlying0
 a0:=Tryz.isAgg0
 z0:=Tryz.sizeOf0
 v0:=Tryz.zeroValue0
 t3:=Tryz.underlying3
 a3:=Tryz.isAgg3
 z3:=Tryz.sizeOf3
 v3:=Tryz.zeroValue3
 t4:=Tryz.underlying4
 a4:=Tryz.isAgg4
 z4:=Tryz.sizeOf4
 v4:=Tryz.zeroValue4
 t5:=Tryz.underlying5
 a5:=Tryz.isAgg5
 z5:=Tryz.sizeOf5
 v5:=Tryz.zeroValue5
 t9:=Tryz.underlying9
 a9:=Tryz.isAgg9
 z9:=Tryz.sizeOf9
 v9:=Tryz.zeroValue9
 t22:=Tryz.underlying22
 a22:=Tryz.isAgg22
 z22:=Tryz.sizeOf22
 v22:=Tryz.zeroValue22
 t25:=Tryz.underlying178
 a25:=Tryz.isAgg178
 z25:=Tryz.sizeOf178
 v25:=Tryz.zeroValue178
 t39:=Tryz.underlying243
 a39:=Tryz.isAgg243
 z39:=Tryz.sizeOf243
 v39:=Tryz.zeroValue243
 t45:=Tryz.underlying313
 a45:=Tryz.isAgg313
 z45:=Tryz.sizeOf313
 v45:=Tryz.zeroValue313
 t46:=Tryz.underlying314
 a46:=Tryz.isAgg314
 z46:=Tryz.sizeOf314
 v46:=Tryz.zeroValue314
 t50:=Tryz.underlying198
 a50:=Tryz.isAgg198
 z50:=Tryz.sizeOf198
 v50:=Tryz.zeroValue198
 t53:=Tryz.underlying320
 a53:=Tryz.isAgg320
 z53:=Tryz.sizeOf320
 v53:=Tryz.zeroValue320
 t55:=Tryz.underlying322
 a55:=Tryz.isAgg322
 z55:=Tryz.sizeOf322
 v55:=Tryz.zeroValue322
 t66:=Tryz.underlying342
 a66:=Tryz.isAgg342
 z66:=Tryz.sizeOf342
 v66:=Tryz.zeroValue342
 t70:=Tryz.underlying346
 a70:=Tryz.isAgg346
 z70:=Tryz.sizeOf346
 v70:=Tryz.zeroValue346
 t76:=Tryz.underlying361
 a76:=Tryz.isAgg361
 z76:=Tryz.sizeOf361
 v76:=Tryz.zeroValue361
 t77:=Tryz.underlying295
 a77:=Tryz.isAgg295
 z77:=Tryz.sizeOf295
 v77:=Tryz.zeroValue295 }
namespace Tryz
open Go Go.Iv
theorem EC:tyI Tryz.prog (Tryz.sortFL_ren.t 24)=some (true,4):=by kernel_rfl
theorem Nf (w:World):(isAgg (Tryz.sortFL_ren.t 24)).run Tryz.prog w=.ok true w:=(jU EC w).1
theorem Ng (w:World):(Go.sizeOf (Tryz.sortFL_ren.t 24)).run Tryz.prog w=.ok 4 w:=(jU EC w).2
end Tryz
end Go.Proofs
namespace Go.Proofs.Tryz
set_option maxRecDepth 4000
open Go Go.Iv Go.Sort Go.Shelf Go.RowKit
variable (gl:Nat->Option IV)
section
variable {α:Type} [Inhabited α]{enc:α->List Value}{k:Nat}
theorem ED (hk:∀x,(enc x).length=k)(h0:0<k):∀(l:List α) (t:Nat),t<l.length*k->(l.flatMap enc)[t]?=some ((enc l[t / k]!)[t%k]!)
 | [],t,h=>by simp at h
 | a::l,t,h=>by
  rw[List.flatMap_cons];by_cases ht:t<k
  ·rw[List.getElem?_append_left (by rw[hk];exact ht),Nat.div_eq_of_lt ht,Nat.mod_eq_of_lt ht];rw[List.getElem?_eq_getElem (by rw[hk];exact ht)];simp only[List.getElem!_cons_zero];rw[getElem!_pos _ t (by rw[hk];exact ht)]
  ·obtain⟨s,rfl⟩:∃s,t=s+k:=⟨t-k,by omega⟩
   rw[List.getElem?_append_right (by rw[hk];omega),hk,Nat.add_sub_cancel,ED hk h0 l s (by rw[List.length_cons,Nat.succ_mul] at h;omega),Nat.add_div_right _ h0,Nat.add_mod_right];simp
theorem EE (hk:∀x,(enc x).length=k):∀l:List α,(l.flatMap enc).length=l.length*k
 | []=>by simp
 | a::l=>by rw[List.flatMap_cons,lLa,hk,EE hk l,List.length_cons,Nat.succ_mul,Nat.add_comm]
theorem EF (hk:∀x,(enc x).length=k)(h0:0<k)(d:Array α):(flatK enc k d).toList=d.toList.flatMap enc:=by
 have hl:(d.toList.flatMap enc).length=d.size*k:=by rw[EE hk,Array.length_toList]
 apply List.ext_getElem?;intro t;by_cases ht:t<d.size*k
 ·rw[ED hk h0 d.toList t (by simpa using ht)];have h1:=get_flatK enc k d t ht;rw[getElem!_pos _ t (by rw[size_flatK];exact ht)] at h1;rw[Array.getElem?_toList,Array.getElem?_eq_getElem (by rw[size_flatK];exact ht),h1];congr 3;rw[Array.getElem!_toList]
 ·rw[List.getElem?_eq_none (show (flatK enc k d).toList.length<=t by rw[Array.length_toList,size_flatK];omega),List.getElem?_eq_none (show (d.toList.flatMap enc).length<=t by rw[hl];omega)]
end
section
variable {α:Type} [Inhabited α]{enc:α->List Value}{k:Nat}{w:World}{b m:Nat}{dk:Array α}{os:Array Obj}
theorem EG {c:Array Value}{T:TypeId}{f:Nat×Nat}(hh:w.heap[b]?=some (.cells c T f)):(sortWorldK enc k w b 0 m dk os).heap[b]?=some (.cells (putCells id 0 (flatK enc k dk) c) T f):=by
 have hb:=(Array.getElem?_eq_some_iff.1 hh).1;unfold sortWorldK;rw[heap_grow_old _ _ (by show b<(putRowK enc k _ b 0 dk).heap.size;simpa[putRowK] using hb)];show (w.heap.modify b (onCells (putCells id 0 (flatK enc k dk))))[b]?=_;rw[Array.getElem?_modify,if_pos rfl,hh];rfl
theorem oJ {j:Nat}(hj:j≠b)(hlt:j<w.heap.size):(sortWorldK enc k w b 0 m dk os).heap[j]?=w.heap[j]?:=by
 unfold sortWorldK;rw[heap_grow_old _ _ (by show j<(putRowK enc k _ b 0 dk).heap.size;simpa[putRowK] using hlt)];show (w.heap.modify b (onCells (putCells id 0 (flatK enc k dk))))[j]?=_;rw[Array.getElem?_modify,if_neg (λh=>hj h.symm)]
theorem Nh {F c:Array Value}(h:F.size<=c.size):(putCells id 0 F c).toList=F.toList++c.toList.drop F.size:=by
 apply List.ext_getElem?;intro i;unfold putCells;rw[Array.getElem?_toList,Array.getElem?_mapIdx];by_cases hi:i<F.size
 ·rw[List.getElem?_append_left (by simpa using hi),Array.getElem?_toList,Array.getElem?_eq_getElem (show i<c.size by omega),Array.getElem?_eq_getElem hi];simp only[Option.map_some,id,Nat.zero_add,Nat.zero_le,true_and,if_pos hi,Nat.sub_zero];rw[getElem!_pos F i hi]
 ·rw[List.getElem?_append_right (by simpa using hi),List.getElem?_drop,Array.length_toList,Array.getElem?_toList];rw[show F.size+(i-F.size)=i by omega];cases hc:c[i]? with
  | none=>rfl
  | some v=>simp only[Option.map_some,Nat.zero_add,Nat.zero_le,true_and,if_neg hi]
end
theorem Ni {X X':WS}(he:Ext X X')(hst:∀b,X.st b=none)(hd:X.w.drawn<=X'.w.drawn):∃q os,X'.w=grow (X.w.drewN q) os:=by
 refine⟨X'.w.drawn-X.w.drawn,X'.w.heap.extract X.w.heap.size X'.w.heap.size,?_⟩;have h1:X'.w.heap=X.w.heap++X'.w.heap.extract X.w.heap.size X'.w.heap.size:=by
  apply Array.ext_getElem?;intro i;by_cases hi:i<X.w.heap.size
  ·rw[Array.getElem?_append_left hi];exact (he.keep i hi (hst i)).1
  ·rw[Array.getElem?_append_right (by omega),Array.getElem?_extract];have:=he.size;split
   ·congr 1;omega
   ·rw[Array.getElem?_eq_none (by omega)]
 have h2:=he.os;have h3:=he.tape;have h4:=he.output;generalize X'.w=w' at *;generalize X.w=w at *;obtain⟨hp,tp,dr,os,out⟩:=w';obtain⟨hp1,tp1,dr1,os1,out1⟩:=w;simp only at h1 h2 h3 h4 hd;subst h2 h3 h4;simp only[grow,World.drewN,World.mk.injEq,and_true,true_and];exact⟨h1,by omega⟩
theorem Nj (g:FuncId)(hent:∀args w,(callFunc g args).run prog w=.ok (.enter g args) w)(xs rest:List IV)(b cap:Nat)(st:ISt)(hne:xs≠[])(hlen:xs.length<=140737488355328)(hx:∀x∈xs,fits true 4 x=true)(hb:st b=some (.box (xs.flatMap IV.cells++rest)))(cf:IV->IV->Int)
  (h1:∀x∈xs,¬ cf x x<0) (h2:∀x∈xs,∀y∈xs,∀z∈xs,cf x y<0->cf y z<0->cf x z<0) (h3:∀x∈xs,∀y∈xs,∀z∈xs,¬ cf x y<0->¬ cf y z<0->¬ cf x z<0)
  (hcmp:∀x∈xs,∀y∈xs,ICall prog (λ_=>none) g [x,y] (λ_=>none) (λr _=>r=.raw (.int .i64 (cf x y)))) :
  ICall prog gl 160 [.raw (.slice (some ⟨b,0,none⟩) xs.length cap),.fn (.func g) [] []] st
   (λr st'=>r=.tup []/\∃ys:List IV,ys.Perm xs/\ys.Pairwise (λx y=>¬ cf y x<0)/\st'=st.put b (some (.box (ys.flatMap IV.cells++rest)))):=by
 intro B X rs hg hst hv;subst hst;obtain⟨r0,r1,rfl⟩:∃r0 r1,rs=[r0,r1]:=by
  match rs,hv with
  | [a,b],_=>exact⟨a,b,rfl⟩
  | [],hv=>cases hv.1
  | [_],hv=>cases hv.1
  | _::_::_::_,hv=>cases hv.1
 obtain rfl:=dK (hv.2 0 r0 _ rfl rfl);obtain⟨f1,f2,rfl,hf1,hf2⟩:=ja (hv.2 1 r1 _ rfl rfl);obtain rfl:f1=[]:=List.eq_nil_of_length_eq_zero hf1.1;obtain rfl:f2=[]:=List.eq_nil_of_length_eq_zero hf2.1;obtain⟨hL,c,T,hh,hvl⟩:=hg.ok b _ hb;have hblk:b<X.w.heap.size:=hg.lt hb;have hcells:∀x∈xs,x.cells.length=4:=λx hxm=>(lA (hx x hxm)).2.1;have hcl:c.size=xs.length*4+rest.length:=by
  have:=hvl.1;rw[lLa,gD xs hcells,Array.length_toList] at this;exact this
 -- the elements
 let α:={ p:IV×List Value // p.1∈xs/\VL B X.L X.w p.2 p.1.cells }
 have hel:∀(l:List IV) (vs:List Value),(∀x∈l,x∈xs)->VL B X.L X.w vs (l.flatMap IV.cells)->∃d:List α,d.map (λa=>a.1.1)=l/\d.flatMap (λa=>a.1.2)=vs:=by
  intro l
  induction l with
  | nil =>
   intro vs _ hvs;exact⟨[],rfl,(List.eq_nil_of_length_eq_zero hvs.1).symm⟩
  | cons x l ih =>
   intro vs hm hvs;have hx4:=hcells x (hm x (by simp));have hlv:vs.length=4+(l.flatMap IV.cells).length:=by rw[hvs.1,List.flatMap_cons,lLa,hx4]
   have ha:VL B X.L X.w (vs.take 4) x.cells:=by
    have:=hvs.take 4
    rwa [List.flatMap_cons,List.take_left' hx4] at this
   have hbv:VL B X.L X.w (vs.drop 4) (l.flatMap IV.cells):=by
    have:=hvs.drop 4
    rwa [List.flatMap_cons,List.drop_left' hx4] at this
   obtain⟨d,hd1,hd2⟩:=ih (vs.drop 4) (λy hy=>hm y (by simp[hy])) hbv;exact⟨⟨(x,vs.take 4),hm x (by simp),ha⟩::d,by simp[hd1],by simp[hd2]⟩
 obtain⟨d,hd1,hd2⟩:=hel xs (c.toList.take (xs.length*4)) (λ_ h=>h) (by
  have:=hvl.take (xs.length*4)
  rwa [List.take_left' (gD xs hcells)] at this)
 have hdl:d.length=xs.length:=by rw[<- hd1,List.length_map]
 have hdn:d≠[]:=by rintro rfl;exact hne (List.eq_nil_of_length_eq_zero hdl.symm)
 letI:Inhabited α:=⟨d.head hdn⟩
 let enc:α->List Value:=λa=>a.1.2
 have hk:∀a:α,(enc a).length=4:=λa=>by rw[a.2.2.1];exact hcells _ a.2.1
 have hone:∀(a:α),∀v∈enc a,v.oneCell'=true:=λa v hv=>ph (C:=⟨prog,gl,B⟩) a.2.2 (lA (hx _ a.2.1)).2.2.1 v hv
 let cf':α->α->Int:=λa a'=>cf a.1.1 a'.1.1
 have hO:SWO (ltOf cf'):=⟨λa=>by simp only[ltOf,decide_eq_false_iff_not];exact h1 _ a.2.1,λa a' a'' p q=>by
   simp only[ltOf,dTe] at p q ⊢;exact h2 _ a.2.1 _ a'.2.1 _ a''.2.1 p q,λa a' a'' p q=>by
   simp only[ltOf,decide_eq_false_iff_not] at p q ⊢;exact h3 _ a.2.1 _ a'.2.1 _ a''.2.1 p q⟩
 have hfl:(flatK enc 4 d.toArray).toList=c.toList.take (xs.length*4):=by
  rw[EF hk (by decide)];exact hd2
 have hH:HoldsK enc 4 X.w b 0 d.toArray:=by
  intro j hj;have hj':j<xs.length*4:=by rw[size_flatK] at hj;simpa[hdl] using hj
  have e1:(flatK enc 4 d.toArray)[j]?=c[j]?:=by
   rw[<- Array.getElem?_toList,hfl,List.getElem?_take,if_pos hj',Array.getElem?_toList]
  have hjc:j<c.size:=by omega
  rw[Array.getElem?_eq_getElem hj,Array.getElem?_eq_getElem hjc] at e1;refine⟨?_,?_⟩
  ·rw[Nat.zero_add,jn hh,Array.getElem?_toList,Array.getElem?_eq_getElem hjc,<- e1,id,getElem!_pos _ j hj]
  ·simp only[World.frozen?,hh];simp
 have hmono:∀(n:Nat) (dk:Array α) (os:Array Obj) (X1:WS),X1.w=sortWorldK enc 4 X.w b 0 n dk os->X1.L=X.L->∀r x,V B X.L X.w r x->V B X1.L X1.w r x:=by
  intro n dk os X1 hw hXL r x hrx;refine V.mono hrx (λj=>by rw[hXL];exact Nat.le_refl _) (λj i hi=>?_) (λj p hp=>?_)
  ·have hjb:j≠b:=by rintro rfl;rw[hL] at hi;omega
   have hjl:j<X.w.heap.size:=by
    rcases Nat.lt_or_ge j X.w.heap.size with h|h
    ·exact h
    ·rw[hg.Lnew j h] at hi;omega
   exact oo (by rw[hw];exact oJ hjb hjl) i
  ·by_cases hjb:j=b
   ·subst hjb;simp only[shq,hh] at hp;simp only[shq,hw,EG hh];rw[<- hp];simp[putCells]
   ·rw[<- hp];exact np (by rw[hw];exact oJ hjb (qE hp))
 have hcon:=AnyQ.slices_SortFunc nU 4 Nf Ng enc hk hone cf' hO g #[] b 0 cap d.toArray X.w hent (by
   intro n os dk hdk a a'
   let X1:WS:={ w:=sortWorldK enc 4 X.w b 0 n dk os,L:=X.L,st:=λ_=>none,d:=X.w.drawn+n }
   have hsz:=size_sortWorldK_c enc 4 X.w b 0 n dk os;have hg1:Go.Iv.Good ⟨prog,λ_=>none,B⟩ X1:=⟨λ_ _ h=>(by cases h),λ_ _ h=>(by cases h),Nat.le_trans hg.B hsz,λj hj=>hg.Lnew j (Nat.le_trans hsz hj),λ_ _ h=>(by cases h),λ_=>Nat.le_refl _⟩
   have hm1:=hmono n dk os X1 rfl rfl;have agg:∀a:α,V B X1.L X1.w (.agg (enc a).toArray) a.1.1:=λa=>by
    obtain⟨⟨x,vs⟩,hxm,hvx⟩:=a;obtain⟨cs,rfl⟩:∃cs,x=.agg cs:=by
     have:=hx x hxm;cases x<;>first|exact⟨_,rfl⟩|(simp[fits] at this)
    exact (show VL B X1.L X1.w vs cs from⟨hvx.1,λi r c hr hc=>hm1 r c (hvx.2 i r c hr hc)⟩).agg
   refine (hcmp a.1.1 a.2.1 a'.1.1 a'.2.1 B X1 [.agg (enc a).toArray,.agg (enc a').toArray] hg1 rfl (VL.cons (agg a) (VL.cons (agg a') VL.nil))).mono ?_;rintro e w' ⟨v,rfl,X',x,rfl,hg',he',hv',rfl⟩;obtain rfl:=dK hv';refine⟨rfl,?_⟩;have hd:=hg'.dr (λ_=>rfl);rw[he'.d] at hd;exact Ni he' (λ_=>rfl) hd) hH hblk (by simp[hdl];omega)
 have harr:(⟨[.slice (some ⟨b,0,none⟩) xs.length cap,.func (.func g) ⟨[]⟩ ⟨[]⟩]⟩:Array Value)=#[.slice (some ⟨b,0,none⟩) d.toArray.size cap,.func (.func g) #[] #[]]:=by simp[hdl]
 rw[harr];refine hcon.mono ?_;rintro e w' ⟨rfl,d',n,os,hp,hs,rfl⟩;have hd'l:d'.size=xs.length:=by rw[hp.1];simp[hdl]
 have hperm:d'.toList.Perm d:=by
  have:=hp.2.2;rw[List.size_toArray,hdl,<- hd'l,Array.extract_size] at this
  rwa [hd'l,<- hdl,show d.toArray.extract 0 d.length=d.toArray by simp] at this
 have hys:∀y∈d'.toList.map (λa=>a.1.1),y∈xs:=λy hy=>by
  obtain⟨a,_,rfl⟩:=List.mem_map.1 hy;exact a.2.1
 have hblock:=EG (enc:=enc) (k:=4) (m:=n) (dk:=d') (os:=os) hh;have hfs:(flatK enc 4 d').size=xs.length*4:=by rw[size_flatK,hd'l]
 have hpl:(putCells id 0 (flatK enc 4 d') c).toList=d'.toList.flatMap enc++c.toList.drop (xs.length*4):=by
  rw[Nh (by omega),EF hk (by decide),hfs]
 let X':WS:={ w:=sortWorldK enc 4 X.w b 0 n d' os,L:=X.L,st:=X.st.put b (some (.box ((d'.toList.map (λa=>a.1.1)).flatMap IV.cells++rest))),d:=X.d }
 have hm:=hmono n d' os X' rfl rfl;have hsz:=size_sortWorldK_c enc 4 X.w b 0 n d' os;have hvlm:∀rs cs,VL B X.L X.w rs cs->VL B X'.L X'.w rs cs:=λrs cs h=>⟨h.1,λi r x hr hx=>hm r x (h.2 i r x hr hx)⟩
 have hgood:Go.Iv.Good ⟨prog,gl,B⟩ X':=by
  refine⟨λj o ho=>?_,λj x hj=>hm _ _ (hg.gl j x hj),Nat.le_trans hg.B hsz,λj hj=>hg.Lnew j (Nat.le_trans hsz hj),λj x hj=>?_,λhd=>Nat.le_trans (hg.dr hd) (Nat.le_add_right _ _)⟩
  ·by_cases hjb:j=b
   ·subst hjb;simp only[X',b_,Option.some.injEq] at ho;subst ho;refine⟨hL,_,T,hblock,hvlm _ _ ?_⟩;rw[hpl];refine VL.append ?_ ?_
    ·have key:∀l:List α,VL B X.L X.w (l.flatMap enc) ((l.map λa=>a.1.1).flatMap IV.cells):=λl=>by
      induction l with
      | nil=>exact VL.nil
      | cons a l ih=>simp only[List.flatMap_cons,List.map_cons];exact a.2.2.append ih
     exact key _
    ·have:=hvl.drop (xs.length*4)
     rwa [List.drop_left' (gD xs hcells)] at this
   ·have ho':X.st j=some o:=by simpa only[X',ISt.put_apply,if_neg hjb] using ho
    exact (hg.ok j o ho').mono (oJ hjb (hg.lt ho')) rfl hvlm
  ·obtain⟨T',z,hT⟩:=hg.gsh j x hj;refine⟨T',z,?_⟩;by_cases hjb:j=b
   ·subst hjb;simp only[shq,hh] at hT;simp only[shq,X',hblock];rw[<- hT];simp[putCells]
   ·rw[<- hT];exact np (oJ hjb (qE hT))
 refine⟨_,rfl,X',.tup [],rfl,hgood,⟨rfl,rfl,rfl,hsz,λ_=>Nat.le_refl _,λj i hi=>?_,λj hj hs0=>?_,λj hj hs0=>?_,λj p hp=>?_,rfl⟩,.tup [] [] rfl (λi r c h=>by simp at h),rfl,_,?_,?_,rfl⟩
 ·have hjb:j≠b:=by rintro rfl;rw[hL] at hi;omega
  have hjl:j<X.w.heap.size:=by
   rcases Nat.lt_or_ge j X.w.heap.size with h|h
   ·exact h
   ·rw[hg.Lnew j h] at hi;omega
  exact oo (oJ hjb hjl) i
 ·have hjb:j≠b:=by rintro rfl;rw[hb] at hs0;cases hs0
  exact⟨oJ hjb hj,rfl⟩
 ·have hjb:j≠b:=by rintro rfl;rw[hb] at hs0;cases hs0
  simp only[X',ISt.put_apply,if_neg hjb];exact hs0
 ·by_cases hjb:j=b
  ·subst hjb;simp only[shq,hh] at hp;simp only[shq,X',hblock];rw[<- hp];simp[putCells]
  ·rw[<- hp];exact np (oJ hjb (qE hp))
 ·have:=hperm.map (λa:α=>a.1.1)
  rwa [hd1] at this
 ·rw[List.pairwise_map];refine List.pairwise_iff_getElem.2 λi j hi hj hij=>?_;have:=hs i j (Nat.zero_le _) hij (by simp at hj ⊢;omega);simp only[ltOf,decide_eq_false_iff_not] at this;rw[Array.length_toList] at hi hj;rw[getElem!_pos d' i hi,getElem!_pos d' j hj] at this;exact this
end Go.Proofs.Tryz
namespace Go.Proofs.Tryz
open Go Go.Iv Go.Shelf Go.RowKit
set_option maxRecDepth 4000
variable (gl:Nat->Option IV)
mutual
theorem Nk:∀(a b:Tm)(x:IV),IsTm a x->IsTm b x->a=b
 | .mk v n us,.mk w m ws,x,h,k=>by
  obtain⟨t,xs,rfl,_,h1⟩:=h.mk;obtain⟨t',xs',hx,_,h2⟩:=k.mk;simp only[IV.agg.injEq,List.cons.injEq,IV.raw.injEq,Value.bool.injEq,Value.string.injEq,IV.sl.injEq,and_true] at hx;obtain⟨rfl,rfl,rfl,rfl⟩:=hx;rw[yY us ws xs h1 h2]
theorem yY:∀(l m:List Tm)(xs:List IV),IsTms l xs->IsTms m xs->l=m
 | [],[],_,_,_=>rfl
 | [],b::m,xs,h,k=>by
  simp only[IsTms] at h k;obtain⟨y,ys,rfl,_⟩:=k;cases h
 | a::l,[],xs,h,k=>by
  simp only[IsTms] at h k;obtain⟨y,ys,rfl,_⟩:=h;cases k
 | a::l,b::m,xs,h,k=>by
  simp only[IsTms] at h k;obtain⟨y,ys,rfl,h1,h2⟩:=h;obtain⟨y',ys',he,k1,k2⟩:=k;cases he;rw[Nk a b y h1 k1,yY l m ys h2 k2]
end
mutual
theorem EH:∀(a b:Fm)(x:IV),IsFm a x->IsFm b x->a=b
 | .mk o n us sub,.mk o' m ws sub',x,h,k=>by
  obtain⟨t,xs,t2,xs2,rfl,_,_,h1,_,h2⟩:=h.mk;obtain⟨t',xs',t2',xs2',hx,_,_,k1,_,k2⟩:=k.mk;simp only[IV.agg.injEq,List.cons.injEq,IV.raw.injEq,Value.int.injEq,Value.string.injEq,IV.sl.injEq,and_true,true_and,Int.natCast_inj] at hx;obtain⟨rfl,rfl,⟨rfl,rfl⟩,rfl,rfl⟩:=hx;rw[yY us ws xs h1 k1,EJ sub sub' xs2 h2 k2]
theorem EJ:∀(l m:List Fm)(xs:List IV),IsFms l xs->IsFms m xs->l=m
 | [],[],_,_,_=>rfl
 | [],b::m,xs,h,k=>by
  simp only[IsFms] at h k;obtain⟨y,ys,rfl,_⟩:=k;cases h
 | a::l,[],xs,h,k=>by
  simp only[IsFms] at h k;obtain⟨y,ys,rfl,_⟩:=h;cases k
 | a::l,b::m,xs,h,k=>by
  simp only[IsFms] at h k;obtain⟨y,ys,rfl,h1,h2⟩:=h;obtain⟨y',ys',he,k1,k2⟩:=k;cases he;rw[EH a b y h1 k1,EJ l m ys h2 k2]
end
open Classical in
noncomputable def rdF (x:IV):Fm:=if h:∃a,IsFm a x then h.choose else fm0
theorem uL {a:Fm}{x:IV}(h:IsFm a x):rdF x=a:=by
 have he:∃a,IsFm a x:=⟨a,h⟩
 unfold rdF;rw[dif_pos he];exact EH _ _ x he.choose_spec h
theorem EK:∀ {l:List Fm}{xs:List IV},IsFms l xs->xs.map rdF=l
 | [],_,rfl=>rfl
 | a::l,_,⟨x,xs,rfl,hx,hl⟩=>by rw[List.map_cons,uL hx,EK hl]
theorem EL:∀ {ys:List IV},(∀y∈ys,∃a,IsFm a y)->IsFms (ys.map rdF) ys
 | [],_=>rfl
 | y::ys,h=>by
  obtain⟨a,ha⟩:=h y (by simp);exact⟨y,ys,rfl,by rw[uL ha];exact ha,EL λz hz=>h z (by simp[hz])⟩
theorem qd:∀ {l:List Fm}{xs:List IV},IsFms l xs->∀y∈xs,∃a,IsFm a y/\a∈l
 | [],_,rfl,y,h=>by cases h
 | a::l,_,⟨x,xs,rfl,hx,hl⟩,y,h=>by
  rcases List.mem_cons.1 h with rfl|h
  ·exact⟨a,hx,by simp⟩
  ·obtain⟨b,hb,hm⟩:=qd hl y h;exact⟨b,hb,by simp[hm]⟩
theorem EM (l:List Fm)(xs rest:List IV)(hx:IsFms l xs)(hne:xs≠[])(hlen:xs.length<=140737488355328)(b cap:Nat)(st:ISt)(hb:st b=some (.box (xs.flatMap IV.cells++rest))) :
  ICall prog gl 160 [.raw (.slice (some ⟨b,0,none⟩) xs.length cap),.fn (.func 111) [] []] st
   (λr st'=>r=.tup []/\∃(m:List Fm) (ys:List IV),IsFms m ys/\m.Perm l/\m.Pairwise (λx y=>¬ eB y x<0)/\(∀y∈ys,y∈xs)/\st'=st.put b (some (.box (ys.flatMap IV.cells++rest)))):=by
 refine (Nj gl 111 ?_ xs rest b cap st hne hlen (nS hx) hb (λx y=>eB (rdF x) (rdF y)) (λx _=>p9 _) (λx _ y _ z _=>oI _ _ _) (λx _ y _ z _ h1 h2 h3=>?_) (λx hxm y hym=>?_)).mono ?_
 ·exact enters_of func111 (by kernel_rfl) rfl
 ·rcases Int.lt_or_le (eB (rdF y) (rdF x)) 0 with h|h
  ·have:=oI _ _ _ h h3;exact h2 this
  ·have hxy:eB (rdF x) (rdF y)=0:=by
    have:=p8 (rdF x) (rdF y);omega
   rw[(j6 _ _).1 hxy] at h3;exact h2 h3
 ·obtain⟨a,ha,_⟩:=qd hx x hxm;obtain⟨c,hc,_⟩:=qd hx y hym;rw[uL ha,uL hc];exact (uD (λ_=>none) a c x y ha hc _).mono λr st' h=>h.1
 ·rintro r st' ⟨rfl,ys,hp,hpw,rfl⟩;refine⟨rfl,ys.map rdF,ys,EL λy hy=>?_,?_,?_,λy hy=>hp.mem_iff.1 hy,rfl⟩
  ·obtain⟨a,ha,_⟩:=qd hx y (hp.mem_iff.1 hy);exact⟨a,ha⟩
  ·rw[<- EK hx];exact hp.map rdF
  ·exact List.pairwise_map.2 hpw
theorem EN (t:Tag)(ht:t.cap=.nil)(st:ISt):ICall prog gl 160 [.sl t [],.fn (.func 111) [] []] st (λr st'=>r=.tup []/\st'=st):=by
 obtain⟨fs,c,es⟩:=t;obtain rfl:c=.nil:=ht;intro B X rs hg hst hv;obtain⟨r0,r1,rfl⟩:∃r0 r1,rs=[r0,r1]:=by
  match rs,hv with
  | [a,b],_=>exact⟨a,b,rfl⟩
  | [],hv=>cases hv.1
  | [_],hv=>cases hv.1
  | _::_::_::_,hv=>cases hv.1
 obtain⟨p,cap,rfl⟩:∃p cap,r0=.slice p 0 cap:=by
  have:=hv.2 0 r0 _ rfl rfl;obtain⟨a,cap,_,_,rfl,_⟩:=je this;exact⟨a,cap,rfl⟩
 refine Calls.mono (AnyF.slices_SortFunc_none nU p cap r1 X.w) ?_;rintro e w' ⟨rfl,rfl⟩;exact⟨_,rfl,X,.tup [],rfl,hg,Ext.refl X,.tup [] [] rfl (λi r c h=>by simp at h),rfl,hst⟩
noncomputable def ddF (p:Fm):List Fm->List Fm
 | []=>[]
 | b::l=>if eB b p=0 then ddF b l else b::ddF b l
noncomputable def dd:List Fm->List Fm
 | []=>[]
 | a::l=>a::ddF a l
theorem EO:∀(p:Fm)(l:List Fm)(a b:Fm),(p::l).getLast?=some a->ddF p (l++[b])=ddF p l++(if eB b a=0 then [] else [b])
 | p,[],a,b,h=>by
  simp only[List.getLast?_singleton,Option.some.injEq] at h;subst h;simp only[List.nil_append,ddF]
 | p,c::l,a,b,h=>by
  rw[List.getLast?_cons_cons] at h;simp only[List.cons_append,ddF,EO c l a b h];split<;>rfl
theorem Nl:∀(l:List Fm)(a b:Fm),l.getLast?=some a->dd (l++[b])=dd l++(if eB b a=0 then [] else [b])
 | p::l,a,b,h=>by simp only[List.cons_append,dd,EO p l a b h]
theorem EP {m:List Fm}{k:Nat}{a b:Fm}(ha:m[k]?=some a)(hb:m[k+1]?=some b):dd (m.take (k+1+1))=dd (m.take (k+1))++(if eB b a=0 then [] else [b]):=by
 rw[dE hb];exact Nl _ a b (by rw[dE ha,List.getLast?_concat])
theorem ER:∀(p:Fm)(l:List Fm),(p::l).Pairwise (λx y=>¬ eB y x<0)->(∀f,f∈p::ddF p l↔f∈p::l)/\(p::ddF p l).Pairwise (λx y=>eB x y<0)
 | p,[],_=>⟨λf=>Iff.rfl,List.pairwise_singleton ..⟩
 | p,b::l,h=>by
  have h1:=List.pairwise_cons.1 h;obtain⟨i1,i2⟩:=ER b l h1.2;simp only[ddF];by_cases hc:eB b p=0
  ·have hbp:=(j6 b p).1 hc;subst hbp;rw[if_pos hc];refine⟨λf=>?_,i2⟩;rw[i1 f];simp
  ·rw[if_neg hc];have hlt:eB p b<0:=by
    have:=h1.1 b (by simp);have:=p8 b p;omega
   refine⟨λf=>?_,List.pairwise_cons.2 ⟨λf hf=>?_,i2⟩⟩
   ·rw[List.mem_cons,i1 f,List.mem_cons (l:=b::l)]
   ·rcases List.mem_cons.1 hf with rfl|hf
    ·exact hlt
    ·exact oI _ _ _ hlt ((List.pairwise_cons.1 i2).1 f hf)
theorem uM (l m:List Fm)(hp:m.Perm l)(h:m.Pairwise (λx y=>¬ eB y x<0)):SetF l (dd m):=by
 cases m with
 | nil =>
  obtain rfl:=List.Perm.nil_eq hp;exact⟨List.Pairwise.nil,λf=>Iff.rfl⟩
 | cons a m =>
  obtain⟨h1,h2⟩:=ER a m h;exact⟨h2,λf=>(h1 f).trans hp.mem_iff⟩
theorem rd4 {ys rest cs:List IV}(hf:∀y∈ys,y.cells.length=4)(hlen:cs.length=(ys.flatMap IV.cells++rest).length){i:Nat}{y:IV}(hy:ys[i]?=some y)(hc:∀j,i*4<=j->cs[j]?=(ys.flatMap IV.cells++rest)[j]?) :
  i*4+4<=cs.length/\(cs.drop (i*4)).take 4=y.cells:=by
 have hi:=(lGs hy).1;have h0:ys.flatMap IV.cells=(ys.take i).flatMap IV.cells++(y.cells++(ys.drop (i+1)).flatMap IV.cells):=by
  conv=>lhs;rw[<- List.take_append_drop i ys,List.drop_eq_getElem_cons hi,(lGs hy).2]
  rw[List.flatMap_append,List.flatMap_cons]
 have h1:((ys.take i).flatMap IV.cells).length=i*4:=by
  rw[gD _ λz hz=>hf z (List.mem_of_mem_take hz),List.length_take];omega
 have hy4:=hf y (lMg hy);have hd:cs.drop (i*4)=(ys.flatMap IV.cells++rest).drop (i*4):=by
  apply List.ext_getElem?;intro j;rw[List.getElem?_drop,List.getElem?_drop,hc _ (by omega)]
 refine⟨?_,?_⟩
 ·rw[hlen,h0];simp only[lLa,h1,hy4];omega
 ·rw[hd,h0,List.append_assoc,List.drop_left' h1,List.append_assoc,List.take_left' hy4]
theorem ET:∀ {l:List Fm}{xs:List IV}(k:Nat),IsFms l xs->IsFms (l.take k) (xs.take k)
 | [],_,k,rfl=>by simp[IsFms]
 | a::l,_,0,_=>by simp[IsFms]
 | a::l,_,k+1,⟨y,ys,rfl,hy,h⟩=>by
  rw[List.take_succ_cons,List.take_succ_cons];exact⟨y,ys.take k,rfl,hy,ET k h⟩
theorem st4 {cs l:List IV}{k n:Nat}(hl:l.length=n)(h:k*4+n<=cs.length):(fB cs (k*4) l).length=cs.length/\(fB cs (k*4) l).take (k*4)=cs.take (k*4)/\(fB cs (k*4) l).take (k*4+n)=cs.take (k*4)++l/\∀i,k*4+n<=i->(fB cs (k*4) l)[i]?=cs[i]?:=by
 have h1:(cs.take (k*4)).length=k*4:=by rw[List.length_take];omega
 have h2:(cs.take (k*4)++l).length=k*4+n:=by rw[lLa,h1,hl]
 unfold fB;refine⟨?_,?_,List.take_left' h2,λi hi=>?_⟩
 ·rw[lLa,h2,List.length_drop,hl];omega
 ·rw[List.append_assoc,List.take_left' h1]
 ·rw[List.getElem?_append_right (by omega),h2,List.getElem?_drop,hl];congr 1;omega
theorem uN {k n:Nat}(h:k<=n):fT (some ((k:Nat):Int)) none n=some (k,n):=by
 simp only[fT,Option.getD_none,Option.getD_some];rw[if_pos ⟨by omega,by omega,Int.le_refl _⟩];simp
theorem yZ {k n:Nat}(h:k<=n):fT none (some ((k:Nat):Int)) n=some (0,k):=by
 simp only[fT,Option.getD_none,Option.getD_some];rw[if_pos ⟨Int.le_refl _,by omega,by omega⟩];simp
theorem EU (qf:FuncId)(ce:entI prog qf=true)(hcmp:∀a b x y,IsFm a x->IsFm b y->∀st,ICall prog gl qf [x,y] st (λr st'=>r=.raw (.bool (decide (eB a b=0)))/\st'=st))(m:List Fm)(ys rest:List IV)(hx:IsFms m ys)(hlen:m.length<=1099511627776)(g cap:Nat)(hcap:m.length<=cap)(st:ISt)(hb:st g=some (.box (ys.flatMap IV.cells++rest))) :
  ICall prog gl 161 [.raw (.slice (some ⟨g,0,none⟩) m.length cap),.fn (.func qf) [] []] st
   (λr st'=>∃k cs zs,r=.raw (.slice (some ⟨g,0,none⟩) k cap)/\st'=st.put g (some (.box cs))/\cs.length=(ys.flatMap IV.cells++rest).length/\cs.take (k*4)=zs.flatMap IV.cells/\IsFms (dd m) zs/\zs.length=k/\k<=m.length/\∀z∈zs,z∈ys):=by
 have hf4:∀y∈ys,y.cells.length=4:=λy hy=>rV (nS hx y hy);have hyl:=hx.len;have hput:st.put g (some (.box (ys.flatMap IV.cells++rest)))=st:=jo hb;have same:∀k,dd (m.take k)=m.take k->k=m.length->∃k cs zs,IV.raw (.slice (some ⟨g,0,none⟩) m.length cap)=.raw (.slice (some ⟨g,0,none⟩) k cap)/\st=st.put g (some (.box cs))/\cs.length=(ys.flatMap IV.cells++rest).length/\cs.take (k*4)=zs.flatMap IV.cells/\IsFms (dd m) zs/\zs.length=k/\k<=m.length/\∀z∈zs,z∈ys:=by
  intro k hk hkl;rw[hkl,lTl] at hk;refine⟨m.length,_,ys,rfl,hput.symm,rfl,?_,by rw[hk];exact hx,hyl,Nat.le_refl _,λ_ h=>h⟩;rw[<- hyl,List.take_left' (gD _ hf4)]
 refine ICall.intro (c:=cf prog gl [22,27,42,47] []) func161 rfl (by show _<=66;simp) (by kernel_rfl) ?_;by_cases h2:m.length<2
 ·have d2:decide (((m.length:Nat):Int)<2)=true:=dEt (by omega);simp only[go_sem,zE,zB,zA,zM,zS,zL,reduceCtorEq,d2];refine c_ (same m.length ?_ rfl);rw[lTl]
  match m,h2 with
  | [],_=>rfl
  | [a],_=>rfl
 ·have d2:decide (((m.length:Nat):Int)<2)=false:=dEf (by omega);simp only[go_sem,zE,zB,zA,zM,zS,zL,reduceCtorEq,d2];refine dj (m.length-1) (λc fr st' ds=>dd (m.take (c+1))=m.take (c+1)/\fr 0=.iv (.raw (.slice (some ⟨g,0,none⟩) m.length cap))/\fr 1=.iv (.fn (.func qf) [] [])/\fr 5=.iv (.raw (.int .i64 ((c+1:Nat):Int)))/\st'=st/\ds=[]) ?_ ?_ ?_
  ·simp only[go_sem,zE,zB,zA,zM,zS,zL,reduceCtorEq];refine⟨?_,rfl⟩
   match m,h2 with
   | [],h=>exact absurd (show 0<2 by decide) h
   | [a],h=>exact absurd (show 1<2 by decide) h
   | a::b::l,_=>rfl
  ·rintro c fr st1 _ hlt ⟨hd,f0,f1,f5,rfl,rfl⟩;have hlt':c+1<m.length:=by omega
   obtain⟨a,ha⟩:=dB (l:=m) (k:=c) (by omega);obtain⟨b,hbm⟩:=dB hlt';obtain⟨x,hkx,hxa⟩:=hx.get ha;obtain⟨y,hky,hyb⟩:=hx.get hbm;have hcall:=hcmp b a y x hyb hxa st1;obtain⟨rx1,rx2⟩:=rd4 (rest:=rest) hf4 rfl hkx (λ_ _=>rfl);obtain⟨ry1,ry2⟩:=rd4 (rest:=rest) hf4 rfl hky (λ_ _=>rfl);obtain⟨x1,x2,x3,x4,x5,x6,rfl⟩:=hxa.agg;obtain⟨y1,y2,y3,y4,y5,y6,rfl⟩:=hyb.agg;simp only[IV.cells] at rx2 ry2;have hw:IntKind.i64.wrap (((c+1:Nat):Int)-1)=(c:Nat):=by rw[w64 (by omega) (by omega)];omega
   simp only[go_sem,zE,zB,zA,zM,zS,zL,reduceCtorEq,f0,f1,f5,lt_i hlt',hw,hlt',show c<m.length by omega,iNn,hb,rx1,ry1,rx2,ry2,fits,ce];refine hcall.mono ?_;rintro _ st1 ⟨rfl,rfl⟩;have hds:=EP ha hbm;by_cases he:eB b a=0
   ·rw[if_pos he,List.append_nil,hd] at hds;have hcne:¬ cap=c+1:=by omega
    simp only[go_sem,zE,zB,zA,zM,zS,zL,reduceCtorEq,dEt he,f0,f1,f5,uN (show c+1<=m.length by omega),hcap,hcne];refine dj (m.length-(c+1)-1) (λj fr st' ds=>(∃k cs zs,fr 5=.iv (.raw (.int .i64 ((k:Nat):Int)))/\st'=st1.put g (some (.box cs))/\cs.length=(ys.flatMap IV.cells++rest).length/\cs.take (k*4)=zs.flatMap IV.cells/\IsFms (dd (m.take (c+1+j+1))) zs/\zs.length=k/\k<=c+1+j/\(∀z∈zs,z∈ys)/\∀i,(c+1+j)*4<=i->cs[i]?=(ys.flatMap IV.cells++rest)[i]?) /\
     fr 0=.iv (.raw (.slice (some ⟨g,0,none⟩) m.length cap))/\fr 1=.iv (.fn (.func qf) [] [])/\fr 6=.iv (.raw (.slice (some ⟨g,(c+1)*4,none⟩) (m.length-(c+1)) (cap-(c+1))))/\fr 7=.iv (.raw (.int .i64 ((j+1:Nat):Int)))/\ds=[]) ?_ ?_ ?_
    ·simp only[go_sem,zE,zB,zA,zM,zS,zL,reduceCtorEq];refine⟨⟨c+1,ys.flatMap IV.cells++rest,ys.take (c+1),f5,(jo hb).symm,rfl,?_,?_,?_,Nat.le_refl _,λz hz=>List.mem_of_mem_take hz,λ_ _=>rfl⟩,f0,f1,rfl⟩
     ·conv=>lhs;rw[<- List.take_append_drop (c+1) ys]
      rw[List.flatMap_append,List.append_assoc,List.take_left' (by rw[gD _ λz hz=>hf4 z (List.mem_of_mem_take hz),List.length_take];omega)]
     ·rw[hds];exact ET _ hx
     ·rw[List.length_take];omega
    ·rintro j fr st2 _ hj ⟨⟨k,cs,zs,f5,rfl,hcl,hct,hz,hzl,hk,hzm,hcs⟩,f0,f1,f6,f7,rfl⟩;obtain⟨a',ha'⟩:=dB (l:=m) (k:=c+1+j) (by omega);obtain⟨b',hb'⟩:=dB (l:=m) (k:=c+1+j+1) (by omega);obtain⟨x',hkx',hxa'⟩:=hx.get ha';obtain⟨y',hky',hyb'⟩:=hx.get hb';have hyb0:=hyb';have hcall':=hcmp b' a' y' x' hyb' hxa' (st1.put g (some (.box cs)));obtain⟨rx1',rx2'⟩:=rd4 hf4 hcl hkx' hcs;obtain⟨ry1',ry2'⟩:=rd4 hf4 hcl hky' (λi hi=>hcs i (by omega));have hy4:=hf4 y' (lMg hky');obtain⟨p1,p2,p3,p4,p5,p6,rfl⟩:=hxa'.agg;obtain⟨q1,q2,q3,q4,q5,q6,rfl⟩:=hyb'.agg;simp only[IV.cells] at rx2' ry2' hy4;have hw':IntKind.i64.wrap (((j+1:Nat):Int)-1)=(j:Nat):=by rw[w64 (by omega) (by omega)];omega
     have o1:(c+1)*4+j*4=(c+1+j)*4:=by omega
     have o2:(c+1)*4+(j+1)*4=(c+1+j+1)*4:=by omega
     have hj1:j+1<m.length-(c+1):=by omega
     have hj0:j<m.length-(c+1):=by omega
     have hds':=EP ha' hb';simp only[go_sem,zE,zB,zA,zM,zS,zL,reduceCtorEq,f0,f1,f5,f6,f7,lt_i hj1,hj0,hj1,hw',iNn,b_,o1,o2,rx1',ry1',rx2',ry2',fits,ce];refine hcall'.mono ?_;rintro _ _ ⟨rfl,rfl⟩;by_cases he':eB b' a'=0
     ·rw[if_pos he',List.append_nil] at hds';simp only[go_sem,zE,zB,zA,zM,zS,zL,reduceCtorEq,dEt he',f0,f1,f5,f6,f7,dC hj1 (show m.length-(c+1)<=281474976710656 by omega)];exact⟨k,cs,zs,rfl,rfl,hcl,hct,by rw[show c+1+(j+1)+1=c+1+j+1+1 by omega,hds'];exact hz,hzl,by omega,hzm,λi hi=>hcs i (by omega)⟩
     ·rw[if_neg he'] at hds';have hkm:k<m.length:=by omega
      have hk4:k*4+4<=cs.length:=by omega
      obtain⟨s1,s2,s3,s4⟩:=st4 hy4 hk4;simp only[go_sem,zE,zB,zA,zM,zS,zL,reduceCtorEq,dEf he',f0,f1,f5,f6,f7,hj1,hkm,iNn,b_,o2,ry1',ry2',hk4,fits,dC hkm (show m.length<=281474976710656 by omega),dC hj1 (show m.length-(c+1)<=281474976710656 by omega)];refine⟨k+1,fB cs (k*4) [.raw (.int .u8 q1),.raw (.string q2),.sl q3 q4,.sl q5 q6],zs++[.agg [.raw (.int .u8 q1),.raw (.string q2),.sl q3 q4,.sl q5 q6]],rfl,by rw[eN];rfl,s1.trans hcl,?_,?_,by simp[hzl],by omega,λz hz=>by
        rcases List.mem_append.1 hz with hz|hz
        ·exact hzm z hz
        ·rw[List.mem_singleton.1 hz];exact lMg hky',λi hi=>(s4 i (by omega)).trans (hcs i (by omega))⟩
      ·rw[show (k+1)*4=k*4+4 by omega,s3,hct,List.flatMap_append];simp[IV.cells]
      ·rw[show c+1+(j+1)+1=c+1+j+1+1 by omega,hds'];exact hz.append ⟨_,_,rfl,hyb0,rfl⟩
    ·rintro fr st2 _ ⟨⟨k,cs,zs,f5,rfl,hcl,hct,hz,hzl,hk,hzm,hcs⟩,f0,f1,f6,f7,rfl⟩;have hkm:k<m.length:=by omega
     have hck:¬ cap=k:=by omega
     have hmk:¬ m.length-k=0:=by omega
     have hlen4:m.length*4<=cs.length:=by rw[hcl,lLa,gD _ hf4];omega
     have hk4:k*4+(m.length-k)*4<=cs.length:=by omega
     obtain⟨s1,s2,s3,s4⟩:=st4 (cs:=cs) (k:=k) (l:=List.replicate ((m.length-k)*4) .junk) (List.length_replicate ..) hk4;rw[show m.length-(c+1)-1+1=m.length-(c+1) by omega] at f7;simp only[go_sem,zE,zB,zA,zM,zS,zL,reduceCtorEq,f0,f1,f5,f6,f7,dF (nLi _),uN (show k<=m.length by omega),yZ (show k<=cap by omega),hcap,hck,hmk,b_,hk4,ite_self,Nat.zero_mul];rw[show c+1+(m.length-(c+1)-1)+1=m.length by omega,lTl] at hz;exact c_ ⟨k,fB cs (k*4) (List.replicate ((m.length-k)*4) .junk),zs,rfl,by rw[eN];rfl,s1.trans hcl,s2.trans hct,hz,hzl,by omega,hzm⟩
   ·rw[if_neg he,hd] at hds;simp only[go_sem,zE,zB,zA,zM,zS,zL,reduceCtorEq,dEf he,f0,f1,f5,dC hlt' (show m.length<=281474976710656 by omega)];rw[hds,dE hbm]
  ·rintro fr st1 _ ⟨hd,f0,f1,f5,rfl,rfl⟩;rw[show m.length-1+1=m.length by omega] at hd f5;simp only[go_sem,zE,zB,zA,zM,zS,zL,reduceCtorEq,f0,f5,dF (nLi _)];exact c_ (same m.length hd rfl)
theorem Nn (a b:Fm)(x y:IV)(hx:IsFm a x)(hy:IsFm b y)(st:ISt):ICall prog gl 85 [x,y] st (λr st'=>r=.raw (.bool (decide (eB a b=0)))/\st'=st):=Ef gl a b x y hx hy st
end Go.Proofs.Tryz
namespace Go.Proofs.Tryz
open Go Go.Iv
open Classical in
noncomputable def setF (l:List Fm):List Fm:=if h:∃r,SetF l r then h.choose else []
theorem mW {l r:List Fm}(h:SetF l r):setF l=r:=by
 have he:∃r,SetF l r:=⟨r,h⟩
 unfold setF;rw[dif_pos he];exact SetF.one he.choose_spec h
theorem EV:setF []=[]:=mW ⟨List.Pairwise.nil,λ_=>Iff.rfl⟩
theorem EW {α:Type}(p q:α->Bool)(h:∀x,¬ (p x=true/\q x=true)):∀l:List α,(l.filter p).length+(l.filter q).length<=l.length
 | []=>by simp
 | a::l=>by
  have ih:=EW p q h l;grind
theorem y7:∀l:List Fm,∃r,SetF l r/\r.length<=l.length
 | []=>⟨[],⟨List.Pairwise.nil,λ_=>Iff.rfl⟩,Nat.le_refl _⟩
 | a::l=>by
  obtain⟨r,⟨h1,h2⟩,h3⟩:=y7 l;by_cases ha:a∈r
  ·refine⟨r,⟨h1,λf=>?_⟩,by simp only[List.length_cons];omega⟩;grind
  ·have hx:∀x∈r,eB x a<0\/eB a x<0:=λx hx=>by
    have h0:eB a x≠0:=λh=>ha (((j6 a x).1 h)▸hx);have hn:=p8 a x;omega
   have h4:=EW (λx=>decide (eB x a<0)) (λx=>decide (eB a x<0)) (λx ⟨q1,q2⟩=>by
    have q1:=of_decide_eq_true q1;have q2:=of_decide_eq_true q2;have hn:=p8 a x;omega) r
   refine⟨r.filter (λx=>decide (eB x a<0))++a::r.filter (λx=>decide (eB a x<0)),⟨?_,λf=>?_⟩,by simp only[lLa,List.length_cons];omega⟩
   ·refine List.pairwise_append.2 ⟨h1.filter _,List.pairwise_cons.2 ⟨λy hy=>?_,h1.filter _⟩,λx hxm y hy=>?_⟩
    ·grind
    ·have hxa:=of_decide_eq_true (List.mem_filter.1 hxm).2;rcases List.mem_cons.1 hy with rfl|hy
     ·exact hxa
     ·exact oI _ _ _ hxa (of_decide_eq_true (List.mem_filter.1 hy).2)
   ·grind
theorem No (l:List Fm):SetF l (setF l):=by
 obtain⟨r,h,_⟩:=y7 l;rw[mW h];exact h
end Go.Proofs.Tryz
namespace Go.Proofs.Tryz
open Go Go.Iv
set_option maxRecDepth 4000
variable (gl:Nat->Option IV)
noncomputable def il (l:List Fm):List Fm×Nat:=if l.all Fm.right then (setF (l.map lM),0) else ([],2)
theorem EX (qf:FuncId)(t:Tag)(ht:t.cap=.nil)(st:ISt):ICall prog gl 161 [.sl t [],.fn (.func qf) [] []] st (λr st'=>(∃t',r=.sl t' []/\t'.cap=.nil)/\st'=st):=by
 obtain⟨fs,c,es⟩:=t;obtain rfl:c=.nil:=ht;refine ICall.intro (c:=cf prog gl [22,27,42,47] []) func161 rfl (by show _<=66;simp) (by kernel_rfl) ?_;simp only[go_sem,zL,reduceCtorEq,show decide (((0:Nat):Int)<2)=true from rfl];exact c_ ⟨⟨_,rfl,rfl⟩,rfl⟩
theorem Np {l:List IV}(h:∀x∈l,dfr x):dfrs l:=by
 induction l with
 | nil=>trivial
 | cons x l ih=>exact⟨h x (by simp),ih λy hy=>h y (by simp[hy])⟩
theorem Nq {l m:List Fm}(hp:m.Perm l)(h:m.Pairwise (λx y=>¬ eB y x<0))(hl:0<l.length):0<(setF l).length:=by
 rw[mW (uM _ m hp h)];have:=hp.length_eq
 match m,this with
 | [],e=>simp at e;omega
 | a::m,_=>simp[dd]
theorem EY (G:Gl gl)(T:Gt gl)(l:List Fm)(tg:Tag)(xs:List IV)(htg:okEs tg 4)(hx:IsFms l xs)(hs:fitL l)(hlen:l.length<=1099511627776)(st:ISt) :
  ICall prog gl 154 [.sl tg xs] st (λr st'=>(∃t ys,r=.tup [.sl t ys,.raw (.int .i64 (il l).2)]/\okEs t 4/\appT (il l).1.length t/\IsFmsD (il l).1 ys)/\st'=st):=by
 refine rT (ICall.mono (K:=λy st'=>(l.all Fm.right=false/\y=.tup [.sl ⟨true,.nil,0⟩ [],.raw (.int .i64 2)]/\st'=st)\/(l=[]/\(∃t,y=.tup [.sl t [],.raw (.int .i64 0)]/\t.cap=.nil)/\st'=st) \/
   (l.all Fm.right=true/\∃g cap k cs zs,st g=none/\k<=cap/\cap*4<=cs.length/\cs.take (k*4)=zs.flatMap IV.cells/\0<k/\IsFmsD (setF (l.map lM)) zs/\zs.length=k/\k<=l.length/\y=.tup [.raw (.slice (some ⟨g,0,none⟩) k cap),.raw (.int .i64 0)]/\st'=st.put g (some (.box cs)))) ?_ ?_)
 ·refine ICall.intro (c:=cf prog gl [26] []) func154 rfl (by show _<=32;simp) (by kernel_rfl) ?_;simp only[go_sem,reduceCtorEq,hx.len];intro _;refine dj l.length (λk fr st' ds=>(l.take k).all Fm.right=true/\((k=0/\fr 4=.iv (.sl ⟨true,.nil,0⟩ [])/\st'=st)\/(0<k/\∃g cap cs zs,st g=none/\k<=cap/\cap*4<=cs.length/\cs.take (k*4)=zs.flatMap IV.cells/\IsFmsD ((l.take k).map lM) zs/\zs.length=k/\fr 4=.iv (.raw (.slice (some ⟨g,0,none⟩) k cap))/\st'=st.put g (some (.box cs)))) /\
   fr 9=.iv (.sl tg xs)/\fr 10=.iv (.raw (.int .i64 l.length))/\fr 11=.iv (.raw (.int .i64 k))/\ds=[]) ?_ ?_ ?_
  ·simp only[go_sem,zE,zM];rfl
  ·rintro k fr st1 _ hlt ⟨hall,hor,f9,f10,f11,rfl⟩;obtain⟨a,ha⟩:=dB hlt;obtain⟨y,hky,hya⟩:=hx.get ha;have ham:=lMg ha;have hcall:=LC gl G T a y hya (hs a ham) st1;obtain⟨y1,y2,y3,y4,y5,y6,rfl⟩:=hya.agg;simp only[go_sem,zE,zB,zA,zL,reduceCtorEq,f9,f10,f11,lt_i hlt,dz htg,iNn,hky,fits];refine hcall.mono ?_;rintro _ st1 ⟨y',rfl,hyD,rfl⟩;have hy':=hyD.1;unfold lN at hy';cases hr:a.right
   ·rw[hr] at hy';simp only[bFt,if_false] at hy';obtain⟨z1,z2,z3,z4,z5,z6,rfl⟩:=hy'.agg;unfold lN;rw[hr];simp only[bFt,if_false];simp only[go_sem,zE,zA,zL,show decide (((2:Nat):Int)=0)=false from rfl];have hsub:subSt st st1:=by
     rcases hor with⟨_,_,h⟩|⟨_,g,cap,cs,zs,hg,_,_,_,_,_,_,h⟩
     ·rw[h];exact subSt.refl _
     ·rw[h];exact ff hg
    exact ez hsub (.inl ⟨List.all_eq_false.2 ⟨a,ham,by simp[hr]⟩,rfl,rfl⟩)
   ·rw[hr] at hy';simp only[if_true] at hy';rw[show (lN a).1=lM a by unfold lN;rw[hr];simp] at hyD;have hy0:=hyD;obtain⟨z1,z2,z3,z4,z5,z6,rfl⟩:=hy'.agg;unfold lN;rw[hr];simp only[if_true];have hall':(l.take (k+1)).all Fm.right=true:=by
     rw[dE ha,List.all_append,hall];simp[hr]
    rcases hor with⟨rfl,f4,rfl⟩|⟨hk0,g,cap,cs,zs,hg,h1,h2,h3,hz,hzl,f4,rfl⟩
    ·simp only[go_sem,zE,zA,zM,zL,show decide (((0:Nat):Int)=0)=true from rfl,fits,f4,dW];intro g cap;refine d_ λhg=>?_;obtain⟨hg,hcap⟩:=hg;simp only[go_sem,zE,f9,f10,f11,show IntKind.i64.wrap (((0:Nat):Int)+1)=((1:Nat):Int) from rfl];have hl1:(l.take 1).map lM=[lM a]:=by
      have:=dE ha;simp only[Nat.zero_add,List.take_zero,List.nil_append] at this;rw[this];rfl
     refine⟨by simpa using hall',.inr ⟨by omega,g,cap,_,[.agg [.raw (.int .u8 z1),.raw (.string z2),.sl z3 z4,.sl z5 z6]],hg,hcap,?_,?_,by rw[hl1];exact IsFmsD.one hy0,rfl,rfl,rfl⟩⟩
     ·simp[IV.cells];omega
     ·simp[IV.cells]
    ·simp only[go_sem,zE,zA,zM,zL,show decide (((0:Nat):Int)=0)=true from rfl,fits,f4,dW];have hkk:k<=1099511627776:=by omega
     refine kU _ _ _ (b_ ..) (by simp[fits,IV.one]) ⟨by show (_+1)*72<=_;omega,by show _+1<=_;omega⟩ ⟨h1,h2⟩ (by simp[IV.cells]) ?_;intro g' cap' cs' hg' q1 q2 q3;have hst':((st.put g (some (.box cs))).put g none).put g' (some (.box cs'))=st.put g' (some (.box cs')):=by
      funext c;simp only[ISt.put_apply];split
      ·rfl
      ·split
       ·subst_vars;exact hg.symm
       ·rfl
     have hg1:st g'=none:=by
      rcases hg' with rfl|h
      ·exact hg
      ·rw[ISt.put_apply] at h;split at h
       ·cases h
       ·exact h
     simp only[go_sem,zE,f9,f10,f11,dC hlt (show l.length<=281474976710656 by omega)];refine⟨hall',.inr ⟨by omega,g',cap',cs',zs++[.agg [.raw (.int .u8 z1),.raw (.string z2),.sl z3 z4,.sl z5 z6]],hg1,q1,q2,?_,?_,by simp[hzl],rfl,hst'⟩⟩
     ·rw[List.flatMap_append,<- h3];exact q3
     ·rw[dE ha,List.map_append];exact hz.append (IsFmsD.one hy0)
  ·rintro fr st1 _ ⟨hall,hor,f9,f10,f11,rfl⟩;rw[lTl] at hall hor;rcases hor with⟨h0,f4,rfl⟩|⟨hk0,g,cap,cs,zs,hg,h1,h2,h3,hz,hzl,f4,rfl⟩
   ·simp only[go_sem,zE,zA,f4,f10,f11,dF (nLi _)];refine (EN gl _ rfl _).mono ?_;rintro _ _ ⟨rfl,rfl⟩;simp only[go_sem,zE,zA,f4];refine (EX gl _ _ rfl _).mono ?_;rintro _ _ ⟨⟨t',rfl,ht'⟩,rfl⟩;simp only[go_sem,zE];exact c_ (.inr (.inl ⟨List.eq_nil_of_length_eq_zero h0,⟨t',rfl,ht'⟩,rfl⟩))
   ·have hcs:cs=zs.flatMap IV.cells++cs.drop (l.length*4):=by rw[<- h3,List.take_append_drop]
    have hzl':=hz.len;have hsort:=EM gl (l.map lM) zs (cs.drop (l.length*4)) hz.1 (by rintro rfl;simp at hzl;omega) (by omega) g cap (st.put g (some (.box cs))) (by rw[b_,<- hcs]);rw[hzl] at hsort;simp only[go_sem,zE,zA,f4,f10,f11,dF (nLi _)];refine hsort.mono ?_;rintro _ _ ⟨rfl,m,ys,hm,hperm,hpw,hym,rfl⟩;have hml:m.length=l.length:=by rw[hperm.length_eq,List.length_map]
    have hcom:=EU gl 85 (by kernel_rfl) (Nn gl) m ys (cs.drop (l.length*4)) hm (by omega) g cap (by omega) ((st.put g (some (.box cs))).put g (some (.box (ys.flatMap IV.cells++cs.drop (l.length*4))))) (b_ ..);rw[hml] at hcom;simp only[go_sem,zE,zA,f4];refine hcom.mono ?_;rintro _ _ ⟨k,cs2,zs2,rfl,rfl,hl2,ht2,hz2,hzl2,hk2,hzm2⟩;rw[eN,eN];simp only[go_sem,zE];have hyl:(ys.flatMap IV.cells).length=l.length*4:=by rw[gD _ λy hy=>rV (nS hm y hy),hm.len,hml]
    rw[lLa,hyl,List.length_drop] at hl2;exact c_ (.inr (.inr ⟨hall,g,cap,k,cs2,zs2,hg,by omega,by omega,ht2,by
     have h1:=Nq hperm hpw (by rw[List.length_map];exact hk0);rw[mW (uM _ m hperm hpw),<- hz2.len,hzl2] at h1;exact h1,by rw[mW (uM _ m hperm hpw)];exact⟨hz2,Np λz hz'=>B9 hz.2 (hym z (hzm2 z hz'))⟩,hzl2,hk2,rfl,rfl⟩))
 ·rintro y st' (⟨ha,rfl,rfl⟩|⟨rfl,⟨t,rfl,ht⟩,rfl⟩|⟨ha,g,cap,k,cs,zs,hg,hc1,hc2,hct,hk0,hz,hzl,hkl,rfl,rfl⟩)
  ·have hn:il l=([],2):=by unfold il;rw[ha];rfl
   exact .inl ⟨⟨_,_,by rw[hn];rfl,.inl rfl,.inl rfl,by rw[hn];exact IsFmsD.nil⟩,rfl⟩
  ·have hn:il []=([],0):=by unfold il;simp only[List.all_nil,if_true,List.map_nil,EV]
   exact .inl ⟨⟨_,_,by rw[hn];rfl,.inl ht,.inl ht,by rw[hn];exact IsFmsD.nil⟩,rfl⟩
  ·have hn:il l=(setF (l.map lM),0):=by unfold il;rw[ha];rfl
   exact .inr ⟨g,k,cap,cs,4,zs,_,hg,rfl,rfl,hzl,by omega,hc1,hc2,hct,λz hz'=>rV (nS hz.1 z hz'),⟨_,_,by rw[hn];rfl,.inr rfl,.inr ⟨by rw[hn];simp only;rw[<- hz.len,hzl];exact hk0,rfl,g,rfl⟩,by rw[hn];exact hz⟩,rfl⟩
noncomputable def SetS (s:Sq):Sq×Nat :=
 if (il s.l).2≠0 then (⟨[],[]⟩,(il s.l).2) else if (il s.r).2≠0 then (⟨[],[]⟩,(il s.r).2) else (⟨(il s.l).1,(il s.r).1⟩,0)
theorem Nr (G:Gl gl)(T:Gt gl)(s:Sq)(x:IV)(hx:IsSq s x)(hs:fW s)(hl:s.l.length<=1099511627776/\s.r.length<=1099511627776)(st:ISt) :
  ICall prog gl 119 [x] st (λr st'=>(∃y,r=.tup [y,.raw (.int .i64 (SetS s).2)]/\IsSqD (SetS s).1 y)/\st'=st):=by
 obtain⟨t1,x1,t2,x2,rfl,e1,i1,e2,i2⟩:=hx;have h1:=λst=>EY gl G T s.l t1 x1 e1 i1 hs.1 hl.1 st;have h2:=λst=>EY gl G T s.r t2 x2 e2 i2 hs.2 hl.2 st;unfold SetS;refine iI func119 ?_;simp only[go_sem,zE,zA];refine (h1 _).mono ?_;rintro _ st ⟨⟨t3,y1,rfl,e3,a3,j1⟩,rfl⟩;by_cases q1:(il s.l).2=0
 ·rw[if_neg (by omega)];simp only[go_sem,zE,zA,q1,show decide (((0:Nat):Int)=0)=true from rfl];refine (h2 _).mono ?_;rintro _ st ⟨⟨t4,y2,rfl,e4,a4,j2⟩,rfl⟩;by_cases q2:(il s.r).2=0
  ·rw[if_neg (by omega)];simp only[go_sem,zE,zA,zL,q2,show decide (((0:Nat):Int)=0)=true from rfl,fits];exact c_ ⟨⟨_,rfl,_,_,_,_,rfl,e3,a3,j1,e4,a4,j2⟩,rfl⟩
  ·rw[if_pos q2];simp only[go_sem,zE,zA,zL,show decide ((((il s.r).2:Nat):Int)=0)=false from dEf (by omega)];exact c_ ⟨⟨_,rfl,_,_,_,_,rfl,.inl rfl,.inl rfl,IsFmsD.nil,.inl rfl,.inl rfl,IsFmsD.nil⟩,rfl⟩
 ·rw[if_pos q1];simp only[go_sem,zE,zA,zL,show decide ((((il s.l).2:Nat):Int)=0)=false from dEf (by omega)];exact c_ ⟨⟨_,rfl,_,_,_,_,rfl,.inl rfl,.inl rfl,IsFmsD.nil,.inl rfl,.inl rfl,IsFmsD.nil⟩,rfl⟩
theorem Ns (G:Gl gl)(T:Gt gl)(s:Sq)(x:IV)(hx:IsSq s x)(hs:fW s)(hl:s.l.length<=1099511627776/\s.r.length<=1099511627776)(st:ISt) :
  ICall prog gl 119 [x] st (λr st'=>(∃y,r=.tup [y,.raw (.int .i64 (SetS s).2)]/\IsSq (SetS s).1 y)/\st'=st) :=
 (Nr gl G T s x hx hs hl st).mono λr st' ⟨⟨y,h1,h2⟩,h3⟩=>⟨⟨y,h1,h2.w⟩,h3⟩
noncomputable def lQ (ca rule:Nat)(main:Fm)(term:Tm)(name:ByteArray):List Sq×Nat :=
 if !gv ca then ([],2) else match rowS ca rule with
  | none=>([],191)
  | some r=>fH ca rule r main term name
theorem Nt (G:Gl gl)(T:Gt gl)(ca rule:Nat)(main:Fm)(y:IV)(hy:IsFm main y)(hm:main.size<=1000000)(term:Tm)(z:IV)(hz:IsTm term z)(ht:term.size<=1000000)(name:ByteArray)(st:ISt) :
  ICall prog gl 214 [.raw (.int .u8 ca),.raw (.int .u8 rule),y,z,.raw (.string name)] st (AdRD st (lQ ca rule main term name)):=by
 have hA:=λr hr st=>Ev gl G T ca rule r hr main y hy hm term z hz ht name st;have hkn:=λst=>yP gl ca st;obtain⟨o3,n3,t3,x3,t4,x4,rfl⟩:=hy.agg;obtain⟨v,un,tz,xz,rfl⟩:=yq hz;unfold lQ;refine iI func214 ?_;simp only[go_sem,zE,zA,reduceCtorEq];refine (hkn _).mono ?_;rintro _ st ⟨rfl,rfl⟩;cases hk:gv ca
 ·simp only[go_sem,zE];exact c_ ⟨_,_,rfl,.inl rfl,.inl rfl,rfl,rfl⟩
 simp only[go_sem,zA,reduceCtorEq];refine (Ep gl ca _).mono ?_;rintro _ _ ⟨b,hb,rfl,rfl⟩;cases hr:rowS ca rule with
 | none =>
  simp only[go_sem,zE,zA,zL,b_,uI,hr,Option.map_none,sL];exact ez (ff hb) ⟨_,_,rfl,.inl rfl,.inl rfl,rfl,rfl⟩
 | some r =>
  have hcall:=hA r hr;obtain⟨rl,rr,op,asks⟩:=r;simp only[go_sem,zE,zA,zL,reduceCtorEq,b_,uI,hr,Option.map_some,vJ,rwI];refine (hcall _).mono ?_;rintro _ _ ⟨tg,xs,rfl,he,hap,hxs,rfl⟩;simp only[go_sem,zE];exact ez (ff hb) ⟨_,_,rfl,he,hap,hxs,rfl⟩
theorem Nu (G:Gl gl)(T:Gt gl)(ca rule:Nat)(main:Fm)(y:IV)(hy:IsFm main y)(hm:main.size<=1000000)(term:Tm)(z:IV)(hz:IsTm term z)(ht:term.size<=1000000)(name:ByteArray)(st:ISt) :
  ICall prog gl 214 [.raw (.int .u8 ca),.raw (.int .u8 rule),y,z,.raw (.string name)] st (AdR st (lQ ca rule main term name)) :=
 (Nt gl G T ca rule main y hy hm term z hz ht name st).mono AdRD.w
end Go.Proofs.Tryz
namespace Go.Proofs.Tryz
open Go Go.Iv
theorem EZ {ca:Nat}{s:Sq}{rule:Nat}{main:Fm}{term:Tm}{name:ByteArray}(h:(fA ca s rule main term name).2=0):ev ca s=true:=by
 unfold fA at h;grind
theorem oK:∀ {l:List Tr}{a:Tr},a∈l->a.steps<=fj l
 | b::l,a,h=>by
  simp only[fj];rcases List.mem_cons.1 h with rfl|h
  ·omega
  ·have:=oK h;omega
theorem wW2 {l:List Fm}{f:Fm}:hasF l f=true↔∃g∈l,eqF f g=true:=by simp[hasF]
theorem wYi {l m:List Fm}:allF l m=true↔∀f∈l,hasF m f=true:=by simp[allF]
theorem Nv {ca:Nat}{s:Sq}{rule:Nat}{main:Fm}{term:Tm}{name:ByteArray}{r:Rw}(h1:ev ca s=true)(h2:rowS ca rule=some r)(h3:(fH ca rule r main term name).2=0)
  (h4:r.left=true->hasF s.l main=true) (h5:r.right=true->hasF s.r main=true) (h6:r.asks=2->mj s name=false):fA ca s rule main term name=((fH ca rule r main term name).1,0):=by
 unfold fA;grind
theorem Nw {ca:Nat}{s:Sq}{rule:Nat}{main:Fm}{term:Tm}{name:ByteArray}(h:(fA ca s rule main term name).2=0) :
  ∃r,ev ca s=true/\rowS ca rule=some r/\(fH ca rule r main term name).2=0/\(r.left=true->hasF s.l main=true)/\(r.right=true->hasF s.r main=true)/\(r.asks=2->mj s name=false) /\
   fA ca s rule main term name=((fH ca rule r main term name).1,0):=by
 have hv:=EZ h;cases hr:rowS ca rule with
 | none=>unfold fA at h;rw[hv,hr] at h;simp at h
 | some r =>
  have key:(fH ca rule r main term name).2=0/\(r.left&&!hasF s.l main)=false/\(r.right&&!hasF s.r main)=false/\(decide (r.asks=2)&&mj s name)=false:=by
   unfold fA at h;grind
  obtain⟨k1,k2,k3,k4⟩:=key;have q4:r.left=true->hasF s.l main=true:=λhl=>by rw[hl] at k2;simpa using k2
  have q5:r.right=true->hasF s.r main=true:=λhl=>by rw[hl] at k3;simpa using k3
  have q6:r.asks=2->mj s name=false:=λhl=>by rw[hl] at k4;simpa using k4
  exact⟨r,hv,rfl,k1,q4,q5,q6,Nv hv hr k1 q4 q5 q6⟩
section
variable {ca rule:Nat}{s:Sq}{f:Fm}{u:Tm}{n:ByteArray}{sub:List Tr}(h:(gS ca (.mk rule s f u n sub)).2=0)(h1:s.l.length<64)(h2:s.r.length<64)
include h h1 h2
end
section
variable {ca rule:Nat}{s:Sq}{f:Fm}{u:Tm}{n:ByteArray}{sub:List Tr}(h:(gS ca (.mk rule s f u n sub)).2=0)
include h
end
theorem vQf {ca:Nat}{f:Fm}:fmB ca f=true↔f.ok=true/\f.size<=400/\f.deep<=40/\opsB ca f=true:=by
 unfold fmB Fm.right;grind
theorem gF {α:Type}{c:Prop} [Decidable c]{a r:α}{x:Option α}(h:(if c then some a else x)=some r):(c/\r=a)\/(¬c/\x=some r):=by
 grind
theorem Nx {ca rule:Nat}{r:Rw}(h:rowS ca rule=some r):(rule=1/\r=⟨true,true,0,0⟩)\/(rule=2/\r=⟨true,false,2,0⟩)\/(rule=3/\r=⟨true,false,3,0⟩)\/(rule=4/\r=⟨false,true,3,0⟩)\/(rule=5/\r=⟨true,false,4,0⟩)\/(rule=6/\r=⟨false,true,4,0⟩) \/
  (rule=7/\r=⟨true,false,5,0⟩)\/(rule=8/\r=⟨false,true,5,0⟩)\/(rule=9/\r=⟨true,false,6,0⟩)\/(rule=10/\r=⟨false,true,6,0⟩)\/(rule=11/\r=⟨true,false,7,0⟩)\/(rule=12/\r=⟨false,true,7,0⟩) \/
  (rule=13/\r=⟨true,false,8,1⟩)\/(rule=14/\r=⟨false,true,8,2⟩)\/(rule=15/\r=⟨true,false,9,2⟩)\/(rule=16/\r=⟨false,true,9,1⟩)\/(rule=17/\r=⟨false,false,0,0⟩)\/(rule=18/\r=⟨false,true,5,0⟩):=by
 unfold rowS rowK at h;rcases gF h with⟨⟨hc,hr⟩,hq⟩|⟨_,h⟩
 ·subst hr;subst hq;simp
 rcases gF h with⟨⟨hc,hr⟩,hq⟩|⟨_,h⟩
 ·subst hr;subst hq;simp
 rcases gF h with⟨⟨hc,hr⟩,hq⟩|⟨_,h⟩
 ·subst hr;subst hq;simp
 rcases gF h with⟨⟨hc,hr⟩,hq⟩|⟨_,h⟩
 ·subst hr;subst hq;simp
 rcases gF h with⟨⟨hc,hr⟩,hq⟩|⟨_,h⟩
 ·subst hr;subst hq;simp
 rcases gF h with⟨hr,hq⟩|⟨_,h⟩
 ·subst hr;subst hq;simp
 rcases gF h with⟨hr,hq⟩|⟨_,h⟩
 ·subst hr;subst hq;simp
 rcases gF h with⟨hr,hq⟩|⟨_,h⟩
 ·subst hr;subst hq;simp
 rcases gF h with⟨hr,hq⟩|⟨_,h⟩
 ·subst hr;subst hq;simp
 rcases gF h with⟨hr,hq⟩|⟨_,h⟩
 ·subst hr;subst hq;simp
 rcases gF h with⟨hr,hq⟩|⟨_,h⟩
 ·subst hr;subst hq;simp
 rcases gF h with⟨hr,hq⟩|⟨_,h⟩
 ·subst hr;subst hq;simp
 rcases gF h with⟨hr,hq⟩|⟨_,h⟩
 ·subst hr;subst hq;simp
 rcases gF h with⟨hr,hq⟩|⟨_,h⟩
 ·subst hr;subst hq;simp
 grind
theorem Ny {ca rule:Nat}{r:Rw}(h:rowS ca rule=some r):(rule=18->ca=2)/\(13<=rule->rule<=16->ca=3):=by
 unfold rowS rowK at h;rcases gF h with⟨⟨hc,hr⟩,hq⟩|⟨_,h⟩
 ·omega
 rcases gF h with⟨⟨hc,hr⟩,hq⟩|⟨_,h⟩
 ·omega
 rcases gF h with⟨⟨hc,hr⟩,hq⟩|⟨_,h⟩
 ·omega
 rcases gF h with⟨⟨hc,hr⟩,hq⟩|⟨_,h⟩
 ·omega
 rcases gF h with⟨⟨hc,hr⟩,hq⟩|⟨_,h⟩
 ·omega
 rcases gF h with⟨hr,hq⟩|⟨_,h⟩
 ·omega
 rcases gF h with⟨hr,hq⟩|⟨_,h⟩
 ·omega
 rcases gF h with⟨hr,hq⟩|⟨_,h⟩
 ·omega
 rcases gF h with⟨hr,hq⟩|⟨_,h⟩
 ·omega
 rcases gF h with⟨hr,hq⟩|⟨_,h⟩
 ·omega
 grind
end Go.Proofs.Tryz
namespace Go.Proofs.Tryz
open Go Go.Iv
set_option maxRecDepth 4000
variable (gl:Nat->Option IV)
mutual
def iq (ca:Nat):Fm->Bool
 | .mk op _ us sub=>(!decide (9<op)&&(!decide (7<op) || decide (ca=3))&&(!decide (op=1) || !decide (0<us.length) || decide (ca=3)))&&iQ ca sub
def iQ (ca:Nat):List Fm->Bool
 | []=>true
 | a::l=>iq ca a&&iQ ca l
end
theorem E0 {op:Nat}{n:ByteArray}{a b:Nat}(h:fV op n a b=true):1<=op/\(op≠1->a=0):=by
 unfold fV at h;split at h
 all_goals (first|(simp only[bAt,dTe] at h;refine⟨by decide,λh1=>?_⟩;first|exact absurd rfl h1|exact h.1.2)|cases h)
mutual
theorem uO (ca:Nat):∀f:Fm,f.ok=true->iq ca f=opsB ca f
 | .mk op n us sub,h=>by
  simp only[Fm.ok,bAt] at h;obtain⟨h1,h2⟩:=E0 h.1.1;have ih:=E1 ca sub h.2;simp only[iq,opsB,ih];congr 1;have hus:us.isEmpty=decide (us.length=0):=by cases us<;>simp
  rw[hus,Bool.eq_iff_iff];simp only[bAt,Bool.or_eq_true,Bool.not_eq_true',dTe,decide_eq_false_iff_not];by_cases hc:ca=3
  ·simp only[hc,if_true,or_true,and_true,true_or];omega
  ·simp only[hc,if_false,or_false,false_or];by_cases ho:op=1
   ·simp only[ho,nTf,false_or];omega
   ·have:=h2 ho;simp only[ho,nFt,true_or,and_true,this];omega
theorem E1 (ca:Nat):∀l:List Fm,gj l=true->iQ ca l=gE ca l
 | [],_=>rfl
 | a::l,h=>by
  simp only[gj,bAt] at h;simp only[iQ,gE,uO ca a h.1,E1 ca l h.2]
end
theorem E2 (ca:Nat):∀l m:List Fm,iQ ca (l++m)=(iQ ca l&&iQ ca m)
 | [],m=>by simp[iQ]
 | a::l,m=>by simp only[List.cons_append,iQ,E2 ca l m,Bool.and_assoc]
theorem Nz {ca:Nat}{l:List Fm}{k:Nat}{a:Fm}(h:l[k]?=some a):iQ ca (l.take (k+1))=(iQ ca (l.take k)&&iq ca a):=by
 rw[dE h,E2];simp[iQ]
theorem E3 {ca:Nat}{l:List Fm}{a:Fm}(h:a∈l)(ha:iq ca a=false):iQ ca l=false:=by
 induction l with
 | nil=>cases h
 | cons b l ih =>
  simp only[iQ];rcases List.mem_cons.1 h with rfl|h
  ·rw[ha];rfl
  ·rw[ih h,Bool.and_false]
def roC (ca:Nat)(f:Fm):Prop:=∀(x:IV) (_:IsFm f x) (_:f.size<=1099511627776) (st:ISt),ICall prog gl 148 [.raw (.int .u8 ca),x] st (λr st'=>r=.raw (.bool (iq ca f))/\st'=st)
theorem NB (ca:Nat)(o:Nat)(n:ByteArray)(us:List Tm)(sub:List Fm)(IH:∀a∈sub,roC gl ca a):roC gl ca (.mk o n us sub):=by
 intro x hx hs st;obtain⟨t1,x1,t2,x2,rfl,ho,e1,i1,e2,i2⟩:=hx.mk;simp only[Fm.size] at hs;have hlsz:=kX sub;have d9:decide ((9:Int)<((o:Nat):Int))=decide (9<o):=by rw[decide_eq_decide];omega
 have d7:decide ((7:Int)<((o:Nat):Int))=decide (7<o):=by rw[decide_eq_decide];omega
 have d1:decide (((o:Nat):Int)=1)=decide (o=1):=by rw[decide_eq_decide];omega
 have d3:decide (((ca:Nat):Int)=3)=decide (ca=3):=by rw[decide_eq_decide];omega
 have du:decide ((0:Int)<((us.length:Nat):Int))=decide (0<us.length):=by rw[decide_eq_decide];omega
 refine iI func148 ?_;cases q9:decide (9<o)
 case true =>
  simp only[go_sem,zE,zA,d9,q9];intros;exact c_ ⟨by simp only[iq,q9,Bool.not_true,Bool.false_and],rfl⟩
 cases q7:decide (7<o)<;>cases q3:decide (ca=3)<;>cases q1:decide (o=1)<;>cases qu:decide (0<us.length)
 all_goals
  first
   | (simp only[go_sem,zE,zA,reduceCtorEq,i1.len,d9,d7,d1,d3,du,q9,q7,q3,q1,qu]
      intros;refine dj sub.length (λk fr st' ds=>iQ ca (sub.take k)=true/\fr 0=.iv (.raw (.int .u8 ca))/\fr 3=.box [.raw (.int .u8 o),.raw (.string n),.sl t1 x1,.sl t2 x2]/\fr 5=.iv (.raw (.int .i64 k))/\st'=st/\ds=[]) ?_ ?_ ?_
      ·simp only[go_sem,zE,reduceCtorEq];exact⟨rfl,rfl⟩
      ·rintro k fr st1 _ hlt ⟨hk,f0,f3,f5,rfl,rfl⟩;obtain⟨a,ha⟩:=dB hlt;obtain⟨z,hkz,hzz⟩:=i2.get ha;obtain⟨h1,h2⟩:=jr ha;have hcall:=λst=>IH a (lMg ha) z hzz (by omega) st;obtain⟨o5,n5,t5,x5,t6,x6,rfl⟩:=hzz.agg;simp only[go_sem,zE,zB,zA,reduceCtorEq,f0,f3,f5,i2.len,lt_i hlt,dz e2,iNn,hkz,fits];intro _;refine (hcall _).mono ?_;rintro _ st2 ⟨rfl,rfl⟩;cases hra:iq ca a
       ·simp only[go_sem];exact c_ ⟨by simp only[iq,E3 (lMg ha) hra,Bool.and_false],rfl⟩
       ·simp only[go_sem,zE,reduceCtorEq,f0,f3,f5,dC hlt (show sub.length<=281474976710656 by omega)];rw[Nz ha,hk,hra];rfl
      ·rintro fr st1 _ ⟨hk,f0,f3,f5,rfl,rfl⟩;rw[lTl] at hk;simp only[go_sem,zE,f3,f5,i2.len,dF (nLi _)];intro _;exact c_ ⟨by unfold iq;rw[hk,q9,q7,q3,q1,qu];rfl,rfl⟩
      done)
   | (simp only[go_sem,zE,zA,reduceCtorEq,i1.len,d9,d7,d1,d3,du,q9,q7,q3,q1,qu]
      intros;exact c_ ⟨by unfold iq;rw[q9,q7,q3,q1,qu];rfl,rfl⟩)
theorem E4 (ca:Nat):∀(k:Nat) (f:Fm),SizeOf.sizeOf f<k->roC gl ca f
 | 0,f,h=>by omega
 | k+1,.mk o n us sub,h=>NB gl ca o n us sub (λa ha=>E4 ca k a (by
   have:=lSm ha;simp only[Fm.mk.sizeOf_spec] at h;omega))
