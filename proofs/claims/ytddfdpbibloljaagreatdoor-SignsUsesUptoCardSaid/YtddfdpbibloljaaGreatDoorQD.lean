/- Walks: the check of a tableau. -/
import Derived.Test.YtddfdpbibloljaaGreatDoorQC
set_option linter.all false
open Nat renaming reduceEqDiff → zE,reduceBEq → zB,reduceAdd → zA,reduceMul → zM,reduceSub → zS,reduceLeDiff → zL
namespace Go.Proofs.Tryz
open Go Go.Iv
set_option maxRecDepth 4000
variable (gl:Nat->Option IV)
theorem vV6 {l:List Mk}(hl:GoodT l){m:Mk}(hm:m∈l):m.f.op<=7:=by
 have h:=(yJz.1 (hl m hm).1).2.2.2;obtain⟨is,w,⟨o,n,us,sub⟩⟩:=m;simp only[opsB,bAt,dTe] at h;have:=h.1.1.2;show o<=7;simpa using this
theorem vZ9 {m:Mk}(h:m.f.op<=7):(yZx m).1<=2:=by
 by_cases h0:(yZx m).1=0
 ·omega
 ·obtain⟨r,hr,_,hT⟩:=yWn h0;have:=(zJc (gl:=λ_=>none) hr h).2.2.1;rw[hT];omega
theorem wUl (l:List Mk)(hl:GoodT l)(tb:Nat)(x:IV)(hx:IsBr l tb x)(m:Mk)(c:Bool)(w:Int)(sub:List Nd)(z:IV)(hz:IsNd (.mk m c w sub) z)(st:ISt)(es:List (Value×IV))(hb:st tb=some (.map .sg es))(ht:zXs es) :
  ICall prog gl 110 [.cptr x,.cptr z] st (λr st'=>r=.raw (.int .i64 (yUw l m c w sub.length))/\st'=st):=by
 obtain⟨o,n,t1,x1,t2,x2,ts,zs,rfl,hf,hts,hzs⟩:=hz.mk;have hy:IsMk m _:=⟨_,_,_,_,_,_,rfl,hf⟩
 have hfind:=λst hb=>zJs gl m _ hy st tb es hb ht;have hhas:=λst=>wKd gl l tb x hx m _ hy st;have hcl:=λst=>xXd gl l tb x hx m _ hy st;obtain⟨t,xs,t',v,rfl,_⟩:=hx;unfold brI at hhas hcl ⊢;unfold yUw;refine iI func110 ?_;simp only[go_sem,zE,zB,zA,zM,zS,zL,reduceCtorEq,fits];refine (hfind _ hb).mono ?_;rintro _ st ⟨rfl,rfl⟩;simp only[go_sem,zE,zB,zA,zM,zS,zL,reduceCtorEq,rowF,fits];refine (hhas _).mono ?_;rintro _ st ⟨rfl,rfl⟩;cases hh:hasT l m
 ·simp only[go_sem,zE,zB,zA,zM,zS,zL,reduceCtorEq];exact yQ0 ⟨by simp,rfl⟩
 have hop:=vV6 hl (zJ6.1 hh);have hk2:=vZ9 hop;have hlist:=λst hb=>zGz gl m _ hy hop w st tb es hb ht;have d3:decide (((yZx m).1:Int)=3)=false:=dEf (by omega);have d4:decide (((yZx m).1:Int)=4)=false:=dEf (by omega);cases c
 ·by_cases hk:(yZx m).1=0
  ·have d0:decide (((yZx m).1:Int)=0)=true:=dEt (by omega);simp only[go_sem,zE,zB,zA,zM,zS,zL,reduceCtorEq,d0];exact yQ0 ⟨by simp[hk],rfl⟩
  have d0:decide (((yZx m).1:Int)=0)=false:=dEf (by omega);by_cases hw:w=0
  ·subst hw;simp only[go_sem,zE,zB,zA,zM,zS,zL,reduceCtorEq,d0,d3,d4,decide_true,fits];refine (hlist _ hb).mono ?_;rintro _ st ⟨tg,ls,rfl,htg,hls,rfl⟩;by_cases hlen:sub.length=(yQs m 0).length
   ·have dl:decide ((sub.length:Int)=((yQs m 0).length:Int))=true:=dEt (by omega);simp only[go_sem,zE,zB,zA,zM,zS,zL,reduceCtorEq,hls.len,hzs.len,dl,fits];intros;exact yQ0 ⟨by simp[hk,hlen],rfl⟩
   ·have dl:decide ((sub.length:Int)=((yQs m 0).length:Int))=false:=dEf (by omega);simp only[go_sem,zE,zB,zA,zM,zS,zL,reduceCtorEq,hls.len,hzs.len,dl,fits];intros;exact yQ0 ⟨by simp[hk,hlen],rfl⟩
  ·have dw:decide (w=0)=false:=dEf hw;simp only[go_sem,zE,zB,zA,zM,zS,zL,reduceCtorEq,d0,d3,d4,dw,fits];exact yQ0 ⟨by simp[hk,hw],rfl⟩
 ·simp only[go_sem,zE,zB,zA,zM,zS,zL,reduceCtorEq,fits];refine (hcl _).mono ?_;rintro _ st ⟨rfl,rfl⟩;cases hc:yYf l m
  ·simp only[go_sem,zE,zB,zA,zM,zS,zL,reduceCtorEq];exact yQ0 ⟨by simp,rfl⟩
  by_cases hw:w=0
  ·subst hw;by_cases hlen:sub.length=0
   ·have dl:decide ((sub.length:Int)=0)=true:=dEt (by omega);simp only[go_sem,zE,zB,zA,zM,zS,zL,reduceCtorEq,hzs.len,dl,decide_true,fits];intros;exact yQ0 ⟨by simp[hlen],rfl⟩
   ·have dl:decide ((sub.length:Int)=0)=false:=dEf (by omega);simp only[go_sem,zE,zB,zA,zM,zS,zL,reduceCtorEq,hzs.len,dl,decide_true,fits];intros;exact yQ0 ⟨by simp[hlen],rfl⟩
  ·have dw:decide (w=0)=false:=dEf hw;simp only[go_sem,zE,zB,zA,zM,zS,zL,reduceCtorEq,dw,fits];exact yQ0 ⟨by simp[hw],rfl⟩
def PlI (p:List Nat)(a:IV)(st:ISt):Prop:=(∃t,a=.sl t []/\t.cap=.nil/\p=[]) \/
 ∃g cap cs,a=.raw (.slice (some ⟨g,0,none⟩) p.length cap)/\st g=some (.box cs)/\p.length<=cap/\cap<=cs.length/\cs.take p.length=plI p
def offP (a:IV)(st:ISt):ISt:=match a with
 | .raw (.slice (some ad) _ _)=>st.put ad.block none
 | _=>st
theorem vQu (a:IV)(st:ISt):subSt (offP a st) st:=by
 unfold offP;split
 ·intro c o hc;rw[ISt.put_apply] at hc;split at hc
  ·cases hc
  ·exact hc
 ·exact subSt.refl _
theorem vQm (p:List Nat)(a:IV)(st:ISt)(h:PlI p a st)(hl:p.length<=1099511627776):ICall prog gl 62 [a] st (λr st'=>(∃t',r=.sl t' (plI p)/\okEs t' 1)/\st'=offP a st):=by
 rcases h with⟨t,rfl,ht,rfl⟩|⟨g,cap,cs,rfl,hg,h1,h2,h3⟩
 ·exact xXl gl t ht st
 ·have hj:join (st.put g none) (emp.put g (some (.box cs)))=st:=by
   funext b;by_cases hb:b=g
   ·subst hb;rw[yQx (ISt.put_same ..)];exact hg.symm
   ·rw[yZ0 (by rw[yQb hb];rfl),yQb hb]
  have:=wVe gl p (.raw (.slice (some ⟨g,0,none⟩) p.length cap)) (emp.put g (some (.box cs))) (st.put g none) (.inr ⟨g,cap,cs,rfl,rfl,h1,h2,h3⟩) hl (λb hb=>by
   by_cases hbg:b=g
   ·subst hbg;exact ISt.put_same ..
   ·rw[yQb hbg] at hb;exact absurd rfl hb)
  rw[hj] at this;exact this
theorem IsMks.aged:∀ {l:List Mk}{xs:List IV},IsMks l xs->IsMks l (ages xs)
 | [],_,rfl=>rfl
 | a::l,_,⟨y,ys,rfl,hy,h⟩=>by
  obtain⟨o,n,t,xs,t',ys',rfl,hf⟩:=hy;have h1:=hf.aged;simp only[age,ages] at h1;refine⟨age _,ages ys,rfl,?_,h.aged⟩;simp only[age,ages];exact⟨o,n,_,_,_,_,rfl,h1⟩
theorem IsBr.aged {l:List Mk}{tb:Nat}{t:Tag}{xs:List IV}{t':Tag}{v:Int}(h:IsBr l tb (.agg (brI tb t xs t' v))):IsBr l tb (.agg (ages (brI tb t xs t' v))):=by
 obtain⟨t1,x1,t2,v2,he,h1,h2,h3,h4,h5⟩:=h;simp only[brI,IV.agg.injEq,List.cons.injEq,IV.sl.injEq,IV.raw.injEq,Value.int.injEq,true_and,and_true] at he;obtain⟨⟨rfl,rfl⟩,rfl,rfl⟩:=he;exact⟨⟨false,t.cap,t.es⟩,ages xs,⟨false,t'.cap,t'.es⟩,v,by simp only[brI,ages,age],yJq h1,h2,h3.aged,yJq h4,h5⟩
theorem xW6 (p:List Nat)(k:Nat):plI (p++[k])=plI p++[.raw (.int .i64 (k:Int))]:=by simp[plI]
theorem PlI.back {p:List Nat}{k g cap:Nat}{st:ISt}{n:Nat}(hn:n=p.length+1)(h:PlI (p++[k]) (.raw (.slice (some ⟨g,0,none⟩) n cap)) st):PlI p (.raw (.slice (some ⟨g,0,none⟩) p.length cap)) st:=by
 rcases h with⟨t,h,_⟩|⟨g',cap',cs,h,h1,h2,h3,h4⟩
 ·cases h
 ·simp only[IV.raw.injEq,Value.slice.injEq,Option.some.injEq,Addr.mk.injEq,and_true,lLa,List.length_singleton] at h;obtain⟨rfl,_,rfl⟩:=h;rw[lLa,List.length_singleton] at h2 h4;refine .inr ⟨g,cap,cs,rfl,h1,by omega,h3,?_⟩;have:=congrArg (List.take p.length) h4;rw[List.take_take,Nat.min_eq_left (by omega),xW6,List.take_left' (by simp[plI])] at this;exact this
def CkOk (n:Nd):Prop:=∀(l:List Mk) (tb:Nat) (x:IV) (p:List Nat) (a z:IV) (st:ISt) (es:List (Value×IV)),GoodT l->IsBr l tb x->IsNd n z->l.length+2*n.nodes<=900000->p.length+n.nodes<=900000->PlI p a st->(offP a st) tb=some (.map .sg es)->zXs es →
 ICall prog gl 72 [.cptr x,.cptr z,a] st (λr st'=>(∃tg,r=.tup [.sl tg (plI (yXo l p n).1),.raw (.int .i64 (yXo l p n).2)]/\okEs tg 1)/\subSt (offP a st) st'/\((yXo l p n).2=0->PlI p a st'))
theorem yJr:∀ {l:List Nd}{a:Nd},a∈l->a.nodes<=yQp l
 | b::l,a,h=>by
  simp only[yQp];rcases List.mem_cons.1 h with rfl|h
  ·omega
  ·have:=yJr h;omega
theorem xUv (m:Mk)(c:Bool)(w:Int)(sub:List Nd)(IH:∀a∈sub,CkOk gl a):CkOk gl (.mk m c w sub):=by
 intro l tb x p a z st es hl hx hz hb1 hb2 hp htb hes;have hoff:=vQu a st;have hw:=wUl gl l hl tb x hx m c w sub z hz st es (hoff _ _ htb) hes;obtain⟨o,n,t1,x1,t2,x2,ts,zs,rfl,hf,hts,hzs⟩:=hz.mk;have hy:IsMk m _:=⟨_,_,_,_,_,_,rfl,hf⟩
 simp only[Nd.nodes] at hb1 hb2;have hpo:∀k,plOf k (.iv a)=none:=λk=>by rcases hp with⟨t,rfl,_⟩|⟨g,cap,cs,rfl,_⟩<;>rfl
 have hio:ivOf (.iv a)=some a:=by rcases hp with⟨t,rfl,_⟩|⟨g,cap,cs,rfl,_⟩<;>rfl
 unfold yXo;refine ICall.intro (c:=cf prog gl [11,63] [(6,[0,1,2,3,4,5,6,7,8,9,10,11,12,15,13,14])]) func72 rfl (by show _<=72;simp) (by kernel_rfl) ?_;simp only[go_sem,zE,zB,zA,zM,zS,zL,reduceCtorEq];refine hw.mono ?_;rintro _ st ⟨rfl,rfl⟩;by_cases h0:yUw l m c w sub.length=0
 case neg =>
  have d0:decide (((yUw l m c w sub.length:Nat):Int)=0)=false:=dEf (by omega);simp only[go_sem,zE,zB,zA,zM,zS,zL,reduceCtorEq,d0,hpo,hio];refine (vQm gl p a st hp (by omega)).mono ?_;rintro _ st' ⟨⟨t',rfl,ht'⟩,rfl⟩;simp only[go_sem,zE,zB,zA,zM,zS,zL,reduceCtorEq,fits];rw[if_pos h0];exact yQ0 ⟨⟨_,rfl,ht'⟩,subSt.refl _,λhc=>absurd hc h0⟩
 rw[if_neg (by simpa using h0)];obtain⟨hm,_,hfi,rfl,hlen⟩:=yWv h0;rw[h0];cases c
 case true =>
  simp only[go_sem,zE,zB,zA,zM,zS,zL,reduceCtorEq,show decide (((0:Nat):Int)=0)=true from rfl,fits];exact yQ0 ⟨⟨_,rfl,.inl rfl⟩,hoff,hp⟩
 have hop:=vV6 hl hm;have hlist:=λst hb=>zGz gl m _ hy hop 0 st tb es hb hes;obtain⟨_,_,hgood,_⟩:=zQy (hl m hm).1 (hfi rfl) 0;have hmw:=(hl m hm).2;simp only[bFt,if_false] at hlen ⊢;obtain⟨t,xs,t',v,hxe,hxr⟩:=id hx;simp only[go_sem,zE,zB,zA,zM,zS,zL,reduceCtorEq,show decide (((0:Nat):Int)=0)=true from rfl,fits,hxe,brI];refine (hlist _ (hoff _ _ htb)).mono ?_;rintro _ st ⟨tg,ls,rfl,htg,hls,rfl⟩;simp only[go_sem,zE,zB,zA,zM,zS,zL,reduceCtorEq,fits,hls.len];obtain⟨S,hS⟩:∃S,S=offP a st:=⟨_,rfl⟩
 rw[<- hS] at htb hoff ⊢;refine LoopC.ctr (yQs m 0).length (λk fr st' ds=>(yJ2 l p 0 (yQs m 0) sub=yJ2 l p k ((yQs m 0).drop k) (sub.drop k))/\subSt S st'/\PlI p a st'/\fr 0=.iv (.cptr x)/\fr 1=.iv (.cptr (.agg [.raw (.bool m.is),.raw (.int .i64 m.w),.raw (.int .u8 o),.raw (.string n),.sl t1 x1,.sl t2 x2,.raw (.bool false),.raw (.int .i64 0),.sl ts zs]))/\fr 2=.iv a/\fr 39=.iv (.sl tg ls)/\fr 40=.iv (.raw (.int .i64 (yQs m 0).length))/\fr 41=.iv (.raw (.int .i64 k))/\ds=[]) ?_ ?_ ?_
 ·simp only[go_sem,zE,zB,zA,zM,zS,zL,reduceCtorEq,hxe,brI];exact⟨hoff,hp,rfl⟩
 ·rintro k fr st1 _ hlt ⟨hck,hsub,hp,f0,f1,f2,f39,f40,f41,rfl⟩;obtain⟨q,hq⟩:=yQ4 hlt;obtain⟨tq,zq,hkq,htq,hzq⟩:=hls.get hq;obtain⟨nk,hnk⟩:=yQ4 (l:=sub) (k:=k) (by omega);obtain⟨zk,hkk,hzk⟩:=hzs.get hnk;have hq2:=yG2 m 0 q (lMg hq);have hbel:=λst hb=>wKg gl l tb x hx m _ hy hop q tq zq htq hzq (by omega) st es hb hes;simp only[go_sem,zE,zB,zA,zM,zS,zL,reduceCtorEq,f0,f1,f2,f39,f40,f41,lt_i hlt,yQ3 htg,iNn,hkq,fits,hpo,hio];refine (hbel _ (hsub _ _ htb)).mono ?_;rintro _ st1 ⟨hbr,rfl⟩;obtain⟨t4,x4,t5,v5,rfl,hbr5⟩:=id hbr;unfold brI;simp only[go_sem,zE,zB,zA,zM,zS,zL,reduceCtorEq,fits];refine λb=>yQc λhbn=>?_;have hplen:(plI p).length=p.length:=by simp[plI]
  rcases hp with⟨ta,rfl,hta,hp0⟩|⟨g0,cap,cs,rfl,hg0,hc1,hc2,hc3⟩
  ·obtain⟨fs,ca,ea⟩:=ta;obtain rfl:ca=.nil:=hta;simp only[go_sem,zE,zB,zA,zM,zS,zL,reduceCtorEq,f0,f1,f2,f39,f40,f41,fits,yQ3 hts,iNn,hkk,ISt.put_same,yQ8,yQ1];refine λg cap'=>yQc λhg=>?_;obtain⟨hg,hcap⟩:=hg;have hgb:g≠b:=λhq=>by rw[hq,ISt.put_same] at hg;cases hg
   have hg1:st1 g=none:=by rw[yQb hgb] at hg;exact hg
   have hb4:((st1.put b (some (.box (brI tb t4 x4 t5 v5)))).put g (some (.box (List.flatMap IV.cells [IV.raw (.int .i64 (k:Int))]++List.replicate ((cap' - 1)*1) IV.junk)))) b=some (.box (brI tb t4 x4 t5 v5)):=by rw[yQb hgb.symm,ISt.put_same]
   have hPl:PlI (p++[k]) (.raw (.slice (some ⟨g,0,none⟩) 1 cap')) (((st1.put b (some (.box (brI tb t4 x4 t5 v5)))).put g (some (.box (List.flatMap IV.cells [IV.raw (.int .i64 (k:Int))]++List.replicate ((cap' - 1)*1) IV.junk)))).put b none) :=
    .inr ⟨g,cap',_,by rw[hp0];rfl,by rw[yQb hgb,ISt.put_same],by rw[hp0];exact hcap,by simp[IV.cells];omega,by rw[hp0];rfl⟩
   have hst4:∀c o',c≠b->c≠g->st1 c=some o'->((st1.put b (some (.box (brI tb t4 x4 t5 v5)))).put g (some (.box (List.flatMap IV.cells [IV.raw (.int .i64 (k:Int))]++List.replicate ((cap' - 1)*1) IV.junk)))) c=some o':=λc o' h1 h2 h3=>by rw[yQb h2,yQb h1];exact h3
   unfold brI at hb4 hPl hst4;generalize (st1.put b _).put g _=st4 at hb4 hPl hst4 ⊢;have hS4:subSt S (offP (.raw (.slice (some ⟨g,0,none⟩) 1 cap')) (st4.put b none)):=λc o' hc=>by
    have hc1:=hsub c o' hc;have hcb:c≠b:=λhq=>by rw[hq,hbn] at hc1;cases hc1
    have hcg:c≠g:=(λhq=>by rw[hq,hg1] at hc1;cases hc1)
    show ((st4.put b none).put g none) c=_;rw[yQb hcg,yQb hcb];exact hst4 c o' hcb hcg hc1
   have hcall:=IH nk (lMg hnk) (yZg l q) tb _ (p++[k]) _ zk (st4.put b none) es (hl.adds λy hy=>⟨(hgood q (lMg hq) y hy).1,(hgood q (lMg hq) y hy).2.trans hmw⟩) hbr.aged hzk
    (by have h8:=yXc q l;have h9:=yJr (lMg hnk);omega) (by rw[lLa,List.length_singleton];have h9:=yJr (lMg hnk);omega) hPl (hS4 _ _ htb) hes
   refine (ICall.frz1 hb4 hcall).mono ?_;rintro _ st5 ⟨⟨tg5,rfl,htg5⟩,hsub5,hok5⟩;have hkey:yJ2 l p k ((yQs m 0).drop k) (sub.drop k)=if (yXo (yZg l q) (p++[k]) nk).2≠0 then yXo (yZg l q) (p++[k]) nk else yJ2 l p (k+1) ((yQs m 0).drop (k+1)) (sub.drop (k+1)):=by
    rw[List.drop_eq_getElem_cons hlt,List.drop_eq_getElem_cons (show k<sub.length by omega),(lGs hq).2,(lGs hnk).2];simp only[yJ2]
   by_cases he:(yXo (yZg l q) (p++[k]) nk).2=0
   ·have d:decide (((yXo (yZg l q) (p++[k]) nk).2:Int)=0)=true:=dEt (by omega);simp only[go_sem,zE,zB,zA,zM,zS,zL,reduceCtorEq,f0,f1,f2,f39,f40,f41,d,yQf hlt (show (yQs m 0).length<=281474976710656 by have:=yY8 m 0;omega)];refine⟨?_,hS4.trans hsub5,(.inl ⟨_,rfl,rfl,hp0⟩)⟩;rw[hck,hkey,if_neg (by simpa using he)]
   ·have d:decide (((yXo (yZg l q) (p++[k]) nk).2:Int)=0)=false:=dEf (by omega);simp only[go_sem,zE,zB,zA,zM,zS,zL,reduceCtorEq,f0,f1,f2,f39,f40,f41,d];rw[hck,hkey,if_pos he];exact yQ0 ⟨⟨tg5,rfl,htg5⟩,hS4.trans hsub5,λhc=>absurd hc he⟩
  ·have hgb0:g0≠b:=λhq=>by rw[hq,hbn] at hg0;cases hg0
   have hS0:S g0=none:=by rw[hS];exact ISt.put_same ..
   simp only[go_sem,zE,zB,zA,zM,zS,zL,reduceCtorEq,f0,f1,f2,f39,f40,f41,fits,yQ3 hts,iNn,hkk,ISt.put_same,yQ8,yQ1];refine wKm _ _ _ (cs:=cs) (by rw[yQb hgb0];exact hg0) (by simp[fits,IV.one]) ⟨by simp only[List.length_singleton];omega,by simp only[List.length_singleton];omega⟩ ⟨hc1,by simp only;omega⟩ (by simp[IV.cells]) ?_;intro g cap' cs' hg hn hcap htk;simp only[List.length_singleton] at hn htk;have hgb:g≠b:=λhq=>by
    rcases hg with⟨h,_⟩|h
    ·exact hgb0 (h▸hq)
    ·rw[hq,ISt.put_same] at h;cases h
   simp only[go_sem,zE,zB,zA,zM,zS,zL,reduceCtorEq,f0,f1,f2,f39,f40,f41,fits];have hb4:((st1.put b (some (.box (brI tb t4 x4 t5 v5)))).put g (some (.box cs'))) b=some (.box (brI tb t4 x4 t5 v5)):=by rw[yQb hgb.symm,ISt.put_same]
   have hPl:PlI (p++[k]) (.raw (.slice (some ⟨g,0,none⟩) (p.length+1) cap')) (((st1.put b (some (.box (brI tb t4 x4 t5 v5)))).put g (some (.box cs'))).put b none) :=
    .inr ⟨g,cap',cs',by rw[lLa];rfl,by rw[yQb hgb,ISt.put_same],by rw[lLa];exact hn,by simpa using hcap,by
     rw[lLa,xW6,<- hc3];simpa[IV.cells] using htk⟩
   have hst4:∀c o',c≠b->c≠g->st1 c=some o'->((st1.put b (some (.box (brI tb t4 x4 t5 v5)))).put g (some (.box cs'))) c=some o':=λc o' h1 h2 h3=>by rw[yQb h2,yQb h1];exact h3
   have hg':(g=g0/\cap'=cap)\/(g≠g0/\st1 g=none):=by
    rcases hg with h|h
    ·exact .inl h
    ·rw[yQb hgb] at h;exact .inr ⟨λhq=>(by rw[hq,hg0] at h;cases h),h⟩
   unfold brI at hb4 hPl hst4;generalize (st1.put b _).put g _=st4 at hb4 hPl hst4 ⊢;have hcg0:∀c o',S c=some o'->st1 c=some o'->c≠g:=λc o' h1 h2 hq=>by
    rcases hg' with⟨rfl,_⟩|⟨_,h⟩
    ·rw[hq,hS0] at h1;cases h1
    ·rw[hq,h] at h2;cases h2
   have hback:∀st5,PlI (p++[k]) (.raw (.slice (some ⟨g,0,none⟩) (p.length+1) cap')) st5->subSt (offP (.raw (.slice (some ⟨g,0,none⟩) (p.length+1) cap')) (st4.put b none)) st5->PlI p (.raw (.slice (some ⟨g0,0,none⟩) p.length cap)) st5:=λst5 h hs=>by
    have h5:=h.back rfl;rcases hg' with⟨rfl,rfl⟩|⟨hne,_⟩
    ·exact h5
    ·exact .inr ⟨g0,cap,cs,rfl,hs g0 _ (by show ((st4.put b none).put g none) g0=_;rw[yQb hne.symm,yQb hgb0];exact hst4 g0 _ hgb0 hne.symm hg0),hc1,hc2,hc3⟩
   have hS4:subSt S (offP (.raw (.slice (some ⟨g,0,none⟩) (p.length+1) cap')) (st4.put b none)):=λc o' hc=>by
    have hc1:=hsub c o' hc;have hcb:c≠b:=λhq=>by rw[hq,hbn] at hc1;cases hc1
    have hcg:c≠g:=(hcg0 c o' hc hc1)
    show ((st4.put b none).put g none) c=_;rw[yQb hcg,yQb hcb];exact hst4 c o' hcb hcg hc1
   have hcall:=IH nk (lMg hnk) (yZg l q) tb _ (p++[k]) _ zk (st4.put b none) es (hl.adds λy hy=>⟨(hgood q (lMg hq) y hy).1,(hgood q (lMg hq) y hy).2.trans hmw⟩) hbr.aged hzk
    (by have h8:=yXc q l;have h9:=yJr (lMg hnk);omega) (by rw[lLa,List.length_singleton];have h9:=yJr (lMg hnk);omega) hPl (hS4 _ _ htb) hes
   refine (ICall.frz1 hb4 hcall).mono ?_;rintro _ st5 ⟨⟨tg5,rfl,htg5⟩,hsub5,hok5⟩;have hkey:yJ2 l p k ((yQs m 0).drop k) (sub.drop k)=if (yXo (yZg l q) (p++[k]) nk).2≠0 then yXo (yZg l q) (p++[k]) nk else yJ2 l p (k+1) ((yQs m 0).drop (k+1)) (sub.drop (k+1)):=by
    rw[List.drop_eq_getElem_cons hlt,List.drop_eq_getElem_cons (show k<sub.length by omega),(lGs hq).2,(lGs hnk).2];simp only[yJ2]
   by_cases he:(yXo (yZg l q) (p++[k]) nk).2=0
   ·have d:decide (((yXo (yZg l q) (p++[k]) nk).2:Int)=0)=true:=dEt (by omega);simp only[go_sem,zE,zB,zA,zM,zS,zL,reduceCtorEq,f0,f1,f2,f39,f40,f41,d,yQf hlt (show (yQs m 0).length<=281474976710656 by have:=yY8 m 0;omega)];refine⟨?_,hS4.trans hsub5,(hback st5 (hok5 he) hsub5)⟩;rw[hck,hkey,if_neg (by simpa using he)]
   ·have d:decide (((yXo (yZg l q) (p++[k]) nk).2:Int)=0)=false:=dEf (by omega);simp only[go_sem,zE,zB,zA,zM,zS,zL,reduceCtorEq,f0,f1,f2,f39,f40,f41,d];rw[hck,hkey,if_pos he];exact yQ0 ⟨⟨tg5,rfl,htg5⟩,hS4.trans hsub5,λhc=>absurd hc he⟩
 ·rintro fr st1 _ ⟨hck,hsub,hp,f0,f1,f2,f39,f40,f41,rfl⟩;simp only[go_sem,zE,zB,zA,zM,zS,zL,reduceCtorEq,f40,f41,yQo (nLi _)];rw[hck,List.drop_length,List.drop_eq_nil_of_le (by omega)];exact yQ0 ⟨⟨_,rfl,.inl rfl⟩,hsub,λ_=>hp⟩
end Go.Proofs.Tryz
namespace Go.Proofs.Tryz
open Go Go.Iv
mutual
def Tr.leaves:Tr->Nat
 | .mk _ _ _ _ _ sub=>if sub.isEmpty then 1 else yZ2 sub
def yZ2:List Tr->Nat
 | []=>0
 | a::l=>Tr.leaves a+yZ2 l
end
mutual
def Nd.branches:Nd->Nat
 | .mk _ _ _ sub=>if sub.isEmpty then 1 else yQv sub
def yQv:List Nd->Nat
 | []=>0
 | a::l=>Nd.branches a+yQv l
end
theorem xQr (l:List Mk)(m:Mk)(c:Bool):¬ yU1 l m c=17:=by
 unfold yU1 yVg
 repeat' split
 all_goals decide
mutual
theorem zWl:∀(n:Nd)(l:List Mk)(p:List Nat),(yXo l p n).2=0->(yW1 l n).steps=n.nodes/\Tr.leaves (yW1 l n)=n.branches/\(yW1 l n).cuts=0
 | .mk m c w sub,l,p,h=>by
  unfold yXo at h;split at h
  ·rename_i h1;exact absurd h h1
  rename_i h1;obtain⟨hm,hcl,hfind,rfl,hk⟩:=yWv (Decidable.not_not.1 h1);unfold yW1;cases c
  ·simp only[bFt,if_false] at h hk;obtain⟨h2,h3,h4⟩:=zJo sub (yQs m 0) l p 0 hk.symm h;have he:(yJb l (yQs m 0) sub).isEmpty=sub.isEmpty:=by
    have:=zZ4 l (yQs m 0) sub hk.symm;rw[Bool.eq_iff_iff,List.isEmpty_iff,List.isEmpty_iff,<- List.length_eq_zero_iff,<- List.length_eq_zero_iff,this,hk]
   simp only[bFt,if_false,Tr.steps,Nd.nodes,Tr.leaves,Nd.branches,Tr.cuts,h2,h3,h4,he,if_neg (xQr _ _ _),Nat.zero_add,and_self]
  ·simp only[if_true] at hk;obtain rfl:=List.eq_nil_of_length_eq_zero hk;simp only[if_true,Tr.steps,Nd.nodes,Tr.leaves,Nd.branches,Tr.cuts,yQj,yQp,yJa,if_neg (xQr _ _ _),Nat.zero_add,and_self,List.isEmpty_nil,if_true]
theorem zJo:∀(ns:List Nd)(qs:List (List Mk))(l:List Mk)(p:List Nat)(i:Nat),qs.length=ns.length->(yJ2 l p i qs ns).2=0->yQj (yJb l qs ns)=yQp ns/\yZ2 (yJb l qs ns)=yQv ns/\yJa (yJb l qs ns)=0
 | [],[],l,p,i,_,_=>⟨rfl,rfl,rfl⟩
 | [],_::_,l,p,i,h,_=>by simp at h
 | _::_,[],l,p,i,h,_=>by simp at h
 | n::ns,q::qs,l,p,i,hl,h=>by
  unfold yJ2 at h;split at h
  ·rename_i h1;exact absurd h h1
  rename_i h1;obtain⟨a1,a2,a3⟩:=zWl n _ _ (Decidable.not_not.1 h1);obtain⟨b1,b2,b3⟩:=zJo ns qs l p _ (by simpa using hl) h;simp only[yJb,yQj,yQp,yZ2,yQv,yJa,a1,a2,a3,b1,b2,b3,Nat.zero_add,and_self]
end
theorem xV3 {s:Sq}{n:Nd}(h:(yUg s n).2=0):yKu s=true/\n.nodes<=300/\(yXo (yZi s) [] n).2=0:=by
 unfold yUg at h;split at h
 ·cases h
 rename_i h1;split at h
 ·cases h
 rename_i h2;exact⟨by simpa using h1,by omega,h⟩
theorem yVk {s:Sq}{m:Mk}:m∈yZi s↔m.w=0/\((m.is=true/\m.f∈s.l)\/(m.is=false/\m.f∈s.r)):=by
 unfold yZi yVl;rw[yWe,List.mem_append,List.mem_map,List.mem_map];constructor
 ·rintro (h|⟨f,hf,rfl⟩|⟨f,hf,rfl⟩)
  ·cases h
  ·exact⟨rfl,.inl ⟨rfl,hf⟩⟩
  ·exact⟨rfl,.inr ⟨rfl,hf⟩⟩
 ·obtain⟨is,w,f⟩:=m;rintro⟨rfl,⟨rfl,h⟩|⟨rfl,h⟩⟩
  ·exact .inr (.inl ⟨f,h,rfl⟩)
  ·exact .inr (.inr ⟨f,h,rfl⟩)
theorem yGm {s:Sq}(h:yKu s=true):s.l.length<=16/\s.r.length<=16/\(∀f∈s.l,fmB 1 f=true)/\∀f∈s.r,fmB 1 f=true:=by
 unfold yKu at h;simp only[bAt,dTe,List.all_append,List.all_eq_true] at h;exact⟨h.1.1,h.1.2,h.2.1,h.2.2⟩
theorem yWl {s:Sq}(h:yKu s=true):GoodT (yZi s):=λm hm=>by
 obtain⟨_,_,h1,h2⟩:=yGm h;obtain⟨hw,h|h⟩:=yVk.1 hm
 ·exact⟨h1 _ h.2,hw⟩
 ·exact⟨h2 _ h.2,hw⟩
theorem yGn {s:Sq}{f:Fm}:(f∈yZd true (yZi s)↔f∈s.l)/\(f∈yZd false (yZi s)↔f∈s.r):=by
 constructor
 ·rw[yJf];constructor
  ·rintro⟨m,hm,hi,rfl⟩;obtain⟨_,h|h⟩:=yVk.1 hm
   ·exact h.2
   ·rw[hi] at h;cases h.1
  ·exact λh=>⟨⟨true,0,f⟩,yVk.2 ⟨rfl,.inl ⟨rfl,h⟩⟩,rfl,rfl⟩
 ·rw[yJf];constructor
  ·rintro⟨m,hm,hi,rfl⟩;obtain⟨_,h|h⟩:=yVk.1 hm
   ·rw[hi] at h;cases h.1
   ·exact h.2
  ·exact λh=>⟨⟨false,0,f⟩,yVk.2 ⟨rfl,.inr ⟨rfl,h⟩⟩,rfl,rfl⟩
theorem xGm {s:Sq}(h:yKu s=true):yXp (sqT (yZi s)) s=true/\yXp s (sqT (yZi s))=true:=by
 have hg:=yWl h;obtain⟨_,_,h1,h2⟩:=yGm h;exact⟨zJf (yWr (yGo hg true)) (yWr (yGo hg false)) (λf hf=>yGn.1.1 hf) (λf hf=>yGn.2.1 hf),
  zJf (yWr (List.all_eq_true.2 h1)) (yWr (List.all_eq_true.2 h2)) (λf hf=>yGn.1.2 hf) (λf hf=>yGn.2.2 hf)⟩
theorem yWz (b:Bool)(l q:List Mk):yZd b (l++q)=yZd b l++yZd b q:=by simp[yZd]
theorem xQm (b:Bool):∀(q l:List Mk),(yZd b (yZg l q)).length<=(yZd b l).length+(yZd b q).length
 | [],l=>by simp[yZg,yZd]
 | m::q,l=>by
  have h:=xQm b q (addT l m);have h1:(yZd b (addT l m)).length<=(yZd b l).length+(yZd b [m]).length:=by
   unfold addT;split
   ·omega
   ·rw[yWz,lLa];omega
  have h2:yZd b (m::q)=yZd b [m]++yZd b q:=yWz b [m] q;rw[h2,lLa];show (yZd b (yZg (addT l m) q)).length<=_;omega
theorem xGk (s:Sq):yZd true (yVl s)=s.l/\yZd false (yVl s)=s.r:=by
 have h1:∀(b c:Bool) (l:List Fm),yZd b (l.map (⟨c,0,·⟩))=if c=b then l else []:=λb c l=>by
  induction l with
  | nil=>cases b<;>cases c<;>rfl
  | cons a l ih =>
   cases b<;>cases c
   all_goals simp only[yZd,List.map_cons] at ih ⊢
   all_goals simp at ih ⊢
   all_goals exact ih
 unfold yVl;rw[yWz,yWz,h1,h1,h1,h1];simp
theorem wKh {s:Sq}(h:yKu s=true)(b:Bool):(yZd b (yZi s)).length<=16:=by
 obtain⟨h1,h2,_⟩:=yGm h;have:=xQm b (yVl s) [];have h0:(yZd b []).length=0:=rfl;obtain⟨e1,e2⟩:=xGk s;unfold yZi;cases b
 ·rw[e2] at this;omega
 ·rw[e1] at this;omega
theorem uYa {s:Sq}{n:Nd}(h:(yUg s n).2=0)(hb:bigT (yZi s) n=false) :
  yZp 1 (yW1 (yZi s) n)=([],0)/\(yW1 (yZi s) n).cuts=0/\(yXp (yW1 (yZi s) n).sq s&&yXp s (yW1 (yZi s) n).sq)=true/\(yW1 (yZi s) n).steps=n.nodes/\Tr.leaves (yW1 (yZi s) n)=n.branches:=by
 obtain⟨h1,h2,h3⟩:=xV3 h;obtain⟨a1,a2,a3⟩:=zWl n _ _ h3;obtain⟨w1,w2⟩:=xGm h1;have hc:(yZp 1 (yW1 (yZi s) n)).2=0:=zX3.2 ⟨rfl,by omega,xY2 n _ _ (yWl h1) h3 hb⟩;refine⟨?_,a3,by rw[xVk,w1,w2];rfl,a1,a2⟩;unfold yZp at hc ⊢;rw[show yK4 1=true from rfl] at hc ⊢;simp only[Bool.not_true,bFt,if_false] at hc ⊢;split
 ·omega
 ·rename_i h';rw[if_neg h'] at hc;exact yYc _ _ hc
end Go.Proofs.Tryz
namespace Go.Proofs.Tryz
open Go Go.Iv
set_option maxRecDepth 4000
variable (gl:Nat->Option IV)
theorem xX6:∀(k:Nat)(n:Nd),SizeOf.sizeOf n<k->CkOk gl n
 | 0,n,h=>by omega
 | k+1,.mk m c w sub,h=>xUv gl m c w sub λa ha=>xX6 k a (by
   have:=lSm ha;simp only[Nd.mk.sizeOf_spec] at h;omega)
theorem vX6 (n:Nd):CkOk gl n:=xX6 gl _ n (Nat.lt_succ_self _)
def mOp (f:Fm):Prop:=∀(x:IV) (_:IsFm f x) (st:ISt),ICall prog gl 69 [.raw (.int .u8 1),x] st (λr st'=>r=.raw (.bool (opsB 1 f))/\st'=st)
theorem wWp (o:Nat)(n:ByteArray)(us:List Tm)(sub:List Fm)(IH:∀a∈sub,mOp gl a):mOp gl (.mk o n us sub):=by
 intro x hx st;obtain⟨t1,x1,t2,x2,rfl,ho,ht1,hx1,ht2,hx2⟩:=hx.mk;refine iI func69 ?_;by_cases hu:us=[]
 case neg =>
  have hpos:0<us.length:=List.length_pos_iff.2 hu;have e4:decide ((0:Int)<(us.length:Int))=true:=dEt (by omega);simp only[go_sem,zE,zB,zA,zM,zS,zL,reduceCtorEq,e4,hx1.len,decide_true];intros;exact yQ0 ⟨by simp[opsB,hu],rfl⟩
 subst hu;have e4:decide ((0:Int)<((0:Nat):Int))=false:=rfl;by_cases h1:1<=o
 case neg =>
  have e1:decide ((o:Int)<1)=true:=dEt (by omega);simp only[go_sem,zE,zB,zA,zM,zS,zL,reduceCtorEq,e1,e4,hx1.len,decide_true];intros;exact yQ0 ⟨by simp[opsB,h1],rfl⟩
 have e1:decide ((o:Int)<1)=false:=dEf (by omega);by_cases h2:o<=7
 case neg =>
  have e2:decide ((7:Int)<(o:Int))=true:=dEt (by omega);simp only[go_sem,zE,zB,zA,zM,zS,zL,reduceCtorEq,e1,e2,e4,hx1.len,decide_true];intros;exact yQ0 ⟨by simp[opsB,h2],rfl⟩
 have e2:decide ((7:Int)<(o:Int))=false:=dEf (by omega);have hq:opsB 1 (.mk o n [] sub)=yK7 1 sub:=by simp[opsB,h1,h2]
 rw[hq];simp only[go_sem,zE,zB,zA,zM,zS,zL,reduceCtorEq,e1,e2,e4,hx1.len,hx2.len,decide_true];intros;refine LoopC.ctr sub.length (λk fr st' ds=>yK7 1 (sub.take k)=true/\fr 0=.iv (.raw (.int .u8 1))/\fr 39=.iv (.sl t2 x2)/\fr 40=.iv (.raw (.int .i64 sub.length))/\fr 41=.iv (.raw (.int .i64 k))/\st'=st/\ds=[]) ?_ ?_ ?_
 ·simp only[go_sem,zE,zB,zA,zM,zS,zL,reduceCtorEq];simp[yK7]
 ·rintro k fr st1 _ hlt ⟨hn,f0,f39,f40,f41,rfl,rfl⟩;obtain⟨a,ha⟩:=yQ4 hlt;obtain⟨y,hky,hy⟩:=hx2.get ha;have hcall:=IH a (lMg ha) y hy st1;obtain⟨o5,n5,t5,x5,t6,x6,rfl⟩:=hy.agg;simp only[go_sem,zE,zB,zA,zM,zS,zL,reduceCtorEq,f0,f39,f40,f41,lt_i hlt,yQ3 ht2,iNn,hky,fits];refine hcall.mono ?_;rintro _ _ ⟨rfl,rfl⟩;cases hr:opsB 1 a
  ·simp only[go_sem,zE,zB,zA,zM,zS,zL,reduceCtorEq];exact yQ0 ⟨by rw[zKe (lMg ha) hr],rfl⟩
  ·simp only[go_sem,zE,zB,zA,zM,zS,zL,reduceCtorEq,f0,f39,f40,f41,yQf hlt (show sub.length<=281474976710656 by omega)];rw[yQ7 ha,yKj,hn];simp[yK7,hr]
 ·rintro fr st1 _ ⟨hn,f0,f39,f40,f41,rfl,rfl⟩;rw[lTl] at hn;simp only[go_sem,zE,zB,zA,zM,zS,zL,reduceCtorEq,f40,f41,yQo (nLi _)];exact yQ0 ⟨by rw[hn],rfl⟩
theorem wXj:∀(k:Nat)(f:Fm),SizeOf.sizeOf f<k->mOp gl f
 | 0,f,h=>by omega
 | k+1,.mk o n us sub,h=>wWp gl o n us sub (λa ha=>wXj k a (by
   have:=lSm ha;simp only[Fm.mk.sizeOf_spec] at h;omega))
theorem vQz (f:Fm):mOp gl f:=wXj gl _ f (Nat.lt_succ_self _)
theorem zG9 (st:ISt):ICall prog gl 66 [.raw (.int .u8 1)] st (λr st'=>r=.raw (.bool true)/\st'=st):=by
 refine iI func66 ?_;simp only[go_sem,zE,zB,zA,zM,zS,zL,reduceCtorEq,show decide ((1:Int)<=1)=true from rfl,show decide ((1:Int)<=5)=true from rfl];exact yQ0 ⟨rfl,rfl⟩
theorem zGa (G:Gl gl)(s:Sq)(x:IV)(hx:IsSq s x)(hs:yGd s)(st:ISt):ICall prog gl 27 [.raw (.int .u8 1),x] st (λr st'=>r=.raw (.bool (yKu s))/\st'=st):=by
 obtain⟨t1,x1,t2,x2,rfl,e1,i1,e2,i2⟩:=hx;have hk:=λst=>zG9 gl st;unfold yKu;refine iI func27 ?_;simp only[go_sem,zE,zB,zA,zM,zS,zL,reduceCtorEq];refine (hk _).mono ?_;rintro _ st ⟨rfl,rfl⟩;by_cases h1:s.l.length<=16
 case neg =>
  have e:decide ((16:Int)<(s.l.length:Int))=true:=dEt (by omega);simp only[go_sem,zE,zB,zA,zM,zS,zL,reduceCtorEq,i1.len,e];intros;exact yQ0 ⟨by simp[h1],rfl⟩
 by_cases h2:s.r.length<=16
 case neg =>
  have e:decide ((16:Int)<(s.l.length:Int))=false:=dEf (by omega);have e':decide ((16:Int)<(s.r.length:Int))=true:=dEt (by omega);simp only[go_sem,zE,zB,zA,zM,zS,zL,reduceCtorEq,i1.len,i2.len,e,e'];intros;exact yQ0 ⟨by simp[h2],rfl⟩
 have e:decide ((16:Int)<(s.l.length:Int))=false:=dEf (by omega);have e':decide ((16:Int)<(s.r.length:Int))=false:=dEf (by omega);simp only[go_sem,zE,zB,zA,zM,zS,zL,reduceCtorEq,i1.len,i2.len,e,e',fits,yQd];intros;refine (zUq gl s.l s.r t1 t2 _ x1 x2 (.inr rfl) i1 i2 (by omega) _).mono ?_;rintro _ st ⟨t,ys,rfl,ht,hys,rfl⟩;rw[dEt h1,dEt h2,Bool.true_and,Bool.true_and];have hfit:∀f∈s.l++s.r,f.size<=1000000:=λf hf=>(List.mem_append.1 hf).elim (hs.1 f) (hs.2 f);have hlen:(s.l++s.r).length<=281474976710656:=by rw[lLa];omega
 generalize s.l++s.r=L at hys hfit hlen ⊢;simp only[go_sem,zE,zB,zA,zM,zS,zL,reduceCtorEq,hys.len,fits];intro _;refine LoopC.ctr L.length (λk fr st' ds=>(L.take k).all (fmB 1)=true/\fr 0=.iv (.raw (.int .u8 1))/\fr 27=.iv (.sl t ys)/\fr 28=.iv (.raw (.int .i64 L.length))/\fr 29=.iv (.raw (.int .i64 k))/\st'=st/\ds=[]) ?_ ?_ ?_
 ·simp only[go_sem,zE,zB,zA,zM,zS,zL,reduceCtorEq]
  first|rfl|exact⟨rfl,rfl⟩
 ·rintro k fr st1 _ hlt ⟨hn,f0,f27,f28,f29,rfl,rfl⟩;obtain⟨a,ha⟩:=yQ4 hlt;obtain⟨y,hky,hy⟩:=hys.get ha;have hm:=lMg ha;have hR:=λst=>zVr gl G a y hy st (hfit a hm);have hM:=λst=>vQz gl a y hy st;have hout:fmB 1 a=false->L.all (fmB 1)=false:=λhb=>List.all_eq_false.2 ⟨a,hm,by simp[hb]⟩;obtain⟨o5,n5,t5,x5,t6,x6,rfl⟩:=hy.agg;simp only[go_sem,zE,zB,zA,zM,zS,zL,reduceCtorEq,f0,f27,f28,f29,lt_i hlt,yQ3 ht,iNn,hky,fits];refine (hR _).mono ?_;rintro _ _ ⟨rfl,rfl⟩;cases hr:a.right
  ·simp only[go_sem,zE,zB,zA,zM,zS,zL,reduceCtorEq];exact yQ0 ⟨by rw[hout (by simp[fmB,hr])],rfl⟩
  ·simp only[go_sem,zE,zB,zA,zM,zS,zL,reduceCtorEq,f0];refine (hM _).mono ?_;rintro _ _ ⟨rfl,rfl⟩;cases ho:opsB 1 a
   ·simp only[go_sem,zE,zB,zA,zM,zS,zL,reduceCtorEq];exact yQ0 ⟨by rw[hout (by simp[fmB,ho])],rfl⟩
   ·simp only[go_sem,zE,zB,zA,zM,zS,zL,reduceCtorEq,f0,f27,f28,f29,yQf hlt hlen];rw[yQ7 ha,List.all_append,hn];simp[fmB,hr,ho]
 ·rintro fr st1 _ ⟨hn,f0,f27,f28,f29,rfl,rfl⟩;rw[lTl] at hn;simp only[go_sem,zE,zB,zA,zM,zS,zL,reduceCtorEq,f28,f29,yQo (nLi _)];exact yQ0 ⟨by rw[hn],rfl⟩
def NdOk (n:Nd):Prop:=∀(z:IV) (s:Nat) (lim:Int) (st:ISt),IsNd n z->s+n.nodes<=1099511627776->ICall prog gl 70 [.cptr z,.raw (.int .i64 s),.raw (.int .i64 lim)] st
 (λr st'=>(∃q:Nat,r=.raw (.int .i64 q)/\q<=s+n.nodes/\(lim<0\/((s+n.nodes:Nat):Int)<=lim->q=s+n.nodes)/\(0<=lim->lim<((s+n.nodes:Nat):Int)->lim<(q:Int)))/\st'=st)
theorem yJs:∀l m:List Nd,yQp (l++m)=yQp l+yQp m
 | [],m=>by simp[yQp]
 | a::l,m=>by simp only[List.cons_append,yQp,yJs l m];omega
theorem yY4 (l:List Nd)(k:Nat):yQp (l.take k)<=yQp l:=by
 conv=>rhs;rw[<- List.take_append_drop k l]
 rw[yJs];omega
theorem yWh:∀l:List Nd,l.length<=yQp l
 | []=>by simp[yQp]
 | .mk _ _ _ _::l=>by have:=yWh l;simp only[List.length_cons,yQp,Nd.nodes];omega
theorem xGw (m:Mk)(c:Bool)(w:Int)(sub:List Nd)(IH:∀a∈sub,NdOk gl a):NdOk gl (.mk m c w sub):=by
 intro z s lim st hz hb;obtain⟨o,n,t1,x1,t2,x2,ts,zs,rfl,hf,hts,hzs⟩:=hz.mk;simp only[Nd.nodes] at hb ⊢;have hlen:=yWh sub;have hw:IntKind.i64.wrap ((s:Int)+1)=((s+1:Nat):Int):=by rw[w64]<;>omega
 refine iI func70 ?_;simp only[go_sem,zE,zB,zA,zM,zS,zL,reduceCtorEq,hw,hzs.len,fits];intro _;refine LoopC.ctr sub.length (λk fr st' ds=>(∃q:Nat,fr 1=.iv (.raw (.int .i64 q))/\q<=s+(1+yQp (sub.take k))/\(lim<0\/((s+(1+yQp (sub.take k)):Nat):Int)<=lim->q=s+(1+yQp (sub.take k)))/\(0<=lim->lim<((s+(1+yQp (sub.take k)):Nat):Int)->lim<(q:Int))) /\
  fr 0=.iv (.cptr (.agg [.raw (.bool m.is),.raw (.int .i64 m.w),.raw (.int .u8 o),.raw (.string n),.sl t1 x1,.sl t2 x2,.raw (.bool c),.raw (.int .i64 w),.sl ts zs]))/\fr 2=.iv (.raw (.int .i64 lim))/\fr 14=.iv (.raw (.int .i64 sub.length))/\fr 15=.iv (.raw (.int .i64 k))/\st'=st/\ds=[]) ?_ ?_ ?_
 ·simp only[go_sem,zE,zB,zA,zM,zS,zL,reduceCtorEq];exact⟨⟨s+1,by rfl,by simp[yQp],λ_=>by simp[yQp],λ_ h=>by simpa[yQp] using h⟩,rfl⟩
 ·rintro k fr st1 _ hlt ⟨⟨q,f1,hq1,hq2,hq3⟩,f0,f2,f14,f15,rfl,rfl⟩;have htk:=yY4 sub k;have htk1:=yY4 sub (k+1);obtain⟨a,ha⟩:=yQ4 hlt;obtain⟨y,hky,hy⟩:=hzs.get ha;have hsum:yQp (sub.take (k+1))=yQp (sub.take k)+a.nodes:=by rw[yQ7 ha,yJs];simp[yQp]
  by_cases hbr:0<=lim/\lim<(q:Int)
  ·have e1:decide ((0:Int)<=lim)=true:=dEt hbr.1;have e2:decide (lim<(q:Int))=true:=dEt hbr.2;simp only[go_sem,zE,zB,zA,zM,zS,zL,reduceCtorEq,f0,f1,f2,f14,f15,lt_i hlt,e1,e2];exact yQ0 ⟨⟨q,rfl,by omega,λh=>by omega,λ_ _=>hbr.2⟩,rfl⟩
  ·have hcall:=IH a (lMg ha) y q lim st1 hy (by omega);have fin:∀q':Nat,q'<=q+a.nodes->(lim<0\/((q+a.nodes:Nat):Int)<=lim->q'=q+a.nodes)->(0<=lim->lim<((q+a.nodes:Nat):Int)->lim<(q':Int)) →
     q'<=s+(1+yQp (sub.take (k+1)))/\(lim<0\/((s+(1+yQp (sub.take (k+1))):Nat):Int)<=lim->q'=s+(1+yQp (sub.take (k+1))))/\(0<=lim->lim<((s+(1+yQp (sub.take (k+1))):Nat):Int)->lim<(q':Int)):=λq' h1 h2 h3=>by
    rw[hsum];have hqe:q=s+(1+yQp (sub.take k)):=by
     by_cases hl:lim<0
     ·exact hq2 (.inl hl)
     ·by_cases hc:((s+(1+yQp (sub.take k)):Nat):Int)<=lim
      ·exact hq2 (.inr hc)
      ·exact absurd ⟨by omega,hq3 (by omega) (by omega)⟩ hbr
    subst hqe;refine⟨by omega,λh=>?_,λh0 h=>h3 h0 (by omega)⟩;rw[h2 (by omega)];omega
   by_cases h0:0<=lim
   ·have e1:decide ((0:Int)<=lim)=true:=dEt h0;have e2:decide (lim<(q:Int))=false:=dEf (λh=>hbr ⟨h0,h⟩);simp only[go_sem,zE,zB,zA,zM,zS,zL,reduceCtorEq,f0,f1,f2,f14,f15,lt_i hlt,e1,e2,yQ3 hts,iNn,hky,fits];refine hcall.mono ?_;rintro _ _ ⟨⟨q',rfl,h1,h2,h3⟩,rfl⟩;simp only[go_sem,zE,zB,zA,zM,zS,zL,reduceCtorEq,f0,f1,f2,f14,f15,yQf hlt (show sub.length<=281474976710656 by omega)];exact⟨q',rfl,fin q' h1 h2 h3⟩
   ·have e1:decide ((0:Int)<=lim)=false:=dEf h0;simp only[go_sem,zE,zB,zA,zM,zS,zL,reduceCtorEq,f0,f1,f2,f14,f15,lt_i hlt,e1,yQ3 hts,iNn,hky,fits];refine hcall.mono ?_;rintro _ _ ⟨⟨q',rfl,h1,h2,h3⟩,rfl⟩;simp only[go_sem,zE,zB,zA,zM,zS,zL,reduceCtorEq,f0,f1,f2,f14,f15,yQf hlt (show sub.length<=281474976710656 by omega)];exact⟨q',rfl,fin q' h1 h2 h3⟩
 ·rintro fr st1 _ ⟨⟨q,f1,hq1,hq2,hq3⟩,f0,f2,f14,f15,rfl,rfl⟩;rw[lTl] at hq1 hq2 hq3;simp only[go_sem,zE,zB,zA,zM,zS,zL,reduceCtorEq,f1,f14,f15,yQo (nLi _)];exact yQ0 ⟨⟨q,rfl,hq1,hq2,hq3⟩,rfl⟩
theorem xZ7:∀(k:Nat)(n:Nd),SizeOf.sizeOf n<k->NdOk gl n
 | 0,n,h=>by omega
 | k+1,.mk m c w sub,h=>xGw gl m c w sub λa ha=>xZ7 k a (by
   have:=lSm ha;simp only[Nd.mk.sizeOf_spec] at h;omega)
theorem yY6 {n:Nd}{z:IV}(h:IsNd n z):∃(v:Bool) (w':Int) (o:Int) (n:ByteArray) (t:Tag) (xs:List IV) (t':Tag) (ys:List IV) (c:Bool) (w:Int) (ts:Tag) (zs:List IV),z=.agg [.raw (.bool v),.raw (.int .i64 w'),.raw (.int .u8 o),.raw (.string n),.sl t xs,.sl t' ys,.raw (.bool c),.raw (.int .i64 w),.sl ts zs]:=by
 obtain⟨m,c,w,sub⟩:=n;obtain⟨_,_,_,_,_,_,_,_,h,_⟩:=h.mk;exact⟨_,_,_,_,_,_,_,_,_,_,_,_,h⟩
theorem wVt (G:Gl gl)(s:Sq)(x:IV)(hx:IsSq s x)(hs:yGd s)(n:Nd)(z:IV)(hz:IsNd n z)(hb:n.nodes<=1000000000)(st:ISt) :
  ICall prog gl 28 [.raw (.int .u8 1),x,z] st (λr st'=>(∃tg,r=.tup [.sl tg (plI (yUg s n).1),.raw (.int .i64 (yUg s n).2)]/\okEs tg 1)/\st'=st):=by
 have hk:=λst=>zG9 gl st;have hV:=λst=>zGa gl G s x hx hs st;have hN:=λst=>xZ7 gl _ n (Nat.lt_succ_self _) z 0 300 st hz (by omega);have hB:=λh st=>wKi gl s x hx h st;have hC:=λa=>vX6 gl n a;obtain⟨t1,x1,t2,x2,rfl,_⟩:=hx;have hz0:=hz;obtain⟨_,_,_,_,_,_,_,_,_,_,_,_,rfl⟩:=yY6 hz;unfold yUg;refine ICall.intro (c:=cf prog gl [8] [] [5]) func28 rfl (by show _<=24;simp) (by kernel_rfl) ?_;simp only[go_sem,zE,zB,zA,zM,zS,zL,reduceCtorEq];refine (hk _).mono ?_;rintro _ st ⟨rfl,rfl⟩;simp only[go_sem,zE,zB,zA,zM,zS,zL,reduceCtorEq];refine (hV _).mono ?_;rintro _ st ⟨rfl,rfl⟩;cases hv:yKu s
 ·simp only[go_sem,zE,zB,zA,zM,zS,zL,reduceCtorEq,fits];exact yQ0 ⟨⟨_,rfl,.inl rfl⟩,rfl⟩
 simp only[go_sem,zE,zB,zA,zM,zS,zL,reduceCtorEq,fits];refine (hN _).mono ?_;rintro _ st ⟨⟨q,rfl,hq1,hq2,hq3⟩,rfl⟩;rw[Nat.zero_add] at hq1 hq2 hq3;by_cases hn:300<n.nodes
 ·have d:decide ((300:Int)<(q:Int))=true:=dEt (hq3 (by decide) (by omega));simp only[go_sem,zE,zB,zA,zM,zS,zL,reduceCtorEq,d,fits];rw[if_pos hn];exact yQ0 ⟨⟨_,rfl,.inl rfl⟩,rfl⟩
 have d:decide ((300:Int)<(q:Int))=false:=dEf (by rw[hq2 (.inr (by omega))];omega);obtain⟨v1,v2,_⟩:=yGm hv;rw[if_neg hn];simp only[go_sem,zE,zB,zA,zM,zS,zL,reduceCtorEq,d,fits];refine (hB (by omega) _).mono ?_;rintro _ _ ⟨tb,es,htb,hes,hbr,rfl⟩;obtain⟨t4,x4,t5,v5,rfl,_⟩:=id hbr;unfold brI;simp only[go_sem,zE,zB,zA,zM,zS,zL,reduceCtorEq,fits];refine λb=>yQc λhbn=>?_;have hbt:tb≠b:=λhq=>by rw[<- hq,ISt.put_same] at hbn;cases hbn
 simp only[go_sem,zE,zB,zA,zM,zS,zL,reduceCtorEq,ISt.put_same,yQ8];have hbl:=wKh hv;have hlen:(yZi s).length<=40:=by
  have h1:=yXc (yVl s) [];unfold yVl at h1;rw[lLa,List.length_map,List.length_map,List.length_nil] at h1;unfold yZi yVl;omega
 refine (ICall.frz1 (ISt.put_same ..) (hC (yZi s) tb _ [] _ _ _ es (yWl hv) hbr.aged hz0 (by omega) (by simp only[List.length_nil];omega) (.inl ⟨⟨true,.nil,0⟩,rfl,rfl,rfl⟩) ?_ hes)).mono ?_
 ·show (((st.put tb _).put b _).put b none) tb=_;rw[yQb hbt,yQb hbt,ISt.put_same]
 rintro _ st5 ⟨⟨tg5,rfl,htg5⟩,hsub5,_⟩;simp only[go_sem,zE,zB,zA,zM,zS,zL,reduceCtorEq,fits];refine yQa (st':=st) (λc o hc=>hsub5 c o ?_) ⟨⟨tg5,rfl,htg5⟩,rfl⟩;have h1:c≠tb:=λhq=>by rw[hq,htb] at hc;cases hc
 have h2:c≠b:=λhq=>by rw[hq] at hc;rw[yQb (by exact hbt.symm)] at hbn;rw[hbn] at hc;cases hc
 show (((st.put tb _).put b _).put b none) c=_;rw[yQb h2,yQb h2,yQb h1];exact hc
theorem wGi (l:List Mk)(t:Tag)(xs:List IV)(ht:okEs t 6)(hxs:IsMks l xs)(m:Mk)(y:IV)(hy:IsMk m y)(st:ISt):ICall prog gl 117 [.sl t xs,y] st (λr st'=>r=.raw (.bool (hasT l m))/\st'=st):=by
 have hy0:=hy;obtain⟨i',w',f'⟩:=m;obtain⟨o7,n7,t7,x7,t8,x8,rfl,h2⟩:=hy;refine iI func117 ?_;simp only[go_sem,zE,zB,zA,zM,zS,zL,reduceCtorEq,hxs.len];intro _;refine LoopC.ctr l.length (λk fr st' ds=>hasT (l.take k) ⟨i',w',f'⟩=false/\fr 3=.box [.raw (.bool i'),.raw (.int .i64 w'),.raw (.int .u8 o7),.raw (.string n7),.sl t7 x7,.sl t8 x8]/\fr 7=.iv (.sl t xs)/\fr 8=.iv (.raw (.int .i64 l.length))/\fr 9=.iv (.raw (.int .i64 k))/\st'=st/\ds=[]) ?_ ?_ ?_
 ·simp only[go_sem,zE,zB,zA,zM,zS,zL,reduceCtorEq];exact⟨rfl,rfl⟩
 ·rintro k fr st1 _ hlt ⟨hn,f3,f7,f8,f9,rfl,rfl⟩;obtain⟨⟨i,w,f⟩,ha⟩:=yQ4 hlt;obtain⟨y,hky,hy⟩:=hxs.get ha;obtain⟨o5,n5,t5,x5,t6,x6,rfl,h1⟩:=hy;have hs:=λst=>xJf gl f f' _ _ h1 h2 st;have next:mkB ⟨i,w,f⟩ ⟨i',w',f'⟩=false->hasT (l.take (k+1)) ⟨i',w',f'⟩=false:=λhb=>by
   unfold hasT at hn ⊢;rw[yQ7 ha,List.any_append,hn];simp[hb]
  have found:mkB ⟨i,w,f⟩ ⟨i',w',f'⟩=true->hasT l ⟨i',w',f'⟩=true:=λhb=>List.any_eq_true.2 ⟨_,lMg ha,hb⟩;by_cases hi:i=i'
  ·subst hi;by_cases hw:w=w'
   ·subst hw;simp only[go_sem,zE,zB,zA,zM,zS,zL,reduceCtorEq,f3,f7,f8,f9,lt_i hlt,yQ3 ht,iNn,hky,fits,decide_true];refine (hs _).mono ?_;rintro _ _ ⟨rfl,rfl⟩;cases hc:decide (yGh f f'=0)
    ·simp only[go_sem,zE,zB,zA,zM,zS,zL,reduceCtorEq,f3,f7,f8,f9,yQf hlt (show l.length<=281474976710656 by have:=hxs.len;omega)];exact next (by simp[mkB,hc])
    ·simp only[go_sem,zE,zB,zA,zM,zS,zL,reduceCtorEq];exact yQ0 ⟨by rw[found (by simp[mkB,hc])],rfl⟩
   ·simp only[go_sem,zE,zB,zA,zM,zS,zL,reduceCtorEq,f3,f7,f8,f9,lt_i hlt,yQ3 ht,iNn,hky,fits,dEf hw,yQf hlt (show l.length<=281474976710656 by have:=hxs.len;omega)];exact next (by simp[mkB,hw])
  ·have hb:(i == i')=false:=by simp[hi]
   simp only[go_sem,zE,zB,zA,zM,zS,zL,reduceCtorEq,f3,f7,f8,f9,lt_i hlt,yQ3 ht,iNn,hky,fits,hb,yQf hlt (show l.length<=281474976710656 by have:=hxs.len;omega)];exact next (by simp[mkB,hb])
 ·rintro fr st1 _ ⟨hn,f3,f7,f8,f9,rfl,rfl⟩;rw[lTl] at hn;simp only[go_sem,zE,zB,zA,zM,zS,zL,reduceCtorEq,f8,f9,yQo (nLi _)];exact yQ0 ⟨by rw[hn],rfl⟩
theorem wG6 (l:List Mk)(t:Tag)(xs:List IV)(hxs:IsMks l xs)(q:List Mk)(tq:Tag)(zs:List IV)(htq:okEs tq 6)(hzs:IsMks q zs)(hl:l.length+q.length<=1000000)(st:ISt) :
  ICall prog gl 88 [.sl t xs,.sl tq zs] st (λr st'=>∃t' ys,r=.sl t' ys/\okEs t' 6/\IsMks (yZg l q) ys/\st'=st):=by
 refine iI func88 ?_;simp only[go_sem,zE,zB,zA,zM,zS,zL,reduceCtorEq,fits,show yKb 0 []=true from rfl];refine xUz (m:=l.length) (own.full st st 0 6) rfl hxs.len (subSt.refl _) rfl (zGx hxs) (by simp only;omega) (by omega) λtg2 st4 hown2 hsub4 _ _=>?_;rw[Nat.zero_add] at hown2;simp only[go_sem,zE,zB,zA,zM,zS,zL,reduceCtorEq,fits,hzs.len];intro _;refine LoopC.ctr q.length (λk fr st' ds=>(∃t' ys,fr 5=.iv (.sl t' ys)/\IsMks (yZg l (q.take k)) ys/\own st' t' (yZg l (q.take k)).length 6 st/\subSt st st')/\fr 11=.iv (.sl tq zs)/\fr 12=.iv (.raw (.int .i64 q.length))/\fr 13=.iv (.raw (.int .i64 k))/\ds=[]) ?_ ?_ ?_
 ·simp only[go_sem,zE,zB,zA,zM,zS,zL,reduceCtorEq];exact⟨⟨_,_,rfl,hxs,hown2,hsub4⟩,rfl⟩
 ·rintro k fr st1 _ hlt ⟨⟨t',ys,f5,hys,hown,hsub⟩,f11,f12,f13,rfl⟩;obtain⟨a,ha⟩:=yQ4 hlt;obtain⟨y,hky,hy⟩:=hzs.get ha;have hlen:=yXc (q.take k) l;rw[List.length_take] at hlen;have hh:=λst=>wGi gl _ t' ys hown.es hys a y hy st;have hy0:=hy;obtain⟨o5,n5,t5,x5,t6,x6,rfl,h1⟩:=hy;rw[yQ7 ha,zYy];simp only[go_sem,zE,zB,zA,zM,zS,zL,reduceCtorEq,f5,f11,f12,f13,lt_i hlt,yQ3 htq,iNn,hky,fits];refine (hh _).mono ?_;rintro _ _ ⟨rfl,rfl⟩;unfold addT;cases hq:hasT (yZg l (q.take k)) a
  ·simp only[go_sem,zE,zB,zA,zM,zS,zL,reduceCtorEq,f5,f11,f12,f13,fits,yQ1];refine yJj hown hys.len hsub rfl (by simp[fits,IV.one]) (by simp only;omega) (by omega) λtg3 st5 hown3 hsub5 _=>?_;simp only[go_sem,zE,zB,zA,zM,zS,zL,reduceCtorEq,f11,f12,f13,yQf hlt (show q.length<=281474976710656 by omega)];exact⟨tg3,_,rfl,hys.append (IsMks.one hy0),by rw[lLa];exact hown3,hsub5⟩
  ·simp only[go_sem,zE,zB,zA,zM,zS,zL,reduceCtorEq,f5,f11,f12,f13,yQf hlt (show q.length<=281474976710656 by omega)];exact⟨t',ys,rfl,hys,hown,hsub⟩
 ·rintro fr st1 _ ⟨⟨t',ys,f5,hys,hown,hsub⟩,f11,f12,f13,rfl⟩;rw[lTl] at hys;simp only[go_sem,zE,zB,zA,zM,zS,zL,reduceCtorEq,f5,f12,f13,yQo (nLi _)];exact yQa hsub ⟨t',ys,rfl,hown.es,hys,rfl⟩
theorem vQ9 (s:Sq)(x:IV)(hx:IsSq s x)(hl:s.l.length+s.r.length<=1000000)(st:ISt):ICall prog gl 44 [x] st (λr st'=>∃t' ys,r=.sl t' ys/\okEs t' 6/\IsMks (yZi s) ys/\st'=st):=by
 obtain⟨t1,x1,t2,x2,rfl,e1,i1,e2,i2⟩:=hx;refine iI func44 ?_;simp only[go_sem,zE,zB,zA,zM,zS,zL,reduceCtorEq,i1.len];intro _;refine LoopC.ctr s.l.length (λk fr st' ds=>(∃t' ys,fr 3=.iv (.sl t' ys)/\IsMks ((s.l.take k).map (⟨true,0,·⟩)) ys/\own st' t' ((s.l.take k).map (⟨true,0,·⟩:Fm->Mk)).length 6 st/\subSt st st')/\fr 1=.box [.sl t1 x1,.sl t2 x2]/\fr 9=.iv (.sl t1 x1)/\fr 10=.iv (.raw (.int .i64 s.l.length))/\fr 11=.iv (.raw (.int .i64 k))/\ds=[]) ?_ ?_ ?_
 ·simp only[go_sem,zE,zB,zA,zM,zS,zL,reduceCtorEq];exact⟨⟨_,_,rfl,rfl,.inl ⟨rfl,rfl⟩,subSt.refl _⟩,rfl⟩
 ·rintro k fr st1 _ hlt ⟨⟨t',ys,f3,hys,hown,hsub⟩,f1,f9,f10,f11,rfl⟩;obtain⟨a,ha⟩:=yQ4 hlt;obtain⟨y,hky,hy⟩:=i1.get ha;have hy0:=hy;obtain⟨o5,n5,t5,x5,t6,x6,rfl⟩:=hy.agg;simp only[go_sem,zE,zB,zA,zM,zS,zL,reduceCtorEq,f3,f1,f9,f10,f11,lt_i hlt,yQ3 e1,iNn,hky,fits,yQ1];refine yJj hown hys.len hsub rfl (by simp[fits,IV.one]) (by simp only[lLa,List.length_map,List.length_take];omega) (by simp only[lLa,List.length_map,List.length_take];omega) λtg3 st5 hown3 hsub5 _=>?_;simp only[go_sem,zE,zB,zA,zM,zS,zL,reduceCtorEq,f3,f1,f9,f10,f11,yQf hlt (show s.l.length<=281474976710656 by omega)];refine⟨tg3,_,rfl,?_,?_,hsub5⟩
  ·rw[yQ7 ha,List.map_append,List.map_singleton];exact hys.append (IsMks.one ⟨_,_,_,_,_,_,rfl,hy0⟩)
  ·rw[yQ7 ha,List.map_append,List.map_singleton,lLa];exact hown3
 ·rintro fr st1 _ ⟨⟨t',ys,f3,hys,hown,hsub⟩,f1,f9,f10,f11,rfl⟩;rw[lTl] at hys hown;simp only[go_sem,zE,zB,zA,zM,zS,zL,reduceCtorEq,f1,f3,f10,f11,yQo (nLi _),i2.len];intro _;refine LoopC.ctr s.r.length (λk fr st' ds=>(∃t' ys,fr 3=.iv (.sl t' ys)/\IsMks (s.l.map (⟨true,0,·⟩:Fm->Mk)++(s.r.take k).map (⟨false,0,·⟩:Fm->Mk)) ys/\own st' t' (s.l.map (⟨true,0,·⟩:Fm->Mk)++(s.r.take k).map (⟨false,0,·⟩:Fm->Mk)).length 6 st/\subSt st st')/\fr 22=.iv (.sl t2 x2)/\fr 23=.iv (.raw (.int .i64 s.r.length))/\fr 24=.iv (.raw (.int .i64 k))/\ds=[]) ?_ ?_ ?_
  ·simp only[go_sem,zE,zB,zA,zM,zS,zL,reduceCtorEq,f3];exact⟨⟨_,_,rfl,hys,hown,hsub⟩,rfl⟩
  ·rintro k fr st1 _ hlt ⟨⟨t',ys,f3,hys,hown,hsub⟩,f22,f23,f24,rfl⟩;obtain⟨a,ha⟩:=yQ4 hlt;obtain⟨y,hky,hy⟩:=i2.get ha;have hy0:=hy;obtain⟨o5,n5,t5,x5,t6,x6,rfl⟩:=hy.agg;simp only[go_sem,zE,zB,zA,zM,zS,zL,reduceCtorEq,f3,f22,f23,f24,lt_i hlt,yQ3 e2,iNn,hky,fits,yQ1];refine yJj hown hys.len hsub rfl (by simp[fits,IV.one]) (by simp only[lLa,List.length_map,List.length_take];omega) (by simp only[lLa,List.length_map,List.length_take];omega) λtg3 st5 hown3 hsub5 _=>?_;simp only[go_sem,zE,zB,zA,zM,zS,zL,reduceCtorEq,f3,f22,f23,f24,yQf hlt (show s.r.length<=281474976710656 by omega)];refine⟨tg3,_,rfl,?_,?_,hsub5⟩
   ·rw[yQ7 ha,List.map_append,List.map_singleton,<- List.append_assoc];exact hys.append (IsMks.one ⟨_,_,_,_,_,_,rfl,hy0⟩)
   ·rw[yQ7 ha,List.map_append,List.map_singleton,<- List.append_assoc,lLa];exact hown3
  ·rintro fr st1 _ ⟨⟨t',ys,f3,hys,hown,hsub⟩,f22,f23,f24,rfl⟩;rw[lTl] at hys hown;simp only[go_sem,zE,zB,zA,zM,zS,zL,reduceCtorEq,f3,f23,f24,yQo (nLi _),fits,show yKb 0 []=true from rfl];refine (wG6 gl [] _ [] rfl _ t' ys hown.es hys (by simp only[lLa,List.length_map,List.length_nil];omega) _).mono ?_;rintro _ _ ⟨t'',zs,rfl,h1,h2,rfl⟩;simp only[go_sem,zE,zB,zA,zM,zS,zL,reduceCtorEq];exact yQa hsub ⟨t'',zs,rfl,h1,h2,rfl⟩
theorem wZk (b:Bool)(l m:List Mk):yZd b (l++m)=yZd b l++yZd b m:=by simp[yZd]
theorem vKo (l:List Mk)(t:Tag)(xs:List IV)(ht:okEs t 6)(hxs:IsMks l xs)(hl:l.length<=1000000)(b:Bool)(st:ISt) :
  ICall prog gl 90 [.sl t xs,.raw (.bool b)] st (λr st'=>∃t' ys,r=.sl t' ys/\okEs t' 4/\IsFms (yZd b l) ys/\st'=st):=by
 refine iI func90 ?_;simp only[go_sem,zE,zB,zA,zM,zS,zL,reduceCtorEq,hxs.len];intro _;refine LoopC.ctr l.length (λk fr st' ds=>(∃t' ys,fr 5=.iv (.sl t' ys)/\IsFms (yZd b (l.take k)) ys/\own st' t' (yZd b (l.take k)).length 4 st/\subSt st st')/\fr 1=.iv (.raw (.bool b))/\fr 8=.iv (.sl t xs)/\fr 9=.iv (.raw (.int .i64 l.length))/\fr 10=.iv (.raw (.int .i64 k))/\ds=[]) ?_ ?_ ?_
 ·simp only[go_sem,zE,zB,zA,zM,zS,zL,reduceCtorEq];exact⟨⟨_,_,rfl,rfl,.inl ⟨rfl,rfl⟩,subSt.refl _⟩,rfl⟩
 ·rintro k fr st1 _ hlt ⟨⟨t',ys,f5,hys,hown,hsub⟩,f1,f8,f9,f10,rfl⟩;obtain⟨a,ha⟩:=yQ4 hlt;obtain⟨y,hky,hy⟩:=hxs.get ha;have hsl:(yZd b (l.take k)).length<=k:=by
   have h1:=List.length_filter_le (λm:Mk=>m.is == b) (l.take k);rw[List.length_take] at h1;simp only[yZd,List.length_map];omega
  obtain⟨o5,n5,t5,x5,t6,x6,rfl,h1⟩:=hy;have hst:=wZk b (l.take k) [a];rw[yQ7 ha,hst];cases hb:a.is == b
  ·have he:yZd b [a]=[]:=by simp[yZd,hb]
   rw[he,List.append_nil];simp only[go_sem,zE,zB,zA,zM,zS,zL,reduceCtorEq,f1,f5,f8,f9,f10,lt_i hlt,yQ3 ht,iNn,hky,fits,hb,yQf hlt (show l.length<=281474976710656 by omega)];exact⟨t',ys,rfl,hys,hown,hsub⟩
  ·have he:yZd b [a]=[a.f]:=by simp[yZd,hb]
   rw[he];simp only[go_sem,zE,zB,zA,zM,zS,zL,reduceCtorEq,f1,f5,f8,f9,f10,lt_i hlt,yQ3 ht,iNn,hky,fits,hb,yQ1];refine yJj hown hys.len hsub rfl (by simp[fits,IV.one]) (by simp only;omega) (by omega) λtg3 st5 hown3 hsub5 _=>?_;simp only[go_sem,zE,zB,zA,zM,zS,zL,reduceCtorEq,f1,f8,f9,f10,yQf hlt (show l.length<=281474976710656 by omega)];exact⟨tg3,_,rfl,hys.append ⟨_,_,rfl,h1,rfl⟩,by rw[lLa];exact hown3,hsub5⟩
 ·rintro fr st1 _ ⟨⟨t',ys,f5,hys,hown,hsub⟩,f1,f8,f9,f10,rfl⟩;rw[lTl] at hys hown;simp only[go_sem,zE,zB,zA,zM,zS,zL,reduceCtorEq,f5,f9,f10,yQo (nLi _)];exact yQa hsub ⟨t',ys,rfl,hown.es,hys,rfl⟩
theorem zUf (l:List Fm)(t:Tag)(xs:List IV)(ht:okEs t 4)(hxs:IsFms l xs)(hl:yQ9 l<=1000000)(st:ISt) :
  ICall prog gl 92 [.sl t xs] st (λr st'=>∃t' ys,r=.sl t' ys/\okEs t' 4/\appT l.length t'/\IsFmsD l ys/\st'=st):=by
 have hll:=yQw l;refine iI func92 ?_;simp only[go_sem,zE,zB,zA,zM,zS,zL,reduceCtorEq,hxs.len];intro _;refine LoopC.ctr l.length (λk fr st' ds=>(∃t' ys,fr 3=.iv (.sl t' ys)/\IsFmsD (l.take k) ys/\appT k t'/\own st' t' k 4 st/\subSt st st')/\fr 6=.iv (.sl t xs)/\fr 7=.iv (.raw (.int .i64 l.length))/\fr 8=.iv (.raw (.int .i64 k))/\ds=[]) ?_ ?_ ?_
 ·simp only[go_sem,zE,zB,zA,zM,zS,zL,reduceCtorEq];exact⟨⟨_,_,rfl,IsFmsD.nil,.inl rfl,.inl ⟨rfl,rfl⟩,subSt.refl _⟩,rfl⟩
 ·rintro k fr st1 _ hlt ⟨⟨t',ys,f3,hys,hap,hown,hsub⟩,f6,f7,f8,rfl⟩;obtain⟨a,ha⟩:=yQ4 hlt;obtain⟨y,hky,hy⟩:=hxs.get ha;have hsa:=yXh (lMg ha);have hcopy:=λst=>zZ7 gl a y hy (by omega) st;have hyl:=hys.len;rw[List.length_take,Nat.min_eq_left (by omega)] at hyl;obtain⟨o5,n5,t5,x5,t6,x6,rfl⟩:=hy.agg;simp only[go_sem,zE,zB,zA,zM,zS,zL,reduceCtorEq,f3,f6,f7,f8,lt_i hlt,yQ3 ht,iNn,hky,fits];refine (hcopy _).mono ?_;rintro r _ ⟨hr,rfl⟩;have hr0:=hr;obtain⟨o7,n7,t7,x7,t8,x8,rfl⟩:=hr.1.agg;simp only[go_sem,zE,zB,zA,zM,zS,zL,reduceCtorEq,f3,f6,f7,f8,fits,yQ1];refine yXb hown hyl hsub rfl (by simp[fits,IV.one]) (by simp only;omega) (by omega) λtg3 st5 hown3 hsub5 _ hap3=>?_;simp only[go_sem,zE,zB,zA,zM,zS,zL,reduceCtorEq,f6,f7,f8,yQf hlt (show l.length<=281474976710656 by omega)];exact⟨tg3,_,rfl,by rw[yQ7 ha];exact hys.append (IsFmsD.one hr0),hap3,hown3,hsub5⟩
 ·rintro fr st1 _ ⟨⟨t',ys,f3,hys,hap,hown,hsub⟩,f6,f7,f8,rfl⟩;rw[lTl] at hys;simp only[go_sem,zE,zB,zA,zM,zS,zL,reduceCtorEq,f3,f7,f8,yQo (nLi _)];exact yQa hsub ⟨t',ys,rfl,hown.es,hap,hys,rfl⟩
theorem xYp (m:Mk)(y:IV)(hy:IsMk m y)(hs:m.f.size<=1000000)(st:ISt):ICall prog gl 118 [y] st (λr st'=>(IsMk m r/\dfr r)/\st'=st):=by
 obtain⟨o5,n5,t5,x5,t6,x6,rfl,h1⟩:=hy;have hcopy:=λst=>zZ7 gl m.f _ h1 (by omega) st;refine iI func118 ?_;simp only[go_sem,zE,zB,zA,zM,zS,zL,reduceCtorEq,fits];refine (hcopy _).mono ?_;rintro r _ ⟨hr,rfl⟩;have hr0:=hr;obtain⟨o7,n7,t7,x7,t8,x8,rfl⟩:=hr.1.agg;simp only[go_sem,zE,zB,zA,zM,zS,zL,reduceCtorEq,fits];have hd:=hr0.2;simp only[dfr,dfrs,and_true,true_and] at hd;refine yQ0 ⟨⟨⟨_,_,_,_,_,_,rfl,hr0.1⟩,?_⟩,rfl⟩;simp only[dfr,dfrs,and_true,true_and];exact⟨hd.1,λc hc=>by
  simp only[List.mem_cons,List.not_mem_nil,or_false] at hc;rcases hc with rfl|rfl|rfl|rfl|rfl|rfl<;>rfl⟩
noncomputable def allT (l q:List Mk):Bool:=!q.any λm=>!hasT l m
theorem xUy (l:List Mk)(tb:Nat)(x:IV)(hx:IsBr l tb x)(m:Mk)(y:IV)(hy:IsMk m y)(st:ISt):ICall prog gl 220 [y,.cptr (.cptr x)] st (λr st'=>r=.raw (.bool (!hasT l m))/\st'=st):=by
 have h1:=λst=>wKd gl l tb x hx m y hy st;obtain⟨_,_,_,_,_,_,rfl⟩:=hy.agg;refine iI func220 ?_;simp only[go_sem,zE,zB,zA,zM,zS,zL,reduceCtorEq,fits];refine (h1 _).mono ?_;rintro _ _ ⟨rfl,rfl⟩;simp only[go_sem,zE,zB,zA,zM,zS,zL,reduceCtorEq];exact yQ0 ⟨rfl,rfl⟩
theorem wKe (l:List Mk)(tb:Nat)(x:IV)(hx:IsBr l tb x)(q:List Mk)(tg:Tag)(zs:List IV)(htg:okEs tg 6)(hzs:IsMks q zs)(st:ISt) :
  ICall prog gl 185 [.cptr x,.sl tg zs] st (λr st'=>r=.raw (.bool (allT l q))/\st'=st):=by
 have h1:=λst=>yUv gl 220 [.cptr (.cptr x)] (by simp only[go_sem]) q (λa=>!hasT l a) st (λa _ y hy=>xUy gl l tb x hx a y hy st) tg zs htg hzs;refine ICall.intro (c:=cf prog gl [] [] [2]) func185 rfl (by show _<=9;simp) (by kernel_rfl) ?_;simp only[go_sem,zE,zB,zA,zM,zS,zL,reduceCtorEq,fits];refine (h1 _).mono ?_;rintro _ _ ⟨rfl,rfl⟩;simp only[go_sem,zE,zB,zA,zM,zS,zL,reduceCtorEq];exact yQ0 ⟨rfl,rfl⟩
def useI (x:IV)(k:Nat):List IV:=[.cptr (.cptr x),.cptr (.raw (.int .u8 k))]
theorem wVm (x:IV)(k:Nat)(hk:k<256)(st:ISt):ICall prog gl 184 [.cptr x,.raw (.int .u8 k)] st (λr st'=>r=.fn (.func 219) [] (useI x k)/\st'=st):=by
 refine ICall.intro (c:=cf prog gl [] [] [2,3]) func184 rfl (by show _<=6;simp) (by kernel_rfl) ?_;simp only[go_sem,zE,zB,zA,zM,zS,zL,reduceCtorEq,fits];exact yQ0 ⟨rfl,rfl⟩
def yKn (l:List Mk)(k:Nat):List Mk:=l.filter λm=>decide ((yZx m).1=k)
def mkX (q:List Mk)(k:Nat)(a:List IV):Prop:=∃m y,q[k]?=some m/\IsMk m y/\a=[y]
theorem wQo (l:List Mk)(tb:Nat)(x:IV)(hx:IsBr l tb x)(hl:l.length<=1000000)(k:Nat)(hk:k<256)(es:List (Value×IV))(ht:zXs es) :
  IterC prog gl 219 [] (useI x k) (mkX (yKn l k)) (yKn l k).length (λ_ st=>st tb=some (.map .sg es)):=by
 rintro y I' S' st ⟨g,fi,ca,rfl,hfn,hent⟩ hI hy h0;change ICall prog gl _ [.fn g fi ca,_,_] st _;obtain⟨t,xs,t',v,rfl,ht6,hap,hxs,ht1,htc⟩:=hx;refine ICall.intro (c:=cf prog gl [] [(3,[0,1,2,3,4,5,8,6,7,9,10,11,12,13,14,15])]) func219 rfl (by show _<=32;simp) (by kernel_rfl) ?_;simp only[go_sem,zE,zB,zA,zM,zS,zL,reduceCtorEq,fits,brI,hxs.len];intro _;refine LoopC.ctr l.length (λj fr st' ds=>I' (yKn (l.take j) k).length st'/\fr 0=.iv (.fn g fi ca)/\fr 1=.iv (.cptr (.cptr (.agg (brI tb t xs t' v))))/\fr 2=.iv (.cptr (.raw (.int .u8 k)))/\fr 9=.iv (.sl t xs)/\fr 10=.iv (.raw (.int .i64 l.length))/\fr 11=.iv (.raw (.int .i64 j))/\ds=[]) ?_ ?_ ?_
 ·simp only[go_sem,zE,zB,zA,zM,zS,zL,reduceCtorEq];exact⟨h0,rfl,rfl⟩
 ·rintro j fr st1 _ hlt ⟨hIj,f0,f1,f2,f9,f10,f11,rfl⟩;obtain⟨stu0,hs0,hb0⟩:=hI _ st1 hIj;have hb:=hs0 _ _ hb0;obtain⟨a,ha⟩:=yQ4 hlt;obtain⟨z,hkz,hz⟩:=hxs.get ha;have hfind:=λst hb=>zJs gl a z hz st tb es hb ht;have hz0:=hz;obtain⟨o5,n5,t5,x5,t6,x6,rfl,h1⟩:=hz;simp only[go_sem,zE,zB,zA,zM,zS,zL,reduceCtorEq,f0,f1,f2,f9,f10,f11,lt_i hlt,yQ3 ht6,iNn,hkz,fits,brI];refine (hfind _ hb).mono ?_;rintro _ st1 ⟨rfl,rfl⟩;have hst:yKn (l.take (j+1)) k=yKn (l.take j) k++yKn [a] k:=by rw[yQ7 ha,yKn,List.filter_append];rfl
  by_cases hkd:(yZx a).1=k
  ·have dk:decide (((yZx a).1:Int)=(k:Int))=true:=dEt (by omega);have h1':yKn [a] k=[a]:=by simp[yKn,hkd]
   have hget:(yKn l k)[(yKn (l.take j) k).length]?=some a:=by
    have hsp:yKn l k=yKn (l.take (j+1)) k++yKn (l.drop (j+1)) k:=by
     conv=>lhs;rw[<- List.take_append_drop (j+1) l]
     rw[yKn,List.filter_append];rfl
    rw[hsp,hst,h1',List.append_assoc,List.getElem?_append_right (Nat.le_refl _),Nat.sub_self];rfl
   simp only[go_sem,zE,zB,zA,zM,zS,zL,reduceCtorEq,rowF,fits,dk,f0,f1,f2,f9,f10,f11];refine yXk hent ((hy _ _ st1 ⟨a,_,hget,hz0,rfl⟩ hIj).mono ?_);rintro _ st2 (⟨rfl,h⟩|⟨rfl,h⟩)
   ·simp only[go_sem,zE,zB,zA,zM,zS,zL,reduceCtorEq,f0,f1,f2,f9,f10,f11,yQf hlt (show l.length<=281474976710656 by omega)];exact⟨by rw[hst,h1',lLa];exact h,rfl⟩
   ·simp only[go_sem,zE,zB,zA,zM,zS,zL,reduceCtorEq,f0,f1,f2,f9,f10,f11];exact yQ0 (.inr h)
  ·have dk:decide (((yZx a).1:Int)=(k:Int))=false:=dEf (by omega);have h1':yKn [a] k=[]:=by simp[yKn,hkd]
   simp only[go_sem,zE,zB,zA,zM,zS,zL,reduceCtorEq,rowF,fits,dk,f0,f1,f2,f9,f10,f11,yQf hlt (show l.length<=281474976710656 by omega)];exact⟨by rw[hst,h1',List.append_nil];exact hIj,rfl⟩
 ·rintro fr st1 _ ⟨hIj,f0,f1,f2,f9,f10,f11,rfl⟩;rw[lTl] at hIj;simp only[go_sem,zE,zB,zA,zM,zS,zL,reduceCtorEq,f0,f1,f2,f9,f10,f11,yQo (nLi _)];exact yQ0 (.inl hIj)
end Go.Proofs.Tryz
namespace Go.Proofs.Tryz
open Go Go.Iv
def yKa (rule:Nat):Bool:=decide (rule=1) || decide (rule=2) || decide (rule=3) || decide (rule=5) || decide (rule=7) || decide (rule=9) || decide (rule=11)
mutual
def xGx:Tr->Nd
 | .mk rule _ m _ _ sub=>.mk ⟨yKa rule,0,m⟩ (decide (rule=1) || decide (rule=2)) 0 (yUb sub)
def yUb:List Tr->List Nd
 | []=>[]
 | a::l=>xGx a::yUb l
end
theorem zY9:∀l:List Tr,(yUb l).length=l.length
 | []=>rfl
 | a::l=>by simp only[yUb,List.length_cons,zY9 l]
theorem wZ3 {s:Sq}{rule:Nat}{m:Fm}{u:Tm}{nm:ByteArray}{sub:List Tr}(h:yZu 1 (.mk rule s m u nm sub)=0)(hc:rule≠17) :
  yZz 1 s=true/\∃r,rowK rule=some r/\fmB 1 m=true/\(r.op=0\/m.op=r.op)/\(r.left=true->m∈s.l)/\(r.right=true->m∈s.r) /\
  sub.length=(addS 1 rule m ((m.subs[0]?).getD fm0) ((m.subs[1]?).getD fm0)).length/\yX3 s (addS 1 rule m ((m.subs[0]?).getD fm0) ((m.subs[1]?).getD fm0)) sub=true:=by
 simp only[yZu] at h;rcases xZ0 h with⟨h1,h⟩|⟨h1,h⟩
 ·exact absurd h h1
 rcases xZ0 h with⟨_,h⟩|⟨h2,h⟩
 ·cases h
 rcases xZ0 h with⟨h3,_⟩|⟨_,h⟩
 case inr.inr.inr=>cases h
 have h1:=Decidable.not_not.1 h1;have h2:=Decidable.not_not.1 h2;have hv:yZz 1 s=true:=by
  cases hq:yZz 1 s
  ·unfold yJl at h1;rw[hq] at h1;cases h1
  ·rfl
 refine⟨hv,?_⟩;cases hr:rowK rule with
 | none=>unfold yJl at h1;rw[hv,row1,hr] at h1;cases h1
 | some r =>
  have hask:r.asks=0:=wZs (ca:=1) (by decide) (by rw[row1,hr]);refine⟨r,rfl,?_⟩;unfold yJl at h1 h2 h3;rw[hv,row1,hr] at h1 h2 h3;simp only[Bool.not_true,bFt,if_false,hask] at h1 h2 h3;have key:(decide ((yJ7 1 rule r m u nm).2=192) || (r.left&&!hasF s.l m) || (r.right&&!hasF s.r m))=false:=by
   cases hq:(decide ((yJ7 1 rule r m u nm).2=192) || (r.left&&!hasF s.l m) || (r.right&&!hasF s.r m))
   ·rfl
   ·rw[if_pos hq] at h1;cases h1
  rw[key] at h1 h2 h3;simp only[bFt,if_false,dEf (show ¬ (0=2) by decide),Bool.false_and] at h1 h2 h3;have h0:(yJ7 1 rule r m u nm).2=0:=by
   by_cases hq:(yJ7 1 rule r m u nm).2=0
   ·exact hq
   ·rw[if_pos hq] at h1;exact absurd h1 hq
  rw[if_neg (by omega)] at h2 h3;have hm:fmB 1 m=true/\(r.op=0\/m.op=r.op):=by
   unfold yJ7 at h0;by_cases hc:(!fmB 1 m || (decide (r.op≠0)&&decide (m.op≠r.op)))=true
   ·rw[if_pos hc] at h0;cases h0
   ·simp only[Bool.or_eq_true,Bool.not_eq_true',bAt,dTe,not_or,Bool.not_eq_false] at hc;exact⟨hc.1,by omega⟩
  have hadd:(yJ7 1 rule r m u nm).1=addS 1 rule m ((m.subs[0]?).getD fm0) ((m.subs[1]?).getD fm0):=by
   have e:(!fmB 1 m || (decide (r.op≠0)&&decide (m.op≠r.op)))=false:=by
    rw[hm.1];rcases hm.2 with h|h<;>simp[h]
   simp only[yJ7,e,bFt,if_false,if_pos hask]
  rw[hadd] at h2 h3;simp only[Bool.or_eq_false_iff] at key;obtain⟨v1,v2⟩:=yXx hv;have hin:∀l:List Fm,l.all (fmB 1)=true->hasF l m=true->m∈l:=λl hl hh=>by
   obtain⟨g,hg,he⟩:=yWk.1 hh;rw[(zV6 (by decide) hm.1 (List.all_eq_true.1 hl g hg)).1 he];exact hg
  exact⟨hm.1,hm.2,λhl=>hin _ v1 (by have:=key.1.2;rw[hl] at this;simpa using this),λhl=>hin _ v2 (by have:=key.2;rw[hl] at this;simpa using this),h2,h3⟩
theorem zWe {a b:Sq}(ha:yZz 1 a=true)(hb:b.l.all (fmB 1)=true/\b.r.all (fmB 1)=true)(h:yXp a b=true):(∀f∈a.l,f∈b.l)/\∀f∈a.r,f∈b.r:=by
 obtain⟨v1,v2⟩:=yXx ha;unfold yXp at h;rw[bAt] at h;have key:∀l m:List Fm,l.all (fmB 1)=true->m.all (fmB 1)=true->allF l m=true->∀f∈l,f∈m:=λl m hl hm hh f hf=>by
  obtain⟨g,hg,he⟩:=yWk.1 (xXf.1 hh f hf);rw[(zV6 (by decide) (List.all_eq_true.1 hl f hf) (List.all_eq_true.1 hm g hg)).1 he];exact hg
 exact⟨key _ _ v1 hb.1 h.1,key _ _ v2 hb.2 h.2⟩
theorem vKr {rule:Nat}{r:Rw}(hr:rowK rule=some r)(h17:rule≠17)(h1:rule≠1)(h2:rule≠2) :
  3<=r.op/\r.op<=7/\r.left=yKa rule/\r.right=!yKa rule/\yVg (yKa rule) r.op=rule:=by
 rcases zK5 (ca:=1) (by rw[row1];exact hr) with h|h|h|h|h|h|h|h|h|h|h|h|h|h|h|h|h|h
 all_goals obtain⟨rfl,rfl⟩:=h
 all_goals first
  | exact absurd rfl h17
  | exact absurd rfl h1
  | exact absurd rfl h2
  | exact⟨by decide,by decide,rfl,rfl,rfl⟩
  | cases hr
theorem wY7 {m:Mk}(hf:fmB 1 m.f=true)(h1:3<=m.f.op)(h2:m.f.op<=7):(yZx m).1≠0:=by
 obtain⟨is,w,⟨o,n,us,sub⟩⟩:=m;simp only[Fm.op] at h1 h2;have hl:=vQs (yJz.1 hf).1;unfold yZx rowT;simp only[Fm.op,Fm.subs];rcases (show o=3\/o=4\/o=5\/o=6\/o=7 by omega) with rfl|rfl|rfl|rfl|rfl
 ·have:=hl.1 (by omega);cases is<;>simp[this]
 all_goals (have:=hl.2 (by omega);cases is<;>simp[this])
end Go.Proofs.Tryz
namespace Go.Proofs.Tryz
open Go Go.Iv
set_option maxRecDepth 4000
variable (gl:Nat->Option IV)
theorem xZj (ents:Array MapEntry):yYn ents #[]=ents.toList:=by
 unfold yYn;rw[List.filter_eq_self];intro e _;simp
theorem wXf {ents:Array MapEntry}{seen:Array Nat}{e:MapEntry}(h:e∈yYn ents seen):e∈ents.toList:=(List.mem_filter.1 h).1
theorem xUd {ents:Array MapEntry}(hn:(ents.toList.map (·.born)).Nodup)(seen:Array Nat){e:MapEntry}(h:e∈ents.toList):wJ1 ents (seen.push e.born)=keyI e.key:=by
 have hf:ents.toList.find? (λx=>x.born == e.born)=some e:=find_born e ents.toList hn h;unfold wJ1;rw[Array.back?_push,Option.bind_some,hf,Option.bind_some]
theorem xU9 {ents:Array MapEntry}(hn:(ents.toList.map (·.born)).Nodup){seen:Array Nat}{e:MapEntry}(h:e∈yYn ents seen):(yYn ents (seen.push e.born)).length+1=(yYn ents seen).length:=by
 unfold yYn at h ⊢;generalize ents.toList=l at h hn
 induction l with
 | nil=>cases h
 | cons a l ih =>
  rw[List.map_cons,List.nodup_cons] at hn;by_cases hae:a=e
  ·subst hae;have h1:seen.contains a.born=false:=by simpa using (List.mem_filter.1 h).2
   have h2:(seen.push a.born).contains a.born=true:=by simp
   rw[List.filter_cons_of_neg (by rw[h2];simp),List.filter_cons_of_pos (by rw[h1];rfl),List.length_cons];congr 2;apply List.filter_congr;intro x hx;have hne:x.born≠a.born:=λhq=>hn.1 (hq▸List.mem_map_of_mem hx);simp[hne]
  ·have hm:e∈l.filter λe=>!seen.contains e.born:=by
    have h':=List.mem_filter.1 h;rcases List.mem_cons.1 h'.1 with hq|hq
    ·exact absurd hq.symm hae
    ·exact List.mem_filter.2 ⟨hq,h'.2⟩
   have hel:e∈l:=(List.mem_filter.1 hm).1;have hne:a.born≠e.born:=λhq=>hn.1 (hq▸List.mem_map_of_mem hel);have hi:=ih hm hn.2;have hc:(seen.push e.born).contains a.born=seen.contains a.born:=by
    simp[hne]
   rw[List.filter_cons,List.filter_cons,hc];split
   ·rw[List.length_cons,List.length_cons,<- hi]
   ·exact hi
@[go_sem] theorem uWt:mapI prog 74=some (.sg,.raw (.int .u8 0)):=by kernel_rfl
def vR (k:Nat):IV:=.raw (.int .u8 (yVg (kB k) (kO k)))
def opR (i:Nat):Oper :=
 if i=0 then ⟨some 1,.makeMap 74 none,74, "signs.go:25",#[],none⟩
 else if i=21 then ⟨some 12,.move (.tmp 1),74, "signs.go:25",⟨(List.range 21).map λj=>⟨j,.data⟩⟩,none⟩
 else if i=22 then ⟨some 0,.assign (.tmp 12),74, "signs.go:25",⟨⟨21,.data⟩::(List.range 22).map λj=>⟨j,.phase⟩⟩,none⟩
 else if i%2=1 then ⟨some (2+i / 2),.build 136 ⟨[(0,.const (.bool (kB (i / 2)))),(1,.const (.int .u8 (kO (i / 2))))]⟩,136, "signs.go:25",#[],none⟩
 else ⟨none,.insert 74 (.tmp 1) (.tmp (2+(i / 2-1))) (.const (.int .u8 (yVg (kB (i / 2-1)) (kO (i / 2-1))))),0, "signs.go:25",⟨[⟨0,.data⟩,⟨i-1,.data⟩]⟩,none⟩
def opsR:Array Oper:=⟨(List.range 23).map opR⟩
def xQi (b i:Nat):Option (Nat×IV) :=
 if i=0 then some (1,.raw (.map (some b))) else if i=21 then some (12,.raw (.map (some b))) else if i=22 then some (0,.raw (.map (some b))) else if i%2=1 then some (2+i / 2,kIV (i / 2)) else none
def RulP (p:Value×IV):Prop:=∃k,k<10/\p=(sgV (kB k) (kO k),vR k)
def RulE (listed:Array Bool)(es:List (Value×IV)):Prop:=(∀p∈es,RulP p)/\(∀k,k<10->listed.getD (2+2*k) false=true->(sgV (kB k) (kO k),vR k)∈es)/\∀k,k<10->yZy (sgV (kB k) (kO k)) es=if listed.getD (2+2*k) false=true then some (vR k) else none
def RulJ (st:ISt)(listed:Array Bool):Kt:=λ_ fr st' ds=>ds=[]/\∃b es,
 ((listed.getD 0 false=true/\st b=none/\st'=st.put b (some (.map .sg es))/\RulE listed es) \/
  (listed.getD 0 false=false/\st'=st/\listed.getD 21 false=false/\listed.getD 22 false=false/\∀k,k<10->listed.getD (2+2*k) false=false)) /\
 ∀i,i<23->listed.getD i false=true->∀d v,xQi b i=some (d,v)->fr d=.iv v
theorem xWo {k:Value}{v:IV}{p:Value×IV}:∀ {es:List (Value×IV)},p∈updI k v es->p=(k,v)\/p∈es
 | [],h=>by simpa[updI] using h
 | (x,u)::es,h=>by
  simp only[updI] at h;split at h
  ·rcases List.mem_cons.1 h with h|h
   ·exact .inl h
   ·exact .inr (List.mem_cons_of_mem _ h)
  ·rcases List.mem_cons.1 h with rfl|h
   ·exact .inr (by simp)
   ·exact (xWo h).imp id (List.mem_cons_of_mem _)
theorem xVj (k:Value)(v:IV):∀es:List (Value×IV),(k,v)∈updI k v es
 | []=>by simp[updI]
 | (x,u)::es=>by
  simp only[updI];split
  ·simp
  ·exact List.mem_cons_of_mem _ (xVj k v es)
theorem xVi {k:Value}{v:IV}{p:Value×IV}(hp:yJv k p.1=false):∀ {es:List (Value×IV)},p∈es->p∈updI k v es
 | (x,u)::es,h=>by
  simp only[updI];split
  ·rename_i hk;rcases List.mem_cons.1 h with rfl|h
   ·rw[hp] at hk;cases hk
   ·exact List.mem_cons_of_mem _ h
  ·rcases List.mem_cons.1 h with rfl|h
   ·simp
   ·exact List.mem_cons_of_mem _ (xVi hp h)
theorem zXu {b i j d d':Nat}{v v':IV}(hi:i<23)(hj:j<23)(h:xQi b i=some (d,v))(h':xQi b j=some (d',v'))(hne:i≠j):d≠d':=by
 unfold xQi at h h'
 repeat' split at h
 all_goals first|(cases h;done)|skip
 all_goals (repeat' split at h')
 all_goals first|(cases h';done)|skip
 all_goals (cases h;cases h';omega)
theorem xQh {b k:Nat}(hk:k<10):xQi b (1+2*k)=some (2+k,kIV k):=by
 unfold xQi;rw[if_neg (by omega),if_neg (by omega),if_neg (by omega),if_pos (by omega),show (1+2*k) / 2=k by omega]
theorem wX4 {i:Nat}(hi:i<23):opAt opsR i=opR i:=by
 unfold opAt opsR;rw[Array.getD_eq_getD_getElem?];simp[hi]
def wV8 (es:List (Value×IV)):Prop:=(∀p∈es,RulP p)/\(∀k,k<10->(sgV (kB k) (kO k),vR k)∈es)/\∀k,k<10->yZy (sgV (kB k) (kO k)) es=some (vR k)
theorem xY1 {k j:Nat}(hk:k<10)(hj:j<10)(h:k≠j):yJv (sgV (kB k) (kO k)) (sgV (kB j) (kO j))=false:=by
 show (decide (kB k=kB j)&&decide ((kO k:Int)=kO j))=false;rw[Bool.eq_false_iff,ne_eq,bAt,dTe,dTe];exact λhc=>h (vZd (by omega) (by omega) hc.1 (by have:=hc.2;omega))
theorem xVq (st:ISt):ICall prog gl 42 [] st (λr st'=>∃b es,st b=none/\r=.raw (.map (some b))/\wV8 es/\st'=st.put b (some (.map .sg es))):=by
 refine ICall.intro (c:=cf prog gl [] [(1,[])]) func42 rfl (by show _<=13;simp) (by kernel_rfl) ?_;simp only[go_sem,zE,zB,zA,zM,zS,zL,reduceCtorEq];rw[yKp];refine yJ6 (ops:=opsR) (RulJ st) ?_ ?_ _ _ _ _ _ _ rfl ?_
 ·intro listed ad fr st1 ds hz hJ i hi;replace hz:listed.size=23:=hz;obtain⟨h0,o,ho,hdep⟩:=mem_ready.1 hi;have his:i<23:=(Array.getElem?_eq_some_iff.1 ho).1;have hoi:o=opR i:=by
   have:=yZr (ops:=opsR) (i:=i) his;rw[ho,wX4 his] at this;exact Option.some.inj this
  subst hoi;rw[wX4 his];have hfl:listed.getD i false=false:=by
   rw[Array.getD_eq_getD_getElem?,Array.getElem?_eq_getElem (by omega)] at h0 ⊢;exact h0
  obtain⟨rfl,b,es,hst,hsl⟩:=hJ;have st':∀j,i≠j->(listed.setIfInBounds i true).getD j false=listed.getD j false:=λj hj=>by rw[yQq (by omega),if_neg hj]
  have sti:(listed.setIfInBounds i true).getD i false=true:=by rw[yQq (by omega),if_pos rfl]
  have keepE:(∀k,k<10->i≠2+2*k)->RulE listed es->RulE (listed.setIfInBounds i true) es:=λhn h=>⟨h.1,λk hk hl=>h.2.1 k hk (by rw[st' _ (hn k hk)] at hl;exact hl),λk hk=>by rw[st' _ (hn k hk)];exact h.2.2 k hk⟩
  by_cases i0:i=0
  ·subst i0;rw[show opR 0=⟨some 1,.makeMap 74 none,74, "signs.go:25",#[],none⟩ from rfl,yQ5];obtain⟨l0,_⟩|⟨_,rfl,l21,l22,lk⟩:=hst
   ·rw[hfl] at l0;cases l0
   simp only[go_sem,zE,zB,zA,zM,zS,zL,reduceCtorEq];refine λb'=>yQc λhb'=>⟨rfl,b',[],.inl ⟨sti,hb',rfl,λp hp=>(by cases hp),λk hk hl=>?_,λk hk=>?_⟩,yJp zXu hz his rfl λj hj hl d v hs=>hsl j hj hl d v ?_⟩
   ·rw[st' _ (by omega),lk k hk] at hl;cases hl
   ·rw[st' _ (by omega),lk k hk];rfl
   ·have j0:j≠0:=λh=>by rw[h,hfl] at hl;cases hl
    have j43:j≠21:=λh=>by rw[h,l21] at hl;cases hl
    have j44:j≠22:=λh=>by rw[h,l22] at hl;cases hl
    unfold xQi at hs ⊢;rw[if_neg j0,if_neg j43,if_neg j44] at hs ⊢;exact hs
  by_cases i21:i=21
  ·subst i21;rw[show opR 21=⟨some 12,.move (.tmp 1),74, "signs.go:25",⟨(List.range 21).map λj=>⟨j,.data⟩⟩,none⟩ from rfl] at hdep ⊢;have d0:listed.getD 0 false=true:=hdep ⟨0,.data⟩ (by simp) rfl;have f1:=hsl 0 (by omega) d0 _ _ rfl;rw[yQ5];simp only[go_sem,zE,zB,zA,zM,zS,zL,reduceCtorEq,f1];refine⟨rfl,b,es,?_,yJp zXu hz his rfl hsl⟩;obtain⟨l0,hb,hs,hE⟩|⟨l0,_⟩:=hst
   ·exact .inl ⟨by rw[st' 0 (by omega)];exact l0,hb,hs,keepE (λk hk=>by omega) hE⟩
   ·rw[d0] at l0;cases l0
  by_cases i22:i=22
  ·subst i22;rw[show opR 22=⟨some 0,.assign (.tmp 12),74, "signs.go:25",⟨⟨21,.data⟩::(List.range 22).map λj=>⟨j,.phase⟩⟩,none⟩ from rfl] at hdep ⊢;have d0:listed.getD 21 false=true:=hdep ⟨21,.data⟩ (by simp) rfl;have f1:=hsl 21 (by omega) d0 _ _ rfl;rw[yQ5];simp only[go_sem,zE,zB,zA,zM,zS,zL,reduceCtorEq,f1];refine⟨rfl,b,es,?_,yJp zXu hz his rfl hsl⟩;obtain⟨l0,hb,hs,hE⟩|⟨_,_,l21,_⟩:=hst
   ·exact .inl ⟨by rw[st' 0 (by omega)];exact l0,hb,hs,keepE (λk hk=>by omega) hE⟩
   ·rw[d0] at l21;cases l21
  rcases (show i%2=1\/i%2=0 by omega) with h3|h3
  ·obtain⟨k,hk,rfl⟩:∃k,k<10/\i=1+2*k:=⟨i / 2,by omega,by omega⟩
   have he:opR (1+2*k)=⟨some (2+k),.build 136 ⟨[(0,.const (.bool (kB k))),(1,.const (.int .u8 (kO k)))]⟩,136, "signs.go:25",#[],none⟩:=by
    unfold opR;rw[if_neg (by omega),if_neg (by omega),if_neg (by omega),if_pos (by omega),show (1+2*k) / 2=k by omega]
   rw[he,yQ5];simp only[go_sem,zE,zB,zA,zM,zS,zL,reduceCtorEq,fits];refine⟨rfl,b,es,?_,yJp zXu hz his (xQh hk) hsl⟩;rcases hst with⟨l0,hb,hs,hE⟩|⟨l0,hs,l21,l22,lk⟩
   ·exact .inl ⟨by rw[st' 0 (by omega)];exact l0,hb,hs,keepE (λk hk=>by omega) hE⟩
   ·exact .inr ⟨by rw[st' 0 (by omega)];exact l0,hs,by rw[st' 21 (by omega)];exact l21,by rw[st' 22 (by omega)];exact l22,λk' hk'=>by rw[st' _ (by omega)];exact lk k' hk'⟩
  ·obtain⟨k,hk,rfl⟩:∃k,k<10/\i=2+2*k:=⟨i / 2-1,by omega,by omega⟩
   have he:opR (2+2*k)=⟨none,.insert 74 (.tmp 1) (.tmp (2+k)) (.const (.int .u8 (yVg (kB k) (kO k)))),0, "signs.go:25",⟨[⟨0,.data⟩,⟨1+2*k,.data⟩]⟩,none⟩:=by
    unfold opR;rw[if_neg (by omega),if_neg (by omega),if_neg (by omega),if_neg (by omega),show (2+2*k) / 2-1=k by omega,show 2+2*k-1=1+2*k by omega]
   rw[he] at hdep ⊢;have d0:listed.getD 0 false=true:=hdep ⟨0,.data⟩ (by simp) rfl;have d1:listed.getD (1+2*k) false=true:=hdep ⟨1+2*k,.data⟩ (by simp) rfl;have f0:=hsl 0 (by omega) d0 _ _ rfl;have f1:=hsl _ (by omega) d1 _ _ (xQh hk);obtain⟨_,hb,rfl,hE1,hE2,hE3⟩|⟨l0,_⟩:=hst
   case inr=>rw[d0] at l0;cases l0
   unfold kIV at f1;have e1:decide ((0:Int)<=(kO k:Int))=true:=dEt (by omega);have e2:decide ((kO k:Int)<=255)=true:=dEt (by have:=k_lt (show k<14 by omega);omega);rw[yQ5];simp only[go_sem,zE,zB,zA,zM,zS,zL,reduceCtorEq,f0,f1,e1,e2,fits,ISt.put_same,yQ8];refine⟨rfl,b,updI (sgV (kB k) (kO k)) (vR k) es,.inl ⟨by rw[st' 0 (by omega)];exact d0,hb,rfl,λp hp=>?_,λk' hk' hl=>?_,λk' hk'=>?_⟩,λj hj hl d v hs=>?_⟩
   ·rcases xWo hp with rfl|hp
    ·exact⟨k,hk,rfl⟩
    ·exact hE1 p hp
   ·by_cases hkk:k=k'
    ·subst hkk;exact xVj ..
    ·rw[st' _ (by omega)] at hl;exact xVi (xY1 hk hk' hkk) (hE2 k' hk' hl)
   ·rw[zJa];by_cases hkk:k'=k
    ·subst hkk;rw[if_pos ⟨rfl,rfl⟩,if_pos sti]
    ·rw[if_neg (λhc=>hkk (vZd (by omega) (by omega) hc.1 (by have:=hc.2;omega))),hE3 k' hk',st' _ (by omega)]
   ·by_cases hjk:2+2*k=j
    ·subst hjk;unfold xQi at hs;rw[if_neg (by omega),if_neg (by omega),if_neg (by omega),if_neg (by omega)] at hs;cases hs
    ·rw[st' j hjk] at hl;exact hsl j hj hl d v hs
 ·intro listed ad fr st1 ds hz hr hJ;have hl:=zK7 (ops:=opsR) (by decide +kernel) hz hr;obtain⟨rfl,b,es,hst,hsl⟩:=hJ;obtain⟨_,hb,rfl,hE1,hE2,hE3⟩|⟨l0,_⟩:=hst
  case inr=>rw[hl 0 (by decide)] at l0;cases l0
  have f0:=hsl 22 (by decide) (hl 22 (by decide)) _ _ rfl;simp only[go_sem,zE,zB,zA,zM,zS,zL,reduceCtorEq,f0];have hlk:∀k,k<10->listed.getD (2+2*k) false=true:=λk hk=>hl _ (by show 2+2*k<23;omega);exact yQ0 ⟨b,es,hb,rfl,⟨hE1,λk hk=>hE2 k hk (hlk k hk),λk hk=>by rw[hE3 k hk,if_pos (hlk k hk)]⟩,rfl⟩
 ·refine⟨rfl,0,[],.inr ⟨yXu _ _,rfl,yXu _ _,yXu _ _,λk hk=>yXu _ _⟩,λi hi hl=>?_⟩;have:=yXu 23 i;rw[show (Array.replicate 23 false).getD i false=true from hl] at this;cases this
structure RulX (ents:Array MapEntry)(clock:Nat):Prop where
 all:∀e∈ents.toList,∃k,k<10/\e.key=sgV (kB k) (kO k)/\e.val=.int .u8 (yVg (kB k) (kO k))
 has:∀k,k<10->∃e∈ents.toList,e.key=sgV (kB k) (kO k)
 born:∀e∈ents.toList,e.born<clock
 nd:(ents.toList.map (·.born)).Nodup
theorem vQg {es:List (Value×IV)}{ents:Array MapEntry}{clock:Nat}(h:wV8 es)(hg:wGy .sg es ents clock):RulX ents clock:=by
 obtain⟨h1,h2,_⟩:=h;obtain⟨g1,g2,g3,g4,g5⟩:=hg;have hlen:ents.toList.length=es.length:=by have:=congrArg List.length g1;simpa using this
 refine⟨λe he=>?_,λk hk=>?_,g3,?_⟩
 ·obtain⟨i,hi⟩:=List.mem_iff_getElem?.1 he;obtain⟨p,hp⟩:=yQ4 (l:=es) (k:=i) (by rw[<- hlen];exact (lGs hi).1);have hkey:e.key=p.1:=by
   have:=congrArg (λl=>l[i]?) g1;simp only[List.getElem?_map,hi,hp,Option.map_some,Option.some.injEq] at this;exact this
  obtain⟨k,hk,rfl⟩:=h1 p (lMg hp);exact⟨k,hk,hkey,g5 i e _ hi hp _ rfl⟩
 ·obtain⟨i,hi⟩:=List.mem_iff_getElem?.1 (h2 k hk);obtain⟨e,he⟩:=yQ4 (l:=ents.toList) (k:=i) (by rw[hlen];exact (lGs hi).1);refine⟨e,lMg he,?_⟩;have:=congrArg (λl=>l[i]?) g1;simp only[List.getElem?_map,hi,he,Option.map_some,Option.some.injEq] at this;exact this
 ·rw[List.Nodup,List.pairwise_map];exact g4.imp λh=>Nat.ne_of_lt h
theorem wZ4 (st:ISt):ICall prog gl 42 [] st (λr st'=>∃b ents clock,st b=none/\r=.raw (.map (some b))/\RulX ents clock/\st'=st.put b (some (.mapx ents clock))) :=
 ICall.mapxR ((xVq gl st).mono λr st' ⟨b,es,hb,hr,hok,hs⟩=>⟨b,.sg,es,by rw[hs];exact ISt.put_same ..,λents clock hg=>⟨b,ents,clock,hb,hr,vQg hok hg,by rw[hs,yQ8]⟩⟩)
theorem xUa {ents:Array MapEntry}(hn:(ents.toList.map (·.born)).Nodup)(seen:Array Nat){e:MapEntry}(h:e∈ents.toList):xUb ents (seen.push e.born)=valI e.val:=by
 have hf:ents.toList.find? (λx=>x.born == e.born)=some e:=find_born e ents.toList hn h;unfold xUb;rw[Array.back?_push,Option.bind_some,hf]
def zG0 (es:List (Value×IV)):Prop:=∀rule:Nat,yZy (.int .u8 rule) es=if yKa rule=true then some (.raw (.bool true)) else none
def vXj (ents:Array MapEntry)(seen:Array Nat)(es:List (Value×IV)):Prop :=
 (∀(rule:Nat) v,yZy (.int .u8 rule) es=some v->v=.raw (.bool true)/\yKa rule=true)/\yZy (.int .u8 1) es=some (.raw (.bool true))/\yZy (.int .u8 2) es=some (.raw (.bool true)) /\
 ∀e∈ents.toList,e ∉ yYn ents seen->∀k,k<10->e.key=sgV (kB k) (kO k)->kB k=true->yZy (.int .u8 (yVg true (kO k))) es=some (.raw (.bool true))
theorem vZe {k:Nat}(hk:k<10)(hb:kB k=true):yKa (yVg true (kO k))=true:=by
 rcases (show k=0\/k=1\/k=2\/k=3\/k=4\/k=5\/k=6\/k=7\/k=8\/k=9 by omega) with rfl|rfl|rfl|rfl|rfl|rfl|rfl|rfl|rfl|rfl<;>revert hb<;>decide
theorem wWv {ents:Array MapEntry}{clock:Nat}{seen:Array Nat}{es:List (Value×IV)}(hX:RulX ents clock)(hn:yYn ents seen=[])(h:vXj ents seen es):zG0 es:=by
 intro rule;cases hl:yKa rule
 ·cases hf:yZy (.int .u8 rule) es with
  | none=>rfl
  | some v=>rw[(h.1 rule v hf).2] at hl;cases hl
 ·rw[if_pos rfl];have key:∀k,k<10->kB k=true->yZy (.int .u8 (yVg true (kO k))) es=some (.raw (.bool true)):=λk hk hb=>by
   obtain⟨e,he,hek⟩:=hX.has k hk;exact h.2.2.2 e he (by rw[hn];simp) k hk hek hb
  have hc:rule=1\/rule=2\/rule=3\/rule=5\/rule=7\/rule=9\/rule=11:=by
   simp only[yKa,Bool.or_eq_true,dTe] at hl;omega
  rcases hc with rfl|rfl|rfl|rfl|rfl|rfl|rfl
  ·exact h.2.1
  ·exact h.2.2.1
  ·exact key 0 (by decide) rfl
  ·exact key 2 (by decide) rfl
  ·exact key 4 (by decide) rfl
  ·exact key 6 (by decide) rfl
  ·exact key 8 (by decide) rfl
theorem wJ3 (b:Bool)(o:Int):keyI (sgV b o)=some (.agg [.raw (.bool b),.raw (.int .u8 o)]):=rfl
theorem zKi (st:ISt):ICall prog gl 47 [] st (λr st'=>∃m es,st m=none/\r=.agg [.raw (.map (some m))]/\zG0 es/\st'=st.put m (some (.map (.int .u8) es))):=by
 refine iI func47 ?_;simp only[go_sem,zE,zB,zA,zM,zS,zL,reduceCtorEq,fits];refine λm=>yQc λhm=>?_;simp only[go_sem,zE,zB,zA,zM,zS,zL,reduceCtorEq,fits,ISt.put_same,yQ8];refine (wZ4 gl _).mono ?_;rintro _ _ ⟨b,ents,clock,hb,rfl,hX,rfl⟩;have hbm:b≠m:=λh=>by rw[h,ISt.put_same] at hb;cases hb
 simp only[go_sem,zE,zB,zA,zM,zS,zL,reduceCtorEq,fits,ISt.put_same];refine λr=>yQc λhr=>?_;have hrb:r≠b:=λh=>by rw[h,ISt.put_same] at hr;cases hr
 have hrm:r≠m:=λh=>by rw[h,yQb hbm.symm,ISt.put_same] at hr;cases hr
 have hb0:st b=none:=by rw[yQb hbm] at hb;exact hb
 have hr0:st r=none:=by rw[yQb hrb,yQb hrm] at hr;exact hr
 have hchk:((∀e∈ents.toList,e.born<clock/\(keyI e.key).isSome=true)/\clock<=clock)=True:=eq_true ⟨λe he=>⟨hX.born e he,by obtain⟨k,_,hk,_⟩:=hX.all e he;rw[hk];rfl⟩,Nat.le_refl _⟩;have hnd:(ents.toList.map (·.born)).Nodup=True:=eq_true hX.nd;refine LoopC.dec ents.toList.length (λk fr st' ds=>(∃seen es,(yYn ents seen).length=k/\vXj ents seen es/\st' m=some (.map (.int .u8) es)/\st' b=some (.mapx ents clock)/\st' r=some (.iter b clock seen clock)/\∀c,c≠m->c≠b->c≠r->st' c=st c) /\
  fr 0=.box [.raw (.map none)]/\fr 1=.box [.raw (.map (some m))]/\fr 8=.iv (.raw (.pointer (some ⟨r,0,none⟩)))/\ds=[]) ?_ ?_
 ·simp only[go_sem,zE,zB,zA,zM,zS,zL,reduceCtorEq];refine⟨#[],_,by rw[xZj],⟨λrule v h=>?_,rfl,rfl,λe he hn=>absurd (by rw[xZj];exact he) hn⟩,by rw[yQb hrm.symm,yQb hbm.symm,ISt.put_same],by rw[yQb hrb.symm,ISt.put_same],rfl,λc h1 h2 h3=>by rw[yQb h3,yQb h2,yQb h1]⟩;rw[yK1,yK1] at h;have h2:rule=1\/rule=2:=by
   refine Classical.byContradiction λhc=>?_;rw[if_neg (by omega),if_neg (by omega)] at h;cases h
  have hv:v=.raw (.bool true):=by
   rcases h2 with rfl|rfl
   ·exact (Option.some.inj h).symm
   ·exact (Option.some.inj h).symm
  exact⟨hv,by rcases h2 with rfl|rfl<;>rfl⟩
 ·rintro k fr st1 _ ⟨⟨seen,es,hlen,hP,hm1,hb1,hr1,hrest⟩,f0,f1,f8,rfl⟩;simp only[go_sem,zE,zB,zA,zM,zS,zL,reduceCtorEq,f0,f1,f8,hr1,hb1,hchk];refine⟨λhnil=>?_,λe he x hx=>?_⟩
  ·simp only[go_sem,zE,zB,zA,zM,zS,zL,reduceCtorEq,f0,f1,f8,fits];refine yQa (st':=st.put m (some (.map (.int .u8) es))) (λc o hc=>?_) ⟨m,es,hm,rfl,wWv hX hnil hP,rfl⟩;by_cases hcm:c=m
   ·subst hcm;rw[ISt.put_same] at hc;rw[hm1];exact hc
   ·rw[yQb hcm] at hc;rw[hrest c hcm (λh=>by rw[h,hb0] at hc;cases hc) (λh=>by rw[h,hr0] at hc;cases hc)];exact hc
  ·have hem:=wXf he;obtain⟨j,hj,hek,hev⟩:=hX.all e hem;rw[hek] at hx;cases hx;have hlast:=xUd hX.nd seen hem;rw[hek] at hlast;have hlw:=xUa hX.nd seen hem;rw[hev] at hlw;have hpush:=xU9 hX.nd he;have hother:∀(o1 o2:IObj) c,c≠m->c≠b->c≠r->((st1.put r (some o1)).put m (some o2)) c=st c:=λo1 o2 c h1 h2 h3=>by rw[yQb h1,yQb h3];exact hrest c h1 h2 h3
   have hnew:∀es',(∀(rule:Nat) v,yZy (.int .u8 rule) es'=some v->v=.raw (.bool true)/\yKa rule=true)->(∀rule:Nat,yZy (.int .u8 rule) es=some (.raw (.bool true))->yZy (.int .u8 rule) es'=some (.raw (.bool true)))->(kB j=true->yZy (.int .u8 (yVg true (kO j))) es'=some (.raw (.bool true)))->vXj ents (seen.push e.born) es':=λes' h1 h2 h3=>by
    refine⟨h1,h2 1 hP.2.1,h2 2 hP.2.2.1,λe' he' hn' k' hk' hek' hb'=>?_⟩;by_cases hl:e'∈yYn ents seen
    ·have hee:e'.born=e.born:=by
      refine Classical.byContradiction λhc=>hn' ?_;unfold yYn at hl ⊢;rw[List.mem_filter] at hl ⊢;refine⟨he',?_⟩;have:=hl.2;simp only[Array.contains_push,Bool.not_or,bAt,Bool.not_eq_true'] at this ⊢;exact⟨this,by simpa using hc⟩
     have heq:e'=e:=by
      have h5:=find_born e ents.toList hX.nd hem;have h6:=find_born e' ents.toList hX.nd he';rw[hee] at h6;exact Option.some.inj (h6.symm.trans h5)
     subst heq;rw[hek] at hek';have hjk:j=k':=by
      refine Classical.byContradiction λhc=>?_;have:=xY1 hj hk' hc;rw[hek'] at this;have h9:yJv (sgV (kB k') (kO k')) (sgV (kB k') (kO k'))=true:=by
       show (decide (kB k'=kB k')&&decide ((kO k':Int)=kO k'))=true;simp
      rw[h9] at this;cases this
     subst hjk;exact h3 hb'
    ·exact h2 _ (hP.2.2.2 e' he' hl k' hk' hek' hb')
   cases hkb:kB j
   ·rw[hkb] at hnew;simp only[go_sem,zE,zB,zA,zM,zS,zL,reduceCtorEq,f0,f1,f8,ISt.put_same,yQb hrb.symm,yQb hrm.symm,hb1,hm1,hnd,hlast,hlw,valI,fits,wJ3,hkb];refine⟨(yYn ents (seen.push e.born)).length,by omega,⟨seen.push e.born,es,rfl,hnew es hP.1 (λ_ h=>h) (λh=>by cases h),rfl,rfl,λc h1 h2 h3=>by rw[yQb h3];exact hrest c h1 h2 h3⟩⟩
   ·rw[hkb] at hnew hlw;simp only[go_sem,zE,zB,zA,zM,zS,zL,reduceCtorEq,f0,f1,f8,ISt.put_same,yQb hrb.symm,yQb hrm.symm,hb1,hm1,hnd,hlast,hlw,valI,fits,wJ3,hkb];have hlk:=vZe hj hkb;refine⟨(yYn ents (seen.push e.born)).length,by omega,⟨seen.push e.born,updI (.int .u8 (yVg true (kO j))) (.raw (.bool true)) es,rfl,hnew _ (λrule v h=>?_) (λrule h=>?_) (λ_=>by rw[yK1,if_pos rfl]),rfl,by rw[yQb hbm,yQb hrb.symm];exact hb1,by rw[yQb hrm,ISt.put_same],hother _ _⟩⟩
    ·rw[yK1] at h;by_cases hr:(rule:Int)=(yVg true (kO j):Nat)
     ·rw[if_pos hr] at h;have:rule=yVg true (kO j):=by omega
      rw[this];exact⟨(Option.some.inj h).symm,hlk⟩
     ·rw[if_neg hr] at h;exact hP.1 rule v h
    ·rw[yK1];split
     ·rfl
     ·exact h
end Go.Proofs.Tryz
namespace Go.Iv
open Go
def ndO:List (Option Nat)->Bool
 | []=>true
 | none::l=>ndO l
 | some d::l=>!l.contains (some d)&&ndO l
theorem xZb:∀ {l:List (Option Nat)}{i j d d':Nat},ndO l=true->l[i]?=some (some d)->l[j]?=some (some d')->i≠j->d≠d'
 | [],i,j,d,d',_,h,_,_=>by simp at h
 | none::l,0,j,d,d',hn,h,h',hne=>by simp at h
 | none::l,i+1,0,d,d',hn,h,h',hne=>by simp at h'
 | none::l,i+1,j+1,d,d',hn,h,h',hne=>xZb (l:=l) hn (by simpa using h) (by simpa using h') (by omega)
 | some x::l,0,0,d,d',hn,h,h',hne=>absurd rfl hne
 | some x::l,0,j+1,d,d',hn,h,h',hne=>by
  simp only[ndO,bAt,Bool.not_eq_true'] at hn;simp only[List.getElem?_cons_zero,Option.some.injEq] at h;subst h;rintro rfl;have:=lMg (show l[j]?=some (some x) by simpa using h');have h2:l.contains (some x)=true:=List.contains_iff_mem.2 this;rw[hn.1] at h2;cases h2
 | some x::l,i+1,0,d,d',hn,h,h',hne=>by
  simp only[ndO,bAt,Bool.not_eq_true'] at hn;simp only[List.getElem?_cons_zero,Option.some.injEq] at h';subst h';rintro rfl;have:=lMg (show l[i]?=some (some d) by simpa using h);have h2:l.contains (some d)=true:=List.contains_iff_mem.2 this;rw[hn.1] at h2;cases h2
 | some x::l,i+1,j+1,d,d',hn,h,h',hne=>by
  simp only[ndO,bAt] at hn;exact xZb (l:=l) hn.2 (by simpa using h) (by simpa using h') (by omega)
def SlotsOk (L:List (Option (Nat×IV)))(listed:Array Bool)(fr:Fr):Prop:=∀i,listed.getD i false=true->∀d z,L[i]?=some (some (d,z))->fr d=.iv z
theorem SlotsOk.step {L L':List (Option (Nat×IV))}{D:List (Option Nat)}(hD:L'.map (·.map (·.1))=D)(hn:ndO D=true){i d:Nat}{z:IV}{listed:Array Bool}{fr:Fr}(hi:i<listed.size)(hs:L'[i]?=some (some (d,z)))
  (hk:∀j,j≠i->listed.getD j false=true->L'[j]?=L[j]?) (h:SlotsOk L listed fr):SlotsOk L' (listed.setIfInBounds i true) (fr.put d (.iv z)):=by
 intro j hl d' z' hs';rw[Fr.put_apply];by_cases hij:i=j
 ·subst hij;rw[hs] at hs';cases hs';rw[if_pos rfl]
 ·have g1:D[i]?=some (some d):=by rw[<- hD,List.getElem?_map,hs];rfl
  have g2:D[j]?=some (some d'):=by rw[<- hD,List.getElem?_map,hs'];rfl
  rw[if_neg (xZb hn g1 g2 hij).symm];rw[getD_set_ne false hij] at hl;exact h j hl d' z' (by rw[<- hk j (Ne.symm hij) hl];exact hs')
theorem SlotsOk.skip {L:List (Option (Nat×IV))}{i:Nat}{listed:Array Bool}{fr:Fr}(hs:L[i]?=some none\/L.length<=i)(h:SlotsOk L listed fr):SlotsOk L (listed.setIfInBounds i true) fr:=by
 intro j hl d' z' hs';have hij:i≠j:=by
  rintro rfl;rcases hs with hs|hs
  ·rw[hs] at hs';cases hs'
  ·rw[List.getElem?_eq_none hs] at hs';cases hs'
 rw[getD_set_ne false hij] at hl;exact h j hl d' z' hs'
theorem SlotsOk.start (L:List (Option (Nat×IV)))(n:Nat)(fr:Fr):SlotsOk L (Array.replicate n false) fr:=by
 intro j hl;rw[Array.getD_eq_getD_getElem?,Array.getElem?_replicate] at hl;split at hl<;>cases hl
end Go.Iv
namespace Go.Iv
open Go
def kZ4 (ops:Array Oper):Bool:=(List.range ops.size).all λi=>(opAt ops i).after.toList.all λe=>Region.binds .any e&&decide (e.on<i)
def uY8 (ops:Array Oper)(n:Nat):Bool:=(List.range n).all λi=>(opAt ops n).after.toList.any λe=>e.on == i
def zXq (ops:Array Oper):List (Option Nat):=ops.toList.map (·.dst)
def AnyJ (ops:Array Oper)(n:Nat)(Rel:Nat->IV->Prop)(F G:Fr->Prop)(st:ISt)(listed:Array Bool):Kt:=λad fr st1 ds=>(∀s,ad s=none)/\ds=[]/\st1=st /\
 (listed.getD n false=true->∀i,i<ops.size->listed.getD i false=true) /\
 (∀i,listed.getD i false=true->∀d,(opAt ops i).dst=some d->∃v,fr d=.iv v/\Rel i v)/\(listed.getD n false=false->F fr)/\(listed.getD n false=true->G fr)
structure AnyS (ops:Array Oper)(n:Nat)(F:Fr->Prop):Prop where
 size:ops.size=n+1
 bind:kZ4 ops=true
 last:uY8 ops n=true
 nd:ndO (zXq ops)=true
 keep:∀fr d z,some d∈zXq ops->F fr->F (fr.put d z)
theorem yG0 {ad:Ad}(h:∀s,ad s=none)(d:Nat):∀s,ad.put d none s=none:=λs=>by
 rw[Ad.put_apply,h s];split<;>rfl
theorem xQy {L:List (Option Nat)}{d k:Nat}{fr:Fr}{z:SV}(hd:some d∈L)(hk:L.contains (some k)=false):(fr.put d z) k=fr k:=by
 rw[Fr.put_apply,if_neg];rintro rfl;rw[List.contains_iff_mem.2 hd] at hk;cases hk
theorem wGo {L:List (Option Nat)}{d k:Nat}{fr:Fr}{z:SV}(hk:L.contains (some k)=false):some d∈L->(fr.put k z) d=fr d:=λhd=>by
 rw[Fr.put_apply,if_neg];rintro rfl;rw[List.contains_iff_mem.2 hd] at hk;cases hk
theorem zGd {c:Cf}{ops:List Oper}{dst:Option Nat}{op:Op}{ty:TypeId}{pos:String}{aft:Array Edge}{j:Nat}{want b:Bool}{d d':Nat}{K:Kt}{ad:Ad}{fr:Fr}{st:ISt}{ds:List Dfd}(hd:dst=some d')(hj:yVp ops j=some d)(hf:fr d=.iv (.raw (.bool b)))(had:∀s,ad s=none)
  (h1:b=want->vcOp c dst op K ad fr st ds) (h2:b≠want->K (ad.put d' none) (fr.put d' (.iv (.raw undef))) st ds):yYl c ops ⟨dst,op,ty,pos,aft,some (j,want)⟩ K ad fr st ds:=by
 subst hd;unfold yYl yX1;simp only[hj,hf];split
 ·exact h1 ‹_›
 ·exact h2 ‹_›
def wV7 (c:Cf)(ops:Array Oper)(n:Nat)(Rel:Nat->IV->Prop)(F G:Fr->Prop)(st:ISt)(o:Oper)(i:Nat):Prop:=∀(ad:Ad) (fr:Fr) (K:Kt),(∀s,ad s=none)->F fr →
 (∀k d,(o.after.toList.any λe=>e.on == k)=true->(opAt ops k).dst=some d->∃v,fr d=.iv v/\Rel k v) →
 (∀d v,o.dst=some d->(i=n->G (fr.put d (.iv v)))->Rel i v->K (ad.put d none) (fr.put d (.iv v)) st [])->(∀fr',o.dst=none->i=n->G fr'->(∀d,some d∈zXq ops->fr' d=fr d)->K ad fr' st [])->yYl c ops.toList o K ad fr st []
def AllOk (c:Cf)(ops:Array Oper)(n:Nat)(Rel:Nat->IV->Prop)(F G:Fr->Prop)(st:ISt):List Oper->Nat->Prop
 | [],_=>True
 | o::l,i=>wV7 c ops n Rel F G st o i/\AllOk c ops n Rel F G st l (i+1)
theorem AllOk.cons {c:Cf}{ops:Array Oper}{n:Nat}{Rel:Nat->IV->Prop}{F G:Fr->Prop}{st:ISt}{o:Oper}{l:List Oper}{i:Nat}(h:wV7 c ops n Rel F G st o i)(h':AllOk c ops n Rel F G st l (i+1)):AllOk c ops n Rel F G st (o::l) i:=⟨h,h'⟩
theorem AllOk.get {c:Cf}{ops:Array Oper}{n:Nat}{Rel:Nat->IV->Prop}{F G:Fr->Prop}{st:ISt}:∀ {l:List Oper} {i k:Nat} {o:Oper},AllOk c ops n Rel F G st l i->l[k]?=some o->wV7 c ops n Rel F G st o (i+k)
 | [],i,k,o,_,hk=>by simp at hk
 | a::l,i,0,o,h,hk=>by simp at hk;subst hk;exact h.1
 | a::l,i,k+1,o,h,hk=>by
  have:=AllOk.get (k:=k) h.2 (by simpa using hk);rw[show i+1+k=i+(k+1) by omega] at this;exact this
theorem anyS {ops:Array Oper}{n:Nat}{Rel:Nat->IV->Prop}{F G:Fr->Prop}(h:AnyS ops n F){c:Cf}{Q:Fr->ISt->List Dfd->Prop}{st:ISt}(hs:AllOk c ops n Rel F G st ops.toList 0)
  (he:∀fr,G fr->(∀i,i<ops.size->∀d,(opAt ops i).dst=some d->∃v,fr d=.iv v/\Rel i v)->Q fr st []) {ad:Ad} {fr:Fr} (had:∀s,ad s=none) (hF:F fr):anyV c ops Q ops.size (Array.replicate ops.size false) ad fr st []:=by
 have hsz:=h.size;have hrep:∀i,(Array.replicate ops.size false).getD i false=false:=λi=>by
  rw[Array.getD_eq_getD_getElem?,Array.getElem?_replicate];split<;>rfl
 have gset:∀ {l:Array Bool} {i j:Nat},i<l.size->(l.setIfInBounds i true).getD j false=if i=j then true else l.getD j false:=λ{l i j} hi=>by
  by_cases h:i=j
  ·subst h;rw[if_pos rfl];simp[hi]
  ·rw[if_neg h,getD_set_ne false h]
 refine yJ6 (AnyJ ops n Rel F G st) (λlisted ad fr st1 ds hz hJ i hi=>?_) (λlisted ad fr st1 ds hz hr hJ=>?_) _ _ _ _ _ _ (by simp) ⟨had,rfl,rfl,λhl=>?_,λi hl=>?_,λ_=>hF,λhl=>?_⟩
 ·obtain⟨j0,o,ho,hdep⟩:=mem_ready.1 hi;have his:i<ops.size:=(Array.getElem?_eq_some_iff.1 ho).1;obtain rfl:opAt ops i=o:=by rw[yZr his] at ho;exact Option.some.inj ho
  have hfl:listed.getD i false=false:=by
   rw[Array.getD_eq_getD_getElem?,Array.getElem?_eq_getElem (by omega)] at j0 ⊢;exact j0
  obtain⟨had,rfl,rfl,hall,hsl,hF',hG'⟩:=hJ;have hdep':∀e∈(opAt ops i).after.toList,listed.getD e.on false=true:=λe hem=>hdep e (by simpa using hem) ((bAt _ _).mp (List.all_eq_true.1 (List.all_eq_true.1 h.bind i (List.mem_range.2 his)) e hem)).1;have hlf:listed.getD (n) false=false:=by
   cases hl:listed.getD (n) false
   ·rfl
   ·rw[hall hl i his] at hfl;cases hfl
  have hget:∀d,(opAt ops i).dst=some d->(zXq ops)[i]?=some (some d):=λd hd=>by
   rw[zXq,List.getElem?_map,Array.getElem?_toList,yZr his];exact congrArg some hd
  have hget':∀j d,(opAt ops j).dst=some d->j<ops.size->(zXq ops)[j]?=some (some d):=λj d hd hj=>by
   rw[zXq,List.getElem?_map,Array.getElem?_toList,yZr hj];exact congrArg some hd
  have hdflt:∀j d,(opAt ops j).dst=some d->j<ops.size:=λj d hd=>by
   refine Decidable.byContradiction λhc=>?_;unfold opAt at hd;rw[Array.getD_eq_getD_getElem?,Array.getElem?_eq_none (by omega)] at hd;cases hd
  have hallset:(listed.setIfInBounds i true).getD (n) false=true->∀j,j<ops.size->(listed.setIfInBounds i true).getD j false=true:=λhl j hj=>by
   rw[gset (by omega)] at hl ⊢;by_cases hil:i=n
   ·by_cases hij:i=j
    ·rw[if_pos hij]
    ·rw[if_neg hij];obtain⟨e,he1,he2⟩:=List.any_eq_true.1 (List.all_eq_true.1 h.last j (List.mem_range.2 (by omega)));rw[<- hil] at he1;have:=hdep' e he1;rw[show e.on=j by simpa using he2] at this;exact this
   ·rw[if_neg hil,hlf] at hl;cases hl
  have hst:=hs.get (k:=i) (by rw[Array.getElem?_toList,yZr his]);rw[Nat.zero_add] at hst;refine hst ad fr _ had (hF' hlf) (λk d hk hd=>?_) (λd v hd hg hR=>?_) (λfr' hd hil hg hsame=>?_)
  ·obtain⟨e,he1,he2⟩:=List.any_eq_true.1 hk;rw[<- show e.on=k by simpa using he2] at hd ⊢;exact hsl e.on (hdep' e he1) d hd
  ·refine⟨yG0 had d,rfl,rfl,hallset,λj hl d' hd'=>?_,λhl=>?_,λhl=>?_⟩
   ·rw[gset (by omega)] at hl;by_cases hij:i=j
    ·subst hij;rw[hd] at hd';cases hd';exact⟨v,by rw[Fr.put_apply,if_pos rfl],hR⟩
    ·rw[if_neg hij] at hl;obtain⟨v',e',r'⟩:=hsl j hl d' hd';exact⟨v',by rw[Fr.put_apply,if_neg (xZb h.nd (hget d hd) (hget' j d' hd' (hdflt j d' hd')) hij).symm];exact e',r'⟩
   ·exact h.keep _ _ _ (lMg (hget d hd)) (hF' hlf)
   ·rw[gset (by omega)] at hl;by_cases hil:i=n
    ·exact hg hil
    ·rw[if_neg hil,hlf] at hl;cases hl
  ·refine⟨had,rfl,rfl,hallset,λj hl d' hd'=>?_,λhl=>?_,λhl=>hg⟩
   ·rw[gset (by omega)] at hl;by_cases hij:i=j
    ·subst hij;rw[hd] at hd';cases hd'
    ·rw[if_neg hij] at hl;obtain⟨v',e',r'⟩:=hsl j hl d' hd';exact⟨v',by rw[hsame d' (lMg (hget' j d' hd' (hdflt j d' hd')))];exact e',r'⟩
   ·rw[gset (by omega),if_pos hil] at hl;cases hl
 ·obtain⟨had,rfl,rfl,hall,hsl,hF',hG'⟩:=hJ;have hl:listed.getD (n) false=true:=by
   refine Classical.byContradiction λhc=>?_;have hnr:∀i,i<ops.size->listed.getD i false=true:=by
    intro i
    induction i using Nat.strongRecOn with
    | _ i ih =>
     intro hi;refine Classical.byContradiction λhc=>?_;have h4:listed.getD i true=false:=by
      rw[Array.getD_eq_getD_getElem?,Array.getElem?_eq_getElem (by omega)] at hc ⊢;simpa using hc
     have:i∈Region.ready .any ops listed:=mem_ready.2 ⟨h4,_,yZr hi,λe hem _=>by
      have h5:=of_decide_eq_true ((bAt _ _).mp (List.all_eq_true.1 (List.all_eq_true.1 h.bind i (List.mem_range.2 hi)) e (by simpa using hem))).2;exact ih e.on h5 (Nat.lt_trans h5 hi)⟩
     rw[hr] at this;cases this
   exact hc (hnr _ (by omega))
  exact he fr (hG' hl) λi hi d hd=>hsl i (hall hl i hi) d hd
 ·rw[hrep] at hl;cases hl
 ·rw[hrep] at hl;cases hl
 ·rw[hrep] at hl;cases hl
def kZd (ops:Array Oper)(n:Nat)(Rel:Nat->IV->Prop)(F G:Fr->Prop)(S:Array Bool->ISt)(listed:Array Bool):Kt:=λad fr st1 ds=>(∀s,ad s=none)/\ds=[]/\st1=S listed /\
 (listed.getD n false=true->∀i,i<ops.size->listed.getD i false=true) /\
 (∀i,listed.getD i false=true->∀d,(opAt ops i).dst=some d->∃v,fr d=.iv v/\Rel i v)/\(listed.getD n false=false->F fr)/\(listed.getD n false=true->G fr)
def allB (n:Nat):Array Bool:=Array.replicate n true
def xKy (c:Cf)(ops:Array Oper)(n:Nat)(Rel:Nat->IV->Prop)(F G:Fr->Prop)(S:Array Bool->ISt)(o:Oper)(i:Nat):Prop:=∀(listed:Array Bool) (ad:Ad) (fr:Fr) (K:Kt),listed.size=ops.size->listed.getD i false=false->(∀s,ad s=none)->F fr →
 (∀k d,(o.after.toList.any λe=>e.on == k)=true->(opAt ops k).dst=some d->∃v,fr d=.iv v/\Rel k v) →
 (∀d v,o.dst=some d->(i=n->G (fr.put d (.iv v)))->Rel i v->K (ad.put d none) (fr.put d (.iv v)) (S (listed.setIfInBounds i true)) [])->(∀fr',o.dst=none->i=n->G fr'->(∀d,some d∈zXq ops->fr' d=fr d)->K ad fr' (S (listed.setIfInBounds i true)) [])->yYl c ops.toList o K ad fr (S listed) []
def AllOkS (c:Cf)(ops:Array Oper)(n:Nat)(Rel:Nat->IV->Prop)(F G:Fr->Prop)(S:Array Bool->ISt):List Oper->Nat->Prop
 | [],_=>True
 | o::l,i=>xKy c ops n Rel F G S o i/\AllOkS c ops n Rel F G S l (i+1)
theorem AllOkS.cons {c:Cf}{ops:Array Oper}{n:Nat}{Rel:Nat->IV->Prop}{F G:Fr->Prop}{S:Array Bool->ISt}{o:Oper}{l:List Oper}{i:Nat}(h:xKy c ops n Rel F G S o i)(h':AllOkS c ops n Rel F G S l (i+1)):AllOkS c ops n Rel F G S (o::l) i:=⟨h,h'⟩
theorem AllOkS.get {c:Cf}{ops:Array Oper}{n:Nat}{Rel:Nat->IV->Prop}{F G:Fr->Prop}{S:Array Bool->ISt}:∀ {l:List Oper} {i k:Nat} {o:Oper},AllOkS c ops n Rel F G S l i->l[k]?=some o->xKy c ops n Rel F G S o (i+k)
 | [],i,k,o,_,hk=>by simp at hk
 | a::l,i,0,o,h,hk=>by simp at hk;subst hk;exact h.1
 | a::l,i,k+1,o,h,hk=>by
  have:=AllOkS.get (k:=k) h.2 (by simpa using hk);rw[show i+1+k=i+(k+1) by omega] at this;exact this
theorem anyT {ops:Array Oper}{n:Nat}{Rel:Nat->IV->Prop}{F G:Fr->Prop}(h:AnyS ops n F){c:Cf}{Q:Fr->ISt->List Dfd->Prop}{S:Array Bool->ISt}(hs:AllOkS c ops n Rel F G S ops.toList 0)
  (he:∀fr,G fr->(∀i,i<ops.size->∀d,(opAt ops i).dst=some d->∃v,fr d=.iv v/\Rel i v)->Q fr (S (allB ops.size)) []) {ad:Ad} {fr:Fr} (had:∀s,ad s=none) (hF:F fr):anyV c ops Q ops.size (Array.replicate ops.size false) ad fr (S (Array.replicate ops.size false)) []:=by
 have hsz:=h.size;have hrep:∀i,(Array.replicate ops.size false).getD i false=false:=λi=>by
  rw[Array.getD_eq_getD_getElem?,Array.getElem?_replicate];split<;>rfl
 have gset:∀ {l:Array Bool} {i j:Nat},i<l.size->(l.setIfInBounds i true).getD j false=if i=j then true else l.getD j false:=λ{l i j} hi=>by
  by_cases h:i=j
  ·subst h;rw[if_pos rfl];simp[hi]
  ·rw[if_neg h,getD_set_ne false h]
 refine yJ6 (kZd ops n Rel F G S) (λlisted ad fr st1 ds hz hJ i hi=>?_) (λlisted ad fr st1 ds hz hr hJ=>?_) _ _ _ _ _ _ (by simp) ⟨had,rfl,rfl,λhl=>?_,λi hl=>?_,λ_=>hF,λhl=>?_⟩
 ·obtain⟨j0,o,ho,hdep⟩:=mem_ready.1 hi;have his:i<ops.size:=(Array.getElem?_eq_some_iff.1 ho).1;obtain rfl:opAt ops i=o:=by rw[yZr his] at ho;exact Option.some.inj ho
  have hfl:listed.getD i false=false:=by
   rw[Array.getD_eq_getD_getElem?,Array.getElem?_eq_getElem (by omega)] at j0 ⊢;exact j0
  obtain⟨had,rfl,rfl,hall,hsl,hF',hG'⟩:=hJ;have hdep':∀e∈(opAt ops i).after.toList,listed.getD e.on false=true:=λe hem=>hdep e (by simpa using hem) ((bAt _ _).mp (List.all_eq_true.1 (List.all_eq_true.1 h.bind i (List.mem_range.2 his)) e hem)).1;have hlf:listed.getD (n) false=false:=by
   cases hl:listed.getD (n) false
   ·rfl
   ·rw[hall hl i his] at hfl;cases hfl
  have hget:∀d,(opAt ops i).dst=some d->(zXq ops)[i]?=some (some d):=λd hd=>by
   rw[zXq,List.getElem?_map,Array.getElem?_toList,yZr his];exact congrArg some hd
  have hget':∀j d,(opAt ops j).dst=some d->j<ops.size->(zXq ops)[j]?=some (some d):=λj d hd hj=>by
   rw[zXq,List.getElem?_map,Array.getElem?_toList,yZr hj];exact congrArg some hd
  have hdflt:∀j d,(opAt ops j).dst=some d->j<ops.size:=λj d hd=>by
   refine Decidable.byContradiction λhc=>?_;unfold opAt at hd;rw[Array.getD_eq_getD_getElem?,Array.getElem?_eq_none (by omega)] at hd;cases hd
  have hallset:(listed.setIfInBounds i true).getD (n) false=true->∀j,j<ops.size->(listed.setIfInBounds i true).getD j false=true:=λhl j hj=>by
   rw[gset (by omega)] at hl ⊢;by_cases hil:i=n
   ·by_cases hij:i=j
    ·rw[if_pos hij]
    ·rw[if_neg hij];obtain⟨e,he1,he2⟩:=List.any_eq_true.1 (List.all_eq_true.1 h.last j (List.mem_range.2 (by omega)));rw[<- hil] at he1;have:=hdep' e he1;rw[show e.on=j by simpa using he2] at this;exact this
   ·rw[if_neg hil,hlf] at hl;cases hl
  have hst:=hs.get (k:=i) (by rw[Array.getElem?_toList,yZr his]);rw[Nat.zero_add] at hst;refine hst listed ad fr _ hz hfl had (hF' hlf) (λk d hk hd=>?_) (λd v hd hg hR=>?_) (λfr' hd hil hg hsame=>?_)
  ·obtain⟨e,he1,he2⟩:=List.any_eq_true.1 hk;rw[<- show e.on=k by simpa using he2] at hd ⊢;exact hsl e.on (hdep' e he1) d hd
  ·refine⟨yG0 had d,rfl,rfl,hallset,λj hl d' hd'=>?_,λhl=>?_,λhl=>?_⟩
   ·rw[gset (by omega)] at hl;by_cases hij:i=j
    ·subst hij;rw[hd] at hd';cases hd';exact⟨v,by rw[Fr.put_apply,if_pos rfl],hR⟩
    ·rw[if_neg hij] at hl;obtain⟨v',e',r'⟩:=hsl j hl d' hd';exact⟨v',by rw[Fr.put_apply,if_neg (xZb h.nd (hget d hd) (hget' j d' hd' (hdflt j d' hd')) hij).symm];exact e',r'⟩
   ·exact h.keep _ _ _ (lMg (hget d hd)) (hF' hlf)
   ·rw[gset (by omega)] at hl;by_cases hil:i=n
    ·exact hg hil
    ·rw[if_neg hil,hlf] at hl;cases hl
  ·refine⟨had,rfl,rfl,hallset,λj hl d' hd'=>?_,λhl=>?_,λhl=>hg⟩
   ·rw[gset (by omega)] at hl;by_cases hij:i=j
    ·subst hij;rw[hd] at hd';cases hd'
    ·rw[if_neg hij] at hl;obtain⟨v',e',r'⟩:=hsl j hl d' hd';exact⟨v',by rw[hsame d' (lMg (hget' j d' hd' (hdflt j d' hd')))];exact e',r'⟩
   ·rw[gset (by omega),if_pos hil] at hl;cases hl
 ·obtain⟨had,rfl,rfl,hall,hsl,hF',hG'⟩:=hJ;have hl:listed.getD (n) false=true:=by
   refine Classical.byContradiction λhc=>?_;have hnr:∀i,i<ops.size->listed.getD i false=true:=by
    intro i
    induction i using Nat.strongRecOn with
    | _ i ih =>
     intro hi;refine Classical.byContradiction λhc=>?_;have h4:listed.getD i true=false:=by
      rw[Array.getD_eq_getD_getElem?,Array.getElem?_eq_getElem (by omega)] at hc ⊢;simpa using hc
     have:i∈Region.ready .any ops listed:=mem_ready.2 ⟨h4,_,yZr hi,λe hem _=>by
      have h5:=of_decide_eq_true ((bAt _ _).mp (List.all_eq_true.1 (List.all_eq_true.1 h.bind i (List.mem_range.2 hi)) e (by simpa using hem))).2;exact ih e.on h5 (Nat.lt_trans h5 hi)⟩
     rw[hr] at this;cases this
   exact hc (hnr _ (by omega))
  have hlq:listed=allB ops.size:=by
   refine Array.ext (by rw[hz];simp[allB]) λi h1 h2=>?_;have:=hall hl i (by omega);rw[Array.getD_eq_getD_getElem?,Array.getElem?_eq_getElem h1] at this;simpa[allB] using this
  rw[hlq];exact he fr (hG' hl) λi hi d hd=>hsl i (hall hl i hi) d hd
 ·rw[hrep] at hl;cases hl
 ·rw[hrep] at hl;cases hl
 ·rw[hrep] at hl;cases hl
