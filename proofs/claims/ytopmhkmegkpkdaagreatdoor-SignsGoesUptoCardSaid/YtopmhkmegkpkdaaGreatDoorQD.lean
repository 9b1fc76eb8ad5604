/- Walks: the check of a tableau. -/
import Derived.Test.YtopmhkmegkpkdaaGreatDoorQB
import Derived.Test.YtopmhkmegkpkdaaGreatDoorQC
import Derived.Shelf.SlSortCmp.KitK
import Derived.Test.YtopmhkmegkpkdaaGreatDoorKU
import Derived.Test.YtopmhkmegkpkdaaGreatDoorLE
set_option linter.all false
open Nat renaming reduceEqDiff → zE,reduceBEq → zB,reduceAdd → zA,reduceMul → zM,reduceLeDiff → zL
namespace Go.Proofs.Tryz
open Go Go.Iv
set_option maxRecDepth 4000
variable (gl:Nat->Option IV)
theorem r_ {l:List Mk}(hl:GoodT l){m:Mk}(hm:m∈l):m.f.op<=7:=by
 have h:=(yWf.1 (hl m hm).1).2.2.2;obtain⟨is,w,⟨o,n,us,sub⟩⟩:=m;simp only[opsB,bAt,dTe] at h;have:=h.1.1.2;show o<=7;simpa using this
theorem yI {m:Mk}(h:m.f.op<=7):(eJ m).1<=2:=by
 by_cases h0:(eJ m).1=0
 ·omega
 ·obtain⟨r,hr,_,hT⟩:=oe h0;have:=(rS (gl:=λ_=>none) hr h).2.2.1;rw[hT];omega
theorem NZ (l:List Mk)(hl:GoodT l)(tb:Nat)(x:IV)(hx:IsBr l tb x)(m:Mk)(c:Bool)(w:Int)(sub:List Nd)(z:IV)(hz:IsNd (.mk m c w sub) z)(st:ISt)(es:List (Value×IV))(hb:st tb=some (.map .sg es))(ht:lu es) :
  ICall prog gl 112 [.cptr x,.cptr z] st (λr st'=>r=.raw (.int .i64 (j9 l m c w sub.length))/\st'=st):=by
 obtain⟨o,n,t1,x1,t2,x2,ts,zs,rfl,hf,hts,hzs⟩:=hz.mk;have hy:IsMk m _:=⟨_,_,_,_,_,_,rfl,hf⟩
 have hfind:=λst hb=>rR gl m _ hy st tb es hb ht;have hhas:=λst=>yo gl l tb x hx m _ hy st;have hcl:=λst=>Eg gl l tb x hx m _ hy st;obtain⟨t,xs,t',v,rfl,_⟩:=hx;unfold brI at hhas hcl ⊢;unfold j9;refine iI func112 ?_;simp only[go_sem,zE,zB,zA,zL,reduceCtorEq,fits];refine (hfind _ hb).mono ?_;rintro _ st ⟨rfl,rfl⟩;simp only[go_sem,zE,zB,zA,zL,reduceCtorEq,rowF,fits];refine (hhas _).mono ?_;rintro _ st ⟨rfl,rfl⟩;cases hh:hasT l m
 ·simp only[go_sem,zE];exact cO ⟨by simp,rfl⟩
 have hop:=r_ hl (zZj.1 hh);have hk2:=yI hop;have hlist:=λst hb=>tO gl m _ hy hop w st tb es hb ht;have d3:decide (((eJ m).1:Int)=3)=false:=dEf (by omega);have d4:decide (((eJ m).1:Int)=4)=false:=dEf (by omega);cases c
 ·by_cases hk:(eJ m).1=0
  ·have d0:decide (((eJ m).1:Int)=0)=true:=dEt (by omega);simp only[go_sem,zE,reduceCtorEq,d0];exact cO ⟨by simp[hk],rfl⟩
  have d0:decide (((eJ m).1:Int)=0)=false:=dEf (by omega);by_cases hw:w=0
  ·subst hw;simp only[go_sem,zE,zB,zA,zL,reduceCtorEq,d0,d3,d4,decide_true,fits];refine (hlist _ hb).mono ?_;rintro _ st ⟨tg,ls,rfl,htg,hls,rfl⟩;by_cases hlen:sub.length=(dY m 0).length
   ·have dl:decide ((sub.length:Int)=((dY m 0).length:Int))=true:=dEt (by omega);simp only[go_sem,zE,hls.len,hzs.len,dl,fits];intros;exact cO ⟨by simp[hk,hlen],rfl⟩
   ·have dl:decide ((sub.length:Int)=((dY m 0).length:Int))=false:=dEf (by omega);simp only[go_sem,zE,hls.len,hzs.len,dl,fits];intros;exact cO ⟨by simp[hk,hlen],rfl⟩
  ·have dw:decide (w=0)=false:=dEf hw;simp only[go_sem,zE,reduceCtorEq,d0,d3,d4,dw,fits];exact cO ⟨by simp[hk,hw],rfl⟩
 ·simp only[go_sem,zE,zB,zA,zL,reduceCtorEq,fits];refine (hcl _).mono ?_;rintro _ st ⟨rfl,rfl⟩;cases hc:lr l m
  ·simp only[go_sem,zE];exact cO ⟨by simp,rfl⟩
  by_cases hw:w=0
  ·subst hw;by_cases hlen:sub.length=0
   ·have dl:decide ((sub.length:Int)=0)=true:=dEt (by omega);simp only[go_sem,zE,hzs.len,dl,decide_true,fits];intros;exact cO ⟨by simp[hlen],rfl⟩
   ·have dl:decide ((sub.length:Int)=0)=false:=dEf (by omega);simp only[go_sem,zE,hzs.len,dl,decide_true,fits];intros;exact cO ⟨by simp[hlen],rfl⟩
  ·have dw:decide (w=0)=false:=dEf hw;simp only[go_sem,zE,dw,fits];exact cO ⟨by simp[hw],rfl⟩
def PlI (p:List Nat)(a:IV)(st:ISt):Prop:=(∃t,a=.sl t []/\t.cap=.nil/\p=[]) \/
 ∃g cap cs,a=.raw (.slice (some ⟨g,0,none⟩) p.length cap)/\st g=some (.box cs)/\p.length<=cap/\cap<=cs.length/\cs.take p.length=plI p
def offP (a:IV)(st:ISt):ISt:=match a with
 | .raw (.slice (some ad) _ _)=>st.put ad.block none
 | _=>st
theorem N0 (a:IV)(st:ISt):subSt (offP a st) st:=by
 unfold offP;split
 ·intro c o hc;rw[ISt.put_apply] at hc;split at hc
  ·cases hc
  ·exact hc
 ·exact subSt.refl _
theorem N1 (p:List Nat)(a:IV)(st:ISt)(h:PlI p a st)(hl:p.length<=1099511627776):ICall prog gl 96 [a] st (λr st'=>(∃t',r=.sl t' (plI p)/\okEs t' 1)/\st'=offP a st):=by
 rcases h with⟨t,rfl,ht,rfl⟩|⟨g,cap,cs,rfl,hg,h1,h2,h3⟩
 ·exact EF gl t ht st
 ·have hj:join (st.put g none) (emp.put g (some (.box cs)))=st:=by
   funext b;by_cases hb:b=g
   ·subst hb;rw[fS (cT ..)];exact hg.symm
   ·rw[gE (by rw[de hb];rfl),de hb]
  have:=EI gl p (.raw (.slice (some ⟨g,0,none⟩) p.length cap)) (emp.put g (some (.box cs))) (st.put g none) (.inr ⟨g,cap,cs,rfl,rfl,h1,h2,h3⟩) hl (λb hb=>by
   by_cases hbg:b=g
   ·subst hbg;exact cT ..
   ·rw[de hbg] at hb;exact absurd rfl hb)
  rw[hj] at this;exact this
theorem IsMks.aged:∀ {l:List Mk}{xs:List IV},IsMks l xs->IsMks l (ages xs)
 | [],_,rfl=>rfl
 | a::l,_,⟨y,ys,rfl,hy,h⟩=>by
  obtain⟨o,n,t,xs,t',ys',rfl,hf⟩:=hy;have h1:=hf.aged;simp only[age,ages] at h1;refine⟨age _,ages ys,rfl,?_,h.aged⟩;simp only[age,ages];exact⟨o,n,_,_,_,_,rfl,h1⟩
theorem IsBr.aged {l:List Mk}{tb:Nat}{t:Tag}{xs:List IV}{t':Tag}{v:Int}(h:IsBr l tb (.agg (brI tb t xs t' v))):IsBr l tb (.agg (ages (brI tb t xs t' v))):=by
 obtain⟨t1,x1,t2,v2,he,h1,h2,h3,h4,h5⟩:=h;simp only[brI,IV.agg.injEq,List.cons.injEq,IV.sl.injEq,IV.raw.injEq,Value.int.injEq,true_and,and_true] at he;obtain⟨⟨rfl,rfl⟩,rfl,rfl⟩:=he;exact⟨⟨false,t.cap,t.es⟩,ages xs,⟨false,t'.cap,t'.es⟩,v,by simp only[brI,ages,age],jJ h1,h2,h3.aged,jJ h4,h5⟩
theorem yJ (p:List Nat)(k:Nat):plI (p++[k])=plI p++[.raw (.int .i64 (k:Int))]:=by simp[plI]
theorem PlI.back {p:List Nat}{k g cap:Nat}{st:ISt}{n:Nat}(hn:n=p.length+1)(h:PlI (p++[k]) (.raw (.slice (some ⟨g,0,none⟩) n cap)) st):PlI p (.raw (.slice (some ⟨g,0,none⟩) p.length cap)) st:=by
 rcases h with⟨t,h,_⟩|⟨g',cap',cs,h,h1,h2,h3,h4⟩
 ·cases h
 ·simp only[IV.raw.injEq,Value.slice.injEq,Option.some.injEq,Addr.mk.injEq,and_true,lLa,List.length_singleton] at h;obtain⟨rfl,_,rfl⟩:=h;rw[lLa,List.length_singleton] at h2 h4;refine .inr ⟨g,cap,cs,rfl,h1,by omega,h3,?_⟩;have:=congrArg (List.take p.length) h4;rw[List.take_take,Nat.min_eq_left (by omega),yJ,List.take_left' (by simp[plI])] at this;exact this
def CkOk (n:Nd):Prop:=∀(l:List Mk) (tb:Nat) (x:IV) (p:List Nat) (a z:IV) (st:ISt) (es:List (Value×IV)),GoodT l->IsBr l tb x->IsNd n z->l.length+2*n.nodes<=900000->p.length+n.nodes<=900000->PlI p a st->(offP a st) tb=some (.map .sg es)->lu es →
 ICall prog gl 72 [.cptr x,.cptr z,a] st (λr st'=>(∃tg,r=.tup [.sl tg (plI (fx l p n).1),.raw (.int .i64 (fx l p n).2)]/\okEs tg 1)/\subSt (offP a st) st'/\((fx l p n).2=0->PlI p a st'))
theorem kb:∀ {l:List Nd}{a:Nd},a∈l->a.nodes<=eT l
 | b::l,a,h=>by
  simp only[eT];rcases List.mem_cons.1 h with rfl|h
  ·omega
  ·have:=kb h;omega
theorem N2 (m:Mk)(c:Bool)(w:Int)(sub:List Nd)(IH:∀a∈sub,CkOk gl a):CkOk gl (.mk m c w sub):=by
 intro l tb x p a z st es hl hx hz hb1 hb2 hp htb hes;have hoff:=N0 a st;have hw:=NZ gl l hl tb x hx m c w sub z hz st es (hoff _ _ htb) hes;obtain⟨o,n,t1,x1,t2,x2,ts,zs,rfl,hf,hts,hzs⟩:=hz.mk;have hy:IsMk m _:=⟨_,_,_,_,_,_,rfl,hf⟩
 simp only[Nd.nodes] at hb1 hb2;have hpo:∀k,plOf k (.iv a)=none:=λk=>by rcases hp with⟨t,rfl,_⟩|⟨g,cap,cs,rfl,_⟩<;>rfl
 have hio:ivOf (.iv a)=some a:=by rcases hp with⟨t,rfl,_⟩|⟨g,cap,cs,rfl,_⟩<;>rfl
 unfold fx;refine ICall.intro (c:=cf prog gl [11,63] [(6,[0,1,2,3,4,5,6,7,8,9,10,11,12,15,13,14])]) func72 rfl (by show _<=72;simp) (by kernel_rfl) ?_;simp only[go_sem,zE,zA,reduceCtorEq];refine hw.mono ?_;rintro _ st ⟨rfl,rfl⟩;by_cases h0:j9 l m c w sub.length=0
 case neg =>
  have d0:decide (((j9 l m c w sub.length:Nat):Int)=0)=false:=dEf (by omega);simp only[go_sem,zE,zA,d0,hio];refine (N1 gl p a st hp (by omega)).mono ?_;rintro _ st' ⟨⟨t',rfl,ht'⟩,rfl⟩;simp only[go_sem,zE];rw[if_pos h0];exact cO ⟨⟨_,rfl,ht'⟩,subSt.refl _,λhc=>absurd hc h0⟩
 rw[if_neg (by simpa using h0)];obtain⟨hm,_,hfi,rfl,hlen⟩:=oZ h0;rw[h0];cases c
 case true =>
  simp only[go_sem,zE,show decide (((0:Nat):Int)=0)=true from rfl,fits];exact cO ⟨⟨_,rfl,.inl rfl⟩,hoff,hp⟩
 have hop:=r_ hl hm;have hlist:=λst hb=>tO gl m _ hy hop 0 st tb es hb hes;obtain⟨_,_,hgood,_⟩:=o_ (hl m hm).1 (hfi rfl) 0;have hmw:=(hl m hm).2;simp only[bFt,if_false] at hlen ⊢;obtain⟨t,xs,t',v,hxe,hxr⟩:=id hx;simp only[go_sem,zE,zB,zA,zL,reduceCtorEq,show decide (((0:Nat):Int)=0)=true from rfl,fits,hxe,brI];refine (hlist _ (hoff _ _ htb)).mono ?_;rintro _ st ⟨tg,ls,rfl,htg,hls,rfl⟩;simp only[go_sem,hls.len];obtain⟨S,hS⟩:∃S,S=offP a st:=⟨_,rfl⟩
 rw[<- hS] at htb hoff ⊢;refine cV (dY m 0).length (λk fr st' ds=>(gN l p 0 (dY m 0) sub=gN l p k ((dY m 0).drop k) (sub.drop k))/\subSt S st'/\PlI p a st'/\fr 0=.iv (.cptr x)/\fr 1=.iv (.cptr (.agg [.raw (.bool m.is),.raw (.int .i64 m.w),.raw (.int .u8 o),.raw (.string n),.sl t1 x1,.sl t2 x2,.raw (.bool false),.raw (.int .i64 0),.sl ts zs]))/\fr 2=.iv a/\fr 39=.iv (.sl tg ls)/\fr 40=.iv (.raw (.int .i64 (dY m 0).length))/\fr 41=.iv (.raw (.int .i64 k))/\ds=[]) ?_ ?_ ?_
 ·simp only[go_sem,zE,reduceCtorEq,hxe,brI];exact⟨hoff,hp,rfl⟩
 ·rintro k fr st1 _ hlt ⟨hck,hsub,hp,f0,f1,f2,f39,f40,f41,rfl⟩;obtain⟨q,hq⟩:=dd hlt;obtain⟨tq,zq,hkq,htq,hzq⟩:=hls.get hq;obtain⟨nk,hnk⟩:=dd (l:=sub) (k:=k) (by omega);obtain⟨zk,hkk,hzk⟩:=hzs.get hnk;have hq2:=nt m 0 q (lMg hq);have hbel:=λst hb=>Eh gl l tb x hx m _ hy hop q tq zq htq hzq (by omega) st es hb hes;simp only[go_sem,zE,zB,zA,zL,reduceCtorEq,f0,f1,f39,f40,f41,lt_i hlt,dc htg,iNn,hkq,fits];refine (hbel _ (hsub _ _ htb)).mono ?_;rintro _ st1 ⟨hbr,rfl⟩;obtain⟨t4,x4,t5,v5,rfl,hbr5⟩:=id hbr;unfold brI;simp only[go_sem,zE,zA,zL];refine λb=>eB λhbn=>?_;have hplen:(plI p).length=p.length:=by simp[plI]
  rcases hp with⟨ta,rfl,hta,hp0⟩|⟨g0,cap,cs,rfl,hg0,hc1,hc2,hc3⟩
  ·obtain⟨fs,ca,ea⟩:=ta;obtain rfl:ca=.nil:=hta;simp only[go_sem,zE,zA,zM,zL,f1,f2,fits,dc hts,iNn,hkk,eZ,dP];refine λg cap'=>eB λhg=>?_;obtain⟨hg,hcap⟩:=hg;have hgb:g≠b:=λhq=>by rw[hq,cT] at hg;cases hg
   have hg1:st1 g=none:=by rw[de hgb] at hg;exact hg
   have hb4:((st1.put b (some (.box (brI tb t4 x4 t5 v5)))).put g (some (.box (List.flatMap IV.cells [IV.raw (.int .i64 (k:Int))]++List.replicate ((cap' - 1)*1) IV.junk)))) b=some (.box (brI tb t4 x4 t5 v5)):=by rw[de hgb.symm,cT]
   have hPl:PlI (p++[k]) (.raw (.slice (some ⟨g,0,none⟩) 1 cap')) (((st1.put b (some (.box (brI tb t4 x4 t5 v5)))).put g (some (.box (List.flatMap IV.cells [IV.raw (.int .i64 (k:Int))]++List.replicate ((cap' - 1)*1) IV.junk)))).put b none) :=
    .inr ⟨g,cap',_,by rw[hp0];rfl,by rw[de hgb,cT],by rw[hp0];exact hcap,by simp[IV.cells];omega,by rw[hp0];rfl⟩
   have hst4:∀c o',c≠b->c≠g->st1 c=some o'->((st1.put b (some (.box (brI tb t4 x4 t5 v5)))).put g (some (.box (List.flatMap IV.cells [IV.raw (.int .i64 (k:Int))]++List.replicate ((cap' - 1)*1) IV.junk)))) c=some o':=λc o' h1 h2 h3=>by rw[de h2,de h1];exact h3
   unfold brI at hb4 hPl hst4;generalize (st1.put b _).put g _=st4 at hb4 hPl hst4 ⊢;have hS4:subSt S (offP (.raw (.slice (some ⟨g,0,none⟩) 1 cap')) (st4.put b none)):=λc o' hc=>by
    have hc1:=hsub c o' hc;have hcb:c≠b:=λhq=>by rw[hq,hbn] at hc1;cases hc1
    have hcg:c≠g:=(λhq=>by rw[hq,hg1] at hc1;cases hc1)
    show ((st4.put b none).put g none) c=_;rw[de hcg,de hcb];exact hst4 c o' hcb hcg hc1
   have hcall:=IH nk (lMg hnk) (d_ l q) tb _ (p++[k]) _ zk (st4.put b none) es (hl.adds λy hy=>⟨(hgood q (lMg hq) y hy).1,(hgood q (lMg hq) y hy).2.trans hmw⟩) hbr.aged hzk
    (by have h8:=ij q l;have h9:=kb (lMg hnk);omega) (by rw[lLa,List.length_singleton];have h9:=kb (lMg hnk);omega) hPl (hS4 _ _ htb) hes
   refine (a0_45 hb4 hcall).mono ?_;rintro _ st5 ⟨⟨tg5,rfl,htg5⟩,hsub5,hok5⟩;have hkey:gN l p k ((dY m 0).drop k) (sub.drop k)=if (fx (d_ l q) (p++[k]) nk).2≠0 then fx (d_ l q) (p++[k]) nk else gN l p (k+1) ((dY m 0).drop (k+1)) (sub.drop (k+1)):=by
    rw[List.drop_eq_getElem_cons hlt,List.drop_eq_getElem_cons (show k<sub.length by omega),(lGs hq).2,(lGs hnk).2];simp only[gN]
   by_cases he:(fx (d_ l q) (p++[k]) nk).2=0
   ·have d:decide (((fx (d_ l q) (p++[k]) nk).2:Int)=0)=true:=dEt (by omega);simp only[go_sem,zE,reduceCtorEq,f0,f1,f2,f39,f40,f41,d,df hlt (show (dY m 0).length<=281474976710656 by have:=og m 0;omega)];refine⟨?_,hS4.trans hsub5,(.inl ⟨_,rfl,rfl,hp0⟩)⟩;rw[hck,hkey,if_neg (by simpa using he)]
   ·have d:decide (((fx (d_ l q) (p++[k]) nk).2:Int)=0)=false:=dEf (by omega);simp only[go_sem,zE,d];rw[hck,hkey,if_pos he];exact cO ⟨⟨tg5,rfl,htg5⟩,hS4.trans hsub5,λhc=>absurd hc he⟩
  ·have hgb0:g0≠b:=λhq=>by rw[hq,hbn] at hg0;cases hg0
   have hS0:S g0=none:=by rw[hS];exact cT ..
   simp only[go_sem,zE,zA,zM,zL,f1,f2,fits,dc hts,iNn,hkk,eZ,dP];refine HP _ _ _ (cs:=cs) (by rw[de hgb0];exact hg0) (by simp[fits,IV.one]) ⟨by simp only[List.length_singleton];omega,by simp only[List.length_singleton];omega⟩ ⟨hc1,by simp only;omega⟩ (by simp[IV.cells]) ?_;intro g cap' cs' hg hn hcap htk;simp only[List.length_singleton] at hn htk;have hgb:g≠b:=λhq=>by
    rcases hg with⟨h,_⟩|h
    ·exact hgb0 (h▸hq)
    ·rw[hq,cT] at h;cases h
   simp only[go_sem,zE,zA];have hb4:((st1.put b (some (.box (brI tb t4 x4 t5 v5)))).put g (some (.box cs'))) b=some (.box (brI tb t4 x4 t5 v5)):=by rw[de hgb.symm,cT]
   have hPl:PlI (p++[k]) (.raw (.slice (some ⟨g,0,none⟩) (p.length+1) cap')) (((st1.put b (some (.box (brI tb t4 x4 t5 v5)))).put g (some (.box cs'))).put b none) :=
    .inr ⟨g,cap',cs',by rw[lLa];rfl,by rw[de hgb,cT],by rw[lLa];exact hn,by simpa using hcap,by
     rw[lLa,yJ,<- hc3];simpa[IV.cells] using htk⟩
   have hst4:∀c o',c≠b->c≠g->st1 c=some o'->((st1.put b (some (.box (brI tb t4 x4 t5 v5)))).put g (some (.box cs'))) c=some o':=λc o' h1 h2 h3=>by rw[de h2,de h1];exact h3
   have hg':(g=g0/\cap'=cap)\/(g≠g0/\st1 g=none):=by
    rcases hg with h|h
    ·exact .inl h
    ·rw[de hgb] at h;exact .inr ⟨λhq=>(by rw[hq,hg0] at h;cases h),h⟩
   unfold brI at hb4 hPl hst4;generalize (st1.put b _).put g _=st4 at hb4 hPl hst4 ⊢;have hcg0:∀c o',S c=some o'->st1 c=some o'->c≠g:=λc o' h1 h2 hq=>by
    rcases hg' with⟨rfl,_⟩|⟨_,h⟩
    ·rw[hq,hS0] at h1;cases h1
    ·rw[hq,h] at h2;cases h2
   have hback:∀st5,PlI (p++[k]) (.raw (.slice (some ⟨g,0,none⟩) (p.length+1) cap')) st5->subSt (offP (.raw (.slice (some ⟨g,0,none⟩) (p.length+1) cap')) (st4.put b none)) st5->PlI p (.raw (.slice (some ⟨g0,0,none⟩) p.length cap)) st5:=λst5 h hs=>by
    have h5:=h.back rfl;rcases hg' with⟨rfl,rfl⟩|⟨hne,_⟩
    ·exact h5
    ·exact .inr ⟨g0,cap,cs,rfl,hs g0 _ (by show ((st4.put b none).put g none) g0=_;rw[de hne.symm,de hgb0];exact hst4 g0 _ hgb0 hne.symm hg0),hc1,hc2,hc3⟩
   have hS4:subSt S (offP (.raw (.slice (some ⟨g,0,none⟩) (p.length+1) cap')) (st4.put b none)):=λc o' hc=>by
    have hc1:=hsub c o' hc;have hcb:c≠b:=λhq=>by rw[hq,hbn] at hc1;cases hc1
    have hcg:c≠g:=(hcg0 c o' hc hc1)
    show ((st4.put b none).put g none) c=_;rw[de hcg,de hcb];exact hst4 c o' hcb hcg hc1
   have hcall:=IH nk (lMg hnk) (d_ l q) tb _ (p++[k]) _ zk (st4.put b none) es (hl.adds λy hy=>⟨(hgood q (lMg hq) y hy).1,(hgood q (lMg hq) y hy).2.trans hmw⟩) hbr.aged hzk
    (by have h8:=ij q l;have h9:=kb (lMg hnk);omega) (by rw[lLa,List.length_singleton];have h9:=kb (lMg hnk);omega) hPl (hS4 _ _ htb) hes
   refine (a0_45 hb4 hcall).mono ?_;rintro _ st5 ⟨⟨tg5,rfl,htg5⟩,hsub5,hok5⟩;have hkey:gN l p k ((dY m 0).drop k) (sub.drop k)=if (fx (d_ l q) (p++[k]) nk).2≠0 then fx (d_ l q) (p++[k]) nk else gN l p (k+1) ((dY m 0).drop (k+1)) (sub.drop (k+1)):=by
    rw[List.drop_eq_getElem_cons hlt,List.drop_eq_getElem_cons (show k<sub.length by omega),(lGs hq).2,(lGs hnk).2];simp only[gN]
   by_cases he:(fx (d_ l q) (p++[k]) nk).2=0
   ·have d:decide (((fx (d_ l q) (p++[k]) nk).2:Int)=0)=true:=dEt (by omega);simp only[go_sem,zE,reduceCtorEq,f0,f1,f2,f39,f40,f41,d,df hlt (show (dY m 0).length<=281474976710656 by have:=og m 0;omega)];refine⟨?_,hS4.trans hsub5,(hback st5 (hok5 he) hsub5)⟩;rw[hck,hkey,if_neg (by simpa using he)]
   ·have d:decide (((fx (d_ l q) (p++[k]) nk).2:Int)=0)=false:=dEf (by omega);simp only[go_sem,zE,d];rw[hck,hkey,if_pos he];exact cO ⟨⟨tg5,rfl,htg5⟩,hS4.trans hsub5,λhc=>absurd hc he⟩
 ·rintro fr st1 _ ⟨hck,hsub,hp,f0,f1,f2,f39,f40,f41,rfl⟩;simp only[go_sem,zE,f40,f41,dD (nLi _)];rw[hck,List.drop_length,List.drop_eq_nil_of_le (by omega)];exact cO ⟨⟨_,rfl,.inl rfl⟩,hsub,λ_=>hp⟩
def RBrs:List (List Mk)->List IV->Prop
 | [],xs=>xs=[]
 | a::l,xs=>∃y ys,xs=y::ys/\RBr a y/\RBrs l ys
theorem RBrs.len:∀ {l:List (List Mk)}{xs:List IV},RBrs l xs->xs.length=l.length
 | [],_,rfl=>rfl
 | a::l,_,⟨_,ys,rfl,_,h⟩=>by simp[RBrs.len h]
theorem RBrs.get:∀ {l:List (List Mk)}{xs:List IV}{k:Nat}{a:List Mk},RBrs l xs->l[k]?=some a->∃x,xs[k]?=some x/\RBr a x
 | [],xs,k,a,h,hk=>by simp at hk
 | b::l,_,0,a,⟨y,ys,rfl,hy,h⟩,hk=>by simp at hk;subst hk;exact⟨y,rfl,hy⟩
 | b::l,_,k+1,a,⟨y,ys,rfl,hy,h⟩,hk=>by simpa using RBrs.get h (by simpa using hk)
theorem RBrs.append:∀ {l m:List (List Mk)}{xs ys:List IV},RBrs l xs->RBrs m ys->RBrs (l++m) (xs++ys)
 | [],m,_,ys,rfl,k=>k
 | a::l,m,_,ys,⟨y,zs,rfl,hy,h⟩,k=>⟨y,zs++ys,rfl,hy,RBrs.append h k⟩
theorem RBrs.one {a:List Mk}{x:IV}(h:RBr a x):RBrs [a] [x]:=⟨_,_,rfl,h,rfl⟩
noncomputable def belT (l:List Mk)(m:Mk)(c:Bool)(w:Int):List (List Mk):=if c then [] else (dY m w).map (d_ l)
theorem EN (l:List Mk)(x:IV)(hx:RBr l x)(m:Mk)(c:Bool)(w:Int)(sub:List Nd)(z:IV)(hz:IsNd (.mk m c w sub) z)(hop:m.f.op<=7)(hl:l.length<=900000)(st:ISt) :
  ICall prog gl 122 [x,z] st (λr st'=>(∃tg ys,r=.sl tg ys/\okEs tg 3/\RBrs (belT l m c w) ys)/\st'=st):=by
 have hx0:=hx;obtain⟨t,xs,t',vs,rfl,ht,hxs⟩:=hx;obtain⟨o,n,t1,x1,t2,x2,ts,zs,rfl,hf,hts,hzs⟩:=hz.mk;have hy:IsMk m _:=⟨_,_,_,_,_,_,rfl,hf⟩
 have hA:=λst=>D1 gl m _ hy hop w st;have hK:=λst=>yh gl m _ hy st;have hk2:=yI hop;have d4:decide (((eJ m).1:Int)=4)=false:=dEf (by omega);have hsh:=og m w;refine ICall.intro (c:=cf prog gl [] [(8,[0,1,2,4,5,6,7,3,8,9,10])]) func122 rfl (by show _<=50;simp) (by kernel_rfl) ?_;simp only[go_sem,zE,zA,zL];refine (hA _).mono ?_;rintro _ st ⟨tg,ls,rfl,htg,hls,rfl⟩;cases c
 case true =>
  simp only[go_sem];refine cV 0 (λk fr st' ds=>fr 2=.box [.raw (.int .u8 1),.sl t xs,.sl t' vs]/\fr 3=.box [.raw (.bool m.is),.raw (.int .i64 m.w),.raw (.int .u8 o),.raw (.string n),.sl t1 x1,.sl t2 x2,.raw (.bool true),.raw (.int .i64 w),.sl ts zs]/\fr 5=.iv (.sl ⟨true,.nil,0⟩ [])/\fr 6=.iv (.sl tg ls)/\fr 7=.iv (.raw (.int .i64 0))/\st'=st/\ds=[]) ?_ ?_ ?_
  ·simp only[go_sem,zE]
  ·intro k fr st1 _ hlt;omega
  ·rintro fr st1 _ ⟨f2,f3,f5,f6,f7,rfl,rfl⟩;cases hd:decide ((0:Int)<((dY m w).length:Int)) <;>
   ·simp only[go_sem,zE,zA,f3,f5,f6,f7,hls.len,hd];intros;exact cO ⟨⟨_,_,rfl,.inl rfl,rfl⟩,rfl⟩
 simp only[go_sem];refine cV (dY m w).length (λk fr st' ds=>(∃tg' ys,fr 5=.iv (.sl tg' ys)/\RBrs (((dY m w).take k).map (d_ l)) ys/\own st' tg' k 3 st/\subSt st st')/\fr 2=.box [.raw (.int .u8 1),.sl t xs,.sl t' vs]/\fr 3=.box [.raw (.bool m.is),.raw (.int .i64 m.w),.raw (.int .u8 o),.raw (.string n),.sl t1 x1,.sl t2 x2,.raw (.bool false),.raw (.int .i64 w),.sl ts zs]/\fr 6=.iv (.sl tg ls)/\fr 7=.iv (.raw (.int .i64 k))/\ds=[]) ?_ ?_ ?_
 ·simp only[go_sem,zE];exact⟨⟨_,_,rfl,rfl,own.nil _ _ _ _ _,subSt.refl _⟩,rfl⟩
 ·rintro k fr st1 _ hlt ⟨⟨tg',ys,f5,hys,hown,hsub⟩,f2,f3,f6,f7,rfl⟩;obtain⟨q,hq⟩:=dd hlt;obtain⟨tq,zq,hkq,htq,hzq⟩:=hls.get hq;have hq2:=nt m w q (lMg hq);have hlen2:ys.length=k:=by rw[hys.len,List.length_map,List.length_take];omega
  have hW:=λst=>rW gl l _ hx0 q tq zq htq hzq (by omega) st;simp only[go_sem,zE,zA,zL,f2,f3,f6,f7,hls.len,lt_i hlt];intros;refine (hK _).mono ?_;rintro _ _ ⟨rfl,rfl⟩;simp only[go_sem,zE,zA,zL,f5,f6,f7,d4,dc htg,iNn,hkq,fits];refine (hW _).mono ?_;rintro r _ ⟨hr,rfl⟩;have hn:RBrs (((dY m w).take (k+1)).map (d_ l)) (ys++[r]):=by
   rw[dK hq,List.map_append];exact hys.append (RBrs.one hr)
  obtain⟨t5,x5,t6,x6,rfl,_⟩:=hr;simp only[go_sem,zE,zA,zM,zL,fits,dP];refine iG hown hlen2 hsub rfl (by simp[fits,IV.one]) (by simp only;omega) (by omega) λtg2 st4 hown2 hsub4 _ hap2=>?_;simp only[go_sem,zE,f2,f3,f6,f7,df hlt (show (dY m w).length<=281474976710656 by omega)];exact⟨tg2,_,rfl,hn,hown2,hsub4⟩
 ·rintro fr st1 _ ⟨⟨tg',ys,f5,hys,hown,hsub⟩,f2,f3,f6,f7,rfl⟩;rw[lTl] at hys;simp only[go_sem,zE,f5,f6,f7,hls.len,dD (nLi _)];intros;exact dZ hsub ⟨⟨tg',ys,rfl,hown.es,hys⟩,rfl⟩
theorem EO (l:List Mk)(m:Mk)(c:Bool)(w:Int):(belT l m c w).length=if c then 0 else (dY m w).length:=by
 unfold belT;cases c
 ·exact List.length_map ..
 ·rfl
theorem N3 (l:List Mk)(hl:GoodT l)(hll:l.length<=900000)(x:IV)(hx:RBr l x)(m:Mk)(c:Bool)(w:Int)(sub:List Nd)(z:IV)(hz:IsNd (.mk m c w sub) z)(st:ISt) :
  ICall prog gl 121 [x,z] st (λr st'=>r=.raw (.int .i64 (j9 l m c w sub.length))/\st'=st):=by
 have hB:=λh st=>EN gl l x hx m c w sub z hz h hll st;have hlen:=EO l m c w;have hsh:=og m w;obtain⟨o,n,t1,x1,t2,x2,ts,zs,rfl,hf,hts,hzs⟩:=hz.mk;have hy:IsMk m _:=⟨_,_,_,_,_,_,rfl,hf⟩
 have hK:=λst=>yh gl m _ hy st;have hH:=λst=>tU gl l x hx m _ hy st;have hC:=λst=>Nl gl l x hx m _ hy st;obtain⟨t,xs,t',vs,rfl,ht,hxs⟩:=hx;unfold j9;refine ICall.intro (c:=cf prog gl [] [(10,[0,1,4,5,6,2,3,7])]) func121 rfl (by show _<=103;simp) (by kernel_rfl) ?_;simp only[go_sem,zE,zA,zL];refine (hK _).mono ?_;rintro _ st ⟨rfl,rfl⟩;simp only[go_sem,zE,zA,zL];refine (hH _).mono ?_;rintro _ st ⟨rfl,rfl⟩;cases hh:hasT l m
 ·have hx0:decide (((eJ m).1:Int)=0)=decide ((eJ m).1=0):=by rw[decide_eq_decide];omega
  cases c
  ·simp only[go_sem,zE,reduceCtorEq];exact cO ⟨by simp,rfl⟩
  ·simp only[go_sem,zE];exact cO ⟨by simp,rfl⟩
 have hop:=r_ hl (zZj.1 hh);have hk2:=yI hop;have d3:decide (((eJ m).1:Int)=3)=false:=dEf (by omega);have d4:decide (((eJ m).1:Int)=4)=false:=dEf (by omega);have dle:decide (((eJ m).1:Int)<=2)=true:=dEt (by omega);cases c
 ·by_cases hk:(eJ m).1=0
  ·have d0:decide (((eJ m).1:Int)=0)=true:=dEt (by omega);simp only[go_sem,zE,zA,reduceCtorEq,d0];exact cO ⟨by simp[hk],rfl⟩
  have d0:decide (((eJ m).1:Int)=0)=false:=dEf (by omega);by_cases hw:w=0
  ·subst hw;simp only[go_sem,zE,zA,zL,reduceCtorEq,d0,d3,d4,dle,decide_true];refine (hB hop _).mono ?_;rintro _ st ⟨⟨tg,ys,rfl,htg,hys⟩,rfl⟩;rw[if_neg (by decide)] at hlen;by_cases hq:sub.length=(dY m 0).length
   ·have dl:decide (((dY m 0).length:Int)=(sub.length:Int))=true:=dEt (by omega);simp only[go_sem,zE,hys.len,hlen,hzs.len,dl];intros;exact cO ⟨by simp[hk,hq],rfl⟩
   ·have dl:decide (((dY m 0).length:Int)=(sub.length:Int))=false:=dEf (by omega);simp only[go_sem,zE,hys.len,hlen,hzs.len,dl];intros;exact cO ⟨by simp[hk,hq],rfl⟩
  ·simp only[go_sem,zE,zA,reduceCtorEq,d0,dle,dEf hw];exact cO ⟨by simp[hk,hw],rfl⟩
 ·simp only[go_sem,zE,zA,zL];refine (hC _).mono ?_;rintro _ st ⟨rfl,rfl⟩;cases hcl:lr l m
  ·simp only[go_sem,zE];exact cO ⟨by simp,rfl⟩
  by_cases hw:w=0
  ·subst hw;simp only[go_sem,zE,zA,zL,decide_true];refine (hB hop _).mono ?_;rintro _ st ⟨⟨tg,ys,rfl,htg,hys⟩,rfl⟩;rw[if_pos rfl] at hlen;by_cases hq:sub.length=0
   ·have dl:decide (((0:Nat):Int)=(sub.length:Int))=true:=dEt (by omega);simp only[go_sem,zE,hys.len,hlen,hzs.len,dl];intros;exact cO ⟨by simp[hq],rfl⟩
   ·have dl:decide (((0:Nat):Int)=(sub.length:Int))=false:=dEf (by omega);simp only[go_sem,zE,hys.len,hlen,hzs.len,dl];intros;exact cO ⟨by simp[hq],rfl⟩
  ·simp only[go_sem,zE,zA,dEf hw];exact cO ⟨by simp[hw],rfl⟩
end Go.Proofs.Tryz
namespace Go.Proofs.Tryz
open Go Go.Iv
mutual
def Tr.leaves:Tr->Nat
 | .mk _ _ _ _ _ sub=>if sub.isEmpty then 1 else uc sub
def uc:List Tr->Nat
 | []=>0
 | a::l=>Tr.leaves a+uc l
end
mutual
def Nd.branches:Nd->Nat
 | .mk _ _ _ sub=>if sub.isEmpty then 1 else gu sub
def gu:List Nd->Nat
 | []=>0
 | a::l=>Nd.branches a+gu l
end
theorem EP (l:List Mk)(m:Mk)(c:Bool):¬ ji l m c=17:=by
 unfold ji ga
 repeat' split
 all_goals decide
mutual
theorem yK:∀(n:Nd)(l:List Mk)(p:List Nat),(fx l p n).2=0->(gw l n).steps=n.nodes/\Tr.leaves (gw l n)=n.branches/\(gw l n).cuts=0
 | .mk m c w sub,l,p,h=>by
  unfold fx at h;split at h
  ·rename_i h1;exact absurd h h1
  rename_i h1;obtain⟨hm,hcl,hfind,rfl,hk⟩:=oZ (Decidable.not_not.1 h1);unfold gw;cases c
  ·simp only[bFt,if_false] at h hk;obtain⟨h2,h3,h4⟩:=ER sub (dY m 0) l p 0 hk.symm h;have he:(gd l (dY m 0) sub).isEmpty=sub.isEmpty:=by
    have:=rQ l (dY m 0) sub hk.symm;rw[Bool.eq_iff_iff,List.isEmpty_iff,List.isEmpty_iff,<- List.length_eq_zero_iff,<- List.length_eq_zero_iff,this,hk]
   simp only[bFt,if_false,Tr.steps,Nd.nodes,Tr.leaves,Nd.branches,Tr.cuts,h2,h3,h4,he,if_neg (EP _ _ _),Nat.zero_add,and_self]
  ·simp only[if_true] at hk;obtain rfl:=List.eq_nil_of_length_eq_zero hk;simp only[if_true,Tr.steps,Nd.nodes,Tr.leaves,Nd.branches,Tr.cuts,jf,eT,l3,if_neg (EP _ _ _),Nat.zero_add,and_self,List.isEmpty_nil,if_true]
theorem ER:∀(ns:List Nd)(qs:List (List Mk))(l:List Mk)(p:List Nat)(i:Nat),qs.length=ns.length->(gN l p i qs ns).2=0->jf (gd l qs ns)=eT ns/\uc (gd l qs ns)=gu ns/\l3 (gd l qs ns)=0
 | [],[],l,p,i,_,_=>⟨rfl,rfl,rfl⟩
 | [],_::_,l,p,i,h,_=>by simp at h
 | _::_,[],l,p,i,h,_=>by simp at h
 | n::ns,q::qs,l,p,i,hl,h=>by
  unfold gN at h;split at h
  ·rename_i h1;exact absurd h h1
  rename_i h1;obtain⟨a1,a2,a3⟩:=yK n _ _ (Decidable.not_not.1 h1);obtain⟨b1,b2,b3⟩:=ER ns qs l p _ (by simpa using hl) h;simp only[gd,jf,eT,uc,gu,l3,a1,a2,a3,b1,b2,b3,Nat.zero_add,and_self]
end
theorem ES {s:Sq}{n:Nd}(h:(jC s n).2=0):iK s=true/\n.nodes<=300/\(fx (eW s) [] n).2=0:=by
 unfold jC at h;split at h
 ·cases h
 rename_i h1;split at h
 ·cases h
 rename_i h2;exact⟨by simpa using h1,by omega,h⟩
theorem yKr {s:Sq}{m:Mk}:m∈eW s↔m.w=0/\((m.is=true/\m.f∈s.l)\/(m.is=false/\m.f∈s.r)):=by
 unfold eW iJ;rw[yVv,List.mem_append,List.mem_map,List.mem_map];constructor
 ·rintro (h|⟨f,hf,rfl⟩|⟨f,hf,rfl⟩)
  ·cases h
  ·exact⟨rfl,.inl ⟨rfl,hf⟩⟩
  ·exact⟨rfl,.inr ⟨rfl,hf⟩⟩
 ·obtain⟨is,w,f⟩:=m;rintro⟨rfl,⟨rfl,h⟩|⟨rfl,h⟩⟩
  ·exact .inr (.inl ⟨f,h,rfl⟩)
  ·exact .inr (.inr ⟨f,h,rfl⟩)
theorem sa {s:Sq}(h:iK s=true):s.l.length<=16/\s.r.length<=16/\(∀f∈s.l,fmB 1 f=true)/\∀f∈s.r,fmB 1 f=true:=by
 unfold iK at h;simp only[bAt,dTe,List.all_append,List.all_eq_true] at h;exact⟨h.1.1,h.1.2,h.2.1,h.2.2⟩
theorem oq {s:Sq}(h:iK s=true):GoodT (eW s):=λm hm=>by
 obtain⟨_,_,h1,h2⟩:=sa h;obtain⟨hw,h|h⟩:=yKr.1 hm
 ·exact⟨h1 _ h.2,hw⟩
 ·exact⟨h2 _ h.2,hw⟩
theorem yU6 {s:Sq}{f:Fm}:(f∈eC true (eW s)↔f∈s.l)/\(f∈eC false (eW s)↔f∈s.r):=by
 constructor
 ·rw[yJ1];constructor
  ·rintro⟨m,hm,hi,rfl⟩;obtain⟨_,h|h⟩:=yKr.1 hm
   ·exact h.2
   ·rw[hi] at h;cases h.1
  ·exact λh=>⟨⟨true,0,f⟩,yKr.2 ⟨rfl,.inl ⟨rfl,h⟩⟩,rfl,rfl⟩
 ·rw[yJ1];constructor
  ·rintro⟨m,hm,hi,rfl⟩;obtain⟨_,h|h⟩:=yKr.1 hm
   ·rw[hi] at h;cases h.1
   ·exact h.2
  ·exact λh=>⟨⟨false,0,f⟩,yKr.2 ⟨rfl,.inr ⟨rfl,h⟩⟩,rfl,rfl⟩
theorem N4 {s:Sq}(h:iK s=true):kV (sqT (eW s)) s=true/\kV s (sqT (eW s))=true:=by
 have hg:=oq h;obtain⟨_,_,h1,h2⟩:=sa h;exact⟨yd (qm (qo hg true)) (qm (qo hg false)) (λf hf=>yU6.1.1 hf) (λf hf=>yU6.2.1 hf),
  yd (qm (List.all_eq_true.2 h1)) (qm (List.all_eq_true.2 h2)) (λf hf=>yU6.1.2 hf) (λf hf=>yU6.2.2 hf)⟩
theorem ud (b:Bool)(l q:List Mk):eC b (l++q)=eC b l++eC b q:=by simp[eC]
theorem ET (b:Bool):∀(q l:List Mk),(eC b (d_ l q)).length<=(eC b l).length+(eC b q).length
 | [],l=>by simp[d_,eC]
 | m::q,l=>by
  have h:=ET b q (addT l m);have h1:(eC b (addT l m)).length<=(eC b l).length+(eC b [m]).length:=by
   unfold addT;split
   ·omega
   ·rw[ud,lLa];omega
  have h2:eC b (m::q)=eC b [m]++eC b q:=ud b [m] q;rw[h2,lLa];show (eC b (d_ (addT l m) q)).length<=_;omega
theorem N5 (s:Sq):eC true (iJ s)=s.l/\eC false (iJ s)=s.r:=by
 have h1:∀(b c:Bool) (l:List Fm),eC b (l.map (⟨c,0,·⟩))=if c=b then l else []:=λb c l=>by
  induction l with
  | nil=>cases b<;>cases c<;>rfl
  | cons a l ih =>
   cases b<;>cases c
   all_goals simp only[eC,List.map_cons] at ih ⊢
   all_goals simp at ih ⊢
   all_goals exact ih
 unfold iJ;rw[ud,ud,h1,h1,h1,h1];simp
theorem EU {s:Sq}(h:iK s=true)(b:Bool):(eC b (eW s)).length<=16:=by
 obtain⟨h1,h2,_⟩:=sa h;have:=ET b (iJ s) [];have h0:(eC b []).length=0:=rfl;obtain⟨e1,e2⟩:=N5 s;unfold eW;cases b
 ·rw[e2] at this;omega
 ·rw[e1] at this;omega
theorem N6 {s:Sq}{n:Nd}(h:(jC s n).2=0)(hb:bigT (eW s) n=false) :
  gM 1 (gw (eW s) n)=([],0)/\(gw (eW s) n).cuts=0/\(kV (gw (eW s) n).sq s&&kV s (gw (eW s) n).sq)=true/\(gw (eW s) n).steps=n.nodes/\Tr.leaves (gw (eW s) n)=n.branches:=by
 obtain⟨h1,h2,h3⟩:=ES h;obtain⟨a1,a2,a3⟩:=yK n _ _ h3;obtain⟨w1,w2⟩:=N4 h1;have hc:(gM 1 (gw (eW s) n)).2=0:=wX8.2 ⟨rfl,by omega,DY n _ _ (oq h1) h3 hb⟩;refine⟨?_,a3,by rw[DW,w1,w2];rfl,a1,a2⟩;unfold gM at hc ⊢;rw[show j6 1=true from rfl] at hc ⊢;simp only[Bool.not_true,bFt,if_false] at hc ⊢;split
 ·omega
 ·rename_i h';rw[if_neg h'] at hc;exact Dl _ _ hc
end Go.Proofs.Tryz
namespace Go.Proofs.Tryz
open Go Go.Iv
set_option maxRecDepth 4000
variable (gl:Nat->Option IV)
theorem EV:∀(k:Nat)(n:Nd),SizeOf.sizeOf n<k->CkOk gl n
 | 0,n,h=>by omega
 | k+1,.mk m c w sub,h=>N2 gl m c w sub λa ha=>EV k a (by
   have:=lSm ha;simp only[Nd.mk.sizeOf_spec] at h;omega)
theorem N7 (n:Nd):CkOk gl n:=EV gl _ n (Nat.lt_succ_self _)
def mOp (f:Fm):Prop:=∀(x:IV) (_:IsFm f x) (st:ISt),ICall prog gl 102 [.raw (.int .u8 1),x] st (λr st'=>r=.raw (.bool (opsB 1 f))/\st'=st)
theorem N8 (o:Nat)(n:ByteArray)(us:List Tm)(sub:List Fm)(IH:∀a∈sub,mOp gl a):mOp gl (.mk o n us sub):=by
 intro x hx st;obtain⟨t1,x1,t2,x2,rfl,ho,ht1,hx1,ht2,hx2⟩:=hx.mk;refine iI func102 ?_;by_cases hu:us=[]
 case neg =>
  have hpos:0<us.length:=List.length_pos_iff.2 hu;have e4:decide ((0:Int)<(us.length:Int))=true:=dEt (by omega);simp only[go_sem,zE,reduceCtorEq,e4,hx1.len,decide_true];intros;exact cO ⟨by simp[opsB,hu],rfl⟩
 subst hu;have e4:decide ((0:Int)<((0:Nat):Int))=false:=rfl;by_cases h1:1<=o
 case neg =>
  have e1:decide ((o:Int)<1)=true:=dEt (by omega);simp only[go_sem,zE,zA,zL,reduceCtorEq,e1,e4,hx1.len,decide_true];intros;exact cO ⟨by simp[opsB,h1],rfl⟩
 have e1:decide ((o:Int)<1)=false:=dEf (by omega);by_cases h2:o<=7
 case neg =>
  have e2:decide ((7:Int)<(o:Int))=true:=dEt (by omega);simp only[go_sem,zE,zA,zL,reduceCtorEq,e1,e2,e4,hx1.len,decide_true];intros;exact cO ⟨by simp[opsB,h2],rfl⟩
 have e2:decide ((7:Int)<(o:Int))=false:=dEf (by omega);have hq:opsB 1 (.mk o n [] sub)=gG 1 sub:=by simp[opsB,h1,h2]
 rw[hq];simp only[go_sem,zE,zA,zL,reduceCtorEq,e1,e2,e4,hx1.len,hx2.len,decide_true];intros;refine cV sub.length (λk fr st' ds=>gG 1 (sub.take k)=true/\fr 0=.iv (.raw (.int .u8 1))/\fr 39=.iv (.sl t2 x2)/\fr 40=.iv (.raw (.int .i64 sub.length))/\fr 41=.iv (.raw (.int .i64 k))/\st'=st/\ds=[]) ?_ ?_ ?_
 ·simp only[go_sem,zE,reduceCtorEq];simp[gG]
 ·rintro k fr st1 _ hlt ⟨hn,f0,f39,f40,f41,rfl,rfl⟩;obtain⟨a,ha⟩:=dd hlt;obtain⟨y,hky,hy⟩:=hx2.get ha;have hcall:=IH a (lMg ha) y hy st1;obtain⟨o5,n5,t5,x5,t6,x6,rfl⟩:=hy.agg;simp only[go_sem,zE,zB,zA,zL,reduceCtorEq,f0,f39,f40,f41,lt_i hlt,dc ht2,iNn,hky,fits];refine hcall.mono ?_;rintro _ _ ⟨rfl,rfl⟩;cases hr:opsB 1 a
  ·simp only[go_sem];exact cO ⟨by rw[yv (lMg ha) hr],rfl⟩
  ·simp only[go_sem,zE,reduceCtorEq,f0,f39,f40,f41,df hlt (show sub.length<=281474976710656 by omega)];rw[dK ha,rX,hn];simp[gG,hr]
 ·rintro fr st1 _ ⟨hn,f0,f39,f40,f41,rfl,rfl⟩;rw[lTl] at hn;simp only[go_sem,f40,f41,dD (nLi _)];exact cO ⟨by rw[hn],rfl⟩
theorem EW:∀(k:Nat)(f:Fm),SizeOf.sizeOf f<k->mOp gl f
 | 0,f,h=>by omega
 | k+1,.mk o n us sub,h=>N8 gl o n us sub (λa ha=>EW k a (by
   have:=lSm ha;simp only[Fm.mk.sizeOf_spec] at h;omega))
theorem N9 (f:Fm):mOp gl f:=EW gl _ f (Nat.lt_succ_self _)
theorem yL (st:ISt):ICall prog gl 69 [.raw (.int .u8 1)] st (λr st'=>r=.raw (.bool true)/\st'=st):=by
 refine iI func69 ?_;simp only[go_sem,zE,reduceCtorEq,show decide ((1:Int)<=1)=true from rfl,show decide ((1:Int)<=5)=true from rfl];exact cO ⟨rfl,rfl⟩
theorem yM (G:Gl gl)(s:Sq)(x:IV)(hx:IsSq s x)(hs:iQ s)(st:ISt):ICall prog gl 60 [.raw (.int .u8 1),x] st (λr st'=>r=.raw (.bool (iK s))/\st'=st):=by
 obtain⟨t1,x1,t2,x2,rfl,e1,i1,e2,i2⟩:=hx;have hk:=λst=>yL gl st;unfold iK;refine iI func60 ?_;simp only[go_sem,zA,reduceCtorEq];refine (hk _).mono ?_;rintro _ st ⟨rfl,rfl⟩;by_cases h1:s.l.length<=16
 case neg =>
  have e:decide ((16:Int)<(s.l.length:Int))=true:=dEt (by omega);simp only[go_sem,zE,i1.len,e];intros;exact cO ⟨by simp[h1],rfl⟩
 by_cases h2:s.r.length<=16
 case neg =>
  have e:decide ((16:Int)<(s.l.length:Int))=false:=dEf (by omega);have e':decide ((16:Int)<(s.r.length:Int))=true:=dEt (by omega);simp only[go_sem,zE,i1.len,i2.len,e,e'];intros;exact cO ⟨by simp[h2],rfl⟩
 have e:decide ((16:Int)<(s.l.length:Int))=false:=dEf (by omega);have e':decide ((16:Int)<(s.r.length:Int))=false:=dEf (by omega);simp only[go_sem,zE,zA,zM,zL,i1.len,i2.len,e,e',fits,fF];intros;refine (yC gl s.l s.r t1 t2 _ x1 x2 (.inr rfl) i1 i2 (by omega) _).mono ?_;rintro _ st ⟨t,ys,rfl,ht,hys,rfl⟩;rw[dEt h1,dEt h2,Bool.true_and,Bool.true_and];have hfit:∀f∈s.l++s.r,f.size<=1000000:=λf hf=>(List.mem_append.1 hf).elim (hs.1 f) (hs.2 f);have hlen:(s.l++s.r).length<=281474976710656:=by rw[lLa];omega
 generalize s.l++s.r=L at hys hfit hlen ⊢;simp only[go_sem,hys.len];intro _;refine cV L.length (λk fr st' ds=>(L.take k).all (fmB 1)=true/\fr 0=.iv (.raw (.int .u8 1))/\fr 27=.iv (.sl t ys)/\fr 28=.iv (.raw (.int .i64 L.length))/\fr 29=.iv (.raw (.int .i64 k))/\st'=st/\ds=[]) ?_ ?_ ?_
 ·simp only[go_sem,zE,reduceCtorEq]
  first|rfl|exact⟨rfl,rfl⟩
 ·rintro k fr st1 _ hlt ⟨hn,f0,f27,f28,f29,rfl,rfl⟩;obtain⟨a,ha⟩:=dd hlt;obtain⟨y,hky,hy⟩:=hys.get ha;have hm:=lMg ha;have hR:=λst=>rz gl G a y hy st (hfit a hm);have hM:=λst=>N9 gl a y hy st;have hout:fmB 1 a=false->L.all (fmB 1)=false:=λhb=>List.all_eq_false.2 ⟨a,hm,by simp[hb]⟩;obtain⟨o5,n5,t5,x5,t6,x6,rfl⟩:=hy.agg;simp only[go_sem,zE,zB,zA,zL,f27,f28,f29,lt_i hlt,dc ht,iNn,hky,fits];refine (hR _).mono ?_;rintro _ _ ⟨rfl,rfl⟩;cases hr:a.right
  ·simp only[go_sem,zE];exact cO ⟨by rw[hout (by simp[fmB,hr])],rfl⟩
  ·simp only[go_sem,zE,zA,zL,reduceCtorEq,f0];refine (hM _).mono ?_;rintro _ _ ⟨rfl,rfl⟩;cases ho:opsB 1 a
   ·simp only[go_sem,zE];exact cO ⟨by rw[hout (by simp[fmB,ho])],rfl⟩
   ·simp only[go_sem,zE,reduceCtorEq,f0,f27,f28,f29,df hlt hlen];rw[dK ha,List.all_append,hn];simp[fmB,hr,ho]
 ·rintro fr st1 _ ⟨hn,f0,f27,f28,f29,rfl,rfl⟩;rw[lTl] at hn;simp only[go_sem,f28,f29,dD (nLi _)];exact cO ⟨by rw[hn],rfl⟩
def NdOk (n:Nd):Prop:=∀(z:IV) (s:Nat) (lim:Int) (st:ISt),IsNd n z->s+n.nodes<=1099511627776->ICall prog gl 70 [.cptr z,.raw (.int .i64 s),.raw (.int .i64 lim)] st
 (λr st'=>(∃q:Nat,r=.raw (.int .i64 q)/\q<=s+n.nodes/\(lim<0\/((s+n.nodes:Nat):Int)<=lim->q=s+n.nodes)/\(0<=lim->lim<((s+n.nodes:Nat):Int)->lim<(q:Int)))/\st'=st)
theorem qv:∀l m:List Nd,eT (l++m)=eT l+eT m
 | [],m=>by simp[eT]
 | a::l,m=>by simp only[List.cons_append,eT,qv l m];omega
theorem qw (l:List Nd)(k:Nat):eT (l.take k)<=eT l:=by
 conv=>rhs;rw[<- List.take_append_drop k l]
 rw[qv];omega
theorem mG:∀l:List Nd,l.length<=eT l
 | []=>by simp[eT]
 | .mk _ _ _ _::l=>by have:=mG l;simp only[List.length_cons,eT,Nd.nodes];omega
theorem N_ (m:Mk)(c:Bool)(w:Int)(sub:List Nd)(IH:∀a∈sub,NdOk gl a):NdOk gl (.mk m c w sub):=by
 intro z s lim st hz hb;obtain⟨o,n,t1,x1,t2,x2,ts,zs,rfl,hf,hts,hzs⟩:=hz.mk;simp only[Nd.nodes] at hb ⊢;have hlen:=mG sub;have hw:IntKind.i64.wrap ((s:Int)+1)=((s+1:Nat):Int):=by rw[w64]<;>omega
 refine iI func70 ?_;simp only[go_sem,zE,reduceCtorEq,hw,hzs.len,fits];intro _;refine cV sub.length (λk fr st' ds=>(∃q:Nat,fr 1=.iv (.raw (.int .i64 q))/\q<=s+(1+eT (sub.take k))/\(lim<0\/((s+(1+eT (sub.take k)):Nat):Int)<=lim->q=s+(1+eT (sub.take k)))/\(0<=lim->lim<((s+(1+eT (sub.take k)):Nat):Int)->lim<(q:Int))) /\
  fr 0=.iv (.cptr (.agg [.raw (.bool m.is),.raw (.int .i64 m.w),.raw (.int .u8 o),.raw (.string n),.sl t1 x1,.sl t2 x2,.raw (.bool c),.raw (.int .i64 w),.sl ts zs]))/\fr 2=.iv (.raw (.int .i64 lim))/\fr 14=.iv (.raw (.int .i64 sub.length))/\fr 15=.iv (.raw (.int .i64 k))/\st'=st/\ds=[]) ?_ ?_ ?_
 ·simp only[go_sem,zE,reduceCtorEq];exact⟨⟨s+1,by rfl,by simp[eT],λ_=>by simp[eT],λ_ h=>by simpa[eT] using h⟩,rfl⟩
 ·rintro k fr st1 _ hlt ⟨⟨q,f1,hq1,hq2,hq3⟩,f0,f2,f14,f15,rfl,rfl⟩;have htk:=qw sub k;have htk1:=qw sub (k+1);obtain⟨a,ha⟩:=dd hlt;obtain⟨y,hky,hy⟩:=hzs.get ha;have hsum:eT (sub.take (k+1))=eT (sub.take k)+a.nodes:=by rw[dK ha,qv];simp[eT]
  by_cases hbr:0<=lim/\lim<(q:Int)
  ·have e1:decide ((0:Int)<=lim)=true:=dEt hbr.1;have e2:decide (lim<(q:Int))=true:=dEt hbr.2;simp only[go_sem,zE,reduceCtorEq,f1,f2,f14,f15,lt_i hlt,e1,e2];exact cO ⟨⟨q,rfl,by omega,λh=>by omega,λ_ _=>hbr.2⟩,rfl⟩
  ·have hcall:=IH a (lMg ha) y q lim st1 hy (by omega);have fin:∀q':Nat,q'<=q+a.nodes->(lim<0\/((q+a.nodes:Nat):Int)<=lim->q'=q+a.nodes)->(0<=lim->lim<((q+a.nodes:Nat):Int)->lim<(q':Int)) →
     q'<=s+(1+eT (sub.take (k+1)))/\(lim<0\/((s+(1+eT (sub.take (k+1))):Nat):Int)<=lim->q'=s+(1+eT (sub.take (k+1))))/\(0<=lim->lim<((s+(1+eT (sub.take (k+1))):Nat):Int)->lim<(q':Int)):=λq' h1 h2 h3=>by
    rw[hsum];have hqe:q=s+(1+eT (sub.take k)):=by
     by_cases hl:lim<0
     ·exact hq2 (.inl hl)
     ·by_cases hc:((s+(1+eT (sub.take k)):Nat):Int)<=lim
      ·exact hq2 (.inr hc)
      ·exact absurd ⟨by omega,hq3 (by omega) (by omega)⟩ hbr
    subst hqe;refine⟨by omega,λh=>?_,λh0 h=>h3 h0 (by omega)⟩;rw[h2 (by omega)];omega
   by_cases h0:0<=lim
   ·have e1:decide ((0:Int)<=lim)=true:=dEt h0;have e2:decide (lim<(q:Int))=false:=dEf (λh=>hbr ⟨h0,h⟩);simp only[go_sem,zE,zA,reduceCtorEq,f0,f1,f2,f14,f15,lt_i hlt,e1,e2,dc hts,iNn,hky,fits];refine hcall.mono ?_;rintro _ _ ⟨⟨q',rfl,h1,h2,h3⟩,rfl⟩;simp only[go_sem,zE,reduceCtorEq,f0,f2,f14,f15,df hlt (show sub.length<=281474976710656 by omega)];exact⟨q',rfl,fin q' h1 h2 h3⟩
   ·have e1:decide ((0:Int)<=lim)=false:=dEf h0;simp only[go_sem,zE,zA,reduceCtorEq,f0,f1,f2,f14,f15,lt_i hlt,e1,dc hts,iNn,hky,fits];refine hcall.mono ?_;rintro _ _ ⟨⟨q',rfl,h1,h2,h3⟩,rfl⟩;simp only[go_sem,zE,reduceCtorEq,f0,f2,f14,f15,df hlt (show sub.length<=281474976710656 by omega)];exact⟨q',rfl,fin q' h1 h2 h3⟩
 ·rintro fr st1 _ ⟨⟨q,f1,hq1,hq2,hq3⟩,f0,f2,f14,f15,rfl,rfl⟩;rw[lTl] at hq1 hq2 hq3;simp only[go_sem,zE,f1,f14,f15,dD (nLi _)];exact cO ⟨⟨q,rfl,hq1,hq2,hq3⟩,rfl⟩
theorem EX:∀(k:Nat)(n:Nd),SizeOf.sizeOf n<k->NdOk gl n
 | 0,n,h=>by omega
 | k+1,.mk m c w sub,h=>N_ gl m c w sub λa ha=>EX k a (by
   have:=lSm ha;simp only[Nd.mk.sizeOf_spec] at h;omega)
theorem fG {n:Nd}{z:IV}(h:IsNd n z):∃(v:Bool) (w':Int) (o:Int) (n:ByteArray) (t:Tag) (xs:List IV) (t':Tag) (ys:List IV) (c:Bool) (w:Int) (ts:Tag) (zs:List IV),z=.agg [.raw (.bool v),.raw (.int .i64 w'),.raw (.int .u8 o),.raw (.string n),.sl t xs,.sl t' ys,.raw (.bool c),.raw (.int .i64 w),.sl ts zs]:=by
 obtain⟨m,c,w,sub⟩:=n;obtain⟨_,_,_,_,_,_,_,_,h,_⟩:=h.mk;exact⟨_,_,_,_,_,_,_,_,_,_,_,_,h⟩
theorem Oa (G:Gl gl)(s:Sq)(x:IV)(hx:IsSq s x)(hs:iQ s)(n:Nd)(z:IV)(hz:IsNd n z)(hb:n.nodes<=1000000000)(st:ISt) :
  ICall prog gl 35 [.raw (.int .u8 1),x,z] st (λr st'=>(∃tg,r=.tup [.sl tg (plI (jC s n).1),.raw (.int .i64 (jC s n).2)]/\okEs tg 1)/\st'=st):=by
 have hk:=λst=>yL gl st;have hV:=λst=>yM gl G s x hx hs st;have hN:=λst=>EX gl _ n (Nat.lt_succ_self _) z 0 300 st hz (by omega);have hB:=λh st=>Ei gl s x hx h st;have hC:=λa=>N7 gl n a;obtain⟨t1,x1,t2,x2,rfl,_⟩:=hx;have hz0:=hz;obtain⟨_,_,_,_,_,_,_,_,_,_,_,_,rfl⟩:=fG hz;unfold jC;refine ICall.intro (c:=cf prog gl [8] [] [5]) func35 rfl (by show _<=24;simp) (by kernel_rfl) ?_;simp only[go_sem,zE,zA,reduceCtorEq];refine (hk _).mono ?_;rintro _ st ⟨rfl,rfl⟩;simp only[go_sem,zE,zA,zL,reduceCtorEq];refine (hV _).mono ?_;rintro _ st ⟨rfl,rfl⟩;cases hv:iK s
 ·simp only[go_sem,zE];exact cO ⟨⟨_,rfl,.inl rfl⟩,rfl⟩
 simp only[go_sem,zE,zA,reduceCtorEq];refine (hN _).mono ?_;rintro _ st ⟨⟨q,rfl,hq1,hq2,hq3⟩,rfl⟩;rw[Nat.zero_add] at hq1 hq2 hq3;by_cases hn:300<n.nodes
 ·have d:decide ((300:Int)<(q:Int))=true:=dEt (hq3 (by decide) (by omega));simp only[go_sem,zE,d];rw[if_pos hn];exact cO ⟨⟨_,rfl,.inl rfl⟩,rfl⟩
 have d:decide ((300:Int)<(q:Int))=false:=dEf (by rw[hq2 (.inr (by omega))];omega);obtain⟨v1,v2,_⟩:=sa hv;rw[if_neg hn];simp only[go_sem,zE,zA,zL,reduceCtorEq,d];refine (hB (by omega) _).mono ?_;rintro _ _ ⟨tb,es,htb,hes,hbr,rfl⟩;obtain⟨t4,x4,t5,v5,rfl,_⟩:=id hbr;unfold brI;simp only[go_sem,zE,zA,zL];refine λb=>eB λhbn=>?_;have hbt:tb≠b:=λhq=>by rw[<- hq,cT] at hbn;cases hbn
 simp only[go_sem,eZ];have hbl:=EU hv;have hlen:(eW s).length<=40:=by
  have h1:=ij (iJ s) [];unfold iJ at h1;rw[lLa,List.length_map,List.length_map,List.length_nil] at h1;unfold eW iJ;omega
 refine (a0_45 (cT ..) (hC (eW s) tb _ [] _ _ _ es (oq hv) hbr.aged hz0 (by omega) (by simp only[List.length_nil];omega) (.inl ⟨⟨true,.nil,0⟩,rfl,rfl,rfl⟩) ?_ hes)).mono ?_
 ·show (((st.put tb _).put b _).put b none) tb=_;rw[de hbt,de hbt,cT]
 rintro _ st5 ⟨⟨tg5,rfl,htg5⟩,hsub5,_⟩;simp only[go_sem,zE];refine dZ (st':=st) (λc o hc=>hsub5 c o ?_) ⟨⟨tg5,rfl,htg5⟩,rfl⟩;have h1:c≠tb:=λhq=>by rw[hq,htb] at hc;cases hc
 have h2:c≠b:=λhq=>by rw[hq] at hc;rw[de (by exact hbt.symm)] at hbn;rw[hbn] at hc;cases hc
 show (((st.put tb _).put b _).put b none) c=_;rw[de h2,de h2,de h1];exact hc
end Go.Proofs.Tryz
namespace Go.Proofs
namespace Tryz
open Go Go.Iv
end Tryz
end Go.Proofs
namespace Go.Proofs.Tryz
set_option maxRecDepth 4000
open Go Go.Iv Go.Sort Go.Shelf Go.RowKit
variable (gl:Nat->Option IV)
section
variable {α:Type} [Inhabited α]{enc:α->List Value}{k:Nat}
end
section
variable {α:Type} [Inhabited α]{enc:α->List Value}{k:Nat}{w:World}{b m:Nat}{dk:Array α}{os:Array Obj}
end
end Go.Proofs.Tryz
namespace Go.Proofs.Tryz
open Go Go.Iv Go.Shelf Go.RowKit
set_option maxRecDepth 4000
variable (gl:Nat->Option IV)
theorem st4 {cs l:List IV}{k n:Nat}(hl:l.length=n)(h:k*4+n<=cs.length):(eV cs (k*4) l).length=cs.length/\(eV cs (k*4) l).take (k*4)=cs.take (k*4)/\(eV cs (k*4) l).take (k*4+n)=cs.take (k*4)++l/\∀i,k*4+n<=i->(eV cs (k*4) l)[i]?=cs[i]?:=by
 have h1:(cs.take (k*4)).length=k*4:=by rw[List.length_take];omega
 have h2:(cs.take (k*4)++l).length=k*4+n:=by rw[lLa,h1,hl]
 unfold eV;refine⟨?_,?_,List.take_left' h2,λi hi=>?_⟩
 ·rw[lLa,h2,List.length_drop,hl];omega
 ·rw[List.append_assoc,List.take_left' h1]
 ·rw[List.getElem?_append_right (by omega),h2,List.getElem?_drop,hl];congr 1;omega
end Go.Proofs.Tryz
namespace Go.Proofs.Tryz
open Go Go.Iv
end Go.Proofs.Tryz
namespace Go.Proofs.Tryz
open Go Go.Iv
set_option maxRecDepth 4000
variable (gl:Nat->Option IV)
noncomputable def yN (ca rule:Nat)(main:Fm)(term:Tm)(name:ByteArray):List Sq×Nat :=
 if !j6 ca then ([],2) else match rowS ca rule with
  | none=>([],191)
  | some r=>gW ca rule r main term name
theorem Oc (G:Gl gl)(T:Gt gl)(ca rule:Nat)(main:Fm)(y:IV)(hy:IsFm main y)(hm:main.size<=1000000)(term:Tm)(z:IV)(hz:IsTm term z)(ht:term.size<=1000000)(name:ByteArray)(st:ISt) :
  ICall prog gl 105 [.raw (.int .u8 ca),.raw (.int .u8 rule),y,z,.raw (.string name)] st (AdRD st (yN ca rule main term name)):=by
 have hA:=λr hr st=>Et gl G T ca rule r hr main y hy hm term z hz ht name st;have hkn:=λst=>yu gl ca st;obtain⟨o3,n3,t3,x3,t4,x4,rfl⟩:=hy.agg;obtain⟨v,un,tz,xz,rfl⟩:=rT hz;unfold yN;refine iI func105 ?_;simp only[go_sem,zE,zA,reduceCtorEq];refine (hkn _).mono ?_;rintro _ st ⟨rfl,rfl⟩;cases hk:j6 ca
 ·simp only[go_sem,zE];exact cO ⟨_,_,rfl,.inl rfl,.inl rfl,rfl,rfl⟩
 simp only[go_sem,zA,reduceCtorEq];refine (En gl ca _).mono ?_;rintro _ _ ⟨b,hb,rfl,rfl⟩;cases hr:rowS ca rule with
 | none =>
  simp only[go_sem,zE,zA,zL,cT,tV,hr,Option.map_none,uV];exact dZ (fj hb) ⟨_,_,rfl,.inl rfl,.inl rfl,rfl,rfl⟩
 | some r =>
  have hcall:=hA r hr;obtain⟨rl,rr,op,asks⟩:=r;simp only[go_sem,zE,zA,zL,reduceCtorEq,cT,tV,hr,Option.map_some,sA,rwI];refine (hcall _).mono ?_;rintro _ _ ⟨tg,xs,rfl,he,hap,hxs,rfl⟩;simp only[go_sem,zE];exact dZ (fj hb) ⟨_,_,rfl,he,hap,hxs,rfl⟩
mutual
def l_ (ca:Nat):Fm->Bool
 | .mk op _ us sub=>(!decide (9<op)&&(!decide (7<op) || decide (ca=3))&&(!decide (op=1) || !decide (0<us.length) || decide (ca=3)))&&kc ca sub
def kc (ca:Nat):List Fm->Bool
 | []=>true
 | a::l=>l_ ca a&&kc ca l
end
theorem Od {op:Nat}{n:ByteArray}{a b:Nat}(h:el op n a b=true):1<=op/\(op≠1->a=0):=by
 unfold el at h;split at h
 all_goals (first|(simp only[bAt,dTe] at h;refine⟨by decide,λh1=>?_⟩;first|exact absurd rfl h1|exact h.1.2)|cases h)
mutual
theorem EY (ca:Nat):∀f:Fm,f.ok=true->l_ ca f=opsB ca f
 | .mk op n us sub,h=>by
  simp only[Fm.ok,bAt] at h;obtain⟨h1,h2⟩:=Od h.1.1;have ih:=EZ ca sub h.2;simp only[l_,opsB,ih];congr 1;have hus:us.isEmpty=decide (us.length=0):=by cases us<;>simp
  rw[hus,Bool.eq_iff_iff];simp only[bAt,Bool.or_eq_true,Bool.not_eq_true',dTe,decide_eq_false_iff_not];by_cases hc:ca=3
  ·simp only[hc,if_true,or_true,and_true,true_or];omega
  ·simp only[hc,if_false,or_false,false_or];by_cases ho:op=1
   ·simp only[ho,nTf,false_or];omega
   ·have:=h2 ho;simp only[ho,nFt,true_or,and_true,this];omega
theorem EZ (ca:Nat):∀l:List Fm,gC l=true->kc ca l=gG ca l
 | [],_=>rfl
 | a::l,h=>by
  simp only[gC,bAt] at h;simp only[kc,gG,EY ca a h.1,EZ ca l h.2]
end
theorem E1 (ca:Nat):∀l m:List Fm,kc ca (l++m)=(kc ca l&&kc ca m)
 | [],m=>by simp[kc]
 | a::l,m=>by simp only[List.cons_append,kc,E1 ca l m,Bool.and_assoc]
theorem Oe {ca:Nat}{l:List Fm}{k:Nat}{a:Fm}(h:l[k]?=some a):kc ca (l.take (k+1))=(kc ca (l.take k)&&l_ ca a):=by
 rw[dK h,E1];simp[kc]
theorem Of {ca:Nat}{l:List Fm}{a:Fm}(h:a∈l)(ha:l_ ca a=false):kc ca l=false:=by
 induction l with
 | nil=>cases h
 | cons b l ih =>
  simp only[kc];rcases List.mem_cons.1 h with rfl|h
  ·rw[ha];rfl
  ·rw[ih h,Bool.and_false]
def rmoC (f:Fm):Prop:=∀(x:IV) (_:IsFm f x) (_:f.size<=1099511627776) (st:ISt),ICall prog gl 162 [.raw (.int .u8 1),x] st (λr st'=>r=.raw (.bool (l_ 1 f))/\st'=st)
theorem Og (o:Nat)(n:ByteArray)(us:List Tm)(sub:List Fm)(IH:∀a∈sub,rmoC gl a):rmoC gl (.mk o n us sub):=by
 intro x hx hs st;obtain⟨t1,x1,t2,x2,rfl,ho,e1,i1,e2,i2⟩:=hx.mk;simp only[Fm.size] at hs;have hlsz:=h_ sub;have q3:decide (1=3)=false:=rfl;have d1:decide (((o:Nat):Int)=1)=decide (o=1):=by rw[decide_eq_decide];omega
 have du:decide ((0:Int)<((us.length:Nat):Int))=decide (0<us.length):=by rw[decide_eq_decide];omega
 refine iI func162 ?_;by_cases h7:7<o
 ·have d7:decide ((7:Int)<((o:Nat):Int))=true:=dEt (by omega);have e7:decide (7<o)=true:=dEt h7;cases q10:decide ((o:Int)=10)<;>cases q11:decide ((o:Int)=11)
  all_goals
   simp only[go_sem,zE,zA,reduceCtorEq,d7,q10,q11,decide_true];intros;exact cO ⟨by simp only[l_,e7,q3,Bool.not_true,Bool.or_false,Bool.and_false,Bool.false_and],rfl⟩
 have d7:decide ((7:Int)<((o:Nat):Int))=false:=dEf (by omega);have e7:decide (7<o)=false:=dEf h7;have e9:decide (9<o)=false:=dEf (by omega);have q10:decide ((o:Int)=10)=false:=dEf (by omega);have q11:decide ((o:Int)=11)=false:=dEf (by omega);cases q1:decide (o=1)<;>cases qu:decide (0<us.length)
 all_goals
  first
   | (simp only[go_sem,zE,zA,i1.len,d7,d1,du,q10,q11,q1,qu]
      intros;refine cV sub.length (λk fr st' ds=>kc 1 (sub.take k)=true/\fr 0=.iv (.raw (.int .u8 1))/\fr 3=.box [.raw (.int .u8 o),.raw (.string n),.sl t1 x1,.sl t2 x2]/\fr 6=.iv (.raw (.int .i64 k))/\st'=st/\ds=[]) ?_ ?_ ?_
      ·simp only[go_sem,zE,reduceCtorEq];exact⟨rfl,rfl⟩
      ·rintro k fr st1 _ hlt ⟨hk,f0,f3,f6,rfl,rfl⟩;obtain⟨a,ha⟩:=dd hlt;obtain⟨z,hkz,hzz⟩:=i2.get ha;obtain⟨h1,h2⟩:=jK ha;have hcall:=λst=>IH a (lMg ha) z hzz (by omega) st;obtain⟨o5,n5,t5,x5,t6,x6,rfl⟩:=hzz.agg;simp only[go_sem,zE,zB,zA,reduceCtorEq,f0,f3,f6,i2.len,lt_i hlt,dc e2,iNn,hkz,fits];intro _;refine (hcall _).mono ?_;rintro _ st2 ⟨rfl,rfl⟩;cases hra:l_ 1 a
       ·simp only[go_sem];exact cO ⟨by simp only[l_,Of (lMg ha) hra,Bool.and_false],rfl⟩
       ·simp only[go_sem,zE,reduceCtorEq,f0,f3,f6,df hlt (show sub.length<=281474976710656 by omega)];rw[Oe ha,hk,hra];rfl
      ·rintro fr st1 _ ⟨hk,f0,f3,f6,rfl,rfl⟩;rw[lTl] at hk;simp only[go_sem,zE,f3,f6,i2.len,dD (nLi _)];intro _;exact cO ⟨by unfold l_;rw[hk,e9,e7,q3,q1,qu];rfl,rfl⟩
      done)
   | (simp only[go_sem,zE,zA,i1.len,d7,d1,du,q10,q11,q1,qu]
      intros;exact cO ⟨by unfold l_;rw[e9,e7,q3,q1,qu];rfl,rfl⟩)
theorem E2:∀(k:Nat)(f:Fm),SizeOf.sizeOf f<k->rmoC gl f
 | 0,f,h=>by omega
 | k+1,.mk o n us sub,h=>Og gl o n us sub (λa ha=>E2 k a (by
   have:=lSm ha;simp only[Fm.mk.sizeOf_spec] at h;omega))
theorem E3 (l:List Fm)(t:Tag)(xs:List IV)(ht:okEs t 4)(hxs:IsFms l xs)(hl:fitL l)(st:ISt) :
  ICall prog gl 120 [.raw (.int .u8 1),.sl t xs] st (λr st'=>r=.raw (.bool (decide (l.length<=16)&&l.all (fmB 1)))/\st'=st):=by
 refine iI func120 ?_;simp only[go_sem];refine cV l.length (λk fr st' ds=>(l.take k).all (fmB 1)=true/\fr 0=.iv (.raw (.int .u8 1))/\fr 1=.iv (.sl t xs)/\fr 5=.iv (.raw (.int .i64 k))/\st'=st/\ds=[]) ?_ ?_ ?_
 ·simp only[go_sem,zE,reduceCtorEq];exact rfl
 ·rintro k fr st1 _ hlt ⟨hk,f0,f1,f5,rfl,rfl⟩;obtain⟨a,ha⟩:=dd hlt;obtain⟨z,hkz,hzz⟩:=hxs.get ha;have ham:=lMg ha;have hsz:=hl a ham;have h1:=λst=>LX gl a z hzz (by omega) st;have h2:=λst=>E2 gl _ a (Nat.lt_succ_self _) z hzz (by omega) st;have hno:fmB 1 a=false->(decide (l.length<=16)&&l.all (fmB 1))=false:=λh=>by
   rw[List.all_eq_false.2 ⟨a,ham,by simp[h]⟩,Bool.and_false]
  obtain⟨o5,n5,t5,x5,t6,x6,rfl⟩:=hzz.agg;simp only[go_sem,zE,zB,zA,f1,f5,hxs.len,lt_i hlt,dc ht,iNn,hkz,fits];intros;refine (h1 _).mono ?_;rintro _ _ ⟨rfl,rfl⟩;cases hr:a.right
  ·simp only[go_sem,zE];exact cO ⟨by rw[hno (by simp[fmB,hr])],rfl⟩
  simp only[go_sem,zE,zB,zA,reduceCtorEq,f0,f1,f5,dc ht,iNn,hkz,fits];refine (h2 _).mono ?_;rintro _ _ ⟨rfl,rfl⟩;rw[EY 1 a (oT hr).1];cases hb:opsB 1 a
  ·simp only[go_sem,zE];exact cO ⟨by rw[hno (by simp[fmB,hb])],rfl⟩
  ·simp only[go_sem,zE,reduceCtorEq,f0,f1,f5,df hlt (show l.length<=281474976710656 by have:=hxs.len;omega)];rw[dK ha,List.all_append,hk];simp[fmB,hr,hb]
 ·rintro fr st1 _ ⟨hk,f0,f1,f5,rfl,rfl⟩;rw[lTl] at hk;have dl:decide ((l.length:Int)<=16)=decide (l.length<=16):=by rw[decide_eq_decide];omega
  simp only[go_sem,zE,f1,f5,hxs.len,dD (nLi _),dl];intros;exact cO ⟨by rw[hk,Bool.and_true],rfl⟩
theorem Oh (s:Sq)(x:IV)(hx:IsSq s x)(hs:iQ s)(st:ISt):ICall prog gl 79 [.raw (.int .u8 1),x] st (λr st'=>r=.raw (.bool (iK s))/\st'=st):=by
 obtain⟨t1,x1,t2,x2,rfl,e1,i1,e2,i2⟩:=hx;have h1:=λst=>E3 gl s.l t1 x1 e1 i1 hs.1 st;have h2:=λst=>E3 gl s.r t2 x2 e2 i2 hs.2 st;have hv:iK s=((decide (s.l.length<=16)&&s.l.all (fmB 1))&&(decide (s.r.length<=16)&&s.r.all (fmB 1))):=by
  unfold iK;rw[List.all_append];cases decide (s.l.length<=16)<;>cases decide (s.r.length<=16)<;>cases s.l.all (fmB 1)<;>rfl
 rw[hv];refine iI func79 ?_;simp only[go_sem,zE,zA,reduceCtorEq,show decide ((1:Int)<=1)=true from rfl,show decide ((1:Int)<=5)=true from rfl];refine (h1 _).mono ?_;rintro _ _ ⟨rfl,rfl⟩;cases decide (s.l.length<=16)&&s.l.all (fmB 1)
 ·simp only[go_sem,zE];exact cO ⟨rfl,rfl⟩
 simp only[go_sem,zE,zA,reduceCtorEq];refine (h2 _).mono ?_;rintro _ _ ⟨rfl,rfl⟩;simp only[go_sem,zE];exact cO ⟨rfl,rfl⟩
def rnC (n:Nd):Prop:=∀(z:IV) (_:IsNd n z) (_:n.nodes<=1000000000) (st:ISt),ICall prog gl 80 [z] st (λr st'=>r=.raw (.int .i64 n.nodes)/\st'=st)
theorem Oi (m:Mk)(c:Bool)(w:Int)(sub:List Nd)(IH:∀a∈sub,rnC gl a):rnC gl (.mk m c w sub):=by
 intro z hz hb st;obtain⟨o,n,t1,x1,t2,x2,ts,zs,rfl,hf,hts,hzs⟩:=hz.mk;simp only[Nd.nodes] at hb ⊢;have hlen:=mG sub;refine iI func80 ?_;simp only[go_sem];refine cV sub.length (λk fr st' ds=>fr 1=.box [.raw (.bool m.is),.raw (.int .i64 m.w),.raw (.int .u8 o),.raw (.string n),.sl t1 x1,.sl t2 x2,.raw (.bool c),.raw (.int .i64 w),.sl ts zs]/\fr 3=.iv (.raw (.int .i64 ((1+eT (sub.take k):Nat):Int)))/\fr 4=.iv (.raw (.int .i64 k))/\st'=st/\ds=[]) ?_ ?_ ?_
 ·simp only[go_sem,zE];exact⟨rfl,rfl⟩
 ·rintro k fr st1 _ hlt ⟨f1,f3,f4,rfl,rfl⟩;have htk1:=qw sub (k+1);obtain⟨a,ha⟩:=dd hlt;obtain⟨y,hky,hy⟩:=hzs.get ha;have hsum:eT (sub.take (k+1))=eT (sub.take k)+a.nodes:=by rw[dK ha,qv];simp[eT]
  have hcall:=λst=>IH a (lMg ha) y hy (by omega) st;have hw:IntKind.i64.wrap (((1+eT (sub.take k):Nat):Int)+(a.nodes:Int))=((1+eT (sub.take (k+1)):Nat):Int):=by rw[w64]<;>omega
  obtain⟨_,_,_,_,_,_,_,_,_,_,_,_,rfl⟩:=fG hy;simp only[go_sem,zE,zB,zA,f1,f3,f4,hzs.len,lt_i hlt,dc hts,iNn,hky,fits];intros;refine (hcall _).mono ?_;rintro _ _ ⟨rfl,rfl⟩;simp only[go_sem,zE,f1,f4,hw,df hlt (show sub.length<=281474976710656 by omega)]
 ·rintro fr st1 _ ⟨f1,f3,f4,rfl,rfl⟩;rw[lTl] at f3;simp only[go_sem,zE,f1,f3,f4,hzs.len,dD (nLi _)];intros;exact cO ⟨rfl,rfl⟩
theorem E4:∀(k:Nat)(n:Nd),SizeOf.sizeOf n<k->rnC gl n
 | 0,n,h=>by omega
 | k+1,.mk m c w sub,h=>Oi gl m c w sub λa ha=>E4 k a (by
   have:=lSm ha;simp only[Nd.mk.sizeOf_spec] at h;omega)
def rkC (n:Nd):Prop:=∀(l:List Mk) (x:IV) (p:List Nat) (tp:Tag) (z:IV) (st:ISt),GoodT l->RBr l x->IsNd n z->okEs tp 1->l.length+2*n.nodes<=800000->p.length+n.nodes<=800000 →
 ICall prog gl 81 [x,z,.sl tp (plI p)] st (λr st'=>(∃tg,r=.tup [.sl tg (plI (fx l p n).1),.raw (.int .i64 (fx l p n).2)]/\okEs tg 1)/\st'=st)
theorem E5:∀p:List Nat,(plI p).all (fits false 1)=true
 | []=>rfl
 | a::p=>by simp only[plI,List.map_cons,List.all_cons,bAt];exact⟨by simp[fits,IV.one],E5 p⟩
theorem Oj (m:Mk)(c:Bool)(w:Int)(sub:List Nd)(IH:∀a∈sub,rkC gl a):rkC gl (.mk m c w sub):=by
 intro l x p tp z st hl hx hz htp hb1 hb2;have hW:=λst=>N3 gl l hl (by omega) x hx m c w sub z hz st;have hB:=λh st=>EN gl l x hx m c w sub z hz h (by omega) st;obtain⟨o,n,t1,x1,t2,x2,ts,zs,rfl,hf,hts,hzs⟩:=hz.mk;simp only[Nd.nodes] at hb1 hb2;have hplen:(plI p).length=p.length:=by simp[plI]
 obtain⟨t,xs,t',vs,hxe,hxr⟩:=id hx;subst hxe;unfold fx;refine ICall.intro (c:=cf prog gl [] [(8,[0,1,2,3,4,5,6,7,8,9,10,12,13,11,14,15,16,17,18,19,20])]) func81 rfl (by show _<=52;simp) (by kernel_rfl) ?_;simp only[go_sem,zE,zA,zL];refine (hW _).mono ?_;rintro _ st ⟨rfl,rfl⟩;by_cases h0:j9 l m c w sub.length=0
 case neg =>
  have d0:decide (((j9 l m c w sub.length:Nat):Int)=0)=false:=dEf (by omega);simp only[go_sem,zE,d0];rw[if_pos h0];exact cO ⟨⟨_,rfl,htp⟩,rfl⟩
 have d0:decide (((j9 l m c w sub.length:Nat):Int)=0)=true:=dEt (by omega);rw[if_neg (by simpa using h0)];obtain⟨hm,_,hfi,rfl,hlen⟩:=oZ h0;have hop:=r_ hl hm;simp only[go_sem,zE,zA,zL,d0];refine (hB hop _).mono ?_;rintro _ st ⟨⟨tg,ys,rfl,htg,hys⟩,rfl⟩;have hbl:=EO l m c 0;have hsh:=og m 0;simp only[go_sem];refine cV (belT l m c 0).length (λk fr st' ds=>(c=false->gN l p 0 (dY m 0) sub=gN l p k ((dY m 0).drop k) (sub.drop k))/\fr 2=.iv (.sl tp (plI p))/\fr 4=.box [.raw (.bool m.is),.raw (.int .i64 m.w),.raw (.int .u8 o),.raw (.string n),.sl t1 x1,.sl t2 x2,.raw (.bool c),.raw (.int .i64 0),.sl ts zs]/\fr 9=.iv (.sl tg ys)/\fr 10=.iv (.raw (.int .i64 k))/\subSt st st'/\ds=[]) ?_ ?_ ?_
 ·simp only[go_sem,zE];exact⟨λ_=>trivial,rfl,subSt.refl _⟩
 ·rintro k fr st1 _ hlt ⟨hck,f2,f4,f9,f10,hsub,rfl⟩;cases c
  case true=>rw[hbl,if_pos rfl] at hlt;omega
  rw[hbl,if_neg (by decide)] at hlt;simp only[bFt,if_false] at hlen;obtain⟨_,_,hgood,_⟩:=o_ (hl m hm).1 (hfi rfl) 0;have hmw:=(hl m hm).2;obtain⟨q,hq⟩:=dd hlt;have hq2:=nt m 0 q (lMg hq);obtain⟨nk,hnk⟩:=dd (l:=sub) (k:=k) (by omega);obtain⟨zk,hkk,hzk⟩:=hzs.get hnk;obtain⟨yk,hky,hyk⟩:=hys.get (k:=k) (a:=d_ l q) (by unfold belT;rw[if_neg (by decide),List.getElem?_map,hq];rfl);have h8:=ij q l;have h9:=kb (lMg hnk);have hcall:=λtp' htp' st=>IH nk (lMg hnk) (d_ l q) yk (p++[k]) tp' zk st (hl.adds λy hy=>⟨(hgood q (lMg hq) y hy).1,(hgood q (lMg hq) y hy).2.trans hmw⟩) hyk hzk htp' (by omega) (by rw[lLa,List.length_singleton];omega);simp only[yJ] at hcall;obtain⟨t5,x5,t6,x6,rfl,_⟩:=hyk;obtain⟨_,_,_,_,_,_,_,_,_,_,_,_,rfl⟩:=fG hzk;have hkl:k<(belT l m false 0).length:=by rw[hbl,if_neg (by decide)];omega
  simp only[go_sem,zE,zB,zA,zM,zL,reduceCtorEq,f2,f4,f9,f10,hys.len,lt_i hkl,dc htg,dc hts,iNn,hky,hkk,fits,dP,show jH 0 []=true from rfl];intros;refine w_ (m:=p.length) (own.full st1 st1 0 1) rfl hplen (subSt.refl _) rfl (E5 p) (by simp only;omega) (by omega) λtg2 st4 hown2 hsub4 _ _=>?_;rw[Nat.zero_add] at hown2;simp only[go_sem,zE,zA];refine iG hown2 (by simp[hplen]) hsub4 rfl (by simp[fits,IV.one]) (by simp only;omega) (by omega) λtg3 st5 hown3 hsub5 _ _=>?_;simp only[go_sem,zE,zA];refine (hcall tg3 hown3.es _).mono ?_;rintro _ _ ⟨⟨tg6,rfl,htg6⟩,rfl⟩;have hkey:gN l p k ((dY m 0).drop k) (sub.drop k)=if (fx (d_ l q) (p++[k]) nk).2≠0 then fx (d_ l q) (p++[k]) nk else gN l p (k+1) ((dY m 0).drop (k+1)) (sub.drop (k+1)):=by
   rw[List.drop_eq_getElem_cons hlt,List.drop_eq_getElem_cons (show k<sub.length by omega),(lGs hq).2,(lGs hnk).2];simp only[gN]
  by_cases he:(fx (d_ l q) (p++[k]) nk).2=0
  ·have d:decide (((fx (d_ l q) (p++[k]) nk).2:Int)=0)=true:=dEt (by omega);simp only[go_sem,zE,f2,f4,f9,f10,d,df hkl (show (belT l m false 0).length<=281474976710656 by rw[hbl,if_neg (by decide)];omega)];exact⟨by rw[hck rfl,hkey,if_neg (by simpa using he)],hsub.trans hsub5⟩
  ·have d:decide (((fx (d_ l q) (p++[k]) nk).2:Int)=0)=false:=dEf (by omega);simp only[go_sem,zE,d];rw[hck rfl,hkey,if_pos he];exact dZ (hsub.trans hsub5) ⟨⟨tg6,rfl,htg6⟩,rfl⟩
 ·rintro fr st1 _ ⟨hck,f2,f4,f9,f10,hsub,rfl⟩;simp only[go_sem,zE,f9,f10,hys.len,dD (nLi _)];intros;refine dZ hsub ⟨⟨⟨true,.nil,0⟩,?_,.inl rfl⟩,rfl⟩;cases c
  ·rw[if_neg (by decide),hck rfl,hbl,if_neg (by decide),List.drop_length,List.drop_eq_nil_of_le (by simp only[bFt,if_false] at hlen;omega)];rfl
  ·rfl
theorem E6:∀(k:Nat)(n:Nd),SizeOf.sizeOf n<k->rkC gl n
 | 0,n,h=>by omega
 | k+1,.mk m c w sub,h=>Oj gl m c w sub λa ha=>E6 k a (by
   have:=lSm ha;simp only[Nd.mk.sizeOf_spec] at h;omega)
theorem Ol (s:Sq)(x:IV)(hx:IsSq s x)(hs:iQ s)(n:Nd)(z:IV)(hz:IsNd n z)(hb:n.nodes<=100000)(st:ISt) :
  ICall prog gl 41 [.raw (.int .u8 1),x,z] st (λr st'=>(∃tg,r=.tup [.sl tg (plI (jC s n).1),.raw (.int .i64 (jC s n).2)]/\okEs tg 1)/\st'=st):=by
 have hV:=λst=>Oh gl s x hx hs st;have hN:=λst=>E4 gl _ n (Nat.lt_succ_self _) z hz (by omega) st;have hB:=λh st=>Ej gl s x hx h st;obtain⟨t1,x1,t2,x2,rfl,_⟩:=hx;have hz0:=hz;obtain⟨_,_,_,_,_,_,_,_,_,_,_,_,rfl⟩:=fG hz;unfold jC;refine ICall.intro (c:=cf prog gl [] [(7,[0,1,3,2,4,5,6,7,8])]) func41 rfl (by show _<=28;simp) (by kernel_rfl) ?_;simp only[go_sem,zE,zA,zL,reduceCtorEq,show decide ((1:Int)<1)=false from rfl,show decide ((5:Int)<1)=false from rfl];refine (hV _).mono ?_;rintro _ st ⟨rfl,rfl⟩;cases hv:iK s
 ·simp only[go_sem,zE];exact cO ⟨⟨⟨true,.nil,0⟩,rfl,.inl rfl⟩,rfl⟩
 simp only[go_sem,zE,zA,zL,reduceCtorEq];refine (hN _).mono ?_;rintro _ st ⟨rfl,rfl⟩;by_cases hn:300<n.nodes
 ·have d:decide ((300:Int)<(n.nodes:Int))=true:=dEt (by omega);simp only[go_sem,zE,d];rw[if_pos hn];exact cO ⟨⟨⟨true,.nil,0⟩,rfl,.inl rfl⟩,rfl⟩
 have d:decide ((300:Int)<(n.nodes:Int))=false:=dEf (by omega);obtain⟨v1,v2,_⟩:=sa hv;rw[if_neg hn];have hbl:=EU hv;have hlen:(eW s).length<=40:=by
  have h1:=ij (iJ s) [];unfold iJ at h1;rw[lLa,List.length_map,List.length_map,List.length_nil] at h1;unfold eW iJ;omega
 simp only[go_sem,zE,zA,zL,reduceCtorEq,d];refine (hB (by omega) _).mono ?_;rintro _ st ⟨hr,rfl⟩;have hC:=λst=>E6 gl _ n (Nat.lt_succ_self _) (eW s) _ [] ⟨true,.nil,0⟩ _ st (oq hv) hr hz0 (.inl rfl) (by omega) (by simp only[List.length_nil];omega);obtain⟨t5,x5,t6,x6,rfl,_⟩:=hr;simp only[go_sem,zE,zA];refine (hC _).mono ?_;rintro _ st ⟨⟨tg,rfl,htg⟩,rfl⟩;simp only[go_sem,zE];exact cO ⟨⟨tg,rfl,htg⟩,rfl⟩
theorem E7 (l:List Mk)(t:Tag)(xs:List IV)(ht:okEs t 6)(hxs:IsMks l xs)(m:Mk)(y:IV)(hy:IsMk m y)(st:ISt):ICall prog gl 115 [.sl t xs,y] st (λr st'=>r=.raw (.bool (hasT l m))/\st'=st):=by
 have hy0:=hy;obtain⟨i',w',f'⟩:=m;obtain⟨o7,n7,t7,x7,t8,x8,rfl,h2⟩:=hy;refine iI func115 ?_;simp only[go_sem,reduceCtorEq,hxs.len];intro _;refine cV l.length (λk fr st' ds=>hasT (l.take k) ⟨i',w',f'⟩=false/\fr 3=.box [.raw (.bool i'),.raw (.int .i64 w'),.raw (.int .u8 o7),.raw (.string n7),.sl t7 x7,.sl t8 x8]/\fr 7=.iv (.sl t xs)/\fr 8=.iv (.raw (.int .i64 l.length))/\fr 9=.iv (.raw (.int .i64 k))/\st'=st/\ds=[]) ?_ ?_ ?_
 ·simp only[go_sem,zE];exact⟨rfl,rfl⟩
 ·rintro k fr st1 _ hlt ⟨hn,f3,f7,f8,f9,rfl,rfl⟩;obtain⟨⟨i,w,f⟩,ha⟩:=dd hlt;obtain⟨y,hky,hy⟩:=hxs.get ha;obtain⟨o5,n5,t5,x5,t6,x6,rfl,h1⟩:=hy;have hs:=λst=>yj gl f f' _ _ h1 h2 st;have next:mkB ⟨i,w,f⟩ ⟨i',w',f'⟩=false->hasT (l.take (k+1)) ⟨i',w',f'⟩=false:=λhb=>by
   unfold hasT at hn ⊢;rw[dK ha,List.any_append,hn];simp[hb]
  have found:mkB ⟨i,w,f⟩ ⟨i',w',f'⟩=true->hasT l ⟨i',w',f'⟩=true:=λhb=>List.any_eq_true.2 ⟨_,lMg ha,hb⟩;by_cases hi:i=i'
  ·subst hi;by_cases hw:w=w'
   ·subst hw;simp only[go_sem,zE,zB,zA,zL,f3,f7,f8,f9,lt_i hlt,dc ht,iNn,hky,fits,decide_true];refine (hs _).mono ?_;rintro _ _ ⟨rfl,rfl⟩;cases hc:decide (gX f f'=0)
    ·simp only[go_sem,zE,f3,f7,f8,f9,df hlt (show l.length<=281474976710656 by have:=hxs.len;omega)];exact next (by simp[mkB,hc])
    ·simp only[go_sem,zE];exact cO ⟨by rw[found (by simp[mkB,hc])],rfl⟩
   ·simp only[go_sem,zE,zB,zA,zL,f3,f7,f8,f9,lt_i hlt,dc ht,iNn,hky,fits,dEf hw,df hlt (show l.length<=281474976710656 by have:=hxs.len;omega)];exact next (by simp[mkB,hw])
  ·have hb:(i == i')=false:=by simp[hi]
   simp only[go_sem,zE,zB,zA,zL,f3,f7,f8,f9,lt_i hlt,dc ht,iNn,hky,fits,hb,df hlt (show l.length<=281474976710656 by have:=hxs.len;omega)];exact next (by simp[mkB,hb])
 ·rintro fr st1 _ ⟨hn,f3,f7,f8,f9,rfl,rfl⟩;rw[lTl] at hn;simp only[go_sem,f8,f9,dD (nLi _)];exact cO ⟨by rw[hn],rfl⟩
theorem E8 (l:List Mk)(t:Tag)(xs:List IV)(hxs:IsMks l xs)(q:List Mk)(tq:Tag)(zs:List IV)(htq:okEs tq 6)(hzs:IsMks q zs)(hl:l.length+q.length<=1000000)(st:ISt) :
  ICall prog gl 73 [.sl t xs,.sl tq zs] st (λr st'=>∃t' ys,r=.sl t' ys/\okEs t' 6/\IsMks (d_ l q) ys/\st'=st):=by
 refine iI func73 ?_;simp only[go_sem,zE,zA,zM,zL,reduceCtorEq,show jH 0 []=true from rfl];refine w_ (m:=l.length) (own.full st st 0 6) rfl hxs.len (subSt.refl _) rfl (tQ hxs) (by simp only;omega) (by omega) λtg2 st4 hown2 hsub4 _ _=>?_;rw[Nat.zero_add] at hown2;simp only[go_sem,zE,hzs.len];intro _;refine cV q.length (λk fr st' ds=>(∃t' ys,fr 5=.iv (.sl t' ys)/\IsMks (d_ l (q.take k)) ys/\own st' t' (d_ l (q.take k)).length 6 st/\subSt st st')/\fr 11=.iv (.sl tq zs)/\fr 12=.iv (.raw (.int .i64 q.length))/\fr 13=.iv (.raw (.int .i64 k))/\ds=[]) ?_ ?_ ?_
 ·simp only[go_sem,zE];exact⟨⟨_,_,rfl,hxs,hown2,hsub4⟩,rfl⟩
 ·rintro k fr st1 _ hlt ⟨⟨t',ys,f5,hys,hown,hsub⟩,f11,f12,f13,rfl⟩;obtain⟨a,ha⟩:=dd hlt;obtain⟨y,hky,hy⟩:=hzs.get ha;have hlen:=ij (q.take k) l;rw[List.length_take] at hlen;have hh:=λst=>E7 gl _ t' ys hown.es hys a y hy st;have hy0:=hy;obtain⟨o5,n5,t5,x5,t6,x6,rfl,h1⟩:=hy;rw[dK ha,yq];simp only[go_sem,zE,zB,zA,zL,f5,f11,f12,f13,lt_i hlt,dc htq,iNn,hky,fits];refine (hh _).mono ?_;rintro _ _ ⟨rfl,rfl⟩;unfold addT;cases hq:hasT (d_ l (q.take k)) a
  ·simp only[go_sem,zE,zA,zM,zL,reduceCtorEq,f5,fits,dP];refine lq hown hys.len hsub rfl (by simp[fits,IV.one]) (by simp only;omega) (by omega) λtg3 st5 hown3 hsub5 _=>?_;simp only[go_sem,zE,f11,f12,f13,df hlt (show q.length<=281474976710656 by omega)];exact⟨tg3,_,rfl,hys.append (IsMks.one hy0),by rw[lLa];exact hown3,hsub5⟩
  ·simp only[go_sem,zE,f5,f11,f12,f13,df hlt (show q.length<=281474976710656 by omega)];exact⟨t',ys,rfl,hys,hown,hsub⟩
 ·rintro fr st1 _ ⟨⟨t',ys,f5,hys,hown,hsub⟩,f11,f12,f13,rfl⟩;rw[lTl] at hys;simp only[go_sem,zE,f5,f12,f13,dD (nLi _)];exact dZ hsub ⟨t',ys,rfl,hown.es,hys,rfl⟩
theorem Om (s:Sq)(x:IV)(hx:IsSq s x)(hl:s.l.length+s.r.length<=1000000)(st:ISt):ICall prog gl 38 [x] st (λr st'=>∃t' ys,r=.sl t' ys/\okEs t' 6/\IsMks (eW s) ys/\st'=st):=by
 obtain⟨t1,x1,t2,x2,rfl,e1,i1,e2,i2⟩:=hx;refine iI func38 ?_;simp only[go_sem,zE,i1.len];intro _;refine cV s.l.length (λk fr st' ds=>(∃t' ys,fr 3=.iv (.sl t' ys)/\IsMks ((s.l.take k).map (⟨true,0,·⟩)) ys/\own st' t' ((s.l.take k).map (⟨true,0,·⟩:Fm->Mk)).length 6 st/\subSt st st')/\fr 1=.box [.sl t1 x1,.sl t2 x2]/\fr 9=.iv (.sl t1 x1)/\fr 10=.iv (.raw (.int .i64 s.l.length))/\fr 11=.iv (.raw (.int .i64 k))/\ds=[]) ?_ ?_ ?_
 ·simp only[go_sem,zE];exact⟨⟨_,_,rfl,rfl,.inl ⟨rfl,rfl⟩,subSt.refl _⟩,rfl⟩
 ·rintro k fr st1 _ hlt ⟨⟨t',ys,f3,hys,hown,hsub⟩,f1,f9,f10,f11,rfl⟩;obtain⟨a,ha⟩:=dd hlt;obtain⟨y,hky,hy⟩:=i1.get ha;have hy0:=hy;obtain⟨o5,n5,t5,x5,t6,x6,rfl⟩:=hy.agg;simp only[go_sem,zE,zB,zA,zM,zL,f3,f9,f10,f11,lt_i hlt,dc e1,iNn,hky,fits,dP];refine lq hown hys.len hsub rfl (by simp[fits,IV.one]) (by simp only[List.length_map,List.length_take];omega) (by simp only[List.length_map,List.length_take];omega) λtg3 st5 hown3 hsub5 _=>?_;simp only[go_sem,zE,f1,f9,f10,f11,df hlt (show s.l.length<=281474976710656 by omega)];refine⟨tg3,_,rfl,?_,?_,hsub5⟩
  ·rw[dK ha,List.map_append,List.map_singleton];exact hys.append (IsMks.one ⟨_,_,_,_,_,_,rfl,hy0⟩)
  ·rw[dK ha,List.map_append,List.map_singleton,lLa];exact hown3
 ·rintro fr st1 _ ⟨⟨t',ys,f3,hys,hown,hsub⟩,f1,f9,f10,f11,rfl⟩;rw[lTl] at hys hown;simp only[go_sem,zE,f1,f10,f11,dD (nLi _),i2.len];intro _;refine cV s.r.length (λk fr st' ds=>(∃t' ys,fr 3=.iv (.sl t' ys)/\IsMks (s.l.map (⟨true,0,·⟩:Fm->Mk)++(s.r.take k).map (⟨false,0,·⟩:Fm->Mk)) ys/\own st' t' (s.l.map (⟨true,0,·⟩:Fm->Mk)++(s.r.take k).map (⟨false,0,·⟩:Fm->Mk)).length 6 st/\subSt st st')/\fr 22=.iv (.sl t2 x2)/\fr 23=.iv (.raw (.int .i64 s.r.length))/\fr 24=.iv (.raw (.int .i64 k))/\ds=[]) ?_ ?_ ?_
  ·simp only[go_sem,zE,f3];exact⟨⟨_,_,rfl,hys,hown,hsub⟩,rfl⟩
  ·rintro k fr st1 _ hlt ⟨⟨t',ys,f3,hys,hown,hsub⟩,f22,f23,f24,rfl⟩;obtain⟨a,ha⟩:=dd hlt;obtain⟨y,hky,hy⟩:=i2.get ha;have hy0:=hy;obtain⟨o5,n5,t5,x5,t6,x6,rfl⟩:=hy.agg;simp only[go_sem,zE,zB,zA,zM,zL,f3,f22,f23,f24,lt_i hlt,dc e2,iNn,hky,fits,dP];refine lq hown hys.len hsub rfl (by simp[fits,IV.one]) (by simp only[lLa,List.length_map,List.length_take];omega) (by simp only[lLa,List.length_map,List.length_take];omega) λtg3 st5 hown3 hsub5 _=>?_;simp only[go_sem,zE,f22,f23,f24,df hlt (show s.r.length<=281474976710656 by omega)];refine⟨tg3,_,rfl,?_,?_,hsub5⟩
   ·rw[dK ha,List.map_append,List.map_singleton,<- List.append_assoc];exact hys.append (IsMks.one ⟨_,_,_,_,_,_,rfl,hy0⟩)
   ·rw[dK ha,List.map_append,List.map_singleton,<- List.append_assoc,lLa];exact hown3
  ·rintro fr st1 _ ⟨⟨t',ys,f3,hys,hown,hsub⟩,f22,f23,f24,rfl⟩;rw[lTl] at hys hown;simp only[go_sem,zE,zA,zM,zL,f3,f23,f24,dD (nLi _),show jH 0 []=true from rfl];refine (E8 gl [] _ [] rfl _ t' ys hown.es hys (by simp only[lLa,List.length_map,List.length_nil];omega) _).mono ?_;rintro _ _ ⟨t'',zs,rfl,h1,h2,rfl⟩;simp only[go_sem];exact dZ hsub ⟨t'',zs,rfl,h1,h2,rfl⟩
theorem On (b:Bool)(l m:List Mk):eC b (l++m)=eC b l++eC b m:=by simp[eC]
theorem Oo (l:List Mk)(t:Tag)(xs:List IV)(ht:okEs t 6)(hxs:IsMks l xs)(hl:l.length<=1000000)(b:Bool)(st:ISt) :
  ICall prog gl 75 [.sl t xs,.raw (.bool b)] st (λr st'=>∃t' ys,r=.sl t' ys/\okEs t' 4/\IsFms (eC b l) ys/\st'=st):=by
 refine iI func75 ?_;simp only[go_sem,reduceCtorEq,hxs.len];intro _;refine cV l.length (λk fr st' ds=>(∃t' ys,fr 5=.iv (.sl t' ys)/\IsFms (eC b (l.take k)) ys/\own st' t' (eC b (l.take k)).length 4 st/\subSt st st')/\fr 1=.iv (.raw (.bool b))/\fr 8=.iv (.sl t xs)/\fr 9=.iv (.raw (.int .i64 l.length))/\fr 10=.iv (.raw (.int .i64 k))/\ds=[]) ?_ ?_ ?_
 ·simp only[go_sem,zE];exact⟨⟨_,_,rfl,rfl,.inl ⟨rfl,rfl⟩,subSt.refl _⟩,rfl⟩
 ·rintro k fr st1 _ hlt ⟨⟨t',ys,f5,hys,hown,hsub⟩,f1,f8,f9,f10,rfl⟩;obtain⟨a,ha⟩:=dd hlt;obtain⟨y,hky,hy⟩:=hxs.get ha;have hsl:(eC b (l.take k)).length<=k:=by
   have h1:=List.length_filter_le (λm:Mk=>m.is == b) (l.take k);rw[List.length_take] at h1;simp only[eC,List.length_map];omega
  obtain⟨o5,n5,t5,x5,t6,x6,rfl,h1⟩:=hy;have hst:=On b (l.take k) [a];rw[dK ha,hst];cases hb:a.is == b
  ·have he:eC b [a]=[]:=by simp[eC,hb]
   rw[he,List.append_nil];simp only[go_sem,zE,zB,zA,zL,f1,f5,f8,f9,f10,lt_i hlt,dc ht,iNn,hky,fits,hb,df hlt (show l.length<=281474976710656 by omega)];exact⟨t',ys,rfl,hys,hown,hsub⟩
  ·have he:eC b [a]=[a.f]:=by simp[eC,hb]
   rw[he];simp only[go_sem,zE,zB,zA,zM,zL,f1,f5,f8,f9,f10,lt_i hlt,dc ht,iNn,hky,fits,hb,dP];refine lq hown hys.len hsub rfl (by simp[fits,IV.one]) (by simp only;omega) (by omega) λtg3 st5 hown3 hsub5 _=>?_;simp only[go_sem,zE,f1,f8,f9,f10,df hlt (show l.length<=281474976710656 by omega)];exact⟨tg3,_,rfl,hys.append ⟨_,_,rfl,h1,rfl⟩,by rw[lLa];exact hown3,hsub5⟩
 ·rintro fr st1 _ ⟨⟨t',ys,f5,hys,hown,hsub⟩,f1,f8,f9,f10,rfl⟩;rw[lTl] at hys hown;simp only[go_sem,zE,f5,f9,f10,dD (nLi _)];exact dZ hsub ⟨t',ys,rfl,hown.es,hys,rfl⟩
theorem yO (l:List Fm)(t:Tag)(xs:List IV)(ht:okEs t 4)(hxs:IsFms l xs)(hl:dt l<=1000000)(st:ISt) :
  ICall prog gl 77 [.sl t xs] st (λr st'=>∃t' ys,r=.sl t' ys/\okEs t' 4/\appT l.length t'/\IsFmsD l ys/\st'=st):=by
 have hll:=h_ l;refine iI func77 ?_;simp only[go_sem,reduceCtorEq,hxs.len];intro _;refine cV l.length (λk fr st' ds=>(∃t' ys,fr 3=.iv (.sl t' ys)/\IsFmsD (l.take k) ys/\appT k t'/\own st' t' k 4 st/\subSt st st')/\fr 6=.iv (.sl t xs)/\fr 7=.iv (.raw (.int .i64 l.length))/\fr 8=.iv (.raw (.int .i64 k))/\ds=[]) ?_ ?_ ?_
 ·simp only[go_sem,zE];exact⟨⟨_,_,rfl,IsFmsD.nil,.inl rfl,.inl ⟨rfl,rfl⟩,subSt.refl _⟩,rfl⟩
 ·rintro k fr st1 _ hlt ⟨⟨t',ys,f3,hys,hap,hown,hsub⟩,f6,f7,f8,rfl⟩;obtain⟨a,ha⟩:=dd hlt;obtain⟨y,hky,hy⟩:=hxs.get ha;have hsa:=lx (lMg ha);have hcopy:=λst=>qk gl a y hy (by omega) st;have hyl:=hys.len;rw[List.length_take,Nat.min_eq_left (by omega)] at hyl;obtain⟨o5,n5,t5,x5,t6,x6,rfl⟩:=hy.agg;simp only[go_sem,zE,zB,zA,zL,f3,f6,f7,f8,lt_i hlt,dc ht,iNn,hky,fits];refine (hcopy _).mono ?_;rintro r _ ⟨hr,rfl⟩;have hr0:=hr;obtain⟨o7,n7,t7,x7,t8,x8,rfl⟩:=hr.1.agg;simp only[go_sem,zE,zA,zM,zL,fits,dP];refine iG hown hyl hsub rfl (by simp[fits,IV.one]) (by simp only;omega) (by omega) λtg3 st5 hown3 hsub5 _ hap3=>?_;simp only[go_sem,zE,f6,f7,f8,df hlt (show l.length<=281474976710656 by omega)];exact⟨tg3,_,rfl,by rw[dK ha];exact hys.append (IsFmsD.one hr0),hap3,hown3,hsub5⟩
 ·rintro fr st1 _ ⟨⟨t',ys,f3,hys,hap,hown,hsub⟩,f6,f7,f8,rfl⟩;rw[lTl] at hys;simp only[go_sem,zE,f3,f7,f8,dD (nLi _)];exact dZ hsub ⟨t',ys,rfl,hown.es,hap,hys,rfl⟩
theorem E9 (m:Mk)(y:IV)(hy:IsMk m y)(hs:m.f.size<=1000000)(st:ISt):ICall prog gl 116 [y] st (λr st'=>(IsMk m r/\dfr r)/\st'=st):=by
 obtain⟨o5,n5,t5,x5,t6,x6,rfl,h1⟩:=hy;have hcopy:=λst=>qk gl m.f _ h1 (by omega) st;refine iI func116 ?_;simp only[go_sem,zE,zA,zL];refine (hcopy _).mono ?_;rintro r _ ⟨hr,rfl⟩;have hr0:=hr;obtain⟨o7,n7,t7,x7,t8,x8,rfl⟩:=hr.1.agg;simp only[go_sem,zE,zA,zL,fits];have hd:=hr0.2;simp only[dfr,dfrs,and_true,true_and] at hd;refine cO ⟨⟨⟨_,_,_,_,_,_,rfl,hr0.1⟩,?_⟩,rfl⟩;simp only[dfr,dfrs,and_true,true_and];exact⟨hd.1,λc hc=>by
  simp only[List.mem_cons,List.not_mem_nil,or_false] at hc;rcases hc with rfl|rfl|rfl|rfl|rfl|rfl<;>rfl⟩
def SlO (s0 st:ISt)(s n:Nat)(cells:List IV)(g:Nat)(x:IV):Prop:=(n=0/\cells=[]/\∃f e,x=.sl ⟨f,.nil,e⟩ [])\/(0<n/\∃cap cs,x=.raw (.slice (some ⟨g,0,none⟩) n cap)/\st g=some (.box cs)/\n<=cap/\cap*s<=cs.length/\cs.take (n*s)=cells/\s0 g=none)
def MksO (st:ISt)(g:Nat)(L:List Mk)(x:IV):Prop:=∃cap cs zs,x=.raw (.slice (some ⟨g,0,none⟩) L.length cap)/\st g=some (.box cs)/\L.length<=cap/\cap*6<=cs.length/\cs.take (L.length*6)=zs.flatMap IV.cells/\IsMks L zs
def RowsO (s0 st:ISt):List Nat->List (List Mk)->List IV->Prop
 | [],[],xs=>xs=[]
 | g::gs,a::l,xs=>∃y ys,xs=y::ys/\MksO st g a y/\s0 g=none/\g ∉ gs/\RowsO s0 st gs l ys
 | [],_::_,_=>False
 | _::_,[],_=>False
theorem RowsO.mono {s0 st st':ISt}:∀ {gs:List Nat} {l:List (List Mk)} {xs:List IV},(∀g∈gs,st' g=st g)->RowsO s0 st gs l xs->RowsO s0 st' gs l xs
 | [],[],_,_,h=>h
 | g::gs,a::l,_,hs,⟨y,ys,rfl,⟨cap,cs,zs,h1,h2,h3⟩,h4,h5,h6⟩=>⟨y,ys,rfl,⟨cap,cs,zs,h1,by rw[hs g (by simp)];exact h2,h3⟩,h4,h5,RowsO.mono (λg hg=>hs g (by simp[hg])) h6⟩
theorem RowsO.new {s0 st:ISt}:∀ {gs:List Nat} {l:List (List Mk)} {xs:List IV},RowsO s0 st gs l xs->∀g∈gs,st g≠none/\s0 g=none
 | [],[],_,_,g,hg=>by cases hg
 | g::gs,a::l,_,⟨y,ys,rfl,⟨cap,cs,zs,h1,h2,h3⟩,h4,h5,h6⟩,g',hg'=>by
  rcases List.mem_cons.1 hg' with rfl|hg'
  ·exact⟨by rw[h2];simp,h4⟩
  ·exact RowsO.new h6 g' hg'
theorem RowsO.snoc {s0 st:ISt}{g:Nat}{a:List Mk}{y:IV}(hy:MksO st g a y)(h0:s0 g=none):∀ {gs:List Nat} {l:List (List Mk)} {xs:List IV},g ∉ gs->RowsO s0 st gs l xs->RowsO s0 st (gs++[g]) (l++[a]) (xs++[y])
 | [],[],xs,_,h=>by
  obtain rfl:xs=[]:=h;exact⟨y,[],rfl,hy,h0,by simp,rfl⟩
 | g'::gs,a'::l,_,hg,⟨z,ys,rfl,h1,h4,h5,h6⟩=>⟨z,ys++[y],rfl,h1,h4,by
   show g' ∉ gs++[g]
   simp only[List.mem_append,List.mem_singleton,not_or];exact⟨h5,λhc=>hg (by simp[hc])⟩,RowsO.snoc hy h0 (λhc=>hg (by simp[hc])) h6⟩
theorem RowsO.len {s0 st:ISt}:∀ {gs:List Nat} {l:List (List Mk)} {xs:List IV},RowsO s0 st gs l xs->xs.length=l.length
 | [],[],xs,h=>by obtain rfl:xs=[]:=h;rfl
 | g'::gs,a'::l,_,⟨z,ys,rfl,h1,h4,h5,h6⟩=>by simp[RowsO.len h6]
def LstO (s0 st:ISt)(g:Nat)(gs:List Nat)(L:List (List Mk))(x:IV):Prop:=∃xs,SlO s0 st 1 L.length xs g x/\0<L.length/\g ∉ gs/\RowsO s0 st gs L xs/\subSt s0 st
theorem ue (a:Option Addr)(n c:Nat):IV.one (.raw (.slice a n c))=true:=rfl
theorem E_ (b:Bool)(o:Int)(x y:Fm):0<(askT b o x y).length/\∀q∈askT b o x y,0<q.length:=by
 unfold askT
 repeat' split
 all_goals simp
theorem Oq (m:Mk)(y:IV)(hy:IsMk m y)(hm:m.f.op<=7)(w:Int)(st:ISt)(b:Nat)(es:List (Value×IV))(hb:st b=some (.map .sg es))(ht:lu es)(hk:(eJ m).1≠0) :
  ICall prog gl 113 [.raw (.map (some b)),y,.raw (.int .i64 w)] st (λr st'=>∃g gs,LstO st st' g gs (dY m w) r):=by
 have hfind:=λst hb=>rR gl m y hy st b es hb ht;obtain⟨is,mw,f⟩:=m;obtain⟨o',n',t1,x1,t2,x2,rfl,hf⟩:=hy;obtain⟨o,n,us,sub⟩:=f;obtain⟨_,_,_,_,he,ho,e1,i1,e2,i2⟩:=hf.mk;simp only[IV.agg.injEq,List.cons.injEq,IV.raw.injEq,Value.int.injEq,Value.string.injEq,IV.sl.injEq,true_and,and_true] at he;obtain⟨rfl,rfl,⟨rfl,rfl⟩,rfl,rfl⟩:=he;simp only[Fm.op] at hm;refine ICall.intro (c:=cf prog gl [67,72] [(10,[0,1,2,3,4,5,6,7,10,8,9])]) func113 rfl (by show _<=75;simp) (by kernel_rfl) ?_;simp only[go_sem,zE,zA,zL,reduceCtorEq];refine (hfind _ hb).mono ?_;rintro _ st ⟨rfl,rfl⟩;obtain⟨⟨k,q⟩,hr,hq,hT⟩:=oe hk;simp only[Fm.op,Fm.subs] at hr hq;obtain⟨hask,hent,hk12,hq12⟩:=rS gl hr hm;simp only at hk12 hq12;rw[yg hT hk12];simp only[Fm.op,Fm.subs];have hfn:fnF ⟨is,mw,.mk o n' us sub⟩=.fn (.func (mC is o)) [] []:=by unfold fnF;rw[if_neg hk];rfl
 have dk:decide ((k:Int)=0)=false:=dEf (by omega);obtain⟨a,ha⟩:=dd (show 0<sub.length by omega);obtain⟨ya,hka,hA⟩:=i2.get ha;have hA0:=hA;obtain⟨o5,n5,t5,x5,t6,x6,rfl⟩:=hA0.agg;rw[ha,Option.getD_some];rcases hq12 with rfl|rfl;rw[if_neg (by decide)];have hB:=tF ⟨true,.nil,0⟩ ⟨true,.nil,0⟩ (.inl rfl) (.inl rfl);generalize fm0=fB at hB ⊢;rcases hk12 with rfl|rfl;simp only[go_sem,zE,zB,zA,zL,rowF,hfn,hT,hent,fits,dc e2,Int.le_refl,Int.toNat_zero,hka,show decide (((1:Nat):Int)=0)=false from rfl,show decide (((1:Nat):Int)=2)=false from rfl,show decide (((1:Nat):Int)=1)=true from rfl]
 rotate_left
 simp only[go_sem,zE,zB,zA,zL,rowF,hfn,hT,hent,fits,dc e2,Int.le_refl,Int.toNat_zero,hka,show decide (((2:Nat):Int)=0)=false from rfl,show decide (((1:Nat):Int)=2)=false from rfl,show decide (((2:Nat):Int)=1)=false from rfl,show decide (((2:Nat):Int)=2)=true from rfl]
 rotate_left
 rw[if_pos rfl];obtain⟨fB,hb'⟩:=dd (show 1<sub.length by omega);obtain⟨yb,hkb,hB⟩:=i2.get hb';have hB0:=hB;obtain⟨o7,n7,t7,x7,t8,x8,rfl⟩:=hB0.agg;rw[hb',Option.getD_some];rcases hk12 with rfl|rfl;simp only[go_sem,zE,zB,zA,zL,rowF,hfn,hT,hent,fits,dc e2,Int.le_refl,Int.toNat_zero,hka,Int.toNat_one,hkb,show decide (((1:Nat):Int)=0)=false from rfl,show decide (((2:Nat):Int)=2)=true from rfl,show decide (((1:Nat):Int)=1)=true from rfl]
 rotate_left
 simp only[go_sem,zE,zB,zA,zL,rowF,hfn,hT,hent,fits,dc e2,Int.le_refl,Int.toNat_zero,hka,Int.toNat_one,hkb,show decide (((2:Nat):Int)=0)=false from rfl,show decide (((2:Nat):Int)=1)=false from rfl,show decide (((2:Nat):Int)=2)=true from rfl]
 rotate_left
 all_goals
  refine (hask _ _ _ _ hA hB _).mono ?_;rintro _ st1 ⟨tg,xs,rfl,htg,hxs,rfl⟩;have hL1:=E_ is o a fB;generalize hL:askT is o a fB=L at hxs hL1 ⊢;have hL2:L.length<=2:=by rw[<- hL];exact yf ..
  have hL3:∀q∈L,q.length<=2:=by rw[<- hL];exact ye _ _ _ _
  simp only[go_sem,hxs.len];refine cV L.length (λk fr st' ds=>(∃g gs x xs,fr 9=.iv x/\SlO st1 st' 1 k xs g x/\(0<k->g ∉ gs)/\RowsO st1 st' gs ((L.take k).map λl=>l.map (mkH mw)) xs/\subSt st1 st')/\fr 2=.iv (.raw (.int .i64 mw))/\fr 47=.iv (.sl tg xs)/\fr 48=.iv (.raw (.int .i64 L.length))/\fr 49=.iv (.raw (.int .i64 k))/\ds=[]) ?_ ?_ ?_
  ·simp only[go_sem,zE];exact⟨⟨0,[],_,[],rfl,.inl ⟨rfl,rfl,_,_,rfl⟩,λh=>absurd h (by decide),rfl,subSt.refl _⟩,rfl⟩
  ·rintro k fr st2 _ hlt ⟨⟨g,gs,x,ys,f9,hsl,hgg,hrow,hsub⟩,f2,f47,f48,f49,rfl⟩;obtain⟨a,ha⟩:=dd hlt;obtain⟨ta,za,hka,hta,hza⟩:=hxs.get ha;have ha2:=hL3 a (lMg ha);have ha1:=hL1.2 a (lMg ha);simp only[go_sem,zE,f47,f48,f49,lt_i hlt,iNn,hka,fits,hza.len,dc htg];intro _;refine cV a.length (λj fr st' ds=>(∃g zs x2,fr 12=.iv x2/\SlO st2 st' 6 j (zs.flatMap IV.cells) g x2/\IsMks ((a.take j).map (mkH mw)) zs/\(∀c,c≠g->st' c=st2 c)/\(j=0->st'=st2))/\fr 2=.iv (.raw (.int .i64 mw))/\fr 9=.iv x/\fr 47=.iv (.sl tg xs)/\fr 48=.iv (.raw (.int .i64 L.length))/\fr 49=.iv (.raw (.int .i64 k))/\fr 53=.iv (.sl ta za)/\fr 54=.iv (.raw (.int .i64 a.length))/\fr 55=.iv (.raw (.int .i64 j))/\ds=[]) ?_ ?_ ?_
   ·simp only[go_sem,zE,f2,f9,f47,f48,f49];exact⟨⟨0,[],_,rfl,.inl ⟨rfl,rfl,_,_,rfl⟩,rfl,λ_ _=>trivial⟩,rfl⟩
   ·rintro j fr st3 _ hjt ⟨⟨gi,zs,x2,f12,hs2,hzs,hoff,hz0⟩,f2,f9,f47,f48,f49,f53,f54,f55,rfl⟩;obtain⟨h,hh⟩:=dd hjt;obtain⟨y,hky,hy⟩:=hza.get hh;obtain⟨oh,nh,t5,x5,t6,x6,rfl,hfh⟩:=hy;have hzl:=hzs.len;rw[List.length_map,List.length_take,Nat.min_eq_left (by omega)] at hzl;rcases hs2 with⟨rfl,hcz,f,e,rfl⟩|⟨hj0,cap,cs,rfl,hg,hkc,hcc,htk,hgn⟩
    ·obtain rfl:=hz0 rfl;simp only[go_sem,zE,zB,zA,zM,zL,reduceCtorEq,f2,f9,f12,f47,f48,f49,f53,f54,f55,lt_i hjt,dc hta,iNn,hky,fits,dP,df hjt (show a.length<=281474976710656 by omega)];refine λg cap=>eB λ⟨hg,hc⟩=>⟨g,zs++[.agg [.raw (.bool h.1),.raw (.int .i64 mw),.raw (.int .u8 oh),.raw (.string nh),.sl t5 x5,.sl t6 x6]],_,rfl,.inr ⟨Nat.zero_lt_one,cap,_,rfl,cT ..,hc,?_,?_,hg⟩,?_,λc hc=>de hc,λh=>absurd h (by decide)⟩
     ·simp[IV.cells];omega
     ·rw[List.flatMap_append,hcz];simp[IV.cells]
     ·rw[dK hh,List.map_append];exact hzs.append (IsMks.one ⟨_,_,_,_,_,_,rfl,hfh⟩)
    ·simp only[go_sem,zE,zB,zA,zM,zL,reduceCtorEq,f2,f12,f53,f54,f55,lt_i hjt,dc hta,iNn,hky,fits,dP];refine pG _ _ _ (cs:=cs) hg (by simp[fits,IV.one]) ⟨by simp only[List.length_singleton];omega,by simp only[List.length_singleton];omega⟩ ⟨hkc,hcc⟩ (by simp[IV.cells]) ?_;rintro g cap' cs' hgn' hc1 hc2 htk';simp only[go_sem,zE,f2,f9,f47,f48,f49,f53,f54,f55,df hjt (show a.length<=281474976710656 by omega)];have hg2:st2 g=none:=by
      rcases hgn' with rfl|h
      ·exact hgn
      ·by_cases hq:g=gi
       ·rw[hq];exact hgn
       ·rw[<- hoff g hq];exact h
     refine⟨g,zs++[.agg [.raw (.bool h.1),.raw (.int .i64 mw),.raw (.int .u8 oh),.raw (.string nh),.sl t5 x5,.sl t6 x6]],_,rfl,.inr ⟨by omega,cap',cs',rfl,cT ..,hc1,hc2,?_,hg2⟩,?_,λc hc=>?_,λh=>h.elim⟩
     ·rw[List.flatMap_append,<- htk];exact htk'
     ·rw[dK hh,List.map_append];exact hzs.append (IsMks.one ⟨_,_,_,_,_,_,rfl,hfh⟩)
     ·rw[de hc,ISt.put_apply];split
      ·rename_i hq;rw[hq];exact hgn.symm
      ·rename_i hq;exact hoff c hq
   ·rintro fr st3 _ ⟨⟨gi,zs,x2,f12,hs2,hzs,hoff,hz0⟩,f2,f9,f47,f48,f49,f53,f54,f55,rfl⟩;rw[lTl] at hzs;rcases hs2 with⟨h0,_⟩|⟨hj0,cap,cs,rfl,hg,hkc,hcc,htk,hgn⟩
    ·omega
    have hal:(a.map (mkH mw)).length=a.length:=List.length_map ..;have keep:∀c,st2 c≠none->st3 c=st2 c:=λc hc=>hoff c λh=>hc (by rw[h];exact hgn);have hgi:gi ∉ gs:=λh=>(hrow.new gi h).1 hgn;have hgi1:st1 gi=none:=by
     cases hq:st1 gi with
     | none=>rfl
     | some o=>have:=hsub _ _ hq;rw[hgn] at this;cases this
    have new1:∀c,st3 c=none->st1 c=none:=λc hc=>by
     cases hq:st1 c with
     | none=>rfl
     | some o=>have:=hsub _ _ hq;rw[keep c (by rw[this];simp),this] at hc;cases hc
    have fin:∀(s':ISt) (g':Nat) (x':IV),(g'=g/\0<k\/st3 g'=none)->(∀c,c≠g'->(0<k->c≠g)->s' c=st3 c)->SlO st1 s' 1 (k+1) (ys++[.raw (.slice (some ⟨gi,0,none⟩) a.length cap)]) g' x'->(0<k->st1 g=none)->(0<k->st2 g≠none) →
      ∃g gs x xs,SV.iv x'=.iv x/\SlO st1 s' 1 (k+1) xs g x/\(0<k+1->g ∉ gs)/\RowsO st1 s' gs ((L.take (k+1)).map λl=>l.map (mkH mw)) xs/\subSt st1 s':=λs' g' x' h1 h2 h3 h4 h5=>by
     have hne:∀c,st2 c≠none->c ∉ gs\/c≠g'/\(0<k->c≠g):=λc hc=>by
      by_cases hcg:c∈gs
      ·refine .inr ⟨?_,λhk hcq=>hgg hk (hcq▸hcg)⟩;rintro rfl;rcases h1 with⟨rfl,hk⟩|h1
       ·exact hgg hk hcg
       ·rw[keep _ hc] at h1;exact hc h1
      ·exact .inl hcg
     have hs':∀c∈gs,s' c=st2 c:=λc hc=>by
      have h6:=(hrow.new c hc).1;rcases hne c h6 with h|⟨h7,h8⟩
      ·exact absurd hc h
      ·rw[h2 c h7 h8,keep c h6]
     have hgig:gi≠g':=λhq=>by
      rcases h1 with⟨rfl,hk⟩|h1
      ·exact h5 hk (by rw[<- hq];exact hgn)
      ·rw[<- hq,hg] at h1;cases h1
     have hgig0:0<k->gi≠g:=λhk hq=>h5 hk (by rw[<- hq];exact hgn);refine⟨g',gs++[gi],x',_,rfl,h3,λ_=>?_,?_,λc o hc=>?_⟩
     ·simp only[List.mem_append,List.mem_singleton,not_or];refine⟨λhm=>?_,hgig.symm⟩;rcases h1 with⟨rfl,hk⟩|h1
      ·exact hgg hk hm
      ·have h6:=(hrow.new g' hm).1;rw[keep _ h6] at h1;exact h6 h1
     ·rw[dK ha,List.map_append];exact RowsO.snoc ⟨cap,cs,zs,by rw[hal],by rw[h2 gi hgig hgig0];exact hg,by rw[hal];exact hkc,hcc,by rw[hal];exact htk,hzs⟩ hgi1 hgi (hrow.mono hs')
     ·have h6:=hsub c o hc;have h7:st2 c≠none:=by rw[h6];simp
      have h8:c≠g':=by
       rintro rfl;rcases h1 with⟨rfl,hk⟩|h1
       ·rw[h4 hk] at hc;cases hc
       ·rw[keep _ h7,h6] at h1;cases h1
      rw[h2 c h8 λhk hq=>(by rw[hq,h4 hk] at hc;cases hc),keep c h7];exact h6
    rcases hsl with⟨rfl,hcz,f,e,rfl⟩|⟨hk0,cap9,cs9,rfl,hg9,hkc9,hcc9,htk9,hgn9⟩
    ·simp only[go_sem,zE,zA,zM,zL,f2,f9,f12,f47,f48,f49,f54,f55,dD (nLi _),fits,dP,ue,df hlt (show L.length<=281474976710656 by omega)];refine λg' cap'=>eB λ⟨hg',hc'⟩=>?_;exact fin _ g' _ (.inr hg') (λc hc _=>de hc) (.inr ⟨Nat.succ_pos _,cap',_,rfl,cT ..,hc',by simp[IV.cells];omega,by rw[hcz];simp[IV.cells],new1 g' hg'⟩) (λh=>absurd h (by omega)) (λh=>absurd h (by omega))
    ·simp only[go_sem,zE,zA,zM,zL,f9,f12,f54,f55,dD (nLi _),fits,dP,ue];refine pG _ _ _ (cs:=cs9) (by rw[keep g (by rw[hg9];simp)];exact hg9) (by simp[fits,IV.one]) ⟨by simp only[List.length_singleton];omega,by simp only[List.length_singleton];omega⟩ ⟨hkc9,hcc9⟩ (by simp[IV.cells]) ?_;rintro g' cap' cs' hgn' hc1 hc2 htk';simp only[go_sem,zE,f2,f47,f48,f49,df hlt (show L.length<=281474976710656 by omega)];exact fin _ g' _ (hgn'.imp (λh=>⟨h,hk0⟩) id) (λc hc hc'=>by rw[de hc,de (hc' hk0)]) (.inr ⟨Nat.succ_pos _,cap',cs',rfl,cT ..,hc1,hc2,by rw[<- htk9];exact htk',hgn'.elim (λh=>h▸hgn9) (new1 g')⟩) (λ_=>hgn9) (λ_=>by rw[hg9];simp)
  ·rintro fr st2 _ ⟨⟨g,gs,x,ys,f9,hsl,hgg,hrow,hsub⟩,f2,f47,f48,f49,rfl⟩;rw[lTl] at hrow;rcases hsl with⟨h0,_⟩|⟨hk0,cap9,cs9,rfl,hg9,hkc9,hcc9,htk9,hgn9⟩
   ·omega
   simp only[go_sem,zE,f9,f48,f49,dD (nLi _)];refine cO ⟨g,gs,ys,.inr ⟨?_,cap9,cs9,?_,hg9,?_,hcc9,?_,hgn9⟩,?_,hgg hk0,hrow,hsub⟩<;>rw[List.length_map]<;>assumption
end Go.Proofs.Tryz
namespace Go.Proofs.Tryz
open Go Go.Iv
def iN (rule:Nat):Bool:=decide (rule=1) || decide (rule=2) || decide (rule=3) || decide (rule=5) || decide (rule=7) || decide (rule=9) || decide (rule=11)
mutual
def qx:Tr->Nd
 | .mk rule _ m _ _ sub=>.mk ⟨iN rule,0,m⟩ (decide (rule=1) || decide (rule=2)) 0 (mH sub)
def mH:List Tr->List Nd
 | []=>[]
 | a::l=>qx a::mH l
end
theorem Fa:∀l:List Tr,(mH l).length=l.length
 | []=>rfl
 | a::l=>by simp only[mH,List.length_cons,Fa l]
end Go.Proofs.Tryz
namespace Go.Proofs.Tryz
open Go Go.Iv
set_option maxRecDepth 4000
variable (gl:Nat->Option IV)
theorem Fb (ents:Array MapEntry):jb ents #[]=ents.toList:=by
 unfold jb;rw[List.filter_eq_self];intro e _;simp
theorem Ot {ents:Array MapEntry}{seen:Array Nat}{e:MapEntry}(h:e∈jb ents seen):e∈ents.toList:=(List.mem_filter.1 h).1
theorem Ou {ents:Array MapEntry}(hn:(ents.toList.map (·.born)).Nodup)(seen:Array Nat){e:MapEntry}(h:e∈ents.toList):qN ents (seen.push e.born)=keyI e.key:=by
 have hf:ents.toList.find? (λx=>x.born == e.born)=some e:=find_born e ents.toList hn h;unfold qN;rw[Array.back?_push,Option.bind_some,hf,Option.bind_some]
theorem Ov {ents:Array MapEntry}(hn:(ents.toList.map (·.born)).Nodup){seen:Array Nat}{e:MapEntry}(h:e∈jb ents seen):(jb ents (seen.push e.born)).length+1=(jb ents seen).length:=by
 unfold jb at h ⊢;generalize ents.toList=l at h hn
 induction l with
 | nil=>cases h
 | cons a l ih =>
  rw[List.map_cons,List.nodup_cons] at hn;by_cases hae:a=e
  ·subst hae;have h1:seen.contains a.born=false:=by simpa using (List.mem_filter.1 h).2
   have h2:(seen.push a.born).contains a.born=true:=by simp
   rw[List.filter_cons_of_neg (by rw[h2];simp),List.filter_cons_of_pos (by rw[h1];rfl),List.length_cons];congr 2;apply List.filter_congr;intro x hx;have hne:x.born≠a.born:=λhq=>hn.1 (hq▸List.mem_map_of_mem hx);simp[hne]
  ·have hm:e∈l.filter λe=>!seen.contains e.born:=by
    have h':=List.mem_filter.1 h;rcases List.mem_cons.1 h'.1 with hq|hq
    ·exact absurd hq.symm hae
    ·exact List.mem_filter.2 ⟨hq,h'.2⟩
   have hel:e∈l:=(List.mem_filter.1 hm).1;have hne:a.born≠e.born:=λhq=>hn.1 (hq▸List.mem_map_of_mem hel);have hi:=ih hm hn.2;have hc:(seen.push e.born).contains a.born=seen.contains a.born:=by
    simp[hne]
   rw[List.filter_cons,List.filter_cons,hc];split
   ·rw[List.length_cons,List.length_cons,<- hi]
   ·exact hi
@[go_sem] theorem V0:mapI prog 83=some (.sg,.raw (.int .u8 0)):=by kernel_rfl
def vR (k:Nat):IV:=.raw (.int .u8 (ga (kB k) (kO k)))
def opR (i:Nat):Oper :=
 if i=0 then ⟨some 1,.makeMap 83 none,83, "signs.go:25",#[],none⟩
 else if i=21 then ⟨some 12,.move (.tmp 1),83, "signs.go:25",⟨(List.range 21).map λj=>⟨j,.data⟩⟩,none⟩
 else if i=22 then ⟨some 0,.assign (.tmp 12),83, "signs.go:25",⟨⟨21,.data⟩::(List.range 22).map λj=>⟨j,.phase⟩⟩,none⟩
 else if i%2=1 then ⟨some (2+i / 2),.build 145 ⟨[(0,.const (.bool (kB (i / 2)))),(1,.const (.int .u8 (kO (i / 2))))]⟩,145, "signs.go:25",#[],none⟩
 else ⟨none,.insert 83 (.tmp 1) (.tmp (2+(i / 2-1))) (.const (.int .u8 (ga (kB (i / 2-1)) (kO (i / 2-1))))),0, "signs.go:25",⟨[⟨0,.data⟩,⟨i-1,.data⟩]⟩,none⟩
def opsR:Array Oper:=⟨(List.range 23).map opR⟩
def ot (b i:Nat):Option (Nat×IV) :=
 if i=0 then some (1,.raw (.map (some b))) else if i=21 then some (12,.raw (.map (some b))) else if i=22 then some (0,.raw (.map (some b))) else if i%2=1 then some (2+i / 2,kIV (i / 2)) else none
def RulP (p:Value×IV):Prop:=∃k,k<10/\p=(sgV (kB k) (kO k),vR k)
def RulE (listed:Array Bool)(es:List (Value×IV)):Prop:=(∀p∈es,RulP p)/\(∀k,k<10->listed.getD (2+2*k) false=true->(sgV (kB k) (kO k),vR k)∈es)/\∀k,k<10->e8 (sgV (kB k) (kO k)) es=if listed.getD (2+2*k) false=true then some (vR k) else none
def RulJ (st:ISt)(listed:Array Bool):Kt:=λ_ fr st' ds=>ds=[]/\∃b es,
 ((listed.getD 0 false=true/\st b=none/\st'=st.put b (some (.map .sg es))/\RulE listed es) \/
  (listed.getD 0 false=false/\st'=st/\listed.getD 21 false=false/\listed.getD 22 false=false/\∀k,k<10->listed.getD (2+2*k) false=false)) /\
 ∀i,i<23->listed.getD i false=true->∀d v,ot b i=some (d,v)->fr d=.iv v
theorem Fc {k:Value}{v:IV}{p:Value×IV}:∀ {es:List (Value×IV)},p∈updI k v es->p=(k,v)\/p∈es
 | [],h=>by simpa[updI] using h
 | (x,u)::es,h=>by
  simp only[updI] at h;split at h
  ·rcases List.mem_cons.1 h with h|h
   ·exact .inl h
   ·exact .inr (List.mem_cons_of_mem _ h)
  ·rcases List.mem_cons.1 h with rfl|h
   ·exact .inr (by simp)
   ·exact (Fc h).imp id (List.mem_cons_of_mem _)
theorem Fe (k:Value)(v:IV):∀es:List (Value×IV),(k,v)∈updI k v es
 | []=>by simp[updI]
 | (x,u)::es=>by
  simp only[updI];split
  ·simp
  ·exact List.mem_cons_of_mem _ (Fe k v es)
theorem Ff {k:Value}{v:IV}{p:Value×IV}(hp:f_ k p.1=false):∀ {es:List (Value×IV)},p∈es->p∈updI k v es
 | (x,u)::es,h=>by
  simp only[updI];split
  ·rename_i hk;rcases List.mem_cons.1 h with rfl|h
   ·rw[hp] at hk;cases hk
   ·exact List.mem_cons_of_mem _ h
  ·rcases List.mem_cons.1 h with rfl|h
   ·simp
   ·exact List.mem_cons_of_mem _ (Ff hp h)
theorem uf {b i j d d':Nat}{v v':IV}(hi:i<23)(hj:j<23)(h:ot b i=some (d,v))(h':ot b j=some (d',v'))(hne:i≠j):d≠d':=by
 unfold ot at h h'
 repeat' split at h
 all_goals first|(cases h;done)|skip
 all_goals (repeat' split at h')
 all_goals first|(cases h';done)|skip
 all_goals (cases h;cases h';omega)
theorem Fg {b k:Nat}(hk:k<10):ot b (1+2*k)=some (2+k,kIV k):=by
 unfold ot;rw[if_neg (by omega),if_neg (by omega),if_neg (by omega),if_pos (by omega),show (1+2*k) / 2=k by omega]
theorem Fh {i:Nat}(hi:i<23):opAt opsR i=opR i:=by
 unfold opAt opsR;rw[Array.getD_eq_getD_getElem?];simp[hi]
def sc (es:List (Value×IV)):Prop:=(∀p∈es,RulP p)/\(∀k,k<10->(sgV (kB k) (kO k),vR k)∈es)/\∀k,k<10->e8 (sgV (kB k) (kO k)) es=some (vR k)
theorem Fi {k j:Nat}(hk:k<10)(hj:j<10)(h:k≠j):f_ (sgV (kB k) (kO k)) (sgV (kB j) (kO j))=false:=by
 show (decide (kB k=kB j)&&decide ((kO k:Int)=kO j))=false;rw[Bool.eq_false_iff,ne_eq,bAt,dTe,dTe];exact λhc=>h (xY (by omega) (by omega) hc.1 (by have:=hc.2;omega))
theorem Fj (st:ISt):ICall prog gl 36 [] st (λr st'=>∃b es,st b=none/\r=.raw (.map (some b))/\sc es/\st'=st.put b (some (.map .sg es))):=by
 refine ICall.intro (c:=cf prog gl [] [(1,[])]) func36 rfl (by show _<=13;simp) (by kernel_rfl) ?_;simp only[go_sem];rw[nL];refine mU (ops:=opsR) (RulJ st) ?_ ?_ _ _ _ _ _ _ rfl ?_
 ·intro listed ad fr st1 ds hz hJ i hi;replace hz:listed.size=23:=hz;obtain⟨h0,o,ho,hdep⟩:=mem_ready.1 hi;have his:i<23:=(Array.getElem?_eq_some_iff.1 ho).1;have hoi:o=opR i:=by
   have:=iC (ops:=opsR) (i:=i) his;rw[ho,Fh his] at this;exact Option.some.inj this
  subst hoi;rw[Fh his];have hfl:listed.getD i false=false:=by
   rw[Array.getD_eq_getD_getElem?,Array.getElem?_eq_getElem (by omega)] at h0 ⊢;exact h0
  obtain⟨rfl,b,es,hst,hsl⟩:=hJ;have st':∀j,i≠j->(listed.setIfInBounds i true).getD j false=listed.getD j false:=λj hj=>by rw[fu (by omega),if_neg hj]
  have sti:(listed.setIfInBounds i true).getD i false=true:=by rw[fu (by omega),if_pos rfl]
  have keepE:(∀k,k<10->i≠2+2*k)->RulE listed es->RulE (listed.setIfInBounds i true) es:=λhn h=>⟨h.1,λk hk hl=>h.2.1 k hk (by rw[st' _ (hn k hk)] at hl;exact hl),λk hk=>by rw[st' _ (hn k hk)];exact h.2.2 k hk⟩
  by_cases i0:i=0
  ·subst i0;rw[show opR 0=⟨some 1,.makeMap 83 none,83, "signs.go:25",#[],none⟩ from rfl,dT];obtain⟨l0,_⟩|⟨_,rfl,l21,l22,lk⟩:=hst
   ·rw[hfl] at l0;cases l0
   simp only[go_sem];refine λb'=>eB λhb'=>⟨rfl,b',[],.inl ⟨sti,hb',rfl,λp hp=>(by cases hp),λk hk hl=>?_,λk hk=>?_⟩,nr uf hz his rfl λj hj hl d v hs=>hsl j hj hl d v ?_⟩
   ·rw[st' _ (by omega),lk k hk] at hl;cases hl
   ·rw[st' _ (by omega),lk k hk];rfl
   ·have j0:j≠0:=λh=>by rw[h,hfl] at hl;cases hl
    have j43:j≠21:=λh=>by rw[h,l21] at hl;cases hl
    have j44:j≠22:=λh=>by rw[h,l22] at hl;cases hl
    unfold ot at hs ⊢;rw[if_neg j0,if_neg j43,if_neg j44] at hs ⊢;exact hs
  by_cases i21:i=21
  ·subst i21;rw[show opR 21=⟨some 12,.move (.tmp 1),83, "signs.go:25",⟨(List.range 21).map λj=>⟨j,.data⟩⟩,none⟩ from rfl] at hdep ⊢;have d0:listed.getD 0 false=true:=hdep ⟨0,.data⟩ (by simp) rfl;have f1:=hsl 0 (by omega) d0 _ _ rfl;rw[dT];simp only[go_sem,f1];refine⟨rfl,b,es,?_,nr uf hz his rfl hsl⟩;obtain⟨l0,hb,hs,hE⟩|⟨l0,_⟩:=hst
   ·exact .inl ⟨by rw[st' 0 (by omega)];exact l0,hb,hs,keepE (λk hk=>by omega) hE⟩
   ·rw[d0] at l0;cases l0
  by_cases i22:i=22
  ·subst i22;rw[show opR 22=⟨some 0,.assign (.tmp 12),83, "signs.go:25",⟨⟨21,.data⟩::(List.range 22).map λj=>⟨j,.phase⟩⟩,none⟩ from rfl] at hdep ⊢;have d0:listed.getD 21 false=true:=hdep ⟨21,.data⟩ (by simp) rfl;have f1:=hsl 21 (by omega) d0 _ _ rfl;rw[dT];simp only[go_sem,f1];refine⟨rfl,b,es,?_,nr uf hz his rfl hsl⟩;obtain⟨l0,hb,hs,hE⟩|⟨_,_,l21,_⟩:=hst
   ·exact .inl ⟨by rw[st' 0 (by omega)];exact l0,hb,hs,keepE (λk hk=>by omega) hE⟩
   ·rw[d0] at l21;cases l21
  rcases (show i%2=1\/i%2=0 by omega) with h3|h3
  ·obtain⟨k,hk,rfl⟩:∃k,k<10/\i=1+2*k:=⟨i / 2,by omega,by omega⟩
   have he:opR (1+2*k)=⟨some (2+k),.build 145 ⟨[(0,.const (.bool (kB k))),(1,.const (.int .u8 (kO k)))]⟩,145, "signs.go:25",#[],none⟩:=by
    unfold opR;rw[if_neg (by omega),if_neg (by omega),if_neg (by omega),if_pos (by omega),show (1+2*k) / 2=k by omega]
   rw[he,dT];simp only[go_sem,zA,zL,fits];refine⟨rfl,b,es,?_,nr uf hz his (Fg hk) hsl⟩;rcases hst with⟨l0,hb,hs,hE⟩|⟨l0,hs,l21,l22,lk⟩
   ·exact .inl ⟨by rw[st' 0 (by omega)];exact l0,hb,hs,keepE (λk hk=>by omega) hE⟩
   ·exact .inr ⟨by rw[st' 0 (by omega)];exact l0,hs,by rw[st' 21 (by omega)];exact l21,by rw[st' 22 (by omega)];exact l22,λk' hk'=>by rw[st' _ (by omega)];exact lk k' hk'⟩
  ·obtain⟨k,hk,rfl⟩:∃k,k<10/\i=2+2*k:=⟨i / 2-1,by omega,by omega⟩
   have he:opR (2+2*k)=⟨none,.insert 83 (.tmp 1) (.tmp (2+k)) (.const (.int .u8 (ga (kB k) (kO k)))),0, "signs.go:25",⟨[⟨0,.data⟩,⟨1+2*k,.data⟩]⟩,none⟩:=by
    unfold opR;rw[if_neg (by omega),if_neg (by omega),if_neg (by omega),if_neg (by omega),show (2+2*k) / 2-1=k by omega,show 2+2*k-1=1+2*k by omega]
   rw[he] at hdep ⊢;have d0:listed.getD 0 false=true:=hdep ⟨0,.data⟩ (by simp) rfl;have d1:listed.getD (1+2*k) false=true:=hdep ⟨1+2*k,.data⟩ (by simp) rfl;have f0:=hsl 0 (by omega) d0 _ _ rfl;have f1:=hsl _ (by omega) d1 _ _ (Fg hk);obtain⟨_,hb,rfl,hE1,hE2,hE3⟩|⟨l0,_⟩:=hst
   case inr=>rw[d0] at l0;cases l0
   unfold kIV at f1;have e1:decide ((0:Int)<=(kO k:Int))=true:=dEt (by omega);have e2:decide ((kO k:Int)<=255)=true:=dEt (by have:=k_lt (show k<14 by omega);omega);rw[dT];simp only[go_sem,f0,f1,e1,e2,cT,eZ];refine⟨rfl,b,updI (sgV (kB k) (kO k)) (vR k) es,.inl ⟨by rw[st' 0 (by omega)];exact d0,hb,rfl,λp hp=>?_,λk' hk' hl=>?_,λk' hk'=>?_⟩,λj hj hl d v hs=>?_⟩
   ·rcases Fc hp with rfl|hp
    ·exact⟨k,hk,rfl⟩
    ·exact hE1 p hp
   ·by_cases hkk:k=k'
    ·subst hkk;exact Fe ..
    ·rw[st' _ (by omega)] at hl;exact Ff (Fi hk hk' hkk) (hE2 k' hk' hl)
   ·rw[tN];by_cases hkk:k'=k
    ·subst hkk;rw[if_pos ⟨rfl,rfl⟩,if_pos sti]
    ·rw[if_neg (λhc=>hkk (xY (by omega) (by omega) hc.1 (by have:=hc.2;omega))),hE3 k' hk',st' _ (by omega)]
   ·by_cases hjk:2+2*k=j
    ·subst hjk;unfold ot at hs;rw[if_neg (by omega),if_neg (by omega),if_neg (by omega),if_neg (by omega)] at hs;cases hs
    ·rw[st' j hjk] at hl;exact hsl j hj hl d v hs
 ·intro listed ad fr st1 ds hz hr hJ;have hl:=xX (ops:=opsR) (by decide +kernel) hz hr;obtain⟨rfl,b,es,hst,hsl⟩:=hJ;obtain⟨_,hb,rfl,hE1,hE2,hE3⟩|⟨l0,_⟩:=hst
  case inr=>rw[hl 0 (by decide)] at l0;cases l0
  have f0:=hsl 22 (by decide) (hl 22 (by decide)) _ _ rfl;simp only[go_sem,f0];have hlk:∀k,k<10->listed.getD (2+2*k) false=true:=λk hk=>hl _ (by show 2+2*k<23;omega);exact cO ⟨b,es,hb,rfl,⟨hE1,λk hk=>hE2 k hk (hlk k hk),λk hk=>by rw[hE3 k hk,if_pos (hlk k hk)]⟩,rfl⟩
 ·refine⟨rfl,0,[],.inr ⟨jh _ _,rfl,jh _ _,jh _ _,λk hk=>jh _ _⟩,λi hi hl=>?_⟩;have:=jh 23 i;rw[show (Array.replicate 23 false).getD i false=true from hl] at this;cases this
