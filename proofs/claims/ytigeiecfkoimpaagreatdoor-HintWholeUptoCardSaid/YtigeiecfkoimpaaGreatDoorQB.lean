/- Walks: lists put together; the check of -/
import Derived.Test.YtigeiecfkoimpaaGreatDoorQA
import Derived.Test.YtigeiecfkoimpaaGreatDoorLA
import Derived.Shelf.SlSortCmp.NoneTotal
set_option linter.all false
open Nat renaming reduceEqDiff → zE,reduceBEq → zB,reduceAdd → zA,reduceMul → zM,reduceLeDiff → zL
namespace Go.Proofs.Tryz
open Go Go.Iv
set_option maxRecDepth 4000
variable (gl:Nat->Option IV)
theorem Ed:lenI prog 3=none:=by kernel_rfl
theorem yQ (n:Nat):gq none (some 0) n=some (0,0):=by simp[gq]
theorem Ee (n:Nat):gq none (some ((0:Nat):Int)) n=some (0,0):=yQ n
theorem MS (n:Nat)(hn:n<=1099511627776)(st:ISt):ICall prog gl 87 [.sl ⟨true,.nil,0⟩ [],.raw (.int .i64 n)] st (λr st' =>
  (n=0/\r=.sl ⟨true,.nil,0⟩ []/\st'=st)\/(∃g cap,st g=none/\n<=cap/\r=.raw (.slice (some ⟨g,0,none⟩) 0 cap)/\st'=st.put g (some (.box (List.replicate (cap*4) .junk))))):=by
 have h1:decide ((n:Int)<0)=false:=dEf (by omega);have h2:IntKind.i64.wrap ((0:Int)-((0:Nat):Int))=0:=rfl;have h3:IntKind.i64.wrap ((n:Int)-0)=n:=w64 (by omega) (by omega);refine iI func87 ?_;by_cases hz:n=0
 ·subst hz;simp only[go_sem,zE,zL,reduceCtorEq,h1,h2,h3,show decide ((0:Int)<((0:Nat):Int))=false from rfl];refine c_ (.inl ?_);simp
 ·have h4:decide ((0:Int)<(n:Int))=true:=dEt (by omega);simp only[go_sem,zE,zL,reduceCtorEq,h1,h2,h3,h4,yQ,Ed];refine fO ⟨rfl,by omega,by show (n:Int)*72<=_;omega,by omega,by decide⟩ λg cap=>d_ λhg=>?_;obtain⟨hg,hc⟩:=hg;rw[Int.toNat_natCast] at hc;simp only[go_sem,zE,zL,reduceCtorEq,Int.toNat_natCast,Ee,ite_self,Nat.zero_mul,hc];exact c_ (.inr ⟨g,cap,hg,hc,rfl,rfl⟩)
def catL (l:List (Tag×List IV)):List IV:=l.flatMap (·.2)
def catI (l:List (Tag×List IV)):List IV:=l.map λp=>.sl p.1 p.2
theorem qd {l:List (Tag×List IV)}{k:Nat}{p:Tag×List IV}(h:l[k]?=some p):(catI l)[k]?=some (.sl p.1 p.2):=by simp[catI,List.getElem?_map,h]
theorem ka {l:List (Tag×List IV)}{k:Nat}{p:Tag×List IV}(h:l[k]?=some p):catL (l.take (k+1))=catL (l.take k)++p.2:=by
 rw[dM h];simp[catL]
theorem nT (l:List (Tag×List IV))(k:Nat):(catL (l.take k)).length<=(catL l).length:=by
 conv=>rhs;rw[<- List.take_append_drop k l]
 unfold catL;rw[List.flatMap_append,lLa];omega
theorem nU:∀ {l:List Fm}{xs:List IV},IsFms l xs->∀y∈xs,fits true 4 y=true
 | [],_,rfl,y,h=>by cases h
 | a::l,_,⟨x,xs,rfl,hx,hl⟩,y,h=>by
  rcases List.mem_cons.1 h with rfl|h
  ·obtain⟨o,n,t,x,t',x',rfl⟩:=hx.agg;simp[fits,IV.one]
  ·exact nU hl y h
theorem rX {y:IV}(h:fits true 4 y=true):y.cells.length=4:=(lJ h).2.1
theorem MU {l:List IV}(h:∀y∈l,fits true 4 y=true):(l.flatMap IV.cells).length=l.length*4:=gS l λx hx=>rX (h x hx)
theorem MV (l:List (Tag×List IV))(tt:Tag)(htt:okEs tt 1)(hfit:∀p∈l,∀y∈p.2,fits true 4 y=true)(hlen:(catL l).length<=1099511627776)(st:ISt) :
  ICall prog gl 66 [.sl tt (catI l)] st (λr st'=>(∃t,r=.sl t []/\okEs t 4/\catL l=[]/\st'=st) \/
   ∃g cap cs,st g=none/\(catL l).length<=cap/\cap*4<=cs.length/\cs.take ((catL l).length*4)=(catL l).flatMap IV.cells/\r=.raw (.slice (some ⟨g,0,none⟩) (catL l).length cap)/\st'=st.put g (some (.box cs))):=by
 have hli:(catI l).length=l.length:=by simp[catI]
 have hfc:∀y∈catL l,fits true 4 y=true:=λy hy=>by
  obtain⟨p,hp,hy⟩:=List.mem_flatMap.1 hy;exact hfit p hp y hy
 refine iI func66 ?_;simp only[go_sem,reduceCtorEq,hli];intro hl;refine dt l.length (λk fr st' ds=>fr 0=.iv (.sl tt (catI l))/\fr 3=.iv (.raw (.int .i64 (catL (l.take k)).length))/\fr 9=.iv (.sl tt (catI l))/\fr 10=.iv (.raw (.int .i64 l.length))/\fr 11=.iv (.raw (.int .i64 k))/\st'=st/\ds=[]) ?_ ?_ ?_
 ·simp only[go_sem,zE,reduceCtorEq];simp[catL]
 ·rintro k fr st1 _ hlt ⟨f0,f3,f9,f10,f11,rfl,rfl⟩;obtain⟨p,hp⟩:=dD hlt;have h1:=nT l k;have h2:=nT l (k+1);rw[ka hp,lLa] at h2;have h3:IntKind.i64.wrap ((((catL (l.take k)).length:Nat):Int)+((p.2.length:Nat):Int))=((catL (l.take (k+1))).length:Nat):=by
   rw[w64 (by omega) (by omega),ka hp,lLa];omega
  have h4:decide ((((catL (l.take (k+1))).length:Nat):Int)<0)=false:=dEf (by omega);simp only[go_sem,zE,f3,f9,f10,f11,lt_i hlt,dB htt,iNn,qd hp,fits,h3];intro hpl;simp only[go_sem,zE,reduceCtorEq,h3,h4,f0,f9,f10,f11,dL hlt (show l.length<=281474976710656 by omega)]
 ·rintro fr st1 _ ⟨f0,f3,f9,f10,f11,rfl,rfl⟩;rw[lTl] at f3;simp only[go_sem,zE,zA,f3,f10,f11,dS (nLi _)];refine (MS gl (catL l).length hlen _).mono ?_;have loop:∀(I:Nat->IV->ISt->Prop),True:=λ_=>trivial;rintro r st2 (⟨hz,rfl,rfl⟩|⟨g,cap,hg,hcap,rfl,rfl⟩)
  ·have hnil:catL l=[]:=List.eq_nil_of_length_eq_zero hz;simp only[go_sem,reduceCtorEq,f0,hli];intro _;refine dt l.length (λk fr st' ds=>(∃t,fr 6=.iv (.sl t [])/\t.cap=.nil)/\fr 25=.iv (.sl tt (catI l))/\fr 26=.iv (.raw (.int .i64 l.length))/\fr 27=.iv (.raw (.int .i64 k))/\st'=st2/\ds=[]) ?_ ?_ ?_
   ·simp only[go_sem,zE];exact⟨⟨_,rfl,rfl⟩,rfl⟩
   ·rintro k fr st1 _ hlt ⟨⟨t,f6,ht⟩,f25,f26,f27,rfl,rfl⟩;obtain⟨p,hp⟩:=dD hlt;have hp0:p.2=[]:=by
     have:=ka hp;have h2:=nT l (k+1);rw[this,lLa,hnil,List.length_nil] at h2;exact List.eq_nil_of_length_eq_zero (by omega)
    obtain⟨fs,c,es⟩:=t;obtain rfl:c=.nil:=ht;simp only[go_sem,zE,zA,zM,zL,f6,f25,f26,f27,lt_i hlt,dB htt,iNn,qd hp,fits,hp0,dL hlt (show l.length<=281474976710656 by omega)];exact⟨_,rfl,rfl⟩
   ·rintro fr st1 _ ⟨⟨t,f6,ht⟩,f25,f26,f27,rfl,rfl⟩;simp only[go_sem,zE,f6,f26,f27,dS (nLi _)];exact c_ (.inl ⟨_,rfl,.inl ht,hnil,rfl⟩)
  ·simp only[go_sem,reduceCtorEq,f0,hli];intro _;refine dt l.length (λk fr st' ds=>(∃g cap cs,st1 g=none/\(catL (l.take k)).length<=cap/\cap*4<=cs.length/\cs.take ((catL (l.take k)).length*4)=(catL (l.take k)).flatMap IV.cells/\fr 6=.iv (.raw (.slice (some ⟨g,0,none⟩) (catL (l.take k)).length cap))/\st'=st1.put g (some (.box cs)))/\fr 25=.iv (.sl tt (catI l))/\fr 26=.iv (.raw (.int .i64 l.length))/\fr 27=.iv (.raw (.int .i64 k))/\ds=[]) ?_ ?_ ?_
   ·simp only[go_sem,zE];exact⟨⟨g,cap,_,hg,by simp[catL],by simp,by simp[catL],by simp[catL],rfl⟩,rfl⟩
   ·rintro k fr st' _ hlt ⟨⟨g,cap,cs,hg,hc1,hc2,hc3,f6,rfl⟩,f25,f26,f27,rfl⟩;obtain⟨p,hp⟩:=dD hlt;have h2:=nT l (k+1);rw[ka hp,lLa] at h2;have hpf:=hfit p (lMg hp);simp only[go_sem,zE,zA,f6,f25,f26,f27,lt_i hlt,dB htt,iNn,qd hp,fits];refine kN _ _ _ (b_ ..) (List.all_eq_true.2 hpf) ⟨by show _*72<=_;omega,by omega⟩ ⟨hc1,hc2⟩ (MU hpf) ?_;intro g' cap' cs' hg' k1 k2 k3;simp only[go_sem,zE,f25,f26,f27,dL hlt (show l.length<=281474976710656 by omega)];have hst':((st1.put g (some (.box cs))).put g none).put g' (some (.box cs'))=st1.put g' (some (.box cs')):=by
     funext c;simp only[ISt.put_apply];split
     ·rfl
     ·split
      ·subst_vars;exact hg.symm
      ·rfl
    have hg1:st1 g'=none:=by
     rcases hg' with rfl|h
     ·exact hg
     ·rw[ISt.put_apply] at h;split at h
      ·cases h
      ·exact h
    refine⟨g',cap',cs',hg1,?_,k2,?_,?_,hst'⟩
    ·rw[ka hp,lLa];exact k1
    ·rw[ka hp,lLa,List.flatMap_append,<- hc3];exact k3
    ·rw[ka hp,lLa]
   ·rintro fr st' _ ⟨⟨g,cap,cs,hg,hc1,hc2,hc3,f6,rfl⟩,f25,f26,f27,rfl⟩;rw[lTl] at *;simp only[go_sem,zE,f6,f26,f27,dS (nLi _)];exact c_ (.inr ⟨g,cap,cs,hg,hc1,hc2,hc3,rfl,rfl⟩)
theorem yR (l1 l2:List Fm)(t1 t2 tt:Tag)(x1 x2:List IV)(htt:okEs tt 1)(h1:IsFms l1 x1)(h2:IsFms l2 x2)(hlen:l1.length+l2.length<=1099511627776)(st:ISt) :
  ICall prog gl 66 [.sl tt [.sl t1 x1,.sl t2 x2]] st (λr st'=>∃t ys,r=.sl t ys/\okEs t 4/\IsFms (l1++l2) ys/\st'=st):=by
 have hc:catL [(t1,x1),(t2,x2)]=x1++x2:=by simp[catL]
 have hf:=h1.append h2;have hlx:(x1++x2).length<=1099511627776:=by rw[hf.len,lLa];exact hlen
 have key:=MV gl [(t1,x1),(t2,x2)] tt htt (λp hp y hy=>by
  rcases List.mem_cons.1 hp with rfl|hp
  ·exact nU h1 y hy
  ·obtain rfl:=List.mem_singleton.1 hp;exact nU h2 y hy) (by rw[hc];exact hlx) st
 rw[hc] at key;refine lS (key.mono λr st' h=>?_);rcases h with⟨t,rfl,ht,hn,rfl⟩|⟨g,cap,cs,hg,hc1,hc2,hc3,rfl,rfl⟩
 ·exact⟨.sl t [],(λ_=>none),st',LendOk.mk (λb o h=>by cases h) (subSt.refl _) (λb cs h=>by cases h),.refl _,⟨false,t.cap,t.es⟩,[],by simp only[age,ages],ht,hn▸hf,rfl⟩
 ·have hcell:∀y∈x1++x2,y.cells.length=4:=λy hy=>rX (nU hf y hy);refine⟨.sl ⟨true,.app g,4⟩ (x1++x2),ISt.put (λ_=>none) g (some (.box cs)),st,⟨λb o h=>?_,fb hg,λb cs' h=>?_⟩,.sl g cap ⟨true,.app g,4⟩ (x1++x2) cs rfl (by omega) hc1 hcell (b_ ..) hc2 λi r c hr hx=>?_,⟨false,.app g,4⟩,ages (x1++x2),by simp only[age],.inr rfl,hf.aged,rfl⟩
  ·rw[ISt.put_apply] at h ⊢;split at h
   ·rename_i hb;rw[if_pos hb];exact h
   ·cases h
  ·rw[ISt.put_apply] at h;split at h
   ·rename_i hb;rw[hb];exact hg
   ·cases h
  ·have hi:i<(x1++x2).length*4:=by
    have:=(lGs hx).1
    rwa [gS _ hcell] at this
   have:(cs.take ((x1++x2).length*4))[i]?=cs[i]?:=by rw[List.getElem?_take,if_pos hi]
   rw[hc3,hx,hr] at this;cases this;exact .refl _
theorem MW {ca:Nat}{s:Sq}{rule:Nat}{main:Fm}{term:Tm}{name:ByteArray}{ad:List Sq}(h:fU ca s rule main term name=(ad,0)) :
  en ca s=true/\∃r,(fQ ca rule r main term name)=(ad,0):=by
 unfold fU at h;split at h
 ·simp at h
 ·rename_i hv;split at h
  ·simp at h
  ·rename_i r _;split at h
   ·simp at h
   ·split at h
    ·rename_i h1 h2;injection h with h3 h4;exact absurd h4 h2
    ·rename_i h1 h2;split at h
     ·simp at h
     ·injection h with h3 h4;refine⟨by simpa using hv,r,?_⟩;rw[<- h3];exact Prod.ext rfl (by simpa using h2)
theorem iQ:fitL []:=λf h=>by cases h
theorem yS {f:Fm}(h:f.size<=1000):fitL [f]:=λg hg=>by obtain rfl:=List.mem_singleton.1 hg;omega
theorem Ef {f g:Fm}(h:f.size<=1000)(h':g.size<=1000):fitL [f,g]:=λk hk=>by
 rcases List.mem_cons.1 hk with rfl|hk
 ·omega
 ·obtain rfl:=List.mem_singleton.1 hk;omega
theorem jt {c:Prop} [Decidable c]{A B:List Sq}{P:Sq->Prop}(h1:∀s∈A,P s)(h2:∀s∈B,P s):∀s∈(if c then A else B),P s:=by split<;>assumption
def nV (s:Sq):Prop:=fY s/\s.l.length<=64/\s.r.length<=64
theorem Eg {ca rule:Nat}{main a b:Fm}(hm:main.size<=400)(ha:a.size<=400)(hb:b.size<=400):∀s∈addS ca rule main a b,nV s:=by
 have hi:(impF a b).size<=1000:=by simp only[impF,Fm.size,el,dV];omega
 have hi':(impF b a).size<=1000:=by simp only[impF,Fm.size,el,dV];omega
 have l1:=yS (show main.size<=1000 by omega);have l2:=yS (show a.size<=1000 by omega);have l3:=yS (show b.size<=1000 by omega);have l4:=Ef (show a.size<=1000 by omega) (show b.size<=1000 by omega);have l5:=Ef hi hi';have q0:∀s∈([]:List Sq),nV s:=λs hs=>by cases hs
 have q1:∀ {x:Sq},nV x->∀s∈[x],nV s:=λhx s hs=>by obtain rfl:=List.mem_singleton.1 hs;exact hx
 have q2:∀ {x y:Sq},nV x->nV y->∀s∈[x,y],nV s:=λhx hy s hs=>by
  rcases List.mem_cons.1 hs with rfl|hs
  ·exact hx
  ·obtain rfl:=List.mem_singleton.1 hs;exact hy
 have c0:([]:List Fm).length<=64:=Nat.zero_le _;have c1:∀f:Fm,[f].length<=64:=λ_=>by simp
 have c2:∀f g:Fm,[f,g].length<=64:=λ_ _=>by simp
 unfold addS;refine jt (q1 ⟨⟨iQ,l2⟩,c0,c1 _⟩) (jt (q1 ⟨⟨l2,iQ⟩,c1 _,c0⟩) (jt (q1 ⟨⟨l4,iQ⟩,c2 _ _,c0⟩) (jt (q2 ⟨⟨iQ,l2⟩,c0,c1 _⟩ ⟨⟨iQ,l3⟩,c0,c1 _⟩) (jt (q2 ⟨⟨l2,iQ⟩,c1 _,c0⟩ ⟨⟨l3,iQ⟩,c1 _,c0⟩)
  (jt (jt (q1 ⟨⟨iQ,l2⟩,c0,c1 _⟩) (q1 ⟨⟨iQ,l4⟩,c0,c2 _ _⟩)) (jt (q2 ⟨⟨iQ,l2⟩,c0,c1 _⟩ ⟨⟨l3,iQ⟩,c1 _,c0⟩) (jt (q1 ⟨⟨l2,l3⟩,c1 _,c1 _⟩) (jt (q1 ⟨⟨l5,iQ⟩,c2 _ _,c0⟩) (jt (q2 ⟨⟨l2,l3⟩,c1 _,c1 _⟩ ⟨⟨l3,l2⟩,c1 _,c1 _⟩)
  (jt (q1 ⟨⟨l2,iQ⟩,c1 _,c0⟩) (jt (q1 ⟨⟨iQ,l2⟩,c0,c1 _⟩) (jt (q1 ⟨⟨l2,iQ⟩,c1 _,c0⟩) (jt (q1 ⟨⟨iQ,l2⟩,c0,c1 _⟩) (jt (q2 ⟨⟨iQ,l1⟩,c0,c1 _⟩ ⟨⟨l1,iQ⟩,c1 _,c0⟩) (jt (q1 ⟨⟨iQ,l3⟩,c0,c1 _⟩) q0)))))))))))))))
theorem rY:∀ {l:List Fm}{g:Fm},g∈l->g.size<=dV l
 | a::l,g,h=>by
  simp only[dV];rcases List.mem_cons.1 h with rfl|h
  ·omega
  ·have:=rY h;omega
theorem MX {l:List Fm}{n:Nat}(h:dV l<=n)(hn:1<=n)(k:Nat):((l[k]?).getD fm0).size<=n:=by
 cases hk:l[k]? with
 | none=>exact hn
 | some a=>exact Nat.le_trans (rY (lMg hk)) h
theorem MY {ca rule:Nat}{r:Rw}{main:Fm}{term:Tm}{name:ByteArray}{ad:List Sq}(h:fQ ca rule r main term name=(ad,0)):∀s∈ad,nV s:=by
 unfold fQ at h;by_cases hc:(!fmB ca main || (decide (r.op≠0)&&decide (main.op≠r.op)))=true
 ·rw[if_pos hc] at h;cases (Prod.mk.inj h).2
 ·rw[if_neg hc] at h;have hf:fmB ca main=true:=by
   cases hq:fmB ca main
   ·simp[hq] at hc
   ·rfl
  have hm:main.size<=400:=by
   unfold fmB at hf;simp only[bAt] at hf;exact (mV hf.1).2.1
  have hs:∀k,((main.subs[k]?).getD fm0).size<=400:=λk=>MX (by
   obtain⟨o,n,us,sub⟩:=main;simp only[Fm.size] at hm;show dV sub<=400;omega) (by omega) k
  by_cases h0:r.asks=0
  ·simp only[if_pos h0] at h;rw[<- (Prod.mk.inj h).1];exact Eg hm (hs 0) (hs 1)
  ·simp only[if_neg h0] at h;generalize (if r.asks=2 then Tm.mk true name [] else term)=t at h;by_cases h1:(!t.ok)=true
   ·simp only[if_pos h1] at h;cases (Prod.mk.inj h).2
   ·simp only[if_neg h1] at h;by_cases h2:(il ((main.subs[0]?).getD fm0) [(main.nm,t)]).2≠0
    ·simp only[if_pos h2] at h;cases (Prod.mk.inj h).2
    ·simp only[if_neg h2] at h;rw[<- (Prod.mk.inj h).1];exact Eg hm (D_ _ _) (hs 1)
theorem yT (s:Sq):∀(l l':List Sq) (ts ts':List Tr),l.length=ts.length->gT s (l++l') (ts++ts')=(gT s l ts&&gT s l' ts')
 | [],l',[],ts',_=>by simp[gT]
 | a::l,l',t::ts,ts',h=>by
  simp only[List.cons_append,gT,yT s l l' ts ts' (by simpa using h),Bool.and_assoc]
 | [],_,_::_,_,h=>by simp at h
 | _::_,_,[],_,h=>by simp at h
theorem Eh {l l':List Fm}(h:fitL l)(h':fitL l'):fitL (l++l'):=λf hf=>(List.mem_append.1 hf).elim (h f) (h' f)
theorem MZ (G:Gl gl)(T:Gt gl)(ca rule:Nat)(s:Sq)(main:Fm)(term:Tm)(name:ByteArray)(sub:List Tr)(x:IV)(hx:IsTr (.mk rule s main term name sub) x)(hs:fY s)(hm:main.size<=1000000)(ht:term.size<=1000000)
  (hsub:∀a∈sub,fY a.sq) (st:ISt):ICall prog gl 37 [.raw (.int .u8 ca),.cptr x] st (λr st'=>r=.raw (.int .i64 (fF ca (.mk rule s main term name sub)))/\st'=st):=by
 obtain⟨tl,xl,tr,xr,op,fn,ta,xa,tb,xb,v,un,tu,xu,ts,xs,rfl,hru,e1,i1,e2,i2,hy,hz,e3,i3⟩:=hx.mk;have hstep:=λst=>MR gl G T ca s _ ⟨tl,xl,tr,xr,rfl,e1,i1,e2,i2⟩ hs rule main _ hy hm term _ hz ht name st;unfold fF;refine ICall.intro (c:=cf prog gl [] [(9,[0,1,2,3,4,5,6,7,9,10,11,12,13,14,15,16,19,8,17,18,20])]) func37 rfl (by show _<=84;simp) (by kernel_rfl) ?_;simp only[go_sem,zE,zB,zA,zL,reduceCtorEq,fits];refine (hstep _).mono ?_;rintro _ st ⟨tg,ys,rfl,he,hys,rfl⟩;generalize hq:fU ca s rule main term name=q at hys ⊢;obtain⟨ad,er⟩:=q;simp only at hys ⊢;by_cases h0:er=0
 ·subst h0;obtain⟨hv,r,hr⟩:=MW hq;have hfit:=MY hr;simp only[go_sem,zE,show decide (((0:Nat):Int)=0)=true from rfl,i3.len,hys.len,fits];intro _ _;by_cases hl:sub.length=ad.length
  ·have dl:decide ((sub.length:Int)=(ad.length:Int))=true:=dEt (by omega);simp only[go_sem,zE,dl,hys.len];intro _;refine dt ad.length (λk fr st' ds=>gT s (ad.take k) (sub.take k)=true/\fr 0=.iv (.raw (.int .u8 ca))/\fr 1=.iv (.cptr (.agg [.raw (.int .u8 rule),.sl tl xl,.sl tr xr,.raw (.int .u8 op),.raw (.string fn),.sl ta xa,.sl tb xb,.raw (.bool v),.raw (.string un),.sl tu xu,.raw (.string name),.sl ts xs]))/\fr 46=.iv (.sl tg ys)/\fr 47=.iv (.raw (.int .i64 ad.length))/\fr 48=.iv (.raw (.int .i64 k))/\st'=st/\ds=[]) ?_ ?_ ?_
   ·simp only[go_sem,zE,reduceCtorEq];simp[gT]
   ·rintro k fr st1 _ hlt ⟨hn,f0,f1,f46,f47,f48,rfl,rfl⟩;obtain⟨a,ha⟩:=dD hlt;obtain⟨w,hkw,hw⟩:=hys.get ha;obtain⟨b,hb⟩:=dD (l:=sub) (k:=k) (by omega);obtain⟨z,hkz,hz⟩:=i3.get hb;have hza:=hfit a (lMg ha);have hvl:s.l.length<=64/\s.r.length<=64:=by
     unfold en at hv;simp only[bAt,dTe] at hv;exact⟨hv.1.1.1.1.2,hv.1.1.1.2⟩
    obtain⟨t1,x1,t2,x2,rfl,k1,j1,k2,j2⟩:=hw;have hC1:=λst=>yR gl s.l a.l tl t1 ⟨true,.full,1⟩ xl x1 (.inr rfl) i1 j1 (by have:=hza.2.1;omega) st;have hC2:=λst=>yR gl s.r a.r tr t2 ⟨true,.full,1⟩ xr x2 (.inr rfl) i2 j2 (by have:=hza.2.2;omega) st;have hsb:=hsub b (lMg hb);obtain⟨br,bs,bm,bt,bn,bsub⟩:=b;obtain⟨tl',xl',tr',xr',op',fn',ta',xa',tb',xb',v',un',tu',xu',ts',xs',rfl,_,g1,m1,g2,m2,_⟩:=hz.mk;have hlen1:(ad.take k).length=(sub.take k).length:=by rw[List.length_take,List.length_take];omega
    have hpl:fY (s.plus a):=⟨Eh hs.1 hza.1.1,Eh hs.2 hza.1.2⟩
    simp only[go_sem,zE,zB,zA,zM,zL,f1,f46,f47,f48,lt_i hlt,dB he,iNn,hkw,fits,kV];refine (hC1 _).mono ?_;rintro _ st2 ⟨t3,y1,rfl,g3,m3,rfl⟩;simp only[go_sem,zE,zA];refine (hC2 _).mono ?_;rintro _ st2 ⟨t4,y2,rfl,g4,m4,rfl⟩;simp only[go_sem,zE,zB,zA,zL,f1,dB e3,iNn,hkz,fits];refine (MI gl G bs (s.plus a) _ _ ⟨_,_,_,_,rfl,g1,m1,g2,m2⟩ ⟨_,_,_,_,rfl,g3,m3,g4,m4⟩ hsb hpl _).mono ?_;rintro _ st2 ⟨rfl,rfl⟩;cases hw:m_ bs (s.plus a)
    ·simp only[go_sem];refine c_ ⟨?_,rfl⟩;have hp:gT s ad sub=false:=by
      conv=>lhs;rw[<- List.take_append_drop k ad,<- List.take_append_drop k sub]
      rw[List.drop_eq_getElem_cons hlt,List.drop_eq_getElem_cons (show k<sub.length by omega),yT s _ _ _ _ hlen1,(lGs ha).2,(lGs hb).2];simp only[gT,Tr.sq,hw,Bool.false_and,Bool.and_false]
     rw[if_neg (by omega),if_neg (by omega),hp];rfl
    ·simp only[go_sem,zE,reduceCtorEq,f0,f1,f46,f47,f48,dL hlt (show ad.length<=281474976710656 by omega)];rw[dM ha,dM hb,yT s _ _ _ _ hlen1,hn];simp only[gT,Tr.sq,hw,Bool.true_and]
   ·rintro fr st1 _ ⟨hn,f0,f1,f46,f47,f48,rfl,rfl⟩;rw[lTl,show sub.take ad.length=sub by rw[<- hl,lTl]] at hn;simp only[go_sem,f47,f48,dS (nLi _)];refine c_ ⟨?_,rfl⟩;rw[if_neg (by omega),if_neg (by omega),hn];rfl
  ·have dl:decide ((sub.length:Int)=(ad.length:Int))=false:=dEf (by omega);simp only[go_sem,dl];refine c_ ⟨?_,rfl⟩;rw[if_neg (by omega),if_pos hl];rfl
 ·have d0:decide ((er:Int)=0)=false:=dEf (by omega);simp only[go_sem,zE,d0];refine c_ ⟨?_,rfl⟩;rw[if_pos h0]
def plI (p:List Nat):List IV:=p.map λ(i:Nat)=>.raw (.int .i64 (i:Int))
theorem iW (p:List Nat):(plI p).length=p.length:=by simp[plI]
def emp:ISt:=λ_=>none
def PlV (p:List Nat)(a:IV)(e:ISt):Prop :=
 (∃t,a=.sl t []/\t.cap=.nil/\p=[]/\e=emp) \/
 ∃g cap cs,a=.raw (.slice (some ⟨g,0,none⟩) p.length cap)/\e=emp.put g (some (.box cs))/\p.length<=cap/\cap<=cs.length/\cs.take p.length=plI p
def lkW (w:IV->IV)(l:List (List Nat×Tr))(k:Nat)(zs:List IV)(e:ISt):Prop:=∃p t a x,l[k]?=some (p,t)/\IsTr t x/\PlV p a e/\zs=[a,w x]
abbrev lkT:=lkW .cptr
def pt (b:Nat):IV:=.raw (.pointer (some ⟨b,0,none⟩))
def lh (F b2 b3 b4:Nat):IV:=.fn (.func F) [] [.raw (.pointer (some ⟨b2,0,none⟩)),.raw (.pointer (some ⟨b3,0,none⟩)),.raw (.pointer (some ⟨b4,0,none⟩))]
def ownF (F b2 b3 b4:Nat)(fy a:IV):ISt:=((emp.put b2 (some (.box [fy]))).put b3 (some (.box [a]))).put b4 (some (.box [lh F b2 b3 b4]))
section
variable {F b2 b3 b4:Nat}{fy a:IV}
theorem uQ (h3:b2≠b3)(h4:b2≠b4):ownF F b2 b3 b4 fy a b2=some (.box [fy]):=by simp only[ownF,ISt.put_apply,if_neg h3,if_neg h4,if_true]
theorem iL (h4:b3≠b4):ownF F b2 b3 b4 fy a b3=some (.box [a]):=by simp only[ownF,ISt.put_apply,if_neg h4,if_true]
theorem mu:ownF F b2 b3 b4 fy a b4=some (.box [lh F b2 b3 b4]):=by simp only[ownF,ISt.put_apply,if_true]
theorem uR {c:Nat}(h2:c≠b2)(h3:c≠b3)(h4:c≠b4):ownF F b2 b3 b4 fy a c=none:=by simp only[ownF,ISt.put_apply,if_neg h2,if_neg h3,if_neg h4,emp]
theorem nW {c:Nat}(a':IV):ownF F b2 b3 b4 fy a c=none↔ownF F b2 b3 b4 fy a' c=none:=by
 simp only[ownF,ISt.put_apply];by_cases h4:c=b4
 ·simp[h4]
 ·by_cases h3:c=b3
  ·subst h3;simp only[if_neg h4,if_true,reduceCtorEq]
  ·simp[h4,h3]
end
def nk (F b2 b3 b4:Nat)(fy:IV)(p:List Nat)(s stt:ISt):Prop:=∃a e,PlV p a e/\disj s e/\disj (join s e) (ownF F b2 b3 b4 fy a)/\stt=join (join s e) (ownF F b2 b3 b4 fy a)
def FOkL (w:IV->IV)(y:IV)(I:Nat->ISt->Prop)(S:ISt->Prop)(k0:Nat)(l:List (List Nat×Tr)):Prop :=
 ∀i p t x a e stu,l[i]?=some (p,t)->IsTr t x->PlV p a e->disj stu e->I (k0+i) stu →
  ICallV prog gl y [a,w x] (join stu e) λr st'=>(r=.raw (.bool true)/\∃s1,I (k0+i+1) s1/\disj s1 e/\st'=join s1 e)\/(r=.raw (.bool false)/\S st')
section
variable {gl}{w:IV->IV}{y:IV}{I:Nat->ISt->Prop}{S:ISt->Prop}{k0:Nat}
theorem FOkL.left {l m:List (List Nat×Tr)}(h:FOkL gl w y I S k0 (l++m)):FOkL gl w y I S k0 l:=λi p t x a e stu hi =>
 h i p t x a e stu (by rw[List.getElem?_append_left (lGs hi).1];exact hi)
theorem FOkL.right {l m:List (List Nat×Tr)}(h:FOkL gl w y I S k0 (l++m)):FOkL gl w y I S (k0+l.length) m:=λi p t x a e stu hi hx hp hd hI=>by
 have:=h (l.length+i) p t x a e stu (by rw[List.getElem?_append_right (by omega)];simpa using hi) hx hp hd (by rw[<- Nat.add_assoc];exact hI);simpa only[Nat.add_assoc] using this
theorem FOkL.tail {z:List Nat×Tr}{m:List (List Nat×Tr)}(h:FOkL gl w y I S k0 (z::m)):FOkL gl w y I S (k0+1) m:=FOkL.right (l:=[z]) h
end
section
variable {F b2 b3 b4:Nat}{fy a a':IV}{p:List Nat}{s:ISt}{g:Nat}
theorem uS {c:Nat}(h:c≠b3):ownF F b2 b3 b4 fy a c=ownF F b2 b3 b4 fy a' c:=by simp only[ownF,ISt.put_apply,if_neg h]
theorem uT {cs:List IV}(h34:b3≠b4)(hs:disj s (ownF F b2 b3 b4 fy a))(hg1:s g=none)(hg2:ownF F b2 b3 b4 fy a g=none)(hp:PlV p a' (emp.put g (some (.box cs)))) :
  nk F b2 b3 b4 fy p s (((join s (ownF F b2 b3 b4 fy a)).put g (some (.box cs))).put b3 (some (.box [a']))):=by
 have hg3:ownF F b2 b3 b4 fy a' g=none:=(nW a').1 hg2;refine⟨a',_,hp,λb hb=>?_,λb hb=>?_,?_⟩
 ·rw[ISt.put_apply] at hb;split at hb
  ·rename_i h;rw[h];exact hg1
  ·exact absurd rfl hb
 ·have hbg:b≠g:=by rintro rfl;exact hb hg3
  have he:(emp.put g (some (.box cs))) b=none:=by rw[ISt.put_apply,if_neg hbg];rfl
  rw[fT he];exact hs b λh=>hb ((nW a').1 h)
 ·funext c;by_cases h3:c=b3
  ·rw[ISt.put_apply,if_pos h3,h3,e_ (iL h34)]
  ·rw[ISt.put_apply,if_neg h3,ISt.put_apply];by_cases hc:c=g
   ·rw[if_pos hc,hc,fT hg3,e_ (b_ ..)]
   ·rw[if_neg hc];have he:(emp.put g (some (.box cs))) c=none:=by rw[ISt.put_apply,if_neg hc];rfl
    cases ho:ownF F b2 b3 b4 fy a c with
    | some o=>rw[e_ ho,e_ ((uS h3).symm.trans ho)]
    | none=>rw[fT ho,fT ((uS h3).symm.trans ho),fT he]
theorem Ei {cs:List IV}(hd1:s g=none)(hd2:ownF F b2 b3 b4 fy a g=none):(join (join s (emp.put g (some (.box cs)))) (ownF F b2 b3 b4 fy a)).put g none=join s (ownF F b2 b3 b4 fy a):=by
 funext c;rw[ISt.put_apply];split
 ·rename_i h;rw[h,fT hd2,hd1]
 ·rename_i h;have he:(emp.put g (some (.box cs))) c=none:=by rw[ISt.put_apply,if_neg h];rfl
  cases ho:ownF F b2 b3 b4 fy a c with
  | some o=>rw[e_ ho,e_ ho]
  | none=>rw[fT ho,fT ho,fT he]
end
theorem PlV.cons {p:List Nat}{k:Nat}{a:IV}{e:ISt}(h:PlV (p++[k]) a e):∃g cap cs,a=.raw (.slice (some ⟨g,0,none⟩) (p.length+1) cap)/\e=emp.put g (some (.box cs))/\p.length+1<=cap/\cap<=cs.length/\cs.take p.length=plI p:=by
 rcases h with⟨t,_,_,h,_⟩|⟨g,cap,cs,rfl,rfl,h1,h2,h3⟩
 ·simp at h
 ·rw[lLa] at h1 h3 ⊢;refine⟨g,cap,cs,rfl,rfl,h1,h2,?_⟩;have:=congrArg (List.take p.length) h3;rw[List.take_take,show min p.length (p.length+[k].length)=p.length by omega] at this;rw[this];unfold plI;rw[List.map_append,List.take_left' (by simp)]
theorem qg {F b2 b3 b4:Nat}{fy a a':IV}{X:ISt}(h34:b3≠b4):(join X (ownF F b2 b3 b4 fy a)).put b3 (some (.box [a']))=join X (ownF F b2 b3 b4 fy a'):=by
 funext c;rw[ISt.put_apply];split
 ·rename_i h;rw[h,e_ (iL h34)]
 ·rename_i h;cases ho:ownF F b2 b3 b4 fy a c with
  | some o=>rw[e_ ho,e_ ((uS h).symm.trans ho)]
  | none=>rw[fT ho,fT ((uS h).symm.trans ho)]
theorem qh {n m:Nat}(h:n+1<=m):gq none (some ((n:Nat):Int)) m=some (0,n):=by
 simp only[gq,Option.getD_none,Option.getD_some];rw[if_pos ⟨Int.le_refl _,by omega,by omega⟩];simp
theorem yU:∀ {l:List Tr}{t:Tr},t∈l->t.height<=lY l
 | a::l,t,h=>by
  simp only[lY];rcases List.mem_cons.1 h with rfl|h
  ·omega
  ·have:=yU h;omega
theorem rZ (x:Operand):la 1 [(0,x)]=true:=rfl
theorem oN (p:List Nat):∀(i:Nat) (l m:List Tr),eO p i (l++m)=eO p i l++eO p (i+l.length) m
 | i,[],m=>by simp[eO]
 | i,a::l,m=>by
  simp only[List.cons_append,eO,oN p (i+1) l m,List.append_assoc,List.length_cons];rw[show i+1+l.length=i+(l.length+1) by omega]
def FF (t:Tr):Prop:=∀(x:IV) (_:IsTr t x) (b2 b3 b4:Nat) (_:b2≠b3) (_:b2≠b4) (_:b3≠b4) (g:Fn) (fi ca:List IV) (_:fnOk g=true) (_:∀i,g=.func i->entI prog i=true) (I:Nat->ISt->Prop) (S:ISt->Prop) (k0:Nat) (p:List Nat)
  (_:FOkL gl .cptr (.fn g fi ca) I S k0 (t.walk p)) (_:p.length+t.height<=1099511627776) (s stt:ISt) (_:I k0 s) (_:nk 64 b2 b3 b4 (.fn g fi ca) p s stt),
  ICall prog gl 64 [.cptr x,.raw (.pointer (some ⟨b2,0,none⟩)),.raw (.pointer (some ⟨b3,0,none⟩)),.raw (.pointer (some ⟨b4,0,none⟩))] stt
   (λr st'=>(r=.raw (.bool true)/\∃s1,I (k0+(t.walk p).length) s1/\nk 64 b2 b3 b4 (.fn g fi ca) p s1 st')\/(r=.raw (.bool false)/\∃s1,S s1/\subSt s1 st'))
theorem M0 (rule:Nat)(sq:Sq)(f:Fm)(u:Tm)(n:ByteArray)(sub:List Tr)(IH:∀a∈sub,FF gl a):FF gl (.mk rule sq f u n sub):=by
 intro x hx b2 b3 b4 h23 h24 h34 g fi ca hfn hent I S k0 p hy hdeep s stt hI hst;have hx0:=hx;obtain⟨tl,xl,tr,xr,op,fn,ta,xa,tb,xb,v,un,tu,xu,ts,xs,hxe,hru,_,_,_,_,_,_,e3,i3⟩:=hx.mk;obtain⟨a,e,hp,hd1,hd2,rfl⟩:=hst;simp only[Tr.walk] at hy ⊢;have hhead:=hy 0 p _ _ a e s rfl hx0 hp hd1 hI;have hy':=FOkL.tail hy;have r2:join (join s e) (ownF 64 b2 b3 b4 (.fn g fi ca) a) b2=some (.box [.fn g fi ca]):=e_ (uQ h23 h24);have r3:join (join s e) (ownF 64 b2 b3 b4 (.fn g fi ca) a) b3=some (.box [a]):=e_ (iL h34);refine ICall.intro (c:=cf prog gl [23,24] []) func64 rfl (by show _<=39;simp) (by kernel_rfl) ?_;have hiv:ivOf (.iv a)=some a:=by rcases hp with⟨t,rfl,_⟩|⟨g,cap,cs,rfl,_⟩<;>rfl
 rw[hxe] at hhead;simp only[go_sem,zE,reduceCtorEq,r2,r3,hiv,hxe];refine lO hent (hhead.frame hd2 |>.mono ?_);rintro r stt ⟨s2,hd3,rfl,(⟨rfl,s3,hI3,hd4,rfl⟩|⟨rfl,hS⟩)⟩
 ·simp only[go_sem,reduceCtorEq,i3.len];intro hlen;refine dt sub.length (λk fr st' ds=>(∃s,I (k0+1+(eO p 0 (sub.take k)).length) s/\nk 64 b2 b3 b4 (.fn g fi ca) p s st')/\fr 0=.iv (.cptr x)/\fr 1=.iv (.raw (.pointer (some ⟨b2,0,none⟩)))/\fr 2=.iv (.raw (.pointer (some ⟨b3,0,none⟩)))/\fr 3=.iv (.raw (.pointer (some ⟨b4,0,none⟩)))/\fr 16=.iv (.raw (.int .i64 sub.length))/\fr 17=.iv (.raw (.int .i64 k))/\ds=[]) ?_ ?_ ?_
  ·simp only[go_sem,zE,reduceCtorEq,hxe];exact⟨⟨s3,by simpa[eO] using hI3,a,e,hp,hd4,hd3,rfl⟩,rfl⟩
  ·rintro k fr st1 _ hlt ⟨⟨s,hI,a,e,hp,hd1,hd2,rfl⟩,f0,f1,f2,f3,f16,f17,rfl⟩;rw[hxe] at f0;obtain⟨t,ht⟩:=dD hlt;obtain⟨z,hkz,hz⟩:=i3.get ht;have r3:join (join s e) (ownF 64 b2 b3 b4 (.fn g fi ca) a) b3=some (.box [a]):=e_ (iL h34);have hth:=yU (lMg ht);simp only[Tr.height] at hdeep;have hsplit:eO p 0 sub=eO p 0 (sub.take k)++(t.walk (p++[k])++eO p (k+1) (sub.drop (k+1))):=by
    conv=>lhs;rw[<- List.take_append_drop k sub,List.drop_eq_getElem_cons hlt]
    rw[oN,(lGs ht).2,show (sub.take k).length=k by rw[List.length_take];omega];simp only[eO,Nat.zero_add]
   have hya:=hy';rw[hsplit] at hya;have hcall:=λstt hF=>IH t (lMg ht) z hz b2 b3 b4 h23 h24 h34 g fi ca hfn hent I S _ (p++[k]) (FOkL.left (FOkL.right hya)) (by rw[lLa];simp only[List.length_singleton];omega) s stt hI hF;have wcut:IntKind.i64.wrap (((p.length+1:Nat):Int)-1)=(p.length:Nat):=by rw[w64 (by omega) (by omega)];omega
   have hz':∃c0 c1 c2 c3 c4 c5 c6 c7 c8 c9 c10 c11,z=.agg [c0,c1,c2,c3,c4,c5,c6,c7,c8,c9,c10,c11]:=by
    obtain⟨r',s',m',t',n',b'⟩:=t;obtain⟨tl',xl',tr',xr',op',fn',ta',xa',tb',xb',v',un',tu',xu',ts',xs',rfl,_⟩:=hz.mk;exact⟨_,_,_,_,_,_,_,_,_,_,_,_,rfl⟩
   obtain⟨c0,c1,c2,c3,c4,c5,c6,c7,c8,c9,c10,c11,rfl⟩:=hz';rcases hp with⟨t0,rfl,hta,hp0,rfl⟩|⟨g',cap,cs,rfl,rfl,hc1,hc2,hc3⟩
   ·obtain⟨fs,c,es⟩:=t0;obtain rfl:c=.nil:=hta;have hje:join s emp=s:=rfl;rw[hje] at r3 hd2 ⊢;simp only[go_sem,zE,zA,zM,zL,reduceCtorEq,f0,f2,f3,f16,f17,lt_i hlt,r3,hxe,rZ];intro g' cap;refine d_ λhg=>?_;obtain⟨hg,hcap⟩:=hg;change join s (ownF 64 b2 b3 b4 (.fn g fi ca) (.sl ⟨fs,.nil,es⟩ [])) g'=none at hg;have hd2':disj s (ownF 64 b2 b3 b4 (.fn g fi ca) (.sl ⟨fs,.nil,es⟩ [])):=hd2;have hg2:ownF 64 b2 b3 b4 (.fn g fi ca) (.sl ⟨fs,.nil,es⟩ []) g'=none:=by
     cases ho:ownF 64 b2 b3 b4 (.fn g fi ca) (.sl ⟨fs,.nil,es⟩ []) g' with
     | none=>rfl
     | some o=>rw[e_ ho] at hg;cases hg
    have hg1:s g'=none:=by rw[<- fT (stu:=s) hg2];exact hg
    have hb3:b3≠g':=by rintro rfl;rw[iL h34] at hg2;cases hg2
    have hF:=uT (fy:=.fn g fi ca) (p:=p++[k]) (a':=.raw (.slice (some ⟨g',0,none⟩) 1 cap)) (cs:=.raw (.int .i64 k)::List.replicate (cap-1) .junk) h34 hd2' hg1 hg2 (.inr ⟨g',cap,_,by rw[hp0];rfl,rfl,by simpa[hp0] using hcap,by simp;omega,by simp[plI,hp0]⟩);have hb4:b4≠g':=by rintro rfl;rw[mu] at hg2;cases hg2
    have r3':∀o,((join s (ownF 64 b2 b3 b4 (.fn g fi ca) (.sl ⟨fs,.nil,es⟩ []))).put g' o) b3=some (.box [.sl ⟨fs,.nil,es⟩ []]):=λo=>by rw[ISt.put_apply,if_neg hb3];exact r3
    have r4':∀o o',(((join s (ownF 64 b2 b3 b4 (.fn g fi ca) (.sl ⟨fs,.nil,es⟩ []))).put g' o).put b3 o') b4=some (.box [lh 64 b2 b3 b4]):=λo o'=>by rw[ISt.put_apply,if_neg h34.symm,ISt.put_apply,if_neg hb4];exact e_ mu
    simp only[go_sem,zL,IV.one,List.flatMap_cons,List.flatMap_nil,IV.cells,Nat.mul_one,r3',r4',hkz,dB e3,iNn,lh];refine (hcall _ hF).mono ?_;rintro _ st2 (⟨rfl,s1,hI1,hF1⟩|⟨rfl,s1,hS1,hsub1⟩)
    ·obtain⟨a2,e2,hp2,hd5,hd6,rfl⟩:=hF1;obtain⟨g3,cap3,cs3,rfl,rfl,hc4,hc5,hc6⟩:=hp2.cons;have r6:join (join s1 (emp.put g3 (some (.box cs3)))) (ownF 64 b2 b3 b4 (.fn g fi ca) (.raw (.slice (some ⟨g3,0,none⟩) (p.length+1) cap3))) b3=some (.box [.raw (.slice (some ⟨g3,0,none⟩) (p.length+1) cap3)]):=e_ (iL h34);simp only[go_sem,zE,zL,reduceCtorEq,IV.one,r6,f0,f1,f2,f3,f16,f17,wcut,qh hc4,ite_self,Nat.zero_mul,hc4,dL hlt (show sub.length<=281474976710656 by omega)];refine⟨s1,?_,?_⟩
     ·rw[dM ht,oN,lLa,show (sub.take k).length=k by rw[List.length_take];omega];simp only[eO,List.append_nil,Nat.zero_add];rw[<- Nat.add_assoc];exact hI1
     ·rw[qg h34];exact⟨_,_,.inr ⟨g3,cap3,cs3,rfl,rfl,by omega,hc5,hc6⟩,hd5,λb hb=>hd6 b λh=>hb ((nW _).1 h),rfl⟩
    ·simp only[go_sem];exact c_ (.inr ⟨rfl,s1,hS1,hsub1⟩)
   ·have ho:ownF 64 b2 b3 b4 (.fn g fi ca) (.raw (.slice (some ⟨g',0,none⟩) p.length cap)) g'=none:=by
     cases ho:ownF 64 b2 b3 b4 (.fn g fi ca) (.raw (.slice (some ⟨g',0,none⟩) p.length cap)) g' with
     | none=>rfl
     | some o =>
      have:=hd2 g' (by rw[ho];simp);rw[e_ (b_ ..)] at this;cases this
    have hs1:s g'=none:=hd1 g' (by rw[b_];simp);have r5:join (join s (emp.put g' (some (.box cs)))) (ownF 64 b2 b3 b4 (.fn g fi ca) (.raw (.slice (some ⟨g',0,none⟩) p.length cap))) g'=some (.box cs):=by
     rw[fT ho,e_ (b_ ..)]
    simp only[go_sem,zE,zA,zM,zL,f2,f16,f17,lt_i hlt,r3,hxe,rZ];refine kN _ _ _ r5 (by simp[fits,IV.one]) ⟨by show (_+1)*8<=_;omega,by show _+1<=_;omega⟩ ⟨hc1,by show _*1<=_;omega⟩ (by simp[IV.cells]) ?_;intro g2 cap2 cs2 hg2 k1 k2 k3;rw[Ei hs1 ho];have hgo:s g2=none/\ownF 64 b2 b3 b4 (.fn g fi ca) (.raw (.slice (some ⟨g',0,none⟩) p.length cap)) g2=none:=by
     rcases hg2 with rfl|hg2
     ·exact⟨hs1,ho⟩
     ·cases hq:ownF 64 b2 b3 b4 (.fn g fi ca) (.raw (.slice (some ⟨g',0,none⟩) p.length cap)) g2 with
      | some o=>rw[e_ hq] at hg2;cases hg2
      | none =>
       rw[fT hq] at hg2;refine⟨?_,rfl⟩;cases hz:s g2 with
       | none=>rfl
       | some o=>rw[iF hd1 g2 o hz] at hg2;cases hg2
    have hs2:disj s (ownF 64 b2 b3 b4 (.fn g fi ca) (.raw (.slice (some ⟨g',0,none⟩) p.length cap))):=λb hb=>by
     have:=hd2 b hb;cases hz:s b with
     | none=>rfl
     | some o=>rw[iF hd1 b o hz] at this;cases this
    have hF:=uT (fy:=.fn g fi ca) (p:=p++[k]) (a':=.raw (.slice (some ⟨g2,0,none⟩) (p.length+1) cap2)) (cs:=cs2) h34 hs2 hgo.1 hgo.2 (.inr ⟨g2,cap2,cs2,by simp,rfl,by simpa using k1,by simpa using k2,by
     simp only[Nat.mul_one] at k3;rw[lLa];exact k3.trans (by rw[hc3];simp[plI,IV.cells])⟩)
    have hb3:b3≠g2:=by rintro rfl;have:=hgo.2;rw[iL h34] at this;cases this
    have hb4:b4≠g2:=by rintro rfl;have:=hgo.2;rw[mu] at this;cases this
    have r3':∀o,((join s (ownF 64 b2 b3 b4 (.fn g fi ca) (.raw (.slice (some ⟨g',0,none⟩) p.length cap)))).put g2 o) b3=some (.box [.raw (.slice (some ⟨g',0,none⟩) p.length cap)]):=λo=>by rw[ISt.put_apply,if_neg hb3];exact e_ (iL h34)
    have r4':∀o o',(((join s (ownF 64 b2 b3 b4 (.fn g fi ca) (.raw (.slice (some ⟨g',0,none⟩) p.length cap)))).put g2 o).put b3 o') b4=some (.box [lh 64 b2 b3 b4]):=λo o'=>by rw[ISt.put_apply,if_neg h34.symm,ISt.put_apply,if_neg hb4];exact e_ mu
    simp only[go_sem,zE,zL,reduceCtorEq,IV.one,IV.cells,r3',r4',f0,f2,f3,hkz,dB e3,iNn,fits,lh];refine (hcall _ hF).mono ?_;rintro _ st2 (⟨rfl,s1,hI1,hF1⟩|⟨rfl,s1,hS1,hsub1⟩)
    ·obtain⟨a2,e2,hp2,hd5,hd6,rfl⟩:=hF1;obtain⟨g3,cap3,cs3,rfl,rfl,hc4,hc5,hc6⟩:=hp2.cons;have r6:join (join s1 (emp.put g3 (some (.box cs3)))) (ownF 64 b2 b3 b4 (.fn g fi ca) (.raw (.slice (some ⟨g3,0,none⟩) (p.length+1) cap3))) b3=some (.box [.raw (.slice (some ⟨g3,0,none⟩) (p.length+1) cap3)]):=e_ (iL h34);simp only[go_sem,zE,zL,reduceCtorEq,IV.one,r6,f0,f1,f2,f3,f16,f17,wcut,qh hc4,ite_self,Nat.zero_mul,hc4,dL hlt (show sub.length<=281474976710656 by omega)];refine⟨s1,?_,?_⟩
     ·rw[dM ht,oN,lLa,show (sub.take k).length=k by rw[List.length_take];omega];simp only[eO,List.append_nil,Nat.zero_add];rw[<- Nat.add_assoc];exact hI1
     ·rw[qg h34];exact⟨_,_,.inr ⟨g3,cap3,cs3,rfl,rfl,by omega,hc5,hc6⟩,hd5,λb hb=>hd6 b λh=>hb ((nW _).1 h),rfl⟩
    ·simp only[go_sem];exact c_ (.inr ⟨rfl,s1,hS1,hsub1⟩)
  ·rintro fr st1 _ ⟨⟨s,hI,hF⟩,f0,f1,f2,f3,f16,f17,rfl⟩;rw[lTl] at hI;simp only[go_sem,f16,f17,dS (nLi _)];refine c_ (.inl ⟨rfl,s,?_,hF⟩);rw[show k0+((eO p 0 sub).length+1)=k0+1+(eO p 0 sub).length by omega];exact hI
 ·simp only[go_sem];exact c_ (.inr ⟨rfl,s2,hS,iF hd3⟩)
theorem Ej:∀(k:Nat)(t:Tr),SizeOf.sizeOf t<k->FF gl t
 | 0,t,h=>by omega
 | k+1,.mk r sq f u n sub,h=>M0 gl r sq f u n sub (λa ha=>Ej k a (by
   have:=lSm ha;simp at h;omega))
theorem M1 (t:Tr):FF gl t:=Ej gl _ t (Nat.lt_succ_self _)
theorem M3 (t:Tr)(x:IV)(hx:IsTr t x)(hd:t.height<=1099511627776)(I:Nat->ISt->Prop):IterL prog gl 63 [] [.cptr (.cptr x)] (lkT (t.walk [])) (t.walk []).length I:=by
 rintro y I' S' st ⟨g,fi,ca,rfl,hfn,hent⟩ _ hy h0;have hfrom:=M1 gl t x hx;have hok:FOkL gl .cptr (.fn g fi ca) I' S' 0 (t.walk []):=λi p t x a e stu hi ht hp hdj hI=>by
  rw[Nat.zero_add] at hI ⊢;exact hy i [a,.cptr x] e stu ⟨p,t,a,x,hi,ht,hp,rfl⟩ hdj hI
 have hz':∃c0 c1 c2 c3 c4 c5 c6 c7 c8 c9 c10 c11,x=.agg [c0,c1,c2,c3,c4,c5,c6,c7,c8,c9,c10,c11]:=by
  obtain⟨r',s',m',t',n',b'⟩:=t;obtain⟨tl',xl',tr',xr',op',fn',ta',xa',tb',xb',v',un',tu',xu',ts',xs',rfl,_⟩:=hx.mk;exact⟨_,_,_,_,_,_,_,_,_,_,_,_,rfl⟩
 obtain⟨c0,c1,c2,c3,c4,c5,c6,c7,c8,c9,c10,c11,rfl⟩:=hz';change ICall prog gl _ [.fn g fi ca,_] st _;refine ICall.intro (c:=cf prog gl [2,3,4] []) func63 rfl (by show _<=9;simp) (by kernel_rfl) ?_;simp only[go_sem,zE,zL,fits];intro b2;refine d_ λhb2=>?_;intro b3;refine d_ λhb3=>?_;intro b4;refine d_ λhb4=>?_;have h23:b2≠b3:=by rintro rfl;rw[b_] at hb3;cases hb3
 have h34:b3≠b4:=by rintro rfl;rw[b_] at hb4;cases hb4
 have h24:b2≠b4:=by rintro rfl;rw[ISt.put_apply,if_neg h23,b_] at hb4;cases hb4
 rw[ISt.put_apply,if_neg h23.symm] at hb3;rw[ISt.put_apply,if_neg h34.symm,ISt.put_apply,if_neg h24.symm] at hb4;have hF:nk 64 b2 b3 b4 (.fn g fi ca) [] st ((((st.put b2 (some (.box [.fn g fi ca]))).put b3 (some (.box [.sl ⟨true,.nil,0⟩ []]))).put b4 (some (.box [.raw .nilFunc]))).put b4 (some (.box [lh 64 b2 b3 b4]))):=by
  refine⟨_,emp,.inl ⟨⟨true,.nil,0⟩,rfl,rfl,rfl,rfl⟩,λb hb=>absurd rfl hb,λb hb=>?_,?_⟩
  ·show st b=none;by_cases q4:b=b4
   ·rw[q4];exact hb4
   ·by_cases q3:b=b3
    ·rw[q3];exact hb3
    ·by_cases q2:b=b2
     ·rw[q2];exact hb2
     ·exact absurd (uR q2 q3 q4) hb
  ·funext c;by_cases q4:c=b4
   ·rw[q4,b_,e_ mu]
   ·rw[ISt.put_apply,if_neg q4,ISt.put_apply,if_neg q4];by_cases q3:c=b3
    ·rw[q3,b_,e_ (iL h34)]
    ·rw[ISt.put_apply,if_neg q3];by_cases q2:c=b2
     ·rw[q2,b_,e_ (uQ h23 h24)]
     ·rw[ISt.put_apply,if_neg q2,fT (uR q2 q3 q4)];rfl
 refine (hfrom b2 b3 b4 h23 h24 h34 g fi ca hfn hent I' S' 0 [] hok (by simpa using hd) st _ h0 hF).mono ?_;rintro r stt (⟨rfl,s1,hI1,a,e,_,hd1,hd2,rfl⟩|⟨rfl,s1,hS1,hsub⟩)
 ·simp only[go_sem];rw[Nat.zero_add] at hI1;exact eI ((iF hd1).trans (iF hd2)) (.inl hI1)
 ·simp only[go_sem];exact eI hsub (.inr hS1)
theorem M4 (x:IV)(st:ISt)(t:Tr)(hx:IsTr t x):ICall prog gl 36 [.cptr x] st (λr st'=>r=.fn (.func 63) [] [.cptr (.cptr x)]/\st'=st):=by
 have hz':∃c0 c1 c2 c3 c4 c5 c6 c7 c8 c9 c10 c11,x=.agg [c0,c1,c2,c3,c4,c5,c6,c7,c8,c9,c10,c11]:=by
  obtain⟨r',s',m',t',n',b'⟩:=t;obtain⟨tl',xl',tr',xr',op',fn',ta',xa',tb',xb',v',un',tu',xu',ts',xs',rfl,_⟩:=hx.mk;exact⟨_,_,_,_,_,_,_,_,_,_,_,_,rfl⟩
 obtain⟨c0,c1,c2,c3,c4,c5,c6,c7,c8,c9,c10,c11,rfl⟩:=hz';refine ICall.intro (c:=cf prog gl [] [] [1]) func36 rfl (by show _<=4;simp) (by kernel_rfl) ?_;simp only[go_sem,zE];exact c_ ⟨rfl,rfl⟩
theorem M5 (t:Tag)(ht:t.cap=.nil)(st:ISt):ICall prog gl 32 [.sl t []] st (λr st'=>(∃t',r=.sl t' (plI [])/\okEs t' 1)/\st'=st):=by
 obtain⟨fs,c,es⟩:=t;obtain rfl:c=.nil:=ht;refine iI func32 ?_;have hb:binV prog 36 .eql (.sl ⟨fs,.nil,es⟩ []) (.sl ⟨true,.nil,0⟩ [])=some (.raw (.bool true)):=by
  have:nz prog 36=true:=by kernel_rfl
  simp[binV,kI,this]
 simp only[go_sem,reduceCtorEq,hb];exact c_ ⟨⟨_,rfl,.inl rfl⟩,rfl⟩
theorem M6 (g:Nat)(p:List Nat)(hp:p≠[])(hl:p.length<=1099511627776)(st:ISt):ICall prog gl 32 [.sl ⟨false,.app g,1⟩ (plI p)] st (λr st'=>(∃t',r=.sl t' (plI p)/\okEs t' 1)/\st'=st):=by
 obtain⟨i,p,rfl⟩:∃i q,p=i::q:=by
  cases p with
  | nil=>exact absurd rfl hp
  | cons i q=>exact⟨i,q,rfl⟩
 refine iI func32 ?_;have hb:binV prog 36 .eql (.sl ⟨false,.app g,1⟩ (plI (i::p))) (.sl ⟨true,.nil,0⟩ [])=some (.raw (.bool false)):=by
  have:nz prog 36=true:=by kernel_rfl
  simp[binV,kI,this]
 have hf:(plI (i::p)).all (fits false 1)=true:=by simp[plI,fits,IV.one]
 simp only[List.length_cons] at hl;have he:plI (i::p)=.raw (.int .i64 (i:Int))::plI p:=rfl;have hpl:=iW p;have hf':(plI p).all (fits false 1)=true:=by simp[plI,fits,IV.one]
 rw[he] at hb hf ⊢;simp only[go_sem,zE,zA,zM,zL,reduceCtorEq,fits,hb];exact fO rfl (fO hf' (fO ⟨by omega,by omega⟩ λg'=>d_ λhg=>eI (fb hg) ⟨⟨_,rfl,.inr rfl⟩,rfl⟩))
theorem Ek {R:Rt}{st:ISt}{ds:List Dfd}(esc:List Nat)(dst:Option Nat)(e:TypeId×Bool×Nat×Nat)(fs:Bool)(es:Nat)(xs:List IV):appV esc dst e ⟨fs,.full,es⟩ xs [] R st ds =
 chk (([]:List IV).all (fits e.2.1 e.2.2.1)=true) (chk ((xs.length+0)*e.2.2.2<=140737488355328/\xs.length+0<=140737488355328) (chk (es=e.2.2.1) (R (.val (.sl ⟨fs,.full,es⟩ xs)) st ds))):=rfl
theorem M7 (g:Nat)(st:ISt):ICall prog gl 32 [.sl ⟨false,.app g,1⟩ (plI [])] st (λr st'=>(∃t',r=.sl t' (plI [])/\okEs t' 1)/\st'=st):=by
 have hb:binV prog 36 .eql (.sl ⟨false,.app g,1⟩ (plI [])) (.sl ⟨true,.nil,0⟩ [])=some (.raw (.bool false)):=by
  have:nz prog 36=true:=by kernel_rfl
  simp[binV,kI,this]
 rw[show plI []=[] from rfl] at hb ⊢;refine iI func32 ?_;simp only[go_sem,zE,zA,zM,zL,reduceCtorEq,hb,Ek];exact fO rfl (c_ ⟨⟨_,rfl,.inr rfl⟩,rfl⟩)
theorem El {s e:ISt}(h:disj s e):join s e=join e s:=by
 funext b;cases he:e b with
 | none =>
  rw[fT he];cases hs:s b with
  | none=>rw[fT hs,he]
  | some o=>rw[e_ hs]
 | some o=>rw[e_ he,fT (h b (by rw[he];simp)),he]
theorem uU:∀p:List Nat,ages (plI p)=plI p
 | []=>by simp only[plI,List.map_nil,ages]
 | i::p=>by
  have:=uU p;simp only[plI,List.map_cons,ages,age] at this ⊢;rw[this]
theorem yV:∀p:List Nat,(plI p).flatMap IV.cells=plI p
 | []=>rfl
 | i::p=>by
  have:=yV p;simp only[plI,List.map_cons,List.flatMap_cons,IV.cells,List.singleton_append] at this ⊢;rw[this]
theorem Em (p:List Nat)(a:IV)(e s:ISt)(hp:PlV p a e)(hl:p.length<=1099511627776)(hd:disj s e):ICall prog gl 32 [a] (join s e) (λr st'=>(∃t',r=.sl t' (plI p)/\okEs t' 1)/\st'=s):=by
 have key:ICall prog gl 32 [a] e (λr st'=>(∃t',r=.sl t' (plI p)/\okEs t' 1)/\st'=emp):=by
  rcases hp with⟨t,rfl,ht,rfl,rfl⟩|⟨g,cap,cs,rfl,rfl,h1,h2,h3⟩
  ·exact M5 gl t ht emp
  ·have hnb:j7 (emp.put g (some (.box cs)))=emp:=by
    funext b;by_cases hb:b=g
    ·rw[hb,rz (b_ ..)];rfl
    ·have:(emp.put g (some (.box cs))) b=none:=by rw[ISt.put_apply,if_neg hb];rfl
     rw[tZ (λcs' h=>by rw[this] at h;cases h),this];rfl
   refine rC (args':=[.sl ⟨false,.app g,1⟩ (plI p)]) ⟨_,_,rfl,.inr ⟨.sl ⟨true,.app g,1⟩ (plI p),?_,?_⟩,rfl⟩ ?_
   ·rw[<- iW p];refine .sl g cap ⟨true,.app g,1⟩ (plI p) cs rfl (by rw[iW];omega) (by rw[iW];exact h1) (λx hx=>?_) (b_ ..) (by simpa using h2) λi r c hr hc=>?_
    ·obtain⟨i,_,rfl⟩:=List.mem_map.1 hx;rfl
    ·rw[yV p] at hc;have hi:i<p.length:=by
      have:=(lGs hc).1
      rwa [iW] at this
     have:(cs.take p.length)[i]?=cs[i]?:=by rw[List.getElem?_take,if_pos hi]
     rw[h3,hc,hr] at this;cases this;exact .refl _
   ·simp only[age,uU]
   ·rw[hnb];by_cases hpn:p=[]
    ·subst hpn;exact M7 gl g emp
    ·exact M6 gl g p hpn hl emp
 have h1:=key.frame (own:=s) (λb hb=>by
  cases he:e b with
  | none=>rfl
  | some o=>exact absurd (hd b (by rw[he];simp)) hb)
 rw[El hd];refine h1.mono ?_;rintro r st' ⟨stu,_,rfl,hr,rfl⟩;refine⟨hr,?_⟩;funext b;cases hs:s b with
 | none=>rw[fT hs];rfl
 | some o=>rw[e_ hs]
def qi:Tr->Prop
 | .mk _ s m u _ sub=>fY s/\m.size<=1000000/\u.size<=1000000/\∀a∈sub,fY a.sq
def lZ (t:Tr):Prop:=(∀q∈t.walk [],qi q.2)/\t.height<=1099511627776
theorem M8 (G:Gl gl)(T:Gt gl)(ca:Nat)(t:Tr)(x:IV)(hx:IsTr t x)(hn:qi t)(st:ISt):ICall prog gl 37 [.raw (.int .u8 ca),.cptr x] st (λr st'=>r=.raw (.int .i64 (fF ca t))/\st'=st):=by
 obtain⟨rule,s,m,u,n,sub⟩:=t;exact MZ gl G T ca rule s m u n sub x hx hn.1 hn.2.1 hn.2.2.1 hn.2.2.2 st
theorem ft {t:Tr}{x:IV}(h:IsTr t x):∃(rule:Nat) (tl:Tag) (xl:List IV) (tr:Tag) (xr:List IV) (op:Int) (fn:ByteArray) (ta:Tag) (xa:List IV) (tb:Tag) (xb:List IV) (v:Bool) (un:ByteArray) (tu:Tag) (xu:List IV) (n:ByteArray) (ts:Tag) (xs:List IV),
  x=.agg [.raw (.int .u8 rule),.sl tl xl,.sl tr xr,.raw (.int .u8 op),.raw (.string fn),.sl ta xa,.sl tb xb,.raw (.bool v),.raw (.string un),.sl tu xu,.raw (.string n),.sl ts xs]:=by
 obtain⟨r',s',m',t',n',b'⟩:=t;obtain⟨tl',xl',tr',xr',op',fn',ta',xa',tb',xb',v',un',tu',xu',ts',xs',rfl,_⟩:=h.mk;exact⟨_,_,_,_,_,_,_,_,_,_,_,_,_,_,_,_,_,_,rfl⟩
mutual
theorem uV:∀(p:List Nat)(t:Tr),(t.walk p).length=t.steps
 | p,.mk _ _ _ _ _ sub=>by simp only[Tr.walk,Tr.steps,List.length_cons,En p 0 sub];omega
theorem En:∀(p:List Nat)(i:Nat)(l:List Tr),(eO p i l).length=eE l
 | _,_,[]=>rfl
 | p,i,a::l=>by simp only[eO,eE,lLa,uV (p++[i]) a,En p (i+1) l]
end
mutual
theorem qj:∀(q:List Nat)(t:Tr)(x:List Nat×Tr),x∈t.walk q->x.1.length+1<=q.length+t.height
 | q,.mk _ _ _ _ _ sub,x,h=>by
  simp only[Tr.walk,List.mem_cons] at h;simp only[Tr.height];rcases h with rfl|h
  ·simp only;omega
  ·have:=Eo q 0 sub x h;omega
theorem Eo:∀(q:List Nat)(i:Nat)(l:List Tr)(x:List Nat×Tr),x∈eO q i l->x.1.length<=q.length+lY l
 | _,_,[],x,h=>by simp[eO] at h
 | q,i,a::l,x,h=>by
  simp only[eO,List.mem_append] at h;simp only[lY];rcases h with h|h
  ·have:=qj (q++[i]) a x h;rw[lLa] at this;simp only[List.length_singleton] at this;omega
  ·have:=Eo q (i+1) l x h;omega
end
def CkI (st:ISt)(b2 b4 b5 b6 ca c:Nat)(s:ISt):Prop:=s b2=some (.box [.raw (.int .u8 ca)])/\s b4=some (.box [.sl ⟨true,.nil,0⟩ []])/\s b5=some (.box [.raw (.int .i64 0)])/\s b6=some (.box [.raw (.int .i64 c)])/\subSt st s
def CkS (st:ISt)(b4 b5:Nat)(q:List Nat×Nat)(e:Exit)(s:ISt):Prop:=e=.ret/\(∃tg,s b4=some (.box [.sl tg (plI q.1)])/\okEs tg 1)/\s b5=some (.box [.raw (.int .i64 q.2)])/\subSt st s
theorem yW (G:Gl gl)(T:Gt gl)(ca:Nat)(t:Tr)(x:IV)(hx:IsTr t x)(hfit:lZ t)(st:ISt):ICall prog gl 11 [.raw (.int .u8 ca),x] st (λr st'=>(∃tg,r=.tup [.sl tg (plI (gj ca t).1),.raw (.int .i64 (gj ca t).2)]/\okEs tg 1)/\st'=st):=by
 have hst:=λst=>M4 gl x st t hx;have hit:=λI=>M3 gl t x hx hfit.2 I;have hkn:=λst=>yN gl ca st;obtain⟨rule,tl,xl,tr,xr,op,fn,ta,xa,tb,xb,v,un,tu,xu,n,ts,xs,rfl⟩:=ft hx;refine ICall.intro (c:=cf prog gl [2,4,5,6] [] [3]) func11 rfl (by show _<=31;simp) (by kernel_rfl) ?_;simp only[go_sem,zE,zA,IV.one];intro b2;refine d_ λhb2=>?_;intro b4;refine d_ λhb4=>?_;intro b5;refine d_ λhb5=>?_;have h24:b2≠b4:=by rintro rfl;rw[b_] at hb4;cases hb4
 have h45:b4≠b5:=by rintro rfl;rw[b_] at hb5;cases hb5
 have h25:b2≠b5:=by rintro rfl;rw[ISt.put_apply,if_neg h24,b_] at hb5;cases hb5
 rw[ISt.put_apply,if_neg h24.symm] at hb4;rw[ISt.put_apply,if_neg h45.symm,ISt.put_apply,if_neg h25.symm] at hb5;obtain⟨s1,hs1,f2,f4,f5,hsub⟩:∃s1,s1=((st.put b2 (some (.box [.raw (.int .u8 ca)]))).put b4 (some (.box [.sl ⟨true,.nil,0⟩ []]))).put b5 (some (.box [.raw (.int .i64 0)]))/\s1 b2=some (.box [.raw (.int .u8 ca)])/\s1 b4=some (.box [.sl ⟨true,.nil,0⟩ []])/\s1 b5=some (.box [.raw (.int .i64 0)])/\subSt st s1 :=
  ⟨_,rfl,by simp only[ISt.put_apply,if_neg h24,if_neg h25,if_true],by simp only[ISt.put_apply,if_neg h45,if_true],by simp only[ISt.put_apply,if_true],eG (eG (eG (subSt.refl st) hb2) hb4) hb5⟩
 rw[<- hs1];simp only[go_sem,f2];refine (hkn _).mono ?_;rintro _ s1' ⟨rfl,rfl⟩;have g5:∀(s:ISt) o,(s.put b4 o) b5=s b5:=λs o=>by rw[ISt.put_apply,if_neg h45.symm]
 have g4:∀(s:ISt) o o',((s.put b4 o).put b5 o') b4=o:=λs o o'=>by rw[ISt.put_apply,if_neg h45,b_]
 have hsub':∀(s:ISt) o o',subSt st s->subSt st ((s.put b4 o).put b5 o'):=λs o o' h=>eG (eG h hb4) hb5;cases hk:gR ca
 ·have hq:gj ca t=([],2):=by unfold gj;rw[hk];rfl
  simp only[go_sem,zE,zL,f4,f5,g5,g4,b_];exact eI (hsub' _ _ _ hsub) ⟨⟨_,by rw[hq];rfl,.inl rfl⟩,rfl⟩
 ·simp only[go_sem,zE,zA,zL];intro b6;refine d_ λhb6=>?_;rw[eN];refine (hst _).mono ?_;rintro _ _ ⟨rfl,rfl⟩;have h26:b2≠b6:=by rintro rfl;rw[f2] at hb6;cases hb6
  have h46:b4≠b6:=by rintro rfl;rw[f4] at hb6;cases hb6
  have h56:b5≠b6:=by rintro rfl;rw[f5] at hb6;cases hb6
  have hb6':st b6=none:=by
   cases hq:st b6 with
   | none=>rfl
   | some o=>rw[hsub b6 o hq] at hb6;cases hb6
  have hI0:CkI st b2 b4 b5 b6 ca 0 (s1'.put b6 (some (.box [.raw (.int .i64 0)]))):=⟨by rw[ISt.put_apply,if_neg h26];exact f2,by rw[ISt.put_apply,if_neg h46];exact f4,by rw[ISt.put_apply,if_neg h56];exact f5,b_ ..,eG hsub hb6'⟩
  generalize s1'.put b6 (some (.box [.raw (.int .i64 0)]))=s2 at hI0 ⊢;simp only[go_sem,reduceCtorEq];refine RangeL.intro (lkT (t.walk [])) (t.walk []).length (λk s=>CkI st b2 b4 b5 b6 ca k s/\k<=300) (λe s=>CkS st b4 b5 ([],5) e s/\300<t.steps) rfl ?_ ?_ ?_ (hit _) ?_ ?_
  ·rintro k a e ⟨p,u,a,y,_,_,_,rfl⟩;rfl
  ·exact⟨hI0,by omega⟩
  ·rintro k _ e s ⟨p,z,a,y,hkz,hz,hp,rfl⟩ hd ⟨⟨c2,c4,c5,c6,hss⟩,hk3⟩;have hd':disj s e:=hd;have r6:=iF hd' _ _ c6;have r4:=iF hd' _ _ c4;have r5:=iF hd' _ _ c5;have e6:e b6=none:=ISt.disj.off hd c6;have hw:IntKind.i64.wrap ((k:Int)+1)=((k+1:Nat):Int):=by rw[w64]<;>omega
   have q4:∀o,((join s e).put b6 o) b4=some (.box [.sl ⟨true,.nil,0⟩ []]):=λo=>by rw[dz h46];exact r4
   have q5:∀o o',(((join s e).put b6 o).put b4 o') b5=some (.box [.raw (.int .i64 0)]):=λo o'=>by rw[dz h45.symm,dz h56];exact r5
   by_cases hbig:300<k+1
   ·have hb:decide ((300:Int)<((k+1:Nat):Int))=true:=dEt (by omega);simp only[go_sem,zE,zL,r6,hw,b_,hb,q4,q5];refine⟨⟨rfl,⟨⟨true,.nil,0⟩,?_,.inl rfl⟩,b_ ..,eG (eG (eG (hss.trans (iF hd')) hb6') hb4) hb5⟩,?_⟩
    ·rw[dz h45,b_];rfl
    ·have:=(lGs hkz).1;rw[uV] at this;omega
   ·have hb:decide ((300:Int)<((k+1:Nat):Int))=false:=dEf (by omega);simp only[go_sem,zE,zL,r6,hw,b_,hb];refine⟨s.put b6 (some (.box [.raw (.int .i64 ((k+1:Nat):Int))])),⟨⟨by rw[dz h26];exact c2,by rw[dz h46];exact c4,by rw[dz h56];exact c5,b_ ..,eG hss hb6'⟩,by omega⟩,ISt.disj.put hd e6,lP e6⟩
  ·rintro s r ⟨⟨c2,c4,c5,c6,hss⟩,hk3⟩;rw[uV] at hk3;have hq:gj ca t=fz (fF ca) (t.walk []):=by
    unfold gj;rw[hk];simp only[Bool.not_true,bFt,if_false];rw[if_neg (by omega)]
   simp only[go_sem,zE,zA];refine (hst _).mono ?_;rintro _ _ ⟨rfl,rfl⟩;simp only[go_sem,reduceCtorEq];refine RangeL.intro (lkT (t.walk [])) (t.walk []).length (λk s=>(s b2=some (.box [.raw (.int .u8 ca)])/\s b4=some (.box [.sl ⟨true,.nil,0⟩ []])/\s b5=some (.box [.raw (.int .i64 0)])/\subSt st s)/\fz (fF ca) ((t.walk []).take k)=([],0)) (λe s=>CkS st b4 b5 (gj ca t) e s) rfl ?_ ?_ ?_ (hit _) ?_ ?_
   ·rintro k a e ⟨p,u,a,y,_,_,_,rfl⟩;rfl
   ·exact⟨⟨c2,c4,c5,hss⟩,by simp[fz]⟩
   ·rintro k _ e s ⟨p,z,a,y,hkz,hz,hp,rfl⟩ hd ⟨⟨c2,c4,c5,hss⟩,hf⟩;have hd':disj s e:=hd;have r2:=iF hd' _ _ c2;have hpl:=qj [] t _ (lMg hkz);have hfd:=hfit.2;simp only[List.length_nil] at hpl;have hck:=λst=>M8 gl G T ca z y hz (hfit.1 _ (lMg hkz)) st;have hcl:=Em gl p a e s hp (by omega) hd';have hiv:ivOf (.iv a)=some a:=by rcases hp with⟨t,rfl,_⟩|⟨g,cap,cs,rfl,_⟩<;>rfl
    obtain⟨rule',tl',xl',tr',xr',op',fn',ta',xa',tb',xb',v',un',tu',xu',n',ts',xs',rfl⟩:=ft hz;simp only[go_sem,zE,zA,r2,hiv];refine (hck _).mono ?_;rintro _ _ ⟨rfl,rfl⟩;by_cases h0:fF ca z=0
    ·have d0:decide (((fF ca z:Nat):Int)=0)=true:=dEt (by omega);simp only[go_sem,d0];refine⟨s,⟨⟨c2,c4,c5,hss⟩,?_⟩,hd,rfl⟩;rw[dM hkz,rT,hf];simp[fz,h0]
    ·have d0:decide (((fF ca z:Nat):Int)=0)=false:=dEf (by omega);have hv:gj ca t=(p,fF ca z):=by
      rw[hq]
      conv=>lhs;rw[<- List.take_append_drop k (t.walk [])]
      rw[List.drop_eq_getElem_cons (lGs hkz).1,(lGs hkz).2,rT,hf];simp[fz,h0]
     simp only[go_sem,zE,zA,d0,hiv];refine hcl.mono ?_;rintro _ _ ⟨⟨t',rfl,ht'⟩,rfl⟩;simp only[go_sem,zE,zL,c4,c5,g5];refine⟨rfl,⟨t',?_,ht'⟩,?_,hsub' _ _ _ hss⟩
     ·rw[g4,hv]
     ·rw[b_,hv]
   ·rintro s r ⟨⟨c2,c4,c5,hss⟩,hf⟩;rw[lTl,<- hq] at hf;simp only[go_sem,zE,zL,c4,c5,g5,g4,b_];exact eI (hsub' _ _ _ hss) ⟨⟨_,by rw[hf];rfl,.inl rfl⟩,rfl⟩
   ·rintro e s r ⟨rfl,⟨tg,c4,ht⟩,c5,hss⟩;simp only[go_sem,zE,c4,c5];exact eI hss ⟨⟨_,rfl,ht⟩,rfl⟩
  ·rintro e s r ⟨⟨rfl,⟨tg,c4,ht⟩,c5,hss⟩,hb⟩;have hq:gj ca t=([],5):=by unfold gj;rw[hk,if_pos hb];rfl
   simp only[go_sem,zE,c4,c5];exact eI hss ⟨⟨_,by rw[hq],ht⟩,rfl⟩
def PlA (p:List Nat)(a:IV):Prop:=(∃t,a=.sl t []/\t.cap=.nil/\p=[])\/∃g cap,a=.raw (.slice (some ⟨g,0,none⟩) p.length cap)/\p.length<=cap
theorem PlV.a {p:List Nat}{a:IV}{e:ISt}(h:PlV p a e):PlA p a:=by
 rcases h with⟨t,h1,h2,h3,_⟩|⟨g,cap,cs,h1,_,h2,_⟩
 ·exact .inl ⟨t,h1,h2,h3⟩
 ·exact .inr ⟨g,cap,h1,h2⟩
theorem PlA.cons {p:List Nat}{k:Nat}{a:IV}(h:PlA (p++[k]) a):∃g cap,a=.raw (.slice (some ⟨g,0,none⟩) (p.length+1) cap)/\p.length+1<=cap:=by
 rcases h with⟨_,_,_,h⟩|⟨g,cap,rfl,h⟩
 ·simp at h
 ·rw[lLa] at h ⊢;exact⟨g,cap,rfl,h⟩
def hFF (t:Tr):Prop:=∀(x:IV) (_:IsTr t x) (b2 b3 b4:Nat) (_:b2≠b3) (_:b2≠b4) (_:b3≠b4) (g:Fn) (fi ca:List IV) (_:fnOk g=true) (_:∀i,g=.func i->entI prog i=true) (I:Nat->ISt->Prop) (S:ISt->Prop) (k0:Nat) (p:List Nat)
  (_:FOkL gl (λx=>x) (.fn g fi ca) I S k0 (t.walk p)) (_:p.length+t.height<=1099511627776) (s stt:ISt) (_:I k0 s) (_:nk 58 b2 b3 b4 (.fn g fi ca) p s stt),
  ICall prog gl 58 [x,.raw (.pointer (some ⟨b2,0,none⟩)),.raw (.pointer (some ⟨b3,0,none⟩)),.raw (.pointer (some ⟨b4,0,none⟩))] stt
   (λr st'=>(r=.raw (.bool true)/\∃s1,I (k0+(t.walk p).length) s1/\nk 58 b2 b3 b4 (.fn g fi ca) p s1 st')\/(r=.raw (.bool false)/\∃s1 a',S s1/\PlA p a'/\disj s1 (ownF 58 b2 b3 b4 (.fn g fi ca) a')/\st'=join s1 (ownF 58 b2 b3 b4 (.fn g fi ca) a')))
theorem M9 (rule:Nat)(sq:Sq)(f:Fm)(u:Tm)(n:ByteArray)(sub:List Tr)(IH:∀a∈sub,hFF gl a):hFF gl (.mk rule sq f u n sub):=by
 intro x hx b2 b3 b4 h23 h24 h34 g fi ca hfn hent I S k0 p hy hdeep s stt hI hst;have hx0:=hx;obtain⟨tl,xl,tr,xr,op,fn,ta,xa,tb,xb,v,un,tu,xu,ts,xs,rfl,hru,_,_,_,_,_,_,e3,i3⟩:=hx.mk;obtain⟨a,e,hp,hd1,hd2,rfl⟩:=hst;simp only[Tr.walk] at hy ⊢;have hhead:=hy 0 p _ _ a e s rfl hx0 hp hd1 hI;have hy':=FOkL.tail hy;have r2:join (join s e) (ownF 58 b2 b3 b4 (.fn g fi ca) a) b2=some (.box [.fn g fi ca]):=e_ (uQ h23 h24);have r3:join (join s e) (ownF 58 b2 b3 b4 (.fn g fi ca) a) b3=some (.box [a]):=e_ (iL h34);refine ICall.intro (c:=cf prog gl [25] []) func58 rfl (by show _<=37;simp) (by kernel_rfl) ?_;have hiv:ivOf (.iv a)=some a:=by rcases hp with⟨t,rfl,_⟩|⟨g,cap,cs,rfl,_⟩<;>rfl
 simp only[go_sem,zE,zA,zL,r2,r3,hiv];refine lO hent (hhead.frame hd2 |>.mono ?_);rintro r stt ⟨s2,hd3,rfl,(⟨rfl,s3,hI3,hd4,rfl⟩|⟨rfl,hS⟩)⟩
 ·simp only[go_sem,zE,i3.len];intro hlen;refine dt sub.length (λk fr st' ds=>(∃s,I (k0+1+(eO p 0 (sub.take k)).length) s/\nk 58 b2 b3 b4 (.fn g fi ca) p s st')/\fr 1=.iv (.raw (.pointer (some ⟨b2,0,none⟩)))/\fr 2=.iv (.raw (.pointer (some ⟨b3,0,none⟩)))/\fr 3=.iv (.raw (.pointer (some ⟨b4,0,none⟩)))/\fr 15=.iv (.sl ts xs)/\fr 16=.iv (.raw (.int .i64 sub.length))/\fr 17=.iv (.raw (.int .i64 k))/\ds=[]) ?_ ?_ ?_
  ·simp only[go_sem,zE];exact⟨⟨s3,by simpa[eO] using hI3,a,e,hp,hd4,hd3,rfl⟩,rfl⟩
  ·rintro k fr st1 _ hlt ⟨⟨s,hI,a,e,hp,hd1,hd2,rfl⟩,f1,f2,f3,f15,f16,f17,rfl⟩;obtain⟨t,ht⟩:=dD hlt;obtain⟨z,hkz,hz⟩:=i3.get ht;have r3:join (join s e) (ownF 58 b2 b3 b4 (.fn g fi ca) a) b3=some (.box [a]):=e_ (iL h34);have hth:=yU (lMg ht);simp only[Tr.height] at hdeep;have hsplit:eO p 0 sub=eO p 0 (sub.take k)++(t.walk (p++[k])++eO p (k+1) (sub.drop (k+1))):=by
    conv=>lhs;rw[<- List.take_append_drop k sub,List.drop_eq_getElem_cons hlt]
    rw[oN,(lGs ht).2,show (sub.take k).length=k by rw[List.length_take];omega];simp only[eO,Nat.zero_add]
   have hya:=hy';rw[hsplit] at hya;have hcall:=λstt hF=>IH t (lMg ht) z hz b2 b3 b4 h23 h24 h34 g fi ca hfn hent I S _ (p++[k]) (FOkL.left (FOkL.right hya)) (by rw[lLa];simp only[List.length_singleton];omega) s stt hI hF;have wcut:IntKind.i64.wrap (((p.length+1:Nat):Int)-1)=(p.length:Nat):=by rw[w64 (by omega) (by omega)];omega
   obtain⟨rule',tl',xl',tr',xr',op',fn',ta',xa',tb',xb',v',un',tu',xu',n',ts',xs',rfl⟩:=ft hz;rcases hp with⟨t0,rfl,hta,hp0,rfl⟩|⟨g',cap,cs,rfl,rfl,hc1,hc2,hc3⟩
   ·obtain⟨fs,c,es⟩:=t0;obtain rfl:c=.nil:=hta;have hje:join s emp=s:=rfl;rw[hje] at r3 hd2 ⊢;simp only[go_sem,zE,zB,zA,zM,zL,f2,f3,f15,f16,f17,lt_i hlt,hkz,dB e3,iNn,r3,fits,rZ];intro g' cap;refine d_ λhg=>?_;obtain⟨hg,hcap⟩:=hg;change join s (ownF 58 b2 b3 b4 (.fn g fi ca) (.sl ⟨fs,.nil,es⟩ [])) g'=none at hg;have hd2':disj s (ownF 58 b2 b3 b4 (.fn g fi ca) (.sl ⟨fs,.nil,es⟩ [])):=hd2;have hg2:ownF 58 b2 b3 b4 (.fn g fi ca) (.sl ⟨fs,.nil,es⟩ []) g'=none:=by
     cases ho:ownF 58 b2 b3 b4 (.fn g fi ca) (.sl ⟨fs,.nil,es⟩ []) g' with
     | none=>rfl
     | some o=>rw[e_ ho] at hg;cases hg
    have hg1:s g'=none:=by rw[<- fT (stu:=s) hg2];exact hg
    have hb3:b3≠g':=by rintro rfl;rw[iL h34] at hg2;cases hg2
    have hF:=uT (fy:=.fn g fi ca) (p:=p++[k]) (a':=.raw (.slice (some ⟨g',0,none⟩) 1 cap)) (cs:=.raw (.int .i64 k)::List.replicate (cap-1) .junk) h34 hd2' hg1 hg2 (.inr ⟨g',cap,_,by rw[hp0];rfl,rfl,by simpa[hp0] using hcap,by simp;omega,by simp[plI,hp0]⟩);have hb4:b4≠g':=by rintro rfl;rw[mu] at hg2;cases hg2
    have r3':∀o,((join s (ownF 58 b2 b3 b4 (.fn g fi ca) (.sl ⟨fs,.nil,es⟩ []))).put g' o) b3=some (.box [.sl ⟨fs,.nil,es⟩ []]):=λo=>by rw[ISt.put_apply,if_neg hb3];exact r3
    have r4':∀o o',(((join s (ownF 58 b2 b3 b4 (.fn g fi ca) (.sl ⟨fs,.nil,es⟩ []))).put g' o).put b3 o') b4=some (.box [lh 58 b2 b3 b4]):=λo o'=>by rw[ISt.put_apply,if_neg h34.symm,ISt.put_apply,if_neg hb4];exact e_ mu
    simp only[go_sem,zL,IV.one,List.flatMap_cons,List.flatMap_nil,IV.cells,Nat.mul_one,r3',r4',lh];refine (hcall _ hF).mono ?_;rintro _ st2 (⟨rfl,s1,hI1,hF1⟩|⟨rfl,s1,a2,hS1,hp2,hd6,rfl⟩)
    ·obtain⟨a2,e2,hp2,hd5,hd6,rfl⟩:=hF1;obtain⟨g3,cap3,cs3,rfl,rfl,hc4,hc5,hc6⟩:=hp2.cons;have r6:join (join s1 (emp.put g3 (some (.box cs3)))) (ownF 58 b2 b3 b4 (.fn g fi ca) (.raw (.slice (some ⟨g3,0,none⟩) (p.length+1) cap3))) b3=some (.box [.raw (.slice (some ⟨g3,0,none⟩) (p.length+1) cap3)]):=e_ (iL h34);simp only[go_sem,zE,zL,reduceCtorEq,IV.one,r6,f1,f2,f3,f15,f16,f17,wcut,qh hc4,ite_self,Nat.zero_mul,hc4,dL hlt (show sub.length<=281474976710656 by omega)];refine⟨s1,?_,?_⟩
     ·rw[dM ht,oN,lLa,show (sub.take k).length=k by rw[List.length_take];omega];simp only[eO,List.append_nil,Nat.zero_add];rw[<- Nat.add_assoc];exact hI1
     ·rw[qg h34];exact⟨_,_,.inr ⟨g3,cap3,cs3,rfl,rfl,by omega,hc5,hc6⟩,hd5,λb hb=>hd6 b λh=>hb ((nW _).1 h),rfl⟩
    ·obtain⟨g3,cap3,rfl,hc4⟩:=hp2.cons;have r6:join s1 (ownF 58 b2 b3 b4 (.fn g fi ca) (.raw (.slice (some ⟨g3,0,none⟩) (p.length+1) cap3))) b3=some (.box [.raw (.slice (some ⟨g3,0,none⟩) (p.length+1) cap3)]):=e_ (iL h34);simp only[go_sem,zE,zL,reduceCtorEq,IV.one,r6,wcut,f2,qh hc4,ite_self,Nat.zero_mul,hc4];exact c_ (.inr ⟨rfl,s1,_,hS1,.inr ⟨g3,cap3,rfl,by omega⟩,λb hb=>hd6 b λh=>hb ((nW _).1 h),qg h34⟩)
   ·have ho:ownF 58 b2 b3 b4 (.fn g fi ca) (.raw (.slice (some ⟨g',0,none⟩) p.length cap)) g'=none:=by
     cases ho:ownF 58 b2 b3 b4 (.fn g fi ca) (.raw (.slice (some ⟨g',0,none⟩) p.length cap)) g' with
     | none=>rfl
     | some o =>
      have:=hd2 g' (by rw[ho];simp);rw[e_ (b_ ..)] at this;cases this
    have hs1:s g'=none:=hd1 g' (by rw[b_];simp);have r5:join (join s (emp.put g' (some (.box cs)))) (ownF 58 b2 b3 b4 (.fn g fi ca) (.raw (.slice (some ⟨g',0,none⟩) p.length cap))) g'=some (.box cs):=by
     rw[fT ho,e_ (b_ ..)]
    simp only[go_sem,zE,zB,zA,zM,zL,f2,f15,f16,f17,lt_i hlt,hkz,dB e3,iNn,r3,fits,rZ];refine kN _ _ _ r5 (by simp[fits,IV.one]) ⟨by show (_+1)*8<=_;omega,by show _+1<=_;omega⟩ ⟨hc1,by show _*1<=_;omega⟩ (by simp[IV.cells]) ?_;intro g2 cap2 cs2 hg2 k1 k2 k3;rw[Ei hs1 ho];have hgo:s g2=none/\ownF 58 b2 b3 b4 (.fn g fi ca) (.raw (.slice (some ⟨g',0,none⟩) p.length cap)) g2=none:=by
     rcases hg2 with rfl|hg2
     ·exact⟨hs1,ho⟩
     ·cases hq:ownF 58 b2 b3 b4 (.fn g fi ca) (.raw (.slice (some ⟨g',0,none⟩) p.length cap)) g2 with
      | some o=>rw[e_ hq] at hg2;cases hg2
      | none =>
       rw[fT hq] at hg2;refine⟨?_,rfl⟩;cases hz:s g2 with
       | none=>rfl
       | some o=>rw[iF hd1 g2 o hz] at hg2;cases hg2
    have hs2:disj s (ownF 58 b2 b3 b4 (.fn g fi ca) (.raw (.slice (some ⟨g',0,none⟩) p.length cap))):=λb hb=>by
     have:=hd2 b hb;cases hz:s b with
     | none=>rfl
     | some o=>rw[iF hd1 b o hz] at this;cases this
    have hF:=uT (fy:=.fn g fi ca) (p:=p++[k]) (a':=.raw (.slice (some ⟨g2,0,none⟩) (p.length+1) cap2)) (cs:=cs2) h34 hs2 hgo.1 hgo.2 (.inr ⟨g2,cap2,cs2,by simp,rfl,by simpa using k1,by simpa using k2,by
     simp only[Nat.mul_one] at k3;rw[lLa];exact k3.trans (by rw[hc3];simp[plI,IV.cells])⟩)
    have hb3:b3≠g2:=by rintro rfl;have:=hgo.2;rw[iL h34] at this;cases this
    have hb4:b4≠g2:=by rintro rfl;have:=hgo.2;rw[mu] at this;cases this
    have r3':∀o,((join s (ownF 58 b2 b3 b4 (.fn g fi ca) (.raw (.slice (some ⟨g',0,none⟩) p.length cap)))).put g2 o) b3=some (.box [.raw (.slice (some ⟨g',0,none⟩) p.length cap)]):=λo=>by rw[ISt.put_apply,if_neg hb3];exact e_ (iL h34)
    have r4':∀o o',(((join s (ownF 58 b2 b3 b4 (.fn g fi ca) (.raw (.slice (some ⟨g',0,none⟩) p.length cap)))).put g2 o).put b3 o') b4=some (.box [lh 58 b2 b3 b4]):=λo o'=>by rw[ISt.put_apply,if_neg h34.symm,ISt.put_apply,if_neg hb4];exact e_ mu
    simp only[go_sem,zE,zA,zL,IV.one,IV.cells,r3',r4',f2,f3,lh];refine (hcall _ hF).mono ?_;rintro _ st2 (⟨rfl,s1,hI1,hF1⟩|⟨rfl,s1,a2,hS1,hp2,hd6,rfl⟩)
    ·obtain⟨a2,e2,hp2,hd5,hd6,rfl⟩:=hF1;obtain⟨g3,cap3,cs3,rfl,rfl,hc4,hc5,hc6⟩:=hp2.cons;have r6:join (join s1 (emp.put g3 (some (.box cs3)))) (ownF 58 b2 b3 b4 (.fn g fi ca) (.raw (.slice (some ⟨g3,0,none⟩) (p.length+1) cap3))) b3=some (.box [.raw (.slice (some ⟨g3,0,none⟩) (p.length+1) cap3)]):=e_ (iL h34);simp only[go_sem,zE,zL,reduceCtorEq,IV.one,r6,f1,f2,f3,f15,f16,f17,wcut,qh hc4,ite_self,Nat.zero_mul,hc4,dL hlt (show sub.length<=281474976710656 by omega)];refine⟨s1,?_,?_⟩
     ·rw[dM ht,oN,lLa,show (sub.take k).length=k by rw[List.length_take];omega];simp only[eO,List.append_nil,Nat.zero_add];rw[<- Nat.add_assoc];exact hI1
     ·rw[qg h34];exact⟨_,_,.inr ⟨g3,cap3,cs3,rfl,rfl,by omega,hc5,hc6⟩,hd5,λb hb=>hd6 b λh=>hb ((nW _).1 h),rfl⟩
    ·obtain⟨g3,cap3,rfl,hc4⟩:=hp2.cons;have r6:join s1 (ownF 58 b2 b3 b4 (.fn g fi ca) (.raw (.slice (some ⟨g3,0,none⟩) (p.length+1) cap3))) b3=some (.box [.raw (.slice (some ⟨g3,0,none⟩) (p.length+1) cap3)]):=e_ (iL h34);simp only[go_sem,zE,zL,reduceCtorEq,IV.one,r6,wcut,f2,qh hc4,ite_self,Nat.zero_mul,hc4];exact c_ (.inr ⟨rfl,s1,_,hS1,.inr ⟨g3,cap3,rfl,by omega⟩,λb hb=>hd6 b λh=>hb ((nW _).1 h),qg h34⟩)
  ·rintro fr st1 _ ⟨⟨s,hI,hF⟩,f1,f2,f3,f15,f16,f17,rfl⟩;rw[lTl] at hI;simp only[go_sem,f16,f17,dS (nLi _)];refine c_ (.inl ⟨rfl,s,?_,hF⟩);rw[show k0+((eO p 0 sub).length+1)=k0+1+(eO p 0 sub).length by omega];exact hI
 ·simp only[go_sem];exact c_ (.inr ⟨rfl,s2,a,hS,hp.a,hd3,rfl⟩)
theorem Ep:∀(k:Nat)(t:Tr),SizeOf.sizeOf t<k->hFF gl t
 | 0,t,h=>by omega
 | k+1,.mk r sq f u n sub,h=>M9 gl r sq f u n sub (λa ha=>Ep k a (by
   have:=lSm ha;simp at h;omega))
theorem M_ (t:Tr):hFF gl t:=Ep gl _ t (Nat.lt_succ_self _)
theorem Er (t:Tr)(x:IV)(hx:IsTr t x)(hd:t.height<=1099511627776)(I:Nat->ISt->Prop):IterL prog gl 57 [] [.cptr x] (lkW (λx=>x) (t.walk [])) (t.walk []).length I:=by
 rintro y I' S' st ⟨g,fi,ca,rfl,hfn,hent⟩ _ hy h0;have hfrom:=M_ gl t x hx;have hok:FOkL gl (λx=>x) (.fn g fi ca) I' S' 0 (t.walk []):=λi p t x a e stu hi ht hp hdj hI=>by
  rw[Nat.zero_add] at hI ⊢;exact hy i [a,x] e stu ⟨p,t,a,x,hi,ht,hp,rfl⟩ hdj hI
 obtain⟨rule',tl',xl',tr',xr',op',fn',ta',xa',tb',xb',v',un',tu',xu',n',ts',xs',rfl⟩:=ft hx;change ICall prog gl _ [.fn g fi ca,_] st _;refine ICall.intro (c:=cf prog gl [2,3,4] []) func57 rfl (by show _<=9;simp) (by kernel_rfl) ?_;simp only[go_sem,zE,zA,zL,fits];intro b2;refine d_ λhb2=>?_;intro b3;refine d_ λhb3=>?_;intro b4;refine d_ λhb4=>?_;have h23:b2≠b3:=by rintro rfl;rw[b_] at hb3;cases hb3
 have h34:b3≠b4:=by rintro rfl;rw[b_] at hb4;cases hb4
 have h24:b2≠b4:=by rintro rfl;rw[ISt.put_apply,if_neg h23,b_] at hb4;cases hb4
 rw[ISt.put_apply,if_neg h23.symm] at hb3;rw[ISt.put_apply,if_neg h34.symm,ISt.put_apply,if_neg h24.symm] at hb4;have hF:nk 58 b2 b3 b4 (.fn g fi ca) [] st ((((st.put b2 (some (.box [.fn g fi ca]))).put b3 (some (.box [.sl ⟨true,.nil,0⟩ []]))).put b4 (some (.box [.raw .nilFunc]))).put b4 (some (.box [lh 58 b2 b3 b4]))):=by
  refine⟨_,emp,.inl ⟨⟨true,.nil,0⟩,rfl,rfl,rfl,rfl⟩,λb hb=>absurd rfl hb,λb hb=>?_,?_⟩
  ·show st b=none;by_cases q4:b=b4
   ·rw[q4];exact hb4
   ·by_cases q3:b=b3
    ·rw[q3];exact hb3
    ·by_cases q2:b=b2
     ·rw[q2];exact hb2
     ·exact absurd (uR q2 q3 q4) hb
  ·funext c;by_cases q4:c=b4
   ·rw[q4,b_,e_ mu]
   ·rw[ISt.put_apply,if_neg q4,ISt.put_apply,if_neg q4];by_cases q3:c=b3
    ·rw[q3,b_,e_ (iL h34)]
    ·rw[ISt.put_apply,if_neg q3];by_cases q2:c=b2
     ·rw[q2,b_,e_ (uQ h23 h24)]
     ·rw[ISt.put_apply,if_neg q2,fT (uR q2 q3 q4)];rfl
 refine (hfrom b2 b3 b4 h23 h24 h34 g fi ca hfn hent I' S' 0 [] hok (by simpa using hd) st _ h0 hF).mono ?_;rintro r stt (⟨rfl,s1,hI1,a,e,_,hd1,hd2,rfl⟩|⟨rfl,s1,a',hS1,_,hd,rfl⟩)
 ·simp only[go_sem];rw[Nat.zero_add] at hI1;exact eI ((iF hd1).trans (iF hd2)) (.inl hI1)
 ·simp only[go_sem];exact eI (iF hd) (.inr hS1)
theorem Es (x:IV)(st:ISt)(t:Tr)(hx:IsTr t x):ICall prog gl 30 [x] st (λr st'=>r=.fn (.func 57) [] [.cptr x]/\st'=st):=by
 obtain⟨rule',tl',xl',tr',xr',op',fn',ta',xa',tb',xb',v',un',tu',xu',n',ts',xs',rfl⟩:=ft hx;refine ICall.intro (c:=cf prog gl [] [] [1]) func30 rfl (by show _<=4;simp) (by kernel_rfl) ?_;simp only[go_sem,zE];exact c_ ⟨rfl,rfl⟩
def okN (t:Tag):Prop:=okEs t 1/\(t.cap=.nil\/t.fresh=true)
theorem Na (t:Tag)(ht:t.cap=.nil)(st:ISt):ICall prog gl 32 [.sl t []] st (λr st'=>(∃t',r=.sl t' (plI [])/\okN t')/\st'=st):=by
 obtain⟨fs,c,es⟩:=t;obtain rfl:c=.nil:=ht;refine iI func32 ?_;have hb:binV prog 36 .eql (.sl ⟨fs,.nil,es⟩ []) (.sl ⟨true,.nil,0⟩ [])=some (.raw (.bool true)):=by
  have:nz prog 36=true:=by kernel_rfl
  simp[binV,kI,this]
 simp only[go_sem,reduceCtorEq,hb];exact c_ ⟨⟨_,rfl,.inl rfl,.inl rfl⟩,rfl⟩
theorem Nb (g:Nat)(p:List Nat)(hp:p≠[])(hl:p.length<=1099511627776)(st:ISt):ICall prog gl 32 [.sl ⟨false,.app g,1⟩ (plI p)] st (λr st'=>(∃t',r=.sl t' (plI p)/\okN t')/\st'=st):=by
 obtain⟨i,p,rfl⟩:∃i q,p=i::q:=by
  cases p with
  | nil=>exact absurd rfl hp
  | cons i q=>exact⟨i,q,rfl⟩
 refine iI func32 ?_;have hb:binV prog 36 .eql (.sl ⟨false,.app g,1⟩ (plI (i::p))) (.sl ⟨true,.nil,0⟩ [])=some (.raw (.bool false)):=by
  have:nz prog 36=true:=by kernel_rfl
  simp[binV,kI,this]
 have hf:(plI (i::p)).all (fits false 1)=true:=by simp[plI,fits,IV.one]
 simp only[List.length_cons] at hl;have he:plI (i::p)=.raw (.int .i64 (i:Int))::plI p:=rfl;have hpl:=iW p;have hf':(plI p).all (fits false 1)=true:=by simp[plI,fits,IV.one]
 rw[he] at hb hf ⊢;simp only[go_sem,zE,zA,zM,zL,reduceCtorEq,fits,hb];exact fO rfl (fO hf' (fO ⟨by omega,by omega⟩ λg'=>d_ λhg=>eI (fb hg) ⟨⟨_,rfl,.inr rfl,.inr rfl⟩,rfl⟩))
theorem Nc (g:Nat)(st:ISt):ICall prog gl 32 [.sl ⟨false,.app g,1⟩ (plI [])] st (λr st'=>(∃t',r=.sl t' (plI [])/\okN t')/\st'=st):=by
 have hb:binV prog 36 .eql (.sl ⟨false,.app g,1⟩ (plI [])) (.sl ⟨true,.nil,0⟩ [])=some (.raw (.bool false)):=by
  have:nz prog 36=true:=by kernel_rfl
  simp[binV,kI,this]
 rw[show plI []=[] from rfl] at hb ⊢;refine iI func32 ?_;simp only[go_sem,zE,zA,zM,zL,reduceCtorEq,hb,Ek];exact fO rfl (c_ ⟨⟨_,rfl,.inr rfl,.inr rfl⟩,rfl⟩)
theorem one_sl (a:Option Addr)(n c:Nat):IV.one (.raw (.slice a n c))=true:=rfl
end Go.Proofs.Tryz
namespace Go.Proofs
open Go.Shelf
namespace Tryz
open Go Go.Iv
end Tryz
def Tryz.sortFL_ren:Go.Shelf.Ren:=⟨λ| 6=>165|15=>197|14=>196|28=>232|29=>233|20=>224|21=>225|22=>226|23=>227|24=>228|25=>229|26=>230|27=>231|46=>258|47=>259|48=>260|49=>261|50=>262|57=>277|n=>n,λ| 22=>22|24=>27|25=>174|3=>3|39=>242|0=>0|53=>298|55=>300|4=>4|46=>292|45=>291|50=>200|5=>5|9=>9|66=>318|70=>54|76=>333|77=>266|n=>n,λ| n=>n⟩
theorem nX:Go.Proofs.SlLaysF0.n6 Tryz.prog Tryz.sortFL_ren:={
 mixed:=by kernel_rfl
 f6:=⟨Tryz.f165.name,by decide,Tryz.func165.trans (congrArg some (by kernel_rfl))⟩
 f14:=⟨Tryz.f196.name,by decide,Tryz.func196.trans (congrArg some (by kernel_rfl))⟩
 f15:=Tryz.func197.trans (congrArg some (by kernel_rfl))
 f20:=⟨Tryz.f224.name,by decide,Tryz.func224.trans (congrArg some (by kernel_rfl))⟩
 f21:=⟨Tryz.f225.name,by decide,Tryz.func225.trans (congrArg some (by kernel_rfl))⟩
 f22:=⟨Tryz.f226.name,by decide,Tryz.func226.trans (congrArg some (by kernel_rfl))⟩
 f23:=⟨Tryz.f227.name,by decide,Tryz.func227.trans (congrArg some (by kernel_rfl))⟩
 f24:=⟨Tryz.f228.name,by decide,Tryz.func228.trans (congrArg some (by kernel_rfl))⟩
 f25:=⟨Tryz.f229.name,by decide,Tryz.func229.trans (congrArg some (by kernel_rfl))⟩
 f26:=⟨Tryz.f230.name,by decide,Tryz.func230.trans (congrArg some (by kernel_rfl))⟩
 f27:=⟨Tryz.f231.name,by decide,Tryz.func231.trans (congrArg some (by kernel_rfl))⟩
 f28:=Tryz.func232.trans (congrArg some (by kernel_rfl))
 f29:=Tryz.func233.trans (congrArg some (by kernel_rfl))
 f46:=⟨Tryz.f258.name,by decide,Tryz.func258.trans (congrArg some (by kernel_rfl))⟩
 f47:=Tryz.func259.trans (congrArg some (by kernel_rfl))
 f48:=Tryz.func260.trans (congrArg some (by kernel_rfl))
 f49:=⟨Tryz.f261.name,by decide,Tryz.func261.trans (congrArg some (by kernel_rfl))⟩
 f50:=⟨Tryz.f262.name,by decide,Tryz.func262.trans (congrArg some (by kernel_rfl))⟩
 f57:=⟨Tryz.f277.name,by decide,Tryz.func277.trans (congrArg some (by kernel_rfl))⟩
 t0:=Tryz.underlying0
 a0:=Tryz.isAgg0
 z0:=Tryz.sizeOf0
 v0:=Tryz.zeroValue0
 t3:=Tryz.underlying3
 a3:=Tryz.isAgg3
 z3:=Tryz.sizeOf3
 v3:=Tryz.zeroValue3
 t4:=Tryz.underlying4
 a4:=Tryz.isAgg4
 z4:=Tryz.sizeOf4
 v4:=Tryz.zeroValue4
 t5:=Tryz.underlying5
 a5:=Tryz.isAgg5
 z5:=Tryz.sizeOf5
 v5:=Tryz.zeroValue5
 t9:=Tryz.underlying9
 a9:=Tryz.isAgg9
 z9:=Tryz.sizeOf9
 v9:=Tryz.zeroValue9
 t22:=Tryz.underlying22
 a22:=Tryz.isAgg22
 z22:=Tryz.sizeOf22
 v22:=Tryz.zeroValue22
 t25:=Tryz.underlying174
 a25:=Tryz.isAgg174
 z25:=Tryz.sizeOf174
 v25:=Tryz.zeroValue174
 t39:=Tryz.underlying242
 a39:=Tryz.isAgg242
 z39:=Tryz.sizeOf242
 v39:=Tryz.zeroValue242
 t45:=Tryz.underlying291
 a45:=Tryz.isAgg291
 z45:=Tryz.sizeOf291
 v45:=Tryz.zeroValue291
 t46:=Tryz.underlying292
 a46:=Tryz.isAgg292
 z46:=Tryz.sizeOf292
 v46:=Tryz.zeroValue292
 t50:=Tryz.underlying200
 a50:=Tryz.isAgg200
 z50:=Tryz.sizeOf200
 v50:=Tryz.zeroValue200
 t53:=Tryz.underlying298
 a53:=Tryz.isAgg298
 z53:=Tryz.sizeOf298
 v53:=Tryz.zeroValue298
 t55:=Tryz.underlying300
 a55:=Tryz.isAgg300
 z55:=Tryz.sizeOf300
 v55:=Tryz.zeroValue300
 t66:=Tryz.underlying318
 a66:=Tryz.isAgg318
 z66:=Tryz.sizeOf318
 v66:=Tryz.zeroValue318
 t70:=Tryz.underlying54
 a70:=Tryz.isAgg54
 z70:=Tryz.sizeOf54
 v70:=Tryz.zeroValue54
 t76:=Tryz.underlying333
 a76:=Tryz.isAgg333
 z76:=Tryz.sizeOf333
 v76:=Tryz.zeroValue333
 t77:=Tryz.underlying266
 a77:=Tryz.isAgg266
 z77:=Tryz.sizeOf266
 v77:=Tryz.zeroValue266 }
namespace Tryz
open Go Go.Iv
theorem Et:tyI Tryz.prog (Tryz.sortFL_ren.t 24)=some (true,4):=by kernel_rfl
theorem Nd (w:World):(isAgg (Tryz.sortFL_ren.t 24)).run Tryz.prog w=.ok true w:=(j0 Et w).1
theorem Nf (w:World):(Go.sizeOf (Tryz.sortFL_ren.t 24)).run Tryz.prog w=.ok 4 w:=(j0 Et w).2
end Tryz
end Go.Proofs
namespace Go.Proofs.Tryz
set_option maxRecDepth 4000
open Go Go.Iv Go.Sort Go.Shelf Go.RowKit
variable (gl:Nat->Option IV)
section
variable {α:Type} [Inhabited α]{enc:α->List Value}{k:Nat}
theorem Eu (hk:∀x,(enc x).length=k)(h0:0<k):∀(l:List α) (t:Nat),t<l.length*k->(l.flatMap enc)[t]?=some ((enc l[t / k]!)[t%k]!)
 | [],t,h=>by simp at h
 | a::l,t,h=>by
  rw[List.flatMap_cons];by_cases ht:t<k
  ·rw[List.getElem?_append_left (by rw[hk];exact ht),Nat.div_eq_of_lt ht,Nat.mod_eq_of_lt ht];rw[List.getElem?_eq_getElem (by rw[hk];exact ht)];simp only[List.getElem!_cons_zero];rw[getElem!_pos _ t (by rw[hk];exact ht)]
  ·obtain⟨s,rfl⟩:∃s,t=s+k:=⟨t-k,by omega⟩
   rw[List.getElem?_append_right (by rw[hk];omega),hk,Nat.add_sub_cancel,Eu hk h0 l s (by rw[List.length_cons,Nat.succ_mul] at h;omega),Nat.add_div_right _ h0,Nat.add_mod_right];simp
theorem Ev (hk:∀x,(enc x).length=k):∀l:List α,(l.flatMap enc).length=l.length*k
 | []=>by simp
 | a::l=>by rw[List.flatMap_cons,lLa,hk,Ev hk l,List.length_cons,Nat.succ_mul,Nat.add_comm]
theorem Ew (hk:∀x,(enc x).length=k)(h0:0<k)(d:Array α):(flatK enc k d).toList=d.toList.flatMap enc:=by
 have hl:(d.toList.flatMap enc).length=d.size*k:=by rw[Ev hk,Array.length_toList]
 apply List.ext_getElem?;intro t;by_cases ht:t<d.size*k
 ·rw[Eu hk h0 d.toList t (by simpa using ht)];have h1:=get_flatK enc k d t ht;rw[getElem!_pos _ t (by rw[size_flatK];exact ht)] at h1;rw[Array.getElem?_toList,Array.getElem?_eq_getElem (by rw[size_flatK];exact ht),h1];congr 3;rw[Array.getElem!_toList]
 ·rw[List.getElem?_eq_none (show (flatK enc k d).toList.length<=t by rw[Array.length_toList,size_flatK];omega),List.getElem?_eq_none (show (d.toList.flatMap enc).length<=t by rw[hl];omega)]
end
section
variable {α:Type} [Inhabited α]{enc:α->List Value}{k:Nat}{w:World}{b m:Nat}{dk:Array α}{os:Array Obj}
theorem Ey {c:Array Value}{T:TypeId}{f:Nat×Nat}(hh:w.heap[b]?=some (.cells c T f)):(sortWorldK enc k w b 0 m dk os).heap[b]?=some (.cells (putCells id 0 (flatK enc k dk) c) T f):=by
 have hb:=(Array.getElem?_eq_some_iff.1 hh).1;unfold sortWorldK;rw[heap_grow_old _ _ (by show b<(putRowK enc k _ b 0 dk).heap.size;simpa[putRowK] using hb)];show (w.heap.modify b (onCells (putCells id 0 (flatK enc k dk))))[b]?=_;rw[Array.getElem?_modify,if_pos rfl,hh];rfl
theorem oO {j:Nat}(hj:j≠b)(hlt:j<w.heap.size):(sortWorldK enc k w b 0 m dk os).heap[j]?=w.heap[j]?:=by
 unfold sortWorldK;rw[heap_grow_old _ _ (by show j<(putRowK enc k _ b 0 dk).heap.size;simpa[putRowK] using hlt)];show (w.heap.modify b (onCells (putCells id 0 (flatK enc k dk))))[j]?=_;rw[Array.getElem?_modify,if_neg (λh=>hj h.symm)]
theorem Ng {F c:Array Value}(h:F.size<=c.size):(putCells id 0 F c).toList=F.toList++c.toList.drop F.size:=by
 apply List.ext_getElem?;intro i;unfold putCells;rw[Array.getElem?_toList,Array.getElem?_mapIdx];by_cases hi:i<F.size
 ·rw[List.getElem?_append_left (by simpa using hi),Array.getElem?_toList,Array.getElem?_eq_getElem (show i<c.size by omega),Array.getElem?_eq_getElem hi];simp only[Option.map_some,id,Nat.zero_add,Nat.zero_le,true_and,if_pos hi,Nat.sub_zero];rw[getElem!_pos F i hi]
 ·rw[List.getElem?_append_right (by simpa using hi),List.getElem?_drop,Array.length_toList,Array.getElem?_toList];rw[show F.size+(i-F.size)=i by omega];cases hc:c[i]? with
  | none=>rfl
  | some v=>simp only[Option.map_some,Nat.zero_add,Nat.zero_le,true_and,if_neg hi]
end
theorem Nh {X X':WS}(he:Ext X X')(hst:∀b,X.st b=none)(hd:X.w.drawn<=X'.w.drawn):∃q os,X'.w=grow (X.w.drewN q) os:=by
 refine⟨X'.w.drawn-X.w.drawn,X'.w.heap.extract X.w.heap.size X'.w.heap.size,?_⟩;have h1:X'.w.heap=X.w.heap++X'.w.heap.extract X.w.heap.size X'.w.heap.size:=by
  apply Array.ext_getElem?;intro i;by_cases hi:i<X.w.heap.size
  ·rw[Array.getElem?_append_left hi];exact (he.keep i hi (hst i)).1
  ·rw[Array.getElem?_append_right (by omega),Array.getElem?_extract];have:=he.size;split
   ·congr 1;omega
   ·rw[Array.getElem?_eq_none (by omega)]
 have h2:=he.os;have h3:=he.tape;have h4:=he.output;generalize X'.w=w' at *;generalize X.w=w at *;obtain⟨hp,tp,dr,os,out⟩:=w';obtain⟨hp1,tp1,dr1,os1,out1⟩:=w;simp only at h1 h2 h3 h4 hd;subst h2 h3 h4;simp only[grow,World.drewN,World.mk.injEq,and_true,true_and];exact⟨h1,by omega⟩
theorem Ni (g:FuncId)(hent:∀args w,(callFunc g args).run prog w=.ok (.enter g args) w)(xs rest:List IV)(b cap:Nat)(st:ISt)(hne:xs≠[])(hlen:xs.length<=140737488355328)(hx:∀x∈xs,fits true 4 x=true)(hb:st b=some (.box (xs.flatMap IV.cells++rest)))(cf:IV->IV->Int)
  (h1:∀x∈xs,¬ cf x x<0) (h2:∀x∈xs,∀y∈xs,∀z∈xs,cf x y<0->cf y z<0->cf x z<0) (h3:∀x∈xs,∀y∈xs,∀z∈xs,¬ cf x y<0->¬ cf y z<0->¬ cf x z<0)
  (hcmp:∀x∈xs,∀y∈xs,ICall prog (λ_=>none) g [x,y] (λ_=>none) (λr _=>r=.raw (.int .i64 (cf x y)))) :
  ICall prog gl 165 [.raw (.slice (some ⟨b,0,none⟩) xs.length cap),.fn (.func g) [] []] st
   (λr st'=>r=.tup []/\∃ys:List IV,ys.Perm xs/\ys.Pairwise (λx y=>¬ cf y x<0)/\st'=st.put b (some (.box (ys.flatMap IV.cells++rest)))):=by
 intro B X rs hg hst hv;subst hst;obtain⟨r0,r1,rfl⟩:∃r0 r1,rs=[r0,r1]:=by
  match rs,hv with
  | [a,b],_=>exact⟨a,b,rfl⟩
  | [],hv=>cases hv.1
  | [_],hv=>cases hv.1
  | _::_::_::_,hv=>cases hv.1
 obtain rfl:=dK (hv.2 0 r0 _ rfl rfl);obtain⟨f1,f2,rfl,hf1,hf2⟩:=jk (hv.2 1 r1 _ rfl rfl);obtain rfl:f1=[]:=List.eq_nil_of_length_eq_zero hf1.1;obtain rfl:f2=[]:=List.eq_nil_of_length_eq_zero hf2.1;obtain⟨hL,c,T,hh,hvl⟩:=hg.ok b _ hb;have hblk:b<X.w.heap.size:=hg.lt hb;have hcells:∀x∈xs,x.cells.length=4:=λx hxm=>(lJ (hx x hxm)).2.1;have hcl:c.size=xs.length*4+rest.length:=by
  have:=hvl.1;rw[lLa,gS xs hcells,Array.length_toList] at this;exact this
 -- the elements
 let α:={ p:IV×List Value // p.1∈xs/\VL B X.L X.w p.2 p.1.cells }
 have hel:∀(l:List IV) (vs:List Value),(∀x∈l,x∈xs)->VL B X.L X.w vs (l.flatMap IV.cells)->∃d:List α,d.map (λa=>a.1.1)=l/\d.flatMap (λa=>a.1.2)=vs:=by
  intro l
  induction l with
  | nil =>
   intro vs _ hvs;exact⟨[],rfl,(List.eq_nil_of_length_eq_zero hvs.1).symm⟩
  | cons x l ih =>
   intro vs hm hvs;have hx4:=hcells x (hm x (by simp));have hlv:vs.length=4+(l.flatMap IV.cells).length:=by rw[hvs.1,List.flatMap_cons,lLa,hx4]
   have ha:VL B X.L X.w (vs.take 4) x.cells:=by
    have:=hvs.take 4
    rwa [List.flatMap_cons,List.take_left' hx4] at this
   have hbv:VL B X.L X.w (vs.drop 4) (l.flatMap IV.cells):=by
    have:=hvs.drop 4
    rwa [List.flatMap_cons,List.drop_left' hx4] at this
   obtain⟨d,hd1,hd2⟩:=ih (vs.drop 4) (λy hy=>hm y (by simp[hy])) hbv;exact⟨⟨(x,vs.take 4),hm x (by simp),ha⟩::d,by simp[hd1],by simp[hd2]⟩
 obtain⟨d,hd1,hd2⟩:=hel xs (c.toList.take (xs.length*4)) (λ_ h=>h) (by
  have:=hvl.take (xs.length*4)
  rwa [List.take_left' (gS xs hcells)] at this)
 have hdl:d.length=xs.length:=by rw[<- hd1,List.length_map]
 have hdn:d≠[]:=by rintro rfl;exact hne (List.eq_nil_of_length_eq_zero hdl.symm)
 letI:Inhabited α:=⟨d.head hdn⟩
 let enc:α->List Value:=λa=>a.1.2
 have hk:∀a:α,(enc a).length=4:=λa=>by rw[a.2.2.1];exact hcells _ a.2.1
 have hone:∀(a:α),∀v∈enc a,v.oneCell'=true:=λa v hv=>pw (C:=⟨prog,gl,B⟩) a.2.2 (lJ (hx _ a.2.1)).2.2.1 v hv
 let cf':α->α->Int:=λa a'=>cf a.1.1 a'.1.1
 have hO:SWO (ltOf cf'):=⟨λa=>by simp only[ltOf,decide_eq_false_iff_not];exact h1 _ a.2.1,λa a' a'' p q=>by
   simp only[ltOf,dTe] at p q ⊢;exact h2 _ a.2.1 _ a'.2.1 _ a''.2.1 p q,λa a' a'' p q=>by
   simp only[ltOf,decide_eq_false_iff_not] at p q ⊢;exact h3 _ a.2.1 _ a'.2.1 _ a''.2.1 p q⟩
 have hfl:(flatK enc 4 d.toArray).toList=c.toList.take (xs.length*4):=by
  rw[Ew hk (by decide)];exact hd2
 have hH:HoldsK enc 4 X.w b 0 d.toArray:=by
  intro j hj;have hj':j<xs.length*4:=by rw[size_flatK] at hj;simpa[hdl] using hj
  have e1:(flatK enc 4 d.toArray)[j]?=c[j]?:=by
   rw[<- Array.getElem?_toList,hfl,List.getElem?_take,if_pos hj',Array.getElem?_toList]
  have hjc:j<c.size:=by omega
  rw[Array.getElem?_eq_getElem hj,Array.getElem?_eq_getElem hjc] at e1;refine⟨?_,?_⟩
  ·rw[Nat.zero_add,jx hh,Array.getElem?_toList,Array.getElem?_eq_getElem hjc,<- e1,id,getElem!_pos _ j hj]
  ·simp only[World.frozen?,hh];simp
 have hmono:∀(n:Nat) (dk:Array α) (os:Array Obj) (X1:WS),X1.w=sortWorldK enc 4 X.w b 0 n dk os->X1.L=X.L->∀r x,V B X.L X.w r x->V B X1.L X1.w r x:=by
  intro n dk os X1 hw hXL r x hrx;refine V.mono hrx (λj=>by rw[hXL];exact Nat.le_refl _) (λj i hi=>?_) (λj p hp=>?_)
  ·have hjb:j≠b:=by rintro rfl;rw[hL] at hi;omega
   have hjl:j<X.w.heap.size:=by
    rcases Nat.lt_or_ge j X.w.heap.size with h|h
    ·exact h
    ·rw[hg.Lnew j h] at hi;omega
   exact ow (by rw[hw];exact oO hjb hjl) i
  ·by_cases hjb:j=b
   ·subst hjb;simp only[shq,hh] at hp;simp only[shq,hw,Ey hh];rw[<- hp];simp[putCells]
   ·rw[<- hp];exact ny (by rw[hw];exact oO hjb (qS hp))
 have hcon:=AnyQ.slices_SortFunc nX 4 Nd Nf enc hk hone cf' hO g #[] b 0 cap d.toArray X.w hent (by
   intro n os dk hdk a a'
   let X1:WS:={ w:=sortWorldK enc 4 X.w b 0 n dk os,L:=X.L,st:=λ_=>none,d:=X.w.drawn+n }
   have hsz:=size_sortWorldK_c enc 4 X.w b 0 n dk os;have hg1:Go.Iv.Good ⟨prog,λ_=>none,B⟩ X1:=⟨λ_ _ h=>(by cases h),λ_ _ h=>(by cases h),Nat.le_trans hg.B hsz,λj hj=>hg.Lnew j (Nat.le_trans hsz hj),λ_ _ h=>(by cases h),λ_=>Nat.le_refl _⟩
   have hm1:=hmono n dk os X1 rfl rfl;have agg:∀a:α,V B X1.L X1.w (.agg (enc a).toArray) a.1.1:=λa=>by
    obtain⟨⟨x,vs⟩,hxm,hvx⟩:=a;obtain⟨cs,rfl⟩:∃cs,x=.agg cs:=by
     have:=hx x hxm;cases x<;>first|exact⟨_,rfl⟩|(simp[fits] at this)
    exact (show VL B X1.L X1.w vs cs from⟨hvx.1,λi r c hr hc=>hm1 r c (hvx.2 i r c hr hc)⟩).agg
   refine (hcmp a.1.1 a.2.1 a'.1.1 a'.2.1 B X1 [.agg (enc a).toArray,.agg (enc a').toArray] hg1 rfl (VL.cons (agg a) (VL.cons (agg a') VL.nil))).mono ?_;rintro e w' ⟨v,rfl,X',x,rfl,hg',he',hv',rfl⟩;obtain rfl:=dK hv';refine⟨rfl,?_⟩;have hd:=hg'.dr (λ_=>rfl);rw[he'.d] at hd;exact Nh he' (λ_=>rfl) hd) hH hblk (by simp[hdl];omega)
 have harr:(⟨[.slice (some ⟨b,0,none⟩) xs.length cap,.func (.func g) ⟨[]⟩ ⟨[]⟩]⟩:Array Value)=#[.slice (some ⟨b,0,none⟩) d.toArray.size cap,.func (.func g) #[] #[]]:=by simp[hdl]
 rw[harr];refine hcon.mono ?_;rintro e w' ⟨rfl,d',n,os,hp,hs,rfl⟩;have hd'l:d'.size=xs.length:=by rw[hp.1];simp[hdl]
 have hperm:d'.toList.Perm d:=by
  have:=hp.2.2;rw[List.size_toArray,hdl,<- hd'l,Array.extract_size] at this
  rwa [hd'l,<- hdl,show d.toArray.extract 0 d.length=d.toArray by simp] at this
 have hys:∀y∈d'.toList.map (λa=>a.1.1),y∈xs:=λy hy=>by
  obtain⟨a,_,rfl⟩:=List.mem_map.1 hy;exact a.2.1
 have hblock:=Ey (enc:=enc) (k:=4) (m:=n) (dk:=d') (os:=os) hh;have hfs:(flatK enc 4 d').size=xs.length*4:=by rw[size_flatK,hd'l]
 have hpl:(putCells id 0 (flatK enc 4 d') c).toList=d'.toList.flatMap enc++c.toList.drop (xs.length*4):=by
  rw[Ng (by omega),Ew hk (by decide),hfs]
 let X':WS:={ w:=sortWorldK enc 4 X.w b 0 n d' os,L:=X.L,st:=X.st.put b (some (.box ((d'.toList.map (λa=>a.1.1)).flatMap IV.cells++rest))),d:=X.d }
 have hm:=hmono n d' os X' rfl rfl;have hsz:=size_sortWorldK_c enc 4 X.w b 0 n d' os;have hvlm:∀rs cs,VL B X.L X.w rs cs->VL B X'.L X'.w rs cs:=λrs cs h=>⟨h.1,λi r x hr hx=>hm r x (h.2 i r x hr hx)⟩
 have hgood:Go.Iv.Good ⟨prog,gl,B⟩ X':=by
  refine⟨λj o ho=>?_,λj x hj=>hm _ _ (hg.gl j x hj),Nat.le_trans hg.B hsz,λj hj=>hg.Lnew j (Nat.le_trans hsz hj),λj x hj=>?_,λhd=>Nat.le_trans (hg.dr hd) (Nat.le_add_right _ _)⟩
  ·by_cases hjb:j=b
   ·subst hjb;simp only[X',b_,Option.some.injEq] at ho;subst ho;refine⟨hL,_,T,hblock,hvlm _ _ ?_⟩;rw[hpl];refine VL.append ?_ ?_
    ·have key:∀l:List α,VL B X.L X.w (l.flatMap enc) ((l.map λa=>a.1.1).flatMap IV.cells):=λl=>by
      induction l with
      | nil=>exact VL.nil
      | cons a l ih=>simp only[List.flatMap_cons,List.map_cons];exact a.2.2.append ih
     exact key _
    ·have:=hvl.drop (xs.length*4)
     rwa [List.drop_left' (gS xs hcells)] at this
   ·have ho':X.st j=some o:=by simpa only[X',ISt.put_apply,if_neg hjb] using ho
    exact (hg.ok j o ho').mono (oO hjb (hg.lt ho')) rfl hvlm
  ·obtain⟨T',z,hT⟩:=hg.gsh j x hj;refine⟨T',z,?_⟩;by_cases hjb:j=b
   ·subst hjb;simp only[shq,hh] at hT;simp only[shq,X',hblock];rw[<- hT];simp[putCells]
   ·rw[<- hT];exact ny (oO hjb (qS hT))
 refine⟨_,rfl,X',.tup [],rfl,hgood,⟨rfl,rfl,rfl,hsz,λ_=>Nat.le_refl _,λj i hi=>?_,λj hj hs0=>?_,λj hj hs0=>?_,λj p hp=>?_,rfl⟩,.tup [] [] rfl (λi r c h=>by simp at h),rfl,_,?_,?_,rfl⟩
 ·have hjb:j≠b:=by rintro rfl;rw[hL] at hi;omega
  have hjl:j<X.w.heap.size:=by
   rcases Nat.lt_or_ge j X.w.heap.size with h|h
   ·exact h
   ·rw[hg.Lnew j h] at hi;omega
  exact ow (oO hjb hjl) i
 ·have hjb:j≠b:=by rintro rfl;rw[hb] at hs0;cases hs0
  exact⟨oO hjb hj,rfl⟩
 ·have hjb:j≠b:=by rintro rfl;rw[hb] at hs0;cases hs0
  simp only[X',ISt.put_apply,if_neg hjb];exact hs0
 ·by_cases hjb:j=b
  ·subst hjb;simp only[shq,hh] at hp;simp only[shq,X',hblock];rw[<- hp];simp[putCells]
  ·rw[<- hp];exact ny (oO hjb (qS hp))
 ·have:=hperm.map (λa:α=>a.1.1)
  rwa [hd1] at this
 ·rw[List.pairwise_map];refine List.pairwise_iff_getElem.2 λi j hi hj hij=>?_;have:=hs i j (Nat.zero_le _) hij (by simp at hj ⊢;omega);simp only[ltOf,decide_eq_false_iff_not] at this;rw[Array.length_toList] at hi hj;rw[getElem!_pos d' i hi,getElem!_pos d' j hj] at this;exact this
end Go.Proofs.Tryz
namespace Go.Proofs.Tryz
open Go Go.Iv
def cmpN (a b:Nat):Int:=if a<b then -1 else if b<a then 1 else 0
noncomputable def cmpB (a b:ByteArray):Int:=if Op.bytesLess a.data.toList b.data.toList=true then -1 else if Op.bytesLess b.data.toList a.data.toList=true then 1 else 0
def lexI (x y:Int):Int:=if x=0 then y else x
mutual
noncomputable def iM:Tm->Tm->Int
 | .mk v n us,.mk v' n' us'=>if v=v' then lexI (cmpB n n') (lexI (cmpN us.length us'.length) (iX us us')) else if v=true then -1 else 1
noncomputable def iX:List Tm->List Tm->Int
 | a::l,b::m=>lexI (iM a b) (iX l m)
 | _,_=>0
end
mutual
noncomputable def eK:Fm->Fm->Int
 | .mk o n us sub,.mk o' n' us' sub'=>lexI (cmpN o o') (lexI (cmpB n n') (lexI (lexI (cmpN us.length us'.length) (iX us us')) (lexI (cmpN sub.length sub'.length) (l7 sub sub'))))
noncomputable def l7:List Fm->List Fm->Int
 | a::l,b::m=>lexI (eK a b) (l7 l m)
 | _,_=>0
end
structure Cp {α:Type}(f:α->α->Int)(a:α):Prop where
 eq:∀b,f a b=0↔a=b
 neg:∀b,f b a = - f a b
 tr:∀b c,f a b<0->f b c<0->f a c<0
theorem qk {x y:Int}:lexI x y=0↔x=0/\y=0:=by
 unfold lexI;split
 ·rename_i h;simp[h]
 ·rename_i h;simp[h]
theorem ql (x y:Int):lexI (-x) (-y) = - lexI x y:=by
 unfold lexI;grind
theorem uW {x y:Int}:lexI x y<0↔x<0\/x=0/\y<0:=by
 unfold lexI;split
 ·rename_i h;simp[h]
 ·rename_i h;simp[h]
theorem r_ {p q r p' q' r':Int}(h1:p<0->q<0->r<0)(h2:p=0->q=r)(h3:q=0->p=r)(h4:p'<0->q'<0->r'<0)(h:lexI p p'<0)(k:lexI q q'<0):lexI r r'<0:=by
 rw[uW] at *;grind
theorem sc (a:Nat):Cp cmpN a:=by
 refine⟨λb=>?_,λb=>?_,λb c=>?_⟩<;>unfold cmpN<;>repeat' split
 all_goals grind
open Classical in
theorem qm {a b:ByteArray}:cmpB a b=if ltN a b then -1 else if ltN b a then 1 else 0:=by
 unfold cmpB;congr 1
 ·exact propext Dn
 ·congr 1;exact propext Dn
open Classical in
theorem mw (a:ByteArray):Cp cmpB a:=by
 refine⟨λb=>?_,λb=>?_,λb c=>?_⟩
 ·rw[qm];by_cases h1:ltN a b
  ·rw[if_pos h1];exact⟨λh=>by omega,λh=>absurd h1 (by rw[h];exact Lu b)⟩
  ·rw[if_neg h1];by_cases h2:ltN b a
   ·grind
   ·rw[if_neg h2];exact⟨λ_=>Classical.byContradiction λhne=>h2 (Lx h1 hne),λ_=>rfl⟩
 ·rw[qm,qm];by_cases h1:ltN a b
  ·rw[if_pos h1,if_neg (Lv h1),if_pos h1];rfl
  ·grind
 ·rw[qm,qm,qm];have key:∀x y:ByteArray,(if ltN x y then (-1:Int) else if ltN y x then 1 else 0)<0↔ltN x y:=λx y=>by
   grind
  rw[key,key,key];exact Lw
section
variable {α:Type}{f:α->α->Int}{g:List α->List α->Int}(g0:g [] []=0)(g1:∀a b l m,g (a::l) (b::m)=lexI (f a b) (g l m))
include g0 g1
theorem yX:∀(l:List α),(∀a∈l,∀b,f a b=0↔a=b)->∀m,l.length=m.length->(g l m=0↔l=m)
 | [],_,m,hm=>by
  grind
 | a::l,hc,b::m,hm=>by
  rw[g1,qk,hc a (by simp),yX l (λb hb=>hc b (by simp[hb])) m (by simpa using hm),List.cons.injEq]
theorem Ez:∀(l:List α),(∀a∈l,∀b,f b a = - f a b)->∀m,l.length=m.length->g m l = - g l m
 | [],_,m,hm=>by
  grind
 | a::l,hc,b::m,hm=>by
  rw[g1,g1,hc a (by simp),Ez l (λb hb=>hc b (by simp[hb])) m (by simpa using hm),ql]
theorem EA (he:∀a b,f a b=0↔a=b):∀(l:List α),(∀a∈l,∀b c,f a b<0->f b c<0->f a c<0)->∀m n,l.length=m.length->m.length=n.length->g l m<0->g m n<0->g l n<0
 | [],_,m,n,hm,hn,h,_=>by
  grind
 | a::l,hc,b::m,c::n,hm,hn,h,k=>by
  rw[g1] at h k ⊢;exact r_ (hc a (by simp) b c) (λe=>by rw[(he a b).1 e]) (λe=>by rw[(he b c).1 e]) (EA he l (λb hb=>hc b (by simp[hb])) m n (by simpa using hm) (by simpa using hn)) h k
end
def lenL {α:Type}(g:List α->List α->Int)(l m:List α):Int:=lexI (cmpN l.length m.length) (g l m)
theorem yX8 {a b:Nat}:cmpN a b=0↔a=b:=(sc a).eq b
section
variable {α:Type}{f:α->α->Int}{g:List α->List α->Int}(g0:g [] []=0)(g1:∀a b l m,g (a::l) (b::m)=lexI (f a b) (g l m))
include g0 g1
theorem sd {l:List α}(h:∀a∈l,∀b,f a b=0↔a=b)(m:List α):lenL g l m=0↔l=m:=by
 unfold lenL;rw[qk,yX8];constructor
 ·rintro⟨h1,h2⟩;exact (yX g0 g1 l h m h1).1 h2
 ·rintro rfl;exact⟨rfl,(yX g0 g1 l h l rfl).2 rfl⟩
theorem yY {l:List α}(h:∀a∈l,∀b,f b a = - f a b)(m:List α):lenL g m l = - lenL g l m:=by
 unfold lenL;rw[(sc l.length).neg];by_cases hl:l.length=m.length
 ·rw[Ez g0 g1 l h m hl,ql]
 ·have:¬ cmpN l.length m.length=0:=λh=>hl (yX8.1 h);unfold lexI;grind
theorem yZ (he:∀a b,f a b=0↔a=b){l:List α}(h:∀a∈l,∀b c,f a b<0->f b c<0->f a c<0)(m n:List α)(h1:lenL g l m<0)(h2:lenL g m n<0):lenL g l n<0:=by
 unfold lenL at *;rw[uW] at h1 h2;by_cases hl:l.length=m.length/\m.length=n.length
 ·obtain⟨hl,hm⟩:=hl;have e1:¬ cmpN l.length m.length<0:=by rw[yX8.2 hl];omega
  have e2:¬ cmpN m.length n.length<0:=by rw[yX8.2 hm];omega
  have e3:cmpN l.length n.length=0:=yX8.2 (hl.trans hm);rw[uW];exact .inr ⟨e3,EA g0 g1 he l h m n hl hm (h1.resolve_left e1).2 (h2.resolve_left e2).2⟩
 ·rw[uW];left;rcases h1 with h1|⟨h1,_⟩
  ·rcases h2 with h2|⟨h2,_⟩
   ·exact (sc _).tr _ _ h1 h2
   ·rw[<- yX8.1 h2];exact h1
  ·rcases h2 with h2|⟨h2,_⟩
   ·rw[yX8.1 h1];exact h2
   ·exact absurd ⟨yX8.1 h1,yX8.1 h2⟩ hl
end
theorem lj:iX [] []=0:=by simp only[iX]
theorem ll (a b:Tm)(l m:List Tm):iX (a::l) (b::m)=lexI (iM a b) (iX l m):=by simp only[iX]
theorem oP:l7 [] []=0:=by simp only[l7]
theorem oQ (a b:Fm)(l m:List Fm):l7 (a::l) (b::m)=lexI (eK a b) (l7 l m):=by simp only[l7]
theorem qn (v v':Bool)(n n':ByteArray)(us us':List Tm):iM (.mk v n us) (.mk v' n' us')=if v=v' then lexI (cmpB n n') (lenL iX us us') else if v=true then -1 else 1:=by simp only[iM,lenL]
theorem qo (o o':Nat)(n n':ByteArray)(us us':List Tm)(sub sub':List Fm):eK (.mk o n us sub) (.mk o' n' us' sub')=lexI (cmpN o o') (lexI (cmpB n n') (lexI (lenL iX us us') (lenL l7 sub sub'))):=by simp only[eK,lenL]
theorem y7 {p:Tm->Prop}(h:∀v n us,(∀a∈us,p a)->p (.mk v n us))(t:Tm):p t:=by
 have key:∀(k:Nat) (t:Tm),SizeOf.sizeOf t<k->p t:=λk=>by
  induction k with
  | zero=>intro t ht;omega
  | succ k ih =>
   rintro⟨v,n,us⟩ ht;refine h v n us λa ha=>ih a ?_;have:=lSm ha;grind
 exact key _ t (Nat.lt_succ_self _)
theorem uX {p:Fm->Prop}(h:∀o n us sub,(∀a∈sub,p a)->p (.mk o n us sub))(t:Fm):p t:=by
 have key:∀(k:Nat) (t:Fm),SizeOf.sizeOf t<k->p t:=λk=>by
  induction k with
  | zero=>intro t ht;omega
  | succ k ih =>
   rintro⟨o,n,us,sub⟩ ht;refine h o n us sub λa ha=>ih a ?_;have:=lSm ha;grind
 exact key _ t (Nat.lt_succ_self _)
theorem se (a b:Tm):iM a b=0↔a=b:=by
 revert b;refine y7 (p:=λa=>∀b,iM a b=0↔a=b) (λv n us ih b=>?_) a;obtain⟨v',n',us'⟩:=b;rw[qn,Tm.mk.injEq];by_cases hv:v=v'
 ·rw[if_pos hv,qk,(mw n).eq,sd lj ll ih];simp[hv]
 ·grind
theorem Nj (a b:Tm):iM b a = - iM a b:=by
 revert b;refine y7 (p:=λa=>∀b,iM b a = - iM a b) (λv n us ih b=>?_) a;obtain⟨v',n',us'⟩:=b;rw[qn,qn];by_cases hv:v=v'
 ·rw[if_pos hv,if_pos hv.symm,(mw n).neg,yY lj ll ih,ql]
 ·grind
theorem Nk (a b c:Tm):iM a b<0->iM b c<0->iM a c<0:=by
 revert b c;refine y7 (p:=λa=>∀b c,iM a b<0->iM b c<0->iM a c<0) (λv n us ih b c=>?_) a;obtain⟨v',n',us'⟩:=b;obtain⟨v'',n'',us''⟩:=c;rw[qn,qn,qn];have hl:=λ(h:lexI (cmpB n n') (lenL iX us us')<0) (k:lexI (cmpB n' n'') (lenL iX us' us'')<0) =>
  r_ (r:=cmpB n n'') (r':=lenL iX us us'') ((mw n).tr n' n'') (λe=>by rw[((mw n).eq n').1 e]) (λe=>by rw[((mw n').eq n'').1 e]) (yZ lj ll se ih us' us'') h k
 grind
theorem kc (a b:Fm):eK a b=0↔a=b:=by
 revert b;refine uX (p:=λa=>∀b,eK a b=0↔a=b) (λo n us sub ih b=>?_) a;obtain⟨o',n',us',sub'⟩:=b;rw[qo,Fm.mk.injEq,qk,qk,qk,yX8,(mw n).eq,sd lj ll (λa _=>se a),sd oP oQ ih]
theorem qp (a b:Fm):eK b a = - eK a b:=by
 revert b;refine uX (p:=λa=>∀b,eK b a = - eK a b) (λo n us sub ih b=>?_) a;obtain⟨o',n',us',sub'⟩:=b;rw[qo,qo,(sc o).neg,(mw n).neg,yY lj ll (λa _=>Nj a),yY oP oQ ih,ql,ql,ql]
theorem oR (a b c:Fm):eK a b<0->eK b c<0->eK a c<0:=by
 revert b c;refine uX (p:=λa=>∀b c,eK a b<0->eK b c<0->eK a c<0) (λo n us sub ih b c=>?_) a;obtain⟨o',n',us',sub'⟩:=b;obtain⟨o'',n'',us'',sub''⟩:=c;rw[qo,qo,qo];refine r_ ((sc o).tr o' o'') (λe=>by rw[yX8.1 e]) (λe=>by rw[yX8.1 e]) ?_;refine r_ ((mw n).tr n' n'') (λe=>by rw[((mw n).eq n').1 e]) (λe=>by rw[((mw n').eq n'').1 e]) ?_;exact r_ (yZ lj ll se (λa _=>Nk a) us' us'') (λe=>by rw[(sd lj ll (λa _=>se a) us').1 e]) (λe=>by rw[(sd lj ll (λa _=>se a) us'').1 e])
  (yZ oP oQ kc ih sub' sub'')
def SetF (l r:List Fm):Prop:=r.Pairwise (λa b=>eK a b<0)/\∀f,f∈r↔f∈l
theorem qq (a:Fm):¬ eK a a<0:=by rw[(kc a a).2 rfl];omega
theorem SetF.uniq:∀ {r r':List Fm},r.Pairwise (λa b=>eK a b<0)->r'.Pairwise (λa b=>eK a b<0)->(∀x,x∈r↔x∈r')->r=r'
 | [],r',_,_,h=>by
  cases r' with
  | nil=>rfl
  | cons b r'=>exact absurd ((h b).2 (List.mem_cons_self ..)) (by simp)
 | a::r,[],_,_,h=>absurd ((h a).1 (List.mem_cons_self ..)) (by simp)
 | a::r,b::r',h1,h2,h=>by
  have p1:=List.pairwise_cons.1 h1;have p2:=List.pairwise_cons.1 h2;have hab:a=b:=by
   refine Classical.byContradiction λhne=>?_;have ha:a∈r':=by
    grind
   have hb:b∈r:=by
    grind
   have h3:=p1.1 b hb;have h4:=p2.1 a ha;rw[qp] at h4;omega
  subst hab;congr 1;refine SetF.uniq p1.2 p2.2 λx=>?_;constructor
  ·intro hx;rcases List.mem_cons.1 ((h x).1 (List.mem_cons_of_mem _ hx)) with e|e
   ·subst e;exact absurd (p1.1 _ hx) (qq _)
   ·exact e
  ·intro hx;rcases List.mem_cons.1 ((h x).2 (List.mem_cons_of_mem _ hx)) with e|e
   ·subst e;exact absurd (p2.1 _ hx) (qq _)
   ·exact e
theorem SetF.one {l r r':List Fm}(h:SetF l r)(h':SetF l r'):r=r':=SetF.uniq h.1 h'.1 λx=>(h.2 x).trans (h'.2 x).symm
