/- Walks: Normal. -/
import Derived.Test.YtakbihknkdpmgaaGreatDoorJZ
set_option linter.all false
open Nat renaming reduceEqDiff → zE,reduceBEq → zB,reduceAdd → zA,reduceMul → zM,reduceLeDiff → zL
namespace Go.Proofs.Tryz
open Go Go.Iv
set_option maxRecDepth 4000
variable (gl:Nat->Option IV)
def Dj (G:Gt gl):∀(k:Nat) (t:Fm),SizeOf.sizeOf t<k->NM gl t
 | 0,f,h=>by omega
 | k+1,.mk o n us sub,h=>LA gl G o n us sub (λa A=>Dj G k a (by
   have:=lSm A;simp at h;omega))
def LB (G:Gt gl)(t:Fm):NM gl t:=Dj gl G _ t (ew _)
def _root_.Go.Iv.IsFm.agg {f:Fm}{x:IV}(h:IsFm f x):∃(op:Nat) (n:ByteArray) (t:Tag) (A:List IV) (D:Tag) (ys:List IV),x=.agg [.raw (.int .u8 op),n,.sl t A,.sl D ys]:=by
 obtain⟨op,n,us,sub⟩:=f;obtain⟨t,A,D,ys,rfl,_⟩:=h.mk;exact⟨_,_,_,_,_,_,rfl⟩
def _root_.Go.Iv.IsTm.agg {t:Tm}{x:IV}(h:IsTm t x):∃(v:Bool) (n:ByteArray) (D:Tag) (A:List IV),x=.agg [v,n,.sl D A]:=by
 obtain⟨v,n,us⟩:=t;obtain⟨D,A,rfl,_⟩:=h.mk;exact⟨_,_,_,_,rfl⟩
def _root_.Go.Iv.IsFmD.agg {f:Fm}{x:IV}(h:IsFmD f x):∃(op:Nat) (n:ByteArray) (t:Tag) (A:List IV) (D:Tag) (ys:List IV),x=.agg [.raw (.int .u8 op),n,.sl t A,.sl D ys]:=h.1.agg
def _root_.Go.Iv.IsTmD.agg {t:Tm}{x:IV}(h:IsTmD t x):∃(v:Bool) (n:ByteArray) (D:Tag) (A:List IV),x=.agg [v,n,.sl D A]:=h.1.agg
def fm0:Fm:=.mk 0 ⟨#[]⟩ [] []
def FE (g:Fm)(e:Nat)(st:ISt)(r:IV)(st':ISt):Prop:=∃y,r=.tup [y,e]/\IsFm g y/\st'=st
def FED (g:Fm)(e:Nat)(st:ISt)(r:IV)(st':ISt):Prop:=∃y,r=.tup [y,e]/\IsFmD g y/\st'=st
def FED.w {g:Fm}{e:Nat}{st:ISt}(r:IV)(st':ISt):FED g e st r st'->FE g e st r st':=λ⟨y,h1,h2,A⟩=>⟨y,h1,h2.1,A⟩
noncomputable def lN (f:Fm):Fm×Nat:=if f.right then (lM f,0) else (fm0,2)
def LC (G:Gl gl)(T:Gt gl)(f:Fm)(x:IV)(O:IsFm f x)(hs:f.size<=1000000)(st:ISt) :
  ICall prog gl 211 [x] st (FED (lN f).1 (lN f).2 st):=by
 have h1:=λst=>rv gl G f x O st hs;have A:=λst=>tX gl f x O st;have D:=λst=>tY gl 229 [.cptr x] (oC f) st (by simp only[go_sem]) (λI=>t_ gl f x O (by omega) I);rw[uh] at D;have af:=um f;have J:=λm E st hm=>LB gl T f x O (frF f) m _ [] ⟨true,.nil,0⟩ (.inl ⟨rfl,rfl⟩) (by simp;omega) E st hm (iC (frF f));have hN:f.right=true->lN f=(mh (frF f) [] f,0):=λh=>by simp[lN,h,lM]
 have hE:f.right=false->lN f=(fm0,2):=λh=>by simp[lN,h]
 cases hr:f.right
 ·rw[hr] at h1;rw[hE hr];obtain⟨o,n,us,sub⟩:=f;obtain⟨t1,x1,t2,x2,rfl,_⟩:=O.mk;refine iI func211 ?_;simp only[go_sem,zE,zA,zL];refine (h1 _).q ?_;simp only[go_sem,zE,zA,zL];refine c_ ⟨_,rfl,?_,rfl⟩;exact IsFmD.of ⟨_,[],_,[],rfl,by omega,.inl rfl,rfl,.inl rfl,rfl⟩ (.inl rfl) trivial (.inl rfl) trivial
 ·rw[hr] at h1;rw[hN hr];have E:=(mQ hr).1;obtain⟨o,n,us,sub⟩:=f;obtain⟨t1,x1,t2,x2,rfl,_⟩:=O.mk;refine iI func211 ?_;simp only[go_sem,zE,zA,zL];refine (h1 _).q ?_;simp only[go_sem,zE,zA,zL];refine (A _).q ?_;simp only[go_sem,zA];refine (D _).mono ?_;rintro _ _ ⟨m,hm,rfl,rfl⟩;simp only[go_sem,zE,zA];refine (J m E _ (b_ _ _ _)).mono ?_;rintro r _ ⟨U,rfl⟩;obtain⟨o5,n5,t5,x5,t6,x6,rfl⟩:=U.agg;simp only[go_sem,zE,zA,zL];exact ez (ff hm) ⟨_,rfl,U,rfl⟩
end Go.Proofs.Tryz
namespace Go.Iv
open Go
def own (st:ISt)(A:Tag)(n s:Nat)(S0:ISt):Prop:=(n=0/\A.cap=.nil)\/A=⟨true,.full,s⟩\/∃g,A=⟨true,.app g,s⟩/\st g=some (.front n s)/\S0 g=none
def own.es {st:ISt}{A:Tag}{n s:Nat}{S0:ISt}(h:own st A n s S0):okEs A s:=by
 rcases h with⟨_,h⟩|rfl|⟨g,rfl,_⟩
 ·exact .inl h
 ·exact .inr rfl
 ·exact .inr rfl
def own.nil (st S0:ISt)(f:Bool)(e s:Nat):own st ⟨f,.nil,e⟩ 0 s S0:=.inl ⟨rfl,rfl⟩
def own.full (st S0:ISt)(n s:Nat):own st ⟨true,.full,s⟩ n s S0:=.inr (.inl rfl)
def eA {st s:ISt}{b:Nat}{o:Option IObj}(h:subSt st s)(A:st b=none):subSt st (s.put b o):=λc x hc=>by
 rw[ISt.put_apply];split
 ·grind
 ·exact h c x hc
def j3 {st s:ISt}{b:Nat}(h:subSt st s)(A:s b=none):st b=none:=by
 cases D:st b with
 | none=>rfl
 | some o=>rw[h b o D] at A;cases A
def own.mono {st st':ISt}{A:Tag}{n s:Nat}{S0:ISt}(h:own st A n s S0)(E:∀g,st g=some (.front n s)->S0 g=none->st' g=some (.front n s)):own st' A n s S0:=by
 rcases h with h|h|⟨g,h1,h2,D⟩
 ·exact .inl h
 ·exact .inr (.inl h)
 ·exact .inr (.inr ⟨g,h1,E g h2 D,D⟩)
def keepF (s:Nat)(st st':ISt):Prop:=∀b o,st b=some o->(∀n,o≠.front n s)->st' b=some o
def keepF.own {s s' n:Nat}{st st' S0:ISt}{D:Tag}(h:keepF s st st')(E:own st D n s' S0)(hs:s'≠s):own st' D n s' S0 :=
 E.mono λg G _=>h g _ G λn A=>by injection A with _ A;exact hs A
def jN {esc:List Nat}{dst:Option Nat}{e:TypeId×Bool×Nat×Nat}{tg:Tag}{zs:List IV}{y:IV}{R:Rt}{st S0:ISt}{ds:List Dfd}{n s:Nat}(h:own st tg n s S0)(O:zs.length=n)(A:subSt S0 st)(he:e.2.2.1=s)
  (hf:fits e.2.1 e.2.2.1 y=true) (ab:(n+1)*e.2.2.2<=140737488355328) (J:n+1<=140737488355328)
  (k:∀G st',own st' G (n+1) s S0->subSt S0 st'->keepF s st st'->appT (n+1) G->R (.val (.sl G (zs++[y]))) st' ds)
  (aa:gO esc dst=false:=by first|rfl|simp[gO]):appV esc dst e tg zs [y] R st ds:=by
 subst O he;unfold appV;refine⟨by simp[hf],⟨ab,J⟩,?_⟩;have E:∀g,st g=none->∀m,subSt S0 (st.put g (some (.front m e.2.2.1)))/\keepF e.2.2.1 st (st.put g (some (.front m e.2.2.1)))/\S0 g=none:=λg D m=>by
  have h0:=j3 A D;refine⟨eA A h0,λb o hb _=>?_,h0⟩;rw[ISt.put_apply];grind
 rcases h with⟨h0,hc⟩|rfl|⟨g0,rfl,h1,h2⟩
 ·have hz:zs=[]:=eG h0;subst hz;rw[hc];simp only[aa,bFt,dI];intro g D;obtain⟨a1,a2,a3⟩:=E g D 1;exact k _ _ (.inr (.inr ⟨g,rfl,b_ _ _ _,a3⟩)) a1 a2 (.inr ⟨jH _,rfl,g,rfl⟩)
 ·refine⟨rfl,λg D=>?_⟩;obtain⟨a1,a2,a3⟩:=E g D (zs.length+1);exact k _ _ (.inr (.inr ⟨g,rfl,b_ _ _ _,a3⟩)) a1 a2 (.inr ⟨jH _,rfl,g,rfl⟩)
 ·refine⟨rfl,h1,λg D=>?_⟩;have U:S0 g=none:=by
   rcases D with rfl|D
   ·exact h2
   ·exact j3 A D
  refine k _ _ (.inr (.inr ⟨g,rfl,b_ _ _ _,U⟩)) (eA (eA A h2) U) (λb o hb hn=>?_) (.inr ⟨jH _,rfl,g,rfl⟩);have ae:b≠g0:=by
   grind
  have ac:b≠g:=by
   grind
  rw[dw ac,dw ae];exact hb
def gQ {esc:List Nat}{dst:Option Nat}{e:TypeId×Bool×Nat×Nat}{U:Tag}{zs:List IV}{y:IV}{R:Rt}{st S0:ISt}{ds:List Dfd}{n s:Nat}(h:own st U n s S0)(G:zs.length=n)(E:subSt S0 st)(he:e.2.2.1=s)
  (hf:fits e.2.1 e.2.2.1 y=true) (O:(n+1)*e.2.2.2<=140737488355328) (D:n+1<=140737488355328)
  (k:∀A st',own st' A (n+1) s S0->subSt S0 st'->keepF s st st'->R (.val (.sl A (zs++[y]))) st' ds)
  (J:gO esc dst=false:=by first|rfl|simp[gO]):appV esc dst e U zs [y] R st ds:=jN h G E he hf O D (λA st' h1 h2 h3 _=>k A st' h1 h2 h3) J
end Go.Iv
namespace Go.Proofs.Tryz
open Go Go.Iv
set_option maxRecDepth 4000
variable (gl:Nat->Option IV)
def xL (l:List Nat):List Dfd:=l.map .coll
def xM (P:Program)(gl:Nat->Option IV)(rs:List ResultVar)(K:IV->ISt->Prop)(fr:Fr)(st:ISt):∀l:List Nat,kG P gl rs K (xL l) fr st=dp (resL P fr st rs) λA=>outK K (outI A) st
 | []=>rfl
 | r::l=>xM P gl rs K fr st l
def PsOk (ps:List Pc)(st:ISt):Prop:=∀p∈ps,∃es,st p.at_=some (.map .str es)/\SetOk es (fK p.tm)
def PsOk.mono {ps:List Pc}{st st':ISt}(h:PsOk ps st)(hs:subSt st st'):PsOk ps st':=λp hp=>by
 obtain⟨es,h1,h2⟩:=h p hp;exact⟨es,hs _ _ h1,h2⟩
def IsPcs.append:∀ {us ws:List Pc}{A ys:List IV},IsPcs us A->IsPcs ws ys->IsPcs (us++ws) (A++ys)
 | [],E,A,ys,h,k=>by simp only[IsPcs] at h;subst h;exact k
 | a::us,E,A,ys,h,k=>by
  simp only[IsPcs] at h;obtain⟨y,zs,rfl,D,h⟩:=h;exact⟨y,zs++ys,rfl,D,IsPcs.append h k⟩
def IsPcs.one {a:Pc}{x:IV}(h:IsPc a x):IsPcs [a] [x]:=⟨x,[],rfl,h,rfl⟩
def cntP (ps:List Pc)(m:ByteArray)(fr:List ByteArray):List Pc:=ps.filter λp=>memB fr p.nm&&!decide (p.nm=m)
def LD (ps:List Pc)(m:ByteArray)(fr:List ByteArray):toS (cntP ps m fr)=cntS (toS ps) m fr:=by
 unfold toS cntP cntS;rw[List.filter_map];rfl
def msOf (m:Nat)(fr:List ByteArray)(cs:List Pc):Ms:=(m,fr)::cs.map λp=>(p.at_,fK p.tm)
def LF (m:Nat)(fr:List ByteArray)(cs:List Pc):allM (msOf m fr cs)=fr++(toS cs).flatMap λp=>fK p.2:=by
 simp[allM,msOf,toS,List.flatMap_map]
def LG (T:Gt gl)(op:Nat)(n:ByteArray)(us:List Tm)(sub:List Fm)(x:IV)(hx:IsFm (.mk op n us sub) x)(ps:List Pc)(tg:Tag)(xs:List IV)(aC:okEs tg 7)(aQ:IsPcs ps xs)
  (bI:dL sub+wS (toS ps)<=1099511627776) (bF:ps.length<=1099511627776) (hp1:∀p∈ps,p.tm.size<=1099511627776) (st:ISt) (aD:PsOk ps st) :
  ICall prog gl 278 [.sl tg xs,x] st (λr st'=>subSt st st'/\∃cs tc zs,r=.tup [.raw (.string (jL (toS ps) n (frFs sub)).1),.sl tc zs]/\okEs tc 7/\IsPcs cs zs/\toS cs=(jL (toS ps) n (frFs sub)).2/\PsOk cs st'/\cs.length<=ps.length+1):=by
 obtain⟨t1,x1,t2,x2,rfl,bG,bA,bu,bh,aS⟩:=hx.mk;have bp:=kX sub;refine ICall.intro (c:=cf prog gl [6] []) func278 rfl (by show _<=86;simp) (by kernel_rfl) ?_;simp only[go_sem,zE];refine λm=>d_ λhm=>?_;simp only[go_sem,zE,zL];refine λb=>d_ λhb=>?_;have aG:b≠m:=λh=>by rw[h,b_] at hb;cases hb
 have bk:st b=none:=by rw[dw aG] at hb;exact hb
 let S:List (Value×IV)->ISt:=λes=>(st.put m (some (.map .str es))).put b (some (.box [.raw (.map (some m))]))
 have Sb:∀es,S es b=some (.box [.raw (.map (some m))]):=λes=>b_ _ _ _;have Sm:∀es,S es m=some (.map .str es):=λes=>by
  show ((st.put m (some (.map .str es))).put b _) m=_;rw[dw (λh=>aG h.symm),b_]
 have Sp:∀es aH,(S es).put m (some (.map .str aH))=S aH:=λes aH=>by
  funext c;show (((st.put m (some (.map .str es))).put b _).put m _) c=((st.put m _).put b _) c;simp only[ISt.put_apply];by_cases h1:c=m
  ·rw[cV h1,a_ (λh=>aG (by rw[<- h,h1])),cV h1]
  ·rw[a_ h1,a_ h1,a_ h1]
 simp only[go_sem,eN,aS.len];intros;refine dj sub.length (λk fr st' ds=>st'=S (addE [] (frFs (sub.take k)))/\fr 0=.iv (.sl tg xs)/\fr 3=.box [.raw (.int .u8 op),n,.sl t1 x1,.sl t2 x2]/\fr 6=.iv (.raw (.pointer (some ⟨b,0,none⟩))) /\
  fr 18=.iv (.sl t2 x2)/\fr 19=.iv (.raw (.int .i64 sub.length))/\fr 20=.iv (.raw (.int .i64 k))/\∃l,ds=xL l) ?_ ?_ ?_
 ·simp only[go_sem,zE,reduceCtorEq];exact⟨rfl,rfl,[],rfl⟩
 ·rintro k fr _ _ D ⟨rfl,f0,f3,f6,f18,f19,f20,l,rfl⟩;obtain⟨a,ha⟩:=dB D;obtain⟨y,af,hy⟩:=aS.get ha;obtain⟨bC,bB⟩:=jr ha;have aE:frFs (sub.take (k+1))=frFs (sub.take k)++frF a:=by
   rw[dE ha];have:∀l m:List Fm,frFs (l++m)=frFs l++frFs m:=λl m=>by
    induction l with
    | nil=>simp[frFs]
    | cons c l ih=>simp only[ed,frFs,ih,en]
   rw[this];simp[frFs]
  have av:=λst=>tX gl a y hy st;have al:=λI=>t_ gl a y hy (by omega) I;rw[uh] at al;obtain⟨o5,n5,t5,x5,t6,x6,rfl⟩:=hy.agg;simp only[go_sem,zE,zB,zA,zL,f18,f19,f20,lt_i D,dz bh,iNn,af,fits];refine (av _).q ?_;simp only[go_sem,reduceCtorEq];refine RangeC.intro (seqX (lK (frF a))) (frF a).length (λi st'=>st'=S (addE (addE [] (frFs (sub.take k))) ((frF a).take i))) (λ_ _=>False) (by simp only[go_sem]) ?_ ?_ ?_ (al _) ?_ (λ_ _ _ h=>h.elim)
  ·intro i c hc;simp only[seqX,lK,eI,fb] at hc;obtain⟨s,_,rfl⟩:=hc;rfl
  ·rfl
  ·rintro i c _ hi rfl;simp only[seqX,lK,eI,fb] at hi;obtain⟨s,hs,rfl⟩:=hi;simp only[go_sem,zE,f6,Sb,Sm,pB];rw[Sp,dE hs,Dg];rfl
  ·rintro _ r rfl;simp only[go_sem,zE,reduceCtorEq,f0,f3,f6,f18,f19,f20,dC D (by omega)];refine⟨?_,r::l,rfl⟩;rw[lTl,aE,Dg]
 ·rintro fr _ _ ⟨rfl,f0,f3,f6,f18,f19,f20,l,rfl⟩;rw[lTl];generalize bi:addE [] (frFs sub)=es;have U:SetOk es (frFs sub):=bi▸iC (frFs sub);simp only[go_sem,zE,zM,zL,reduceCtorEq,f0,f6,f19,f20,dF (nLi _),Sb,dW,fits,aQ.len];intros;generalize hF:frFs sub=F at *;have an:subSt st (S es):=rK (ff hm) bk;refine dj ps.length (λk fr st' ds=>(∃tc zs tt,fr 11=.iv (.sl tc zs)/\IsPcs (cntP (ps.take k) n F) zs/\own st' tc (cntP (ps.take k) n F).length 7 (S es) /\
   fr 10=.iv (.sl tt (msI (msOf m F (cntP (ps.take k) n F))))/\own st' tt ((cntP (ps.take k) n F).length+1) 1 (S es))/\subSt (S es) st'/\fr 12=((cntP (ps.take k) n F).any λp=>memB (fK p.tm) n:Bool) /\
   fr 3=.box [.raw (.int .u8 op),n,.sl t1 x1,.sl t2 x2]/\fr 6=.iv (.raw (.pointer (some ⟨b,0,none⟩)))/\fr 32=.iv (.sl tg xs)/\fr 33=ps.length/\fr 34=.iv (.raw (.int .i64 k))/\∃l,ds=xL l) ?_ ?_ ?_
  ·simp only[go_sem,zE,f3,f6];exact⟨⟨_,_,_,rfl,rfl,own.nil _ _ _ _ _,rfl,own.full _ _ _ _⟩,subSt.refl _,rfl,rfl,l,rfl⟩
  ·rintro k fr ag _ D ⟨⟨tc,zs,tt,f11,hzs,J,f10,ae⟩,A,f12,f3,f6,f32,f33,f34,l,rfl⟩;obtain⟨p,hp⟩:=dB D;obtain⟨y,af,v,n3,t3,x3,rfl,hy⟩:=aQ.get hp;have aB:IsPc p (kI p.nm v n3 t3 x3 p.at_ p.tm):=⟨v,n3,t3,x3,rfl,hy⟩
   obtain⟨ep,a6,aZ⟩:=aD p (lMg hp);have am:=A b _ (Sb es);have aj:=A m _ (Sm es);have O:cntP (ps.take (k+1)) n F=cntP (ps.take k) n F++if memB F p.nm&&!decide (p.nm=n) then [p] else []:=by
    rw[dE hp];unfold cntP;rw[List.filter_append];congr 1;simp only[kg,List.filter_nil]
   unfold kI at af aB;cases ac:memB F p.nm
   ·simp only[ac,oe,bFt,dI,eo] at O;simp only[go_sem,zE,zB,zA,zL,f3,f6,f10,f11,f12,f32,f33,f34,lt_i D,dz aC,iNn,af,fits,am,aj,U.look,ac,O,dC D (by omega)];exact⟨⟨tc,zs,tt,rfl,hzs,J,rfl,ae⟩,A,l,rfl⟩
   ·cases au:decide (p.nm=n)
    ·simp only[ac,au,g_,Bool.not_false,dD] at O;have aX:=hzs.len;have bj:(cntP (ps.take k) n F).length<=ps.length:=dT (iU _ _) (by rw[dQ];omega);simp only[go_sem,zE,zB,zA,zM,zL,f3,f6,f11,f32,f33,f34,lt_i D,dz aC,iNn,af,fits,am,aj,U.look,ac,au,dW];refine gQ J aX A rfl (by simp[fits,IV.one]) (by simp only;omega) (by omega) λaq be ai E aF=>?_;have bs:=E p.at_ _ (an _ _ a6);simp only[go_sem,zE,zA,zM,zL,f10,fits,dW];refine gQ (aF.own ae (by omega)) (by rw[xJ];simp[msOf]) E rfl (by simp[fits,IV.one]) (by simp only;omega) (by omega) λaK aM aT G aY=>?_;have aU:=aY.own ai (by omega);have a1:=G p.at_ _ (an _ _ a6);have ax:∀y',IsPc p y'->(∃aL aI aJ,SV.iv (.sl aq (zs++[y']))=.iv (.sl aL aI)/\IsPcs (cntP (ps.take (k+1)) n F) aI/\own aM aL (cntP (ps.take (k+1)) n F).length 7 (S es) /\
       SV.iv (.sl aK (msI (msOf m F (cntP (ps.take k) n F))++[.raw (.map (some p.at_))]))=.iv (.sl aJ (msI (msOf m F (cntP (ps.take (k+1)) n F))))/\own aM aJ ((cntP (ps.take (k+1)) n F).length+1) 1 (S es)):=λy' bf=>by
      rw[O];refine⟨aq,_,aK,rfl,hzs.append (IsPcs.one bf),by rw[lLa];exact aU,?_,by rw[lLa];exact aT⟩;simp[msOf,msI]
     have ab:(cntP (ps.take (k+1)) n F).any (λp=>memB (fK p.tm) n)=((cntP (ps.take k) n F).any (λp=>memB (fK p.tm) n) || memB (fK p.tm) n):=by rw[O];simp
     cases aa:(cntP (ps.take k) n F).any λp=>memB (fK p.tm) n
     ·rw[aa,Bool.false_or] at ab;rw[aa] at f12;simp only[go_sem,zE,f3,f6,f12,f32,f33,f34,a1,aZ.look,ab,dC D (by omega)];exact⟨ax _ aB,G,l,rfl⟩
     ·rw[aa,Bool.true_or] at ab;rw[aa] at f12;simp only[go_sem,zE,f3,f6,f12,f32,f33,f34,ab,dC D (by omega)];exact⟨ax _ aB,G,l,rfl⟩
    ·simp only[ac,au,g_,mw,bFt,dI,eo] at O;simp only[go_sem,zE,zB,zA,zL,f3,f6,f10,f11,f12,f32,f33,f34,lt_i D,dz aC,iNn,af,fits,am,aj,U.look,ac,au,O,dC D (by omega)];exact⟨⟨tc,zs,tt,rfl,hzs,J,rfl,ae⟩,A,l,rfl⟩
  ·rintro fr ag _ ⟨⟨tc,zs,tt,f11,hzs,J,f10,ae⟩,A,f12,f3,f6,f32,f33,f34,l,rfl⟩;rw[lTl] at hzs J ae f10 f12;have ah:=an.trans A;have bj:(cntP ps n F).length<=ps.length:=iU _ _;have aw:=LD ps n F;have a7:rD (toS ps) n F=(cntP ps n F).any λp=>memB (fK p.tm) n:=by
    unfold rD;rw[<- aw];simp[toS,List.any_map,Function.comp_def]
   have ay:PsOk (cntP ps n F) ag:=λp hp=>(aD.mono ah) p (iY.1 hp).1;rw[<- a7] at f12;cases hc:rD (toS ps) n F
   ·rw[hc] at f12;have hu:jL (toS ps) n F=(n,cntS (toS ps) n F):=by unfold jL;rw[hc];rfl
    rw[hu];simp only[go_sem,zE,f3,f11,f12,f33,f34,dF (nLi _),xM];exact c_ ⟨ah,cntP ps n F,tc,zs,rfl,J.es,hzs,aw,ay,by omega⟩
   ·rw[hc] at f12;have hu:jL (toS ps) n F=(iA (mP (toS ps) n F),cntS (toS ps) n F++[(n,.mk true (iA (mP (toS ps) n F)) [])]):=by unfold jL;rw[hc];rfl
    have az:allM (msOf m F (cntP ps n F))=mP (toS ps) n F:=by rw[LF,aw];rfl
    have bx:=K3 (toS ps) n F;have bJ:F.length<=dL sub:=hF▸xD sub;have ak:=Df gl T (msOf m F (cntP ps n F)) tt ae.es (by rw[az];omega) ag (λp hp=>by
     rcases dN.1 hp with rfl|hp
     ·exact⟨es,A m _ (Sm es),U⟩
     ·obtain⟨q,hq,rfl⟩:=dH.1 hp;exact ay q hq)
    rw[az] at ak;rw[hu];generalize iA (mP (toS ps) n F)=new at ak;simp only[go_sem,zE,zA,f10,f12,f33,f34,dF (nLi _)];refine ak.mono ?_;rintro _ ag ⟨rfl,rfl⟩;simp only[go_sem,zE,zA,zL,f3,f11,fits];refine (CD gl n true new [] ⟨true,.nil,0⟩ [] ⟨_,[],rfl,by simp only[go_sem],rfl⟩ (by simp[Tm.size,dP]) _).mono ?_;rintro _ _ ⟨m3,aW,rfl,rfl⟩;simp only[go_sem,zE,zA,zM,zL,fits,dW,kI];refine gQ (J.mono λg hg _=>by rw[dw (mJ hg aW)];exact hg) hzs.len (A.trans (ff aW)) rfl (by simp[fits,IV.one]) (by simp only;omega) (by omega) λaq be ai E aF=>?_;have hp3:IsPc ⟨n,.mk true new [],m3⟩ (kI n true new ⟨true,.nil,0⟩ [] m3 (.mk true new [])):=⟨true,new,_,[],rfl,_,[],rfl,.inl rfl,rfl⟩
    unfold kI at hp3;have aV:=aF m3 _ (b_ ag m3 _) (λ_ h=>by cases h);simp only[go_sem,zE,xM];refine c_ ⟨an.trans E,cntP ps n F++[⟨n,.mk true new [],m3⟩],aq,_,rfl,ai.es,hzs.append (IsPcs.one hp3),?_,λp hp=>?_,by rw[lLa];simp;omega⟩
    ·rw[<- aw];simp[toS]
    ·rcases dR.1 hp with hp|hp
     ·exact (aD.mono (an.trans E)) p (iY.1 hp).1
     ·rw[dZ] at hp;subst hp;exact⟨_,aV,iC _⟩
