/- Walks: Normal. -/
import Derived.Test.YtopmhkmegkpkdaaGreatDoorJZ
set_option linter.all false
open Nat renaming reduceEqDiff → zE,reduceBEq → zB,reduceAdd → zA,reduceMul → zM,reduceLeDiff → zL
namespace Go.Proofs.Tryz
open Go Go.Iv
set_option maxRecDepth 4000
variable (gl:Nat->Option IV)
def _root_.Go.Iv.IsFm.agg {f:Fm}{x:IV}(h:IsFm f x):∃(op:Nat) (n:ByteArray) (t:Tag) (A:List IV) (D:Tag) (ys:List IV),x=.agg [.raw (.int .u8 op),n,.sl t A,.sl D ys]:=by
 obtain⟨op,n,us,sub⟩:=f;obtain⟨t,A,D,ys,rfl,_⟩:=h.mk;exact⟨_,_,_,_,_,_,rfl⟩
def _root_.Go.Iv.IsTm.agg {t:Tm}{x:IV}(h:IsTm t x):∃(v:Bool) (n:ByteArray) (D:Tag) (A:List IV),x=.agg [v,n,.sl D A]:=by
 obtain⟨v,n,us⟩:=t;obtain⟨D,A,rfl,_⟩:=h.mk;exact⟨_,_,_,_,rfl⟩
def _root_.Go.Iv.IsFmD.agg {f:Fm}{x:IV}(h:IsFmD f x):∃(op:Nat) (n:ByteArray) (t:Tag) (A:List IV) (D:Tag) (ys:List IV),x=.agg [.raw (.int .u8 op),n,.sl t A,.sl D ys]:=h.1.agg
def _root_.Go.Iv.IsTmD.agg {t:Tm}{x:IV}(h:IsTmD t x):∃(v:Bool) (n:ByteArray) (D:Tag) (A:List IV),x=.agg [v,n,.sl D A]:=h.1.agg
def fm0:Fm:=.mk 0 ⟨#[]⟩ [] []
def FE (g:Fm)(e:Nat)(st:ISt)(r:IV)(st':ISt):Prop:=∃y,r=.tup [y,e]/\IsFm g y/\st'=st
def FED (g:Fm)(e:Nat)(st:ISt)(r:IV)(st':ISt):Prop:=∃y,r=.tup [y,e]/\IsFmD g y/\st'=st
def FED.w {g:Fm}{e:Nat}{st:ISt}(r:IV)(st':ISt):FED g e st r st'->FE g e st r st':=λ⟨y,h1,h2,A⟩=>⟨y,h1,h2.1,A⟩
end Go.Proofs.Tryz
namespace Go.Iv
open Go
def own (st:ISt)(A:Tag)(n s:Nat)(S0:ISt):Prop:=(n=0/\A.cap=.nil)\/A=⟨true,.full,s⟩\/∃g,A=⟨true,.app g,s⟩/\st g=some (.front n s)/\S0 g=none
def own.es {st:ISt}{A:Tag}{n s:Nat}{S0:ISt}(h:own st A n s S0):okEs A s:=by
 rcases h with⟨_,h⟩|rfl|⟨g,rfl,_⟩
 ·exact .inl h
 ·exact .inr rfl
 ·exact .inr rfl
def own.nil (st S0:ISt)(f:Bool)(e s:Nat):own st ⟨f,.nil,e⟩ 0 s S0:=.inl ⟨rfl,rfl⟩
def own.full (st S0:ISt)(n s:Nat):own st ⟨true,.full,s⟩ n s S0:=.inr (.inl rfl)
def gU {st s:ISt}{b:Nat}{o:Option IObj}(h:subSt st s)(A:st b=none):subSt st (s.put b o):=λc x hc=>by
 rw[ISt.put_apply];split
 ·grind
 ·exact h c x hc
def nb {st s:ISt}{b:Nat}(h:subSt st s)(A:s b=none):st b=none:=by
 cases D:st b with
 | none=>rfl
 | some o=>rw[h b o D] at A;cases A
def own.mono {st st':ISt}{A:Tag}{n s:Nat}{S0:ISt}(h:own st A n s S0)(E:∀g,st g=some (.front n s)->S0 g=none->st' g=some (.front n s)):own st' A n s S0:=by
 rcases h with h|h|⟨g,h1,h2,D⟩
 ·exact .inl h
 ·exact .inr (.inl h)
 ·exact .inr (.inr ⟨g,h1,E g h2 D,D⟩)
def keepF (s:Nat)(st st':ISt):Prop:=∀b o,st b=some o->(∀n,o≠.front n s)->st' b=some o
def keepF.own {s s' n:Nat}{st st' S0:ISt}{D:Tag}(h:keepF s st st')(O:own st D n s' S0)(E:s'≠s):own st' D n s' S0 :=
 O.mono λg U _=>h g _ U λn A=>by injection A with _ A;exact E A
def iG {esc:List Nat}{dst:Option Nat}{e:TypeId×Bool×Nat×Nat}{tg:Tag}{zs:List IV}{y:IV}{R:Rt}{st S0:ISt}{ds:List Dfd}{n s:Nat}(h:own st tg n s S0)(W:zs.length=n)(A:subSt S0 st)(he:e.2.2.1=s)
  (hf:fits e.2.1 e.2.2.1 y=true) (ac:(n+1)*e.2.2.2<=140737488355328) (U:n+1<=140737488355328)
  (k:∀O st',own st' O (n+1) s S0->subSt S0 st'->keepF s st st'->appT (n+1) O->R (.val (.sl O (zs++[y]))) st' ds)
  (ab:iz esc dst=false:=by first|rfl|simp[iz]):appV esc dst e tg zs [y] R st ds:=by
 subst W he;unfold appV;refine⟨by simp[hf],⟨ac,U⟩,?_⟩;have E:∀g,st g=none->∀m,subSt S0 (st.put g (some (.front m e.2.2.1)))/\keepF e.2.2.1 st (st.put g (some (.front m e.2.2.1)))/\S0 g=none:=λg D m=>by
  have h0:=nb A D;refine⟨gU A h0,λb o hb _=>?_,h0⟩;rw[ISt.put_apply];grind
 rcases h with⟨h0,hc⟩|rfl|⟨g0,rfl,h1,h2⟩
 ·have hz:zs=[]:=eN h0;subst hz;rw[hc];simp only[ab,bFt,dJ];intro g D;obtain⟨a1,a2,a3⟩:=E g D 1;exact k _ _ (.inr (.inr ⟨g,rfl,cT _ _ _,a3⟩)) a1 a2 (.inr ⟨Nat.succ_pos _,rfl,g,rfl⟩)
 ·refine⟨rfl,λg D=>?_⟩;obtain⟨a1,a2,a3⟩:=E g D (zs.length+1);exact k _ _ (.inr (.inr ⟨g,rfl,cT _ _ _,a3⟩)) a1 a2 (.inr ⟨Nat.succ_pos _,rfl,g,rfl⟩)
 ·refine⟨rfl,h1,λg D=>?_⟩;have aa:S0 g=none:=by
   rcases D with rfl|D
   ·exact h2
   ·exact nb A D
  refine k _ _ (.inr (.inr ⟨g,rfl,cT _ _ _,aa⟩)) (gU (gU A h2) aa) (λb o hb hn=>?_) (.inr ⟨Nat.succ_pos _,rfl,g,rfl⟩);have ag:b≠g0:=by
   grind
  have af:b≠g:=by
   grind
  rw[de af,de ag];exact hb
def lq {esc:List Nat}{dst:Option Nat}{e:TypeId×Bool×Nat×Nat}{tg:Tag}{zs:List IV}{y:IV}{R:Rt}{st S0:ISt}{ds:List Dfd}{n s:Nat}(h:own st tg n s S0)(O:zs.length=n)(E:subSt S0 st)(he:e.2.2.1=s)
  (hf:fits e.2.1 e.2.2.1 y=true) (W:(n+1)*e.2.2.2<=140737488355328) (D:n+1<=140737488355328)
  (k:∀A st',own st' A (n+1) s S0->subSt S0 st'->keepF s st st'->R (.val (.sl A (zs++[y]))) st' ds)
  (U:iz esc dst=false:=by first|rfl|simp[iz]):appV esc dst e tg zs [y] R st ds:=iG h O E he hf W D (λA st' h1 h2 h3 _=>k A st' h1 h2 h3) U
end Go.Iv
namespace Go.Proofs.Tryz
open Go Go.Iv
set_option maxRecDepth 4000
variable (gl:Nat->Option IV)
def wO (l:List Nat):List Dfd:=l.map .coll
def wP (P:Program)(gl:Nat->Option IV)(rs:List ResultVar)(K:IV->ISt->Prop)(fr:Fr)(st:ISt):∀l:List Nat,kQ P gl rs K (wO l) fr st=cU (resL P fr st rs) λA=>outK K (outI A) st
 | []=>rfl
 | r::l=>wP P gl rs K fr st l
def PsOk (ps:List Pc)(st:ISt):Prop:=∀p∈ps,∃es,st p.at_=some (.map .str es)/\SetOk es (fK p.tm)
def PsOk.mono {ps:List Pc}{st st':ISt}(h:PsOk ps st)(A:subSt st st'):PsOk ps st':=λp hp=>by
 obtain⟨es,h1,h2⟩:=h p hp;exact⟨es,A _ _ h1,h2⟩
def IsPcs.append:∀ {us D:List Pc}{A ys:List IV},IsPcs us A->IsPcs D ys->IsPcs (us++D) (A++ys)
 | [],O,A,ys,h,k=>by simp only[IsPcs] at h;subst h;exact k
 | a::us,O,A,ys,h,k=>by
  simp only[IsPcs] at h;obtain⟨y,zs,rfl,E,h⟩:=h;exact⟨y,zs++ys,rfl,E,IsPcs.append h k⟩
def IsPcs.one {a:Pc}{x:IV}(h:IsPc a x):IsPcs [a] [x]:=⟨x,[],rfl,h,rfl⟩
def cntP (ps:List Pc)(m:ByteArray)(fr:List ByteArray):List Pc:=ps.filter λp=>memB fr p.nm&&!decide (p.nm=m)
def Lb (ps:List Pc)(m:ByteArray)(fr:List ByteArray):toS (cntP ps m fr)=cntS (toS ps) m fr:=by
 unfold toS cntP cntS;rw[List.filter_map];rfl
def msOf (m:Nat)(fr:List ByteArray)(cs:List Pc):Ms:=(m,fr)::cs.map λp=>(p.at_,fK p.tm)
def Lc (m:Nat)(fr:List ByteArray)(cs:List Pc):allM (msOf m fr cs)=fr++(toS cs).flatMap λp=>fK p.2:=by
 simp[allM,msOf,toS,List.flatMap_map]
def Ld (T:Gt gl)(op:Nat)(n:ByteArray)(us:List Tm)(sub:List Fm)(x:IV)(hx:IsFm (.mk op n us sub) x)(ps:List Pc)(tg:Tag)(xs:List IV)(aD:okEs tg 7)(aS:IsPcs ps xs)
  (bK:dt sub+wS (toS ps)<=1099511627776) (bG:ps.length<=1099511627776) (bH:∀p∈ps,p.tm.size<=1099511627776) (st:ISt) (aE:PsOk ps st) :
  ICall prog gl 287 [.sl tg xs,x] st (λr st'=>subSt st st'/\∃cs tc zs,r=.tup [.raw (.string (j5 (toS ps) n (frFs sub)).1),.sl tc zs]/\okEs tc 7/\IsPcs cs zs/\toS cs=(j5 (toS ps) n (frFs sub)).2/\PsOk cs st'/\cs.length<=ps.length+1):=by
 obtain⟨t1,x1,t2,x2,rfl,bI,bC,bA,bj,aT⟩:=hx.mk;have bq:=h_ sub;refine ICall.intro (c:=cf prog gl [6] []) func287 rfl (by show _<=86;simp) (by kernel_rfl) ?_;simp only[go_sem,zE];refine λm=>eB λhm=>?_;simp only[go_sem,zE,zL];refine λb=>eB λhb=>?_;have aH:b≠m:=λh=>by rw[h,cT] at hb;cases hb
 have bm:st b=none:=by rw[de aH] at hb;exact hb
 let S:List (Value×IV)->ISt:=λes=>(st.put m (some (.map .str es))).put b (some (.box [.raw (.map (some m))]))
 have Sb:∀es,S es b=some (.box [.raw (.map (some m))]):=λes=>cT _ _ _;have Sm:∀es,S es m=some (.map .str es):=λes=>by
  show ((st.put m (some (.map .str es))).put b _) m=_;rw[de (λh=>aH h.symm),cT]
 have Sp:∀es aI,(S es).put m (some (.map .str aI))=S aI:=λes aI=>by
  funext c;show (((st.put m (some (.map .str es))).put b _).put m _) c=((st.put m _).put b _) c;simp only[ISt.put_apply];by_cases h1:c=m
  ·rw[b_ h1,a_ (λh=>aH (by rw[<- h,h1])),b_ h1]
  ·rw[a_ h1,a_ h1,a_ h1]
 simp only[go_sem,eZ,aT.len];intros;refine cV sub.length (λk fr st' ds=>st'=S (addE [] (frFs (sub.take k)))/\fr 0=.iv (.sl tg xs)/\fr 3=.box [.raw (.int .u8 op),n,.sl t1 x1,.sl t2 x2]/\fr 6=.iv (.raw (.pointer (some ⟨b,0,none⟩))) /\
  fr 18=.iv (.sl t2 x2)/\fr 19=.iv (.raw (.int .i64 sub.length))/\fr 20=.iv (.raw (.int .i64 k))/\∃l,ds=wO l) ?_ ?_ ?_
 ·simp only[go_sem,zE,reduceCtorEq];exact⟨rfl,rfl,[],rfl⟩
 ·rintro k fr _ _ D ⟨rfl,f0,f3,f6,f18,f19,f20,l,rfl⟩;obtain⟨a,ha⟩:=dd D;obtain⟨y,ag,hy⟩:=aT.get ha;obtain⟨hs1,hs2⟩:=jK ha;have aF:frFs (sub.take (k+1))=frFs (sub.take k)++frF a:=by
   rw[dK ha];have:∀l m:List Fm,frFs (l++m)=frFs l++frFs m:=λl m=>by
    induction l with
    | nil=>simp[frFs]
    | cons c l ih=>simp only[dX,frFs,ih,fA]
   rw[this];simp[frFs]
  have aw:=λst=>wq gl a y hy st;have an:=λI=>wu gl a y hy (by omega) I;rw[wB] at an;obtain⟨o5,n5,t5,x5,t6,x6,rfl⟩:=hy.agg;simp only[go_sem,zE,zB,zA,zL,f18,f19,f20,lt_i D,dc bj,iNn,ag,fits];refine (aw _).q ?_;simp only[go_sem,reduceCtorEq];refine RangeC.intro (seqX (lZ (frF a))) (frF a).length (λi st'=>st'=S (addE (addE [] (frFs (sub.take k))) ((frF a).take i))) (λ_ _=>False) (by simp only[go_sem]) ?_ ?_ ?_ (an _) ?_ (λ_ _ _ h=>h.elim)
  ·intro i c hc;simp only[seqX,lZ,en,gI] at hc;obtain⟨s,_,rfl⟩:=hc;rfl
  ·rfl
  ·rintro i c _ hi rfl;simp only[seqX,lZ,en,gI] at hi;obtain⟨s,hs,rfl⟩:=hi;simp only[go_sem,zE,f6,Sb,Sm,pR];rw[Sp,dK hs,CM];rfl
  ·rintro _ r rfl;simp only[go_sem,zE,reduceCtorEq,f0,f3,f6,f18,f19,f20,df D (by omega)];refine⟨?_,r::l,rfl⟩;rw[lTl,aF,CM]
 ·rintro fr _ _ ⟨rfl,f0,f3,f6,f18,f19,f20,l,rfl⟩;rw[lTl];generalize bk:addE [] (frFs sub)=es;have aa:SetOk es (frFs sub):=bk▸jB (frFs sub);simp only[go_sem,zE,zM,zL,reduceCtorEq,f0,f6,f19,f20,dD (nLi _),Sb,dP,fits,aS.len];intros;generalize hF:frFs sub=F at *;have aq:subSt st (S es):=CO (fj hm) bm;refine cV ps.length (λk fr st' ds=>(∃tc zs tt,fr 11=.iv (.sl tc zs)/\IsPcs (cntP (ps.take k) n F) zs/\own st' tc (cntP (ps.take k) n F).length 7 (S es) /\
   fr 10=.iv (.sl tt (msI (msOf m F (cntP (ps.take k) n F))))/\own st' tt ((cntP (ps.take k) n F).length+1) 1 (S es))/\subSt (S es) st'/\fr 12=((cntP (ps.take k) n F).any λp=>memB (fK p.tm) n:Bool) /\
   fr 3=.box [.raw (.int .u8 op),n,.sl t1 x1,.sl t2 x2]/\fr 6=.iv (.raw (.pointer (some ⟨b,0,none⟩)))/\fr 32=.iv (.sl tg xs)/\fr 33=ps.length/\fr 34=.iv (.raw (.int .i64 k))/\∃l,ds=wO l) ?_ ?_ ?_
  ·simp only[go_sem,zE,f3,f6];exact⟨⟨_,_,_,rfl,rfl,own.nil _ _ _ _ _,rfl,own.full _ _ _ _⟩,subSt.refl _,rfl,rfl,l,rfl⟩
  ·rintro k fr ah _ D ⟨⟨tc,zs,tt,f11,hzs,U,f10,af⟩,A,f12,f3,f6,f32,f33,f34,l,rfl⟩;obtain⟨p,hp⟩:=dd D;obtain⟨y,ag,v,n3,t3,x3,rfl,hy⟩:=aS.get hp;have aC:IsPc p (kT p.nm v n3 t3 x3 p.at_ p.tm):=⟨v,n3,t3,x3,rfl,hy⟩
   obtain⟨ep,a8,a6⟩:=aE p (lMg hp);have ao:=A b _ (Sb es);have ak:=A m _ (Sm es);have W:cntP (ps.take (k+1)) n F=cntP (ps.take k) n F++if memB F p.nm&&!decide (p.nm=n) then [p] else []:=by
    rw[dK hp];unfold cntP;rw[lC];congr 1;simp only[List.filter_cons,List.filter_nil]
   unfold kT at ag aC;cases ae:memB F p.nm
   ·simp only[ae,fk,bFt,dJ,fH] at W;simp only[go_sem,zE,zB,zA,zL,f3,f6,f10,f11,f12,f32,f33,f34,lt_i D,dc aD,iNn,ag,fits,ao,ak,aa.look,ae,W,df D (by omega)];exact⟨⟨tc,zs,tt,rfl,hzs,U,rfl,af⟩,A,l,rfl⟩
   ·cases av:decide (p.nm=n)
    ·simp only[ae,av,eM,jQ,dB] at W;have aZ:=hzs.len;have bl:(cntP (ps.take k) n F).length<=ps.length:=eh (iW _ _) (by rw[dO];omega);simp only[go_sem,zE,zB,zA,zM,zL,f3,f6,f11,f32,f33,f34,lt_i D,dc aD,iNn,ag,fits,ao,ak,aa.look,ae,av,dP];refine lq U aZ A rfl (by simp[fits,IV.one]) (by simp only;omega) (by omega) λau bg aj E aG=>?_;have bu:=E p.at_ _ (aq _ _ a8);simp only[go_sem,zE,zA,zM,zL,f10,fits,dP];refine lq (aG.own af (by omega)) (by rw[wM];simp[msOf]) E rfl (by simp[fits,IV.one]) (by simp only;omega) (by omega) λaL aN aV O a1=>?_;have aW:=a1.own aj (by omega);have a7:=O p.at_ _ (aq _ _ a8);have ay:∀y',IsPc p y'->(∃aM aJ aK,SV.iv (.sl au (zs++[y']))=.iv (.sl aM aJ)/\IsPcs (cntP (ps.take (k+1)) n F) aJ/\own aN aM (cntP (ps.take (k+1)) n F).length 7 (S es) /\
       SV.iv (.sl aL (msI (msOf m F (cntP (ps.take k) n F))++[.raw (.map (some p.at_))]))=.iv (.sl aK (msI (msOf m F (cntP (ps.take (k+1)) n F))))/\own aN aK ((cntP (ps.take (k+1)) n F).length+1) 1 (S es)):=λy' bh=>by
      rw[W];refine⟨au,_,aL,rfl,hzs.append (IsPcs.one bh),by rw[lLa];exact aW,?_,by rw[lLa];exact aV⟩;simp[msOf,msI]
     have ac:(cntP (ps.take (k+1)) n F).any (λp=>memB (fK p.tm) n)=((cntP (ps.take k) n F).any (λp=>memB (fK p.tm) n) || memB (fK p.tm) n):=by rw[W];simp
     cases ab:(cntP (ps.take k) n F).any λp=>memB (fK p.tm) n
     ·rw[ab,Bool.false_or] at ac;rw[ab] at f12;simp only[go_sem,zE,f3,f6,f12,f32,f33,f34,a7,a6.look,ac,df D (by omega)];exact⟨ay _ aC,O,l,rfl⟩
     ·rw[ab,Bool.true_or] at ac;rw[ab] at f12;simp only[go_sem,zE,f3,f6,f12,f32,f33,f34,ac,df D (by omega)];exact⟨ay _ aC,O,l,rfl⟩
    ·simp only[ae,av,eM,fW,bFt,dJ,fH] at W;simp only[go_sem,zE,zB,zA,zL,f3,f6,f10,f11,f12,f32,f33,f34,lt_i D,dc aD,iNn,ag,fits,ao,ak,aa.look,ae,av,W,df D (by omega)];exact⟨⟨tc,zs,tt,rfl,hzs,U,rfl,af⟩,A,l,rfl⟩
  ·rintro fr ah _ ⟨⟨tc,zs,tt,f11,hzs,U,f10,af⟩,A,f12,f3,f6,f32,f33,f34,l,rfl⟩;rw[lTl] at hzs U af f10 f12;have ai:=aq.trans A;have bl:(cntP ps n F).length<=ps.length:=iW _ _;have ax:=Lb ps n F;have ba:rE (toS ps) n F=(cntP ps n F).any λp=>memB (fK p.tm) n:=by
    unfold rE;rw[<- ax];simp[toS,List.any_map,Function.comp_def]
   have az:PsOk (cntP ps n F) ah:=λp hp=>(aE.mono ai) p (jq.1 hp).1;rw[<- ba] at f12;cases hc:rE (toS ps) n F
   ·rw[hc] at f12;have hu:j5 (toS ps) n F=(n,cntS (toS ps) n F):=by unfold j5;rw[hc];rfl
    rw[hu];simp only[go_sem,zE,f3,f11,f12,f33,f34,dD (nLi _),wP];exact cO ⟨ai,cntP ps n F,tc,zs,rfl,U.es,hzs,ax,az,by omega⟩
   ·rw[hc] at f12;have hu:j5 (toS ps) n F=(nV (m_ (toS ps) n F),cntS (toS ps) n F++[(n,.mk true (nV (m_ (toS ps) n F)) [])]):=by unfold j5;rw[hc];rfl
    have aA:allM (msOf m F (cntP ps n F))=m_ (toS ps) n F:=by rw[Lc,ax];rfl
    have bB:=KF (toS ps) n F;have bL:F.length<=dt sub:=hF▸wH sub;have am:=K9 gl T (msOf m F (cntP ps n F)) tt af.es (by rw[aA];omega) ah (λp hp=>by
     rcases dC.1 hp with rfl|hp
     ·exact⟨es,A m _ (Sm es),aa⟩
     ·obtain⟨q,hq,rfl⟩:=eP.1 hp;exact az q hq)
    rw[aA] at am;rw[hu];generalize nV (m_ (toS ps) n F)=new at am;simp only[go_sem,zE,zA,f10,f12,f33,f34,dD (nLi _)];refine am.mono ?_;rintro _ ah ⟨rfl,rfl⟩;simp only[go_sem,zE,zA,zL,f3,f11,fits];refine (B_ gl n true new [] ⟨true,.nil,0⟩ [] ⟨_,[],rfl,by simp only[go_sem],rfl⟩ (by simp[Tm.size,dN]) _).mono ?_;rintro _ _ ⟨m3,aY,rfl,rfl⟩;simp only[go_sem,zE,zA,zM,zL,fits,dP,kT];refine lq (U.mono λg hg _=>by rw[de (rk hg aY)];exact hg) hzs.len (A.trans (fj aY)) rfl (by simp[fits,IV.one]) (by simp only;omega) (by omega) λau bg aj E aG=>?_;have aU:IsPc ⟨n,.mk true new [],m3⟩ (kT n true new ⟨true,.nil,0⟩ [] m3 (.mk true new [])):=⟨true,new,_,[],rfl,_,[],rfl,.inl rfl,rfl⟩
    unfold kT at aU;have aX:=aG m3 _ (cT ah m3 _) (λ_ h=>by cases h);simp only[go_sem,zE,wP];refine cO ⟨aq.trans E,cntP ps n F++[⟨n,.mk true new [],m3⟩],au,_,rfl,aj.es,hzs.append (IsPcs.one aU),?_,λp hp=>?_,by rw[lLa];simp;omega⟩
    ·rw[<- ax];simp[toS]
    ·rcases eX.1 hp with hp|hp
     ·exact (aE.mono (aq.trans E)) p (jq.1 hp).1
     ·rw[fD] at hp;subst hp;exact⟨_,aX,jB _⟩
