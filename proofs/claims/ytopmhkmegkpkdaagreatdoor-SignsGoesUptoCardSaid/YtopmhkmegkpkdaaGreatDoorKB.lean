/- Walks: form. -/
import Derived.Test.YtopmhkmegkpkdaaGreatDoorKA
set_option linter.all false
open Nat renaming reduceEqDiff → zE,reduceBEq → zB,reduceAdd → zA,reduceMul → zM,reduceLeDiff → zL
namespace Go.Proofs.Tryz
open Go Go.Iv
set_option maxRecDepth 4000
variable (gl:Nat->Option IV)
def CQ {l:Sb}{p:ByteArray×Tm}(h:p∈l):p.2.size<=wS l:=by
 induction l with
 | nil=>cases h
 | cons a l A =>
  simp only[wS];rcases dC.1 h with rfl|h
  ·omega
  ·have:=A h;omega
def Le {ps:List Pc}{p:Pc}(h:p∈ps):p.tm.size<=wS (toS ps):=CQ (p:=(p.nm,p.tm)) (eP.2 ⟨p,h,rfl⟩)
def FO (f:Fm):Prop:=∀(x:IV) (_:IsFm f x) (ps:List Pc) (D:Tag) (A:List IV) (_:okEs D 7) (_:IsPcs ps A) (_:f.size+wS (toS ps)<=1099511627776) (_:f.size+ps.length<=1099511627776) (st:ISt) (_:PsOk ps st),
 ICall prog gl 259 [.sl D A,x] st (λr st'=>IsFmD (jM (toS ps) f) r/\st'=st)
def Lf (T:Gt gl)(op:Nat)(n:ByteArray)(us:List Tm)(sub:List Fm)(IH:∀a∈sub,FO gl a):FO gl (.mk op n us sub):=by
 intro x hx ps tg xs aA az aZ aX st aW;have aT:=hx;obtain⟨t1,x1,t2,x2,rfl,aH,aV,aE,aG,au⟩:=hx.mk;simp only[Fm.size] at aZ aX;have bc:=mv us;have bb:=h_ sub;refine iI func259 ?_;simp only[go_sem,zE,zA,zL,fits,aE.len];intros;refine cV us.length (λk fr st' ds=>(∃D ys,fr 5=.box [.raw (.int .u8 op),n,.sl D ys,()]/\IsTmsD (hZ (fE (toS ps)) (us.take k)) ys/\appT k D/\own st' D k 3 st/\subSt st st') /\
  fr 0=.iv (.sl tg xs)/\fr 3=.box [.raw (.int .u8 op),n,.sl t1 x1,.sl t2 x2]/\fr 4=.box [.raw (.int .u8 0),.raw (.string ⟨#[]⟩),(),()] /\
  fr 16=.iv (.sl t1 x1)/\fr 17=us.length/\fr 18=.iv (.raw (.int .i64 k))/\ds=[]) ?_ ?_ ?_
 ·simp only[go_sem,zE,reduceCtorEq];exact⟨⟨_,_,rfl,IsTmsD.nil,.inl rfl,own.nil _ _ _ _ _,subSt.refl _⟩,rfl⟩
 ·rintro k fr ak _ aa ⟨⟨D,ys,f5,hys,aK,E,O⟩,f0,f3,f4,f16,f17,f18,rfl⟩;obtain⟨a,ha⟩:=dd aa;obtain⟨y,aq,hy⟩:=aE.get ha;obtain⟨h1,h2⟩:=mr ha;have ac:=Ki gl (fE (toS ps)) (λnm u h=>by have:=CQ (Cu h);simp only at this;omega) a y hy (by omega) (.func 286) [.sl tg xs] [] rfl (λi hi=>by cases hi;simp only[go_sem]) st
   (λnm s hs=>lR (by simp only[go_sem]) (by rw[<- KD];exact Kk gl ps tg xs aA az nm s)) ak O
  have ab:ys.length=k:=by rw[hys.len,nT,dO];omega
  have W:∀r,IsTmD (jL (fE (toS ps)) a) r->IsTmsD (hZ (fE (toS ps)) (us.take (k+1))) (ys++[r]):=λr hr=>by
   rw[dK ha,s_];exact hys.append (IsTmsD.one hr)
  obtain⟨v5,n5,t5,x5,rfl⟩:=hy.agg;simp only[go_sem,zE,zB,zA,zL,reduceCtorEq,f0,f5,f16,f17,f18,lt_i aa,dc aV,iNn,aq,fits];refine ac.mono ?_;rintro r _ ⟨hr,rfl⟩;have hn:=W r hr;obtain⟨v6,n6,t6,x6,rfl⟩:=hr.agg;simp only[go_sem,zE,zA,zM,zL,fits,dP];refine iG E ab O rfl (by simp[fits,IV.one]) (by simp only;omega) (by omega) λan ay U ai _ af=>?_;simp only[go_sem,zE,zA,zL,reduceCtorEq,f0,f3,f4,f5,f16,f17,f18,df aa (by omega)];exact⟨an,_,rfl,hn,af,U,ai⟩
 ·rintro fr ak _ ⟨⟨ta,xa,f5,ag,ax,aB,O⟩,f0,f3,f4,f16,f17,f18,rfl⟩;rw[lTl] at ag;have aF:=aB.es;have aw:=aW.mono O;simp only[go_sem,zE,zA,zL,f3,f17,f18,dD (nLi _)];refine (rC gl op n _ _ _ _ _).q ?_;cases hq:isQ op
  ·simp only[go_sem,zE,f3,au.len];intros;refine cV sub.length (λk fr st' ds=>(∃D ys,fr 5=.box [.raw (.int .u8 op),n,.sl ta xa,.sl D ys]/\IsFmsD (jN (toS ps) (sub.take k)) ys/\appT k D/\own st' D k 4 ak/\subSt ak st') /\
    fr 0=.iv (.sl tg xs)/\fr 4=.box [.raw (.int .u8 0),.raw (.string ⟨#[]⟩),(),()] /\
    fr 42=.iv (.sl t2 x2)/\fr 43=sub.length/\fr 44=.iv (.raw (.int .i64 k))/\ds=[]) ?_ ?_ ?_
   ·simp only[go_sem,zE,reduceCtorEq,f0,f4,f5];exact⟨⟨_,_,rfl,IsFmsD.nil,.inl rfl,own.nil _ _ _ _ _,subSt.refl _⟩,rfl⟩
   ·rintro k fr ao _ aa ⟨⟨D,ys,f5,hys,aK,E,A⟩,f0,f4,f42,f43,f44,rfl⟩;obtain⟨a,ha⟩:=dd aa;obtain⟨y,aq,hy⟩:=au.get ha;obtain⟨h1,h2⟩:=jK ha;have ac:=IH a (lMg ha) y hy ps tg xs aA az (by omega) (by omega) ao (aw.mono A);have ab:ys.length=k:=by rw[hys.len,rF,dO];omega
    have W:∀r,IsFmD (jM (toS ps) a) r->IsFmsD (jN (toS ps) (sub.take (k+1))) (ys++[r]):=λr hr=>by
     rw[dK ha,wC];exact hys.append (IsFmsD.one hr)
    obtain⟨o5,n5,t5,x5,t6,x6,rfl⟩:=hy.agg;simp only[go_sem,zE,zB,zA,zL,reduceCtorEq,f0,f5,f42,f43,f44,lt_i aa,dc aG,iNn,aq,fits];refine ac.mono ?_;rintro r _ ⟨hr,rfl⟩;have hn:=W r hr;obtain⟨o7,n7,t7,x7,t8,x8,rfl⟩:=hr.agg;simp only[go_sem,zE,zA,zM,zL,fits,dP];refine iG E ab A rfl (by simp[fits,IV.one]) (by simp only;omega) (by omega) λan st4 U ah _ af=>?_;simp only[go_sem,zE,zA,zL,reduceCtorEq,f0,f4,f5,f42,f43,f44,df aa (by omega)];exact⟨an,_,rfl,hn,af,U,ah⟩
   rintro fr ao _ ⟨⟨tb,xb,f5,ae,ar,E,A⟩,f0,f4,f42,f43,f44,rfl⟩;rw[lTl] at ae;simp only[go_sem,zE,zA,zL,f4,f5,f43,f44,dD (nLi _)];refine dZ (O.trans A) ⟨?_,rfl⟩;exact IsFmD.of ⟨ta,xa,tb,xb,by simp[hq],aH,aF,ag.1,E.es,by simpa[hq] using ae.1⟩ (ax.to (by rw[ag.len,nT])) ag.2 (ar.to (by rw[ae.len,rF])) ae.2
  ·simp only[go_sem,zE,zA,zL,reduceCtorEq,f0,f3];refine (Ld gl T op n us sub _ aT ps tg xs aA az (by omega) (by omega) (λp hp=>by have:=Le hp;omega) ak aw).mono ?_;rintro _ ay ⟨ai,cs,tc,zs,rfl,aU,hzs,aJ,aY,bl⟩;have hw:=KG (toS ps) n (frFs sub);rw[<- aJ] at hw;simp only[go_sem,zE,zA,zL,reduceCtorEq,f3,f5,au.len];intros;refine cV sub.length (λk fr st' ds=>(∃D ys,fr 5=.box [.raw (.int .u8 op),.raw (.string (j5 (toS ps) n (frFs sub)).1),.sl ta xa,.sl D ys]/\IsFmsD (jN (toS cs) (sub.take k)) ys/\appT k D/\own st' D k 4 ay/\subSt ay st') /\
    fr 0=.iv (.sl tc zs)/\fr 4=.box [.raw (.int .u8 0),.raw (.string ⟨#[]⟩),(),()] /\
    fr 42=.iv (.sl t2 x2)/\fr 43=sub.length/\fr 44=.iv (.raw (.int .i64 k))/\ds=[]) ?_ ?_ ?_
   ·simp only[go_sem,zE,reduceCtorEq,f4];exact⟨⟨_,_,rfl,IsFmsD.nil,.inl rfl,own.nil _ _ _ _ _,subSt.refl _⟩,rfl⟩
   ·rintro k fr ao _ aa ⟨⟨D,ys,f5,hys,aK,E,A⟩,f0,f4,f42,f43,f44,rfl⟩;obtain⟨a,ha⟩:=dd aa;obtain⟨y,aq,hy⟩:=au.get ha;obtain⟨h1,h2⟩:=jK ha;have ac:=IH a (lMg ha) y hy cs tc zs aU hzs (by omega) (by omega) ao (aY.mono A);have ab:ys.length=k:=by rw[hys.len,rF,dO];omega
    have W:∀r,IsFmD (jM (toS cs) a) r->IsFmsD (jN (toS cs) (sub.take (k+1))) (ys++[r]):=λr hr=>by
     rw[dK ha,wC];exact hys.append (IsFmsD.one hr)
    obtain⟨o5,n5,t5,x5,t6,x6,rfl⟩:=hy.agg;simp only[go_sem,zE,zB,zA,zL,reduceCtorEq,f0,f5,f42,f43,f44,lt_i aa,dc aG,iNn,aq,fits];refine ac.mono ?_;rintro r _ ⟨hr,rfl⟩;have hn:=W r hr;obtain⟨o7,n7,t7,x7,t8,x8,rfl⟩:=hr.agg;simp only[go_sem,zE,zA,zM,zL,fits,dP];refine iG E ab A rfl (by simp[fits,IV.one]) (by simp only;omega) (by omega) λan st4 U ah _ af=>?_;simp only[go_sem,zE,zA,zL,reduceCtorEq,f0,f4,f5,f42,f43,f44,df aa (by omega)];exact⟨an,_,rfl,hn,af,U,ah⟩
   rintro fr ao _ ⟨⟨tb,xb,f5,ae,ar,E,A⟩,f0,f4,f42,f43,f44,rfl⟩;rw[lTl] at ae;simp only[go_sem,zE,zA,zL,f4,f5,f43,f44,dD (nLi _)];refine dZ (O.trans (ai.trans A)) ⟨?_,rfl⟩;rw[aJ] at ae;exact IsFmD.of ⟨ta,xa,tb,xb,by simp[hq],aH,aF,ag.1,E.es,by simpa[hq] using ae.1⟩ (ax.to (by rw[ag.len,nT])) ag.2 (ar.to (by rw[ae.len,rF])) ae.2
def CR (T:Gt gl):∀(k:Nat) (t:Fm),SizeOf.sizeOf t<k->FO gl t
 | 0,f,h=>by omega
 | k+1,.mk o n us sub,h=>Lf gl T o n us sub (λa A=>CR T k a (by
   have:=lSm A;simp at h;omega))
def Lg (T:Gt gl)(t:Fm):FO gl t:=CR gl T _ t (dM _)
def ko:List ByteArray->Sb->Bool
 | _,[]=>true
 | seen,p::l=>iD p.1&&p.2.ok&&!memB seen p.1&&ko (seen++[p.1]) l
def wQ:∀(l m:Sb)(seen:List ByteArray),ko seen (l++m)=(ko seen l&&ko (seen++l.map (·.1)) m)
 | [],m,seen=>by simp[ko]
 | p::l,m,seen=>by
  simp only[dX,ko,wQ l m,eo,fA,me,dX,gz]
def CS:∀(l:Sb)(seen:List ByteArray),ko seen l=true->(l.map (·.1)).Nodup/\∀p∈l,p.1 ∉ seen/\p.2.ok=true/\iD p.1=true
 | [],seen,_=>⟨List.nodup_nil,λp h=>by cases h⟩
 | p::l,seen,h=>by
  simp only[ko,bAt,fV,zKb] at h;obtain⟨⟨⟨h1,h2⟩,U⟩,O⟩:=h;obtain⟨i1,i2⟩:=CS l _ O;refine⟨?_,λq A=>?_⟩
  ·rw[eo,List.nodup_cons];refine⟨λD=>?_,i1⟩;obtain⟨q,A,E⟩:=eP.1 D;have:=(i2 q A).1;simp[E] at this
  ·rcases dC.1 A with rfl|A
   ·exact⟨U,h2,h1⟩
   ·have:=i2 q A;exact⟨λD=>this.1 (List.mem_append_left _ D),this.2⟩
def oU (l:Sb)(fr:List ByteArray):Sb:=l.filter λp=>memB fr p.1
noncomputable def gV (f:Fm)(l:Sb):Fm×Nat :=
 if f.right&&ko [] l then
  (if decide ((jM (oU l (frF f)) f).size<=400)&&decide ((jM (oU l (frF f)) f).deep<=40) then (jM (oU l (frF f)) f,0) else (fm0,3))
 else (fm0,2)
def tF (t A:Tag)(h:okEs t 3)(D:okEs A 4):IsFm fm0 (.agg [.raw (.int .u8 0),.raw (.string ⟨#[]⟩),.sl t [],.sl A []]):=⟨t,[],A,[],rfl,by omega,h,rfl,D,rfl⟩
def qd (f A:Bool)(e D:Nat):IsFmD fm0 (.agg [.raw (.int .u8 0),.raw (.string ⟨#[]⟩),.sl ⟨f,.nil,e⟩ [],.sl ⟨A,.nil,D⟩ []]):=IsFmD.of (tF _ _ (.inl rfl) (.inl rfl)) (.inl rfl) trivial (.inl rfl) trivial
def Lh (nm:ByteArray)(t:Tm)(v:Bool)(n:ByteArray)(D:Tag)(A:List IV)(hx:IsTm t (.agg [v,n,.sl D A]))(O:t.size<=1099511627776)(st:ISt) :
  ICall prog gl 257 [.agg [nm,v,n,.sl D A]] st
   (λr st'=>∃m,st m=none/\r=kT nm v n D A m t/\st'=st.put m (some (.map .str (setE (fK t))))):=by
 obtain⟨v',n',us⟩:=t;have E:=hx;obtain⟨t2,W,U,_⟩:=hx.mk;cases U;exact B_ gl nm v n us D A E O st
def Li (G:Gl gl)(T:Gt gl)(f:Fm)(x:IV)(hx:IsFm f x)(hs:f.size<=1000000)(l:Sb)(tg:Tag)(xs:List IV)(aV:okEs tg 4)(aU:IsOnes l xs)(hl:l.length<=1000000)(aY:∀p∈l,p.2.size<=1000000)(bA:wS l<=1000000000)(st:ISt) :
  ICall prog gl 232 [x,.sl tg xs] st (FED (gV f l).1 (gV f l).2 st):=by
 have h1:=λst=>rz gl G f x hx st hs;have au:=λst=>wq gl f x hx st;have aw:=λst=>wt gl 270 [.cptr x] (pY f) st (by simp only[go_sem]) (λI=>wu gl f x hx (by omega) I);rw[wB] at aw;have bG:=wG f;have aF:=λ(cs:List Pc) tp zs htp hzs hM st m hm=>Ks gl cs tp zs htp hzs m 1000000 (by omega) hM f x hx (λ_=>0) [] CntOk.nil (λ_=>by omega) (by omega) st hm;have aM:=λ(cs:List Pc) tp zs htp hzs hw bg st aH=>Lg gl T f x hx cs tp zs htp hzs hw bg st aH;obtain⟨o0,n0,ta,xa,tb,xb,rfl⟩:=hx.agg;cases hr:f.right
 ·rw[hr] at h1;have hE:gV f l=(fm0,2):=by simp[gV,hr]
  rw[hE];refine iI func232 ?_;simp only[go_sem,zE,zA,zL];refine (h1 _).q ?_;simp only[go_sem,zE,zA,zL];exact cO ⟨_,rfl,qd _ _ _ _,rfl⟩
 ·rw[hr] at h1;have bh:=(oT hr).1;have bF:=(oT hr).2.1;refine iI func232 ?_;simp only[go_sem,zE,zA,zL];refine (h1 _).q ?_;simp only[go_sem,zE,zA,zL];refine (au _).q ?_;simp only[go_sem,zA];refine (aw _).mono ?_;rintro _ _ ⟨m1,bj,rfl,rfl⟩;simp only[go_sem,zE,aU.len];refine λm2=>eB λaK=>?_;intros;generalize a8:st.put m1 (some (.map .str (setE (frF f))))=S0 at *;have O:subSt st S0:=a8▸fj bj;have a7:S0 m1=some (.map .str (setE (frF f))):=by rw[<- a8,cT]
  refine cV l.length (λk fr st' ds=>(ko [] (l.take k)=true/\subSt S0 st'/\∃U cs tp zs,SetOk U ((l.take k).map (·.1))/\st' m2=some (.map .str U)/\fr 8=.iv (.sl tp zs)/\IsPcs cs zs/\toS cs=oU (l.take k) (frF f)/\PsOk cs st' /\
    (∀p∈cs,p.at_≠m2)/\own st' tp cs.length 7 S0) /\
   fr 2=.box [.raw (.int .u8 o0),n0,.sl ta xa,.sl tb xb]/\fr 4=.box [.raw (.int .u8 0),.raw (.string ⟨#[]⟩),(),()]/\fr 6=.iv (.raw (.map (some m1)))/\fr 7=.iv (.raw (.map (some m2))) /\
   fr 21=.iv (.sl tg xs)/\fr 22=l.length/\fr 23=.iv (.raw (.int .i64 k))/\ds=[]) ?_ ?_ ?_
  ·simp only[go_sem,zE];exact⟨⟨rfl,fj aK,[],[],_,[],SetOk.nil,rfl,rfl,rfl,rfl,(λp h=>by cases h),(λp h=>by cases h),own.nil _ _ _ _ _⟩,rfl⟩
  ·rintro k fr W _ an ⟨⟨D,A,U,cs,tp,zs,hs2,aa,f8,hzs,E,aI,ar,ac⟩,f2,f4,f6,f7,f21,f22,f23,rfl⟩;obtain⟨p,hp⟩:=dd an;obtain⟨y,aZ,v,n3,t3,x3,rfl,hy⟩:=aU.get hp;have bf:=lMg hp;have aH:=aY p bf;have a1:ko [] (l.take (k+1))=(iD p.1&&p.2.ok&&!memB ((l.take k).map (·.1)) p.1):=by
    rw[dK hp,wQ,D];simp[ko]
   have ao:(iD p.1&&p.2.ok&&!memB ((l.take k).map (·.1)) p.1)=false->gV f l=(fm0,2):=λh=>by
    have:ko [] l=false:=by
     rw[<- eF (k+1) l,wQ,a1,h];rfl
    simp[gV,this]
   have aD:=λst=>BX gl p.2 _ hy aH st;have aX:=A m1 _ a7;cases af:iD p.1
   ·rw[ao (by simp[af])];simp only[go_sem,zE,zB,zA,zL,f21,f22,f23,lt_i an,dc aV,iNn,aZ,fits];refine (sY gl p.1 _).q ?_;simp only[go_sem,zE,zA,zL,f4,af];exact dZ (O.trans A) ⟨_,rfl,qd _ _ _ _,rfl⟩
   ·simp only[go_sem,zE,zB,zA,zL,f21,f22,f23,lt_i an,dc aV,iNn,aZ,fits];refine (sY gl p.1 _).q ?_;simp only[go_sem,zE,zA,zL,af];refine (aD _).q ?_;cases aC:p.2.ok
    ·rw[ao (by simp[af,aC])];simp only[go_sem,zE,zA,zL,f4];exact dZ (O.trans A) ⟨_,rfl,qd _ _ _ _,rfl⟩
    ·cases ai:memB ((l.take k).map (·.1)) p.1
     ·have aJ:m1≠m2:=rk a7 aK;have e1:∀o,(W.put m2 o) m1=some (.map .str (setE (frF f))):=λo=>by rw[de aJ];exact aX
      have ae:ko [] (l.take (k+1))=true:=by rw[a1,af,aC,ai];rfl
      have ax:SetOk (updI (.string p.1) true U) ((l.take (k+1)).map (·.1)):=by
       rw[dK hp,jn];exact hs2.upd p.1
      have ag:oU (l.take (k+1)) (frF f)=oU (l.take k) (frF f)++if memB (frF f) p.1 then [p] else []:=by
       rw[dK hp];unfold oU;rw[lC];congr 1;simp only[List.filter_cons,List.filter_nil]
      have aj:subSt S0 (W.put m2 (some (.map .str (updI (.string p.1) true U)))):=CO A aK;have ay:PsOk cs (W.put m2 (some (.map .str (updI (.string p.1) true U)))):=λq hq=>by
       obtain⟨e,h1,h2⟩:=aI q hq;exact⟨e,by rw[de (ar q hq)];exact h1,h2⟩
      have ak:own (W.put m2 (some (.map .str (updI (.string p.1) true U)))) tp cs.length 7 S0:=ac.mono λg hg _=>by
       rw[de (λh=>by rw[h,aa] at hg;cases hg)];exact hg
      cases aq:memB (frF f) p.1
      ·rw[aq] at ag;simp only[bFt,dJ,fH] at ag;simp only[go_sem,zE,f2,f4,f6,f7,f8,f21,f22,f23,aa,hs2.look,ai,e1,(jB (frF f)).look,aq,df an (by omega)];exact⟨ae,aj,_,cs,tp,zs,ax,rfl,rfl,hzs,by rw[E,ag],ay,ar,ak⟩
      ·rw[aq] at ag;simp only[dB] at ag;simp only[go_sem,zE,zA,zL,f6,f7,f8,aa,hs2.look,ai,e1,(jB (frF f)).look,aq];refine (Lh gl p.1 p.2 v n3 t3 x3 hy (by omega) _).mono ?_;rintro _ _ ⟨m3,am,rfl,rfl⟩;have az:m3≠m2:=λh=>by rw[h,cT] at am;cases am
       have aT:IsPc ⟨p.1,p.2,m3⟩ (kT p.1 v n3 t3 x3 m3 p.2):=⟨v,n3,t3,x3,rfl,hy⟩
       have bk:cs.length<=l.length:=by
        have:cs.length=(toS cs).length:=by simp[toS]
        rw[this,E];exact eh (iW _ _) (by rw[dO];omega)
       unfold kT at aT ⊢;simp only[go_sem,zE,zA,zM,zL,fits,dP];refine lq (ak.mono λg hg _=>by rw[de (rk hg am)];exact hg) hzs.len (aj.trans (fj am)) rfl (by simp[fits,IV.one]) (by simp only;omega) (by omega) λbd st4 aW aE aL=>?_;have k2:st4 m2=some (.map .str (updI (.string p.1) true U)):=aL m2 _ (by rw[de (λh=>az h.symm),cT]) (λ_ h=>by cases h);have k3:=aL m3 _ (cT _ m3 _) (λ_ h=>by cases h);simp only[go_sem,zE,f2,f4,f6,f7,f21,f22,f23,df an (by omega)];refine⟨ae,aE,_,cs++[⟨p.1,p.2,m3⟩],bd,_,ax,k2,rfl,hzs.append (IsPcs.one aT),?_,λq hq=>?_,λq hq=>?_,by rw[lLa];exact aW⟩
       ·rw[ag,<- E];simp[toS]
       ·rcases eX.1 hq with hq|hq
        ·obtain⟨e,h1,h2⟩:=ay q hq;exact⟨e,aL _ _ (by rw[de (rk h1 am)];exact h1) (λ_ h=>by cases h),h2⟩
        ·rw[fD] at hq;subst hq;exact⟨_,k3,jB _⟩
       ·rcases eX.1 hq with hq|hq
        ·exact ar q hq
        ·rw[fD] at hq;subst hq;exact az
     ·rw[ao (by rw[af,aC,ai];rfl)];simp only[go_sem,zE,zA,zL,f4,f7,aa,hs2.look,ai];exact dZ (O.trans A) ⟨_,rfl,qd _ _ _ _,rfl⟩
  ·rintro fr W _ ⟨⟨D,A,U,cs,tp,zs,hs2,aa,f8,hzs,E,aI,ar,ac⟩,f2,f4,f6,f7,f21,f22,f23,rfl⟩;rw[lTl] at D E;have bi:(cs.map Pc.nm).Nodup:=by
    have h2:=(CS l [] D).1;have:cs.map Pc.nm=(toS cs).map (·.1):=by simp[toS,Function.comp_def]
    rw[this,E];exact h2.sublist ((List.filter_sublist).map _)
   have hM:∀p∈cs,p.tm.size<=1000000:=λp hp=>by
    have:(p.nm,p.tm)∈toS cs:=eP.2 ⟨p,hp,rfl⟩;rw[E] at this;exact aY _ (jq.1 this).1
   have bk:cs.length<=l.length:=by
    have:cs.length=(toS cs).length:=by simp[toS]
    rw[this,E];exact iW _ _
   have bw:wS (toS cs)<=wS l:=by rw[E];exact tA _ l
   have a6:=KE bi bh;have hP:gV f l=if decide ((jM (toS cs) f).size<=400)&&decide ((jM (toS cs) f).deep<=40) then (jM (toS cs) f,0) else (fm0,3):=by
    simp only[gV,hr,D,Bool.and_self,dB,<- E]
   simp only[go_sem,zE,zA,zL,f2,f8,f22,f23,dD (nLi _)];refine λm4=>eB λav=>?_;refine (aF cs tp zs ac.es hzs hM _ m4 (cT _ _ _)).mono ?_;rintro _ _ ⟨bJ,_,rfl,rfl⟩;rw[a6,eZ];rw[hP];generalize hg:jM (toS cs) f=g at *;by_cases aB:g.size<=400
   ·by_cases aS:g.deep<=40
    ·rw[dEt aB,dEt aS];simp only[Bool.and_self,dB];simp only[go_sem,zE,zA,zL,f2,f8,show decide ((400:Int)<(g.size:Int))=false from dEf (by omega),show decide ((40:Int)<(g.deep:Int))=false from dEf (by omega)];refine (aM cs tp zs ac.es hzs (by omega) (by omega) _ (aI.mono (fj av))).mono ?_;rintro r _ ⟨aG,rfl⟩;rw[hg] at aG;obtain⟨o5,n5,t5,x5,t6,x6,rfl⟩:=aG.agg;simp only[go_sem,zE,zA,zL,f4];exact dZ ((O.trans A).trans (fj av)) ⟨_,rfl,aG,rfl⟩
    ·rw[dEt aB,dEf aS];simp only[i_,bFt,dJ];simp only[go_sem,zE,zA,zL,f4,show decide ((400:Int)<(g.size:Int))=false from dEf (by omega),show decide ((40:Int)<(g.deep:Int))=true from dEt (by omega)];exact dZ ((O.trans A).trans (fj av)) ⟨_,rfl,qd _ _ _ _,rfl⟩
   ·rw[dEf aB];simp only[fk,bFt,dJ];simp only[go_sem,zE,zA,zL,f4,show decide ((400:Int)<(g.size:Int))=true from dEt (by omega)];exact dZ ((O.trans A).trans (fj av)) ⟨_,rfl,qd _ _ _ _,rfl⟩
def Lj (G:Gl gl)(T:Gt gl)(f:Fm)(x:IV)(hx:IsFm f x)(hs:f.size<=1000000)(nm:ByteArray)(t:Tm)(y:IV)(U:IsTm t y)(ht:t.size<=1000000)(st:ISt) :
  ICall prog gl 189 [x,nm,y] st (FED (gV f [(nm,t)]).1 (gV f [(nm,t)]).2 st):=by
 obtain⟨v,n3,t3,E,rfl⟩:=U.agg;have A:IsOnes [(nm,t)] [.agg [nm,v,n3,.sl t3 E]]:=⟨_,[],rfl,⟨v,n3,t3,E,rfl,U⟩,rfl⟩
 have hc:=λW D st=>Li gl G T f x hx hs [(nm,t)] W _ D A (by simp) (λp hp=>by rw[fD] at hp;subst hp;exact ht) (by simp only[wS];omega) st;obtain⟨o0,n0,ta,xa,tb,xb,rfl⟩:=hx.agg;refine iI func189 ?_;simp only[go_sem,zE,zA,zM,zL,fits,dP];refine (hc _ (by simp only[go_sem]) _).mono ?_;rintro _ _ ⟨z,rfl,O,rfl⟩;obtain⟨o5,n5,t5,x5,t6,x6,rfl⟩:=O.agg;simp only[go_sem,zE,zA,zL];exact cO ⟨_,rfl,O,rfl⟩
def Ll (G:Gl gl)(T:Gt gl)(f:Fm)(x:IV)(hx:IsFm f x)(E:f.size<=1000000)(nm:ByteArray)(t:Tm)(y:IV)(A:IsTm t y)(D:t.size<=1000000)(st:ISt) :
  ICall prog gl 189 [x,nm,y] st (FE (gV f [(nm,t)]).1 (gV f [(nm,t)]).2 st):=(Lj gl G T f x hx E nm t y A D st).mono FED.w
