/- Walks: form. -/
import Derived.Test.YtofmbookakncjabGreatDoorKA
set_option linter.all false
open Nat renaming reduceEqDiff → zE,reduceBEq → zB,reduceAdd → zA,reduceMul → zM,reduceLeDiff → zL
namespace Go.Proofs.Tryz
open Go Go.Iv
set_option maxRecDepth 4000
variable (gl:Nat->Option IV)
def Fl {l:Sb}{p:ByteArray×Tm}(h:p∈l):p.2.size<=wS l:=by
 induction l with
 | nil=>cases h
 | cons a l A =>
  simp only[wS];rcases eK.1 h with rfl|h
  ·omega
  ·have:=A h;omega
def Ni {ps:List Pc}{p:Pc}(h:p∈ps):p.tm.size<=wS (toS ps):=Fl (p:=(p.nm,p.tm)) (eh.2 ⟨p,h,rfl⟩)
def FO (f:Fm):Prop:=∀(x:IV) (_:IsFm f x) (ps:List Pc) (D:Tag) (A:List IV) (_:okEs D 7) (_:IsPcs ps A) (_:f.size+wS (toS ps)<=1099511627776) (_:f.size+ps.length<=1099511627776) (st:ISt) (_:PsOk ps st),
 ICall prog gl 212 [.sl D A,x] st (λr st'=>IsFmD (kj (toS ps) f) r/\st'=st)
def Nj (T:Gt gl)(op:Nat)(n:ByteArray)(us:List Tm)(sub:List Fm)(IH:∀a∈sub,FO gl a):FO gl (.mk op n us sub):=by
 intro x hx ps tg xs az ay aW aU st aT;have aO:=hx;obtain⟨t1,x1,t2,x2,rfl,aF,aS,aD,aE,aq⟩:=hx.mk;simp only[Fm.size] at aW aU;have ba:=p7 us;have a8:=oj sub;refine iI func212 ?_;simp only[go_sem,zE,zA,zL,fits,aD.len];intros;refine dC us.length (λk fr st' ds=>(∃D ys,fr 5=.box [.raw (.int .u8 op),n,.sl D ys,()]/\IsTmsD (iz (gL (toS ps)) (us.take k)) ys/\appT k D/\own st' D k 3 st/\subSt st st') /\
  fr 0=.iv (.sl tg xs)/\fr 3=.box [.raw (.int .u8 op),n,.sl t1 x1,.sl t2 x2]/\fr 4=.box [.raw (.int .u8 0),.raw (.string ⟨#[]⟩),(),()] /\
  fr 16=.iv (.sl t1 x1)/\fr 17=us.length/\fr 18=.iv (.raw (.int .i64 k))/\ds=[]) ?_ ?_ ?_
 ·simp only[go_sem,zE,reduceCtorEq];exact⟨⟨_,_,rfl,IsTmsD.nil,.inl rfl,own.nil _ _ _ _ _,subSt.refl _⟩,rfl⟩
 ·rintro k fr aj _ U ⟨⟨D,ys,f5,hys,aI,E,G⟩,f0,f3,f4,f16,f17,f18,rfl⟩;obtain⟨a,ha⟩:=ed U;obtain⟨y,an,hy⟩:=aD.get ha;obtain⟨h1,h2⟩:=oe ha;have ab:=EB gl (gL (toS ps)) (λnm u h=>by have:=Fl (EW h);simp only at this;omega) a y hy (by omega) (.func 243) [.sl tg xs] [] rfl (λi hi=>by cases hi;simp only[go_sem]) st
   (λnm s hs=>ICallV.of_ICall (by simp only[go_sem]) (by rw[<- MC];exact Mg gl ps tg xs az ay nm s)) aj G
  have aa:ys.length=k:=by rw[hys.len,nr,eO];omega
  have O:∀r,IsTmD (jS (gL (toS ps)) a) r->IsTmsD (iz (gL (toS ps)) (us.take (k+1))) (ys++[r]):=λr hr=>by
   rw[en ha,uk];exact hys.append (IsTmsD.one hr)
  obtain⟨v5,n5,t5,x5,rfl⟩:=hy.agg;simp only[go_sem,zE,zB,zA,zL,reduceCtorEq,f0,f5,f16,f17,f18,lt_i U,ec aS,iNn,an,fits];refine ab.mono ?_;rintro r _ ⟨hr,rfl⟩;have hn:=O r hr;obtain⟨v6,n6,t6,x6,rfl⟩:=hr.agg;simp only[go_sem,zE,zA,zM,zL,fits,fg];refine ou E aa G rfl (by simp[fits,IV.one]) (by simp only;omega) (by omega) λal ax J ah _ ae=>?_;simp only[go_sem,zE,zA,zL,reduceCtorEq,f0,f3,f4,f5,f16,f17,f18,ek U (by omega)];exact⟨al,_,rfl,hn,ae,J,ah⟩
 ·rintro fr aj _ ⟨⟨ta,xa,f5,af,aw,aA,G⟩,f0,f3,f4,f16,f17,f18,rfl⟩;rw[lTl] at af;have hta:=aA.es;have av:=aT.mono G;simp only[go_sem,zE,zA,zL,f3,f17,f18,eI (nLi _)];refine (qZ gl op n _ _ _ _ _).q ?_;cases hq:isQ op
  ·simp only[go_sem,zE,f3,aq.len];intros;refine dC sub.length (λk fr st' ds=>(∃D ys,fr 5=.box [.raw (.int .u8 op),n,.sl ta xa,.sl D ys]/\IsFmsD (kl (toS ps) (sub.take k)) ys/\appT k D/\own st' D k 4 aj/\subSt aj st') /\
    fr 0=.iv (.sl tg xs)/\fr 4=.box [.raw (.int .u8 0),.raw (.string ⟨#[]⟩),(),()] /\
    fr 42=.iv (.sl t2 x2)/\fr 43=sub.length/\fr 44=.iv (.raw (.int .i64 k))/\ds=[]) ?_ ?_ ?_
   ·simp only[go_sem,zE,reduceCtorEq,f0,f4,f5];exact⟨⟨_,_,rfl,IsFmsD.nil,.inl rfl,own.nil _ _ _ _ _,subSt.refl _⟩,rfl⟩
   ·rintro k fr am _ U ⟨⟨D,ys,f5,hys,aI,E,A⟩,f0,f4,f42,f43,f44,rfl⟩;obtain⟨a,ha⟩:=ed U;obtain⟨y,an,hy⟩:=aq.get ha;obtain⟨h1,h2⟩:=kW ha;have ab:=IH a (lMg ha) y hy ps tg xs az ay (by omega) (by omega) am (av.mono A);have aa:ys.length=k:=by rw[hys.len,uo,eO];omega
    have O:∀r,IsFmD (kj (toS ps) a) r->IsFmsD (kl (toS ps) (sub.take (k+1))) (ys++[r]):=λr hr=>by
     rw[en ha,Ac];exact hys.append (IsFmsD.one hr)
    obtain⟨o5,n5,t5,x5,t6,x6,rfl⟩:=hy.agg;simp only[go_sem,zE,zB,zA,zL,reduceCtorEq,f0,f5,f42,f43,f44,lt_i U,ec aE,iNn,an,fits];refine ab.mono ?_;rintro r _ ⟨hr,rfl⟩;have hn:=O r hr;obtain⟨o7,n7,t7,x7,t8,x8,rfl⟩:=hr.agg;simp only[go_sem,zE,zA,zM,zL,fits,fg];refine ou E aa A rfl (by simp[fits,IV.one]) (by simp only;omega) (by omega) λal st4 J ag _ ae=>?_;simp only[go_sem,zE,zA,zL,reduceCtorEq,f0,f4,f5,f42,f43,f44,ek U (by omega)];exact⟨al,_,rfl,hn,ae,J,ag⟩
   rintro fr am _ ⟨⟨tb,xb,f5,ac,ao,E,A⟩,f0,f4,f42,f43,f44,rfl⟩;rw[lTl] at ac;simp only[go_sem,zE,zA,zL,f4,f5,f43,f44,eI (nLi _)];refine fN (G.trans A) ⟨?_,rfl⟩;exact IsFmD.of ⟨ta,xa,tb,xb,by simp[hq],aF,hta,af.1,E.es,by simpa[hq] using ac.1⟩ (aw.to (by rw[af.len,nr])) af.2 (ao.to (by rw[ac.len,uo])) ac.2
  ·simp only[go_sem,zE,zA,zL,reduceCtorEq,f0,f3];refine (Nh gl T op n us sub _ aO ps tg xs az ay (by omega) (by omega) (λp hp=>by have:=Ni hp;omega) aj av).mono ?_;rintro _ ax ⟨ah,cs,tc,zs,rfl,aQ,hzs,aH,aV,bj⟩;have hw:=MF (toS ps) n (frFs sub);rw[<- aH] at hw;simp only[go_sem,zE,zA,zL,reduceCtorEq,f3,f5,aq.len];intros;refine dC sub.length (λk fr st' ds=>(∃D ys,fr 5=.box [.raw (.int .u8 op),.raw (.string (kK (toS ps) n (frFs sub)).1),.sl ta xa,.sl D ys]/\IsFmsD (kl (toS cs) (sub.take k)) ys/\appT k D/\own st' D k 4 ax/\subSt ax st') /\
    fr 0=.iv (.sl tc zs)/\fr 4=.box [.raw (.int .u8 0),.raw (.string ⟨#[]⟩),(),()] /\
    fr 42=.iv (.sl t2 x2)/\fr 43=sub.length/\fr 44=.iv (.raw (.int .i64 k))/\ds=[]) ?_ ?_ ?_
   ·simp only[go_sem,zE,reduceCtorEq,f4];exact⟨⟨_,_,rfl,IsFmsD.nil,.inl rfl,own.nil _ _ _ _ _,subSt.refl _⟩,rfl⟩
   ·rintro k fr am _ U ⟨⟨D,ys,f5,hys,aI,E,A⟩,f0,f4,f42,f43,f44,rfl⟩;obtain⟨a,ha⟩:=ed U;obtain⟨y,an,hy⟩:=aq.get ha;obtain⟨h1,h2⟩:=kW ha;have ab:=IH a (lMg ha) y hy cs tc zs aQ hzs (by omega) (by omega) am (aV.mono A);have aa:ys.length=k:=by rw[hys.len,uo,eO];omega
    have O:∀r,IsFmD (kj (toS cs) a) r->IsFmsD (kl (toS cs) (sub.take (k+1))) (ys++[r]):=λr hr=>by
     rw[en ha,Ac];exact hys.append (IsFmsD.one hr)
    obtain⟨o5,n5,t5,x5,t6,x6,rfl⟩:=hy.agg;simp only[go_sem,zE,zB,zA,zL,reduceCtorEq,f0,f5,f42,f43,f44,lt_i U,ec aE,iNn,an,fits];refine ab.mono ?_;rintro r _ ⟨hr,rfl⟩;have hn:=O r hr;obtain⟨o7,n7,t7,x7,t8,x8,rfl⟩:=hr.agg;simp only[go_sem,zE,zA,zM,zL,fits,fg];refine ou E aa A rfl (by simp[fits,IV.one]) (by simp only;omega) (by omega) λal st4 J ag _ ae=>?_;simp only[go_sem,zE,zA,zL,reduceCtorEq,f0,f4,f5,f42,f43,f44,ek U (by omega)];exact⟨al,_,rfl,hn,ae,J,ag⟩
   rintro fr am _ ⟨⟨tb,xb,f5,ac,ao,E,A⟩,f0,f4,f42,f43,f44,rfl⟩;rw[lTl] at ac;simp only[go_sem,zE,zA,zL,f4,f5,f43,f44,eI (nLi _)];refine fN (G.trans (ah.trans A)) ⟨?_,rfl⟩;rw[aH] at ac;exact IsFmD.of ⟨ta,xa,tb,xb,by simp[hq],aF,hta,af.1,E.es,by simpa[hq] using ac.1⟩ (aw.to (by rw[af.len,nr])) af.2 (ao.to (by rw[ac.len,uo])) ac.2
def Fp (T:Gt gl):∀(k:Nat) (t:Fm),SizeOf.sizeOf t<k->FO gl t
 | 0,f,h=>by omega
 | k+1,.mk o n us sub,h=>Nj gl T o n us sub (λa A=>Fp T k a (by
   have:=lSm A;simp at h;omega))
def Nk (T:Gt gl)(t:Fm):FO gl t:=Fp gl T _ t (fP _)
def kY:List ByteArray->Sb->Bool
 | _,[]=>true
 | seen,p::l=>kJ p.1&&p.2.ok&&!memB seen p.1&&kY (seen++[p.1]) l
def Au:∀(l m:Sb)(seen:List ByteArray),kY seen (l++m)=(kY seen l&&kY (seen++l.map (·.1)) m)
 | [],m,seen=>by simp[kY]
 | p::l,m,seen=>by
  simp only[fq,kY,Au l m,ff,fD,qz,fq,f_]
def Fq:∀(l:Sb)(seen:List ByteArray),kY seen l=true->(l.map (·.1)).Nodup/\∀p∈l,p.1 ∉ seen/\p.2.ok=true/\kJ p.1=true
 | [],seen,_=>⟨kE,λp h=>by cases h⟩
 | p::l,seen,h=>by
  simp only[kY,bAt,mg,zJd] at h;obtain⟨⟨⟨h1,h2⟩,J⟩,G⟩:=h;obtain⟨i1,i2⟩:=Fq l _ G;refine⟨?_,λq A=>?_⟩
  ·rw[ff,jo];refine⟨λD=>?_,i1⟩;obtain⟨q,A,E⟩:=eh.1 D;have:=(i2 q A).1;simp[E] at this
  ·rcases eK.1 A with rfl|A
   ·exact⟨J,h2,h1⟩
   ·have:=i2 q A;exact⟨λD=>this.1 (jH _ D),this.2⟩
def qb (l:Sb)(fr:List ByteArray):Sb:=l.filter λp=>memB fr p.1
noncomputable def jf (f:Fm)(l:Sb):Fm×Nat :=
 if f.right&&kY [] l then
  (if decide ((kj (qb l (frF f)) f).size<=400)&&decide ((kj (qb l (frF f)) f).deep<=40) then (kj (qb l (frF f)) f,0) else (fm0,3))
 else (fm0,2)
def Fs (t A:Tag)(h:okEs t 3)(D:okEs A 4):IsFm fm0 (.agg [.raw (.int .u8 0),.raw (.string ⟨#[]⟩),.sl t [],.sl A []]):=⟨t,[],A,[],rfl,by omega,h,rfl,D,rfl⟩
def rq (f A:Bool)(e D:Nat):IsFmD fm0 (.agg [.raw (.int .u8 0),.raw (.string ⟨#[]⟩),.sl ⟨f,.nil,e⟩ [],.sl ⟨A,.nil,D⟩ []]):=IsFmD.of (Fs _ _ (.inl rfl) (.inl rfl)) (.inl rfl) trivial (.inl rfl) trivial
def Nl (nm:ByteArray)(t:Tm)(v:Bool)(n:ByteArray)(D:Tag)(A:List IV)(G:IsTm t (.agg [v,n,.sl D A]))(hs:t.size<=1099511627776)(st:ISt) :
  ICall prog gl 210 [.agg [nm,v,n,.sl D A]] st
   (λr st'=>∃m,st m=none/\r=lK nm v n D A m t/\st'=st.put m (some (.map .str (setE (gQ t))))):=by
 obtain⟨U,n',us⟩:=t;have E:=G;obtain⟨t2,O,J,_⟩:=G.mk;cases J;exact EC gl nm v n us D A E hs st
def Nn (G:Gl gl)(T:Gt gl)(f:Fm)(x:IV)(hx:IsFm f x)(hs:f.size<=1000000)(l:Sb)(tg:Tag)(xs:List IV)(aX:okEs tg 4)(aW:IsOnes l xs)(hl:l.length<=1000000)(a1:∀p∈l,p.2.size<=1000000)(bx:wS l<=1000000000)(st:ISt) :
  ICall prog gl 171 [x,.sl tg xs] st (FED (jf f l).1 (jf f l).2 st):=by
 have h1:=λst=>uh gl G f x hx st hs;have av:=λst=>v7 gl f x hx st;have ax:=λst=>v8 gl 216 [.cptr x] (pZ f) st (by simp only[go_sem]) (λI=>wa gl f x hx (by omega) I);rw[wg] at ax;have bD:=wk f;have aG:=λ(cs:List Pc) tp zs htp hzs hM st m hm=>Mo gl cs tp zs htp hzs m 1000000 (by omega) hM f x hx (λ_=>0) [] CntOk.nil (λ_=>by omega) (by omega) st hm;have aN:=λ(cs:List Pc) tp zs htp hzs hw bj st aI=>Nk gl T f x hx cs tp zs htp hzs hw bj st aI;obtain⟨o0,n0,ta,xa,tb,xb,rfl⟩:=hx.agg;cases hr:f.right
 ·rw[hr] at h1;have hE:jf f l=(fm0,2):=by simp[jf,hr]
  rw[hE];refine iI func171 ?_;simp only[go_sem,zE,zA,zL];refine (h1 _).q ?_;simp only[go_sem,zE,zA,zL];exact dw ⟨_,rfl,rq _ _ _ _,rfl⟩
 ·rw[hr] at h1;have bk:=(p9 hr).1;have bC:=(p9 hr).2.1;refine iI func171 ?_;simp only[go_sem,zE,zA,zL];refine (h1 _).q ?_;simp only[go_sem,zE,zA,zL];refine (av _).q ?_;simp only[go_sem,zA];refine (ax _).mono ?_;rintro _ _ ⟨m1,bl,rfl,rfl⟩;simp only[go_sem,zE,aW.len];refine λm2=>fc λaL=>?_;intros;generalize bb:st.put m1 (some (.map .str (setE (frF f))))=S0 at *;have J:subSt st S0:=bb▸gj bl;have ba:S0 m1=some (.map .str (setE (frF f))):=by rw[<- bb,b_]
  refine dC l.length (λk fr st' ds=>(kY [] (l.take k)=true/\subSt S0 st'/\∃O cs tp zs,SetOk O ((l.take k).map (·.1))/\st' m2=some (.map .str O)/\fr 8=.iv (.sl tp zs)/\IsPcs cs zs/\toS cs=qb (l.take k) (frF f)/\PsOk cs st' /\
    (∀p∈cs,p.at_≠m2)/\own st' tp cs.length 7 S0) /\
   fr 2=.box [.raw (.int .u8 o0),n0,.sl ta xa,.sl tb xb]/\fr 4=.box [.raw (.int .u8 0),.raw (.string ⟨#[]⟩),(),()]/\fr 6=.iv (.raw (.map (some m1)))/\fr 7=.iv (.raw (.map (some m2))) /\
   fr 21=.iv (.sl tg xs)/\fr 22=l.length/\fr 23=.iv (.raw (.int .i64 k))/\ds=[]) ?_ ?_ ?_
  ·simp only[go_sem,zE];exact⟨⟨rfl,gj aL,[],[],_,[],SetOk.nil,rfl,rfl,rfl,rfl,(λp h=>by cases h),(λp h=>by cases h),own.nil _ _ _ _ _⟩,rfl⟩
  ·rintro k fr U _ an ⟨⟨D,A,O,cs,tp,zs,ak,aa,f8,hzs,E,aJ,au,ac⟩,f2,f4,f6,f7,f21,f22,f23,rfl⟩;obtain⟨p,hp⟩:=ed an;obtain⟨y,a6,v,n3,t3,x3,rfl,hy⟩:=aW.get hp;have bi:=lMg hp;have aI:=a1 p bi;have a7:kY [] (l.take (k+1))=(kJ p.1&&p.2.ok&&!memB ((l.take k).map (·.1)) p.1):=by
    rw[en hp,Au,D];simp[kY]
   have ao:(kJ p.1&&p.2.ok&&!memB ((l.take k).map (·.1)) p.1)=false->jf f l=(fm0,2):=λh=>by
    have:kY [] l=false:=by
     rw[<- fh (k+1) l,Au,a7,h];rfl
    simp[jf,this]
   have aE:=λst=>En gl p.2 _ hy aI st;have aZ:=A m1 _ ba;cases af:kJ p.1
   ·rw[ao (by simp[af])];simp only[go_sem,zE,zB,zA,zL,f21,f22,f23,lt_i an,ec aX,iNn,a6,fits];refine (vV gl p.1 _).q ?_;simp only[go_sem,zE,zA,zL,f4,af];exact fN (J.trans A) ⟨_,rfl,rq _ _ _ _,rfl⟩
   ·simp only[go_sem,zE,zB,zA,zL,f21,f22,f23,lt_i an,ec aX,iNn,a6,fits];refine (vV gl p.1 _).q ?_;simp only[go_sem,zE,zA,zL,af];refine (aE _).q ?_;cases aD:p.2.ok
    ·rw[ao (by simp[af,aD])];simp only[go_sem,zE,zA,zL,f4];exact fN (J.trans A) ⟨_,rfl,rq _ _ _ _,rfl⟩
    ·cases ai:memB ((l.take k).map (·.1)) p.1
     ·have aK:m1≠m2:=n_ ba aL;have e1:∀o,(U.put m2 o) m1=some (.map .str (setE (frF f))):=λo=>by rw[dZ aK];exact aZ
      have ae:kY [] (l.take (k+1))=true:=by rw[a7,af,aD,ai];rfl
      have ay:SetOk (updI (.string p.1) true O) ((l.take (k+1)).map (·.1)):=by
       rw[en hp,fS];exact ak.upd p.1
      have ag:qb (l.take (k+1)) (frF f)=qb (l.take k) (frF f)++if memB (frF f) p.1 then [p] else []:=by
       rw[en hp];unfold qb;rw[List.filter_append];congr 1;simp only[kv,List.filter_nil]
      have aj:subSt S0 (U.put m2 (some (.map .str (updI (.string p.1) true O)))):=uy A aL;have az:PsOk cs (U.put m2 (some (.map .str (updI (.string p.1) true O)))):=λq hq=>by
       obtain⟨e,h1,h2⟩:=aJ q hq;exact⟨e,by rw[dZ (au q hq)];exact h1,h2⟩
      have al:own (U.put m2 (some (.map .str (updI (.string p.1) true O)))) tp cs.length 7 S0:=ac.mono λg hg _=>by
       rw[dZ (λh=>by rw[h,aa] at hg;cases hg)];exact hg
      cases aq:memB (frF f) p.1
      ·rw[aq] at ag;simp only[bFt,et,fL] at ag;simp only[go_sem,zE,f2,f4,f6,f7,f8,f21,f22,f23,aa,ak.look,ai,e1,(jB (frF f)).look,aq,ek an (by omega)];exact⟨ae,aj,_,cs,tp,zs,ay,rfl,rfl,hzs,by rw[E,ag],az,au,al⟩
      ·rw[aq] at ag;simp only[el] at ag;simp only[go_sem,zE,zA,zL,f6,f7,f8,aa,ak.look,ai,e1,(jB (frF f)).look,aq];refine (Nl gl p.1 p.2 v n3 t3 x3 hy (by omega) _).mono ?_;rintro _ _ ⟨m3,am,rfl,rfl⟩;have aA:m3≠m2:=λh=>by rw[h,b_] at am;cases am
       have aV:IsPc ⟨p.1,p.2,m3⟩ (lK p.1 v n3 t3 x3 m3 p.2):=⟨v,n3,t3,x3,rfl,hy⟩
       have bm:cs.length<=l.length:=by
        have:cs.length=(toS cs).length:=by simp[toS]
        rw[this,E];exact eM (kB _ _) (by rw[eO];omega)
       unfold lK at aV ⊢;simp only[go_sem,zE,zA,zM,zL,fits,fg];refine je (al.mono λg hg _=>by rw[dZ (n_ hg am)];exact hg) hzs.len (aj.trans (gj am)) rfl (by simp[fits,IV.one]) (by simp only;omega) (by omega) λbf st4 aY aF aM=>?_;have k2:st4 m2=some (.map .str (updI (.string p.1) true O)):=aM m2 _ (by rw[dZ (λh=>aA h.symm),b_]) (λ_ h=>by cases h);have k3:=aM m3 _ (b_ _ m3 _) (λ_ h=>by cases h);simp only[go_sem,zE,f2,f4,f6,f7,f21,f22,f23,ek an (by omega)];refine⟨ae,aF,_,cs++[⟨p.1,p.2,m3⟩],bf,_,ay,k2,rfl,hzs.append (IsPcs.one aV),?_,λq hq=>?_,λq hq=>?_,by rw[lLa];exact aY⟩
       ·rw[ag,<- E];simp[toS]
       ·rcases eQ.1 hq with hq|hq
        ·obtain⟨e,h1,h2⟩:=az q hq;exact⟨e,aM _ _ (by rw[dZ (n_ h1 am)];exact h1) (λ_ h=>by cases h),h2⟩
        ·rw[eY] at hq;subst hq;exact⟨_,k3,jB _⟩
       ·rcases eQ.1 hq with hq|hq
        ·exact au q hq
        ·rw[eY] at hq;subst hq;exact aA
     ·rw[ao (by rw[af,aD,ai];rfl)];simp only[go_sem,zE,zA,zL,f4,f7,aa,ak.look,ai];exact fN (J.trans A) ⟨_,rfl,rq _ _ _ _,rfl⟩
  ·rintro fr U _ ⟨⟨D,A,O,cs,tp,zs,ak,aa,f8,hzs,E,aJ,au,ac⟩,f2,f4,f6,f7,f21,f22,f23,rfl⟩;rw[lTl] at D E;have hnd:(cs.map Pc.nm).Nodup:=by
    have h2:=(Fq l [] D).1;have:cs.map Pc.nm=(toS cs).map (·.1):=by simp[toS,Function.comp_def]
    rw[this,E];exact h2.sublist ((List.filter_sublist).map _)
   have hM:∀p∈cs,p.tm.size<=1000000:=λp hp=>by
    have:(p.nm,p.tm)∈toS cs:=eh.2 ⟨p,hp,rfl⟩;rw[E] at this;exact a1 _ (j3.1 this).1
   have bm:cs.length<=l.length:=by
    have:cs.length=(toS cs).length:=by simp[toS]
    rw[this,E];exact kB _ _
   have bw:wS (toS cs)<=wS l:=by rw[E];exact wm _ l
   have a8:=MD hnd bk;have hP:jf f l=if decide ((kj (toS cs) f).size<=400)&&decide ((kj (toS cs) f).deep<=40) then (kj (toS cs) f,0) else (fm0,3):=by
    simp only[jf,hr,D,Bool.and_self,el,<- E]
   simp only[go_sem,zE,zA,zL,f2,f8,f22,f23,eI (nLi _)];refine λm4=>fc λaw=>?_;refine (aG cs tp zs ac.es hzs hM _ m4 (b_ _ _ _)).mono ?_;rintro _ _ ⟨bH,_,rfl,rfl⟩;rw[a8,fW];rw[hP];generalize hg:kj (toS cs) f=g at *;by_cases aC:g.size<=400
   ·by_cases aU:g.deep<=40
    ·rw[dEt aC,dEt aU];simp only[Bool.and_self,el];simp only[go_sem,zE,zA,zL,f2,f8,show decide ((400:Int)<(g.size:Int))=false from dEf (by omega),show decide ((40:Int)<(g.deep:Int))=false from dEf (by omega)];refine (aN cs tp zs ac.es hzs (by omega) (by omega) _ (aJ.mono (gj aw))).mono ?_;rintro r _ ⟨aH,rfl⟩;rw[hg] at aH;obtain⟨o5,n5,t5,x5,t6,x6,rfl⟩:=aH.agg;simp only[go_sem,zE,zA,zL,f4];exact fN ((J.trans A).trans (gj aw)) ⟨_,rfl,aH,rfl⟩
    ·rw[dEt aC,dEf aU];simp only[Bool.and_false,bFt,et];simp only[go_sem,zE,zA,zL,f4,show decide ((400:Int)<(g.size:Int))=false from dEf (by omega),show decide ((40:Int)<(g.deep:Int))=true from dEt (by omega)];exact fN ((J.trans A).trans (gj aw)) ⟨_,rfl,rq _ _ _ _,rfl⟩
   ·rw[dEf aC];simp only[qA,bFt,et];simp only[go_sem,zE,zA,zL,f4,show decide ((400:Int)<(g.size:Int))=true from dEt (by omega)];exact fN ((J.trans A).trans (gj aw)) ⟨_,rfl,rq _ _ _ _,rfl⟩
def No (G:Gl gl)(T:Gt gl)(f:Fm)(x:IV)(hx:IsFm f x)(hs:f.size<=1000000)(nm:ByteArray)(t:Tm)(y:IV)(U:IsTm t y)(ht:t.size<=1000000)(st:ISt) :
  ICall prog gl 133 [x,nm,y] st (FED (jf f [(nm,t)]).1 (jf f [(nm,t)]).2 st):=by
 obtain⟨v,J,t3,E,rfl⟩:=U.agg;have A:IsOnes [(nm,t)] [.agg [nm,v,J,.sl t3 E]]:=⟨_,[],rfl,⟨v,J,t3,E,rfl,U⟩,rfl⟩
 have hc:=λtg D st=>Nn gl G T f x hx hs [(nm,t)] tg _ D A (by simp) (λp hp=>by rw[eY] at hp;subst hp;exact ht) (by simp only[wS];omega) st;obtain⟨o0,n0,ta,xa,tb,xb,rfl⟩:=hx.agg;refine iI func133 ?_;simp only[go_sem,zE,zA,zM,zL,fits,fg];refine (hc _ (by simp only[go_sem]) _).mono ?_;rintro _ _ ⟨z,rfl,O,rfl⟩;obtain⟨o5,n5,t5,x5,t6,x6,rfl⟩:=O.agg;simp only[go_sem,zE,zA,zL];exact dw ⟨_,rfl,O,rfl⟩
def Np (G:Gl gl)(T:Gt gl)(f:Fm)(x:IV)(D:IsFm f x)(hs:f.size<=1000000)(nm:ByteArray)(t:Tm)(y:IV)(A:IsTm t y)(ht:t.size<=1000000)(st:ISt) :
  ICall prog gl 133 [x,nm,y] st (FE (jf f [(nm,t)]).1 (jf f [(nm,t)]).2 st):=(No gl G T f x D hs nm t y A ht st).mono FED.w
