/- Walks: form. -/
import Derived.Test.YtakbihknkdpmgaaGreatDoorKA
set_option linter.all false
open Nat renaming reduceEqDiff → zE,reduceBEq → zB,reduceAdd → zA,reduceMul → zM,reduceLeDiff → zL
namespace Go.Proofs.Tryz
open Go Go.Iv
set_option maxRecDepth 4000
variable (gl:Nat->Option IV)
def Dk {l:Sb}{p:ByteArray×Tm}(h:p∈l):p.2.size<=wS l:=by
 induction l with
 | nil=>cases h
 | cons a l A =>
  simp only[wS];rcases dN.1 h with rfl|h
  ·omega
  ·have:=A h;omega
def LH {ps:List Pc}{p:Pc}(h:p∈ps):p.tm.size<=wS (toS ps):=Dk (p:=(p.nm,p.tm)) (dH.2 ⟨p,h,rfl⟩)
def FO (f:Fm):Prop:=∀(x:IV) (_:IsFm f x) (ps:List Pc) (D:Tag) (A:List IV) (_:okEs D 7) (_:IsPcs ps A) (_:f.size+wS (toS ps)<=1099511627776) (_:f.size+ps.length<=1099511627776) (st:ISt) (_:PsOk ps st),
 ICall prog gl 225 [.sl D A,x] st (λr st'=>IsFmD (js (toS ps) f) r/\st'=st)
def LI (T:Gt gl)(op:Nat)(n:ByteArray)(us:List Tm)(sub:List Fm)(IH:∀a∈sub,FO gl a):FO gl (.mk op n us sub):=by
 intro x hx ps tg xs az ay aW aU st aT;have aO:=hx;obtain⟨t1,x1,t2,x2,rfl,aF,aS,aD,aE,aq⟩:=hx.mk;simp only[Fm.size] at aW aU;have ba:=nM us;have a8:=kX sub;refine iI func225 ?_;simp only[go_sem,zE,zA,zL,fits,aD.len];intros;refine dj us.length (λk fr st' ds=>(∃D ys,fr 5=.box [.raw (.int .u8 op),n,.sl D ys,()]/\IsTmsD (gk (fG (toS ps)) (us.take k)) ys/\appT k D/\own st' D k 3 st/\subSt st st') /\
  fr 0=.iv (.sl tg xs)/\fr 3=.box [.raw (.int .u8 op),n,.sl t1 x1,.sl t2 x2]/\fr 4=.box [.raw (.int .u8 0),.raw (.string ⟨#[]⟩),(),()] /\
  fr 16=.iv (.sl t1 x1)/\fr 17=us.length/\fr 18=.iv (.raw (.int .i64 k))/\ds=[]) ?_ ?_ ?_
 ·simp only[go_sem,zE,reduceCtorEq];exact⟨⟨_,_,rfl,IsTmsD.nil,.inl rfl,own.nil _ _ _ _ _,subSt.refl _⟩,rfl⟩
 ·rintro k fr aj _ U ⟨⟨D,ys,f5,hys,aI,E,G⟩,f0,f3,f4,f16,f17,f18,rfl⟩;obtain⟨a,ha⟩:=dB U;obtain⟨y,an,hy⟩:=aD.get ha;obtain⟨h1,h2⟩:=mc ha;have ab:=CC gl (fG (toS ps)) (λnm u h=>by have:=Dk (CW h);simp only at this;omega) a y hy (by omega) (.func 277) [.sl tg xs] [] rfl (λi hi=>by cases hi;simp only[go_sem]) st
   (λnm s hs=>ICallV.of_ICall (by simp only[go_sem]) (by rw[<- K1];exact KH gl ps tg xs az ay nm s)) aj G
  have aa:ys.length=k:=by rw[hys.len,mf,dQ];omega
  have O:∀r,IsTmD (iO (fG (toS ps)) a) r->IsTmsD (gk (fG (toS ps)) (us.take (k+1))) (ys++[r]):=λr hr=>by
   rw[dE ha,rC];exact hys.append (IsTmsD.one hr)
  obtain⟨v5,n5,t5,x5,rfl⟩:=hy.agg;simp only[go_sem,zE,zB,zA,zL,reduceCtorEq,f0,f5,f16,f17,f18,lt_i U,dz aS,iNn,an,fits];refine ab.mono ?_;rintro r _ ⟨hr,rfl⟩;have hn:=O r hr;obtain⟨v6,n6,t6,x6,rfl⟩:=hr.agg;simp only[go_sem,zE,zA,zM,zL,fits,dW];refine jN E aa G rfl (by simp[fits,IV.one]) (by simp only;omega) (by omega) λal ax J ah _ ae=>?_;simp only[go_sem,zE,zA,zL,reduceCtorEq,f0,f3,f4,f5,f16,f17,f18,dC U (by omega)];exact⟨al,_,rfl,hn,ae,J,ah⟩
 ·rintro fr aj _ ⟨⟨ta,xa,f5,af,aw,aA,G⟩,f0,f3,f4,f16,f17,f18,rfl⟩;rw[lTl] at af;have hta:=aA.es;have av:=aT.mono G;simp only[go_sem,zE,zA,zL,f3,f17,f18,dF (nLi _)];refine (pH gl op n _ _ _ _ _).q ?_;cases hq:isQ op
  ·simp only[go_sem,zE,f3,aq.len];intros;refine dj sub.length (λk fr st' ds=>(∃D ys,fr 5=.box [.raw (.int .u8 op),n,.sl ta xa,.sl D ys]/\IsFmsD (jt (toS ps) (sub.take k)) ys/\appT k D/\own st' D k 4 aj/\subSt aj st') /\
    fr 0=.iv (.sl tg xs)/\fr 4=.box [.raw (.int .u8 0),.raw (.string ⟨#[]⟩),(),()] /\
    fr 42=.iv (.sl t2 x2)/\fr 43=sub.length/\fr 44=.iv (.raw (.int .i64 k))/\ds=[]) ?_ ?_ ?_
   ·simp only[go_sem,zE,reduceCtorEq,f0,f4,f5];exact⟨⟨_,_,rfl,IsFmsD.nil,.inl rfl,own.nil _ _ _ _ _,subSt.refl _⟩,rfl⟩
   ·rintro k fr am _ U ⟨⟨D,ys,f5,hys,aI,E,A⟩,f0,f4,f42,f43,f44,rfl⟩;obtain⟨a,ha⟩:=dB U;obtain⟨y,an,hy⟩:=aq.get ha;obtain⟨h1,h2⟩:=jr ha;have ab:=IH a (lMg ha) y hy ps tg xs az ay (by omega) (by omega) am (av.mono A);have aa:ys.length=k:=by rw[hys.len,rE,dQ];omega
    have O:∀r,IsFmD (js (toS ps) a) r->IsFmsD (jt (toS ps) (sub.take (k+1))) (ys++[r]):=λr hr=>by
     rw[dE ha,xy];exact hys.append (IsFmsD.one hr)
    obtain⟨o5,n5,t5,x5,t6,x6,rfl⟩:=hy.agg;simp only[go_sem,zE,zB,zA,zL,reduceCtorEq,f0,f5,f42,f43,f44,lt_i U,dz aE,iNn,an,fits];refine ab.mono ?_;rintro r _ ⟨hr,rfl⟩;have hn:=O r hr;obtain⟨o7,n7,t7,x7,t8,x8,rfl⟩:=hr.agg;simp only[go_sem,zE,zA,zM,zL,fits,dW];refine jN E aa A rfl (by simp[fits,IV.one]) (by simp only;omega) (by omega) λal st4 J ag _ ae=>?_;simp only[go_sem,zE,zA,zL,reduceCtorEq,f0,f4,f5,f42,f43,f44,dC U (by omega)];exact⟨al,_,rfl,hn,ae,J,ag⟩
   rintro fr am _ ⟨⟨tb,xb,f5,ac,ao,E,A⟩,f0,f4,f42,f43,f44,rfl⟩;rw[lTl] at ac;simp only[go_sem,zE,zA,zL,f4,f5,f43,f44,dF (nLi _)];refine ez (G.trans A) ⟨?_,rfl⟩;exact IsFmD.of ⟨ta,xa,tb,xb,by simp[hq],aF,hta,af.1,E.es,by simpa[hq] using ac.1⟩ (aw.to (by rw[af.len,mf])) af.2 (ao.to (by rw[ac.len,rE])) ac.2
  ·simp only[go_sem,zE,zA,zL,reduceCtorEq,f0,f3];refine (LG gl T op n us sub _ aO ps tg xs az ay (by omega) (by omega) (λp hp=>by have:=LH hp;omega) aj av).mono ?_;rintro _ ax ⟨ah,cs,tc,zs,rfl,aQ,hzs,aH,aV,bj⟩;have hw:=K4 (toS ps) n (frFs sub);rw[<- aH] at hw;simp only[go_sem,zE,zA,zL,reduceCtorEq,f3,f5,aq.len];intros;refine dj sub.length (λk fr st' ds=>(∃D ys,fr 5=.box [.raw (.int .u8 op),.raw (.string (jL (toS ps) n (frFs sub)).1),.sl ta xa,.sl D ys]/\IsFmsD (jt (toS cs) (sub.take k)) ys/\appT k D/\own st' D k 4 ax/\subSt ax st') /\
    fr 0=.iv (.sl tc zs)/\fr 4=.box [.raw (.int .u8 0),.raw (.string ⟨#[]⟩),(),()] /\
    fr 42=.iv (.sl t2 x2)/\fr 43=sub.length/\fr 44=.iv (.raw (.int .i64 k))/\ds=[]) ?_ ?_ ?_
   ·simp only[go_sem,zE,reduceCtorEq,f4];exact⟨⟨_,_,rfl,IsFmsD.nil,.inl rfl,own.nil _ _ _ _ _,subSt.refl _⟩,rfl⟩
   ·rintro k fr am _ U ⟨⟨D,ys,f5,hys,aI,E,A⟩,f0,f4,f42,f43,f44,rfl⟩;obtain⟨a,ha⟩:=dB U;obtain⟨y,an,hy⟩:=aq.get ha;obtain⟨h1,h2⟩:=jr ha;have ab:=IH a (lMg ha) y hy cs tc zs aQ hzs (by omega) (by omega) am (aV.mono A);have aa:ys.length=k:=by rw[hys.len,rE,dQ];omega
    have O:∀r,IsFmD (js (toS cs) a) r->IsFmsD (jt (toS cs) (sub.take (k+1))) (ys++[r]):=λr hr=>by
     rw[dE ha,xy];exact hys.append (IsFmsD.one hr)
    obtain⟨o5,n5,t5,x5,t6,x6,rfl⟩:=hy.agg;simp only[go_sem,zE,zB,zA,zL,reduceCtorEq,f0,f5,f42,f43,f44,lt_i U,dz aE,iNn,an,fits];refine ab.mono ?_;rintro r _ ⟨hr,rfl⟩;have hn:=O r hr;obtain⟨o7,n7,t7,x7,t8,x8,rfl⟩:=hr.agg;simp only[go_sem,zE,zA,zM,zL,fits,dW];refine jN E aa A rfl (by simp[fits,IV.one]) (by simp only;omega) (by omega) λal st4 J ag _ ae=>?_;simp only[go_sem,zE,zA,zL,reduceCtorEq,f0,f4,f5,f42,f43,f44,dC U (by omega)];exact⟨al,_,rfl,hn,ae,J,ag⟩
   rintro fr am _ ⟨⟨tb,xb,f5,ac,ao,E,A⟩,f0,f4,f42,f43,f44,rfl⟩;rw[lTl] at ac;simp only[go_sem,zE,zA,zL,f4,f5,f43,f44,dF (nLi _)];refine ez (G.trans (ah.trans A)) ⟨?_,rfl⟩;rw[aH] at ac;exact IsFmD.of ⟨ta,xa,tb,xb,by simp[hq],aF,hta,af.1,E.es,by simpa[hq] using ac.1⟩ (aw.to (by rw[af.len,mf])) af.2 (ao.to (by rw[ac.len,rE])) ac.2
def Dl (T:Gt gl):∀(k:Nat) (t:Fm),SizeOf.sizeOf t<k->FO gl t
 | 0,f,h=>by omega
 | k+1,.mk o n us sub,h=>LI gl T o n us sub (λa A=>Dl T k a (by
   have:=lSm A;simp at h;omega))
def LJ (T:Gt gl)(t:Fm):FO gl t:=Dl gl T _ t (ew _)
def j4:List ByteArray->Sb->Bool
 | _,[]=>true
 | seen,p::l=>iy p.1&&p.2.ok&&!memB seen p.1&&j4 (seen++[p.1]) l
def xN:∀(l m:Sb)(seen:List ByteArray),j4 seen (l++m)=(j4 seen l&&j4 (seen++l.map (·.1)) m)
 | [],m,seen=>by simp[j4]
 | p::l,m,seen=>by
  simp only[ed,j4,xN l m,ec,en,Bool.and_assoc,ed,eY]
def Dm:∀(l:Sb)(seen:List ByteArray),j4 seen l=true->(l.map (·.1)).Nodup/\∀p∈l,p.1 ∉ seen/\p.2.ok=true/\iy p.1=true
 | [],seen,_=>⟨jF,λp h=>by cases h⟩
 | p::l,seen,h=>by
  simp only[j4,bAt,lZ,zJn] at h;obtain⟨⟨⟨h1,h2⟩,J⟩,G⟩:=h;obtain⟨i1,i2⟩:=Dm l _ G;refine⟨?_,λq A=>?_⟩
  ·rw[ec,hY];refine⟨λD=>?_,i1⟩;obtain⟨q,A,E⟩:=dH.1 D;have:=(i2 q A).1;simp[E] at this
  ·rcases dN.1 A with rfl|A
   ·exact⟨J,h2,h1⟩
   ·have:=i2 q A;exact⟨λD=>this.1 (iX _ D),this.2⟩
def oF (l:Sb)(fr:List ByteArray):Sb:=l.filter λp=>memB fr p.1
noncomputable def gR (f:Fm)(l:Sb):Fm×Nat :=
 if f.right&&j4 [] l then
  (if decide ((js (oF l (frF f)) f).size<=400)&&decide ((js (oF l (frF f)) f).deep<=40) then (js (oF l (frF f)) f,0) else (fm0,3))
 else (fm0,2)
def Dn (t A:Tag)(h:okEs t 3)(D:okEs A 4):IsFm fm0 (.agg [.raw (.int .u8 0),.raw (.string ⟨#[]⟩),.sl t [],.sl A []]):=⟨t,[],A,[],rfl,by omega,h,rfl,D,rfl⟩
def pT (f A:Bool)(e D:Nat):IsFmD fm0 (.agg [.raw (.int .u8 0),.raw (.string ⟨#[]⟩),.sl ⟨f,.nil,e⟩ [],.sl ⟨A,.nil,D⟩ []]):=IsFmD.of (Dn _ _ (.inl rfl) (.inl rfl)) (.inl rfl) trivial (.inl rfl) trivial
def LK (nm:ByteArray)(t:Tm)(v:Bool)(n:ByteArray)(D:Tag)(A:List IV)(G:IsTm t (.agg [v,n,.sl D A]))(hs:t.size<=1099511627776)(st:ISt) :
  ICall prog gl 223 [.agg [nm,v,n,.sl D A]] st
   (λr st'=>∃m,st m=none/\r=kI nm v n D A m t/\st'=st.put m (some (.map .str (setE (fK t))))):=by
 obtain⟨U,n',us⟩:=t;have E:=G;obtain⟨t2,O,J,_⟩:=G.mk;cases J;exact CD gl nm v n us D A E hs st
def LL (G:Gl gl)(T:Gt gl)(f:Fm)(x:IV)(hx:IsFm f x)(hs:f.size<=1000000)(l:Sb)(tg:Tag)(xs:List IV)(aX:okEs tg 4)(aW:IsOnes l xs)(hl:l.length<=1000000)(a1:∀p∈l,p.2.size<=1000000)(bx:wS l<=1000000000)(st:ISt) :
  ICall prog gl 184 [x,.sl tg xs] st (FED (gR f l).1 (gR f l).2 st):=by
 have h1:=λst=>rv gl G f x hx st hs;have av:=λst=>tX gl f x hx st;have ax:=λst=>tY gl 229 [.cptr x] (oC f) st (by simp only[go_sem]) (λI=>t_ gl f x hx (by omega) I);rw[uh] at ax;have bD:=um f;have aG:=λ(cs:List Pc) tp zs htp hzs hM st m hm=>KP gl cs tp zs htp hzs m 1000000 (by omega) hM f x hx (λ_=>0) [] CntOk.nil (λ_=>by omega) (by omega) st hm;have aN:=λ(cs:List Pc) tp zs htp hzs hw bj st aI=>LJ gl T f x hx cs tp zs htp hzs hw bj st aI;obtain⟨o0,n0,ta,xa,tb,xb,rfl⟩:=hx.agg;cases hr:f.right
 ·rw[hr] at h1;have hE:gR f l=(fm0,2):=by simp[gR,hr]
  rw[hE];refine iI func184 ?_;simp only[go_sem,zE,zA,zL];refine (h1 _).q ?_;simp only[go_sem,zE,zA,zL];exact c_ ⟨_,rfl,pT _ _ _ _,rfl⟩
 ·rw[hr] at h1;have bk:=(mQ hr).1;have bC:=(mQ hr).2.1;refine iI func184 ?_;simp only[go_sem,zE,zA,zL];refine (h1 _).q ?_;simp only[go_sem,zE,zA,zL];refine (av _).q ?_;simp only[go_sem,zA];refine (ax _).mono ?_;rintro _ _ ⟨m1,bl,rfl,rfl⟩;simp only[go_sem,zE,aW.len];refine λm2=>d_ λaL=>?_;intros;generalize bb:st.put m1 (some (.map .str (setE (frF f))))=S0 at *;have J:subSt st S0:=bb▸ff bl;have ba:S0 m1=some (.map .str (setE (frF f))):=by rw[<- bb,b_]
  refine dj l.length (λk fr st' ds=>(j4 [] (l.take k)=true/\subSt S0 st'/\∃O cs tp zs,SetOk O ((l.take k).map (·.1))/\st' m2=some (.map .str O)/\fr 8=.iv (.sl tp zs)/\IsPcs cs zs/\toS cs=oF (l.take k) (frF f)/\PsOk cs st' /\
    (∀p∈cs,p.at_≠m2)/\own st' tp cs.length 7 S0) /\
   fr 2=.box [.raw (.int .u8 o0),n0,.sl ta xa,.sl tb xb]/\fr 4=.box [.raw (.int .u8 0),.raw (.string ⟨#[]⟩),(),()]/\fr 6=.iv (.raw (.map (some m1)))/\fr 7=.iv (.raw (.map (some m2))) /\
   fr 21=.iv (.sl tg xs)/\fr 22=l.length/\fr 23=.iv (.raw (.int .i64 k))/\ds=[]) ?_ ?_ ?_
  ·simp only[go_sem,zE];exact⟨⟨rfl,ff aL,[],[],_,[],SetOk.nil,rfl,rfl,rfl,rfl,(λp h=>by cases h),(λp h=>by cases h),own.nil _ _ _ _ _⟩,rfl⟩
  ·rintro k fr U _ an ⟨⟨D,A,O,cs,tp,zs,ak,aa,f8,hzs,E,aJ,au,ac⟩,f2,f4,f6,f7,f21,f22,f23,rfl⟩;obtain⟨p,hp⟩:=dB an;obtain⟨y,a6,v,n3,t3,x3,rfl,hy⟩:=aW.get hp;have bi:=lMg hp;have aI:=a1 p bi;have a7:j4 [] (l.take (k+1))=(iy p.1&&p.2.ok&&!memB ((l.take k).map (·.1)) p.1):=by
    rw[dE hp,xN,D];simp[j4]
   have ao:(iy p.1&&p.2.ok&&!memB ((l.take k).map (·.1)) p.1)=false->gR f l=(fm0,2):=λh=>by
    have:j4 [] l=false:=by
     rw[<- el (k+1) l,xN,a7,h];rfl
    simp[gR,this]
   have aE:=λst=>Co gl p.2 _ hy aI st;have aZ:=A m1 _ ba;cases af:iy p.1
   ·rw[ao (by simp[af])];simp only[go_sem,zE,zB,zA,zL,f21,f22,f23,lt_i an,dz aX,iNn,a6,fits];refine (tT gl p.1 _).q ?_;simp only[go_sem,zE,zA,zL,f4,af];exact ez (J.trans A) ⟨_,rfl,pT _ _ _ _,rfl⟩
   ·simp only[go_sem,zE,zB,zA,zL,f21,f22,f23,lt_i an,dz aX,iNn,a6,fits];refine (tT gl p.1 _).q ?_;simp only[go_sem,zE,zA,zL,af];refine (aE _).q ?_;cases aD:p.2.ok
    ·rw[ao (by simp[af,aD])];simp only[go_sem,zE,zA,zL,f4];exact ez (J.trans A) ⟨_,rfl,pT _ _ _ _,rfl⟩
    ·cases ai:memB ((l.take k).map (·.1)) p.1
     ·have aK:m1≠m2:=mJ ba aL;have e1:∀o,(U.put m2 o) m1=some (.map .str (setE (frF f))):=λo=>by rw[dw aK];exact aZ
      have ae:j4 [] (l.take (k+1))=true:=by rw[a7,af,aD,ai];rfl
      have ay:SetOk (updI (.string p.1) true O) ((l.take (k+1)).map (·.1)):=by
       rw[dE hp,eJ];exact ak.upd p.1
      have ag:oF (l.take (k+1)) (frF f)=oF (l.take k) (frF f)++if memB (frF f) p.1 then [p] else []:=by
       rw[dE hp];unfold oF;rw[List.filter_append];congr 1;simp only[kg,List.filter_nil]
      have aj:subSt S0 (U.put m2 (some (.map .str (updI (.string p.1) true O)))):=rK A aL;have az:PsOk cs (U.put m2 (some (.map .str (updI (.string p.1) true O)))):=λq hq=>by
       obtain⟨e,h1,h2⟩:=aJ q hq;exact⟨e,by rw[dw (au q hq)];exact h1,h2⟩
      have al:own (U.put m2 (some (.map .str (updI (.string p.1) true O)))) tp cs.length 7 S0:=ac.mono λg hg _=>by
       rw[dw (λh=>by rw[h,aa] at hg;cases hg)];exact hg
      cases aq:memB (frF f) p.1
      ·rw[aq] at ag;simp only[bFt,dI,eo] at ag;simp only[go_sem,zE,f2,f4,f6,f7,f8,f21,f22,f23,aa,ak.look,ai,e1,(iC (frF f)).look,aq,dC an (by omega)];exact⟨ae,aj,_,cs,tp,zs,ay,rfl,rfl,hzs,by rw[E,ag],az,au,al⟩
      ·rw[aq] at ag;simp only[dD] at ag;simp only[go_sem,zE,zA,zL,f6,f7,f8,aa,ak.look,ai,e1,(iC (frF f)).look,aq];refine (LK gl p.1 p.2 v n3 t3 x3 hy (by omega) _).mono ?_;rintro _ _ ⟨m3,am,rfl,rfl⟩;have aA:m3≠m2:=λh=>by rw[h,b_] at am;cases am
       have aV:IsPc ⟨p.1,p.2,m3⟩ (kI p.1 v n3 t3 x3 m3 p.2):=⟨v,n3,t3,x3,rfl,hy⟩
       have bm:cs.length<=l.length:=by
        have:cs.length=(toS cs).length:=by simp[toS]
        rw[this,E];exact dT (iU _ _) (by rw[dQ];omega)
       unfold kI at aV ⊢;simp only[go_sem,zE,zA,zM,zL,fits,dW];refine gQ (al.mono λg hg _=>by rw[dw (mJ hg am)];exact hg) hzs.len (aj.trans (ff am)) rfl (by simp[fits,IV.one]) (by simp only;omega) (by omega) λbf st4 aY aF aM=>?_;have k2:st4 m2=some (.map .str (updI (.string p.1) true O)):=aM m2 _ (by rw[dw (λh=>aA h.symm),b_]) (λ_ h=>by cases h);have k3:=aM m3 _ (b_ _ m3 _) (λ_ h=>by cases h);simp only[go_sem,zE,f2,f4,f6,f7,f21,f22,f23,dC an (by omega)];refine⟨ae,aF,_,cs++[⟨p.1,p.2,m3⟩],bf,_,ay,k2,rfl,hzs.append (IsPcs.one aV),?_,λq hq=>?_,λq hq=>?_,by rw[lLa];exact aY⟩
       ·rw[ag,<- E];simp[toS]
       ·rcases dR.1 hq with hq|hq
        ·obtain⟨e,h1,h2⟩:=az q hq;exact⟨e,aM _ _ (by rw[dw (mJ h1 am)];exact h1) (λ_ h=>by cases h),h2⟩
        ·rw[dZ] at hq;subst hq;exact⟨_,k3,iC _⟩
       ·rcases dR.1 hq with hq|hq
        ·exact au q hq
        ·rw[dZ] at hq;subst hq;exact aA
     ·rw[ao (by rw[af,aD,ai];rfl)];simp only[go_sem,zE,zA,zL,f4,f7,aa,ak.look,ai];exact ez (J.trans A) ⟨_,rfl,pT _ _ _ _,rfl⟩
  ·rintro fr U _ ⟨⟨D,A,O,cs,tp,zs,ak,aa,f8,hzs,E,aJ,au,ac⟩,f2,f4,f6,f7,f21,f22,f23,rfl⟩;rw[lTl] at D E;have hnd:(cs.map Pc.nm).Nodup:=by
    have h2:=(Dm l [] D).1;have:cs.map Pc.nm=(toS cs).map (·.1):=by simp[toS,Function.comp_def]
    rw[this,E];exact h2.sublist ((List.filter_sublist).map _)
   have hM:∀p∈cs,p.tm.size<=1000000:=λp hp=>by
    have:(p.nm,p.tm)∈toS cs:=dH.2 ⟨p,hp,rfl⟩;rw[E] at this;exact a1 _ (iY.1 this).1
   have bm:cs.length<=l.length:=by
    have:cs.length=(toS cs).length:=by simp[toS]
    rw[this,E];exact iU _ _
   have bw:wS (toS cs)<=wS l:=by rw[E];exact uo _ l
   have a8:=K2 hnd bk;have hP:gR f l=if decide ((js (toS cs) f).size<=400)&&decide ((js (toS cs) f).deep<=40) then (js (toS cs) f,0) else (fm0,3):=by
    simp only[gR,hr,D,Bool.and_self,dD,<- E]
   simp only[go_sem,zE,zA,zL,f2,f8,f22,f23,dF (nLi _)];refine λm4=>d_ λaw=>?_;refine (aG cs tp zs ac.es hzs hM _ m4 (b_ _ _ _)).mono ?_;rintro _ _ ⟨bH,_,rfl,rfl⟩;rw[a8,eN];rw[hP];generalize hg:js (toS cs) f=g at *;by_cases aC:g.size<=400
   ·by_cases aU:g.deep<=40
    ·rw[dEt aC,dEt aU];simp only[Bool.and_self,dD];simp only[go_sem,zE,zA,zL,f2,f8,show decide ((400:Int)<(g.size:Int))=false from dEf (by omega),show decide ((40:Int)<(g.deep:Int))=false from dEf (by omega)];refine (aN cs tp zs ac.es hzs (by omega) (by omega) _ (aJ.mono (ff aw))).mono ?_;rintro r _ ⟨aH,rfl⟩;rw[hg] at aH;obtain⟨o5,n5,t5,x5,t6,x6,rfl⟩:=aH.agg;simp only[go_sem,zE,zA,zL,f4];exact ez ((J.trans A).trans (ff aw)) ⟨_,rfl,aH,rfl⟩
    ·rw[dEt aC,dEf aU];simp only[Bool.and_false,bFt,dI];simp only[go_sem,zE,zA,zL,f4,show decide ((400:Int)<(g.size:Int))=false from dEf (by omega),show decide ((40:Int)<(g.deep:Int))=true from dEt (by omega)];exact ez ((J.trans A).trans (ff aw)) ⟨_,rfl,pT _ _ _ _,rfl⟩
   ·rw[dEf aC];simp only[oe,bFt,dI];simp only[go_sem,zE,zA,zL,f4,show decide ((400:Int)<(g.size:Int))=true from dEt (by omega)];exact ez ((J.trans A).trans (ff aw)) ⟨_,rfl,pT _ _ _ _,rfl⟩
def LM (G:Gl gl)(T:Gt gl)(f:Fm)(x:IV)(hx:IsFm f x)(hs:f.size<=1000000)(nm:ByteArray)(t:Tm)(y:IV)(U:IsTm t y)(ht:t.size<=1000000)(st:ISt) :
  ICall prog gl 134 [x,nm,y] st (FED (gR f [(nm,t)]).1 (gR f [(nm,t)]).2 st):=by
 obtain⟨v,J,t3,E,rfl⟩:=U.agg;have A:IsOnes [(nm,t)] [.agg [nm,v,J,.sl t3 E]]:=⟨_,[],rfl,⟨v,J,t3,E,rfl,U⟩,rfl⟩
 have hc:=λtg D st=>LL gl G T f x hx hs [(nm,t)] tg _ D A (by simp) (λp hp=>by rw[dZ] at hp;subst hp;exact ht) (by simp only[wS];omega) st;obtain⟨o0,n0,ta,xa,tb,xb,rfl⟩:=hx.agg;refine iI func134 ?_;simp only[go_sem,zE,zA,zM,zL,fits,dW];refine (hc _ (by simp only[go_sem]) _).mono ?_;rintro _ _ ⟨z,rfl,O,rfl⟩;obtain⟨o5,n5,t5,x5,t6,x6,rfl⟩:=O.agg;simp only[go_sem,zE,zA,zL];exact c_ ⟨_,rfl,O,rfl⟩
def LN (G:Gl gl)(T:Gt gl)(f:Fm)(x:IV)(D:IsFm f x)(hs:f.size<=1000000)(nm:ByteArray)(t:Tm)(y:IV)(A:IsTm t y)(ht:t.size<=1000000)(st:ISt) :
  ICall prog gl 134 [x,nm,y] st (FE (gR f [(nm,t)]).1 (gR f [(nm,t)]).2 st):=(LM gl G T f x D hs nm t y A ht st).mono FED.w
