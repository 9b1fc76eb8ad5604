/- Walks: form. -/
import Derived.Test.YtigeiecfkoimpaaGreatDoorKA
set_option linter.all false
open Nat renaming reduceEqDiff → zE,reduceBEq → zB,reduceAdd → zA,reduceMul → zM,reduceLeDiff → zL
namespace Go.Proofs.Tryz
open Go Go.Iv
set_option maxRecDepth 4000
variable (gl:Nat->Option IV)
def Dy {l:Sb}{p:ByteArray×Tm}(h:p∈l):p.2.size<=wS l:=by
 induction l with
 | nil=>cases h
 | cons a l D =>
  simp only[wS];rcases dF.1 h with rfl|h
  ·omega
  ·have:=D h;omega
def LR {ps:List Pc}{p:Pc}(h:p∈ps):p.tm.size<=wS (toS ps):=Dy (p:=(p.nm,p.tm)) (dH.2 ⟨p,h,rfl⟩)
def FO (f:Fm):Prop:=∀(x:IV) (_:IsFm f x) (ps:List Pc) (D:Tag) (xs:List IV) (_:okEs D 7) (_:IsPcs ps xs) (_:f.size+wS (toS ps)<=1099511627776) (_:f.size+ps.length<=1099511627776) (st:ISt) (_:PsOk ps st),
 ICall prog gl 190 [.sl D xs,x] st (λr st'=>IsFmD (jz (toS ps) f) r/\st'=st)
def LS (T:Gt gl)(op:Nat)(n:ByteArray)(us:List Tm)(sub:List Fm)(IH:∀a∈sub,FO gl a):FO gl (.mk op n us sub):=by
 intro x hx ps tg xs aB aA aX aV st aU;have aQ:=hx;obtain⟨t1,x1,t2,x2,rfl,aG,aT,aE,aF,av⟩:=hx.mk;simp only[Fm.size] at aX aV;have bb:=oJ us;have ba:=mS sub;refine iI func190 ?_;simp only[go_sem,zE,zA,zL,fits,aE.len];intros;refine dt us.length (λk fr st' ds=>(∃E ys,fr 5=.box [.raw (.int .u8 op),n,.sl E ys,()]/\IsTmsD (gr (fL (toS ps)) (us.take k)) ys/\appT k E/\own st' E k 3 st/\subSt st st') /\
  fr 0=.iv (.sl tg xs)/\fr 3=.box [.raw (.int .u8 op),n,.sl t1 x1,.sl t2 x2]/\fr 4=.box [.raw (.int .u8 0),.raw (.string ⟨#[]⟩),(),()] /\
  fr 16=.iv (.sl t1 x1)/\fr 17=us.length/\fr 18=.iv (.raw (.int .i64 k))/\ds=[]) ?_ ?_ ?_
 ·simp only[go_sem,zE,reduceCtorEq];exact⟨⟨_,_,rfl,IsTmsD.nil,.inl rfl,own.nil _ _ _ _ _,subSt.refl _⟩,rfl⟩
 ·rintro k fr al _ ab ⟨⟨E,ys,f5,hys,aJ,G,J⟩,f0,f3,f4,f16,f17,f18,rfl⟩;obtain⟨a,ha⟩:=dD ab;obtain⟨y,aq,hy⟩:=aE.get ha;obtain⟨h1,h2⟩:=mP ha;have ae:=CR gl (fL (toS ps)) (λnm u h=>by have:=Dy (C9 h);simp only at this;omega) a y hy (by omega) (.func 217) [.sl tg xs] [] rfl (λi hi=>by cases hi;simp only[go_sem]) st
   (λnm s hs=>ICallV.of_ICall (by simp only[go_sem]) (by rw[<- La];exact KR gl ps tg xs aB aA nm s)) al J
  have ac:ys.length=k:=by rw[hys.len,mj,dU];omega
  have aa:∀r,IsTmD (iV (fL (toS ps)) a) r->IsTmsD (gr (fL (toS ps)) (us.take (k+1))) (ys++[r]):=λr hr=>by
   rw[dM ha,rK];exact hys.append (IsTmsD.one hr)
  obtain⟨v5,n5,t5,x5,rfl⟩:=hy.agg;simp only[go_sem,zE,zB,zA,zL,reduceCtorEq,f0,f5,f16,f17,f18,lt_i ab,dB aT,iNn,aq,fits];refine ae.mono ?_;rintro r _ ⟨hr,rfl⟩;have hn:=aa r hr;obtain⟨v6,n6,t6,x6,rfl⟩:=hr.agg;simp only[go_sem,zE,zA,zM,zL,fits,eh];refine mX G ac J rfl (by simp[fits,IV.one]) (by simp only;omega) (by omega) λan az O aj _ ag=>?_;simp only[go_sem,zE,zA,zL,reduceCtorEq,f0,f3,f4,f5,f16,f17,f18,dL ab (by omega)];exact⟨an,_,rfl,hn,ag,O,aj⟩
 ·rintro fr al _ ⟨⟨ta,xa,f5,ah,ay,aC,J⟩,f0,f3,f4,f16,f17,f18,rfl⟩;rw[lTl] at ah;have hta:=aC.es;have ax:=aU.mono J;simp only[go_sem,zE,zA,zL,f3,f17,f18,dS (nLi _)];refine (pO gl op n _ _ _ _ _).q ?_;cases hq:isQ op
  ·simp only[go_sem,zE,f3,av.len];intros;refine dt sub.length (λk fr st' ds=>(∃E ys,fr 5=.box [.raw (.int .u8 op),n,.sl ta xa,.sl E ys]/\IsFmsD (jA (toS ps) (sub.take k)) ys/\appT k E/\own st' E k 4 al/\subSt al st') /\
    fr 0=.iv (.sl tg xs)/\fr 4=.box [.raw (.int .u8 0),.raw (.string ⟨#[]⟩),(),()] /\
    fr 42=.iv (.sl t2 x2)/\fr 43=sub.length/\fr 44=.iv (.raw (.int .i64 k))/\ds=[]) ?_ ?_ ?_
   ·simp only[go_sem,zE,reduceCtorEq,f0,f4,f5];exact⟨⟨_,_,rfl,IsFmsD.nil,.inl rfl,own.nil _ _ _ _ _,subSt.refl _⟩,rfl⟩
   ·rintro k fr ao _ ab ⟨⟨E,ys,f5,hys,aJ,G,D⟩,f0,f4,f42,f43,f44,rfl⟩;obtain⟨a,ha⟩:=dD ab;obtain⟨y,aq,hy⟩:=av.get ha;obtain⟨h1,h2⟩:=j8 ha;have ae:=IH a (lMg ha) y hy ps tg xs aB aA (by omega) (by omega) ao (ax.mono D);have ac:ys.length=k:=by rw[hys.len,rM,dU];omega
    have aa:∀r,IsFmD (jz (toS ps) a) r->IsFmsD (jA (toS ps) (sub.take (k+1))) (ys++[r]):=λr hr=>by
     rw[dM ha,xM];exact hys.append (IsFmsD.one hr)
    obtain⟨o5,n5,t5,x5,t6,x6,rfl⟩:=hy.agg;simp only[go_sem,zE,zB,zA,zL,reduceCtorEq,f0,f5,f42,f43,f44,lt_i ab,dB aF,iNn,aq,fits];refine ae.mono ?_;rintro r _ ⟨hr,rfl⟩;have hn:=aa r hr;obtain⟨o7,n7,t7,x7,t8,x8,rfl⟩:=hr.agg;simp only[go_sem,zE,zA,zM,zL,fits,eh];refine mX G ac D rfl (by simp[fits,IV.one]) (by simp only;omega) (by omega) λan st4 O ai _ ag=>?_;simp only[go_sem,zE,zA,zL,reduceCtorEq,f0,f4,f5,f42,f43,f44,dL ab (by omega)];exact⟨an,_,rfl,hn,ag,O,ai⟩
   rintro fr ao _ ⟨⟨tb,xb,f5,af,au,G,D⟩,f0,f4,f42,f43,f44,rfl⟩;rw[lTl] at af;simp only[go_sem,zE,zA,zL,f4,f5,f43,f44,dS (nLi _)];refine eI (J.trans D) ⟨?_,rfl⟩;exact IsFmD.of ⟨ta,xa,tb,xb,by simp[hq],aG,hta,ah.1,G.es,by simpa[hq] using af.1⟩ (ay.to (by rw[ah.len,mj])) ah.2 (au.to (by rw[af.len,rM])) af.2
  ·simp only[go_sem,zE,zA,zL,reduceCtorEq,f0,f3];refine (LQ gl T op n us sub _ aQ ps tg xs aB aA (by omega) (by omega) (λp hp=>by have:=LR hp;omega) al ax).mono ?_;rintro _ az ⟨aj,cs,tc,zs,rfl,aS,hzs,aI,aW,bk⟩;have hw:=Ld (toS ps) n (frFs sub);rw[<- aI] at hw;simp only[go_sem,zE,zA,zL,reduceCtorEq,f3,f5,av.len];intros;refine dt sub.length (λk fr st' ds=>(∃E ys,fr 5=.box [.raw (.int .u8 op),.raw (.string (jR (toS ps) n (frFs sub)).1),.sl ta xa,.sl E ys]/\IsFmsD (jA (toS cs) (sub.take k)) ys/\appT k E/\own st' E k 4 az/\subSt az st') /\
    fr 0=.iv (.sl tc zs)/\fr 4=.box [.raw (.int .u8 0),.raw (.string ⟨#[]⟩),(),()] /\
    fr 42=.iv (.sl t2 x2)/\fr 43=sub.length/\fr 44=.iv (.raw (.int .i64 k))/\ds=[]) ?_ ?_ ?_
   ·simp only[go_sem,zE,reduceCtorEq,f4];exact⟨⟨_,_,rfl,IsFmsD.nil,.inl rfl,own.nil _ _ _ _ _,subSt.refl _⟩,rfl⟩
   ·rintro k fr ao _ ab ⟨⟨E,ys,f5,hys,aJ,G,D⟩,f0,f4,f42,f43,f44,rfl⟩;obtain⟨a,ha⟩:=dD ab;obtain⟨y,aq,hy⟩:=av.get ha;obtain⟨h1,h2⟩:=j8 ha;have ae:=IH a (lMg ha) y hy cs tc zs aS hzs (by omega) (by omega) ao (aW.mono D);have ac:ys.length=k:=by rw[hys.len,rM,dU];omega
    have aa:∀r,IsFmD (jz (toS cs) a) r->IsFmsD (jA (toS cs) (sub.take (k+1))) (ys++[r]):=λr hr=>by
     rw[dM ha,xM];exact hys.append (IsFmsD.one hr)
    obtain⟨o5,n5,t5,x5,t6,x6,rfl⟩:=hy.agg;simp only[go_sem,zE,zB,zA,zL,reduceCtorEq,f0,f5,f42,f43,f44,lt_i ab,dB aF,iNn,aq,fits];refine ae.mono ?_;rintro r _ ⟨hr,rfl⟩;have hn:=aa r hr;obtain⟨o7,n7,t7,x7,t8,x8,rfl⟩:=hr.agg;simp only[go_sem,zE,zA,zM,zL,fits,eh];refine mX G ac D rfl (by simp[fits,IV.one]) (by simp only;omega) (by omega) λan st4 O ai _ ag=>?_;simp only[go_sem,zE,zA,zL,reduceCtorEq,f0,f4,f5,f42,f43,f44,dL ab (by omega)];exact⟨an,_,rfl,hn,ag,O,ai⟩
   rintro fr ao _ ⟨⟨tb,xb,f5,af,au,G,D⟩,f0,f4,f42,f43,f44,rfl⟩;rw[lTl] at af;simp only[go_sem,zE,zA,zL,f4,f5,f43,f44,dS (nLi _)];refine eI (J.trans (aj.trans D)) ⟨?_,rfl⟩;rw[aI] at af;exact IsFmD.of ⟨ta,xa,tb,xb,by simp[hq],aG,hta,ah.1,G.es,by simpa[hq] using af.1⟩ (ay.to (by rw[ah.len,mj])) ah.2 (au.to (by rw[af.len,rM])) af.2
def Dz (T:Gt gl):∀(k:Nat) (t:Fm),SizeOf.sizeOf t<k->FO gl t
 | 0,f,h=>by omega
 | k+1,.mk o n us sub,h=>LS gl T o n us sub (λa D=>Dz T k a (by
   have:=lSm D;simp at h;omega))
def LU (T:Gt gl)(t:Fm):FO gl t:=Dz gl T _ t (eS _)
def j_:List ByteArray->Sb->Bool
 | _,[]=>true
 | seen,p::l=>jQ p.1&&p.2.ok&&!memB seen p.1&&j_ (seen++[p.1]) l
def ya:∀(l m:Sb)(seen:List ByteArray),j_ seen (l++m)=(j_ seen l&&j_ (seen++l.map (·.1)) m)
 | [],m,seen=>by simp[j_]
 | p::l,m,seen=>by
  simp only[eu,j_,ya l m,ec,et,pd,eu,fa]
def DA:∀(l:Sb)(seen:List ByteArray),j_ seen l=true->(l.map (·.1)).Nodup/\∀p∈l,p.1 ∉ seen/\p.2.ok=true/\jQ p.1=true
 | [],seen,_=>⟨jg,λp h=>by cases h⟩
 | p::l,seen,h=>by
  simp only[j_,bAt,mc,zJi] at h;obtain⟨⟨⟨h1,h2⟩,O⟩,J⟩:=h;obtain⟨i1,i2⟩:=DA l _ J;refine⟨?_,λq D=>?_⟩
  ·rw[ec,gN];refine⟨λE=>?_,i1⟩;obtain⟨q,D,G⟩:=dH.1 E;have:=(i2 q D).1;simp[G] at this
  ·rcases dF.1 D with rfl|D
   ·exact⟨O,h2,h1⟩
   ·have:=i2 q D;exact⟨λE=>this.1 (gg _ E),this.2⟩
def oM (l:Sb)(fr:List ByteArray):Sb:=l.filter λp=>memB fr p.1
noncomputable def il (f:Fm)(l:Sb):Fm×Nat :=
 if f.right&&j_ [] l then
  (if decide ((jz (oM l (frF f)) f).size<=400)&&decide ((jz (oM l (frF f)) f).deep<=40) then (jz (oM l (frF f)) f,0) else (fm0,3))
 else (fm0,2)
def DB (t D:Tag)(h:okEs t 3)(E:okEs D 4):IsFm fm0 (.agg [.raw (.int .u8 0),.raw (.string ⟨#[]⟩),.sl t [],.sl D []]):=⟨t,[],D,[],rfl,by omega,h,rfl,E,rfl⟩
def p7 (f D:Bool)(e E:Nat):IsFmD fm0 (.agg [.raw (.int .u8 0),.raw (.string ⟨#[]⟩),.sl ⟨f,.nil,e⟩ [],.sl ⟨D,.nil,E⟩ []]):=IsFmD.of (DB _ _ (.inl rfl) (.inl rfl)) (.inl rfl) trivial (.inl rfl) trivial
def LV (nm:ByteArray)(t:Tm)(v:Bool)(n:ByteArray)(D:Tag)(xs:List IV)(G:IsTm t (.agg [v,n,.sl D xs]))(hs:t.size<=1099511627776)(st:ISt) :
  ICall prog gl 188 [.agg [nm,v,n,.sl D xs]] st
   (λr st'=>∃m,st m=none/\r=kT nm v n D xs m t/\st'=st.put m (some (.map .str (setE (fP t))))):=by
 obtain⟨v',n',us⟩:=t;have E:=G;obtain⟨t2,O,J,_⟩:=G.mk;cases J;exact CS gl nm v n us D xs E hs st
def LW (G:Gl gl)(T:Gt gl)(f:Fm)(x:IV)(hx:IsFm f x)(hs:f.size<=1000000)(l:Sb)(tg:Tag)(xs:List IV)(aZ:okEs tg 4)(aY:IsOnes l xs)(hl:l.length<=1000000)(a7:∀p∈l,p.2.size<=1000000)(bA:wS l<=1000000000)(st:ISt) :
  ICall prog gl 157 [x,.sl tg xs] st (FED (il f l).1 (il f l).2 st):=by
 have h1:=λst=>rH gl G f x hx st hs;have ax:=λst=>uj gl f x hx st;have az:=λst=>uk gl 194 [.cptr x] (oI f) st (by simp only[go_sem]) (λI=>uo gl f x hx (by omega) I);rw[ux] at az;have bF:=uB f;have aI:=λ(cs:List Pc) tp zs htp hzs hM st m hm=>KZ gl cs tp zs htp hzs m 1000000 (by omega) hM f x hx (λ_=>0) [] CntOk.nil (λ_=>by omega) (by omega) st hm;have aQ:=λ(cs:List Pc) tp zs htp hzs hw bk st aK=>LU gl T f x hx cs tp zs htp hzs hw bk st aK;obtain⟨o0,n0,ta,xa,tb,xb,rfl⟩:=hx.agg;cases hr:f.right
 ·rw[hr] at h1;have hE:il f l=(fm0,2):=by simp[il,hr]
  rw[hE];refine iI func157 ?_;simp only[go_sem,zE,zA,zL];refine (h1 _).q ?_;simp only[go_sem,zE,zA,zL];exact c_ ⟨_,rfl,p7 _ _ _ _,rfl⟩
 ·rw[hr] at h1;have bl:=(mV hr).1;have bD:=(mV hr).2.1;refine iI func157 ?_;simp only[go_sem,zE,zA,zL];refine (h1 _).q ?_;simp only[go_sem,zE,zA,zL];refine (ax _).q ?_;simp only[go_sem,zA];refine (az _).mono ?_;rintro _ _ ⟨m1,bm,rfl,rfl⟩;simp only[go_sem,zE,aY.len];refine λm2=>d_ λaN=>?_;intros;generalize bd:st.put m1 (some (.map .str (setE (frF f))))=S0 at *;have O:subSt st S0:=bd▸fb bm;have bc:S0 m1=some (.map .str (setE (frF f))):=by rw[<- bd,b_]
  refine dt l.length (λk fr st' ds=>(j_ [] (l.take k)=true/\subSt S0 st'/\∃aa cs tp zs,SetOk aa ((l.take k).map (·.1))/\st' m2=some (.map .str aa)/\fr 8=.iv (.sl tp zs)/\IsPcs cs zs/\toS cs=oM (l.take k) (frF f)/\PsOk cs st' /\
    (∀p∈cs,p.at_≠m2)/\own st' tp cs.length 7 S0) /\
   fr 2=.box [.raw (.int .u8 o0),n0,.sl ta xa,.sl tb xb]/\fr 4=.box [.raw (.int .u8 0),.raw (.string ⟨#[]⟩),(),()]/\fr 6=.iv (.raw (.map (some m1)))/\fr 7=.iv (.raw (.map (some m2))) /\
   fr 21=.iv (.sl tg xs)/\fr 22=l.length/\fr 23=.iv (.raw (.int .i64 k))/\ds=[]) ?_ ?_ ?_
  ·simp only[go_sem,zE];exact⟨⟨rfl,fb aN,[],[],_,[],SetOk.nil,rfl,rfl,rfl,rfl,(λp h=>by cases h),(λp h=>by cases h),own.nil _ _ _ _ _⟩,rfl⟩
  ·rintro k fr ab _ aq ⟨⟨E,D,aa,cs,tp,zs,am,ac,f8,hzs,J,aL,aw,af⟩,f2,f4,f6,f7,f21,f22,f23,rfl⟩;obtain⟨p,hp⟩:=dD aq;obtain⟨y,a8,v,n3,t3,x3,rfl,hy⟩:=aY.get hp;have bj:=lMg hp;have aK:=a7 p bj;have ba:j_ [] (l.take (k+1))=(jQ p.1&&p.2.ok&&!memB ((l.take k).map (·.1)) p.1):=by
    rw[dM hp,ya,E];simp[j_]
   have au:(jQ p.1&&p.2.ok&&!memB ((l.take k).map (·.1)) p.1)=false->il f l=(fm0,2):=λh=>by
    have:j_ [] l=false:=by
     rw[<- eA (k+1) l,ya,ba,h];rfl
    simp[il,this]
   have aG:=λst=>CD gl p.2 _ hy aK st;have a6:=D m1 _ bc;cases ah:jQ p.1
   ·rw[au (by simp[ah])];simp only[go_sem,zE,zB,zA,zL,f21,f22,f23,lt_i aq,dB aZ,iNn,a8,fits];refine (ue gl p.1 _).q ?_;simp only[go_sem,zE,zA,zL,f4,ah];exact eI (O.trans D) ⟨_,rfl,p7 _ _ _ _,rfl⟩
   ·simp only[go_sem,zE,zB,zA,zL,f21,f22,f23,lt_i aq,dB aZ,iNn,a8,fits];refine (ue gl p.1 _).q ?_;simp only[go_sem,zE,zA,zL,ah];refine (aG _).q ?_;cases aF:p.2.ok
    ·rw[au (by simp[ah,aF])];simp only[go_sem,zE,zA,zL,f4];exact eI (O.trans D) ⟨_,rfl,p7 _ _ _ _,rfl⟩
    ·cases ak:memB ((l.take k).map (·.1)) p.1
     ·have aM:m1≠m2:=mO bc aN;have e1:∀o,(ab.put m2 o) m1=some (.map .str (setE (frF f))):=λo=>by rw[dz aM];exact a6
      have ag:j_ [] (l.take (k+1))=true:=by rw[ba,ah,aF,ak];rfl
      have aA:SetOk (updI (.string p.1) true aa) ((l.take (k+1)).map (·.1)):=by
       rw[dM hp,eQ];exact am.upd p.1
      have ai:oM (l.take (k+1)) (frF f)=oM (l.take k) (frF f)++if memB (frF f) p.1 then [p] else []:=by
       rw[dM hp];unfold oM;rw[List.filter_append];congr 1;simp only[kn,List.filter_nil]
      have al:subSt S0 (ab.put m2 (some (.map .str (updI (.string p.1) true aa)))):=rS D aN;have aB:PsOk cs (ab.put m2 (some (.map .str (updI (.string p.1) true aa)))):=λq hq=>by
       obtain⟨e,h1,h2⟩:=aL q hq;exact⟨e,by rw[dz (aw q hq)];exact h1,h2⟩
      have an:own (ab.put m2 (some (.map .str (updI (.string p.1) true aa)))) tp cs.length 7 S0:=af.mono λg hg _=>by
       rw[dz (λh=>by rw[h,ac] at hg;cases hg)];exact hg
      cases av:memB (frF f) p.1
      ·rw[av] at ai;simp only[bFt,dE,ek] at ai;simp only[go_sem,zE,f2,f4,f6,f7,f8,f21,f22,f23,ac,am.look,ak,e1,(iJ (frF f)).look,av,dL aq (by omega)];exact⟨ag,al,_,cs,tp,zs,aA,rfl,rfl,hzs,by rw[J,ai],aB,aw,an⟩
      ·rw[av] at ai;simp only[dJ] at ai;simp only[go_sem,zE,zA,zL,f6,f7,f8,ac,am.look,ak,e1,(iJ (frF f)).look,av];refine (LV gl p.1 p.2 v n3 t3 x3 hy (by omega) _).mono ?_;rintro _ _ ⟨m3,ao,rfl,rfl⟩;have aC:m3≠m2:=λh=>by rw[h,b_] at ao;cases ao
       have aX:IsPc ⟨p.1,p.2,m3⟩ (kT p.1 v n3 t3 x3 m3 p.2):=⟨v,n3,t3,x3,rfl,hy⟩
       have bn:cs.length<=l.length:=by
        have:cs.length=(toS cs).length:=by simp[toS]
        rw[this,J];exact dN (kx _ _) (by rw[dU];omega)
       unfold kT at aX ⊢;simp only[go_sem,zE,zA,zM,zL,fits,eh];refine ij (an.mono λg hg _=>by rw[dz (mO hg ao)];exact hg) hzs.len (al.trans (fb ao)) rfl (by simp[fits,IV.one]) (by simp only;omega) (by omega) λbg st4 a1 aH aO=>?_;have k2:st4 m2=some (.map .str (updI (.string p.1) true aa)):=aO m2 _ (by rw[dz (λh=>aC h.symm),b_]) (λ_ h=>by cases h);have k3:=aO m3 _ (b_ _ m3 _) (λ_ h=>by cases h);simp only[go_sem,zE,f2,f4,f6,f7,f21,f22,f23,dL aq (by omega)];refine⟨ag,aH,_,cs++[⟨p.1,p.2,m3⟩],bg,_,aA,k2,rfl,hzs.append (IsPcs.one aX),?_,λq hq=>?_,λq hq=>?_,by rw[lLa];exact a1⟩
       ·rw[ai,<- J];simp[toS]
       ·rcases dQ.1 hq with hq|hq
        ·obtain⟨e,h1,h2⟩:=aB q hq;exact⟨e,aO _ _ (by rw[dz (mO h1 ao)];exact h1) (λ_ h=>by cases h),h2⟩
        ·rw[dR] at hq;subst hq;exact⟨_,k3,iJ _⟩
       ·rcases dQ.1 hq with hq|hq
        ·exact aw q hq
        ·rw[dR] at hq;subst hq;exact aC
     ·rw[au (by rw[ah,aF,ak];rfl)];simp only[go_sem,zE,zA,zL,f4,f7,ac,am.look,ak];exact eI (O.trans D) ⟨_,rfl,p7 _ _ _ _,rfl⟩
  ·rintro fr ab _ ⟨⟨E,D,aa,cs,tp,zs,am,ac,f8,hzs,J,aL,aw,af⟩,f2,f4,f6,f7,f21,f22,f23,rfl⟩;rw[lTl] at E J;have hnd:(cs.map Pc.nm).Nodup:=by
    have h2:=(DA l [] E).1;have:cs.map Pc.nm=(toS cs).map (·.1):=by simp[toS,Function.comp_def]
    rw[this,J];exact h2.sublist ((List.filter_sublist).map _)
   have hM:∀p∈cs,p.tm.size<=1000000:=λp hp=>by
    have:(p.nm,p.tm)∈toS cs:=dH.2 ⟨p,hp,rfl⟩;rw[J] at this;exact a7 _ (jf.1 this).1
   have bn:cs.length<=l.length:=by
    have:cs.length=(toS cs).length:=by simp[toS]
    rw[this,J];exact kx _ _
   have bx:wS (toS cs)<=wS l:=by rw[J];exact uC _ l
   have bb:=Lb hnd bl;have hP:il f l=if decide ((jz (toS cs) f).size<=400)&&decide ((jz (toS cs) f).deep<=40) then (jz (toS cs) f,0) else (fm0,3):=by
    simp only[il,hr,E,Bool.and_self,dJ,<- J]
   simp only[go_sem,zE,zA,zL,f2,f8,f22,f23,dS (nLi _)];refine λm4=>d_ λay=>?_;refine (aI cs tp zs af.es hzs hM _ m4 (b_ _ _ _)).mono ?_;rintro _ _ ⟨bI,_,rfl,rfl⟩;rw[bb,eN];rw[hP];generalize hg:jz (toS cs) f=g at *;by_cases aE:g.size<=400
   ·by_cases aW:g.deep<=40
    ·rw[dEt aE,dEt aW];simp only[Bool.and_self,dJ];simp only[go_sem,zE,zA,zL,f2,f8,show decide ((400:Int)<(g.size:Int))=false from dEf (by omega),show decide ((40:Int)<(g.deep:Int))=false from dEf (by omega)];refine (aQ cs tp zs af.es hzs (by omega) (by omega) _ (aL.mono (fb ay))).mono ?_;rintro r _ ⟨aJ,rfl⟩;rw[hg] at aJ;obtain⟨o5,n5,t5,x5,t6,x6,rfl⟩:=aJ.agg;simp only[go_sem,zE,zA,zL,f4];exact eI ((O.trans D).trans (fb ay)) ⟨_,rfl,aJ,rfl⟩
    ·rw[dEt aE,dEf aW];simp only[Bool.and_false,bFt,dE];simp only[go_sem,zE,zA,zL,f4,show decide ((400:Int)<(g.size:Int))=false from dEf (by omega),show decide ((40:Int)<(g.deep:Int))=true from dEt (by omega)];exact eI ((O.trans D).trans (fb ay)) ⟨_,rfl,p7 _ _ _ _,rfl⟩
   ·rw[dEf aE];simp only[oq,bFt,dE];simp only[go_sem,zE,zA,zL,f4,show decide ((400:Int)<(g.size:Int))=true from dEt (by omega)];exact eI ((O.trans D).trans (fb ay)) ⟨_,rfl,p7 _ _ _ _,rfl⟩
def LX (G:Gl gl)(T:Gt gl)(f:Fm)(x:IV)(hx:IsFm f x)(hs:f.size<=1000000)(nm:ByteArray)(t:Tm)(y:IV)(hy:IsTm t y)(ht:t.size<=1000000)(st:ISt) :
  ICall prog gl 119 [x,nm,y] st (FED (il f [(nm,t)]).1 (il f [(nm,t)]).2 st):=by
 obtain⟨v,O,t3,J,rfl⟩:=hy.agg;have D:IsOnes [(nm,t)] [.agg [nm,v,O,.sl t3 J]]:=⟨_,[],rfl,⟨v,O,t3,J,rfl,hy⟩,rfl⟩
 have hc:=λtg E st=>LW gl G T f x hx hs [(nm,t)] tg _ E D (by simp) (λp hp=>by rw[dR] at hp;subst hp;exact ht) (by simp only[wS];omega) st;obtain⟨o0,n0,ta,xa,tb,xb,rfl⟩:=hx.agg;refine iI func119 ?_;simp only[go_sem,zE,zA,zM,zL,fits,eh];refine (hc _ (by simp only[go_sem]) _).mono ?_;rintro _ _ ⟨z,rfl,hz,rfl⟩;obtain⟨o5,n5,t5,x5,t6,x6,rfl⟩:=hz.agg;simp only[go_sem,zE,zA,zL];exact c_ ⟨_,rfl,hz,rfl⟩
def LY (G:Gl gl)(T:Gt gl)(f:Fm)(x:IV)(E:IsFm f x)(hs:f.size<=1000000)(nm:ByteArray)(t:Tm)(y:IV)(D:IsTm t y)(ht:t.size<=1000000)(st:ISt) :
  ICall prog gl 119 [x,nm,y] st (FE (il f [(nm,t)]).1 (il f [(nm,t)]).2 st):=(LX gl G T f x E hs nm t y D ht st).mono FED.w
