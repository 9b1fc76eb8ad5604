/- Walks: form. -/
import Derived.Test.YtclkffdkahljeaaGreatDoorKA
set_option linter.all false
open Nat renaming reduceEqDiff → zE,reduceBEq → zB,reduceAdd → zA,reduceMul → zM,reduceLeDiff → zL
namespace Go.Proofs.Tryz
open Go Go.Iv
set_option maxRecDepth 4000
variable (gl:Nat->Option IV)
theorem wYh {l:Sb}{p:ByteArray×Tm}(h:p∈l):p.2.size<=wS l:=by
 induction l with
 | nil=>cases h
 | cons a l A =>
  simp only[wS];rcases List.mem_cons.1 h with rfl|h
  ·omega
  ·have:=A h;omega
theorem uX7 {ps:List Pc}{p:Pc}(h:p∈ps):p.tm.size<=wS (toS ps):=wYh (p:=(p.nm,p.tm)) (List.mem_map.2 ⟨p,h,rfl⟩)
def FO (f:Fm):Prop:=∀(x:IV) (_:IsFm f x) (ps:List Pc) (D:Tag) (A:List IV) (_:okEs D 7) (_:IsPcs ps A) (_:f.size+wS (toS ps)<=1099511627776) (_:f.size+ps.length<=1099511627776) (st:ISt) (_:PsOk ps st),
 ICall prog gl 245 [.sl D A,x] st (λr st'=>IsFmD (yGq (toS ps) f) r/\st'=st)
theorem wXo (T:Gt gl)(op:Nat)(n:ByteArray)(us:List Tm)(sub:List Fm)(IH:∀a∈sub,FO gl a):FO gl (.mk op n us sub):=by
 intro x hx ps tg xs aA az aX aV st aU;have aQ:=hx;obtain⟨t1,x1,t2,x2,rfl,aG,aT,aE,aF,au⟩:=hx.mk;simp only[Fm.size] at aX aV;have ba:=yJv us;have a8:=yZk sub;refine iI func245 ?_;simp only[go_sem,zE,zA,zL,fits,aE.len];intros;refine LoopC.ctr us.length (λk fr st' ds=>(∃D ys,fr 5=.box [.raw (.int .u8 op),.raw (.string n),.sl D ys,.sl ⟨true,.nil,0⟩ []]/\IsTmsD (yX5 (yXj (toS ps)) (us.take k)) ys/\appT k D/\own st' D k 3 st/\subSt st st') /\
  fr 0=.iv (.sl tg xs)/\fr 3=.box [.raw (.int .u8 op),.raw (.string n),.sl t1 x1,.sl t2 x2]/\fr 4=.box [.raw (.int .u8 0),.raw (.string ⟨#[]⟩),.sl ⟨true,.nil,0⟩ [],.sl ⟨true,.nil,0⟩ []] /\
  fr 16=.iv (.sl t1 x1)/\fr 17=.iv (.raw (.int .i64 us.length))/\fr 18=.iv (.raw (.int .i64 k))/\ds=[]) ?_ ?_ ?_
 ·simp only[go_sem,zE,reduceCtorEq];exact⟨⟨_,_,rfl,IsTmsD.nil,.inl rfl,own.nil _ _ _ _ _,subSt.refl _⟩,rfl⟩
 ·rintro k fr ak _ aa ⟨⟨D,ys,f5,hys,aJ,E,J⟩,f0,f3,f4,f16,f17,f18,rfl⟩;obtain⟨a,ha⟩:=yQ1 aa;obtain⟨y,ao,hy⟩:=aE.get ha;obtain⟨h1,h2⟩:=yXf ha;have ac:=xQd gl (yXj (toS ps)) (λnm u h=>by have:=wYh (xQe h);simp only at this;omega) a y hy (by omega) (.func 269) [.sl tg xs] [] rfl (λi hi=>by cases hi;simp only[go_sem]) st
   (λnm s hs=>ICallV.of_ICall (by simp only[go_sem]) (by rw[<- wVg];exact wXd gl ps tg xs aA az nm s)) ak J
  have ab:ys.length=k:=by rw[hys.len,yZj,List.length_take];omega
  have U:∀r,IsTmD (yY7 (yXj (toS ps)) a) r->IsTmsD (yX5 (yXj (toS ps)) (us.take (k+1))) (ys++[r]):=λr hr=>by
   rw[yQ7 ha,yJg];exact hys.append (IsTmsD.one hr)
  obtain⟨v5,n5,t5,x5,rfl⟩:=hy.agg;simp only[go_sem,zE,zB,zA,zL,reduceCtorEq,f0,f5,f16,f17,f18,lt_i aa,yQ3 aT,iNn,ao,fits];refine ac.mono ?_;rintro r _ ⟨hr,rfl⟩;have hn:=U r hr;obtain⟨v6,n6,t6,x6,rfl⟩:=hr.agg;simp only[go_sem,zE,zA,zM,zL,fits,yQ4];refine yK7 E ab J rfl (by simp[fits,IV.one]) (by simp only;omega) (by omega) λam ay O ai _ af=>?_;simp only[go_sem,zE,zA,zL,reduceCtorEq,f0,f3,f4,f5,f16,f17,f18,yQc aa (show us.length<=281474976710656 by omega)];exact⟨am,_,rfl,hn,af,O,ai⟩
 ·rintro fr ak _ ⟨⟨ta,xa,f5,ag,ax,aB,J⟩,f0,f3,f4,f16,f17,f18,rfl⟩;rw[lTl] at ag;have hta:=aB.es;have aw:=aU.mono J;simp only[go_sem,zE,zA,zL,f3,f17,f18,yQi (nLi _)];refine (yXp gl op n _ _ _ _ _).mono ?_;rintro _ ak ⟨rfl,rfl⟩;cases hq:isQ op
  ·simp only[go_sem,zE,f3,au.len];intros;refine LoopC.ctr sub.length (λk fr st' ds=>(∃D ys,fr 5=.box [.raw (.int .u8 op),.raw (.string n),.sl ta xa,.sl D ys]/\IsFmsD (yKg (toS ps) (sub.take k)) ys/\appT k D/\own st' D k 4 ak/\subSt ak st') /\
    fr 0=.iv (.sl tg xs)/\fr 4=.box [.raw (.int .u8 0),.raw (.string ⟨#[]⟩),.sl ⟨true,.nil,0⟩ [],.sl ⟨true,.nil,0⟩ []] /\
    fr 42=.iv (.sl t2 x2)/\fr 43=.iv (.raw (.int .i64 sub.length))/\fr 44=.iv (.raw (.int .i64 k))/\ds=[]) ?_ ?_ ?_
   ·simp only[go_sem,zE,reduceCtorEq,f0,f4,f5];exact⟨⟨_,_,rfl,IsFmsD.nil,.inl rfl,own.nil _ _ _ _ _,subSt.refl _⟩,rfl⟩
   ·rintro k fr an _ aa ⟨⟨D,ys,f5,hys,aJ,E,A⟩,f0,f4,f42,f43,f44,rfl⟩;obtain⟨a,ha⟩:=yQ1 aa;obtain⟨y,ao,hy⟩:=au.get ha;obtain⟨h1,h2⟩:=yQv ha;have ac:=IH a (lMg ha) y hy ps tg xs aA az (by omega) (by omega) an (aw.mono A);have ab:ys.length=k:=by rw[hys.len,yJk,List.length_take];omega
    have U:∀r,IsFmD (yGq (toS ps) a) r->IsFmsD (yKg (toS ps) (sub.take (k+1))) (ys++[r]):=λr hr=>by
     rw[yQ7 ha,yWv];exact hys.append (IsFmsD.one hr)
    obtain⟨o5,n5,t5,x5,t6,x6,rfl⟩:=hy.agg;simp only[go_sem,zE,zB,zA,zL,reduceCtorEq,f0,f5,f42,f43,f44,lt_i aa,yQ3 aF,iNn,ao,fits];refine ac.mono ?_;rintro r _ ⟨hr,rfl⟩;have hn:=U r hr;obtain⟨o7,n7,t7,x7,t8,x8,rfl⟩:=hr.agg;simp only[go_sem,zE,zA,zM,zL,fits,yQ4];refine yK7 E ab A rfl (by simp[fits,IV.one]) (by simp only;omega) (by omega) λam st4 O ah _ af=>?_;simp only[go_sem,zE,zA,zL,reduceCtorEq,f0,f4,f5,f42,f43,f44,yQc aa (show sub.length<=281474976710656 by omega)];exact⟨am,_,rfl,hn,af,O,ah⟩
   rintro fr an _ ⟨⟨tb,xb,f5,ae,aq,E,A⟩,f0,f4,f42,f43,f44,rfl⟩;rw[lTl] at ae;simp only[go_sem,zE,zA,zL,f4,f5,f43,f44,yQi (nLi _)];refine yQf (J.trans A) ⟨?_,rfl⟩;exact IsFmD.of ⟨ta,xa,tb,xb,by simp[hq],aG,hta,ag.1,E.es,by simpa[hq] using ae.1⟩ (ax.to (by rw[ag.len,yZj])) ag.2 (aq.to (by rw[ae.len,yJk])) ae.2
  ·simp only[go_sem,zE,zA,zL,reduceCtorEq,f0,f3];refine (wU9 gl T op n us sub _ aQ ps tg xs aA az (by omega) (by omega) (λp hp=>by have:=uX7 hp;omega) ak aw).mono ?_;rintro _ ay ⟨ai,cs,tc,zs,rfl,aS,hzs,aI,aW,bj⟩;have hw:=wKm (toS ps) n (frFs sub);rw[<- aI] at hw;simp only[go_sem,zE,zA,zL,reduceCtorEq,f3,f5,au.len];intros;refine LoopC.ctr sub.length (λk fr st' ds=>(∃D ys,fr 5=.box [.raw (.int .u8 op),.raw (.string (yKr (toS ps) n (frFs sub)).1),.sl ta xa,.sl D ys]/\IsFmsD (yKg (toS cs) (sub.take k)) ys/\appT k D/\own st' D k 4 ay/\subSt ay st') /\
    fr 0=.iv (.sl tc zs)/\fr 4=.box [.raw (.int .u8 0),.raw (.string ⟨#[]⟩),.sl ⟨true,.nil,0⟩ [],.sl ⟨true,.nil,0⟩ []] /\
    fr 42=.iv (.sl t2 x2)/\fr 43=.iv (.raw (.int .i64 sub.length))/\fr 44=.iv (.raw (.int .i64 k))/\ds=[]) ?_ ?_ ?_
   ·simp only[go_sem,zE,reduceCtorEq,f4];exact⟨⟨_,_,rfl,IsFmsD.nil,.inl rfl,own.nil _ _ _ _ _,subSt.refl _⟩,rfl⟩
   ·rintro k fr an _ aa ⟨⟨D,ys,f5,hys,aJ,E,A⟩,f0,f4,f42,f43,f44,rfl⟩;obtain⟨a,ha⟩:=yQ1 aa;obtain⟨y,ao,hy⟩:=au.get ha;obtain⟨h1,h2⟩:=yQv ha;have ac:=IH a (lMg ha) y hy cs tc zs aS hzs (by omega) (by omega) an (aW.mono A);have ab:ys.length=k:=by rw[hys.len,yJk,List.length_take];omega
    have U:∀r,IsFmD (yGq (toS cs) a) r->IsFmsD (yKg (toS cs) (sub.take (k+1))) (ys++[r]):=λr hr=>by
     rw[yQ7 ha,yWv];exact hys.append (IsFmsD.one hr)
    obtain⟨o5,n5,t5,x5,t6,x6,rfl⟩:=hy.agg;simp only[go_sem,zE,zB,zA,zL,reduceCtorEq,f0,f5,f42,f43,f44,lt_i aa,yQ3 aF,iNn,ao,fits];refine ac.mono ?_;rintro r _ ⟨hr,rfl⟩;have hn:=U r hr;obtain⟨o7,n7,t7,x7,t8,x8,rfl⟩:=hr.agg;simp only[go_sem,zE,zA,zM,zL,fits,yQ4];refine yK7 E ab A rfl (by simp[fits,IV.one]) (by simp only;omega) (by omega) λam st4 O ah _ af=>?_;simp only[go_sem,zE,zA,zL,reduceCtorEq,f0,f4,f5,f42,f43,f44,yQc aa (show sub.length<=281474976710656 by omega)];exact⟨am,_,rfl,hn,af,O,ah⟩
   rintro fr an _ ⟨⟨tb,xb,f5,ae,aq,E,A⟩,f0,f4,f42,f43,f44,rfl⟩;rw[lTl] at ae;simp only[go_sem,zE,zA,zL,f4,f5,f43,f44,yQi (nLi _)];refine yQf (J.trans (ai.trans A)) ⟨?_,rfl⟩;rw[aI] at ae;exact IsFmD.of ⟨ta,xa,tb,xb,by simp[hq],aG,hta,ag.1,E.es,by simpa[hq] using ae.1⟩ (ax.to (by rw[ag.len,yZj])) ag.2 (aq.to (by rw[ae.len,yJk])) ae.2
theorem xWc (T:Gt gl):∀(k:Nat) (t:Fm),SizeOf.sizeOf t<k->FO gl t
 | 0,f,h=>by omega
 | k+1,.mk o n us sub,h=>wXo gl T o n us sub (λa A=>xWc T k a (by
   have:=lSm A;simp at h;omega))
theorem vVd (T:Gt gl)(t:Fm):FO gl t:=xWc gl T _ t (Nat.lt_succ_self _)
def zQ6:List ByteArray->Sb->Bool
 | _,[]=>true
 | seen,p::l=>yU3 p.1&&p.2.ok&&!memB seen p.1&&zQ6 (seen++[p.1]) l
theorem yYt:∀(l m:Sb)(seen:List ByteArray),zQ6 seen (l++m)=(zQ6 seen l&&zQ6 (seen++l.map (·.1)) m)
 | [],m,seen=>by simp[zQ6]
 | p::l,m,seen=>by
  simp only[List.cons_append,zQ6,yYt l m,List.map_cons,List.append_assoc,Bool.and_assoc,List.cons_append,List.nil_append]
theorem zKa:∀(l:Sb)(seen:List ByteArray),zQ6 seen l=true->(l.map (·.1)).Nodup/\∀p∈l,p.1 ∉ seen/\p.2.ok=true/\yU3 p.1=true
 | [],seen,_=>⟨List.nodup_nil,λp h=>by cases h⟩
 | p::l,seen,h=>by
  simp only[zQ6,bAt,Bool.not_eq_true',zXo] at h;obtain⟨⟨⟨h1,h2⟩,O⟩,J⟩:=h;obtain⟨i1,i2⟩:=zKa l _ J;refine⟨?_,λq A=>?_⟩
  ·rw[List.map_cons,List.nodup_cons];refine⟨λD=>?_,i1⟩;obtain⟨q,A,E⟩:=List.mem_map.1 D;have:=(i2 q A).1;simp[E] at this
  ·rcases List.mem_cons.1 A with rfl|A
   ·exact⟨O,h2,h1⟩
   ·have:=i2 q A;exact⟨λD=>this.1 (List.mem_append_left _ D),this.2⟩
def xJk (l:Sb)(fr:List ByteArray):Sb:=l.filter λp=>memB fr p.1
noncomputable def yV5 (f:Fm)(l:Sb):Fm×Nat :=
 if f.right&&zQ6 [] l then
  (if decide ((yGq (xJk l (frF f)) f).size<=400)&&decide ((yGq (xJk l (frF f)) f).deep<=40) then (yGq (xJk l (frF f)) f,0) else (fm0,3))
 else (fm0,2)
theorem vVj (t A:Tag)(h:okEs t 3)(D:okEs A 4):IsFm fm0 (.agg [.raw (.int .u8 0),.raw (.string ⟨#[]⟩),.sl t [],.sl A []]):=⟨t,[],A,[],rfl,by omega,h,rfl,D,rfl⟩
theorem xGp (f A:Bool)(e D:Nat):IsFmD fm0 (.agg [.raw (.int .u8 0),.raw (.string ⟨#[]⟩),.sl ⟨f,.nil,e⟩ [],.sl ⟨A,.nil,D⟩ []]):=IsFmD.of (vVj _ _ (.inl rfl) (.inl rfl)) (.inl rfl) trivial (.inl rfl) trivial
theorem xG2 (nm:ByteArray)(t:Tm)(v:Bool)(n:ByteArray)(D:Tag)(A:List IV)(hx:IsTm t (.agg [.raw (.bool v),.raw (.string n),.sl D A]))(hs:t.size<=1099511627776)(st:ISt) :
  ICall prog gl 243 [.agg [.raw (.string nm),.raw (.bool v),.raw (.string n),.sl D A]] st
   (λr st'=>∃m,st m=none/\r=yW3 nm v n D A m t/\st'=st.put m (some (.map .str (setE (yZ0 t))))):=by
 obtain⟨U,n',us⟩:=t;have E:=hx;obtain⟨t2,O,J,_⟩:=hx.mk;cases J;exact zW9 gl nm v n us D A E hs st
theorem vYe (G:Gl gl)(T:Gt gl)(f:Fm)(x:IV)(hx:IsFm f x)(hs:f.size<=1000000)(l:Sb)(tg:Tag)(xs:List IV)(aW:okEs tg 4)(aV:IsOnes l xs)(hl:l.length<=1000000)(aZ:∀p∈l,p.2.size<=1000000)(bw:wS l<=1000000000)(st:ISt) :
  ICall prog gl 223 [x,.sl tg xs] st (FED (yV5 f l).1 (yV5 f l).2 st):=by
 have h1:=λst=>zV3 gl G f x hx st hs;have av:=λst=>yWu gl f x hx st;have ax:=λst=>wV0 gl 152 [.cptr x] (xJl f) st (by simp only[go_sem]) (λI=>yVg gl f x hx (by omega) I);rw[zXx] at ax;have bC:=xWb f;have aG:=λ(cs:List Pc) tp zs htp hzs hM st m hm=>vJv gl cs tp zs htp hzs m 1000000 (by omega) hM f x hx (λ_=>0) [] CntOk.nil (λ_=>by omega) (by omega) st hm;have aN:=λ(cs:List Pc) tp zs htp hzs hw bi st aI=>vVd gl T f x hx cs tp zs htp hzs hw bi st aI;obtain⟨o0,n0,ta,xa,tb,xb,rfl⟩:=hx.agg;cases hr:f.right
 ·rw[hr] at h1;have hE:yV5 f l=(fm0,2):=by simp[yV5,hr]
  rw[hE];refine iI func223 ?_;simp only[go_sem,zE,zA,zL];refine (h1 _).mono ?_;rintro _ st ⟨rfl,rfl⟩;simp only[go_sem,zE,zA,zL];exact yQ0 ⟨_,rfl,xGp _ _ _ _,rfl⟩
 ·rw[hr] at h1;have bj:=(yJe hr).1;have bB:=(yJe hr).2.1;refine iI func223 ?_;simp only[go_sem,zE,zA,zL];refine (h1 _).mono ?_;rintro _ st ⟨rfl,rfl⟩;simp only[go_sem,zE,zA,zL];refine (av _).mono ?_;rintro _ st ⟨rfl,rfl⟩;simp only[go_sem,zA];refine (ax _).mono ?_;rintro _ _ ⟨m1,bk,rfl,rfl⟩;simp only[go_sem,zE,aV.len];refine λm2=>yQ8 λaL=>?_;intros;generalize ba:st.put m1 (some (.map .str (setE (frF f))))=S0 at *;have J:subSt st S0:=ba▸yQa bk;have a8:S0 m1=some (.map .str (setE (frF f))):=by rw[<- ba,ISt.put_same]
  refine LoopC.ctr l.length (λk fr st' ds=>(zQ6 [] (l.take k)=true/\subSt S0 st'/\∃O cs tp zs,SetOk O ((l.take k).map (·.1))/\st' m2=some (.map .str O)/\fr 8=.iv (.sl tp zs)/\IsPcs cs zs/\toS cs=xJk (l.take k) (frF f)/\PsOk cs st' /\
    (∀p∈cs,p.at_≠m2)/\own st' tp cs.length 7 S0) /\
   fr 2=.box [.raw (.int .u8 o0),.raw (.string n0),.sl ta xa,.sl tb xb]/\fr 4=.box [.raw (.int .u8 0),.raw (.string ⟨#[]⟩),.sl ⟨true,.nil,0⟩ [],.sl ⟨true,.nil,0⟩ []]/\fr 6=.iv (.raw (.map (some m1)))/\fr 7=.iv (.raw (.map (some m2))) /\
   fr 21=.iv (.sl tg xs)/\fr 22=.iv (.raw (.int .i64 l.length))/\fr 23=.iv (.raw (.int .i64 k))/\ds=[]) ?_ ?_ ?_
  ·simp only[go_sem,zE];exact⟨⟨rfl,yQa aL,[],[],_,[],SetOk.nil,rfl,rfl,rfl,rfl,(λp h=>by cases h),(λp h=>by cases h),own.nil _ _ _ _ _⟩,rfl⟩
  ·rintro k fr U _ an ⟨⟨D,A,O,cs,tp,zs,ak,aa,f8,hzs,E,aJ,au,ac⟩,f2,f4,f6,f7,f21,f22,f23,rfl⟩;obtain⟨p,hp⟩:=yQ1 an;obtain⟨y,a1,v,n3,t3,x3,rfl,hy⟩:=aV.get hp;have bh:=lMg hp;have aI:=aZ p bh;have a6:zQ6 [] (l.take (k+1))=(yU3 p.1&&p.2.ok&&!memB ((l.take k).map (·.1)) p.1):=by
    rw[yQ7 hp,yYt,D];simp[zQ6]
   have ao:(yU3 p.1&&p.2.ok&&!memB ((l.take k).map (·.1)) p.1)=false->yV5 f l=(fm0,2):=λh=>by
    have:zQ6 [] l=false:=by
     rw[<- List.take_append_drop (k+1) l,yYt,a6,h];rfl
    simp[yV5,this]
   have aE:=λst=>wGx gl p.2 _ hy aI st;have aY:=A m1 _ a8;cases af:yU3 p.1
   ·rw[ao (by simp[af])];simp only[go_sem,zE,zB,zA,zL,f21,f22,f23,lt_i an,yQ3 aW,iNn,a1,fits];refine (yGo gl p.1 _).mono ?_;rintro _ U ⟨rfl,rfl⟩;simp only[go_sem,zE,zA,zL,f4,af];exact yQf (J.trans A) ⟨_,rfl,xGp _ _ _ _,rfl⟩
   ·simp only[go_sem,zE,zB,zA,zL,f21,f22,f23,lt_i an,yQ3 aW,iNn,a1,fits];refine (yGo gl p.1 _).mono ?_;rintro _ U ⟨rfl,rfl⟩;simp only[go_sem,zE,zA,zL,af];refine (aE _).mono ?_;rintro _ U ⟨rfl,rfl⟩;cases aD:p.2.ok
    ·rw[ao (by simp[af,aD])];simp only[go_sem,zE,zA,zL,f4];exact yQf (J.trans A) ⟨_,rfl,xGp _ _ _ _,rfl⟩
    ·cases ai:memB ((l.take k).map (·.1)) p.1
     ·have aK:m1≠m2:=yXt a8 aL;have e1:∀o,(U.put m2 o) m1=some (.map .str (setE (frF f))):=λo=>by rw[yQ5 aK];exact aY
      have ae:zQ6 [] (l.take (k+1))=true:=by rw[a6,af,aD,ai];rfl
      have ay:SetOk (updI (.string p.1) (.raw (.bool true)) O) ((l.take (k+1)).map (·.1)):=by
       rw[yQ7 hp,List.map_append];exact ak.upd p.1
      have ag:xJk (l.take (k+1)) (frF f)=xJk (l.take k) (frF f)++if memB (frF f) p.1 then [p] else []:=by
       rw[yQ7 hp];unfold xJk;rw[List.filter_append];congr 1;simp only[List.filter_cons,List.filter_nil]
      have aj:subSt S0 (U.put m2 (some (.map .str (updI (.string p.1) (.raw (.bool true)) O)))):=yJ7 A aL;have az:PsOk cs (U.put m2 (some (.map .str (updI (.string p.1) (.raw (.bool true)) O)))):=λq hq=>by
       obtain⟨e,h1,h2⟩:=aJ q hq;exact⟨e,by rw[yQ5 (au q hq)];exact h1,h2⟩
      have al:own (U.put m2 (some (.map .str (updI (.string p.1) (.raw (.bool true)) O)))) tp cs.length 7 S0:=ac.mono λg hg _=>by
       rw[yQ5 (λh=>by rw[h,aa] at hg;cases hg)];exact hg
      cases aq:memB (frF f) p.1
      ·rw[aq] at ag;simp only[bFt,if_false,List.append_nil] at ag;simp only[go_sem,zE,f2,f4,f6,f7,f8,f21,f22,f23,aa,ak.look,ai,e1,(SetOk.ofE (frF f)).look,aq,yQc an (show l.length<=281474976710656 by omega)];exact⟨ae,aj,_,cs,tp,zs,ay,rfl,rfl,hzs,by rw[E,ag],az,au,al⟩
      ·rw[aq] at ag;simp only[if_true] at ag;simp only[go_sem,zE,zA,zL,f6,f7,f8,aa,ak.look,ai,e1,(SetOk.ofE (frF f)).look,aq];refine (xG2 gl p.1 p.2 v n3 t3 x3 hy (by omega) _).mono ?_;rintro _ _ ⟨m3,am,rfl,rfl⟩;have aA:m3≠m2:=λh=>by rw[h,ISt.put_same] at am;cases am
       have aU:IsPc ⟨p.1,p.2,m3⟩ (yW3 p.1 v n3 t3 x3 m3 p.2):=⟨v,n3,t3,x3,rfl,hy⟩
       have bl:cs.length<=l.length:=by
        have:cs.length=(toS cs).length:=by simp[toS]
        rw[this,E];exact Nat.le_trans (List.length_filter_le _ _) (by rw[List.length_take];omega)
       unfold yW3 at aU ⊢;simp only[go_sem,zE,zA,zM,zL,fits,yQ4];refine yZy (al.mono λg hg _=>by rw[yQ5 (yXt hg am)];exact hg) hzs.len (aj.trans (yQa am)) rfl (by simp[fits,IV.one]) (by simp only;omega) (by omega) λbe st4 aX aF aM=>?_;have k2:st4 m2=some (.map .str (updI (.string p.1) (.raw (.bool true)) O)):=aM m2 _ (by rw[yQ5 (λh=>aA h.symm),ISt.put_same]) (λ_ h=>by cases h);have k3:=aM m3 _ (ISt.put_same _ m3 _) (λ_ h=>by cases h);simp only[go_sem,zE,f2,f4,f6,f7,f21,f22,f23,yQc an (show l.length<=281474976710656 by omega)];refine⟨ae,aF,_,cs++[⟨p.1,p.2,m3⟩],be,_,ay,k2,rfl,hzs.append (IsPcs.one aU),?_,λq hq=>?_,λq hq=>?_,by rw[lLa];exact aX⟩
       ·rw[ag,<- E];simp[toS]
       ·rcases List.mem_append.1 hq with hq|hq
        ·obtain⟨e,h1,h2⟩:=az q hq;exact⟨e,aM _ _ (by rw[yQ5 (yXt h1 am)];exact h1) (λ_ h=>by cases h),h2⟩
        ·rw[List.mem_singleton] at hq;subst hq;exact⟨_,k3,SetOk.ofE _⟩
       ·rcases List.mem_append.1 hq with hq|hq
        ·exact au q hq
        ·rw[List.mem_singleton] at hq;subst hq;exact aA
     ·rw[ao (by rw[af,aD,ai];rfl)];simp only[go_sem,zE,zA,zL,f4,f7,aa,ak.look,ai];exact yQf (J.trans A) ⟨_,rfl,xGp _ _ _ _,rfl⟩
  ·rintro fr U _ ⟨⟨D,A,O,cs,tp,zs,ak,aa,f8,hzs,E,aJ,au,ac⟩,f2,f4,f6,f7,f21,f22,f23,rfl⟩;rw[lTl] at D E;have hnd:(cs.map Pc.nm).Nodup:=by
    have h2:=(zKa l [] D).1;have:cs.map Pc.nm=(toS cs).map (·.1):=by simp[toS,Function.comp_def]
    rw[this,E];exact h2.sublist ((List.filter_sublist).map _)
   have hM:∀p∈cs,p.tm.size<=1000000:=λp hp=>by
    have:(p.nm,p.tm)∈toS cs:=List.mem_map.2 ⟨p,hp,rfl⟩;rw[E] at this;exact aZ _ (List.mem_filter.1 this).1
   have bl:cs.length<=l.length:=by
    have:cs.length=(toS cs).length:=by simp[toS]
    rw[this,E];exact List.length_filter_le _ _
   have bu:wS (toS cs)<=wS l:=by rw[E];exact yUg _ l
   have a7:=vV8 hnd bj;have hP:yV5 f l=if decide ((yGq (toS cs) f).size<=400)&&decide ((yGq (toS cs) f).deep<=40) then (yGq (toS cs) f,0) else (fm0,3):=by
    simp only[yV5,hr,D,Bool.and_self,if_true,<- E]
   simp only[go_sem,zE,zA,zL,f2,f8,f22,f23,yQi (nLi _)];refine λm4=>yQ8 λaw=>?_;refine (aG cs tp zs ac.es hzs hM _ m4 (ISt.put_same _ _ _)).mono ?_;rintro _ _ ⟨bG,_,rfl,rfl⟩;rw[a7,yQ9];rw[hP];generalize hg:yGq (toS cs) f=g at *;by_cases aC:g.size<=400
   ·by_cases aT:g.deep<=40
    ·rw[dEt aC,dEt aT];simp only[Bool.and_self,if_true];simp only[go_sem,zE,zA,zL,f2,f8,show decide ((400:Int)<(g.size:Int))=false from dEf (by omega),show decide ((40:Int)<(g.deep:Int))=false from dEf (by omega)];refine (aN cs tp zs ac.es hzs (by omega) (by omega) _ (aJ.mono (yQa aw))).mono ?_;rintro r _ ⟨aH,rfl⟩;rw[hg] at aH;obtain⟨o5,n5,t5,x5,t6,x6,rfl⟩:=aH.agg;simp only[go_sem,zE,zA,zL,f4];exact yQf ((J.trans A).trans (yQa aw)) ⟨_,rfl,aH,rfl⟩
    ·rw[dEt aC,dEf aT];simp only[Bool.and_false,bFt,if_false];simp only[go_sem,zE,zA,zL,f4,show decide ((400:Int)<(g.size:Int))=false from dEf (by omega),show decide ((40:Int)<(g.deep:Int))=true from dEt (by omega)];exact yQf ((J.trans A).trans (yQa aw)) ⟨_,rfl,xGp _ _ _ _,rfl⟩
   ·rw[dEf aC];simp only[Bool.false_and,bFt,if_false];simp only[go_sem,zE,zA,zL,f4,show decide ((400:Int)<(g.size:Int))=true from dEt (by omega)];exact yQf ((J.trans A).trans (yQa aw)) ⟨_,rfl,xGp _ _ _ _,rfl⟩
theorem kQd (G:Gl gl)(T:Gt gl)(f:Fm)(x:IV)(hx:IsFm f x)(hs:f.size<=1000000)(nm:ByteArray)(t:Tm)(y:IV)(U:IsTm t y)(ht:t.size<=1000000)(st:ISt) :
  ICall prog gl 174 [x,.raw (.string nm),y] st (FED (yV5 f [(nm,t)]).1 (yV5 f [(nm,t)]).2 st):=by
 obtain⟨v,J,t3,E,rfl⟩:=U.agg;have A:IsOnes [(nm,t)] [.agg [.raw (.string nm),.raw (.bool v),.raw (.string J),.sl t3 E]]:=⟨_,[],rfl,⟨v,J,t3,E,rfl,U⟩,rfl⟩
 have hc:=λtg D st=>vYe gl G T f x hx hs [(nm,t)] tg _ D A (by simp) (λp hp=>by rw[List.mem_singleton] at hp;subst hp;exact ht) (by simp only[wS];omega) st;obtain⟨o0,n0,ta,xa,tb,xb,rfl⟩:=hx.agg;refine iI func174 ?_;simp only[go_sem,zE,zA,zM,zL,fits,yQ4];refine (hc _ (by simp only[go_sem]) _).mono ?_;rintro _ _ ⟨z,rfl,O,rfl⟩;obtain⟨o5,n5,t5,x5,t6,x6,rfl⟩:=O.agg;simp only[go_sem,zE,zA,zL];exact yQ0 ⟨_,rfl,O,rfl⟩
theorem kQe (G:Gl gl)(T:Gt gl)(f:Fm)(x:IV)(hx:IsFm f x)(hs:f.size<=1000000)(nm:ByteArray)(t:Tm)(y:IV)(A:IsTm t y)(ht:t.size<=1000000)(st:ISt) :
  ICall prog gl 174 [x,.raw (.string nm),y] st (FE (yV5 f [(nm,t)]).1 (yV5 f [(nm,t)]).2 st):=(kQd gl G T f x hx hs nm t y A ht st).mono FED.w
