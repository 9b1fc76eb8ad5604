/- Walks: form. -/
import Derived.Test.YtabhgbojkjcfjaaGreatDoorKA
set_option linter.all false
open Nat renaming reduceEqDiff → zE,reduceBEq → zB,reduceAdd → zA,reduceMul → zM,reduceLeDiff → zL
namespace Go.Proofs.Tryz
open Go Go.Iv
set_option maxRecDepth 4000
variable (gl:Nat->Option IV)
theorem wGq {l:Sb}{p:ByteArray×Tm}(h:p∈l):p.2.size<=wS l:=by
 induction l with
 | nil=>cases h
 | cons a l A =>
  simp only[wS];rcases List.mem_cons.1 h with rfl|h
  ·omega
  ·have:=A h;omega
theorem uZ2 {ps:List Pc}{p:Pc}(h:p∈ps):p.tm.size<=wS (toS ps):=wGq (p:=(p.nm,p.tm)) (List.mem_map.2 ⟨p,h,rfl⟩)
def FO (f:Fm):Prop:=∀(x:IV) (_:IsFm f x) (ps:List Pc) (D:Tag) (A:List IV) (_:okEs D 7) (_:IsPcs ps A) (_:f.size+wS (toS ps)<=1099511627776) (_:f.size+ps.length<=1099511627776) (st:ISt) (_:PsOk ps st),
 ICall prog gl 263 [.sl D A,x] st (λr st'=>IsFmD (yJn (toS ps) f) r/\st'=st)
theorem wK5 (T:Gt gl)(op:Nat)(n:ByteArray)(us:List Tm)(sub:List Fm)(IH:∀a∈sub,FO gl a):FO gl (.mk op n us sub):=by
 intro x hx ps tg xs ax aw aV aT st aS;have aO:=hx;obtain⟨t1,x1,t2,x2,rfl,aE,aQ,aB,aD,an⟩:=hx.mk;simp only[Fm.size] at aV aT;have a8:=yX0 us;have a7:=yQs sub;refine iI func263 ?_;simp only[go_sem,zE,zA,zL,fits,aB.len];intros;refine LoopC.ctr us.length (λk fr st' ds=>(∃D ys,fr 5=.box [.raw (.int .u8 op),.raw (.string n),.sl D ys,.sl ⟨true,.nil,0⟩ []]/\IsTmsD (yZd (yZa (toS ps)) (us.take k)) ys/\appT k D/\own st' D k 3 st/\subSt st st') /\
  fr 0=.iv (.sl tg xs)/\fr 3=.box [.raw (.int .u8 op),.raw (.string n),.sl t1 x1,.sl t2 x2]/\fr 4=.box [.raw (.int .u8 0),.raw (.string ⟨#[]⟩),.sl ⟨true,.nil,0⟩ [],.sl ⟨true,.nil,0⟩ []] /\
  fr 16=.iv (.sl t1 x1)/\fr 17=.iv (.raw (.int .i64 us.length))/\fr 18=.iv (.raw (.int .i64 k))/\ds=[]) ?_ ?_ ?_
 ·simp only[go_sem,zE,reduceCtorEq];exact⟨⟨_,_,rfl,IsTmsD.nil,.inl rfl,own.nil _ _ _ _ _,subSt.refl _⟩,rfl⟩
 ·rintro k fr ah _ O ⟨⟨D,ys,f5,hys,aH,E,F⟩,f0,f3,f4,f16,f17,f18,rfl⟩;obtain⟨a,ha⟩:=yQ3 O;obtain⟨y,al,hy⟩:=aB.get ha;obtain⟨h1,h2⟩:=yZg ha;have W:=xXv gl (yZa (toS ps)) (λnm u h=>by have:=wGq (xXy h);simp only at this;omega) a y hy (by omega) (.func 297) [.sl tg xs] [] rfl (λi hi=>by cases hi;simp only[go_sem]) st
   (λnm s hs=>ICallV.of_ICall (by simp only[go_sem]) (by rw[<- wWm];exact wJq gl ps tg xs ax aw nm s)) ah F
  have U:ys.length=k:=by rw[hys.len,yZ5,List.length_take];omega
  have J:∀r,IsTmD (yJi (yZa (toS ps)) a) r->IsTmsD (yZd (yZa (toS ps)) (us.take (k+1))) (ys++[r]):=λr hr=>by
   rw[yQ4 ha,yX4];exact hys.append (IsTmsD.one hr)
  obtain⟨v5,n5,t5,x5,rfl⟩:=hy.agg;simp only[go_sem,zE,zB,zA,zL,reduceCtorEq,f0,f5,f16,f17,f18,lt_i O,yQ2 aQ,iNn,al,fits];refine W.mono ?_;rintro r _ ⟨hr,rfl⟩;have hn:=J r hr;obtain⟨v6,n6,t6,x6,rfl⟩:=hr.agg;simp only[go_sem,zE,zA,zM,zL,fits,yQ1];refine yZy E U F rfl (by simp[fits,IV.one]) (by simp only;omega) (by omega) λaj av G af _ ab=>?_;simp only[go_sem,zE,zA,zL,reduceCtorEq,f0,f3,f4,f5,f16,f17,f18,yQb O (show us.length<=281474976710656 by omega)];exact⟨aj,_,rfl,hn,ab,G,af⟩
 ·rintro fr ah _ ⟨⟨ta,xa,f5,ac,au,ay,F⟩,f0,f3,f4,f16,f17,f18,rfl⟩;rw[lTl] at ac;have aC:=ay.es;have aq:=aS.mono F;simp only[go_sem,zE,zA,zL,f3,f17,f18,yQj (nLi _)];refine (yJs gl op n _ _ _ _ _).mono ?_;rintro _ ah ⟨rfl,rfl⟩;cases hq:isQ op
  ·simp only[go_sem,zE,f3,an.len];intros;refine LoopC.ctr sub.length (λk fr st' ds=>(∃D ys,fr 5=.box [.raw (.int .u8 op),.raw (.string n),.sl ta xa,.sl D ys]/\IsFmsD (yXu (toS ps) (sub.take k)) ys/\appT k D/\own st' D k 4 ah/\subSt ah st') /\
    fr 0=.iv (.sl tg xs)/\fr 4=.box [.raw (.int .u8 0),.raw (.string ⟨#[]⟩),.sl ⟨true,.nil,0⟩ [],.sl ⟨true,.nil,0⟩ []] /\
    fr 42=.iv (.sl t2 x2)/\fr 43=.iv (.raw (.int .i64 sub.length))/\fr 44=.iv (.raw (.int .i64 k))/\ds=[]) ?_ ?_ ?_
   ·simp only[go_sem,zE,reduceCtorEq,f0,f4,f5];exact⟨⟨_,_,rfl,IsFmsD.nil,.inl rfl,own.nil _ _ _ _ _,subSt.refl _⟩,rfl⟩
   ·rintro k fr ak _ O ⟨⟨D,ys,f5,hys,aH,E,A⟩,f0,f4,f42,f43,f44,rfl⟩;obtain⟨a,ha⟩:=yQ3 O;obtain⟨y,al,hy⟩:=an.get ha;obtain⟨h1,h2⟩:=yQq ha;have W:=IH a (lMg ha) y hy ps tg xs ax aw (by omega) (by omega) ak (aq.mono A);have U:ys.length=k:=by rw[hys.len,yXt,List.length_take];omega
    have J:∀r,IsFmD (yJn (toS ps) a) r->IsFmsD (yXu (toS ps) (sub.take (k+1))) (ys++[r]):=λr hr=>by
     rw[yQ4 ha,yK3];exact hys.append (IsFmsD.one hr)
    obtain⟨o5,n5,t5,x5,t6,x6,rfl⟩:=hy.agg;simp only[go_sem,zE,zB,zA,zL,reduceCtorEq,f0,f5,f42,f43,f44,lt_i O,yQ2 aD,iNn,al,fits];refine W.mono ?_;rintro r _ ⟨hr,rfl⟩;have hn:=J r hr;obtain⟨o7,n7,t7,x7,t8,x8,rfl⟩:=hr.agg;simp only[go_sem,zE,zA,zM,zL,fits,yQ1];refine yZy E U A rfl (by simp[fits,IV.one]) (by simp only;omega) (by omega) λaj st4 G ae _ ab=>?_;simp only[go_sem,zE,zA,zL,reduceCtorEq,f0,f4,f5,f42,f43,f44,yQb O (show sub.length<=281474976710656 by omega)];exact⟨aj,_,rfl,hn,ab,G,ae⟩
   rintro fr ak _ ⟨⟨tb,xb,f5,aa,am,E,A⟩,f0,f4,f42,f43,f44,rfl⟩;rw[lTl] at aa;simp only[go_sem,zE,zA,zL,f4,f5,f43,f44,yQj (nLi _)];refine yQc (F.trans A) ⟨?_,rfl⟩;exact IsFmD.of ⟨ta,xa,tb,xb,by simp[hq],aE,aC,ac.1,E.es,by simpa[hq] using aa.1⟩ (au.to (by rw[ac.len,yZ5])) ac.2 (am.to (by rw[aa.len,yXt])) aa.2
  ·simp only[go_sem,zE,zA,zL,reduceCtorEq,f0,f3];refine (vQ9 gl T op n us sub _ aO ps tg xs ax aw (by omega) (by omega) (λp hp=>by have:=uZ2 hp;omega) ah aq).mono ?_;rintro _ av ⟨af,cs,tc,zs,rfl,aP,hzs,aG,aU,bi⟩;have hw:=wVq (toS ps) n (frFs sub);rw[<- aG] at hw;simp only[go_sem,zE,zA,zL,reduceCtorEq,f3,f5,an.len];intros;refine LoopC.ctr sub.length (λk fr st' ds=>(∃D ys,fr 5=.box [.raw (.int .u8 op),.raw (.string (yJk (toS ps) n (frFs sub)).1),.sl ta xa,.sl D ys]/\IsFmsD (yXu (toS cs) (sub.take k)) ys/\appT k D/\own st' D k 4 av/\subSt av st') /\
    fr 0=.iv (.sl tc zs)/\fr 4=.box [.raw (.int .u8 0),.raw (.string ⟨#[]⟩),.sl ⟨true,.nil,0⟩ [],.sl ⟨true,.nil,0⟩ []] /\
    fr 42=.iv (.sl t2 x2)/\fr 43=.iv (.raw (.int .i64 sub.length))/\fr 44=.iv (.raw (.int .i64 k))/\ds=[]) ?_ ?_ ?_
   ·simp only[go_sem,zE,reduceCtorEq,f4];exact⟨⟨_,_,rfl,IsFmsD.nil,.inl rfl,own.nil _ _ _ _ _,subSt.refl _⟩,rfl⟩
   ·rintro k fr ak _ O ⟨⟨D,ys,f5,hys,aH,E,A⟩,f0,f4,f42,f43,f44,rfl⟩;obtain⟨a,ha⟩:=yQ3 O;obtain⟨y,al,hy⟩:=an.get ha;obtain⟨h1,h2⟩:=yQq ha;have W:=IH a (lMg ha) y hy cs tc zs aP hzs (by omega) (by omega) ak (aU.mono A);have U:ys.length=k:=by rw[hys.len,yXt,List.length_take];omega
    have J:∀r,IsFmD (yJn (toS cs) a) r->IsFmsD (yXu (toS cs) (sub.take (k+1))) (ys++[r]):=λr hr=>by
     rw[yQ4 ha,yK3];exact hys.append (IsFmsD.one hr)
    obtain⟨o5,n5,t5,x5,t6,x6,rfl⟩:=hy.agg;simp only[go_sem,zE,zB,zA,zL,reduceCtorEq,f0,f5,f42,f43,f44,lt_i O,yQ2 aD,iNn,al,fits];refine W.mono ?_;rintro r _ ⟨hr,rfl⟩;have hn:=J r hr;obtain⟨o7,n7,t7,x7,t8,x8,rfl⟩:=hr.agg;simp only[go_sem,zE,zA,zM,zL,fits,yQ1];refine yZy E U A rfl (by simp[fits,IV.one]) (by simp only;omega) (by omega) λaj st4 G ae _ ab=>?_;simp only[go_sem,zE,zA,zL,reduceCtorEq,f0,f4,f5,f42,f43,f44,yQb O (show sub.length<=281474976710656 by omega)];exact⟨aj,_,rfl,hn,ab,G,ae⟩
   rintro fr ak _ ⟨⟨tb,xb,f5,aa,am,E,A⟩,f0,f4,f42,f43,f44,rfl⟩;rw[lTl] at aa;simp only[go_sem,zE,zA,zL,f4,f5,f43,f44,yQj (nLi _)];refine yQc (F.trans (af.trans A)) ⟨?_,rfl⟩;rw[aG] at aa;exact IsFmD.of ⟨ta,xa,tb,xb,by simp[hq],aE,aC,ac.1,E.es,by simpa[hq] using aa.1⟩ (au.to (by rw[ac.len,yZ5])) ac.2 (am.to (by rw[aa.len,yXt])) aa.2
theorem xGc (T:Gt gl):∀(k:Nat) (t:Fm),SizeOf.sizeOf t<k->FO gl t
 | 0,f,h=>by omega
 | k+1,.mk o n us sub,h=>wK5 gl T o n us sub (λa A=>xGc T k a (by
   have:=lSm A;simp at h;omega))
theorem vW0 (T:Gt gl)(t:Fm):FO gl t:=xGc gl T _ t (Nat.lt_succ_self _)
def yWj:List ByteArray->Sb->Bool
 | _,[]=>true
 | seen,p::l=>yV4 p.1&&p.2.ok&&!memB seen p.1&&yWj (seen++[p.1]) l
theorem yVh:∀(l m:Sb)(seen:List ByteArray),yWj seen (l++m)=(yWj seen l&&yWj (seen++l.map (·.1)) m)
 | [],m,seen=>by simp[yWj]
 | p::l,m,seen=>by
  simp only[List.cons_append,yWj,yVh l m,List.map_cons,List.append_assoc,Bool.and_assoc,List.cons_append,List.nil_append]
theorem zVs:∀(l:Sb)(seen:List ByteArray),yWj seen l=true->(l.map (·.1)).Nodup/\∀p∈l,p.1 ∉ seen/\p.2.ok=true/\yV4 p.1=true
 | [],seen,_=>⟨List.nodup_nil,λp h=>by cases h⟩
 | p::l,seen,h=>by
  simp only[yWj,bAt,Bool.not_eq_true',zZc] at h;obtain⟨⟨⟨h1,h2⟩,G⟩,F⟩:=h;obtain⟨i1,i2⟩:=zVs l _ F;refine⟨?_,λq A=>?_⟩
  ·rw[List.map_cons,List.nodup_cons];refine⟨λD=>?_,i1⟩;obtain⟨q,A,E⟩:=List.mem_map.1 D;have:=(i2 q A).1;simp[E] at this
  ·rcases List.mem_cons.1 A with rfl|A
   ·exact⟨G,h2,h1⟩
   ·have:=i2 q A;exact⟨λD=>this.1 (List.mem_append_left _ D),this.2⟩
def yGd (l:Sb)(fr:List ByteArray):Sb:=l.filter λp=>memB fr p.1
noncomputable def yZf (f:Fm)(l:Sb):Fm×Nat :=
 if f.right&&yWj [] l then
  (if decide ((yJn (yGd l (frF f)) f).size<=400)&&decide ((yJn (yGd l (frF f)) f).deep<=40) then (yJn (yGd l (frF f)) f,0) else (fm0,3))
 else (fm0,2)
theorem xJj (t A:Tag)(h:okEs t 3)(D:okEs A 4):IsFm fm0 (.agg [.raw (.int .u8 0),.raw (.string ⟨#[]⟩),.sl t [],.sl A []]):=⟨t,[],A,[],rfl,by omega,h,rfl,D,rfl⟩
theorem wQm (f A:Bool)(e D:Nat):IsFmD fm0 (.agg [.raw (.int .u8 0),.raw (.string ⟨#[]⟩),.sl ⟨f,.nil,e⟩ [],.sl ⟨A,.nil,D⟩ []]):=IsFmD.of (xJj _ _ (.inl rfl) (.inl rfl)) (.inl rfl) trivial (.inl rfl) trivial
theorem wQ2 (nm:ByteArray)(t:Tm)(v:Bool)(n:ByteArray)(D:Tag)(A:List IV)(F:IsTm t (.agg [.raw (.bool v),.raw (.string n),.sl D A]))(G:t.size<=1099511627776)(st:ISt) :
  ICall prog gl 261 [.agg [.raw (.string nm),.raw (.bool v),.raw (.string n),.sl D A]] st
   (λr st'=>∃m,st m=none/\r=yY9 nm v n D A m t/\st'=st.put m (some (.map .str (setE (yQo t))))):=by
 obtain⟨U,W,us⟩:=t;have E:=F;obtain⟨t2,O,J,_⟩:=F.mk;cases J;exact zGa gl nm v n us D A E G st
theorem vYb (G:Gl gl)(T:Gt gl)(f:Fm)(x:IV)(hx:IsFm f x)(hs:f.size<=1000000)(l:Sb)(tg:Tag)(xs:List IV)(aU:okEs tg 4)(aT:IsOnes l xs)(hl:l.length<=1000000)(aX:∀p∈l,p.2.size<=1000000)(bw:wS l<=1000000000)(st:ISt) :
  ICall prog gl 212 [x,.sl tg xs] st (FED (yZf f l).1 (yZf f l).2 st):=by
 have h1:=λst=>zWq gl G f x hx st hs;have aq:=λst=>yG2 gl f x hx st;have av:=λst=>wW2 gl 231 [.cptr x] (xVu f) st (by simp only[go_sem]) (λI=>yWs gl f x hx (by omega) I);rw[zK8] at av;have bC:=zJk f;have aE:=λ(cs:List Pc) tp zs htp hzs hM st m hm=>vKm gl cs tp zs htp hzs m 1000000 (by omega) hM f x hx (λ_=>0) [] CntOk.nil (λ_=>by omega) (by omega) st hm;have aL:=λ(cs:List Pc) tp zs htp hzs hw bg st aG=>vW0 gl T f x hx cs tp zs htp hzs hw bg st aG;obtain⟨o0,n0,ta,xa,tb,xb,rfl⟩:=hx.agg;cases hr:f.right
 ·rw[hr] at h1;have hE:yZf f l=(fm0,2):=by simp[yZf,hr]
  rw[hE];refine iI func212 ?_;simp only[go_sem,zE,zA,zL];refine (h1 _).mono ?_;rintro _ st ⟨rfl,rfl⟩;simp only[go_sem,zE,zA,zL];exact yQ0 ⟨_,rfl,wQm _ _ _ _,rfl⟩
 ·rw[hr] at h1;have bh:=(yK1 hr).1;have bB:=(yK1 hr).2.1;refine iI func212 ?_;simp only[go_sem,zE,zA,zL];refine (h1 _).mono ?_;rintro _ st ⟨rfl,rfl⟩;simp only[go_sem,zE,zA,zL];refine (aq _).mono ?_;rintro _ st ⟨rfl,rfl⟩;simp only[go_sem,zA];refine (av _).mono ?_;rintro _ _ ⟨m1,bj,rfl,rfl⟩;simp only[go_sem,zE,aT.len];refine λm2=>yQd λaJ=>?_;intros;generalize a7:st.put m1 (some (.map .str (setE (frF f))))=S0 at *;have F:subSt st S0:=a7▸yQe bj;have a6:S0 m1=some (.map .str (setE (frF f))):=by rw[<- a7,ISt.put_same]
  refine LoopC.ctr l.length (λk fr st' ds=>(yWj [] (l.take k)=true/\subSt S0 st'/\∃J cs tp zs,SetOk J ((l.take k).map (·.1))/\st' m2=some (.map .str J)/\fr 8=.iv (.sl tp zs)/\IsPcs cs zs/\toS cs=yGd (l.take k) (frF f)/\PsOk cs st' /\
    (∀p∈cs,p.at_≠m2)/\own st' tp cs.length 7 S0) /\
   fr 2=.box [.raw (.int .u8 o0),.raw (.string n0),.sl ta xa,.sl tb xb]/\fr 4=.box [.raw (.int .u8 0),.raw (.string ⟨#[]⟩),.sl ⟨true,.nil,0⟩ [],.sl ⟨true,.nil,0⟩ []]/\fr 6=.iv (.raw (.map (some m1)))/\fr 7=.iv (.raw (.map (some m2))) /\
   fr 21=.iv (.sl tg xs)/\fr 22=.iv (.raw (.int .i64 l.length))/\fr 23=.iv (.raw (.int .i64 k))/\ds=[]) ?_ ?_ ?_
  ·simp only[go_sem,zE];exact⟨⟨rfl,yQe aJ,[],[],_,[],SetOk.nil,rfl,rfl,rfl,rfl,(λp h=>by cases h),(λp h=>by cases h),own.nil _ _ _ _ _⟩,rfl⟩
  ·rintro k fr O _ al ⟨⟨D,A,J,cs,tp,zs,ai,U,f8,hzs,E,aH,ao,aa⟩,f2,f4,f6,f7,f21,f22,f23,rfl⟩;obtain⟨p,hp⟩:=yQ3 al;obtain⟨y,aY,v,n3,t3,x3,rfl,hy⟩:=aT.get hp;have bf:=lMg hp;have aG:=aX p bf;have aZ:yWj [] (l.take (k+1))=(yV4 p.1&&p.2.ok&&!memB ((l.take k).map (·.1)) p.1):=by
    rw[yQ4 hp,yVh,D];simp[yWj]
   have am:(yV4 p.1&&p.2.ok&&!memB ((l.take k).map (·.1)) p.1)=false->yZf f l=(fm0,2):=λh=>by
    have:yWj [] l=false:=by
     rw[<- List.take_append_drop (k+1) l,yVh,aZ,h];rfl
    simp[yZf,this]
   have aC:=λst=>yYl gl p.2 _ hy aG st;have aW:=A m1 _ a6;cases ac:yV4 p.1
   ·rw[am (by simp[ac])];simp only[go_sem,zE,zB,zA,zL,f21,f22,f23,lt_i al,yQ2 aU,iNn,aY,fits];refine (yUw gl p.1 _).mono ?_;rintro _ O ⟨rfl,rfl⟩;simp only[go_sem,zE,zA,zL,f4,ac];exact yQc (F.trans A) ⟨_,rfl,wQm _ _ _ _,rfl⟩
   ·simp only[go_sem,zE,zB,zA,zL,f21,f22,f23,lt_i al,yQ2 aU,iNn,aY,fits];refine (yUw gl p.1 _).mono ?_;rintro _ O ⟨rfl,rfl⟩;simp only[go_sem,zE,zA,zL,ac];refine (aC _).mono ?_;rintro _ O ⟨rfl,rfl⟩;cases aB:p.2.ok
    ·rw[am (by simp[ac,aB])];simp only[go_sem,zE,zA,zL,f4];exact yQc (F.trans A) ⟨_,rfl,wQm _ _ _ _,rfl⟩
    ·cases ag:memB ((l.take k).map (·.1)) p.1
     ·have aI:m1≠m2:=yVt a6 aJ;have e1:∀o,(O.put m2 o) m1=some (.map .str (setE (frF f))):=λo=>by rw[yZ7 aI];exact aW
      have ab:yWj [] (l.take (k+1))=true:=by rw[aZ,ac,aB,ag];rfl
      have aw:SetOk (updI (.string p.1) (.raw (.bool true)) J) ((l.take (k+1)).map (·.1)):=by
       rw[yQ4 hp,List.map_append];exact ai.upd p.1
      have ae:yGd (l.take (k+1)) (frF f)=yGd (l.take k) (frF f)++if memB (frF f) p.1 then [p] else []:=by
       rw[yQ4 hp];unfold yGd;rw[List.filter_append];congr 1;simp only[List.filter_cons,List.filter_nil]
      have ah:subSt S0 (O.put m2 (some (.map .str (updI (.string p.1) (.raw (.bool true)) J)))):=yKg A aJ;have ax:PsOk cs (O.put m2 (some (.map .str (updI (.string p.1) (.raw (.bool true)) J)))):=λq W=>by
       obtain⟨e,h1,h2⟩:=aH q W;exact⟨e,by rw[yZ7 (ao q W)];exact h1,h2⟩
      have aj:own (O.put m2 (some (.map .str (updI (.string p.1) (.raw (.bool true)) J)))) tp cs.length 7 S0:=aa.mono λg hg _=>by
       rw[yZ7 (λh=>by rw[h,U] at hg;cases hg)];exact hg
      cases an:memB (frF f) p.1
      ·rw[an] at ae;simp only[bFt,if_false,List.append_nil] at ae;simp only[go_sem,zE,f2,f4,f6,f7,f8,f21,f22,f23,U,ai.look,ag,e1,(SetOk.ofE (frF f)).look,an,yQb al (show l.length<=281474976710656 by omega)];exact⟨ab,ah,_,cs,tp,zs,aw,rfl,rfl,hzs,by rw[E,ae],ax,ao,aj⟩
      ·rw[an] at ae;simp only[if_true] at ae;simp only[go_sem,zE,zA,zL,f6,f7,f8,U,ai.look,ag,e1,(SetOk.ofE (frF f)).look,an];refine (wQ2 gl p.1 p.2 v n3 t3 x3 hy (by omega) _).mono ?_;rintro _ _ ⟨m3,ak,rfl,rfl⟩;have ay:m3≠m2:=λh=>by rw[h,ISt.put_same] at ak;cases ak
       have aS:IsPc ⟨p.1,p.2,m3⟩ (yY9 p.1 v n3 t3 x3 m3 p.2):=⟨v,n3,t3,x3,rfl,hy⟩
       have bk:cs.length<=l.length:=by
        have:cs.length=(toS cs).length:=by simp[toS]
        rw[this,E];exact Nat.le_trans (List.length_filter_le _ _) (by rw[List.length_take];omega)
       unfold yY9 at aS ⊢;simp only[go_sem,zE,zA,zM,zL,fits,yQ1];refine yZ1 (aj.mono λg hg _=>by rw[yZ7 (yVt hg ak)];exact hg) hzs.len (ah.trans (yQe ak)) rfl (by simp[fits,IV.one]) (by simp only;omega) (by omega) λbc st4 aV aD aK=>?_;have k2:st4 m2=some (.map .str (updI (.string p.1) (.raw (.bool true)) J)):=aK m2 _ (by rw[yZ7 (λh=>ay h.symm),ISt.put_same]) (λ_ h=>by cases h);have k3:=aK m3 _ (ISt.put_same _ m3 _) (λ_ h=>by cases h);simp only[go_sem,zE,f2,f4,f6,f7,f21,f22,f23,yQb al (show l.length<=281474976710656 by omega)];refine⟨ab,aD,_,cs++[⟨p.1,p.2,m3⟩],bc,_,aw,k2,rfl,hzs.append (IsPcs.one aS),?_,λq W=>?_,λq W=>?_,by rw[lLa];exact aV⟩
       ·rw[ae,<- E];simp[toS]
       ·rcases List.mem_append.1 W with W|W
        ·obtain⟨e,h1,h2⟩:=ax q W;exact⟨e,aK _ _ (by rw[yZ7 (yVt h1 ak)];exact h1) (λ_ h=>by cases h),h2⟩
        ·rw[List.mem_singleton] at W;subst W;exact⟨_,k3,SetOk.ofE _⟩
       ·rcases List.mem_append.1 W with W|W
        ·exact ao q W
        ·rw[List.mem_singleton] at W;subst W;exact ay
     ·rw[am (by rw[ac,aB,ag];rfl)];simp only[go_sem,zE,zA,zL,f4,f7,U,ai.look,ag];exact yQc (F.trans A) ⟨_,rfl,wQm _ _ _ _,rfl⟩
  ·rintro fr O _ ⟨⟨D,A,J,cs,tp,zs,ai,U,f8,hzs,E,aH,ao,aa⟩,f2,f4,f6,f7,f21,f22,f23,rfl⟩;rw[lTl] at D E;have bi:(cs.map Pc.nm).Nodup:=by
    have h2:=(zVs l [] D).1;have:cs.map Pc.nm=(toS cs).map (·.1):=by simp[toS,Function.comp_def]
    rw[this,E];exact h2.sublist ((List.filter_sublist).map _)
   have hM:∀p∈cs,p.tm.size<=1000000:=λp hp=>by
    have:(p.nm,p.tm)∈toS cs:=List.mem_map.2 ⟨p,hp,rfl⟩;rw[E] at this;exact aX _ (List.mem_filter.1 this).1
   have bk:cs.length<=l.length:=by
    have:cs.length=(toS cs).length:=by simp[toS]
    rw[this,E];exact List.length_filter_le _ _
   have bu:wS (toS cs)<=wS l:=by rw[E];exact zQu _ l
   have a1:=vVv bi bh;have hP:yZf f l=if decide ((yJn (toS cs) f).size<=400)&&decide ((yJn (toS cs) f).deep<=40) then (yJn (toS cs) f,0) else (fm0,3):=by
    simp only[yZf,hr,D,Bool.and_self,if_true,<- E]
   simp only[go_sem,zE,zA,zL,f2,f8,f22,f23,yQj (nLi _)];refine λm4=>yQd λau=>?_;refine (aE cs tp zs aa.es hzs hM _ m4 (ISt.put_same _ _ _)).mono ?_;rintro _ _ ⟨bG,_,rfl,rfl⟩;rw[a1,yQg];rw[hP];generalize hg:yJn (toS cs) f=g at *;by_cases aA:g.size<=400
   ·by_cases aQ:g.deep<=40
    ·rw[dEt aA,dEt aQ];simp only[Bool.and_self,if_true];simp only[go_sem,zE,zA,zL,f2,f8,show decide ((400:Int)<(g.size:Int))=false from dEf (by omega),show decide ((40:Int)<(g.deep:Int))=false from dEf (by omega)];refine (aL cs tp zs aa.es hzs (by omega) (by omega) _ (aH.mono (yQe au))).mono ?_;rintro r _ ⟨aF,rfl⟩;rw[hg] at aF;obtain⟨o5,n5,t5,x5,t6,x6,rfl⟩:=aF.agg;simp only[go_sem,zE,zA,zL,f4];exact yQc ((F.trans A).trans (yQe au)) ⟨_,rfl,aF,rfl⟩
    ·rw[dEt aA,dEf aQ];simp only[Bool.and_false,bFt,if_false];simp only[go_sem,zE,zA,zL,f4,show decide ((400:Int)<(g.size:Int))=false from dEf (by omega),show decide ((40:Int)<(g.deep:Int))=true from dEt (by omega)];exact yQc ((F.trans A).trans (yQe au)) ⟨_,rfl,wQm _ _ _ _,rfl⟩
   ·rw[dEf aA];simp only[Bool.false_and,bFt,if_false];simp only[go_sem,zE,zA,zL,f4,show decide ((400:Int)<(g.size:Int))=true from dEt (by omega)];exact yQc ((F.trans A).trans (yQe au)) ⟨_,rfl,wQm _ _ _ _,rfl⟩
theorem kZ0 (G:Gl gl)(T:Gt gl)(f:Fm)(x:IV)(U:IsFm f x)(hs:f.size<=1000000)(nm:ByteArray)(t:Tm)(y:IV)(O:IsTm t y)(ht:t.size<=1000000)(st:ISt) :
  ICall prog gl 156 [x,.raw (.string nm),y] st (FED (yZf f [(nm,t)]).1 (yZf f [(nm,t)]).2 st):=by
 obtain⟨v,F,t3,E,rfl⟩:=O.agg;have A:IsOnes [(nm,t)] [.agg [.raw (.string nm),.raw (.bool v),.raw (.string F),.sl t3 E]]:=⟨_,[],rfl,⟨v,F,t3,E,rfl,O⟩,rfl⟩
 have hc:=λW D st=>vYb gl G T f x U hs [(nm,t)] W _ D A (by simp) (λp hp=>by rw[List.mem_singleton] at hp;subst hp;exact ht) (by simp only[wS];omega) st;obtain⟨o0,n0,ta,xa,tb,xb,rfl⟩:=U.agg;refine iI func156 ?_;simp only[go_sem,zE,zA,zM,zL,fits,yQ1];refine (hc _ (by simp only[go_sem]) _).mono ?_;rintro _ _ ⟨z,rfl,J,rfl⟩;obtain⟨o5,n5,t5,x5,t6,x6,rfl⟩:=J.agg;simp only[go_sem,zE,zA,zL];exact yQ0 ⟨_,rfl,J,rfl⟩
theorem zJv (G:Gl gl)(T:Gt gl)(f:Fm)(x:IV)(D:IsFm f x)(F:f.size<=1000000)(nm:ByteArray)(t:Tm)(y:IV)(A:IsTm t y)(E:t.size<=1000000)(st:ISt) :
  ICall prog gl 156 [x,.raw (.string nm),y] st (FE (yZf f [(nm,t)]).1 (yZf f [(nm,t)]).2 st):=(kZ0 gl G T f x D F nm t y A E st).mono FED.w
