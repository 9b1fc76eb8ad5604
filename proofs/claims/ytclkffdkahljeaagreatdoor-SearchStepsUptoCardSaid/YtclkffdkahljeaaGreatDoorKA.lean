/- Walks: Normal. -/
import Derived.Test.YtclkffdkahljeaaGreatDoorJZ
set_option linter.all false
open Nat renaming reduceEqDiff → zE,reduceBEq → zB,reduceAdd → zA,reduceMul → zM,reduceLeDiff → zL
namespace Go.Proofs.Tryz
open Go Go.Iv
set_option maxRecDepth 4000
variable (gl:Nat->Option IV)
theorem zW7 (G:Gt gl):∀(k:Nat) (t:Fm),SizeOf.sizeOf t<k->NM gl t
 | 0,f,h=>by omega
 | k+1,.mk o n us sub,h=>xJ0 gl G o n us sub (λa A=>zW7 G k a (by
   have:=lSm A;simp at h;omega))
theorem wVp (G:Gt gl)(t:Fm):NM gl t:=zW7 gl G _ t (Nat.lt_succ_self _)
theorem _root_.Go.Iv.IsFm.agg {f:Fm}{x:IV}(h:IsFm f x):∃(op:Nat) (n:ByteArray) (t:Tag) (A:List IV) (D:Tag) (ys:List IV),x=.agg [.raw (.int .u8 op),.raw (.string n),.sl t A,.sl D ys]:=by
 obtain⟨op,n,us,sub⟩:=f;obtain⟨t,A,D,ys,rfl,_⟩:=h.mk;exact⟨_,_,_,_,_,_,rfl⟩
theorem _root_.Go.Iv.IsTm.agg {t:Tm}{x:IV}(h:IsTm t x):∃(v:Bool) (n:ByteArray) (D:Tag) (A:List IV),x=.agg [.raw (.bool v),.raw (.string n),.sl D A]:=by
 obtain⟨v,n,us⟩:=t;obtain⟨D,A,rfl,_⟩:=h.mk;exact⟨_,_,_,_,rfl⟩
theorem _root_.Go.Iv.IsFmD.agg {f:Fm}{x:IV}(h:IsFmD f x):∃(op:Nat) (n:ByteArray) (t:Tag) (A:List IV) (D:Tag) (ys:List IV),x=.agg [.raw (.int .u8 op),.raw (.string n),.sl t A,.sl D ys]:=h.1.agg
theorem _root_.Go.Iv.IsTmD.agg {t:Tm}{x:IV}(h:IsTmD t x):∃(v:Bool) (n:ByteArray) (D:Tag) (A:List IV),x=.agg [.raw (.bool v),.raw (.string n),.sl D A]:=h.1.agg
def fm0:Fm:=.mk 0 ⟨#[]⟩ [] []
def FE (g:Fm)(e:Nat)(st:ISt)(r:IV)(st':ISt):Prop:=∃y,r=.tup [y,.raw (.int .i64 e)]/\IsFm g y/\st'=st
def FED (g:Fm)(e:Nat)(st:ISt)(r:IV)(st':ISt):Prop:=∃y,r=.tup [y,.raw (.int .i64 e)]/\IsFmD g y/\st'=st
theorem FED.w {g:Fm}{e:Nat}{st:ISt}(r:IV)(st':ISt):FED g e st r st'->FE g e st r st':=λ⟨y,h1,h2,A⟩=>⟨y,h1,h2.1,A⟩
noncomputable def yV6 (f:Fm):Fm×Nat:=if f.right then (zJu f,0) else (fm0,2)
theorem wY8 (G:Gl gl)(T:Gt gl)(f:Fm)(x:IV)(hx:IsFm f x)(hs:f.size<=1000000)(st:ISt) :
  ICall prog gl 89 [x] st (FED (yV6 f).1 (yV6 f).2 st):=by
 have h1:=λst=>zV3 gl G f x hx st hs;have A:=λst=>yWu gl f x hx st;have D:=λst=>wV0 gl 152 [.cptr x] (xJl f) st (by simp only[go_sem]) (λI=>yVg gl f x hx (by omega) I);rw[zXx] at D;have ae:=xWb f;have J:=λm E st hm=>wVp gl T f x hx (frF f) m _ [] ⟨true,.nil,0⟩ (.inl ⟨rfl,rfl⟩) (by simp;omega) E st hm (SetOk.ofE (frF f));have hN:f.right=true->yV6 f=(zXb (frF f) [] f,0):=λh=>by simp[yV6,h,zJu]
 have hE:f.right=false->yV6 f=(fm0,2):=λh=>by simp[yV6,h]
 cases U:f.right
 ·rw[U] at h1;rw[hE U];obtain⟨o,n,us,sub⟩:=f;obtain⟨t1,x1,t2,x2,rfl,_⟩:=hx.mk;refine iI func89 ?_;simp only[go_sem,zE,zA,zL];refine (h1 _).mono ?_;rintro _ st ⟨rfl,rfl⟩;simp only[go_sem,zE,zA,zL];refine yQ0 ⟨_,rfl,?_,rfl⟩;exact IsFmD.of ⟨_,[],_,[],rfl,by omega,.inl rfl,rfl,.inl rfl,rfl⟩ (.inl rfl) trivial (.inl rfl) trivial
 ·rw[U] at h1;rw[hN U];have E:=(yJe U).1;obtain⟨o,n,us,sub⟩:=f;obtain⟨t1,x1,t2,x2,rfl,_⟩:=hx.mk;refine iI func89 ?_;simp only[go_sem,zE,zA,zL];refine (h1 _).mono ?_;rintro _ st ⟨rfl,rfl⟩;simp only[go_sem,zE,zA,zL];refine (A _).mono ?_;rintro _ st ⟨rfl,rfl⟩;simp only[go_sem,zA];refine (D _).mono ?_;rintro _ _ ⟨m,hm,rfl,rfl⟩;simp only[go_sem,zE,zA];refine (J m E _ (ISt.put_same _ _ _)).mono ?_;rintro r _ ⟨O,rfl⟩;obtain⟨o5,n5,t5,x5,t6,x6,rfl⟩:=O.agg;simp only[go_sem,zE,zA,zL];exact yQf (yQa hm) ⟨_,rfl,O,rfl⟩
end Go.Proofs.Tryz
namespace Go.Iv
open Go
def own (st:ISt)(A:Tag)(n s:Nat)(S0:ISt):Prop:=(n=0/\A.cap=.nil)\/A=⟨true,.full,s⟩\/∃g,A=⟨true,.app g,s⟩/\st g=some (.front n s)/\S0 g=none
theorem own.es {st:ISt}{A:Tag}{n s:Nat}{S0:ISt}(h:own st A n s S0):okEs A s:=by
 rcases h with⟨_,h⟩|rfl|⟨g,rfl,_⟩
 ·exact .inl h
 ·exact .inr rfl
 ·exact .inr rfl
theorem own.nil (st S0:ISt)(f:Bool)(e s:Nat):own st ⟨f,.nil,e⟩ 0 s S0:=.inl ⟨rfl,rfl⟩
theorem own.full (st S0:ISt)(n s:Nat):own st ⟨true,.full,s⟩ n s S0:=.inr (.inl rfl)
theorem yQb {st s:ISt}{b:Nat}{o:Option IObj}(h:subSt st s)(A:st b=none):subSt st (s.put b o):=λc x hc=>by
 rw[ISt.put_apply];split
 ·grind
 ·exact h c x hc
theorem yXi {st s:ISt}{b:Nat}(h:subSt st s)(A:s b=none):st b=none:=by
 cases D:st b with
 | none=>rfl
 | some o=>rw[h b o D] at A;cases A
theorem own.mono {st st':ISt}{A:Tag}{n s:Nat}{S0:ISt}(h:own st A n s S0)(E:∀g,st g=some (.front n s)->S0 g=none->st' g=some (.front n s)):own st' A n s S0:=by
 rcases h with h|h|⟨g,h1,h2,D⟩
 ·exact .inl h
 ·exact .inr (.inl h)
 ·exact .inr (.inr ⟨g,h1,E g h2 D,D⟩)
def keepF (s:Nat)(st st':ISt):Prop:=∀b o,st b=some o->(∀n,o≠.front n s)->st' b=some o
theorem keepF.own {s s' n:Nat}{st st' S0:ISt}{D:Tag}(h:keepF s st st')(E:own st D n s' S0)(hs:s'≠s):own st' D n s' S0 :=
 E.mono λg J _=>h g _ J λn A=>by injection A with _ A;exact hs A
theorem yK7 {esc:List Nat}{dst:Option Nat}{e:TypeId×Bool×Nat×Nat}{tg:Tag}{zs:List IV}{y:IV}{R:Rt}{st S0:ISt}{ds:List Dfd}{n s:Nat}(h:own st tg n s S0)(U:zs.length=n)(A:subSt S0 st)(he:e.2.2.1=s)
  (hf:fits e.2.1 e.2.2.1 y=true) (ac:(n+1)*e.2.2.2<=140737488355328) (O:n+1<=140737488355328)
  (k:∀J st',own st' J (n+1) s S0->subSt S0 st'->keepF s st st'->appT (n+1) J->R (.val (.sl J (zs++[y]))) st' ds)
  (ab:yV2 esc dst=false:=by first|rfl|simp[yV2]):appV esc dst e tg zs [y] R st ds:=by
 subst U he;unfold appV;refine⟨by simp[hf],⟨ac,O⟩,?_⟩;have E:∀g,st g=none->∀m,subSt S0 (st.put g (some (.front m e.2.2.1)))/\keepF e.2.2.1 st (st.put g (some (.front m e.2.2.1)))/\S0 g=none:=λg D m=>by
  have h0:=yXi A D;refine⟨yQb A h0,λb o hb _=>?_,h0⟩;rw[ISt.put_apply];grind
 rcases h with⟨h0,hc⟩|rfl|⟨g0,rfl,h1,h2⟩
 ·have hz:zs=[]:=List.eq_nil_of_length_eq_zero h0;subst hz;rw[hc];simp only[ab,bFt,if_false];intro g D;obtain⟨a1,a2,a3⟩:=E g D 1;exact k _ _ (.inr (.inr ⟨g,rfl,ISt.put_same _ _ _,a3⟩)) a1 a2 (.inr ⟨Nat.succ_pos _,rfl,g,rfl⟩)
 ·refine⟨rfl,λg D=>?_⟩;obtain⟨a1,a2,a3⟩:=E g D (zs.length+1);exact k _ _ (.inr (.inr ⟨g,rfl,ISt.put_same _ _ _,a3⟩)) a1 a2 (.inr ⟨Nat.succ_pos _,rfl,g,rfl⟩)
 ·refine⟨rfl,h1,λg D=>?_⟩;have aa:S0 g=none:=by
   rcases D with rfl|D
   ·exact h2
   ·exact yXi A D
  refine k _ _ (.inr (.inr ⟨g,rfl,ISt.put_same _ _ _,aa⟩)) (yQb (yQb A h2) aa) (λb o hb hn=>?_) (.inr ⟨Nat.succ_pos _,rfl,g,rfl⟩);have af:b≠g0:=by
   grind
  have ae:b≠g:=by
   grind
  rw[yQ5 ae,yQ5 af];exact hb
theorem yZy {esc:List Nat}{dst:Option Nat}{e:TypeId×Bool×Nat×Nat}{tg:Tag}{zs:List IV}{y:IV}{R:Rt}{st S0:ISt}{ds:List Dfd}{n s:Nat}(h:own st tg n s S0)(J:zs.length=n)(E:subSt S0 st)(he:e.2.2.1=s)
  (hf:fits e.2.1 e.2.2.1 y=true) (U:(n+1)*e.2.2.2<=140737488355328) (D:n+1<=140737488355328)
  (k:∀A st',own st' A (n+1) s S0->subSt S0 st'->keepF s st st'->R (.val (.sl A (zs++[y]))) st' ds)
  (O:yV2 esc dst=false:=by first|rfl|simp[yV2]):appV esc dst e tg zs [y] R st ds:=yK7 h J E he hf U D (λA st' h1 h2 h3 _=>k A st' h1 h2 h3) O
end Go.Iv
namespace Go.Proofs.Tryz
open Go Go.Iv
set_option maxRecDepth 4000
variable (gl:Nat->Option IV)
def vZ9 (l:List Nat):List Dfd:=l.map .coll
theorem yYo (P:Program)(gl:Nat->Option IV)(rs:List ResultVar)(K:IV->ISt->Prop)(fr:Fr)(st:ISt):∀l:List Nat,yW6 P gl rs K (vZ9 l) fr st=yQ6 (resL P fr st rs) λA=>outK K (outI A) st
 | []=>rfl
 | r::l=>yYo P gl rs K fr st l
def PsOk (ps:List Pc)(st:ISt):Prop:=∀p∈ps,∃es,st p.at_=some (.map .str es)/\SetOk es (yZ0 p.tm)
theorem PsOk.mono {ps:List Pc}{st st':ISt}(h:PsOk ps st)(hs:subSt st st'):PsOk ps st':=λp hp=>by
 obtain⟨es,h1,h2⟩:=h p hp;exact⟨es,hs _ _ h1,h2⟩
theorem IsPcs.append:∀ {us ws:List Pc}{A ys:List IV},IsPcs us A->IsPcs ws ys->IsPcs (us++ws) (A++ys)
 | [],E,A,ys,h,k=>by simp only[IsPcs] at h;subst h;exact k
 | a::us,E,A,ys,h,k=>by
  simp only[IsPcs] at h;obtain⟨y,zs,rfl,D,h⟩:=h;exact⟨y,zs++ys,rfl,D,IsPcs.append h k⟩
theorem IsPcs.one {a:Pc}{x:IV}(h:IsPc a x):IsPcs [a] [x]:=⟨x,[],rfl,h,rfl⟩
def cntP (ps:List Pc)(m:ByteArray)(fr:List ByteArray):List Pc:=ps.filter λp=>memB fr p.nm&&!decide (p.nm=m)
theorem wUc (ps:List Pc)(m:ByteArray)(fr:List ByteArray):toS (cntP ps m fr)=cntS (toS ps) m fr:=by
 unfold toS cntP cntS;rw[List.filter_map];rfl
def msOf (m:Nat)(fr:List ByteArray)(cs:List Pc):Ms:=(m,fr)::cs.map λp=>(p.at_,yZ0 p.tm)
theorem wJs (m:Nat)(fr:List ByteArray)(cs:List Pc):allM (msOf m fr cs)=fr++(toS cs).flatMap λp=>yZ0 p.2:=by
 simp[allM,msOf,toS,List.flatMap_map]
theorem wU9 (T:Gt gl)(op:Nat)(n:ByteArray)(us:List Tm)(sub:List Fm)(x:IV)(hx:IsFm (.mk op n us sub) x)(ps:List Pc)(tg:Tag)(xs:List IV)(aD:okEs tg 7)(aQ:IsPcs ps xs)
  (bG:yQe sub+wS (toS ps)<=1099511627776) (bC:ps.length<=1099511627776) (hp1:∀p∈ps,p.tm.size<=1099511627776) (st:ISt) (aE:PsOk ps st) :
  ICall prog gl 270 [.sl tg xs,x] st (λr st'=>subSt st st'/\∃cs tc zs,r=.tup [.raw (.string (yKr (toS ps) n (frFs sub)).1),.sl tc zs]/\okEs tc 7/\IsPcs cs zs/\toS cs=(yKr (toS ps) n (frFs sub)).2/\PsOk cs st'/\cs.length<=ps.length+1):=by
 obtain⟨t1,x1,t2,x2,rfl,bD,bw,bu,bh,aS⟩:=hx.mk;have bp:=yZk sub;refine ICall.intro (c:=cf prog gl [6] []) func270 rfl (by show _<=86;simp) (by kernel_rfl) ?_;simp only[go_sem,zE];refine λm=>yQ8 λhm=>?_;simp only[go_sem,zE,zL];refine λb=>yQ8 λhb=>?_;have aH:b≠m:=λh=>by rw[h,ISt.put_same] at hb;cases hb
 have bk:st b=none:=by rw[yQ5 aH] at hb;exact hb
 let S:List (Value×IV)->ISt:=λes=>(st.put m (some (.map .str es))).put b (some (.box [.raw (.map (some m))]))
 have Sb:∀es,S es b=some (.box [.raw (.map (some m))]):=λes=>ISt.put_same _ _ _;have Sm:∀es,S es m=some (.map .str es):=λes=>by
  show ((st.put m (some (.map .str es))).put b _) m=_;rw[yQ5 (λh=>aH h.symm),ISt.put_same]
 have Sp:∀es es',(S es).put m (some (.map .str es'))=S es':=λes es'=>by
  funext c;show (((st.put m (some (.map .str es))).put b _).put m _) c=((st.put m _).put b _) c;simp only[ISt.put_apply];by_cases h1:c=m
  ·rw[if_pos h1,if_neg (λh=>aH (by rw[<- h,h1])),if_pos h1]
  ·rw[if_neg h1,if_neg h1,if_neg h1]
 simp only[go_sem,yQ9,aS.len];intros;refine LoopC.ctr sub.length (λk fr st' ds=>st'=S (addE [] (frFs (sub.take k)))/\fr 0=.iv (.sl tg xs)/\fr 3=.box [.raw (.int .u8 op),.raw (.string n),.sl t1 x1,.sl t2 x2]/\fr 6=.iv (.raw (.pointer (some ⟨b,0,none⟩))) /\
  fr 18=.iv (.sl t2 x2)/\fr 19=.iv (.raw (.int .i64 sub.length))/\fr 20=.iv (.raw (.int .i64 k))/\∃l,ds=vZ9 l) ?_ ?_ ?_
 ·simp only[go_sem,zE,reduceCtorEq];exact⟨rfl,rfl,[],rfl⟩
 ·rintro k fr _ _ D ⟨rfl,f0,f3,f6,f18,f19,f20,l,rfl⟩;obtain⟨a,ha⟩:=yQ1 D;obtain⟨y,ag,hy⟩:=aS.get ha;obtain⟨bA,bx⟩:=yQv ha;have aF:frFs (sub.take (k+1))=frFs (sub.take k)++frF a:=by
   rw[yQ7 ha];have:∀l m:List Fm,frFs (l++m)=frFs l++frFs m:=λl m=>by
    induction l with
    | nil=>simp[frFs]
    | cons c l ih=>simp only[List.cons_append,frFs,ih,List.append_assoc]
   rw[this];simp[frFs]
  have aw:=λst=>yWu gl a y hy st;have am:=λI=>yVg gl a y hy (by omega) I;rw[zXx] at am;obtain⟨o5,n5,t5,x5,t6,x6,rfl⟩:=hy.agg;simp only[go_sem,zE,zB,zA,zL,f18,f19,f20,lt_i D,yQ3 bh,iNn,ag,fits];refine (aw _).mono ?_;rintro _ _ ⟨rfl,rfl⟩;simp only[go_sem,reduceCtorEq];refine RangeC.intro (seqX (zKx (frF a))) (frF a).length (λi st'=>st'=S (addE (addE [] (frFs (sub.take k))) ((frF a).take i))) (λ_ _=>False) (by simp only[go_sem]) ?_ ?_ ?_ (am _) ?_ (λ_ _ _ h=>h.elim)
  ·intro i c hc;simp only[seqX,zKx,List.getElem?_map,Option.map_eq_some_iff] at hc;obtain⟨s,_,rfl⟩:=hc;rfl
  ·rfl
  ·rintro i c _ hi rfl;simp only[seqX,zKx,List.getElem?_map,Option.map_eq_some_iff] at hi;obtain⟨s,hs,rfl⟩:=hi;simp only[go_sem,zE,f6,Sb,Sm,zVo];rw[Sp,yQ7 hs,zV2];rfl
  ·rintro _ r rfl;simp only[go_sem,zE,reduceCtorEq,f0,f3,f6,f18,f19,f20,yQc D (show sub.length<=281474976710656 by omega)];refine⟨?_,r::l,rfl⟩;rw[lTl,aF,zV2]
 ·rintro fr _ _ ⟨rfl,f0,f3,f6,f18,f19,f20,l,rfl⟩;rw[lTl];generalize bi:addE [] (frFs sub)=es;have aa:SetOk es (frFs sub):=bi▸SetOk.ofE (frFs sub);simp only[go_sem,zE,zM,zL,reduceCtorEq,f0,f6,f19,f20,yQi (nLi _),Sb,yQ4,fits,aQ.len];intros;generalize hF:frFs sub=F at *;have ao:subSt st (S es):=yJ7 (yQa hm) bk;refine LoopC.ctr ps.length (λk fr st' ds=>(∃tc zs tt,fr 11=.iv (.sl tc zs)/\IsPcs (cntP (ps.take k) n F) zs/\own st' tc (cntP (ps.take k) n F).length 7 (S es) /\
   fr 10=.iv (.sl tt (msI (msOf m F (cntP (ps.take k) n F))))/\own st' tt ((cntP (ps.take k) n F).length+1) 1 (S es))/\subSt (S es) st'/\fr 12=.iv (.raw (.bool ((cntP (ps.take k) n F).any λp=>memB (yZ0 p.tm) n))) /\
   fr 3=.box [.raw (.int .u8 op),.raw (.string n),.sl t1 x1,.sl t2 x2]/\fr 6=.iv (.raw (.pointer (some ⟨b,0,none⟩)))/\fr 32=.iv (.sl tg xs)/\fr 33=.iv (.raw (.int .i64 ps.length))/\fr 34=.iv (.raw (.int .i64 k))/\∃l,ds=vZ9 l) ?_ ?_ ?_
  ·simp only[go_sem,zE,f3,f6];exact⟨⟨_,_,_,rfl,rfl,own.nil _ _ _ _ _,rfl,own.full _ _ _ _⟩,subSt.refl _,rfl,rfl,l,rfl⟩
  ·rintro k fr ah _ D ⟨⟨tc,zs,tt,f11,hzs,O,f10,af⟩,A,f12,f3,f6,f32,f33,f34,l,rfl⟩;obtain⟨p,hp⟩:=yQ1 D;obtain⟨y,ag,v,n3,t3,x3,rfl,hy⟩:=aQ.get hp;have aC:IsPc p (yW3 p.nm v n3 t3 x3 p.at_ p.tm):=⟨v,n3,t3,x3,rfl,hy⟩
   obtain⟨ep,a6,aZ⟩:=aE p (lMg hp);have an:=A b _ (Sb es);have ak:=A m _ (Sm es);have U:cntP (ps.take (k+1)) n F=cntP (ps.take k) n F++if memB F p.nm&&!decide (p.nm=n) then [p] else []:=by
    rw[yQ7 hp];unfold cntP;rw[List.filter_append];congr 1;simp only[List.filter_cons,List.filter_nil]
   unfold yW3 at ag aC;cases ae:memB F p.nm
   ·simp only[ae,Bool.false_and,bFt,if_false,List.append_nil] at U;simp only[go_sem,zE,zB,zA,zL,f3,f6,f10,f11,f12,f32,f33,f34,lt_i D,yQ3 aD,iNn,ag,fits,an,ak,aa.look,ae,U,yQc D (show ps.length<=281474976710656 by omega)];exact⟨⟨tc,zs,tt,rfl,hzs,O,rfl,af⟩,A,l,rfl⟩
   ·cases av:decide (p.nm=n)
    ·simp only[ae,av,Bool.true_and,Bool.not_false,if_true] at U;have aX:=hzs.len;have bj:(cntP (ps.take k) n F).length<=ps.length:=Nat.le_trans (List.length_filter_le _ _) (by rw[List.length_take];omega);simp only[go_sem,zE,zB,zA,zM,zL,f3,f6,f11,f32,f33,f34,lt_i D,yQ3 aD,iNn,ag,fits,an,ak,aa.look,ae,av,yQ4];refine yZy O aX A rfl (by simp[fits,IV.one]) (by simp only;omega) (by omega) λau be aj E aG=>?_;have bs:=E p.at_ _ (ao _ _ a6);simp only[go_sem,zE,zA,zM,zL,f10,fits,yQ4];refine yZy (aG.own af (by omega)) (by rw[zZ5];simp[msOf]) E rfl (by simp[fits,IV.one]) (by simp only;omega) (by omega) λaK aM aT J aY=>?_;have aU:=aY.own aj (by omega);have a1:=J p.at_ _ (ao _ _ a6);have ay:∀y',IsPc p y'->(∃aL aI aJ,SV.iv (.sl au (zs++[y']))=.iv (.sl aL aI)/\IsPcs (cntP (ps.take (k+1)) n F) aI/\own aM aL (cntP (ps.take (k+1)) n F).length 7 (S es) /\
       SV.iv (.sl aK (msI (msOf m F (cntP (ps.take k) n F))++[.raw (.map (some p.at_))]))=.iv (.sl aJ (msI (msOf m F (cntP (ps.take (k+1)) n F))))/\own aM aJ ((cntP (ps.take (k+1)) n F).length+1) 1 (S es)):=λy' bf=>by
      rw[U];refine⟨au,_,aK,rfl,hzs.append (IsPcs.one bf),by rw[lLa];exact aU,?_,by rw[lLa];exact aT⟩;simp[msOf,msI]
     have ac:(cntP (ps.take (k+1)) n F).any (λp=>memB (yZ0 p.tm) n)=((cntP (ps.take k) n F).any (λp=>memB (yZ0 p.tm) n) || memB (yZ0 p.tm) n):=by rw[U];simp
     cases ab:(cntP (ps.take k) n F).any λp=>memB (yZ0 p.tm) n
     ·rw[ab,Bool.false_or] at ac;rw[ab] at f12;simp only[go_sem,zE,f3,f6,f12,f32,f33,f34,a1,aZ.look,ac,yQc D (show ps.length<=281474976710656 by omega)];exact⟨ay _ aC,J,l,rfl⟩
     ·rw[ab,Bool.true_or] at ac;rw[ab] at f12;simp only[go_sem,zE,f3,f6,f12,f32,f33,f34,ac,yQc D (show ps.length<=281474976710656 by omega)];exact⟨ay _ aC,J,l,rfl⟩
    ·simp only[ae,av,Bool.true_and,Bool.not_true,bFt,if_false,List.append_nil] at U;simp only[go_sem,zE,zB,zA,zL,f3,f6,f10,f11,f12,f32,f33,f34,lt_i D,yQ3 aD,iNn,ag,fits,an,ak,aa.look,ae,av,U,yQc D (show ps.length<=281474976710656 by omega)];exact⟨⟨tc,zs,tt,rfl,hzs,O,rfl,af⟩,A,l,rfl⟩
  ·rintro fr ah _ ⟨⟨tc,zs,tt,f11,hzs,O,f10,af⟩,A,f12,f3,f6,f32,f33,f34,l,rfl⟩;rw[lTl] at hzs O af f10 f12;have ai:=ao.trans A;have bj:(cntP ps n F).length<=ps.length:=List.length_filter_le _ _;have ax:=wUc ps n F;have a7:xZa (toS ps) n F=(cntP ps n F).any λp=>memB (yZ0 p.tm) n:=by
    unfold xZa;rw[<- ax];simp[toS,List.any_map,Function.comp_def]
   have az:PsOk (cntP ps n F) ah:=λp hp=>(aE.mono ai) p (List.mem_filter.1 hp).1;rw[<- a7] at f12;cases hc:xZa (toS ps) n F
   ·rw[hc] at f12;have hu:yKr (toS ps) n F=(n,cntS (toS ps) n F):=by unfold yKr;rw[hc];rfl
    rw[hu];simp only[go_sem,zE,f3,f11,f12,f33,f34,yQi (nLi _),yYo];exact yQ0 ⟨ai,cntP ps n F,tc,zs,rfl,O.es,hzs,ax,az,by omega⟩
   ·rw[hc] at f12;have hu:yKr (toS ps) n F=(yKf (yUo (toS ps) n F),cntS (toS ps) n F++[(n,.mk true (yKf (yUo (toS ps) n F)) [])]):=by unfold yKr;rw[hc];rfl
    have aA:allM (msOf m F (cntP ps n F))=yUo (toS ps) n F:=by rw[wJs,ax];rfl
    have htk:=wKr (toS ps) n F;have bH:F.length<=yQe sub:=hF▸xJn sub;have al:=wX3 gl T (msOf m F (cntP ps n F)) tt af.es (by rw[aA];omega) ah (λp hp=>by
     rcases List.mem_cons.1 hp with rfl|hp
     ·exact⟨es,A m _ (Sm es),aa⟩
     ·obtain⟨q,hq,rfl⟩:=List.mem_map.1 hp;exact az q hq)
    rw[aA] at al;rw[hu];generalize yKf (yUo (toS ps) n F)=new at al;simp only[go_sem,zE,zA,f10,f12,f33,f34,yQi (nLi _)];refine al.mono ?_;rintro _ ah ⟨rfl,rfl⟩;simp only[go_sem,zE,zA,zL,f3,f11,fits];refine (zW9 gl n true new [] ⟨true,.nil,0⟩ [] ⟨_,[],rfl,by simp only[go_sem],rfl⟩ (by simp[Tm.size,yQh]) _).mono ?_;rintro _ _ ⟨m3,aW,rfl,rfl⟩;simp only[go_sem,zE,zA,zM,zL,fits,yQ4,yW3];refine yZy (O.mono λg hg _=>by rw[yQ5 (yXt hg aW)];exact hg) hzs.len (A.trans (yQa aW)) rfl (by simp[fits,IV.one]) (by simp only;omega) (by omega) λau be aj E aG=>?_;have hp3:IsPc ⟨n,.mk true new [],m3⟩ (yW3 n true new ⟨true,.nil,0⟩ [] m3 (.mk true new [])):=⟨true,new,_,[],rfl,_,[],rfl,.inl rfl,rfl⟩
    unfold yW3 at hp3;have aV:=aG m3 _ (ISt.put_same ah m3 _) (λ_ h=>by cases h);simp only[go_sem,zE,yYo];refine yQ0 ⟨ao.trans E,cntP ps n F++[⟨n,.mk true new [],m3⟩],au,_,rfl,aj.es,hzs.append (IsPcs.one hp3),?_,λp hp=>?_,by rw[lLa];simp;omega⟩
    ·rw[<- ax];simp[toS]
    ·rcases List.mem_append.1 hp with hp|hp
     ·exact (aE.mono (ao.trans E)) p (List.mem_filter.1 hp).1
     ·rw[List.mem_singleton] at hp;subst hp;exact⟨_,aV,SetOk.ofE _⟩
