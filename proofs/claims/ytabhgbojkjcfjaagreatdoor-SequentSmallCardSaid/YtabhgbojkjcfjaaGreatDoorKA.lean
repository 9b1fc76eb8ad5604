/- Walks: Normal. -/
import Derived.Test.YtabhgbojkjcfjaaGreatDoorJZ
set_option linter.all false
open Nat renaming reduceEqDiff → zE,reduceBEq → zB,reduceAdd → zA,reduceMul → zM,reduceLeDiff → zL
namespace Go.Proofs.Tryz
open Go Go.Iv
set_option maxRecDepth 4000
variable (gl:Nat->Option IV)
theorem zG9 (G:Gt gl):∀(k:Nat) (t:Fm),SizeOf.sizeOf t<k->NM gl t
 | 0,f,h=>by omega
 | k+1,.mk o n us sub,h=>xVb gl G o n us sub (λa A=>zG9 G k a (by
   have:=lSm A;simp at h;omega))
theorem wWx (G:Gt gl)(t:Fm):NM gl t:=zG9 gl G _ t (Nat.lt_succ_self _)
theorem _root_.Go.Iv.IsFm.agg {f:Fm}{x:IV}(h:IsFm f x):∃(op:Nat) (n:ByteArray) (t:Tag) (A:List IV) (D:Tag) (ys:List IV),x=.agg [.raw (.int .u8 op),.raw (.string n),.sl t A,.sl D ys]:=by
 obtain⟨op,n,us,sub⟩:=f;obtain⟨t,A,D,ys,rfl,_⟩:=h.mk;exact⟨_,_,_,_,_,_,rfl⟩
theorem _root_.Go.Iv.IsTm.agg {t:Tm}{x:IV}(h:IsTm t x):∃(v:Bool) (n:ByteArray) (D:Tag) (A:List IV),x=.agg [.raw (.bool v),.raw (.string n),.sl D A]:=by
 obtain⟨v,n,us⟩:=t;obtain⟨D,A,rfl,_⟩:=h.mk;exact⟨_,_,_,_,rfl⟩
theorem _root_.Go.Iv.IsFmD.agg {f:Fm}{x:IV}(h:IsFmD f x):∃(op:Nat) (n:ByteArray) (t:Tag) (A:List IV) (D:Tag) (ys:List IV),x=.agg [.raw (.int .u8 op),.raw (.string n),.sl t A,.sl D ys]:=h.1.agg
theorem _root_.Go.Iv.IsTmD.agg {t:Tm}{x:IV}(h:IsTmD t x):∃(v:Bool) (n:ByteArray) (D:Tag) (A:List IV),x=.agg [.raw (.bool v),.raw (.string n),.sl D A]:=h.1.agg
def fm0:Fm:=.mk 0 ⟨#[]⟩ [] []
def FE (g:Fm)(e:Nat)(st:ISt)(r:IV)(st':ISt):Prop:=∃y,r=.tup [y,.raw (.int .i64 e)]/\IsFm g y/\st'=st
def FED (g:Fm)(e:Nat)(st:ISt)(r:IV)(st':ISt):Prop:=∃y,r=.tup [y,.raw (.int .i64 e)]/\IsFmD g y/\st'=st
theorem FED.w {g:Fm}{e:Nat}{st:ISt}(r:IV)(st':ISt):FED g e st r st'->FE g e st r st':=λ⟨y,h1,h2,A⟩=>⟨y,h1,h2.1,A⟩
noncomputable def yJ6 (f:Fm):Fm×Nat:=if f.right then (yJb f,0) else (fm0,2)
theorem wGf (G:Gl gl)(T:Gt gl)(f:Fm)(x:IV)(J:IsFm f x)(hs:f.size<=1000000)(st:ISt) :
  ICall prog gl 133 [x] st (FED (yJ6 f).1 (yJ6 f).2 st):=by
 have h1:=λst=>zWq gl G f x J st hs;have A:=λst=>yG2 gl f x J st;have D:=λst=>wW2 gl 231 [.cptr x] (xVu f) st (by simp only[go_sem]) (λI=>yWs gl f x J (by omega) I);rw[zK8] at D;have ae:=zJk f;have F:=λm E st W=>wWx gl T f x J (frF f) m _ [] ⟨true,.nil,0⟩ (.inl ⟨rfl,rfl⟩) (by simp;omega) E st W (SetOk.ofE (frF f));have hN:f.right=true->yJ6 f=(zJr (frF f) [] f,0):=λh=>by simp[yJ6,h,yJb]
 have hE:f.right=false->yJ6 f=(fm0,2):=λh=>by simp[yJ6,h]
 cases U:f.right
 ·rw[U] at h1;rw[hE U];obtain⟨o,n,us,sub⟩:=f;obtain⟨t1,x1,t2,x2,rfl,_⟩:=J.mk;refine iI func133 ?_;simp only[go_sem,zE,zA,zL];refine (h1 _).mono ?_;rintro _ st ⟨rfl,rfl⟩;simp only[go_sem,zE,zA,zL];refine yQ0 ⟨_,rfl,?_,rfl⟩;exact IsFmD.of ⟨_,[],_,[],rfl,by omega,.inl rfl,rfl,.inl rfl,rfl⟩ (.inl rfl) trivial (.inl rfl) trivial
 ·rw[U] at h1;rw[hN U];have E:=(yK1 U).1;obtain⟨o,n,us,sub⟩:=f;obtain⟨t1,x1,t2,x2,rfl,_⟩:=J.mk;refine iI func133 ?_;simp only[go_sem,zE,zA,zL];refine (h1 _).mono ?_;rintro _ st ⟨rfl,rfl⟩;simp only[go_sem,zE,zA,zL];refine (A _).mono ?_;rintro _ st ⟨rfl,rfl⟩;simp only[go_sem,zA];refine (D _).mono ?_;rintro _ _ ⟨m,W,rfl,rfl⟩;simp only[go_sem,zE,zA];refine (F m E _ (ISt.put_same _ _ _)).mono ?_;rintro r _ ⟨O,rfl⟩;obtain⟨o5,n5,t5,x5,t6,x6,rfl⟩:=O.agg;simp only[go_sem,zE,zA,zL];exact yQc (yQe W) ⟨_,rfl,O,rfl⟩
end Go.Proofs.Tryz
namespace Go.Iv
open Go
def own (st:ISt)(A:Tag)(n s:Nat)(S0:ISt):Prop:=(n=0/\A.cap=.nil)\/A=⟨true,.full,s⟩\/∃g,A=⟨true,.app g,s⟩/\st g=some (.front n s)/\S0 g=none
theorem own.es {st:ISt}{A:Tag}{n s:Nat}{S0:ISt}(h:own st A n s S0):okEs A s:=by
 rcases h with⟨_,h⟩|rfl|⟨g,rfl,_⟩
 ·exact .inl h
 ·exact .inr rfl
 ·exact .inr rfl
theorem own.nil (st S0:ISt)(f:Bool)(e s:Nat):own st ⟨f,.nil,e⟩ 0 s S0:=.inl ⟨rfl,rfl⟩
theorem own.full (st S0:ISt)(n s:Nat):own st ⟨true,.full,s⟩ n s S0:=.inr (.inl rfl)
theorem yZ4 {st s:ISt}{b:Nat}{o:Option IObj}(h:subSt st s)(D:st b=none):subSt st (s.put b o):=λc x hc=>by
 rw[ISt.put_apply];split
 ·rename_i A;rw[A,D] at hc;cases hc
 ·exact h c x hc
theorem yVc {st s:ISt}{b:Nat}(h:subSt st s)(A:s b=none):st b=none:=by
 cases D:st b with
 | none=>rfl
 | some o=>rw[h b o D] at A;cases A
theorem own.mono {st st':ISt}{A:Tag}{n s:Nat}{S0:ISt}(h:own st A n s S0)(E:∀g,st g=some (.front n s)->S0 g=none->st' g=some (.front n s)):own st' A n s S0:=by
 rcases h with h|h|⟨g,h1,h2,D⟩
 ·exact .inl h
 ·exact .inr (.inl h)
 ·exact .inr (.inr ⟨g,h1,E g h2 D,D⟩)
def keepF (s:Nat)(st st':ISt):Prop:=∀b o,st b=some o->(∀n,o≠.front n s)->st' b=some o
theorem keepF.own {s s' n:Nat}{st st' S0:ISt}{D:Tag}(h:keepF s st st')(F:own st D n s' S0)(E:s'≠s):own st' D n s' S0 :=
 F.mono λg G _=>h g _ G λn A=>by injection A with _ A;exact E A
theorem yZy {esc:List Nat}{dst:Option Nat}{e:TypeId×Bool×Nat×Nat}{tg:Tag}{zs:List IV}{y:IV}{R:Rt}{st S0:ISt}{ds:List Dfd}{n s:Nat}(h:own st tg n s S0)(U:zs.length=n)(A:subSt S0 st)(he:e.2.2.1=s)
  (hf:fits e.2.1 e.2.2.1 y=true) (ab:(n+1)*e.2.2.2<=140737488355328) (J:n+1<=140737488355328)
  (k:∀G st',own st' G (n+1) s S0->subSt S0 st'->keepF s st st'->appT (n+1) G->R (.val (.sl G (zs++[y]))) st' ds)
  (aa:yWe esc dst=false:=by first|rfl|simp[yWe]):appV esc dst e tg zs [y] R st ds:=by
 subst U he;unfold appV;refine⟨by simp[hf],⟨ab,J⟩,?_⟩;have F:∀g,st g=none->∀m,subSt S0 (st.put g (some (.front m e.2.2.1)))/\keepF e.2.2.1 st (st.put g (some (.front m e.2.2.1)))/\S0 g=none:=λg D m=>by
  have h0:=yVc A D;refine⟨yZ4 A h0,λb o E _=>?_,h0⟩;rw[ISt.put_apply];split
  ·rename_i O;rw[O,D] at E;cases E
  ·exact E
 rcases h with⟨h0,hc⟩|rfl|⟨g0,rfl,h1,h2⟩
 ·have hz:zs=[]:=List.eq_nil_of_length_eq_zero h0;subst hz;rw[hc];simp only[aa,bFt,if_false];intro g D;obtain⟨a1,a2,a3⟩:=F g D 1;exact k _ _ (.inr (.inr ⟨g,rfl,ISt.put_same _ _ _,a3⟩)) a1 a2 (.inr ⟨Nat.succ_pos _,rfl,g,rfl⟩)
 ·refine⟨rfl,λg D=>?_⟩;obtain⟨a1,a2,a3⟩:=F g D (zs.length+1);exact k _ _ (.inr (.inr ⟨g,rfl,ISt.put_same _ _ _,a3⟩)) a1 a2 (.inr ⟨Nat.succ_pos _,rfl,g,rfl⟩)
 ·refine⟨rfl,h1,λg D=>?_⟩;have W:S0 g=none:=by
   rcases D with rfl|D
   ·exact h2
   ·exact yVc A D
  refine k _ _ (.inr (.inr ⟨g,rfl,ISt.put_same _ _ _,W⟩)) (yZ4 (yZ4 A h2) W) (λb o E hn=>?_) (.inr ⟨Nat.succ_pos _,rfl,g,rfl⟩);have ac:b≠g0:=by
   rintro rfl;rw[h1] at E;exact hn _ (Option.some.inj E).symm
  have O:b≠g:=by
   rcases D with rfl|D
   ·exact ac
   ·rintro rfl;rw[D] at E;cases E
  rw[yZ7 O,yZ7 ac];exact E
theorem yZ1 {esc:List Nat}{dst:Option Nat}{e:TypeId×Bool×Nat×Nat}{O:Tag}{zs:List IV}{y:IV}{R:Rt}{st S0:ISt}{ds:List Dfd}{n s:Nat}(h:own st O n s S0)(F:zs.length=n)(E:subSt S0 st)(W:e.2.2.1=s)
  (U:fits e.2.1 e.2.2.1 y=true) (J:(n+1)*e.2.2.2<=140737488355328) (D:n+1<=140737488355328)
  (k:∀A st',own st' A (n+1) s S0->subSt S0 st'->keepF s st st'->R (.val (.sl A (zs++[y]))) st' ds)
  (G:yWe esc dst=false:=by first|rfl|simp[yWe]):appV esc dst e O zs [y] R st ds:=yZy h F E W U J D (λA st' h1 h2 h3 _=>k A st' h1 h2 h3) G
end Go.Iv
namespace Go.Proofs.Tryz
open Go Go.Iv
set_option maxRecDepth 4000
variable (gl:Nat->Option IV)
def vXf (l:List Nat):List Dfd:=l.map .coll
theorem yGw (P:Program)(gl:Nat->Option IV)(rs:List ResultVar)(K:IV->ISt->Prop)(fr:Fr)(st:ISt):∀l:List Nat,yYf P gl rs K (vXf l) fr st=yQ8 (resL P fr st rs) λA=>outK K (outI A) st
 | []=>rfl
 | r::l=>yGw P gl rs K fr st l
def PsOk (ps:List Pc)(st:ISt):Prop:=∀p∈ps,∃es,st p.at_=some (.map .str es)/\SetOk es (yQo p.tm)
theorem PsOk.mono {ps:List Pc}{st st':ISt}(h:PsOk ps st)(A:subSt st st'):PsOk ps st':=λp hp=>by
 obtain⟨es,h1,h2⟩:=h p hp;exact⟨es,A _ _ h1,h2⟩
theorem IsPcs.append:∀ {us D:List Pc}{A ys:List IV},IsPcs us A->IsPcs D ys->IsPcs (us++D) (A++ys)
 | [],F,A,ys,h,k=>by simp only[IsPcs] at h;subst h;exact k
 | a::us,F,A,ys,h,k=>by
  simp only[IsPcs] at h;obtain⟨y,zs,rfl,E,h⟩:=h;exact⟨y,zs++ys,rfl,E,IsPcs.append h k⟩
theorem IsPcs.one {a:Pc}{x:IV}(h:IsPc a x):IsPcs [a] [x]:=⟨x,[],rfl,h,rfl⟩
def cntP (ps:List Pc)(m:ByteArray)(fr:List ByteArray):List Pc:=ps.filter λp=>memB fr p.nm&&!decide (p.nm=m)
theorem vQc (ps:List Pc)(m:ByteArray)(fr:List ByteArray):toS (cntP ps m fr)=cntS (toS ps) m fr:=by
 unfold toS cntP cntS;rw[List.filter_map];rfl
def msOf (m:Nat)(fr:List ByteArray)(cs:List Pc):Ms:=(m,fr)::cs.map λp=>(p.at_,yQo p.tm)
theorem wV0 (m:Nat)(fr:List ByteArray)(cs:List Pc):allM (msOf m fr cs)=fr++(toS cs).flatMap λp=>yQo p.2:=by
 simp[allM,msOf,toS,List.flatMap_map]
theorem vQ9 (T:Gt gl)(op:Nat)(n:ByteArray)(us:List Tm)(sub:List Fm)(x:IV)(hx:IsFm (.mk op n us sub) x)(ps:List Pc)(tg:Tag)(xs:List IV)(aB:okEs tg 7)(aO:IsPcs ps xs)
  (bI:yQ9 sub+wS (toS ps)<=1099511627776) (bD:ps.length<=1099511627776) (bF:∀p∈ps,p.tm.size<=1099511627776) (st:ISt) (aC:PsOk ps st) :
  ICall prog gl 298 [.sl tg xs,x] st (λr st'=>subSt st st'/\∃cs tc zs,r=.tup [.raw (.string (yJk (toS ps) n (frFs sub)).1),.sl tc zs]/\okEs tc 7/\IsPcs cs zs/\toS cs=(yJk (toS ps) n (frFs sub)).2/\PsOk cs st'/\cs.length<=ps.length+1):=by
 obtain⟨t1,x1,t2,x2,rfl,bG,bx,bt,bg,aP⟩:=hx.mk;have bo:=yQs sub;refine ICall.intro (c:=cf prog gl [6] []) func298 rfl (by show _<=86;simp) (by kernel_rfl) ?_;simp only[go_sem,zE];refine λm=>yQd λhm=>?_;simp only[go_sem,zE,zL];refine λb=>yQd λhb=>?_;have aF:b≠m:=λh=>by rw[h,ISt.put_same] at hb;cases hb
 have bj:st b=none:=by rw[yZ7 aF] at hb;exact hb
 let S:List (Value×IV)->ISt:=λes=>(st.put m (some (.map .str es))).put b (some (.box [.raw (.map (some m))]))
 have Sb:∀es,S es b=some (.box [.raw (.map (some m))]):=λes=>ISt.put_same _ _ _;have Sm:∀es,S es m=some (.map .str es):=λes=>by
  show ((st.put m (some (.map .str es))).put b _) m=_;rw[yZ7 (λh=>aF h.symm),ISt.put_same]
 have Sp:∀es aG,(S es).put m (some (.map .str aG))=S aG:=λes aG=>by
  funext c;show (((st.put m (some (.map .str es))).put b _).put m _) c=((st.put m _).put b _) c;simp only[ISt.put_apply];by_cases h1:c=m
  ·rw[if_pos h1,if_neg (λh=>aF (by rw[<- h,h1])),if_pos h1]
  ·rw[if_neg h1,if_neg h1,if_neg h1]
 simp only[go_sem,yQg,aP.len];intros;refine LoopC.ctr sub.length (λk fr st' ds=>st'=S (addE [] (frFs (sub.take k)))/\fr 0=.iv (.sl tg xs)/\fr 3=.box [.raw (.int .u8 op),.raw (.string n),.sl t1 x1,.sl t2 x2]/\fr 6=.iv (.raw (.pointer (some ⟨b,0,none⟩))) /\
  fr 18=.iv (.sl t2 x2)/\fr 19=.iv (.raw (.int .i64 sub.length))/\fr 20=.iv (.raw (.int .i64 k))/\∃l,ds=vXf l) ?_ ?_ ?_
 ·simp only[go_sem,zE,reduceCtorEq];exact⟨rfl,rfl,[],rfl⟩
 ·rintro k fr _ _ D ⟨rfl,f0,f3,f6,f18,f19,f20,l,rfl⟩;obtain⟨a,ha⟩:=yQ3 D;obtain⟨y,ae,hy⟩:=aP.get ha;obtain⟨bA,bz⟩:=yQq ha;have aD:frFs (sub.take (k+1))=frFs (sub.take k)++frF a:=by
   rw[yQ4 ha];have:∀l m:List Fm,frFs (l++m)=frFs l++frFs m:=λl m=>by
    induction l with
    | nil=>simp[frFs]
    | cons c l ih=>simp only[List.cons_append,frFs,ih,List.append_assoc]
   rw[this];simp[frFs]
  have au:=λst=>yG2 gl a y hy st;have ak:=λI=>yWs gl a y hy (by omega) I;rw[zK8] at ak;obtain⟨o5,n5,t5,x5,t6,x6,rfl⟩:=hy.agg;simp only[go_sem,zE,zB,zA,zL,f18,f19,f20,lt_i D,yQ2 bg,iNn,ae,fits];refine (au _).mono ?_;rintro _ _ ⟨rfl,rfl⟩;simp only[go_sem,reduceCtorEq];refine RangeC.intro (seqX (zWi (frF a))) (frF a).length (λi st'=>st'=S (addE (addE [] (frFs (sub.take k))) ((frF a).take i))) (λ_ _=>False) (by simp only[go_sem]) ?_ ?_ ?_ (ak _) ?_ (λ_ _ _ h=>h.elim)
  ·intro i c hc;simp only[seqX,zWi,List.getElem?_map,Option.map_eq_some_iff] at hc;obtain⟨s,_,rfl⟩:=hc;rfl
  ·rfl
  ·rintro i c _ hi rfl;simp only[seqX,zWi,List.getElem?_map,Option.map_eq_some_iff] at hi;obtain⟨s,hs,rfl⟩:=hi;simp only[go_sem,zE,f6,Sb,Sm,zYm];rw[Sp,yQ4 hs,zWo];rfl
  ·rintro _ r rfl;simp only[go_sem,zE,reduceCtorEq,f0,f3,f6,f18,f19,f20,yQb D (show sub.length<=281474976710656 by omega)];refine⟨?_,r::l,rfl⟩;rw[lTl,aD,zWo]
 ·rintro fr _ _ ⟨rfl,f0,f3,f6,f18,f19,f20,l,rfl⟩;rw[lTl];generalize bh:addE [] (frFs sub)=es;have U:SetOk es (frFs sub):=bh▸SetOk.ofE (frFs sub);simp only[go_sem,zE,zM,zL,reduceCtorEq,f0,f6,f19,f20,yQj (nLi _),Sb,yQ1,fits,aO.len];intros;generalize hF:frFs sub=F at *;have am:subSt st (S es):=yKg (yQe hm) bj;refine LoopC.ctr ps.length (λk fr st' ds=>(∃tc zs tt,fr 11=.iv (.sl tc zs)/\IsPcs (cntP (ps.take k) n F) zs/\own st' tc (cntP (ps.take k) n F).length 7 (S es) /\
   fr 10=.iv (.sl tt (msI (msOf m F (cntP (ps.take k) n F))))/\own st' tt ((cntP (ps.take k) n F).length+1) 1 (S es))/\subSt (S es) st'/\fr 12=.iv (.raw (.bool ((cntP (ps.take k) n F).any λp=>memB (yQo p.tm) n))) /\
   fr 3=.box [.raw (.int .u8 op),.raw (.string n),.sl t1 x1,.sl t2 x2]/\fr 6=.iv (.raw (.pointer (some ⟨b,0,none⟩)))/\fr 32=.iv (.sl tg xs)/\fr 33=.iv (.raw (.int .i64 ps.length))/\fr 34=.iv (.raw (.int .i64 k))/\∃l,ds=vXf l) ?_ ?_ ?_
  ·simp only[go_sem,zE,f3,f6];exact⟨⟨_,_,_,rfl,rfl,own.nil _ _ _ _ _,rfl,own.full _ _ _ _⟩,subSt.refl _,rfl,rfl,l,rfl⟩
  ·rintro k fr af _ D ⟨⟨tc,zs,tt,f11,hzs,J,f10,ac⟩,A,f12,f3,f6,f32,f33,f34,l,rfl⟩;obtain⟨p,hp⟩:=yQ3 D;obtain⟨y,ae,v,n3,t3,x3,rfl,hy⟩:=aO.get hp;have aA:IsPc p (yY9 p.nm v n3 t3 x3 p.at_ p.tm):=⟨v,n3,t3,x3,rfl,hy⟩
   obtain⟨ep,a1,aY⟩:=aC p (lMg hp);have al:=A b _ (Sb es);have ai:=A m _ (Sm es);have O:cntP (ps.take (k+1)) n F=cntP (ps.take k) n F++if memB F p.nm&&!decide (p.nm=n) then [p] else []:=by
    rw[yQ4 hp];unfold cntP;rw[List.filter_append];congr 1;simp only[List.filter_cons,List.filter_nil]
   unfold yY9 at ae aA;cases ab:memB F p.nm
   ·simp only[ab,Bool.false_and,bFt,if_false,List.append_nil] at O;simp only[go_sem,zE,zB,zA,zL,f3,f6,f10,f11,f12,f32,f33,f34,lt_i D,yQ2 aB,iNn,ae,fits,al,ai,U.look,ab,O,yQb D (show ps.length<=281474976710656 by omega)];exact⟨⟨tc,zs,tt,rfl,hzs,J,rfl,ac⟩,A,l,rfl⟩
   ·cases aq:decide (p.nm=n)
    ·simp only[ab,aq,Bool.true_and,Bool.not_false,if_true] at O;have aW:=hzs.len;have bi:(cntP (ps.take k) n F).length<=ps.length:=Nat.le_trans (List.length_filter_le _ _) (by rw[List.length_take];omega);simp only[go_sem,zE,zB,zA,zM,zL,f3,f6,f11,f32,f33,f34,lt_i D,yQ2 aB,iNn,ae,fits,al,ai,U.look,ab,aq,yQ1];refine yZ1 J aW A rfl (by simp[fits,IV.one]) (by simp only;omega) (by omega) λao bd ah E aE=>?_;have br:=E p.at_ _ (am _ _ a1);simp only[go_sem,zE,zA,zM,zL,f10,fits,yQ1];refine yZ1 (aE.own ac (by omega)) (by rw[zXe];simp[msOf]) E rfl (by simp[fits,IV.one]) (by simp only;omega) (by omega) λaJ aL aS G aX=>?_;have aT:=aX.own ah (by omega);have aZ:=G p.at_ _ (am _ _ a1);have aw:∀y',IsPc p y'->(∃aK aH aI,SV.iv (.sl ao (zs++[y']))=.iv (.sl aK aH)/\IsPcs (cntP (ps.take (k+1)) n F) aH/\own aL aK (cntP (ps.take (k+1)) n F).length 7 (S es) /\
       SV.iv (.sl aJ (msI (msOf m F (cntP (ps.take k) n F))++[.raw (.map (some p.at_))]))=.iv (.sl aI (msI (msOf m F (cntP (ps.take (k+1)) n F))))/\own aL aI ((cntP (ps.take (k+1)) n F).length+1) 1 (S es)):=λy' be=>by
      rw[O];refine⟨ao,_,aJ,rfl,hzs.append (IsPcs.one be),by rw[lLa];exact aT,?_,by rw[lLa];exact aS⟩;simp[msOf,msI]
     have aa:(cntP (ps.take (k+1)) n F).any (λp=>memB (yQo p.tm) n)=((cntP (ps.take k) n F).any (λp=>memB (yQo p.tm) n) || memB (yQo p.tm) n):=by rw[O];simp
     cases W:(cntP (ps.take k) n F).any λp=>memB (yQo p.tm) n
     ·rw[W,Bool.false_or] at aa;rw[W] at f12;simp only[go_sem,zE,f3,f6,f12,f32,f33,f34,aZ,aY.look,aa,yQb D (show ps.length<=281474976710656 by omega)];exact⟨aw _ aA,G,l,rfl⟩
     ·rw[W,Bool.true_or] at aa;rw[W] at f12;simp only[go_sem,zE,f3,f6,f12,f32,f33,f34,aa,yQb D (show ps.length<=281474976710656 by omega)];exact⟨aw _ aA,G,l,rfl⟩
    ·simp only[ab,aq,Bool.true_and,Bool.not_true,bFt,if_false,List.append_nil] at O;simp only[go_sem,zE,zB,zA,zL,f3,f6,f10,f11,f12,f32,f33,f34,lt_i D,yQ2 aB,iNn,ae,fits,al,ai,U.look,ab,aq,O,yQb D (show ps.length<=281474976710656 by omega)];exact⟨⟨tc,zs,tt,rfl,hzs,J,rfl,ac⟩,A,l,rfl⟩
  ·rintro fr af _ ⟨⟨tc,zs,tt,f11,hzs,J,f10,ac⟩,A,f12,f3,f6,f32,f33,f34,l,rfl⟩;rw[lTl] at hzs J ac f10 f12;have ag:=am.trans A;have bi:(cntP ps n F).length<=ps.length:=List.length_filter_le _ _;have av:=vQc ps n F;have a6:zGw (toS ps) n F=(cntP ps n F).any λp=>memB (yQo p.tm) n:=by
    unfold zGw;rw[<- av];simp[toS,List.any_map,Function.comp_def]
   have ax:PsOk (cntP ps n F) af:=λp hp=>(aC.mono ag) p (List.mem_filter.1 hp).1;rw[<- a6] at f12;cases hc:zGw (toS ps) n F
   ·rw[hc] at f12;have hu:yJk (toS ps) n F=(n,cntS (toS ps) n F):=by unfold yJk;rw[hc];rfl
    rw[hu];simp only[go_sem,zE,f3,f11,f12,f33,f34,yQj (nLi _),yGw];exact yQ0 ⟨ag,cntP ps n F,tc,zs,rfl,J.es,hzs,av,ax,by omega⟩
   ·rw[hc] at f12;have hu:yJk (toS ps) n F=(yJc (zQ0 (toS ps) n F),cntS (toS ps) n F++[(n,.mk true (yJc (zQ0 (toS ps) n F)) [])]):=by unfold yJk;rw[hc];rfl
    have ay:allM (msOf m F (cntP ps n F))=zQ0 (toS ps) n F:=by rw[wV0,av];rfl
    have bw:=wVv (toS ps) n F;have bJ:F.length<=yQ9 sub:=hF▸xQm sub;have aj:=wJi gl T (msOf m F (cntP ps n F)) tt ac.es (by rw[ay];omega) af (λp hp=>by
     rcases List.mem_cons.1 hp with rfl|hp
     ·exact⟨es,A m _ (Sm es),U⟩
     ·obtain⟨q,hq,rfl⟩:=List.mem_map.1 hp;exact ax q hq)
    rw[ay] at aj;rw[hu];generalize yJc (zQ0 (toS ps) n F)=new at aj;simp only[go_sem,zE,zA,f10,f12,f33,f34,yQj (nLi _)];refine aj.mono ?_;rintro _ af ⟨rfl,rfl⟩;simp only[go_sem,zE,zA,zL,f3,f11,fits];refine (zGa gl n true new [] ⟨true,.nil,0⟩ [] ⟨_,[],rfl,by simp only[go_sem],rfl⟩ (by simp[Tm.size,yQa]) _).mono ?_;rintro _ _ ⟨m3,aV,rfl,rfl⟩;simp only[go_sem,zE,zA,zM,zL,fits,yQ1,yY9];refine yZ1 (J.mono λg hg _=>by rw[yZ7 (yVt hg aV)];exact hg) hzs.len (A.trans (yQe aV)) rfl (by simp[fits,IV.one]) (by simp only;omega) (by omega) λao bd ah E aE=>?_;have aQ:IsPc ⟨n,.mk true new [],m3⟩ (yY9 n true new ⟨true,.nil,0⟩ [] m3 (.mk true new [])):=⟨true,new,_,[],rfl,_,[],rfl,.inl rfl,rfl⟩
    unfold yY9 at aQ;have aU:=aE m3 _ (ISt.put_same af m3 _) (λ_ h=>by cases h);simp only[go_sem,zE,yGw];refine yQ0 ⟨am.trans E,cntP ps n F++[⟨n,.mk true new [],m3⟩],ao,_,rfl,ah.es,hzs.append (IsPcs.one aQ),?_,λp hp=>?_,by rw[lLa];simp;omega⟩
    ·rw[<- av];simp[toS]
    ·rcases List.mem_append.1 hp with hp|hp
     ·exact (aC.mono (am.trans E)) p (List.mem_filter.1 hp).1
     ·rw[List.mem_singleton] at hp;subst hp;exact⟨_,aU,SetOk.ofE _⟩
