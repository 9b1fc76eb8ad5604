/- Walks: Normal. -/
import Derived.Test.YtdbmgeebmfpmpaaGreatDoorJZ
set_option linter.all false
open Nat renaming reduceEqDiff → zE,reduceBEq → zB,reduceAdd → zA,reduceMul → zM,reduceLeDiff → zL
namespace Go.Proofs.Tryz
open Go Go.Iv
set_option maxRecDepth 4000
variable (gl:Nat->Option IV)
theorem zW9 (G:Gt gl):∀(k:Nat) (t:Fm),SizeOf.sizeOf t<k->NM gl t
 | 0,f,h=>by omega
 | k+1,.mk o n us sub,h=>xXu gl G o n us sub (λa ha=>zW9 G k a (by
   have:=lSm ha;simp at h;omega))
theorem wVr (G:Gt gl)(t:Fm):NM gl t:=zW9 gl G _ t (Nat.lt_succ_self _)
theorem _root_.Go.Iv.IsFm.agg {f:Fm}{x:IV}(h:IsFm f x):∃(op:Nat) (n:ByteArray) (t:Tag) (xs:List IV) (t':Tag) (ys:List IV),x=.agg [.raw (.int .u8 op),.raw (.string n),.sl t xs,.sl t' ys]:=by
 obtain⟨op,n,us,sub⟩:=f;obtain⟨t,xs,t',ys,rfl,_⟩:=h.mk;exact⟨_,_,_,_,_,_,rfl⟩
theorem _root_.Go.Iv.IsTm.agg {t:Tm}{x:IV}(h:IsTm t x):∃(v:Bool) (n:ByteArray) (tg:Tag) (xs:List IV),x=.agg [.raw (.bool v),.raw (.string n),.sl tg xs]:=by
 obtain⟨v,n,us⟩:=t;obtain⟨tg,xs,rfl,_⟩:=h.mk;exact⟨_,_,_,_,rfl⟩
theorem _root_.Go.Iv.IsFmD.agg {f:Fm}{x:IV}(h:IsFmD f x):∃(op:Nat) (n:ByteArray) (t:Tag) (xs:List IV) (t':Tag) (ys:List IV),x=.agg [.raw (.int .u8 op),.raw (.string n),.sl t xs,.sl t' ys]:=h.1.agg
theorem _root_.Go.Iv.IsTmD.agg {t:Tm}{x:IV}(h:IsTmD t x):∃(v:Bool) (n:ByteArray) (tg:Tag) (xs:List IV),x=.agg [.raw (.bool v),.raw (.string n),.sl tg xs]:=h.1.agg
def fm0:Fm:=.mk 0 ⟨#[]⟩ [] []
def FE (g:Fm)(e:Nat)(st:ISt)(r:IV)(st':ISt):Prop:=∃y,r=.tup [y,.raw (.int .i64 e)]/\IsFm g y/\st'=st
def FED (g:Fm)(e:Nat)(st:ISt)(r:IV)(st':ISt):Prop:=∃y,r=.tup [y,.raw (.int .i64 e)]/\IsFmD g y/\st'=st
theorem FED.w {g:Fm}{e:Nat}{st:ISt}(r:IV)(st':ISt):FED g e st r st'->FE g e st r st':=λ⟨y,h1,h2,h3⟩=>⟨y,h1,h2.1,h3⟩
noncomputable def yV2 (f:Fm):Fm×Nat:=if f.right then (zJt f,0) else (fm0,2)
theorem wY6 (G:Gl gl)(T:Gt gl)(f:Fm)(x:IV)(hx:IsFm f x)(hs:f.size<=1000000)(st:ISt) :
  ICall prog gl 180 [x] st (FED (yV2 f).1 (yV2 f).2 st):=by
 have h1:=λst=>zV7 gl G f x hx st hs;have hnames:=λst=>yWr gl f x hx st;have hset:=λst=>wV5 gl 190 [.cptr x] (xJh f) st (by simp only[go_sem]) (λI=>yVc gl f x hx (by omega) I);rw[zXo] at hset;have hfl:=xWn f;have hnorm:=λm hok st hm=>wVr gl T f x hx (frF f) m _ [] ⟨true,.nil,0⟩ (.inl ⟨rfl,rfl⟩) (by simp;omega) hok st hm (SetOk.ofE (frF f));have hN:f.right=true->yV2 f=(zVh (frF f) [] f,0):=λh=>by simp[yV2,h,zJt]
 have hE:f.right=false->yV2 f=(fm0,2):=λh=>by simp[yV2,h]
 cases hr:f.right
 ·rw[hr] at h1;rw[hE hr];obtain⟨o,n,us,sub⟩:=f;obtain⟨t1,x1,t2,x2,rfl,_⟩:=hx.mk;refine iI func180 ?_;simp only[go_sem,zE,zA,zL];refine (h1 _).mono ?_;rintro _ st ⟨rfl,rfl⟩;simp only[go_sem,zE,zA,zL];refine yQ0 ⟨_,rfl,?_,rfl⟩;exact IsFmD.of ⟨_,[],_,[],rfl,by omega,.inl rfl,rfl,.inl rfl,rfl⟩ (.inl rfl) trivial (.inl rfl) trivial
 ·rw[hr] at h1;rw[hN hr];have hok:=(yWj hr).1;obtain⟨o,n,us,sub⟩:=f;obtain⟨t1,x1,t2,x2,rfl,_⟩:=hx.mk;refine iI func180 ?_;simp only[go_sem,zE,zA,zL];refine (h1 _).mono ?_;rintro _ st ⟨rfl,rfl⟩;simp only[go_sem,zE,zA,zL];refine (hnames _).mono ?_;rintro _ st ⟨rfl,rfl⟩;simp only[go_sem,zA];refine (hset _).mono ?_;rintro _ _ ⟨m,hm,rfl,rfl⟩;simp only[go_sem,zE,zA];refine (hnorm m hok _ (ISt.put_same _ _ _)).mono ?_;rintro r _ ⟨hrr,rfl⟩;obtain⟨o5,n5,t5,x5,t6,x6,rfl⟩:=hrr.agg;simp only[go_sem,zE,zA,zL];exact yQg (yQh hm) ⟨_,rfl,hrr,rfl⟩
end Go.Proofs.Tryz
namespace Go.Iv
open Go
def own (st:ISt)(tg:Tag)(n s:Nat)(S0:ISt):Prop:=(n=0/\tg.cap=.nil)\/tg=⟨true,.full,s⟩\/∃g,tg=⟨true,.app g,s⟩/\st g=some (.front n s)/\S0 g=none
theorem own.es {st:ISt}{tg:Tag}{n s:Nat}{S0:ISt}(h:own st tg n s S0):okEs tg s:=by
 rcases h with⟨_,h⟩|rfl|⟨g,rfl,_⟩
 ·exact .inl h
 ·exact .inr rfl
 ·exact .inr rfl
theorem own.nil (st S0:ISt)(f:Bool)(e s:Nat):own st ⟨f,.nil,e⟩ 0 s S0:=.inl ⟨rfl,rfl⟩
theorem own.full (st S0:ISt)(n s:Nat):own st ⟨true,.full,s⟩ n s S0:=.inr (.inl rfl)
theorem yQa {st s:ISt}{b:Nat}{o:Option IObj}(h:subSt st s)(hb:st b=none):subSt st (s.put b o):=λc x hc=>by
 rw[ISt.put_apply];split
 ·grind
 ·exact h c x hc
theorem yXk {st s:ISt}{b:Nat}(h:subSt st s)(hb:s b=none):st b=none:=by
 cases hq:st b with
 | none=>rfl
 | some o=>rw[h b o hq] at hb;cases hb
theorem own.mono {st st':ISt}{tg:Tag}{n s:Nat}{S0:ISt}(h:own st tg n s S0)(hk:∀g,st g=some (.front n s)->S0 g=none->st' g=some (.front n s)):own st' tg n s S0:=by
 rcases h with h|h|⟨g,h1,h2,h3⟩
 ·exact .inl h
 ·exact .inr (.inl h)
 ·exact .inr (.inr ⟨g,h1,hk g h2 h3,h3⟩)
def keepF (s:Nat)(st st':ISt):Prop:=∀b o,st b=some o->(∀n,o≠.front n s)->st' b=some o
theorem keepF.own {s s' n:Nat}{st st' S0:ISt}{tg:Tag}(h:keepF s st st')(ho:own st tg n s' S0)(hs:s'≠s):own st' tg n s' S0 :=
 ho.mono λg hg _=>h g _ hg λn he=>by injection he with _ he;exact hs he
theorem yJh {esc:List Nat}{dst:Option Nat}{e:TypeId×Bool×Nat×Nat}{tg:Tag}{zs:List IV}{y:IV}{R:Rt}{st S0:ISt}{ds:List Dfd}{n s:Nat}(h:own st tg n s S0)(hlen:zs.length=n)(hsub:subSt S0 st)(he:e.2.2.1=s)
  (hf:fits e.2.1 e.2.2.1 y=true) (hcap:(n+1)*e.2.2.2<=140737488355328) (hcap2:n+1<=140737488355328)
  (k:∀tg' st',own st' tg' (n+1) s S0->subSt S0 st'->keepF s st st'->appT (n+1) tg'->R (.val (.sl tg' (zs++[y]))) st' ds)
  (hesc:yKx esc dst=false:=by first|rfl|simp[yKx]):appV esc dst e tg zs [y] R st ds:=by
 subst hlen he;unfold appV;refine⟨by simp[hf],⟨hcap,hcap2⟩,?_⟩;have hnew:∀g,st g=none->∀m,subSt S0 (st.put g (some (.front m e.2.2.1)))/\keepF e.2.2.1 st (st.put g (some (.front m e.2.2.1)))/\S0 g=none:=λg hg m=>by
  have h0:=yXk hsub hg;refine⟨yQa hsub h0,λb o hb _=>?_,h0⟩;rw[ISt.put_apply];grind
 rcases h with⟨h0,hc⟩|rfl|⟨g0,rfl,h1,h2⟩
 ·have hz:zs=[]:=List.eq_nil_of_length_eq_zero h0;subst hz;rw[hc];simp only[hesc,bFt,if_false];intro g hg;obtain⟨a1,a2,a3⟩:=hnew g hg 1;exact k _ _ (.inr (.inr ⟨g,rfl,ISt.put_same _ _ _,a3⟩)) a1 a2 (.inr ⟨Nat.succ_pos _,rfl,g,rfl⟩)
 ·refine⟨rfl,λg hg=>?_⟩;obtain⟨a1,a2,a3⟩:=hnew g hg (zs.length+1);exact k _ _ (.inr (.inr ⟨g,rfl,ISt.put_same _ _ _,a3⟩)) a1 a2 (.inr ⟨Nat.succ_pos _,rfl,g,rfl⟩)
 ·refine⟨rfl,h1,λg hg=>?_⟩;have hgn:S0 g=none:=by
   rcases hg with rfl|hg
   ·exact h2
   ·exact yXk hsub hg
  refine k _ _ (.inr (.inr ⟨g,rfl,ISt.put_same _ _ _,hgn⟩)) (yQa (yQa hsub h2) hgn) (λb o hb hn=>?_) (.inr ⟨Nat.succ_pos _,rfl,g,rfl⟩);have hb0:b≠g0:=by
   grind
  have hbg:b≠g:=by
   grind
  rw[yQ7 hbg,yQ7 hb0];exact hb
theorem yZf {esc:List Nat}{dst:Option Nat}{e:TypeId×Bool×Nat×Nat}{tg:Tag}{zs:List IV}{y:IV}{R:Rt}{st S0:ISt}{ds:List Dfd}{n s:Nat}(h:own st tg n s S0)(hlen:zs.length=n)(hsub:subSt S0 st)(he:e.2.2.1=s)
  (hf:fits e.2.1 e.2.2.1 y=true) (hcap:(n+1)*e.2.2.2<=140737488355328) (hcap2:n+1<=140737488355328)
  (k:∀tg' st',own st' tg' (n+1) s S0->subSt S0 st'->keepF s st st'->R (.val (.sl tg' (zs++[y]))) st' ds)
  (hesc:yKx esc dst=false:=by first|rfl|simp[yKx]):appV esc dst e tg zs [y] R st ds:=yJh h hlen hsub he hf hcap hcap2 (λtg' st' h1 h2 h3 _=>k tg' st' h1 h2 h3) hesc
end Go.Iv
namespace Go.Proofs.Tryz
open Go Go.Iv
set_option maxRecDepth 4000
variable (gl:Nat->Option IV)
def vZ2 (l:List Nat):List Dfd:=l.map .coll
theorem yYl (P:Program)(gl:Nat->Option IV)(rs:List ResultVar)(K:IV->ISt->Prop)(fr:Fr)(st:ISt):∀l:List Nat,yW1 P gl rs K (vZ2 l) fr st=yQ5 (resL P fr st rs) λxs=>outK K (outI xs) st
 | []=>rfl
 | r::l=>yYl P gl rs K fr st l
def PsOk (ps:List Pc)(st:ISt):Prop:=∀p∈ps,∃es,st p.at_=some (.map .str es)/\SetOk es (yZ1 p.tm)
theorem PsOk.mono {ps:List Pc}{st st':ISt}(h:PsOk ps st)(hs:subSt st st'):PsOk ps st':=λp hp=>by
 obtain⟨es,h1,h2⟩:=h p hp;exact⟨es,hs _ _ h1,h2⟩
theorem IsPcs.append:∀ {us ws:List Pc}{xs ys:List IV},IsPcs us xs->IsPcs ws ys->IsPcs (us++ws) (xs++ys)
 | [],bs,xs,ys,h,k=>by simp only[IsPcs] at h;subst h;exact k
 | a::us,bs,xs,ys,h,k=>by
  simp only[IsPcs] at h;obtain⟨y,zs,rfl,hy,h⟩:=h;exact⟨y,zs++ys,rfl,hy,IsPcs.append h k⟩
theorem IsPcs.one {a:Pc}{x:IV}(h:IsPc a x):IsPcs [a] [x]:=⟨x,[],rfl,h,rfl⟩
def cntP (ps:List Pc)(m:ByteArray)(fr:List ByteArray):List Pc:=ps.filter λp=>memB fr p.nm&&!decide (p.nm=m)
theorem wU4 (ps:List Pc)(m:ByteArray)(fr:List ByteArray):toS (cntP ps m fr)=cntS (toS ps) m fr:=by
 unfold toS cntP cntS;rw[List.filter_map];rfl
def msOf (m:Nat)(fr:List ByteArray)(cs:List Pc):Ms:=(m,fr)::cs.map λp=>(p.at_,yZ1 p.tm)
theorem wJw (m:Nat)(fr:List ByteArray)(cs:List Pc):allM (msOf m fr cs)=fr++(toS cs).flatMap λp=>yZ1 p.2:=by
 simp[allM,msOf,toS,List.flatMap_map]
theorem wU0 (T:Gt gl)(op:Nat)(n:ByteArray)(us:List Tm)(sub:List Fm)(x:IV)(hx:IsFm (.mk op n us sub) x)(ps:List Pc)(tg:Tag)(xs:List IV)(htg:okEs tg 7)(hxs:IsPcs ps xs)
  (hb1:yQb sub+wS (toS ps)<=1099511627776) (hpl:ps.length<=1099511627776) (hp1:∀p∈ps,p.tm.size<=1099511627776) (st:ISt) (hps:PsOk ps st) :
  ICall prog gl 228 [.sl tg xs,x] st (λr st'=>subSt st st'/\∃cs tc zs,r=.tup [.raw (.string (yKl (toS ps) n (frFs sub)).1),.sl tc zs]/\okEs tc 7/\IsPcs cs zs/\toS cs=(yKl (toS ps) n (frFs sub)).2/\PsOk cs st'/\cs.length<=ps.length+1):=by
 obtain⟨t1,x1,t2,x2,rfl,hop,ht1,hx1,ht2,hx2⟩:=hx.mk;have hsl2:=yXf sub;refine ICall.intro (c:=cf prog gl [6] []) func228 rfl (by show _<=86;simp) (by kernel_rfl) ?_;simp only[go_sem,zE];refine λm=>yQ9 λhm=>?_;simp only[go_sem,zE,zL];refine λb=>yQ9 λhb=>?_;have hbm:b≠m:=λh=>by rw[h,ISt.put_same] at hb;cases hb
 have hbs:st b=none:=by rw[yQ7 hbm] at hb;exact hb
 let S:List (Value×IV)->ISt:=λes=>(st.put m (some (.map .str es))).put b (some (.box [.raw (.map (some m))]))
 have Sb:∀es,S es b=some (.box [.raw (.map (some m))]):=λes=>ISt.put_same _ _ _;have Sm:∀es,S es m=some (.map .str es):=λes=>by
  show ((st.put m (some (.map .str es))).put b _) m=_;rw[yQ7 (λh=>hbm h.symm),ISt.put_same]
 have Sp:∀es es',(S es).put m (some (.map .str es'))=S es':=λes es'=>by
  funext c;show (((st.put m (some (.map .str es))).put b _).put m _) c=((st.put m _).put b _) c;simp only[ISt.put_apply];by_cases h1:c=m
  ·rw[if_pos h1,if_neg (λh=>hbm (by rw[<- h,h1])),if_pos h1]
  ·rw[if_neg h1,if_neg h1,if_neg h1]
 simp only[go_sem,yQ6,hx2.len];intros;refine LoopC.ctr sub.length (λk fr st' ds=>st'=S (addE [] (frFs (sub.take k)))/\fr 0=.iv (.sl tg xs)/\fr 3=.box [.raw (.int .u8 op),.raw (.string n),.sl t1 x1,.sl t2 x2]/\fr 6=.iv (.raw (.pointer (some ⟨b,0,none⟩))) /\
  fr 18=.iv (.sl t2 x2)/\fr 19=.iv (.raw (.int .i64 sub.length))/\fr 20=.iv (.raw (.int .i64 k))/\∃l,ds=vZ2 l) ?_ ?_ ?_
 ·simp only[go_sem,zE,reduceCtorEq];exact⟨rfl,rfl,[],rfl⟩
 ·rintro k fr _ _ hlt ⟨rfl,f0,f3,f6,f18,f19,f20,l,rfl⟩;obtain⟨a,ha⟩:=yQ1 hlt;obtain⟨y,hky,hy⟩:=hx2.get ha;obtain⟨hs1,hs2⟩:=yZ6 ha;have hnext:frFs (sub.take (k+1))=frFs (sub.take k)++frF a:=by
   rw[yQ8 ha];have:∀l m:List Fm,frFs (l++m)=frFs l++frFs m:=λl m=>by
    induction l with
    | nil=>simp[frFs]
    | cons c l ih=>simp only[List.cons_append,frFs,ih,List.append_assoc]
   rw[this];simp[frFs]
  have hnames:=λst=>yWr gl a y hy st;have hiter:=λI=>yVc gl a y hy (by omega) I;rw[zXo] at hiter;obtain⟨o5,n5,t5,x5,t6,x6,rfl⟩:=hy.agg;simp only[go_sem,zE,zB,zA,zL,f18,f19,f20,lt_i hlt,yQ4 ht2,iNn,hky,fits];refine (hnames _).mono ?_;rintro _ _ ⟨rfl,rfl⟩;simp only[go_sem,reduceCtorEq];refine RangeC.intro (seqX (zKz (frF a))) (frF a).length (λi st'=>st'=S (addE (addE [] (frFs (sub.take k))) ((frF a).take i))) (λ_ _=>False) (by simp only[go_sem]) ?_ ?_ ?_ (hiter _) ?_ (λ_ _ _ h=>h.elim)
  ·intro i c hc;simp only[seqX,zKz,List.getElem?_map,Option.map_eq_some_iff] at hc;obtain⟨s,_,rfl⟩:=hc;rfl
  ·rfl
  ·rintro i c _ hi rfl;simp only[seqX,zKz,List.getElem?_map,Option.map_eq_some_iff] at hi;obtain⟨s,hs,rfl⟩:=hi;simp only[go_sem,zE,f6,Sb,Sm,zVr];rw[Sp,yQ8 hs,zV6];rfl
  ·rintro _ r rfl;simp only[go_sem,zE,reduceCtorEq,f0,f3,f6,f18,f19,f20,yQd hlt (show sub.length<=281474976710656 by omega)];refine⟨?_,r::l,rfl⟩;rw[lTl,hnext,zV6]
 ·rintro fr _ _ ⟨rfl,f0,f3,f6,f18,f19,f20,l,rfl⟩;rw[lTl];generalize hes:addE [] (frFs sub)=es;have hset:SetOk es (frFs sub):=hes▸SetOk.ofE (frFs sub);simp only[go_sem,zE,zM,zL,reduceCtorEq,f0,f6,f19,f20,yQl (nLi _),Sb,yQ3,fits,hxs.len];intros;generalize hF:frFs sub=F at *;have hS0:subSt st (S es):=yVt (yQh hm) hbs;refine LoopC.ctr ps.length (λk fr st' ds=>(∃tc zs tt,fr 11=.iv (.sl tc zs)/\IsPcs (cntP (ps.take k) n F) zs/\own st' tc (cntP (ps.take k) n F).length 7 (S es) /\
   fr 10=.iv (.sl tt (msI (msOf m F (cntP (ps.take k) n F))))/\own st' tt ((cntP (ps.take k) n F).length+1) 1 (S es))/\subSt (S es) st'/\fr 12=.iv (.raw (.bool ((cntP (ps.take k) n F).any λp=>memB (yZ1 p.tm) n))) /\
   fr 3=.box [.raw (.int .u8 op),.raw (.string n),.sl t1 x1,.sl t2 x2]/\fr 6=.iv (.raw (.pointer (some ⟨b,0,none⟩)))/\fr 32=.iv (.sl tg xs)/\fr 33=.iv (.raw (.int .i64 ps.length))/\fr 34=.iv (.raw (.int .i64 k))/\∃l,ds=vZ2 l) ?_ ?_ ?_
  ·simp only[go_sem,zE,f3,f6];exact⟨⟨_,_,_,rfl,rfl,own.nil _ _ _ _ _,rfl,own.full _ _ _ _⟩,subSt.refl _,rfl,rfl,l,rfl⟩
  ·rintro k fr st1 _ hlt ⟨⟨tc,zs,tt,f11,hzs,hoc,f10,hot⟩,hsub,f12,f3,f6,f32,f33,f34,l,rfl⟩;obtain⟨p,hp⟩:=yQ1 hlt;obtain⟨y,hky,v,n3,t3,x3,rfl,hy⟩:=hxs.get hp;have hy0:IsPc p (yVy p.nm v n3 t3 x3 p.at_ p.tm):=⟨v,n3,t3,x3,rfl,hy⟩
   obtain⟨ep,hep,hepo⟩:=hps p (lMg hp);have hb1':=hsub b _ (Sb es);have hm1':=hsub m _ (Sm es);have hct:cntP (ps.take (k+1)) n F=cntP (ps.take k) n F++if memB F p.nm&&!decide (p.nm=n) then [p] else []:=by
    rw[yQ8 hp];unfold cntP;rw[List.filter_append];congr 1;simp only[List.filter_cons,List.filter_nil]
   unfold yVy at hky hy0;cases hq1:memB F p.nm
   ·simp only[hq1,Bool.false_and,bFt,if_false,List.append_nil] at hct;simp only[go_sem,zE,zB,zA,zL,f3,f6,f10,f11,f12,f32,f33,f34,lt_i hlt,yQ4 htg,iNn,hky,fits,hb1',hm1',hset.look,hq1,hct,yQd hlt (show ps.length<=281474976710656 by omega)];exact⟨⟨tc,zs,tt,rfl,hzs,hoc,rfl,hot⟩,hsub,l,rfl⟩
   ·cases hq2:decide (p.nm=n)
    ·simp only[hq1,hq2,Bool.true_and,Bool.not_false,if_true] at hct;have hlen:=hzs.len;have hcl:(cntP (ps.take k) n F).length<=ps.length:=Nat.le_trans (List.length_filter_le _ _) (by rw[List.length_take];omega);simp only[go_sem,zE,zB,zA,zM,zL,f3,f6,f11,f32,f33,f34,lt_i hlt,yQ4 htg,iNn,hky,fits,hb1',hm1',hset.look,hq1,hq2,yQ3];refine yZf hoc hlen hsub rfl (by simp[fits,IV.one]) (by simp only;omega) (by omega) λtc' st2 hoc' hsub' hkf=>?_;have hep2:=hsub' p.at_ _ (hS0 _ _ hep);simp only[go_sem,zE,zA,zM,zL,f10,fits,yQ3];refine yZf (hkf.own hot (by omega)) (by rw[zQz];simp[msOf]) hsub' rfl (by simp[fits,IV.one]) (by simp only;omega) (by omega) λtt' st3 hot' hsub3 hkf3=>?_;have hoc3:=hkf3.own hoc' (by omega);have hep3:=hsub3 p.at_ _ (hS0 _ _ hep);have hfin:∀y',IsPc p y'->(∃tc2 zs2 tt2,SV.iv (.sl tc' (zs++[y']))=.iv (.sl tc2 zs2)/\IsPcs (cntP (ps.take (k+1)) n F) zs2/\own st3 tc2 (cntP (ps.take (k+1)) n F).length 7 (S es) /\
       SV.iv (.sl tt' (msI (msOf m F (cntP (ps.take k) n F))++[.raw (.map (some p.at_))]))=.iv (.sl tt2 (msI (msOf m F (cntP (ps.take (k+1)) n F))))/\own st3 tt2 ((cntP (ps.take (k+1)) n F).length+1) 1 (S es)):=λy' hy'=>by
      rw[hct];refine⟨tc',_,tt',rfl,hzs.append (IsPcs.one hy'),by rw[lLa];exact hoc3,?_,by rw[lLa];exact hot'⟩;simp[msOf,msI]
     have hany:(cntP (ps.take (k+1)) n F).any (λp=>memB (yZ1 p.tm) n)=((cntP (ps.take k) n F).any (λp=>memB (yZ1 p.tm) n) || memB (yZ1 p.tm) n):=by rw[hct];simp
     cases hcl2:(cntP (ps.take k) n F).any λp=>memB (yZ1 p.tm) n
     ·rw[hcl2,Bool.false_or] at hany;rw[hcl2] at f12;simp only[go_sem,zE,f3,f6,f12,f32,f33,f34,hep3,hepo.look,hany,yQd hlt (show ps.length<=281474976710656 by omega)];exact⟨hfin _ hy0,hsub3,l,rfl⟩
     ·rw[hcl2,Bool.true_or] at hany;rw[hcl2] at f12;simp only[go_sem,zE,f3,f6,f12,f32,f33,f34,hany,yQd hlt (show ps.length<=281474976710656 by omega)];exact⟨hfin _ hy0,hsub3,l,rfl⟩
    ·simp only[hq1,hq2,Bool.true_and,Bool.not_true,bFt,if_false,List.append_nil] at hct;simp only[go_sem,zE,zB,zA,zL,f3,f6,f10,f11,f12,f32,f33,f34,lt_i hlt,yQ4 htg,iNn,hky,fits,hb1',hm1',hset.look,hq1,hq2,hct,yQd hlt (show ps.length<=281474976710656 by omega)];exact⟨⟨tc,zs,tt,rfl,hzs,hoc,rfl,hot⟩,hsub,l,rfl⟩
  ·rintro fr st1 _ ⟨⟨tc,zs,tt,f11,hzs,hoc,f10,hot⟩,hsub,f12,f3,f6,f32,f33,f34,l,rfl⟩;rw[lTl] at hzs hoc hot f10 f12;have hsub0:=hS0.trans hsub;have hcl:(cntP ps n F).length<=ps.length:=List.length_filter_le _ _;have hcs:=wU4 ps n F;have hcl3:xZ8 (toS ps) n F=(cntP ps n F).any λp=>memB (yZ1 p.tm) n:=by
    unfold xZ8;rw[<- hcs];simp[toS,List.any_map,Function.comp_def]
   have hcok:PsOk (cntP ps n F) st1:=λp hp=>(hps.mono hsub0) p (List.mem_filter.1 hp).1;rw[<- hcl3] at f12;cases hc:xZ8 (toS ps) n F
   ·rw[hc] at f12;have hu:yKl (toS ps) n F=(n,cntS (toS ps) n F):=by unfold yKl;rw[hc];rfl
    rw[hu];simp only[go_sem,zE,f3,f11,f12,f33,f34,yQl (nLi _),yYl];exact yQ0 ⟨hsub0,cntP ps n F,tc,zs,rfl,hoc.es,hzs,hcs,hcok,by omega⟩
   ·rw[hc] at f12;have hu:yKl (toS ps) n F=(yJ4 (yUq (toS ps) n F),cntS (toS ps) n F++[(n,.mk true (yJ4 (yUq (toS ps) n F)) [])]):=by unfold yKl;rw[hc];rfl
    have hall:allM (msOf m F (cntP ps n F))=yUq (toS ps) n F:=by rw[wJw,hcs];rfl
    have htk:=wKu (toS ps) n F;have hFl:F.length<=yQb sub:=hF▸xJj sub;have hlst:=wX7 gl T (msOf m F (cntP ps n F)) tt hot.es (by rw[hall];omega) st1 (λp hp=>by
     rcases List.mem_cons.1 hp with rfl|hp
     ·exact⟨es,hsub m _ (Sm es),hset⟩
     ·obtain⟨q,hq,rfl⟩:=List.mem_map.1 hp;exact hcok q hq)
    rw[hall] at hlst;rw[hu];generalize yJ4 (yUq (toS ps) n F)=new at hlst;simp only[go_sem,zE,zA,f10,f12,f33,f34,yQl (nLi _)];refine hlst.mono ?_;rintro _ st1 ⟨rfl,rfl⟩;simp only[go_sem,zE,zA,zL,f3,f11,fits];refine (zWd gl n true new [] ⟨true,.nil,0⟩ [] ⟨_,[],rfl,by simp only[go_sem],rfl⟩ (by simp[Tm.size,yQf]) _).mono ?_;rintro _ _ ⟨m3,hm3,rfl,rfl⟩;simp only[go_sem,zE,zA,zM,zL,fits,yQ3,yVy];refine yZf (hoc.mono λg hg _=>by rw[yQ7 (yKb hg hm3)];exact hg) hzs.len (hsub.trans (yQh hm3)) rfl (by simp[fits,IV.one]) (by simp only;omega) (by omega) λtc' st2 hoc' hsub' hkf=>?_;have hp3:IsPc ⟨n,.mk true new [],m3⟩ (yVy n true new ⟨true,.nil,0⟩ [] m3 (.mk true new [])):=⟨true,new,_,[],rfl,_,[],rfl,.inl rfl,rfl⟩
    unfold yVy at hp3;have hm32:=hkf m3 _ (ISt.put_same st1 m3 _) (λ_ h=>by cases h);simp only[go_sem,zE,yYl];refine yQ0 ⟨hS0.trans hsub',cntP ps n F++[⟨n,.mk true new [],m3⟩],tc',_,rfl,hoc'.es,hzs.append (IsPcs.one hp3),?_,λp hp=>?_,by rw[lLa];simp;omega⟩
    ·rw[<- hcs];simp[toS]
    ·rcases List.mem_append.1 hp with hp|hp
     ·exact (hps.mono (hS0.trans hsub')) p (List.mem_filter.1 hp).1
     ·rw[List.mem_singleton] at hp;subst hp;exact⟨_,hm32,SetOk.ofE _⟩
