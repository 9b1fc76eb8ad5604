/- Walks: Normal. -/
import Derived.Test.YtigeiecfkoimpaaGreatDoorJZ
set_option linter.all false
open Nat renaming reduceEqDiff → zE,reduceBEq → zB,reduceAdd → zA,reduceMul → zM,reduceLeDiff → zL
namespace Go.Proofs.Tryz
open Go Go.Iv
set_option maxRecDepth 4000
variable (gl:Nat->Option IV)
def Dx (G:Gt gl):∀(k:Nat) (t:Fm),SizeOf.sizeOf t<k->NM gl t
 | 0,f,h=>by omega
 | k+1,.mk o n us sub,h=>LL gl G o n us sub (λa D=>Dx G k a (by
   have:=lSm D;simp at h;omega))
def LM (G:Gt gl)(t:Fm):NM gl t:=Dx gl G _ t (eS _)
def _root_.Go.Iv.IsFm.agg {f:Fm}{x:IV}(h:IsFm f x):∃(op:Nat) (n:ByteArray) (t:Tag) (xs:List IV) (D:Tag) (ys:List IV),x=.agg [.raw (.int .u8 op),n,.sl t xs,.sl D ys]:=by
 obtain⟨op,n,us,sub⟩:=f;obtain⟨t,xs,D,ys,rfl,_⟩:=h.mk;exact⟨_,_,_,_,_,_,rfl⟩
def _root_.Go.Iv.IsTm.agg {t:Tm}{x:IV}(h:IsTm t x):∃(v:Bool) (n:ByteArray) (D:Tag) (xs:List IV),x=.agg [v,n,.sl D xs]:=by
 obtain⟨v,n,us⟩:=t;obtain⟨D,xs,rfl,_⟩:=h.mk;exact⟨_,_,_,_,rfl⟩
def _root_.Go.Iv.IsFmD.agg {f:Fm}{x:IV}(h:IsFmD f x):∃(op:Nat) (n:ByteArray) (t:Tag) (xs:List IV) (D:Tag) (ys:List IV),x=.agg [.raw (.int .u8 op),n,.sl t xs,.sl D ys]:=h.1.agg
def _root_.Go.Iv.IsTmD.agg {t:Tm}{x:IV}(h:IsTmD t x):∃(v:Bool) (n:ByteArray) (D:Tag) (xs:List IV),x=.agg [v,n,.sl D xs]:=h.1.agg
def fm0:Fm:=.mk 0 ⟨#[]⟩ [] []
def FE (g:Fm)(e:Nat)(st:ISt)(r:IV)(st':ISt):Prop:=∃y,r=.tup [y,e]/\IsFm g y/\st'=st
def FED (g:Fm)(e:Nat)(st:ISt)(r:IV)(st':ISt):Prop:=∃y,r=.tup [y,e]/\IsFmD g y/\st'=st
def FED.w {g:Fm}{e:Nat}{st:ISt}(r:IV)(st':ISt):FED g e st r st'->FE g e st r st':=λ⟨y,h1,h2,D⟩=>⟨y,h1,h2.1,D⟩
noncomputable def lX (f:Fm):Fm×Nat:=if f.right then (lV f,0) else (fm0,2)
def LN (G:Gl gl)(T:Gt gl)(f:Fm)(x:IV)(hx:IsFm f x)(hs:f.size<=1000000)(st:ISt) :
  ICall prog gl 204 [x] st (FED (lX f).1 (lX f).2 st):=by
 have h1:=λst=>rH gl G f x hx st hs;have D:=λst=>uj gl f x hx st;have E:=λst=>uk gl 194 [.cptr x] (oI f) st (by simp only[go_sem]) (λI=>uo gl f x hx (by omega) I);rw[ux] at E;have ah:=uB f;have O:=λm J st hm=>LM gl T f x hx (frF f) m _ [] ⟨true,.nil,0⟩ (.inl ⟨rfl,rfl⟩) (by simp;omega) J st hm (iJ (frF f));have hN:f.right=true->lX f=(mo (frF f) [] f,0):=λh=>by simp[lX,h,lV]
 have hE:f.right=false->lX f=(fm0,2):=λh=>by simp[lX,h]
 cases hr:f.right
 ·rw[hr] at h1;rw[hE hr];obtain⟨o,n,us,sub⟩:=f;obtain⟨t1,x1,t2,x2,rfl,_⟩:=hx.mk;refine iI func204 ?_;simp only[go_sem,zE,zA,zL];refine (h1 _).q ?_;simp only[go_sem,zE,zA,zL];refine c_ ⟨_,rfl,?_,rfl⟩;exact IsFmD.of ⟨_,[],_,[],rfl,by omega,.inl rfl,rfl,.inl rfl,rfl⟩ (.inl rfl) trivial (.inl rfl) trivial
 ·rw[hr] at h1;rw[hN hr];have J:=(mV hr).1;obtain⟨o,n,us,sub⟩:=f;obtain⟨t1,x1,t2,x2,rfl,_⟩:=hx.mk;refine iI func204 ?_;simp only[go_sem,zE,zA,zL];refine (h1 _).q ?_;simp only[go_sem,zE,zA,zL];refine (D _).q ?_;simp only[go_sem,zA];refine (E _).mono ?_;rintro _ _ ⟨m,hm,rfl,rfl⟩;simp only[go_sem,zE,zA];refine (O m J _ (b_ _ _ _)).mono ?_;rintro r _ ⟨ab,rfl⟩;obtain⟨o5,n5,t5,x5,t6,x6,rfl⟩:=ab.agg;simp only[go_sem,zE,zA,zL];exact eI (fb hm) ⟨_,rfl,ab,rfl⟩
end Go.Proofs.Tryz
namespace Go.Iv
open Go
def own (st:ISt)(D:Tag)(n s:Nat)(S0:ISt):Prop:=(n=0/\D.cap=.nil)\/D=⟨true,.full,s⟩\/∃g,D=⟨true,.app g,s⟩/\st g=some (.front n s)/\S0 g=none
def own.es {st:ISt}{D:Tag}{n s:Nat}{S0:ISt}(h:own st D n s S0):okEs D s:=by
 rcases h with⟨_,h⟩|rfl|⟨g,rfl,_⟩
 ·exact .inl h
 ·exact .inr rfl
 ·exact .inr rfl
def own.nil (st S0:ISt)(f:Bool)(e s:Nat):own st ⟨f,.nil,e⟩ 0 s S0:=.inl ⟨rfl,rfl⟩
def own.full (st S0:ISt)(n s:Nat):own st ⟨true,.full,s⟩ n s S0:=.inr (.inl rfl)
def eG {st s:ISt}{b:Nat}{o:Option IObj}(h:subSt st s)(D:st b=none):subSt st (s.put b o):=λc x hc=>by
 rw[ISt.put_apply];split
 ·grind
 ·exact h c x hc
def j9 {st s:ISt}{b:Nat}(h:subSt st s)(D:s b=none):st b=none:=by
 cases E:st b with
 | none=>rfl
 | some o=>rw[h b o E] at D;cases D
def own.mono {st st':ISt}{D:Tag}{n s:Nat}{S0:ISt}(h:own st D n s S0)(G:∀g,st g=some (.front n s)->S0 g=none->st' g=some (.front n s)):own st' D n s S0:=by
 rcases h with h|h|⟨g,h1,h2,E⟩
 ·exact .inl h
 ·exact .inr (.inl h)
 ·exact .inr (.inr ⟨g,h1,G g h2 E,E⟩)
def keepF (s:Nat)(st st':ISt):Prop:=∀b o,st b=some o->(∀n,o≠.front n s)->st' b=some o
def keepF.own {s s' n:Nat}{st st' S0:ISt}{E:Tag}(h:keepF s st st')(G:own st E n s' S0)(hs:s'≠s):own st' E n s' S0 :=
 G.mono λg J _=>h g _ J λn D=>by injection D with _ D;exact hs D
def mX {esc:List Nat}{dst:Option Nat}{e:TypeId×Bool×Nat×Nat}{tg:Tag}{zs:List IV}{y:IV}{R:Rt}{st S0:ISt}{ds:List Dfd}{n s:Nat}(h:own st tg n s S0)(aa:zs.length=n)(D:subSt S0 st)(he:e.2.2.1=s)
  (hf:fits e.2.1 e.2.2.1 y=true) (ae:(n+1)*e.2.2.2<=140737488355328) (O:n+1<=140737488355328)
  (k:∀J st',own st' J (n+1) s S0->subSt S0 st'->keepF s st st'->appT (n+1) J->R (.val (.sl J (zs++[y]))) st' ds)
  (ac:ic esc dst=false:=by first|rfl|simp[ic]):appV esc dst e tg zs [y] R st ds:=by
 subst aa he;unfold appV;refine⟨by simp[hf],⟨ae,O⟩,?_⟩;have G:∀g,st g=none->∀m,subSt S0 (st.put g (some (.front m e.2.2.1)))/\keepF e.2.2.1 st (st.put g (some (.front m e.2.2.1)))/\S0 g=none:=λg E m=>by
  have h0:=j9 D E;refine⟨eG D h0,λb o hb _=>?_,h0⟩;rw[ISt.put_apply];grind
 rcases h with⟨h0,hc⟩|rfl|⟨g0,rfl,h1,h2⟩
 ·have hz:zs=[]:=ev h0;subst hz;rw[hc];simp only[ac,bFt,dE];intro g E;obtain⟨a1,a2,a3⟩:=G g E 1;exact k _ _ (.inr (.inr ⟨g,rfl,b_ _ _ _,a3⟩)) a1 a2 (.inr ⟨hZ _,rfl,g,rfl⟩)
 ·refine⟨rfl,λg E=>?_⟩;obtain⟨a1,a2,a3⟩:=G g E (zs.length+1);exact k _ _ (.inr (.inr ⟨g,rfl,b_ _ _ _,a3⟩)) a1 a2 (.inr ⟨hZ _,rfl,g,rfl⟩)
 ·refine⟨rfl,h1,λg E=>?_⟩;have ab:S0 g=none:=by
   rcases E with rfl|E
   ·exact h2
   ·exact j9 D E
  refine k _ _ (.inr (.inr ⟨g,rfl,b_ _ _ _,ab⟩)) (eG (eG D h2) ab) (λb o hb hn=>?_) (.inr ⟨hZ _,rfl,g,rfl⟩);have ag:b≠g0:=by
   grind
  have af:b≠g:=by
   grind
  rw[dz af,dz ag];exact hb
def ij {esc:List Nat}{dst:Option Nat}{e:TypeId×Bool×Nat×Nat}{tg:Tag}{zs:List IV}{y:IV}{R:Rt}{st S0:ISt}{ds:List Dfd}{n s:Nat}(h:own st tg n s S0)(J:zs.length=n)(G:subSt S0 st)(he:e.2.2.1=s)
  (hf:fits e.2.1 e.2.2.1 y=true) (aa:(n+1)*e.2.2.2<=140737488355328) (E:n+1<=140737488355328)
  (k:∀D st',own st' D (n+1) s S0->subSt S0 st'->keepF s st st'->R (.val (.sl D (zs++[y]))) st' ds)
  (O:ic esc dst=false:=by first|rfl|simp[ic]):appV esc dst e tg zs [y] R st ds:=mX h J G he hf aa E (λD st' h1 h2 h3 _=>k D st' h1 h2 h3) O
end Go.Iv
namespace Go.Proofs.Tryz
open Go Go.Iv
set_option maxRecDepth 4000
variable (gl:Nat->Option IV)
def xZ (l:List Nat):List Dfd:=l.map .coll
def x_ (P:Program)(gl:Nat->Option IV)(rs:List ResultVar)(K:IV->ISt->Prop)(fr:Fr)(st:ISt):∀l:List Nat,kQ P gl rs K (xZ l) fr st=du (resL P fr st rs) λxs=>outK K (outI xs) st
 | []=>rfl
 | r::l=>x_ P gl rs K fr st l
def PsOk (ps:List Pc)(st:ISt):Prop:=∀p∈ps,∃es,st p.at_=some (.map .str es)/\SetOk es (fP p.tm)
def PsOk.mono {ps:List Pc}{st st':ISt}(h:PsOk ps st)(hs:subSt st st'):PsOk ps st':=λp hp=>by
 obtain⟨es,h1,h2⟩:=h p hp;exact⟨es,hs _ _ h1,h2⟩
def IsPcs.append:∀ {us ws:List Pc}{xs ys:List IV},IsPcs us xs->IsPcs ws ys->IsPcs (us++ws) (xs++ys)
 | [],E,xs,ys,h,k=>by simp only[IsPcs] at h;subst h;exact k
 | a::us,E,xs,ys,h,k=>by
  simp only[IsPcs] at h;obtain⟨y,zs,rfl,D,h⟩:=h;exact⟨y,zs++ys,rfl,D,IsPcs.append h k⟩
def IsPcs.one {a:Pc}{x:IV}(h:IsPc a x):IsPcs [a] [x]:=⟨x,[],rfl,h,rfl⟩
def cntP (ps:List Pc)(m:ByteArray)(fr:List ByteArray):List Pc:=ps.filter λp=>memB fr p.nm&&!decide (p.nm=m)
def LO (ps:List Pc)(m:ByteArray)(fr:List ByteArray):toS (cntP ps m fr)=cntS (toS ps) m fr:=by
 unfold toS cntP cntS;rw[List.filter_map];rfl
def msOf (m:Nat)(fr:List ByteArray)(cs:List Pc):Ms:=(m,fr)::cs.map λp=>(p.at_,fP p.tm)
def LP (m:Nat)(fr:List ByteArray)(cs:List Pc):allM (msOf m fr cs)=fr++(toS cs).flatMap λp=>fP p.2:=by
 simp[allM,msOf,toS,List.flatMap_map]
def LQ (T:Gt gl)(op:Nat)(n:ByteArray)(us:List Tm)(sub:List Fm)(x:IV)(hx:IsFm (.mk op n us sub) x)(ps:List Pc)(tg:Tag)(xs:List IV)(aE:okEs tg 7)(aT:IsPcs ps xs)
  (bJ:dV sub+wS (toS ps)<=1099511627776) (bG:ps.length<=1099511627776) (hp1:∀p∈ps,p.tm.size<=1099511627776) (st:ISt) (aF:PsOk ps st) :
  ICall prog gl 218 [.sl tg xs,x] st (λr st'=>subSt st st'/\∃cs tc zs,r=.tup [.raw (.string (jR (toS ps) n (frFs sub)).1),.sl tc zs]/\okEs tc 7/\IsPcs cs zs/\toS cs=(jR (toS ps) n (frFs sub)).2/\PsOk cs st'/\cs.length<=ps.length+1):=by
 obtain⟨t1,x1,t2,x2,rfl,bH,bB,bw,bi,aU⟩:=hx.mk;have bq:=mS sub;refine ICall.intro (c:=cf prog gl [6] []) func218 rfl (by show _<=86;simp) (by kernel_rfl) ?_;simp only[go_sem,zE];refine λm=>d_ λhm=>?_;simp only[go_sem,zE,zL];refine λb=>d_ λhb=>?_;have aI:b≠m:=λh=>by rw[h,b_] at hb;cases hb
 have bl:st b=none:=by rw[dz aI] at hb;exact hb
 let S:List (Value×IV)->ISt:=λes=>(st.put m (some (.map .str es))).put b (some (.box [.raw (.map (some m))]))
 have Sb:∀es,S es b=some (.box [.raw (.map (some m))]):=λes=>b_ _ _ _;have Sm:∀es,S es m=some (.map .str es):=λes=>by
  show ((st.put m (some (.map .str es))).put b _) m=_;rw[dz (λh=>aI h.symm),b_]
 have Sp:∀es aJ,(S es).put m (some (.map .str aJ))=S aJ:=λes aJ=>by
  funext c;show (((st.put m (some (.map .str es))).put b _).put m _) c=((st.put m _).put b _) c;simp only[ISt.put_apply];by_cases h1:c=m
  ·rw[cX h1,a_ (λh=>aI (by rw[<- h,h1])),cX h1]
  ·rw[a_ h1,a_ h1,a_ h1]
 simp only[go_sem,eN,aU.len];intros;refine dt sub.length (λk fr st' ds=>st'=S (addE [] (frFs (sub.take k)))/\fr 0=.iv (.sl tg xs)/\fr 3=.box [.raw (.int .u8 op),n,.sl t1 x1,.sl t2 x2]/\fr 6=.iv (.raw (.pointer (some ⟨b,0,none⟩))) /\
  fr 18=.iv (.sl t2 x2)/\fr 19=.iv (.raw (.int .i64 sub.length))/\fr 20=.iv (.raw (.int .i64 k))/\∃l,ds=xZ l) ?_ ?_ ?_
 ·simp only[go_sem,zE,reduceCtorEq];exact⟨rfl,rfl,[],rfl⟩
 ·rintro k fr _ _ E ⟨rfl,f0,f3,f6,f18,f19,f20,l,rfl⟩;obtain⟨a,ha⟩:=dD E;obtain⟨y,ah,hy⟩:=aU.get ha;obtain⟨bD,bC⟩:=j8 ha;have aG:frFs (sub.take (k+1))=frFs (sub.take k)++frF a:=by
   rw[dM ha];have:∀l m:List Fm,frFs (l++m)=frFs l++frFs m:=λl m=>by
    induction l with
    | nil=>simp[frFs]
    | cons c l ih=>simp only[eu,frFs,ih,et]
   rw[this];simp[frFs]
  have ax:=λst=>uj gl a y hy st;have an:=λI=>uo gl a y hy (by omega) I;rw[ux] at an;obtain⟨o5,n5,t5,x5,t6,x6,rfl⟩:=hy.agg;simp only[go_sem,zE,zB,zA,zL,f18,f19,f20,lt_i E,dB bi,iNn,ah,fits];refine (ax _).q ?_;simp only[go_sem,reduceCtorEq];refine RangeC.intro (seqX (lT (frF a))) (frF a).length (λi st'=>st'=S (addE (addE [] (frFs (sub.take k))) ((frF a).take i))) (λ_ _=>False) (by simp only[go_sem]) ?_ ?_ ?_ (an _) ?_ (λ_ _ _ h=>h.elim)
  ·intro i c hc;simp only[seqX,lT,eB,fp] at hc;obtain⟨s,_,rfl⟩:=hc;rfl
  ·rfl
  ·rintro i c _ hi rfl;simp only[seqX,lT,eB,fp] at hi;obtain⟨s,hs,rfl⟩:=hi;simp only[go_sem,zE,f6,Sb,Sm,pG];rw[Sp,dM hs,Du];rfl
  ·rintro _ r rfl;simp only[go_sem,zE,reduceCtorEq,f0,f3,f6,f18,f19,f20,dL E (by omega)];refine⟨?_,r::l,rfl⟩;rw[lTl,aG,Du]
 ·rintro fr _ _ ⟨rfl,f0,f3,f6,f18,f19,f20,l,rfl⟩;rw[lTl];generalize bj:addE [] (frFs sub)=es;have ab:SetOk es (frFs sub):=bj▸iJ (frFs sub);simp only[go_sem,zE,zM,zL,reduceCtorEq,f0,f6,f19,f20,dS (nLi _),Sb,eh,fits,aT.len];intros;generalize hF:frFs sub=F at *;have aq:subSt st (S es):=rS (fb hm) bl;refine dt ps.length (λk fr st' ds=>(∃tc zs tt,fr 11=.iv (.sl tc zs)/\IsPcs (cntP (ps.take k) n F) zs/\own st' tc (cntP (ps.take k) n F).length 7 (S es) /\
   fr 10=.iv (.sl tt (msI (msOf m F (cntP (ps.take k) n F))))/\own st' tt ((cntP (ps.take k) n F).length+1) 1 (S es))/\subSt (S es) st'/\fr 12=((cntP (ps.take k) n F).any λp=>memB (fP p.tm) n:Bool) /\
   fr 3=.box [.raw (.int .u8 op),n,.sl t1 x1,.sl t2 x2]/\fr 6=.iv (.raw (.pointer (some ⟨b,0,none⟩)))/\fr 32=.iv (.sl tg xs)/\fr 33=ps.length/\fr 34=.iv (.raw (.int .i64 k))/\∃l,ds=xZ l) ?_ ?_ ?_
  ·simp only[go_sem,zE,f3,f6];exact⟨⟨_,_,_,rfl,rfl,own.nil _ _ _ _ _,rfl,own.full _ _ _ _⟩,subSt.refl _,rfl,rfl,l,rfl⟩
  ·rintro k fr ai _ E ⟨⟨tc,zs,tt,f11,hzs,O,f10,ag⟩,D,f12,f3,f6,f32,f33,f34,l,rfl⟩;obtain⟨p,hp⟩:=dD E;obtain⟨y,ah,v,n3,t3,x3,rfl,hy⟩:=aT.get hp;have aD:IsPc p (kT p.nm v n3 t3 x3 p.at_ p.tm):=⟨v,n3,t3,x3,rfl,hy⟩
   obtain⟨ep,a8,a6⟩:=aF p (lMg hp);have ao:=D b _ (Sb es);have al:=D m _ (Sm es);have aa:cntP (ps.take (k+1)) n F=cntP (ps.take k) n F++if memB F p.nm&&!decide (p.nm=n) then [p] else []:=by
    rw[dM hp];unfold cntP;rw[List.filter_append];congr 1;simp only[kn,List.filter_nil]
   unfold kT at ah aD;cases af:memB F p.nm
   ·simp only[af,oq,bFt,dE,ek] at aa;simp only[go_sem,zE,zB,zA,zL,f3,f6,f10,f11,f12,f32,f33,f34,lt_i E,dB aE,iNn,ah,fits,ao,al,ab.look,af,aa,dL E (by omega)];exact⟨⟨tc,zs,tt,rfl,hzs,O,rfl,ag⟩,D,l,rfl⟩
   ·cases aw:decide (p.nm=n)
    ·simp only[af,aw,iZ,Bool.not_false,dJ] at aa;have aZ:=hzs.len;have bk:(cntP (ps.take k) n F).length<=ps.length:=dN (kx _ _) (by rw[dU];omega);simp only[go_sem,zE,zB,zA,zM,zL,f3,f6,f11,f32,f33,f34,lt_i E,dB aE,iNn,ah,fits,ao,al,ab.look,af,aw,eh];refine ij O aZ D rfl (by simp[fits,IV.one]) (by simp only;omega) (by omega) λav bf ak G aH=>?_;have bt:=G p.at_ _ (aq _ _ a8);simp only[go_sem,zE,zA,zM,zL,f10,fits,eh];refine ij (aH.own ag (by omega)) (by rw[xX];simp[msOf]) G rfl (by simp[fits,IV.one]) (by simp only;omega) (by omega) λaM aO aV J a1=>?_;have aW:=a1.own ak (by omega);have a7:=J p.at_ _ (aq _ _ a8);have az:∀y',IsPc p y'->(∃aN aK aL,SV.iv (.sl av (zs++[y']))=.iv (.sl aN aK)/\IsPcs (cntP (ps.take (k+1)) n F) aK/\own aO aN (cntP (ps.take (k+1)) n F).length 7 (S es) /\
       SV.iv (.sl aM (msI (msOf m F (cntP (ps.take k) n F))++[.raw (.map (some p.at_))]))=.iv (.sl aL (msI (msOf m F (cntP (ps.take (k+1)) n F))))/\own aO aL ((cntP (ps.take (k+1)) n F).length+1) 1 (S es)):=λy' bg=>by
      rw[aa];refine⟨av,_,aM,rfl,hzs.append (IsPcs.one bg),by rw[lLa];exact aW,?_,by rw[lLa];exact aV⟩;simp[msOf,msI]
     have ae:(cntP (ps.take (k+1)) n F).any (λp=>memB (fP p.tm) n)=((cntP (ps.take k) n F).any (λp=>memB (fP p.tm) n) || memB (fP p.tm) n):=by rw[aa];simp
     cases ac:(cntP (ps.take k) n F).any λp=>memB (fP p.tm) n
     ·rw[ac,Bool.false_or] at ae;rw[ac] at f12;simp only[go_sem,zE,f3,f6,f12,f32,f33,f34,a7,a6.look,ae,dL E (by omega)];exact⟨az _ aD,J,l,rfl⟩
     ·rw[ac,Bool.true_or] at ae;rw[ac] at f12;simp only[go_sem,zE,f3,f6,f12,f32,f33,f34,ae,dL E (by omega)];exact⟨az _ aD,J,l,rfl⟩
    ·simp only[af,aw,iZ,ly,bFt,dE,ek] at aa;simp only[go_sem,zE,zB,zA,zL,f3,f6,f10,f11,f12,f32,f33,f34,lt_i E,dB aE,iNn,ah,fits,ao,al,ab.look,af,aw,aa,dL E (by omega)];exact⟨⟨tc,zs,tt,rfl,hzs,O,rfl,ag⟩,D,l,rfl⟩
  ·rintro fr ai _ ⟨⟨tc,zs,tt,f11,hzs,O,f10,ag⟩,D,f12,f3,f6,f32,f33,f34,l,rfl⟩;rw[lTl] at hzs O ag f10 f12;have aj:=aq.trans D;have bk:(cntP ps n F).length<=ps.length:=kx _ _;have ay:=LO ps n F;have ba:rL (toS ps) n F=(cntP ps n F).any λp=>memB (fP p.tm) n:=by
    unfold rL;rw[<- ay];simp[toS,List.any_map,Function.comp_def]
   have aA:PsOk (cntP ps n F) ai:=λp hp=>(aF.mono aj) p (jf.1 hp).1;rw[<- ba] at f12;cases hc:rL (toS ps) n F
   ·rw[hc] at f12;have hu:jR (toS ps) n F=(n,cntS (toS ps) n F):=by unfold jR;rw[hc];rfl
    rw[hu];simp only[go_sem,zE,f3,f11,f12,f33,f34,dS (nLi _),x_];exact c_ ⟨aj,cntP ps n F,tc,zs,rfl,O.es,hzs,ay,aA,by omega⟩
   ·rw[hc] at f12;have hu:jR (toS ps) n F=(iH (mU (toS ps) n F),cntS (toS ps) n F++[(n,.mk true (iH (mU (toS ps) n F)) [])]):=by unfold jR;rw[hc];rfl
    have aB:allM (msOf m F (cntP ps n F))=mU (toS ps) n F:=by rw[LP,ay];rfl
    have bA:=Lc (toS ps) n F;have bK:F.length<=dV sub:=hF▸xQ sub;have am:=Dt gl T (msOf m F (cntP ps n F)) tt ag.es (by rw[aB];omega) ai (λp hp=>by
     rcases dF.1 hp with rfl|hp
     ·exact⟨es,D m _ (Sm es),ab⟩
     ·obtain⟨q,hq,rfl⟩:=dH.1 hp;exact aA q hq)
    rw[aB] at am;rw[hu];generalize iH (mU (toS ps) n F)=new at am;simp only[go_sem,zE,zA,f10,f12,f33,f34,dS (nLi _)];refine am.mono ?_;rintro _ ai ⟨rfl,rfl⟩;simp only[go_sem,zE,zA,zL,f3,f11,fits];refine (CS gl n true new [] ⟨true,.nil,0⟩ [] ⟨_,[],rfl,by simp only[go_sem],rfl⟩ (by simp[Tm.size,el]) _).mono ?_;rintro _ _ ⟨m3,aY,rfl,rfl⟩;simp only[go_sem,zE,zA,zM,zL,fits,eh,kT];refine ij (O.mono λg hg _=>by rw[dz (mO hg aY)];exact hg) hzs.len (D.trans (fb aY)) rfl (by simp[fits,IV.one]) (by simp only;omega) (by omega) λav bf ak G aH=>?_;have hp3:IsPc ⟨n,.mk true new [],m3⟩ (kT n true new ⟨true,.nil,0⟩ [] m3 (.mk true new [])):=⟨true,new,_,[],rfl,_,[],rfl,.inl rfl,rfl⟩
    unfold kT at hp3;have aX:=aH m3 _ (b_ ai m3 _) (λ_ h=>by cases h);simp only[go_sem,zE,x_];refine c_ ⟨aq.trans G,cntP ps n F++[⟨n,.mk true new [],m3⟩],av,_,rfl,ak.es,hzs.append (IsPcs.one hp3),?_,λp hp=>?_,by rw[lLa];simp;omega⟩
    ·rw[<- ay];simp[toS]
    ·rcases dQ.1 hp with hp|hp
     ·exact (aF.mono (aq.trans G)) p (jf.1 hp).1
     ·rw[dR] at hp;subst hp;exact⟨_,aX,iJ _⟩
