/- Walks: the moves of a line, handed out o -/
import Derived.Test.YtigeiecfkoimpaaGreatDoorQD
set_option linter.all false
open Nat renaming reduceEqDiff → zE,reduceBEq → zB,reduceAdd → zA,reduceMul → zM,reduceLeDiff → zL
namespace Go.Proofs.Tryz
open Go Go.Iv
set_option maxRecDepth 4000
variable (gl:Nat->Option IV)
abbrev Mv:=Nat×Nat×List Ln
def mvN (j:Bool)(ln:Ln)(i:Nat)(t:Tn):Option Mv:=if t.2.any (tooN j ln)=true then none else some (t.1,i,t.2.map (kd j ln))
noncomputable def iY (W:List Fm)(j:Bool)(ln:Ln)(p:Nat×Bool):List (Option Mv):=match W[p.1]? with
 | some f=>(gi W j f p.2).map (mvN j ln p.1)
 | none=>[]
noncomputable def mvsN (W:List Fm)(j:Bool)(ln:Ln):List (Option Mv):=(plcs ln).flatMap (iY W j ln)
def cutO {α:Type}:List (Option α)->List (Option α)
 | []=>[]
 | none::_=>[none]
 | some a::l=>some a::cutO l
def vr {α:Type}:∀ {l m:List (Option α)},(∀o∈l,o≠none)->cutO (l++m)=l++cutO m
 | [],m,_=>rfl
 | none::l,m,h=>absurd rfl (h none (.head _))
 | some a::l,m,h=>by simp only[eu,cutO,vr λo D=>h o (.tail _ D)]
def Om {α:Type}{l:List (Option α)}(h:∀o∈l,o≠none):cutO l=l:=by
 have:=vr (m:=[]) h;simpa[cutO] using this
def On {α:Type}{l m:List (Option α)}{o:Option α}(h:∀o∈l,o≠none):(cutO (l++o::m))[l.length]?=some o:=by
 rw[vr h,fD (dG _),fc];cases o<;>rfl
def Oo {α:Type}{l m:List (Option α)}(h:∀o∈l,o≠none):(cutO (l++none::m)).length=l.length+1:=by
 rw[vr h,lLa];rfl
def IsMv (v:Mv)(x:IV):Prop:=∃t ys,x=.agg [.raw (.int .u8 (v.1:Int)),(v.2.1:Int),.sl t ys]/\okEs t 2/\AllR IsLn v.2.2 ys
def mvA:Option Mv->List IV->Prop
 | some v,a=>∃x,a=[x,.raw (.int .i64 0)]/\IsMv v x
 | none,a=>a=[.agg [.raw (.int .u8 0),(0:Int),()],.raw (.int .i64 5)]
noncomputable def mvX (W:List Fm)(j:Bool)(ln:Ln):Nat->List IV->Prop:=λk a=>∃o,(cutO (mvsN W j ln))[k]?=some o/\mvA o a
def SpSt (ca m:Nat)(W:List Fm)(st:ISt):Prop:=∃es,st m=some (.map .pl es)/\CacheOk ca W es
def SpUp (ca m:Nat)(W:List Fm):Nat->List (Value×IV)->List (Value×IV)->Prop:=λE es D=>E=m/\(CacheOk ca W es->CacheOk ca W D)
def qB (W:List Fm)(l:List Fm):(l8 W l).length<=l.length:=by
 have:=sn (l.map (noW W))
 rwa [dP] at this
def F5 (G:Gl gl)(T:Gt gl)(ca m:Nat)(W:List Fm)(hS:SpOk ca W)(bu:W.length<=200000)(tw:Tag)(xw:List IV)(a6:okEs tw 4)(aX:IsFms W xw)(ln:Ln)(D:LnOk W ln)(x:IV)(hx:IsLn ln x) :
  IterU prog gl 174 [] [.cptr x,.cptr (spI ca tw xw m)] (pF (mvX W (calJ ca) ln)) (cutO (mvsN W (calJ ca) ln)).length (λ_=>SpSt ca m W) (SpUp ca m W):=by
 have bp:=nZ D.1.1 D.1.2;have bo:=nZ D.2.1 D.2.2;have ba:=λst=>FX gl ln x hx st;have hp1:=λI=>FY gl ln x hx ⟨by omega,by omega⟩ I;obtain⟨t1,t2,rfl,e1,e2⟩:=hx;rintro y I' S' st ⟨f,fi,aG,rfl,bq,au⟩ hI aZ hy h0;have a7:∀ {k stu},I' k stu->SpSt ca m W stu:=λ{k stu} h=>by
  obtain⟨s0,h1,es,h2,h3⟩:=hI k stu h;exact⟨es,h1 _ _ h2,h3⟩
 change ICall prog gl _ [.fn f fi aG,_,_] st _;refine ICall.intro (c:=cf prog gl [] [] [3]) func174 rfl (by show _<=59;simp) (by kernel_rfl) ?_;simp only[go_sem,zE,zA,fits];refine (ba _).q ?_;simp only[go_sem,reduceCtorEq]
 let pre:Nat->List (Option Mv):=λk=>((plcs ln).take k).flatMap (iY W (calJ ca) ln)
 refine RangeC.intro (plX ln) (plcs ln).length (λk st'=>I' (pre k).length st'/\∀o∈pre k,o≠none) (λe st'=>e=.ret/\(S' st'\/I' (cutO (mvsN W (calJ ca) ln)).length st')) (by simp only[go_sem]) ?_ ⟨h0,λo O=>by cases O⟩ ?_ (hp1 _) ?_ ?_
 ·rintro k a ⟨p,_,rfl⟩;rfl
 ·rintro k _ ah ⟨⟨i,r⟩,hp,rfl⟩ ⟨an,al⟩;obtain⟨es,hm,be⟩:=a7 an;have bc:i<W.length:=by
   have:=lMg hp;unfold plcs at this;rcases dQ.1 this with h|h
   ·obtain⟨i',aF,he⟩:=dH.1 h;cases he;exact D.1.2 _ aF
   ·obtain⟨i',aF,he⟩:=dH.1 h;cases he;exact D.2.2 _ aF
  obtain⟨g,hg⟩:=dD bc;have az:=N8 gl G T ca m W hS tw xw a6 aX i r g hg es be ah hm;simp only[go_sem,zE,zA,zL,fits];refine az.mono ?_;rintro _ _ ⟨⟨t,ys,rfl,ht,hys⟩,bg,aM,rfl⟩;have aK:=aZ (pre k).length ah m .pl es bg an hm ⟨rfl,λ_=>aM⟩;have aN:iY W (calJ ca) ln (i,r)=(gi W (calJ ca) g r).map (mvN (calJ ca) ln i):=by unfold iY;rw[hg]
  have ak:∀q tt,(gi W (calJ ca) g r)[q]?=some tt->∃rest,mvsN W (calJ ca) ln=(pre k++((gi W (calJ ca) g r).take q).map (mvN (calJ ca) ln i))++mvN (calJ ca) ln i tt::rest:=λq tt hq=>by
   refine⟨((gi W (calJ ca) g r).drop (q+1)).map (mvN (calJ ca) ln i)++((plcs ln).drop (k+1)).flatMap (iY W (calJ ca) ln),?_⟩;have h1:plcs ln=(plcs ln).take k++(i,r)::(plcs ln).drop (k+1):=by
    obtain⟨h2,h3⟩:=lGs hp
    conv=>lhs;rw[<- eA k (plcs ln),fC h2,h3]
   have h4:gi W (calJ ca) g r=(gi W (calJ ca) g r).take q++tt::(gi W (calJ ca) g r).drop (q+1):=by
    obtain⟨h2,h3⟩:=lGs hq
    conv=>lhs;rw[<- eA q (gi W (calJ ca) g r),fC h2,h3]
   unfold mvsN
   conv=>lhs;rw[h1]
   rw[ix,eo,aN]
   conv=>lhs;rw[h4]
   simp only[eQ,ec,et,eu,pre]
  have bi:(gi W (calJ ca) g r).length<=1000:=by
   have:=vj (ca:=ca) (hS.pf (lMg hg)) r;unfold gi;rw[dP,<- dP (f:=(·.1)),this];unfold ju
   repeat' split
   all_goals simp
  simp only[go_sem];intro _;rw[hys.1];refine dt (gi W (calJ ca) g r).length (λq fr st' ds=>I' ((pre k).length+q) st'/\(∀o∈((gi W (calJ ca) g r).take q).map (mvN (calJ ca) ln i),o≠none)/\fr 1=.iv (.cptr (.agg [.sl t1 (dO ln.1),.sl t2 (dO ln.2)]))/\fr 2=.iv (.cptr (spI ca tw xw m))/\fr 3=.iv (.cptr (.fn f fi aG)) /\
   fr 4=.box [(i:Int),r]/\fr 17=.iv (.sl t ys)/\fr 18=.iv (.raw (.int .i64 (gi W (calJ ca) g r).length))/\fr 19=(q:Int)/\ds=[]) ?_ ?_ ?_
  ·simp only[go_sem,zE];exact⟨aK,λ_ h=>h.elim,rfl⟩
  ·rintro q fr ax _ aE ⟨am,af,f1,f2,f3,f4,f17,f18,f19,rfl⟩;obtain⟨tt,aj⟩:=dD aE;obtain⟨rest,ac⟩:=ak q tt aj;obtain⟨z,aU,t3,zs,rfl,e3,hzs⟩:=hys.2 q tt aj;obtain⟨t0,aI,rfl⟩:=dH.1 (lMg aj);have av:∀o∈pre k++((gi W (calJ ca) g r).take q).map (mvN (calJ ca) ln i),o≠none:=λo O=>(dQ.1 O).elim (al o) (af o);have aQ:(pre k++((gi W (calJ ca) g r).take q).map (mvN (calJ ca) ln i)).length=(pre k).length+q:=by rw[lLa,dP,dU];omega
   have O:=On (l:=pre k++((gi W (calJ ca) g r).take q).map (mvN (calJ ca) ln i)) (m:=rest) (o:=mvN (calJ ca) ln i (t0.1,t0.2.map (exW W))) av;rw[<- ac,aQ] at O;have hp2:=zz aI;have aC:=FN aI;simp only[go_sem,zE,zB,zA,zL,f4,f17,f18,f19,lt_i aE,dB ht,iNn,aU,fits];intro _;rw[hzs.1];refine dt (t0.2.map (exW W)).length (λv fr st' ds=>(∃t4 us,fr 7=.box [.raw (.int .u8 (t0.1:Int)),(i:Int),.sl t4 us]/\AllR IsLn (((t0.2.map (exW W)).take v).map (kd (calJ ca) ln)) us/\own st' t4 v 2 ax/\subSt ax st')/\((t0.2.map (exW W)).take v).any (tooN (calJ ca) ln)=false /\
    fr 1=.iv (.cptr (.agg [.sl t1 (dO ln.1),.sl t2 (dO ln.2)]))/\fr 2=.iv (.cptr (spI ca tw xw m))/\fr 3=.iv (.cptr (.fn f fi aG)) /\
    fr 4=.box [(i:Int),r]/\fr 17=.iv (.sl t ys)/\fr 18=.iv (.raw (.int .i64 (gi W (calJ ca) g r).length))/\fr 19=(q:Int)/\fr 29=.iv (.sl t3 zs)/\fr 30=.iv (.raw (.int .i64 (t0.2.map (exW W)).length))/\fr 31=(v:Int)/\ds=[]) ?_ ?_ ?_
   ·simp only[go_sem,zE];exact⟨⟨_,_,rfl,AllR.nil,own.nil _ _ _ _ _,subSt.refl _⟩,rfl,f1,f2,f3,f4,f17,f18,f19,rfl⟩
   ·rintro v fr aH _ hv ⟨⟨t4,us,f7,aa,ae,E⟩,J,f1,f2,f3,f4,f17,f18,f19,f29,f30,f31,rfl⟩;obtain⟨e,he⟩:=dD hv;obtain⟨ze,aV,aL⟩:=hzs.2 v e he;obtain⟨p0,bb,rfl⟩:=dH.1 (lMg he);have bt:=qB W p0.1;have bs:=qB W p0.2;have br:=aC p0 bb;have aB:=λst=>Oe gl T ca m tw xw ln _ ⟨t1,t2,rfl,e1,e2⟩ (exW W p0) ze aL ⟨by omega,by omega,by show (l8 W p0.1).length<=_;omega,by show (l8 W p0.2).length<=_;omega,by show p0.1.length<=_;omega,by show p0.2.length<=_;omega⟩ st;obtain⟨t5,t6,rfl,e5,e6⟩:=aL;simp only[go_sem,zE,zB,zA,zL,f1,f2,f29,f30,f31,lt_i hv,dB e3,iNn,aV,fits];refine (aB _).mono ?_;rintro _ aH ⟨⟨b1,b2,b3,b4,rfl,aW⟩,rfl⟩;cases ab:tooN (calJ ca) ln (exW W p0) with
    | true =>
     have ag:mvN (calJ ca) ln i (t0.1,t0.2.map (exW W))=none:=by
      unfold mvN;rw[cX (gk.2 ⟨_,lMg he,ab⟩)]
     rw[ag] at O;have aq:=Oo (m:=rest) av;rw[<- ag,<- ac,aQ] at aq;have ay:=hy.none (k:=(pre k).length+q) (a:=[.agg [.raw (.int .u8 0),(0:Int),()],(5:Int)]) ⟨none,O,rfl⟩ am;simp only[go_sem,zE,zA,zL,f3,fits];refine lO au ((ay.sub E).mono ?_);rintro _ st4 (⟨rfl,h⟩|⟨rfl,h⟩)
     ·simp only[go_sem];exact .inr (aq▸h)
     ·simp only[go_sem];exact .inl h
    | false =>
     have D:=aW ab;simp only[go_sem,zE,zA,zM,zL,f7,fits,eh];have a1:us.length=v:=by rw[aa.1,dP,dU];omega
     refine ij ae a1 E rfl (by simp[fits,IV.one]) (by simp only;rw[dP] at hv;omega) (by rw[dP] at hv;omega) λaT st4 aD aA _=>?_;simp only[go_sem,zE,zA,zL,f1,f2,f3,f4,f7,f17,f18,f19,f29,f30,f31,dL hv (by rw[dP];omega)];refine⟨⟨aT,_,rfl,?_,aD,aA⟩,?_⟩
     ·rw[dM he,eQ];exact aa.snoc D
     ·rw[dM he,List.any_append,J];simp[ab]
   ·rintro fr aH _ ⟨⟨t4,us,f7,aa,ae,E⟩,J,f1,f2,f3,f4,f17,f18,f19,f29,f30,f31,rfl⟩;rw[lTl] at aa J;have ag:mvN (calJ ca) ln i (t0.1,t0.2.map (exW W))=some (t0.1,i,(t0.2.map (exW W)).map (kd (calJ ca) ln)):=by
     unfold mvN;rw[a_ (by rw[J];simp)]
    have ay:=hy.none (k:=(pre k).length+q) (a:=[.agg [.raw (.int .u8 (t0.1:Int)),(i:Int),.sl t4 us],(0:Int)]) ⟨_,O,by rw[ag];exact⟨_,rfl,t4,us,rfl,ae.es,aa⟩⟩ am;simp only[go_sem,zE,zA,zL,f3,f7,f30,f31,dS (nLi _),fits];refine lO au ((ay.sub E).mono ?_);rintro _ st4 (⟨rfl,h⟩|⟨rfl,h⟩)
    ·simp only[go_sem,zE,f1,f2,f3,f4,f17,f18,f19,dL aE (by omega)];refine⟨h,λo aJ=>?_⟩;rw[dM aj,eQ] at aJ;rcases dQ.1 aJ with h1|h1
     ·exact af o h1
     ·rw[dR.1 h1];show mvN (calJ ca) ln i (t0.1,t0.2.map (exW W))≠none;rw[ag];simp
    ·simp only[go_sem];exact .inl h
  ·rintro fr ax _ ⟨am,af,f1,f2,f3,f4,f17,f18,f19,rfl⟩;rw[lTl] at af;have a8:pre (k+1)=pre k++(gi W (calJ ca) g r).map (mvN (calJ ca) ln i):=by
    simp only[pre];rw[dM hp,ix,eo,List.flatMap_nil,ek,aN]
   simp only[go_sem,f18,f19,dS (nLi _)];rw[a8];refine⟨by rw[lLa,dP];exact am,λo O=>(dQ.1 O).elim (al o) (af o)⟩
 ·rintro ah rr ⟨an,al⟩;have aO:cutO (mvsN W (calJ ca) ln)=mvsN W (calJ ca) ln:=Om λo O=>al o (by simp only[pre];rw[lTl];exact O);have aC:(pre (plcs ln).length).length=(mvsN W (calJ ca) ln).length:=by simp only[pre];rw[lTl];rfl
  simp only[go_sem];refine c_ (.inl ?_);rw[aO,<- aC];exact an
 ·rintro e ah rr ⟨rfl,h⟩;simp only[go_sem];exact c_ h.symm
end Go.Proofs.Tryz
namespace Go.Proofs.Tryz
open Go Go.Iv
abbrev Lk:=Nat×Nat×List Nat
abbrev Us:=Nat×Nat
def lkAt (links:List (List Lk))(u:Us):List Nat:=(((links[u.1]?).getD [])[u.2]?).elim [] λk=>k.2.2
def htG (cl:Nat->Prop)(links:List (List Lk)):Nat->Nat->Prop
 | 0,_=>False
 | k+1,i=>cl i\/∃lk∈(links[i]?).getD [],∀p∈lk.2.2,htG cl links k p
def qC {cl:Nat->Prop}{links:List (List Lk)}:∀ {k m i:Nat},htG cl links k i->k<=m->htG cl links m i
 | 0,_,_,h,_=>h.elim
 | k+1,0,_,_,D=>absurd D (by omega)
 | k+1,m+1,i,h,D=>h.imp id λ⟨lk,h1,h2⟩=>⟨lk,h1,λp hp=>qC (h2 p hp) (by omega)⟩
def LstG (cl:Nat->Prop)(links:List (List Lk))(i h:Nat):Prop:=(0<h->htG cl links h i)/\∀k,htG cl links k i->0<h/\h<=k
def decW (ws:List (List Nat))(u:Us):List (List Nat):=ws.modify u.1 λl=>l.modify u.2 λx=>(x+255)%256
def atW (ws:List (List Nat))(u:Us):Option Nat:=((ws[u.1]?).getD [])[u.2]?
def qD (ws:List (List Nat))(u v:Us):atW (decW ws u) v=if u=v then (atW ws v).map λx=>(x+255)%256 else atW ws v:=by
 unfold atW decW;rw[List.getElem?_modify];obtain⟨a,b⟩:=u;obtain⟨c,d⟩:=v;simp only[Prod.mk.injEq];by_cases h1:a=c
 ·subst h1;cases D:ws[a]? with
  | none=>simp
  | some l =>
   simp only[dJ,ez,true_and];by_cases h2:b=d
   ·subst h2;simp
   ·simp[h2]
 ·simp[h1]
abbrev Ss:=List Nat×List (List Nat)×List Nat
def gv (H:Nat)(S:Ss)(u:Us):Ss :=
 if atW (decW S.2.1 u) u=some 0/\S.1[u.1]?=some 0 then (S.1.set u.1 H,decW S.2.1 u,S.2.2++[u.1]) else (S.1,decW S.2.1 u,S.2.2)
def usAt (us:List (List Us))(p:Nat):List Us:=(us[p]?).getD []
inductive Sett (us:List (List Us)):Nat->List Nat->List (List Nat)->List Nat->List Nat->Prop
 | done (H:Nat) (hs:List Nat) (ws:List (List Nat)):Sett us H hs ws [] hs
 | more {H:Nat} {hs r now:List Nat} {ws:List (List Nat)} (hn:now≠[])
   (h:Sett us (H+1) ((now.flatMap (usAt us)).foldl (gv H) (hs,ws,[])).1 ((now.flatMap (usAt us)).foldl (gv H) (hs,ws,[])).2.1 ((now.flatMap (usAt us)).foldl (gv H) (hs,ws,[])).2.2 r):Sett us H hs ws now r
section
variable (H:Nat)(h0:List Nat)(rem:Us->Nat)
structure Part (U1:List Us)(S:Ss):Prop where
 len:S.1.length=h0.length
 ws:∀u x,atW S.2.1 u=some x->x+U1.count u=rem u
 new:∀i,S.1[i]?=some H↔h0[i]?=some 0/\∃k,(i,k)∈U1/\atW S.2.1 (i,k)=some 0
 old:∀i x,x≠H->(S.1[i]?=some x↔h0[i]?=some x/\¬ (x=0/\∃k,(i,k)∈U1/\atW S.2.1 (i,k)=some 0))
 nx:∀i,i∈S.2.2↔S.1[i]?=some H
 nd:S.2.2.Nodup
variable {H h0 rem}
def Part.step {U1:List Us}{S:Ss}{u:Us}(E:Part H h0 rem U1 S)(hH:0<H)(aB:∀i:Nat,h0[i]?≠some H)(ai:∀v,rem v<=2)(hc:(U1++[u]).count u<=rem u)(hu:∃x,atW S.2.1 u=some x):Part H h0 rem (U1++[u]) (gv H S u):=by
 obtain⟨x,hx⟩:=hu;have aw:=E.ws u x hx;have aC:(U1++[u]).count u=U1.count u+1:=by simp
 have ay:0<x:=by omega
 have ax:=ai u;have hd:atW (decW S.2.1 u) u=some (x-1):=by
  rw[qD,cX rfl,hx,eJ];congr 1;omega
 have ae:∀v,u≠v->atW (decW S.2.1 u) v=atW S.2.1 v:=λv h=>by rw[qD,a_ h]
 -- aq al no aj
 have hz:∀i,(∃k,(i,k)∈U1++[u]/\atW (decW S.2.1 u) (i,k)=some 0)↔(∃k,(i,k)∈U1/\atW S.2.1 (i,k)=some 0)\/(i=u.1/\x=1):=by
  intro i;constructor
  ·rintro⟨k,h1,h2⟩;by_cases h3:u=(i,k)
   ·subst h3;rw[hd] at h2;exact .inr ⟨rfl,by simp at h2;omega⟩
   ·rw[ae _ h3] at h2;rcases dQ.1 h1 with h1|h1
    ·exact .inl ⟨k,h1,h2⟩
    ·exact absurd (dR.1 h1).symm h3
  ·rintro (⟨k,h1,h2⟩|⟨rfl,rfl⟩)
   ·refine⟨k,gg _ h1,?_⟩;by_cases h3:u=(i,k)
    ·subst h3;rw[hx] at h2;simp at h2;omega
    ·rw[ae _ h3];exact h2
   ·exact⟨u.2,fV _ (dR.2 rfl),hd⟩
 have ag:∀v y,atW (decW S.2.1 u) v=some y->y+(U1++[u]).count v=rem v:=λv y hy=>by
  by_cases h3:u=v
  ·subst h3;rw[hd] at hy;simp at hy;omega
  ·rw[ae _ h3] at hy;have:=E.ws v y hy;rw[jG,show[u].count v=0 by simp[h3]];exact this
 have af:(0:Nat)≠H:=by omega
 unfold gv;by_cases D:atW (decW S.2.1 u) u=some 0/\S.1[u.1]?=some 0
 ·rw[cX D];have ac:x=1:=by rw[hd] at D;simp at D;omega
  obtain⟨ah,aA⟩:=(E.old u.1 0 af).1 D.2;have ao:u.1<S.1.length:=(lGs D.2).1;have O:∀i,(S.1.set u.1 H)[i]?=if u.1=i then some H else S.1[i]?:=λi=>by
   rw[gy];simp only[ao,dJ]
  refine⟨by simp[E.len],ag,λi=>?_,λi y hy=>?_,λi=>?_,?_⟩
  ·simp only[O,hz];by_cases J:u.1=i
   ·subst J;simp[ah,ac]
   ·rw[a_ J,E.new i];constructor
    ·rintro⟨a,b⟩;exact⟨a,.inl b⟩
    ·rintro⟨a,b|⟨b,_⟩⟩
     ·exact⟨a,b⟩
     ·exact absurd b.symm J
  ·simp only[O,hz];by_cases J:u.1=i
   ·subst J;rw[cX rfl];constructor
    ·intro h;exact absurd (eC h).symm hy
    ·rintro⟨a,b⟩;rw[ah] at a;exact absurd ⟨(eC a).symm,.inr ⟨rfl,ac⟩⟩ b
   ·rw[a_ J,E.old i y hy];constructor
    ·rintro⟨a,b⟩;refine⟨a,λ⟨c,d⟩=>b ⟨c,?_⟩⟩;rcases d with d|⟨d,_⟩
     ·exact d
     ·exact absurd d.symm J
    ·rintro⟨a,b⟩;exact⟨a,λ⟨c,d⟩=>b ⟨c,.inl d⟩⟩
  ·simp only[O];rw[dQ,dR,E.nx i];by_cases J:u.1=i
   ·subst J;simp
   ·rw[a_ J];exact⟨λh=>h.elim id λh=>absurd h.symm J,.inl⟩
  ·refine lE.2 ⟨E.nd,gN.2 ⟨by simp,jg⟩,λa ha b hb=>?_⟩;rintro rfl;rw[dR] at hb;rw[E.nx,hb,D.2] at ha;exact af (eC ha)
 ·rw[a_ D];have G:∀i,h0[i]?=some 0->i=u.1->x=1->∃k,(i,k)∈U1/\atW S.2.1 (i,k)=some 0:=by
   intro i h0 J ac;subst J;refine gM λan=>D ⟨by rw[hd,ac],?_⟩;exact (E.old u.1 0 af).2 ⟨h0,λh=>an h.2⟩
  refine⟨E.len,ag,λi=>?_,λi y hy=>?_,E.nx,E.nd⟩
  ·simp only[hz];rw[E.new i];constructor
   ·rintro⟨a,b⟩;exact⟨a,.inl b⟩
   ·rintro⟨a,b|⟨b,c⟩⟩
    ·exact⟨a,b⟩
    ·exact⟨a,G i a b c⟩
  ·simp only[hz];rw[E.old i y hy];constructor
   ·rintro⟨a,b⟩;refine⟨a,λ⟨c,d⟩=>b ⟨c,?_⟩⟩;rcases d with d|⟨d,e⟩
    ·exact d
    ·exact G i (c▸a) d e
   ·rintro⟨a,b⟩;exact⟨a,λ⟨c,d⟩=>b ⟨c,.inl d⟩⟩
def Part.all (O:0<H)(E:∀i:Nat,h0[i]?≠some H)(D:∀v,rem v<=2):∀(U2 U1:List Us) (S:Ss),Part H h0 rem U1 S->(∀v,(U1++U2).count v<=rem v)->(∀u∈U2,∃x,atW S.2.1 u=some x)->Part H h0 rem (U1++U2) (U2.foldl (gv H) S)
 | [],U1,S,G,_,_=>by simpa using G
 | u::U2,U1,S,G,hc,J=>by
  have h1:=G.step (u:=u) O E D (by have:=hc u;rw[jG,List.count_cons_self] at this;rw[jG];simp;omega) (J u (.head _));have hw:∀v,(atW (gv H S u).2.1 v).isSome=(atW S.2.1 v).isSome:=λv=>by
   have:(gv H S u).2.1=decW S.2.1 u:=by unfold gv;split<;>rfl
   rw[this,qD];split<;>simp
  have:=Part.all O E D U2 (U1++[u]) _ h1 (λ(v:Us)=>by simpa[et] using hc v) λv hv=>by
   obtain⟨x,hx⟩:=J v (.tail _ hv);exact iE.1 ((hw v).trans (by rw[hx];rfl))
  simpa[et] using this
end
section
variable (cl:Nat->Prop)(links:List (List Lk))(us:List (List Us))
open Classical in
noncomputable def wt (k:Nat)(u:Us):Nat:=((lkAt links u).filter λp=>decide (¬ htG cl links k p)).length
structure Rnd (H:Nat)(hs:List Nat)(ws:List (List Nat))(now:List Nat):Prop where
 len:hs.length=links.length
 ww:∀u x,atW ws u=some x->x=wt cl links (H-2) u
 wd:∀u,lkAt links u≠[]->∃x,atW ws u=some x
 ht:∀i x,hs[i]?=some x->(0<x->htG cl links x i/\x<=H-1)/\∀k,k<=H-1->htG cl links k i->0<x/\x<=k
 nw:∀i,i∈now↔hs[i]?=some (H-1)
 nd:now.Nodup
variable {cl links us}
def F6 {u:Us}(E:∀p,(usAt us p).count u=(lkAt links u).count p):∀ {D:List Nat},D.Nodup->(D.flatMap (usAt us)).count u=((lkAt links u).filter λp=>decide (p∈D)).length
 | [],_=>by simp[List.filter_eq_nil_iff.2]
 | a::D,h=>by
  have h1:=gN.1 h;rw[eo,jG,E,F6 E h1.2];generalize lkAt links u=l
  induction l with
  | nil=>rfl
  | cons b l G =>
   simp only[kn,List.count_cons,dF];by_cases J:b=a
   ·subst J;simp[h1.1];simp at G;omega
   ·by_cases O:b∈D
    ·simp[J,O];simp at G;omega
    ·simp[J,O];simp at G;omega
open Classical in
def F7 {α:Type}{p q r:α->Bool}(h1:∀x,p x=true↔q x=true\/r x=true)(h2:∀x,¬ (q x=true/\r x=true)):∀l:List α,(l.filter p).length=(l.filter q).length+(l.filter r).length
 | []=>rfl
 | a::l=>by
  have D:=F7 h1 h2 l;have O:=h1 a;have J:=h2 a;simp only[kn];cases hp:p a<;>cases G:q a<;>cases E:r a<;>simp_all<;>omega
def F8 {i:Nat}{lk:Lk}(h:lk∈(links[i]?).getD []):∃k,lkAt links (i,k)=lk.2.2:=by
 obtain⟨k,D⟩:=lD.1 h;exact⟨k,by simp only[lkAt,D];rfl⟩
def Oq {i k:Nat}(h:lkAt links (i,k)≠[]):∃lk∈(links[i]?).getD [],lk.2.2=lkAt links (i,k):=by
 unfold lkAt at h ⊢;cases D:((links[i]?).getD [])[k]? with
 | none=>simp[D] at h
 | some lk=>exact⟨lk,lMg D,by simp[]⟩
def xJo {k:Nat}{u:Us}:wt cl links k u=0↔∀p∈lkAt links u,htG cl links k p:=by
 unfold wt;rw[lC,List.filter_eq_nil_iff];simp
def Ot (k:Nat){u:Us}(h:(lkAt links u).length<=2):wt cl links k u<=2:=dN (kx _ _) h
open Classical in
def Rnd.next {H:Nat}{hs:List Nat}{ws:List (List Nat)}{D:List Nat}(O:Rnd cl links H hs ws D)(hH:2<=H)(aA:∀p u,(usAt us p).count u=(lkAt links u).count p)(h2:∀u,(lkAt links u).length<=2)(aE:∀u,∀p∈lkAt links u,p<links.length) :
  Rnd cl links (H+1) ((D.flatMap (usAt us)).foldl (gv H) (hs,ws,[])).1 ((D.flatMap (usAt us)).foldl (gv H) (hs,ws,[])).2.1 ((D.flatMap (usAt us)).foldl (gv H) (hs,ws,[])).2.2:=by
 have aF:∀i,i∈D->htG cl links (H-1) i/\¬ htG cl links (H-2) i:=λi hi=>by
  have h:=O.ht i _ ((O.nw i).1 hi);exact⟨(h.1 (by omega)).1,λh'=>by have:=(h.2 (H-2) (by omega) h').2;omega⟩
 have au:∀i,i<links.length->htG cl links (H-1) i->¬ htG cl links (H-2) i->i∈D:=λi hi h1 G=>by
  obtain⟨x,J⟩:=dD (l:=hs) (O.len▸hi);have h:=O.ht i x J;obtain⟨h4,h5⟩:=h.2 (H-1) (dG _) h1;have h6:¬ x<=H-2:=λh6=>G (qC (h.1 h4).1 h6);exact (O.nw i).2 (by rw[J];congr 1;omega)
 have al:∀i:Nat,hs[i]?≠some H:=λi hi=>by
  have:=((O.ht i H hi).1 (by omega)).2;omega
 have E:∀u,wt cl links (H-2) u=wt cl links (H-1) u+(D.flatMap (usAt us)).count u:=λu=>by
  rw[F6 (λp=>aA p u) O.nd];unfold wt;have e:(lkAt links u).filter (λp=>decide (p∈D))=(lkAt links u).filter λp=>decide (htG cl links (H-1) p/\¬ htG cl links (H-2) p):=by
   refine List.filter_congr λp hp=>?_;rw[fH];exact⟨aF p,λh=>au p (aE u p hp) h.1 h.2⟩
  rw[e];refine F7 (λp=>?_) (λp=>?_) _
  ·simp only[dTe];constructor
   ·intro h;by_cases h1:htG cl links (H-1) p
    ·exact .inr ⟨h1,h⟩
    ·exact .inl h1
   ·rintro (h|h)
    ·exact λh'=>h (qC h' (by omega))
    ·exact h.2
  ·simp only[dTe];exact λh=>h.1 h.2.1
 have aG:Part H hs (wt cl links (H-2)) [] (hs,ws,[]):=by
  refine⟨rfl,λu x J=>by rw[O.ww u x J];rfl,λi=>?_,λi x J=>?_,λi=>?_,jg⟩
  ·simp[al i]
  ·simp
  ·simp[al i]
 have ab:∀u∈D.flatMap (usAt us),lkAt links u≠[]:=λu hu h0=>by
  have:=lz.2 hu;have G:=E u;unfold wt at G;rw[h0] at G;simp at G;omega
 have hP:=Part.all (by omega) al (λv=>Ot _ (h2 v)) (D.flatMap (usAt us)) [] _ aG (λv=>by rw[fa];have:=E v;omega) λu hu=>O.wd u (ab u hu);rw[fa] at hP;have aa:∀(l:List Us) (S:Ss) v,(atW (l.foldl (gv H) S).2.1 v).isSome=(atW S.2.1 v).isSome:=λl=>by
  induction l with
  | nil=>intro S v;rfl
  | cons u l ih =>
   intro S v;rw[jH,ih];have:(gv H S u).2.1=decW S.2.1 u:=by unfold gv;split<;>rfl
   rw[this,qD];split<;>simp
 -- aN az aK aJ for ao
 have aj:∀i k,(i,k)∈D.flatMap (usAt us)->atW ((D.flatMap (usAt us)).foldl (gv H) (hs,ws,[])).2.1 (i,k)=some 0->htG cl links H i:=λi k hu hz=>by
  have G:=hP.ws _ _ hz;have h4:=E (i,k);have h5:=xJo.1 (show wt cl links (H-1) (i,k)=0 by omega);obtain⟨lk,af,he⟩:=Oq (ab _ hu);obtain⟨n,hn⟩:∃n,H=n+1:=⟨H-1,by omega⟩
  rw[hn] at h5 ⊢;exact .inr ⟨lk,af,λp hp=>h5 p (he▸hp)⟩
 have am:∀i,htG cl links H i->¬ htG cl links (H-1) i->∃k,(i,k)∈D.flatMap (usAt us)/\atW ((D.flatMap (usAt us)).foldl (gv H) (hs,ws,[])).2.1 (i,k)=some 0:=λi G h4=>by
  obtain⟨n,hn⟩:∃n,H=n+2:=⟨H-2,by omega⟩
  have ax:H-1=n+1:=by omega
  have aH:H-2=n:=by omega
  rw[ax] at h4;rw[hn] at G;rcases G with G|⟨lk,af,G⟩
  ·exact absurd (.inl G) h4
  ·obtain⟨k,hk⟩:=F8 af;have h5:wt cl links (H-1) (i,k)=0:=xJo.2 λp hp=>by rw[hk] at hp;rw[ax];exact G p hp
   have h6:wt cl links (H-2) (i,k)≠0:=λh6=>h4 (.inr ⟨lk,af,λp hp=>by
    have:=xJo.1 h6 p (by rw[hk];exact hp)
    rwa [aH] at this⟩)
   have h7:=E (i,k);have ah:(i,k)∈D.flatMap (usAt us):=lz.1 (by omega);refine⟨k,ah,?_⟩;obtain⟨x,J⟩:=O.wd _ (ab _ ah);have h8:=aa (D.flatMap (usAt us)) (hs,ws,[]) (i,k);rw[J] at h8;obtain⟨y,hy⟩:=iE.1 h8;have:=hP.ws _ _ hy;rw[hy];congr 1;omega
 refine⟨hP.len.trans O.len,λu x J=>?_,λu hu=>?_,λi x J=>?_,λi=>?_,hP.nd⟩
 ·have:=hP.ws u x J;have:=E u;rw[show H+1-2=H-1 by omega];omega
 ·obtain⟨x,J⟩:=O.wd u hu;have h8:=aa (D.flatMap (usAt us)) (hs,ws,[]) u;rw[J] at h8;exact iE.1 h8
 ·rw[show H+1-1=H by omega];by_cases aq:x=H
  ·subst aq;obtain⟨G,k,h4,h5⟩:=(hP.new i).1 J;refine⟨λ_=>⟨aj i k h4 h5,dG _⟩,λm hm hh=>⟨by omega,?_⟩⟩;refine gM λaU=>?_;have:=((O.ht i 0 G).2 m (by omega) hh).1;omega
  ·obtain⟨G,h4⟩:=(hP.old i x aq).1 J;obtain⟨h5,h6⟩:=O.ht i x G;refine⟨λh0=>⟨(h5 h0).1,by have:=(h5 h0).2;omega⟩,λm hm hh=>?_⟩;by_cases h7:htG cl links (H-1) i
   ·have h8:=h6 (H-1) (dG _) h7;by_cases aC:m<=H-1
    ·exact h6 m aC hh
    ·exact⟨h8.1,by omega⟩
   ·have aD:m=H:=by
     refine gM λaS=>h7 (qC hh (by omega))
    subst aD;have h9:x=0:=by
     rcases Nat.eq_zero_or_pos x with h|h
     ·exact h
     ·exact absurd (qC (h5 h).1 (h5 h).2) h7
    exact absurd ⟨h9,am i hh h7⟩ h4
 ·rw[show H+1-1=H by omega];exact hP.nx i
def Sett.right {H:Nat}{hs r G:List Nat}{ws:List (List Nat)}(h:Sett us H hs ws G r)(E:Rnd cl links H hs ws G)(hH:2<=H)(ag:∀p u,(usAt us p).count u=(lkAt links u).count p)(h2:∀u,(lkAt links u).length<=2)(aa:∀u,∀p∈lkAt links u,p<links.length) :
  r.length=links.length/\∀i x,r[i]?=some x->LstG cl links i x:=by
 induction h with
 | more hn _ ih=>exact ih (E.next hH ag h2 aa) (by omega)
 | done H hs ws =>
  refine⟨E.len,λi x J=>?_⟩;have D:∀i,i<links.length->htG cl links (H-1) i->htG cl links (H-2) i:=λi hi h1=>by
   obtain⟨x,J⟩:=dD (l:=hs) (E.len▸hi);obtain⟨h3,h4⟩:=E.ht i x J;have h5:=h4 (H-1) (dG _) h1;have h6:x≠H-1:=λh6=>by
    have:=(E.nw i).2 (by rw[J,h6]);cases this
   exact qC (h3 h5.1).1 (by omega)
  have ac:∀k i,i<links.length->htG cl links k i->htG cl links (H-2) i:=λk=>by
   induction k with
   | zero=>intro i _ h;exact h.elim
   | succ k ih =>
    intro i hi h;refine D i hi ?_;obtain⟨n,hn⟩:∃n,H=n+2:=⟨H-2,by omega⟩
    rw[hn,show n+2-2=n by omega] at ih;rw[hn];rcases h with h|⟨lk,O,h⟩
    ·exact .inl h
    ·refine .inr ⟨lk,O,λp hp=>ih p ?_ (h p hp)⟩;obtain⟨q,hq⟩:=F8 O;exact aa (i,q) p (by rw[hq];exact hp)
  have hi:i<links.length:=by rw[<- E.len];exact (lGs J).1
  obtain⟨h3,h4⟩:=E.ht i x J;refine⟨λh0=>(h3 h0).1,λk hk=>?_⟩;by_cases ai:k<=H-1
  ·exact h4 k ai hk
  ·have h5:=h4 (H-2) (by omega) (ac k i hi hk);exact⟨h5.1,by omega⟩
end
end Go.Proofs.Tryz
namespace Go.Proofs.Tryz
open Go Go.Iv
set_option maxRecDepth 4000
variable (gl:Nat->Option IV)
def vt:intK prog 21=some .i32:=by kernel_rfl
def IsLk (k:Lk)(x:IV):Prop:=∃p q:Nat,x=.agg [.raw (.int .u8 (k.1:Int)),.raw (.int .u8 (k.2.2.length:Int)),.raw (.int .i32 (k.2.1:Int)),.raw (.int .i32 (p:Int)),.raw (.int .i32 (q:Int))]/\k.2.2=[p,q].take k.2.2.length
def vu (l:List Lk)(x:IV):Prop:=∃t ys,x=.sl t ys/\okEs t 5/\AllR IsLk l ys
def numE (lines:List Ln):List (Value×IV):=lines.zipIdx.map λp=>(.string (keyB p.1),.raw (.int .i32 (p.2:Int)))
def ns (ln:Ln):Prop:=((∀i∈ln.1,i<16777216)/\∀i∈ln.2,i<16777216)/\ln.1.length<256
structure RS (ca m:Nat)(W:List Fm)(tw:Tag)(xw:List IV)(rb mN:Nat)(S0 st:ISt)(lines:List Ln)(links:List (List Lk)):Prop where
 ex:∃tl xl tk xk,st rb=some (.box [spI ca tw xw m,.sl tl xl,.raw (.map (some mN)),.sl tk xk,.sl ⟨true,.nil,0⟩ []])/\AllR IsLn lines xl/\own st tl lines.length 2 S0/\AllR vu links xk/\own st tk links.length 1 S0
 num:st mN=some (.map .str (numE lines))
 sp:SpSt ca m W st
 base:subSt S0 st
 off:S0 rb=none/\S0 mN=none/\S0 m=none
 ok:∀ln∈lines,ns ln
 nd:lines.Nodup
def Ou (rb mN m:Nat)(st st':ISt):Prop:=∀b o,st b=some o->b≠rb->b≠mN->b≠m->(∀n,o≠.front n 2)->st' b=some o
def Ov (lines:List Ln)(ln:Ln):numE (lines++[ln])=numE lines++[(.string (keyB ln),.raw (.int .i32 (lines.length:Int)))]:=by
 simp[numE,List.zipIdx_append]
def F9 (lines:List Ln):(numE lines).map (·.1)=lines.map λln=>Value.string (keyB ln):=by
 unfold numE;rw[gZ]
 conv=>rhs;rw[<- List.zipIdx_map_fst 0 lines,gZ]
 rfl
def Ow {lines:List Ln}{n:Nat}{ln:Ln}(h:lines[n]?=some ln):(numE lines)[n]?=some (.string (keyB ln),.raw (.int .i32 (n:Int))):=by
 unfold numE;rw[eB,List.getElem?_zipIdx,h];simp
def F_ {a b:Ln}(E:ns a)(D:ns b)(h:keyB a=keyB b):a=b:=Ol E.1 D.1 ⟨E.2,D.2⟩ h
def Ox {lines:List Ln}(h:∀ln∈lines,ns ln)(E:lines.Nodup):((numE lines).map (·.1)).Nodup:=by
 rw[F9];refine kD.2 (List.Pairwise.imp_of_mem (λ{a b} O J D G=>D (F_ (h a O) (h b J) ?_)) E);exact Value.string.inj G
def Ga (lines:List Ln):∀p∈numE lines,fK .str p.1=true:=λp hp=>by
 obtain⟨q,_,rfl⟩:=dH.1 hp;rfl
def Oy {lines:List Ln}(h:∀ln∈lines,ns ln)(D:lines.Nodup){n:Nat}{ln:Ln}(hl:lines[n]?=some ln):f_ (.string (keyB ln)) (numE lines)=some (.raw (.int .i32 (n:Int))):=by
 obtain⟨x,h1,h2,_⟩:=wz (kk:=.str) (key:=.string (keyB ln)) rfl .junk (numE lines) n (Ga lines) (Ox h D) (by rw[F9,eB,hl];rfl);rw[Ow hl] at h1;rw[h2];exact dZ some (Prod.mk.inj (eC h1)).2.symm
def Oz {lines:List Ln}{ln:Ln}(h:∀ln∈lines,ns ln)(J:ns ln)(E:ln ∉ lines):f_ (.string (keyB ln)) (numE lines)=none/\updI (.string (keyB ln)) (.raw (.int .i32 (lines.length:Int))) (numE lines)=numE (lines++[ln]):=by
 rw[Ov];refine wy (kk:=.str) rfl _ _ (Ga lines) λp hp O=>E ?_;obtain⟨q,D,rfl⟩:=dH.1 hp;have G:q.1∈lines:=by
  have:=gh (f:=Prod.fst) D
  rwa [List.zipIdx_map_fst] at this
 rwa [<- F_ (h _ G) J (Value.string.inj O)]
def Gb (ca m:Nat)(W:List Fm)(tw:Tag)(xw:List IV)(rb mN:Nat)(S0 st:ISt)(lines:List Ln)(links:List (List Lk))(G:RS ca m W tw xw rb mN S0 st lines links)(ln:Ln)(hk:ns ln)(aK:ln.2.length<256)(x:IV)(hx:IsLn ln x)(hll:lines.length<=20000) :
  ICall prog gl 90 [.raw (.pointer (some ⟨rb,0,none⟩)),x] st (λr st' =>
   (∃n:Nat,lines[n]?=some ln/\r=.tup [.raw (.int .i32 (n:Int)),(0:Int)]/\st'=st) \/
   (ln ∉ lines/\((20000<=lines.length/\r=.tup [.raw (.int .i32 0),(4:Int)]/\st'=st) \/
    (lines.length<20000/\r=.tup [.raw (.int .i32 (lines.length:Int)),(0:Int)]/\RS ca m W tw xw rb mN S0 st' (lines++[ln]) links/\Ou rb mN m st st')))):=by
 have ao:=λst=>Oj gl ln x hx ⟨by have:=hk.2;omega,by omega⟩ st;obtain⟨t1,t2,rfl,e1,e2⟩:=id hx;obtain⟨tl,xl,tk,xk,ac,aj,az,ax,aA⟩:=G.ex;refine ICall.intro (c:=cf prog gl [39,2000042] []) func90 rfl (by show _<=52;simp) (by kernel_rfl) ?_;simp only[go_sem,zE,zA,zL];refine (ao _).q ?_;by_cases hm:ln∈lines
 ·obtain⟨n,hn⟩:=lD.1 hm;have hf:=Oy G.ok G.nd hn;simp only[go_sem,zE,reduceCtorEq,ac,G.num,hf,vS];exact c_ (.inl ⟨n,hn,rfl,rfl⟩)
 ·obtain⟨hf,hu⟩:=Oz G.ok hk hm;have aD:=λn:Int=>me prog 3 21 mh vt .i64 n;have aa:=aj.1;by_cases aC:20000<=lines.length
  ·simp only[go_sem,zE,reduceCtorEq,ac,G.num,hf,sZ,aa,dEt (show (20000:Int)<=lines.length by omega)];intros;exact c_ (.inr ⟨hm,.inl ⟨aC,rfl,rfl⟩⟩)
  ·have hw:IntKind.i32.wrap (lines.length:Int)=(lines.length:Int):=IntWalk.i32_in _ (by omega);simp only[go_sem,zE,zA,zM,zL,reduceCtorEq,ac,G.num,hf,sZ,fits,aa,dEf (show ¬ (20000:Int)<=lines.length by omega),aD,hw,eh];intros;refine ij az aa G.base rfl (by simp[fits,IV.one]) (by simp only;omega) (by omega) λai ah ak aE E=>?_;have O:=E rb _ ac λn h=>by cases h
   have D:=E mN _ G.num λn h=>by cases h
   obtain⟨es,av,au⟩:=G.sp;have ab:=E m _ av λn h=>by cases h
   have af:mN≠rb:=by rintro rfl;rw[O] at D;cases D
   have am:m≠rb:=by rintro rfl;rw[O] at ab;cases ab
   have al:m≠mN:=by rintro rfl;rw[D] at ab;cases ab
   simp only[go_sem,zE,zA,zL,reduceCtorEq,O,dz af,D,hu];have J:∀b o,ah b=some o->b≠rb->b≠mN->((ah.put rb (some (.box [spI ca tw xw m,.sl ai (xl++[.agg [.sl t1 (dO ln.1),.sl t2 (dO ln.2)]]),.raw (.map (some mN)),.sl tk xk,()]))).put mN (some (.map .str (numE (lines++[ln]))))) b=some o:=λb o h h1 h2=>by
    rw[dz h2,dz h1];exact h
   have ae:∀g n k,ah g=some (.front n k)->g≠rb/\g≠mN:=λg n k h=>⟨λh1=>(by rw[h1,O] at h;cases h),λh1=>(by rw[h1,D] at h;cases h)⟩
   refine c_ (.inr ⟨hm,.inr ⟨by omega,rfl,⟨⟨ai,_,tk,xk,?_,aj.snoc hx,?_,ax,?_⟩,b_ ..,⟨es,J m _ ab am al,au⟩,eG (eG aE G.off.1) G.off.2.1,G.off,?_,?_⟩,λb o h h1 h2 h3 h4=>J b o (E b o h h4) h1 h2⟩⟩)
   ·rw[dz λh=>af h.symm,b_]
   ·rw[lLa];exact ak.mono λg hg _=>J g _ hg (ae g _ _ hg).1 (ae g _ _ hg).2
   ·exact aA.mono λg hg _=>by
     have h2:=E g _ hg λn h=>by cases h
     exact J g _ h2 (ae g _ _ h2).1 (ae g _ _ h2).2
   ·intro a ha;rcases dQ.1 ha with ha|ha
    ·exact G.ok a ha
    ·rw[dR.1 ha];exact hk
   ·refine lE.2 ⟨G.nd,gN.2 ⟨by simp,jg⟩,λa ha b hb aF=>?_⟩;rw[dR] at hb;rw[aF,hb] at ha;exact hm ha
def _root_.Go.Iv.IterU.of {P:Program}{gl:Nat->Option IV}{g:FuncId}{first D:List IV}{lk:Nat->List IV->ISt->Prop}{len:Nat}{I J:Nat->ISt->Prop}{up:Nat->List (Value×IV)->List (Value×IV)->Prop}(h:IterU P gl g first D lk len I up)(E:∀k st,J k st->I k st):IterU P gl g first D lk len J up :=
 λy I' S' st hf hI O G h0=>h y I' S' st hf (λk stu hk=>by obtain⟨s,h1,h2⟩:=hI k stu hk;exact⟨s,h1,E k s h2⟩) O G h0
def LkOf (lines:List Ln)(v:Mv)(k:Lk):Prop:=k.1=v.1/\k.2.1=v.2.1/\k.2.2.length=v.2.2.length/\∀(q n:Nat),k.2.2[q]?=some n->∃p,lines[n]?=some p/\v.2.2[q]?=some p
def LkOf.app {lines more:List Ln}{v:Mv}{k:Lk}(h:LkOf lines v k):LkOf (lines++more) v k :=
 ⟨h.1,h.2.1,h.2.2.1,λq n D=>by
  obtain⟨p,h1,h2⟩:=h.2.2.2 q n D;exact⟨p,by rw[fg (lGs h1).1];exact h1,h2⟩⟩
def LksOf (lines:List Ln)(vs:List Mv)(l:List Lk):Prop:=l.length=vs.length/\∀(i:Nat) (v:Mv),vs[i]?=some v->∃k,l[i]?=some k/\LkOf lines v k
def LksOf.app {lines more:List Ln}{vs:List Mv}{l:List Lk}(h:LksOf lines vs l):LksOf (lines++more) vs l:=⟨h.1,λi v hv=>by
 obtain⟨k,h1,h2⟩:=h.2 i v hv;exact⟨k,h1,h2.app⟩⟩
def LksOf.snoc {lines:List Ln}{vs:List Mv}{l:List Lk}{v:Mv}{k:Lk}(h:LksOf lines vs l)(J:LkOf lines v k):LksOf lines (vs++[v]) (l++[k]):=by
 refine⟨by simp[h.1],λi b D=>?_⟩;rcases fN i vs.length with G|G
 ·rw[fg G] at D;rw[fg (by rw[h.1];exact G)];exact h.2 i b D
 ·rw[fD G] at D;rw[fD (by rw[h.1];exact G),h.1];cases E:i-vs.length with
  | zero=>rw[E] at D;cases D;exact⟨k,rfl,J⟩
  | succ n=>rw[E] at D;simp at D
def kh (W:List Fm)(j:Bool)(ln p:Ln):Prop:=∃v:Mv,some v∈mvsN W j ln/\p∈v.2.2
def OA {j:Bool}{ln:Ln}{i:Nat}{t:Tn}{v:Mv}(h:mvN j ln i t=some v):v=(t.1,i,t.2.map (kd j ln))/\t.2.any (tooN j ln)=false:=by
 unfold mvN at h;cases D:t.2.any (tooN j ln)
 ·rw[D] at h;simp at h;exact⟨h.symm,rfl⟩
 ·rw[D] at h;simp at h
def vv {ca:Nat}{W:List Fm}(hS:SpOk ca W){ln:Ln}(ac:LnOk W ln){v:Mv}(h:some v∈mvsN W (calJ ca) ln):v.2.1<W.length/\v.1<256/\v.2.2.length<=2/\∀p∈v.2.2,LnOk W p/\p.1.length<=64/\p.2.length<=64:=by
 obtain⟨⟨i,r⟩,hp,h⟩:=fh.1 h;unfold iY at h;cases hf:W[i]? with
 | none=>simp only[hf] at h;cases h
 | some f =>
  simp only[hf] at h;obtain⟨t,ht,h⟩:=dH.1 h;obtain⟨t0,J,rfl⟩:=dH.1 ht;obtain⟨rfl,G⟩:=OA h;have O:=lMg hf;refine⟨(lGs hf).1,?_,by rw[dP,dP];exact zz J,λp hp=>?_⟩
  ·have:t0.1∈ju (calJ ca) f.op r:=by rw[<- vj (hS.pf O) r];exact gh J
   unfold ju at this;have key:∀l:List Nat,t0.1∈l->(∀x∈l,x<256)->t0.1<256:=λl h1 h2=>h2 _ h1;refine key _ this ?_
   repeat' split
   all_goals simp
  ·obtain⟨e,he,rfl⟩:=dH.1 hp;obtain⟨D,ab,rfl⟩:=dH.1 he;refine⟨Fq ac (hS.sub O J ab),?_⟩;have E:tooN (calJ ca) ln (exW W D)=false:=by
    cases hq:tooN (calJ ca) ln (exW W D) with
    | false=>rfl
    | true=>rw[gk.2 ⟨_,he,hq⟩] at G;cases G
   unfold tooN at E;rw[Bool.or_eq_false_iff,decide_eq_false_iff_not,decide_eq_false_iff_not] at E;have h1:=sn (ln.1++(exW W D).1.1);have h2:=sn (rgtN (calJ ca) ln (exW W D)++(exW W D).1.2);rw[lLa] at h1 h2;have h3:(exW W D).1.1.length<=(exW W D).2.1:=qB W D.1;have h4:(exW W D).1.2.length<=(exW W D).2.2:=qB W D.2;unfold kd;simp only;omega
def Gc {W:List Fm}(E:W.length<=1000000){ln:Ln}(h:LnOk W ln)(hs:ln.1.length<=64/\ln.2.length<=64):ns ln/\ln.2.length<256:=by
 exact⟨⟨⟨λi D=>by have:=h.1.2 i D;omega,λi D=>by have:=h.2.2 i D;omega⟩,by omega⟩,by omega⟩
def RS.upm {ca m:Nat}{W:List Fm}{tw:Tag}{xw:List IV}{rb mN:Nat}{S0 st:ISt}{lines:List Ln}{links:List (List Lk)}(h:RS ca m W tw xw rb mN S0 st lines links){kk:KeyK}{es E:List (Value×IV)}(hm:st m=some (.map kk es))(hu:CacheOk ca W es->CacheOk ca W E) :
  RS ca m W tw xw rb mN S0 (st.put m (some (.map kk E))) lines links:=by
 obtain⟨tl,xl,tk,xk,J,aa,ac,ab,ae⟩:=h.ex;obtain⟨ai,D,af⟩:=h.sp;rw[D] at hm;cases hm;have h1:rb≠m:=by rintro rfl;rw[J] at D;cases D
 have h2:mN≠m:=by rintro rfl;rw[h.num] at D;cases D
 have O:∀g n k,st g=some (.front n k)->(st.put m (some (.map .pl E))) g=some (.front n k):=λg n k G=>by
  rw[dz λe=>by rw[e,D] at G;cases G];exact G
 exact⟨⟨tl,xl,tk,xk,by rw[dz h1];exact J,aa,ac.mono λg G _=>O g _ _ G,ab,ae.mono λg G _=>O g _ _ G⟩,by rw[dz h2];exact h.num,⟨E,b_ ..,hu af⟩,eG h.base h.off.2.2,h.off,h.ok,h.nd⟩
def RS.elsewhere {ca m:Nat}{W:List Fm}{tw:Tag}{xw:List IV}{rb mN:Nat}{S0 st st':ISt}{lines:List Ln}{links:List (List Lk)}(h:RS ca m W tw xw rb mN S0 st lines links)(hb:subSt S0 st')
  (D:∀b o,st b=some o->b=rb\/b=mN\/b=m\/(∃n,o=.front n 2)\/(∃n,o=.front n 1)->st' b=some o):RS ca m W tw xw rb mN S0 st' lines links:=by
 obtain⟨tl,xl,tk,xk,J,E,O,G,aa⟩:=h.ex;obtain⟨af,ac,ae⟩:=h.sp;exact⟨⟨tl,xl,tk,xk,D _ _ J (.inl rfl),E,O.mono λg hg _=>D g _ hg (.inr (.inr (.inr (.inl ⟨_,rfl⟩)))),G,aa.mono λg hg _=>D g _ hg (.inr (.inr (.inr (.inr ⟨_,rfl⟩))))⟩,D _ _ h.num (.inr (.inl rfl)),⟨af,D _ _ ac (.inr (.inr (.inl rfl))),ae⟩,hb,h.off,h.ok,h.nd⟩
def zK {ca:Nat}{W:List Fm}(hS:SpOk ca W)(G:W.length<=200000){ln:Ln}(D:LnOk W ln):(mvsN W (calJ ca) ln).length<=16000000:=by
 have h1:=nZ D.1.1 D.1.2;have h2:=nZ D.2.1 D.2.2;have O:∀p,(iY W (calJ ca) ln p).length<=2:=λp=>by
  unfold iY;cases E:W[p.1]? with
  | none=>simp
  | some f =>
   simp only[dP,gi];rw[<- dP (f:=(·.1)),vj (hS.pf (lMg E))];unfold ju
   repeat' split
   all_goals simp
 have J:∀l:List (Nat×Bool),(l.flatMap (iY W (calJ ca) ln)).length<=2*l.length:=λl=>by
  induction l with
  | nil=>simp
  | cons a l ih=>rw[eo,lLa,dX];have:=O a;omega
 have:=J (plcs ln);rw[sv] at this;unfold mvsN;omega
def nt:tyI prog 21=some (false,1):=by kernel_rfl
def addP:List Ln->List Ln->Option (List Ln)
 | [],ls=>some ls
 | p::ps,ls=>if p∈ls then addP ps ls else if ls.length<20000 then addP ps (ls++[p]) else none
def expF:List (Option Mv)->List Ln->List Ln×Nat
 | [],ls=>(ls,0)
 | none::_,ls=>(ls,5)
 | some v::l,ls=>match addP v.2.2 ls with
  | none=>(ls,4)
  | some D=>expF l D
def Gd:∀ {l:List (Option Mv)}{k:Nat}{o:Option Mv},(cutO l)[k]?=some o->l[k]?=some o/\l.take k=(cutO l).take k
 | [],_,_,h=>by simp[cutO] at h
 | none::l,k,o,h=>by
  cases k with
  | zero=>exact⟨h,rfl⟩
  | succ k=>simp[cutO] at h
 | some v::l,k,o,h=>by
  cases k with
  | zero=>exact⟨h,rfl⟩
  | succ k =>
   simp only[cutO,gY] at h;obtain⟨h1,h2⟩:=Gd h;exact⟨h1,by simp only[cutO,kF,h2]⟩
def Ge {l:List (Option Mv)}{k:Nat}{o:Option Mv}{vs:List Mv}{ls D:List Ln}(h:(cutO l)[k]?=some o)(h1:(cutO l).take k=vs.map some)(h2:∀E,expF (vs.map some++E) ls=expF E D):expF l ls=expF (o::l.drop (k+1)) D:=by
 obtain⟨a,b⟩:=Gd h;have hl:vs.map some++o::l.drop (k+1)=l:=by
  have G:=lGs a;rw[<- h1,<- b,<- G.2,<- fC G.1,eA]
 rw[<- h2,hl]
def ExpR (ca m:Nat)(W:List Fm)(tw:Tag)(xw:List IV)(rb mN:Nat)(S0:ISt)(lines:List Ln)(links:List (List Lk))(ln:Ln)(r:IV)(st':ISt):Prop :=
 (∃t ys L vs more,r=.tup [.sl t ys,(0:Int)]/\okEs t 5/\AllR IsLk L ys/\mvsN W (calJ ca) ln=vs.map some/\LksOf (lines++more) vs L/\(∀p∈more,kh W (calJ ca) ln p)/\(lines++more).length<=20000/\RS ca m W tw xw rb mN S0 st' (lines++more) links/\expF (mvsN W (calJ ca) ln) lines=(lines++more,0)) \/
 (r=.tup [(),(5:Int)]/\none∈mvsN W (calJ ca) ln/\subSt S0 st'/\(expF (mvsN W (calJ ca) ln) lines).2=5) \/
 (r=.tup [(),(4:Int)]/\subSt S0 st'/\(expF (mvsN W (calJ ca) ln) lines).2=4/\∃more p,(∀q∈more,kh W (calJ ca) ln q)/\kh W (calJ ca) ln p/\p ∉ lines++more/\(lines++more).Nodup/\20000<=(lines++more).length)
def OB (G:Gl gl)(T:Gt gl)(ca m:Nat)(W:List Fm)(hS:SpOk ca W)(bj:W.length<=200000)(tw:Tag)(xw:List IV)(bJ:okEs tw 4)(bG:IsFms W xw)(rb mN:Nat)(S0 st:ISt)(lines:List Ln)(links:List (List Lk))(hR:RS ca m W tw xw rb mN S0 st lines links)(hll:lines.length<=20000)
  (i:Nat) (ln:Ln) (hi:lines[i]?=some ln) (aH:LnOk W ln) :
  ICall prog gl 93 [.raw (.pointer (some ⟨rb,0,none⟩)),(i:Int)] st (ExpR ca m W tw xw rb mN S0 lines links ln):=by
 obtain⟨tl,xl,tk,xk,bb,bH,bM,cm,cr⟩:=hR.ex;obtain⟨x,bI,hx⟩:=bH.2 i ln hi;have cu:i<lines.length:=(lGs hi).1;have bN:=λst=>FZ gl m (spI ca tw xw m) x _ rfl ln hx st;have bP:=F5 gl G T ca m W hS bj tw xw bJ bG ln aH x hx;obtain⟨t1,t2,rfl,e1,e2⟩:=id hx;refine ICall.intro (c:=cf prog gl [4,5,6,17,21] [] [2]) func93 rfl (by show _<=68;simp) (by kernel_rfl) ?_;simp only[go_sem,zE,zB,zA,fits];refine λb4=>d_ λh4=>λb5=>d_ λh5=>λb6=>d_ λh6=>?_;have O:b5≠b4:=by rintro rfl;rw[b_] at h5;cases h5
 have aE:b6≠b4:=by rintro rfl;rw[dz (λh=>O h.symm),b_] at h6;cases h6
 have aD:b6≠b5:=by rintro rfl;rw[b_] at h6;cases h6
 have aK:st b5=none:=by rw[dz O] at h5;exact h5
 have aJ:st b6=none:=by rw[dz aD,dz aE] at h6;exact h6
 obtain⟨an,aa⟩:∃s,s=((st.put b4 (some (.box [()]))).put b5 (some (.box [(0:Int)]))).put b6 (some (.box [()])):=⟨_,rfl⟩
 have hA:∀b o,st b=some o->an b=some o:=λb o h=>by
  rw[aa,dz (λe=>by rw[e,aJ] at h;cases h),dz (λe=>by rw[e,aK] at h;cases h),dz (λe=>by rw[e,h4] at h;cases h)];exact h
 have bZ:an b4=some (.box [()]):=by rw[aa,dz (λh=>aE h.symm),dz (λh=>O h.symm),b_]
 have bY:an b5=some (.box [(0:Int)]):=by rw[aa,dz (λh=>aD h.symm),b_]
 have bX:an b6=some (.box [()]):=by rw[aa,b_]
 have bV:=hR.elsewhere (st':=an) (λb o h=>hA b o (hR.base b o h)) λb o h _=>hA b o h;rw[<- aa];have aC:∀ {b:Nat},st b=none->b≠rb/\b≠mN/\b≠m:=λ{b} h=>by
  obtain⟨es,he,_⟩:=hR.sp;exact⟨λe=>(by rw[e,bb] at h;cases h),λe=>(by rw[e,hR.num] at h;cases h),λe=>(by rw[e,he] at h;cases h)⟩
 have k4:=aC h4;have k5:=aC aK;have k6:=aC aJ;have z4:=j9 hR.base h4;have z5:=j9 hR.base aK;have z6:=j9 hR.base aJ;simp only[go_sem,zA,hA _ _ bb,dB bM.es,iNn,bI];refine (bN _).q ?_;simp only[go_sem,reduceCtorEq];have bi:∀ {l:List (Option Mv)} {o:Option Mv},o∈cutO l->o∈l:=λ{l}=>by
  induction l with
  | nil=>intro o h;exact h
  | cons a l ih =>
   intro o h;cases a with
   | none=>simp only[cutO,dR] at h;rw[h];exact .head _
   | some a =>
    simp only[cutO] at h;rcases dF.1 h with h|h
    ·rw[h];exact .head _
    ·exact .tail _ (ih h)
 let EI:Nat->ISt->Prop:=λk s=>∃more vs L t6 ys,(cutO (mvsN W (calJ ca) ln)).take k=vs.map some/\RS ca m W tw xw rb mN S0 s (lines++more) links/\(∀p∈more,kh W (calJ ca) ln p)/\(lines++more).length<=20000/\LksOf (lines++more) vs L/\AllR IsLk L ys /\
  s b4=some (.box [()])/\s b5=some (.box [(0:Int)])/\s b6=some (.box [.sl t6 ys])/\own s t6 L.length 5 S0/\∀l,expF (vs.map some++l) lines=expF l (lines++more)
 let ES:Exit->ISt->Prop:=λe s=>e=.ret/\s b4=some (.box [()])/\subSt S0 s/\((s b5=some (.box [(5:Int)])/\none∈mvsN W (calJ ca) ln/\(expF (mvsN W (calJ ca) ln) lines).2=5) \/
  (s b5=some (.box [(4:Int)])/\(expF (mvsN W (calJ ca) ln) lines).2=4/\∃more p,(∀q∈more,kh W (calJ ca) ln q)/\kh W (calJ ca) ln p/\p ∉ lines++more/\(lines++more).Nodup/\20000<=(lines++more).length))
 refine RangeU.intro (mvX W (calJ ca) ln) (cutO (mvsN W (calJ ca) ln)).length EI ES (SpUp ca m W) ?_ (by simp only[go_sem]) ?_ ?_ ?_ (bP.of λk s ⟨_,_,_,_,_,_,h,_⟩=>h.sp) ?_ ?_
 ·rintro k s m' kk es b1 ⟨more,vs,L,t6,ys,q1,q2,q3,q4,q5,q6,q7,q8,q9,E,ac⟩ hm ⟨rfl,hu⟩;refine⟨more,vs,L,t6,ys,q1,q2.upm hm hu,q3,q4,q5,q6,by rw[dz k4.2.2];exact q7,by rw[dz k5.2.2];exact q8,by rw[dz k6.2.2];exact q9,E.mono λg hg _=>?_,ac⟩;rw[dz λe=>by rw[e,hm] at hg;cases hg];exact hg
 ·rintro k a ⟨o,_,ho⟩;cases o with
  | none=>rw[show a=_ from ho];rfl
  | some v=>obtain⟨x,rfl,_⟩:=ho;rfl
 ·refine⟨[],[],[],_,_,rfl,by rw[ek];exact bV,λ_ h=>(by cases h),by rw[ek];exact hll,⟨rfl,λi v h=>(by simp at h)⟩,AllR.nil,bZ,bY,bX,own.nil _ _ _ _ _,λl=>by rw[ek];rfl⟩
 ·rintro k a s ⟨o,J,ho⟩ ⟨more,vs,L,t6,ys,q1,q2,q3,q4,q5,q6,q7,q8,q9,E,ac⟩;cases o with
  | none =>
   obtain rfl:a=_:=ho;simp only[go_sem,zE,zA,zL,show decide ((5:Int)=0)=false from rfl,q7,dz O,q8];exact⟨rfl,by rw[dz (λh=>O h.symm),b_],eG (eG q2.base z4) z5,.inl ⟨b_ ..,bi (lMg J),by rw[Ge J q1 ac];rfl⟩⟩
  | some v =>
   obtain⟨xv,rfl,tv,zv,rfl,bK,a7⟩:=ho;have ba:=bi (lMg J);obtain⟨g1,g2,g3,g4⟩:=vv hS aH ba;have bS:=λn:Int=>me prog 3 21 mh vt .i64 n;have hw:IntKind.i32.wrap (v.2.1:Int)=(v.2.1:Int):=IntWalk.i32_in _ (by omega);simp only[go_sem,zE,zA,zL,fits,dC,bS,hw];intro _;rw[a7.1];refine dt v.2.2.length (λq fr st' ds=>(∃(D:List Ln) (p0 p1:Nat) (av:List Nat),fr 9=.box [.raw (.int .u8 (v.1:Int)),.raw (.int .u8 (q:Int)),.raw (.int .i32 (v.2.1:Int)),.raw (.int .i32 (p0:Int)),.raw (.int .i32 (p1:Int))]/\av=[p0,p1].take q /\
     RS ca m W tw xw rb mN S0 st' (lines++(more++D)) links/\(∀p∈more++D,kh W (calJ ca) ln p)/\(lines++(more++D)).length<=20000/\(∀(r n:Nat),av[r]?=some n->∃p,(lines++(more++D))[n]?=some p/\v.2.2[r]?=some p)/\∀ps,addP (v.2.2.take q++ps) (lines++more)=addP ps (lines++(more++D))) /\
    st' b4=some (.box [()])/\st' b5=some (.box [(0:Int)])/\st' b6=some (.box [.sl t6 ys])/\own st' t6 L.length 5 S0 /\
    fr 2=.iv (.cptr (.raw (.pointer (some ⟨rb,0,none⟩))))/\fr 4=.iv (.raw (.pointer (some ⟨b4,0,none⟩)))/\fr 5=.iv (.raw (.pointer (some ⟨b5,0,none⟩)))/\fr 6=.iv (.raw (.pointer (some ⟨b6,0,none⟩))) /\
    fr 38=.iv (.sl tv zv)/\fr 39=.iv (.raw (.int .i64 v.2.2.length))/\fr 40=(q:Int)/\ds=[]) ?_ ?_ ?_
   ·simp only[go_sem,zE];exact⟨⟨[],0,0,[],rfl,rfl,by rw[ek];exact q2,by rw[ek];exact q3,by rw[ek];exact q4,λr n h=>by simp at h,λps=>by rw[ek]⟩,q7,q8,q9,E,rfl⟩
   ·rintro q fr s1 _ hq ⟨⟨D,p0,p1,av,f9,rfl,r2,r3,r4,r5,r6⟩,q7,q8,q9,E,f2,f4,f5,f6,f38,f39,f40,rfl⟩;obtain⟨p,hp⟩:=dD hq;have bd:=lMg hp;obtain⟨g5,g6⟩:=g4 p bd;have bl:kh W (calJ ca) ln p:=⟨v,ba,bd⟩
    obtain⟨zq,bD,a8⟩:=a7.2 q p hp;obtain⟨bC,bB⟩:=Gc (by omega) g5 g6;have bR:=Gb gl ca m W tw xw rb mN S0 s1 _ links r2 p bC bB zq a8 r4;obtain⟨ta,tb,rfl,ea,eb⟩:=a8;have r7:∀ps,addP (v.2.2.take (q+1)++ps) (lines++more)=addP (p::ps) (lines++(more++D)):=λps=>by rw[dM hp,et,r6];rfl
    have bc:q=0\/q=1:=by omega
    have ax:∀ {n:Nat} {au:List Ln},(lines++(more++au))[n]?=some p->(∀(k:Nat) (a:Ln),(lines++(more++D))[k]?=some a->(lines++(more++au))[k]?=some a)->∀(r n':Nat),([p0,p1].take q++[n])[r]?=some n'->∃p,(lines++(more++au))[n']?=some p/\v.2.2[r]?=some p:=λ{n au} hn aj r n' h=>by
     have ab:([p0,p1].take q).length=q:=by rw[dU];simp only[dX,ee];omega
     rcases fN r q with hr|hr
     ·rw[fg (by omega)] at h;obtain⟨a,bU,bT⟩:=r5 r n' h;exact⟨a,aj _ _ bU,bT⟩
     ·rw[fD (by omega),ab] at h;have bL:r-q=0:=by
       rcases Nat.eq_zero_or_pos (r-q) with h0|h0
       ·exact h0
       ·rw[lA (by simp only[dX,ee];omega)] at h;cases h
      rw[bL] at h;cases h;obtain rfl:r=q:=by omega
      exact⟨p,hn,hp⟩
    simp only[go_sem,zE,zB,zA,zL,f2,f38,f39,f40,lt_i hq,dB bK,iNn,bD,fits];refine bR.mono ?_;rintro _ s2 (⟨n,hn,rfl,rfl⟩|⟨aG,⟨bQ,rfl,rfl⟩|⟨bg,rfl,bW,aw⟩⟩)
    ·have r8:=λps=>(r7 ps).trans (cX (lMg hn));rcases bc with rfl|rfl
     ·simp only[go_sem,zE,zA,zM,zL,f2,f4,f5,f6,f9,f38,f39,f40,dC,iNn,show (0<2)=True from eT (by decide),nt,show IntKind.u8.wrap (((0:Nat):Int)+1)=((1:Nat):Int) from rfl,show IntKind.i64.wrap (((0:Nat):Int)+1)=((1:Nat):Int) from rfl];exact⟨⟨D,n,p1,[n],rfl,rfl,r2,r3,r4,ax hn (λ_ _ h=>h),r8⟩,q7,q8,q9,E⟩
     ·simp only[go_sem,zE,zA,zM,zL,f2,f4,f5,f6,f9,f38,f39,f40,dC,iNn,show (1<2)=True from eT (by decide),nt,show IntKind.u8.wrap (((1:Nat):Int)+1)=((2:Nat):Int) from rfl,show IntKind.i64.wrap (((1:Nat):Int)+1)=((2:Nat):Int) from rfl];exact⟨⟨D,p0,n,[p0,n],rfl,rfl,r2,r3,r4,ax hn (λ_ _ h=>h),r8⟩,q7,q8,q9,E⟩
    ·simp only[go_sem,zE,zL,f4,f5,show decide ((4:Int)=0)=false from rfl,q7,dz O,q8];refine⟨rfl,by rw[dz (λh=>O h.symm),b_],eG (eG r2.base z4) z5,.inr ⟨b_ ..,?_,more++D,p,r3,bl,aG,r2.nd,bQ⟩⟩;have r9:addP v.2.2 (lines++more)=none:=by
      have:=r7 (v.2.2.drop (q+1));rw[eA] at this;rw[this];exact (a_ aG).trans (a_ (by omega))
     rw[Ge J q1 ac];simp only[expF,r9]
    ·have bh:(lines++(more++(D++[p])))[(lines++(more++D)).length]?=some p:=by
      rw[<- et more,<- et lines,fD (dG _),fc];rfl
     have aj:∀(k:Nat) (a:Ln),(lines++(more++D))[k]?=some a->(lines++(more++(D++[p])))[k]?=some a:=λk a h=>by
      rw[<- et more,<- et lines,fg (lGs h).1];exact h
     have bk:RS ca m W tw xw rb mN S0 s2 (lines++(more++(D++[p]))) links:=by
      rw[<- et more,<- et lines];exact bW
     have bm:∀x∈more++(D++[p]),kh W (calJ ca) ln x:=λx hx=>by
      rw[<- et] at hx;rcases dQ.1 hx with hx|hx
      ·exact r3 x hx
      ·rw[dR.1 hx];exact bl
     have bn:(lines++(more++(D++[p]))).length<=20000:=by
      rw[<- et more,<- et lines,lLa];simp only[dX,ee];omega
     have r8:∀ps,addP (v.2.2.take (q+1)++ps) (lines++more)=addP ps (lines++(more++(D++[p]))):=λps=>by
      rw[r7,show lines++(more++(D++[p]))=lines++(more++D)++[p] by simp only[et]];exact (a_ aG).trans (cX bg)
     have v4:=aw b4 _ q7 k4.1 k4.2.1 k4.2.2 λn h=>by cases h
     have v5:=aw b5 _ q8 k5.1 k5.2.1 k5.2.2 λn h=>by cases h
     have v6:=aw b6 _ q9 k6.1 k6.2.1 k6.2.2 λn h=>by cases h
     have aU:own s2 t6 L.length 5 S0:=E.mono λg hg _=>by
      obtain⟨ci,ce,cj,cg,w1,_⟩:=r2.ex;obtain⟨b1,w2,_⟩:=r2.sp;exact aw g _ hg (λe=>by rw[e,w1] at hg;cases hg) (λe=>by rw[e,r2.num] at hg;cases hg) (λe=>by rw[e,w2] at hg;cases hg) λn h=>by cases h
     rcases bc with rfl|rfl
     ·simp only[go_sem,zE,zA,zM,zL,f2,f4,f5,f6,f9,f38,f39,f40,dC,iNn,show (0<2)=True from eT (by decide),nt,show IntKind.u8.wrap (((0:Nat):Int)+1)=((1:Nat):Int) from rfl,show IntKind.i64.wrap (((0:Nat):Int)+1)=((1:Nat):Int) from rfl];exact⟨⟨D++[p],_,p1,[_],rfl,rfl,bk,bm,bn,ax bh aj,r8⟩,v4,v5,v6,aU⟩
     ·simp only[go_sem,zE,zA,zM,zL,f2,f4,f5,f6,f9,f38,f39,f40,dC,iNn,show (1<2)=True from eT (by decide),nt,show IntKind.u8.wrap (((1:Nat):Int)+1)=((2:Nat):Int) from rfl,show IntKind.i64.wrap (((1:Nat):Int)+1)=((2:Nat):Int) from rfl];exact⟨⟨D++[p],p0,_,[p0,_],rfl,rfl,bk,bm,bn,ax bh aj,r8⟩,v4,v5,v6,aU⟩
   ·rintro fr s1 _ ⟨⟨D,p0,p1,av,f9,rfl,r2,r3,r4,r5,r6⟩,q7,q8,q9,E,f2,f4,f5,f6,f38,f39,f40,rfl⟩;have ab:([p0,p1].take v.2.2.length).length=v.2.2.length:=by rw[dU];simp only[dX,ee];omega
    have bF:ys.length=L.length:=q6.1;have cw:(cutO (mvsN W (calJ ca) ln)).length<=16000000:=by
     have h1:∀l:List (Option Mv),(cutO l).length<=l.length:=λl=>by
      induction l with
      | nil=>exact dG _
      | cons a l ih =>
       cases a with
       | none=>simp[cutO]
       | some a=>simp only[cutO,dX];omega
     exact dN (h1 _) (zK hS bj aH)
    have cy:L.length=k:=by
     have h1:=dZ List.length q1;rw[dU,dP] at h1;have h2:=(lGs J).1;rw[q5.1];omega
    have ct:=(lGs J).1;simp only[go_sem,zE,zA,zM,zL,f6,f9,f39,f40,dS (nLi _),q9,fits,eh];refine ij E bF r2.base rfl (by simp[fits,IV.one]) (by simp only;omega) (by omega) λaV s2 w1 w2 w3=>?_;have v4:=w3 b4 _ q7 λn h=>by cases h
    have v5:=w3 b5 _ q8 λn h=>by cases h
    have v6:=w3 b6 _ q9 λn h=>by cases h
    simp only[go_sem,zE,zL,f6,v6];have aI:∀b o,s1 b=some o->b≠b6->(∀n,o≠.front n 5)->(s2.put b6 (some (.box [.sl aV (ys++[.agg [.raw (.int .u8 (v.1:Int)),.raw (.int .u8 (v.2.2.length:Int)),.raw (.int .i32 (v.2.1:Int)),.raw (.int .i32 (p0:Int)),.raw (.int .i32 (p1:Int))]])]))) b=some o:=λb o h h1 h2=>by
     rw[dz h1];exact w3 b o h h2
    refine⟨more++D,vs++[v],L++[(v.1,v.2.1,[p0,p1].take v.2.2.length)],aV,_,?_,r2.elsewhere (eG w2 z6) λb o h ak=>aI b o h ?_ ?_,r3,r4,LksOf.snoc ?_ ⟨rfl,rfl,ab,r5⟩,q6.snoc ⟨p0,p1,by rw[ab],by rw[ab]⟩,?_,?_,b_ ..,?_,?_⟩
    ·rw[dM J,q1,eQ];rfl
    ·rintro rfl;rcases ak with h1|h1|h1|⟨n,h1⟩|⟨n,h1⟩
     ·exact k6.1 h1
     ·exact k6.2.1 h1
     ·exact k6.2.2 h1
     ·rw[q9] at h;rw[h1] at h;cases h
     ·rw[q9] at h;rw[h1] at h;cases h
    ·rintro n rfl;rcases ak with h1|h1|h1|⟨n,h1⟩|⟨n,h1⟩
     ·obtain⟨_,_,_,_,e,_⟩:=r2.ex;rw[h1,e] at h;cases h
     ·rw[h1,r2.num] at h;cases h
     ·obtain⟨_,e,_⟩:=r2.sp;rw[h1,e] at h;cases h
     ·cases h1
     ·cases h1
    ·rw[<- et];exact q5.app
    ·rw[dz λh=>aE h.symm];exact v4
    ·rw[dz λh=>aD h.symm];exact v5
    ·rw[lLa];refine w1.mono λg hg _=>?_;rw[dz λe=>by rw[e,v6] at hg;cases hg];exact hg
    ·have r9:=r6 [];rw[lTl,ek] at r9;intro l;rw[eQ,et,ac];show expF (some v::l) _=_;simp only[expF,r9,addP]
 ·rintro s rr ⟨more,vs,L,t6,ys,q1,q2,q3,q4,q5,q6,q7,q8,q9,E,ac⟩;rw[lTl] at q1;have az:mvsN W (calJ ca) ln=vs.map some:=by
   have h1:∀l:List (Option Mv),none ∉ cutO l->cutO l=l:=λl=>by
    induction l with
    | nil=>intro _;rfl
    | cons a l ih =>
     intro h;cases a with
     | none=>exact absurd (.head _) h
     | some a=>simp only[cutO] at h ⊢;rw[ih λh'=>h (.tail _ h')]
   rw[<- q1,h1];rw[q1];simp
  simp only[go_sem,zE,zL,q9,q7,q8,dz O,dz (λh=>O h.symm)];refine c_ (.inl ⟨t6,ys,L,vs,more,rfl,E.es,q6,az,q5,q3,q4,q2.elsewhere (eG (eG q2.base z4) z5) λb o h ak=>?_,by have:=ac [];rw[ek,<- az] at this;exact this⟩);have hb:∀b',(b'≠rb/\b'≠mN/\b'≠m)->(∃c,s b'=some (.box c))->b≠b':=by
   rintro b' hk ⟨c,hc⟩ rfl;rcases ak with h1|h1|h1|⟨n,h1⟩|⟨n,h1⟩
   ·exact hk.1 h1
   ·exact hk.2.1 h1
   ·exact hk.2.2 h1
   ·rw[hc,h1] at h;cases h
   ·rw[hc,h1] at h;cases h
  rw[dz (hb b5 k5 ⟨_,q8⟩),dz (hb b4 k4 ⟨_,q7⟩)];exact h
 ·rintro e s rr ⟨rfl,w1,w2,ak⟩;rcases ak with⟨w3,w4,w5⟩|⟨w3,w5,w4⟩
  ·simp only[go_sem,zE,w1,w3];exact c_ (.inr (.inl ⟨rfl,w4,w2,w5⟩))
  ·simp only[go_sem,zE,w1,w3];exact c_ (.inr (.inr ⟨rfl,w2,w5,w4⟩))
def OC (a b:Fm)(x y:IV)(E:IsFm a x)(D:IsFm b y)(st:ISt):ICall prog gl 167 [x,y] st (λr st'=>r=(decide (eK a b=0):Bool)/\st'=st):=by
 have hc:=uY gl a b x y E D st;cases a with
 | mk o1 n1 u1 s1 =>
 cases b with
 | mk o2 n2 u2 s2 =>
 obtain⟨t1,x1,t2,O,rfl,_⟩:=E.mk;obtain⟨t3,J,t4,G,rfl,_⟩:=D.mk;refine iI func167 ?_;simp only[go_sem,zE,zA,zL];refine hc.mono ?_;rintro _ st ⟨rfl,rfl⟩;simp only[go_sem];exact c_ ⟨rfl,rfl⟩
def OD {st:ISt}{m b D E:Nat}{M S x y F0 F:Option IObj}(h1:st m=none)(h2:(st.put m M) b=none)(J:((st.put m M).put b S) D=none)(G:(((((st.put m M).put b S).put D x).put D y).put D none) E=none)(hM:M≠none)(hS:S≠none) :
  E≠b/\E≠m/\b≠m/\st E=none/\st b=none/\((((((st.put m M).put b S).put D x).put D y).put D none).put E F0).put E F=((st.put m M).put E F).put b S:=by
 have e1:b≠m:=by rintro rfl;rw[b_] at h2;exact hM h2
 rw[dz e1] at h2;have e2:D≠b:=by rintro rfl;rw[b_] at J;exact hS J
 rw[dz e2] at J;have e3:D≠m:=by rintro rfl;rw[b_] at J;exact hM J
 rw[dz e3] at J;have hst:((((st.put m M).put b S).put D x).put D y).put D none=(st.put m M).put b S:=by
  funext c;simp only[ISt.put_apply];by_cases e:c=D
  ·rw[cX e,e,a_ e2,a_ e3,J]
  ·rw[a_ e,a_ e,a_ e]
 rw[hst] at G ⊢;have O:E≠b:=by rintro rfl;rw[b_] at G;exact hS G
 rw[dz O] at G;have e5:E≠m:=by rintro rfl;rw[b_] at G;exact hM G
 rw[dz e5] at G;refine⟨O,e5,e1,G,h2,?_⟩;rw[eN];funext c;simp only[ISt.put_apply];by_cases e:c=E
 ·rw[cX e,e,a_ O,cX rfl]
 ·rw[a_ e,a_ e]
def OE (f:Fm):1<=(cloF f).length:=by
 cases f with
 | mk o n us sub =>
  rw[cloF,lLa];have:=FT (.mk o n us sub);omega
def zN:∀l:List Fm,l.length<=(eZ l).length
 | []=>dG _
 | a::l=>by
  rw[eZ,lLa,dX];have h1:=OE a;have h2:=zN l;omega
def Gf:∀(a:List Fm)(k:Nat),(eZ (a.take k)).length<=(eZ a).length
 | [],k=>by simp
 | c::a,0=>by simp[eZ]
 | c::a,k+1=>by
  simp only[kF,eZ,lLa];have:=Gf a k;omega
def OF {cs Z:List IV}{k:Nat}(h:cs.take k=Z):cs=Z++cs.drop k:=by rw[<- h,eA]
def Gg {st S s1:ISt}{m b ca:Nat}{W:List Fm}{y:IV}{t:Tag}{z:List IV}(J:st m=none)(h0:∀c o,(st.put m (some (.map .pl []))) c=some o->S c=some o)(h1:∀c o,s1 c=some o->S c=some o/\(st.put m (some (.map .pl []))) c=none)
  (O:s1 b=some (.box [.raw (.int .u8 (ca:Int)),y,.raw (.map (some m))])) (G:OI s1 y (.sl t z)) (ht:okEs t 4) (E:IsFms W z) :
  ∃x s1 s0,LendOk S s1 s0/\OI s1 (ptr b) x/\∃m tw xw,st m=none/\okEs tw 4/\IsFms W xw/\age x=spI ca tw xw m/\s0=st.put m (some (.map .pl [])):=by
 refine⟨.cptr (.agg [.raw (.int .u8 (ca:Int)),.sl t z,.raw (.map (some m))]),s1,_,⟨λc o hc=>(h1 c o hc).1,h0,λc cs hc=>(h1 c _ hc).2⟩,.ptr b _ _ O rfl λi r c D hc=>?_,m,⟨false,t.cap,t.es⟩,ages z,J,?_,E.aged,by simp only[age,ages],rfl⟩
 ·match i,D,hc with
  | 0,D,hc=>cases D;cases hc;exact .refl _
  | 1,D,hc=>cases D;cases hc;exact G
  | 2,D,hc=>cases D;cases hc;exact .refl _
  | i+3,D,hc=>simp at D
 ·exact ht
def OG (ca:Nat)(s:Sq)(x:IV)(hx:IsSq s x)(hl:(eZ (s.l++s.r)).length<=1000000)(st:ISt) :
  ICall prog gl 125 [.raw (.int .u8 (ca:Int)),x] st (λr st'=>∃m tw xw,st m=none/\okEs tw 4/\IsFms (setF (eZ (s.l++s.r))) xw/\r=spI ca tw xw m/\st'=st.put m (some (.map .pl []))):=by
 refine lS ?_;have a7:=hx;obtain⟨t1,x1,t2,x2,rfl,e1,i1,e2,i2⟩:=hx;refine ke (t:=5) (n:=2) (c:=cf prog gl [12,5,6,32,38] []) func125 rfl (by show _<=43;simp) (by show _<43;simp) (by kernel_rfl) ?_;simp only[go_sem,zE,zA,zL,reduceCtorEq,fits];refine λm=>d_ λh1=>λb=>d_ λh2=>λb5=>d_ λh3=>?_;refine⟨b5,ptr b,by simp only[go_sem],b_ ..,?_⟩;simp only[go_sem,zE,zA,zM,zL,fits];refine λO=>d_ λh4=>?_;obtain⟨n1,n2,n3,h5,h6,hst⟩:=OD (F0:=some (.box [.raw .nilFunc])) (F:=some (.box [colFn b O])) h1 h2 h3 h4 nofun nofun;simp only[go_sem,pX,show age (ptr b)=ptr b by simp only[age],hst];refine (yR gl s.l s.r t1 t2 _ x1 x2 (.inr rfl) i1 i2 (by rw[<- lLa];exact dN (zN _) (dN hl (by omega))) _).mono ?_;rintro _ _ ⟨tc,xc,rfl,aD,E,rfl⟩;simp only[go_sem];intro _;generalize hB:(st.put m (some (.map .pl []))).put O (some (.box [colFn b O]))=B0;have an:B0 O=some (.box [colFn b O]):=by rw[<- hB,b_]
 have aC:∀g,B0 g=none->g≠m/\g≠O/\st g=none:=λg D=>by
  rw[<- hB] at D;have g1:g≠O:=by rintro rfl;rw[b_] at D;cases D
  rw[dz g1] at D;have g2:g≠m:=by rintro rfl;rw[b_] at D;cases D
  rw[dz g2] at D;exact⟨g2,g1,D⟩
 have af:∀c o,(st.put m (some (.map .pl []))) c=some o->B0 c=some o/\c≠b:=λc o hc=>by
  have c1:c≠b:=by rintro rfl;rw[dz n3,h6] at hc;cases hc
  have c2:c≠O:=by rintro rfl;rw[dz n2,h5] at hc;cases hc
  exact⟨by rw[<- hB,dz c2];exact hc,c1⟩
 refine dt xc.length (λk fr st' ds=>Fo ca m b B0 (eZ ((s.l++s.r).take k)) st'/\fr 5=.iv (.cptr (ptr b))/\fr 6=(ptr O)/\fr 19=.iv (.sl tc xc)/\fr 20=xc.length/\fr 21=(k:Int)/\ds=[]) ?_ ?_ ?_
 ·simp only[go_sem,zE];exact⟨.inl ⟨rfl,rfl⟩,rfl⟩
 ·rintro k fr ae _ ab ⟨ao,f5,f6,f19,f20,f21,rfl⟩;rw[E.len] at ab;obtain⟨g,D⟩:=dD ab;obtain⟨z,hz,al⟩:=E.get D;have aA:(eZ ((s.l++s.r).take k)++cloF g).length<=1000000:=by rw[<- vp D];exact dN (Gf _ _) hl
  have IHg:=FV gl g ca m O b z al B0 ae _ an n1 aA ao;have ax:=ao.self an n1;cases g with
  | mk og ng ug sg =>
  obtain⟨aZ,aV,aY,aU,rfl,bc⟩:=al.mk;simp only[go_sem,zE,zB,zA,zL,f6,f19,f20,f21,lt_i (show k<xc.length by rw[E.len];exact ab),dB aD,iNn,hz,fits,IV.one];rw[ax];simp only[go_sem];refine IHg.mono ?_;rintro _ ae aH;simp only[go_sem,zE,f5,f6,f19,f20,f21,dL (show k<xc.length by rw[E.len];exact ab) (by rw[E.len];exact dN (zN _) (dN hl (by omega)))];rw[vp D];exact aH
 ·rintro fr ae _ ⟨hF,f5,f6,f19,f20,f21,rfl⟩;rw[E.len,lTl] at hF;generalize hW:eZ (s.l++s.r)=W at hF hl ⊢;rcases hF with⟨rfl,rfl⟩|⟨g,cap,cs,zs,aB,D,J,aQ,ay,aE,hzs,rfl⟩
  ·simp only[go_sem,zE,zA,f5,f20,f21,dS (nLi _),fits,kg];refine (ER gl _ rfl _).q ?_;simp only[go_sem,zE,zA,f5,fits];refine (E0 gl _ _ rfl _).mono ?_;rintro _ _ ⟨⟨t',rfl,aw⟩,rfl⟩;simp only[go_sem,zE,zA,zL,f5,fits];rw[eN];refine c_ (Gg (s1:=ISt.put (λ_=>none) b (some (.box [.raw (.int .u8 (ca:Int)),.sl t' [],.raw (.map (some m))]))) (t:=t') (z:=[]) h1 (λc o hc=>?_) (λc o hc=>?_) (b_ ..) (.refl _) (.inl aw) (by rw[EY];rfl))
   ·rw[dz (af c o hc).2];exact (af c o hc).1
   ·rw[ISt.put_apply] at hc;split at hc
    ·rename_i e;subst e;exact⟨by rw[b_];exact hc,by rw[dz n3];exact h6⟩
    ·cases hc
  ·have ac:=OF aE;have ak:=EP gl W zs (cs.drop (W.length*4)) hzs (λe=>aB (by rw[e] at hzs;exact ev (by rw[<- hzs.len];rfl))) (by rw[hzs.len];omega) g cap;rw[<- ac,hzs.len] at ak;simp only[go_sem,zE,zA,f5,f20,f21,dS (nLi _),fits,kg,dz J.symm];refine (ak _ (b_ ..)).mono ?_;rintro _ _ ⟨rfl,mm,ys,hms,G,az,-,rfl⟩;have hml:=G.length_eq;have am:=EX gl 167 (by simp only[go_sem]) (OC gl) mm ys (cs.drop (W.length*4)) hms (by omega) g cap (by omega);rw[hml] at am;simp only[go_sem,zE,zA,f5,fits,dz J.symm];refine (am _ (b_ ..)).mono ?_;rintro _ _ ⟨k,ag,aa,rfl,rfl,aG,aF,aj,hk,ba,-⟩;simp only[go_sem,zE,zA,zL,f5,fits,dz J.symm];refine fO rfl ?_;obtain⟨gm,g6,gs⟩:=aC g D;subst hk;rw[eN,eN,zF J];have ai:∀z∈aa,z.cells.length=4:=λz hz=>by
    obtain⟨a,ha,_⟩:=qt aj z hz;cases a;obtain⟨_,_,_,_,rfl,_⟩:=ha.mk;rfl
   have bd:ag.length=cs.length:=by
    rw[aG,lLa,vo hms,gz];omega
   refine c_ (Gg (s1:=(ISt.put (λ_=>none) b (some (.box [.raw (.int .u8 (ca:Int)),.raw (.slice (some ⟨g,0,none⟩) aa.length cap),.raw (.map (some m))]))).put g (some (.box ag))) (t:=⟨true,.app g,4⟩) (z:=aa) h1 (λc o hc=>?_) (λc o hc=>?_) (by rw[dz J.symm,b_]) ?_ (.inr rfl) (by rw[my (u7 _ mm G az)];exact aj))
   ·obtain⟨e1,e2⟩:=af c o hc;rw[dz (by rintro rfl;rw[D] at e1;cases e1),dz e2];exact e1
   ·rw[ISt.put_apply] at hc;split at hc
    ·rename_i e;subst e;exact⟨by rw[b_];exact hc,by rw[dz gm];exact gs⟩
    ·rename_i e;rw[ISt.put_apply] at hc;split at hc
     ·rename_i e';subst e';exact⟨by rw[dz e,b_];exact hc,by rw[dz n3];exact h6⟩
     ·cases hc
   ·refine .sl g cap ⟨true,.app g,4⟩ aa ag rfl (by omega) (by omega) ai (b_ ..) (by show cap*4<=_;omega) λi r c hr hc=>?_;have hi:=(lGs hc).1;rw[gS _ ai] at hi;rw[<- aF,gd,cX hi,hr] at hc;cases hc;exact .refl _
end Go.Proofs.Tryz
namespace Go.Proofs.Tryz
open Go Go.Iv
def qE (f:Fm):f∈cloF f:=by
 cases f with
 | mk o n us sub =>
  rw[cloF];refine gg _ ?_;unfold gJ;split
  ·simp_all
  ·exact .head _
def yKe {g:Fm}:∀ {l:List Fm},g∈eZ l↔∃f∈l,g∈cloF f
 | []=>by simp[eZ]
 | a::l=>by simp only[eZ,dQ,yKe,dF];grind
def OH {o:Nat}{a b g:Fm}(h:g∈gJ (.mk o noN [] [a,b])):g=.mk o noN [] [a,b]\/(o=7/\(g=imF a b\/g=imF b a)):=by
 unfold gJ at h;split at h
 ·rename_i D;cases D;simpa using h
 ·exact .inl (by simpa using h)
def zXe {a g:Fm}:g∈cloF (.mk 3 noN [] [a])↔g=.mk 3 noN [] [a]\/g∈cloF a:=by
 simp[cloF,eZ,gJ]
def zO {o:Nat}{a b g:Fm}:g∈cloF (.mk o noN [] [a,b])->g=.mk o noN [] [a,b]\/(o=7/\(g=imF a b\/g=imF b a))\/g∈cloF a\/g∈cloF b:=λh=>by
 simp only[cloF,eZ,ek,dQ] at h;rcases h with h|h|h
 ·rcases OH h with h|h
  ·exact .inl h
  ·exact .inr (.inl h)
 ·exact .inr (.inr (.inl h))
 ·exact .inr (.inr (.inr h))
def qF {o:Nat}{a b g:Fm}(h:g∈cloF a\/g∈cloF b):g∈cloF (.mk o noN [] [a,b]):=by
 simp only[cloF,eZ,ek,dQ];exact .inr h
def OJ {ca:Nat}{f:Fm}(hf:PF f):fmB ca f=true->∀g∈cloF f,fmB ca g=true:=by
 induction hf with
 | atom n=>intro h g D;simp[cloF,eZ,gJ] at D;rw[D];exact h
 | fls=>intro h g D;simp[cloF,eZ,gJ] at D;rw[D];exact h
 | neg _ ih =>
  intro h g D;rcases zXe.1 D with rfl|D
  ·exact h
  ·exact ih (FH h) g D
 | bin h4 h7 _ _ G E =>
  intro h g D;obtain⟨k1,k2,O,J⟩:=FI ⟨by omega,h4,h7⟩ h;rcases zO D with rfl|⟨_,rfl|rfl⟩|D|D
  ·exact h
  ·exact O
  ·exact J
  ·exact G k1 g D
  ·exact E k2 g D
def Gh {f:Fm}(hf:PF f):∀g∈cloF f,∀j r,∀t∈addF j g r,∀p∈t.2,(∀x∈p.1,x∈cloF f)/\∀x∈p.2,x∈cloF f:=by
 induction hf with
 | atom n=>intro g D j r t ht;simp[cloF,eZ,gJ] at D;subst D;simp[addF] at ht
 | fls=>intro g D j r t ht;simp[cloF,eZ,gJ] at D;subst D;simp[addF] at ht
 | @neg a _ ih =>
  intro g D j r t ht p hp;rcases zXe.1 D with rfl|D
  ·have E:a∈cloF (.mk 3 noN [] [a]):=zXe.2 (.inr (qE a));cases r<;>simp[addF] at ht<;>subst ht<;>simp at hp<;>subst hp<;>simp[E]
  ·obtain⟨h1,h2⟩:=ih g D j r t ht p hp;exact⟨λx G=>zXe.2 (.inr (h1 x G)),λx G=>zXe.2 (.inr (h2 x G))⟩
 | @bin o a b h4 h7 _ _ aa O =>
  intro g D j r t ht p hp;have E:a∈cloF (.mk o noN [] [a,b]):=qF (.inl (qE a));have J:b∈cloF (.mk o noN [] [a,b]):=qF (.inr (qE b));have imp:∀c d:Fm,c∈cloF (.mk o noN [] [a,b])->d∈cloF (.mk o noN [] [a,b])->t∈addF j (imF c d) r->(∀x∈p.1,x∈cloF (.mk o noN [] [a,b]))/\∀x∈p.2,x∈cloF (.mk o noN [] [a,b]):=λc d hc hd ht=>by
   cases r<;>simp[addF] at ht<;>subst ht<;>simp at hp
   ·rcases hp with rfl|rfl<;>simp[hc,hd]
   ·subst hp;simp[hc,hd]
  rcases zO D with rfl|⟨_,rfl|rfl⟩|D|D
  ·obtain rfl|rfl|rfl|rfl:o=4\/o=5\/o=6\/o=7:=by omega
   ·cases r<;>simp[addF] at ht<;>subst ht<;>simp at hp
    ·subst hp;simp[E,J]
    ·rcases hp with rfl|rfl<;>simp[E,J]
   ·cases r<;>cases j<;>simp[addF] at ht
    ·subst ht;simp at hp;rcases hp with rfl|rfl<;>simp[E,J]
    ·subst ht;simp at hp;rcases hp with rfl|rfl<;>simp[E,J]
    ·subst ht;simp at hp;subst hp;simp[E,J]
    ·rcases ht with rfl|rfl<;>simp at hp<;>subst hp<;>simp[E,J]
   ·exact imp a b E J ht
   ·have h1:imF a b∈cloF (.mk 7 noN [] [a,b]):=by simp[cloF,gJ]
    have h2:imF b a∈cloF (.mk 7 noN [] [a,b]):=by simp[cloF,gJ]
    cases r<;>simp[addF] at ht<;>subst ht<;>simp at hp
    ·subst hp;simp[h1,h2]
    ·rcases hp with rfl|rfl<;>simp[E,J]
  ·exact imp a b E J ht
  ·exact imp b a J E ht
  ·obtain⟨h1,h2⟩:=aa g D j r t ht p hp;exact⟨λx G=>qF (.inl (h1 x G)),λx G=>qF (.inl (h2 x G))⟩
  ·obtain⟨h1,h2⟩:=O g D j r t ht p hp;exact⟨λx G=>qF (.inr (h1 x G)),λx G=>qF (.inr (h2 x G))⟩
def OK (f:Fm):(gJ f).length<=3:=by
 unfold gJ;split<;>simp
mutual
def OL:∀f:Fm,(cloF f).length<=3*f.size
 | .mk o n us sub=>by
  have h1:=OK (.mk o n us sub);have h2:=zP sub;simp only[cloF,lLa,Fm.size];omega
def zP:∀l:List Fm,(eZ l).length<=3*dV l
 | []=>by simp[eZ]
 | a::l=>by
  have h1:=OL a;have h2:=zP l;simp only[eZ,lLa,dV];omega
end
def size_le {l:List Fm}{k:Nat}(h:∀f∈l,f.size<=k):dV l<=l.length*k:=by
 induction l with
 | nil=>simp[dV]
 | cons a l D =>
  have h1:=h a (.head _);have h2:=D λf E=>h f (.tail _ E);simp only[dV,dX,ff,g_];omega
def qG {ca:Nat}{s:Sq}(hc:ca=1\/ca=2)(h:en ca s=true) :
  SpOk ca (setF (eZ (s.l++s.r)))/\(eZ (s.l++s.r)).length<=200000/\(setF (eZ (s.l++s.r))).length<=200000/\InW (setF (eZ (s.l++s.r))) (s.l,s.r):=by
 unfold en at h;simp only[bAt,dTe,eF] at h;obtain⟨⟨⟨⟨⟨_,hl⟩,hr⟩,af⟩,ae⟩,_⟩:=h;have G:∀f∈s.l++s.r,fmB ca f=true:=λf E=>(dQ.1 E).elim (af f) (ae f);have aa:ca≠3:=by omega
 have ac:∀f∈s.l++s.r,f.size<=400:=λf E=>by
  have:=G f E;unfold fmB Fm.right at this;simp only[bAt,dTe] at this;exact this.1.1.2
 have h1:=zP (s.l++s.r);have h2:=size_le ac;rw[lLa] at h2;have h3:(eZ (s.l++s.r)).length<=200000:=by omega
 obtain⟨r,D,aj⟩:=za (eZ (s.l++s.r));rw[my D];refine⟨⟨hc,D.1,by omega,λf E=>?_,λf E j rr t ht p hp=>?_⟩,h3,by omega,λf E=>?_,λf E=>?_⟩
 ·obtain⟨g,O,J⟩:=yKe.1 ((D.2 f).1 E);exact OJ (lr aa (G g O)) (G g O) f J
 ·obtain⟨g,O,J⟩:=yKe.1 ((D.2 f).1 E);obtain⟨k1,k2⟩:=Gh (lr aa (G g O)) f J j rr t ht p hp;exact⟨λx hx=>(D.2 x).2 (yKe.2 ⟨g,O,k1 x hx⟩),λx hx=>(D.2 x).2 (yKe.2 ⟨g,O,k2 x hx⟩)⟩
 ·exact (D.2 f).2 (yKe.2 ⟨f,gg _ E,qE f⟩)
 ·exact (D.2 f).2 (yKe.2 ⟨f,fV _ E,qE f⟩)
def mvW (W:List Fm)(v:Mv):Nat×Fm×List Sn:=(v.1,(W[v.2.1]?).getD fm0,v.2.2.map (lnW W))
def mvT (j:Bool)(ln:Ln)(i:Nat)(t:Tn):Mv:=(t.1,i,t.2.map (kd j ln))
noncomputable def l9 (W:List Fm)(j:Bool)(ln:Ln)(p:Nat×Bool):List Mv:=match W[p.1]? with
 | some f=>(gi W j f p.2).map (mvT j ln p.1)
 | none=>[]
def OM {ca:Nat}{W:List Fm}(hS:SpOk ca W){ln:Ln}(D:LnOk W ln)(j:Bool){i:Nat}{f:Fm}(E:W[i]?=some f)(r:Bool):(l9 W j ln (i,r)).map (mvW W)=jB j (lnW W ln) r f:=by
 unfold l9 jB gi;simp only[E,gZ];refine kB λt ht=>?_;simp only[Function.comp,mvT,mvW,E,ez,gZ];refine Prod.ext rfl (Prod.ext rfl ?_);refine kB λp hp=>?_;exact NV hS.srt D (hS.full f (lMg E) j r t ht p hp)
def zQ {ca:Nat}{W:List Fm}(hS:SpOk ca W){ln:Ln}(D:LnOk W ln)(j r:Bool):∀ {l:List Nat},(∀i∈l,i<W.length)->((l.map λi=>(i,r)).flatMap (l9 W j ln)).map (mvW W)=(fmW W l).flatMap (jB j (lnW W ln) r)
 | [],_=>rfl
 | i::l,h=>by
  obtain⟨f,E⟩:=dD (h i (.head _));rw[zt E,ec,eo,eo,eQ,OM hS D j E,zQ hS D j r λk G=>h k (.tail _ G)]
def Gi {ca:Nat}{W:List Fm}(hS:SpOk ca W){ln:Ln}(D:LnOk W ln)(j:Bool):((plcs ln).flatMap (l9 W j ln)).map (mvW W)=mvF j (lnW W ln):=by
 unfold plcs mvF;rw[ix,eQ,zQ hS D j false D.1.2,zQ hS D j true D.2.2];rfl
def ON {W:List Fm}{j:Bool}{ln:Ln}{p:Nat×Bool}{v:Mv}(h:some v∈iY W j ln p):v∈l9 W j ln p:=by
 unfold iY at h;unfold l9;cases E:W[p.1]? with
 | none=>simp only[E] at h;cases h
 | some f =>
  simp only[E] at h ⊢;obtain⟨t,ht,D⟩:=dH.1 h;refine dH.2 ⟨t,ht,?_⟩;unfold mvN at D;split at D
  ·cases D
  ·cases D;rfl
def Gj {W:List Fm}{j:Bool}{ln:Ln}{v:Mv}(h:some v∈mvsN W j ln):v∈(plcs ln).flatMap (l9 W j ln):=by
 obtain⟨p,hp,h⟩:=fh.1 h;exact fh.2 ⟨p,hp,ON h⟩
def OO {W:List Fm}{j:Bool}{ln:Ln}{l:List (Nat×Bool)}:∀ {vs:List Mv},l.flatMap (iY W j ln)=vs.map some->l.flatMap (l9 W j ln)=vs:=by
 have one:∀p,(∀o∈iY W j ln p,o≠none)->iY W j ln p=(l9 W j ln p).map some:=λp=>by
  unfold iY l9;cases W[p.1]? with
  | none=>intro _;rfl
  | some f =>
   simp only[gZ];intro h;refine kB λt ht=>?_;have h1:=h _ (gh ht);unfold mvN at h1 ⊢;split
   ·rename_i J;rw[cX J] at h1;exact absurd rfl h1
   ·rfl
 have D:∀ {a b:List Mv},a.map some=b.map some->a=b:=λ{a b} h=>by
  have h1:=dZ (List.filterMap id) h;simpa[List.filterMap_map] using h1
 intro vs h;have E:∀p∈l,∀o∈iY W j ln p,o≠none:=λp hp o O he=>by
  have:o∈vs.map some:=h▸fh.2 ⟨p,hp,O⟩;obtain⟨v,_,rfl⟩:=dH.1 this;cases he
 refine D ?_;rw[<- h];clear h
 induction l with
 | nil=>rfl
 | cons a l G =>
  rw[eo,eo,eQ,one a (E a (.head _)),G λp hp=>E p (.tail _ hp)]
def zR {ca:Nat}{W:List Fm}(hS:SpOk ca W){ln:Ln}(D:LnOk W ln){j:Bool}{vs:List Mv}(h:mvsN W j ln=vs.map some):mvF j (lnW W ln)=vs.map (mvW W):=by
 rw[<- Gi hS D,OO h]
def vw {ca:Nat}{W:List Fm}(hS:SpOk ca W){ln:Ln}(E:LnOk W ln){j:Bool}:none∈mvsN W j ln↔nq j (lnW W ln):=by
 have at_:∀i r f,W[i]?=some f->(none∈iY W j ln (i,r)↔∃t∈addF j f r,∃p∈t.2,tooL j (lnW W ln) p):=λi r f D=>by
  unfold iY gi;simp only[D,gZ,dH,Function.comp];constructor
  ·rintro⟨t,ht,J⟩;unfold mvN at J;split at J
   ·rename_i hx;obtain⟨e,aa,O⟩:=gk.1 hx;obtain⟨p,hp,rfl⟩:=dH.1 aa;exact⟨t,ht,p,hp,(Fs E).1 O⟩
   ·cases J
  ·rintro⟨t,ht,p,hp,hl⟩;refine⟨t,ht,?_⟩;unfold mvN;rw[cX (gk.2 ⟨_,gh hp,(Fs E).2 hl⟩)]
 unfold mvsN nq;rw[fh];constructor
 ·rintro⟨⟨i,r⟩,hp,h⟩;have hm:(r=false/\i∈ln.1)\/(r=true/\i∈ln.2):=by
   rcases dQ.1 hp with hp|hp<;>obtain⟨k,hk,J⟩:=dH.1 hp<;>cases J
   ·exact .inl ⟨rfl,hk⟩
   ·exact .inr ⟨rfl,hk⟩
  rcases hm with⟨rfl,G⟩|⟨rfl,G⟩
  ·obtain⟨f,D⟩:=E.1.get G;exact⟨f,false,yZo.2 ⟨i,G,D⟩,(at_ i _ f D).1 h⟩
  ·obtain⟨f,D⟩:=E.2.get G;exact⟨f,true,yZo.2 ⟨i,G,D⟩,(at_ i _ f D).1 h⟩
 ·rintro⟨f,r,D,h⟩;cases r
  ·obtain⟨i,G,D⟩:=yZo.1 D;exact⟨(i,false),gg _ (dH.2 ⟨i,G,rfl⟩),(at_ i _ f D).2 h⟩
  ·obtain⟨i,G,D⟩:=yZo.1 D;exact⟨(i,true),fV _ (dH.2 ⟨i,G,rfl⟩),(at_ i _ f D).2 h⟩
def Gk {ca:Nat}{W:List Fm}(hS:SpOk ca W){ln p:Ln}(D:LnOk W ln){s0:Sn}(h:kh W (calJ ca) ln p)(E:Rch (calJ ca) s0 (lnW W ln))(hc:¬ clN W ln):Rch (calJ ca) s0 (lnW W p)/\LnOk W p/\p.1.length<=64/\p.2.length<=64:=by
 obtain⟨v,hv,hp⟩:=h;obtain⟨h1,h2,G⟩:=(vv hS D hv).2.2.2 p hp;refine⟨.step E (λh=>hc ((n_ hS.srt D).2 h)) (m:=mvW W v) ?_ (gh hp),h1,h2,G⟩;rw[<- Gi hS D];exact gh (Gj hv)
def LkS (W:List Fm)(j:Bool)(lines:List Ln)(ln:Ln)(l:List Lk):Prop:=(clN W ln/\l=[])\/(¬ clN W ln/\∃vs,mvsN W j ln=vs.map some/\LksOf lines vs l)
def LkS.app {W:List Fm}{j:Bool}{lines more:List Ln}{ln:Ln}{l:List Lk}(h:LkS W j lines ln l):LkS W j (lines++more) ln l :=
 h.imp id λ⟨h1,vs,h2,D⟩=>⟨h1,vs,h2,D.app⟩
structure ExS (ca:Nat)(W:List Fm)(s0:Sn)(lines:List Ln)(links:List (List Lk)):Prop where
 start:∃ln,lines[0]?=some ln/\lnW W ln=s0
 ok:∀ln∈lines,LnOk W ln
 rch:∀ln∈lines,Rch (calJ ca) s0 (lnW W ln)
 done:∀(k:Nat) (l:List Lk),links[k]?=some l->∃ln,lines[k]?=some ln/\LkS W (calJ ca) lines ln l
 len:lines.length<=20000
def ExS.add {ca:Nat}{W:List Fm}{s0:Sn}{lines:List Ln}{links:List (List Lk)}(h:ExS ca W s0 lines links)(hS:SpOk ca W){ln:Ln}(hl:lines[links.length]?=some ln){l:List Lk}{more:List Ln}(hk:LkS W (calJ ca) (lines++more) ln l)
  (hm:more=[]\/¬ clN W ln) (hp:∀p∈more,kh W (calJ ca) ln p) (O:(lines++more).length<=20000):ExS ca W s0 (lines++more) (links++[l]):=by
 have J:=lMg hl;have G:∀p∈more,Rch (calJ ca) s0 (lnW W p)/\LnOk W p:=λp E=>by
  rcases hm with rfl|hc
  ·cases E
  ·obtain⟨h1,h2,_⟩:=Gk hS (h.ok ln J) (hp p E) (h.rch ln J) hc;exact⟨h1,h2⟩
 have app:∀ {k:Nat} {a:Ln},lines[k]?=some a->(lines++more)[k]?=some a:=λ{k a} hk=>by
  rw[fg (lGs hk).1];exact hk
 refine⟨?_,λp E=>?_,λp E=>?_,λk l' D=>?_,O⟩
 ·obtain⟨a,ha,hs⟩:=h.start;exact⟨a,app ha,hs⟩
 ·exact (dQ.1 E).elim (h.ok p) λE=>(G p E).2
 ·exact (dQ.1 E).elim (h.rch p) λE=>(G p E).1
 ·rcases fN k links.length with ab|ac
  ·rw[fg ab] at D;obtain⟨a,ha,hs⟩:=h.done k l' D;exact⟨a,app ha,hs.app⟩
  ·rw[fD ac] at D;have h0:k-links.length=0:=by
    rcases Nat.eq_zero_or_pos (k-links.length) with h0|h0
    ·exact h0
    ·rw[lA (by simp only[dX,ee];omega)] at D;cases D
   rw[h0] at D;cases D;obtain rfl:k=links.length:=by omega
   exact⟨ln,app hl,hk⟩
def ExS.reach {ca:Nat}{W:List Fm}{s0:Sn}{lines:List Ln}{links:List (List Lk)}(h:ExS ca W s0 lines links)(hS:SpOk ca W)(hn:lines.Nodup)(hl:lines.length<=links.length):ReachOk (calJ ca) s0 (lines.map (lnW W)):=by
 have E:∀ln∈lines,∃l,LkS W (calJ ca) lines ln l:=λln hm=>by
  obtain⟨k,hk,rfl⟩:=fR.1 hm;obtain⟨a,ha,hs⟩:=h.done k _ (dT (kG hk hl));rw[dT hk] at ha;cases ha;exact⟨_,hs⟩
 refine⟨?_,λs=>⟨λhs=>?_,λhs=>?_⟩,λs hs hc=>?_,by rw[dP];exact h.len⟩
 ·rw[List.nodup_iff_pairwise_ne,kD];exact hn.imp_of_mem λ{a b} ha hb ag he=>ag (Fl hS.srt (h.ok a ha) (h.ok b hb) he)
 ·obtain⟨ln,hm,rfl⟩:=dH.1 hs;exact h.rch ln hm
 ·induction hs with
  | refl =>
   obtain⟨a,ha,hs⟩:=h.start;exact dH.2 ⟨a,lMg ha,hs⟩
  | @step s _ hc m hm p hp ih =>
   obtain⟨ln,D,rfl⟩:=dH.1 ih;obtain⟨l,⟨O,_⟩|⟨_,vs,J,ah⟩⟩:=E ln D
   ·exact absurd ((n_ hS.srt (h.ok ln D)).1 O) hc
   ·rw[zR hS (h.ok ln D) J] at hm;obtain⟨v,hv,rfl⟩:=dH.1 hm;obtain⟨q,hq,rfl⟩:=dH.1 hp;obtain⟨i,hi,ae⟩:=fR.1 hv;obtain⟨k,hk,G⟩:=ah.2 i v (by rw[dT hi,ae]);obtain⟨e,he,af⟩:=fR.1 hq;have aj:e<k.2.2.length:=by rw[G.2.2.1];exact he
    obtain⟨p',hp1,hp2⟩:=G.2.2.2 e _ (dT aj);rw[dT he,af] at hp2;cases hp2;exact dH.2 ⟨q,lMg hp1,rfl⟩
 ·obtain⟨ln,D,rfl⟩:=dH.1 hs;obtain⟨l,⟨O,_⟩|⟨_,vs,J,_⟩⟩:=E ln D
  ·exact absurd ((n_ hS.srt (h.ok ln D)).1 O) hc
  ·intro G;have:=(vw hS (h.ok ln D)).2 G;rw[J] at this;simp at this
def ExS.no5 {ca:Nat}{W:List Fm}{s0:Sn}{lines:List Ln}{links:List (List Lk)}(h:ExS ca W s0 lines links)(hS:SpOk ca W){ln:Ln}(hl:ln∈lines)(hc:¬ clN W ln)(E:none∈mvsN W (calJ ca) ln):qv (calJ ca) s0 5 :=
 .inr ⟨rfl,lnW W ln,h.rch ln hl,λD=>hc ((n_ hS.srt (h.ok ln hl)).2 D),(vw hS (h.ok ln hl)).1 E⟩
def ExS.no4 {ca:Nat}{W:List Fm}{s0:Sn}{lines:List Ln}{links:List (List Lk)}(h:ExS ca W s0 lines links)(hS:SpOk ca W){ln:Ln}(hl:ln∈lines)(hc:¬ clN W ln){more:List Ln}{p:Ln}(hm:∀q∈more,kh W (calJ ca) ln q)(hp:kh W (calJ ca) ln p)
  (G:p ∉ lines++more) (hn:(lines++more).Nodup) (ab:20000<=(lines++more).length):qv (calJ ca) s0 4:=by
 have E:∀q∈lines++more++[p],Rch (calJ ca) s0 (lnW W q)/\LnOk W q:=λq D=>by
  have pr:∀q,kh W (calJ ca) ln q->Rch (calJ ca) s0 (lnW W q)/\LnOk W q:=λq D=>by
   obtain⟨h1,h2,_⟩:=Gk hS (h.ok ln hl) D (h.rch ln hl) hc;exact⟨h1,h2⟩
  rcases dQ.1 D with D|D
  ·rcases dQ.1 D with D|D
   ·exact⟨h.rch q D,h.ok q D⟩
   ·exact pr q (hm q D)
  ·rw[dR.1 D];exact pr p hp
 have hnd:(lines++more++[p]).Nodup:=lE.2 ⟨hn,by simp,λa ha b O=>by
  rw[dR.1 O];rintro rfl;exact G ha⟩
 refine .inl ⟨rfl,(lines++more++[p]).map (lnW W),?_,λs hs=>?_,by rw[dP,lLa];simp only[dX,ee];omega⟩
 ·rw[List.nodup_iff_pairwise_ne,kD];exact hnd.imp_of_mem λ{a b} ha O J he=>J (Fl hS.srt (E a ha).2 (E b O).2 he)
 ·obtain⟨q,D,rfl⟩:=dH.1 hs;exact (E q D).1
end Go.Proofs.Tryz
namespace Go.Proofs.Tryz
open Go Go.Iv
set_option maxRecDepth 4000
variable (gl:Nat->Option IV)
noncomputable abbrev spW (s:Sq):List Fm:=setF (eZ (s.l++s.r))
def zT {ca:Nat}{s:Sq}(h:en ca s=true):s.l.length<=64/\s.r.length<=64:=by
 unfold en at h;simp only[bAt,dTe] at h;exact⟨h.1.1.1.1.2,h.1.1.1.2⟩
def zU (G:Gl gl)(ca:Nat)(s:Sq)(x:IV)(hx:IsSq s x)(hs:fY s)(st:ISt) :
  ICall prog gl 89 [.raw (.int .u8 (ca:Int)),x] st (λr st' =>
   (¬ (ca=1\/ca=2)/\r=.tup [.raw (.pointer none),(2:Int)]/\st'=st)\/((ca=1\/ca=2)/\en ca s=false/\r=.tup [.raw (.pointer none),(190:Int)]/\st'=st) \/
   ((ca=1\/ca=2)/\en ca s=true/\∃m tw xw,st m=none/\okEs tw 4/\IsFms (spW s) xw/\r=.tup [spI ca tw xw m,(0:Int)]/\st'=st.put m (some (.map .pl [])))):=by
 have hv:=λst=>uO gl G ca s x hx hs st;have hn:=OG gl ca s x hx;obtain⟨t1,x1,t2,x2,rfl,e1,i1,e2,i2⟩:=id hx;refine iI func89 ?_;by_cases h1:ca=1
 ·have E:decide ((ca:Int)=1)=true:=dEt (by omega);have hc:ca=1\/ca=2:=.inl h1;simp only[go_sem,zE,zA,zL,reduceCtorEq,E];refine (hv _).q ?_;rcases Bool.eq_false_or_eq_true (en ca s) with D|D
  ·obtain⟨_,aa,_,_⟩:=qG (ca:=ca) (s:=s) hc D;simp only[go_sem,zE,zA,zL,reduceCtorEq,show Value.bool (en ca s)=.bool true by rw[D]];refine (hn (dN aa (by omega)) _).mono ?_;rintro _ _ ⟨m,tw,xw,hm,O,J,rfl,rfl⟩;simp only[go_sem,zE];exact c_ (.inr (.inr ⟨hc,D,m,tw,xw,hm,O,J,rfl,rfl⟩))
  ·simp only[go_sem,zE,show Value.bool (en ca s)=.bool false by rw[D]];exact c_ (.inr (.inl ⟨hc,D,rfl,rfl⟩))
 ·have E:decide ((ca:Int)=1)=false:=dEf (by omega);by_cases h2:ca=2
  ·have ab:decide ((ca:Int)=2)=true:=dEt (by omega);have hc:ca=1\/ca=2:=.inr h2;simp only[go_sem,zE,zA,zL,reduceCtorEq,E,ab];refine (hv _).q ?_;rcases Bool.eq_false_or_eq_true (en ca s) with D|D
   ·obtain⟨_,aa,_,_⟩:=qG (ca:=ca) (s:=s) hc D;simp only[go_sem,zE,zA,zL,reduceCtorEq,show Value.bool (en ca s)=.bool true by rw[D]];refine (hn (dN aa (by omega)) _).mono ?_;rintro _ _ ⟨m,tw,xw,hm,O,J,rfl,rfl⟩;simp only[go_sem,zE];exact c_ (.inr (.inr ⟨hc,D,m,tw,xw,hm,O,J,rfl,rfl⟩))
   ·simp only[go_sem,zE,show Value.bool (en ca s)=.bool false by rw[D]];exact c_ (.inr (.inl ⟨hc,D,rfl,rfl⟩))
  ·have ab:decide ((ca:Int)=2)=false:=dEf (by omega);simp only[go_sem,zE,reduceCtorEq,E,ab];exact c_ (.inl ⟨by omega,rfl,rfl⟩)
def OP:mapI prog 115=some (.str,.raw (.int .i32 0)):=by kernel_rfl
open Classical in
noncomputable def runF (W:List Fm)(j:Bool):Nat->Nat->List Ln->Nat
 | 0,_,_=>0
 | q+1,n,ls=>match ls[n]? with
  | none=>0
  | some ln=>if clN W ln then runF W j q (n+1) ls else if (expF (mvsN W j ln) ls).2=0 then runF W j q (n+1) (expF (mvsN W j ln) ls).1 else (expF (mvsN W j ln) ls).2
noncomputable def errN (ca:Nat)(s:Sq):Nat:=if ca=1\/ca=2 then (if en ca s=true then runF (spW s) (calJ ca) 20001 0 [lp (spW s) (s.l,s.r)] else 190) else 2
def ExplR (ca:Nat)(s:Sq)(st:ISt)(r:IV)(st':ISt):Prop :=
 (¬ (ca=1\/ca=2)/\r=.tup [.raw (.pointer none),(2:Int)]/\st'=st)\/((ca=1\/ca=2)/\en ca s=false/\r=.tup [.raw (.pointer none),(190:Int)]/\st'=st) \/
 ((ca=1\/ca=2)/\en ca s=true/\((∃e,(qv (calJ ca) (nf (s.l,s.r)) e/\e=errN ca s)/\r=.tup [.raw (.pointer none),(e:Int)]/\st'=st) \/
  ∃m tw xw rb mN lines links,okEs tw 4/\IsFms (spW s) xw/\r=.tup [ptr rb,(0:Int)]/\RS ca m (spW s) tw xw rb mN st st' lines links/\ExS ca (spW s) (nf (s.l,s.r)) lines links/\links.length=lines.length/\errN ca s=0))
def RS.link {ca m:Nat}{W:List Fm}{tw:Tag}{xw:List IV}{rb mN:Nat}{S0 st st':ISt}{lines:List Ln}{links:List (List Lk)}(h:RS ca m W tw xw rb mN S0 st lines links){tl tk:Tag}{xl xk:List IV}{l:List Lk}{x:IV}(hx:vu l x)
  (G:st rb=some (.box [spI ca tw xw m,.sl tl xl,.raw (.map (some mN)),.sl tk xk,()])) (aa:AllR IsLn lines xl) (ae:own st tl lines.length 2 S0) (ab:AllR vu links xk) {D:Tag} (af:own st' D (links.length+1) 1 S0) (O:subSt S0 st') (E:keepF 1 st st') :
  RS ca m W tw xw rb mN S0 (st'.put rb (some (.box [spI ca tw xw m,.sl tl xl,.raw (.map (some mN)),.sl D (xk++[x]),()]))) lines (links++[l]):=by
 obtain⟨aj,J,ai⟩:=h.sp;have hn:=h.num;have h1:rb≠m:=by rintro rfl;rw[G] at J;cases J
 have h2:rb≠mN:=by rintro rfl;rw[G] at hn;cases hn
 have ac:=E rb _ G (λn h=>by cases h);have put:∀ {t:Tag} {n k:Nat},own st' t n k S0->own (st'.put rb (some (.box [spI ca tw xw m,.sl tl xl,.raw (.map (some mN)),.sl D (xk++[x]),()]))) t n k S0:=λho=>ho.mono λg hg _=>by
  rw[dz λe=>by rw[e,ac] at hg;cases hg];exact hg
 refine⟨⟨tl,xl,D,_,b_ ..,aa,put (E.own ae (by decide)),ab.snoc hx,by rw[lLa];exact put af⟩,?_,⟨aj,?_,ai⟩,eG O h.off.1,h.off,h.ok,h.nd⟩
 ·rw[dz h2.symm];exact E _ _ hn λn h=>by cases h
 ·rw[dz h1.symm];exact E _ _ J λn h=>by cases h
def OQ (G:Gl gl)(T:Gt gl)(ca:Nat)(s:Sq)(x:IV)(hx:IsSq s x)(hs:fY s)(st:ISt):ICall prog gl 68 [.raw (.int .u8 (ca:Int)),x] st (ExplR ca s st):=by
 have hb:=λst=>zU gl G ca s x hx hs st;have a1:=hx;obtain⟨t1,x1,t2,x2,rfl,e1,i1,e2,i2⟩:=hx;refine ICall.intro (c:=cf prog gl [26] []) func68 rfl (by show _<=76;simp) (by kernel_rfl) ?_;simp only[go_sem,zE,zA,zL,reduceCtorEq];refine (hb _).mono ?_;rintro _ bu (⟨hc,rfl,rfl⟩|⟨hc,hv,rfl,rfl⟩|⟨hc,hv,m,tw,xw,hm,aj,ai,rfl,rfl⟩)
 ·simp only[go_sem,zE,show decide ((2:Int)=0)=false from rfl];exact c_ (show ExplR _ _ _ _ _ from .inl ⟨hc,rfl,rfl⟩)
 ·simp only[go_sem,zE,show decide ((190:Int)=0)=false from rfl];exact c_ (show ExplR _ _ _ _ _ from .inr (.inl ⟨hc,hv,rfl,rfl⟩))
 ·obtain⟨hS,_,ax,ak⟩:=qG hc hv;have an:=zT hv;have O:=zw ak;have aw:=λst=>vh gl T ca m (spW s) tw xw aj ai hS.srt (dN ax (by omega)) s _ a1 ⟨by omega,by omega⟩ ak st;simp only[go_sem,zE,zA,zL,fits,OP,dC];refine λmN=>d_ λaf=>λrb=>d_ λD=>?_;refine (aw _).mono ?_;rintro z _ ⟨hz,rfl⟩;have n1:mN≠m:=by rintro rfl;rw[b_] at af;cases af
  rw[dz n1] at af;have n2:rb≠mN:=by rintro rfl;rw[b_] at D;cases D
  rw[dz n2] at D;have n3:rb≠m:=by rintro rfl;rw[b_] at D;cases D
  rw[dz n3] at D;have bg:RS ca m (spW s) tw xw rb mN st (((st.put m (some (.map .pl []))).put mN (some (.map .str []))).put rb (some (.box [spI ca tw xw m,(),.raw (.map (some mN)),(),()]))) [] [] :=
   ⟨⟨_,_,_,_,b_ ..,AllR.nil,own.nil ..,AllR.nil,own.nil ..⟩,by rw[dz n2.symm,b_];rfl,⟨[],by rw[dz n3.symm,dz n1.symm,b_],(λp hp=>by cases hp)⟩,
    eG (eG (fb hm) af) D,⟨D,af,hm⟩,(λ_ h=>by cases h),jg⟩
  have aJ:=qB (spW s) s.l;have aI:=qB (spW s) s.r;obtain⟨aY,aX⟩:=Gc (dN ax (by omega)) O ⟨dN aJ an.1,dN aI an.2⟩;have bd:=Gb gl ca m (spW s) tw xw rb mN st _ [] [] bg (lp (spW s) (s.l,s.r)) aY aX z hz (ed _);obtain⟨ta,tb,rfl,ea,eb⟩:=id hz;simp only[go_sem,zE,zA];refine bd.mono ?_;rintro _ s1 (⟨n,hn,_⟩|⟨_,⟨aL,_⟩|⟨_,rfl,aN,_⟩⟩)
  ·simp at hn
  ·simp at aL
  ·have aS:ExS ca (spW s) (nf (s.l,s.r)) ([]++[lp (spW s) (s.l,s.r)]) []:=by
    refine⟨⟨_,rfl,vf hS.srt ak⟩,λp hp=>?_,λp hp=>?_,λk l hk=>by simp at hk,by simp⟩
    ·rw[dR.1 hp];exact O
    ·rw[dR.1 hp,vf hS.srt ak];exact .refl
   have aQ:errN ca s=runF (spW s) (calJ ca) 20001 0 ([]++[lp (spW s) (s.l,s.r)]):=by unfold errN;rw[cX hc,cX hv];rfl
   generalize []++[lp (spW s) (s.l,s.r)]=ah at aN aS aQ;simp only[go_sem];refine LoopC.dec 20001 (λq fr st' ds=>∃lines links,q+links.length=20001/\RS ca m (spW s) tw xw rb mN st st' lines links/\ExS ca (spW s) (nf (s.l,s.r)) lines links/\errN ca s=runF (spW s) (calJ ca) q links.length lines/\fr 6=(spI ca tw xw m)/\fr 8=(ptr rb)/\fr 9=(links.length:Int)/\ds=[]) ?_ ?_
   ·simp only[go_sem,zE];exact⟨ah,[],rfl,aN,aS,aQ,rfl⟩
   ·rintro q fr s2 _ ⟨lines,links,hq,hR,hE,hF,f6,f8,f9,rfl⟩;obtain⟨tl,xl,tk,xk,D,ao,aF,aC,ba⟩:=hR.ex;have bA:links.length<=lines.length:=by
     rcases fN lines.length links.length with h|h
     ·obtain⟨a,ha,_⟩:=hE.done lines.length _ (dT h);rw[lA (dG _)] at ha;cases ha
     ·exact h
    have bm:=ao.1;rcases fN links.length lines.length with au|aL
    ·obtain⟨ln,O⟩:=dD au;have av:=lMg O;obtain⟨q,rfl⟩:∃k,q=k+1:=⟨q-1,by have:=hE.len;omega⟩
     simp only[runF,O] at hF;have ag:=hE.ok ln av;obtain⟨z,hz,aA⟩:=ao.2 _ ln O;have bf:=λst=>zJ gl ca m (spW s) hS tw xw aj ai ln ag z aA st;have be:=OB gl G T ca m (spW s) hS ax tw xw aj ai rb mN st s2 lines links hR hE.len links.length ln O ag;obtain⟨ta,tb,rfl,ea,eb⟩:=aA;simp only[go_sem,zE,zB,zA,f6,f8,f9,D,fits,lt_i (show links.length<xl.length by omega),hz,iNn,dB aF.es];intro _;refine (bf _).mono ?_;rintro _ s2 ⟨⟨zf,rfl,aZ⟩,rfl⟩;obtain⟨y1,y2,y3,y4,y5,y6,rfl⟩:=aZ.agg;have aM:=zI (W:=spW s) ag.1;rcases Bool.eq_false_or_eq_true (axW (spW s) ln).isSome with J|J
     ·have E:=aM.1 J;simp only[go_sem,zE,zA,zM,zL,fits,J,f8,D,eh];refine ij ba aC.1 hR.base rfl (by simp[fits,IV.one]) (by simp only;omega) (by omega) λaW s3 w1 w2 w3=>?_;have aa:=w3 rb _ D (λn h=>by cases h);simp only[go_sem,zE,zA,zL,f6,f8,f9,aa];have al:=hE.add hS O (l:=[]) (more:=[]) (.inl ⟨E,rfl⟩) (.inl rfl) (λp hp=>by cases hp) (by rw[ek];exact hE.len);rw[ek] at al;have hk:=hE.len;rw[cX E] at hF;exact⟨q,by omega,lines,links++[[]],by rw[lLa];simp only[dX,ee];omega,hR.link ⟨_,[],rfl,.inl rfl,AllR.nil⟩ D ao aF aC w1 w2 w3,al,by rw[lLa];exact hF,by rw[dL au (by omega),lLa];rfl⟩
     ·have E:¬ clN (spW s) ln:=λh=>by rw[aM.2 h] at J;cases J
      simp only[go_sem,zE,zA,zL,J,f8,f9];refine be.mono ?_;rintro _ s3 (⟨t,ys,L,vs,more,rfl,ht,hys,a7,bb,a8,aH,ay,ac⟩|⟨rfl,aq,ae,ac⟩|⟨rfl,ae,ac,more,p,g1,g2,g3,g4,g5⟩)
      ·obtain⟨br,bp,bs,bq,aa,aB,aE,am,aG⟩:=ay.ex;simp only[go_sem,zE,zA,zM,zL,dC,f8,aa,fits,eh];refine ij aG am.1 ay.base rfl (by simp[fits,IV.one]) (by simp only;omega) (by omega) λaW s4 w1 w2 w3=>?_;have aD:=w3 rb _ aa (λn h=>by cases h);simp only[go_sem,zE,zA,zL,f6,f8,f9,aD];have al:=hE.add hS O (l:=L) (more:=more) (.inr ⟨E,vs,a7,bb⟩) (.inr E) a8 aH;have hk:=hE.len;rw[a_ E,ac,cX rfl] at hF;exact⟨q,by omega,lines++more,links++[L],by rw[lLa];simp only[dX,ee];omega,ay.link ⟨_,ys,rfl,ht,hys⟩ aa aB aE am w1 w2 w3,al,by rw[lLa];exact hF,by rw[dL au (by omega),lLa];rfl⟩
      ·simp only[go_sem,zE,show decide ((5:Int)=0)=false from rfl];exact⟨st,ae,.inr (.inr ⟨hc,hv,.inl ⟨5,⟨hE.no5 hS av E aq,by rw[hF,a_ E,ac];rfl⟩,rfl,rfl⟩⟩)⟩
      ·simp only[go_sem,zE,show decide ((4:Int)=0)=false from rfl];exact⟨st,ae,.inr (.inr ⟨hc,hv,.inl ⟨4,⟨hE.no4 hS av E g1 g2 g3 g4 g5,by rw[hF,a_ E,ac];rfl⟩,rfl,rfl⟩⟩)⟩
    ·have aK:¬ links.length<xl.length:=by omega
     simp only[go_sem,zE,f8,f9,D,dS aK];intro _;have aq:lines[links.length]?=none:=lA (by omega);have bh:errN ca s=0:=by
      rw[hF];cases q with
      | zero=>rfl
      | succ k=>simp only[runF,aq]
     exact c_ (show ExplR _ _ _ _ _ from .inr (.inr ⟨hc,hv,.inr ⟨m,tw,xw,rb,mN,lines,links,aj,ai,rfl,hR,hE,by omega,bh⟩⟩))
end Go.Proofs.Tryz
namespace Go.Proofs.Tryz
open Go Go.Iv
def evK (u:Us)(ps:List Nat):List (Nat×Us):=ps.map λp=>(p,u)
def evL (i:Nat)(l:List Lk):List (Nat×Us):=l.zipIdx.flatMap λD=>evK (i,D.2) D.1.2.2
def evA (links:List (List Lk)):List (Nat×Us):=links.zipIdx.flatMap λD=>evL D.2 D.1
def UsOk (us:List (List Us))(E:List (Nat×Us)):Prop:=∀p u,(usAt us p).count u=E.count (p,u)
def zV {α β:Type} [BEq β] [LawfulBEq β](F:α×Nat->List β)(D:β->Nat)(hF:∀a i,∀x∈F (a,i),D x=i)(b:β):∀(l:List α) (k:Nat),((l.zipIdx k).flatMap F).count b=if k<=D b then ((l[D b-k]?).elim 0 λa=>(F (a,D b)).count b) else 0
 | [],k=>by simp
 | a::l,k=>by
  rw[List.zipIdx_cons,eo,jG,zV F D hF b l (k+1)];by_cases h1:D b=k
  ·rw[a_ (by omega),cX (by omega),h1,fc];rfl
  ·have h0:(F (a,k)).count b=0:=List.count_eq_zero.2 λE=>h1 (hF a k b E);rw[h0,dY];by_cases h2:k<=D b
   ·rw[cX (by omega),cX h2,show D b-k=(D b-(k+1))+1 by omega,gY]
   ·rw[a_ (by omega),a_ h2]
def Gm {α β:Type}(F:α×Nat->List β){l:List α}{i:Nat}{a:α}(h:l[i]?=some a):(l.take (i+1)).zipIdx.flatMap F=(l.take i).zipIdx.flatMap F++F (a,i):=by
 have D:=(lGs h).1;rw[dM h,List.zipIdx_append,ix,dU,dY,Nat.min_eq_left (by omega)];simp
def OR {links:List (List Lk)}{i:Nat}{l:List Lk}(h:links[i]?=some l):evA (links.take (i+1))=evA (links.take i)++evL i l:=Gm _ h
def OS {i j:Nat}{l:List Lk}{k:Lk}(h:l[j]?=some k):evL i (l.take (j+1))=evL i (l.take j)++evK (i,j) k.2.2:=Gm _ h
def OT {u:Us}{ps:List Nat}{q p:Nat}(h:ps[q]?=some p):evK u (ps.take (q+1))=evK u (ps.take q)++[(p,u)]:=by
 unfold evK;rw[dM h,eQ];rfl
def OU (links:List (List Lk))(p:Nat)(u:Us):(evA links).count (p,u)=(lkAt links u).count p:=by
 have hK:∀(u v:Us) (ps:List Nat),(evK v ps).count (p,u)=if v=u then ps.count p else 0:=λu v ps=>by
  unfold evK
  induction ps with
  | nil=>simp
  | cons a ps J =>
   rw[ec,List.count_cons,J,List.count_cons];by_cases h:v=u
   ·subst h;by_cases h2:a=p
    ·simp[h2]
    ·simp[h2]
   ·simp[h]
 have h1:=zV (λG:List Lk×Nat=>evL G.2 G.1) (λx:Nat×Us=>x.2.1) (λa i x D=>by
  obtain⟨E,_,D⟩:=fh.1 D;obtain⟨q,_,rfl⟩:=dH.1 D;rfl) (p,u) links 0
 unfold evA;rw[h1,cX (ed _),gC];unfold lkAt;cases hl:links[u.1]? with
 | none=>simp[]
 | some l =>
  simp only[Option.elim_some,ez];have h2:=zV (λE:Lk×Nat=>evK (u.1,E.2) E.1.2.2) (λx:Nat×Us=>x.2.2) (λa i x D=>by
   obtain⟨q,_,rfl⟩:=dH.1 D;rfl) (p,u) l 0
  unfold evL;rw[h2,cX (ed _),gC];cases O:l[u.2]? with
  | none=>simp[]
  | some k =>
   simp only[Option.elim_some];rw[hK,cX rfl]
def UsOk.nil (n:Nat):UsOk (List.replicate n []) []:=λp u=>by
 have:usAt (List.replicate n []) p=[]:=by
  unfold usAt;rw[lB];split<;>rfl
 rw[this];rfl
def UsOk.add {us:List (List Us)}{E:List (Nat×Us)}(h:UsOk us E){p:Nat}{u:Us}(hp:p<us.length):UsOk (us.set p (usAt us p++[u])) (E++[(p,u)]):=λp' D=>by
 have hs:usAt (us.set p (usAt us p++[u])) p'=if p'=p then usAt us p++[u] else usAt us p':=by
  unfold usAt;rw[gy];by_cases e:p=p'
  ·subst e;simp[hp]
  ·rw[a_ e,a_ λh=>e h.symm]
 rw[hs,jG,<- h p' D];by_cases e:p'=p
 ·subst e;rw[cX rfl,jG];congr 1;by_cases G:u=D
  ·subst G;simp
  ·simp[G]
 ·rw[a_ e];have:[(p,u)].count (p',D)=0:=by simp[Ne.symm e]
  rw[this,iO]
def wsOf (links:List (List Lk)):List (List Nat):=links.map λl=>l.map λk=>k.2.2.length
def Gn {links:List (List Lk)}(u:Us):atW (wsOf links) u=(((links[u.1]?).getD [])[u.2]?).map λk=>k.2.2.length:=by
 unfold atW wsOf;rw[eB];cases links[u.1]? with
 | none=>simp
 | some l=>simp
def Rnd.start {cl:Nat->Prop}{links:List (List Lk)}{hs E:List Nat}(ac:∀l∈links,∀k∈l,k.2.2≠[])(hl:hs.length=links.length)(hh:∀i x,hs[i]?=some x->(x=1/\cl i)\/(x=0/\¬ cl i))(hn:∀i,i∈E↔hs[i]?=some 1)(hnd:E.Nodup):Rnd cl links 2 hs (wsOf links) E:=by
 refine⟨hl,λu x J=>?_,λu hu=>?_,λi x J=>?_,hn,hnd⟩
 ·rw[Gn] at J;obtain⟨k,hk,rfl⟩:=fp.1 J;unfold wt lkAt;rw[hk];simp only[Option.elim_some];rw[List.filter_eq_self.2 λp _=>by simp[htG]]
 ·rw[Gn];unfold lkAt at hu;cases hk:((links[u.1]?).getD [])[u.2]? with
  | none=>rw[hk] at hu;exact absurd rfl hu
  | some k=>exact⟨_,rfl⟩
 ·refine⟨λh0=>?_,λk hk hg=>?_⟩
  ·rcases hh i x J with⟨rfl,hc⟩|⟨rfl,_⟩
   ·exact⟨.inl hc,by omega⟩
   ·omega
  ·obtain rfl|rfl:k=0\/k=1:=by omega
   ·exact hg.elim
   ·have hc:cl i:=by
     rcases hg with hc|⟨lk,D,hp⟩
     ·exact hc
     ·cases G:links[i]? with
      | none=>rw[G] at D;cases D
      | some l =>
       rw[G] at D;cases O:lk.2.2 with
       | nil=>exact absurd O (ac l (lMg G) lk D)
       | cons p ps=>exact (hp p (by rw[O];exact .head _)).elim
    rcases hh i x J with⟨rfl,_⟩|⟨rfl,hn⟩
    ·exact⟨by omega,by omega⟩
    ·exact absurd hc hn
def OV {j r:Bool}{f:Fm}{t:Nat×List Sn}(h:t∈addF j f r):t.2≠[]:=by
 unfold addF at h;split at h
 case h_5=>split at h<;>simp at h<;>(try rcases h with rfl|rfl)<;>(try subst h)<;>simp
 all_goals (first|(simp at h;subst h;simp)|(simp at h))
def OW {W:List Fm}{j:Bool}{ln:Ln}{v:Mv}(h:some v∈mvsN W j ln):v.2.2≠[]:=by
 obtain⟨p,_,h⟩:=fh.1 (Gj h);unfold l9 at h;cases E:W[p.1]? with
 | none=>simp only[E] at h;cases h
 | some f =>
  simp only[E] at h;obtain⟨t,ht,rfl⟩:=dH.1 h;obtain⟨G,D,rfl⟩:=dH.1 ht;have:=OV D;simpa[mvT] using this
def clL (W:List Fm)(lines:List Ln)(i:Nat):Prop:=∃ln,lines[i]?=some ln/\clN W ln
structure LksAll (ca:Nat)(W:List Fm)(lines:List Ln)(links:List (List Lk)):Prop where
 ok:∀ln∈lines,LnOk W ln
 done:∀(k:Nat) (l:List Lk),links[k]?=some l->∃ln,lines[k]?=some ln/\LkS W (calJ ca) lines ln l
 len:links.length=lines.length
def LksAll.lk {ca:Nat}{W:List Fm}{lines:List Ln}{links:List (List Lk)}(h:LksAll ca W lines links)(hS:SpOk ca W){l:List Lk}(hl:l∈links){k:Lk}(hk:k∈l):k.2.2≠[]/\k.2.2.length<=2/\k.1<256/\k.2.1<W.length/\∀p∈k.2.2,p<links.length:=by
 obtain⟨i,hi,rfl⟩:=fR.1 hl;obtain⟨ln,aa,⟨_,h0⟩|⟨_,vs,O,G⟩⟩:=h.done i _ (dT hi)
 ·rw[h0] at hk;cases hk
 ·obtain⟨q,hq,rfl⟩:=fR.1 hk;obtain⟨v,hv⟩:=dD (show q<vs.length by rw[<- G.1];exact hq);obtain⟨k,J,E⟩:=G.2 q v hv;rw[dT hq] at J;cases J;have D:some v∈mvsN W (calJ ca) ln:=by rw[O];exact gh (lMg hv)
  have h2:=vv hS (h.ok ln (lMg aa)) D;refine⟨λe=>OW D (ev (by rw[<- E.2.2.1,e];rfl)),by rw[E.2.2.1];exact h2.2.2.1,by rw[E.1];exact h2.2.1,by rw[E.2.1];exact h2.1,λp hp=>?_⟩;obtain⟨e,he,rfl⟩:=fR.1 hp;obtain⟨p',hp1,_⟩:=E.2.2.2 e _ (dT he);rw[h.len];exact (lGs hp1).1
def LksAll.ht {ca:Nat}{W:List Fm}{lines:List Ln}{links:List (List Lk)}(h:LksAll ca W lines links)(hS:SpOk ca W):∀(n i:Nat) (ln:Ln),lines[i]?=some ln->(htG (clL W lines) links n i↔HtS (calJ ca) n (lnW W ln))
 | 0,_,_,_=>Iff.rfl
 | n+1,i,ln,D=>by
  have hi:=(lGs D).1;have E:=h.ok ln (lMg D);obtain⟨l,hl⟩:=dD (show i<links.length by rw[h.len];exact hi);have ai:clL W lines i↔ClF (lnW W ln).1 (lnW W ln).2:=by
   rw[<- n_ hS.srt E];exact⟨λ⟨a,ha,hc⟩=>by rw[D] at ha;cases ha;exact hc,λhc=>⟨ln,D,hc⟩⟩
  rw[yGs];show (clL W lines i\/∃lk∈(links[i]?).getD [],∀p∈lk.2.2,htG (clL W lines) links n p)↔_;rw[ai,hl,ez];obtain⟨a,ha,hs⟩:=h.done i l hl;rw[D] at ha;cases ha;rcases hs with⟨hc,_⟩|⟨hc,vs,ag,J⟩
  ·exact⟨λ_=>.inl ((n_ hS.srt E).1 hc),λ_=>.inl ((n_ hS.srt E).1 hc)⟩
  ·refine or_congr Iff.rfl ?_;rw[zR hS E ag];constructor
   ·rintro⟨lk,hm,hp⟩;obtain⟨q,hq,rfl⟩:=fR.1 hm;obtain⟨v,hv⟩:=dD (show q<vs.length by rw[<- J.1];exact hq);obtain⟨k,hk,ho⟩:=J.2 q v hv;rw[dT hq] at hk;cases hk;refine⟨mvW W v,gh (lMg hv),λp G=>?_⟩;obtain⟨z,hz,rfl⟩:=dH.1 G;obtain⟨e,he,rfl⟩:=fR.1 hz;have O:e<(l[q]).2.2.length:=by rw[ho.2.2.1];exact he
    obtain⟨p',hp1,hp2⟩:=ho.2.2.2 e _ (dT O);rw[dT he] at hp2;cases hp2;exact (LksAll.ht h hS n _ _ hp1).1 (hp _ (jI O))
   ·rintro⟨m,hm,hp⟩;obtain⟨v,hv,rfl⟩:=dH.1 hm;obtain⟨q,hq,rfl⟩:=fR.1 hv;obtain⟨k,hk,ho⟩:=J.2 q _ (dT hq);refine⟨k,lMg hk,λp G=>?_⟩;obtain⟨e,he,rfl⟩:=fR.1 G;obtain⟨p',hp1,hp2⟩:=ho.2.2.2 e _ (dT he);exact (LksAll.ht h hS n _ _ hp1).2 (hp _ (gh (lMg hp2)))
def LksAll.hF {ca:Nat}{W:List Fm}{lines:List Ln}{links:List (List Lk)}(h:LksAll ca W lines links)(hS:SpOk ca W){i x:Nat}{ln:Ln}(D:lines[i]?=some ln)(E:LstG (clL W lines) links i x):Tryz.hF (calJ ca) (lnW W ln)=x :=
 vc (λh0=>(h.ht hS x i ln D).1 (E.1 h0)) λn G=>E.2 n ((h.ht hS n i ln D).2 G)
def ExS.all {ca:Nat}{W:List Fm}{s0:Sn}{lines:List Ln}{links:List (List Lk)}(h:ExS ca W s0 lines links)(hl:links.length=lines.length):LksAll ca W lines links:=⟨h.ok,h.done,hl⟩
end Go.Proofs.Tryz
namespace Go.Iv
open Go
def zW {esc:List Nat}{dst:Option Nat}{e:TypeId×Bool×Nat×Nat}{tg:Tag}{zs:List IV}{y:IV}{R:Rt}{st S0:ISt}{ds:List Dfd}{n s:Nat}(h:own st tg n s S0)(ab:zs.length=n)(E:subSt S0 st)(he:e.2.2.1=s)
  (hf:fits e.2.1 e.2.2.1 y=true) (af:(n+1)*e.2.2.2<=140737488355328) (aa:n+1<=140737488355328)
  (k:∀O st',own st' O (n+1) s S0->subSt S0 st'->(∀b o,st b=some o->tg.cap≠.app b->st' b=some o)->(∀g,O.cap=.app g->tg.cap=.app g\/st g=none)->R (.val (.sl O (zs++[y]))) st' ds)
  (ae:ic esc dst=false:=by first|rfl|simp[ic]):appV esc dst e tg zs [y] R st ds:=by
 subst ab he;unfold appV;refine⟨by simp[hf],⟨af,aa⟩,?_⟩;have G:∀g,st g=none->∀m,subSt S0 (st.put g (some (.front m e.2.2.1)))/\(∀b o,st b=some o->(st.put g (some (.front m e.2.2.1))) b=some o)/\S0 g=none:=λg D m=>by
  have h0:=j9 E D;refine⟨eG E h0,λb o J=>?_,h0⟩;rw[ISt.put_apply];grind
 rcases h with⟨h0,hc⟩|rfl|⟨g0,rfl,h1,h2⟩
 ·have hz:zs=[]:=ev h0;subst hz;rw[hc];simp only[ae,bFt,dE];intro g D;obtain⟨a1,a2,a3⟩:=G g D 1;exact k _ _ (.inr (.inr ⟨g,rfl,b_ _ _ _,a3⟩)) a1 (λb o J _=>a2 b o J) λg' h=>by cases h;exact .inr D
 ·refine⟨rfl,λg D=>?_⟩;obtain⟨a1,a2,a3⟩:=G g D (zs.length+1);exact k _ _ (.inr (.inr ⟨g,rfl,b_ _ _ _,a3⟩)) a1 (λb o J _=>a2 b o J) λg' h=>by cases h;exact .inr D
 ·refine⟨rfl,h1,λg D=>?_⟩;have ac:S0 g=none:=by
   rcases D with rfl|D
   ·exact h2
   ·exact j9 E D
  refine k _ _ (.inr (.inr ⟨g,rfl,b_ _ _ _,ac⟩)) (eG (eG E h2) ac) (λb o J hn=>?_) λg' h=>?_
  ·have ag:b≠g0:=λe=>hn (by rw[e]);have ai:b≠g:=by
    rintro rfl;rcases D with h|h
    ·exact ag h
    ·rw[h] at J;cases J
   rw[dz ai,dz ag];exact J
  ·cases h;rcases D with rfl|D
   ·exact .inl rfl
   ·exact .inr D
