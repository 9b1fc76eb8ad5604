/- Walks: the moves of a line, handed out o -/
import Derived.Test.YtclkffdkahljeaaGreatDoorQC
set_option linter.all false
open Nat renaming reduceEqDiff → zE,reduceBEq → zB,reduceAdd → zA,reduceMul → zM,reduceLeDiff → zL
namespace Go.Proofs.Tryz
open Go Go.Iv
set_option maxRecDepth 4000
variable (gl:Nat->Option IV)
abbrev Mv:=Nat×Nat×List Ln
def mvN (j:Bool)(ln:Ln)(i:Nat)(t:Tn):Option Mv:=if t.2.any (tooN j ln)=true then none else some (t.1,i,t.2.map (yUv j ln))
noncomputable def yXm (W:List Fm)(j:Bool)(ln:Ln)(p:Nat×Bool):List (Option Mv):=match W[p.1]? with
 | some f=>(yZs W j f p.2).map (mvN j ln p.1)
 | none=>[]
noncomputable def mvsN (W:List Fm)(j:Bool)(ln:Ln):List (Option Mv):=(plcs ln).flatMap (yXm W j ln)
def cutO {α:Type}:List (Option α)->List (Option α)
 | []=>[]
 | none::_=>[none]
 | some a::l=>some a::cutO l
theorem zXz {α:Type}:∀ {l m:List (Option α)},(∀o∈l,o≠none)->cutO (l++m)=l++cutO m
 | [],m,_=>rfl
 | none::l,m,h=>absurd rfl (h none (.head _))
 | some a::l,m,h=>by simp only[List.cons_append,cutO,zXz λo A=>h o (.tail _ A)]
theorem wWo {α:Type}{l:List (Option α)}(h:∀o∈l,o≠none):cutO l=l:=by
 have:=zXz (m:=[]) h;simpa[cutO] using this
theorem vZ4 {α:Type}{l m:List (Option α)}{o:Option α}(h:∀o∈l,o≠none):(cutO (l++o::m))[l.length]?=some o:=by
 rw[zXz h,List.getElem?_append_right (Nat.le_refl _),Nat.sub_self];cases o<;>rfl
theorem wJb {α:Type}{l m:List (Option α)}(h:∀o∈l,o≠none):(cutO (l++none::m)).length=l.length+1:=by
 rw[zXz h,lLa];rfl
def IsMv (v:Mv)(x:IV):Prop:=∃t ys,x=.agg [.raw (.int .u8 (v.1:Int)),.raw (.int .i64 (v.2.1:Int)),.sl t ys]/\okEs t 2/\AllR IsLn v.2.2 ys
def mvA:Option Mv->List IV->Prop
 | some v,a=>∃x,a=[x,.raw (.int .i64 0)]/\IsMv v x
 | none,a=>a=[.agg [.raw (.int .u8 0),.raw (.int .i64 0),.sl ⟨true,.nil,0⟩ []],.raw (.int .i64 5)]
noncomputable def mvX (W:List Fm)(j:Bool)(ln:Ln):Nat->List IV->Prop:=λk a=>∃o,(cutO (mvsN W j ln))[k]?=some o/\mvA o a
def SpSt (ca m:Nat)(W:List Fm)(st:ISt):Prop:=∃es,st m=some (.map .pl es)/\CacheOk ca W es
def SpUp (ca m:Nat)(W:List Fm):Nat->List (Value×IV)->List (Value×IV)->Prop:=λA es es'=>A=m/\(CacheOk ca W es->CacheOk ca W es')
theorem yG7 (W:List Fm)(l:List Fm):(zJt W l).length<=l.length:=by
 have:=zJf (l.map (noW W))
 rwa [List.length_map] at this
theorem xVh (G:Gl gl)(T:Gt gl)(ca m:Nat)(W:List Fm)(hS:SpOk ca W)(bo:W.length<=200000)(tw:Tag)(xw:List IV)(htw:okEs tw 4)(hxw:IsFms W xw)(ln:Ln)(A:LnOk W ln)(x:IV)(hx:IsLn ln x) :
  IterU prog gl 71 [] [.cptr x,.cptr (spI ca tw xw m)] (zW8 (mvX W (calJ ca) ln)) (cutO (mvsN W (calJ ca) ln)).length (λ_=>SpSt ca m W) (SpUp ca m W):=by
 have bj:=yYs A.1.1 A.1.2;have bi:=yYs A.2.1 A.2.2;have aZ:=λst=>xV6 gl ln x hx st;have hp1:=λI=>xQ4 gl ln x hx ⟨by omega,by omega⟩ I;obtain⟨t1,t2,rfl,e1,e2⟩:=hx;rintro y I' S' st ⟨f,fi,aE,rfl,bk,ao⟩ hI aV hy h0;have aX:∀ {k stu},I' k stu->SpSt ca m W stu:=λ{k stu} h=>by
  obtain⟨s0,h1,es,h2,h3⟩:=hI k stu h;exact⟨es,h1 _ _ h2,h3⟩
 change ICall prog gl _ [.fn f fi aE,_,_] st _;refine ICall.intro (c:=cf prog gl [] [] [3]) func71 rfl (by show _<=59;simp) (by kernel_rfl) ?_;simp only[go_sem,zE,zA,fits];refine (aZ _).mono ?_;rintro _ st ⟨rfl,rfl⟩;simp only[go_sem,reduceCtorEq]
 let pre:Nat->List (Option Mv):=λk=>((plcs ln).take k).flatMap (yXm W (calJ ca) ln)
 refine RangeC.intro (plX ln) (plcs ln).length (λk st'=>I' (pre k).length st'/\∀o∈pre k,o≠none) (λe st'=>e=.ret/\(S' st'\/I' (cutO (mvsN W (calJ ca) ln)).length st')) (by simp only[go_sem]) ?_ ⟨h0,λo J=>by cases J⟩ ?_ (hp1 _) ?_ ?_
 ·rintro k a ⟨p,_,rfl⟩;rfl
 ·rintro k _ af ⟨⟨i,r⟩,hp,rfl⟩ ⟨al,aj⟩;obtain⟨es,hm,a8⟩:=aX al;have a6:i<W.length:=by
   have:=lMg hp;unfold plcs at this;rcases List.mem_append.1 this with h|h
   ·obtain⟨i',aD,he⟩:=List.mem_map.1 h;cases he;exact A.1.2 _ aD
   ·obtain⟨i',aD,he⟩:=List.mem_map.1 h;cases he;exact A.2.2 _ aD
  obtain⟨g,hg⟩:=yQ1 a6;have ax:=vJe gl G T ca m W hS tw xw htw hxw i r g hg es a8 af hm;simp only[go_sem,zE,zA,zL,fits];refine ax.mono ?_;rintro _ _ ⟨⟨t,ys,rfl,ht,hys⟩,es',aK,rfl⟩;have aI:=aV (pre k).length af m .pl es es' al hm ⟨rfl,λ_=>aK⟩;have aL:yXm W (calJ ca) ln (i,r)=(yZs W (calJ ca) g r).map (mvN (calJ ca) ln i):=by unfold yXm;rw[hg]
  have ai:∀q tt,(yZs W (calJ ca) g r)[q]?=some tt->∃rest,mvsN W (calJ ca) ln=(pre k++((yZs W (calJ ca) g r).take q).map (mvN (calJ ca) ln i))++mvN (calJ ca) ln i tt::rest:=λq tt hq=>by
   refine⟨((yZs W (calJ ca) g r).drop (q+1)).map (mvN (calJ ca) ln i)++((plcs ln).drop (k+1)).flatMap (yXm W (calJ ca) ln),?_⟩;have h1:plcs ln=(plcs ln).take k++(i,r)::(plcs ln).drop (k+1):=by
    obtain⟨h2,h3⟩:=lGs hp
    conv=>lhs;rw[<- List.take_append_drop k (plcs ln),List.drop_eq_getElem_cons h2,h3]
   have h4:yZs W (calJ ca) g r=(yZs W (calJ ca) g r).take q++tt::(yZs W (calJ ca) g r).drop (q+1):=by
    obtain⟨h2,h3⟩:=lGs hq
    conv=>lhs;rw[<- List.take_append_drop q (yZs W (calJ ca) g r),List.drop_eq_getElem_cons h2,h3]
   unfold mvsN
   conv=>lhs;rw[h1]
   rw[List.flatMap_append,List.flatMap_cons,aL]
   conv=>lhs;rw[h4]
   simp only[List.map_append,List.map_cons,List.append_assoc,List.cons_append,pre]
  have bc:(yZs W (calJ ca) g r).length<=1000:=by
   have:=yGn (ca:=ca) (hS.pf (lMg hg)) r;unfold yZs;rw[List.length_map,<- List.length_map (f:=(·.1)),this];unfold yK3
   repeat' split
   all_goals simp
  simp only[go_sem];intro _;rw[hys.1];refine LoopC.ctr (yZs W (calJ ca) g r).length (λq fr st' ds=>I' ((pre k).length+q) st'/\(∀o∈((yZs W (calJ ca) g r).take q).map (mvN (calJ ca) ln i),o≠none)/\fr 1=.iv (.cptr (.agg [.sl t1 (yQk ln.1),.sl t2 (yQk ln.2)]))/\fr 2=.iv (.cptr (spI ca tw xw m))/\fr 3=.iv (.cptr (.fn f fi aE)) /\
   fr 4=.box [.raw (.int .i64 (i:Int)),.raw (.bool r)]/\fr 17=.iv (.sl t ys)/\fr 18=.iv (.raw (.int .i64 (yZs W (calJ ca) g r).length))/\fr 19=.iv (.raw (.int .i64 (q:Int)))/\ds=[]) ?_ ?_ ?_
  ·simp only[go_sem,zE];exact⟨aI,λ_ h=>h.elim,rfl⟩
  ·rintro q fr av _ aC ⟨ak,ac,f1,f2,f3,f4,f17,f18,f19,rfl⟩;obtain⟨tt,ah⟩:=yQ1 aC;obtain⟨rest,aa⟩:=ai q tt ah;obtain⟨z,aS,t3,zs,rfl,e3,hzs⟩:=hys.2 q tt ah;obtain⟨t0,aG,rfl⟩:=List.mem_map.1 (lMg ah);have aq:∀o∈pre k++((yZs W (calJ ca) g r).take q).map (mvN (calJ ca) ln i),o≠none:=λo J=>(List.mem_append.1 J).elim (aj o) (ac o);have aN:(pre k++((yZs W (calJ ca) g r).take q).map (mvN (calJ ca) ln i)).length=(pre k).length+q:=by rw[lLa,List.length_map,List.length_take];omega
   have J:=vZ4 (l:=pre k++((yZs W (calJ ca) g r).take q).map (mvN (calJ ca) ln i)) (m:=rest) (o:=mvN (calJ ca) ln i (t0.1,t0.2.map (exW W))) aq;rw[<- aa,aN] at J;have hp2:=zU6 aG;have aA:=xY6 aG;simp only[go_sem,zE,zB,zA,zL,f4,f17,f18,f19,lt_i aC,yQ3 ht,iNn,aS,fits];intro _;rw[hzs.1];refine LoopC.ctr (t0.2.map (exW W)).length (λv fr st' ds=>(∃t4 us,fr 7=.box [.raw (.int .u8 (t0.1:Int)),.raw (.int .i64 (i:Int)),.sl t4 us]/\AllR IsLn (((t0.2.map (exW W)).take v).map (yUv (calJ ca) ln)) us/\own st' t4 v 2 av/\subSt av st')/\((t0.2.map (exW W)).take v).any (tooN (calJ ca) ln)=false /\
    fr 1=.iv (.cptr (.agg [.sl t1 (yQk ln.1),.sl t2 (yQk ln.2)]))/\fr 2=.iv (.cptr (spI ca tw xw m))/\fr 3=.iv (.cptr (.fn f fi aE)) /\
    fr 4=.box [.raw (.int .i64 (i:Int)),.raw (.bool r)]/\fr 17=.iv (.sl t ys)/\fr 18=.iv (.raw (.int .i64 (yZs W (calJ ca) g r).length))/\fr 19=.iv (.raw (.int .i64 (q:Int)))/\fr 29=.iv (.sl t3 zs)/\fr 30=.iv (.raw (.int .i64 (t0.2.map (exW W)).length))/\fr 31=.iv (.raw (.int .i64 (v:Int)))/\ds=[]) ?_ ?_ ?_
   ·simp only[go_sem,zE];exact⟨⟨_,_,rfl,AllR.nil,own.nil _ _ _ _ _,subSt.refl _⟩,rfl,f1,f2,f3,f4,f17,f18,f19,rfl⟩
   ·rintro v fr aF _ hv ⟨⟨t4,us,f7,O,ab,D⟩,E,f1,f2,f3,f4,f17,f18,f19,f29,f30,f31,rfl⟩;obtain⟨e,he⟩:=yQ1 hv;obtain⟨ze,aT,aJ⟩:=hzs.2 v e he;obtain⟨p0,a1,rfl⟩:=List.mem_map.1 (lMg he);have bn:=yG7 W p0.1;have bm:=yG7 W p0.2;have bl:=aA p0 a1;have az:=λst=>wQz gl T ca m tw xw ln _ ⟨t1,t2,rfl,e1,e2⟩ (exW W p0) ze aJ ⟨by omega,by omega,by show (zJt W p0.1).length<=_;omega,by show (zJt W p0.2).length<=_;omega,by show p0.1.length<=_;omega,by show p0.2.length<=_;omega⟩ st;obtain⟨t5,t6,rfl,e5,e6⟩:=aJ;simp only[go_sem,zE,zB,zA,zL,f1,f2,f29,f30,f31,lt_i hv,yQ3 e3,iNn,aT,fits];refine (az _).mono ?_;rintro _ aF ⟨⟨b1,b2,b3,b4,rfl,aU⟩,rfl⟩;cases U:tooN (calJ ca) ln (exW W p0) with
    | true =>
     have ae:mvN (calJ ca) ln i (t0.1,t0.2.map (exW W))=none:=by
      unfold mvN;rw[if_pos (List.any_eq_true.2 ⟨_,lMg he,U⟩)]
     rw[ae] at J;have an:=wJb (m:=rest) aq;rw[<- ae,<- aa,aN] at an;have aw:=hy.none (k:=(pre k).length+q) (a:=[.agg [.raw (.int .u8 0),.raw (.int .i64 0),.sl ⟨true,.nil,0⟩ []],.raw (.int .i64 5)]) ⟨none,J,rfl⟩ ak;simp only[go_sem,zE,zA,zL,f3,fits];refine yZ4 ao ((aw.sub D).mono ?_);rintro _ st4 (⟨rfl,h⟩|⟨rfl,h⟩)
     ·simp only[go_sem];exact .inr (an▸h)
     ·simp only[go_sem];exact .inl h
    | false =>
     have A:=aU U;simp only[go_sem,zE,zA,zM,zL,f7,fits,yQ4];have aW:us.length=v:=by rw[O.1,List.length_map,List.length_take];omega
     refine yZy ab aW D rfl (by simp[fits,IV.one]) (by simp only;rw[List.length_map] at hv;omega) (by rw[List.length_map] at hv;omega) λaQ st4 aB ay _=>?_;simp only[go_sem,zE,zA,zL,f1,f2,f3,f4,f7,f17,f18,f19,f29,f30,f31,yQc hv (show (t0.2.map (exW W)).length<=281474976710656 by rw[List.length_map];omega)];refine⟨⟨aQ,_,rfl,?_,aB,ay⟩,?_⟩
     ·rw[yQ7 he,List.map_append];exact O.snoc A
     ·rw[yQ7 he,List.any_append,E];simp[U]
   ·rintro fr aF _ ⟨⟨t4,us,f7,O,ab,D⟩,E,f1,f2,f3,f4,f17,f18,f19,f29,f30,f31,rfl⟩;rw[lTl] at O E;have ae:mvN (calJ ca) ln i (t0.1,t0.2.map (exW W))=some (t0.1,i,(t0.2.map (exW W)).map (yUv (calJ ca) ln)):=by
     unfold mvN;rw[if_neg (by rw[E];simp)]
    have aw:=hy.none (k:=(pre k).length+q) (a:=[.agg [.raw (.int .u8 (t0.1:Int)),.raw (.int .i64 (i:Int)),.sl t4 us],.raw (.int .i64 0)]) ⟨_,J,by rw[ae];exact⟨_,rfl,t4,us,rfl,ab.es,O⟩⟩ ak;simp only[go_sem,zE,zA,zL,f3,f7,f30,f31,yQi (nLi _),fits];refine yZ4 ao ((aw.sub D).mono ?_);rintro _ st4 (⟨rfl,h⟩|⟨rfl,h⟩)
    ·simp only[go_sem,zE,f1,f2,f3,f4,f17,f18,f19,yQc aC (show (yZs W (calJ ca) g r).length<=281474976710656 by omega)];refine⟨h,λo aH=>?_⟩;rw[yQ7 ah,List.map_append] at aH;rcases List.mem_append.1 aH with h1|h1
     ·exact ac o h1
     ·rw[List.mem_singleton.1 h1];show mvN (calJ ca) ln i (t0.1,t0.2.map (exW W))≠none;rw[ae];simp
    ·simp only[go_sem];exact .inl h
  ·rintro fr av _ ⟨ak,ac,f1,f2,f3,f4,f17,f18,f19,rfl⟩;rw[lTl] at ac;have aY:pre (k+1)=pre k++(yZs W (calJ ca) g r).map (mvN (calJ ca) ln i):=by
    simp only[pre];rw[yQ7 hp,List.flatMap_append,List.flatMap_cons,List.flatMap_nil,List.append_nil,aL]
   simp only[go_sem,f18,f19,yQi (nLi _)];rw[aY];refine⟨by rw[lLa,List.length_map];exact ak,λo J=>(List.mem_append.1 J).elim (aj o) (ac o)⟩
 ·rintro af rr ⟨al,aj⟩;have aM:cutO (mvsN W (calJ ca) ln)=mvsN W (calJ ca) ln:=wWo λo J=>aj o (by simp only[pre];rw[lTl];exact J);have aA:(pre (plcs ln).length).length=(mvsN W (calJ ca) ln).length:=by simp only[pre];rw[lTl];rfl
  simp only[go_sem];refine yQ0 (.inl ?_);rw[aM,<- aA];exact al
 ·rintro e af rr ⟨rfl,h⟩;simp only[go_sem];exact yQ0 h.symm
end Go.Proofs.Tryz
namespace Go.Proofs.Tryz
open Go Go.Iv
abbrev Lk:=Nat×Nat×List Nat
abbrev Us:=Nat×Nat
def lkAt (links:List (List Lk))(u:Us):List Nat:=(((links[u.1]?).getD [])[u.2]?).elim [] λk=>k.2.2
def htG (cl:Nat->Prop)(links:List (List Lk)):Nat->Nat->Prop
 | 0,_=>False
 | k+1,i=>cl i\/∃lk∈(links[i]?).getD [],∀p∈lk.2.2,htG cl links k p
theorem zWh {cl:Nat->Prop}{links:List (List Lk)}:∀ {k m i:Nat},htG cl links k i->k<=m->htG cl links m i
 | 0,_,_,h,_=>h.elim
 | k+1,0,_,_,A=>absurd A (by omega)
 | k+1,m+1,i,h,A=>h.imp id λ⟨lk,h1,h2⟩=>⟨lk,h1,λp hp=>zWh (h2 p hp) (by omega)⟩
def LstG (cl:Nat->Prop)(links:List (List Lk))(i h:Nat):Prop:=(0<h->htG cl links h i)/\∀k,htG cl links k i->0<h/\h<=k
def decW (ws:List (List Nat))(u:Us):List (List Nat):=ws.modify u.1 λl=>l.modify u.2 λx=>(x+255)%256
def atW (ws:List (List Nat))(u:Us):Option Nat:=((ws[u.1]?).getD [])[u.2]?
theorem zZo (ws:List (List Nat))(u v:Us):atW (decW ws u) v=if u=v then (atW ws v).map λx=>(x+255)%256 else atW ws v:=by
 unfold atW decW;rw[List.getElem?_modify];obtain⟨a,b⟩:=u;obtain⟨c,d⟩:=v;simp only[Prod.mk.injEq];by_cases h1:a=c
 ·subst h1;cases A:ws[a]? with
  | none=>simp
  | some l =>
   simp only[if_true,Option.getD_some,true_and];by_cases h2:b=d
   ·subst h2;simp
   ·simp[h2]
 ·simp[h1]
abbrev Ss:=List Nat×List (List Nat)×List Nat
def yJc (H:Nat)(S:Ss)(u:Us):Ss :=
 if atW (decW S.2.1 u) u=some 0/\S.1[u.1]?=some 0 then (S.1.set u.1 H,decW S.2.1 u,S.2.2++[u.1]) else (S.1,decW S.2.1 u,S.2.2)
def usAt (us:List (List Us))(p:Nat):List Us:=(us[p]?).getD []
inductive Sett (us:List (List Us)):Nat->List Nat->List (List Nat)->List Nat->List Nat->Prop
 | done (H:Nat) (hs:List Nat) (ws:List (List Nat)):Sett us H hs ws [] hs
 | more {H:Nat} {hs r now:List Nat} {ws:List (List Nat)} (hn:now≠[])
   (h:Sett us (H+1) ((now.flatMap (usAt us)).foldl (yJc H) (hs,ws,[])).1 ((now.flatMap (usAt us)).foldl (yJc H) (hs,ws,[])).2.1 ((now.flatMap (usAt us)).foldl (yJc H) (hs,ws,[])).2.2 r):Sett us H hs ws now r
section
variable (H:Nat)(h0:List Nat)(rem:Us->Nat)
structure Part (U1:List Us)(S:Ss):Prop where
 len:S.1.length=h0.length
 ws:∀u x,atW S.2.1 u=some x->x+U1.count u=rem u
 new:∀i,S.1[i]?=some H↔h0[i]?=some 0/\∃k,(i,k)∈U1/\atW S.2.1 (i,k)=some 0
 old:∀i x,x≠H->(S.1[i]?=some x↔h0[i]?=some x/\¬ (x=0/\∃k,(i,k)∈U1/\atW S.2.1 (i,k)=some 0))
 nx:∀i,i∈S.2.2↔S.1[i]?=some H
 nd:S.2.2.Nodup
variable {H h0 rem}
theorem Part.step {U1:List Us}{S:Ss}{u:Us}(D:Part H h0 rem U1 S)(hH:0<H)(az:∀i:Nat,h0[i]?≠some H)(ah:∀v,rem v<=2)(hc:(U1++[u]).count u<=rem u)(hu:∃x,atW S.2.1 u=some x):Part H h0 rem (U1++[u]) (yJc H S u):=by
 obtain⟨x,hx⟩:=hu;have au:=D.ws u x hx;have aA:(U1++[u]).count u=U1.count u+1:=by simp
 have aw:0<x:=by omega
 have av:=ah u;have hd:atW (decW S.2.1 u) u=some (x-1):=by
  rw[zZo,if_pos rfl,hx,Option.map_some];congr 1;omega
 have ac:∀v,u≠v->atW (decW S.2.1 u) v=atW S.2.1 v:=λv h=>by rw[zZo,if_neg h]
 -- an ak no ai
 have hz:∀i,(∃k,(i,k)∈U1++[u]/\atW (decW S.2.1 u) (i,k)=some 0)↔(∃k,(i,k)∈U1/\atW S.2.1 (i,k)=some 0)\/(i=u.1/\x=1):=by
  intro i;constructor
  ·rintro⟨k,h1,h2⟩;by_cases U:u=(i,k)
   ·subst U;rw[hd] at h2;exact .inr ⟨rfl,by simp at h2;omega⟩
   ·rw[ac _ U] at h2;rcases List.mem_append.1 h1 with h1|h1
    ·exact .inl ⟨k,h1,h2⟩
    ·exact absurd (List.mem_singleton.1 h1).symm U
  ·rintro (⟨k,h1,h2⟩|⟨rfl,rfl⟩)
   ·refine⟨k,List.mem_append_left _ h1,?_⟩;by_cases U:u=(i,k)
    ·subst U;rw[hx] at h2;simp at h2;omega
    ·rw[ac _ U];exact h2
   ·exact⟨u.2,List.mem_append_right _ (List.mem_singleton.2 rfl),hd⟩
 have af:∀v y,atW (decW S.2.1 u) v=some y->y+(U1++[u]).count v=rem v:=λv y hy=>by
  by_cases U:u=v
  ·subst U;rw[hd] at hy;simp at hy;omega
  ·rw[ac _ U] at hy;have:=D.ws v y hy;rw[List.count_append,show[u].count v=0 by simp[U]];exact this
 have ae:(0:Nat)≠H:=by omega
 unfold yJc;by_cases A:atW (decW S.2.1 u) u=some 0/\S.1[u.1]?=some 0
 ·rw[if_pos A];have ab:x=1:=by rw[hd] at A;simp at A;omega
  obtain⟨ag,ay⟩:=(D.old u.1 0 ae).1 A.2;have am:u.1<S.1.length:=(lGs A.2).1;have O:∀i,(S.1.set u.1 H)[i]?=if u.1=i then some H else S.1[i]?:=λi=>by
   rw[List.getElem?_set];simp only[am,if_true]
  refine⟨by simp[D.len],af,λi=>?_,λi y hy=>?_,λi=>?_,?_⟩
  ·simp only[O,hz];by_cases J:u.1=i
   ·subst J;simp[ag,ab]
   ·rw[if_neg J,D.new i];constructor
    ·rintro⟨a,b⟩;exact⟨a,.inl b⟩
    ·rintro⟨a,b|⟨b,_⟩⟩
     ·exact⟨a,b⟩
     ·exact absurd b.symm J
  ·simp only[O,hz];by_cases J:u.1=i
   ·subst J;rw[if_pos rfl];constructor
    ·intro h;exact absurd (Option.some.inj h).symm hy
    ·rintro⟨a,b⟩;rw[ag] at a;exact absurd ⟨(Option.some.inj a).symm,.inr ⟨rfl,ab⟩⟩ b
   ·rw[if_neg J,D.old i y hy];constructor
    ·rintro⟨a,b⟩;refine⟨a,λ⟨c,d⟩=>b ⟨c,?_⟩⟩;rcases d with d|⟨d,_⟩
     ·exact d
     ·exact absurd d.symm J
    ·rintro⟨a,b⟩;exact⟨a,λ⟨c,d⟩=>b ⟨c,.inl d⟩⟩
  ·simp only[O];rw[List.mem_append,List.mem_singleton,D.nx i];by_cases J:u.1=i
   ·subst J;simp
   ·rw[if_neg J];exact⟨λh=>h.elim id λh=>absurd h.symm J,.inl⟩
  ·refine List.nodup_append.2 ⟨D.nd,List.nodup_cons.2 ⟨by simp,List.nodup_nil⟩,λa ha b hb=>?_⟩;rintro rfl;rw[List.mem_singleton] at hb;rw[D.nx,hb,A.2] at ha;exact ae (Option.some.inj ha)
 ·rw[if_neg A];have E:∀i,h0[i]?=some 0->i=u.1->x=1->∃k,(i,k)∈U1/\atW S.2.1 (i,k)=some 0:=by
   intro i h0 J ab;subst J;refine Classical.byContradiction λal=>A ⟨by rw[hd,ab],?_⟩;exact (D.old u.1 0 ae).2 ⟨h0,λh=>al h.2⟩
  refine⟨D.len,af,λi=>?_,λi y hy=>?_,D.nx,D.nd⟩
  ·simp only[hz];rw[D.new i];constructor
   ·rintro⟨a,b⟩;exact⟨a,.inl b⟩
   ·rintro⟨a,b|⟨b,c⟩⟩
    ·exact⟨a,b⟩
    ·exact⟨a,E i a b c⟩
  ·simp only[hz];rw[D.old i y hy];constructor
   ·rintro⟨a,b⟩;refine⟨a,λ⟨c,d⟩=>b ⟨c,?_⟩⟩;rcases d with d|⟨d,e⟩
    ·exact d
    ·exact E i (c▸a) d e
   ·rintro⟨a,b⟩;exact⟨a,λ⟨c,d⟩=>b ⟨c,.inl d⟩⟩
theorem Part.all (O:0<H)(D:∀i:Nat,h0[i]?≠some H)(A:∀v,rem v<=2):∀(U2 U1:List Us) (S:Ss),Part H h0 rem U1 S->(∀v,(U1++U2).count v<=rem v)->(∀u∈U2,∃x,atW S.2.1 u=some x)->Part H h0 rem (U1++U2) (U2.foldl (yJc H) S)
 | [],U1,S,E,_,_=>by simpa using E
 | u::U2,U1,S,E,hc,J=>by
  have h1:=E.step (u:=u) O D A (by have:=hc u;rw[List.count_append,List.count_cons_self] at this;rw[List.count_append];simp;omega) (J u (.head _));have U:∀v,(atW (yJc H S u).2.1 v).isSome=(atW S.2.1 v).isSome:=λv=>by
   have:(yJc H S u).2.1=decW S.2.1 u:=by unfold yJc;split<;>rfl
   rw[this,zZo];split<;>simp
  have:=Part.all O D A U2 (U1++[u]) _ h1 (λ(v:Us)=>by simpa[List.append_assoc] using hc v) λv hv=>by
   obtain⟨x,hx⟩:=J v (.tail _ hv);exact Option.isSome_iff_exists.1 ((U v).trans (by rw[hx];rfl))
  simpa[List.append_assoc] using this
end
section
variable (cl:Nat->Prop)(links:List (List Lk))(us:List (List Us))
open Classical in
noncomputable def wt (k:Nat)(u:Us):Nat:=((lkAt links u).filter λp=>decide (¬ htG cl links k p)).length
structure Rnd (H:Nat)(hs:List Nat)(ws:List (List Nat))(now:List Nat):Prop where
 len:hs.length=links.length
 ww:∀u x,atW ws u=some x->x=wt cl links (H-2) u
 wd:∀u,lkAt links u≠[]->∃x,atW ws u=some x
 ht:∀i x,hs[i]?=some x->(0<x->htG cl links x i/\x<=H-1)/\∀k,k<=H-1->htG cl links k i->0<x/\x<=k
 nw:∀i,i∈now↔hs[i]?=some (H-1)
 nd:now.Nodup
variable {cl links us}
theorem xWs {u:Us}(D:∀p,(usAt us p).count u=(lkAt links u).count p):∀ {A:List Nat},A.Nodup->(A.flatMap (usAt us)).count u=((lkAt links u).filter λp=>decide (p∈A)).length
 | [],_=>by simp[List.filter_eq_nil_iff.2]
 | a::A,h=>by
  have h1:=List.nodup_cons.1 h;rw[List.flatMap_cons,List.count_append,D,xWs D h1.2];generalize lkAt links u=l
  induction l with
  | nil=>rfl
  | cons b l E =>
   simp only[List.filter_cons,List.count_cons,List.mem_cons];by_cases J:b=a
   ·subst J;simp[h1.1];simp at E;omega
   ·by_cases O:b∈A
    ·simp[J,O];simp at E;omega
    ·simp[J,O];simp at E;omega
open Classical in
theorem zWq {α:Type}{p q r:α->Bool}(h1:∀x,p x=true↔q x=true\/r x=true)(h2:∀x,¬ (q x=true/\r x=true)):∀l:List α,(l.filter p).length=(l.filter q).length+(l.filter r).length
 | []=>rfl
 | a::l=>by
  have A:=zWq h1 h2 l;have O:=h1 a;have J:=h2 a;simp only[List.filter_cons];cases hp:p a<;>cases E:q a<;>cases D:r a<;>simp_all<;>omega
theorem wG3 {i:Nat}{lk:Lk}(h:lk∈(links[i]?).getD []):∃k,lkAt links (i,k)=lk.2.2:=by
 obtain⟨k,A⟩:=List.mem_iff_getElem?.1 h;exact⟨k,by simp only[lkAt,A];rfl⟩
theorem uVy {i k:Nat}(h:lkAt links (i,k)≠[]):∃lk∈(links[i]?).getD [],lk.2.2=lkAt links (i,k):=by
 unfold lkAt at h ⊢;cases A:((links[i]?).getD [])[k]? with
 | none=>simp[A] at h
 | some lk=>exact⟨lk,lMg A,by simp[]⟩
theorem xZt {k:Nat}{u:Us}:wt cl links k u=0↔∀p∈lkAt links u,htG cl links k p:=by
 unfold wt;rw[List.length_eq_zero_iff,List.filter_eq_nil_iff];simp
theorem uZs (k:Nat){u:Us}(h:(lkAt links u).length<=2):wt cl links k u<=2:=Nat.le_trans (List.length_filter_le _ _) h
open Classical in
theorem Rnd.next {H:Nat}{hs:List Nat}{ws:List (List Nat)}{A:List Nat}(J:Rnd cl links H hs ws A)(hH:2<=H)(ay:∀p u,(usAt us p).count u=(lkAt links u).count p)(h2:∀u,(lkAt links u).length<=2)(aC:∀u,∀p∈lkAt links u,p<links.length) :
  Rnd cl links (H+1) ((A.flatMap (usAt us)).foldl (yJc H) (hs,ws,[])).1 ((A.flatMap (usAt us)).foldl (yJc H) (hs,ws,[])).2.1 ((A.flatMap (usAt us)).foldl (yJc H) (hs,ws,[])).2.2:=by
 have aD:∀i,i∈A->htG cl links (H-1) i/\¬ htG cl links (H-2) i:=λi hi=>by
  have h:=J.ht i _ ((J.nw i).1 hi);exact⟨(h.1 (by omega)).1,λh'=>by have:=(h.2 (H-2) (by omega) h').2;omega⟩
 have ao:∀i,i<links.length->htG cl links (H-1) i->¬ htG cl links (H-2) i->i∈A:=λi hi h1 E=>by
  obtain⟨x,hx⟩:=yQ1 (l:=hs) (J.len▸hi);have h:=J.ht i x hx;obtain⟨h4,h5⟩:=h.2 (H-1) (Nat.le_refl _) h1;have h6:¬ x<=H-2:=λh6=>E (zWh (h.1 h4).1 h6);exact (J.nw i).2 (by rw[hx];congr 1;omega)
 have aj:∀i:Nat,hs[i]?≠some H:=λi hi=>by
  have:=((J.ht i H hi).1 (by omega)).2;omega
 have D:∀u,wt cl links (H-2) u=wt cl links (H-1) u+(A.flatMap (usAt us)).count u:=λu=>by
  rw[xWs (λp=>ay p u) J.nd];unfold wt;have e:(lkAt links u).filter (λp=>decide (p∈A))=(lkAt links u).filter λp=>decide (htG cl links (H-1) p/\¬ htG cl links (H-2) p):=by
   refine List.filter_congr λp hp=>?_;rw[decide_eq_decide];exact⟨aD p,λh=>ao p (aC u p hp) h.1 h.2⟩
  rw[e];refine zWq (λp=>?_) (λp=>?_) _
  ·simp only[dTe];constructor
   ·intro h;by_cases h1:htG cl links (H-1) p
    ·exact .inr ⟨h1,h⟩
    ·exact .inl h1
   ·rintro (h|h)
    ·exact λh'=>h (zWh h' (by omega))
    ·exact h.2
  ·simp only[dTe];exact λh=>h.1 h.2.1
 have aE:Part H hs (wt cl links (H-2)) [] (hs,ws,[]):=by
  refine⟨rfl,λu x hx=>by rw[J.ww u x hx];rfl,λi=>?_,λi x hx=>?_,λi=>?_,List.nodup_nil⟩
  ·simp[aj i]
  ·simp
  ·simp[aj i]
 have U:∀u∈A.flatMap (usAt us),lkAt links u≠[]:=λu hu h0=>by
  have:=List.count_pos_iff.2 hu;have E:=D u;unfold wt at E;rw[h0] at E;simp at E;omega
 have hP:=Part.all (by omega) aj (λv=>uZs _ (h2 v)) (A.flatMap (usAt us)) [] _ aE (λv=>by rw[List.nil_append];have:=D v;omega) λu hu=>J.wd u (U u hu);rw[List.nil_append] at hP;have O:∀(l:List Us) (S:Ss) v,(atW (l.foldl (yJc H) S).2.1 v).isSome=(atW S.2.1 v).isSome:=λl=>by
  induction l with
  | nil=>intro S v;rfl
  | cons u l ih =>
   intro S v;rw[List.foldl_cons,ih];have:(yJc H S u).2.1=decW S.2.1 u:=by unfold yJc;split<;>rfl
   rw[this,zZo];split<;>simp
 -- aL ax aI aH for am
 have ah:∀i k,(i,k)∈A.flatMap (usAt us)->atW ((A.flatMap (usAt us)).foldl (yJc H) (hs,ws,[])).2.1 (i,k)=some 0->htG cl links H i:=λi k hu hz=>by
  have E:=hP.ws _ _ hz;have h4:=D (i,k);have h5:=xZt.1 (show wt cl links (H-1) (i,k)=0 by omega);obtain⟨lk,ac,he⟩:=uVy (U _ hu);obtain⟨n,hn⟩:∃n,H=n+1:=⟨H-1,by omega⟩
  rw[hn] at h5 ⊢;exact .inr ⟨lk,ac,λp hp=>h5 p (he▸hp)⟩
 have ak:∀i,htG cl links H i->¬ htG cl links (H-1) i->∃k,(i,k)∈A.flatMap (usAt us)/\atW ((A.flatMap (usAt us)).foldl (yJc H) (hs,ws,[])).2.1 (i,k)=some 0:=λi E h4=>by
  obtain⟨n,hn⟩:∃n,H=n+2:=⟨H-2,by omega⟩
  have av:H-1=n+1:=by omega
  have aF:H-2=n:=by omega
  rw[av] at h4;rw[hn] at E;rcases E with E|⟨lk,ac,E⟩
  ·exact absurd (.inl E) h4
  ·obtain⟨k,hk⟩:=wG3 ac;have h5:wt cl links (H-1) (i,k)=0:=xZt.2 λp hp=>by rw[hk] at hp;rw[av];exact E p hp
   have h6:wt cl links (H-2) (i,k)≠0:=λh6=>h4 (.inr ⟨lk,ac,λp hp=>by
    have:=xZt.1 h6 p (by rw[hk];exact hp)
    rwa [aF] at this⟩)
   have h7:=D (i,k);have af:(i,k)∈A.flatMap (usAt us):=List.count_pos_iff.1 (by omega);refine⟨k,af,?_⟩;obtain⟨x,hx⟩:=J.wd _ (U _ af);have h8:=O (A.flatMap (usAt us)) (hs,ws,[]) (i,k);rw[hx] at h8;obtain⟨y,hy⟩:=Option.isSome_iff_exists.1 h8;have:=hP.ws _ _ hy;rw[hy];congr 1;omega
 refine⟨hP.len.trans J.len,λu x hx=>?_,λu hu=>?_,λi x hx=>?_,λi=>?_,hP.nd⟩
 ·have:=hP.ws u x hx;have:=D u;rw[show H+1-2=H-1 by omega];omega
 ·obtain⟨x,hx⟩:=J.wd u hu;have h8:=O (A.flatMap (usAt us)) (hs,ws,[]) u;rw[hx] at h8;exact Option.isSome_iff_exists.1 h8
 ·rw[show H+1-1=H by omega];by_cases an:x=H
  ·subst an;obtain⟨E,k,h4,h5⟩:=(hP.new i).1 hx;refine⟨λ_=>⟨ah i k h4 h5,Nat.le_refl _⟩,λm hm hh=>⟨by omega,?_⟩⟩;refine Classical.byContradiction λaS=>?_;have:=((J.ht i 0 E).2 m (by omega) hh).1;omega
  ·obtain⟨E,h4⟩:=(hP.old i x an).1 hx;obtain⟨h5,h6⟩:=J.ht i x E;refine⟨λh0=>⟨(h5 h0).1,by have:=(h5 h0).2;omega⟩,λm hm hh=>?_⟩;by_cases h7:htG cl links (H-1) i
   ·have h8:=h6 (H-1) (Nat.le_refl _) h7;by_cases aA:m<=H-1
    ·exact h6 m aA hh
    ·exact⟨h8.1,by omega⟩
   ·have aB:m=H:=by
     refine Classical.byContradiction λaO=>h7 (zWh hh (by omega))
    subst aB;have h9:x=0:=by
     rcases Nat.eq_zero_or_pos x with h|h
     ·exact h
     ·exact absurd (zWh (h5 h).1 (h5 h).2) h7
    exact absurd ⟨h9,ak i hh h7⟩ h4
 ·rw[show H+1-1=H by omega];exact hP.nx i
theorem Sett.right {H:Nat}{hs r E:List Nat}{ws:List (List Nat)}(h:Sett us H hs ws E r)(D:Rnd cl links H hs ws E)(hH:2<=H)(ae:∀p u,(usAt us p).count u=(lkAt links u).count p)(h2:∀u,(lkAt links u).length<=2)(O:∀u,∀p∈lkAt links u,p<links.length) :
  r.length=links.length/\∀i x,r[i]?=some x->LstG cl links i x:=by
 induction h with
 | more hn _ ih=>exact ih (D.next hH ae h2 O) (by omega)
 | done H hs ws =>
  refine⟨D.len,λi x hx=>?_⟩;have A:∀i,i<links.length->htG cl links (H-1) i->htG cl links (H-2) i:=λi U h1=>by
   obtain⟨x,hx⟩:=yQ1 (l:=hs) (D.len▸U);obtain⟨h3,h4⟩:=D.ht i x hx;have h5:=h4 (H-1) (Nat.le_refl _) h1;have h6:x≠H-1:=λh6=>by
    have:=(D.nw i).2 (by rw[hx,h6]);cases this
   exact zWh (h3 h5.1).1 (by omega)
  have aa:∀k i,i<links.length->htG cl links k i->htG cl links (H-2) i:=λk=>by
   induction k with
   | zero=>intro i _ h;exact h.elim
   | succ k ih =>
    intro i U h;refine A i U ?_;obtain⟨n,hn⟩:∃n,H=n+2:=⟨H-2,by omega⟩
    rw[hn,show n+2-2=n by omega] at ih;rw[hn];rcases h with h|⟨lk,J,h⟩
    ·exact .inl h
    ·refine .inr ⟨lk,J,λp hp=>ih p ?_ (h p hp)⟩;obtain⟨q,hq⟩:=wG3 J;exact O (i,q) p (by rw[hq];exact hp)
  have U:i<links.length:=by rw[<- D.len];exact (lGs hx).1
  obtain⟨h3,h4⟩:=D.ht i x hx;refine⟨λh0=>(h3 h0).1,λk hk=>?_⟩;by_cases ag:k<=H-1
  ·exact h4 k ag hk
  ·have h5:=h4 (H-2) (by omega) (aa k i U hk);exact⟨h5.1,by omega⟩
end
end Go.Proofs.Tryz
namespace Go.Proofs.Tryz
open Go Go.Iv
set_option maxRecDepth 4000
variable (gl:Nat->Option IV)
theorem zXu:intK prog 21=some .i32:=by kernel_rfl
def IsLk (k:Lk)(x:IV):Prop:=∃p q:Nat,x=.agg [.raw (.int .u8 (k.1:Int)),.raw (.int .u8 (k.2.2.length:Int)),.raw (.int .i32 (k.2.1:Int)),.raw (.int .i32 (p:Int)),.raw (.int .i32 (q:Int))]/\k.2.2=[p,q].take k.2.2.length
def wKe (l:List Lk)(x:IV):Prop:=∃t ys,x=.sl t ys/\okEs t 5/\AllR IsLk l ys
def numE (lines:List Ln):List (Value×IV):=lines.zipIdx.map λp=>(.string (keyB p.1),.raw (.int .i32 (p.2:Int)))
def zU9 (ln:Ln):Prop:=((∀i∈ln.1,i<16777216)/\∀i∈ln.2,i<16777216)/\ln.1.length<256
structure RS (ca m:Nat)(W:List Fm)(tw:Tag)(xw:List IV)(rb mN:Nat)(S0 st:ISt)(lines:List Ln)(links:List (List Lk)):Prop where
 ex:∃tl xl tk xk,st rb=some (.box [spI ca tw xw m,.sl tl xl,.raw (.map (some mN)),.sl tk xk,.sl ⟨true,.nil,0⟩ []])/\AllR IsLn lines xl/\own st tl lines.length 2 S0/\AllR wKe links xk/\own st tk links.length 1 S0
 num:st mN=some (.map .str (numE lines))
 sp:SpSt ca m W st
 base:subSt S0 st
 off:S0 rb=none/\S0 mN=none/\S0 m=none
 ok:∀ln∈lines,zU9 ln
 nd:lines.Nodup
def kQg (rb mN m:Nat)(st st':ISt):Prop:=∀b o,st b=some o->b≠rb->b≠mN->b≠m->(∀n,o≠.front n 2)->st' b=some o
theorem wZ4 (lines:List Ln)(ln:Ln):numE (lines++[ln])=numE lines++[(.string (keyB ln),.raw (.int .i32 (lines.length:Int)))]:=by
 simp[numE,List.zipIdx_append]
theorem xQ9 (lines:List Ln):(numE lines).map (·.1)=lines.map λln=>Value.string (keyB ln):=by
 unfold numE;rw[List.map_map]
 conv=>rhs;rw[<- List.zipIdx_map_fst 0 lines,List.map_map]
 rfl
theorem wVo {lines:List Ln}{n:Nat}{ln:Ln}(h:lines[n]?=some ln):(numE lines)[n]?=some (.string (keyB ln),.raw (.int .i32 (n:Int))):=by
 unfold numE;rw[List.getElem?_map,List.getElem?_zipIdx,h];simp
theorem wG4 {a b:Ln}(D:zU9 a)(A:zU9 b)(h:keyB a=keyB b):a=b:=wW8 D.1 A.1 ⟨D.2,A.2⟩ h
theorem vQ5 {lines:List Ln}(h:∀ln∈lines,zU9 ln)(D:lines.Nodup):((numE lines).map (·.1)).Nodup:=by
 rw[xQ9];refine List.pairwise_map.2 (List.Pairwise.imp_of_mem (λ{a b} O J A E=>A (wG4 (h a O) (h b J) ?_)) D);exact Value.string.inj E
theorem xQa (lines:List Ln):∀p∈numE lines,yQt .str p.1=true:=λp hp=>by
 obtain⟨q,_,rfl⟩:=List.mem_map.1 hp;rfl
theorem wZ5 {lines:List Ln}(h:∀ln∈lines,zU9 ln)(A:lines.Nodup){n:Nat}{ln:Ln}(hl:lines[n]?=some ln):yXo (.string (keyB ln)) (numE lines)=some (.raw (.int .i32 (n:Int))):=by
 obtain⟨x,h1,h2,_⟩:=zY8 (kk:=.str) (key:=.string (keyB ln)) rfl .junk (numE lines) n (xQa lines) (vQ5 h A) (by rw[xQ9,List.getElem?_map,hl];rfl);rw[wVo hl] at h1;rw[h2];exact congrArg some (Prod.mk.inj (Option.some.inj h1)).2.symm
theorem wVn {lines:List Ln}{ln:Ln}(h:∀ln∈lines,zU9 ln)(J:zU9 ln)(D:ln ∉ lines):yXo (.string (keyB ln)) (numE lines)=none/\updI (.string (keyB ln)) (.raw (.int .i32 (lines.length:Int))) (numE lines)=numE (lines++[ln]):=by
 rw[wZ4];refine zY9 (kk:=.str) rfl _ _ (xQa lines) λp hp O=>D ?_;obtain⟨q,A,rfl⟩:=List.mem_map.1 hp;have E:q.1∈lines:=by
  have:=List.mem_map_of_mem (f:=Prod.fst) A
  rwa [List.zipIdx_map_fst] at this
 rwa [<- wG4 (h _ E) J (Value.string.inj O)]
theorem wGj (ca m:Nat)(W:List Fm)(tw:Tag)(xw:List IV)(rb mN:Nat)(S0 st:ISt)(lines:List Ln)(links:List (List Lk))(E:RS ca m W tw xw rb mN S0 st lines links)(ln:Ln)(hk:zU9 ln)(aG:ln.2.length<256)(x:IV)(hx:IsLn ln x)(hll:lines.length<=20000) :
  ICall prog gl 78 [.raw (.pointer (some ⟨rb,0,none⟩)),x] st (λr st' =>
   (∃n:Nat,lines[n]?=some ln/\r=.tup [.raw (.int .i32 (n:Int)),.raw (.int .i64 0)]/\st'=st) \/
   (ln ∉ lines/\((20000<=lines.length/\r=.tup [.raw (.int .i32 0),.raw (.int .i64 4)]/\st'=st) \/
    (lines.length<20000/\r=.tup [.raw (.int .i32 (lines.length:Int)),.raw (.int .i64 0)]/\RS ca m W tw xw rb mN S0 st' (lines++[ln]) links/\kQg rb mN m st st')))):=by
 have am:=λst=>uWh gl ln x hx ⟨by have:=hk.2;omega,by omega⟩ st;obtain⟨t1,t2,rfl,e1,e2⟩:=id hx;obtain⟨tl,xl,tk,xk,ab,hxl,av,hxk,aw⟩:=E.ex;refine ICall.intro (c:=cf prog gl [39,2000042] []) func78 rfl (by show _<=52;simp) (by kernel_rfl) ?_;simp only[go_sem,zE,zA,zL];refine (am _).mono ?_;rintro _ st ⟨rfl,rfl⟩;by_cases hm:ln∈lines
 ·obtain⟨n,hn⟩:=List.mem_iff_getElem?.1 hm;have hf:=wZ5 E.ok E.nd hn;simp only[go_sem,zE,reduceCtorEq,ab,E.num,hf,yG9];exact yQ0 (.inl ⟨n,hn,rfl,rfl⟩)
 ·obtain⟨hf,hu⟩:=wVn E.ok hk hm;have az:=λn:Int=>yJ1 prog 3 21 zVi zXu .i64 n;have U:=hxl.1;by_cases ay:20000<=lines.length
  ·simp only[go_sem,zE,reduceCtorEq,ab,E.num,hf,yW5,U,dEt (show (20000:Int)<=lines.length by omega)];intros;exact yQ0 (.inr ⟨hm,.inl ⟨ay,rfl,rfl⟩⟩)
  ·have hw:IntKind.i32.wrap (lines.length:Int)=(lines.length:Int):=IntWalk.i32_in _ (by omega);simp only[go_sem,zE,zA,zM,zL,reduceCtorEq,ab,E.num,hf,yW5,fits,U,dEf (show ¬ (20000:Int)<=lines.length by omega),az,hw,yQ4];intros;refine yZy av U E.base rfl (by simp[fits,IV.one]) (by simp only;omega) (by omega) λah ag ai aA D=>?_;have O:=D rb _ ab λn h=>by cases h
   have A:=D mN _ E.num λn h=>by cases h
   obtain⟨es,aq,ao⟩:=E.sp;have aa:=D m _ aq λn h=>by cases h
   have ae:mN≠rb:=by rintro rfl;rw[O] at A;cases A
   have ak:m≠rb:=by rintro rfl;rw[O] at aa;cases aa
   have aj:m≠mN:=by rintro rfl;rw[A] at aa;cases aa
   simp only[go_sem,zE,zA,zL,reduceCtorEq,O,yQ5 ae,A,hu];have J:∀b o,ag b=some o->b≠rb->b≠mN->((ag.put rb (some (.box [spI ca tw xw m,.sl ah (xl++[.agg [.sl t1 (yQk ln.1),.sl t2 (yQk ln.2)]]),.raw (.map (some mN)),.sl tk xk,.sl ⟨true,.nil,0⟩ []]))).put mN (some (.map .str (numE (lines++[ln]))))) b=some o:=λb o h h1 h2=>by
    rw[yQ5 h2,yQ5 h1];exact h
   have ac:∀g n k,ag g=some (.front n k)->g≠rb/\g≠mN:=λg n k h=>⟨λh1=>(by rw[h1,O] at h;cases h),λh1=>(by rw[h1,A] at h;cases h)⟩
   refine yQ0 (.inr ⟨hm,.inr ⟨by omega,rfl,⟨⟨ah,_,tk,xk,?_,hxl.snoc hx,?_,hxk,?_⟩,ISt.put_same ..,⟨es,J m _ aa ak aj,ao⟩,yQb (yQb aA E.off.1) E.off.2.1,E.off,?_,?_⟩,λb o h h1 h2 h3 h4=>J b o (D b o h h4) h1 h2⟩⟩)
   ·rw[yQ5 λh=>ae h.symm,ISt.put_same]
   ·rw[lLa];exact ai.mono λg hg _=>J g _ hg (ac g _ _ hg).1 (ac g _ _ hg).2
   ·exact aw.mono λg hg _=>by
     have h2:=D g _ hg λn h=>by cases h
     exact J g _ h2 (ac g _ _ h2).1 (ac g _ _ h2).2
   ·intro a ha;rcases List.mem_append.1 ha with ha|ha
    ·exact E.ok a ha
    ·rw[List.mem_singleton.1 ha];exact hk
   ·refine List.nodup_append.2 ⟨E.nd,List.nodup_cons.2 ⟨by simp,List.nodup_nil⟩,λa ha b hb aB=>?_⟩;rw[List.mem_singleton] at hb;rw[aB,hb] at ha;exact hm ha
theorem _root_.Go.Iv.IterU.of {P:Program}{gl:Nat->Option IV}{g:FuncId}{first A:List IV}{lk:Nat->List IV->ISt->Prop}{len:Nat}{I J:Nat->ISt->Prop}{up:Nat->List (Value×IV)->List (Value×IV)->Prop}(h:IterU P gl g first A lk len I up)(D:∀k st,J k st->I k st):IterU P gl g first A lk len J up :=
 λy I' S' st hf hI O E h0=>h y I' S' st hf (λk stu U=>by obtain⟨s,h1,h2⟩:=hI k stu U;exact⟨s,h1,D k s h2⟩) O E h0
def LkOf (lines:List Ln)(v:Mv)(k:Lk):Prop:=k.1=v.1/\k.2.1=v.2.1/\k.2.2.length=v.2.2.length/\∀(q n:Nat),k.2.2[q]?=some n->∃p,lines[n]?=some p/\v.2.2[q]?=some p
theorem LkOf.app {lines more:List Ln}{v:Mv}{k:Lk}(h:LkOf lines v k):LkOf (lines++more) v k :=
 ⟨h.1,h.2.1,h.2.2.1,λq n A=>by
  obtain⟨p,h1,h2⟩:=h.2.2.2 q n A;exact⟨p,by rw[List.getElem?_append_left (lGs h1).1];exact h1,h2⟩⟩
def LksOf (lines:List Ln)(vs:List Mv)(l:List Lk):Prop:=l.length=vs.length/\∀(i:Nat) (v:Mv),vs[i]?=some v->∃k,l[i]?=some k/\LkOf lines v k
theorem LksOf.app {lines more:List Ln}{vs:List Mv}{l:List Lk}(h:LksOf lines vs l):LksOf (lines++more) vs l:=⟨h.1,λi v hv=>by
 obtain⟨k,h1,h2⟩:=h.2 i v hv;exact⟨k,h1,h2.app⟩⟩
theorem LksOf.snoc {lines:List Ln}{vs:List Mv}{l:List Lk}{v:Mv}{k:Lk}(h:LksOf lines vs l)(J:LkOf lines v k):LksOf lines (vs++[v]) (l++[k]):=by
 refine⟨by simp[h.1],λi b A=>?_⟩;rcases Nat.lt_or_ge i vs.length with E|E
 ·rw[List.getElem?_append_left E] at A;rw[List.getElem?_append_left (by rw[h.1];exact E)];exact h.2 i b A
 ·rw[List.getElem?_append_right E] at A;rw[List.getElem?_append_right (by rw[h.1];exact E),h.1];cases D:i-vs.length with
  | zero=>rw[D] at A;cases A;exact⟨k,rfl,J⟩
  | succ n=>rw[D] at A;simp at A
def yVn (W:List Fm)(j:Bool)(ln p:Ln):Prop:=∃v:Mv,some v∈mvsN W j ln/\p∈v.2.2
theorem wVu {j:Bool}{ln:Ln}{i:Nat}{t:Tn}{v:Mv}(h:mvN j ln i t=some v):v=(t.1,i,t.2.map (yUv j ln))/\t.2.any (tooN j ln)=false:=by
 unfold mvN at h;cases A:t.2.any (tooN j ln)
 ·rw[A] at h;simp at h;exact⟨h.symm,rfl⟩
 ·rw[A] at h;simp at h
theorem zXn {ca:Nat}{W:List Fm}(hS:SpOk ca W){ln:Ln}(ab:LnOk W ln){v:Mv}(h:some v∈mvsN W (calJ ca) ln):v.2.1<W.length/\v.1<256/\v.2.2.length<=2/\∀p∈v.2.2,LnOk W p/\p.1.length<=64/\p.2.length<=64:=by
 obtain⟨⟨i,r⟩,hp,h⟩:=List.mem_flatMap.1 h;unfold yXm at h;cases U:W[i]? with
 | none=>simp only[U] at h;cases h
 | some f =>
  simp only[U] at h;obtain⟨t,ht,h⟩:=List.mem_map.1 h;obtain⟨t0,J,rfl⟩:=List.mem_map.1 ht;obtain⟨rfl,E⟩:=wVu h;have O:=lMg U;refine⟨(lGs U).1,?_,by rw[List.length_map,List.length_map];exact zU6 J,λp hp=>?_⟩
  ·have:t0.1∈yK3 (calJ ca) f.op r:=by rw[<- yGn (hS.pf O) r];exact List.mem_map_of_mem J
   unfold yK3 at this;have key:∀l:List Nat,t0.1∈l->(∀x∈l,x<256)->t0.1<256:=λl h1 h2=>h2 _ h1;refine key _ this ?_
   repeat' split
   all_goals simp
  ·obtain⟨e,he,rfl⟩:=List.mem_map.1 hp;obtain⟨A,aa,rfl⟩:=List.mem_map.1 he;refine⟨xV5 ab (hS.sub O J aa),?_⟩;have D:tooN (calJ ca) ln (exW W A)=false:=by
    cases hq:tooN (calJ ca) ln (exW W A) with
    | false=>rfl
    | true=>rw[List.any_eq_true.2 ⟨_,he,hq⟩] at E;cases E
   unfold tooN at D;rw[Bool.or_eq_false_iff,decide_eq_false_iff_not,decide_eq_false_iff_not] at D;have h1:=zJf (ln.1++(exW W A).1.1);have h2:=zJf (rgtN (calJ ca) ln (exW W A)++(exW W A).1.2);rw[lLa] at h1 h2;have h3:(exW W A).1.1.length<=(exW W A).2.1:=yG7 W A.1;have h4:(exW W A).1.2.length<=(exW W A).2.2:=yG7 W A.2;unfold yUv;simp only;omega
theorem xVu {W:List Fm}(D:W.length<=1000000){ln:Ln}(h:LnOk W ln)(hs:ln.1.length<=64/\ln.2.length<=64):zU9 ln/\ln.2.length<256:=by
 exact⟨⟨⟨λi A=>by have:=h.1.2 i A;omega,λi A=>by have:=h.2.2 i A;omega⟩,by omega⟩,by omega⟩
theorem RS.upm {ca m:Nat}{W:List Fm}{tw:Tag}{xw:List IV}{rb mN:Nat}{S0 st:ISt}{lines:List Ln}{links:List (List Lk)}(h:RS ca m W tw xw rb mN S0 st lines links){kk:KeyK}{es es':List (Value×IV)}(hm:st m=some (.map kk es))(hu:CacheOk ca W es->CacheOk ca W es') :
  RS ca m W tw xw rb mN S0 (st.put m (some (.map kk es'))) lines links:=by
 obtain⟨tl,xl,tk,xk,E,hxl,O,hxk,U⟩:=h.ex;obtain⟨ae,A,aa⟩:=h.sp;rw[A] at hm;cases hm;have h1:rb≠m:=by rintro rfl;rw[E] at A;cases A
 have h2:mN≠m:=by rintro rfl;rw[h.num] at A;cases A
 have J:∀g n k,st g=some (.front n k)->(st.put m (some (.map .pl es'))) g=some (.front n k):=λg n k D=>by
  rw[yQ5 λe=>by rw[e,A] at D;cases D];exact D
 exact⟨⟨tl,xl,tk,xk,by rw[yQ5 h1];exact E,hxl,O.mono λg D _=>J g _ _ D,hxk,U.mono λg D _=>J g _ _ D⟩,by rw[yQ5 h2];exact h.num,⟨es',ISt.put_same ..,hu aa⟩,yQb h.base h.off.2.2,h.off,h.ok,h.nd⟩
theorem RS.elsewhere {ca m:Nat}{W:List Fm}{tw:Tag}{xw:List IV}{rb mN:Nat}{S0 st st':ISt}{lines:List Ln}{links:List (List Lk)}(h:RS ca m W tw xw rb mN S0 st lines links)(hb:subSt S0 st')
  (A:∀b o,st b=some o->b=rb\/b=mN\/b=m\/(∃n,o=.front n 2)\/(∃n,o=.front n 1)->st' b=some o):RS ca m W tw xw rb mN S0 st' lines links:=by
 obtain⟨tl,xl,tk,xk,D,hxl,E,hxk,J⟩:=h.ex;obtain⟨ab,U,aa⟩:=h.sp;exact⟨⟨tl,xl,tk,xk,A _ _ D (.inl rfl),hxl,E.mono λg O _=>A g _ O (.inr (.inr (.inr (.inl ⟨_,rfl⟩)))),hxk,J.mono λg O _=>A g _ O (.inr (.inr (.inr (.inr ⟨_,rfl⟩))))⟩,A _ _ h.num (.inr (.inl rfl)),⟨ab,A _ _ U (.inr (.inr (.inl rfl))),aa⟩,hb,h.off,h.ok,h.nd⟩
theorem zG5 {ca:Nat}{W:List Fm}(hS:SpOk ca W)(E:W.length<=200000){ln:Ln}(A:LnOk W ln):(mvsN W (calJ ca) ln).length<=16000000:=by
 have h1:=yYs A.1.1 A.1.2;have h2:=yYs A.2.1 A.2.2;have O:∀p,(yXm W (calJ ca) ln p).length<=2:=λp=>by
  unfold yXm;cases D:W[p.1]? with
  | none=>simp
  | some f =>
   simp only[List.length_map,yZs];rw[<- List.length_map (f:=(·.1)),yGn (hS.pf (lMg D))];unfold yK3
   repeat' split
   all_goals simp
 have J:∀l:List (Nat×Bool),(l.flatMap (yXm W (calJ ca) ln)).length<=2*l.length:=λl=>by
  induction l with
  | nil=>simp
  | cons a l U=>rw[List.flatMap_cons,lLa,List.length_cons];have:=O a;omega
 have:=J (plcs ln);rw[yUw] at this;unfold mvsN;omega
theorem yV9:tyI prog 21=some (false,1):=by kernel_rfl
def ExpR (ca m:Nat)(W:List Fm)(tw:Tag)(xw:List IV)(rb mN:Nat)(S0:ISt)(lines:List Ln)(links:List (List Lk))(ln:Ln)(r:IV)(st':ISt):Prop :=
 (∃t ys L vs more,r=.tup [.sl t ys,.raw (.int .i64 0)]/\okEs t 5/\AllR IsLk L ys/\mvsN W (calJ ca) ln=vs.map some/\LksOf (lines++more) vs L/\(∀p∈more,yVn W (calJ ca) ln p)/\(lines++more).length<=20000/\RS ca m W tw xw rb mN S0 st' (lines++more) links) \/
 (r=.tup [.sl ⟨true,.nil,0⟩ [],.raw (.int .i64 5)]/\none∈mvsN W (calJ ca) ln/\subSt S0 st') \/
 (r=.tup [.sl ⟨true,.nil,0⟩ [],.raw (.int .i64 4)]/\subSt S0 st'/\∃more p,(∀q∈more,yVn W (calJ ca) ln q)/\yVn W (calJ ca) ln p/\p ∉ lines++more/\(lines++more).Nodup/\20000<=(lines++more).length)
theorem wWi (G:Gl gl)(T:Gt gl)(ca m:Nat)(W:List Fm)(hS:SpOk ca W)(bd:W.length<=200000)(tw:Tag)(xw:List IV)(htw:okEs tw 4)(hxw:IsFms W xw)(rb mN:Nat)(S0 st:ISt)(lines:List Ln)(links:List (List Lk))(hR:RS ca m W tw xw rb mN S0 st lines links)(hll:lines.length<=20000)
  (i:Nat) (ln:Ln) (hi:lines[i]?=some ln) (aC:LnOk W ln) :
  ICall prog gl 79 [.raw (.pointer (some ⟨rb,0,none⟩)),.raw (.int .i64 (i:Int))] st (ExpR ca m W tw xw rb mN S0 lines links ln):=by
 obtain⟨tl,xl,tk,xk,a1,hxl,bx,hxk,cc⟩:=hR.ex;obtain⟨x,bt,hx⟩:=hxl.2 i ln hi;have ce:i<lines.length:=(lGs hi).1;have bB:=λst=>wZf gl m (spI ca tw xw m) x _ rfl ln hx st;have bD:=xVh gl G T ca m W hS bd tw xw htw hxw ln aC x hx;obtain⟨t1,t2,rfl,e1,e2⟩:=id hx;refine ICall.intro (c:=cf prog gl [4,5,6,17,21] [] [2]) func79 rfl (by show _<=68;simp) (by kernel_rfl) ?_;simp only[go_sem,zE,zB,zA,fits];refine λb4=>yQ8 λh4=>λb5=>yQ8 λh5=>λb6=>yQ8 λh6=>?_;have E:b5≠b4:=by rintro rfl;rw[ISt.put_same] at h5;cases h5
 have aA:b6≠b4:=by rintro rfl;rw[yQ5 (λh=>E h.symm),ISt.put_same] at h6;cases h6
 have az:b6≠b5:=by rintro rfl;rw[ISt.put_same] at h6;cases h6
 have aF:st b5=none:=by rw[yQ5 E] at h5;exact h5
 have aE:st b6=none:=by rw[yQ5 az,yQ5 aA] at h6;exact h6
 obtain⟨al,J⟩:∃s,s=((st.put b4 (some (.box [.sl ⟨true,.nil,0⟩ []]))).put b5 (some (.box [.raw (.int .i64 0)]))).put b6 (some (.box [.sl ⟨true,.nil,0⟩ []])):=⟨_,rfl⟩
 have hA:∀b o,st b=some o->al b=some o:=λb o h=>by
  rw[J,yQ5 (λe=>by rw[e,aE] at h;cases h),yQ5 (λe=>by rw[e,aF] at h;cases h),yQ5 (λe=>by rw[e,h4] at h;cases h)];exact h
 have bO:al b4=some (.box [.sl ⟨true,.nil,0⟩ []]):=by rw[J,yQ5 (λh=>aA h.symm),yQ5 (λh=>E h.symm),ISt.put_same]
 have bN:al b5=some (.box [.raw (.int .i64 0)]):=by rw[J,yQ5 (λh=>az h.symm),ISt.put_same]
 have bM:al b6=some (.box [.sl ⟨true,.nil,0⟩ []]):=by rw[J,ISt.put_same]
 have bK:=hR.elsewhere (st':=al) (λb o h=>hA b o (hR.base b o h)) λb o h _=>hA b o h;rw[<- J];have ay:∀ {b:Nat},st b=none->b≠rb/\b≠mN/\b≠m:=λ{b} h=>by
  obtain⟨es,he,_⟩:=hR.sp;exact⟨λe=>(by rw[e,a1] at h;cases h),λe=>(by rw[e,hR.num] at h;cases h),λe=>(by rw[e,he] at h;cases h)⟩
 have k4:=ay h4;have k5:=ay aF;have k6:=ay aE;have z4:=yXi hR.base h4;have z5:=yXi hR.base aF;have z6:=yXi hR.base aE;simp only[go_sem,zA,hA _ _ a1,yQ3 bx.es,iNn,bt];refine (bB _).mono ?_;rintro _ s0 ⟨rfl,rfl⟩;simp only[go_sem,reduceCtorEq];have bb:∀ {l:List (Option Mv)} {o:Option Mv},o∈cutO l->o∈l:=λ{l}=>by
  induction l with
  | nil=>intro o h;exact h
  | cons a l ih =>
   intro o h;cases a with
   | none=>simp only[cutO,List.mem_singleton] at h;rw[h];exact .head _
   | some a =>
    simp only[cutO] at h;rcases List.mem_cons.1 h with h|h
    ·rw[h];exact .head _
    ·exact .tail _ (ih h)
 let EI:Nat->ISt->Prop:=λk s=>∃more vs L t6 ys,(cutO (mvsN W (calJ ca) ln)).take k=vs.map some/\RS ca m W tw xw rb mN S0 s (lines++more) links/\(∀p∈more,yVn W (calJ ca) ln p)/\(lines++more).length<=20000/\LksOf (lines++more) vs L/\AllR IsLk L ys /\
  s b4=some (.box [.sl ⟨true,.nil,0⟩ []])/\s b5=some (.box [.raw (.int .i64 0)])/\s b6=some (.box [.sl t6 ys])/\own s t6 L.length 5 S0
 let ES:Exit->ISt->Prop:=λe s=>e=.ret/\s b4=some (.box [.sl ⟨true,.nil,0⟩ []])/\subSt S0 s/\((s b5=some (.box [.raw (.int .i64 5)])/\none∈mvsN W (calJ ca) ln) \/
  (s b5=some (.box [.raw (.int .i64 4)])/\∃more p,(∀q∈more,yVn W (calJ ca) ln q)/\yVn W (calJ ca) ln p/\p ∉ lines++more/\(lines++more).Nodup/\20000<=(lines++more).length))
 refine RangeU.intro (mvX W (calJ ca) ln) (cutO (mvsN W (calJ ca) ln)).length EI ES (SpUp ca m W) ?_ (by simp only[go_sem]) ?_ ?_ ?_ (bD.of λk s ⟨_,_,_,_,_,_,h,_⟩=>h.sp) ?_ ?_
 ·rintro k s m' kk es es' ⟨more,vs,L,t6,ys,q1,q2,q3,q4,q5,q6,q7,q8,q9,A⟩ hm ⟨rfl,hu⟩;refine⟨more,vs,L,t6,ys,q1,q2.upm hm hu,q3,q4,q5,q6,by rw[yQ5 k4.2.2];exact q7,by rw[yQ5 k5.2.2];exact q8,by rw[yQ5 k6.2.2];exact q9,A.mono λg hg _=>?_⟩;rw[yQ5 λe=>by rw[e,hm] at hg;cases hg];exact hg
 ·rintro k a ⟨o,_,ho⟩;cases o with
  | none=>rw[show a=_ from ho];rfl
  | some v=>obtain⟨x,rfl,_⟩:=ho;rfl
 ·refine⟨[],[],[],_,_,rfl,by rw[List.append_nil];exact bK,λ_ h=>(by cases h),by rw[List.append_nil];exact hll,⟨rfl,λi v h=>(by simp at h)⟩,AllR.nil,bO,bN,bM,own.nil _ _ _ _ _⟩
 ·rintro k a s ⟨o,O,ho⟩ ⟨more,vs,L,t6,ys,q1,q2,q3,q4,q5,q6,q7,q8,q9,A⟩;cases o with
  | none =>
   obtain rfl:a=_:=ho;simp only[go_sem,zE,zA,zL,show decide ((5:Int)=0)=false from rfl,q7,yQ5 E,q8];exact⟨rfl,by rw[yQ5 (λh=>E h.symm),ISt.put_same],yQb (yQb q2.base z4) z5,.inl ⟨ISt.put_same ..,bb (lMg O)⟩⟩
  | some v =>
   obtain⟨xv,rfl,tv,zv,rfl,bu,aX⟩:=ho;have aZ:=bb (lMg O);obtain⟨g1,g2,g3,g4⟩:=zXn hS aC aZ;have bH:=λn:Int=>yJ1 prog 3 21 zVi zXu .i64 n;have hw:IntKind.i32.wrap (v.2.1:Int)=(v.2.1:Int):=IntWalk.i32_in _ (by omega);simp only[go_sem,zE,zA,zL,fits,decide_true,bH,hw];intro _;rw[aX.1];refine LoopC.ctr v.2.2.length (λq fr st' ds=>(∃(D:List Ln) (p0 p1:Nat) (an:List Nat),fr 9=.box [.raw (.int .u8 (v.1:Int)),.raw (.int .u8 (q:Int)),.raw (.int .i32 (v.2.1:Int)),.raw (.int .i32 (p0:Int)),.raw (.int .i32 (p1:Int))]/\an=[p0,p1].take q /\
     RS ca m W tw xw rb mN S0 st' (lines++(more++D)) links/\(∀p∈more++D,yVn W (calJ ca) ln p)/\(lines++(more++D)).length<=20000/\(∀(r n:Nat),an[r]?=some n->∃p,(lines++(more++D))[n]?=some p/\v.2.2[r]?=some p)) /\
    st' b4=some (.box [.sl ⟨true,.nil,0⟩ []])/\st' b5=some (.box [.raw (.int .i64 0)])/\st' b6=some (.box [.sl t6 ys])/\own st' t6 L.length 5 S0 /\
    fr 2=.iv (.cptr (.raw (.pointer (some ⟨rb,0,none⟩))))/\fr 4=.iv (.raw (.pointer (some ⟨b4,0,none⟩)))/\fr 5=.iv (.raw (.pointer (some ⟨b5,0,none⟩)))/\fr 6=.iv (.raw (.pointer (some ⟨b6,0,none⟩))) /\
    fr 38=.iv (.sl tv zv)/\fr 39=.iv (.raw (.int .i64 v.2.2.length))/\fr 40=.iv (.raw (.int .i64 (q:Int)))/\ds=[]) ?_ ?_ ?_
   ·simp only[go_sem,zE];exact⟨⟨[],0,0,[],rfl,rfl,by rw[List.append_nil];exact q2,by rw[List.append_nil];exact q3,by rw[List.append_nil];exact q4,λr n h=>by simp at h⟩,q7,q8,q9,A,rfl⟩
   ·rintro q fr s1 _ hq ⟨⟨D,p0,p1,an,f9,rfl,r2,r3,r4,r5⟩,q7,q8,q9,A,f2,f4,f5,f6,f38,f39,f40,rfl⟩;obtain⟨p,hp⟩:=yQ1 hq;have a7:=lMg hp;obtain⟨g5,g6⟩:=g4 p a7;have bf:yVn W (calJ ca) ln p:=⟨v,aZ,a7⟩
    obtain⟨zq,br,aY⟩:=aX.2 q p hp;obtain⟨bq,bp⟩:=xVu (by omega) g5 g6;have bG:=wGj gl ca m W tw xw rb mN S0 s1 _ links r2 p bq bp zq aY r4;obtain⟨ta,tb,rfl,ea,eb⟩:=aY;have a6:q=0\/q=1:=by omega
    have aq:∀ {n:Nat} {am:List Ln},(lines++(more++am))[n]?=some p->(∀(k:Nat) (a:Ln),(lines++(more++D))[k]?=some a->(lines++(more++am))[k]?=some a)->∀(r n':Nat),([p0,p1].take q++[n])[r]?=some n'->∃p,(lines++(more++am))[n']?=some p/\v.2.2[r]?=some p:=λ{n am} hn ah r n' h=>by
     have U:([p0,p1].take q).length=q:=by rw[List.length_take];simp only[List.length_cons,List.length_nil];omega
     rcases Nat.lt_or_ge r q with hr|hr
     ·rw[List.getElem?_append_left (by omega)] at h;obtain⟨a,bJ,bI⟩:=r5 r n' h;exact⟨a,ah _ _ bJ,bI⟩
     ·rw[List.getElem?_append_right (by omega),U] at h;have bw:r-q=0:=by
       rcases Nat.eq_zero_or_pos (r-q) with h0|h0
       ·exact h0
       ·rw[List.getElem?_eq_none (by simp only[List.length_cons,List.length_nil];omega)] at h;cases h
      rw[bw] at h;cases h;obtain rfl:r=q:=by omega
      exact⟨p,hn,hp⟩
    simp only[go_sem,zE,zB,zA,zL,f2,f38,f39,f40,lt_i hq,yQ3 bu,iNn,br,fits];refine bG.mono ?_;rintro _ s2 (⟨n,hn,rfl,rfl⟩|⟨bA,⟨bF,rfl,rfl⟩|⟨bS,rfl,bL,ao⟩⟩)
    ·rcases a6 with rfl|rfl
     ·simp only[go_sem,zE,zA,zM,zL,f2,f4,f5,f6,f9,f38,f39,f40,decide_true,iNn,show (0<2)=True from eq_true (by decide),yV9,show IntKind.u8.wrap (((0:Nat):Int)+1)=((1:Nat):Int) from rfl,show IntKind.i64.wrap (((0:Nat):Int)+1)=((1:Nat):Int) from rfl];exact⟨⟨D,n,p1,[n],rfl,rfl,r2,r3,r4,aq hn (λ_ _ h=>h)⟩,q7,q8,q9,A⟩
     ·simp only[go_sem,zE,zA,zM,zL,f2,f4,f5,f6,f9,f38,f39,f40,decide_true,iNn,show (1<2)=True from eq_true (by decide),yV9,show IntKind.u8.wrap (((1:Nat):Int)+1)=((2:Nat):Int) from rfl,show IntKind.i64.wrap (((1:Nat):Int)+1)=((2:Nat):Int) from rfl];exact⟨⟨D,p0,n,[p0,n],rfl,rfl,r2,r3,r4,aq hn (λ_ _ h=>h)⟩,q7,q8,q9,A⟩
    ·simp only[go_sem,zE,zL,f4,f5,show decide ((4:Int)=0)=false from rfl,q7,yQ5 E,q8];exact⟨rfl,by rw[yQ5 (λh=>E h.symm),ISt.put_same],yQb (yQb r2.base z4) z5,.inr ⟨ISt.put_same ..,more++D,p,r3,bf,bA,r2.nd,bF⟩⟩
    ·have ba:(lines++(more++(D++[p])))[(lines++(more++D)).length]?=some p:=by
      rw[<- List.append_assoc more,<- List.append_assoc lines,List.getElem?_append_right (Nat.le_refl _),Nat.sub_self];rfl
     have ah:∀(k:Nat) (a:Ln),(lines++(more++D))[k]?=some a->(lines++(more++(D++[p])))[k]?=some a:=λk a h=>by
      rw[<- List.append_assoc more,<- List.append_assoc lines,List.getElem?_append_left (lGs h).1];exact h
     have be:RS ca m W tw xw rb mN S0 s2 (lines++(more++(D++[p]))) links:=by
      rw[<- List.append_assoc more,<- List.append_assoc lines];exact bL
     have bg:∀x∈more++(D++[p]),yVn W (calJ ca) ln x:=λx hx=>by
      rw[<- List.append_assoc] at hx;rcases List.mem_append.1 hx with hx|hx
      ·exact r3 x hx
      ·rw[List.mem_singleton.1 hx];exact bf
     have bh:(lines++(more++(D++[p]))).length<=20000:=by
      rw[<- List.append_assoc more,<- List.append_assoc lines,lLa];simp only[List.length_cons,List.length_nil];omega
     have v4:=ao b4 _ q7 k4.1 k4.2.1 k4.2.2 λn h=>by cases h
     have v5:=ao b5 _ q8 k5.1 k5.2.1 k5.2.2 λn h=>by cases h
     have v6:=ao b6 _ q9 k6.1 k6.2.1 k6.2.2 λn h=>by cases h
     have aO:own s2 t6 L.length 5 S0:=A.mono λg hg _=>by
      obtain⟨b1,bY,b2,bZ,w1,_⟩:=r2.ex;obtain⟨es',w2,_⟩:=r2.sp;exact ao g _ hg (λe=>by rw[e,w1] at hg;cases hg) (λe=>by rw[e,r2.num] at hg;cases hg) (λe=>by rw[e,w2] at hg;cases hg) λn h=>by cases h
     rcases a6 with rfl|rfl
     ·simp only[go_sem,zE,zA,zM,zL,f2,f4,f5,f6,f9,f38,f39,f40,decide_true,iNn,show (0<2)=True from eq_true (by decide),yV9,show IntKind.u8.wrap (((0:Nat):Int)+1)=((1:Nat):Int) from rfl,show IntKind.i64.wrap (((0:Nat):Int)+1)=((1:Nat):Int) from rfl];exact⟨⟨D++[p],_,p1,[_],rfl,rfl,be,bg,bh,aq ba ah⟩,v4,v5,v6,aO⟩
     ·simp only[go_sem,zE,zA,zM,zL,f2,f4,f5,f6,f9,f38,f39,f40,decide_true,iNn,show (1<2)=True from eq_true (by decide),yV9,show IntKind.u8.wrap (((1:Nat):Int)+1)=((2:Nat):Int) from rfl,show IntKind.i64.wrap (((1:Nat):Int)+1)=((2:Nat):Int) from rfl];exact⟨⟨D++[p],p0,_,[p0,_],rfl,rfl,be,bg,bh,aq ba ah⟩,v4,v5,v6,aO⟩
   ·rintro fr s1 _ ⟨⟨D,p0,p1,an,f9,rfl,r2,r3,r4,r5⟩,q7,q8,q9,A,f2,f4,f5,f6,f38,f39,f40,rfl⟩;have U:([p0,p1].take v.2.2.length).length=v.2.2.length:=by rw[List.length_take];simp only[List.length_cons,List.length_nil];omega
    have bs:ys.length=L.length:=q6.1;have ch:(cutO (mvsN W (calJ ca) ln)).length<=16000000:=by
     have h1:∀l:List (Option Mv),(cutO l).length<=l.length:=λl=>by
      induction l with
      | nil=>exact Nat.le_refl _
      | cons a l ih =>
       cases a with
       | none=>simp[cutO]
       | some a=>simp only[cutO,List.length_cons];omega
     exact Nat.le_trans (h1 _) (zG5 hS bd aC)
    have ci:L.length=k:=by
     have h1:=congrArg List.length q1;rw[List.length_take,List.length_map] at h1;have h2:=(lGs O).1;rw[q5.1];omega
    have cd:=(lGs O).1;simp only[go_sem,zE,zA,zM,zL,f6,f9,f39,f40,yQi (nLi _),q9,fits,yQ4];refine yZy A bs r2.base rfl (by simp[fits,IV.one]) (by simp only;omega) (by omega) λaQ s2 w1 w2 w3=>?_;have v4:=w3 b4 _ q7 λn h=>by cases h
    have v5:=w3 b5 _ q8 λn h=>by cases h
    have v6:=w3 b6 _ q9 λn h=>by cases h
    simp only[go_sem,zE,zL,f6,v6];have aD:∀b o,s1 b=some o->b≠b6->(∀n,o≠.front n 5)->(s2.put b6 (some (.box [.sl aQ (ys++[.agg [.raw (.int .u8 (v.1:Int)),.raw (.int .u8 (v.2.2.length:Int)),.raw (.int .i32 (v.2.1:Int)),.raw (.int .i32 (p0:Int)),.raw (.int .i32 (p1:Int))]])]))) b=some o:=λb o h h1 h2=>by
     rw[yQ5 h1];exact w3 b o h h2
    refine⟨more++D,vs++[v],L++[(v.1,v.2.1,[p0,p1].take v.2.2.length)],aQ,_,?_,r2.elsewhere (yQb w2 z6) λb o h ai=>aD b o h ?_ ?_,r3,r4,LksOf.snoc ?_ ⟨rfl,rfl,U,r5⟩,q6.snoc ⟨p0,p1,by rw[U],by rw[U]⟩,?_,?_,ISt.put_same ..,?_⟩
    ·rw[yQ7 O,q1,List.map_append];rfl
    ·rintro rfl;rcases ai with h1|h1|h1|⟨n,h1⟩|⟨n,h1⟩
     ·exact k6.1 h1
     ·exact k6.2.1 h1
     ·exact k6.2.2 h1
     ·rw[q9] at h;rw[h1] at h;cases h
     ·rw[q9] at h;rw[h1] at h;cases h
    ·rintro n rfl;rcases ai with h1|h1|h1|⟨n,h1⟩|⟨n,h1⟩
     ·obtain⟨_,_,_,_,e,_⟩:=r2.ex;rw[h1,e] at h;cases h
     ·rw[h1,r2.num] at h;cases h
     ·obtain⟨_,e,_⟩:=r2.sp;rw[h1,e] at h;cases h
     ·cases h1
     ·cases h1
    ·rw[<- List.append_assoc];exact q5.app
    ·rw[yQ5 λh=>aA h.symm];exact v4
    ·rw[yQ5 λh=>az h.symm];exact v5
    ·rw[lLa];refine w1.mono λg hg _=>?_;rw[yQ5 λe=>by rw[e,v6] at hg;cases hg];exact hg
 ·rintro s rr ⟨more,vs,L,t6,ys,q1,q2,q3,q4,q5,q6,q7,q8,q9,A⟩;rw[lTl] at q1;have bc:mvsN W (calJ ca) ln=vs.map some:=by
   have h1:∀l:List (Option Mv),none ∉ cutO l->cutO l=l:=λl=>by
    induction l with
    | nil=>intro _;rfl
    | cons a l ih =>
     intro h;cases a with
     | none=>exact absurd (.head _) h
     | some a=>simp only[cutO] at h ⊢;rw[ih λh'=>h (.tail _ h')]
   rw[<- q1,h1];rw[q1];simp
  simp only[go_sem,zE,zL,q9,q7,q8,yQ5 E,yQ5 (λh=>E h.symm)];refine yQ0 (.inl ⟨t6,ys,L,vs,more,rfl,A.es,q6,bc,q5,q3,q4,q2.elsewhere (yQb (yQb q2.base z4) z5) λb o h ai=>?_⟩);have hb:∀b',(b'≠rb/\b'≠mN/\b'≠m)->(∃c,s b'=some (.box c))->b≠b':=by
   rintro b' hk ⟨c,hc⟩ rfl;rcases ai with h1|h1|h1|⟨n,h1⟩|⟨n,h1⟩
   ·exact hk.1 h1
   ·exact hk.2.1 h1
   ·exact hk.2.2 h1
   ·rw[hc,h1] at h;cases h
   ·rw[hc,h1] at h;cases h
  rw[yQ5 (hb b5 k5 ⟨_,q8⟩),yQ5 (hb b4 k4 ⟨_,q7⟩)];exact h
 ·rintro e s rr ⟨rfl,w1,w2,ai⟩;rcases ai with⟨w3,w4⟩|⟨w3,w4⟩
  ·simp only[go_sem,zE,w1,w3];exact yQ0 (.inr (.inl ⟨rfl,w4,w2⟩))
  ·simp only[go_sem,zE,w1,w3];exact yQ0 (.inr (.inr ⟨rfl,w2,w4⟩))
theorem uY6 (a b:Fm)(x y:IV)(hx:IsFm a x)(A:IsFm b y)(st:ISt):ICall prog gl 102 [x,y] st (λr st'=>r=.raw (.bool (decide (yZ6 a b=0)))/\st'=st):=by
 have hc:=zQg gl a b x y hx A st;cases a with
 | mk o1 n1 u1 s1 =>
 cases b with
 | mk o2 n2 U s2 =>
 obtain⟨t1,O,t2,J,rfl,_⟩:=hx.mk;obtain⟨t3,E,t4,D,rfl,_⟩:=A.mk;refine iI func102 ?_;simp only[go_sem,zE,zA,zL];refine hc.mono ?_;rintro _ st ⟨rfl,rfl⟩;simp only[go_sem];exact yQ0 ⟨rfl,rfl⟩
theorem wKw {st:ISt}{m b A D:Nat}{M S x y F0 F:Option IObj}(h1:st m=none)(h2:(st.put m M) b=none)(J:((st.put m M).put b S) A=none)(E:(((((st.put m M).put b S).put A x).put A y).put A none) D=none)(hM:M≠none)(hS:S≠none) :
  D≠b/\D≠m/\b≠m/\st D=none/\st b=none/\((((((st.put m M).put b S).put A x).put A y).put A none).put D F0).put D F=((st.put m M).put D F).put b S:=by
 have e1:b≠m:=by rintro rfl;rw[ISt.put_same] at h2;exact hM h2
 rw[yQ5 e1] at h2;have e2:A≠b:=by rintro rfl;rw[ISt.put_same] at J;exact hS J
 rw[yQ5 e2] at J;have e3:A≠m:=by rintro rfl;rw[ISt.put_same] at J;exact hM J
 rw[yQ5 e3] at J;have O:((((st.put m M).put b S).put A x).put A y).put A none=(st.put m M).put b S:=by
  funext c;simp only[ISt.put_apply];by_cases e:c=A
  ·rw[if_pos e,e,if_neg e2,if_neg e3,J]
  ·rw[if_neg e,if_neg e,if_neg e]
 rw[O] at E ⊢;have U:D≠b:=by rintro rfl;rw[ISt.put_same] at E;exact hS E
 rw[yQ5 U] at E;have e5:D≠m:=by rintro rfl;rw[ISt.put_same] at E;exact hM E
 rw[yQ5 e5] at E;refine⟨U,e5,e1,E,h2,?_⟩;rw[yQ9];funext c;simp only[ISt.put_apply];by_cases e:c=D
 ·rw[if_pos e,e,if_neg U,if_pos rfl]
 ·rw[if_neg e,if_neg e]
theorem wQh (f:Fm):1<=(cloF f).length:=by
 cases f with
 | mk o n us sub =>
  rw[cloF,lLa];have:=xKy (.mk o n us sub);omega
theorem xJw:∀l:List Fm,l.length<=(yZb l).length
 | []=>Nat.le_refl _
 | a::l=>by
  rw[yZb,lLa,List.length_cons];have h1:=wQh a;have h2:=xJw l;omega
theorem zWv:∀(a:List Fm)(k:Nat),(yZb (a.take k)).length<=(yZb a).length
 | [],k=>by simp
 | c::a,0=>by simp[yZb]
 | c::a,k+1=>by
  simp only[List.take_succ_cons,yZb,lLa];have:=zWv a k;omega
theorem xJx {cs Z:List IV}{k:Nat}(h:cs.take k=Z):cs=Z++cs.drop k:=by rw[<- h,List.take_append_drop]
theorem zUo {st S s1:ISt}{m b ca:Nat}{W:List Fm}{y:IV}{t:Tag}{z:List IV}(J:st m=none)(h0:∀c o,(st.put m (some (.map .pl []))) c=some o->S c=some o)(h1:∀c o,s1 c=some o->S c=some o/\(st.put m (some (.map .pl []))) c=none)
  (O:s1 b=some (.box [.raw (.int .u8 (ca:Int)),y,.raw (.map (some m))])) (E:OI s1 y (.sl t z)) (ht:okEs t 4) (D:IsFms W z) :
  ∃x s1 s0,LendOk S s1 s0/\OI s1 (ptr b) x/\∃m tw xw,st m=none/\okEs tw 4/\IsFms W xw/\age x=spI ca tw xw m/\s0=st.put m (some (.map .pl [])):=by
 refine⟨.cptr (.agg [.raw (.int .u8 (ca:Int)),.sl t z,.raw (.map (some m))]),s1,_,⟨λc o hc=>(h1 c o hc).1,h0,λc cs hc=>(h1 c _ hc).2⟩,.ptr b _ _ O rfl λi r c A hc=>?_,m,⟨false,t.cap,t.es⟩,ages z,J,?_,D.aged,by simp only[age,ages],rfl⟩
 ·match i,A,hc with
  | 0,A,hc=>cases A;cases hc;exact .refl _
  | 1,A,hc=>cases A;cases hc;exact E
  | 2,A,hc=>cases A;cases hc;exact .refl _
  | i+3,A,hc=>simp at A
 ·exact ht
theorem xG1 (ca:Nat)(s:Sq)(x:IV)(hx:IsSq s x)(hl:(yZb (s.l++s.r)).length<=1000000)(st:ISt) :
  ICall prog gl 68 [.raw (.int .u8 (ca:Int)),x] st (λr st'=>∃m tw xw,st m=none/\okEs tw 4/\IsFms (setF (yZb (s.l++s.r))) xw/\r=spI ca tw xw m/\st'=st.put m (some (.map .pl []))):=by
 refine ICall.fix ?_;have a6:=hx;obtain⟨t1,x1,t2,x2,rfl,e1,i1,e2,i2⟩:=hx;refine ICall.introF (t:=5) (n:=2) (c:=cf prog gl [12,5,6,32,38] []) func68 rfl (by show _<=43;simp) (by show _<43;simp) (by kernel_rfl) ?_;simp only[go_sem,zE,zA,zL,reduceCtorEq,fits];refine λm=>yQ8 λh1=>λb=>yQ8 λh2=>λb5=>yQ8 λh3=>?_;refine⟨b5,ptr b,by simp only[go_sem],ISt.put_same ..,?_⟩;simp only[go_sem,zE,zA,zM,zL,fits];refine λO=>yQ8 λh4=>?_;obtain⟨n1,n2,n3,h5,h6,aw⟩:=wKw (F0:=some (.box [.raw .nilFunc])) (F:=some (.box [colFn b O])) h1 h2 h3 h4 nofun nofun;simp only[go_sem,yJw,show age (ptr b)=ptr b by simp only[age],aw];refine (zUa gl s.l s.r t1 t2 _ x1 x2 (.inr rfl) i1 i2 (by rw[<- lLa];exact Nat.le_trans (xJw _) (Nat.le_trans hl (by omega))) _).mono ?_;rintro _ _ ⟨tc,xc,rfl,aD,D,rfl⟩;simp only[go_sem];intro _;generalize hB:(st.put m (some (.map .pl []))).put O (some (.box [colFn b O]))=B0;have am:B0 O=some (.box [colFn b O]):=by rw[<- hB,ISt.put_same]
 have aC:∀g,B0 g=none->g≠m/\g≠O/\st g=none:=λg A=>by
  rw[<- hB] at A;have g1:g≠O:=by rintro rfl;rw[ISt.put_same] at A;cases A
  rw[yQ5 g1] at A;have g2:g≠m:=by rintro rfl;rw[ISt.put_same] at A;cases A
  rw[yQ5 g2] at A;exact⟨g2,g1,A⟩
 have ae:∀c o,(st.put m (some (.map .pl []))) c=some o->B0 c=some o/\c≠b:=λc o hc=>by
  have c1:c≠b:=by rintro rfl;rw[yQ5 n3,h6] at hc;cases hc
  have c2:c≠O:=by rintro rfl;rw[yQ5 n2,h5] at hc;cases hc
  exact⟨by rw[<- hB,yQ5 c2];exact hc,c1⟩
 refine LoopC.ctr xc.length (λk fr st' ds=>Fo ca m b B0 (yZb ((s.l++s.r).take k)) st'/\fr 5=.iv (.cptr (ptr b))/\fr 6=.iv (ptr O)/\fr 19=.iv (.sl tc xc)/\fr 20=.iv (.raw (.int .i64 xc.length))/\fr 21=.iv (.raw (.int .i64 (k:Int)))/\ds=[]) ?_ ?_ ?_
 ·simp only[go_sem,zE];exact⟨.inl ⟨rfl,rfl⟩,rfl⟩
 ·rintro k fr ac _ aa ⟨an,f5,f6,f19,f20,f21,rfl⟩;rw[D.len] at aa;obtain⟨g,A⟩:=yQ1 aa;obtain⟨z,hz,ak⟩:=D.get A;have aA:(yZb ((s.l++s.r).take k)++cloF g).length<=1000000:=by rw[<- yGi A];exact Nat.le_trans (zWv _ _) hl
  have IHg:=vWw gl g ca m O b z ak B0 ac _ am n1 aA an;have ax:=an.self am n1;cases g with
  | mk og ng ug sg =>
  obtain⟨aY,aU,aX,aT,rfl,bb⟩:=ak.mk;simp only[go_sem,zE,zB,zA,zL,f6,f19,f20,f21,lt_i (show k<xc.length by rw[D.len];exact aa),yQ3 aD,iNn,hz,fits,IV.one];rw[ax];simp only[go_sem];refine IHg.mono ?_;rintro _ ac aH;simp only[go_sem,zE,f5,f6,f19,f20,f21,yQc (show k<xc.length by rw[D.len];exact aa) (show xc.length<=281474976710656 by rw[D.len];exact Nat.le_trans (xJw _) (Nat.le_trans hl (by omega)))];rw[yGi A];exact aH
 ·rintro fr ac _ ⟨hF,f5,f6,f19,f20,f21,rfl⟩;rw[D.len,lTl] at hF;generalize hW:yZb (s.l++s.r)=W at hF hl ⊢;rcases hF with⟨rfl,rfl⟩|⟨g,cap,cs,zs,aB,A,J,aO,ay,aE,hzs,rfl⟩
  ·simp only[go_sem,zE,zA,f5,f20,f21,yQi (nLi _),fits,yUp];refine (xZl gl _ rfl _).mono ?_;rintro _ _ ⟨rfl,rfl⟩;simp only[go_sem,zE,zA,f5,fits];refine (zX8 gl _ _ rfl _).mono ?_;rintro _ _ ⟨⟨t',rfl,av⟩,rfl⟩;simp only[go_sem,zE,zA,zL,f5,fits];rw[yQ9];refine yQ0 (zUo (s1:=ISt.put (λ_=>none) b (some (.box [.raw (.int .u8 (ca:Int)),.sl t' [],.raw (.map (some m))]))) (t:=t') (z:=[]) h1 (λc o hc=>?_) (λc o hc=>?_) (ISt.put_same ..) (.refl _) (.inl av) (by rw[xKw];rfl))
   ·rw[yQ5 (ae c o hc).2];exact (ae c o hc).1
   ·rw[ISt.put_apply] at hc;split at hc
    ·rename_i e;subst e;exact⟨by rw[ISt.put_same];exact hc,by rw[yQ5 n3];exact h6⟩
    ·cases hc
  ·have ab:=xJx aE;have aj:=wGy gl W zs (cs.drop (W.length*4)) hzs (λe=>aB (by rw[e] at hzs;exact List.eq_nil_of_length_eq_zero (by rw[<- hzs.len];rfl))) (by rw[hzs.len];omega) g cap;rw[<- ab,hzs.len] at aj;simp only[go_sem,zE,zA,f5,f20,f21,yQi (nLi _),fits,yUp,yQ5 J.symm];refine (aj _ (ISt.put_same ..)).mono ?_;rintro _ _ ⟨rfl,mm,ys,hms,E,az,-,rfl⟩;have hml:=E.length_eq;have al:=xZq gl 102 (by simp only[go_sem]) (uY6 gl) mm ys (cs.drop (W.length*4)) hms (by omega) g cap (by omega);rw[hml] at al;simp only[go_sem,zE,zA,f5,fits,yQ5 J.symm];refine (al _ (ISt.put_same ..)).mono ?_;rintro _ _ ⟨k,af,U,rfl,rfl,aG,aF,ai,hk,a8,-⟩;simp only[go_sem,zE,zA,zL,f5,fits,yQ5 J.symm];refine yQj rfl ?_;obtain⟨gm,g6,gs⟩:=aC g A;subst hk;rw[yQ9,yQ9,zYg J];have ah:∀z∈U,z.cells.length=4:=λz hz=>by
    obtain⟨a,ha,_⟩:=zZf ai z hz;cases a;obtain⟨_,_,_,_,rfl,_⟩:=ha.mk;rfl
   have bc:af.length=cs.length:=by
    rw[aG,lLa,zXy hms,List.length_drop];omega
   refine yQ0 (zUo (s1:=(ISt.put (λ_=>none) b (some (.box [.raw (.int .u8 (ca:Int)),.raw (.slice (some ⟨g,0,none⟩) U.length cap),.raw (.map (some m))]))).put g (some (.box af))) (t:=⟨true,.app g,4⟩) (z:=U) h1 (λc o hc=>?_) (λc o hc=>?_) (by rw[yQ5 J.symm,ISt.put_same]) ?_ (.inr rfl) (by rw[yVs (xWp _ mm E az)];exact ai))
   ·obtain⟨e1,e2⟩:=ae c o hc;rw[yQ5 (by rintro rfl;rw[A] at e1;cases e1),yQ5 e2];exact e1
   ·rw[ISt.put_apply] at hc;split at hc
    ·rename_i e;subst e;exact⟨by rw[ISt.put_same];exact hc,by rw[yQ5 gm];exact gs⟩
    ·rename_i e;rw[ISt.put_apply] at hc;split at hc
     ·rename_i e';subst e';exact⟨by rw[yQ5 e,ISt.put_same];exact hc,by rw[yQ5 n3];exact h6⟩
     ·cases hc
   ·refine .sl g cap ⟨true,.app g,4⟩ U af rfl (by omega) (by omega) ah (ISt.put_same ..) (by show cap*4<=_;omega) λi r c hr hc=>?_;have hi:=(lGs hc).1;rw[yQn _ ah] at hi;rw[<- aF,List.getElem?_take,if_pos hi,hr] at hc;cases hc;exact .refl _
end Go.Proofs.Tryz
namespace Go.Proofs.Tryz
open Go Go.Iv
theorem yWy (f:Fm):f∈cloF f:=by
 cases f with
 | mk o n us sub =>
  rw[cloF];refine List.mem_append_left _ ?_;unfold yJb;split
  ·simp_all
  ·exact .head _
theorem yJ6 {g:Fm}:∀ {l:List Fm},g∈yZb l↔∃f∈l,g∈cloF f
 | []=>by simp[yZb]
 | a::l=>by simp only[yZb,List.mem_append,yJ6,List.mem_cons];grind
theorem wV2 {o:Nat}{a b g:Fm}(h:g∈yJb (.mk o noN [] [a,b])):g=.mk o noN [] [a,b]\/(o=7/\(g=imF a b\/g=imF b a)):=by
 unfold yJb at h;split at h
 ·rename_i A;cases A;simpa using h
 ·exact .inl (by simpa using h)
theorem zZj {a g:Fm}:g∈cloF (.mk 3 noN [] [a])↔g=.mk 3 noN [] [a]\/g∈cloF a:=by
 simp[cloF,yZb,yJb]
theorem wJh {o:Nat}{a b g:Fm}:g∈cloF (.mk o noN [] [a,b])->g=.mk o noN [] [a,b]\/(o=7/\(g=imF a b\/g=imF b a))\/g∈cloF a\/g∈cloF b:=λh=>by
 simp only[cloF,yZb,List.append_nil,List.mem_append] at h;rcases h with h|h|h
 ·rcases wV2 h with h|h
  ·exact .inl h
  ·exact .inr (.inl h)
 ·exact .inr (.inr (.inl h))
 ·exact .inr (.inr (.inr h))
theorem xGw {o:Nat}{a b g:Fm}(h:g∈cloF a\/g∈cloF b):g∈cloF (.mk o noN [] [a,b]):=by
 simp only[cloF,yZb,List.append_nil,List.mem_append];exact .inr h
theorem vWy {ca:Nat}{f:Fm}(hf:PF f):fmB ca f=true->∀g∈cloF f,fmB ca g=true:=by
 induction hf with
 | atom n=>intro h g A;simp[cloF,yZb,yJb] at A;rw[A];exact h
 | fls=>intro h g A;simp[cloF,yZb,yJb] at A;rw[A];exact h
 | neg _ ih =>
  intro h g A;rcases zZj.1 A with rfl|A
  ·exact h
  ·exact ih (wXv h) g A
 | bin h4 h7 _ _ E D =>
  intro h g A;obtain⟨k1,U,O,J⟩:=wXw ⟨by omega,h4,h7⟩ h;rcases wJh A with rfl|⟨_,rfl|rfl⟩|A|A
  ·exact h
  ·exact O
  ·exact J
  ·exact E k1 g A
  ·exact D U g A
theorem wJi {f:Fm}(hf:PF f):∀g∈cloF f,∀j r,∀t∈addF j g r,∀p∈t.2,(∀x∈p.1,x∈cloF f)/\∀x∈p.2,x∈cloF f:=by
 induction hf with
 | atom n=>intro g A j r t ht;simp[cloF,yZb,yJb] at A;subst A;simp[addF] at ht
 | fls=>intro g A j r t ht;simp[cloF,yZb,yJb] at A;subst A;simp[addF] at ht
 | @neg a _ U =>
  intro g A j r t ht p hp;rcases zZj.1 A with rfl|A
  ·have D:a∈cloF (.mk 3 noN [] [a]):=zZj.2 (.inr (yWy a));cases r<;>simp[addF] at ht<;>subst ht<;>simp at hp<;>subst hp<;>simp[D]
  ·obtain⟨h1,h2⟩:=U g A j r t ht p hp;exact⟨λx hx=>zZj.2 (.inr (h1 x hx)),λx hx=>zZj.2 (.inr (h2 x hx))⟩
 | @bin o a b h4 h7 _ _ O J =>
  intro g A j r t ht p hp;have D:a∈cloF (.mk o noN [] [a,b]):=xGw (.inl (yWy a));have E:b∈cloF (.mk o noN [] [a,b]):=xGw (.inr (yWy b));have imp:∀c d:Fm,c∈cloF (.mk o noN [] [a,b])->d∈cloF (.mk o noN [] [a,b])->t∈addF j (imF c d) r->(∀x∈p.1,x∈cloF (.mk o noN [] [a,b]))/\∀x∈p.2,x∈cloF (.mk o noN [] [a,b]):=λc d hc hd ht=>by
   cases r<;>simp[addF] at ht<;>subst ht<;>simp at hp
   ·rcases hp with rfl|rfl<;>simp[hc,hd]
   ·subst hp;simp[hc,hd]
  rcases wJh A with rfl|⟨_,rfl|rfl⟩|A|A
  ·obtain rfl|rfl|rfl|rfl:o=4\/o=5\/o=6\/o=7:=by omega
   ·cases r<;>simp[addF] at ht<;>subst ht<;>simp at hp
    ·subst hp;simp[D,E]
    ·rcases hp with rfl|rfl<;>simp[D,E]
   ·cases r<;>cases j<;>simp[addF] at ht
    ·subst ht;simp at hp;rcases hp with rfl|rfl<;>simp[D,E]
    ·subst ht;simp at hp;rcases hp with rfl|rfl<;>simp[D,E]
    ·subst ht;simp at hp;subst hp;simp[D,E]
    ·rcases ht with rfl|rfl<;>simp at hp<;>subst hp<;>simp[D,E]
   ·exact imp a b D E ht
   ·have h1:imF a b∈cloF (.mk 7 noN [] [a,b]):=by simp[cloF,yJb]
    have h2:imF b a∈cloF (.mk 7 noN [] [a,b]):=by simp[cloF,yJb]
    cases r<;>simp[addF] at ht<;>subst ht<;>simp at hp
    ·subst hp;simp[h1,h2]
    ·rcases hp with rfl|rfl<;>simp[D,E]
  ·exact imp a b D E ht
  ·exact imp b a E D ht
  ·obtain⟨h1,h2⟩:=O g A j r t ht p hp;exact⟨λx hx=>xGw (.inl (h1 x hx)),λx hx=>xGw (.inl (h2 x hx))⟩
  ·obtain⟨h1,h2⟩:=J g A j r t ht p hp;exact⟨λx hx=>xGw (.inr (h1 x hx)),λx hx=>xGw (.inr (h2 x hx))⟩
theorem wUp (f:Fm):(yJb f).length<=3:=by
 unfold yJb;split<;>simp
mutual
theorem wWx:∀f:Fm,(cloF f).length<=3*f.size
 | .mk o n us sub=>by
  have h1:=wUp (.mk o n us sub);have h2:=zKp sub;simp only[cloF,lLa,Fm.size];omega
theorem zKp:∀l:List Fm,(yZb l).length<=3*yQe l
 | []=>by simp[yZb]
 | a::l=>by
  have h1:=wWx a;have h2:=zKp l;simp only[yZb,lLa,yQe];omega
end
theorem size_le {l:List Fm}{k:Nat}(h:∀f∈l,f.size<=k):yQe l<=l.length*k:=by
 induction l with
 | nil=>simp[yQe]
 | cons a l A =>
  have h1:=h a (.head _);have h2:=A λf D=>h f (.tail _ D);simp only[yQe,List.length_cons,Nat.add_mul,Nat.one_mul];omega
theorem yKi {ca:Nat}{s:Sq}(hc:ca=1\/ca=2)(h:yQo ca s=true) :
  SpOk ca (setF (yZb (s.l++s.r)))/\(yZb (s.l++s.r)).length<=200000/\(setF (yZb (s.l++s.r))).length<=200000/\InW (setF (yZb (s.l++s.r))) (s.l,s.r):=by
 unfold yQo at h;simp only[bAt,dTe,List.all_eq_true] at h;obtain⟨⟨⟨⟨⟨_,hl⟩,hr⟩,ac⟩,ab⟩,_⟩:=h;have E:∀f∈s.l++s.r,fmB ca f=true:=λf D=>(List.mem_append.1 D).elim (ac f) (ab f);have U:ca≠3:=by omega
 have aa:∀f∈s.l++s.r,f.size<=400:=λf D=>by
  have:=E f D;unfold fmB Fm.right at this;simp only[bAt,dTe] at this;exact this.1.1.2
 have h1:=zKp (s.l++s.r);have h2:=size_le aa;rw[lLa] at h2;have h3:(yZb (s.l++s.r)).length<=200000:=by omega
 obtain⟨r,A,ah⟩:=xXo (yZb (s.l++s.r));rw[yVs A];refine⟨⟨hc,A.1,by omega,λf D=>?_,λf D j rr t ht p hp=>?_⟩,h3,by omega,λf D=>?_,λf D=>?_⟩
 ·obtain⟨g,O,J⟩:=yJ6.1 ((A.2 f).1 D);exact vWy (zJn U (E g O)) (E g O) f J
 ·obtain⟨g,O,J⟩:=yJ6.1 ((A.2 f).1 D);obtain⟨k1,k2⟩:=wJi (zJn U (E g O)) f J j rr t ht p hp;exact⟨λx hx=>(A.2 x).2 (yJ6.2 ⟨g,O,k1 x hx⟩),λx hx=>(A.2 x).2 (yJ6.2 ⟨g,O,k2 x hx⟩)⟩
 ·exact (A.2 f).2 (yJ6.2 ⟨f,List.mem_append_left _ D,yWy f⟩)
 ·exact (A.2 f).2 (yJ6.2 ⟨f,List.mem_append_right _ D,yWy f⟩)
end Go.Proofs.Tryz
namespace Go.Proofs.Tryz
open Go Go.Iv
def mvW (W:List Fm)(v:Mv):Nat×Fm×List Sn:=(v.1,(W[v.2.1]?).getD fm0,v.2.2.map (lnW W))
def mvT (j:Bool)(ln:Ln)(i:Nat)(t:Tn):Mv:=(t.1,i,t.2.map (yUv j ln))
noncomputable def yYl (W:List Fm)(j:Bool)(ln:Ln)(p:Nat×Bool):List Mv:=match W[p.1]? with
 | some f=>(yZs W j f p.2).map (mvT j ln p.1)
 | none=>[]
theorem wZh {ca:Nat}{W:List Fm}(hS:SpOk ca W){ln:Ln}(A:LnOk W ln)(j:Bool){i:Nat}{f:Fm}(D:W[i]?=some f)(r:Bool):(yYl W j ln (i,r)).map (mvW W)=yUy j (lnW W ln) r f:=by
 unfold yYl yUy yZs;simp only[D,List.map_map];refine List.map_congr_left λt ht=>?_;simp only[Function.comp,mvT,mvW,D,Option.getD_some,List.map_map];refine Prod.ext rfl (Prod.ext rfl ?_);refine List.map_congr_left λp hp=>?_;exact wVj hS.srt A (hS.full f (lMg D) j r t ht p hp)
theorem xXl {ca:Nat}{W:List Fm}(hS:SpOk ca W){ln:Ln}(A:LnOk W ln)(j r:Bool):∀ {l:List Nat},(∀i∈l,i<W.length)->((l.map λi=>(i,r)).flatMap (yYl W j ln)).map (mvW W)=(fmW W l).flatMap (yUy j (lnW W ln) r)
 | [],_=>rfl
 | i::l,h=>by
  obtain⟨f,D⟩:=yQ1 (h i (.head _));rw[zQa D,List.map_cons,List.flatMap_cons,List.flatMap_cons,List.map_append,wZh hS A j D,xXl hS A j r λk E=>h k (.tail _ E)]
theorem wZc {ca:Nat}{W:List Fm}(hS:SpOk ca W){ln:Ln}(A:LnOk W ln)(j:Bool):((plcs ln).flatMap (yYl W j ln)).map (mvW W)=mvF j (lnW W ln):=by
 unfold plcs mvF;rw[List.flatMap_append,List.map_append,xXl hS A j false A.1.2,xXl hS A j true A.2.2];rfl
theorem wZi {W:List Fm}{j:Bool}{ln:Ln}{p:Nat×Bool}{v:Mv}(h:some v∈yXm W j ln p):v∈yYl W j ln p:=by
 unfold yXm at h;unfold yYl;cases D:W[p.1]? with
 | none=>simp only[D] at h;cases h
 | some f =>
  simp only[D] at h ⊢;obtain⟨t,ht,A⟩:=List.mem_map.1 h;refine List.mem_map.2 ⟨t,ht,?_⟩;unfold mvN at A;split at A
  ·cases A
  ·cases A;rfl
theorem wYz {W:List Fm}{j:Bool}{ln:Ln}{v:Mv}(h:some v∈mvsN W j ln):v∈(plcs ln).flatMap (yYl W j ln):=by
 obtain⟨p,hp,h⟩:=List.mem_flatMap.1 h;exact List.mem_flatMap.2 ⟨p,hp,wZi h⟩
theorem vQb {W:List Fm}{j:Bool}{ln:Ln}{l:List (Nat×Bool)}:∀ {vs:List Mv},l.flatMap (yXm W j ln)=vs.map some->l.flatMap (yYl W j ln)=vs:=by
 have one:∀p,(∀o∈yXm W j ln p,o≠none)->yXm W j ln p=(yYl W j ln p).map some:=λp=>by
  unfold yXm yYl;cases W[p.1]? with
  | none=>intro _;rfl
  | some f =>
   simp only[List.map_map];intro h;refine List.map_congr_left λt ht=>?_;have h1:=h _ (List.mem_map_of_mem ht);unfold mvN at h1 ⊢;split
   ·rename_i hx;rw[if_pos hx] at h1;exact absurd rfl h1
   ·rfl
 have A:∀ {a b:List Mv},a.map some=b.map some->a=b:=λ{a b} h=>by
  have h1:=congrArg (List.filterMap id) h;simpa[List.filterMap_map] using h1
 intro vs h;have D:∀p∈l,∀o∈yXm W j ln p,o≠none:=λp hp o J O=>by
  have:o∈vs.map some:=h▸List.mem_flatMap.2 ⟨p,hp,J⟩;obtain⟨v,_,rfl⟩:=List.mem_map.1 this;cases O
 refine A ?_;rw[<- h];clear h
 induction l with
 | nil=>rfl
 | cons a l E =>
  rw[List.flatMap_cons,List.flatMap_cons,List.map_append,one a (D a (.head _)),E λp hp=>D p (.tail _ hp)]
theorem zG4 {ca:Nat}{W:List Fm}(hS:SpOk ca W){ln:Ln}(A:LnOk W ln){j:Bool}{vs:List Mv}(h:mvsN W j ln=vs.map some):mvF j (lnW W ln)=vs.map (mvW W):=by
 rw[<- wZc hS A,vQb h]
theorem zXm {ca:Nat}{W:List Fm}(hS:SpOk ca W){ln:Ln}(D:LnOk W ln){j:Bool}:none∈mvsN W j ln↔zG7 j (lnW W ln):=by
 have at_:∀i r f,W[i]?=some f->(none∈yXm W j ln (i,r)↔∃t∈addF j f r,∃p∈t.2,tooL j (lnW W ln) p):=λi r f A=>by
  unfold yXm yZs;simp only[A,List.map_map,List.mem_map,Function.comp];constructor
  ·rintro⟨t,ht,J⟩;unfold mvN at J;split at J
   ·rename_i hx;obtain⟨e,U,O⟩:=List.any_eq_true.1 hx;obtain⟨p,hp,rfl⟩:=List.mem_map.1 U;exact⟨t,ht,p,hp,(xUs D).1 O⟩
   ·cases J
  ·rintro⟨t,ht,p,hp,hl⟩;refine⟨t,ht,?_⟩;unfold mvN;rw[if_pos (List.any_eq_true.2 ⟨_,List.mem_map_of_mem hp,(xUs D).2 hl⟩)]
 unfold mvsN zG7;rw[List.mem_flatMap];constructor
 ·rintro⟨⟨i,r⟩,hp,h⟩;have hm:(r=false/\i∈ln.1)\/(r=true/\i∈ln.2):=by
   rcases List.mem_append.1 hp with hp|hp<;>obtain⟨k,hk,J⟩:=List.mem_map.1 hp<;>cases J
   ·exact .inl ⟨rfl,hk⟩
   ·exact .inr ⟨rfl,hk⟩
  rcases hm with⟨rfl,E⟩|⟨rfl,E⟩
  ·obtain⟨f,A⟩:=D.1.get E;exact⟨f,false,yZg.2 ⟨i,E,A⟩,(at_ i _ f A).1 h⟩
  ·obtain⟨f,A⟩:=D.2.get E;exact⟨f,true,yZg.2 ⟨i,E,A⟩,(at_ i _ f A).1 h⟩
 ·rintro⟨f,r,A,h⟩;cases r
  ·obtain⟨i,E,A⟩:=yZg.1 A;exact⟨(i,false),List.mem_append_left _ (List.mem_map.2 ⟨i,E,rfl⟩),(at_ i _ f A).2 h⟩
  ·obtain⟨i,E,A⟩:=yZg.1 A;exact⟨(i,true),List.mem_append_right _ (List.mem_map.2 ⟨i,E,rfl⟩),(at_ i _ f A).2 h⟩
theorem xV4 {ca:Nat}{W:List Fm}(hS:SpOk ca W){ln p:Ln}(A:LnOk W ln){s0:Sn}(h:yVn W (calJ ca) ln p)(D:Rch (calJ ca) s0 (lnW W ln))(hc:¬ clN W ln):Rch (calJ ca) s0 (lnW W p)/\LnOk W p/\p.1.length<=64/\p.2.length<=64:=by
 obtain⟨v,hv,hp⟩:=h;obtain⟨h1,h2,E⟩:=(zXn hS A hv).2.2.2 p hp;refine⟨.step D (λh=>hc ((zQh hS.srt A).2 h)) (m:=mvW W v) ?_ (List.mem_map_of_mem hp),h1,h2,E⟩;rw[<- wZc hS A];exact List.mem_map_of_mem (wYz hv)
def LkS (W:List Fm)(j:Bool)(lines:List Ln)(ln:Ln)(l:List Lk):Prop:=(clN W ln/\l=[])\/(¬ clN W ln/\∃vs,mvsN W j ln=vs.map some/\LksOf lines vs l)
theorem LkS.app {W:List Fm}{j:Bool}{lines more:List Ln}{ln:Ln}{l:List Lk}(h:LkS W j lines ln l):LkS W j (lines++more) ln l :=
 h.imp id λ⟨h1,vs,h2,A⟩=>⟨h1,vs,h2,A.app⟩
structure ExS (ca:Nat)(W:List Fm)(s0:Sn)(lines:List Ln)(links:List (List Lk)):Prop where
 start:∃ln,lines[0]?=some ln/\lnW W ln=s0
 ok:∀ln∈lines,LnOk W ln
 rch:∀ln∈lines,Rch (calJ ca) s0 (lnW W ln)
 done:∀(k:Nat) (l:List Lk),links[k]?=some l->∃ln,lines[k]?=some ln/\LkS W (calJ ca) lines ln l
 len:lines.length<=20000
theorem ExS.add {ca:Nat}{W:List Fm}{s0:Sn}{lines:List Ln}{links:List (List Lk)}(h:ExS ca W s0 lines links)(hS:SpOk ca W){ln:Ln}(hl:lines[links.length]?=some ln){l:List Lk}{more:List Ln}(O:LkS W (calJ ca) (lines++more) ln l)
  (hm:more=[]\/¬ clN W ln) (hp:∀p∈more,yVn W (calJ ca) ln p) (J:(lines++more).length<=20000):ExS ca W s0 (lines++more) (links++[l]):=by
 have E:=lMg hl;have D:∀p∈more,Rch (calJ ca) s0 (lnW W p)/\LnOk W p:=λp hx=>by
  rcases hm with rfl|hc
  ·cases hx
  ·obtain⟨h1,h2,_⟩:=xV4 hS (h.ok ln E) (hp p hx) (h.rch ln E) hc;exact⟨h1,h2⟩
 have app:∀ {k:Nat} {a:Ln},lines[k]?=some a->(lines++more)[k]?=some a:=λ{k a} O=>by
  rw[List.getElem?_append_left (lGs O).1];exact O
 refine⟨?_,λp hx=>?_,λp hx=>?_,λk l' A=>?_,J⟩
 ·obtain⟨a,ha,hs⟩:=h.start;exact⟨a,app ha,hs⟩
 ·exact (List.mem_append.1 hx).elim (h.ok p) λhx=>(D p hx).2
 ·exact (List.mem_append.1 hx).elim (h.rch p) λhx=>(D p hx).1
 ·rcases Nat.lt_or_ge k links.length with U|aa
  ·rw[List.getElem?_append_left U] at A;obtain⟨a,ha,hs⟩:=h.done k l' A;exact⟨a,app ha,hs.app⟩
  ·rw[List.getElem?_append_right aa] at A;have h0:k-links.length=0:=by
    rcases Nat.eq_zero_or_pos (k-links.length) with h0|h0
    ·exact h0
    ·rw[List.getElem?_eq_none (by simp only[List.length_cons,List.length_nil];omega)] at A;cases A
   rw[h0] at A;cases A;obtain rfl:k=links.length:=by omega
   exact⟨ln,app hl,O⟩
theorem ExS.reach {ca:Nat}{W:List Fm}{s0:Sn}{lines:List Ln}{links:List (List Lk)}(h:ExS ca W s0 lines links)(hS:SpOk ca W)(hn:lines.Nodup)(hl:lines.length<=links.length):ReachOk (calJ ca) s0 (lines.map (lnW W)):=by
 have D:∀ln∈lines,∃l,LkS W (calJ ca) lines ln l:=λln U=>by
  obtain⟨k,hk,rfl⟩:=List.mem_iff_getElem.1 U;obtain⟨a,ha,hs⟩:=h.done k _ (List.getElem?_eq_getElem (Nat.lt_of_lt_of_le hk hl));rw[List.getElem?_eq_getElem hk] at ha;cases ha;exact⟨_,hs⟩
 refine⟨?_,λs=>⟨λhs=>?_,λhs=>?_⟩,λs hs hc=>?_,by rw[List.length_map];exact h.len⟩
 ·rw[List.nodup_iff_pairwise_ne,List.pairwise_map];exact hn.imp_of_mem λ{a b} ha hb af he=>af (wZr hS.srt (h.ok a ha) (h.ok b hb) he)
 ·obtain⟨ln,U,rfl⟩:=List.mem_map.1 hs;exact h.rch ln U
 ·induction hs with
  | refl =>
   obtain⟨a,ha,hs⟩:=h.start;exact List.mem_map.2 ⟨a,lMg ha,hs⟩
  | @step s _ hc m U p hp ih =>
   obtain⟨ln,A,rfl⟩:=List.mem_map.1 ih;obtain⟨l,⟨O,_⟩|⟨_,vs,J,ag⟩⟩:=D ln A
   ·exact absurd ((zQh hS.srt (h.ok ln A)).1 O) hc
   ·rw[zG4 hS (h.ok ln A) J] at U;obtain⟨v,hv,rfl⟩:=List.mem_map.1 U;obtain⟨q,hq,rfl⟩:=List.mem_map.1 hp;obtain⟨i,hi,ac⟩:=List.mem_iff_getElem.1 hv;obtain⟨k,hk,E⟩:=ag.2 i v (by rw[List.getElem?_eq_getElem hi,ac]);obtain⟨e,he,ae⟩:=List.mem_iff_getElem.1 hq;have ai:e<k.2.2.length:=by rw[E.2.2.1];exact he
    obtain⟨p',hp1,hp2⟩:=E.2.2.2 e _ (List.getElem?_eq_getElem ai);rw[List.getElem?_eq_getElem he,ae] at hp2;cases hp2;exact List.mem_map.2 ⟨q,lMg hp1,rfl⟩
 ·obtain⟨ln,A,rfl⟩:=List.mem_map.1 hs;obtain⟨l,⟨O,_⟩|⟨_,vs,J,_⟩⟩:=D ln A
  ·exact absurd ((zQh hS.srt (h.ok ln A)).1 O) hc
  ·intro E;have:=(zXm hS (h.ok ln A)).2 E;rw[J] at this;simp at this
theorem ExS.no5 {ca:Nat}{W:List Fm}{s0:Sn}{lines:List Ln}{links:List (List Lk)}(h:ExS ca W s0 lines links)(hS:SpOk ca W){ln:Ln}(hl:ln∈lines)(hc:¬ clN W ln)(A:none∈mvsN W (calJ ca) ln):yUf (calJ ca) s0 5 :=
 .inr ⟨rfl,lnW W ln,h.rch ln hl,λhx=>hc ((zQh hS.srt (h.ok ln hl)).2 hx),(zXm hS (h.ok ln hl)).1 A⟩
theorem ExS.no4 {ca:Nat}{W:List Fm}{s0:Sn}{lines:List Ln}{links:List (List Lk)}(h:ExS ca W s0 lines links)(hS:SpOk ca W){ln:Ln}(hl:ln∈lines)(hc:¬ clN W ln){more:List Ln}{p:Ln}(hm:∀q∈more,yVn W (calJ ca) ln q)(hp:yVn W (calJ ca) ln p)
  (E:p ∉ lines++more) (hn:(lines++more).Nodup) (aa:20000<=(lines++more).length):yUf (calJ ca) s0 4:=by
 have D:∀q∈lines++more++[p],Rch (calJ ca) s0 (lnW W q)/\LnOk W q:=λq A=>by
  have pr:∀q,yVn W (calJ ca) ln q->Rch (calJ ca) s0 (lnW W q)/\LnOk W q:=λq A=>by
   obtain⟨h1,h2,_⟩:=xV4 hS (h.ok ln hl) A (h.rch ln hl) hc;exact⟨h1,h2⟩
  rcases List.mem_append.1 A with A|A
  ·rcases List.mem_append.1 A with A|A
   ·exact⟨h.rch q A,h.ok q A⟩
   ·exact pr q (hm q A)
  ·rw[List.mem_singleton.1 A];exact pr p hp
 have hnd:(lines++more++[p]).Nodup:=List.nodup_append.2 ⟨hn,by simp,λa U b O=>by
  rw[List.mem_singleton.1 O];rintro rfl;exact E U⟩
 refine .inl ⟨rfl,(lines++more++[p]).map (lnW W),?_,λs hs=>?_,by rw[List.length_map,lLa];simp only[List.length_cons,List.length_nil];omega⟩
 ·rw[List.nodup_iff_pairwise_ne,List.pairwise_map];exact hnd.imp_of_mem λ{a b} U O J he=>J (wZr hS.srt (D a U).2 (D b O).2 he)
 ·obtain⟨q,A,rfl⟩:=List.mem_map.1 hs;exact (D q A).1
end Go.Proofs.Tryz
namespace Go.Proofs.Tryz
open Go Go.Iv
set_option maxRecDepth 4000
variable (gl:Nat->Option IV)
noncomputable abbrev spW (s:Sq):List Fm:=setF (yZb (s.l++s.r))
theorem zQq {ca:Nat}{s:Sq}(h:yQo ca s=true):s.l.length<=64/\s.r.length<=64:=by
 unfold yQo at h;simp only[bAt,dTe] at h;exact⟨h.1.1.1.1.2,h.1.1.1.2⟩
theorem xK1 (G:Gl gl)(ca:Nat)(s:Sq)(x:IV)(hx:IsSq s x)(hs:yXx s)(st:ISt) :
  ICall prog gl 37 [.raw (.int .u8 (ca:Int)),x] st (λr st' =>
   (¬ (ca=1\/ca=2)/\r=.tup [.raw (.pointer none),.raw (.int .i64 2)]/\st'=st)\/((ca=1\/ca=2)/\yQo ca s=false/\r=.tup [.raw (.pointer none),.raw (.int .i64 190)]/\st'=st) \/
   ((ca=1\/ca=2)/\yQo ca s=true/\∃m tw xw,st m=none/\okEs tw 4/\IsFms (spW s) xw/\r=.tup [spI ca tw xw m,.raw (.int .i64 0)]/\st'=st.put m (some (.map .pl [])))):=by
 have hv:=λst=>xK9 gl G ca s x hx hs st;have U:=xG1 gl ca s x hx;obtain⟨t1,x1,t2,x2,rfl,e1,i1,e2,i2⟩:=id hx;refine iI func37 ?_;by_cases h1:ca=1
 ·have D:decide ((ca:Int)=1)=true:=dEt (by omega);have hc:ca=1\/ca=2:=.inl h1;simp only[go_sem,zE,zA,zL,reduceCtorEq,D];refine (hv _).mono ?_;rintro _ st ⟨rfl,rfl⟩;rcases Bool.eq_false_or_eq_true (yQo ca s) with A|A
  ·obtain⟨_,E,_,_⟩:=yKi (ca:=ca) (s:=s) hc A;simp only[go_sem,zE,zA,zL,reduceCtorEq,show Value.bool (yQo ca s)=.bool true by rw[A]];refine (U (Nat.le_trans E (by omega)) _).mono ?_;rintro _ _ ⟨m,tw,xw,O,htw,hxw,rfl,rfl⟩;simp only[go_sem,zE];exact yQ0 (.inr (.inr ⟨hc,A,m,tw,xw,O,htw,hxw,rfl,rfl⟩))
  ·simp only[go_sem,zE,show Value.bool (yQo ca s)=.bool false by rw[A]];exact yQ0 (.inr (.inl ⟨hc,A,rfl,rfl⟩))
 ·have D:decide ((ca:Int)=1)=false:=dEf (by omega);by_cases h2:ca=2
  ·have J:decide ((ca:Int)=2)=true:=dEt (by omega);have hc:ca=1\/ca=2:=.inr h2;simp only[go_sem,zE,zA,zL,reduceCtorEq,D,J];refine (hv _).mono ?_;rintro _ st ⟨rfl,rfl⟩;rcases Bool.eq_false_or_eq_true (yQo ca s) with A|A
   ·obtain⟨_,E,_,_⟩:=yKi (ca:=ca) (s:=s) hc A;simp only[go_sem,zE,zA,zL,reduceCtorEq,show Value.bool (yQo ca s)=.bool true by rw[A]];refine (U (Nat.le_trans E (by omega)) _).mono ?_;rintro _ _ ⟨m,tw,xw,O,htw,hxw,rfl,rfl⟩;simp only[go_sem,zE];exact yQ0 (.inr (.inr ⟨hc,A,m,tw,xw,O,htw,hxw,rfl,rfl⟩))
   ·simp only[go_sem,zE,show Value.bool (yQo ca s)=.bool false by rw[A]];exact yQ0 (.inr (.inl ⟨hc,A,rfl,rfl⟩))
  ·have J:decide ((ca:Int)=2)=false:=dEf (by omega);simp only[go_sem,zE,reduceCtorEq,D,J];exact yQ0 (.inl ⟨by omega,rfl,rfl⟩)
theorem vQd:mapI prog 97=some (.str,.raw (.int .i32 0)):=by kernel_rfl
def ExplR (ca:Nat)(s:Sq)(st:ISt)(r:IV)(st':ISt):Prop :=
 (¬ (ca=1\/ca=2)/\r=.tup [.raw (.pointer none),.raw (.int .i64 2)]/\st'=st)\/((ca=1\/ca=2)/\yQo ca s=false/\r=.tup [.raw (.pointer none),.raw (.int .i64 190)]/\st'=st) \/
 ((ca=1\/ca=2)/\yQo ca s=true/\((∃e,yUf (calJ ca) (nf (s.l,s.r)) e/\r=.tup [.raw (.pointer none),.raw (.int .i64 (e:Int))]/\st'=st) \/
  ∃m tw xw rb mN lines links,okEs tw 4/\IsFms (spW s) xw/\r=.tup [ptr rb,.raw (.int .i64 0)]/\RS ca m (spW s) tw xw rb mN st st' lines links/\ExS ca (spW s) (nf (s.l,s.r)) lines links/\links.length=lines.length))
theorem RS.link {ca m:Nat}{W:List Fm}{tw:Tag}{xw:List IV}{rb mN:Nat}{S0 st st':ISt}{lines:List Ln}{links:List (List Lk)}(h:RS ca m W tw xw rb mN S0 st lines links){tl tk:Tag}{xl xk:List IV}{l:List Lk}{x:IV}(hx:wKe l x)
  (E:st rb=some (.box [spI ca tw xw m,.sl tl xl,.raw (.map (some mN)),.sl tk xk,.sl ⟨true,.nil,0⟩ []])) (hxl:AllR IsLn lines xl) (aa:own st tl lines.length 2 S0) (hxk:AllR wKe links xk) {A:Tag} (ab:own st' A (links.length+1) 1 S0) (O:subSt S0 st') (D:keepF 1 st st') :
  RS ca m W tw xw rb mN S0 (st'.put rb (some (.box [spI ca tw xw m,.sl tl xl,.raw (.map (some mN)),.sl A (xk++[x]),.sl ⟨true,.nil,0⟩ []]))) lines (links++[l]):=by
 obtain⟨ag,J,af⟩:=h.sp;have hn:=h.num;have h1:rb≠m:=by rintro rfl;rw[E] at J;cases J
 have h2:rb≠mN:=by rintro rfl;rw[E] at hn;cases hn
 have U:=D rb _ E (λn h=>by cases h);have put:∀ {t:Tag} {n k:Nat},own st' t n k S0->own (st'.put rb (some (.box [spI ca tw xw m,.sl tl xl,.raw (.map (some mN)),.sl A (xk++[x]),.sl ⟨true,.nil,0⟩ []]))) t n k S0:=λho=>ho.mono λg hg _=>by
  rw[yQ5 λe=>by rw[e,U] at hg;cases hg];exact hg
 refine⟨⟨tl,xl,A,_,ISt.put_same ..,hxl,put (D.own aa (by decide)),hxk.snoc hx,by rw[lLa];exact put ab⟩,?_,⟨ag,?_,af⟩,yQb O h.off.1,h.off,h.ok,h.nd⟩
 ·rw[yQ5 h2.symm];exact D _ _ hn λn h=>by cases h
 ·rw[yQ5 h1.symm];exact D _ _ J λn h=>by cases h
theorem zQd (G:Gl gl)(T:Gt gl)(ca:Nat)(s:Sq)(x:IV)(hx:IsSq s x)(hs:yXx s)(st:ISt):ICall prog gl 43 [.raw (.int .u8 (ca:Int)),x] st (ExplR ca s st):=by
 have hb:=λst=>xK1 gl G ca s x hx hs st;have aQ:=hx;obtain⟨t1,x1,t2,x2,rfl,e1,i1,e2,i2⟩:=hx;refine ICall.intro (c:=cf prog gl [26] []) func43 rfl (by show _<=76;simp) (by kernel_rfl) ?_;simp only[go_sem,zE,zA,zL,reduceCtorEq];refine (hb _).mono ?_;rintro _ bk (⟨hc,rfl,rfl⟩|⟨hc,hv,rfl,rfl⟩|⟨hc,hv,m,tw,xw,hm,htw,hxw,rfl,rfl⟩)
 ·simp only[go_sem,zE,show decide ((2:Int)=0)=false from rfl];exact yQ0 (show ExplR _ _ _ _ _ from .inl ⟨hc,rfl,rfl⟩)
 ·simp only[go_sem,zE,show decide ((190:Int)=0)=false from rfl];exact yQ0 (show ExplR _ _ _ _ _ from .inr (.inl ⟨hc,hv,rfl,rfl⟩))
 ·obtain⟨hS,_,am,af⟩:=yKi hc hv;have ai:=zQq hv;have J:=zG8 af;have al:=λst=>xVm gl T ca m (spW s) tw xw htw hxw hS.srt (Nat.le_trans am (by omega)) s _ aQ ⟨by omega,by omega⟩ af st;simp only[go_sem,zE,zA,zL,fits,vQd,decide_true];refine λmN=>yQ8 λaa=>λrb=>yQ8 λA=>?_;refine (al _).mono ?_;rintro z _ ⟨hz,rfl⟩;have n1:mN≠m:=by rintro rfl;rw[ISt.put_same] at aa;cases aa
  rw[yQ5 n1] at aa;have n2:rb≠mN:=by rintro rfl;rw[ISt.put_same] at A;cases A
  rw[yQ5 n2] at A;have n3:rb≠m:=by rintro rfl;rw[ISt.put_same] at A;cases A
  rw[yQ5 n3] at A;have a6:RS ca m (spW s) tw xw rb mN st (((st.put m (some (.map .pl []))).put mN (some (.map .str []))).put rb (some (.box [spI ca tw xw m,.sl ⟨true,.nil,0⟩ [],.raw (.map (some mN)),.sl ⟨true,.nil,0⟩ [],.sl ⟨true,.nil,0⟩ []]))) [] [] :=
   ⟨⟨_,_,_,_,ISt.put_same ..,AllR.nil,own.nil ..,AllR.nil,own.nil ..⟩,by rw[yQ5 n2.symm,ISt.put_same];rfl,⟨[],by rw[yQ5 n3.symm,yQ5 n1.symm,ISt.put_same],(λp hp=>by cases hp)⟩,
    yQb (yQb (yQa hm) aa) A,⟨A,aa,hm⟩,(λ_ h=>by cases h),List.nodup_nil⟩
  have aB:=yG7 (spW s) s.l;have aA:=yG7 (spW s) s.r;obtain⟨aN,aM⟩:=xVu (Nat.le_trans am (by omega)) J ⟨Nat.le_trans aB ai.1,Nat.le_trans aA ai.2⟩;have aY:=wGj gl ca m (spW s) tw xw rb mN st _ [] [] a6 (zG9 (spW s) (s.l,s.r)) aN aM z hz (Nat.zero_le _);obtain⟨ta,tb,rfl,ea,eb⟩:=id hz;simp only[go_sem,zE,zA];refine aY.mono ?_;rintro _ s1 (⟨n,hn,_⟩|⟨_,⟨aD,_⟩|⟨_,rfl,aF,_⟩⟩)
  ·simp at hn
  ·simp at aD
  ·have aH:ExS ca (spW s) (nf (s.l,s.r)) ([]++[zG9 (spW s) (s.l,s.r)]) []:=by
    refine⟨⟨_,rfl,zXr hS.srt af⟩,λp hp=>?_,λp hp=>?_,λk l hk=>by simp at hk,by simp⟩
    ·rw[List.mem_singleton.1 hp];exact J
    ·rw[List.mem_singleton.1 hp,zXr hS.srt af];exact .refl
   generalize []++[zG9 (spW s) (s.l,s.r)]=ae at aF aH;simp only[go_sem];refine LoopC.dec 20001 (λq fr st' ds=>∃lines links,q+links.length=20001/\RS ca m (spW s) tw xw rb mN st st' lines links/\ExS ca (spW s) (nf (s.l,s.r)) lines links/\fr 6=.iv (spI ca tw xw m)/\fr 8=.iv (ptr rb)/\fr 9=.iv (.raw (.int .i64 (links.length:Int)))/\ds=[]) ?_ ?_
   ·simp only[go_sem,zE];exact⟨ae,[],rfl,aF,aH,rfl⟩
   ·rintro q fr s2 _ ⟨lines,links,hq,hR,hE,f6,f8,f9,rfl⟩;obtain⟨tl,xl,tk,xk,A,hxl,ax,hxk,aU⟩:=hR.ex;have bn:links.length<=lines.length:=by
     rcases Nat.lt_or_ge lines.length links.length with h|h
     ·obtain⟨a,ha,_⟩:=hE.done lines.length _ (List.getElem?_eq_getElem h);rw[List.getElem?_eq_none (Nat.le_refl _)] at ha;cases ha
     ·exact h
    have bc:=hxl.1;rcases Nat.lt_or_ge links.length lines.length with aj|aD
    ·obtain⟨ln,J⟩:=yQ1 aj;have ak:=lMg J;have ab:=hE.ok ln ak;obtain⟨z,hz,aq⟩:=hxl.2 _ ln J;have a1:=λst=>zU3 gl ca m (spW s) hS tw xw htw hxw ln ab z aq st;have aZ:=wWi gl G T ca m (spW s) hS am tw xw htw hxw rb mN st s2 lines links hR hE.len links.length ln J ab;obtain⟨ta,tb,rfl,ea,eb⟩:=aq;simp only[go_sem,zE,zB,zA,f6,f8,f9,A,fits,lt_i (show links.length<xl.length by omega),hz,iNn,yQ3 ax.es];intro _;refine (a1 _).mono ?_;rintro _ s2 ⟨⟨zf,rfl,aO⟩,rfl⟩;obtain⟨y1,y2,y3,y4,y5,y6,rfl⟩:=aO.agg;have aE:=wJl (W:=spW s) ab.1;rcases Bool.eq_false_or_eq_true (axW (spW s) ln).isSome with D|D
     ·have O:=aE.1 D;simp only[go_sem,zE,zA,zM,zL,fits,D,f8,A,yQ4];refine yZy aU hxk.1 hR.base rfl (by simp[fits,IV.one]) (by simp only;omega) (by omega) λaL s3 w1 w2 w3=>?_;have E:=w3 rb _ A (λn h=>by cases h);simp only[go_sem,zE,zA,zL,f6,f8,f9,E];have ag:=hE.add hS J (l:=[]) (more:=[]) (.inl ⟨O,rfl⟩) (.inl rfl) (λp hp=>by cases hp) (by rw[List.append_nil];exact hE.len);rw[List.append_nil] at ag;have hk:=hE.len;exact⟨q-1,by omega,lines,links++[[]],by rw[lLa];simp only[List.length_cons,List.length_nil];omega,hR.link ⟨_,[],rfl,.inl rfl,AllR.nil⟩ A hxl ax hxk w1 w2 w3,ag,by rw[yQc aj (by omega),lLa];rfl⟩
     ·have O:¬ clN (spW s) ln:=λh=>by rw[aE.2 h] at D;cases D
      simp only[go_sem,zE,zA,zL,D,f8,f9];refine aZ.mono ?_;rintro _ s3 (⟨t,ys,L,vs,more,rfl,ht,hys,aS,aW,aT,az,an⟩|⟨rfl,aV,U⟩|⟨rfl,U,more,p,g1,g2,g3,g4,g5⟩)
      ·obtain⟨bh,bf,bi,bg,E,au,aw,ah,ay⟩:=an.ex;simp only[go_sem,zE,zA,zM,zL,decide_true,f8,E,fits,yQ4];refine yZy ay ah.1 an.base rfl (by simp[fits,IV.one]) (by simp only;omega) (by omega) λaL s4 w1 w2 w3=>?_;have av:=w3 rb _ E (λn h=>by cases h);simp only[go_sem,zE,zA,zL,f6,f8,f9,av];have ag:=hE.add hS J (l:=L) (more:=more) (.inr ⟨O,vs,aS,aW⟩) (.inr O) aT az;have hk:=hE.len;exact⟨q-1,by omega,lines++more,links++[L],by rw[lLa];simp only[List.length_cons,List.length_nil];omega,an.link ⟨_,ys,rfl,ht,hys⟩ E au aw ah w1 w2 w3,ag,by rw[yQc aj (by omega),lLa];rfl⟩
      ·simp only[go_sem,zE,show decide ((5:Int)=0)=false from rfl];exact⟨st,U,.inr (.inr ⟨hc,hv,.inl ⟨5,hE.no5 hS ak O aV,rfl,rfl⟩⟩)⟩
      ·simp only[go_sem,zE,show decide ((4:Int)=0)=false from rfl];exact⟨st,U,.inr (.inr ⟨hc,hv,.inl ⟨4,hE.no4 hS ak O g1 g2 g3 g4 g5,rfl,rfl⟩⟩)⟩
    ·have aC:¬ links.length<xl.length:=by omega
     simp only[go_sem,zE,f8,f9,A,yQi aC];intro _;exact yQ0 (show ExplR _ _ _ _ _ from .inr (.inr ⟨hc,hv,.inr ⟨m,tw,xw,rb,mN,lines,links,htw,hxw,rfl,hR,hE,by omega⟩⟩))
end Go.Proofs.Tryz
namespace Go.Proofs.Tryz
open Go Go.Iv
def evK (u:Us)(ps:List Nat):List (Nat×Us):=ps.map λp=>(p,u)
def evL (i:Nat)(l:List Lk):List (Nat×Us):=l.zipIdx.flatMap λA=>evK (i,A.2) A.1.2.2
def evA (links:List (List Lk)):List (Nat×Us):=links.zipIdx.flatMap λA=>evL A.2 A.1
def UsOk (us:List (List Us))(E:List (Nat×Us)):Prop:=∀p u,(usAt us p).count u=E.count (p,u)
theorem xJv {α β:Type} [BEq β] [LawfulBEq β](F:α×Nat->List β)(A:β->Nat)(hF:∀a i,∀x∈F (a,i),A x=i)(b:β):∀(l:List α) (k:Nat),((l.zipIdx k).flatMap F).count b=if k<=A b then ((l[A b-k]?).elim 0 λa=>(F (a,A b)).count b) else 0
 | [],k=>by simp
 | a::l,k=>by
  rw[List.zipIdx_cons,List.flatMap_cons,List.count_append,xJv F A hF b l (k+1)];by_cases h1:A b=k
  ·rw[if_neg (by omega),if_pos (by omega),h1,Nat.sub_self];rfl
  ·have h0:(F (a,k)).count b=0:=List.count_eq_zero.2 λD=>h1 (hF a k b D);rw[h0,Nat.zero_add];by_cases h2:k<=A b
   ·rw[if_pos (by omega),if_pos h2,show A b-k=(A b-(k+1))+1 by omega,List.getElem?_cons_succ]
   ·rw[if_neg (by omega),if_neg h2]
theorem xKe {α β:Type}(F:α×Nat->List β){l:List α}{i:Nat}{a:α}(h:l[i]?=some a):(l.take (i+1)).zipIdx.flatMap F=(l.take i).zipIdx.flatMap F++F (a,i):=by
 have A:=(lGs h).1;rw[yQ7 h,List.zipIdx_append,List.flatMap_append,List.length_take,Nat.zero_add,Nat.min_eq_left (by omega)];simp
theorem wWl {links:List (List Lk)}{i:Nat}{l:List Lk}(h:links[i]?=some l):evA (links.take (i+1))=evA (links.take i)++evL i l:=xKe _ h
theorem wWj {i j:Nat}{l:List Lk}{k:Lk}(h:l[j]?=some k):evL i (l.take (j+1))=evL i (l.take j)++evK (i,j) k.2.2:=xKe _ h
theorem wWk {u:Us}{ps:List Nat}{q p:Nat}(h:ps[q]?=some p):evK u (ps.take (q+1))=evK u (ps.take q)++[(p,u)]:=by
 unfold evK;rw[yQ7 h,List.map_append];rfl
theorem vQx (links:List (List Lk))(p:Nat)(u:Us):(evA links).count (p,u)=(lkAt links u).count p:=by
 have hK:∀(u v:Us) (ps:List Nat),(evK v ps).count (p,u)=if v=u then ps.count p else 0:=λu v ps=>by
  unfold evK
  induction ps with
  | nil=>simp
  | cons a ps E =>
   rw[List.map_cons,List.count_cons,E,List.count_cons];by_cases h:v=u
   ·subst h;by_cases h2:a=p
    ·simp[h2]
    ·simp[h2]
   ·simp[h]
 have h1:=xJv (λD:List Lk×Nat=>evL D.2 D.1) (λx:Nat×Us=>x.2.1) (λa i x hx=>by
  obtain⟨A,_,hx⟩:=List.mem_flatMap.1 hx;obtain⟨q,_,rfl⟩:=List.mem_map.1 hx;rfl) (p,u) links 0
 unfold evA;rw[h1,if_pos (Nat.zero_le _),Nat.sub_zero];unfold lkAt;cases hl:links[u.1]? with
 | none=>simp[]
 | some l =>
  simp only[Option.elim_some,Option.getD_some];have h2:=xJv (λA:Lk×Nat=>evK (u.1,A.2) A.1.2.2) (λx:Nat×Us=>x.2.2) (λa i x hx=>by
   obtain⟨q,_,rfl⟩:=List.mem_map.1 hx;rfl) (p,u) l 0
  unfold evL;rw[h2,if_pos (Nat.zero_le _),Nat.sub_zero];cases J:l[u.2]? with
  | none=>simp[]
  | some k =>
   simp only[Option.elim_some];rw[hK,if_pos rfl]
theorem UsOk.nil (n:Nat):UsOk (List.replicate n []) []:=λp u=>by
 have:usAt (List.replicate n []) p=[]:=by
  unfold usAt;rw[List.getElem?_replicate];split<;>rfl
 rw[this];rfl
theorem UsOk.add {us:List (List Us)}{E:List (Nat×Us)}(h:UsOk us E){p:Nat}{u:Us}(hp:p<us.length):UsOk (us.set p (usAt us p++[u])) (E++[(p,u)]):=λp' A=>by
 have hs:usAt (us.set p (usAt us p++[u])) p'=if p'=p then usAt us p++[u] else usAt us p':=by
  unfold usAt;rw[List.getElem?_set];by_cases e:p=p'
  ·subst e;simp[hp]
  ·rw[if_neg e,if_neg λh=>e h.symm]
 rw[hs,List.count_append,<- h p' A];by_cases e:p'=p
 ·subst e;rw[if_pos rfl,List.count_append];congr 1;by_cases D:u=A
  ·subst D;simp
  ·simp[D]
 ·rw[if_neg e];have:[(p,u)].count (p',A)=0:=by simp[Ne.symm e]
  rw[this,Nat.add_zero]
def wsOf (links:List (List Lk)):List (List Nat):=links.map λl=>l.map λk=>k.2.2.length
theorem xUf {links:List (List Lk)}(u:Us):atW (wsOf links) u=(((links[u.1]?).getD [])[u.2]?).map λk=>k.2.2.length:=by
 unfold atW wsOf;rw[List.getElem?_map];cases links[u.1]? with
 | none=>simp
 | some l=>simp
theorem Rnd.start {cl:Nat->Prop}{links:List (List Lk)}{hs D:List Nat}(aa:∀l∈links,∀k∈l,k.2.2≠[])(hl:hs.length=links.length)(hh:∀i x,hs[i]?=some x->(x=1/\cl i)\/(x=0/\¬ cl i))(hn:∀i,i∈D↔hs[i]?=some 1)(hnd:D.Nodup):Rnd cl links 2 hs (wsOf links) D:=by
 refine⟨hl,λu x hx=>?_,λu U=>?_,λi x hx=>?_,hn,hnd⟩
 ·rw[xUf] at hx;obtain⟨k,O,rfl⟩:=Option.map_eq_some_iff.1 hx;unfold wt lkAt;rw[O];simp only[Option.elim_some];rw[List.filter_eq_self.2 λp _=>by simp[htG]]
 ·rw[xUf];unfold lkAt at U;cases O:((links[u.1]?).getD [])[u.2]? with
  | none=>rw[O] at U;exact absurd rfl U
  | some k=>exact⟨_,rfl⟩
 ·refine⟨λh0=>?_,λk O hg=>?_⟩
  ·rcases hh i x hx with⟨rfl,hc⟩|⟨rfl,_⟩
   ·exact⟨.inl hc,by omega⟩
   ·omega
  ·obtain rfl|rfl:k=0\/k=1:=by omega
   ·exact hg.elim
   ·have hc:cl i:=by
     rcases hg with hc|⟨lk,A,hp⟩
     ·exact hc
     ·cases E:links[i]? with
      | none=>rw[E] at A;cases A
      | some l =>
       rw[E] at A;cases J:lk.2.2 with
       | nil=>exact absurd J (aa l (lMg E) lk A)
       | cons p ps=>exact (hp p (by rw[J];exact .head _)).elim
    rcases hh i x hx with⟨rfl,_⟩|⟨rfl,hn⟩
    ·exact⟨by omega,by omega⟩
    ·exact absurd hc hn
theorem wJy {j r:Bool}{f:Fm}{t:Nat×List Sn}(h:t∈addF j f r):t.2≠[]:=by
 unfold addF at h;split at h
 case h_5=>split at h<;>simp at h<;>(try rcases h with rfl|rfl)<;>(try subst h)<;>simp
 all_goals (first|(simp at h;subst h;simp)|(simp at h))
theorem vKp {W:List Fm}{j:Bool}{ln:Ln}{v:Mv}(h:some v∈mvsN W j ln):v.2.2≠[]:=by
 obtain⟨p,_,h⟩:=List.mem_flatMap.1 (wYz h);unfold yYl at h;cases D:W[p.1]? with
 | none=>simp only[D] at h;cases h
 | some f =>
  simp only[D] at h;obtain⟨t,ht,rfl⟩:=List.mem_map.1 h;obtain⟨E,A,rfl⟩:=List.mem_map.1 ht;have:=wJy A;simpa[mvT] using this
def clL (W:List Fm)(lines:List Ln)(i:Nat):Prop:=∃ln,lines[i]?=some ln/\clN W ln
structure LksAll (ca:Nat)(W:List Fm)(lines:List Ln)(links:List (List Lk)):Prop where
 ok:∀ln∈lines,LnOk W ln
 done:∀(k:Nat) (l:List Lk),links[k]?=some l->∃ln,lines[k]?=some ln/\LkS W (calJ ca) lines ln l
 len:links.length=lines.length
theorem LksAll.lk {ca:Nat}{W:List Fm}{lines:List Ln}{links:List (List Lk)}(h:LksAll ca W lines links)(hS:SpOk ca W){l:List Lk}(hl:l∈links){k:Lk}(hk:k∈l):k.2.2≠[]/\k.2.2.length<=2/\k.1<256/\k.2.1<W.length/\∀p∈k.2.2,p<links.length:=by
 obtain⟨i,hi,rfl⟩:=List.mem_iff_getElem.1 hl;obtain⟨ln,U,⟨_,h0⟩|⟨_,vs,O,E⟩⟩:=h.done i _ (List.getElem?_eq_getElem hi)
 ·rw[h0] at hk;cases hk
 ·obtain⟨q,hq,rfl⟩:=List.mem_iff_getElem.1 hk;obtain⟨v,hv⟩:=yQ1 (show q<vs.length by rw[<- E.1];exact hq);obtain⟨k,J,D⟩:=E.2 q v hv;rw[List.getElem?_eq_getElem hq] at J;cases J;have A:some v∈mvsN W (calJ ca) ln:=by rw[O];exact List.mem_map_of_mem (lMg hv)
  have h2:=zXn hS (h.ok ln (lMg U)) A;refine⟨λe=>vKp A (List.eq_nil_of_length_eq_zero (by rw[<- D.2.2.1,e];rfl)),by rw[D.2.2.1];exact h2.2.2.1,by rw[D.1];exact h2.2.1,by rw[D.2.1];exact h2.1,λp hp=>?_⟩;obtain⟨e,he,rfl⟩:=List.mem_iff_getElem.1 hp;obtain⟨p',hp1,_⟩:=D.2.2.2 e _ (List.getElem?_eq_getElem he);rw[h.len];exact (lGs hp1).1
theorem LksAll.ht {ca:Nat}{W:List Fm}{lines:List Ln}{links:List (List Lk)}(h:LksAll ca W lines links)(hS:SpOk ca W):∀(n i:Nat) (ln:Ln),lines[i]?=some ln->(htG (clL W lines) links n i↔HtS (calJ ca) n (lnW W ln))
 | 0,_,_,_=>Iff.rfl
 | n+1,i,ln,A=>by
  have hi:=(lGs A).1;have D:=h.ok ln (lMg A);obtain⟨l,hl⟩:=yQ1 (show i<links.length by rw[h.len];exact hi);have ah:clL W lines i↔ClF (lnW W ln).1 (lnW W ln).2:=by
   rw[<- zQh hS.srt D];exact⟨λ⟨a,U,hc⟩=>by rw[A] at U;cases U;exact hc,λhc=>⟨ln,A,hc⟩⟩
  rw[yK1];show (clL W lines i\/∃lk∈(links[i]?).getD [],∀p∈lk.2.2,htG (clL W lines) links n p)↔_;rw[ah,hl,Option.getD_some];obtain⟨a,U,hs⟩:=h.done i l hl;rw[A] at U;cases U;rcases hs with⟨hc,_⟩|⟨hc,vs,af,J⟩
  ·exact⟨λ_=>.inl ((zQh hS.srt D).1 hc),λ_=>.inl ((zQh hS.srt D).1 hc)⟩
  ·refine or_congr Iff.rfl ?_;rw[zG4 hS D af];constructor
   ·rintro⟨lk,hm,hp⟩;obtain⟨q,hq,rfl⟩:=List.mem_iff_getElem.1 hm;obtain⟨v,hv⟩:=yQ1 (show q<vs.length by rw[<- J.1];exact hq);obtain⟨k,hk,ho⟩:=J.2 q v hv;rw[List.getElem?_eq_getElem hq] at hk;cases hk;refine⟨mvW W v,List.mem_map_of_mem (lMg hv),λp E=>?_⟩;obtain⟨z,hz,rfl⟩:=List.mem_map.1 E;obtain⟨e,he,rfl⟩:=List.mem_iff_getElem.1 hz;have O:e<(l[q]).2.2.length:=by rw[ho.2.2.1];exact he
    obtain⟨p',hp1,hp2⟩:=ho.2.2.2 e _ (List.getElem?_eq_getElem O);rw[List.getElem?_eq_getElem he] at hp2;cases hp2;exact (LksAll.ht h hS n _ _ hp1).1 (hp _ (List.getElem_mem O))
   ·rintro⟨m,hm,hp⟩;obtain⟨v,hv,rfl⟩:=List.mem_map.1 hm;obtain⟨q,hq,rfl⟩:=List.mem_iff_getElem.1 hv;obtain⟨k,hk,ho⟩:=J.2 q _ (List.getElem?_eq_getElem hq);refine⟨k,lMg hk,λp E=>?_⟩;obtain⟨e,he,rfl⟩:=List.mem_iff_getElem.1 E;obtain⟨p',hp1,hp2⟩:=ho.2.2.2 e _ (List.getElem?_eq_getElem he);exact (LksAll.ht h hS n _ _ hp1).2 (hp _ (List.mem_map_of_mem (lMg hp2)))
theorem LksAll.hF {ca:Nat}{W:List Fm}{lines:List Ln}{links:List (List Lk)}(h:LksAll ca W lines links)(hS:SpOk ca W){i x:Nat}{ln:Ln}(A:lines[i]?=some ln)(hx:LstG (clL W lines) links i x):Tryz.hF (calJ ca) (lnW W ln)=x :=
 wWc (λh0=>(h.ht hS x i ln A).1 (hx.1 h0)) λn D=>hx.2 n ((h.ht hS n i ln A).2 D)
theorem ExS.all {ca:Nat}{W:List Fm}{s0:Sn}{lines:List Ln}{links:List (List Lk)}(h:ExS ca W s0 lines links)(hl:links.length=lines.length):LksAll ca W lines links:=⟨h.ok,h.done,hl⟩
end Go.Proofs.Tryz
namespace Go.Iv
open Go
theorem zU5 {esc:List Nat}{dst:Option Nat}{e:TypeId×Bool×Nat×Nat}{tg:Tag}{zs:List IV}{y:IV}{R:Rt}{st S0:ISt}{ds:List Dfd}{n s:Nat}(h:own st tg n s S0)(aa:zs.length=n)(D:subSt S0 st)(he:e.2.2.1=s)
  (hf:fits e.2.1 e.2.2.1 y=true) (ae:(n+1)*e.2.2.2<=140737488355328) (U:n+1<=140737488355328)
  (k:∀O st',own st' O (n+1) s S0->subSt S0 st'->(∀b o,st b=some o->tg.cap≠.app b->st' b=some o)->(∀g,O.cap=.app g->tg.cap=.app g\/st g=none)->R (.val (.sl O (zs++[y]))) st' ds)
  (ac:yV2 esc dst=false:=by first|rfl|simp[yV2]):appV esc dst e tg zs [y] R st ds:=by
 subst aa he;unfold appV;refine⟨by simp[hf],⟨ae,U⟩,?_⟩;have E:∀g,st g=none->∀m,subSt S0 (st.put g (some (.front m e.2.2.1)))/\(∀b o,st b=some o->(st.put g (some (.front m e.2.2.1))) b=some o)/\S0 g=none:=λg A m=>by
  have h0:=yXi D A;refine⟨yQb D h0,λb o J=>?_,h0⟩;rw[ISt.put_apply];grind
 rcases h with⟨h0,hc⟩|rfl|⟨g0,rfl,h1,h2⟩
 ·have hz:zs=[]:=List.eq_nil_of_length_eq_zero h0;subst hz;rw[hc];simp only[ac,bFt,if_false];intro g A;obtain⟨a1,a2,a3⟩:=E g A 1;exact k _ _ (.inr (.inr ⟨g,rfl,ISt.put_same _ _ _,a3⟩)) a1 (λb o J _=>a2 b o J) λg' h=>by cases h;exact .inr A
 ·refine⟨rfl,λg A=>?_⟩;obtain⟨a1,a2,a3⟩:=E g A (zs.length+1);exact k _ _ (.inr (.inr ⟨g,rfl,ISt.put_same _ _ _,a3⟩)) a1 (λb o J _=>a2 b o J) λg' h=>by cases h;exact .inr A
 ·refine⟨rfl,h1,λg A=>?_⟩;have ab:S0 g=none:=by
   rcases A with rfl|A
   ·exact h2
   ·exact yXi D A
  refine k _ _ (.inr (.inr ⟨g,rfl,ISt.put_same _ _ _,ab⟩)) (yQb (yQb D h2) ab) (λb o J hn=>?_) λg' h=>?_
  ·have af:b≠g0:=λe=>hn (by rw[e]);have ah:b≠g:=by
    rintro rfl;rcases A with h|h
    ·exact af h
    ·rw[h] at J;cases J
   rw[yQ5 ah,yQ5 af];exact J
  ·cases h;rcases A with rfl|A
   ·exact .inl rfl
   ·exact .inr A
end Go.Iv
namespace Go.Proofs.Tryz
open Go Go.Iv
set_option maxRecDepth 4000
variable (gl:Nat->Option IV)
def i32I (l:List Nat):List IV:=l.map λn:Nat=>.raw (.int .i32 (n:Int))
theorem yGa {l:List Nat}{i n:Nat}(h:l[i]?=some n):(i32I l)[i]?=some (.raw (.int .i32 (n:Int))):=by simp[i32I,h]
theorem yVf (l:List Nat):(i32I l).length=l.length:=by simp[i32I]
theorem to_c (k:Lk)(x:IV)(hx:IsLk k x)(D:k.2.2.length<=2)(st:ISt):ICall prog gl 80 [x] st (λr st'=>(∃t,r=.sl t (i32I k.2.2)/\okEs t 1)/\st'=st):=by
 obtain⟨p,q,rfl,A⟩:=hx;refine ICall.intro (c:=cf prog gl [] [] [1]) func80 rfl (by show _<=7;simp) (by kernel_rfl) ?_;simp only[go_sem,zE,zB,zA,zL,fits,zQp D];have e:i32I k.2.2=List.take k.2.2.length [.raw (.int .i32 (p:Int)),.raw (.int .i32 (q:Int))]:=by
  conv=>lhs;rw[A]
  simp[i32I,List.map_take]
 rw[<- e];exact yQ0 ⟨⟨_,rfl,.inr rfl⟩,rfl⟩
def u8J (l:List Nat):List IV:=l.map λn:Nat=>.raw (.int .u8 (n:Int))
theorem xZy {l:List Nat}{i n:Nat}(h:l[i]?=some n):(u8J l)[i]?=some (.raw (.int .u8 (n:Int))):=by simp[u8J,h]
theorem zYc (l:List Nat):(u8J l).length=l.length:=by simp[u8J]
theorem xUq (l:List Nat)(i n:Nat):(u8J l).set i (.raw (.int .u8 (n:Int)))=u8J (l.set i n):=by simp[u8J,List.map_set]
theorem xVz (l:List Nat)(i n:Nat):(yQk l).set i (.raw (.int .i64 (n:Int)))=yQk (l.set i n):=by simp[yQk,List.map_set]
theorem yKt {cs:List IV}{k:Nat}{y:IV}(h:k<cs.length):yXe cs k [y]=cs.set k y:=by
 unfold yXe;rw[List.set_eq_take_append_cons_drop,if_pos h];simp
abbrev slG (g n:Nat):IV:=.raw (.slice (some ⟨g,0,none⟩) n n)
def rwsI (gs:List Nat)(ws:List (List Nat)):List IV:=List.zipWith (λg w=>slG g w.length) gs ws
structure Mem (gW gH rb n:Nat)(pre:List IV)(gs:List Nat)(st:ISt)(hs:List Nat)(ws:List (List Nat)):Prop where
 rbx:st rb=some (.box (pre++[slG gH n]))
 hts:st gH=some (.box (yQk hs))
 hl:hs.length=n
 wts:st gW=some (.box (rwsI gs ws++List.replicate (n-gs.length) (.sl ⟨true,.nil,0⟩ [])))
 gll:gs.length=ws.length
 row:∀(k g:Nat) (w:List Nat),gs[k]?=some g->ws[k]?=some w->st g=some (.box (u8J w))
 nd:(gW::gH::rb::gs).Nodup
 small:∀w∈ws,∀x∈w,x<256
theorem zYq {gs:List Nat}{ws:List (List Nat)}{k g:Nat}{w:List Nat}(h1:gs[k]?=some g)(h2:ws[k]?=some w):(rwsI gs ws)[k]?=some (slG g w.length):=by
 unfold rwsI;rw[List.getElem?_zipWith,h1,h2]
