/- Walks: explore. -/
import Derived.Test.YtclkffdkahljeaaGreatDoorQD
set_option linter.all false
open Nat renaming reduceEqDiff → zE,reduceBEq → zB,reduceAdd → zA,reduceMul → zM,reduceSub → zS,reduceLeDiff → zL
namespace Go.Proofs.Tryz
open Go Go.Iv
set_option maxRecDepth 4000
variable (gl:Nat->Option IV)
theorem wW2:mapI prog 97=some (.str,.raw (.int .i32 0)):=by kernel_rfl
def ExplR (ca:Nat)(s:Sq)(st:ISt)(r:IV)(st':ISt):Prop :=
 (¬ (ca=1\/ca=2)/\r=.tup [.raw (.pointer none),.raw (.int .i64 2)]/\st'=st)\/((ca=1\/ca=2)/\yQx ca s=false/\r=.tup [.raw (.pointer none),.raw (.int .i64 190)]/\st'=st) \/
 ((ca=1\/ca=2)/\yQx ca s=true/\((∃e,zQ6 (calJ ca) (nf (s.l,s.r)) e/\r=.tup [.raw (.pointer none),.raw (.int .i64 (e:Int))]/\st'=st) \/
  ∃m tw xw rb mN lines links,okEs tw 4/\IsFms (spW s) xw/\r=.tup [ptr rb,.raw (.int .i64 0)]/\RS ca m (spW s) tw xw rb mN st st' lines links/\ExS ca (spW s) (nf (s.l,s.r)) lines links/\links.length=lines.length))
theorem RS.link {ca m:Nat}{W:List Fm}{tw:Tag}{xw:List IV}{rb mN:Nat}{S0 st st':ISt}{lines:List Ln}{links:List (List Lk)}(h:RS ca m W tw xw rb mN S0 st lines links){tl tk:Tag}{xl xk:List IV}{l:List Lk}{x:IV}(hx:wJ6 l x)
  (hrb:st rb=some (.box [spI ca tw xw m,.sl tl xl,.raw (.map (some mN)),.sl tk xk,.sl ⟨true,.nil,0⟩ []])) (hxl:AllR IsLn lines xl) (hol:own st tl lines.length 2 S0) (hxk:AllR wJ6 links xk) {tk':Tag} (hok:own st' tk' (links.length+1) 1 S0) (hsub:subSt S0 st') (hkf:keepF 1 st st') :
  RS ca m W tw xw rb mN S0 (st'.put rb (some (.box [spI ca tw xw m,.sl tl xl,.raw (.map (some mN)),.sl tk' (xk++[x]),.sl ⟨true,.nil,0⟩ []]))) lines (links++[l]):=by
 obtain⟨es0,he0,hc0⟩:=h.sp;have hn:=h.num;have h1:rb≠m:=by rintro rfl;rw[hrb] at he0;cases he0
 have h2:rb≠mN:=by rintro rfl;rw[hrb] at hn;cases hn
 have hr':=hkf rb _ hrb (λn h=>by cases h);have put:∀ {t:Tag} {n k:Nat},own st' t n k S0->own (st'.put rb (some (.box [spI ca tw xw m,.sl tl xl,.raw (.map (some mN)),.sl tk' (xk++[x]),.sl ⟨true,.nil,0⟩ []]))) t n k S0:=λho=>ho.mono λg hg _=>by
  rw[yQ6 λe=>by rw[e,hr'] at hg;cases hg];exact hg
 refine⟨⟨tl,xl,tk',_,ISt.put_same ..,hxl,put (hkf.own hol (by decide)),hxk.snoc hx,by rw[lLa];exact put hok⟩,?_,⟨es0,?_,hc0⟩,yQe hsub h.off.1,h.off,h.ok,h.nd⟩
 ·rw[yQ6 h2.symm];exact hkf _ _ hn λn h=>by cases h
 ·rw[yQ6 h1.symm];exact hkf _ _ he0 λn h=>by cases h
theorem zXj (G:Gl gl)(T:Gt gl)(ca:Nat)(s:Sq)(x:IV)(hx:IsSq s x)(hs:yYj s)(st:ISt):ICall prog gl 43 [.raw (.int .u8 (ca:Int)),x] st (ExplR ca s st):=by
 have hb:=λst=>xZ6 gl G ca s x hx hs st;have hx0:=hx;obtain⟨t1,x1,t2,x2,rfl,e1,i1,e2,i2⟩:=hx;refine ICall.intro (c:=cf prog gl [26] []) func43 rfl (by show _<=76;simp) (by kernel_rfl) ?_;simp only[go_sem,zE,zB,zA,zM,zS,zL,reduceCtorEq,fits];refine (hb _).mono ?_;rintro _ st1 (⟨hc,rfl,rfl⟩|⟨hc,hv,rfl,rfl⟩|⟨hc,hv,m,tw,xw,hm,htw,hxw,rfl,rfl⟩)
 ·simp only[go_sem,zE,zB,zA,zM,zS,zL,reduceCtorEq,fits,show decide ((2:Int)=0)=false from rfl];exact yQ0 (show ExplR _ _ _ _ _ from .inl ⟨hc,rfl,rfl⟩)
 ·simp only[go_sem,zE,zB,zA,zM,zS,zL,reduceCtorEq,fits,show decide ((190:Int)=0)=false from rfl];exact yQ0 (show ExplR _ _ _ _ _ from .inr (.inl ⟨hc,hv,rfl,rfl⟩))
 ·obtain⟨hS,_,hWs,hin⟩:=yKf hc hv;have hfit:=yUa hv;have hln:=zVt hin;have hline:=λst=>xXk gl T ca m (spW s) tw xw htw hxw hS.srt (Nat.le_trans hWs (by omega)) s _ hx0 ⟨by omega,by omega⟩ hin st;simp only[go_sem,zE,zB,zA,zM,zS,zL,reduceCtorEq,fits,wW2,decide_true];refine λmN=>yQ9 λhmN=>λrb=>yQ9 λhrb=>?_;refine (hline _).mono ?_;rintro z _ ⟨hz,rfl⟩;have n1:mN≠m:=by rintro rfl;rw[ISt.put_same] at hmN;cases hmN
  rw[yQ6 n1] at hmN;have n2:rb≠mN:=by rintro rfl;rw[ISt.put_same] at hrb;cases hrb
  rw[yQ6 n2] at hrb;have n3:rb≠m:=by rintro rfl;rw[ISt.put_same] at hrb;cases hrb
  rw[yQ6 n3] at hrb;have hR0:RS ca m (spW s) tw xw rb mN st (((st.put m (some (.map .pl []))).put mN (some (.map .str []))).put rb (some (.box [spI ca tw xw m,.sl ⟨true,.nil,0⟩ [],.raw (.map (some mN)),.sl ⟨true,.nil,0⟩ [],.sl ⟨true,.nil,0⟩ []]))) [] [] :=
   ⟨⟨_,_,_,_,ISt.put_same ..,AllR.nil,own.nil ..,AllR.nil,own.nil ..⟩,by rw[yQ6 n2.symm,ISt.put_same];rfl,⟨[],by rw[yQ6 n3.symm,yQ6 n1.symm,ISt.put_same],(λp hp=>by cases hp)⟩,
    yQe (yQe (yQp hm) hmN) hrb,⟨hrb,hmN,hm⟩,(λ_ h=>by cases h),List.nodup_nil⟩
  have hle1:=yWy (spW s) s.l;have hle2:=yWy (spW s) s.r;obtain⟨kk1,kk2⟩:=xXs (Nat.le_trans hWs (by omega)) hln ⟨Nat.le_trans hle1 hfit.1,Nat.le_trans hle2 hfit.2⟩;have hfc:=wKe gl ca m (spW s) tw xw rb mN st _ [] [] hR0 (zVu (spW s) (s.l,s.r)) kk1 kk2 z hz (Nat.zero_le _);obtain⟨ta,tb,rfl,ea,eb⟩:=id hz;simp only[go_sem,zE,zB,zA,zM,zS,zL,reduceCtorEq];refine hfc.mono ?_;rintro _ s1 (⟨n,hn,_⟩|⟨_,⟨hge,_⟩|⟨_,rfl,hR1,_⟩⟩)
  ·simp at hn
  ·simp at hge
  ·have hE0:ExS ca (spW s) (nf (s.l,s.r)) ([]++[zVu (spW s) (s.l,s.r)]) []:=by
    refine⟨⟨_,rfl,zZ2 hS.srt hin⟩,λp hp=>?_,λp hp=>?_,λk l hk=>by simp at hk,by simp⟩
    ·rw[List.mem_singleton.1 hp];exact hln
    ·rw[List.mem_singleton.1 hp,zZ2 hS.srt hin];exact .refl
   generalize []++[zVu (spW s) (s.l,s.r)]=lines0 at hR1 hE0;simp only[go_sem,zE,zB,zA,zM,zS,zL,reduceCtorEq,fits];refine LoopC.dec 20001 (λq fr st' ds=>∃lines links,q+links.length=20001/\RS ca m (spW s) tw xw rb mN st st' lines links/\ExS ca (spW s) (nf (s.l,s.r)) lines links/\fr 6=.iv (spI ca tw xw m)/\fr 8=.iv (ptr rb)/\fr 9=.iv (.raw (.int .i64 (links.length:Int)))/\ds=[]) ?_ ?_
   ·simp only[go_sem,zE,zB,zA,zM,zS,zL,reduceCtorEq];exact⟨lines0,[],rfl,hR1,hE0,rfl⟩
   ·rintro q fr s2 _ ⟨lines,links,hq,hR,hE,f6,f8,f9,rfl⟩;obtain⟨tl,xl,tk,xk,hrb,hxl,hol,hxk,hok⟩:=hR.ex;have hkl:links.length<=lines.length:=by
     rcases Nat.lt_or_ge lines.length links.length with h|h
     ·obtain⟨a,ha,_⟩:=hE.done lines.length _ (List.getElem?_eq_getElem h);rw[List.getElem?_eq_none (Nat.le_refl _)] at ha;cases ha
     ·exact h
    have hxll:=hxl.1;rcases Nat.lt_or_ge links.length lines.length with hlt|hge
    ·obtain⟨ln,hln⟩:=yQ2 hlt;have hlm:=lMg hln;have hlok:=hE.ok ln hlm;obtain⟨z,hz,hzl⟩:=hxl.2 _ ln hln;have hax:=λst=>xZ7 gl ca m (spW s) hS tw xw htw hxw ln hlok z hzl st;have hex:=wXi gl G T ca m (spW s) hS hWs tw xw htw hxw rb mN st s2 lines links hR hE.len links.length ln hln hlok;obtain⟨ta,tb,rfl,ea,eb⟩:=hzl;simp only[go_sem,zE,zB,zA,zM,zS,zL,reduceCtorEq,f6,f8,f9,hrb,fits,lt_i (show links.length<xl.length by omega),hz,iNn,yQ3 hol.es];intro _;refine (hax _).mono ?_;rintro _ s2 ⟨⟨zf,rfl,hzf⟩,rfl⟩;obtain⟨y1,y2,y3,y4,y5,y6,rfl⟩:=hzf.agg;have hcl:=xUy (W:=spW s) hlok.1;rcases Bool.eq_false_or_eq_true (axW (spW s) ln).isSome with hax1|hax1
     ·have hcn:=hcl.1 hax1;simp only[go_sem,zE,zB,zA,zM,zS,zL,reduceCtorEq,fits,hax1,f6,f8,f9,hrb,yQ1];refine yX4 hok hxk.1 hR.base rfl (by simp[fits,IV.one]) (by simp only;omega) (by omega) λtk' s3 w1 w2 w3=>?_;have hrb3:=w3 rb _ hrb (λn h=>by cases h);simp only[go_sem,zE,zB,zA,zM,zS,zL,reduceCtorEq,f6,f8,f9,hrb3,fits];have hE':=hE.add hS hln (l:=[]) (more:=[]) (.inl ⟨hcn,rfl⟩) (.inl rfl) (λp hp=>by cases hp) (by rw[List.append_nil];exact hE.len);rw[List.append_nil] at hE';have hk:=hE.len;exact⟨q-1,by omega,lines,links++[[]],by rw[lLa];simp only[List.length_cons,List.length_nil];omega,hR.link ⟨_,[],rfl,.inl rfl,AllR.nil⟩ hrb hxl hol hxk w1 w2 w3,hE',by rw[yQd hlt (by omega),lLa];rfl⟩
     ·have hcn:¬ clN (spW s) ln:=λh=>by rw[hcl.2 h] at hax1;cases hax1
      simp only[go_sem,zE,zB,zA,zM,zS,zL,reduceCtorEq,fits,hax1,f6,f8,f9,hrb];refine hex.mono ?_;rintro _ s3 (⟨t,ys,L,vs,more,rfl,ht,hys,hvs,hlk,hpm,hlm2,hR3⟩|⟨rfl,hno,hsub⟩|⟨rfl,hsub,more,p,g1,g2,g3,g4,g5⟩)
      ·obtain⟨tl3,xl3,tk3,xk3,hrb3,hxl3,hol3,hxk3,hok3⟩:=hR3.ex;simp only[go_sem,zE,zB,zA,zM,zS,zL,reduceCtorEq,decide_true,f6,f8,f9,hrb3,fits,yQ1];refine yX4 hok3 hxk3.1 hR3.base rfl (by simp[fits,IV.one]) (by simp only;omega) (by omega) λtk' s4 w1 w2 w3=>?_;have hrb4:=w3 rb _ hrb3 (λn h=>by cases h);simp only[go_sem,zE,zB,zA,zM,zS,zL,reduceCtorEq,f6,f8,f9,hrb4,fits];have hE':=hE.add hS hln (l:=L) (more:=more) (.inr ⟨hcn,vs,hvs,hlk⟩) (.inr hcn) hpm hlm2;have hk:=hE.len;exact⟨q-1,by omega,lines++more,links++[L],by rw[lLa];simp only[List.length_cons,List.length_nil];omega,hR3.link ⟨_,ys,rfl,ht,hys⟩ hrb3 hxl3 hol3 hxk3 w1 w2 w3,hE',by rw[yQd hlt (by omega),lLa];rfl⟩
      ·simp only[go_sem,zE,zB,zA,zM,zS,zL,reduceCtorEq,show decide ((5:Int)=0)=false from rfl];exact⟨st,hsub,.inr (.inr ⟨hc,hv,.inl ⟨5,hE.no5 hS hlm hcn hno,rfl,rfl⟩⟩)⟩
      ·simp only[go_sem,zE,zB,zA,zM,zS,zL,reduceCtorEq,show decide ((4:Int)=0)=false from rfl];exact⟨st,hsub,.inr (.inr ⟨hc,hv,.inl ⟨4,hE.no4 hS hlm hcn g1 g2 g3 g4 g5,rfl,rfl⟩⟩)⟩
    ·have hge':¬ links.length<xl.length:=by omega
     simp only[go_sem,zE,zB,zA,zM,zS,zL,reduceCtorEq,f6,f8,f9,hrb,fits,yQm hge'];intro _;exact yQ0 (show ExplR _ _ _ _ _ from .inr (.inr ⟨hc,hv,.inr ⟨m,tw,xw,rb,mN,lines,links,htw,hxw,rfl,hR,hE,by omega⟩⟩))
end Go.Proofs.Tryz
namespace Go.Proofs.Tryz
open Go Go.Iv
def evK (u:Us)(ps:List Nat):List (Nat×Us):=ps.map λp=>(p,u)
def evL (i:Nat)(l:List Lk):List (Nat×Us):=l.zipIdx.flatMap λkj=>evK (i,kj.2) kj.1.2.2
def evA (links:List (List Lk)):List (Nat×Us):=links.zipIdx.flatMap λli=>evL li.2 li.1
def UsOk (us:List (List Us))(E:List (Nat×Us)):Prop:=∀p u,(usAt us p).count u=E.count (p,u)
theorem xZ0 {α β:Type} [BEq β] [LawfulBEq β](F:α×Nat->List β)(tag:β->Nat)(hF:∀a i,∀x∈F (a,i),tag x=i)(b:β):∀(l:List α) (k:Nat),((l.zipIdx k).flatMap F).count b=if k<=tag b then ((l[tag b-k]?).elim 0 λa=>(F (a,tag b)).count b) else 0
 | [],k=>by simp
 | a::l,k=>by
  rw[List.zipIdx_cons,List.flatMap_cons,List.count_append,xZ0 F tag hF b l (k+1)];by_cases h1:tag b=k
  ·rw[if_neg (by omega),if_pos (by omega),h1,Nat.sub_self];rfl
  ·have h0:(F (a,k)).count b=0:=List.count_eq_zero.2 λhb=>h1 (hF a k b hb);rw[h0,Nat.zero_add];by_cases h2:k<=tag b
   ·rw[if_pos (by omega),if_pos h2,show tag b-k=(tag b-(k+1))+1 by omega,List.getElem?_cons_succ]
   ·rw[if_neg (by omega),if_neg h2]
theorem xZi {α β:Type}(F:α×Nat->List β){l:List α}{i:Nat}{a:α}(h:l[i]?=some a):(l.take (i+1)).zipIdx.flatMap F=(l.take i).zipIdx.flatMap F++F (a,i):=by
 have hi:=(lGs h).1;rw[yQ7 h,List.zipIdx_append,List.flatMap_append,List.length_take,Nat.zero_add,Nat.min_eq_left (by omega)];simp
theorem wXl {links:List (List Lk)}{i:Nat}{l:List Lk}(h:links[i]?=some l):evA (links.take (i+1))=evA (links.take i)++evL i l:=xZi _ h
theorem wXj {i j:Nat}{l:List Lk}{k:Lk}(h:l[j]?=some k):evL i (l.take (j+1))=evL i (l.take j)++evK (i,j) k.2.2:=xZi _ h
theorem wXk {u:Us}{ps:List Nat}{q p:Nat}(h:ps[q]?=some p):evK u (ps.take (q+1))=evK u (ps.take q)++[(p,u)]:=by
 unfold evK;rw[yQ7 h,List.map_append];rfl
theorem wWs (links:List (List Lk))(p:Nat)(u:Us):(evA links).count (p,u)=(lkAt links u).count p:=by
 have hK:∀(u v:Us) (ps:List Nat),(evK v ps).count (p,u)=if v=u then ps.count p else 0:=λu v ps=>by
  unfold evK
  induction ps with
  | nil=>simp
  | cons a ps ih =>
   rw[List.map_cons,List.count_cons,ih,List.count_cons];by_cases h:v=u
   ·subst h;by_cases h2:a=p
    ·simp[h2]
    ·simp[h2]
   ·simp[h]
 have h1:=xZ0 (λli:List Lk×Nat=>evL li.2 li.1) (λx:Nat×Us=>x.2.1) (λa i x hx=>by
  obtain⟨kj,_,hx⟩:=List.mem_flatMap.1 hx;obtain⟨q,_,rfl⟩:=List.mem_map.1 hx;rfl) (p,u) links 0
 unfold evA;rw[h1,if_pos (Nat.zero_le _),Nat.sub_zero];unfold lkAt;cases hl:links[u.1]? with
 | none=>simp[hl]
 | some l =>
  simp only[hl,Option.elim_some,Option.getD_some];have h2:=xZ0 (λkj:Lk×Nat=>evK (u.1,kj.2) kj.1.2.2) (λx:Nat×Us=>x.2.2) (λa i x hx=>by
   obtain⟨q,_,rfl⟩:=List.mem_map.1 hx;rfl) (p,u) l 0
  unfold evL;rw[h2,if_pos (Nat.zero_le _),Nat.sub_zero];cases hk:l[u.2]? with
  | none=>simp[hk]
  | some k =>
   simp only[hk,Option.elim_some];rw[hK,if_pos rfl]
theorem UsOk.nil (n:Nat):UsOk (List.replicate n []) []:=λp u=>by
 have:usAt (List.replicate n []) p=[]:=by
  unfold usAt;rw[List.getElem?_replicate];split<;>rfl
 rw[this];rfl
theorem UsOk.add {us:List (List Us)}{E:List (Nat×Us)}(h:UsOk us E){p:Nat}{u:Us}(hp:p<us.length):UsOk (us.set p (usAt us p++[u])) (E++[(p,u)]):=λp' u'=>by
 have hs:usAt (us.set p (usAt us p++[u])) p'=if p'=p then usAt us p++[u] else usAt us p':=by
  unfold usAt;rw[List.getElem?_set];by_cases e:p=p'
  ·subst e;simp[hp]
  ·rw[if_neg e,if_neg λh=>e h.symm]
 rw[hs,List.count_append,<- h p' u'];by_cases e:p'=p
 ·subst e;rw[if_pos rfl,List.count_append];congr 1;by_cases e2:u=u'
  ·subst e2;simp
  ·simp[e2]
 ·rw[if_neg e];have:[(p,u)].count (p',u')=0:=by simp[Ne.symm e]
  rw[this,Nat.add_zero]
def wsOf (links:List (List Lk)):List (List Nat):=links.map λl=>l.map λk=>k.2.2.length
theorem xVz {links:List (List Lk)}(u:Us):atW (wsOf links) u=(((links[u.1]?).getD [])[u.2]?).map λk=>k.2.2.length:=by
 unfold atW wsOf;rw[List.getElem?_map];cases links[u.1]? with
 | none=>simp
 | some l=>simp
theorem Rnd.start {cl:Nat->Prop}{links:List (List Lk)}{hs now:List Nat}(hne:∀l∈links,∀k∈l,k.2.2≠[])(hl:hs.length=links.length)(hh:∀i x,hs[i]?=some x->(x=1/\cl i)\/(x=0/\¬ cl i))(hn:∀i,i∈now↔hs[i]?=some 1)(hnd:now.Nodup):Rnd cl links 2 hs (wsOf links) now:=by
 refine⟨hl,λu x hx=>?_,λu hu=>?_,λi x hx=>?_,hn,hnd⟩
 ·rw[xVz] at hx;obtain⟨k,hk,rfl⟩:=Option.map_eq_some_iff.1 hx;unfold wt lkAt;rw[hk];simp only[Option.elim_some];rw[List.filter_eq_self.2 λp _=>by simp[htG]]
 ·rw[xVz];unfold lkAt at hu;cases hk:((links[u.1]?).getD [])[u.2]? with
  | none=>rw[hk] at hu;exact absurd rfl hu
  | some k=>exact⟨_,rfl⟩
 ·refine⟨λh0=>?_,λk hk hg=>?_⟩
  ·rcases hh i x hx with⟨rfl,hc⟩|⟨rfl,_⟩
   ·exact⟨.inl hc,by omega⟩
   ·omega
  ·obtain rfl|rfl:k=0\/k=1:=by omega
   ·exact hg.elim
   ·have hc:cl i:=by
     rcases hg with hc|⟨lk,hlk,hp⟩
     ·exact hc
     ·cases hli:links[i]? with
      | none=>rw[hli] at hlk;cases hlk
      | some l =>
       rw[hli] at hlk;cases hps:lk.2.2 with
       | nil=>exact absurd hps (hne l (lMg hli) lk hlk)
       | cons p ps=>exact (hp p (by rw[hps];exact .head _)).elim
    rcases hh i x hx with⟨rfl,_⟩|⟨rfl,hn⟩
    ·exact⟨by omega,by omega⟩
    ·exact absurd hc hn
theorem wYb {j r:Bool}{f:Fm}{t:Nat×List Sn}(h:t∈addF j f r):t.2≠[]:=by
 unfold addF at h;split at h
 case h_5=>split at h<;>simp at h<;>(try rcases h with rfl|rfl)<;>(try subst h)<;>simp
 all_goals (first|(simp at h;subst h;simp)|(simp at h))
theorem vQ8 {W:List Fm}{j:Bool}{ln:Ln}{v:Mv}(h:some v∈mvsN W j ln):v.2.2≠[]:=by
 obtain⟨p,_,h⟩:=List.mem_flatMap.1 (wJu h);unfold yW9 at h;cases hf:W[p.1]? with
 | none=>simp only[hf] at h;cases h
 | some f =>
  simp only[hf] at h;obtain⟨t,ht,rfl⟩:=List.mem_map.1 h;obtain⟨t',ht',rfl⟩:=List.mem_map.1 ht;have:=wYb ht';simpa[mvT] using this
def clL (W:List Fm)(lines:List Ln)(i:Nat):Prop:=∃ln,lines[i]?=some ln/\clN W ln
structure LksAll (ca:Nat)(W:List Fm)(lines:List Ln)(links:List (List Lk)):Prop where
 ok:∀ln∈lines,LnOk W ln
 done:∀(k:Nat) (l:List Lk),links[k]?=some l->∃ln,lines[k]?=some ln/\LkS W (calJ ca) lines ln l
 len:links.length=lines.length
theorem LksAll.lk {ca:Nat}{W:List Fm}{lines:List Ln}{links:List (List Lk)}(h:LksAll ca W lines links)(hS:SpOk ca W){l:List Lk}(hl:l∈links){k:Lk}(hk:k∈l):k.2.2≠[]/\k.2.2.length<=2/\k.1<256/\k.2.1<W.length/\∀p∈k.2.2,p<links.length:=by
 obtain⟨i,hi,rfl⟩:=List.mem_iff_getElem.1 hl;obtain⟨ln,hln,⟨_,h0⟩|⟨_,vs,hvs,hlk⟩⟩:=h.done i _ (List.getElem?_eq_getElem hi)
 ·rw[h0] at hk;cases hk
 ·obtain⟨q,hq,rfl⟩:=List.mem_iff_getElem.1 hk;obtain⟨v,hv⟩:=yQ2 (show q<vs.length by rw[<- hlk.1];exact hq);obtain⟨k,hk',ho⟩:=hlk.2 q v hv;rw[List.getElem?_eq_getElem hq] at hk';cases hk';have hvm:some v∈mvsN W (calJ ca) ln:=by rw[hvs];exact List.mem_map_of_mem (lMg hv)
  have h2:=zQz hS (h.ok ln (lMg hln)) hvm;refine⟨λe=>vQ8 hvm (List.eq_nil_of_length_eq_zero (by rw[<- ho.2.2.1,e];rfl)),by rw[ho.2.2.1];exact h2.2.2.1,by rw[ho.1];exact h2.2.1,by rw[ho.2.1];exact h2.1,λp hp=>?_⟩;obtain⟨e,he,rfl⟩:=List.mem_iff_getElem.1 hp;obtain⟨p',hp1,_⟩:=ho.2.2.2 e _ (List.getElem?_eq_getElem he);rw[h.len];exact (lGs hp1).1
theorem LksAll.ht {ca:Nat}{W:List Fm}{lines:List Ln}{links:List (List Lk)}(h:LksAll ca W lines links)(hS:SpOk ca W):∀(n i:Nat) (ln:Ln),lines[i]?=some ln->(htG (clL W lines) links n i↔HtS (calJ ca) n (lnW W ln))
 | 0,_,_,_=>Iff.rfl
 | n+1,i,ln,hln=>by
  have hi:=(lGs hln).1;have hlo:=h.ok ln (lMg hln);obtain⟨l,hl⟩:=yQ2 (show i<links.length by rw[h.len];exact hi);have hcl:clL W lines i↔ClF (lnW W ln).1 (lnW W ln).2:=by
   rw[<- zQm hS.srt hlo];exact⟨λ⟨a,ha,hc⟩=>by rw[hln] at ha;cases ha;exact hc,λhc=>⟨ln,hln,hc⟩⟩
  rw[zW9];show (clL W lines i\/∃lk∈(links[i]?).getD [],∀p∈lk.2.2,htG (clL W lines) links n p)↔_;rw[hcl,hl,Option.getD_some];obtain⟨a,ha,hs⟩:=h.done i l hl;rw[hln] at ha;cases ha;rcases hs with⟨hc,_⟩|⟨hc,vs,hvs,hlk⟩
  ·exact⟨λ_=>.inl ((zQm hS.srt hlo).1 hc),λ_=>.inl ((zQm hS.srt hlo).1 hc)⟩
  ·refine or_congr Iff.rfl ?_;rw[xQa hS hlo hvs];constructor
   ·rintro⟨lk,hm,hp⟩;obtain⟨q,hq,rfl⟩:=List.mem_iff_getElem.1 hm;obtain⟨v,hv⟩:=yQ2 (show q<vs.length by rw[<- hlk.1];exact hq);obtain⟨k,hk,ho⟩:=hlk.2 q v hv;rw[List.getElem?_eq_getElem hq] at hk;cases hk;refine⟨mvW W v,List.mem_map_of_mem (lMg hv),λp hpm=>?_⟩;obtain⟨z,hz,rfl⟩:=List.mem_map.1 hpm;obtain⟨e,he,rfl⟩:=List.mem_iff_getElem.1 hz;have hek:e<(l[q]).2.2.length:=by rw[ho.2.2.1];exact he
    obtain⟨p',hp1,hp2⟩:=ho.2.2.2 e _ (List.getElem?_eq_getElem hek);rw[List.getElem?_eq_getElem he] at hp2;cases hp2;exact (LksAll.ht h hS n _ _ hp1).1 (hp _ (List.getElem_mem hek))
   ·rintro⟨m,hm,hp⟩;obtain⟨v,hv,rfl⟩:=List.mem_map.1 hm;obtain⟨q,hq,rfl⟩:=List.mem_iff_getElem.1 hv;obtain⟨k,hk,ho⟩:=hlk.2 q _ (List.getElem?_eq_getElem hq);refine⟨k,lMg hk,λp hpm=>?_⟩;obtain⟨e,he,rfl⟩:=List.mem_iff_getElem.1 hpm;obtain⟨p',hp1,hp2⟩:=ho.2.2.2 e _ (List.getElem?_eq_getElem he);exact (LksAll.ht h hS n _ _ hp1).2 (hp _ (List.mem_map_of_mem (lMg hp2)))
theorem LksAll.hF {ca:Nat}{W:List Fm}{lines:List Ln}{links:List (List Lk)}(h:LksAll ca W lines links)(hS:SpOk ca W){i x:Nat}{ln:Ln}(hln:lines[i]?=some ln)(hx:LstG (clL W lines) links i x):Tryz.hF (calJ ca) (lnW W ln)=x :=
 wWg (λh0=>(h.ht hS x i ln hln).1 (hx.1 h0)) λn hn=>hx.2 n ((h.ht hS n i ln hln).2 hn)
theorem ExS.all {ca:Nat}{W:List Fm}{s0:Sn}{lines:List Ln}{links:List (List Lk)}(h:ExS ca W s0 lines links)(hl:links.length=lines.length):LksAll ca W lines links:=⟨h.ok,h.done,hl⟩
end Go.Proofs.Tryz
namespace Go.Iv
open Go
theorem zWs {esc:List Nat}{dst:Option Nat}{e:TypeId×Bool×Nat×Nat}{tg:Tag}{zs:List IV}{y:IV}{R:Rt}{st S0:ISt}{ds:List Dfd}{n s:Nat}(h:own st tg n s S0)(hlen:zs.length=n)(hsub:subSt S0 st)(he:e.2.2.1=s)
  (hf:fits e.2.1 e.2.2.1 y=true) (hcap:(n+1)*e.2.2.2<=140737488355328) (hcap2:n+1<=140737488355328)
  (k:∀tg' st',own st' tg' (n+1) s S0->subSt S0 st'->(∀b o,st b=some o->tg.cap≠.app b->st' b=some o)->(∀g,tg'.cap=.app g->tg.cap=.app g\/st g=none)->R (.val (.sl tg' (zs++[y]))) st' ds)
  (hesc:yK9 esc dst=false:=by first|rfl|simp[yK9]):appV esc dst e tg zs [y] R st ds:=by
 subst hlen he;unfold appV;refine⟨by simp[hf],⟨hcap,hcap2⟩,?_⟩;have hnew:∀g,st g=none->∀m,subSt S0 (st.put g (some (.front m e.2.2.1)))/\(∀b o,st b=some o->(st.put g (some (.front m e.2.2.1))) b=some o)/\S0 g=none:=λg hg m=>by
  have h0:=yXh hsub hg;refine⟨yQe hsub h0,λb o hb=>?_,h0⟩;rw[ISt.put_apply];grind
 rcases h with⟨h0,hc⟩|rfl|⟨g0,rfl,h1,h2⟩
 ·have hz:zs=[]:=List.eq_nil_of_length_eq_zero h0;subst hz;rw[hc];simp only[hesc,bFt,if_false];intro g hg;obtain⟨a1,a2,a3⟩:=hnew g hg 1;exact k _ _ (.inr (.inr ⟨g,rfl,ISt.put_same _ _ _,a3⟩)) a1 (λb o hb _=>a2 b o hb) λg' h=>by cases h;exact .inr hg
 ·refine⟨rfl,λg hg=>?_⟩;obtain⟨a1,a2,a3⟩:=hnew g hg (zs.length+1);exact k _ _ (.inr (.inr ⟨g,rfl,ISt.put_same _ _ _,a3⟩)) a1 (λb o hb _=>a2 b o hb) λg' h=>by cases h;exact .inr hg
 ·refine⟨rfl,h1,λg hg=>?_⟩;have hgn:S0 g=none:=by
   rcases hg with rfl|hg
   ·exact h2
   ·exact yXh hsub hg
  refine k _ _ (.inr (.inr ⟨g,rfl,ISt.put_same _ _ _,hgn⟩)) (yQe (yQe hsub h2) hgn) (λb o hb hn=>?_) λg' h=>?_
  ·have hb0:b≠g0:=λe=>hn (by rw[e]);have hbg:b≠g:=by
    rintro rfl;rcases hg with h|h
    ·exact hb0 h
    ·rw[h] at hb;cases hb
   rw[yQ6 hbg,yQ6 hb0];exact hb
  ·cases h;rcases hg with rfl|hg
   ·exact .inl rfl
   ·exact .inr hg
end Go.Iv
namespace Go.Proofs.Tryz
open Go Go.Iv
set_option maxRecDepth 4000
variable (gl:Nat->Option IV)
def i32I (l:List Nat):List IV:=l.map λn:Nat=>.raw (.int .i32 (n:Int))
theorem xJ5 {l:List Nat}{i n:Nat}(h:l[i]?=some n):(i32I l)[i]?=some (.raw (.int .i32 (n:Int))):=by simp[i32I,h]
theorem yGv (l:List Nat):(i32I l).length=l.length:=by simp[i32I]
theorem to_c (k:Lk)(x:IV)(hx:IsLk k x)(hk:k.2.2.length<=2)(st:ISt):ICall prog gl 80 [x] st (λr st'=>(∃t,r=.sl t (i32I k.2.2)/\okEs t 1)/\st'=st):=by
 obtain⟨p,q,rfl,hpq⟩:=hx;refine ICall.intro (c:=cf prog gl [] [] [1]) func80 rfl (by show _<=7;simp) (by kernel_rfl) ?_;simp only[go_sem,zE,zB,zA,zM,zS,zL,reduceCtorEq,fits,yU9 hk];have e:i32I k.2.2=List.take k.2.2.length [.raw (.int .i32 (p:Int)),.raw (.int .i32 (q:Int))]:=by
  conv=>lhs;rw[hpq]
  simp[i32I,List.map_take]
 rw[<- e];exact yQ0 ⟨⟨_,rfl,.inr rfl⟩,rfl⟩
def u8J (l:List Nat):List IV:=l.map λn:Nat=>.raw (.int .u8 (n:Int))
theorem zU9 {l:List Nat}{i n:Nat}(h:l[i]?=some n):(u8J l)[i]?=some (.raw (.int .u8 (n:Int))):=by simp[u8J,h]
theorem zV4 (l:List Nat):(u8J l).length=l.length:=by simp[u8J]
theorem xW9 (l:List Nat)(i n:Nat):(u8J l).set i (.raw (.int .u8 (n:Int)))=u8J (l.set i n):=by simp[u8J,List.map_set]
theorem zW0 (l:List Nat)(i n:Nat):(yQh l).set i (.raw (.int .i64 (n:Int)))=yQh (l.set i n):=by simp[yQh,List.map_set]
theorem yJy {cs:List IV}{k:Nat}{y:IV}(h:k<cs.length):yX8 cs k [y]=cs.set k y:=by
 unfold yX8;rw[List.set_eq_take_append_cons_drop,if_pos h];simp
abbrev slG (g n:Nat):IV:=.raw (.slice (some ⟨g,0,none⟩) n n)
def rwsI (gs:List Nat)(ws:List (List Nat)):List IV:=List.zipWith (λg w=>slG g w.length) gs ws
structure Mem (gW gH rb n:Nat)(pre:List IV)(gs:List Nat)(st:ISt)(hs:List Nat)(ws:List (List Nat)):Prop where
 rbx:st rb=some (.box (pre++[slG gH n]))
 hts:st gH=some (.box (yQh hs))
 hl:hs.length=n
 wts:st gW=some (.box (rwsI gs ws++List.replicate (n-gs.length) (.sl ⟨true,.nil,0⟩ [])))
 gll:gs.length=ws.length
 row:∀(k g:Nat) (w:List Nat),gs[k]?=some g->ws[k]?=some w->st g=some (.box (u8J w))
 nd:(gW::gH::rb::gs).Nodup
 small:∀w∈ws,∀x∈w,x<256
theorem zVg {gs:List Nat}{ws:List (List Nat)}{k g:Nat}{w:List Nat}(h1:gs[k]?=some g)(h2:ws[k]?=some w):(rwsI gs ws)[k]?=some (slG g w.length):=by
 unfold rwsI;rw[List.getElem?_zipWith,h1,h2]
end Go.Proofs.Tryz
namespace Go.Proofs.Tryz
open Go Go.Iv
def IsUs (u:Us)(y:IV):Prop:=y=.agg [.raw (.int .i32 (u.1:Int)),.raw (.int .i32 (u.2:Int))]
structure Usr (gU:Nat)(S0 st:ISt)(us:List (List Us)):Prop where
 ex:∃cells,st gU=some (.box cells)/\cells.length=us.length/\(∀(p:Nat) (l:List Us),us[p]?=some l->∃t ys,cells[p]?=some (.sl t ys)/\AllR IsUs l ys/\own st t l.length 2 S0) /\
  ∀(p q:Nat) (t t':Tag) (ys ys':List IV) (g:Nat),cells[p]?=some (.sl t ys)->cells[q]?=some (.sl t' ys')->t.cap=.app g->t'.cap=.app g->p=q
theorem yUj {st:ISt}{tg:Tag}{n s g:Nat}{S0:ISt}(h:own st tg n s S0)(hc:tg.cap=.app g):st g=some (.front n s):=by
 rcases h with⟨_,h⟩|rfl|⟨g',rfl,h,_⟩
 ·rw[h] at hc;cases hc
 ·cases hc
 ·cases hc;exact h
theorem nmem {x g:Nat}{l:List Nat}(h:x ∉ l)(hg:g∈l):x≠g:=λe=>h (by rw[e];exact hg)
structure PS (gU gW gH rb n:Nat)(pre:List IV)(S0:ISt)(gs:List Nat)(st:ISt)(hs:List Nat)(ws:List (List Nat))(us:List (List Us)):Prop where
 mem:Mem gW gH rb n pre gs st hs ws
 usr:Usr gU S0 st us
 base:subSt S0 st
 off:S0 gU=none/\S0 gW=none/\S0 gH=none/\S0 rb=none/\∀g∈gs,S0 g=none
 gu:gU ∉ gW::gH::rb::gs
 ul:us.length=n
section
variable {gU gW gH rb n:Nat}{pre:List IV}{S0:ISt}{gs:List Nat}{st:ISt}{hs:List Nat}{ws:List (List Nat)}{us:List (List Us)}
theorem Usr.keep {st':ISt}(h:Usr gU S0 st us)(h1:st' gU=st gU)(h2:∀g k,st g=some (.front k 2)->st' g=st g):Usr gU S0 st' us:=by
 obtain⟨cells,c1,c2,c3,c4⟩:=h.ex;refine⟨cells,h1.trans c1,c2,λp l hp=>?_,c4⟩;obtain⟨t,ys,k1,k2,k3⟩:=c3 p l hp;exact⟨t,ys,k1,k2,k3.mono λg hg _=>(h2 g _ hg).trans hg⟩
theorem Mem.keep {st':ISt}(h:Mem gW gH rb n pre gs st hs ws)(hk:∀b cs,st b=some (.box cs)->b∈gW::gH::rb::gs->st' b=some (.box cs)):Mem gW gH rb n pre gs st' hs ws :=
 ⟨hk _ _ h.rbx (by simp),hk _ _ h.hts (by simp),h.hl,hk _ _ h.wts (by simp),h.gll,λk g w hg hw=>hk _ _ (h.row k g w hg hw) (by simp[lMg hg]),h.nd,h.small⟩
theorem Mem.ne (h:Mem gW gH rb n pre gs st hs ws):gW≠gH/\gW≠rb/\gW ∉ gs/\gH≠rb/\gH ∉ gs/\rb ∉ gs/\gs.Nodup:=by
 have:=h.nd;simp only[List.nodup_cons,List.mem_cons,not_or] at this;obtain⟨⟨a,b,c⟩,⟨d,e⟩,f,g⟩:=this;exact⟨a,b,c,d,e,f,g⟩
theorem PS.une (h:PS gU gW gH rb n pre S0 gs st hs ws us):gU≠gW/\gU≠gH/\gU≠rb/\gU ∉ gs:=by
 have:=h.gu;simp only[List.mem_cons,not_or] at this;exact this
theorem yKy {st:ISt}{b:Nat}{cs:List IV}{o:Option IObj}(hb:st b=some (.box cs)){g k s:Nat}(hg:st g=some (.front k s)):(st.put b o) g=st g:=by
 rw[yQ6];rintro rfl;rw[hb] at hg;cases hg
theorem PS.setH (h:PS gU gW gH rb n pre S0 gs st hs ws us)(i v:Nat):PS gU gW gH rb n pre S0 gs (st.put gH (some (.box (yQh (hs.set i v))))) (hs.set i v) ws us:=by
 obtain⟨a,b,c,d,e,f,g⟩:=h.mem.ne;obtain⟨u1,u2,u3,u4⟩:=h.une;refine⟨⟨by rw[yQ6 d.symm];exact h.mem.rbx,ISt.put_same ..,by rw[List.length_set];exact h.mem.hl,by rw[yQ6 a];exact h.mem.wts,h.mem.gll,λk g' w hg hw=>?_,h.mem.nd,h.mem.small⟩,
  h.usr.keep (yQ6 u2) λg' k hg=>yKy h.mem.hts hg,yQe h.base h.off.2.2.1,h.off,h.gu,h.ul⟩
 rw[yQ6 (nmem e (lMg hg)).symm];exact h.mem.row k g' w hg hw
theorem PS.row (h:PS gU gW gH rb n pre S0 gs st hs ws us){g:Nat}(hg:st g=none){w:List Nat}(hw:∀x∈w,x<256)(hl:gs.length<n) :
  PS gU gW gH rb n pre S0 (gs++[g]) ((st.put g (some (.box (u8J w)))).put gW (some (.box ((rwsI gs ws++List.replicate (n-gs.length) (IV.sl ⟨true,.nil,0⟩ [])).set gs.length (slG g w.length))))) hs (ws++[w]) us:=by
 obtain⟨a,b,c,d,e,f,nd⟩:=h.mem.ne;obtain⟨u1,u2,u3,u4⟩:=h.une;have hx:∀b cs,st b=some (.box cs)->g≠b:=λb cs hb e=>by rw[e] at hg;rw[hg] at hb;cases hb
 have gW':=hx _ _ h.mem.wts;have gH':=hx _ _ h.mem.hts;have gR':=hx _ _ h.mem.rbx;obtain⟨cells,uc,_⟩:=h.usr.ex;have gU':=hx _ _ uc;have gs':g ∉ gs:=λhm=>by
  obtain⟨k,hk,rfl⟩:=List.mem_iff_getElem.1 hm;obtain⟨w',hw'⟩:=yQ2 (l:=ws) (k:=k) (by rw[<- h.mem.gll];exact hk);exact hx _ _ (h.mem.row k _ w' (List.getElem?_eq_getElem hk) hw') rfl
 have hrl:(rwsI gs ws).length=gs.length:=by unfold rwsI;rw[List.length_zipWith,h.mem.gll,Nat.min_self]
 refine⟨⟨by rw[yQ6 b.symm,yQ6 gR'.symm];exact h.mem.rbx,by rw[yQ6 a.symm,yQ6 gH'.symm];exact h.mem.hts,h.mem.hl,?_,by simp[h.mem.gll],λk g' w' hg' hw'=>?_,?_,λw' hw'=>?_⟩,
  h.usr.keep (by rw[yQ6 u1,yQ6 gU'.symm]) (λg' k hg'=>by rw[yQ6 (λe=>by rw[e,h.mem.wts] at hg';cases hg'),yQ6 (λe=>by rw[e,hg] at hg';cases hg')]),yQe (yQe h.base (yXh h.base hg)) h.off.2.1,?_,?_,h.ul⟩
 ·rw[ISt.put_same];congr 2;have hr:rwsI (gs++[g]) (ws++[w])=rwsI gs ws++[slG g w.length]:=by
   unfold rwsI;rw[List.zipWith_append h.mem.gll];rfl
  rw[hr,lLa,List.length_singleton,List.set_append_right _ _ (by omega),hrl,Nat.sub_self];obtain⟨m,hm⟩:∃m,n-gs.length=m+1:=⟨n-gs.length-1,by omega⟩
  rw[hm,show n-(gs.length+1)=m by omega,List.replicate_succ,List.set_cons_zero,List.append_assoc];rfl
 ·rcases Nat.lt_or_ge k gs.length with hk|hk
  ·rw[List.getElem?_append_left hk] at hg';rw[List.getElem?_append_left (by rw[<- h.mem.gll];exact hk)] at hw';have hm:=lMg hg';rw[yQ6 (nmem c hm).symm,yQ6 (nmem gs' hm).symm];exact h.mem.row k g' w' hg' hw'
  ·have hk0:k=gs.length:=by
    have:=(lGs hg').1;rw[lLa,List.length_singleton] at this;omega
   subst hk0;rw[List.getElem?_append_right (Nat.le_refl _),Nat.sub_self] at hg';rw[h.mem.gll,List.getElem?_append_right (Nat.le_refl _),Nat.sub_self] at hw';cases hg';cases hw';rw[yQ6 gW',ISt.put_same]
 ·simp only[List.nodup_cons,List.mem_cons,List.mem_append,List.not_mem_nil,or_false,not_or];exact⟨⟨a,b,c,gW'.symm⟩,⟨d,e,gH'.symm⟩,⟨f,gR'.symm⟩,List.nodup_append.2 ⟨nd,by simp,λx hxm y hy=>by rw[List.mem_singleton.1 hy];rintro rfl;exact gs' hxm⟩⟩
 ·rcases List.mem_append.1 hw' with hm|hm
  ·exact h.mem.small w' hm
  ·rw[List.mem_singleton.1 hm];exact hw
 ·refine⟨h.off.1,h.off.2.1,h.off.2.2.1,h.off.2.2.2.1,λg' hg'=>?_⟩;rcases List.mem_append.1 hg' with hm|hm
  ·exact h.off.2.2.2.2 g' hm
  ·rw[List.mem_singleton.1 hm];exact yXh h.base hg
 ·simp only[List.mem_cons,List.mem_append,List.not_mem_nil,or_false,not_or];exact⟨u1,u2,u3,u4,gU'.symm⟩
theorem PS.setW (h:PS gU gW gH rb n pre S0 gs st hs ws us){i g:Nat}{w:List Nat}(hg:gs[i]?=some g)(hw:ws[i]?=some w)(j:Nat){v:Nat}(hv:v<256) :
  PS gU gW gH rb n pre S0 gs (st.put g (some (.box (u8J (w.set j v))))) hs (ws.set i (w.set j v)) us:=by
 obtain⟨a,b,c,d,e,f,nd⟩:=h.mem.ne;obtain⟨u1,u2,u3,u4⟩:=h.une;have hm:=lMg hg;have hrow:rwsI gs (ws.set i (w.set j v))=rwsI gs ws:=by
  unfold rwsI;refine List.ext_getElem? λk=>?_;rw[List.getElem?_zipWith,List.getElem?_zipWith,List.getElem?_set];by_cases e:i=k
  ·subst e;rw[if_pos rfl,if_pos (lGs hw).1,hw,hg];simp
  ·rw[if_neg e]
 refine⟨⟨by rw[yQ6 (nmem f hm)];exact h.mem.rbx,by rw[yQ6 (nmem e hm)];exact h.mem.hts,h.mem.hl,by rw[hrow,yQ6 (nmem c hm)];exact h.mem.wts,by rw[List.length_set];exact h.mem.gll,λk g' w' hg' hw'=>?_,h.mem.nd,λw' hw' x hx=>?_⟩,
  h.usr.keep (yQ6 (nmem u4 hm)) (λg' k hg'=>yKy (h.mem.row i g w hg hw) hg'),yQe h.base (h.off.2.2.2.2 g hm),h.off,h.gu,h.ul⟩
 ·rw[List.getElem?_set] at hw';split at hw'
  ·rename_i e;subst e;rw[if_pos (lGs hw).1] at hw';cases hw';rw[hg] at hg';cases hg';exact ISt.put_same ..
  ·rename_i e;have hgg:g'≠g:=λeg=>by
    subst eg;obtain⟨h1,h2⟩:=lGs hg;obtain⟨h3,h4⟩:=lGs hg';exact e ((List.getElem_inj nd).1 (h2.trans h4.symm))
   rw[yQ6 hgg];exact h.mem.row k g' w' hg' hw'
 ·rcases List.mem_or_eq_of_mem_set hw' with hw'|rfl
  ·exact h.mem.small w' hw' x hx
  ·rcases List.mem_or_eq_of_mem_set hx with hx|rfl
   ·exact h.mem.small w (lMg hw) x hx
   ·exact hv
theorem PS.addU (h:PS gU gW gH rb n pre S0 gs st hs ws us){p:Nat}{l:List Us}{u:Us}{y:IV}(hy:IsUs u y)(hp:us[p]?=some l){cells ys:List IV}{t tg':Tag}{st':ISt}(hc:st gU=some (.box cells))(ht:cells[p]?=some (.sl t ys))(hown:own st' tg' (l.length+1) 2 S0)(hsub:subSt S0 st')
  (hfar:∀b o,st b=some o->t.cap≠.app b->st' b=some o) (hnew:∀g,tg'.cap=.app g->t.cap=.app g\/st g=none) :
  PS gU gW gH rb n pre S0 gs (st'.put gU (some (.box (cells.set p (.sl tg' (ys++[y])))))) hs ws (us.set p (l++[u])):=by
 obtain⟨cells',c1,c2,c3,c4⟩:=h.usr.ex;rw[hc] at c1;cases c1;obtain⟨t0,ys0,k1,k2,k3⟩:=c3 p l hp;rw[ht] at k1;cases k1;have hbox:∀b cs,st b=some (.box cs)->st' b=some (.box cs):=λb cs hb=>hfar b _ hb λe=>by
  rw[yUj k3 e] at hb;cases hb
 have hpl:p<cells.length:=(lGs ht).1;have hu':=hbox _ _ hc;refine⟨h.mem.keep λb cs hb hm=>by rw[yQ6 (nmem h.gu hm).symm];exact hbox b cs hb,⟨_,ISt.put_same ..,by rw[List.length_set,List.length_set];exact c2,λq l' hq=>?_,λq q' t1 t2 y1 y2 g h1 h2 h3 h4=>?_⟩,yQe hsub h.off.1,h.off,h.gu,by rw[List.length_set];exact h.ul⟩
 ·have far2:∀ {t2:Tag} {m:Nat},own st' t2 m 2 S0->own (st'.put gU (some (.box (cells.set p (.sl tg' (ys++[y])))))) t2 m 2 S0:=λho=>ho.mono λg hg _=>by
   rw[yQ6 λe=>by rw[e,hu'] at hg;cases hg];exact hg
  rw[List.getElem?_set] at hq ⊢;split at hq
  ·rename_i e;subst e;rw[if_pos (lGs hp).1] at hq;cases hq;exact⟨tg',_,by rw[if_pos hpl,if_pos rfl],k2.snoc hy,by rw[lLa];exact far2 hown⟩
  ·rename_i e;rw[if_neg e];obtain⟨t2,y2,g1,g2,g3⟩:=c3 q l' hq;refine⟨t2,y2,g1,g2,far2 ?_⟩;rcases g3 with hz|rfl|⟨g',rfl,hg',hg0⟩
   ·exact .inl hz
   ·exact .inr (.inl rfl)
   ·exact .inr (.inr ⟨g',rfl,hfar g' _ hg' λe2=>e (c4 p q t _ ys _ g' ht g1 e2 rfl),hg0⟩)
 ·have key:∀(q:Nat) (t2:Tag) (y2:List IV) (g:Nat),q≠p->cells[q]?=some (.sl t2 y2)->t2.cap=.app g->tg'.cap=.app g->False:=λq t2 y2 g hqp hq h2c h1c=>by
   rcases hnew g h1c with h0|h0
   ·exact hqp (c4 q p t2 t y2 ys g hq ht h2c h0)
   ·obtain⟨lq,hlq⟩:=yQ2 (l:=us) (k:=q) (by rw[<- c2];exact (lGs hq).1);obtain⟨t3,y3,g1,_,g3⟩:=c3 q lq hlq;rw[hq] at g1;cases g1;rw[yUj g3 h2c] at h0;cases h0
  rw[List.getElem?_set] at h1 h2;by_cases e1:p=q
  ·by_cases e2:p=q'
   ·exact e1.symm.trans e2
   ·subst e1;rw[if_pos rfl,if_pos hpl] at h1;rw[if_neg e2] at h2;cases h1;exact (key q' t2 y2 g (λe=>e2 e.symm) h2 h4 h3).elim
  ·rw[if_neg e1] at h1;by_cases e2:p=q'
   ·subst e2;rw[if_pos rfl,if_pos hpl] at h2;cases h2;exact (key q t1 y1 g (λe=>e1 e.symm) h1 h3 h4).elim
   ·rw[if_neg e2] at h2;exact c4 q q' t1 t2 y1 y2 g h1 h2 h3 h4
theorem PS.far (h:PS gU gW gH rb n pre S0 gs st hs ws us){tg:Tag}{m:Nat}{st':ISt}(ho:own st tg m 1 S0)(hsub:subSt S0 st')(hfar:∀b o,st b=some o->tg.cap≠.app b->st' b=some o):PS gU gW gH rb n pre S0 gs st' hs ws us:=by
 have hbox:∀b cs,st b=some (.box cs)->st' b=some (.box cs):=λb cs hb=>hfar b _ hb λe=>by
  rw[yUj ho e] at hb;cases hb
 obtain⟨cells,c1,_⟩:=h.usr.ex;exact⟨h.mem.keep λb cs hb _=>hbox b cs hb,h.usr.keep ((hbox _ _ c1).trans c1.symm) λg k hg=>(hfar g _ hg λe=>by rw[yUj ho e] at hg;cases hg).trans hg.symm,hsub,h.off,h.gu,h.ul⟩
end
end Go.Proofs.Tryz
namespace Go.Proofs.Tryz
open Go Go.Iv
set_option maxRecDepth 4000
variable (gl:Nat->Option IV)
theorem xJg {ws:List (List Nat)}{u:Us}{w:List Nat}{x:Nat}(hw:ws[u.1]?=some w)(hx:w[u.2]?=some x):decW ws u=ws.set u.1 (w.set u.2 ((x+255)%256)):=by
 unfold decW;have hm:∀ {α:Type} (l:List α) (i:Nat) (f:α->α) (a:α),l[i]?=some a->l.modify i f=l.set i (f a):=λl i f a h=>by
  refine List.ext_getElem? λk=>?_;rw[List.getElem?_modify,List.getElem?_set];by_cases e:i=k
  ·subst e;simp only[if_true,if_pos (lGs h).1,h];rfl
  ·simp[e]
 rw[hm _ _ _ _ hw,hm _ _ _ _ hx]
theorem wU8 {x:Nat}(h:x<256):IntKind.u8.wrap ((x:Int)-1)=(((x+255)%256:Nat):Int):=by
 have:∀y:Fin 256,IntKind.u8.wrap ((y.val:Int)-1)=(((y.val+255)%256:Nat):Int):=by decide
 exact this ⟨x,h⟩
theorem wXn (gU gW gH rb n:Nat)(p1 p2 p3 p4:IV)(S0:ISt)(gs hs:List Nat)(ws:List (List Nat))(us:List (List Us))(u:Us)(st:ISt)(hP:PS gU gW gH rb n [p1,p2,p3,p4] S0 gs st hs ws us)(w:List Nat)(hw:ws[u.1]?=some w)(x:Nat)(hx:w[u.2]?=some x)(h:Nat)(hh:hs[u.1]?=some h) :
  ICall prog gl 81 [.agg [.raw (.int .i32 (u.1:Int)),.raw (.int .i32 (u.2:Int))],.cptr (slG gW n),.cptr (ptr rb)] st
   (λr st'=>r=.raw (.bool (decide ((x+255)%256=0/\h=0)))/\PS gU gW gH rb n [p1,p2,p3,p4] S0 gs st' hs (decW ws u) us/\∀g k s,st g=some (.front k s)->st' g=some (.front k s)):=by
 have hM:=hP.mem;obtain⟨g,hg⟩:=yQ2 (l:=gs) (k:=u.1) (by rw[hM.gll];exact (lGs hw).1);have hrow:=hM.row _ _ _ hg hw;have hx2:=(lGs hx).1;have hx1:x<256:=hM.small w (lMg hw) x (lMg hx);have hn:u.1<n:=by rw[<- hM.hl];exact (lGs hh).1
 have hgg:g∈gs:=lMg hg;obtain⟨d1,d2,d3,d4,d5,d6,d7⟩:=hM.ne;have eW:gW≠g:=λe=>d3 (e▸hgg);have eH:gH≠g:=λe=>d5 (e▸hgg);have eR:rb≠g:=λe=>d6 (e▸hgg);have hwc:(rwsI gs ws++List.replicate (n-gs.length) (IV.sl ⟨true,.nil,0⟩ []))[u.1]?=some (slG g w.length):=by
  have:=zVg hg hw;rw[List.getElem?_append_left (lGs this).1];exact this
 refine ICall.intro (c:=cf prog gl [9,13,20,24,30,34] []) func81 rfl (by show _<=37;simp) (by kernel_rfl) ?_;simp only[go_sem,zE,zB,zA,zM,zS,zL,reduceCtorEq,fits,yVq,IV.one,Nat.mul_one,Nat.zero_add,iNn,hn,hM.wts,hwc,hrow,hx2,zU9 hx,wU8 hx1];have hset:List.take u.2 (u8J w)++[.raw (.int .u8 (((x+255)%256:Nat):Int))]++List.drop (u.2+1) (u8J w)=u8J (w.set u.2 ((x+255)%256)):=by
  rw[<- xW9,<- yJy (by rw[zV4];exact hx2)];rfl
 rw[if_pos (by rw[zV4];omega),hset];have hP':=hP.setW hg hw u.2 (v:=(x+255)%256) (Nat.mod_lt _ (by decide));rw[<- xJg hw hx] at hP';have hw':(decW ws u)[u.1]?=some (w.set u.2 ((x+255)%256)):=by rw[xJg hw hx,List.getElem?_set,if_pos rfl,if_pos (lGs hw).1]
 have hx':(w.set u.2 ((x+255)%256))[u.2]?=some ((x+255)%256):=by rw[List.getElem?_set,if_pos rfl,if_pos hx2]
 have hfr:∀g' k s,st g'=some (.front k s)->(st.put g (some (.box (u8J (w.set u.2 ((x+255)%256)))))) g'=some (.front k s):=λg' k s hg'=>(yKy hrow hg').trans hg';generalize st.put g (some (.box (u8J (w.set u.2 ((x+255)%256)))))=st2 at hP' hfr ⊢;generalize w.set u.2 ((x+255)%256)=w2 at hw' hx';generalize (x+255)%256=v at hx' ⊢;have hM':=hP'.mem;have hrow':=hM'.row _ _ _ hg hw';have hx2':=(lGs hx').1;have hwc':(rwsI gs (decW ws u)++List.replicate (n-gs.length) (IV.sl ⟨true,.nil,0⟩ []))[u.1]?=some (slG g w2.length):=by
  have:=zVg hg hw';rw[List.getElem?_append_left (lGs this).1];exact this
 have hrb':=hM'.rbx;simp only[List.cons_append,List.nil_append] at hrb';by_cases hv:v=0
 ·subst hv;simp only[go_sem,zE,zB,zA,zM,zS,zL,reduceCtorEq,fits,yVq,IV.one,Nat.mul_one,Nat.zero_add,iNn,hn,hM'.wts,hwc',hrow',hx2',zU9 hx',hrb',hM'.hts,yZc hh,show decide (((0:Nat):Int)=0)=true from rfl];exact yQ0 ⟨by rw[show decide ((h:Int)=0)=decide (h=0) by rw[decide_eq_decide];omega],hP',hfr⟩
 ·have hv':decide ((v:Int)=0)=false:=dEf (by omega);simp only[go_sem,zE,zB,zA,zM,zS,zL,reduceCtorEq,fits,yVq,IV.one,Nat.mul_one,Nat.zero_add,iNn,hn,hM'.wts,hwc',hrow',hx2',zU9 hx',hrb',hM'.hts,yZc hh,hv'];exact yQ0 ⟨by rw[show decide (v=0/\h=0)=false from dEf λe=>hv e.1],hP',hfr⟩
theorem yGk {S:ISt}{b:Nat}{x y:Option IObj}(h:S b=none):((S.put b x).put b y).put b none=S:=by
 funext c;simp only[ISt.put_apply];split
 ·rename_i e;rw[e,h]
 ·rfl
theorem PS.start {gU gW gH rb n:Nat}{p1 p2 p3 p4:IV}{S0 st:ISt}(hgH:st gH=none)(eHR:rb≠gH)(hrb:S0 rb=none)(eUR:rb≠gU)(eUH:gU≠gH)(hgU:st gU=none)(eWU:gW≠gU)(eWR:rb≠gW)(eWH:gW≠gH)(hgW:st gW=none)(hsub:subSt S0 st) :
  PS gU gW gH rb n [p1,p2,p3,p4] S0 [] ((((st.put gH (some (.box (List.replicate n (.raw (.int .i64 0)))))).put rb (some (.box [p1,p2,p3,p4,slG gH n]))).put gU (some (.box (List.replicate n (.sl ⟨true,.nil,0⟩ []))))).put gW (some (.box (List.replicate n (.sl ⟨true,.nil,0⟩ [])))))
   (List.replicate n 0) [] (List.replicate n []):=by
 have hH0:=yXh hsub hgH;have hU0:=yXh hsub hgU;have hW0:=yXh hsub hgW;refine⟨⟨by rw[yQ6 eWR,yQ6 eUR,ISt.put_same];rfl,by rw[yQ6 eWH.symm,yQ6 eUH.symm,yQ6 eHR.symm,ISt.put_same];simp[yQh],List.length_replicate,by rw[ISt.put_same];simp[rwsI],rfl,λk g w h=>by simp at h,?_,λw h=>by cases h⟩,
  ⟨_,by rw[yQ6 eWU.symm,ISt.put_same],by simp,λp l hp=>?_,λp q t t' ys ys' g h1 _ h3=>?_⟩,yQe (yQe (yQe (yQe hsub hH0) hrb) hU0) hW0,⟨hU0,hW0,hH0,hrb,λg h=>by cases h⟩,?_,List.length_replicate⟩
 ·simp only[List.nodup_cons,List.mem_cons,List.not_mem_nil,or_false,not_or,nFt,List.nodup_nil,and_true];exact⟨⟨eWH,eWR.symm⟩,eHR.symm⟩
 ·rw[List.getElem?_replicate] at hp ⊢;split at hp
  ·rename_i hlt;cases hp;rw[if_pos hlt];exact⟨_,_,rfl,AllR.nil,own.nil ..⟩
  ·cases hp
 ·rw[List.getElem?_replicate] at h1;split at h1
  ·cases h1;cases h3
  ·cases h1
 ·simp only[List.mem_cons,List.not_mem_nil,or_false,not_or];exact⟨eWU.symm,eUH,eUR.symm⟩
def HtOk (cl:Nat->Prop)(i:Nat)(hs:List Nat):Prop:=∀(k x:Nat),hs[k]?=some x->(k<i->(x=1/\cl k)\/(x=0/\¬ cl k))/\(i<=k->x=0)
theorem xV5 (cl:Nat->Prop)(n:Nat):HtOk cl 0 (List.replicate n 0):=λk x hk=>by
 rw[List.getElem?_replicate] at hk;split at hk
 ·cases hk;exact⟨λh=>absurd h (Nat.not_lt_zero _),λ_=>rfl⟩
 ·cases hk
def NwOk (hs now:List Nat):Prop:=(∀k,k∈now↔hs[k]?=some 1)/\now.Nodup
theorem HtOk.one {cl:Nat->Prop}{i:Nat}{hs:List Nat}(h:HtOk cl i hs)(hc:cl i):HtOk cl (i+1) (hs.set i 1):=λk x hk=>by
 rw[List.getElem?_set] at hk;split at hk
 ·rename_i e;subst e;split at hk
  ·cases hk;exact⟨λ_=>.inl ⟨rfl,hc⟩,λh=>by omega⟩
  ·cases hk
 ·rename_i e;obtain⟨h1,h2⟩:=h k x hk;exact⟨λhlt=>h1 (by omega),λhge=>h2 (by omega)⟩
theorem HtOk.zero {cl:Nat->Prop}{i:Nat}{hs:List Nat}(h:HtOk cl i hs)(hc:¬ cl i):HtOk cl (i+1) hs:=λk x hk=>by
 obtain⟨h1,h2⟩:=h k x hk;refine⟨λhlt=>?_,λhge=>h2 (by omega)⟩;by_cases e:k=i
 ·subst e;exact .inr ⟨h2 (Nat.le_refl _),hc⟩
 ·exact h1 (by omega)
theorem NwOk.add {hs now:List Nat}{i:Nat}(h:NwOk hs now)(hx:hs[i]?=some 0):NwOk (hs.set i 1) (now++[i]):=by
 have hni:i ∉ now:=λhm=>by have:=(h.1 i).1 hm;rw[hx] at this;cases this
 refine⟨λk=>?_,List.nodup_append.2 ⟨h.2,by simp,λa ha b hb=>by rw[List.mem_singleton.1 hb];rintro rfl;exact hni ha⟩⟩;rw[List.mem_append,List.mem_singleton,List.getElem?_set];by_cases e:i=k
 ·subst e;rw[if_pos rfl,if_pos (lGs hx).1];simp
 ·rw[if_neg e,h.1 k];exact⟨λh=>h.resolve_right λh=>e h.symm,.inl⟩
theorem NwOk.len {hs now:List Nat}(h:NwOk hs now):now.length<=hs.length:=by
 have:=yUk (b:=List.range hs.length) h.2 λx hx=>List.mem_range.2 (lGs ((h.1 x).1 hx)).1
 rwa [List.length_range] at this
theorem xUs {p:Nat}:∀(l:List Us) (E:List (Nat×Us)),(∀u,l.count u<=E.count (p,u))->l.length<=E.length
 | [],_,_=>Nat.zero_le _
 | a::l,E,h=>by
  have ha:=h a;rw[List.count_cons_self] at ha;have hm:(p,a)∈E:=List.count_pos_iff.1 (by omega);have:=xUs (p:=p) l (E.erase (p,a)) λu=>by
   have hu:=h u;rw[List.count_erase];by_cases e:a=u
   ·subst e;rw[List.count_cons_self] at hu;rw[if_pos (by simp)];omega
   ·rw[List.count_cons_of_ne e] at hu;rw[if_neg (by simp[e])];omega
  rw[List.length_erase_of_mem hm] at this;have:=List.length_pos_of_mem hm;rw[List.length_cons];omega
theorem UsOk.len {us:List (List Us)}{E:List (Nat×Us)}(h:UsOk us E){p:Nat}{l:List Us}(hp:us[p]?=some l):l.length<=E.length :=
 xUs (p:=p) l E λu=>by rw[<- h p u];unfold usAt;rw[hp];exact Nat.le_refl _
theorem zWg {α β:Type}{F:α->List β}{c:Nat}:∀ {l:List α},(∀x∈l,(F x).length<=c)->(l.flatMap F).length<=c*l.length
 | [],_=>by simp
 | a::l,h=>by
  have h1:=h a (.head _);have h2:=zWg (l:=l) λx hx=>h x (.tail _ hx);rw[List.flatMap_cons,lLa,List.length_cons,Nat.mul_add,Nat.mul_one];omega
theorem xUh {i:Nat}{l:List Lk}(h:∀k∈l,k.2.2.length<=2):(evL i l).length<=2*l.length:=by
 have:=zWg (F:=λkj:Lk×Nat=>evK (i,kj.2) kj.1.2.2) (c:=2) (l:=l.zipIdx) λx hx=>by
  unfold evK;rw[List.length_map];exact h _ (List.fst_mem_of_mem_zipIdx hx)
 rwa [List.length_zipIdx] at this
theorem xUi {links:List (List Lk)}(h:∀l∈links,l.length<=16000000/\∀k∈l,k.2.2.length<=2):(evA links).length<=32000000*links.length:=by
 have:=zWg (F:=λli:List Lk×Nat=>evL li.2 li.1) (c:=32000000) (l:=links.zipIdx) λx hx=>by
  obtain⟨h1,h2⟩:=h _ (List.fst_mem_of_mem_zipIdx hx);have:=xUh (i:=x.2) h2;omega
 rwa [List.length_zipIdx] at this
def RdS (links:List (List Lk))(hs:List Nat)(S:Ss):Prop:=S.1.count 0+S.2.2.length=hs.count 0/\∀u,lkAt links u≠[]->∃x,atW S.2.1 u=some x
theorem RdS.step {links:List (List Lk)}{hs:List Nat}{S:Ss}(h:RdS links hs S){H:Nat}(hH:0<H)(u:Us):RdS links hs (yXx H S u):=by
 have hw:(yXx H S u).2.1=decW S.2.1 u:=by unfold yXx;split<;>rfl
 refine⟨?_,λv hv=>?_⟩
 ·unfold yXx;split
  ·rename_i hc;obtain⟨h1,h2⟩:=lGs hc.2;have:=List.count_set (a:=H) (b:=0) h1;have hp:0<S.1.count 0:=List.count_pos_iff.2 (by rw[<- h2];exact List.getElem_mem h1);have h3:=h.1;simp only[lLa,List.length_singleton];rw[this,h2,if_pos (by simp),if_neg (by simp;omega)];omega
  ·exact h.1
 ·obtain⟨x,hx⟩:=h.2 v hv;rw[hw,zQ4];split
  ·exact⟨_,by rw[hx];rfl⟩
  ·exact⟨x,hx⟩
def rowJ (l:List Lk)(j:Nat):List Nat:=(l.take j).map (λk=>k.2.2.length)++List.replicate (l.length-j) 0
theorem xY2 (l:List Lk):rowJ l 0=List.replicate l.length 0:=by simp[rowJ]
theorem wZb (l:List Lk){j:Nat}(h:j<=l.length):(rowJ l j).length=l.length:=by
 unfold rowJ;rw[lLa,List.length_map,List.length_take,List.length_replicate];omega
theorem wZc (l:List Lk):rowJ l l.length=l.map λk=>k.2.2.length:=by simp[rowJ]
theorem xX3 {l:List Lk}{j:Nat}{k:Lk}(h:l[j]?=some k):(rowJ l j).set j k.2.2.length=rowJ l (j+1):=by
 have hj:=(lGs h).1;unfold rowJ;rw[yQ7 h,List.map_append];have h1:((l.take j).map λk:Lk=>k.2.2.length).length=j:=by rw[List.length_map,List.length_take];omega
 rw[List.set_append_right _ _ (by omega),h1,Nat.sub_self];obtain⟨m,hm⟩:∃m,l.length-j=m+1:=⟨l.length-j-1,by omega⟩
 rw[hm,show l.length-(j+1)=m by omega,List.replicate_succ,List.set_cons_zero,List.append_assoc];rfl
theorem xZy (ca m:Nat)(W:List Fm)(hS:SpOk ca W)(tw:Tag)(xw:List IV)(htw:okEs tw 4)(hxw:IsFms W xw)(hWs:W.length<=200000)(lines:List Ln)(links:List (List Lk))(hA:LksAll ca W lines links)(hlen:lines.length<=20000)
  (tl tk:Tag) (xl xk:List IV) (mN rb:Nat) (hxl:AllR IsLn lines xl) (hxk:AllR wJ6 links xk) (htl:okEs tl 2) (htk:okEs tk 1) (S0 st:ISt)
  (hrb:st rb=some (.box [spI ca tw xw m,.sl tl xl,.raw (.map (some mN)),.sl tk xk,.sl ⟨true,.nil,0⟩ []])) (h0:S0 rb=none) (hsub:subSt S0 st) :
  ICall prog gl 44 [ptr rb] st (λr st'=>r=.tup []/\∃gH hs,st' rb=some (.box [spI ca tw xw m,.sl tl xl,.raw (.map (some mN)),.sl tk xk,slG gH lines.length])/\st' gH=some (.box (yQh hs)) /\
   hs.length=lines.length/\(∀i x,hs[i]?=some x->LstG (clL W lines) links i x)/\subSt S0 st'):=by
 have hxll:=hxl.1;have hxkl:=hxk.1;have hll:=hA.len;refine ICall.introF (t:=3) (n:=4) (c:=cf prog gl [25,3,56,60,96,152,3000027,3000035,3000041,3000084] [(8,[0,1,2,4,5,6,8,16,3,7,9,10,11,12,13,14,15,17,18,19])] [1]) func44 rfl (by show _<=165;simp) (by show _<165;simp) (by kernel_rfl) ?_;simp only[go_sem,zE,zB,zA,zM,zS,zL,reduceCtorEq,fits,hrb];refine yZ1 ⟨by omega,by omega,by omega⟩ λgH=>yQ9 λhgH=>yZ1 rfl ?_;have eHR:rb≠gH:=λe=>by rw[e,hgH] at hrb;cases hrb
 rw[yQ6 eHR,hrb];simp only[go_sem,zE,zB,zA,zM,zS,zL,reduceCtorEq,ISt.put_same];intro _;refine yZ1 ⟨by omega,by omega,by omega⟩ λgU=>yQ9 λhgU=>?_;have eUR:rb≠gU:=λe=>by rw[<- e,ISt.put_same] at hgU;cases hgU
 rw[yQ6 eUR.symm] at hgU;have eUH:gU≠gH:=λe=>by rw[e,ISt.put_same] at hgU;cases hgU
 rw[yQ6 eUH] at hgU;rw[yQ6 eUR];simp only[go_sem,zE,zB,zA,zM,zS,zL,reduceCtorEq,ISt.put_same];intro _;refine yZ1 ⟨by omega,by omega,by omega⟩ λgW=>yQ9 λhgW=>?_;have eWU:gW≠gU:=λe=>by rw[e,ISt.put_same] at hgW;cases hgW
 rw[yQ6 eWU] at hgW;have eWR:rb≠gW:=λe=>by rw[<- e,ISt.put_same] at hgW;cases hgW
 rw[yQ6 eWR.symm] at hgW;have eWH:gW≠gH:=λe=>by rw[e,ISt.put_same] at hgW;cases hgW
 rw[yQ6 eWH] at hgW;refine λb3=>yQ9 λhb3=>yZ1 rfl ?_;refine⟨b3,slG gW xl.length,by simp only[go_sem,zE,zB,zA,zM,zS,zL,reduceCtorEq],ISt.put_same ..,?_⟩;rw[yGk hb3,show age (slG gW xl.length)=slG gW xl.length by simp only[age]];rw[hxll];have hP0:=PS.start (n:=lines.length) (p1:=spI ca tw xw m) (p2:=.sl tl xl) (p3:=.raw (.map (some mN))) (p4:=.sl tk xk) hgH eHR h0 eUR eUH hgU eWU eWR eWH hgW hsub;generalize ((((st.put gH (some (.box (List.replicate lines.length (.raw (.int .i64 0)))))).put rb (some (.box [spI ca tw xw m,.sl tl xl,.raw (.map (some mN)),.sl tk xk,slG gH lines.length]))).put gU (some (.box (List.replicate lines.length (.sl ⟨true,.nil,0⟩ []))))).put gW (some (.box (List.replicate lines.length (.sl ⟨true,.nil,0⟩ [])))))=st1 at hP0 ⊢;have hrb1:=hP0.mem.rbx;simp only[List.cons_append,List.nil_append] at hrb1;have hLall:∀l∈links,l.length<=16000000:=λl hlm=>by
  obtain⟨i,hi,rfl⟩:=List.mem_iff_getElem.1 hlm;obtain⟨ln,hln,hs⟩:=hA.done i _ (List.getElem?_eq_getElem hi);rcases hs with⟨_,h0⟩|⟨_,vs,hvs,hlk⟩
  ·rw[h0];exact Nat.zero_le _
  ·have:=zVq hS hWs (hA.ok ln (lMg hln));rw[hvs,List.length_map] at this;rw[hlk.1];exact this
 simp only[go_sem,zE,zB,zA,zM,zS,zL,reduceCtorEq,fits,hrb1];intro _;refine LoopC.ctr xk.length (λi fr st' ds=>(∃gs hs us tn now,PS gU gW gH rb lines.length [spI ca tw xw m,.sl tl xl,.raw (.map (some mN)),.sl tk xk] S0 gs st' hs (wsOf (links.take i)) us/\UsOk us (evA (links.take i))/\own st' tn now.length 1 S0/\fr 4=.iv (.sl tn (i32I now))/\HtOk (clL W lines) i hs/\NwOk hs now) /\
  fr 1=.iv (.cptr (ptr rb))/\fr 2=.iv (slG gU lines.length)/\fr 3=.iv (.cptr (slG gW lines.length))/\fr 45=.iv (.sl tk xk)/\fr 46=.iv (.raw (.int .i64 xk.length))/\fr 47=.iv (.raw (.int .i64 (i:Int)))/\ds=[]) ?_ ?_ ?_
 ·simp only[go_sem,zE,zB,zA,zM,zS,zL,reduceCtorEq];exact⟨⟨[],_,_,⟨true,.nil,0⟩,[],hP0,UsOk.nil _,own.nil ..,rfl,xV5 _ _,⟨λk=>by rw[List.getElem?_replicate];split<;>simp,List.nodup_nil⟩⟩,rfl⟩
 ·rintro i fr st2 _ hlt ⟨⟨gs,hs,us,tn,now,hP,hU,hown,f4,hH,hN⟩,f1,f2,f3,f45,f46,f47,rfl⟩;have hil:i<links.length:=by omega
  obtain⟨l,hl⟩:=yQ2 hil;obtain⟨ln,hln⟩:=yQ2 (show i<lines.length by omega);have hlok:=hA.ok ln (lMg hln);obtain⟨_,hxi,tL,yL,rfl,htL,hyL⟩:=hxk.2 i l hl;obtain⟨z,hzi,hz⟩:=hxl.2 i ln hln;have hax:=λst=>xZ7 gl ca m W hS tw xw htw hxw ln hlok z hz st;obtain⟨ta,tb,rfl,ea,eb⟩:=hz;have hrb2:=hP.mem.rbx;simp only[List.cons_append,List.nil_append] at hrb2;simp only[go_sem,zE,zB,zA,zM,zS,zL,reduceCtorEq,f1,f2,f3,f4,f45,f46,f47,lt_i hlt,yQ3 htk,yQ3 htl,iNn,hxi,hzi,hrb2,fits,IV.one];refine (hax _).mono ?_;rintro _ st2 ⟨⟨zf,rfl,hzf⟩,rfl⟩;obtain⟨y1,y2,y3,y4,y5,y6,rfl⟩:=hzf.agg;have hcl:=xUy (W:=W) hlok.1;have hclL:clL W lines i↔(axW W ln).isSome=true:=by
   rw[hcl];exact⟨λ⟨a,ha,hc⟩=>by rw[hln] at ha;cases ha;exact hc,λhc=>⟨ln,hln,hc⟩⟩
  simp only[go_sem,zE,zB,zA,zM,zS,zL,reduceCtorEq,fits];refine zWo (λfr st' ds=>(∃hs us tn now,PS gU gW gH rb lines.length [spI ca tw xw m,.sl tl xl,.raw (.map (some mN)),.sl tk xk] S0 gs st' hs (wsOf (links.take i)) us/\UsOk us (evA (links.take i))/\own st' tn now.length 1 S0/\fr 4=.iv (.sl tn (i32I now))/\HtOk (clL W lines) (i+1) hs/\NwOk hs now) /\
   fr 1=.iv (.cptr (ptr rb))/\fr 2=.iv (slG gU lines.length)/\fr 3=.iv (.cptr (slG gW lines.length))/\fr 5=.iv (.raw (.int .i64 (i:Int)))/\fr 6=.iv (.sl tL yL)/\fr 45=.iv (.sl tk xk)/\fr 46=.iv (.raw (.int .i64 xk.length))/\fr 47=.iv (.raw (.int .i64 (i:Int)))/\ds=[]) ?_ (λhs1=>?_) (λhs1=>?_)
  ·rintro fr st3 _ ⟨⟨hs,us,tn,now,hP,hU,hown,f4,hH,hN⟩,f1,f2,f3,f5,f6,f45,f46,f47,rfl⟩;have hyl:=hyL.1;have hLl:=hLall l (lMg hl);have hiL:i<lines.length:=by omega
   have hgl:gs.length=i:=by rw[hP.mem.gll];unfold wsOf;rw[List.length_map,List.length_take];omega
   simp only[go_sem,zE,zB,zA,zM,zS,zL,reduceCtorEq,f1,f2,f3,f4,f5,f6,f45,f46,f47,fits,IV.one,Nat.mul_one,iNn,hiL];refine yZ1 (by omega) λg=>yQ9 λhg=>?_;have hgW2:gW≠g:=λe=>by rw[<- e,hP.mem.wts] at hg;cases hg
   have hPr:=hP.row hg (w:=List.replicate l.length 0) (λx hx=>by rw[List.eq_of_mem_replicate hx];decide) (by omega);have hwt:=hP.mem.wts;rw[hgl] at hPr hwt;rw[yQ6 hgW2,hwt];have hrl:(rwsI gs (wsOf (links.take i))++List.replicate (lines.length-i) (IV.sl ⟨true,.nil,0⟩ [])).length=lines.length:=by
    unfold rwsI;rw[lLa,List.length_zipWith,List.length_replicate,<- hP.mem.gll,Nat.min_self];omega
   have hset:∀y:IV,List.take i (rwsI gs (wsOf (links.take i))++List.replicate (lines.length-i) (IV.sl ⟨true,.nil,0⟩ []))++[y]++List.drop (i+1) (rwsI gs (wsOf (links.take i))++List.replicate (lines.length-i) (IV.sl ⟨true,.nil,0⟩ [])) =
     (rwsI gs (wsOf (links.take i))++List.replicate (lines.length-i) (IV.sl ⟨true,.nil,0⟩ [])).set i y:=λy=>by
    rw[<- yJy (by rw[hrl];exact hiL)];rfl
   have hPr2:=hPr;rw[List.length_replicate,<- hyl] at hPr;simp only[u8J,List.map_replicate] at hPr;simp only[go_sem,zE,zB,zA,zM,zS,zL,reduceCtorEq,hrl,hset];rw[if_pos (show i+1<=lines.length from hiL)];intro _;rw[show List.replicate yL.length 0=rowJ l 0 by rw[xY2,hyl]] at hPr;have hown2:own ((st3.put g (some (.box (List.replicate yL.length (.raw (.int .u8 ((0:Nat):Int))))))).put gW (some (.box ((rwsI gs (wsOf (links.take i))++List.replicate (lines.length-i) (IV.sl ⟨true,.nil,0⟩ [])).set i (slG g yL.length))))) tn now.length 1 S0:=hown.mono λg' hg' _=>by
    rw[yQ6 (λe=>by rw[e,hP.mem.wts] at hg';cases hg'),yQ6 (λe=>by rw[e,hg] at hg';cases hg')];exact hg'
   refine (?_:∀st4,PS gU gW gH rb lines.length _ S0 (gs++[g]) st4 hs (wsOf (links.take i)++[rowJ l 0]) us->own st4 tn now.length 1 S0->LoopC _ _ _ _ st4 _) _ hPr hown2;intro st4 hPr hown2;clear hown hP hPr2;refine LoopC.ctr yL.length (λj fr st' ds=>(∃us,PS gU gW gH rb lines.length [spI ca tw xw m,.sl tl xl,.raw (.map (some mN)),.sl tk xk] S0 (gs++[g]) st' hs (wsOf (links.take i)++[rowJ l j]) us/\UsOk us (evA (links.take i)++evL i (l.take j))/\own st' tn now.length 1 S0) /\
    fr 1=.iv (.cptr (ptr rb))/\fr 2=.iv (slG gU lines.length)/\fr 3=.iv (.cptr (slG gW lines.length))/\fr 4=.iv (.sl tn (i32I now))/\fr 5=.iv (.raw (.int .i64 (i:Int)))/\fr 45=.iv (.sl tk xk)/\fr 46=.iv (.raw (.int .i64 xk.length))/\fr 47=.iv (.raw (.int .i64 (i:Int))) /\
    fr 86=.iv (.sl tL yL)/\fr 87=.iv (.raw (.int .i64 yL.length))/\fr 88=.iv (.raw (.int .i64 (j:Int)))/\ds=[]) ?_ ?_ ?_
   ·simp only[go_sem,zE,zB,zA,zM,zS,zL,reduceCtorEq];exact⟨⟨us,hPr,by simpa[evL] using hU,hown2⟩,f1,f2,f3,f4,f5,f45,f46,f47,rfl⟩
   ·rintro j fr st5 _ hjt ⟨⟨us,hP,hU,hown⟩,f1,f2,f3,f4,f5,f45,f46,f47,f86,f87,f88,rfl⟩;have hjl:j<l.length:=by rw[<- hyl];exact hjt
    obtain⟨k,hk⟩:=yQ2 hjl;obtain⟨xk1,hxk1,hxk2⟩:=hyL.2 j k hk;obtain⟨_,hk2,hk3,hk4,hk5⟩:=hA.lk hS (lMg hl) (lMg hk);have hto:=λst=>to_c gl k xk1 hxk2 hk2 st;obtain⟨kp,kq,rfl,hkq⟩:=id hxk2;have hwt:=hP.mem.wts;have hgi:(gs++[g])[i]?=some g:=by rw[<- hgl,List.getElem?_append_right (Nat.le_refl _),Nat.sub_self];rfl
    have hwl:(wsOf (links.take i)).length=i:=by unfold wsOf;rw[List.length_map,List.length_take];omega
    have hwi:(wsOf (links.take i)++[rowJ l j])[i]?=some (rowJ l j):=by rw[List.getElem?_append_right (by omega),hwl,Nat.sub_self];rfl
    have hrw:=hP.mem.row i g _ hgi hwi;have hrwl:=wZb l (j:=j) (by omega);have hwci:(rwsI (gs++[g]) (wsOf (links.take i)++[rowJ l j])++List.replicate (lines.length-(gs++[g]).length) (IV.sl ⟨true,.nil,0⟩ []))[i]?=some (slG g (rowJ l j).length):=by
     have:=zVg hgi hwi;rw[List.getElem?_append_left (lGs this).1];exact this
    have hjr:j<(rowJ l j).length:=by rw[hrwl];exact hjl
    simp only[go_sem,zE,zB,zA,zM,zS,zL,reduceCtorEq,f1,f2,f3,f4,f5,f45,f46,f47,f86,f87,f88,lt_i hjt,yQ3 htL,iNn,hxk1,hwt,hwci,hrw,hjr,hiL,fits,IV.one,Nat.mul_one,Nat.zero_add];have hset2:List.take j (u8J (rowJ l j))++[.raw (.int .u8 (k.2.2.length:Int))]++List.drop (j+1) (u8J (rowJ l j))=u8J (rowJ l (j+1)):=by
     rw[<- xX3 hk,<- xW9,<- yJy (by rw[zV4];exact hjr)];rfl
    rw[if_pos (by rw[zV4];omega),hset2];have hP':=hP.setW hgi hwi j (v:=k.2.2.length) (by omega);rw[xX3 hk,show (wsOf (links.take i)++[rowJ l j]).set i (rowJ l (j+1))=wsOf (links.take i)++[rowJ l (j+1)] by rw[List.set_append_right _ _ (by omega),hwl,Nat.sub_self];rfl] at hP';have hown':own (st5.put g (some (.box (u8J (rowJ l (j+1)))))) tn now.length 1 S0:=hown.mono λg' hg' _=>(yKy hrw hg').trans hg';generalize st5.put g (some (.box (u8J (rowJ l (j+1)))))=st6 at hP' hown' ⊢;clear hP hown hwt hrw hset2;refine (hto _).mono ?_;rintro _ st6 ⟨⟨tp,rfl,htp⟩,rfl⟩;simp only[go_sem,zE,zB,zA,zM,zS,zL,reduceCtorEq,yGv];intro _;refine LoopC.ctr k.2.2.length (λq fr st' ds=>(∃us,PS gU gW gH rb lines.length [spI ca tw xw m,.sl tl xl,.raw (.map (some mN)),.sl tk xk] S0 (gs++[g]) st' hs (wsOf (links.take i)++[rowJ l (j+1)]) us/\UsOk us (evA (links.take i)++evL i (l.take j)++evK (i,j) (k.2.2.take q))/\own st' tn now.length 1 S0) /\
     fr 1=.iv (.cptr (ptr rb))/\fr 2=.iv (slG gU lines.length)/\fr 3=.iv (.cptr (slG gW lines.length))/\fr 4=.iv (.sl tn (i32I now))/\fr 5=.iv (.raw (.int .i64 (i:Int)))/\fr 45=.iv (.sl tk xk)/\fr 46=.iv (.raw (.int .i64 xk.length))/\fr 47=.iv (.raw (.int .i64 (i:Int))) /\
     fr 86=.iv (.sl tL yL)/\fr 87=.iv (.raw (.int .i64 yL.length))/\fr 88=.iv (.raw (.int .i64 (j:Int)))/\fr 10=.iv (.raw (.int .i64 (j:Int)))/\fr 102=.iv (.sl tp (i32I k.2.2))/\fr 103=.iv (.raw (.int .i64 k.2.2.length))/\fr 104=.iv (.raw (.int .i64 (q:Int)))/\ds=[]) ?_ ?_ ?_
    ·simp only[go_sem,zE,zB,zA,zM,zS,zL,reduceCtorEq];exact⟨⟨us,hP',by simpa[evK] using hU,hown'⟩,f1,f2,f3,f4,f5,f45,f46,f47,f86,f87,f88,rfl⟩
    ·rintro q fr st7 _ hq ⟨⟨us,hP,hU,hown⟩,f1,f2,f3,f4,f5,f45,f46,f47,f86,f87,f88,f10,f102,f103,f104,rfl⟩;obtain⟨p,hp⟩:=yQ2 hq;have hpn:=hk5 p (lMg hp);obtain⟨cells,c1,c2,c3,c4⟩:=hP.usr.ex;obtain⟨lu,hlu⟩:=yQ2 (l:=us) (k:=p) (by rw[hP.ul,<- hll];exact hpn);obtain⟨tu,yu,d1,d2,d3⟩:=c3 p lu hlu;have hcv:=λn:Int=>yXt prog 3 21 zJk zZ5 .i64 n;have hw1:IntKind.i32.wrap (i:Int)=(i:Int):=IntWalk.i32_in _ (by omega);have hw2:IntKind.i32.wrap (j:Int)=(j:Int):=IntWalk.i32_in _ (by omega);have hpL:p<lines.length:=by rw[<- hll];exact hpn
     simp only[go_sem,zE,zB,zA,zM,zS,zL,reduceCtorEq,f1,f2,f3,f4,f5,f10,f45,f46,f47,f86,f87,f88,f102,f103,f104,lt_i hq,yQ3 htp,iNn,xJ5 hp,yVq,c1,d1,hpL,hcv,hw1,hw2,yQ1,yJc,fits,IV.one,Nat.mul_one,Nat.zero_add];have hub:=hU.len hlu;have hE1:(evA (links.take i)).length<=32000000*20000:=by
      have h1:=xUi (links:=links.take i) λl' hl'=>⟨hLall l' (List.mem_of_mem_take hl'),λk' hk'=>(hA.lk hS (List.mem_of_mem_take hl') hk').2.1⟩
      have h2:(links.take i).length<=20000:=by rw[List.length_take];omega
      exact Nat.le_trans h1 (Nat.mul_le_mul_left _ h2)
     have hE2:(evL i (l.take j)).length<=2*16000000:=by
      have h1:=xUh (i:=i) (l:=l.take j) λk' hk'=>(hA.lk hS (lMg hl) (List.mem_of_mem_take hk')).2.1;have h2:(l.take j).length<=16000000:=by rw[List.length_take];omega
      exact Nat.le_trans h1 (Nat.mul_le_mul_left _ h2)
     have hE3:(evK (i,j) (k.2.2.take q)).length<=2:=by unfold evK;rw[List.length_map,List.length_take];omega
     rw[lLa,lLa] at hub;refine zWs d3 d2.1 hP.base rfl (by simp[fits,IV.one]) (by simp only;omega) (by omega) λtg' st8 w1 w2 w3 w4=>?_;have hPn:=hP.addU (u:=(i,j)) rfl hlu c1 d1 w1 w2 w3 w4;have hc8:st8 gU=some (.box cells):=w3 _ _ c1 λe=>by rw[yUj d3 e] at c1;cases c1
     have hown8:own (st8.put gU (some (.box (cells.set p (.sl tg' (yu++[.agg [.raw (.int .i32 (i:Int)),.raw (.int .i32 (j:Int))]])))))) tn now.length 1 S0:=hown.mono λg' hg' _=>by
      rw[yQ6 λe=>by rw[e,c1] at hg';cases hg'];exact w3 _ _ hg' λe=>by rw[yUj d3 e] at hg';simp at hg'
     simp only[go_sem,zE,zB,zA,zM,zS,zL,reduceCtorEq,f1,f2,f3,f4,f5,f10,f45,f46,f47,f86,f87,f88,f102,f103,f104,hc8,hpL,yQd hq (show k.2.2.length<=281474976710656 by omega),fits,IV.one,Nat.mul_one];have hcl8:p<cells.length:=(lGs d1).1;rw[if_pos (iNn _),if_pos (show p+1<=cells.length from hcl8)];have hUn:=hU.add (p:=p) (u:=(i,j)) (lGs hlu).1;rw[show usAt us p=lu by unfold usAt;rw[hlu];rfl,List.append_assoc,<- wXk hp] at hUn;exact⟨_,by rw[<- yJy hcl8] at hPn;exact hPn,hUn,by rw[<- yJy hcl8] at hown8;exact hown8⟩
    ·rintro fr st7 _ ⟨⟨us,hP,hU,hown⟩,f1,f2,f3,f4,f5,f45,f46,f47,f86,f87,f88,f10,f102,f103,f104,rfl⟩;simp only[go_sem,zE,zB,zA,zM,zS,zL,reduceCtorEq,f1,f2,f3,f4,f5,f45,f46,f47,f86,f87,f88,f102,f103,f104,yQm (nLi _)];rw[lTl,List.append_assoc,<- wXj hk] at hU;exact⟨⟨us,hP,hU,hown⟩,by rw[yQd hjt (by omega)]⟩
   ·rintro fr st5 _ ⟨⟨us,hP,hU,hown⟩,f1,f2,f3,f4,f5,f45,f46,f47,f86,f87,f88,rfl⟩;rw[hyl,lTl,<- wXl hl] at hU;rw[hyl,show wsOf (links.take i)++[rowJ l l.length]=wsOf (links.take (i+1)) by rw[yQ7 hl,wZc];unfold wsOf;rw[List.map_append];rfl] at hP;simp only[go_sem,zE,zB,zA,zM,zS,zL,reduceCtorEq,f1,f2,f3,f4,f5,f45,f46,f47,f86,f87,f88,yQm (nLi _),yQd hlt (show xk.length<=281474976710656 by omega)];exact⟨_,hs,us,tn,now,hP,hU,hown,rfl,hH,hN⟩
  ·have hht:=hP.mem.hts;have hhl:=hP.mem.hl;have hiL:i<lines.length:=by omega
   have hcv:=λn:Int=>yXt prog 3 21 zJk zZ5 .i64 n;have hw:IntKind.i32.wrap (i:Int)=(i:Int):=IntWalk.i32_in _ (by omega);simp only[go_sem,zE,zB,zA,zM,zS,zL,reduceCtorEq,f1,f2,f3,f4,hrb2,hht,yVq,fits,IV.one,Nat.mul_one,Nat.zero_add,iNn,hiL,yQ1,hcv,hw];have hset:List.take i (yQh hs)++[.raw (.int .i64 1)]++List.drop (i+1) (yQh hs)=yQh (hs.set i 1):=by
    rw[<- zW0,<- yJy (by rw[yQi,hhl];exact hiL)];rfl
   rw[if_pos (by rw[yQi,hhl];omega),hset];have hP':=hP.setH i 1;have hown':own (st2.put gH (some (.box (yQh (hs.set i 1))))) tn now.length 1 S0:=hown.mono λg hg _=>(yKy hht hg).trans hg;have hx0:hs[i]?=some 0:=by
    obtain⟨x,hx⟩:=yQ2 (l:=hs) (k:=i) (by rw[hhl];exact hiL);rw[hx,(hH i x hx).2 (Nat.le_refl _)]
   have hnl:=hN.len;generalize st2.put gH (some (.box (yQh (hs.set i 1))))=st3 at hP' hown' ⊢;refine zWs hown' (yGv now) hP'.base rfl (by simp[fits,IV.one]) (by simp only;omega) (by omega) λtn' st4 w1 w2 w3 w4=>?_;simp only[go_sem,zE,zB,zA,zM,zS,zL,reduceCtorEq,f1,f2,f3,f4,f45,f46,f47];exact⟨_,us,tn',now++[i],hP'.far hown' w2 w3,hU,by rw[lLa];exact w1,by simp[i32I],hH.one (hclL.2 hs1),hN.add hx0⟩
  ·simp only[go_sem,zE,zB,zA,zM,zS,zL,reduceCtorEq,f1,f2,f3,f4,f45,f46,f47];exact⟨hs,us,tn,now,hP,hU,hown,rfl,hH.zero (λh=>(by rw[hclL.1 h] at hs1;cases hs1)),hN⟩
 ·rintro fr st2 _ ⟨⟨gs,hs,us,tn,now,hP,hU,hown,f4,hH,hN⟩,f1,f2,f3,f45,f46,f47,rfl⟩;rw[hxkl,lTl] at hP hU;rw[hxkl] at hH;have hus:∀p u,(usAt us p).count u=(lkAt links u).count p:=λp u=>(hU p u).trans (wWs links p u);have hR0:Rnd (clL W lines) links 2 hs (wsOf links) now:=Rnd.start (λl hl k hk=>(hA.lk hS hl hk).1) (by rw[hP.mem.hl,hll]) (λi x hx=>(hH i x hx).1 (by rw[hll,<- hP.mem.hl];exact (lGs hx).1)) hN.1 hN.2;have hgsn:gs.length=lines.length:=by rw[hP.mem.gll];unfold wsOf;rw[List.length_map,hll]
  have h2:∀u,(lkAt links u).length<=2:=λu=>by
   unfold lkAt;cases hk:((links[u.1]?).getD [])[u.2]? with
   | none=>simp
   | some k =>
    cases hl:links[u.1]? with
    | none=>rw[hl] at hk;simp at hk
    | some l =>
     rw[hl] at hk;exact (hA.lk hS (lMg hl) (lMg hk)).2.1
  have hin:∀u,∀p∈lkAt links u,p<links.length:=λu p hp=>by
   unfold lkAt at hp;cases hk:((links[u.1]?).getD [])[u.2]? with
   | none=>rw[hk] at hp;cases hp
   | some k =>
    rw[hk] at hp;cases hl:links[u.1]? with
    | none=>rw[hl] at hk;simp at hk
    | some l =>
     rw[hl] at hk;exact (hA.lk hS (lMg hl) (lMg hk)).2.2.2.2 p hp
  have hcz:hs.count 0<=20000:=by
   have:=List.count_le_length (a:=0) (l:=hs);have:=hP.mem.hl;omega
  simp only[go_sem,zE,zB,zA,zM,zS,zL,reduceCtorEq,f1,f2,f3,f4,f45,f46,f47,yQm (nLi _)];refine LoopC.dec (2*hs.count 0+if now=[] then 0 else 1) (λq fr st' ds=>(∃H hs ws tn now,q=2*hs.count 0+(if now=[] then 0 else 1)/\2<=H/\H+hs.count 0<=20002+(if now=[] then 1 else 0)/\PS gU gW gH rb lines.length [spI ca tw xw m,.sl tl xl,.raw (.map (some mN)),.sl tk xk] S0 gs st' hs ws us /\
   Rnd (clL W lines) links H hs ws now/\okEs tn 1/\fr 4=.iv (.sl tn (i32I now))/\fr 15=.iv (.raw (.int .i64 (H:Int)))) /\
   fr 1=.iv (.cptr (ptr rb))/\fr 2=.iv (slG gU lines.length)/\fr 3=.iv (.cptr (slG gW lines.length))/\fr 14=.iv (.fn (.func 81) [] [.cptr (slG gW lines.length),.cptr (ptr rb)])/\ds=[]) ?_ ?_
  ·simp only[go_sem,zE,zB,zA,zM,zS,zL,reduceCtorEq,f1,f2,f3,f4];exact⟨2,hs,_,tn,now,rfl,Nat.le_refl _,by omega,hP,hR0,hown.es,rfl,rfl⟩
  ·rintro q fr st3 _ ⟨⟨H,hs,ws,tn,now,hq,hH2,hHz,hP,hR,htn,f4,f15⟩,f1,f2,f3,f14,rfl⟩;by_cases hne:now=[]
   ·subst hne;simp only[go_sem,zE,zB,zA,zM,zS,zL,reduceCtorEq,f4,yGv,List.length_nil,show decide (((0:Nat):Int) > 0)=false from rfl];have hrb3:=hP.mem.rbx;simp only[List.cons_append,List.nil_append] at hrb3;exact yQ0 ⟨rfl,gH,hs,hrb3,hP.mem.hts,hP.mem.hl,(Sett.right (us:=us) (.done H hs ws) hR hH2 hus h2 hin).2,hP.base⟩
   ·have hpos:0<now.length:=List.length_pos_iff.2 hne;rw[if_neg hne] at hq hHz;simp only[go_sem,zE,zB,zA,zM,zS,zL,reduceCtorEq,f1,f2,f3,f4,f14,f15,yGv,show decide (((now.length:Nat):Int) > 0)=true from dEt (by omega)];intro _ _;refine LoopC.ctr now.length (λa fr st' ds=>(∃tq S,S=((now.take a).flatMap (usAt us)).foldl (yXx H) (hs,ws,[])/\PS gU gW gH rb lines.length [spI ca tw xw m,.sl tl xl,.raw (.map (some mN)),.sl tk xk] S0 gs st' S.1 S.2.1 us/\RdS links hs S/\own st' tq S.2.2.length 1 S0/\fr 16=.iv (.sl tq (i32I S.2.2))) /\
     fr 1=.iv (.cptr (ptr rb))/\fr 2=.iv (slG gU lines.length)/\fr 3=.iv (.cptr (slG gW lines.length))/\fr 14=.iv (.fn (.func 81) [] [.cptr (slG gW lines.length),.cptr (ptr rb)])/\fr 15=.iv (.raw (.int .i64 (H:Int))) /\
     fr 131=.iv (.sl tn (i32I now))/\fr 132=.iv (.raw (.int .i64 now.length))/\fr 133=.iv (.raw (.int .i64 (a:Int)))/\ds=[]) ?_ ?_ ?_
    ·simp only[go_sem,zE,zB,zA,zM,zS,zL,reduceCtorEq];exact⟨⟨⟨true,.nil,0⟩,_,rfl,hP,⟨Nat.add_zero _,hR.wd⟩,own.nil ..,rfl⟩,f1,f2,f3,f14,f15,rfl⟩
    ·rintro a fr st4 _ ha ⟨⟨tq,S,hSe,hP,hRd,hown,f16⟩,f1,f2,f3,f14,f15,f131,f132,f133,rfl⟩;obtain⟨i,hi⟩:=yQ2 ha;have hiL:i<lines.length:=by
      have:=(lGs ((hR.nw i).1 (lMg hi))).1;rw[hR.len,hll] at this;exact this
     obtain⟨cells,c1,c2,c3,c4⟩:=hP.usr.ex;obtain⟨lu,hlu⟩:=yQ2 (l:=us) (k:=i) (by rw[hP.ul];exact hiL);obtain⟨tu,yu,d1,d2,d3⟩:=c3 i lu hlu;have hua:usAt us i=lu:=by unfold usAt;rw[hlu];rfl
     have hyul:=d2.1;have hyb:yu.length<=32000000*20000:=by
      have h1:=hU.len hlu;have h2:=xUi (links:=links) λl' hl'=>⟨hLall l' hl',λk' hk'=>(hA.lk hS hl' hk').2.1⟩
      have h3:links.length<=20000:=by omega
      rw[hyul];exact Nat.le_trans h1 (Nat.le_trans h2 (Nat.mul_le_mul_left _ h3))
     simp only[go_sem,zE,zB,zA,zM,zS,zL,reduceCtorEq,f1,f2,f3,f14,f15,f131,f132,f133,lt_i ha,yQ3 htn,iNn,xJ5 hi,yVq,c1,d1,hiL,fits,IV.one,Nat.mul_one,Nat.zero_add];intro _;refine LoopC.ctr yu.length (λb fr st' ds=>(∃tq S,S=((now.take a).flatMap (usAt us)++lu.take b).foldl (yXx H) (hs,ws,[])/\PS gU gW gH rb lines.length [spI ca tw xw m,.sl tl xl,.raw (.map (some mN)),.sl tk xk] S0 gs st' S.1 S.2.1 us/\RdS links hs S/\own st' tq S.2.2.length 1 S0/\fr 16=.iv (.sl tq (i32I S.2.2))) /\
      fr 1=.iv (.cptr (ptr rb))/\fr 2=.iv (slG gU lines.length)/\fr 3=.iv (.cptr (slG gW lines.length))/\fr 14=.iv (.fn (.func 81) [] [.cptr (slG gW lines.length),.cptr (ptr rb)])/\fr 15=.iv (.raw (.int .i64 (H:Int))) /\
      fr 131=.iv (.sl tn (i32I now))/\fr 132=.iv (.raw (.int .i64 now.length))/\fr 133=.iv (.raw (.int .i64 (a:Int)))/\fr 140=.iv (.sl tu yu)/\fr 141=.iv (.raw (.int .i64 yu.length))/\fr 142=.iv (.raw (.int .i64 (b:Int)))/\ds=[]) ?_ ?_ ?_
     ·simp only[go_sem,zE,zB,zA,zM,zS,zL,reduceCtorEq];exact⟨⟨tq,S,hSe,hP,hRd,hown,f16⟩,f1,f2,f3,f14,f15,f131,f132,f133,rfl⟩
     ·rintro b fr st5 _ hb ⟨⟨tq,S,hSe,hP,hRd,hown,f16⟩,f1,f2,f3,f14,f15,f131,f132,f133,f140,f141,f142,rfl⟩;obtain⟨u,hu⟩:=yQ2 (l:=lu) (k:=b) (by rw[<- hyul];exact hb);obtain⟨yy,hyy,hyu⟩:=d2.2 b u hu;have hlk:lkAt links u≠[]:=λe=>by
       have h1:=hus i u;rw[hua,e] at h1;have h3:0<lu.count u:=List.count_pos_iff.2 (lMg hu);rw[h1] at h3;simp at h3
      obtain⟨x,hx⟩:=hRd.2 u hlk;obtain⟨w,hw,hwx⟩:∃w,S.2.1[u.1]?=some w/\w[u.2]?=some x:=by
       unfold atW at hx;cases hw:S.2.1[u.1]? with
       | none=>rw[hw] at hx;simp at hx
       | some w=>rw[hw] at hx;exact⟨w,rfl,hx⟩
      have hgn:S.2.1.length=lines.length:=by rw[<- hP.mem.gll,hgsn]
      obtain⟨h,hh⟩:=yQ2 (l:=S.1) (k:=u.1) (by rw[hP.mem.hl];have:=(lGs hw).1;omega);have hco:=wXn gl gU gW gH rb lines.length _ _ _ _ S0 gs S.1 S.2.1 us u st5 hP w hw x hwx h hh;rw[hyu] at hyy;have hstep:yXx H S u=((now.take a).flatMap (usAt us)++lu.take (b+1)).foldl (yXx H) (hs,ws,[]):=by
       rw[yQ7 hu,<- List.append_assoc,List.foldl_append,<- hSe];rfl
      have hRd':=hRd.step (H:=H) (by omega) u;have hat:atW (decW S.2.1 u) u=some ((x+255)%256):=by rw[zQ4,if_pos rfl,hx];rfl
      have huL:u.1<lines.length:=by rw[<- hP.mem.hl];exact (lGs hh).1
      simp only[go_sem,zE,zB,zA,zM,zS,zL,reduceCtorEq,f1,f2,f3,f14,f15,f131,f132,f133,f140,f141,f142,lt_i hb,yQ3 d3.es,iNn,hyy,fits,IV.one,yVq];refine hco.mono ?_;rintro _ st6 ⟨rfl,hP6,hfr6⟩;have hown6:own st6 tq S.2.2.length 1 S0:=hown.mono λg' hg' _=>hfr6 _ _ _ hg';have hql:S.2.2.length<=20000:=by
       have h4:=hRd.1;have h5:=List.count_le_length (a:=0) (l:=hs);have h6:=hR.len;omega
      by_cases hcc:(x+255)%256=0/\h=0
      ·have hT:yXx H S u=(S.1.set u.1 H,decW S.2.1 u,S.2.2++[u.1]):=by
        unfold yXx;rw[if_pos ⟨by rw[hat,hcc.1],by rw[hh,hcc.2]⟩]
       rw[hT] at hstep hRd';have hht:=hP6.mem.hts;have hrb6:=hP6.mem.rbx;simp only[List.cons_append,List.nil_append] at hrb6;simp only[go_sem,zE,zB,zA,zM,zS,zL,reduceCtorEq,dEt hcc,f1,f2,f3,f15,f16,hrb6,hht,yVq,fits,IV.one,Nat.mul_one,Nat.zero_add,iNn,huL,yQ1];have hset:List.take u.1 (yQh S.1)++[.raw (.int .i64 (H:Int))]++List.drop (u.1+1) (yQh S.1)=yQh (S.1.set u.1 H):=by
        rw[<- zW0,<- yJy (by rw[yQi,hP6.mem.hl];exact huL)];rfl
       rw[if_pos (by rw[yQi,hP6.mem.hl];omega),hset];have hP7:=hP6.setH u.1 H;have hown7:own (st6.put gH (some (.box (yQh (S.1.set u.1 H))))) tq S.2.2.length 1 S0:=hown6.mono λg' hg' _=>(yKy hht hg').trans hg';generalize st6.put gH (some (.box (yQh (S.1.set u.1 H))))=st7 at hP7 hown7 ⊢;refine zWs hown7 (yGv _) hP7.base rfl (by simp[fits,IV.one]) (by simp only;omega) (by omega) λtq' st8 w1 w2 w3 w4=>?_;simp only[go_sem,zE,zB,zA,zM,zS,zL,reduceCtorEq,f1,f2,f3,f14,f15,f16,f131,f132,f133,f140,f141,f142,yQd hb (show yu.length<=281474976710656 by omega)];exact⟨tq',_,hstep,hP7.far hown7 w2 w3,hRd',by rw[lLa];exact w1,by simp[i32I]⟩
      ·have hF:yXx H S u=(S.1,decW S.2.1 u,S.2.2):=by
        unfold yXx;rw[if_neg λe=>hcc ⟨by have:=e.1;rw[hat] at this;exact Option.some.inj this,by have:=e.2;rw[hh] at this;exact Option.some.inj this⟩]
       rw[hF] at hstep hRd';simp only[go_sem,zE,zB,zA,zM,zS,zL,reduceCtorEq,dEf hcc,f1,f2,f3,f14,f15,f16,f131,f132,f133,f140,f141,f142,yQd hb (show yu.length<=281474976710656 by omega)];exact⟨tq,_,hstep,hP6,hRd',hown6,rfl⟩
     ·rintro fr st5 _ ⟨⟨tq,S,hSe,hP,hRd,hown,f16⟩,f1,f2,f3,f14,f15,f131,f132,f133,f140,f141,f142,rfl⟩;rw[hyul,lTl] at hSe;have hall:(now.take a).flatMap (usAt us)++lu=(now.take (a+1)).flatMap (usAt us):=by rw[yQ7 hi,List.flatMap_append,List.flatMap_singleton,hua]
      rw[hall] at hSe;simp only[go_sem,zE,zB,zA,zM,zS,zL,reduceCtorEq,f1,f2,f3,f14,f15,f131,f132,f133,f140,f141,f142,yQm (nLi _),yQd ha (show now.length<=281474976710656 by omega)];exact⟨tq,S,hSe,hP,hRd,hown,f16⟩
    ·rintro fr st4 _ ⟨⟨tq,S,hSe,hP,hRd,hown,f16⟩,f1,f2,f3,f14,f15,f131,f132,f133,rfl⟩;rw[lTl] at hSe;have hnx:=hR.next hH2 hus h2 hin;rw[<- hSe] at hnx;have hc:=hRd.1;have hH20:H<=20002:=by omega
     simp only[go_sem,zE,zB,zA,zM,zS,zL,reduceCtorEq,f1,f2,f3,f14,f15,f16,f131,f132,f133,yQm (nLi _)];refine⟨2*S.1.count 0+(if S.2.2=[] then 0 else 1),?_,H+1,S.1,S.2.1,tq,S.2.2,rfl,by omega,?_,hP,hnx,hown.es,rfl,by rw[yQd (Nat.lt_succ_self H) (by omega)]⟩
     ·by_cases h0:S.2.2=[]
      ·rw[h0,List.length_nil] at hc;rw[if_pos h0];omega
      ·have:=List.length_pos_iff.2 h0;rw[if_neg h0];omega
     ·by_cases h0:S.2.2=[]
      ·rw[h0,List.length_nil] at hc;rw[if_pos h0];omega
      ·have:=List.length_pos_iff.2 h0;rw[if_neg h0];omega
def BadR (ca:Nat)(s:Sq)(e:Nat):Prop:=(¬ (ca=1\/ca=2)/\e=2)\/((ca=1\/ca=2)/\yQx ca s=false/\e=190)\/((ca=1\/ca=2)/\yQx ca s=true/\zQ6 (calJ ca) (nf (s.l,s.r)) e)
theorem BadR.ne {ca:Nat}{s:Sq}{e:Nat}(h:BadR ca s e):e≠0:=by
 rcases h with⟨_,rfl⟩|⟨_,_,rfl⟩|⟨_,_,h|h⟩
 ·decide
 ·decide
 ·rw[h.1];decide
 ·rw[h.1];decide
theorem ExplR.split {ca:Nat}{s:Sq}{st st':ISt}{r:IV}(h:ExplR ca s st r st'):(∃e,BadR ca s e/\r=.tup [.raw (.pointer none),.raw (.int .i64 (e:Int))]/\st'=st) \/
  ((ca=1\/ca=2)/\yQx ca s=true/\∃m tw xw rb mN lines links,okEs tw 4/\IsFms (spW s) xw/\r=.tup [ptr rb,.raw (.int .i64 0)]/\RS ca m (spW s) tw xw rb mN st st' lines links/\ExS ca (spW s) (nf (s.l,s.r)) lines links/\links.length=lines.length):=by
 rcases h with⟨hc,h1,h2⟩|⟨hc,hv,h1,h2⟩|⟨hc,hv,⟨e,h1,h2,h3⟩|h⟩
 ·exact .inl ⟨2,.inl ⟨hc,rfl⟩,h1,h2⟩
 ·exact .inl ⟨190,.inr (.inl ⟨hc,hv,rfl⟩),h1,h2⟩
 ·exact .inl ⟨e,.inr (.inr ⟨hc,hv,h1⟩),h2,h3⟩
 ·exact .inr ⟨hc,hv,h⟩
theorem wZg (G:Gl gl)(T:Gt gl)(ca:Nat)(s:Sq)(x:IV)(hx:IsSq s x)(hs:yYj s)(st:ISt):ICall prog gl 17 [.raw (.int .u8 (ca:Int)),x] st (λr st'=>st'=st /\
  ((∃e,BadR ca s e/\r=.tup [.raw (.int .i64 0),.raw (.int .i64 (e:Int))])\/((ca=1\/ca=2)/\yQx ca s=true/\∃K:List Sn,ReachOk (calJ ca) (nf (s.l,s.r)) K/\r=.tup [.raw (.int .i64 (K.length:Int)),.raw (.int .i64 0)]))):=by
 have he:=zXj gl G T ca s x hx hs;obtain⟨t1,x1,t2,x2,rfl,e1,i1,e2,i2⟩:=hx;refine iI func17 ?_;simp only[go_sem,zE,zB,zA,zM,zS,zL,reduceCtorEq,fits];refine (he _).mono ?_;rintro r st1 hr;rcases hr.split with⟨e,hb,rfl,rfl⟩|⟨hc,hv,m,tw,xw,rb,mN,lines,links,htw,hxw,rfl,hR,hE,hl⟩
 ·have h0:decide ((e:Int)=0)=false:=dEf (by have:=hb.ne;omega);simp only[go_sem,zE,zB,zA,zM,zS,zL,reduceCtorEq,h0];exact yQ0 ⟨rfl,.inl ⟨e,hb,rfl⟩⟩
 ·obtain⟨hS,_,hWs,hin⟩:=yKf hc hv;obtain⟨tl,xl,tk,xk,hrb,hxl,hol,hxk,hok⟩:=hR.ex;simp only[go_sem,zE,zB,zA,zM,zS,zL,reduceCtorEq,decide_true,hrb,fits];intro _;exact⟨st,hR.base,rfl,.inr ⟨hc,hv,_,hE.reach hS hR.nd (Nat.le_of_eq hl.symm),by rw[List.length_map,hxl.1]⟩⟩
theorem xXp (G:Gl gl)(T:Gt gl)(ca:Nat)(s:Sq)(x:IV)(hx:IsSq s x)(hs:yYj s)(st:ISt):ICall prog gl 18 [.raw (.int .u8 (ca:Int)),x] st (λr st'=>st'=st /\
  ((∃e,BadR ca s e/\r=.tup [.raw (.int .i64 0),.raw (.int .i64 (e:Int))])\/((ca=1\/ca=2)/\yQx ca s=true/\(∃K:List Sn,ReachOk (calJ ca) (nf (s.l,s.r)) K)/\r=.tup [.raw (.int .i64 (hF (calJ ca) (s.l,s.r):Int)),.raw (.int .i64 0)]))):=by
 have he:=zXj gl G T ca s x hx hs;obtain⟨t1,x1,t2,x2,rfl,e1,i1,e2,i2⟩:=hx;refine iI func18 ?_;simp only[go_sem,zE,zB,zA,zM,zS,zL,reduceCtorEq,fits];refine (he _).mono ?_;rintro r st1 hr;rcases hr.split with⟨e,hb,rfl,rfl⟩|⟨hc,hv,m,tw,xw,rb,mN,lines,links,htw,hxw,rfl,hR,hE,hl⟩
 ·have h0:decide ((e:Int)=0)=false:=dEf (by have:=hb.ne;omega);simp only[go_sem,zE,zB,zA,zM,zS,zL,reduceCtorEq,h0];exact yQ0 ⟨rfl,.inl ⟨e,hb,rfl⟩⟩
 ·obtain⟨hS,_,hWs,hin⟩:=yKf hc hv;obtain⟨tl,xl,tk,xk,hrb,hxl,hol,hxk,hok⟩:=hR.ex;have hA:=hE.all hl;have hse:=xZy gl ca m (spW s) hS tw xw htw hxw hWs lines links hA hE.len tl tk xl xk mN rb hxl hxk hol.es hok.es st st1 hrb hR.off.1 hR.base;simp only[go_sem,zE,zB,zA,zM,zS,zL,reduceCtorEq,decide_true];refine hse.mono ?_;rintro _ st2 ⟨rfl,gH,hs2,hrb2,hgH,hhl,hlst,hsub⟩;obtain⟨ln,hln,hnf⟩:=hE.start;have h0l:=(lGs hln).1;obtain⟨h,hh⟩:=yQ2 (l:=hs2) (k:=0) (by omega);have hF0:=hA.hF hS hln (hlst 0 h hh);rw[hnf,wWf] at hF0;simp only[go_sem,zE,zB,zA,zM,zS,zL,reduceCtorEq,hrb2,hgH,fits,h0l,yZc hh,Nat.zero_mul,Nat.add_zero,show ((0:Int)<=0)=True from eq_true (by decide),show Int.toNat 0=0 from rfl,IV.one];rw[<- hF0];exact⟨st,hsub,rfl,.inr ⟨hc,hv,⟨_,hE.reach hS hR.nd (Nat.le_of_eq hl.symm)⟩,rfl⟩⟩
theorem wKl (s:Sn):ClF (nf s).1 (nf s).2↔ClF s.1 s.2:=by
 unfold ClF nf;simp only[yGg]
theorem wXv (G:Gl gl)(T:Gt gl)(ca:Nat)(s:Sq)(x:IV)(hx:IsSq s x)(hs:yYj s)(st:ISt):ICall prog gl 15 [.raw (.int .u8 (ca:Int)),x] st (λr st'=>st'=st /\
  ((¬ (ca=1\/ca=2)/\r=.tup [.raw (.bool false),.raw (.int .i64 2)])\/((ca=1\/ca=2)/\yQx ca s=false/\r=.tup [.raw (.bool false),.raw (.int .i64 190)]) \/
   ((ca=1\/ca=2)/\yQx ca s=true/\∃b:Bool,(b=true↔ClF s.l s.r)/\r=.tup [.raw (.bool b),.raw (.int .i64 0)]))):=by
 have hb:=xZ6 gl G ca s x hx hs;have hx0:=hx;obtain⟨t1,x1,t2,x2,rfl,e1,i1,e2,i2⟩:=hx;refine iI func15 ?_;simp only[go_sem,zE,zB,zA,zM,zS,zL,reduceCtorEq,fits];refine (hb _).mono ?_;rintro _ st1 (⟨hc,rfl,rfl⟩|⟨hc,hv,rfl,rfl⟩|⟨hc,hv,m,tw,xw,hm,htw,hxw,rfl,rfl⟩)
 ·simp only[go_sem,zE,zB,zA,zM,zS,zL,reduceCtorEq,show decide ((2:Int)=0)=false from rfl];exact yQ0 ⟨rfl,.inl ⟨hc,rfl⟩⟩
 ·simp only[go_sem,zE,zB,zA,zM,zS,zL,reduceCtorEq,show decide ((190:Int)=0)=false from rfl];exact yQ0 ⟨rfl,.inr (.inl ⟨hc,hv,rfl⟩)⟩
 ·obtain⟨hS,_,hWs,hin⟩:=yKf hc hv;have hfit:=yUa hv;have hln:=zVt hin;simp only[go_sem,zE,zB,zA,zM,zS,zL,reduceCtorEq,decide_true,fits];refine (xXk gl T ca m (spW s) tw xw htw hxw hS.srt (Nat.le_trans hWs (by omega)) s _ hx0 ⟨by omega,by omega⟩ hin _).mono ?_;rintro z st1 ⟨hz,rfl⟩;have hax:=λst=>xZ7 gl ca m (spW s) hS tw xw htw hxw _ hln z hz st;obtain⟨ta,tb,rfl,ea,eb⟩:=hz;simp only[go_sem,zE,zB,zA,zM,zS,zL,reduceCtorEq];refine (hax _).mono ?_;rintro _ st1 ⟨⟨zf,rfl,hzf⟩,rfl⟩;obtain⟨y1,y2,y3,y4,y5,y6,rfl⟩:=hzf.agg;simp only[go_sem,zE,zB,zA,zM,zS,zL,reduceCtorEq,fits];refine⟨st,yQp hm,rfl,.inr (.inr ⟨hc,hv,_,?_,rfl⟩)⟩;rw[xUy hln.1,zQm hS.srt hln,zZ2 hS.srt hin];exact wKl (s.l,s.r)
abbrev zT:IV:=.agg [.raw (.int .u8 0),.sl ⟨true,.nil,0⟩ [],.sl ⟨true,.nil,0⟩ [],.raw (.int .u8 0),.raw (.string noN),.sl ⟨true,.nil,0⟩ [],.sl ⟨true,.nil,0⟩ [],.raw (.bool false),.raw (.string noN),.sl ⟨true,.nil,0⟩ [],.raw (.string noN),.sl ⟨true,.nil,0⟩ []]
theorem wZk (G:Gl gl)(T:Gt gl)(ca:Nat)(s:Sq)(x:IV)(hx:IsSq s x)(hs:yYj s)(bound:Int)(hno:(ca=1\/ca=2)->yQx ca s=true->hF (calJ ca) (s.l,s.r)=0\/bound<(hF (calJ ca) (s.l,s.r):Int)) (st:ISt) :
  ICall prog gl 19 [.raw (.int .u8 (ca:Int)),x,.raw (.int .i64 bound)] st (λr st'=>st'=st /\
  ((∃e,BadR ca s e/\r=.tup [zT,.raw (.int .i64 (e:Int))])\/((ca=1\/ca=2)/\yQx ca s=true/\r=.tup [zT,.raw (.int .i64 6)]))):=by
 have he:=zXj gl G T ca s x hx hs;obtain⟨t1,x1,t2,x2,rfl,e1,i1,e2,i2⟩:=hx;refine iI func19 ?_;simp only[go_sem,zE,zB,zA,zM,zS,zL,reduceCtorEq,fits];refine (he _).mono ?_;rintro r st1 hr;rcases hr.split with⟨e,hb,rfl,rfl⟩|⟨hc,hv,m,tw,xw,rb,mN,lines,links,htw,hxw,rfl,hR,hE,hl⟩
 ·have h0:decide ((e:Int)=0)=false:=dEf (by have:=hb.ne;omega);simp only[go_sem,zE,zB,zA,zM,zS,zL,reduceCtorEq,h0,fits];exact yQ0 ⟨rfl,.inl ⟨e,hb,rfl⟩⟩
 ·obtain⟨hS,_,hWs,hin⟩:=yKf hc hv;obtain⟨tl,xl,tk,xk,hrb,hxl,hol,hxk,hok⟩:=hR.ex;have hA:=hE.all hl;have hse:=xZy gl ca m (spW s) hS tw xw htw hxw hWs lines links hA hE.len tl tk xl xk mN rb hxl hxk hol.es hok.es st st1 hrb hR.off.1 hR.base;simp only[go_sem,zE,zB,zA,zM,zS,zL,reduceCtorEq,decide_true];refine hse.mono ?_;rintro _ st2 ⟨rfl,gH,hs2,hrb2,hgH,hhl,hlst,hsub⟩;obtain⟨ln,hln,hnf⟩:=hE.start;have h0l:=(lGs hln).1;obtain⟨h,hh⟩:=yQ2 (l:=hs2) (k:=0) (by omega);have hF0:=hA.hF hS hln (hlst 0 h hh);rw[hnf,wWf] at hF0;have hn:=hno hc hv;rw[hF0] at hn;by_cases hz:h=0
  ·subst hz;simp only[go_sem,zE,zB,zA,zM,zS,zL,reduceCtorEq,hrb2,hgH,fits,h0l,yZc hh,Nat.zero_mul,Nat.add_zero,show ((0:Int)<=0)=True from eq_true (by decide),show Int.toNat 0=0 from rfl,IV.one,show decide (((0:Nat):Int)=0)=true from rfl];exact⟨st,hsub,rfl,.inr ⟨hc,hv,rfl⟩⟩
  ·have hz':decide ((h:Int)=0)=false:=dEf (by omega);have hgt:decide ((h:Int) > bound)=true:=dEt (by have:=hn.resolve_left hz;omega);simp only[go_sem,zE,zB,zA,zM,zS,zL,reduceCtorEq,hrb2,hgH,fits,h0l,yZc hh,Nat.zero_mul,Nat.add_zero,show ((0:Int)<=0)=True from eq_true (by decide),show Int.toNat 0=0 from rfl,IV.one,hz',hgt];exact⟨st,hsub,rfl,.inr ⟨hc,hv,rfl⟩⟩
theorem xJb {W:List Fm}{l:List Nat}{k i:Nat}{f:Fm}(h:l[k]?=some i)(hf:W[i]?=some f):fmW W (l.take (k+1))=fmW W (l.take k)++[f]:=by
 rw[yQ7 h];unfold fmW;rw[List.filterMap_append];simp[hf]
theorem vYj (ca m:Nat)(W:List Fm)(hS:SpOk ca W)(tw:Tag)(xw:List IV)(htw:okEs tw 4)(hxw:IsFms W xw)(ln:Ln)(hln:LnOk W ln)(x:IV)(hx:IsLn ln x)(st:ISt) :
  ICall prog gl 42 [spI ca tw xw m,x] st (λr st'=>IsSq ⟨fmW W ln.1,fmW W ln.2⟩ r/\st'=st):=by
 obtain⟨ta,tb,rfl,ea,eb⟩:=hx;have hl1:=yWg hln.1.1 hln.1.2;have hl2:=yWg hln.2.1 hln.2.2;have hWl:=hS.len;refine iI func42 ?_;simp only[go_sem,zE,zB,zA,zM,zS,zL,reduceCtorEq,fits];intro _;refine LoopC.ctr (yQh ln.1).length (λk fr st' ds=>(∃t y,fr 5=.box [.sl t y,.sl ⟨true,.nil,0⟩ []]/\own st' t k 4 st/\subSt st st'/\IsFms (fmW W (ln.1.take k)) y/\y.length=k)/\fr 0=.iv (spI ca tw xw m)/\fr 3=.box [.sl ta (yQh ln.1),.sl tb (yQh ln.2)]/\fr 4=.box [.sl ⟨true,.nil,0⟩ [],.sl ⟨true,.nil,0⟩ []] /\
  fr 11=.iv (.sl ta (yQh ln.1))/\fr 12=.iv (.raw (.int .i64 (yQh ln.1).length))/\fr 13=.iv (.raw (.int .i64 (k:Int)))/\ds=[]) ?_ ?_ ?_
 ·simp only[go_sem,zE,zB,zA,zM,zS,zL,reduceCtorEq];exact⟨⟨_,_,rfl,own.nil ..,subSt.refl _,rfl,rfl⟩,rfl⟩
 ·rintro k fr st1 _ hlt ⟨⟨t1,y1,hf5,hown,hsub,hy,hyl⟩,f0,f3,f4,fl,fn,fk,rfl⟩;rw[yQi] at hlt;obtain⟨i,hi⟩:=yQ2 hlt;have hil:=hln.1.2 i (lMg hi);obtain⟨f,hf⟩:=yQ2 hil;obtain⟨z,hz,hfz⟩:=hxw.get hf;have hcp:=λst=>zZp gl f z hfz (Nat.le_trans (hS.size (lMg hf)) (by omega)) st;have hxl2:i<xw.length:=by rw[hxw.len];exact hil
  cases f with
  | mk og ng ug sg =>
  obtain⟨tg1,xg1,tg2,xg2,rfl,hgg⟩:=hfz.mk;simp only[go_sem,zE,zB,zA,zM,zS,zL,reduceCtorEq,hf5,f0,f3,fl,fn,fk,lt_i (show k<(yQh ln.1).length by rw[yQi];exact hlt),yQ3 ea,yQ3 htw,iNn,yZc hi,hz,fits,IV.one];refine (hcp _).mono ?_;rintro r st1 ⟨hr,rfl⟩;obtain⟨o1,n1,t2,x2,t3,x3,rfl⟩:=IsFmD.aggs hr;simp only[go_sem,zE,zB,zA,zM,zS,zL,reduceCtorEq,fits,yQ1,hf5];refine yX4 hown hyl hsub rfl (by simp[fits,IV.one]) (by simp only;omega) (by omega) λt1' st2 w1 w2 w3=>?_;simp only[go_sem,zE,zB,zA,zM,zS,zL,reduceCtorEq,f0,f3,f4,fl,fn,fk,hf5,yQd (show k<(yQh ln.1).length by rw[yQi];exact hlt) (show (yQh ln.1).length<=281474976710656 by rw[yQi];omega)];exact⟨t1',_,rfl,w1,w2,by rw[xJb hi hf];exact hy.append (.one hr.1),by rw[lLa,hyl];rfl⟩
 ·rintro fr st0 _ ⟨⟨t0,y0,f5,hown0,hsub0,hy0,hyl0⟩,f0,f3,f4,fl,fn,fk,rfl⟩;rw[yQi,lTl] at hy0;have he0:=hown0.es;simp only[go_sem,zE,zB,zA,zM,zS,zL,reduceCtorEq,f5,f0,f3,f4,fl,fn,fk,yQm (nLi _),fits];intro _;refine LoopC.ctr (yQh ln.2).length (λk fr st' ds=>(∃t y,fr 5=.box [.sl t0 y0,.sl t y]/\own st' t k 4 st/\subSt st st'/\IsFms (fmW W (ln.2.take k)) y/\y.length=k)/\fr 0=.iv (spI ca tw xw m)/\fr 3=.box [.sl ta (yQh ln.1),.sl tb (yQh ln.2)]/\fr 4=.box [.sl ⟨true,.nil,0⟩ [],.sl ⟨true,.nil,0⟩ []] /\
   fr 32=.iv (.sl tb (yQh ln.2))/\fr 33=.iv (.raw (.int .i64 (yQh ln.2).length))/\fr 34=.iv (.raw (.int .i64 (k:Int)))/\ds=[]) ?_ ?_ ?_
  ·simp only[go_sem,zE,zB,zA,zM,zS,zL,reduceCtorEq,f0,f3,f4,f5];exact⟨⟨_,_,rfl,own.nil ..,hsub0,rfl,rfl⟩,rfl⟩
  ·rintro k fr st1 _ hlt ⟨⟨t1,y1,hf5,hown,hsub,hy,hyl⟩,f0,f3,f4,fl,fn,fk,rfl⟩;rw[yQi] at hlt;obtain⟨i,hi⟩:=yQ2 hlt;have hil:=hln.2.2 i (lMg hi);obtain⟨f,hf⟩:=yQ2 hil;obtain⟨z,hz,hfz⟩:=hxw.get hf;have hcp:=λst=>zZp gl f z hfz (Nat.le_trans (hS.size (lMg hf)) (by omega)) st;have hxl2:i<xw.length:=by rw[hxw.len];exact hil
   cases f with
   | mk og ng ug sg =>
   obtain⟨tg1,xg1,tg2,xg2,rfl,hgg⟩:=hfz.mk;simp only[go_sem,zE,zB,zA,zM,zS,zL,reduceCtorEq,hf5,f0,f3,fl,fn,fk,lt_i (show k<(yQh ln.2).length by rw[yQi];exact hlt),yQ3 eb,yQ3 htw,iNn,yZc hi,hz,fits,IV.one];refine (hcp _).mono ?_;rintro r st1 ⟨hr,rfl⟩;obtain⟨o1,n1,t2,x2,t3,x3,rfl⟩:=IsFmD.aggs hr;simp only[go_sem,zE,zB,zA,zM,zS,zL,reduceCtorEq,fits,yQ1,hf5];refine yX4 hown hyl hsub rfl (by simp[fits,IV.one]) (by simp only;omega) (by omega) λt1' st2 w1 w2 w3=>?_;simp only[go_sem,zE,zB,zA,zM,zS,zL,reduceCtorEq,f0,f3,f4,fl,fn,fk,hf5,yQd (show k<(yQh ln.2).length by rw[yQi];exact hlt) (show (yQh ln.2).length<=281474976710656 by rw[yQi];omega)];exact⟨t1',_,rfl,w1,w2,by rw[xJb hi hf];exact hy.append (.one hr.1),by rw[lLa,hyl];rfl⟩
  ·rintro fr st1 _ ⟨⟨t1,y1,f5,hown,hsub,hy,hyl⟩,f0,f3,f4,fl,fn,fk,rfl⟩;rw[yQi,lTl] at hy;have he1:=hown.es;simp only[go_sem,zE,zB,zA,zM,zS,zL,reduceCtorEq,f4,f5,fl,fn,fk,yQm (nLi _),fits];exact⟨st,hsub,⟨t0,y0,t1,y1,rfl,he0,hy0,he1,hy⟩,rfl⟩
def wYh (v:Nat×Fm×List Sn)(x:IV):Prop:=∃o n t1 x1 t2 x2 t3 x3,x=.agg [.raw (.int .u8 (v.1:Int)),.raw (.int .u8 o),.raw (.string n),.sl t1 x1,.sl t2 x2,.sl t3 x3]/\IsFm v.2.1 (.agg [.raw (.int .u8 o),.raw (.string n),.sl t1 x1,.sl t2 x2])/\okEs t3 2/\AllR (λp y=>IsSq ⟨p.1,p.2⟩ y) v.2.2 x3
theorem xYs (G:Gl gl)(T:Gt gl)(ca:Nat)(s:Sq)(x:IV)(hx:IsSq s x)(hs:yYj s)(st:ISt):ICall prog gl 16 [.raw (.int .u8 (ca:Int)),x] st (λr st'=>st'=st /\
  ((¬ (ca=1\/ca=2)/\r=.tup [.sl ⟨true,.nil,0⟩ [],.raw (.int .i64 2)])\/((ca=1\/ca=2)/\yQx ca s=false/\r=.tup [.sl ⟨true,.nil,0⟩ [],.raw (.int .i64 190)]) \/
   ((ca=1\/ca=2)/\yQx ca s=true/\((zYu (calJ ca) (nf (s.l,s.r))/\r=.tup [.sl ⟨true,.nil,0⟩ [],.raw (.int .i64 5)])\/(¬ zYu (calJ ca) (nf (s.l,s.r))/\∃t ys,okEs t 6/\AllR wYh (mvF (calJ ca) (nf (s.l,s.r))) ys/\r=.tup [.sl t ys,.raw (.int .i64 0)]))))):=by
 have hb:=xZ6 gl G ca s x hx hs;have hx0:=hx;obtain⟨t1,x1,t2,x2,rfl,e1,i1,e2,i2⟩:=hx;refine ICall.introF (t:=6) (n:=2) (c:=cf prog gl [4,5,6,8,38] [(10,[0,1,2,3,4,6,7,12,5,8,9,10,11,13])] [3]) func16 rfl (by show _<=66;simp) (by show _<66;simp) (by kernel_rfl) ?_;simp only[go_sem,zE,zB,zA,zM,zS,zL,reduceCtorEq,fits];refine λb4=>yQ9 λh4=>λb5=>yQ9 λh5=>?_;have n54:b5≠b4:=λe=>by rw[e,ISt.put_same] at h5;cases h5
 rw[yQ6 n54] at h5;have sub0:subSt st ((st.put b4 (some (.box [.sl ⟨true,.nil,0⟩ []]))).put b5 (some (.box [.raw (.int .i64 0)]))):=yQe (yQp h4) h5;refine (hb _).mono ?_;rintro _ st1 (⟨hc,rfl,rfl⟩|⟨hc,hv,rfl,rfl⟩|⟨hc,hv,m,tw,xw,hm,htw,hxw,rfl,rfl⟩)
 ·simp only[go_sem,zE,zB,zA,zM,zS,zL,reduceCtorEq,fits];refine λb6=>yQ9 λh6=>?_;have n6:b6≠b5:=λe=>by rw[e,ISt.put_same] at h6;cases h6
  rw[yQ6 n6] at h6;have n64:b6≠b4:=λe=>by rw[e,ISt.put_same] at h6;cases h6
  refine⟨b6,.raw (.pointer none),by simp only[go_sem,zE,zB,zA,zM,zS,zL,reduceCtorEq],ISt.put_same ..,?_⟩;rw[yGk (by rw[yQ6 n6];exact h6)];simp only[go_sem,zE,zB,zA,zM,zS,zL,reduceCtorEq,show decide ((2:Int)=0)=false from rfl,yQ6 n54.symm,yQ6 n54,fits];exact⟨st,yQe (yQe sub0 h4) h5,rfl,.inl ⟨hc,rfl⟩⟩
 ·simp only[go_sem,zE,zB,zA,zM,zS,zL,reduceCtorEq,fits];refine λb6=>yQ9 λh6=>?_;have n6:b6≠b5:=λe=>by rw[e,ISt.put_same] at h6;cases h6
  rw[yQ6 n6] at h6;have n64:b6≠b4:=λe=>by rw[e,ISt.put_same] at h6;cases h6
  refine⟨b6,.raw (.pointer none),by simp only[go_sem,zE,zB,zA,zM,zS,zL,reduceCtorEq],ISt.put_same ..,?_⟩;rw[yGk (by rw[yQ6 n6];exact h6)];simp only[go_sem,zE,zB,zA,zM,zS,zL,reduceCtorEq,show decide ((190:Int)=0)=false from rfl,yQ6 n54.symm,yQ6 n54,fits];exact⟨st,yQe (yQe sub0 h4) h5,rfl,.inr (.inl ⟨hc,hv,rfl⟩)⟩
 ·obtain⟨hS,_,hWs,hin⟩:=yKf hc hv;have hfit:=yUa hv;have hln:=zVt hin;have hnf:=zZ2 hS.srt hin;simp only[go_sem,zE,zB,zA,zM,zS,zL,reduceCtorEq,fits];refine λb6=>yQ9 λh6=>?_;have n6m:b6≠m:=λe=>by rw[e,ISt.put_same] at h6;cases h6
  refine⟨b6,spI ca tw xw m,by simp only[go_sem,zE,zB,zA,zM,zS,zL,reduceCtorEq],ISt.put_same ..,?_⟩;rw[yGk h6,show age (spI ca tw xw m)=spI ca ⟨false,tw.cap,tw.es⟩ (ages xw) m by simp only[age,ages]];replace htw:okEs ⟨false,tw.cap,tw.es⟩ 4:=htw;replace hxw:=hxw.aged;generalize (⟨false,tw.cap,tw.es⟩:Tag)=tw at htw ⊢;generalize ages xw=xw at hxw ⊢;simp only[go_sem,zE,zB,zA,zM,zS,zL,reduceCtorEq,decide_true];refine λb8=>yQ9 λh8=>?_;refine (xXk gl T ca m (spW s) tw xw htw hxw hS.srt (Nat.le_trans hWs (by omega)) s _ hx0 ⟨by omega,by omega⟩ hin _).mono ?_;rintro z st1 ⟨hz,rfl⟩;have hmc:=λst=>xYr gl m (spI ca tw xw m) z _ rfl _ hz st;have hit:=xXe gl G T ca m _ hS hWs tw xw htw hxw _ hln z hz;obtain⟨ta,tb,rfl,ea,eb⟩:=id hz;simp only[go_sem,zE,zB,zA,zM,zS,zL,reduceCtorEq];refine (hmc _).mono ?_;rintro _ st1 ⟨rfl,rfl⟩;simp only[go_sem,zE,zB,zA,zM,zS,zL,reduceCtorEq,fits];have hm5:m≠b5:=λe=>by rw[e,ISt.put_same] at hm;cases hm
  rw[yQ6 hm5] at hm;have hm4:m≠b4:=λe=>by rw[e,ISt.put_same] at hm;cases hm
  rw[yQ6 hm4] at hm;have h8m:b8≠m:=λe=>by rw[e,ISt.put_same] at h8;cases h8
  rw[yQ6 h8m] at h8;have h85:b8≠b5:=λe=>by rw[e,ISt.put_same] at h8;cases h8
  rw[yQ6 h85] at h8;have h84:b8≠b4:=λe=>by rw[e,ISt.put_same] at h8;cases h8
  rw[yQ6 h84] at h8;generalize hSt:((((st.put b4 (some (.box [.sl ⟨true,.nil,0⟩ []]))).put b5 (some (.box [.raw (.int .i64 0)]))).put m (some (.map .pl []))).put b8 (some (.box [.sl ⟨true,.nil,0⟩ []])))=sA;have hxw2:IsFms (setF (yZj (s.l++s.r))) xw:=hxw;generalize hW:setF (yZj (s.l++s.r))=W at *;generalize hln2:zVu W (s.l,s.r)=ln at *
  let EI:Nat->ISt->Prop:=λk s'=>∃(vs:List Mv) (t8:Tag) (ys:List IV),(cutO (mvsN W (calJ ca) ln)).take k=vs.map some/\AllR wYh (vs.map (mvW W)) ys/\SpSt ca m W s'/\s' b4=some (.box [.sl ⟨true,.nil,0⟩ []])/\s' b5=some (.box [.raw (.int .i64 0)])/\s' b8=some (.box [.sl t8 ys])/\own s' t8 vs.length 6 st/\subSt st s'
  let ES:Exit->ISt->Prop:=λe s'=>e=.ret/\s' b4=some (.box [.sl ⟨true,.nil,0⟩ []])/\s' b5=some (.box [.raw (.int .i64 5)])/\none∈mvsN W (calJ ca) ln/\subSt st s'
  refine RangeU.intro (mvX W (calJ ca) ln) (cutO (mvsN W (calJ ca) ln)).length EI ES (SpUp ca m W) ?_ (by simp only[go_sem]) ?_ ?_ ?_ (hit.of λk s ⟨_,_,_,_,_,h,_⟩=>h) ?_ ?_
  ·rintro k s' m' kk es es' ⟨vs,t8,ys,q1,q2,⟨es0,q3,q3'⟩,q4,q5,q6,q7,q8⟩ hm' ⟨rfl,hu⟩;rw[q3] at hm';cases hm';have e4:b4≠m':=λe=>by rw[e,q3] at q4;cases q4
   have e5:b5≠m':=λe=>by rw[e,q3] at q5;cases q5
   have e8:b8≠m':=λe=>by rw[e,q3] at q6;cases q6
   exact⟨vs,t8,ys,q1,q2,⟨es',ISt.put_same ..,hu q3'⟩,by rw[yQ6 e4];exact q4,by rw[yQ6 e5];exact q5,by rw[yQ6 e8];exact q6,q7.mono λg hg _=>(by rw[yQ6 λe=>(by rw[e,q3] at hg;cases hg)];exact hg),yQe q8 hm⟩
  ·rintro k a ⟨o,_,ho⟩;cases o with
   | none=>rw[show a=_ from ho];rfl
   | some v=>obtain⟨x,rfl,_⟩:=ho;rfl
  ·exact⟨[],⟨true,.nil,0⟩,[],rfl,AllR.nil,⟨[],by rw[<- hSt,yQ6 h8m.symm,ISt.put_same],λp hp=>by cases hp⟩,by rw[<- hSt,yQ6 h84.symm,yQ6 hm4.symm,yQ6 n54.symm,ISt.put_same],
    by rw[<- hSt,yQ6 h85.symm,yQ6 hm5.symm,ISt.put_same],by rw[<- hSt,ISt.put_same],own.nil ..,by rw[<- hSt];exact yQe (yQe sub0 hm) h8⟩
  ·rintro k a s' ⟨o,hok',ho⟩ ⟨vs,t8,ys,q1,q2,q3,q4,q5,q6,q7,q8⟩;cases o with
   | none =>
    obtain rfl:a=_:=ho;have hnone:none∈mvsN W (calJ ca) ln:=by
     have h1:∀l:List (Option Mv),none∈cutO l->none∈l:=λl=>by
      induction l with
      | nil=>exact id
      | cons a l ih =>
       cases a with
       | none=>exact λ_=>.head _
       | some a =>
        intro h;simp only[cutO] at h;rcases List.mem_cons.1 h with h|h
        ·cases h
        ·exact .tail _ (ih h)
     exact h1 _ (lMg hok')
    simp only[go_sem,zE,zB,zA,zM,zS,zL,reduceCtorEq,fits,show decide ((5:Int)=0)=false from rfl,decide_false,q4,q5,yQ6 n54,yQ6 n54.symm];exact⟨rfl,by rw[yQ6 n54.symm,ISt.put_same],ISt.put_same ..,hnone,yQe (yQe q8 h4) h5⟩
   | some v =>
    obtain⟨xv,rfl,tv,zv,rfl,htv,hzv⟩:=ho;have hvm:some v∈mvsN W (calJ ca) ln:=by
     have h1:∀l:List (Option Mv),some v∈cutO l->some v∈l:=λl=>by
      induction l with
      | nil=>exact id
      | cons a l ih =>
       cases a with
       | none=>intro h;simp[cutO] at h
       | some a =>
        intro h;simp only[cutO] at h;rcases List.mem_cons.1 h with h|h
        ·rw[h];exact .head _
        ·exact .tail _ (ih h)
     exact h1 _ (lMg hok')
    obtain⟨g1,g2,g3,g4⟩:=zQz hS hln hvm;obtain⟨f,hf⟩:=yQ2 g1;obtain⟨z,hz,hfz⟩:=hxw2.get hf;have hcp:=λst=>zZp gl f z hfz (Nat.le_trans (hS.size (lMg hf)) (by omega)) st;obtain⟨og,ng,ug,sg,rfl⟩:∃o n u s,f=.mk o n u s:=by cases f;exact⟨_,_,_,_,rfl⟩
    obtain⟨tg1,xg1,tg2,xg2,rfl,hgg⟩:=hfz.mk;simp only[go_sem,zE,zB,zA,zM,zS,zL,reduceCtorEq,fits,decide_true,yQ3 htw,iNn,hz,IV.one];refine (hcp _).mono ?_;rintro r s2 ⟨hr,rfl⟩;obtain⟨o1,n1,t5,x5,t6,x6,rfl⟩:=IsFmD.aggs hr;simp only[go_sem,zE,zB,zA,zM,zS,zL,reduceCtorEq,fits];intro _;refine LoopC.ctr zv.length (λq fr st' ds=>(∃t3 x3,fr 11=.box [.raw (.int .u8 (v.1:Int)),.raw (.int .u8 o1),.raw (.string n1),.sl t5 x5,.sl t6 x6,.sl t3 x3]/\AllR (λp y=>IsSq ⟨p.1,p.2⟩ y) ((v.2.2.take q).map (lnW W)) x3/\own st' t3 q 2 st/\SpSt ca m W st'/\st' b4=some (.box [.sl ⟨true,.nil,0⟩ []])/\st' b5=some (.box [.raw (.int .i64 0)]) /\
     st' b8=some (.box [.sl t8 ys])/\own st' t8 vs.length 6 st/\subSt st st')/\fr 6=.iv (.cptr (spI ca tw xw m))/\fr 46=.iv (.sl tv zv)/\fr 47=.iv (.raw (.int .i64 zv.length))/\fr 48=.iv (.raw (.int .i64 (q:Int)))/\fr 4=.iv (ptr b4)/\fr 5=.iv (ptr b5)/\fr 8=.iv (ptr b8)/\ds=[]) ?_ ?_ ?_
    ·simp only[go_sem,zE,zB,zA,zM,zS,zL,reduceCtorEq];exact⟨⟨_,_,rfl,AllR.nil,own.nil ..,q3,q4,q5,q6,q7,q8⟩,rfl⟩
    ·rintro q fr s3 _ hq ⟨⟨t3,x3,f11,hal,hown3,q3,q4,q5,q6,q7,q8⟩,f6,f46,f47,f48,f4,f5,f8,rfl⟩;have hzl:=hzv.1;obtain⟨p,hp⟩:=yQ2 (l:=v.2.2) (k:=q) (by rw[<- hzl];exact hq);obtain⟨zq,hzq,hzl2⟩:=hzv.2 q p hp;obtain⟨g5,g6⟩:=g4 p (lMg hp);have hsq:=λst=>vYj gl ca m W hS tw xw htw hxw2 p g5 zq hzl2 st;obtain⟨ta2,tb2,rfl,ea2,eb2⟩:=hzl2;simp only[go_sem,zE,zB,zA,zM,zS,zL,reduceCtorEq,f11,f6,f46,f47,f48,f4,f5,f8,lt_i hq,yQ3 htv,iNn,hzq,fits,IV.one];refine (hsq _).mono ?_;rintro _ s3 ⟨⟨t7,x7,t9,x9,rfl,e7,i7,e9,i9⟩,rfl⟩;have hx3l:x3.length=q:=by rw[hal.1,List.length_map,List.length_take];omega
     simp only[go_sem,zE,zB,zA,zM,zS,zL,reduceCtorEq,f11,fits,yQ1];refine yX4 hown3 hx3l q8 rfl (by simp[fits,IV.one]) (by simp only;omega) (by omega) λt3' s4 w1 w2 w3=>?_;obtain⟨es0,u1,u2⟩:=q3;simp only[go_sem,zE,zB,zA,zM,zS,zL,reduceCtorEq,f11,f6,f46,f47,f48,f4,f5,f8,yQd hq (show zv.length<=281474976710656 by omega)];refine⟨t3',_,rfl,?_,w1,⟨es0,w3 _ _ u1 (λn h=>by cases h),u2⟩,w3 _ _ q4 (λn h=>by cases h),w3 _ _ q5 (λn h=>by cases h),w3 _ _ q6 (λn h=>by cases h),w3.own q7 (by decide),w2⟩;rw[yQ7 hp,List.map_append];exact hal.snoc ⟨t7,x7,t9,x9,rfl,e7,i7,e9,i9⟩
    ·rintro fr s3 _ ⟨⟨t3,x3,f11,hal,hown3,q3,q4,q5,q6,q7,q8⟩,f6,f46,f47,f48,f4,f5,f8,rfl⟩;have hzl:=hzv.1;rw[hzl,lTl] at hal;have hyl:ys.length=vs.length:=by rw[q2.1,List.length_map]
     have hvl:vs.length<=16000000:=by
      have h1:∀l:List (Option Mv),(cutO l).length<=l.length:=λl=>by
       induction l with
       | nil=>exact Nat.le_refl _
       | cons a l ih =>
        cases a with
        | none=>simp[cutO]
        | some a=>simp only[cutO,List.length_cons];omega
      have h2:=congrArg List.length q1;rw[List.length_take,List.length_map] at h2;have h3:=h1 (mvsN W (calJ ca) ln);have h4:=zVq hS hWs hln;omega
     simp only[go_sem,zE,zB,zA,zM,zS,zL,reduceCtorEq,f11,f6,f46,f47,f48,f4,f5,f8,yQm (nLi _),q6,fits,yQ1];refine yX4 q7 hyl q8 rfl (by simp[fits,IV.one]) (by simp only;omega) (by omega) λt8' s4 w1 w2 w3=>?_;have hb8:=w3 _ _ q6 (λn h=>by cases h);simp only[go_sem,zE,zB,zA,zM,zS,zL,reduceCtorEq,f8,hb8,fits];obtain⟨es0,u1,u2⟩:=q3;refine⟨vs++[v],t8',_,?_,?_,⟨es0,by rw[yQ6 h8m.symm];exact w3 _ _ u1 (λn h=>by cases h),u2⟩,by rw[yQ6 h84.symm];exact w3 _ _ q4 (λn h=>by cases h),by rw[yQ6 h85.symm];exact w3 _ _ q5 (λn h=>by cases h),ISt.put_same ..,?_,yQe w2 h8⟩
     ·rw[yQ7 hok',q1,List.map_append];rfl
     ·rw[List.map_append];refine q2.snoc ⟨o1,n1,t5,x5,t6,x6,t3,x3,rfl,?_,hown3.es,hal⟩;show IsFm ((W[v.2.1]?).getD fm0) _;rw[hf];exact hr.1
     ·rw[lLa];refine w1.mono λg hg _=>?_;rw[yQ6 λe=>by rw[e,hb8] at hg;cases hg];exact hg
  ·rintro s' rr ⟨vs,t8,ys,q1,q2,q3,q4,q5,q6,q7,q8⟩;rw[lTl] at q1;have hall:mvsN W (calJ ca) ln=vs.map some:=by
    have h1:∀l:List (Option Mv),none ∉ cutO l->cutO l=l:=λl=>by
     induction l with
     | nil=>intro _;rfl
     | cons a l ih =>
      intro h;cases a with
      | none=>exact absurd (.head _) h
      | some a=>simp only[cutO] at h ⊢;rw[ih λh'=>h (.tail _ h')]
    rw[<- q1,h1];rw[q1];simp
   have hmF:=xQa hS hln hall;have hnl:=zQy hS hln (j:=calJ ca);rw[hnf] at hmF hnl;simp only[go_sem,zE,zB,zA,zM,zS,zL,reduceCtorEq,q4,q5,q6,yQ6 n54,yQ6 n54.symm,fits];refine⟨st,yQe (yQe q8 h4) h5,rfl,.inr (.inr ⟨hc,hv,.inr ⟨λh=>?_,t8,ys,q7.es,by rw[hmF];exact q2,rfl⟩⟩)⟩;have:=hnl.2 h;rw[hall] at this;simp at this
  ·rintro e s' rr ⟨rfl,w1,w2,w3,w4⟩;simp only[go_sem,zE,zB,zA,zM,zS,zL,reduceCtorEq,w1,w2];have hnl:=(zQy hS hln (j:=calJ ca)).1 w3;rw[hnf] at hnl;exact⟨st,w4,rfl,.inr (.inr ⟨hc,hv,.inl ⟨hnl,rfl⟩⟩)⟩
end Go.Proofs.Tryz
namespace Go.Proofs.Tryz
open Go Go.Iv
noncomputable def insC (a:Fm):List Fm->List Fm
 | []=>[a]
 | b::l=>if yZa a b<0 then a::b::l else if yZa a b=0 then b::l else b::insC a l
noncomputable def setC:List Fm->List Fm
 | []=>[]
 | a::l=>insC a (setC l)
theorem zW5 {a x:Fm}:∀ {l:List Fm},x∈insC a l↔x=a\/x∈l
 | []=>by simp[insC]
 | b::l=>by
  unfold insC;split
  ·simp
  ·split
   ·rename_i h;rw[(yJ4 a b).1 h];simp
   ·rw[List.mem_cons,zW5,List.mem_cons];grind
theorem xXy {a:Fm}:∀ {l:List Fm},l.Pairwise (λx y=>yZa x y<0)->(insC a l).Pairwise (λx y=>yZa x y<0)
 | [],_=>by simp[insC]
 | b::l,h=>by
  obtain⟨h1,h2⟩:=List.pairwise_cons.1 h;unfold insC;split
  ·rename_i hab;refine List.pairwise_cons.2 ⟨λx hx=>?_,h⟩;rcases List.mem_cons.1 hx with rfl|hx
   ·exact hab
   ·exact yVo _ _ _ hab (h1 x hx)
  ·split
   ·exact h
   ·rename_i hn h0;refine List.pairwise_cons.2 ⟨λx hx=>?_,xXy h2⟩;rcases zW5.1 hx with rfl|hx
    ·have:=yV7 x b;omega
    ·exact h1 x hx
theorem xWv:∀l:List Fm,SetF l (setC l)
 | []=>⟨List.Pairwise.nil,λ_=>Iff.rfl⟩
 | a::l=>by
  obtain⟨h1,h2⟩:=xWv l;refine⟨xXy h1,λf=>?_⟩;show f∈insC a (setC l)↔_;rw[zW5,h2,List.mem_cons]
theorem wJj (l:List Fm):setF l=setC l:=yUe (xWv l)
noncomputable def nfC (s:Sn):Sn:=(setC s.1,setC s.2)
theorem nf_C (s:Sn):nf s=nfC s:=by unfold nf nfC;rw[wJj,wJj]
noncomputable def pmC (j:Bool)(s p:Sn):Sn:=nfC (s.1++p.1,rgt j s.2 p.2)
noncomputable def mvC (j:Bool)(s:Sn):List (List Sn):=(s.1.flatMap λf=>(addF j f false).map λt=>t.2.map (pmC j s))++s.2.flatMap λf=>(addF j f true).map λt=>t.2.map (pmC j s)
theorem vQa (j:Bool)(s:Sn):(mvF j s).map (λm=>m.2.2)=mvC j s:=by
 have key:∀(r:Bool) (l:List Fm),(l.flatMap (zVp j s r)).map (λm=>m.2.2)=l.flatMap λf=>(addF j f r).map λt=>t.2.map (pmC j s):=λr l=>by
  rw[List.map_flatMap];congr 1;funext f;unfold zVp;rw[List.map_map];refine List.map_congr_left λt _=>?_;refine List.map_congr_left λp _=>?_;exact nf_C _
 unfold mvF mvC;rw[List.map_append,key,key]
noncomputable def clC (s:Sn):Bool:=s.1.any λf=>s.2.any (λg=>decide (yZa f g=0)) || zX7 f
theorem zGo (s:Sn):clC s=true↔ClF s.1 s.2:=by
 unfold clC ClF;simp only[List.any_eq_true,Bool.or_eq_true,dTe,yJ4];constructor
 ·rintro⟨f,hf,⟨g,hg,rfl⟩|h⟩
  ·exact .inl ⟨_,hf,hg⟩
  ·exact .inr ⟨f,hf,h⟩
 ·rintro (⟨f,h1,h2⟩|⟨f,h1,h2⟩)
  ·exact⟨f,h1,.inl ⟨f,h2,rfl⟩⟩
  ·exact⟨f,h1,.inr h2⟩
theorem xVn {j r:Bool}{f:Fm}{t:Nat×List Sn}(h:t∈addF j f r):∀p∈t.2,p.1.length<=2/\p.2.length<=2:=by
 unfold addF at h;split at h
 case h_5=>split at h<;>simp at h<;>(try rcases h with rfl|rfl)<;>(try subst h)<;>simp
 all_goals (first|(simp at h;subst h;simp)|(simp at h))
def at0 (l:List Nat)(i:Nat):Nat:=(l[i]?).getD 0
noncomputable def vQv:DecidableEq Fm:=λa b=>decidable_of_iff (yZa a b=0) (yJ4 a b)
def vXi (n:Nat)(cl:List Bool)(lk:List (List (List Nat)))(hs:List Nat):Bool :=
 (List.range n).all λi=>(decide (i=0) || (List.range i).any λk=>!((cl[k]?).getD true)&&((lk[k]?).getD []).any (·.contains i)) &&
  (if (cl[i]?).getD true=true then decide (at0 hs i=1) else
   (decide (at0 hs i=0) || ((lk[i]?).getD []).any λps=>ps.all λp=>decide (0<at0 hs p)&&decide (at0 hs p<at0 hs i)) &&
   (((lk[i]?).getD []).all λps=>(ps.all λp=>decide (p<n))&&((ps.any λp=>decide (at0 hs p=0)) || (decide (0<at0 hs i)&&ps.any λp=>decide (at0 hs i<=at0 hs p+1)))))
structure Cert (j:Bool)(K:List Sn)(cl:List Bool)(lk:List (List (List Nat)))(hs:List Nat):Prop where
 norm:K.map nfC=K
 nd:K.Nodup
 cls:K.map clC=cl
 mvs:K.map (λs=>if clC s=true then [] else mvC j s)=lk.map (·.map (·.map λn=>(K[n]?).getD ([],[])))
 num:vXi K.length cl lk hs=true
 short:(K.all λs=>decide (s.1.length<=60)&&decide (s.2.length<=60))=true
 len:K.length<=20000
section
variable {j:Bool}{K:List Sn}{cl:List Bool}{lk:List (List (List Nat))}{hs:List Nat}(h:Cert j K cl lk hs)
include h
theorem Cert.at_ {i:Nat}{s:Sn}(hi:K[i]?=some s):(cl[i]?).getD true=clC s/\(clC s=false->mvC j s=((lk[i]?).getD []).map (·.map λn=>(K[n]?).getD ([],[]))):=by
 have h1:cl[i]?=some (clC s):=by rw[<- h.cls,List.getElem?_map,hi];rfl
 have h2:=congrArg (λl=>l[i]?) h.mvs;simp only[List.getElem?_map,hi,Option.map_some] at h2;refine⟨by rw[h1];rfl,λhc=>?_⟩;rw[hc] at h2;simp only[bFt,if_false] at h2;cases hl:lk[i]? with
 | none=>rw[hl] at h2;cases h2
 | some l=>rw[hl] at h2;exact Option.some.inj h2
theorem Cert.num_ {i:Nat}(hi:i<K.length):(i=0\/∃k,k<i/\(cl[k]?).getD true=false/\∃ps∈(lk[k]?).getD [],i∈ps)/\((cl[i]?).getD true=true->at0 hs i=1) /\
  ((cl[i]?).getD true=false->(at0 hs i=0\/∃ps∈(lk[i]?).getD [],∀p∈ps,0<at0 hs p/\at0 hs p<at0 hs i)/\∀ps∈(lk[i]?).getD [],(∀p∈ps,p<K.length)/\((∃p∈ps,at0 hs p=0)\/(0<at0 hs i/\∃p∈ps,at0 hs i<=at0 hs p+1))):=by
 have:=List.all_eq_true.1 h.num i (List.mem_range.2 hi);rw[bAt] at this;obtain⟨h1,h2⟩:=this;refine⟨?_,λhc=>?_,λhc=>?_⟩
 ·simp only[Bool.or_eq_true,dTe,List.any_eq_true,List.mem_range,bAt,Bool.not_eq_true',List.contains_iff_mem] at h1;exact h1
 ·rw[if_pos hc] at h2;exact of_decide_eq_true h2
 ·rw[if_neg (by rw[hc];exact Bool.false_ne_true)] at h2;simp only[Bool.or_eq_true,dTe,List.any_eq_true,bAt,List.all_eq_true] at h2;exact h2
theorem Cert.mv {i:Nat}{s:Sn}(hi:K[i]?=some s)(hc:clC s=false)(P:List Sn->Prop):(∃m∈mvF j s,P m.2.2)↔∃ps∈(lk[i]?).getD [],P (ps.map λn=>(K[n]?).getD ([],[])):=by
 have h1:=(h.at_ hi).2 hc;rw[<- vQa] at h1;constructor
 ·rintro⟨m,hm,hp⟩;have:m.2.2∈(mvF j s).map (λm=>m.2.2):=List.mem_map_of_mem hm;rw[h1] at this;obtain⟨ps,h2,h3⟩:=List.mem_map.1 this;exact⟨ps,h2,h3▸hp⟩
 ·rintro⟨ps,h2,hp⟩;have:(ps.map λn=>(K[n]?).getD ([],[]))∈(mvF j s).map (λm=>m.2.2):=by rw[h1];exact List.mem_map_of_mem h2
  obtain⟨m,hm,he⟩:=List.mem_map.1 this;exact⟨m,hm,he▸hp⟩
theorem Cert.up:∀(x i:Nat)(s:Sn),K[i]?=some s->at0 hs i=x->0<x->HtS j x s:=by
 intro x
 induction x using Nat.strongRecOn with
 | ind x ih =>
  intro i s hi hx h0;have hlt:=(lGs hi).1;obtain⟨_,n1,n2⟩:=h.num_ hlt;obtain⟨y,rfl⟩:∃y,x=y+1:=⟨x-1,by omega⟩
  rw[zW9];cases hc:clC s with
  | true=>exact .inl ((zGo s).1 hc)
  | false =>
   refine .inr ((h.mv hi hc λl=>∀p∈l,HtS j y p).2 ?_);obtain⟨n3,n4⟩:=n2 (by rw[(h.at_ hi).1];exact hc);rcases n3 with n3|⟨ps,h1,h2⟩
   ·omega
   ·refine⟨ps,h1,λp hp=>?_⟩;obtain⟨n,hn,rfl⟩:=List.mem_map.1 hp;have hnl:=(n4 ps h1).1 n hn;obtain⟨a,b⟩:=h2 n hn;rw[List.getElem?_eq_getElem hnl,Option.getD_some];have:=ih (at0 hs n) (by omega) n _ (List.getElem?_eq_getElem hnl) rfl a;exact this.up (by omega)
theorem Cert.lo:∀(n i:Nat)(s:Sn),K[i]?=some s->HtS j n s->0<at0 hs i/\at0 hs i<=n
 | 0,_,_,_,hh=>hh.elim
 | n+1,i,s,hi,hh=>by
  have hlt:=(lGs hi).1;obtain⟨_,n1,n2⟩:=h.num_ hlt;have hcl:=(h.at_ hi).1;cases hc:clC s with
  | true =>
   have:=n1 (by rw[hcl];exact hc);omega
  | false =>
   obtain⟨_,n4⟩:=n2 (by rw[hcl];exact hc);rw[zW9] at hh;rcases hh with hh|hh
   ·rw[<- zGo,hc] at hh;cases hh
   ·obtain⟨ps,h1,h2⟩:=(h.mv hi hc λl=>∀p∈l,HtS j n p).1 hh;obtain⟨n5,n6⟩:=n4 ps h1;have hp:∀p∈ps,0<at0 hs p/\at0 hs p<=n:=λp hp=>by
     have:=h2 _ (List.mem_map_of_mem hp);rw[List.getElem?_eq_getElem (n5 p hp),Option.getD_some] at this;exact Cert.lo n p _ (List.getElem?_eq_getElem (n5 p hp)) this
    rcases n6 with⟨p,hpm,h0⟩|⟨h0,p,hpm,hle⟩
    ·have:=(hp p hpm).1;omega
    ·have:=(hp p hpm).2;exact⟨h0,by omega⟩
theorem Cert.hF {i:Nat}{s:Sn}(hi:K[i]?=some s):Tryz.hF j s=at0 hs i :=
 wWg (λh0=>h.up _ i s hi rfl h0) λn hn=>h.lo n i s hi hn
theorem Cert.reach {s0:Sn}(h0:K[0]?=some s0):ReachOk j s0 K:=by
 have hr:∀(i:Nat) (s:Sn),K[i]?=some s->Rch j s0 s:=by
  intro i
  induction i using Nat.strongRecOn with
  | ind i ih =>
   intro s hi;have hlt:=(lGs hi).1;rcases (h.num_ hlt).1 with rfl|⟨k,hk,hck,ps,hps,him⟩
   ·rw[h0] at hi;cases hi;exact .refl
   ·obtain⟨sk,hsk⟩:=yQ2 (l:=K) (k:=k) (by omega);have hc:clC sk=false:=by rw[<- (h.at_ hsk).1];exact hck
    obtain⟨m,hm,hmp⟩:=(h.mv hsk hc λl=>s∈l).2 ⟨ps,hps,List.mem_map.2 ⟨i,him,by rw[hi];rfl⟩⟩;exact .step (ih k hk sk hsk) (λhx=>by rw[<- zGo,hc] at hx;cases hx) hm hmp
 refine⟨h.nd,λs=>⟨λhs=>?_,λhs=>?_⟩,λs hs hc=>?_,h.len⟩
 ·obtain⟨i,hi,rfl⟩:=List.mem_iff_getElem.1 hs;exact hr i _ (List.getElem?_eq_getElem hi)
 ·induction hs with
  | refl=>exact lMg h0
  | @step s _ hc m hm p hp ih =>
   obtain⟨i,hi,rfl⟩:=List.mem_iff_getElem.1 ih;have hc':clC K[i]=false:=by
    cases hq:clC K[i] with
    | false=>rfl
    | true=>exact absurd ((zGo _).1 hq) hc
   obtain⟨ps,hps,hpm⟩:=(h.mv (List.getElem?_eq_getElem hi) hc' λl=>p∈l).1 ⟨m,hm,hp⟩;obtain⟨n,hn,rfl⟩:=List.mem_map.1 hpm;have hnl:=(((h.num_ hi).2.2 (by rw[(h.at_ (List.getElem?_eq_getElem hi)).1];exact hc')).2 ps hps).1 n hn;rw[List.getElem?_eq_getElem hnl];exact List.getElem_mem hnl
 ·rintro⟨f,r,hf,t,ht,p,hp,hl⟩;have h1:=xVn ht p hp;have h2:=List.all_eq_true.1 h.short s hs;simp only[bAt,dTe] at h2;unfold tooL at hl;split at hl<;>omega
end
