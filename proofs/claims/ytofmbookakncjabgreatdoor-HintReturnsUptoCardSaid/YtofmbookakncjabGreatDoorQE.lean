/- How heights are settled in a graph of mo -/
import Derived.Test.YtofmbookakncjabGreatDoorQD
set_option linter.all false
open Nat renaming reduceEqDiff → zE,reduceBEq → zB,reduceAdd → zA,reduceMul → zM,reduceLeDiff → zL
namespace Go.Proofs.Tryz
open Go Go.Iv
abbrev Lk:=Nat×Nat×List Nat
abbrev Us:=Nat×Nat
def lkAt (links:List (List Lk))(u:Us):List Nat:=(((links[u.1]?).getD [])[u.2]?).elim [] λk=>k.2.2
def htG (cl:Nat->Prop)(links:List (List Lk)):Nat->Nat->Prop
 | 0,_=>False
 | k+1,i=>cl i\/∃lk∈(links[i]?).getD [],∀p∈lk.2.2,htG cl links k p
def sd {cl:Nat->Prop}{links:List (List Lk)}:∀ {k m i:Nat},htG cl links k i->k<=m->htG cl links m i
 | 0,_,_,h,_=>h.elim
 | k+1,0,_,_,A=>absurd A (by omega)
 | k+1,m+1,i,h,A=>h.imp id λ⟨lk,h1,h2⟩=>⟨lk,h1,λp hp=>sd (h2 p hp) (by omega)⟩
def LstG (cl:Nat->Prop)(links:List (List Lk))(i h:Nat):Prop:=(0<h->htG cl links h i)/\∀k,htG cl links k i->0<h/\h<=k
def decW (ws:List (List Nat))(u:Us):List (List Nat):=ws.modify u.1 λl=>l.modify u.2 λx=>(x+255)%256
def atW (ws:List (List Nat))(u:Us):Option Nat:=((ws[u.1]?).getD [])[u.2]?
def se (ws:List (List Nat))(u v:Us):atW (decW ws u) v=if u=v then (atW ws v).map λx=>(x+255)%256 else atW ws v:=by
 unfold atW decW;rw[List.getElem?_modify];obtain⟨a,b⟩:=u;obtain⟨c,d⟩:=v;simp only[Prod.mk.injEq];by_cases h1:a=c
 ·subst h1;cases A:ws[a]? with
  | none=>simp
  | some l =>
   simp only[el,fz,true_and];by_cases h2:b=d
   ·subst h2;simp
   ·simp[h2]
 ·simp[h1]
abbrev Ss:=List Nat×List (List Nat)×List Nat
def iA (H:Nat)(S:Ss)(u:Us):Ss :=
 if atW (decW S.2.1 u) u=some 0/\S.1[u.1]?=some 0 then (S.1.set u.1 H,decW S.2.1 u,S.2.2++[u.1]) else (S.1,decW S.2.1 u,S.2.2)
def usAt (us:List (List Us))(p:Nat):List Us:=(us[p]?).getD []
inductive Sett (us:List (List Us)):Nat->List Nat->List (List Nat)->List Nat->List Nat->Prop
 | done (H:Nat) (hs:List Nat) (ws:List (List Nat)):Sett us H hs ws [] hs
 | more {H:Nat} {hs r now:List Nat} {ws:List (List Nat)} (hn:now≠[])
   (h:Sett us (H+1) ((now.flatMap (usAt us)).foldl (iA H) (hs,ws,[])).1 ((now.flatMap (usAt us)).foldl (iA H) (hs,ws,[])).2.1 ((now.flatMap (usAt us)).foldl (iA H) (hs,ws,[])).2.2 r):Sett us H hs ws now r
section
variable (H:Nat)(h0:List Nat)(rem:Us->Nat)
structure Part (U1:List Us)(S:Ss):Prop where
 len:S.1.length=h0.length
 ws:∀u x,atW S.2.1 u=some x->x+U1.count u=rem u
 new:∀i,S.1[i]?=some H↔h0[i]?=some 0/\∃k,(i,k)∈U1/\atW S.2.1 (i,k)=some 0
 old:∀i x,x≠H->(S.1[i]?=some x↔h0[i]?=some x/\¬ (x=0/\∃k,(i,k)∈U1/\atW S.2.1 (i,k)=some 0))
 nx:∀i,i∈S.2.2↔S.1[i]?=some H
 nd:S.2.2.Nodup
variable {H h0 rem}
def Part.step {U1:List Us}{S:Ss}{u:Us}(D:Part H h0 rem U1 S)(hH:0<H)(az:∀i:Nat,h0[i]?≠some H)(ag:∀v,rem v<=2)(hc:(U1++[u]).count u<=rem u)(hu:∃x,atW S.2.1 u=some x):Part H h0 rem (U1++[u]) (iA H S u):=by
 obtain⟨x,hx⟩:=hu;have au:=D.ws u x hx;have aA:(U1++[u]).count u=U1.count u+1:=by simp
 have aw:0<x:=by omega
 have av:=ag u;have hd:atW (decW S.2.1 u) u=some (x-1):=by
  rw[se,c_ rfl,hx,fK];congr 1;omega
 have ab:∀v,u≠v->atW (decW S.2.1 u) v=atW S.2.1 v:=λv h=>by rw[se,a_ h]
 -- an aj no ah
 have hz:∀i,(∃k,(i,k)∈U1++[u]/\atW (decW S.2.1 u) (i,k)=some 0)↔(∃k,(i,k)∈U1/\atW S.2.1 (i,k)=some 0)\/(i=u.1/\x=1):=by
  intro i;constructor
  ·rintro⟨k,h1,h2⟩;by_cases O:u=(i,k)
   ·subst O;rw[hd] at h2;exact .inr ⟨rfl,by simp at h2;omega⟩
   ·rw[ab _ O] at h2;rcases eQ.1 h1 with h1|h1
    ·exact .inl ⟨k,h1,h2⟩
    ·exact absurd (eY.1 h1).symm O
  ·rintro (⟨k,h1,h2⟩|⟨rfl,rfl⟩)
   ·refine⟨k,jH _ h1,?_⟩;by_cases O:u=(i,k)
    ·subst O;rw[hx] at h2;simp at h2;omega
    ·rw[ab _ O];exact h2
   ·exact⟨u.2,jI _ (eY.2 rfl),hd⟩
 have ae:∀v y,atW (decW S.2.1 u) v=some y->y+(U1++[u]).count v=rem v:=λv y U=>by
  by_cases O:u=v
  ·subst O;rw[hd] at U;simp at U;omega
  ·rw[ab _ O] at U;have:=D.ws v y U;rw[kr,show[u].count v=0 by simp[O]];exact this
 have ac:(0:Nat)≠H:=by omega
 unfold iA;by_cases A:atW (decW S.2.1 u) u=some 0/\S.1[u.1]?=some 0
 ·rw[c_ A];have aa:x=1:=by rw[hd] at A;simp at A;omega
  obtain⟨af,ay⟩:=(D.old u.1 0 ac).1 A.2;have am:u.1<S.1.length:=(lGs A.2).1;have J:∀i,(S.1.set u.1 H)[i]?=if u.1=i then some H else S.1[i]?:=λi=>by
   rw[iD];simp only[am,el]
  refine⟨by simp[D.len],ae,λi=>?_,λi y U=>?_,λi=>?_,?_⟩
  ·simp only[J,hz];by_cases G:u.1=i
   ·subst G;simp[af,aa]
   ·rw[a_ G,D.new i];constructor
    ·rintro⟨a,b⟩;exact⟨a,.inl b⟩
    ·rintro⟨a,b|⟨b,_⟩⟩
     ·exact⟨a,b⟩
     ·exact absurd b.symm G
  ·simp only[J,hz];by_cases G:u.1=i
   ·subst G;rw[c_ rfl];constructor
    ·intro h;exact absurd (fA h).symm U
    ·rintro⟨a,b⟩;rw[af] at a;exact absurd ⟨(fA a).symm,.inr ⟨rfl,aa⟩⟩ b
   ·rw[a_ G,D.old i y U];constructor
    ·rintro⟨a,b⟩;refine⟨a,λ⟨c,d⟩=>b ⟨c,?_⟩⟩;rcases d with d|⟨d,_⟩
     ·exact d
     ·exact absurd d.symm G
    ·rintro⟨a,b⟩;exact⟨a,λ⟨c,d⟩=>b ⟨c,.inl d⟩⟩
  ·simp only[J];rw[eQ,eY,D.nx i];by_cases G:u.1=i
   ·subst G;simp
   ·rw[a_ G];exact⟨λh=>h.elim id λh=>absurd h.symm G,.inl⟩
  ·refine mu.2 ⟨D.nd,jo.2 ⟨by simp,kE⟩,λa ha b hb=>?_⟩;rintro rfl;rw[eY] at hb;rw[D.nx,hb,A.2] at ha;exact ac (fA ha)
 ·rw[a_ A];have E:∀i,h0[i]?=some 0->i=u.1->x=1->∃k,(i,k)∈U1/\atW S.2.1 (i,k)=some 0:=by
   intro i h0 G aa;subst G;refine jW λal=>A ⟨by rw[hd,aa],?_⟩;exact (D.old u.1 0 ac).2 ⟨h0,λh=>al h.2⟩
  refine⟨D.len,ae,λi=>?_,λi y U=>?_,D.nx,D.nd⟩
  ·simp only[hz];rw[D.new i];constructor
   ·rintro⟨a,b⟩;exact⟨a,.inl b⟩
   ·rintro⟨a,b|⟨b,c⟩⟩
    ·exact⟨a,b⟩
    ·exact⟨a,E i a b c⟩
  ·simp only[hz];rw[D.old i y U];constructor
   ·rintro⟨a,b⟩;refine⟨a,λ⟨c,d⟩=>b ⟨c,?_⟩⟩;rcases d with d|⟨d,e⟩
    ·exact d
    ·exact E i (c▸a) d e
   ·rintro⟨a,b⟩;exact⟨a,λ⟨c,d⟩=>b ⟨c,.inl d⟩⟩
def Part.all (J:0<H)(D:∀i:Nat,h0[i]?≠some H)(A:∀v,rem v<=2):∀(U2 U1:List Us) (S:Ss),Part H h0 rem U1 S->(∀v,(U1++U2).count v<=rem v)->(∀u∈U2,∃x,atW S.2.1 u=some x)->Part H h0 rem (U1++U2) (U2.foldl (iA H) S)
 | [],U1,S,E,_,_=>by simpa using E
 | u::U2,U1,S,E,hc,G=>by
  have h1:=E.step (u:=u) J D A (by have:=hc u;rw[kr,List.count_cons_self] at this;rw[kr];simp;omega) (G u (.head _));have U:∀v,(atW (iA H S u).2.1 v).isSome=(atW S.2.1 v).isSome:=λv=>by
   have:(iA H S u).2.1=decW S.2.1 u:=by unfold iA;split<;>rfl
   rw[this,se];split<;>simp
  have:=Part.all J D A U2 (U1++[u]) _ h1 (λ(v:Us)=>by simpa[fD] using hc v) λv hv=>by
   obtain⟨x,O⟩:=G v (.tail _ hv);exact jx.1 ((U v).trans (by rw[O];rfl))
  simpa[fD] using this
end
section
variable (cl:Nat->Prop)(links:List (List Lk))(us:List (List Us))
open Classical in
noncomputable def wt (k:Nat)(u:Us):Nat:=((lkAt links u).filter λp=>decide (¬ htG cl links k p)).length
structure Rnd (H:Nat)(hs:List Nat)(ws:List (List Nat))(now:List Nat):Prop where
 len:hs.length=links.length
 ww:∀u x,atW ws u=some x->x=wt cl links (H-2) u
 wd:∀u,lkAt links u≠[]->∃x,atW ws u=some x
 ht:∀i x,hs[i]?=some x->(0<x->htG cl links x i/\x<=H-1)/\∀k,k<=H-1->htG cl links k i->0<x/\x<=k
 nw:∀i,i∈now↔hs[i]?=some (H-1)
 nd:now.Nodup
variable {cl links us}
def HP {u:Us}(D:∀p,(usAt us p).count u=(lkAt links u).count p):∀ {A:List Nat},A.Nodup->(A.flatMap (usAt us)).count u=((lkAt links u).filter λp=>decide (p∈A)).length
 | [],_=>by simp[List.filter_eq_nil_iff.2]
 | a::A,h=>by
  have h1:=jo.1 h;rw[fE,kr,D,HP D h1.2];generalize lkAt links u=l
  induction l with
  | nil=>rfl
  | cons b l E =>
   simp only[kv,List.count_cons,eK];by_cases G:b=a
   ·subst G;simp[h1.1];simp at E;omega
   ·by_cases J:b∈A
    ·simp[G,J];simp at E;omega
    ·simp[G,J];simp at E;omega
open Classical in
def HQ {α:Type}{p q r:α->Bool}(h1:∀x,p x=true↔q x=true\/r x=true)(h2:∀x,¬ (q x=true/\r x=true)):∀l:List α,(l.filter p).length=(l.filter q).length+(l.filter r).length
 | []=>rfl
 | a::l=>by
  have A:=HQ h1 h2 l;have J:=h1 a;have G:=h2 a;simp only[kv];cases hp:p a<;>cases E:q a<;>cases D:r a<;>simp_all<;>omega
def HR {i:Nat}{lk:Lk}(h:lk∈(links[i]?).getD []):∃k,lkAt links (i,k)=lk.2.2:=by
 obtain⟨k,A⟩:=mq.1 h;exact⟨k,by simp only[lkAt,A];rfl⟩
def PU {i k:Nat}(h:lkAt links (i,k)≠[]):∃lk∈(links[i]?).getD [],lk.2.2=lkAt links (i,k):=by
 unfold lkAt at h ⊢;cases A:((links[i]?).getD [])[k]? with
 | none=>simp[A] at h
 | some lk=>exact⟨lk,lMg A,by simp[]⟩
def xJ8 {k:Nat}{u:Us}:wt cl links k u=0↔∀p∈lkAt links u,htG cl links k p:=by
 unfold wt;rw[mn,List.filter_eq_nil_iff];simp
def PV (k:Nat){u:Us}(h:(lkAt links u).length<=2):wt cl links k u<=2:=eM (kB _ _) h
open Classical in
def Rnd.next {H:Nat}{hs:List Nat}{ws:List (List Nat)}{A:List Nat}(J:Rnd cl links H hs ws A)(hH:2<=H)(ay:∀p u,(usAt us p).count u=(lkAt links u).count p)(h2:∀u,(lkAt links u).length<=2)(aC:∀u,∀p∈lkAt links u,p<links.length) :
  Rnd cl links (H+1) ((A.flatMap (usAt us)).foldl (iA H) (hs,ws,[])).1 ((A.flatMap (usAt us)).foldl (iA H) (hs,ws,[])).2.1 ((A.flatMap (usAt us)).foldl (iA H) (hs,ws,[])).2.2:=by
 have aD:∀i,i∈A->htG cl links (H-1) i/\¬ htG cl links (H-2) i:=λi hi=>by
  have h:=J.ht i _ ((J.nw i).1 hi);exact⟨(h.1 (by omega)).1,λh'=>by have:=(h.2 (H-2) (by omega) h').2;omega⟩
 have ao:∀i,i<links.length->htG cl links (H-1) i->¬ htG cl links (H-2) i->i∈A:=λi hi h1 E=>by
  obtain⟨x,G⟩:=ed (l:=hs) (J.len▸hi);have h:=J.ht i x G;obtain⟨h4,h5⟩:=h.2 (H-1) (eu _) h1;have h6:¬ x<=H-2:=λh6=>E (sd (h.1 h4).1 h6);exact (J.nw i).2 (by rw[G];congr 1;omega)
 have aj:∀i:Nat,hs[i]?≠some H:=λi hi=>by
  have:=((J.ht i H hi).1 (by omega)).2;omega
 have D:∀u,wt cl links (H-2) u=wt cl links (H-1) u+(A.flatMap (usAt us)).count u:=λu=>by
  rw[HP (λp=>ay p u) J.nd];unfold wt;have e:(lkAt links u).filter (λp=>decide (p∈A))=(lkAt links u).filter λp=>decide (htG cl links (H-1) p/\¬ htG cl links (H-2) p):=by
   refine List.filter_congr λp hp=>?_;rw[gM];exact⟨aD p,λh=>ao p (aC u p hp) h.1 h.2⟩
  rw[e];refine HQ (λp=>?_) (λp=>?_) _
  ·simp only[dTe];constructor
   ·intro h;by_cases h1:htG cl links (H-1) p
    ·exact .inr ⟨h1,h⟩
    ·exact .inl h1
   ·rintro (h|h)
    ·exact λh'=>h (sd h' (by omega))
    ·exact h.2
  ·simp only[dTe];exact λh=>h.1 h.2.1
 have aE:Part H hs (wt cl links (H-2)) [] (hs,ws,[]):=by
  refine⟨rfl,λu x G=>by rw[J.ww u x G];rfl,λi=>?_,λi x G=>?_,λi=>?_,kE⟩
  ·simp[aj i]
  ·simp
  ·simp[aj i]
 have U:∀u∈A.flatMap (usAt us),lkAt links u≠[]:=λu hu h0=>by
  have:=mh.2 hu;have E:=D u;unfold wt at E;rw[h0] at E;simp at E;omega
 have hP:=Part.all (by omega) aj (λv=>PV _ (h2 v)) (A.flatMap (usAt us)) [] _ aE (λv=>by rw[f_];have:=D v;omega) λu hu=>J.wd u (U u hu);rw[f_] at hP;have O:∀(l:List Us) (S:Ss) v,(atW (l.foldl (iA H) S).2.1 v).isSome=(atW S.2.1 v).isSome:=λl=>by
  induction l with
  | nil=>intro S v;rfl
  | cons u l ih =>
   intro S v;rw[kA,ih];have:(iA H S u).2.1=decW S.2.1 u:=by unfold iA;split<;>rfl
   rw[this,se];split<;>simp
 -- aL ax aI aH for am
 have ah:∀i k,(i,k)∈A.flatMap (usAt us)->atW ((A.flatMap (usAt us)).foldl (iA H) (hs,ws,[])).2.1 (i,k)=some 0->htG cl links H i:=λi k hu hz=>by
  have E:=hP.ws _ _ hz;have h4:=D (i,k);have h5:=xJ8.1 (show wt cl links (H-1) (i,k)=0 by omega);obtain⟨lk,ac,he⟩:=PU (U _ hu);obtain⟨n,hn⟩:∃n,H=n+1:=⟨H-1,by omega⟩
  rw[hn] at h5 ⊢;exact .inr ⟨lk,ac,λp hp=>h5 p (he▸hp)⟩
 have ak:∀i,htG cl links H i->¬ htG cl links (H-1) i->∃k,(i,k)∈A.flatMap (usAt us)/\atW ((A.flatMap (usAt us)).foldl (iA H) (hs,ws,[])).2.1 (i,k)=some 0:=λi E h4=>by
  obtain⟨n,hn⟩:∃n,H=n+2:=⟨H-2,by omega⟩
  have av:H-1=n+1:=by omega
  have aF:H-2=n:=by omega
  rw[av] at h4;rw[hn] at E;rcases E with E|⟨lk,ac,E⟩
  ·exact absurd (.inl E) h4
  ·obtain⟨k,hk⟩:=HR ac;have h5:wt cl links (H-1) (i,k)=0:=xJ8.2 λp hp=>by rw[hk] at hp;rw[av];exact E p hp
   have h6:wt cl links (H-2) (i,k)≠0:=λh6=>h4 (.inr ⟨lk,ac,λp hp=>by
    have:=xJ8.1 h6 p (by rw[hk];exact hp)
    rwa [aF] at this⟩)
   have h7:=D (i,k);have af:(i,k)∈A.flatMap (usAt us):=mh.1 (by omega);refine⟨k,af,?_⟩;obtain⟨x,G⟩:=J.wd _ (U _ af);have h8:=O (A.flatMap (usAt us)) (hs,ws,[]) (i,k);rw[G] at h8;obtain⟨y,hy⟩:=jx.1 h8;have:=hP.ws _ _ hy;rw[hy];congr 1;omega
 refine⟨hP.len.trans J.len,λu x G=>?_,λu hu=>?_,λi x G=>?_,λi=>?_,hP.nd⟩
 ·have:=hP.ws u x G;have:=D u;rw[show H+1-2=H-1 by omega];omega
 ·obtain⟨x,G⟩:=J.wd u hu;have h8:=O (A.flatMap (usAt us)) (hs,ws,[]) u;rw[G] at h8;exact jx.1 h8
 ·rw[show H+1-1=H by omega];by_cases an:x=H
  ·subst an;obtain⟨E,k,h4,h5⟩:=(hP.new i).1 G;refine⟨λ_=>⟨ah i k h4 h5,eu _⟩,λm hm hh=>⟨by omega,?_⟩⟩;refine jW λaS=>?_;have:=((J.ht i 0 E).2 m (by omega) hh).1;omega
  ·obtain⟨E,h4⟩:=(hP.old i x an).1 G;obtain⟨h5,h6⟩:=J.ht i x E;refine⟨λh0=>⟨(h5 h0).1,by have:=(h5 h0).2;omega⟩,λm hm hh=>?_⟩;by_cases h7:htG cl links (H-1) i
   ·have h8:=h6 (H-1) (eu _) h7;by_cases aA:m<=H-1
    ·exact h6 m aA hh
    ·exact⟨h8.1,by omega⟩
   ·have aB:m=H:=by
     refine jW λaO=>h7 (sd hh (by omega))
    subst aB;have h9:x=0:=by
     rcases mw x with h|h
     ·exact h
     ·exact absurd (sd (h5 h).1 (h5 h).2) h7
    exact absurd ⟨h9,ak i hh h7⟩ h4
 ·rw[show H+1-1=H by omega];exact hP.nx i
def Sett.right {H:Nat}{hs r E:List Nat}{ws:List (List Nat)}(h:Sett us H hs ws E r)(D:Rnd cl links H hs ws E)(hH:2<=H)(ae:∀p u,(usAt us p).count u=(lkAt links u).count p)(h2:∀u,(lkAt links u).length<=2)(O:∀u,∀p∈lkAt links u,p<links.length) :
  r.length=links.length/\∀i x,r[i]?=some x->LstG cl links i x:=by
 induction h with
 | more hn _ ih=>exact ih (D.next hH ae h2 O) (by omega)
 | done H hs ws =>
  refine⟨D.len,λi x G=>?_⟩;have A:∀i,i<links.length->htG cl links (H-1) i->htG cl links (H-2) i:=λi U h1=>by
   obtain⟨x,G⟩:=ed (l:=hs) (D.len▸U);obtain⟨h3,h4⟩:=D.ht i x G;have h5:=h4 (H-1) (eu _) h1;have h6:x≠H-1:=λh6=>by
    have:=(D.nw i).2 (by rw[G,h6]);cases this
   exact sd (h3 h5.1).1 (by omega)
  have aa:∀k i,i<links.length->htG cl links k i->htG cl links (H-2) i:=λk=>by
   induction k with
   | zero=>intro i _ h;exact h.elim
   | succ k ih =>
    intro i U h;refine A i U ?_;obtain⟨n,hn⟩:∃n,H=n+2:=⟨H-2,by omega⟩
    rw[hn,show n+2-2=n by omega] at ih;rw[hn];rcases h with h|⟨lk,J,h⟩
    ·exact .inl h
    ·refine .inr ⟨lk,J,λp hp=>ih p ?_ (h p hp)⟩;obtain⟨q,hq⟩:=HR J;exact O (i,q) p (by rw[hq];exact hp)
  have U:i<links.length:=by rw[<- D.len];exact (lGs G).1
  obtain⟨h3,h4⟩:=D.ht i x G;refine⟨λh0=>(h3 h0).1,λk hk=>?_⟩;by_cases ag:k<=H-1
  ·exact h4 k ag hk
  ·have h5:=h4 (H-2) (by omega) (aa k i U hk);exact⟨h5.1,by omega⟩
end
end Go.Proofs.Tryz
namespace Go.Proofs.Tryz
open Go Go.Iv
set_option maxRecDepth 4000
variable (gl:Nat->Option IV)
def xi:intK prog 21=some .i32:=by kernel_rfl
def IsLk (k:Lk)(x:IV):Prop:=∃p q:Nat,x=.agg [.raw (.int .u8 (k.1:Int)),.raw (.int .u8 (k.2.2.length:Int)),.raw (.int .i32 (k.2.1:Int)),.raw (.int .i32 (p:Int)),.raw (.int .i32 (q:Int))]/\k.2.2=[p,q].take k.2.2.length
def xj (l:List Lk)(x:IV):Prop:=∃t ys,x=.sl t ys/\okEs t 5/\AllR IsLk l ys
def numE (lines:List Ln):List (Value×IV):=lines.zipIdx.map λp=>(.string (keyB p.1),.raw (.int .i32 (p.2:Int)))
def oD (ln:Ln):Prop:=((∀i∈ln.1,i<16777216)/\∀i∈ln.2,i<16777216)/\ln.1.length<256
structure RS (ca m:Nat)(W:List Fm)(tw:Tag)(xw:List IV)(rb mN:Nat)(S0 st:ISt)(lines:List Ln)(links:List (List Lk)):Prop where
 ex:∃tl xl tk xk,st rb=some (.box [spI ca tw xw m,.sl tl xl,.raw (.map (some mN)),.sl tk xk,.sl ⟨true,.nil,0⟩ []])/\AllR IsLn lines xl/\own st tl lines.length 2 S0/\AllR xj links xk/\own st tk links.length 1 S0
 num:st mN=some (.map .str (numE lines))
 sp:SpSt ca m W st
 base:subSt S0 st
 off:S0 rb=none/\S0 mN=none/\S0 m=none
 ok:∀ln∈lines,oD ln
 nd:lines.Nodup
def PW (rb mN m:Nat)(st st':ISt):Prop:=∀b o,st b=some o->b≠rb->b≠mN->b≠m->(∀n,o≠.front n 2)->st' b=some o
def PX (lines:List Ln)(ln:Ln):numE (lines++[ln])=numE lines++[(.string (keyB ln),.raw (.int .i32 (lines.length:Int)))]:=by
 simp[numE,List.zipIdx_append]
def HS (lines:List Ln):(numE lines).map (·.1)=lines.map λln=>Value.string (keyB ln):=by
 unfold numE;rw[jn]
 conv=>rhs;rw[<- List.zipIdx_map_fst 0 lines,jn]
 rfl
def PY {lines:List Ln}{n:Nat}{ln:Ln}(h:lines[n]?=some ln):(numE lines)[n]?=some (.string (keyB ln),.raw (.int .i32 (n:Int))):=by
 unfold numE;rw[fH,List.getElem?_zipIdx,h];simp
def HT {a b:Ln}(D:oD a)(A:oD b)(h:keyB a=keyB b):a=b:=PM D.1 A.1 ⟨D.2,A.2⟩ h
def PZ {lines:List Ln}(h:∀ln∈lines,oD ln)(D:lines.Nodup):((numE lines).map (·.1)).Nodup:=by
 rw[HS];refine lp.2 (List.Pairwise.imp_of_mem (λ{a b} J G A E=>A (HT (h a J) (h b G) ?_)) D);exact Value.string.inj E
def HU (lines:List Ln):∀p∈numE lines,gK .str p.1=true:=λp hp=>by
 obtain⟨q,_,rfl⟩:=eh.1 hp;rfl
def P0 {lines:List Ln}(h:∀ln∈lines,oD ln)(A:lines.Nodup){n:Nat}{ln:Ln}(hl:lines[n]?=some ln):hZ (.string (keyB ln)) (numE lines)=some (.raw (.int .i32 (n:Int))):=by
 obtain⟨x,h1,h2,_⟩:=yT (kk:=.str) (key:=.string (keyB ln)) rfl .junk (numE lines) n (HU lines) (PZ h A) (by rw[HS,fH,hl];rfl);rw[PY hl] at h1;rw[h2];exact eZ some (Prod.mk.inj (fA h1)).2.symm
def P1 {lines:List Ln}{ln:Ln}(h:∀ln∈lines,oD ln)(G:oD ln)(D:ln ∉ lines):hZ (.string (keyB ln)) (numE lines)=none/\updI (.string (keyB ln)) (.raw (.int .i32 (lines.length:Int))) (numE lines)=numE (lines++[ln]):=by
 rw[PX];refine yS (kk:=.str) rfl _ _ (HU lines) λp hp J=>D ?_;obtain⟨q,A,rfl⟩:=eh.1 hp;have E:q.1∈lines:=by
  have:=ir (f:=Prod.fst) A
  rwa [List.zipIdx_map_fst] at this
 rwa [<- HT (h _ E) G (Value.string.inj J)]
def HV (ca m:Nat)(W:List Fm)(tw:Tag)(xw:List IV)(rb mN:Nat)(S0 st:ISt)(lines:List Ln)(links:List (List Lk))(E:RS ca m W tw xw rb mN S0 st lines links)(ln:Ln)(hk:oD ln)(aI:ln.2.length<256)(x:IV)(hx:IsLn ln x)(hll:lines.length<=20000) :
  ICall prog gl 66 [.raw (.pointer (some ⟨rb,0,none⟩)),x] st (λr st' =>
   (∃n:Nat,lines[n]?=some ln/\r=.tup [.raw (.int .i32 (n:Int)),(0:Int)]/\st'=st) \/
   (ln ∉ lines/\((20000<=lines.length/\r=.tup [.raw (.int .i32 0),(4:Int)]/\st'=st) \/
    (lines.length<20000/\r=.tup [.raw (.int .i32 (lines.length:Int)),(0:Int)]/\RS ca m W tw xw rb mN S0 st' (lines++[ln]) links/\PW rb mN m st st')))):=by
 have am:=λst=>PL gl ln x hx ⟨by have:=hk.2;omega,by omega⟩ st;obtain⟨t1,t2,rfl,e1,e2⟩:=id hx;obtain⟨tl,xl,tk,xk,aa,ah,ax,av,ay⟩:=E.ex;refine ICall.intro (c:=cf prog gl [39,2000042] []) func66 rfl (by show _<=52;simp) (by kernel_rfl) ?_;simp only[go_sem,zE,zA,zL];refine (am _).q ?_;by_cases hm:ln∈lines
 ·obtain⟨n,hn⟩:=mq.1 hm;have hf:=P0 E.ok E.nd hn;simp only[go_sem,zE,reduceCtorEq,aa,E.num,hf,yr];exact dw (.inl ⟨n,hn,rfl,rfl⟩)
 ·obtain⟨hf,hu⟩:=P1 E.ok hk hm;have aB:=λn:Int=>nc prog 3 21 np xi .i64 n;have O:=ah.1;by_cases aA:20000<=lines.length
  ·simp only[go_sem,zE,reduceCtorEq,aa,E.num,hf,vd,O,dEt (show (20000:Int)<=lines.length by omega)];intros;exact dw (.inr ⟨hm,.inl ⟨aA,rfl,rfl⟩⟩)
  ·have hw:IntKind.i32.wrap (lines.length:Int)=(lines.length:Int):=IntWalk.i32_in _ (by omega);simp only[go_sem,zE,zA,zM,zL,reduceCtorEq,aa,E.num,hf,vd,fits,O,dEf (show ¬ (20000:Int)<=lines.length by omega),aB,hw,fg];intros;refine je ax O E.base rfl (by simp[fits,IV.one]) (by simp only;omega) (by omega) λag af ai aC D=>?_;have J:=D rb _ aa λn h=>by cases h
   have A:=D mN _ E.num λn h=>by cases h
   obtain⟨es,aq,ao⟩:=E.sp;have U:=D m _ aq λn h=>by cases h
   have ac:mN≠rb:=by rintro rfl;rw[J] at A;cases A
   have ak:m≠rb:=by rintro rfl;rw[J] at U;cases U
   have aj:m≠mN:=by rintro rfl;rw[A] at U;cases U
   simp only[go_sem,zE,zA,zL,reduceCtorEq,J,dZ ac,A,hu];have G:∀b o,af b=some o->b≠rb->b≠mN->((af.put rb (some (.box [spI ca tw xw m,.sl ag (xl++[.agg [.sl t1 (eJ ln.1),.sl t2 (eJ ln.2)]]),.raw (.map (some mN)),.sl tk xk,()]))).put mN (some (.map .str (numE (lines++[ln]))))) b=some o:=λb o h h1 h2=>by
    rw[dZ h2,dZ h1];exact h
   have ab:∀g n k,af g=some (.front n k)->g≠rb/\g≠mN:=λg n k h=>⟨λh1=>(by rw[h1,J] at h;cases h),λh1=>(by rw[h1,A] at h;cases h)⟩
   refine dw (.inr ⟨hm,.inr ⟨by omega,rfl,⟨⟨ag,_,tk,xk,?_,ah.snoc hx,?_,av,?_⟩,b_ ..,⟨es,G m _ U ak aj,ao⟩,fM (fM aC E.off.1) E.off.2.1,E.off,?_,?_⟩,λb o h h1 h2 h3 h4=>G b o (D b o h h4) h1 h2⟩⟩)
   ·rw[dZ λh=>ac h.symm,b_]
   ·rw[lLa];exact ai.mono λg hg _=>G g _ hg (ab g _ _ hg).1 (ab g _ _ hg).2
   ·exact ay.mono λg hg _=>by
     have h2:=D g _ hg λn h=>by cases h
     exact G g _ h2 (ab g _ _ h2).1 (ab g _ _ h2).2
   ·intro a ha;rcases eQ.1 ha with ha|ha
    ·exact E.ok a ha
    ·rw[eY.1 ha];exact hk
   ·refine mu.2 ⟨E.nd,jo.2 ⟨by simp,kE⟩,λa ha b hb aD=>?_⟩;rw[eY] at hb;rw[aD,hb] at ha;exact hm ha
def _root_.Go.Iv.IterU.of {P:Program}{gl:Nat->Option IV}{g:FuncId}{first A:List IV}{lk:Nat->List IV->ISt->Prop}{len:Nat}{I J:Nat->ISt->Prop}{up:Nat->List (Value×IV)->List (Value×IV)->Prop}(h:IterU P gl g first A lk len I up)(D:∀k st,J k st->I k st):IterU P gl g first A lk len J up :=
 λy I' S' st U hI G E h0=>h y I' S' st U (λk stu O=>by obtain⟨s,h1,h2⟩:=hI k stu O;exact⟨s,h1,D k s h2⟩) G E h0
def LkOf (lines:List Ln)(v:Mv)(k:Lk):Prop:=k.1=v.1/\k.2.1=v.2.1/\k.2.2.length=v.2.2.length/\∀(q n:Nat),k.2.2[q]?=some n->∃p,lines[n]?=some p/\v.2.2[q]?=some p
def LkOf.app {lines more:List Ln}{v:Mv}{k:Lk}(h:LkOf lines v k):LkOf (lines++more) v k :=
 ⟨h.1,h.2.1,h.2.2.1,λq n A=>by
  obtain⟨p,h1,h2⟩:=h.2.2.2 q n A;exact⟨p,by rw[gw (lGs h1).1];exact h1,h2⟩⟩
def LksOf (lines:List Ln)(vs:List Mv)(l:List Lk):Prop:=l.length=vs.length/\∀(i:Nat) (v:Mv),vs[i]?=some v->∃k,l[i]?=some k/\LkOf lines v k
def LksOf.app {lines more:List Ln}{vs:List Mv}{l:List Lk}(h:LksOf lines vs l):LksOf (lines++more) vs l:=⟨h.1,λi v hv=>by
 obtain⟨k,h1,h2⟩:=h.2 i v hv;exact⟨k,h1,h2.app⟩⟩
def LksOf.snoc {lines:List Ln}{vs:List Mv}{l:List Lk}{v:Mv}{k:Lk}(h:LksOf lines vs l)(G:LkOf lines v k):LksOf lines (vs++[v]) (l++[k]):=by
 refine⟨by simp[h.1],λi b A=>?_⟩;rcases gO i vs.length with E|E
 ·rw[gw E] at A;rw[gw (by rw[h.1];exact E)];exact h.2 i b A
 ·rw[gD E] at A;rw[gD (by rw[h.1];exact E),h.1];cases D:i-vs.length with
  | zero=>rw[D] at A;cases A;exact⟨k,rfl,G⟩
  | succ n=>rw[D] at A;simp at A
def la (W:List Fm)(j:Bool)(ln p:Ln):Prop:=∃v:Mv,some v∈mvsN W j ln/\p∈v.2.2
def P2 {j:Bool}{ln:Ln}{i:Nat}{t:Tn}{v:Mv}(h:mvN j ln i t=some v):v=(t.1,i,t.2.map (k8 j ln))/\t.2.any (tooN j ln)=false:=by
 unfold mvN at h;cases A:t.2.any (tooN j ln)
 ·rw[A] at h;simp at h;exact⟨h.symm,rfl⟩
 ·rw[A] at h;simp at h
def xm {ca:Nat}{W:List Fm}(hS:SpOk ca W){ln:Ln}(aa:LnOk W ln){v:Mv}(h:some v∈mvsN W (calJ ca) ln):v.2.1<W.length/\v.1<256/\v.2.2.length<=2/\∀p∈v.2.2,LnOk W p/\p.1.length<=64/\p.2.length<=64:=by
 obtain⟨⟨i,r⟩,hp,h⟩:=gJ.1 h;unfold jU at h;cases O:W[i]? with
 | none=>simp only[O] at h;cases h
 | some f =>
  simp only[O] at h;obtain⟨t,ht,h⟩:=eh.1 h;obtain⟨t0,G,rfl⟩:=eh.1 ht;obtain⟨rfl,E⟩:=P2 h;have J:=lMg O;refine⟨(lGs O).1,?_,by rw[eP,eP];exact BF G,λp hp=>?_⟩
  ·have:t0.1∈ke (calJ ca) f.op r:=by rw[<- wY (hS.pf J) r];exact ir G
   unfold ke at this;have key:∀l:List Nat,t0.1∈l->(∀x∈l,x<256)->t0.1<256:=λl h1 h2=>h2 _ h1;refine key _ this ?_
   repeat' split
   all_goals simp
  ·obtain⟨e,he,rfl⟩:=eh.1 hp;obtain⟨A,U,rfl⟩:=eh.1 he;refine⟨Hj aa (hS.sub J G U),?_⟩;have D:tooN (calJ ca) ln (exW W A)=false:=by
    cases hq:tooN (calJ ca) ln (exW W A) with
    | false=>rfl
    | true=>rw[il.2 ⟨_,he,hq⟩] at E;cases E
   unfold tooN at D;rw[Bool.or_eq_false_iff,decide_eq_false_iff_not,decide_eq_false_iff_not] at D;have h1:=uO (ln.1++(exW W A).1.1);have h2:=uO (rgtN (calJ ca) ln (exW W A)++(exW W A).1.2);rw[lLa] at h1 h2;have h3:(exW W A).1.1.length<=(exW W A).2.1:=sc W A.1;have h4:(exW W A).1.2.length<=(exW W A).2.2:=sc W A.2;unfold k8;simp only;omega
def HW {W:List Fm}(D:W.length<=1000000){ln:Ln}(h:LnOk W ln)(hs:ln.1.length<=64/\ln.2.length<=64):oD ln/\ln.2.length<256:=by
 exact⟨⟨⟨λi A=>by have:=h.1.2 i A;omega,λi A=>by have:=h.2.2 i A;omega⟩,by omega⟩,by omega⟩
def RS.upm {ca m:Nat}{W:List Fm}{tw:Tag}{xw:List IV}{rb mN:Nat}{S0 st:ISt}{lines:List Ln}{links:List (List Lk)}(h:RS ca m W tw xw rb mN S0 st lines links){kk:KeyK}{es D:List (Value×IV)}(hm:st m=some (.map kk es))(hu:CacheOk ca W es->CacheOk ca W D) :
  RS ca m W tw xw rb mN S0 (st.put m (some (.map kk D))) lines links:=by
 obtain⟨tl,xl,tk,xk,G,O,aa,U,ab⟩:=h.ex;obtain⟨ag,A,ac⟩:=h.sp;rw[A] at hm;cases hm;have h1:rb≠m:=by rintro rfl;rw[G] at A;cases A
 have h2:mN≠m:=by rintro rfl;rw[h.num] at A;cases A
 have J:∀g n k,st g=some (.front n k)->(st.put m (some (.map .pl D))) g=some (.front n k):=λg n k E=>by
  rw[dZ λe=>by rw[e,A] at E;cases E];exact E
 exact⟨⟨tl,xl,tk,xk,by rw[dZ h1];exact G,O,aa.mono λg E _=>J g _ _ E,U,ab.mono λg E _=>J g _ _ E⟩,by rw[dZ h2];exact h.num,⟨D,b_ ..,hu ac⟩,fM h.base h.off.2.2,h.off,h.ok,h.nd⟩
def RS.elsewhere {ca m:Nat}{W:List Fm}{tw:Tag}{xw:List IV}{rb mN:Nat}{S0 st st':ISt}{lines:List Ln}{links:List (List Lk)}(h:RS ca m W tw xw rb mN S0 st lines links)(hb:subSt S0 st')
  (A:∀b o,st b=some o->b=rb\/b=mN\/b=m\/(∃n,o=.front n 2)\/(∃n,o=.front n 1)->st' b=some o):RS ca m W tw xw rb mN S0 st' lines links:=by
 obtain⟨tl,xl,tk,xk,G,D,J,E,O⟩:=h.ex;obtain⟨ac,aa,ab⟩:=h.sp;exact⟨⟨tl,xl,tk,xk,A _ _ G (.inl rfl),D,J.mono λg U _=>A g _ U (.inr (.inr (.inr (.inl ⟨_,rfl⟩)))),E,O.mono λg U _=>A g _ U (.inr (.inr (.inr (.inr ⟨_,rfl⟩))))⟩,A _ _ h.num (.inr (.inl rfl)),⟨ac,A _ _ aa (.inr (.inr (.inl rfl))),ab⟩,hb,h.off,h.ok,h.nd⟩
def BM {ca:Nat}{W:List Fm}(hS:SpOk ca W)(E:W.length<=200000){ln:Ln}(A:LnOk W ln):(mvsN W (calJ ca) ln).length<=16000000:=by
 have h1:=pz A.1.1 A.1.2;have h2:=pz A.2.1 A.2.2;have J:∀p,(jU W (calJ ca) ln p).length<=2:=λp=>by
  unfold jU;cases D:W[p.1]? with
  | none=>simp
  | some f =>
   simp only[eP,ij];rw[<- eP (f:=(·.1)),wY (hS.pf (lMg D))];unfold ke
   repeat' split
   all_goals simp
 have G:∀l:List (Nat×Bool),(l.flatMap (jU W (calJ ca) ln)).length<=2*l.length:=λl=>by
  induction l with
  | nil=>simp
  | cons a l O=>rw[fE,lLa,fa];have:=J a;omega
 have:=G (plcs ln);rw[uR] at this;unfold mvsN;omega
def oE:tyI prog 21=some (false,1):=by kernel_rfl
def addP:List Ln->List Ln->Option (List Ln)
 | [],ls=>some ls
 | p::ps,ls=>if p∈ls then addP ps ls else if ls.length<20000 then addP ps (ls++[p]) else none
def expF:List (Option Mv)->List Ln->List Ln×Nat
 | [],ls=>(ls,0)
 | none::_,ls=>(ls,5)
 | some v::l,ls=>match addP v.2.2 ls with
  | none=>(ls,4)
  | some A=>expF l A
def HX:∀ {l:List (Option Mv)}{k:Nat}{o:Option Mv},(cutO l)[k]?=some o->l[k]?=some o/\l.take k=(cutO l).take k
 | [],_,_,h=>by simp[cutO] at h
 | none::l,k,o,h=>by
  cases k with
  | zero=>exact⟨h,rfl⟩
  | succ k=>simp[cutO] at h
 | some v::l,k,o,h=>by
  cases k with
  | zero=>exact⟨h,rfl⟩
  | succ k =>
   simp only[cutO,i_] at h;obtain⟨h1,h2⟩:=HX h;exact⟨h1,by simp only[cutO,lv,h2]⟩
def HY {l:List (Option Mv)}{k:Nat}{o:Option Mv}{vs:List Mv}{ls A:List Ln}(h:(cutO l)[k]?=some o)(h1:(cutO l).take k=vs.map some)(h2:∀D,expF (vs.map some++D) ls=expF D A):expF l ls=expF (o::l.drop (k+1)) A:=by
 obtain⟨a,b⟩:=HX h;have hl:vs.map some++o::l.drop (k+1)=l:=by
  have E:=lGs a;rw[<- h1,<- b,<- E.2,<- gB E.1,fh]
 rw[<- h2,hl]
def ExpR (ca m:Nat)(W:List Fm)(tw:Tag)(xw:List IV)(rb mN:Nat)(S0:ISt)(lines:List Ln)(links:List (List Lk))(ln:Ln)(r:IV)(st':ISt):Prop :=
 (∃t ys L vs more,r=.tup [.sl t ys,(0:Int)]/\okEs t 5/\AllR IsLk L ys/\mvsN W (calJ ca) ln=vs.map some/\LksOf (lines++more) vs L/\(∀p∈more,la W (calJ ca) ln p)/\(lines++more).length<=20000/\RS ca m W tw xw rb mN S0 st' (lines++more) links/\expF (mvsN W (calJ ca) ln) lines=(lines++more,0)) \/
 (r=.tup [(),(5:Int)]/\none∈mvsN W (calJ ca) ln/\subSt S0 st'/\(expF (mvsN W (calJ ca) ln) lines).2=5) \/
 (r=.tup [(),(4:Int)]/\subSt S0 st'/\(expF (mvsN W (calJ ca) ln) lines).2=4/\∃more p,(∀q∈more,la W (calJ ca) ln q)/\la W (calJ ca) ln p/\p ∉ lines++more/\(lines++more).Nodup/\20000<=(lines++more).length)
def P3 (G:Gl gl)(T:Gt gl)(ca m:Nat)(W:List Fm)(hS:SpOk ca W)(bh:W.length<=200000)(tw:Tag)(xw:List IV)(bH:okEs tw 4)(bD:IsFms W xw)(rb mN:Nat)(S0 st:ISt)(lines:List Ln)(links:List (List Lk))(hR:RS ca m W tw xw rb mN S0 st lines links)(hll:lines.length<=20000)
  (i:Nat) (ln:Ln) (hi:lines[i]?=some ln) (aF:LnOk W ln) :
  ICall prog gl 69 [.raw (.pointer (some ⟨rb,0,none⟩)),(i:Int)] st (ExpR ca m W tw xw rb mN S0 lines links ln):=by
 obtain⟨tl,xl,tk,xk,a8,bF,bK,cj,co⟩:=hR.ex;obtain⟨x,bG,hx⟩:=bF.2 i ln hi;have cr:i<lines.length:=(lGs hi).1;have bL:=λst=>HL gl m (spI ca tw xw m) x _ rfl ln hx st;have bN:=HO gl G T ca m W hS bh tw xw bH bD ln aF x hx;obtain⟨t1,t2,rfl,e1,e2⟩:=id hx;refine ICall.intro (c:=cf prog gl [4,5,6,17,21] [] [2]) func69 rfl (by show _<=68;simp) (by kernel_rfl) ?_;simp only[go_sem,zE,zB,zA,fits];refine λb4=>fc λh4=>λb5=>fc λh5=>λb6=>fc λh6=>?_;have J:b5≠b4:=by rintro rfl;rw[b_] at h5;cases h5
 have aC:b6≠b4:=by rintro rfl;rw[dZ (λh=>J h.symm),b_] at h6;cases h6
 have aB:b6≠b5:=by rintro rfl;rw[b_] at h6;cases h6
 have aI:st b5=none:=by rw[dZ J] at h5;exact h5
 have aH:st b6=none:=by rw[dZ aB,dZ aC] at h6;exact h6
 obtain⟨al,O⟩:∃s,s=((st.put b4 (some (.box [()]))).put b5 (some (.box [(0:Int)]))).put b6 (some (.box [()])):=⟨_,rfl⟩
 have hA:∀b o,st b=some o->al b=some o:=λb o h=>by
  rw[O,dZ (λe=>by rw[e,aH] at h;cases h),dZ (λe=>by rw[e,aI] at h;cases h),dZ (λe=>by rw[e,h4] at h;cases h)];exact h
 have bX:al b4=some (.box [()]):=by rw[O,dZ (λh=>aC h.symm),dZ (λh=>J h.symm),b_]
 have bW:al b5=some (.box [(0:Int)]):=by rw[O,dZ (λh=>aB h.symm),b_]
 have bV:al b6=some (.box [()]):=by rw[O,b_]
 have bT:=hR.elsewhere (st':=al) (λb o h=>hA b o (hR.base b o h)) λb o h _=>hA b o h;rw[<- O];have aA:∀ {b:Nat},st b=none->b≠rb/\b≠mN/\b≠m:=λ{b} h=>by
  obtain⟨es,he,_⟩:=hR.sp;exact⟨λe=>(by rw[e,a8] at h;cases h),λe=>(by rw[e,hR.num] at h;cases h),λe=>(by rw[e,he] at h;cases h)⟩
 have k4:=aA h4;have k5:=aA aI;have k6:=aA aH;have z4:=kX hR.base h4;have z5:=kX hR.base aI;have z6:=kX hR.base aH;simp only[go_sem,zA,hA _ _ a8,ec bK.es,iNn,bG];refine (bL _).q ?_;simp only[go_sem,reduceCtorEq];have bg:∀ {l:List (Option Mv)} {o:Option Mv},o∈cutO l->o∈l:=λ{l}=>by
  induction l with
  | nil=>intro o h;exact h
  | cons a l ih =>
   intro o h;cases a with
   | none=>simp only[cutO,eY] at h;rw[h];exact .head _
   | some a =>
    simp only[cutO] at h;rcases eK.1 h with h|h
    ·rw[h];exact .head _
    ·exact .tail _ (ih h)
 let EI:Nat->ISt->Prop:=λk s=>∃more vs L t6 ys,(cutO (mvsN W (calJ ca) ln)).take k=vs.map some/\RS ca m W tw xw rb mN S0 s (lines++more) links/\(∀p∈more,la W (calJ ca) ln p)/\(lines++more).length<=20000/\LksOf (lines++more) vs L/\AllR IsLk L ys /\
  s b4=some (.box [()])/\s b5=some (.box [(0:Int)])/\s b6=some (.box [.sl t6 ys])/\own s t6 L.length 5 S0/\∀l,expF (vs.map some++l) lines=expF l (lines++more)
 let ES:Exit->ISt->Prop:=λe s=>e=.ret/\s b4=some (.box [()])/\subSt S0 s/\((s b5=some (.box [(5:Int)])/\none∈mvsN W (calJ ca) ln/\(expF (mvsN W (calJ ca) ln) lines).2=5) \/
  (s b5=some (.box [(4:Int)])/\(expF (mvsN W (calJ ca) ln) lines).2=4/\∃more p,(∀q∈more,la W (calJ ca) ln q)/\la W (calJ ca) ln p/\p ∉ lines++more/\(lines++more).Nodup/\20000<=(lines++more).length))
 refine RangeU.intro (mvX W (calJ ca) ln) (cutO (mvsN W (calJ ca) ln)).length EI ES (SpUp ca m W) ?_ (by simp only[go_sem]) ?_ ?_ ?_ (bN.of λk s ⟨_,_,_,_,_,_,h,_⟩=>h.sp) ?_ ?_
 ·rintro k s m' kk es bZ ⟨more,vs,L,t6,ys,q1,q2,q3,q4,q5,q6,q7,q8,q9,D,aa⟩ hm ⟨rfl,hu⟩;refine⟨more,vs,L,t6,ys,q1,q2.upm hm hu,q3,q4,q5,q6,by rw[dZ k4.2.2];exact q7,by rw[dZ k5.2.2];exact q8,by rw[dZ k6.2.2];exact q9,D.mono λg hg _=>?_,aa⟩;rw[dZ λe=>by rw[e,hm] at hg;cases hg];exact hg
 ·rintro k a ⟨o,_,ho⟩;cases o with
  | none=>rw[show a=_ from ho];rfl
  | some v=>obtain⟨x,rfl,_⟩:=ho;rfl
 ·refine⟨[],[],[],_,_,rfl,by rw[fL];exact bT,λ_ h=>(by cases h),by rw[fL];exact hll,⟨rfl,λi v h=>(by simp at h)⟩,AllR.nil,bX,bW,bV,own.nil _ _ _ _ _,λl=>by rw[fL];rfl⟩
 ·rintro k a s ⟨o,E,ho⟩ ⟨more,vs,L,t6,ys,q1,q2,q3,q4,q5,q6,q7,q8,q9,D,aa⟩;cases o with
  | none =>
   obtain rfl:a=_:=ho;simp only[go_sem,zE,zA,zL,show decide ((5:Int)=0)=false from rfl,q7,dZ J,q8];exact⟨rfl,by rw[dZ (λh=>J h.symm),b_],fM (fM q2.base z4) z5,.inl ⟨b_ ..,bg (lMg E),by rw[HY E q1 aa];rfl⟩⟩
  | some v =>
   obtain⟨xv,rfl,tv,zv,rfl,bI,a1⟩:=ho;have a7:=bg (lMg E);obtain⟨g1,g2,g3,g4⟩:=xm hS aF a7;have bQ:=λn:Int=>nc prog 3 21 np xi .i64 n;have hw:IntKind.i32.wrap (v.2.1:Int)=(v.2.1:Int):=IntWalk.i32_in _ (by omega);simp only[go_sem,zE,zA,zL,fits,d_,bQ,hw];intro _;rw[a1.1];refine dC v.2.2.length (λq fr st' ds=>(∃(A:List Ln) (p0 p1:Nat) (aq:List Nat),fr 9=.box [.raw (.int .u8 (v.1:Int)),.raw (.int .u8 (q:Int)),.raw (.int .i32 (v.2.1:Int)),.raw (.int .i32 (p0:Int)),.raw (.int .i32 (p1:Int))]/\aq=[p0,p1].take q /\
     RS ca m W tw xw rb mN S0 st' (lines++(more++A)) links/\(∀p∈more++A,la W (calJ ca) ln p)/\(lines++(more++A)).length<=20000/\(∀(r n:Nat),aq[r]?=some n->∃p,(lines++(more++A))[n]?=some p/\v.2.2[r]?=some p)/\∀ps,addP (v.2.2.take q++ps) (lines++more)=addP ps (lines++(more++A))) /\
    st' b4=some (.box [()])/\st' b5=some (.box [(0:Int)])/\st' b6=some (.box [.sl t6 ys])/\own st' t6 L.length 5 S0 /\
    fr 2=.iv (.cptr (.raw (.pointer (some ⟨rb,0,none⟩))))/\fr 4=.iv (.raw (.pointer (some ⟨b4,0,none⟩)))/\fr 5=.iv (.raw (.pointer (some ⟨b5,0,none⟩)))/\fr 6=.iv (.raw (.pointer (some ⟨b6,0,none⟩))) /\
    fr 38=.iv (.sl tv zv)/\fr 39=.iv (.raw (.int .i64 v.2.2.length))/\fr 40=(q:Int)/\ds=[]) ?_ ?_ ?_
   ·simp only[go_sem,zE];exact⟨⟨[],0,0,[],rfl,rfl,by rw[fL];exact q2,by rw[fL];exact q3,by rw[fL];exact q4,λr n h=>by simp at h,λps=>by rw[fL]⟩,q7,q8,q9,D,rfl⟩
   ·rintro q fr s1 _ hq ⟨⟨A,p0,p1,aq,f9,rfl,r2,r3,r4,r5,r6⟩,q7,q8,q9,D,f2,f4,f5,f6,f38,f39,f40,rfl⟩;obtain⟨p,hp⟩:=ed hq;have bb:=lMg hp;obtain⟨g5,g6⟩:=g4 p bb;have bj:la W (calJ ca) ln p:=⟨v,a7,bb⟩
    obtain⟨zq,bB,a6⟩:=a1.2 q p hp;obtain⟨bA,bx⟩:=HW (by omega) g5 g6;have bP:=HV gl ca m W tw xw rb mN S0 s1 _ links r2 p bA bx zq a6 r4;obtain⟨ta,tb,rfl,ea,eb⟩:=a6;have r7:∀ps,addP (v.2.2.take (q+1)++ps) (lines++more)=addP (p::ps) (lines++(more++A)):=λps=>by rw[en hp,fD,r6];rfl
    have ba:q=0\/q=1:=by omega
    have av:∀ {n:Nat} {ao:List Ln},(lines++(more++ao))[n]?=some p->(∀(k:Nat) (a:Ln),(lines++(more++A))[k]?=some a->(lines++(more++ao))[k]?=some a)->∀(r n':Nat),([p0,p1].take q++[n])[r]?=some n'->∃p,(lines++(more++ao))[n']?=some p/\v.2.2[r]?=some p:=λ{n ao} hn ah r n' h=>by
     have U:([p0,p1].take q).length=q:=by rw[eO];simp only[fa,fb];omega
     rcases gO r q with hr|hr
     ·rw[gw (by omega)] at h;obtain⟨a,bS,bR⟩:=r5 r n' h;exact⟨a,ah _ _ bS,bR⟩
     ·rw[gD (by omega),U] at h;have bJ:r-q=0:=by
       rcases mw (r-q) with h0|h0
       ·exact h0
       ·rw[mj (by simp only[fa,fb];omega)] at h;cases h
      rw[bJ] at h;cases h;obtain rfl:r=q:=by omega
      exact⟨p,hn,hp⟩
    simp only[go_sem,zE,zB,zA,zL,f2,f38,f39,f40,lt_i hq,ec bI,iNn,bB,fits];refine bP.mono ?_;rintro _ s2 (⟨n,hn,rfl,rfl⟩|⟨aE,⟨bO,rfl,rfl⟩|⟨be,rfl,bU,au⟩⟩)
    ·have r8:=λps=>(r7 ps).trans (c_ (lMg hn));rcases ba with rfl|rfl
     ·simp only[go_sem,zE,zA,zM,zL,f2,f4,f5,f6,f9,f38,f39,f40,d_,iNn,show (0<2)=True from fU (by decide),oE,show IntKind.u8.wrap (((0:Nat):Int)+1)=((1:Nat):Int) from rfl,show IntKind.i64.wrap (((0:Nat):Int)+1)=((1:Nat):Int) from rfl];exact⟨⟨A,n,p1,[n],rfl,rfl,r2,r3,r4,av hn (λ_ _ h=>h),r8⟩,q7,q8,q9,D⟩
     ·simp only[go_sem,zE,zA,zM,zL,f2,f4,f5,f6,f9,f38,f39,f40,d_,iNn,show (1<2)=True from fU (by decide),oE,show IntKind.u8.wrap (((1:Nat):Int)+1)=((2:Nat):Int) from rfl,show IntKind.i64.wrap (((1:Nat):Int)+1)=((2:Nat):Int) from rfl];exact⟨⟨A,p0,n,[p0,n],rfl,rfl,r2,r3,r4,av hn (λ_ _ h=>h),r8⟩,q7,q8,q9,D⟩
    ·simp only[go_sem,zE,zL,f4,f5,show decide ((4:Int)=0)=false from rfl,q7,dZ J,q8];refine⟨rfl,by rw[dZ (λh=>J h.symm),b_],fM (fM r2.base z4) z5,.inr ⟨b_ ..,?_,more++A,p,r3,bj,aE,r2.nd,bO⟩⟩;have r9:addP v.2.2 (lines++more)=none:=by
      have:=r7 (v.2.2.drop (q+1));rw[fh] at this;rw[this];exact (a_ aE).trans (a_ (by omega))
     rw[HY E q1 aa];simp only[expF,r9]
    ·have bf:(lines++(more++(A++[p])))[(lines++(more++A)).length]?=some p:=by
      rw[<- fD more,<- fD lines,gD (eu _),gg];rfl
     have ah:∀(k:Nat) (a:Ln),(lines++(more++A))[k]?=some a->(lines++(more++(A++[p])))[k]?=some a:=λk a h=>by
      rw[<- fD more,<- fD lines,gw (lGs h).1];exact h
     have bi:RS ca m W tw xw rb mN S0 s2 (lines++(more++(A++[p]))) links:=by
      rw[<- fD more,<- fD lines];exact bU
     have bk:∀x∈more++(A++[p]),la W (calJ ca) ln x:=λx hx=>by
      rw[<- fD] at hx;rcases eQ.1 hx with hx|hx
      ·exact r3 x hx
      ·rw[eY.1 hx];exact bj
     have bl:(lines++(more++(A++[p]))).length<=20000:=by
      rw[<- fD more,<- fD lines,lLa];simp only[fa,fb];omega
     have r8:∀ps,addP (v.2.2.take (q+1)++ps) (lines++more)=addP ps (lines++(more++(A++[p]))):=λps=>by
      rw[r7,show lines++(more++(A++[p]))=lines++(more++A)++[p] by simp only[fD]];exact (a_ aE).trans (c_ be)
     have v4:=au b4 _ q7 k4.1 k4.2.1 k4.2.2 λn h=>by cases h
     have v5:=au b5 _ q8 k5.1 k5.2.1 k5.2.2 λn h=>by cases h
     have v6:=au b6 _ q9 k6.1 k6.2.1 k6.2.2 λn h=>by cases h
     have aS:own s2 t6 L.length 5 S0:=D.mono λg hg _=>by
      obtain⟨cg,cc,ch,cd,w1,_⟩:=r2.ex;obtain⟨bZ,w2,_⟩:=r2.sp;exact au g _ hg (λe=>by rw[e,w1] at hg;cases hg) (λe=>by rw[e,r2.num] at hg;cases hg) (λe=>by rw[e,w2] at hg;cases hg) λn h=>by cases h
     rcases ba with rfl|rfl
     ·simp only[go_sem,zE,zA,zM,zL,f2,f4,f5,f6,f9,f38,f39,f40,d_,iNn,show (0<2)=True from fU (by decide),oE,show IntKind.u8.wrap (((0:Nat):Int)+1)=((1:Nat):Int) from rfl,show IntKind.i64.wrap (((0:Nat):Int)+1)=((1:Nat):Int) from rfl];exact⟨⟨A++[p],_,p1,[_],rfl,rfl,bi,bk,bl,av bf ah,r8⟩,v4,v5,v6,aS⟩
     ·simp only[go_sem,zE,zA,zM,zL,f2,f4,f5,f6,f9,f38,f39,f40,d_,iNn,show (1<2)=True from fU (by decide),oE,show IntKind.u8.wrap (((1:Nat):Int)+1)=((2:Nat):Int) from rfl,show IntKind.i64.wrap (((1:Nat):Int)+1)=((2:Nat):Int) from rfl];exact⟨⟨A++[p],p0,_,[p0,_],rfl,rfl,bi,bk,bl,av bf ah,r8⟩,v4,v5,v6,aS⟩
   ·rintro fr s1 _ ⟨⟨A,p0,p1,aq,f9,rfl,r2,r3,r4,r5,r6⟩,q7,q8,q9,D,f2,f4,f5,f6,f38,f39,f40,rfl⟩;have U:([p0,p1].take v.2.2.length).length=v.2.2.length:=by rw[eO];simp only[fa,fb];omega
    have bC:ys.length=L.length:=q6.1;have cu:(cutO (mvsN W (calJ ca) ln)).length<=16000000:=by
     have h1:∀l:List (Option Mv),(cutO l).length<=l.length:=λl=>by
      induction l with
      | nil=>exact eu _
      | cons a l ih =>
       cases a with
       | none=>simp[cutO]
       | some a=>simp only[cutO,fa];omega
     exact eM (h1 _) (BM hS bh aF)
    have cv:L.length=k:=by
     have h1:=eZ List.length q1;rw[eO,eP] at h1;have h2:=(lGs E).1;rw[q5.1];omega
    have cq:=(lGs E).1;simp only[go_sem,zE,zA,zM,zL,f6,f9,f39,f40,eI (nLi _),q9,fits,fg];refine je D bC r2.base rfl (by simp[fits,IV.one]) (by simp only;omega) (by omega) λaT s2 w1 w2 w3=>?_;have v4:=w3 b4 _ q7 λn h=>by cases h
    have v5:=w3 b5 _ q8 λn h=>by cases h
    have v6:=w3 b6 _ q9 λn h=>by cases h
    simp only[go_sem,zE,zL,f6,v6];have aG:∀b o,s1 b=some o->b≠b6->(∀n,o≠.front n 5)->(s2.put b6 (some (.box [.sl aT (ys++[.agg [.raw (.int .u8 (v.1:Int)),.raw (.int .u8 (v.2.2.length:Int)),.raw (.int .i32 (v.2.1:Int)),.raw (.int .i32 (p0:Int)),.raw (.int .i32 (p1:Int))]])]))) b=some o:=λb o h h1 h2=>by
     rw[dZ h1];exact w3 b o h h2
    refine⟨more++A,vs++[v],L++[(v.1,v.2.1,[p0,p1].take v.2.2.length)],aT,_,?_,r2.elsewhere (fM w2 z6) λb o h ai=>aG b o h ?_ ?_,r3,r4,LksOf.snoc ?_ ⟨rfl,rfl,U,r5⟩,q6.snoc ⟨p0,p1,by rw[U],by rw[U]⟩,?_,?_,b_ ..,?_,?_⟩
    ·rw[en E,q1,fS];rfl
    ·rintro rfl;rcases ai with h1|h1|h1|⟨n,h1⟩|⟨n,h1⟩
     ·exact k6.1 h1
     ·exact k6.2.1 h1
     ·exact k6.2.2 h1
     ·rw[q9] at h;rw[h1] at h;cases h
     ·rw[q9] at h;rw[h1] at h;cases h
    ·rintro n rfl;rcases ai with h1|h1|h1|⟨n,h1⟩|⟨n,h1⟩
     ·obtain⟨_,_,_,_,e,_⟩:=r2.ex;rw[h1,e] at h;cases h
     ·rw[h1,r2.num] at h;cases h
     ·obtain⟨_,e,_⟩:=r2.sp;rw[h1,e] at h;cases h
     ·cases h1
     ·cases h1
    ·rw[<- fD];exact q5.app
    ·rw[dZ λh=>aC h.symm];exact v4
    ·rw[dZ λh=>aB h.symm];exact v5
    ·rw[lLa];refine w1.mono λg hg _=>?_;rw[dZ λe=>by rw[e,v6] at hg;cases hg];exact hg
    ·have r9:=r6 [];rw[lTl,fL] at r9;intro l;rw[fS,fD,aa];show expF (some v::l) _=_;simp only[expF,r9,addP]
 ·rintro s rr ⟨more,vs,L,t6,ys,q1,q2,q3,q4,q5,q6,q7,q8,q9,D,aa⟩;rw[lTl] at q1;have ax:mvsN W (calJ ca) ln=vs.map some:=by
   have h1:∀l:List (Option Mv),none ∉ cutO l->cutO l=l:=λl=>by
    induction l with
    | nil=>intro _;rfl
    | cons a l ih =>
     intro h;cases a with
     | none=>exact absurd (.head _) h
     | some a=>simp only[cutO] at h ⊢;rw[ih λh'=>h (.tail _ h')]
   rw[<- q1,h1];rw[q1];simp
  simp only[go_sem,zE,zL,q9,q7,q8,dZ J,dZ (λh=>J h.symm)];refine dw (.inl ⟨t6,ys,L,vs,more,rfl,D.es,q6,ax,q5,q3,q4,q2.elsewhere (fM (fM q2.base z4) z5) λb o h ai=>?_,by have:=aa [];rw[fL,<- ax] at this;exact this⟩);have hb:∀b',(b'≠rb/\b'≠mN/\b'≠m)->(∃c,s b'=some (.box c))->b≠b':=by
   rintro b' hk ⟨c,hc⟩ rfl;rcases ai with h1|h1|h1|⟨n,h1⟩|⟨n,h1⟩
   ·exact hk.1 h1
   ·exact hk.2.1 h1
   ·exact hk.2.2 h1
   ·rw[hc,h1] at h;cases h
   ·rw[hc,h1] at h;cases h
  rw[dZ (hb b5 k5 ⟨_,q8⟩),dZ (hb b4 k4 ⟨_,q7⟩)];exact h
 ·rintro e s rr ⟨rfl,w1,w2,ai⟩;rcases ai with⟨w3,w4,w5⟩|⟨w3,w5,w4⟩
  ·simp only[go_sem,zE,w1,w3];exact dw (.inr (.inl ⟨rfl,w4,w2,w5⟩))
  ·simp only[go_sem,zE,w1,w3];exact dw (.inr (.inr ⟨rfl,w2,w5,w4⟩))
def P4 (a b:Fm)(x y:IV)(D:IsFm a x)(A:IsFm b y)(st:ISt):ICall prog gl 113 [x,y] st (λr st'=>r=(decide (fO a b=0):Bool)/\st'=st):=by
 have hc:=wM gl a b x y D A st;cases a with
 | mk o1 n1 u1 s1 =>
 cases b with
 | mk o2 n2 U s2 =>
 obtain⟨t1,O,t2,J,rfl,_⟩:=D.mk;obtain⟨t3,G,t4,E,rfl,_⟩:=A.mk;refine iI func113 ?_;simp only[go_sem,zE,zA,zL];refine hc.mono ?_;rintro _ st ⟨rfl,rfl⟩;simp only[go_sem];exact dw ⟨rfl,rfl⟩
def P5 {st:ISt}{m b A D:Nat}{M S x y F0 F:Option IObj}(h1:st m=none)(h2:(st.put m M) b=none)(G:((st.put m M).put b S) A=none)(E:(((((st.put m M).put b S).put A x).put A y).put A none) D=none)(hM:M≠none)(hS:S≠none) :
  D≠b/\D≠m/\b≠m/\st D=none/\st b=none/\((((((st.put m M).put b S).put A x).put A y).put A none).put D F0).put D F=((st.put m M).put D F).put b S:=by
 have e1:b≠m:=by rintro rfl;rw[b_] at h2;exact hM h2
 rw[dZ e1] at h2;have e2:A≠b:=by rintro rfl;rw[b_] at G;exact hS G
 rw[dZ e2] at G;have U:A≠m:=by rintro rfl;rw[b_] at G;exact hM G
 rw[dZ U] at G;have hst:((((st.put m M).put b S).put A x).put A y).put A none=(st.put m M).put b S:=by
  funext c;simp only[ISt.put_apply];by_cases e:c=A
  ·rw[c_ e,e,a_ e2,a_ U,G]
  ·rw[a_ e,a_ e,a_ e]
 rw[hst] at E ⊢;have J:D≠b:=by rintro rfl;rw[b_] at E;exact hS E
 rw[dZ J] at E;have O:D≠m:=by rintro rfl;rw[b_] at E;exact hM E
 rw[dZ O] at E;refine⟨J,O,e1,E,h2,?_⟩;rw[fW];funext c;simp only[ISt.put_apply];by_cases e:c=D
 ·rw[c_ e,e,a_ J,c_ rfl]
 ·rw[a_ e,a_ e]
def P6 (f:Fm):1<=(cloF f).length:=by
 cases f with
 | mk o n us sub =>
  rw[cloF,lLa];have:=HF (.mk o n us sub);omega
def BN:∀l:List Fm,l.length<=(gn l).length
 | []=>eu _
 | a::l=>by
  rw[gn,lLa,fa];have h1:=P6 a;have h2:=BN l;omega
def HZ:∀(a:List Fm)(k:Nat),(gn (a.take k)).length<=(gn a).length
 | [],k=>by simp
 | c::a,0=>by simp[gn]
 | c::a,k+1=>by
  simp only[lv,gn,lLa];have:=HZ a k;omega
def P7 {cs Z:List IV}{k:Nat}(h:cs.take k=Z):cs=Z++cs.drop k:=by rw[<- h,fh]
def H0 {st S s1:ISt}{m b ca:Nat}{W:List Fm}{y:IV}{t:Tag}{z:List IV}(G:st m=none)(h0:∀c o,(st.put m (some (.map .pl []))) c=some o->S c=some o)(h1:∀c o,s1 c=some o->S c=some o/\(st.put m (some (.map .pl []))) c=none)
  (J:s1 b=some (.box [.raw (.int .u8 (ca:Int)),y,.raw (.map (some m))])) (E:OI s1 y (.sl t z)) (ht:okEs t 4) (D:IsFms W z) :
  ∃x s1 s0,LendOk S s1 s0/\OI s1 (ptr b) x/\∃m tw xw,st m=none/\okEs tw 4/\IsFms W xw/\age x=spI ca tw xw m/\s0=st.put m (some (.map .pl [])):=by
 refine⟨.cptr (.agg [.raw (.int .u8 (ca:Int)),.sl t z,.raw (.map (some m))]),s1,_,⟨λc o hc=>(h1 c o hc).1,h0,λc cs hc=>(h1 c _ hc).2⟩,.ptr b _ _ J rfl λi r c A hc=>?_,m,⟨false,t.cap,t.es⟩,ages z,G,?_,D.aged,by simp only[age,ages],rfl⟩
 ·match i,A,hc with
  | 0,A,hc=>cases A;cases hc;exact .refl _
  | 1,A,hc=>cases A;cases hc;exact E
  | 2,A,hc=>cases A;cases hc;exact .refl _
  | i+3,A,hc=>simp at A
 ·exact ht
def P8 (ca:Nat)(s:Sq)(x:IV)(hx:IsSq s x)(hl:(gn (s.l++s.r)).length<=1000000)(st:ISt) :
  ICall prog gl 91 [.raw (.int .u8 (ca:Int)),x] st (λr st'=>∃m tw xw,st m=none/\okEs tw 4/\IsFms (setF (gn (s.l++s.r))) xw/\r=spI ca tw xw m/\st'=st.put m (some (.map .pl []))):=by
 refine o9 ?_;have a1:=hx;obtain⟨t1,x1,t2,x2,rfl,e1,i1,e2,i2⟩:=hx;refine k9 (t:=5) (n:=2) (c:=cf prog gl [12,5,6,32,38] []) func91 rfl (by show _<=43;simp) (by show _<43;simp) (by kernel_rfl) ?_;simp only[go_sem,zE,zA,zL,reduceCtorEq,fits];refine λm=>fc λh1=>λb=>fc λh2=>λb5=>fc λh3=>?_;refine⟨b5,ptr b,by simp only[go_sem],b_ ..,?_⟩;simp only[go_sem,zE,zA,zM,zL,fits];refine λJ=>fc λh4=>?_;obtain⟨n1,n2,n3,h5,h6,hst⟩:=P5 (F0:=some (.box [.raw .nilFunc])) (F:=some (.box [colFn b J])) h1 h2 h3 h4 nofun nofun;simp only[go_sem,rm,show age (ptr b)=ptr b by simp only[age],hst];refine (Bd gl s.l s.r t1 t2 _ x1 x2 (.inr rfl) i1 i2 (by rw[<- lLa];exact eM (BN _) (eM hl (by omega))) _).mono ?_;rintro _ _ ⟨tc,xc,rfl,aB,D,rfl⟩;simp only[go_sem];intro _;generalize hB:(st.put m (some (.map .pl []))).put J (some (.box [colFn b J]))=B0;have al:B0 J=some (.box [colFn b J]):=by rw[<- hB,b_]
 have aA:∀g,B0 g=none->g≠m/\g≠J/\st g=none:=λg A=>by
  rw[<- hB] at A;have g1:g≠J:=by rintro rfl;rw[b_] at A;cases A
  rw[dZ g1] at A;have g2:g≠m:=by rintro rfl;rw[b_] at A;cases A
  rw[dZ g2] at A;exact⟨g2,g1,A⟩
 have ac:∀c o,(st.put m (some (.map .pl []))) c=some o->B0 c=some o/\c≠b:=λc o hc=>by
  have c1:c≠b:=by rintro rfl;rw[dZ n3,h6] at hc;cases hc
  have c2:c≠J:=by rintro rfl;rw[dZ n2,h5] at hc;cases hc
  exact⟨by rw[<- hB,dZ c2];exact hc,c1⟩
 refine dC xc.length (λk fr st' ds=>Fo ca m b B0 (gn ((s.l++s.r).take k)) st'/\fr 5=.iv (.cptr (ptr b))/\fr 6=(ptr J)/\fr 19=.iv (.sl tc xc)/\fr 20=xc.length/\fr 21=(k:Int)/\ds=[]) ?_ ?_ ?_
 ·simp only[go_sem,zE];exact⟨.inl ⟨rfl,rfl⟩,rfl⟩
 ·rintro k fr ab _ U ⟨am,f5,f6,f19,f20,f21,rfl⟩;rw[D.len] at U;obtain⟨g,A⟩:=ed U;obtain⟨z,hz,aj⟩:=D.get A;have ay:(gn ((s.l++s.r).take k)++cloF g).length<=1000000:=by rw[<- xe A];exact eM (HZ _ _) hl
  have IHg:=HH gl g ca m J b z aj B0 ab _ al n1 ay am;have av:=am.self al n1;cases g with
  | mk og ng ug sg =>
  obtain⟨aX,aT,aW,aS,rfl,ba⟩:=aj.mk;simp only[go_sem,zE,zB,zA,zL,f6,f19,f20,f21,lt_i (show k<xc.length by rw[D.len];exact U),ec aB,iNn,hz,fits,IV.one];rw[av];simp only[go_sem];refine IHg.mono ?_;rintro _ ab aF;simp only[go_sem,zE,f5,f6,f19,f20,f21,ek (show k<xc.length by rw[D.len];exact U) (by rw[D.len];exact eM (BN _) (eM hl (by omega)))];rw[xe A];exact aF
 ·rintro fr ab _ ⟨hF,f5,f6,f19,f20,f21,rfl⟩;rw[D.len,lTl] at hF;generalize hW:gn (s.l++s.r)=W at hF hl ⊢;rcases hF with⟨rfl,rfl⟩|⟨g,cap,cs,zs,az,A,G,aN,aw,aC,hzs,rfl⟩
  ·simp only[go_sem,zE,zA,f5,f20,f21,eI (nLi _),fits,k_];refine (GM gl _ rfl _).q ?_;simp only[go_sem,zE,zA,f5,fits];refine (GV gl _ _ rfl _).mono ?_;rintro _ _ ⟨⟨t',rfl,au⟩,rfl⟩;simp only[go_sem,zE,zA,zL,f5,fits];rw[fW];refine dw (H0 (s1:=ISt.put (λ_=>none) b (some (.box [.raw (.int .u8 (ca:Int)),.sl t' [],.raw (.map (some m))]))) (t:=t') (z:=[]) h1 (λc o hc=>?_) (λc o hc=>?_) (b_ ..) (.refl _) (.inl au) (by rw[GS];rfl))
   ·rw[dZ (ac c o hc).2];exact (ac c o hc).1
   ·rw[ISt.put_apply] at hc;split at hc
    ·rename_i e;subst e;exact⟨by rw[b_];exact hc,by rw[dZ n3];exact h6⟩
    ·cases hc
  ·have aa:=P7 aC;have ai:=GL gl W zs (cs.drop (W.length*4)) hzs (λe=>az (by rw[e] at hzs;exact fw (by rw[<- hzs.len];rfl))) (by rw[hzs.len];omega) g cap;rw[<- aa,hzs.len] at ai;simp only[go_sem,zE,zA,f5,f20,f21,eI (nLi _),fits,k_,dZ G.symm];refine (ai _ (b_ ..)).mono ?_;rintro _ _ ⟨rfl,mm,ys,hms,E,ax,-,rfl⟩;have hml:=E.length_eq;have ak:=GR gl 113 (by simp only[go_sem]) (P4 gl) mm ys (cs.drop (W.length*4)) hms (by omega) g cap (by omega);rw[hml] at ak;simp only[go_sem,zE,zA,f5,fits,dZ G.symm];refine (ak _ (b_ ..)).mono ?_;rintro _ _ ⟨k,ae,O,rfl,rfl,aE,aD,ah,hk,a7,-⟩;simp only[go_sem,zE,zA,zL,f5,fits,dZ G.symm];refine gp rfl ?_;obtain⟨gm,g6,gs⟩:=aA g A;subst hk;rw[fW,fW,BH G];have ag:∀z∈O,z.cells.length=4:=λz hz=>by
    obtain⟨a,ha,_⟩:=rR ah z hz;cases a;obtain⟨_,_,_,_,rfl,_⟩:=ha.mk;rfl
   have bb:ae.length=cs.length:=by
    rw[aE,lLa,xd hms,jm];omega
   refine dw (H0 (s1:=(ISt.put (λ_=>none) b (some (.box [.raw (.int .u8 (ca:Int)),.raw (.slice (some ⟨g,0,none⟩) O.length cap),.raw (.map (some m))]))).put g (some (.box ae))) (t:=⟨true,.app g,4⟩) (z:=O) h1 (λc o hc=>?_) (λc o hc=>?_) (by rw[dZ G.symm,b_]) ?_ (.inr rfl) (by rw[oB (wO _ mm E ax)];exact ah))
   ·obtain⟨e1,e2⟩:=ac c o hc;rw[dZ (by rintro rfl;rw[A] at e1;cases e1),dZ e2];exact e1
   ·rw[ISt.put_apply] at hc;split at hc
    ·rename_i e;subst e;exact⟨by rw[b_];exact hc,by rw[dZ gm];exact gs⟩
    ·rename_i e;rw[ISt.put_apply] at hc;split at hc
     ·rename_i e';subst e';exact⟨by rw[dZ e,b_];exact hc,by rw[dZ n3];exact h6⟩
     ·cases hc
   ·refine .sl g cap ⟨true,.app g,4⟩ O ae rfl (by omega) (by omega) ag (b_ ..) (by show cap*4<=_;omega) λi r c hr hc=>?_;have hi:=(lGs hc).1;rw[iW _ ag] at hi;rw[<- aD,iq,c_ hi,hr] at hc;cases hc;exact .refl _
end Go.Proofs.Tryz
namespace Go.Proofs.Tryz
open Go Go.Iv
def uS (f:Fm):f∈cloF f:=by
 cases f with
 | mk o n us sub =>
  rw[cloF];refine jH _ ?_;unfold iY;split
  ·simp_all
  ·exact .head _
def zQ3 {g:Fm}:∀ {l:List Fm},g∈gn l↔∃f∈l,g∈cloF f
 | []=>by simp[gn]
 | a::l=>by simp only[gn,eQ,zQ3,eK];grind
def P9 {o:Nat}{a b g:Fm}(h:g∈iY (.mk o noN [] [a,b])):g=.mk o noN [] [a,b]\/(o=7/\(g=imF a b\/g=imF b a)):=by
 unfold iY at h;split at h
 ·rename_i A;cases A;simpa using h
 ·exact .inl (by simpa using h)
def zVs {a g:Fm}:g∈cloF (.mk 3 noN [] [a])↔g=.mk 3 noN [] [a]\/g∈cloF a:=by
 simp[cloF,gn,iY]
def H2 {o:Nat}{a b g:Fm}:g∈cloF (.mk o noN [] [a,b])->g=.mk o noN [] [a,b]\/(o=7/\(g=imF a b\/g=imF b a))\/g∈cloF a\/g∈cloF b:=λh=>by
 simp only[cloF,gn,fL,eQ] at h;rcases h with h|h|h
 ·rcases P9 h with h|h
  ·exact .inl h
  ·exact .inr (.inl h)
 ·exact .inr (.inr (.inl h))
 ·exact .inr (.inr (.inr h))
def sh {o:Nat}{a b g:Fm}(h:g∈cloF a\/g∈cloF b):g∈cloF (.mk o noN [] [a,b]):=by
 simp only[cloF,gn,fL,eQ];exact .inr h
def P_ {ca:Nat}{f:Fm}(hf:PF f):fmB ca f=true->∀g∈cloF f,fmB ca g=true:=by
 induction hf with
 | atom n=>intro h g A;simp[cloF,gn,iY] at A;rw[A];exact h
 | fls=>intro h g A;simp[cloF,gn,iY] at A;rw[A];exact h
 | neg _ ih =>
  intro h g A;rcases zVs.1 A with rfl|A
  ·exact h
  ·exact ih (Hw h) g A
 | bin h4 h7 _ _ E D =>
  intro h g A;obtain⟨U,O,J,G⟩:=Hx ⟨by omega,h4,h7⟩ h;rcases H2 A with rfl|⟨_,rfl|rfl⟩|A|A
  ·exact h
  ·exact J
  ·exact G
  ·exact E U g A
  ·exact D O g A
def Qa {f:Fm}(hf:PF f):∀g∈cloF f,∀j r,∀t∈addF j g r,∀p∈t.2,(∀x∈p.1,x∈cloF f)/\∀x∈p.2,x∈cloF f:=by
 induction hf with
 | atom n=>intro g A j r t ht;simp[cloF,gn,iY] at A;subst A;simp[addF] at ht
 | fls=>intro g A j r t ht;simp[cloF,gn,iY] at A;subst A;simp[addF] at ht
 | @neg a _ U =>
  intro g A j r t ht p hp;rcases zVs.1 A with rfl|A
  ·have D:a∈cloF (.mk 3 noN [] [a]):=zVs.2 (.inr (uS a));cases r<;>simp[addF] at ht<;>subst ht<;>simp at hp<;>subst hp<;>simp[D]
  ·obtain⟨h1,h2⟩:=U g A j r t ht p hp;exact⟨λx E=>zVs.2 (.inr (h1 x E)),λx E=>zVs.2 (.inr (h2 x E))⟩
 | @bin o a b h4 h7 _ _ O J =>
  intro g A j r t ht p hp;have D:a∈cloF (.mk o noN [] [a,b]):=sh (.inl (uS a));have G:b∈cloF (.mk o noN [] [a,b]):=sh (.inr (uS b));have imp:∀c d:Fm,c∈cloF (.mk o noN [] [a,b])->d∈cloF (.mk o noN [] [a,b])->t∈addF j (imF c d) r->(∀x∈p.1,x∈cloF (.mk o noN [] [a,b]))/\∀x∈p.2,x∈cloF (.mk o noN [] [a,b]):=λc d hc hd ht=>by
   cases r<;>simp[addF] at ht<;>subst ht<;>simp at hp
   ·rcases hp with rfl|rfl<;>simp[hc,hd]
   ·subst hp;simp[hc,hd]
  rcases H2 A with rfl|⟨_,rfl|rfl⟩|A|A
  ·obtain rfl|rfl|rfl|rfl:o=4\/o=5\/o=6\/o=7:=by omega
   ·cases r<;>simp[addF] at ht<;>subst ht<;>simp at hp
    ·subst hp;simp[D,G]
    ·rcases hp with rfl|rfl<;>simp[D,G]
   ·cases r<;>cases j<;>simp[addF] at ht
    ·subst ht;simp at hp;rcases hp with rfl|rfl<;>simp[D,G]
    ·subst ht;simp at hp;rcases hp with rfl|rfl<;>simp[D,G]
    ·subst ht;simp at hp;subst hp;simp[D,G]
    ·rcases ht with rfl|rfl<;>simp at hp<;>subst hp<;>simp[D,G]
   ·exact imp a b D G ht
   ·have h1:imF a b∈cloF (.mk 7 noN [] [a,b]):=by simp[cloF,iY]
    have h2:imF b a∈cloF (.mk 7 noN [] [a,b]):=by simp[cloF,iY]
    cases r<;>simp[addF] at ht<;>subst ht<;>simp at hp
    ·subst hp;simp[h1,h2]
    ·rcases hp with rfl|rfl<;>simp[D,G]
  ·exact imp a b D G ht
  ·exact imp b a G D ht
  ·obtain⟨h1,h2⟩:=O g A j r t ht p hp;exact⟨λx E=>sh (.inl (h1 x E)),λx E=>sh (.inl (h2 x E))⟩
  ·obtain⟨h1,h2⟩:=J g A j r t ht p hp;exact⟨λx E=>sh (.inr (h1 x E)),λx E=>sh (.inr (h2 x E))⟩
def Qb (f:Fm):(iY f).length<=3:=by
 unfold iY;split<;>simp
mutual
def Qc:∀f:Fm,(cloF f).length<=3*f.size
 | .mk o n us sub=>by
  have h1:=Qb (.mk o n us sub);have h2:=BO sub;simp only[cloF,lLa,Fm.size];omega
def BO:∀l:List Fm,(gn l).length<=3*eS l
 | []=>by simp[gn]
 | a::l=>by
  have h1:=Qc a;have h2:=BO l;simp only[gn,lLa,eS];omega
end
def size_le {l:List Fm}{k:Nat}(h:∀f∈l,f.size<=k):eS l<=l.length*k:=by
 induction l with
 | nil=>simp[eS]
 | cons a l A =>
  have h1:=h a (.head _);have h2:=A λf D=>h f (.tail _ D);simp only[eS,fa,gx,Nat.one_mul];omega
def si {ca:Nat}{s:Sq}(hc:ca=1\/ca=2)(h:fT ca s=true) :
  SpOk ca (setF (gn (s.l++s.r)))/\(gn (s.l++s.r)).length<=200000/\(setF (gn (s.l++s.r))).length<=200000/\InW (setF (gn (s.l++s.r))) (s.l,s.r):=by
 unfold fT at h;simp only[bAt,dTe,fZ] at h;obtain⟨⟨⟨⟨⟨_,hl⟩,hr⟩,ac⟩,ab⟩,_⟩:=h;have E:∀f∈s.l++s.r,fmB ca f=true:=λf D=>(eQ.1 D).elim (ac f) (ab f);have O:ca≠3:=by omega
 have aa:∀f∈s.l++s.r,f.size<=400:=λf D=>by
  have:=E f D;unfold fmB Fm.right at this;simp only[bAt,dTe] at this;exact this.1.1.2
 have h1:=BO (s.l++s.r);have h2:=size_le aa;rw[lLa] at h2;have h3:(gn (s.l++s.r)).length<=200000:=by omega
 obtain⟨r,A,ah⟩:=Bq (gn (s.l++s.r));rw[oB A];refine⟨⟨hc,A.1,by omega,λf D=>?_,λf D j rr t ht p hp=>?_⟩,h3,by omega,λf D=>?_,λf D=>?_⟩
 ·obtain⟨g,J,G⟩:=zQ3.1 ((A.2 f).1 D);exact P_ (pC O (E g J)) (E g J) f G
 ·obtain⟨g,J,G⟩:=zQ3.1 ((A.2 f).1 D);obtain⟨k1,k2⟩:=Qa (pC O (E g J)) f G j rr t ht p hp;exact⟨λx U=>(A.2 x).2 (zQ3.2 ⟨g,J,k1 x U⟩),λx U=>(A.2 x).2 (zQ3.2 ⟨g,J,k2 x U⟩)⟩
 ·exact (A.2 f).2 (zQ3.2 ⟨f,jH _ D,uS f⟩)
 ·exact (A.2 f).2 (zQ3.2 ⟨f,jI _ D,uS f⟩)
def mvW (W:List Fm)(v:Mv):Nat×Fm×List Sn:=(v.1,(W[v.2.1]?).getD fm0,v.2.2.map (lnW W))
def mvT (j:Bool)(ln:Ln)(i:Nat)(t:Tn):Mv:=(t.1,i,t.2.map (k8 j ln))
noncomputable def mX (W:List Fm)(j:Bool)(ln:Ln)(p:Nat×Bool):List Mv:=match W[p.1]? with
 | some f=>(ij W j f p.2).map (mvT j ln p.1)
 | none=>[]
def Qd {ca:Nat}{W:List Fm}(hS:SpOk ca W){ln:Ln}(A:LnOk W ln)(j:Bool){i:Nat}{f:Fm}(D:W[i]?=some f)(r:Bool):(mX W j ln (i,r)).map (mvW W)=nz j (lnW W ln) r f:=by
 unfold mX nz ij;simp only[D,jn];refine ll λt ht=>?_;simp only[Function.comp,mvT,mvW,D,fz,jn];refine Prod.ext rfl (Prod.ext rfl ?_);refine ll λp hp=>?_;exact Pj hS.srt A (hS.full f (lMg D) j r t ht p hp)
def BP {ca:Nat}{W:List Fm}(hS:SpOk ca W){ln:Ln}(A:LnOk W ln)(j r:Bool):∀ {l:List Nat},(∀i∈l,i<W.length)->((l.map λi=>(i,r)).flatMap (mX W j ln)).map (mvW W)=(fmW W l).flatMap (nz j (lnW W ln) r)
 | [],_=>rfl
 | i::l,h=>by
  obtain⟨f,D⟩:=ed (h i (.head _));rw[BA D,ff,fE,fE,fS,Qd hS A j D,BP hS A j r λk E=>h k (.tail _ E)]
def H3 {ca:Nat}{W:List Fm}(hS:SpOk ca W){ln:Ln}(A:LnOk W ln)(j:Bool):((plcs ln).flatMap (mX W j ln)).map (mvW W)=mvF j (lnW W ln):=by
 unfold plcs mvF;rw[kx,fS,BP hS A j false A.1.2,BP hS A j true A.2.2];rfl
def Qe {W:List Fm}{j:Bool}{ln:Ln}{p:Nat×Bool}{v:Mv}(h:some v∈jU W j ln p):v∈mX W j ln p:=by
 unfold jU at h;unfold mX;cases D:W[p.1]? with
 | none=>simp only[D] at h;cases h
 | some f =>
  simp only[D] at h ⊢;obtain⟨t,ht,A⟩:=eh.1 h;refine eh.2 ⟨t,ht,?_⟩;unfold mvN at A;split at A
  ·cases A
  ·cases A;rfl
def H4 {W:List Fm}{j:Bool}{ln:Ln}{v:Mv}(h:some v∈mvsN W j ln):v∈(plcs ln).flatMap (mX W j ln):=by
 obtain⟨p,hp,h⟩:=gJ.1 h;exact gJ.2 ⟨p,hp,Qe h⟩
def Qf {W:List Fm}{j:Bool}{ln:Ln}{l:List (Nat×Bool)}:∀ {vs:List Mv},l.flatMap (jU W j ln)=vs.map some->l.flatMap (mX W j ln)=vs:=by
 have one:∀p,(∀o∈jU W j ln p,o≠none)->jU W j ln p=(mX W j ln p).map some:=λp=>by
  unfold jU mX;cases W[p.1]? with
  | none=>intro _;rfl
  | some f =>
   simp only[jn];intro h;refine ll λt ht=>?_;have h1:=h _ (ir ht);unfold mvN at h1 ⊢;split
   ·rename_i G;rw[c_ G] at h1;exact absurd rfl h1
   ·rfl
 have A:∀ {a b:List Mv},a.map some=b.map some->a=b:=λ{a b} h=>by
  have h1:=eZ (List.filterMap id) h;simpa[List.filterMap_map] using h1
 intro vs h;have D:∀p∈l,∀o∈jU W j ln p,o≠none:=λp hp o J O=>by
  have:o∈vs.map some:=h▸gJ.2 ⟨p,hp,J⟩;obtain⟨v,_,rfl⟩:=eh.1 this;cases O
 refine A ?_;rw[<- h];clear h
 induction l with
 | nil=>rfl
 | cons a l E =>
  rw[fE,fE,fS,one a (D a (.head _)),E λp hp=>D p (.tail _ hp)]
def BQ {ca:Nat}{W:List Fm}(hS:SpOk ca W){ln:Ln}(A:LnOk W ln){j:Bool}{vs:List Mv}(h:mvsN W j ln=vs.map some):mvF j (lnW W ln)=vs.map (mvW W):=by
 rw[<- H3 hS A,Qf h]
def xn {ca:Nat}{W:List Fm}(hS:SpOk ca W){ln:Ln}(D:LnOk W ln){j:Bool}:none∈mvsN W j ln↔oC j (lnW W ln):=by
 have at_:∀i r f,W[i]?=some f->(none∈jU W j ln (i,r)↔∃t∈addF j f r,∃p∈t.2,tooL j (lnW W ln) p):=λi r f A=>by
  unfold jU ij;simp only[A,jn,eh,Function.comp];constructor
  ·rintro⟨t,ht,G⟩;unfold mvN at G;split at G
   ·rename_i hx;obtain⟨e,O,J⟩:=il.1 hx;obtain⟨p,hp,rfl⟩:=eh.1 O;exact⟨t,ht,p,hp,(Hk D).1 J⟩
   ·cases G
  ·rintro⟨t,ht,p,hp,hl⟩;refine⟨t,ht,?_⟩;unfold mvN;rw[c_ (il.2 ⟨_,ir hp,(Hk D).2 hl⟩)]
 unfold mvsN oC;rw[gJ];constructor
 ·rintro⟨⟨i,r⟩,hp,h⟩;have hm:(r=false/\i∈ln.1)\/(r=true/\i∈ln.2):=by
   rcases eQ.1 hp with hp|hp<;>obtain⟨k,U,G⟩:=eh.1 hp<;>cases G
   ·exact .inl ⟨rfl,U⟩
   ·exact .inr ⟨rfl,U⟩
  rcases hm with⟨rfl,E⟩|⟨rfl,E⟩
  ·obtain⟨f,A⟩:=D.1.get E;exact⟨f,false,yZo.2 ⟨i,E,A⟩,(at_ i _ f A).1 h⟩
  ·obtain⟨f,A⟩:=D.2.get E;exact⟨f,true,yZo.2 ⟨i,E,A⟩,(at_ i _ f A).1 h⟩
 ·rintro⟨f,r,A,h⟩;cases r
  ·obtain⟨i,E,A⟩:=yZo.1 A;exact⟨(i,false),jH _ (eh.2 ⟨i,E,rfl⟩),(at_ i _ f A).2 h⟩
  ·obtain⟨i,E,A⟩:=yZo.1 A;exact⟨(i,true),jI _ (eh.2 ⟨i,E,rfl⟩),(at_ i _ f A).2 h⟩
def H5 {ca:Nat}{W:List Fm}(hS:SpOk ca W){ln p:Ln}(A:LnOk W ln){s0:Sn}(h:la W (calJ ca) ln p)(D:Rch (calJ ca) s0 (lnW W ln))(hc:¬ clN W ln):Rch (calJ ca) s0 (lnW W p)/\LnOk W p/\p.1.length<=64/\p.2.length<=64:=by
 obtain⟨v,hv,hp⟩:=h;obtain⟨h1,h2,E⟩:=(xm hS A hv).2.2.2 p hp;refine⟨.step D (λh=>hc ((pA hS.srt A).2 h)) (m:=mvW W v) ?_ (ir hp),h1,h2,E⟩;rw[<- H3 hS A];exact ir (H4 hv)
def LkS (W:List Fm)(j:Bool)(lines:List Ln)(ln:Ln)(l:List Lk):Prop:=(clN W ln/\l=[])\/(¬ clN W ln/\∃vs,mvsN W j ln=vs.map some/\LksOf lines vs l)
def LkS.app {W:List Fm}{j:Bool}{lines more:List Ln}{ln:Ln}{l:List Lk}(h:LkS W j lines ln l):LkS W j (lines++more) ln l :=
 h.imp id λ⟨h1,vs,h2,A⟩=>⟨h1,vs,h2,A.app⟩
structure ExS (ca:Nat)(W:List Fm)(s0:Sn)(lines:List Ln)(links:List (List Lk)):Prop where
 start:∃ln,lines[0]?=some ln/\lnW W ln=s0
 ok:∀ln∈lines,LnOk W ln
 rch:∀ln∈lines,Rch (calJ ca) s0 (lnW W ln)
 done:∀(k:Nat) (l:List Lk),links[k]?=some l->∃ln,lines[k]?=some ln/\LkS W (calJ ca) lines ln l
 len:lines.length<=20000
def ExS.add {ca:Nat}{W:List Fm}{s0:Sn}{lines:List Ln}{links:List (List Lk)}(h:ExS ca W s0 lines links)(hS:SpOk ca W){ln:Ln}(hl:lines[links.length]?=some ln){l:List Lk}{more:List Ln}(O:LkS W (calJ ca) (lines++more) ln l)
  (hm:more=[]\/¬ clN W ln) (hp:∀p∈more,la W (calJ ca) ln p) (J:(lines++more).length<=20000):ExS ca W s0 (lines++more) (links++[l]):=by
 have G:=lMg hl;have E:∀p∈more,Rch (calJ ca) s0 (lnW W p)/\LnOk W p:=λp D=>by
  rcases hm with rfl|hc
  ·cases D
  ·obtain⟨h1,h2,_⟩:=H5 hS (h.ok ln G) (hp p D) (h.rch ln G) hc;exact⟨h1,h2⟩
 have app:∀ {k:Nat} {a:Ln},lines[k]?=some a->(lines++more)[k]?=some a:=λ{k a} O=>by
  rw[gw (lGs O).1];exact O
 refine⟨?_,λp D=>?_,λp D=>?_,λk l' A=>?_,J⟩
 ·obtain⟨a,ha,hs⟩:=h.start;exact⟨a,app ha,hs⟩
 ·exact (eQ.1 D).elim (h.ok p) λD=>(E p D).2
 ·exact (eQ.1 D).elim (h.rch p) λD=>(E p D).1
 ·rcases gO k links.length with U|aa
  ·rw[gw U] at A;obtain⟨a,ha,hs⟩:=h.done k l' A;exact⟨a,app ha,hs.app⟩
  ·rw[gD aa] at A;have h0:k-links.length=0:=by
    rcases mw (k-links.length) with h0|h0
    ·exact h0
    ·rw[mj (by simp only[fa,fb];omega)] at A;cases A
   rw[h0] at A;cases A;obtain rfl:k=links.length:=by omega
   exact⟨ln,app hl,O⟩
def ExS.reach {ca:Nat}{W:List Fm}{s0:Sn}{lines:List Ln}{links:List (List Lk)}(h:ExS ca W s0 lines links)(hS:SpOk ca W)(hn:lines.Nodup)(hl:lines.length<=links.length):ReachOk (calJ ca) s0 (lines.map (lnW W)):=by
 have D:∀ln∈lines,∃l,LkS W (calJ ca) lines ln l:=λln O=>by
  obtain⟨k,hk,rfl⟩:=gS.1 O;obtain⟨a,U,hs⟩:=h.done k _ (eN (lx hk hl));rw[eN hk] at U;cases U;exact⟨_,hs⟩
 refine⟨?_,λs=>⟨λhs=>?_,λhs=>?_⟩,λs hs hc=>?_,by rw[eP];exact h.len⟩
 ·rw[List.nodup_iff_pairwise_ne,lp];exact hn.imp_of_mem λ{a b} U hb ae he=>ae (Hh hS.srt (h.ok a U) (h.ok b hb) he)
 ·obtain⟨ln,O,rfl⟩:=eh.1 hs;exact h.rch ln O
 ·induction hs with
  | refl =>
   obtain⟨a,U,hs⟩:=h.start;exact eh.2 ⟨a,lMg U,hs⟩
  | @step s _ hc m O p hp ih =>
   obtain⟨ln,A,rfl⟩:=eh.1 ih;obtain⟨l,⟨J,_⟩|⟨_,vs,G,af⟩⟩:=D ln A
   ·exact absurd ((pA hS.srt (h.ok ln A)).1 J) hc
   ·rw[BQ hS (h.ok ln A) G] at O;obtain⟨v,hv,rfl⟩:=eh.1 O;obtain⟨q,hq,rfl⟩:=eh.1 hp;obtain⟨i,hi,ab⟩:=gS.1 hv;obtain⟨k,hk,E⟩:=af.2 i v (by rw[eN hi,ab]);obtain⟨e,he,ac⟩:=gS.1 hq;have ah:e<k.2.2.length:=by rw[E.2.2.1];exact he
    obtain⟨p',hp1,hp2⟩:=E.2.2.2 e _ (eN ah);rw[eN he,ac] at hp2;cases hp2;exact eh.2 ⟨q,lMg hp1,rfl⟩
 ·obtain⟨ln,A,rfl⟩:=eh.1 hs;obtain⟨l,⟨J,_⟩|⟨_,vs,G,_⟩⟩:=D ln A
  ·exact absurd ((pA hS.srt (h.ok ln A)).1 J) hc
  ·intro E;have:=(xn hS (h.ok ln A)).2 E;rw[G] at this;simp at this
def ExS.no5 {ca:Nat}{W:List Fm}{s0:Sn}{lines:List Ln}{links:List (List Lk)}(h:ExS ca W s0 lines links)(hS:SpOk ca W){ln:Ln}(hl:ln∈lines)(hc:¬ clN W ln)(D:none∈mvsN W (calJ ca) ln):rU (calJ ca) s0 5 :=
 .inr ⟨rfl,lnW W ln,h.rch ln hl,λA=>hc ((pA hS.srt (h.ok ln hl)).2 A),(xn hS (h.ok ln hl)).1 D⟩
def ExS.no4 {ca:Nat}{W:List Fm}{s0:Sn}{lines:List Ln}{links:List (List Lk)}(h:ExS ca W s0 lines links)(hS:SpOk ca W){ln:Ln}(hl:ln∈lines)(hc:¬ clN W ln){more:List Ln}{p:Ln}(hm:∀q∈more,la W (calJ ca) ln q)(hp:la W (calJ ca) ln p)
  (E:p ∉ lines++more) (hn:(lines++more).Nodup) (U:20000<=(lines++more).length):rU (calJ ca) s0 4:=by
 have D:∀q∈lines++more++[p],Rch (calJ ca) s0 (lnW W q)/\LnOk W q:=λq A=>by
  have pr:∀q,la W (calJ ca) ln q->Rch (calJ ca) s0 (lnW W q)/\LnOk W q:=λq A=>by
   obtain⟨h1,h2,_⟩:=H5 hS (h.ok ln hl) A (h.rch ln hl) hc;exact⟨h1,h2⟩
  rcases eQ.1 A with A|A
  ·rcases eQ.1 A with A|A
   ·exact⟨h.rch q A,h.ok q A⟩
   ·exact pr q (hm q A)
  ·rw[eY.1 A];exact pr p hp
 have hnd:(lines++more++[p]).Nodup:=mu.2 ⟨hn,by simp,λa O b J=>by
  rw[eY.1 J];rintro rfl;exact E O⟩
 refine .inl ⟨rfl,(lines++more++[p]).map (lnW W),?_,λs hs=>?_,by rw[eP,lLa];simp only[fa,fb];omega⟩
 ·rw[List.nodup_iff_pairwise_ne,lp];exact hnd.imp_of_mem λ{a b} O J G he=>G (Hh hS.srt (D a O).2 (D b J).2 he)
 ·obtain⟨q,A,rfl⟩:=eh.1 hs;exact (D q A).1
end Go.Proofs.Tryz
namespace Go.Proofs.Tryz
open Go Go.Iv
set_option maxRecDepth 4000
variable (gl:Nat->Option IV)
noncomputable abbrev spW (s:Sq):List Fm:=setF (gn (s.l++s.r))
def BR {ca:Nat}{s:Sq}(h:fT ca s=true):s.l.length<=64/\s.r.length<=64:=by
 unfold fT at h;simp only[bAt,dTe] at h;exact⟨h.1.1.1.1.2,h.1.1.1.2⟩
def BS (G:Gl gl)(ca:Nat)(s:Sq)(x:IV)(hx:IsSq s x)(hs:ig s)(st:ISt) :
  ICall prog gl 65 [.raw (.int .u8 (ca:Int)),x] st (λr st' =>
   (¬ (ca=1\/ca=2)/\r=.tup [.raw (.pointer none),(2:Int)]/\st'=st)\/((ca=1\/ca=2)/\fT ca s=false/\r=.tup [.raw (.pointer none),(190:Int)]/\st'=st) \/
   ((ca=1\/ca=2)/\fT ca s=true/\∃m tw xw,st m=none/\okEs tw 4/\IsFms (spW s) xw/\r=.tup [spI ca tw xw m,(0:Int)]/\st'=st.put m (some (.map .pl [])))):=by
 have hv:=λst=>Bb gl G ca s x hx hs st;have hn:=P8 gl ca s x hx;obtain⟨t1,x1,t2,x2,rfl,e1,i1,e2,i2⟩:=id hx;refine iI func65 ?_;by_cases h1:ca=1
 ·have D:decide ((ca:Int)=1)=true:=dEt (by omega);have hc:ca=1\/ca=2:=.inl h1;simp only[go_sem,zE,zA,zL,reduceCtorEq,D];refine (hv _).q ?_;rcases Bool.eq_false_or_eq_true (fT ca s) with A|A
  ·obtain⟨_,O,_,_⟩:=si (ca:=ca) (s:=s) hc A;simp only[go_sem,zE,zA,zL,reduceCtorEq,show Value.bool (fT ca s)=.bool true by rw[A]];refine (hn (eM O (by omega)) _).mono ?_;rintro _ _ ⟨m,tw,xw,hm,J,E,rfl,rfl⟩;simp only[go_sem,zE];exact dw (.inr (.inr ⟨hc,A,m,tw,xw,hm,J,E,rfl,rfl⟩))
  ·simp only[go_sem,zE,show Value.bool (fT ca s)=.bool false by rw[A]];exact dw (.inr (.inl ⟨hc,A,rfl,rfl⟩))
 ·have D:decide ((ca:Int)=1)=false:=dEf (by omega);by_cases h2:ca=2
  ·have U:decide ((ca:Int)=2)=true:=dEt (by omega);have hc:ca=1\/ca=2:=.inr h2;simp only[go_sem,zE,zA,zL,reduceCtorEq,D,U];refine (hv _).q ?_;rcases Bool.eq_false_or_eq_true (fT ca s) with A|A
   ·obtain⟨_,O,_,_⟩:=si (ca:=ca) (s:=s) hc A;simp only[go_sem,zE,zA,zL,reduceCtorEq,show Value.bool (fT ca s)=.bool true by rw[A]];refine (hn (eM O (by omega)) _).mono ?_;rintro _ _ ⟨m,tw,xw,hm,J,E,rfl,rfl⟩;simp only[go_sem,zE];exact dw (.inr (.inr ⟨hc,A,m,tw,xw,hm,J,E,rfl,rfl⟩))
   ·simp only[go_sem,zE,show Value.bool (fT ca s)=.bool false by rw[A]];exact dw (.inr (.inl ⟨hc,A,rfl,rfl⟩))
  ·have U:decide ((ca:Int)=2)=false:=dEf (by omega);simp only[go_sem,zE,reduceCtorEq,D,U];exact dw (.inl ⟨by omega,rfl,rfl⟩)
def Qg:mapI prog 80=some (.str,.raw (.int .i32 0)):=by kernel_rfl
open Classical in
noncomputable def runF (W:List Fm)(j:Bool):Nat->Nat->List Ln->Nat
 | 0,_,_=>0
 | q+1,n,ls=>match ls[n]? with
  | none=>0
  | some ln=>if clN W ln then runF W j q (n+1) ls else if (expF (mvsN W j ln) ls).2=0 then runF W j q (n+1) (expF (mvsN W j ln) ls).1 else (expF (mvsN W j ln) ls).2
noncomputable def errN (ca:Nat)(s:Sq):Nat:=if ca=1\/ca=2 then (if fT ca s=true then runF (spW s) (calJ ca) 20001 0 [mW (spW s) (s.l,s.r)] else 190) else 2
def ExplR (ca:Nat)(s:Sq)(st:ISt)(r:IV)(st':ISt):Prop :=
 (¬ (ca=1\/ca=2)/\r=.tup [.raw (.pointer none),(2:Int)]/\st'=st)\/((ca=1\/ca=2)/\fT ca s=false/\r=.tup [.raw (.pointer none),(190:Int)]/\st'=st) \/
 ((ca=1\/ca=2)/\fT ca s=true/\((∃e,(rU (calJ ca) (nf (s.l,s.r)) e/\e=errN ca s)/\r=.tup [.raw (.pointer none),(e:Int)]/\st'=st) \/
  ∃m tw xw rb mN lines links,okEs tw 4/\IsFms (spW s) xw/\r=.tup [ptr rb,(0:Int)]/\RS ca m (spW s) tw xw rb mN st st' lines links/\ExS ca (spW s) (nf (s.l,s.r)) lines links/\links.length=lines.length/\errN ca s=0))
def RS.link {ca m:Nat}{W:List Fm}{tw:Tag}{xw:List IV}{rb mN:Nat}{S0 st st':ISt}{lines:List Ln}{links:List (List Lk)}(h:RS ca m W tw xw rb mN S0 st lines links){tl tk:Tag}{xl xk:List IV}{l:List Lk}{x:IV}(hx:xj l x)
  (E:st rb=some (.box [spI ca tw xw m,.sl tl xl,.raw (.map (some mN)),.sl tk xk,()])) (O:AllR IsLn lines xl) (ab:own st tl lines.length 2 S0) (U:AllR xj links xk) {A:Tag} (ac:own st' A (links.length+1) 1 S0) (J:subSt S0 st') (D:keepF 1 st st') :
  RS ca m W tw xw rb mN S0 (st'.put rb (some (.box [spI ca tw xw m,.sl tl xl,.raw (.map (some mN)),.sl A (xk++[x]),()]))) lines (links++[l]):=by
 obtain⟨ah,G,ag⟩:=h.sp;have hn:=h.num;have h1:rb≠m:=by rintro rfl;rw[E] at G;cases G
 have h2:rb≠mN:=by rintro rfl;rw[E] at hn;cases hn
 have aa:=D rb _ E (λn h=>by cases h);have put:∀ {t:Tag} {n k:Nat},own st' t n k S0->own (st'.put rb (some (.box [spI ca tw xw m,.sl tl xl,.raw (.map (some mN)),.sl A (xk++[x]),()]))) t n k S0:=λho=>ho.mono λg hg _=>by
  rw[dZ λe=>by rw[e,aa] at hg;cases hg];exact hg
 refine⟨⟨tl,xl,A,_,b_ ..,O,put (D.own ab (by decide)),U.snoc hx,by rw[lLa];exact put ac⟩,?_,⟨ah,?_,ag⟩,fM J h.off.1,h.off,h.ok,h.nd⟩
 ·rw[dZ h2.symm];exact D _ _ hn λn h=>by cases h
 ·rw[dZ h1.symm];exact D _ _ G λn h=>by cases h
def Qh (G:Gl gl)(T:Gt gl)(ca:Nat)(s:Sq)(x:IV)(hx:IsSq s x)(hs:ig s)(st:ISt):ICall prog gl 38 [.raw (.int .u8 (ca:Int)),x] st (ExplR ca s st):=by
 have hb:=λst=>BS gl G ca s x hx hs st;have aY:=hx;obtain⟨t1,x1,t2,x2,rfl,e1,i1,e2,i2⟩:=hx;refine ICall.intro (c:=cf prog gl [26] []) func38 rfl (by show _<=76;simp) (by kernel_rfl) ?_;simp only[go_sem,zE,zA,zL,reduceCtorEq];refine (hb _).mono ?_;rintro _ bs (⟨hc,rfl,rfl⟩|⟨hc,hv,rfl,rfl⟩|⟨hc,hv,m,tw,xw,hm,ah,ag,rfl,rfl⟩)
 ·simp only[go_sem,zE,show decide ((2:Int)=0)=false from rfl];exact dw (show ExplR _ _ _ _ _ from .inl ⟨hc,rfl,rfl⟩)
 ·simp only[go_sem,zE,show decide ((190:Int)=0)=false from rfl];exact dw (show ExplR _ _ _ _ _ from .inr (.inl ⟨hc,hv,rfl,rfl⟩))
 ·obtain⟨hS,_,av,ai⟩:=si hc hv;have al:=BR hv;have J:=BC ai;have au:=λst=>wX gl T ca m (spW s) tw xw ah ag hS.srt (eM av (by omega)) s _ aY ⟨by omega,by omega⟩ ai st;simp only[go_sem,zE,zA,zL,fits,Qg,d_];refine λmN=>fc λac=>λrb=>fc λA=>?_;refine (au _).mono ?_;rintro z _ ⟨hz,rfl⟩;have n1:mN≠m:=by rintro rfl;rw[b_] at ac;cases ac
  rw[dZ n1] at ac;have n2:rb≠mN:=by rintro rfl;rw[b_] at A;cases A
  rw[dZ n2] at A;have n3:rb≠m:=by rintro rfl;rw[b_] at A;cases A
  rw[dZ n3] at A;have be:RS ca m (spW s) tw xw rb mN st (((st.put m (some (.map .pl []))).put mN (some (.map .str []))).put rb (some (.box [spI ca tw xw m,(),.raw (.map (some mN)),(),()]))) [] [] :=
   ⟨⟨_,_,_,_,b_ ..,AllR.nil,own.nil ..,AllR.nil,own.nil ..⟩,by rw[dZ n2.symm,b_];rfl,⟨[],by rw[dZ n3.symm,dZ n1.symm,b_],(λp hp=>by cases hp)⟩,
    fM (fM (gj hm) ac) A,⟨A,ac,hm⟩,(λ_ h=>by cases h),kE⟩
  have aH:=sc (spW s) s.l;have aG:=sc (spW s) s.r;obtain⟨aW,aV⟩:=HW (eM av (by omega)) J ⟨eM aH al.1,eM aG al.2⟩;have bb:=HV gl ca m (spW s) tw xw rb mN st _ [] [] be (mW (spW s) (s.l,s.r)) aW aV z hz (fe _);obtain⟨ta,tb,rfl,ea,eb⟩:=id hz;simp only[go_sem,zE,zA];refine bb.mono ?_;rintro _ s1 (⟨n,hn,_⟩|⟨_,⟨aJ,_⟩|⟨_,rfl,aL,_⟩⟩)
  ·simp at hn
  ·simp at aJ
  ·have aO:ExS ca (spW s) (nf (s.l,s.r)) ([]++[mW (spW s) (s.l,s.r)]) []:=by
    refine⟨⟨_,rfl,wV hS.srt ai⟩,λp hp=>?_,λp hp=>?_,λk l hk=>by simp at hk,by simp⟩
    ·rw[eY.1 hp];exact J
    ·rw[eY.1 hp,wV hS.srt ai];exact .refl
   have aN:errN ca s=runF (spW s) (calJ ca) 20001 0 ([]++[mW (spW s) (s.l,s.r)]):=by unfold errN;rw[c_ hc,c_ hv];rfl
   generalize []++[mW (spW s) (s.l,s.r)]=af at aL aO aN;simp only[go_sem];refine LoopC.dec 20001 (λq fr st' ds=>∃lines links,q+links.length=20001/\RS ca m (spW s) tw xw rb mN st st' lines links/\ExS ca (spW s) (nf (s.l,s.r)) lines links/\errN ca s=runF (spW s) (calJ ca) q links.length lines/\fr 6=(spI ca tw xw m)/\fr 8=(ptr rb)/\fr 9=(links.length:Int)/\ds=[]) ?_ ?_
   ·simp only[go_sem,zE];exact⟨af,[],rfl,aL,aO,aN,rfl⟩
   ·rintro q fr s2 _ ⟨lines,links,hq,hR,U,hF,f6,f8,f9,rfl⟩;obtain⟨tl,xl,tk,xk,A,am,aD,aA,a7⟩:=hR.ex;have bw:links.length<=lines.length:=by
     rcases gO lines.length links.length with h|h
     ·obtain⟨a,ha,_⟩:=U.done lines.length _ (eN h);rw[mj (eu _)] at ha;cases ha
     ·exact h
    have bk:=am.1;rcases gO links.length lines.length with ao|aJ
    ·obtain⟨ln,J⟩:=ed ao;have aq:=lMg J;obtain⟨q,rfl⟩:∃k,q=k+1:=⟨q-1,by have:=U.len;omega⟩
     simp only[runF,J] at hF;have ae:=U.ok ln aq;obtain⟨z,hz,ay⟩:=am.2 _ ln J;have bd:=λst=>BL gl ca m (spW s) hS tw xw ah ag ln ae z ay st;have bc:=P3 gl G T ca m (spW s) hS av tw xw ah ag rb mN st s2 lines links hR U.len links.length ln J ae;obtain⟨ta,tb,rfl,ea,eb⟩:=ay;simp only[go_sem,zE,zB,zA,f6,f8,f9,A,fits,lt_i (show links.length<xl.length by omega),hz,iNn,ec aD.es];intro _;refine (bd _).mono ?_;rintro _ s2 ⟨⟨zf,rfl,aX⟩,rfl⟩;obtain⟨y1,y2,y3,y4,y5,y6,rfl⟩:=aX.agg;have aK:=BK (W:=spW s) ae.1;rcases Bool.eq_false_or_eq_true (axW (spW s) ln).isSome with E|E
     ·have D:=aK.1 E;simp only[go_sem,zE,zA,zM,zL,fits,E,f8,A,fg];refine je a7 aA.1 hR.base rfl (by simp[fits,IV.one]) (by simp only;omega) (by omega) λaU s3 w1 w2 w3=>?_;have O:=w3 rb _ A (λn h=>by cases h);simp only[go_sem,zE,zA,zL,f6,f8,f9,O];have aj:=U.add hS J (l:=[]) (more:=[]) (.inl ⟨D,rfl⟩) (.inl rfl) (λp hp=>by cases hp) (by rw[fL];exact U.len);rw[fL] at aj;have hk:=U.len;rw[c_ D] at hF;exact⟨q,by omega,lines,links++[[]],by rw[lLa];simp only[fa,fb];omega,hR.link ⟨_,[],rfl,.inl rfl,AllR.nil⟩ A am aD aA w1 w2 w3,aj,by rw[lLa];exact hF,by rw[ek ao (by omega),lLa];rfl⟩
     ·have D:¬ clN (spW s) ln:=λh=>by rw[aK.2 h] at E;cases E
      simp only[go_sem,zE,zA,zL,E,f8,f9];refine bc.mono ?_;rintro _ s3 (⟨t,ys,L,vs,more,rfl,ht,hys,a1,a8,a6,aF,aw,aa⟩|⟨rfl,an,ab,aa⟩|⟨rfl,ab,aa,more,p,g1,g2,g3,g4,g5⟩)
      ·obtain⟨bp,bn,bq,bo,O,az,aC,ak,aE⟩:=aw.ex;simp only[go_sem,zE,zA,zM,zL,d_,f8,O,fits,fg];refine je aE ak.1 aw.base rfl (by simp[fits,IV.one]) (by simp only;omega) (by omega) λaU s4 w1 w2 w3=>?_;have aB:=w3 rb _ O (λn h=>by cases h);simp only[go_sem,zE,zA,zL,f6,f8,f9,aB];have aj:=U.add hS J (l:=L) (more:=more) (.inr ⟨D,vs,a1,a8⟩) (.inr D) a6 aF;have hk:=U.len;rw[a_ D,aa,c_ rfl] at hF;exact⟨q,by omega,lines++more,links++[L],by rw[lLa];simp only[fa,fb];omega,aw.link ⟨_,ys,rfl,ht,hys⟩ O az aC ak w1 w2 w3,aj,by rw[lLa];exact hF,by rw[ek ao (by omega),lLa];rfl⟩
      ·simp only[go_sem,zE,show decide ((5:Int)=0)=false from rfl];exact⟨st,ab,.inr (.inr ⟨hc,hv,.inl ⟨5,⟨U.no5 hS aq D an,by rw[hF,a_ D,aa];rfl⟩,rfl,rfl⟩⟩)⟩
      ·simp only[go_sem,zE,show decide ((4:Int)=0)=false from rfl];exact⟨st,ab,.inr (.inr ⟨hc,hv,.inl ⟨4,⟨U.no4 hS aq D g1 g2 g3 g4 g5,by rw[hF,a_ D,aa];rfl⟩,rfl,rfl⟩⟩)⟩
    ·have aI:¬ links.length<xl.length:=by omega
     simp only[go_sem,zE,f8,f9,A,eI aI];intro _;have an:lines[links.length]?=none:=mj (by omega);have bf:errN ca s=0:=by
      rw[hF];cases q with
      | zero=>rfl
      | succ k=>simp only[runF,an]
     exact dw (show ExplR _ _ _ _ _ from .inr (.inr ⟨hc,hv,.inr ⟨m,tw,xw,rb,mN,lines,links,ah,ag,rfl,hR,U,by omega,bf⟩⟩))
end Go.Proofs.Tryz
namespace Go.Proofs.Tryz
open Go Go.Iv
def evK (u:Us)(ps:List Nat):List (Nat×Us):=ps.map λp=>(p,u)
def evL (i:Nat)(l:List Lk):List (Nat×Us):=l.zipIdx.flatMap λA=>evK (i,A.2) A.1.2.2
def evA (links:List (List Lk)):List (Nat×Us):=links.zipIdx.flatMap λA=>evL A.2 A.1
def UsOk (us:List (List Us))(E:List (Nat×Us)):Prop:=∀p u,(usAt us p).count u=E.count (p,u)
def BU {α β:Type} [BEq β] [LawfulBEq β](F:α×Nat->List β)(A:β->Nat)(hF:∀a i,∀x∈F (a,i),A x=i)(b:β):∀(l:List α) (k:Nat),((l.zipIdx k).flatMap F).count b=if k<=A b then ((l[A b-k]?).elim 0 λa=>(F (a,A b)).count b) else 0
 | [],k=>by simp
 | a::l,k=>by
  rw[List.zipIdx_cons,fE,kr,BU F A hF b l (k+1)];by_cases h1:A b=k
  ·rw[a_ (by omega),c_ (by omega),h1,gg];rfl
  ·have h0:(F (a,k)).count b=0:=List.count_eq_zero.2 λD=>h1 (hF a k b D);rw[h0,eT];by_cases h2:k<=A b
   ·rw[c_ (by omega),c_ h2,show A b-k=(A b-(k+1))+1 by omega,i_]
   ·rw[a_ (by omega),a_ h2]
def H6 {α β:Type}(F:α×Nat->List β){l:List α}{i:Nat}{a:α}(h:l[i]?=some a):(l.take (i+1)).zipIdx.flatMap F=(l.take i).zipIdx.flatMap F++F (a,i):=by
 have A:=(lGs h).1;rw[en h,List.zipIdx_append,kx,eO,eT,ly (by omega)];simp
def Qi {links:List (List Lk)}{i:Nat}{l:List Lk}(h:links[i]?=some l):evA (links.take (i+1))=evA (links.take i)++evL i l:=H6 _ h
def Qj {i j:Nat}{l:List Lk}{k:Lk}(h:l[j]?=some k):evL i (l.take (j+1))=evL i (l.take j)++evK (i,j) k.2.2:=H6 _ h
def Qk {u:Us}{ps:List Nat}{q p:Nat}(h:ps[q]?=some p):evK u (ps.take (q+1))=evK u (ps.take q)++[(p,u)]:=by
 unfold evK;rw[en h,fS];rfl
def Ql (links:List (List Lk))(p:Nat)(u:Us):(evA links).count (p,u)=(lkAt links u).count p:=by
 have hK:∀(u v:Us) (ps:List Nat),(evK v ps).count (p,u)=if v=u then ps.count p else 0:=λu v ps=>by
  unfold evK
  induction ps with
  | nil=>simp
  | cons a ps G =>
   rw[ff,List.count_cons,G,List.count_cons];by_cases h:v=u
   ·subst h;by_cases h2:a=p
    ·simp[h2]
    ·simp[h2]
   ·simp[h]
 have h1:=BU (λE:List Lk×Nat=>evL E.2 E.1) (λx:Nat×Us=>x.2.1) (λa i x A=>by
  obtain⟨D,_,A⟩:=gJ.1 A;obtain⟨q,_,rfl⟩:=eh.1 A;rfl) (p,u) links 0
 unfold evA;rw[h1,c_ (fe _),iG];unfold lkAt;cases hl:links[u.1]? with
 | none=>simp[]
 | some l =>
  simp only[Option.elim_some,fz];have h2:=BU (λD:Lk×Nat=>evK (u.1,D.2) D.1.2.2) (λx:Nat×Us=>x.2.2) (λa i x A=>by
   obtain⟨q,_,rfl⟩:=eh.1 A;rfl) (p,u) l 0
  unfold evL;rw[h2,c_ (fe _),iG];cases J:l[u.2]? with
  | none=>simp[]
  | some k =>
   simp only[Option.elim_some];rw[hK,c_ rfl]
def UsOk.nil (n:Nat):UsOk (List.replicate n []) []:=λp u=>by
 have:usAt (List.replicate n []) p=[]:=by
  unfold usAt;rw[ml];split<;>rfl
 rw[this];rfl
def UsOk.add {us:List (List Us)}{E:List (Nat×Us)}(h:UsOk us E){p:Nat}{u:Us}(hp:p<us.length):UsOk (us.set p (usAt us p++[u])) (E++[(p,u)]):=λp' A=>by
 have hs:usAt (us.set p (usAt us p++[u])) p'=if p'=p then usAt us p++[u] else usAt us p':=by
  unfold usAt;rw[iD];by_cases e:p=p'
  ·subst e;simp[hp]
  ·rw[a_ e,a_ λh=>e h.symm]
 rw[hs,kr,<- h p' A];by_cases e:p'=p
 ·subst e;rw[c_ rfl,kr];congr 1;by_cases D:u=A
  ·subst D;simp
  ·simp[D]
 ·rw[a_ e];have:[(p,u)].count (p',A)=0:=by simp[Ne.symm e]
  rw[this,jJ]
def wsOf (links:List (List Lk)):List (List Nat):=links.map λl=>l.map λk=>k.2.2.length
def H7 {links:List (List Lk)}(u:Us):atW (wsOf links) u=(((links[u.1]?).getD [])[u.2]?).map λk=>k.2.2.length:=by
 unfold atW wsOf;rw[fH];cases links[u.1]? with
 | none=>simp
 | some l=>simp
def Rnd.start {cl:Nat->Prop}{links:List (List Lk)}{hs D:List Nat}(aa:∀l∈links,∀k∈l,k.2.2≠[])(hl:hs.length=links.length)(hh:∀i x,hs[i]?=some x->(x=1/\cl i)\/(x=0/\¬ cl i))(hn:∀i,i∈D↔hs[i]?=some 1)(hnd:D.Nodup):Rnd cl links 2 hs (wsOf links) D:=by
 refine⟨hl,λu x G=>?_,λu U=>?_,λi x G=>?_,hn,hnd⟩
 ·rw[H7] at G;obtain⟨k,O,rfl⟩:=ga.1 G;unfold wt lkAt;rw[O];simp only[Option.elim_some];rw[List.filter_eq_self.2 λp _=>by simp[htG]]
 ·rw[H7];unfold lkAt at U;cases O:((links[u.1]?).getD [])[u.2]? with
  | none=>rw[O] at U;exact absurd rfl U
  | some k=>exact⟨_,rfl⟩
 ·refine⟨λh0=>?_,λk O hg=>?_⟩
  ·rcases hh i x G with⟨rfl,hc⟩|⟨rfl,_⟩
   ·exact⟨.inl hc,by omega⟩
   ·omega
  ·obtain rfl|rfl:k=0\/k=1:=by omega
   ·exact hg.elim
   ·have hc:cl i:=by
     rcases hg with hc|⟨lk,A,hp⟩
     ·exact hc
     ·cases E:links[i]? with
      | none=>rw[E] at A;cases A
      | some l =>
       rw[E] at A;cases J:lk.2.2 with
       | nil=>exact absurd J (aa l (lMg E) lk A)
       | cons p ps=>exact (hp p (by rw[J];exact .head _)).elim
    rcases hh i x G with⟨rfl,_⟩|⟨rfl,hn⟩
    ·exact⟨by omega,by omega⟩
    ·exact absurd hc hn
def Qm {j r:Bool}{f:Fm}{t:Nat×List Sn}(h:t∈addF j f r):t.2≠[]:=by
 unfold addF at h;split at h
 case h_5=>split at h<;>simp at h<;>(try rcases h with rfl|rfl)<;>(try subst h)<;>simp
 all_goals (first|(simp at h;subst h;simp)|(simp at h))
def Qn {W:List Fm}{j:Bool}{ln:Ln}{v:Mv}(h:some v∈mvsN W j ln):v.2.2≠[]:=by
 obtain⟨p,_,h⟩:=gJ.1 (H4 h);unfold mX at h;cases D:W[p.1]? with
 | none=>simp only[D] at h;cases h
 | some f =>
  simp only[D] at h;obtain⟨t,ht,rfl⟩:=eh.1 h;obtain⟨E,A,rfl⟩:=eh.1 ht;have:=Qm A;simpa[mvT] using this
def clL (W:List Fm)(lines:List Ln)(i:Nat):Prop:=∃ln,lines[i]?=some ln/\clN W ln
structure LksAll (ca:Nat)(W:List Fm)(lines:List Ln)(links:List (List Lk)):Prop where
 ok:∀ln∈lines,LnOk W ln
 done:∀(k:Nat) (l:List Lk),links[k]?=some l->∃ln,lines[k]?=some ln/\LkS W (calJ ca) lines ln l
 len:links.length=lines.length
def LksAll.lk {ca:Nat}{W:List Fm}{lines:List Ln}{links:List (List Lk)}(h:LksAll ca W lines links)(hS:SpOk ca W){l:List Lk}(hl:l∈links){k:Lk}(U:k∈l):k.2.2≠[]/\k.2.2.length<=2/\k.1<256/\k.2.1<W.length/\∀p∈k.2.2,p<links.length:=by
 obtain⟨i,hi,rfl⟩:=gS.1 hl;obtain⟨ln,O,⟨_,h0⟩|⟨_,vs,J,E⟩⟩:=h.done i _ (eN hi)
 ·rw[h0] at U;cases U
 ·obtain⟨q,hq,rfl⟩:=gS.1 U;obtain⟨v,hv⟩:=ed (show q<vs.length by rw[<- E.1];exact hq);obtain⟨k,G,D⟩:=E.2 q v hv;rw[eN hq] at G;cases G;have A:some v∈mvsN W (calJ ca) ln:=by rw[J];exact ir (lMg hv)
  have h2:=xm hS (h.ok ln (lMg O)) A;refine⟨λe=>Qn A (fw (by rw[<- D.2.2.1,e];rfl)),by rw[D.2.2.1];exact h2.2.2.1,by rw[D.1];exact h2.2.1,by rw[D.2.1];exact h2.1,λp hp=>?_⟩;obtain⟨e,he,rfl⟩:=gS.1 hp;obtain⟨p',hp1,_⟩:=D.2.2.2 e _ (eN he);rw[h.len];exact (lGs hp1).1
def LksAll.ht {ca:Nat}{W:List Fm}{lines:List Ln}{links:List (List Lk)}(h:LksAll ca W lines links)(hS:SpOk ca W):∀(n i:Nat) (ln:Ln),lines[i]?=some ln->(htG (clL W lines) links n i↔HtS (calJ ca) n (lnW W ln))
 | 0,_,_,_=>Iff.rfl
 | n+1,i,ln,A=>by
  have hi:=(lGs A).1;have D:=h.ok ln (lMg A);obtain⟨l,hl⟩:=ed (show i<links.length by rw[h.len];exact hi);have ag:clL W lines i↔ClF (lnW W ln).1 (lnW W ln).2:=by
   rw[<- pA hS.srt D];exact⟨λ⟨a,O,hc⟩=>by rw[A] at O;cases O;exact hc,λhc=>⟨ln,A,hc⟩⟩
  rw[Bx];show (clL W lines i\/∃lk∈(links[i]?).getD [],∀p∈lk.2.2,htG (clL W lines) links n p)↔_;rw[ag,hl,fz];obtain⟨a,O,hs⟩:=h.done i l hl;rw[A] at O;cases O;rcases hs with⟨hc,_⟩|⟨hc,vs,ae,G⟩
  ·exact⟨λ_=>.inl ((pA hS.srt D).1 hc),λ_=>.inl ((pA hS.srt D).1 hc)⟩
  ·refine or_congr Iff.rfl ?_;rw[BQ hS D ae];constructor
   ·rintro⟨lk,hm,hp⟩;obtain⟨q,U,rfl⟩:=gS.1 hm;obtain⟨v,hv⟩:=ed (show q<vs.length by rw[<- G.1];exact U);obtain⟨k,hk,ho⟩:=G.2 q v hv;rw[eN U] at hk;cases hk;refine⟨mvW W v,ir (lMg hv),λp E=>?_⟩;obtain⟨z,hz,rfl⟩:=eh.1 E;obtain⟨e,he,rfl⟩:=gS.1 hz;have J:e<(l[q]).2.2.length:=by rw[ho.2.2.1];exact he
    obtain⟨p',hp1,hp2⟩:=ho.2.2.2 e _ (eN J);rw[eN he] at hp2;cases hp2;exact (LksAll.ht h hS n _ _ hp1).1 (hp _ (List.getElem_mem J))
   ·rintro⟨m,hm,hp⟩;obtain⟨v,hv,rfl⟩:=eh.1 hm;obtain⟨q,U,rfl⟩:=gS.1 hv;obtain⟨k,hk,ho⟩:=G.2 q _ (eN U);refine⟨k,lMg hk,λp E=>?_⟩;obtain⟨e,he,rfl⟩:=gS.1 E;obtain⟨p',hp1,hp2⟩:=ho.2.2.2 e _ (eN he);exact (LksAll.ht h hS n _ _ hp1).2 (hp _ (ir (lMg hp2)))
def LksAll.hF {ca:Nat}{W:List Fm}{lines:List Ln}{links:List (List Lk)}(h:LksAll ca W lines links)(hS:SpOk ca W){i x:Nat}{ln:Ln}(A:lines[i]?=some ln)(D:LstG (clL W lines) links i x):Tryz.hF (calJ ca) (lnW W ln)=x :=
 Bw (λh0=>(h.ht hS x i ln A).1 (D.1 h0)) λn E=>D.2 n ((h.ht hS n i ln A).2 E)
def ExS.all {ca:Nat}{W:List Fm}{s0:Sn}{lines:List Ln}{links:List (List Lk)}(h:ExS ca W s0 lines links)(hl:links.length=lines.length):LksAll ca W lines links:=⟨h.ok,h.done,hl⟩
end Go.Proofs.Tryz
namespace Go.Iv
open Go
def BV {esc:List Nat}{dst:Option Nat}{e:TypeId×Bool×Nat×Nat}{tg:Tag}{zs:List IV}{y:IV}{R:Rt}{st S0:ISt}{ds:List Dfd}{n s:Nat}(h:own st tg n s S0)(U:zs.length=n)(D:subSt S0 st)(he:e.2.2.1=s)
  (hf:fits e.2.1 e.2.2.1 y=true) (ac:(n+1)*e.2.2.2<=140737488355328) (O:n+1<=140737488355328)
  (k:∀J st',own st' J (n+1) s S0->subSt S0 st'->(∀b o,st b=some o->tg.cap≠.app b->st' b=some o)->(∀g,J.cap=.app g->tg.cap=.app g\/st g=none)->R (.val (.sl J (zs++[y]))) st' ds)
  (ab:jc esc dst=false:=by first|rfl|simp[jc]):appV esc dst e tg zs [y] R st ds:=by
 subst U he;unfold appV;refine⟨by simp[hf],⟨ac,O⟩,?_⟩;have E:∀g,st g=none->∀m,subSt S0 (st.put g (some (.front m e.2.2.1)))/\(∀b o,st b=some o->(st.put g (some (.front m e.2.2.1))) b=some o)/\S0 g=none:=λg A m=>by
  have h0:=kX D A;refine⟨fM D h0,λb o G=>?_,h0⟩;rw[ISt.put_apply];grind
 rcases h with⟨h0,hc⟩|rfl|⟨g0,rfl,h1,h2⟩
 ·have hz:zs=[]:=fw h0;subst hz;rw[hc];simp only[ab,bFt,et];intro g A;obtain⟨a1,a2,a3⟩:=E g A 1;exact k _ _ (.inr (.inr ⟨g,rfl,b_ _ _ _,a3⟩)) a1 (λb o G _=>a2 b o G) λg' h=>by cases h;exact .inr A
 ·refine⟨rfl,λg A=>?_⟩;obtain⟨a1,a2,a3⟩:=E g A (zs.length+1);exact k _ _ (.inr (.inr ⟨g,rfl,b_ _ _ _,a3⟩)) a1 (λb o G _=>a2 b o G) λg' h=>by cases h;exact .inr A
 ·refine⟨rfl,h1,λg A=>?_⟩;have aa:S0 g=none:=by
   rcases A with rfl|A
   ·exact h2
   ·exact kX D A
  refine k _ _ (.inr (.inr ⟨g,rfl,b_ _ _ _,aa⟩)) (fM (fM D h2) aa) (λb o G hn=>?_) λg' h=>?_
  ·have ae:b≠g0:=λe=>hn (by rw[e]);have ag:b≠g:=by
    rintro rfl;rcases A with h|h
    ·exact ae h
    ·rw[h] at G;cases G
   rw[dZ ag,dZ ae];exact G
  ·cases h;rcases A with rfl|A
   ·exact .inl rfl
   ·exact .inr A
end Go.Iv
namespace Go.Proofs.Tryz
open Go Go.Iv
set_option maxRecDepth 4000
variable (gl:Nat->Option IV)
def i32I (l:List Nat):List IV:=l.map λn:Nat=>.raw (.int .i32 (n:Int))
def H8 {l:List Nat}{i n:Nat}(h:l[i]?=some n):(i32I l)[i]?=some (.raw (.int .i32 (n:Int))):=by simp[i32I,h]
def uT (l:List Nat):(i32I l).length=l.length:=by simp[i32I]
def to_c (k:Lk)(x:IV)(D:IsLk k x)(E:k.2.2.length<=2)(st:ISt):ICall prog gl 70 [x] st (λr st'=>(∃t,r=.sl t (i32I k.2.2)/\okEs t 1)/\st'=st):=by
 obtain⟨p,q,rfl,A⟩:=D;refine ICall.intro (c:=cf prog gl [] [] [1]) func70 rfl (by show _<=7;simp) (by kernel_rfl) ?_;simp only[go_sem,zE,zB,zA,zL,fits,Bp E];have e:i32I k.2.2=List.take k.2.2.length [.raw (.int .i32 (p:Int)),.raw (.int .i32 (q:Int))]:=by
  conv=>lhs;rw[A]
  simp[i32I,List.map_take]
 rw[<- e];exact dw ⟨⟨_,rfl,.inr rfl⟩,rfl⟩
def u8J (l:List Nat):List IV:=l.map λn:Nat=>.raw (.int .u8 (n:Int))
def BW {l:List Nat}{i n:Nat}(h:l[i]?=some n):(u8J l)[i]?=some (.raw (.int .u8 (n:Int))):=by simp[u8J,h]
def xo (l:List Nat):(u8J l).length=l.length:=by simp[u8J]
def H9 (l:List Nat)(i n:Nat):(u8J l).set i (.raw (.int .u8 (n:Int)))=u8J (l.set i n):=by simp[u8J,jZ]
def H_ (l:List Nat)(i n:Nat):(eJ l).set i (n:Int)=eJ (l.set i n):=by simp[eJ,jZ]
def qm {cs:List IV}{k:Nat}{y:IV}(h:k<cs.length):gF cs k [y]=cs.set k y:=by
 unfold gF;rw[List.set_eq_take_append_cons_drop,c_ h];simp
abbrev slG (g n:Nat):IV:=.raw (.slice (some ⟨g,0,none⟩) n n)
def rwsI (gs:List Nat)(ws:List (List Nat)):List IV:=List.zipWith (λg w=>slG g w.length) gs ws
structure Mem (gW gH rb n:Nat)(pre:List IV)(gs:List Nat)(st:ISt)(hs:List Nat)(ws:List (List Nat)):Prop where
 rbx:st rb=some (.box (pre++[slG gH n]))
 hts:st gH=some (.box (eJ hs))
 hl:hs.length=n
 wts:st gW=some (.box (rwsI gs ws++List.replicate (n-gs.length) (.sl ⟨true,.nil,0⟩ [])))
 gll:gs.length=ws.length
 row:∀(k g:Nat) (w:List Nat),gs[k]?=some g->ws[k]?=some w->st g=some (.box (u8J w))
 nd:(gW::gH::rb::gs).Nodup
 small:∀w∈ws,∀x∈w,x<256
def BX {gs:List Nat}{ws:List (List Nat)}{k g:Nat}{w:List Nat}(h1:gs[k]?=some g)(h2:ws[k]?=some w):(rwsI gs ws)[k]?=some (slG g w.length):=by
 unfold rwsI;rw[List.getElem?_zipWith,h1,h2]
end Go.Proofs.Tryz
namespace Go.Proofs.Tryz
open Go Go.Iv
def IsUs (u:Us)(y:IV):Prop:=y=.agg [.raw (.int .i32 (u.1:Int)),.raw (.int .i32 (u.2:Int))]
structure Usr (gU:Nat)(S0 st:ISt)(us:List (List Us)):Prop where
 ex:∃cells,st gU=some (.box cells)/\cells.length=us.length/\(∀(p:Nat) (l:List Us),us[p]?=some l->∃t ys,cells[p]?=some (.sl t ys)/\AllR IsUs l ys/\own st t l.length 2 S0) /\
  ∀(p q:Nat) (t t':Tag) (ys ys':List IV) (g:Nat),cells[p]?=some (.sl t ys)->cells[q]?=some (.sl t' ys')->t.cap=.app g->t'.cap=.app g->p=q
def sj {st:ISt}{A:Tag}{n s g:Nat}{S0:ISt}(h:own st A n s S0)(hc:A.cap=.app g):st g=some (.front n s):=by
 rcases h with⟨_,h⟩|rfl|⟨D,rfl,h,_⟩
 ·rw[h] at hc;cases hc
 ·cases hc
 ·cases hc;exact h
def nmem {x g:Nat}{l:List Nat}(h:x ∉ l)(A:g∈l):x≠g:=λe=>h (by rw[e];exact A)
structure PS (gU gW gH rb n:Nat)(pre:List IV)(S0:ISt)(gs:List Nat)(st:ISt)(hs:List Nat)(ws:List (List Nat))(us:List (List Us)):Prop where
 mem:Mem gW gH rb n pre gs st hs ws
 usr:Usr gU S0 st us
 base:subSt S0 st
 off:S0 gU=none/\S0 gW=none/\S0 gH=none/\S0 rb=none/\∀g∈gs,S0 g=none
 gu:gU ∉ gW::gH::rb::gs
 ul:us.length=n
section
variable {gU gW gH rb n:Nat}{pre:List IV}{S0:ISt}{gs:List Nat}{st:ISt}{hs:List Nat}{ws:List (List Nat)}{us:List (List Us)}
def Usr.keep {st':ISt}(h:Usr gU S0 st us)(h1:st' gU=st gU)(h2:∀g k,st g=some (.front k 2)->st' g=st g):Usr gU S0 st' us:=by
 obtain⟨cells,c1,c2,c3,c4⟩:=h.ex;refine⟨cells,h1.trans c1,c2,λp l hp=>?_,c4⟩;obtain⟨t,ys,G,E,D⟩:=c3 p l hp;exact⟨t,ys,G,E,D.mono λg A _=>(h2 g _ A).trans A⟩
def Mem.keep {st':ISt}(h:Mem gW gH rb n pre gs st hs ws)(A:∀b cs,st b=some (.box cs)->b∈gW::gH::rb::gs->st' b=some (.box cs)):Mem gW gH rb n pre gs st' hs ws :=
 ⟨A _ _ h.rbx (by simp),A _ _ h.hts (by simp),h.hl,A _ _ h.wts (by simp),h.gll,λk g w D E=>A _ _ (h.row k g w D E) (by simp[lMg D]),h.nd,h.small⟩
def Mem.ne (h:Mem gW gH rb n pre gs st hs ws):gW≠gH/\gW≠rb/\gW ∉ gs/\gH≠rb/\gH ∉ gs/\rb ∉ gs/\gs.Nodup:=by
 have:=h.nd;simp only[jo,eK,not_or] at this;obtain⟨⟨a,b,c⟩,⟨d,e⟩,f,g⟩:=this;exact⟨a,b,c,d,e,f,g⟩
def PS.une (h:PS gU gW gH rb n pre S0 gs st hs ws us):gU≠gW/\gU≠gH/\gU≠rb/\gU ∉ gs:=by
 have:=h.gu;simp only[eK,not_or] at this;exact this
def sn {st:ISt}{b:Nat}{cs:List IV}{o:Option IObj}(D:st b=some (.box cs)){g k s:Nat}(A:st g=some (.front k s)):(st.put b o) g=st g:=by
 rw[dZ];rintro rfl;rw[D] at A;cases A
def PS.setH (h:PS gU gW gH rb n pre S0 gs st hs ws us)(i v:Nat):PS gU gW gH rb n pre S0 gs (st.put gH (some (.box (eJ (hs.set i v))))) (hs.set i v) ws us:=by
 obtain⟨a,b,c,d,e,f,g⟩:=h.mem.ne;obtain⟨U,E,O,J⟩:=h.une;refine⟨⟨by rw[dZ d.symm];exact h.mem.rbx,b_ ..,by rw[lj];exact h.mem.hl,by rw[dZ a];exact h.mem.wts,h.mem.gll,λk D w A G=>?_,h.mem.nd,h.mem.small⟩,
  h.usr.keep (dZ E) λD k A=>sn h.mem.hts A,fM h.base h.off.2.2.1,h.off,h.gu,h.ul⟩
 rw[dZ (nmem e (lMg A)).symm];exact h.mem.row k D w A G
def PS.row (h:PS gU gW gH rb n pre S0 gs st hs ws us){g:Nat}(G:st g=none){w:List Nat}(hw:∀x∈w,x<256)(hl:gs.length<n) :
  PS gU gW gH rb n pre S0 (gs++[g]) ((st.put g (some (.box (u8J w)))).put gW (some (.box ((rwsI gs ws++List.replicate (n-gs.length) (IV.sl ⟨true,.nil,0⟩ [])).set gs.length (slG g w.length))))) hs (ws++[w]) us:=by
 obtain⟨a,b,c,d,e,f,nd⟩:=h.mem.ne;obtain⟨u1,u2,u3,u4⟩:=h.une;have E:∀b cs,st b=some (.box cs)->g≠b:=λb cs hb e=>by rw[e] at G;rw[G] at hb;cases hb
 have O:=E _ _ h.mem.wts;have ab:=E _ _ h.mem.hts;have aa:=E _ _ h.mem.rbx;obtain⟨cells,uc,_⟩:=h.usr.ex;have U:=E _ _ uc;have J:g ∉ gs:=λhm=>by
  obtain⟨k,hk,rfl⟩:=gS.1 hm;obtain⟨w',D⟩:=ed (l:=ws) (k:=k) (by rw[<- h.mem.gll];exact hk);exact E _ _ (h.mem.row k _ w' (eN hk) D) rfl
 have af:(rwsI gs ws).length=gs.length:=by unfold rwsI;rw[List.length_zipWith,h.mem.gll,Nat.min_self]
 refine⟨⟨by rw[dZ b.symm,dZ aa.symm];exact h.mem.rbx,by rw[dZ a.symm,dZ ab.symm];exact h.mem.hts,h.mem.hl,?_,by simp[h.mem.gll],λk g' w' A D=>?_,?_,λw' D=>?_⟩,
  h.usr.keep (by rw[dZ u1,dZ U.symm]) (λg' k A=>by rw[dZ (λe=>by rw[e,h.mem.wts] at A;cases A),dZ (λe=>by rw[e,G] at A;cases A)]),fM (fM h.base (kX h.base G)) h.off.2.1,?_,?_,h.ul⟩
 ·rw[b_];congr 2;have hr:rwsI (gs++[g]) (ws++[w])=rwsI gs ws++[slG g w.length]:=by
   unfold rwsI;rw[List.zipWith_append h.mem.gll];rfl
  rw[hr,lLa,List.length_singleton,List.set_append_right _ _ (by omega),af,gg];obtain⟨m,hm⟩:∃m,n-gs.length=m+1:=⟨n-gs.length-1,by omega⟩
  rw[hm,show n-(gs.length+1)=m by omega,List.replicate_succ,j4,fD];rfl
 ·rcases gO k gs.length with hk|hk
  ·rw[gw hk] at A;rw[gw (by rw[<- h.mem.gll];exact hk)] at D;have hm:=lMg A;rw[dZ (nmem c hm).symm,dZ (nmem J hm).symm];exact h.mem.row k g' w' A D
  ·have ag:k=gs.length:=by
    have:=(lGs A).1;rw[lLa,List.length_singleton] at this;omega
   subst ag;rw[gD (eu _),gg] at A;rw[h.mem.gll,gD (eu _),gg] at D;cases A;cases D;rw[dZ O,b_]
 ·simp only[jo,eK,eQ,h_,gq,not_or];exact⟨⟨a,b,c,O.symm⟩,⟨d,e,ab.symm⟩,⟨f,aa.symm⟩,mu.2 ⟨nd,by simp,λx ae y hy=>by rw[eY.1 hy];rintro rfl;exact J ae⟩⟩
 ·rcases eQ.1 D with hm|hm
  ·exact h.mem.small w' hm
  ·rw[eY.1 hm];exact hw
 ·refine⟨h.off.1,h.off.2.1,h.off.2.2.1,h.off.2.2.2.1,λg' A=>?_⟩;rcases eQ.1 A with hm|hm
  ·exact h.off.2.2.2.2 g' hm
  ·rw[eY.1 hm];exact kX h.base G
 ·simp only[eK,eQ,h_,gq,not_or];exact⟨u1,u2,u3,u4,U.symm⟩
def PS.setW (h:PS gU gW gH rb n pre S0 gs st hs ws us){i g:Nat}{w:List Nat}(O:gs[i]?=some g)(E:ws[i]?=some w)(j:Nat){v:Nat}(hv:v<256) :
  PS gU gW gH rb n pre S0 gs (st.put g (some (.box (u8J (w.set j v))))) hs (ws.set i (w.set j v)) us:=by
 obtain⟨a,b,c,d,e,f,nd⟩:=h.mem.ne;obtain⟨u1,u2,u3,u4⟩:=h.une;have J:=lMg O;have G:rwsI gs (ws.set i (w.set j v))=rwsI gs ws:=by
  unfold rwsI;refine lg λk=>?_;rw[List.getElem?_zipWith,List.getElem?_zipWith,iD];by_cases e:i=k
  ·subst e;rw[c_ rfl,c_ (lGs E).1,E,O];simp
  ·rw[a_ e]
 refine⟨⟨by rw[dZ (nmem f J)];exact h.mem.rbx,by rw[dZ (nmem e J)];exact h.mem.hts,h.mem.hl,by rw[G,dZ (nmem c J)];exact h.mem.wts,by rw[lj];exact h.mem.gll,λk g' w' D A=>?_,h.mem.nd,λw' A x U=>?_⟩,
  h.usr.keep (dZ (nmem u4 J)) (λg' k D=>sn (h.mem.row i g w O E) D),fM h.base (h.off.2.2.2.2 g J),h.off,h.gu,h.ul⟩
 ·rw[iD] at A;split at A
  ·rename_i e;subst e;rw[c_ (lGs E).1] at A;cases A;rw[O] at D;cases D;exact b_ ..
  ·rename_i e;have aa:g'≠g:=λeg=>by
    subst eg;obtain⟨h1,h2⟩:=lGs O;obtain⟨h3,h4⟩:=lGs D;exact e ((List.getElem_inj nd).1 (h2.trans h4.symm))
   rw[dZ aa];exact h.mem.row k g' w' D A
 ·rcases List.mem_or_eq_of_mem_set A with A|rfl
  ·exact h.mem.small w' A x U
  ·rcases List.mem_or_eq_of_mem_set U with U|rfl
   ·exact h.mem.small w (lMg E) x U
   ·exact hv
def PS.addU (h:PS gU gW gH rb n pre S0 gs st hs ws us){p:Nat}{l:List Us}{u:Us}{y:IV}(hy:IsUs u y)(hp:us[p]?=some l){cells ys:List IV}{t A:Tag}{st':ISt}(hc:st gU=some (.box cells))(ht:cells[p]?=some (.sl t ys))(ac:own st' A (l.length+1) 2 S0)(ab:subSt S0 st')
  (G:∀b o,st b=some o->t.cap≠.app b->st' b=some o) (ae:∀g,A.cap=.app g->t.cap=.app g\/st g=none) :
  PS gU gW gH rb n pre S0 gs (st'.put gU (some (.box (cells.set p (.sl A (ys++[y])))))) hs ws (us.set p (l++[u])):=by
 obtain⟨ai,c1,c2,c3,c4⟩:=h.usr.ex;rw[hc] at c1;cases c1;obtain⟨t0,aA,k1,k2,k3⟩:=c3 p l hp;rw[ht] at k1;cases k1;have J:∀b cs,st b=some (.box cs)->st' b=some (.box cs):=λb cs hb=>G b _ hb λe=>by
  rw[sj k3 e] at hb;cases hb
 have aa:p<cells.length:=(lGs ht).1;have aj:=J _ _ hc;refine⟨h.mem.keep λb cs hb hm=>by rw[dZ (nmem h.gu hm).symm];exact J b cs hb,⟨_,b_ ..,by rw[lj,lj];exact c2,λq l' D=>?_,λq q' t1 t2 y1 E g h1 h2 h3 h4=>?_⟩,fM ab h.off.1,h.off,h.gu,by rw[lj];exact h.ul⟩
 ·have O:∀ {t2:Tag} {m:Nat},own st' t2 m 2 S0->own (st'.put gU (some (.box (cells.set p (.sl A (ys++[y])))))) t2 m 2 S0:=λho=>ho.mono λg hg _=>by
   rw[dZ λe=>by rw[e,aj] at hg;cases hg];exact hg
  rw[iD] at D ⊢;split at D
  ·rename_i e;subst e;rw[c_ (lGs hp).1] at D;cases D;exact⟨A,_,by rw[c_ aa,c_ rfl],k2.snoc hy,by rw[lLa];exact O ac⟩
  ·rename_i e;rw[a_ e];obtain⟨t2,E,g1,g2,g3⟩:=c3 q l' D;refine⟨t2,E,g1,g2,O ?_⟩;rcases g3 with hz|rfl|⟨g',rfl,an,am⟩
   ·exact .inl hz
   ·exact .inr (.inl rfl)
   ·exact .inr (.inr ⟨g',rfl,G g' _ an λU=>e (c4 p q t _ ys _ g' ht g1 U rfl),am⟩)
 ·have key:∀(q:Nat) (t2:Tag) (E:List IV) (g:Nat),q≠p->cells[q]?=some (.sl t2 E)->t2.cap=.app g->A.cap=.app g->False:=λq t2 E g ak D ag av=>by
   rcases ae g av with h0|h0
   ·exact ak (c4 q p t2 t E ys g D ht ag h0)
   ·obtain⟨lq,al⟩:=ed (l:=us) (k:=q) (by rw[<- c2];exact (lGs D).1);obtain⟨t3,y3,g1,_,g3⟩:=c3 q lq al;rw[D] at g1;cases g1;rw[sj g3 ag] at h0;cases h0
  rw[iD] at h1 h2;by_cases e1:p=q
  ·by_cases U:p=q'
   ·exact e1.symm.trans U
   ·subst e1;rw[c_ rfl,c_ aa] at h1;rw[a_ U] at h2;cases h1;exact (key q' t2 E g (λe=>U e.symm) h2 h4 h3).elim
  ·rw[a_ e1] at h1;by_cases U:p=q'
   ·subst U;rw[c_ rfl,c_ aa] at h2;cases h2;exact (key q t1 y1 g (λe=>e1 e.symm) h1 h3 h4).elim
   ·rw[a_ U] at h2;exact c4 q q' t1 t2 y1 E g h1 h2 h3 h4
def PS.far (h:PS gU gW gH rb n pre S0 gs st hs ws us){O:Tag}{m:Nat}{st':ISt}(U:own st O m 1 S0)(E:subSt S0 st')(A:∀b o,st b=some o->O.cap≠.app b->st' b=some o):PS gU gW gH rb n pre S0 gs st' hs ws us:=by
 have D:∀b cs,st b=some (.box cs)->st' b=some (.box cs):=λb cs G=>A b _ G λe=>by
  rw[sj U e] at G;cases G
 obtain⟨cells,c1,_⟩:=h.usr.ex;exact⟨h.mem.keep λb cs G _=>D b cs G,h.usr.keep ((D _ _ c1).trans c1.symm) λg k J=>(A g _ J λe=>by rw[sj U e] at J;cases J).trans J.symm,E,h.off,h.gu,h.ul⟩
end
