/- The layer of ideal values, part Ob: regi -/
import Derived.Test.YtigeiecfkoimpaaGreatDoorJF
set_option linter.all false
namespace Go.Iv
open Go
def Cl (ops:List Oper)(x y:Oper):Prop:=pA x.op=true->∀d,y.dst=some d->d ∉ looks ops x
def tP {c:Cf}(G:c.dr=true){ops:List Oper}{x:Oper}{d:Nat}{ad:Ad}{fr:Fr}{pr:PR}{p:Ad×Fr}(J:pA x.op=true->d ∉ looks ops x)(O:j6 ad d)(hf:Fine c x.op ad fr pr)
  (E:after x.dst pr ad fr=some p):j6 p.1 d:=by
 cases hx:x.dst with
 | none =>
  rw[hx] at E;cases pr<;>simp only[after,dI,reduceCtorEq] at E<;>subst E<;>exact O
 | some e =>
  rw[hx] at E;obtain⟨a,s,rfl,_,h⟩:=rn E;intro y t off D;simp only[Ad.put_apply] at D;split at D
  ·rcases h with rfl|⟨t',aa,h1,rfl⟩
   ·cases D
   ·cases D;exact rm (J (hf.isA t off h1 G)) O (hf.adr t off h1)
  ·exact O y t off (ov D).1
def B2 {c:Cf}(G:c.dr=true){ops:List Oper}{x:Oper}(hx:x∈ops){ad:Ad}{fr:Fr}{pr:PR}{p:Ad×Fr}(hs:Safe ops ad)(hf:Fine c x.op ad fr pr)(D:after x.dst pr ad fr=some p):Safe ops p.1:=λe O=>by
 obtain⟨h1,h2⟩:=hs e O;refine⟨tP G (λaa=>(B1 O hx aa).1) h1 hf D,?_⟩;cases hd:x.dst with
 | none =>
  rw[hd] at D;cases pr<;>simp only[after,dI,reduceCtorEq] at D<;>subst D<;>exact h2
 | some d =>
  rw[hd] at D;obtain⟨a,s,rfl,_,h⟩:=rn D;simp only[Ad.put_apply];split
  ·rename_i J;rcases h with rfl|⟨t',E,h3,rfl⟩
   ·rfl
   ·exact absurd (hd.trans (dZ some J.symm)) (B1 O hx (hf.isA t' E h3 G)).2
  ·rw[h2];rfl
def wV {dst:Option Nat}{pr:PR}{ad:Ad}{fr:Fr}{p:Ad×Fr}(h:after dst pr ad fr=some p)(E:Ad)(fr':Fr):∃p',after dst pr E fr'=some p':=by
 cases dst with
 | none=>cases pr<;>first|exact⟨_,rfl⟩|cases h
 | some d =>
  obtain⟨a,s,_,D,_⟩:=rn h;exact⟨_,D _ _⟩
structure Pend (c:Cf)(ops:List Oper)(pre:List Oper)(i:Oper)(ad:Ad):Prop where
 mem:∀j∈pre,j∈ops
 sf:Safe ops ad
 ap:∀j∈pre,Ap c ops j i
 cl:pre.Pairwise (Cl ops)
 nj:∀j∈pre,∀d,j.dst=some d->j6 ad d
 ni:∀d,i.dst=some d->j6 ad d
def Pend.tail {c:Cf}(D:c.dr=true){ops:List Oper}{j:Oper}{pre:List Oper}{i:Oper}{ad:Ad}{fr:Fr}{pr:PR}{p:Ad×Fr}(h:Pend c ops (j::pre) i ad)(J:Fine c j.op ad fr pr)(G:after j.dst pr ad fr=some p):Pend c ops pre i p.1 where
 mem k E:=h.mem k (.tail _ E)
 sf:=B2 D (h.mem j (.head _)) h.sf J G
 ap k E:=h.ap k (.tail _ E)
 cl:=(jL.1 h.cl).2
 nj k E d hd:=tP D (λG=>(jL.1 h.cl).1 k E G d hd) (h.nj k (.tail _ E) d hd) J G
 ni d hd:=tP D (λ_=>(h.ap j (.head _)).e d hd) (h.ni d hd) J G
def One (c:Cf)(ops:List Oper)(i:Oper)(ad:Ad)(fr:Fr)(pr:PR):Prop:=∀R st ds,fw c ops i R ad fr st ds↔R pr st ds
def One.fine {c:Cf}{ops:List Oper}{i:Oper}{ad:Ad}{fr:Fr}{pr:PR}(h:One c ops i ad fr pr):Fine c i.op ad fr pr:=by
 have h1:fw c ops i (λp _ _=>p=pr) ad fr (λ_=>none) []:=(h _ _ _).2 rfl;have h2:=(h _ _ _).1 (pD h1);exact h2.2
def One.of_same {c:Cf}{ops:List Oper}{i:Oper}{ad D:Ad}{fr fr':Fr}{pr:PR}(h:One c ops i ad fr pr)(hs:SameAt c i.op ad D fr fr')(E:nI ops i fr fr'):One c ops i D fr' pr :=
 λR st ds=>by rw[<- pC hs E];exact h R st ds
def B3 {c:Cf}(O:c.dr=true){ops:List Oper}{i:Oper}{K:Kt}:∀(pre:List Oper) (ad:Ad) (fr:Fr) (st:ISt) (ds:List Dfd),Pend c ops pre i ad->(∀j∈pre,mf c.esc j.dst j.op=true) →
  vcK c ops pre (iS c ops i K) ad fr st ds->iS c ops i (vcK c ops pre K) ad fr st ds
 | [],ad,fr,st,ds,_,_,h=>h
 | j::pre,ad,fr,st,ds,G,ae,h=>by
  have aa:=G.ap j (.head _);rcases JI (c:=c) O (ops:=ops) (ad:=ad) (fr:=fr) (ae j (.head _)) with⟨pj,ho⟩|ho
  ·have E:One c ops j ad fr pj:=ho;obtain⟨q,hq,hK⟩:=yZg.1 ((E _ _ _).1 h);have J:=B3 O pre q.1 q.2 st ds (G.tail O E.fine hq) (λk hk=>ae k (.tail _ hk)) hK;have hs:=pE aa G.sf (λd hd=>G.nj j (.head _) d hd) E.fine hq;change fw c ops i (finK i.dst (vcK c ops (j::pre) K) ad fr) ad fr st ds;have D:fw c ops i (finK i.dst (vcK c ops pre K) q.1 q.2) q.1 q.2 st ds:=J;rw[<- pC hs.1 hs.2] at D;refine rj ?_ (pD D);rintro pi st' an ⟨h1,af⟩;obtain⟨r,hr,aj⟩:=yZg.1 h1;obtain⟨p,hp⟩:=wV hr ad fr;obtain⟨r',ac,ag⟩:=wU aa (λd hd=>G.nj j (.head _) d hd) (λd hd=>G.ni d hd) E.fine af hq hp;rw[hr] at ac;cases ac;have ab:=pE aa.symm G.sf (λd hd=>G.ni d hd) af hp;exact yZg.2 ⟨p,hp,((E.of_same ab.1 ab.2) _ _ _).2 (yZg.2 ⟨r,ag,aj⟩)⟩
  ·exact (ho _ _ _ h).elim
def B4 {c:Cf}(E:c.dr=true){ops:List Oper}{i:Oper}{K:Kt}(hi:iy c.esc i.dst i.op=true):∀(pre:List Oper) (ad:Ad) (fr:Fr) (st:ISt) (ds:List Dfd),Pend c ops pre i ad->(∀j∈pre,iy c.esc j.dst j.op=true) →
  vcK c ops pre (iS c ops i K) ad fr st ds->iS c ops i (vcK c ops pre K) ad fr st ds
 | [],ad,fr,st,ds,_,_,h=>h
 | j::pre,ad,fr,st,ds,G,ah,h=>by
  have ac:=G.ap j (.head _);have fine:∀ {o:Oper} {pr:PR},(∀R ds,fw c ops o R ad fr st ds↔R pr st ds)->Fine c o.op ad fr pr:=λ{o pr} ho=>by
   have h1:fw c ops o (λp _ _=>p=pr) ad fr st []:=(ho _ _).2 rfl;exact ((ho _ _).1 (pD h1)).2
  rcases wQ (c:=c) E (ops:=ops) (ad:=ad) (fr:=fr) (ah j (.head _)) st with⟨pj,O,_⟩|ho
  ·have ab:=fine O;obtain⟨q,hq,hK⟩:=yZg.1 ((O _ _).1 h);have J:=B4 E hi pre q.1 q.2 st ds (G.tail E ab hq) (λk hk=>ah k (.tail _ hk)) hK;have hs:=pE ac G.sf (λd hd=>G.nj j (.head _) d hd) ab hq;change fw c ops i (finK i.dst (vcK c ops (j::pre) K) ad fr) ad fr st ds;have D:fw c ops i (finK i.dst (vcK c ops pre K) q.1 q.2) q.1 q.2 st ds:=J;rw[<- pC hs.1 hs.2] at D;rcases wQ (c:=c) E (ops:=ops) (ad:=ad) (fr:=fr) hi st with⟨pi,aa,_⟩|ho
   ·have ai:=fine aa;refine (aa _ _).2 ?_;obtain⟨r,hr,al⟩:=yZg.1 ((aa _ _).1 D);obtain⟨p,hp⟩:=wV hr ad fr;obtain⟨r',ag,aj⟩:=wU ac (λd hd=>G.nj j (.head _) d hd) (λd hd=>G.ni d hd) ab ai hq hp;rw[hr] at ag;cases ag;have af:=pE ac.symm G.sf (λd hd=>G.ni d hd) ai hp;refine yZg.2 ⟨p,hp,?_⟩;change fw c ops j (finK j.dst (vcK c ops pre K) p.1 p.2) p.1 p.2 st ds;rw[<- pC af.1 af.2];exact (O _ _).2 (yZg.2 ⟨r,aj,al⟩)
   ·exact (ho _ _ D).elim
  ·exact (ho _ _ h).elim
def B5 {c:Cf}(aa:c.dr=true){ops:List Oper}{i:Oper}{K:Kt}(hi:appQ c.esc i.dst i.op=true):∀(pre:List Oper) (ad:Ad) (fr:Fr) (st:ISt) (ds:List Dfd),Pend c ops pre i ad->(∀j∈pre,iy c.esc j.dst j.op=true) →
  vcK c ops pre (iS c ops i K) ad fr st ds->iS c ops i (vcK c ops pre K) ad fr st ds
 | [],ad,fr,st,ds,_,_,h=>h
 | j::pre,ad,fr,st,ds,E,af,h=>by
  have ab:=E.ap j (.head _);have fine:∀ {o:Oper} {pr:PR},(∀R ds,fw c ops o R ad fr st ds↔R pr st ds)->Fine c o.op ad fr pr:=λ{o pr} ho=>by
   have h1:fw c ops o (λp _ _=>p=pr) ad fr st []:=(ho _ _).2 rfl;exact ((ho _ _).1 (pD h1)).2
  rcases wQ (c:=c) aa (ops:=ops) (ad:=ad) (fr:=fr) (af j (.head _)) st with⟨pj,ag,al⟩|ho
  ·have O:=fine ag;obtain⟨q,hq,hK⟩:=yZg.1 ((ag _ _).1 h);have G:=B5 aa hi pre q.1 q.2 st ds (E.tail aa O hq) (λk hk=>af k (.tail _ hk)) hK;have hs:=pE ab E.sf (λd hd=>E.nj j (.head _) d hd) O hq;change fw c ops i (finK i.dst (vcK c ops (j::pre) K) ad fr) ad fr st ds;have D:fw c ops i (finK i.dst (vcK c ops pre K) q.1 q.2) q.1 q.2 st ds:=G;rw[<- pC hs.1 hs.2] at D;refine rj ?_ (pD (JL hi D));rintro pi st' an ⟨⟨h1,J⟩,ah⟩;obtain⟨r,hr,am⟩:=yZg.1 h1;obtain⟨p,hp⟩:=wV hr ad fr;obtain⟨r',ae,aj⟩:=wU ab (λd hd=>E.nj j (.head _) d hd) (λd hd=>E.ni d hd) O ah hq hp;rw[hr] at ae;cases ae;have ac:=pE ab.symm E.sf (λd hd=>E.ni d hd) ah hp;refine yZg.2 ⟨p,hp,?_⟩;change fw c ops j (finK j.dst (vcK c ops pre K) p.1 p.2) p.1 p.2 st' an;rw[<- pC ac.1 ac.2];exact al st' J _ _ (yZg.2 ⟨r,aj,am⟩)
  ·exact (ho _ _ h).elim
def opAt (ops:Array Oper)(i:Nat):Oper:=ops.getD i default
def nJ {ops:Array Oper}{i:Nat}(h:i<ops.size):ops[i]?=some (opAt ops i):=by
 unfold opAt;rw[lv,mB h];rfl
def wW (bf:Array Nat)(ops:Array Oper)(i:Nat):Bool :=
 (opAt ops i).after.toList.all (λe=>!Region.binds .any e || decide (e.on<i)) &&
 (List.range ops.size).all λj=>!(bf.getD i 0).testBit j || (opAt ops i).after.toList.any λe=>Region.binds .any e&&(e.on == j || (bf.getD e.on 0).testBit j)
def wX (esc:List Nat)(bf:Array Nat)(ops:Array Oper)(i j:Nat):Bool :=
 i != j&&((bf.getD j 0).testBit i || (wM esc ops.toList (opAt ops i) (opAt ops j)&&(mf esc (opAt ops i).dst (opAt ops i).op || (iy esc (opAt ops i).dst (opAt ops i).op&&(iy esc (opAt ops j).dst (opAt ops j).op || appQ esc (opAt ops j).dst (opAt ops j).op))))) &&
  (!pA (opAt ops i).op || match (opAt ops j).dst with|some d=>!(looks ops.toList (opAt ops i)).contains d|none=>true)
def tQ (f:Nat->Nat->Bool):List Nat->Bool
 | []=>true
 | i::l=>l.all (f i)&&tQ f l
def wY (esc:List Nat)(ops:Array Oper)(ord:List Nat):Bool :=
 (List.range ops.size).all (λi=>ord.contains i&&wW (Region.before ops) ops i)&&ord.all (λi=>decide (i<ops.size))&&decide (ord.length<=ops.size)&&tQ (wX esc (Region.before ops) ops) ord
def B6 {f:Nat->Nat->Bool}:∀ {l:List Nat},tQ f l=true->l.Pairwise (λi j=>f i j=true)
 | [],_=>.nil
 | i::l,h=>by
  simp only[tQ,bAt,eF] at h;exact .cons h.1 (B6 h.2)
structure EdgeP (bf:Array Nat)(ops:Array Oper)(i:Nat):Prop where
 lt:∀e∈(opAt ops i).after,Region.binds .any e=true->e.on<i
 via:∀j,j<ops.size->(bf.getD i 0).testBit j=true->∃e∈(opAt ops i).after,Region.binds .any e=true/\(e.on=j\/(bf.getD e.on 0).testBit j=true)
def JW {bf:Array Nat}{ops:Array Oper}{i:Nat}(h:wW bf ops i=true):EdgeP bf ops i:=by
 unfold wW at h;simp only[bAt,eF,gL,mc,dTe,jK,gk,beq_iff_eq] at h;obtain⟨h1,h2⟩:=h;refine⟨λe E G=>(h1 e (by simpa using E)).resolve_left (by rw[G];exact λh=>by cases h),λj J ht=>?_⟩;obtain⟨e,E,G,D⟩:=(h2 j J).resolve_left (by rw[ht];exact λh=>by cases h);exact⟨e,by simpa using E,G,D⟩
structure PairP (c:Cf)(bf:Array Nat)(ops:Array Oper)(i j:Nat):Prop where
 ne:i≠j
 ap:(bf.getD j 0).testBit i=true\/(Ap c ops.toList (opAt ops i) (opAt ops j)/\(mf c.esc (opAt ops i).dst (opAt ops i).op=true\/(iy c.esc (opAt ops i).dst (opAt ops i).op=true/\(iy c.esc (opAt ops j).dst (opAt ops j).op=true\/appQ c.esc (opAt ops j).dst (opAt ops j).op=true))))
 cl:Cl ops.toList (opAt ops i) (opAt ops j)
def JX {c:Cf}{bf:Array Nat}{ops:Array Oper}{i j:Nat}(h:wX c.esc bf ops i j=true):PairP c bf ops i j:=by
 unfold wX at h;simp only[bAt,gL,mc,bne_iff_ne] at h;obtain⟨⟨h1,h2⟩,D⟩:=h;refine⟨h1,h2.imp id λh=>⟨JS h.1,h.2⟩,λE d hd=>?_⟩;rcases D with D|D
 ·rw[E] at D;cases D
 ·rw[hd] at D;simpa using D
def B7 {c:Cf}{B:Nat}{X0 X:WS}{N:Nat}{ro:Option Nat}{n i:Nat}{ops:Array Oper}{Q:Exit->Act->World->Prop}{o:Oper}{K:Kt}{fr:Fr}{ds:List Dfd}{a:Act}{ad:Ad}(aa:c.rd=false->ro=none)
  (hN:∀o∈ops.toList,∀d,o.dst=some d->d<N) (ho:ops[i]?=some o) (O:Inv (c.cx B) X0 N X fr ds a) (E:AdOk fr a.tmps ad) (h:iS c ops.toList o K ad fr X.st ds) :
  wpOpIn (eP ro) n c.P ops Q i (PK (c.cx B) X0 N K) a X.w:=by
 have D:o∈ops.toList:=lMg (by simpa using ho);unfold wpOpIn;simp only[ho];unfold iS fw at h;split at h
 ·rename_i hg;have G:Region.wanted o (yielded ops a.tmps)=true:=by simp[Region.wanted,hg]
  rw[cX G];exact wE aa ⟨O,E,hN o D⟩ h
 ·rename_i j ai hg;split at h
  ·rename_i d hd;obtain⟨od,ab,ac⟩:=Bv hd;have af:=hN od ab d ac;split at h
   ·rename_i b hs;have hy:=Bt O hd af hs;split at h
    ·rename_i J;have G:Region.wanted o (yielded ops a.tmps)=true:=by simp[Region.wanted,hg,hy,J]
     rw[cX G];exact wE aa ⟨O,E,hN o D⟩ h
    ·rename_i J;have G:¬ Region.wanted o (yielded ops a.tmps)=true:=by simp[Region.wanted,hg,hy,J]
     rw[a_ G];exact⟨λ_ _=>trivial,gF O E (hN o D) (.raw _ trivial) h⟩
   ·rename_i t hs;have hy:=Bu O hd af hs;have G:¬ Region.wanted o (yielded ops a.tmps)=true:=by simp[Region.wanted,hg,hy]
    rw[a_ G];exact⟨λ_ _=>trivial,gF O E (hN o D) (.raw _ trivial) h⟩
   ·exact h.elim
  ·exact h.elim
def JY {bf:Array Nat}{ops:Array Oper}{D:Array Bool}(he:∀i,i<ops.size->EdgeP bf ops i)
  (ac:∀i,i<ops.size->D.getD i true=true->∀e∈(opAt ops i).after,Region.binds .any e=true->D.getD e.on true=true) :
  ∀i,i<ops.size->(∀e∈(opAt ops i).after,Region.binds .any e=true->D.getD e.on true=true)->∀j,j<ops.size->(bf.getD i 0).testBit j=true->D.getD j true=true:=by
 intro i
 induction i using Nat.strongRecOn with
 | _ i ih =>
  intro hi E j hj ht;obtain⟨e,J,hb,G⟩:=(he i hi).via j hj ht;rcases G with rfl|G
  ·exact E e J hb
  ·have O:=(he i hi).lt e J hb;have aa:e.on<ops.size:=Nat.lt_trans O hi;exact ih e.on O aa (ac e.on aa (E e J hb)) j hj G
def JZ {c:Cf}(al:c.dr=true){B:Nat}{X0:WS}{N:Nat}{ro:Option Nat}{n:Nat}{ops:Array Oper}{Q:Kc}(aO:c.rd=false->ro=none)(hN:∀o∈ops.toList,∀d,o.dst=some d->d<N)
  {bf:Array Nat} (he:∀i,i<ops.size->EdgeP bf ops i):∀(ae:Nat) (rest:List Nat) (D:Array Bool) (X:WS) (fr:Fr) (ds:List Dfd) (a:Act) (ad:Ad),rest.length<=ae →
   D.size=ops.size->(∀i,i<ops.size->(D.getD i true=false↔i∈rest))->(∀i∈rest,i<ops.size)->rest.Pairwise (PairP c bf ops) →
   (∀i,i<ops.size->D.getD i true=true->∀e∈(opAt ops i).after,Region.binds .any e=true->D.getD e.on true=true) →
   (∀i∈rest,∀d,(opAt ops i).dst=some d->j6 ad d)->Safe ops.toList ad →
   Inv (c.cx B) X0 N X fr ds a->AdOk fr a.tmps ad->vcK c ops.toList (rest.map (opAt ops)) (λ_ fr st ds=>Q .normal fr st ds) ad fr X.st ds →
   wpAnyIn (eP ro) n c.P .any ops (PQ (c.cx B) X0 N Q) ae D a X.w:=by
 intro ae
 induction ae with
 | zero =>
  intro rest D X fr ds a ad aq av af _ _ _ _ _ hI _ h;have:rest=[]:=ev (by omega);subst this;refine⟨?_,X,fr,ds,rfl,hI,h⟩;rw[List.eq_nil_iff_forall_not_mem];intro j E;obtain⟨h0,o,ho,_⟩:=mem_ready.1 E;have ah:j<ops.size:=(iN.1 ho).1;cases (af j ah).1 h0
 | succ ae ih =>
  intro rest D X fr ds a ad aq av af ah aC aH ax aA hI aT h;have ac:∀i,i<ops.size->D.getD i false=D.getD i true:=λi hi=>by
   rw[lv,lv,mB (by rw[av];exact hi)];rfl
  refine⟨λhr=>?_,λi hi=>?_⟩
  ·have aw:∀i,i<ops.size->i ∉ rest:=by
    intro i
    induction i using Nat.strongRecOn with
    | _ i aN =>
     intro G ag;have:i∈Region.ready .any ops D:=mem_ready.2 ⟨(af i G).2 ag,_,nJ G,λe ab hb=>by
      have hl:=(he i G).lt e ab hb;have ak:e.on<ops.size:=Nat.lt_trans hl G;have:=aN e.on hl ak;rw[ac _ ak];cases hq:D.getD e.on true with
      | true=>rfl
      | false=>exact absurd ((af _ ak).1 hq) this⟩
     rw[hr] at this;cases this
   have:rest=[]:=List.eq_nil_iff_forall_not_mem.2 λi ag=>aw i (ah i ag) ag;subst this;exact⟨X,fr,ds,rfl,hI,h⟩
  ·obtain⟨h0,o,ho,aI⟩:=mem_ready.1 hi;have G:i<ops.size:=(iN.1 ho).1;obtain rfl:opAt ops i=o:=by rw[nJ G] at ho;exact eC ho
   have ag:=(af i G).1 h0;have an:∀e∈(opAt ops i).after,Region.binds .any e=true->D.getD e.on true=true:=λe ab hb=>by
    rw[<- ac _ (Nat.lt_trans ((he i G).lt e ab hb) G)];exact aI e ab hb
   obtain⟨pre,O,rfl⟩:=List.append_of_mem ag;have ao:=List.pairwise_append.1 aC;have aD:∀j∈pre,PairP c bf ops j i:=λj E=>ao.2.2 j E i (by simp);have am:∀j∈pre,Ap c ops.toList (opAt ops j) (opAt ops i)/\(mf c.esc (opAt ops j).dst (opAt ops j).op=true\/(iy c.esc (opAt ops j).dst (opAt ops j).op=true/\(iy c.esc (opAt ops i).dst (opAt ops i).op=true\/appQ c.esc (opAt ops i).dst (opAt ops i).op=true))):=λj E=>by
    refine ((aD j E).ap).resolve_left λht=>?_;have aF:=ah j (by simp[E]);have h1:=JY he aH i G an j aF ht;have h2:=(af j aF).2 (by simp[E]);rw[h1] at h2;cases h2
   have hP:Pend c ops.toList (pre.map (opAt ops)) (opAt ops i) ad:=by
    refine⟨?_,aA,?_,?_,?_,λd hd=>ax i ag d hd⟩
    ·intro o ho;obtain⟨j,E,rfl⟩:=dH.1 ho;exact lMg (i:=j) (by simpa using nJ (ah j (by simp[E])))
    ·intro o ho;obtain⟨j,E,rfl⟩:=dH.1 ho;exact (am j E).1
    ·exact kD.2 (ao.1.imp λh=>h.cl)
    ·intro o ho;obtain⟨j,E,rfl⟩:=dH.1 ho;exact ax j (by simp[E])
   rw[eQ,ec,BR] at h;have h1:iS c ops.toList (opAt ops i) (vcK c ops.toList (pre.map (opAt ops)) (vcK c ops.toList (O.map (opAt ops)) (λ_ fr st ds=>Q .normal fr st ds))) ad fr X.st ds:=by
    by_cases ay:iy c.esc (opAt ops i).dst (opAt ops i).op=true
    ·refine B4 al ay (pre.map (opAt ops)) ad fr X.st ds hP (λo ho=>?_) h;obtain⟨j,E,rfl⟩:=dH.1 ho;rcases (am j E).2 with hp|hp
     ·unfold iy;rw[hp];rfl
     ·exact hp.1
    ·by_cases aB:appQ c.esc (opAt ops i).dst (opAt ops i).op=true
     ·refine B5 al aB (pre.map (opAt ops)) ad fr X.st ds hP (λo ho=>?_) h;obtain⟨j,E,rfl⟩:=dH.1 ho;rcases (am j E).2 with hp|hp
      ·unfold iy;rw[hp];rfl
      ·exact hp.1
     ·refine B3 al (pre.map (opAt ops)) ad fr X.st ds hP (λo ho=>?_) h;obtain⟨j,E,rfl⟩:=dH.1 ho;exact (am j E).2.resolve_right λhp=>hp.2.elim ay aB
   rw[<- BR,<- eQ] at h1;have aQ:i ∉ pre++O:=by
    intro hm;rcases dQ.1 hm with hm|hm
    ·exact (aD i hm).ne rfl
    ·exact ((jL.1 ao.2.1).1 i hm).ne rfl
   have h2:iS c ops.toList (opAt ops i) (λad fr st ds=>((∀j∈pre++O,∀d,(opAt ops j).dst=some d->j6 ad d)/\Safe ops.toList ad)/\vcK c ops.toList ((pre++O).map (opAt ops)) (λ_ fr st ds=>Q .normal fr st ds) ad fr st ds) ad fr X.st ds:=by
    refine rj ?_ (pD h1);rintro pr st' aK ⟨hf,aj⟩;obtain⟨p,hp,hK⟩:=yZg.1 hf;refine yZg.2 ⟨p,hp,⟨λj E d hd=>?_,B2 (ops:=ops.toList) al (lMg (i:=i) (by simpa using nJ G)) aA aj hp⟩,hK⟩;refine tP (ops:=ops.toList) al (λha=>?_) (ax j (by simp only[dQ,dF] at E ⊢;rcases E with E|E<;>simp[E]) d hd) aj hp;rcases dQ.1 E with E|E
    ·exact (am j E).1.d d hd |>.1
    ·exact ((jL.1 ao.2.1).1 j E).cl ha d hd
   refine wpOpIn_mono ?_ (B7 aO hN (nJ G) hI aT h2);rintro a' w' ⟨X',aW,fr',aK,rfl,aV,aJ,⟨aE,az⟩,h'⟩;have ai:∀j,j<ops.size->((D.setIfInBounds i true).getD j true=if i=j then true else D.getD j true):=λj E=>by
    by_cases J:i=j
    ·subst J;rw[cX rfl];simp
    ·rw[a_ J,getD_set_ne true J]
   refine ih (pre++O) (D.setIfInBounds i true) X' fr' aK a' aW (by simp at aq ⊢;omega) (by simp[av]) (λj E=>?_) (λj E=>ah j (by simp only[dQ,dF] at E ⊢;rcases E with E|E<;>simp[E]))
    (aC.sublist (List.Sublist.append_left (List.sublist_cons_self _ _) _)) (λj E hl e ab hb=>?_) aE az aV aJ h'
   ·rw[ai j E];by_cases J:i=j
    ·subst J;rw[cX rfl];exact⟨(λh=>absurd h (by simp)),λh=>absurd h aQ⟩
    ·rw[a_ J,af j E];simp only[dQ,dF];exact⟨λh=>by rcases h with h|h|h<;>first|exact .inl h|exact absurd h.symm J|exact .inr h,λh=>by rcases h with h|h<;>simp[h]⟩
   ·rw[ai j E] at hl;have ak:e.on<ops.size:=Nat.lt_trans ((he j E).lt e ab hb) E;rw[ai _ ak];by_cases aG:i=e.on
    ·rw[cX aG]
    ·rw[a_ aG];by_cases J:i=j
     ·subst J;exact an e ab hb
     ·rw[a_ J] at hl;exact aH j E hl e ab hb
def lM:List (Nat×List Nat)->Nat->Option (List Nat)
 | [],_=>none
 | (i,o)::l,id=>if id=i then some o else lM l id
@[go_sem] def UC (id:Nat):lM [] id=none:=(rfl)
@[go_sem] def UD (i id:Nat)(o:List Nat)(l:List (Nat×List Nat)):lM ((i,o)::l) id=if id=i then some o else lM l id:=(rfl)
def rp (o:Option (List Nat))(n:Nat):List Nat:=match o with|some l=>l|none=>List.range n
def anyV (c:Cf)(ops:Array Oper)(Q:Fr->ISt->List Dfd->Prop):Nat->Array Bool->Kt
 | 0,D=>λ_ fr st ds=>Region.ready .any ops D=[]->Q fr st ds
 | n+1,D=>λad fr st ds=>(Region.ready .any ops D=[]->Q fr st ds) /\
   ∀i∈Region.ready .any ops D,iS c ops.toList (opAt ops i) (anyV c ops Q n (D.setIfInBounds i true)) ad fr st ds
def B8 {dst:Option Nat}{K K':Kt}{ad:Ad}{fr:Fr}(h:∀ad fr st ds,K ad fr st ds->K' ad fr st ds):∀pr st ds,finK dst K ad fr pr st ds->finK dst K' ad fr pr st ds:=λpr st ds D=>by
 obtain⟨p,hp,hK⟩:=yZg.1 D;exact yZg.2 ⟨p,hp,h _ _ _ _ hK⟩
def B9 {c:Cf}{ops:Array Oper}{Q Q':Fr->ISt->List Dfd->Prop}(h:∀fr st ds,Q fr st ds->Q' fr st ds):∀(n:Nat) (D:Array Bool) {ad:Ad} {fr:Fr} {st:ISt} {ds:List Dfd},anyV c ops Q n D ad fr st ds->anyV c ops Q' n D ad fr st ds
 | 0,_,_,_,_,_,E=>λG=>h _ _ _ (E G)
 | n+1,_,_,_,_,_,E=>⟨λG=>h _ _ _ (E.1 G),λi J=>rj (B8 λ_ _ _ _ O=>B9 h n _ O) (E.2 i J)⟩
def wZ {c:Cf}{ops:Array Oper}{Q:Fr->ISt->List Dfd->Prop}(J:Array Bool->Kt)
  (hs:∀D ad fr st ds,D.size=ops.size->J D ad fr st ds->∀i∈Region.ready .any ops D,iS c ops.toList (opAt ops i) (J (D.setIfInBounds i true)) ad fr st ds)
  (O:∀D ad fr st ds,D.size=ops.size->Region.ready .any ops D=[]->J D ad fr st ds->Q fr st ds) :
  ∀(n:Nat) (D:Array Bool) (ad:Ad) (fr:Fr) (st:ISt) (ds:List Dfd),D.size=ops.size->J D ad fr st ds->anyV c ops Q n D ad fr st ds
 | 0,D,ad,fr,st,ds,E,h=>λG=>O _ _ _ _ _ E G h
 | n+1,D,ad,fr,st,ds,E,h=>⟨λG=>O _ _ _ _ _ E G h,λi hi=>rj (B8 λad fr st ds h'=>wZ J hs O n _ ad fr st ds (by rw[lx];exact E) h') (hs _ _ _ _ _ E h i hi)⟩
def J0 {c:Cf}{B:Nat}{X0:WS}{N:Nat}{ro:Option Nat}{n:Nat}{ops:Array Oper}{Q:Kc}(ag:c.rd=false->ro=none)(hN:∀o∈ops.toList,∀d,o.dst=some d->d<N) :
  ∀(E:Nat) (rest:List Nat) (D:Array Bool) (X:WS) (fr:Fr) (ds:List Dfd) (a:Act) (ad:Ad),rest.length<=E->D.size=ops.size->(∀i,i<ops.size->D.getD i true=false->i∈rest) →
   Inv (c.cx B) X0 N X fr ds a->AdOk fr a.tmps ad->anyV c ops (Q .normal) E D ad fr X.st ds->wpAnyIn (eP ro) n c.P .any ops (PQ (c.cx B) X0 N Q) E D a X.w:=by
 intro E
 induction E with
 | zero =>
  intro rest D X fr ds a ad aa O G hI _ h;have:rest=[]:=ev (by omega);subst this;have hr:Region.ready .any ops D=[]:=by
   rw[List.eq_nil_iff_forall_not_mem];intro j hj;obtain⟨h0,o,ho,_⟩:=mem_ready.1 hj;cases G j (iN.1 ho).1 h0
  exact⟨hr,X,fr,ds,rfl,hI,h hr⟩
 | succ E ih =>
  intro rest D X fr ds a ad aa O G hI ak h;refine⟨λhr=>⟨X,fr,ds,rfl,hI,h.1 hr⟩,λi hi=>?_⟩;obtain⟨h0,o,ho,_⟩:=mem_ready.1 hi;have ab:i<ops.size:=(iN.1 ho).1;have aj:=G i ab h0;refine wpOpIn_mono ?_ (B7 ag hN (nJ ab) hI ak (h.2 i hi));rintro a' w' ⟨X',an,fr',am,rfl,al,ac,h'⟩;refine ih (rest.erase i) (D.setIfInBounds i true) X' fr' am a' an (by rw[List.length_erase_of_mem aj];omega) (by simp[O]) (λj hj hl=>?_) al ac h';by_cases J:i=j
  ·subst J;simp at hl
  ·rw[getD_set_ne true J] at hl;exact (List.mem_erase_of_ne (Ne.symm J)).2 (G j hj hl)
def anyO:Option (List Nat)->Bool
 | some []=>true
 | _=>false
def lN (c:Cf)(ops:Array Oper)(o:Option (List Nat))(Q:Fr->ISt->List Dfd->Prop)(fr:Fr)(st:ISt)(ds:List Dfd):Prop :=
 match o with
 | some []=>anyV { c with dr:=true } ops Q ops.size (Array.replicate ops.size false) Ad.none_ fr st ds
 | none=>fW { c with dr:=true } ops.toList ops.toList Q Ad.none_ fr st ds
 | some l=>fW { c with dr:=true } ops.toList (l.map (opAt ops)) Q Ad.none_ fr st ds
@[congr] def UE (c:Cf)(ops:Array Oper){o o':Option (List Nat)}(Q:Fr->ISt->List Dfd->Prop)(fr:Fr)(st:ISt)(ds:List Dfd)(h:o=o'):lN c ops o Q fr st ds=lN c ops o' Q fr st ds:=by rw[h]
@[go_sem] def UF (c:Cf)(l:List Oper)(Q:Fr->ISt->List Dfd->Prop)(fr:Fr)(st:ISt)(ds:List Dfd):lN c ⟨l⟩ none Q fr st ds=fW { c with dr:=true } l l Q Ad.none_ fr st ds:=(rfl)
@[go_sem] def UG (c:Cf)(ops:List Oper)(i:Nat)(l:List Nat)(Q:Fr->ISt->List Dfd->Prop)(fr:Fr)(st:ISt)(ds:List Dfd):lN c ⟨ops⟩ (some (i::l)) Q fr st ds=fW { c with dr:=true } ops ((i::l).map (opAt ⟨ops⟩)) Q Ad.none_ fr st ds:=(rfl)
def B_ (c:Cf)(ops:List Oper)(Q:Fr->ISt->List Dfd->Prop)(fr:Fr)(st:ISt)(ds:List Dfd):lN c ⟨ops⟩ (some []) Q fr st ds=anyV { c with dr:=true } ⟨ops⟩ Q ops.length (Array.replicate ops.length false) Ad.none_ fr st ds:=(rfl)
@[go_sem ↓] def UH (o:Oper)(l:List Oper):opAt ⟨o::l⟩ 0=o:=(rfl)
@[go_sem ↓] def UI (o:Oper)(l:List Oper)(i:Nat):opAt ⟨o::l⟩ (i+1)=opAt ⟨l⟩ i:=by simp[opAt]
def J1 (ops:Array Oper):(List.range ops.size).map (opAt ops)=ops.toList:=by
 apply List.ext_getElem
 ·simp
 ·intro i h1 h2;have D:i<ops.size:=by simpa using h1
  have:=nJ D;rw[mB D,dI] at this;simp[<- this]
def J2 {c:Cf}{B:Nat}{X0 X:WS}{N:Nat}{ro:Option Nat}{n id:Nat}{ops:Array Oper}{ord:Option (List Nat)}{Q:Kc}{fr:Fr}{ds:List Dfd}{a:Act}(J:c.rd=false->ro=none)(hN:∀o∈ops.toList,∀d,o.dst=some d->d<N)
  (hm:c.P.follows .mixedOrders=true) (D:(anyO ord || wY c.esc ops (rp ord ops.size))=true) (hI:Inv (c.cx B) X0 N X fr ds a) (h:lN c ops ord (Q .normal) fr X.st ds):(Code.region id ops true).wpIn (eP ro) n c.P (PQ (c.cx B) X0 N Q) a X.w:=by
 obtain⟨he,hg⟩:=hI.good.drew;have O:Inv (c.cx B) X0 N X.drew fr ds a:=hI.ext' he hg;by_cases E:anyO ord=true
 ·obtain rfl:ord=some []:=by
   match ord,E with
   | some [],_=>rfl
  refine wpIn_region_any hm ?_;exact J0 (c:={ c with dr:=true }) J hN ops.size (List.range ops.size) _ X.drew fr ds a Ad.none_ (by simp) (by simp) (λi G _=>jK.2 G) O .nil h
 rw[Bool.eq_false_iff.2 E,Bool.false_or] at D;replace h:fW { c with dr:=true } ops.toList ((rp ord ops.size).map (opAt ops)) (Q .normal) Ad.none_ fr X.st ds:=by
  match ord,h,E with
  | none,h,_=>simp only[rp,J1];exact h
  | some (i::l),h,_=>exact h
  | some [],_,h=>exact absurd rfl h
 generalize rp ord ops.size=ord at D h;unfold wY at D;simp only[bAt,eF,jK,dTe] at D;obtain⟨⟨⟨h1,h2⟩,ab⟩,h3⟩:=D;have aa:=(B6 h3).imp (λ{i j} h=>JX (c:={ c with dr:=true }) h);refine wpIn_region_any hm ?_;refine JZ (c:={ c with dr:=true }) (bf:=Region.before ops) rfl J hN (λi G=>JW (h1 i G).2) ops.size ord _ X.drew fr ds a Ad.none_ ?_ (by simp) (λi G=>?_) h2 aa (λi G hl=>?_) (λi G d hd x t off h=>by cases h) (JT _) O .nil (BS h)
 ·exact ab
 ·have:i∈ord:=by simpa using (h1 i G).1
  simp[this,G]
 ·rw[lv,mB (by simpa using G)] at hl;simp at hl
