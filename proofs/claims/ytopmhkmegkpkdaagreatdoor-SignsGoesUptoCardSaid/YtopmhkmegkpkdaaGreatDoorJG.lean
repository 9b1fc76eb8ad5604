/- The layer of ideal values, part Ob: regi -/
import Derived.Test.YtopmhkmegkpkdaaGreatDoorJF
set_option linter.all false
namespace Go.Iv
open Go
def Cl (ops:List Oper)(x y:Oper):Prop:=pL x.op=true->∀d,y.dst=some d->d ∉ looks ops x
def sQ {c:Cf}(E:c.dr=true){ops:List Oper}{x:Oper}{d:Nat}{ad:Ad}{fr:Fr}{pr:PR}{p:Ad×Fr}(O:pL x.op=true->d ∉ looks ops x)(U:kl ad d)(hf:Fine c x.op ad fr pr)
  (D:after x.dst pr ad fr=some p):kl p.1 d:=by
 cases hx:x.dst with
 | none =>
  rw[hx] at D;cases pr<;>simp only[after,dL,reduceCtorEq] at D<;>subst D<;>exact U
 | some e =>
  rw[hx] at D;obtain⟨a,s,rfl,_,h⟩:=re D;intro y t off A;simp only[Ad.put_apply] at A;split at A
  ·rcases h with rfl|⟨t',W,h1,rfl⟩
   ·cases A
   ·cases A;exact ra (O (hf.isA t off h1 E)) U (hf.adr t off h1)
  ·exact U y t off (oE A).1
def Bf {c:Cf}(E:c.dr=true){ops:List Oper}{x:Oper}(hx:x∈ops){ad:Ad}{fr:Fr}{pr:PR}{p:Ad×Fr}(hs:Safe ops ad)(hf:Fine c x.op ad fr pr)(A:after x.dst pr ad fr=some p):Safe ops p.1:=λe U=>by
 obtain⟨h1,h2⟩:=hs e U;refine⟨sQ E (λW=>(Be U hx W).1) h1 hf A,?_⟩;cases hd:x.dst with
 | none =>
  rw[hd] at A;cases pr<;>simp only[after,dL,reduceCtorEq] at A<;>subst A<;>exact h2
 | some d =>
  rw[hd] at A;obtain⟨a,s,rfl,_,h⟩:=re A;simp only[Ad.put_apply];split
  ·rename_i O;rcases h with rfl|⟨t',D,h3,rfl⟩
   ·rfl
   ·exact absurd (hd.trans (et some O.symm)) (Be U hx (hf.isA t' D h3 E)).2
  ·rw[h2];rfl
def vS {dst:Option Nat}{pr:PR}{ad:Ad}{fr:Fr}{p:Ad×Fr}(h:after dst pr ad fr=some p)(D:Ad)(fr':Fr):∃p',after dst pr D fr'=some p':=by
 cases dst with
 | none=>cases pr<;>first|exact⟨_,rfl⟩|cases h
 | some d =>
  obtain⟨a,s,_,A,_⟩:=re h;exact⟨_,A _ _⟩
structure Pend (c:Cf)(ops:List Oper)(pre:List Oper)(i:Oper)(ad:Ad):Prop where
 mem:∀j∈pre,j∈ops
 sf:Safe ops ad
 ap:∀j∈pre,Ap c ops j i
 cl:pre.Pairwise (Cl ops)
 nj:∀j∈pre,∀d,j.dst=some d->kl ad d
 ni:∀d,i.dst=some d->kl ad d
def Pend.tail {c:Cf}(A:c.dr=true){ops:List Oper}{j:Oper}{pre:List Oper}{i:Oper}{ad:Ad}{fr:Fr}{pr:PR}{p:Ad×Fr}(h:Pend c ops (j::pre) i ad)(O:Fine c j.op ad fr pr)(E:after j.dst pr ad fr=some p):Pend c ops pre i p.1 where
 mem k D:=h.mem k (.tail _ D)
 sf:=Bf A (h.mem j (.head _)) h.sf O E
 ap k D:=h.ap k (.tail _ D)
 cl:=(List.pairwise_cons.1 h.cl).2
 nj k D d hd:=sQ A (λE=>(List.pairwise_cons.1 h.cl).1 k D E d hd) (h.nj k (.tail _ D) d hd) O E
 ni d hd:=sQ A (λ_=>(h.ap j (.head _)).e d hd) (h.ni d hd) O E
def One (c:Cf)(ops:List Oper)(i:Oper)(ad:Ad)(fr:Fr)(pr:PR):Prop:=∀R st ds,fc c ops i R ad fr st ds↔R pr st ds
def One.fine {c:Cf}{ops:List Oper}{i:Oper}{ad:Ad}{fr:Fr}{pr:PR}(h:One c ops i ad fr pr):Fine c i.op ad fr pr:=by
 have h1:fc c ops i (λp _ _=>p=pr) ad fr (λ_=>none) []:=(h _ _ _).2 rfl;have h2:=(h _ _ _).1 (pO h1);exact h2.2
def One.of_same {c:Cf}{ops:List Oper}{i:Oper}{ad A:Ad}{fr fr':Fr}{pr:PR}(h:One c ops i ad fr pr)(D:SameAt c i.op ad A fr fr')(E:nK ops i fr fr'):One c ops i A fr' pr :=
 λR st ds=>by rw[<- pN D E];exact h R st ds
def Bg {c:Cf}(U:c.dr=true){ops:List Oper}{i:Oper}{K:Kt}:∀(pre:List Oper) (ad:Ad) (fr:Fr) (st:ISt) (ds:List Dfd),Pend c ops pre i ad->(∀j∈pre,mg c.esc j.dst j.op=true) →
  vcK c ops pre (jc c ops i K) ad fr st ds->jc c ops i (vcK c ops pre K) ad fr st ds
 | [],ad,fr,st,ds,_,_,h=>h
 | j::pre,ad,fr,st,ds,E,ab,h=>by
  have W:=E.ap j (.head _);rcases I8 (c:=c) U (ops:=ops) (ad:=ad) (fr:=fr) (ab j (.head _)) with⟨pj,ho⟩|ho
  ·have D:One c ops j ad fr pj:=ho;obtain⟨q,hq,hK⟩:=yZm.1 ((D _ _ _).1 h);have O:=Bg U pre q.1 q.2 st ds (E.tail U D.fine hq) (λk hk=>ab k (.tail _ hk)) hK;have hs:=pP W E.sf (λd hd=>E.nj j (.head _) d hd) D.fine hq;change fc c ops i (finK i.dst (vcK c ops (j::pre) K) ad fr) ad fr st ds;have A:fc c ops i (finK i.dst (vcK c ops pre K) q.1 q.2) q.1 q.2 st ds:=O;rw[<- pN hs.1 hs.2] at A;refine qZ ?_ (pO A);rintro pi st' ao ⟨h1,ac⟩;obtain⟨r,hr,ah⟩:=yZm.1 h1;obtain⟨p,hp⟩:=vS hr ad fr;obtain⟨r',aa,ae⟩:=vQ W (λd hd=>E.nj j (.head _) d hd) (λd hd=>E.ni d hd) D.fine ac hq hp;rw[hr] at aa;cases aa;have hs2:=pP W.symm E.sf (λd hd=>E.ni d hd) ac hp;exact yZm.2 ⟨p,hp,((D.of_same hs2.1 hs2.2) _ _ _).2 (yZm.2 ⟨r,ae,ah⟩)⟩
  ·exact (ho _ _ _ h).elim
def Bh {c:Cf}(D:c.dr=true){ops:List Oper}{i:Oper}{K:Kt}(hi:iB c.esc i.dst i.op=true):∀(pre:List Oper) (ad:Ad) (fr:Fr) (st:ISt) (ds:List Dfd),Pend c ops pre i ad->(∀j∈pre,iB c.esc j.dst j.op=true) →
  vcK c ops pre (jc c ops i K) ad fr st ds->jc c ops i (vcK c ops pre K) ad fr st ds
 | [],ad,fr,st,ds,_,_,h=>h
 | j::pre,ad,fr,st,ds,E,af,h=>by
  have ab:=E.ap j (.head _);have fine:∀ {o:Oper} {pr:PR},(∀R ds,fc c ops o R ad fr st ds↔R pr st ds)->Fine c o.op ad fr pr:=λ{o pr} ho=>by
   have h1:fc c ops o (λp _ _=>p=pr) ad fr st []:=(ho _ _).2 rfl;exact ((ho _ _).1 (pO h1)).2
  rcases vN (c:=c) D (ops:=ops) (ad:=ad) (fr:=fr) (af j (.head _)) st with⟨pj,U,_⟩|ho
  ·have aa:=fine U;obtain⟨q,hq,hK⟩:=yZm.1 ((U _ _).1 h);have O:=Bh D hi pre q.1 q.2 st ds (E.tail D aa hq) (λk hk=>af k (.tail _ hk)) hK;have hs:=pP ab E.sf (λd hd=>E.nj j (.head _) d hd) aa hq;change fc c ops i (finK i.dst (vcK c ops (j::pre) K) ad fr) ad fr st ds;have A:fc c ops i (finK i.dst (vcK c ops pre K) q.1 q.2) q.1 q.2 st ds:=O;rw[<- pN hs.1 hs.2] at A;rcases vN (c:=c) D (ops:=ops) (ad:=ad) (fr:=fr) hi st with⟨pi,W,_⟩|ho
   ·have ag:=fine W;refine (W _ _).2 ?_;obtain⟨r,hr,aj⟩:=yZm.1 ((W _ _).1 A);obtain⟨p,hp⟩:=vS hr ad fr;obtain⟨r',ae,ah⟩:=vQ ab (λd hd=>E.nj j (.head _) d hd) (λd hd=>E.ni d hd) aa ag hq hp;rw[hr] at ae;cases ae;have hs2:=pP ab.symm E.sf (λd hd=>E.ni d hd) ag hp;refine yZm.2 ⟨p,hp,?_⟩;change fc c ops j (finK j.dst (vcK c ops pre K) p.1 p.2) p.1 p.2 st ds;rw[<- pN hs2.1 hs2.2];exact (U _ _).2 (yZm.2 ⟨r,ah,aj⟩)
   ·exact (ho _ _ A).elim
  ·exact (ho _ _ h).elim
def Bi {c:Cf}(W:c.dr=true){ops:List Oper}{i:Oper}{K:Kt}(hi:appQ c.esc i.dst i.op=true):∀(pre:List Oper) (ad:Ad) (fr:Fr) (st:ISt) (ds:List Dfd),Pend c ops pre i ad->(∀j∈pre,iB c.esc j.dst j.op=true) →
  vcK c ops pre (jc c ops i K) ad fr st ds->jc c ops i (vcK c ops pre K) ad fr st ds
 | [],ad,fr,st,ds,_,_,h=>h
 | j::pre,ad,fr,st,ds,D,ac,h=>by
  have aa:=D.ap j (.head _);have fine:∀ {o:Oper} {pr:PR},(∀R ds,fc c ops o R ad fr st ds↔R pr st ds)->Fine c o.op ad fr pr:=λ{o pr} ho=>by
   have h1:fc c ops o (λp _ _=>p=pr) ad fr st []:=(ho _ _).2 rfl;exact ((ho _ _).1 (pO h1)).2
  rcases vN (c:=c) W (ops:=ops) (ad:=ad) (fr:=fr) (ac j (.head _)) st with⟨pj,ae,aj⟩|ho
  ·have U:=fine ae;obtain⟨q,hq,hK⟩:=yZm.1 ((ae _ _).1 h);have E:=Bi W hi pre q.1 q.2 st ds (D.tail W U hq) (λk hk=>ac k (.tail _ hk)) hK;have hs:=pP aa D.sf (λd hd=>D.nj j (.head _) d hd) U hq;change fc c ops i (finK i.dst (vcK c ops (j::pre) K) ad fr) ad fr st ds;have A:fc c ops i (finK i.dst (vcK c ops pre K) q.1 q.2) q.1 q.2 st ds:=E;rw[<- pN hs.1 hs.2] at A;refine qZ ?_ (pO (Ja hi A));rintro pi st' am ⟨⟨h1,O⟩,af⟩;obtain⟨r,hr,ak⟩:=yZm.1 h1;obtain⟨p,hp⟩:=vS hr ad fr;obtain⟨r',ab,ah⟩:=vQ aa (λd hd=>D.nj j (.head _) d hd) (λd hd=>D.ni d hd) U af hq hp;rw[hr] at ab;cases ab;have hs2:=pP aa.symm D.sf (λd hd=>D.ni d hd) af hp;refine yZm.2 ⟨p,hp,?_⟩;change fc c ops j (finK j.dst (vcK c ops pre K) p.1 p.2) p.1 p.2 st' am;rw[<- pN hs2.1 hs2.2];exact aj st' O _ _ (yZm.2 ⟨r,ah,ak⟩)
  ·exact (ho _ _ h).elim
def opAt (ops:Array Oper)(i:Nat):Oper:=ops.getD i default
def iC {ops:Array Oper}{i:Nat}(h:i<ops.size):ops[i]?=some (opAt ops i):=by
 unfold opAt;rw[gx,jj h];rfl
def vU (bf:Array Nat)(ops:Array Oper)(i:Nat):Bool :=
 (opAt ops i).after.toList.all (λe=>!Region.binds .any e || decide (e.on<i)) &&
 (List.range ops.size).all λj=>!(bf.getD i 0).testBit j || (opAt ops i).after.toList.any λe=>Region.binds .any e&&(e.on == j || (bf.getD e.on 0).testBit j)
def vV (esc:List Nat)(bf:Array Nat)(ops:Array Oper)(i j:Nat):Bool :=
 i != j&&((bf.getD j 0).testBit i || (vJ esc ops.toList (opAt ops i) (opAt ops j)&&(mg esc (opAt ops i).dst (opAt ops i).op || (iB esc (opAt ops i).dst (opAt ops i).op&&(iB esc (opAt ops j).dst (opAt ops j).op || appQ esc (opAt ops j).dst (opAt ops j).op))))) &&
  (!pL (opAt ops i).op || match (opAt ops j).dst with|some d=>!(looks ops.toList (opAt ops i)).contains d|none=>true)
def sR (f:Nat->Nat->Bool):List Nat->Bool
 | []=>true
 | i::l=>l.all (f i)&&sR f l
def vW (esc:List Nat)(ops:Array Oper)(ord:List Nat):Bool :=
 (List.range ops.size).all (λi=>ord.contains i&&vU (Region.before ops) ops i)&&ord.all (λi=>decide (i<ops.size))&&decide (ord.length<=ops.size)&&sR (vV esc (Region.before ops) ops) ord
def Bj {f:Nat->Nat->Bool}:∀ {l:List Nat},sR f l=true->l.Pairwise (λi j=>f i j=true)
 | [],_=>.nil
 | i::l,h=>by
  simp only[sR,bAt,ed] at h;exact .cons h.1 (Bj h.2)
structure EdgeP (bf:Array Nat)(ops:Array Oper)(i:Nat):Prop where
 lt:∀e∈(opAt ops i).after,Region.binds .any e=true->e.on<i
 via:∀j,j<ops.size->(bf.getD i 0).testBit j=true->∃e∈(opAt ops i).after,Region.binds .any e=true/\(e.on=j\/(bf.getD e.on 0).testBit j=true)
def Jl {bf:Array Nat}{ops:Array Oper}{i:Nat}(h:vU bf ops i=true):EdgeP bf ops i:=by
 unfold vU at h;simp only[bAt,ed,iU,fV,dTe,gy,jm,beq_iff_eq] at h;obtain⟨h1,h2⟩:=h;refine⟨λe D E=>(h1 e (by simpa using D)).resolve_left (by rw[E];exact λh=>by cases h),λj U O=>?_⟩;obtain⟨e,D,E,A⟩:=(h2 j U).resolve_left (by rw[O];exact λh=>by cases h);exact⟨e,by simpa using D,E,A⟩
structure PairP (c:Cf)(bf:Array Nat)(ops:Array Oper)(i j:Nat):Prop where
 ne:i≠j
 ap:(bf.getD j 0).testBit i=true\/(Ap c ops.toList (opAt ops i) (opAt ops j)/\(mg c.esc (opAt ops i).dst (opAt ops i).op=true\/(iB c.esc (opAt ops i).dst (opAt ops i).op=true/\(iB c.esc (opAt ops j).dst (opAt ops j).op=true\/appQ c.esc (opAt ops j).dst (opAt ops j).op=true))))
 cl:Cl ops.toList (opAt ops i) (opAt ops j)
def Jm {c:Cf}{bf:Array Nat}{ops:Array Oper}{i j:Nat}(h:vV c.esc bf ops i j=true):PairP c bf ops i j:=by
 unfold vV at h;simp only[bAt,iU,fV,bne_iff_ne] at h;obtain⟨⟨h1,h2⟩,A⟩:=h;refine⟨h1,h2.imp id λh=>⟨Jh h.1,h.2⟩,λD d hd=>?_⟩;rcases A with A|A
 ·rw[D] at A;cases A
 ·rw[hd] at A;simpa using A
def Bk {c:Cf}{B:Nat}{X0 X:WS}{N:Nat}{ro:Option Nat}{n i:Nat}{ops:Array Oper}{Q:Exit->Act->World->Prop}{o:Oper}{K:Kt}{fr:Fr}{ds:List Dfd}{a:Act}{ad:Ad}(W:c.rd=false->ro=none)
  (hN:∀o∈ops.toList,∀d,o.dst=some d->d<N) (ho:ops[i]?=some o) (U:Inv (c.cx B) X0 N X fr ds a) (D:AdOk fr a.tmps ad) (h:jc c ops.toList o K ad fr X.st ds) :
  wpOpIn (ev ro) n c.P ops Q i (PK (c.cx B) X0 N K) a X.w:=by
 have A:o∈ops.toList:=lMg (by simpa using ho);unfold wpOpIn;simp only[ho];unfold jc fc at h;split at h
 ·rename_i hg;have E:Region.wanted o (yielded ops a.tmps)=true:=by simp[Region.wanted,hg]
  rw[b_ E];exact vB W ⟨U,D,hN o A⟩ h
 ·rename_i j ai hg;split at h
  ·rename_i d hd;obtain⟨od,aa,ab⟩:=AJ hd;have ae:=hN od aa d ab;split at h
   ·rename_i b hs;have hy:=AH U hd ae hs;split at h
    ·rename_i O;have E:Region.wanted o (yielded ops a.tmps)=true:=by simp[Region.wanted,hg,hy,O]
     rw[b_ E];exact vB W ⟨U,D,hN o A⟩ h
    ·rename_i O;have E:¬ Region.wanted o (yielded ops a.tmps)=true:=by simp[Region.wanted,hg,hy,O]
     rw[a_ E];exact⟨λ_ _=>trivial,gD U D (hN o A) (.raw _ trivial) h⟩
   ·rename_i t hs;have hy:=AI U hd ae hs;have E:¬ Region.wanted o (yielded ops a.tmps)=true:=by simp[Region.wanted,hg,hy]
    rw[a_ E];exact⟨λ_ _=>trivial,gD U D (hN o A) (.raw _ trivial) h⟩
   ·exact h.elim
  ·exact h.elim
def Jn {bf:Array Nat}{ops:Array Oper}{A:Array Bool}(he:∀i,i<ops.size->EdgeP bf ops i)
  (ab:∀i,i<ops.size->A.getD i true=true->∀e∈(opAt ops i).after,Region.binds .any e=true->A.getD e.on true=true) :
  ∀i,i<ops.size->(∀e∈(opAt ops i).after,Region.binds .any e=true->A.getD e.on true=true)->∀j,j<ops.size->(bf.getD i 0).testBit j=true->A.getD j true=true:=by
 intro i
 induction i using Nat.strongRecOn with
 | _ i ih =>
  intro hi D j hj ht;obtain⟨e,O,hb,E⟩:=(he i hi).via j hj ht;rcases E with rfl|E
  ·exact D e O hb
  ·have U:=(he i hi).lt e O hb;have W:e.on<ops.size:=js U hi;exact ih e.on U W (ab e.on W (D e O hb)) j hj E
def Jo {c:Cf}(ak:c.dr=true){B:Nat}{X0:WS}{N:Nat}{ro:Option Nat}{n:Nat}{ops:Array Oper}{Q:Kc}(aO:c.rd=false->ro=none)(hN:∀o∈ops.toList,∀d,o.dst=some d->d<N)
  {bf:Array Nat} (he:∀i,i<ops.size->EdgeP bf ops i):∀(ac:Nat) (rest:List Nat) (A:Array Bool) (X:WS) (fr:Fr) (ds:List Dfd) (a:Act) (ad:Ad),rest.length<=ac →
   A.size=ops.size->(∀i,i<ops.size->(A.getD i true=false↔i∈rest))->(∀i∈rest,i<ops.size)->rest.Pairwise (PairP c bf ops) →
   (∀i,i<ops.size->A.getD i true=true->∀e∈(opAt ops i).after,Region.binds .any e=true->A.getD e.on true=true) →
   (∀i∈rest,∀d,(opAt ops i).dst=some d->kl ad d)->Safe ops.toList ad →
   Inv (c.cx B) X0 N X fr ds a->AdOk fr a.tmps ad->vcK c ops.toList (rest.map (opAt ops)) (λ_ fr st ds=>Q .normal fr st ds) ad fr X.st ds →
   wpAnyIn (ev ro) n c.P .any ops (PQ (c.cx B) X0 N Q) ac A a X.w:=by
 intro ac
 induction ac with
 | zero =>
  intro rest A X fr ds a ad aq au ae _ _ _ _ _ hI _ h;have:rest=[]:=eN (by omega);subst this;refine⟨?_,X,fr,ds,rfl,hI,h⟩;rw[List.eq_nil_iff_forall_not_mem];intro j D;obtain⟨h0,o,W,_⟩:=fb.1 D;have ag:j<ops.size:=(gO.1 W).1;cases (ae j ag).1 h0
 | succ ac ih =>
  intro rest A X fr ds a ad aq au ae ag aC aH aw aA hI aT h;have ab:∀i,i<ops.size->A.getD i false=A.getD i true:=λi hi=>by
   rw[gx,gx,jj (by rw[au];exact hi)];rfl
  refine⟨λhr=>?_,λi hi=>?_⟩
  ·have av:∀i,i<ops.size->i ∉ rest:=by
    intro i
    induction i using Nat.strongRecOn with
    | _ i aN =>
     intro E af;have:i∈Region.ready .any ops A:=fb.2 ⟨(ae i E).2 af,_,iC E,λe aa hb=>by
      have hl:=(he i E).lt e aa hb;have aj:e.on<ops.size:=js hl E;have:=aN e.on hl aj;rw[ab _ aj];cases hq:A.getD e.on true with
      | true=>rfl
      | false=>exact absurd ((ae _ aj).1 hq) this⟩
     rw[hr] at this;cases this
   have:rest=[]:=List.eq_nil_iff_forall_not_mem.2 λi af=>av i (ag i af) af;subst this;exact⟨X,fr,ds,rfl,hI,h⟩
  ·obtain⟨h0,o,W,aI⟩:=fb.1 hi;have E:i<ops.size:=(gO.1 W).1;obtain rfl:opAt ops i=o:=by rw[iC E] at W;exact eK W
   have af:=(ae i E).1 h0;have an:∀e∈(opAt ops i).after,Region.binds .any e=true->A.getD e.on true=true:=λe aa hb=>by
    rw[<- ab _ (js ((he i E).lt e aa hb) E)];exact aI e aa hb
   obtain⟨pre,U,rfl⟩:=List.append_of_mem af;have ao:=List.pairwise_append.1 aC;have aD:∀j∈pre,PairP c bf ops j i:=λj D=>ao.2.2 j D i (by simp);have am:∀j∈pre,Ap c ops.toList (opAt ops j) (opAt ops i)/\(mg c.esc (opAt ops j).dst (opAt ops j).op=true\/(iB c.esc (opAt ops j).dst (opAt ops j).op=true/\(iB c.esc (opAt ops i).dst (opAt ops i).op=true\/appQ c.esc (opAt ops i).dst (opAt ops i).op=true))):=λj D=>by
    refine ((aD j D).ap).resolve_left λht=>?_;have aF:=ag j (by simp[D]);have h1:=Jn he aH i E an j aF ht;have h2:=(ae j aF).2 (by simp[D]);rw[h1] at h2;cases h2
   have hP:Pend c ops.toList (pre.map (opAt ops)) (opAt ops i) ad:=by
    refine⟨?_,aA,?_,?_,?_,λd hd=>aw i af d hd⟩
    ·intro o W;obtain⟨j,D,rfl⟩:=eP.1 W;exact lMg (i:=j) (by simpa using iC (ag j (by simp[D])))
    ·intro o W;obtain⟨j,D,rfl⟩:=eP.1 W;exact (am j D).1
    ·exact List.pairwise_map.2 (ao.1.imp λh=>h.cl)
    ·intro o W;obtain⟨j,D,rfl⟩:=eP.1 W;exact aw j (by simp[D])
   rw[jn,eo,A7] at h;have h1:jc c ops.toList (opAt ops i) (vcK c ops.toList (pre.map (opAt ops)) (vcK c ops.toList (U.map (opAt ops)) (λ_ fr st ds=>Q .normal fr st ds))) ad fr X.st ds:=by
    by_cases ay:iB c.esc (opAt ops i).dst (opAt ops i).op=true
    ·refine Bh ak ay (pre.map (opAt ops)) ad fr X.st ds hP (λo W=>?_) h;obtain⟨j,D,rfl⟩:=eP.1 W;rcases (am j D).2 with hp|hp
     ·unfold iB;rw[hp];rfl
     ·exact hp.1
    ·by_cases aB:appQ c.esc (opAt ops i).dst (opAt ops i).op=true
     ·refine Bi ak aB (pre.map (opAt ops)) ad fr X.st ds hP (λo W=>?_) h;obtain⟨j,D,rfl⟩:=eP.1 W;rcases (am j D).2 with hp|hp
      ·unfold iB;rw[hp];rfl
      ·exact hp.1
     ·refine Bg ak (pre.map (opAt ops)) ad fr X.st ds hP (λo W=>?_) h;obtain⟨j,D,rfl⟩:=eP.1 W;exact (am j D).2.resolve_right λhp=>hp.2.elim ay aB
   rw[<- A7,<- jn] at h1;have aR:i ∉ pre++U:=by
    intro hm;rcases eX.1 hm with hm|hm
    ·exact (aD i hm).ne rfl
    ·exact ((List.pairwise_cons.1 ao.2.1).1 i hm).ne rfl
   have h2:jc c ops.toList (opAt ops i) (λad fr st ds=>((∀j∈pre++U,∀d,(opAt ops j).dst=some d->kl ad d)/\Safe ops.toList ad)/\vcK c ops.toList ((pre++U).map (opAt ops)) (λ_ fr st ds=>Q .normal fr st ds) ad fr st ds) ad fr X.st ds:=by
    refine qZ ?_ (pO h1);rintro pr st' aK ⟨hf,ai⟩;obtain⟨p,hp,hK⟩:=yZm.1 hf;refine yZm.2 ⟨p,hp,⟨λj D d hd=>?_,Bf (ops:=ops.toList) ak (lMg (i:=i) (by simpa using iC E)) aA ai hp⟩,hK⟩;refine sQ (ops:=ops.toList) ak (λha=>?_) (aw j (by simp only[eX,dC] at D ⊢;rcases D with D|D<;>simp[D]) d hd) ai hp;rcases eX.1 D with D|D
    ·exact (am j D).1.d d hd |>.1
    ·exact ((List.pairwise_cons.1 ao.2.1).1 j D).cl ha d hd
   refine wpOpIn_mono ?_ (Bk aO hN (iC E) hI aT h2);rintro a' w' ⟨X',aX,fr',aK,rfl,aV,aJ,⟨aE,az⟩,h'⟩;have ah:∀j,j<ops.size->((A.setIfInBounds i true).getD j true=if i=j then true else A.getD j true):=λj D=>by
    by_cases O:i=j
    ·subst O;rw[b_ rfl];simp
    ·rw[a_ O,fq true O]
   refine ih (pre++U) (A.setIfInBounds i true) X' fr' aK a' aX (by simp at aq ⊢;omega) (by simp[au]) (λj D=>?_) (λj D=>ag j (by simp only[eX,dC] at D ⊢;rcases D with D|D<;>simp[D]))
    (aC.sublist (List.Sublist.append_left (List.sublist_cons_self _ _) _)) (λj D hl e aa hb=>?_) aE az aV aJ h'
   ·rw[ah j D];by_cases O:i=j
    ·subst O;rw[b_ rfl];exact⟨(λh=>absurd h (by simp)),λh=>absurd h aR⟩
    ·rw[a_ O,ae j D];simp only[eX,dC];exact⟨λh=>by rcases h with h|h|h<;>first|exact .inl h|exact absurd h.symm O|exact .inr h,λh=>by rcases h with h|h<;>simp[h]⟩
   ·rw[ah j D] at hl;have aj:e.on<ops.size:=js ((he j D).lt e aa hb) D;rw[ah _ aj];by_cases aG:i=e.on
    ·rw[b_ aG]
    ·rw[a_ aG];by_cases O:i=j
     ·subst O;exact an e aa hb
     ·rw[a_ O] at hl;exact aH j D hl e aa hb
def lQ:List (Nat×List Nat)->Nat->Option (List Nat)
 | [],_=>none
 | (i,o)::l,id=>if id=i then some o else lQ l id
@[go_sem] def Uq (id:Nat):lQ [] id=none:=(rfl)
@[go_sem] def Ur (i id:Nat)(o:List Nat)(l:List (Nat×List Nat)):lQ ((i,o)::l) id=if id=i then some o else lQ l id:=(rfl)
def rf (o:Option (List Nat))(n:Nat):List Nat:=match o with|some l=>l|none=>List.range n
def anyV (c:Cf)(ops:Array Oper)(Q:Fr->ISt->List Dfd->Prop):Nat->Array Bool->Kt
 | 0,A=>λ_ fr st ds=>Region.ready .any ops A=[]->Q fr st ds
 | n+1,A=>λad fr st ds=>(Region.ready .any ops A=[]->Q fr st ds) /\
   ∀i∈Region.ready .any ops A,jc c ops.toList (opAt ops i) (anyV c ops Q n (A.setIfInBounds i true)) ad fr st ds
def Bl {dst:Option Nat}{K K':Kt}{ad:Ad}{fr:Fr}(h:∀ad fr st ds,K ad fr st ds->K' ad fr st ds):∀pr st ds,finK dst K ad fr pr st ds->finK dst K' ad fr pr st ds:=λpr st ds A=>by
 obtain⟨p,hp,D⟩:=yZm.1 A;exact yZm.2 ⟨p,hp,h _ _ _ _ D⟩
def Bn {c:Cf}{ops:Array Oper}{Q Q':Fr->ISt->List Dfd->Prop}(h:∀fr st ds,Q fr st ds->Q' fr st ds):∀(n:Nat) (A:Array Bool) {ad:Ad} {fr:Fr} {st:ISt} {ds:List Dfd},anyV c ops Q n A ad fr st ds->anyV c ops Q' n A ad fr st ds
 | 0,_,_,_,_,_,D=>λE=>h _ _ _ (D E)
 | n+1,_,_,_,_,_,D=>⟨λE=>h _ _ _ (D.1 E),λi O=>qZ (Bl λ_ _ _ _ U=>Bn h n _ U) (D.2 i O)⟩
def mU {c:Cf}{ops:Array Oper}{Q:Fr->ISt->List Dfd->Prop}(J:Array Bool->Kt)
  (U:∀A ad fr st ds,A.size=ops.size->J A ad fr st ds->∀i∈Region.ready .any ops A,jc c ops.toList (opAt ops i) (J (A.setIfInBounds i true)) ad fr st ds)
  (O:∀A ad fr st ds,A.size=ops.size->Region.ready .any ops A=[]->J A ad fr st ds->Q fr st ds) :
  ∀(n:Nat) (A:Array Bool) (ad:Ad) (fr:Fr) (st:ISt) (ds:List Dfd),A.size=ops.size->J A ad fr st ds->anyV c ops Q n A ad fr st ds
 | 0,A,ad,fr,st,ds,D,h=>λE=>O _ _ _ _ _ D E h
 | n+1,A,ad,fr,st,ds,D,h=>⟨λE=>O _ _ _ _ _ D E h,λi W=>qZ (Bl λad fr st ds h'=>mU J U O n _ ad fr st ds (by rw[lz];exact D) h') (U _ _ _ _ _ D h i W)⟩
def Jp {c:Cf}{B:Nat}{X0:WS}{N:Nat}{ro:Option Nat}{n:Nat}{ops:Array Oper}{Q:Kc}(af:c.rd=false->ro=none)(hN:∀o∈ops.toList,∀d,o.dst=some d->d<N) :
  ∀(D:Nat) (rest:List Nat) (A:Array Bool) (X:WS) (fr:Fr) (ds:List Dfd) (a:Act) (ad:Ad),rest.length<=D->A.size=ops.size->(∀i,i<ops.size->A.getD i true=false->i∈rest) →
   Inv (c.cx B) X0 N X fr ds a->AdOk fr a.tmps ad->anyV c ops (Q .normal) D A ad fr X.st ds->wpAnyIn (ev ro) n c.P .any ops (PQ (c.cx B) X0 N Q) D A a X.w:=by
 intro D
 induction D with
 | zero =>
  intro rest A X fr ds a ad W U E hI _ h;have:rest=[]:=eN (by omega);subst this;have hr:Region.ready .any ops A=[]:=by
   rw[List.eq_nil_iff_forall_not_mem];intro j hj;obtain⟨h0,o,ho,_⟩:=fb.1 hj;cases E j (gO.1 ho).1 h0
  exact⟨hr,X,fr,ds,rfl,hI,h hr⟩
 | succ D ih =>
  intro rest A X fr ds a ad W U E hI ak h;refine⟨λhr=>⟨X,fr,ds,rfl,hI,h.1 hr⟩,λi hi=>?_⟩;obtain⟨h0,o,ho,_⟩:=fb.1 hi;have aa:i<ops.size:=(gO.1 ho).1;have aj:=E i aa h0;refine wpOpIn_mono ?_ (Bk af hN (iC aa) hI ak (h.2 i hi));rintro a' w' ⟨X',aq,fr',ao,rfl,am,ab,h'⟩;refine ih (rest.erase i) (A.setIfInBounds i true) X' fr' ao a' aq (by rw[List.length_erase_of_mem aj];omega) (by simp[U]) (λj hj hl=>?_) am ab h';by_cases O:i=j
  ·subst O;simp at hl
  ·rw[fq true O] at hl;exact (List.mem_erase_of_ne (Ne.symm O)).2 (E j hj hl)
def anyO:Option (List Nat)->Bool
 | some []=>true
 | _=>false
def mj (c:Cf)(ops:Array Oper)(o:Option (List Nat))(Q:Fr->ISt->List Dfd->Prop)(fr:Fr)(st:ISt)(ds:List Dfd):Prop :=
 match o with
 | some []=>anyV { c with dr:=true } ops Q ops.size (Array.replicate ops.size false) Ad.none_ fr st ds
 | none=>fR { c with dr:=true } ops.toList ops.toList Q Ad.none_ fr st ds
 | some l=>fR { c with dr:=true } ops.toList (l.map (opAt ops)) Q Ad.none_ fr st ds
@[congr] def Us (c:Cf)(ops:Array Oper){o o':Option (List Nat)}(Q:Fr->ISt->List Dfd->Prop)(fr:Fr)(st:ISt)(ds:List Dfd)(h:o=o'):mj c ops o Q fr st ds=mj c ops o' Q fr st ds:=by rw[h]
@[go_sem] def Ut (c:Cf)(l:List Oper)(Q:Fr->ISt->List Dfd->Prop)(fr:Fr)(st:ISt)(ds:List Dfd):mj c ⟨l⟩ none Q fr st ds=fR { c with dr:=true } l l Q Ad.none_ fr st ds:=(rfl)
@[go_sem] def Uu (c:Cf)(ops:List Oper)(i:Nat)(l:List Nat)(Q:Fr->ISt->List Dfd->Prop)(fr:Fr)(st:ISt)(ds:List Dfd):mj c ⟨ops⟩ (some (i::l)) Q fr st ds=fR { c with dr:=true } ops ((i::l).map (opAt ⟨ops⟩)) Q Ad.none_ fr st ds:=(rfl)
def nL (c:Cf)(ops:List Oper)(Q:Fr->ISt->List Dfd->Prop)(fr:Fr)(st:ISt)(ds:List Dfd):mj c ⟨ops⟩ (some []) Q fr st ds=anyV { c with dr:=true } ⟨ops⟩ Q ops.length (Array.replicate ops.length false) Ad.none_ fr st ds:=(rfl)
@[go_sem ↓] def Uv (o:Oper)(l:List Oper):opAt ⟨o::l⟩ 0=o:=(rfl)
@[go_sem ↓] def Uw (o:Oper)(l:List Oper)(i:Nat):opAt ⟨o::l⟩ (i+1)=opAt ⟨l⟩ i:=by simp[opAt]
def Jq (ops:Array Oper):(List.range ops.size).map (opAt ops)=ops.toList:=by
 apply List.ext_getElem
 ·simp
 ·intro i h1 h2;have A:i<ops.size:=by simpa using h1
  have:=iC A;rw[jj A,dL] at this;simp[<- this]
def Jr {c:Cf}{B:Nat}{X0 X:WS}{N:Nat}{ro:Option Nat}{n id:Nat}{ops:Array Oper}{ord:Option (List Nat)}{Q:Kc}{fr:Fr}{ds:List Dfd}{a:Act}(O:c.rd=false->ro=none)(hN:∀o∈ops.toList,∀d,o.dst=some d->d<N)
  (hm:c.P.follows .mixedOrders=true) (A:(anyO ord || vW c.esc ops (rf ord ops.size))=true) (hI:Inv (c.cx B) X0 N X fr ds a) (h:mj c ops ord (Q .normal) fr X.st ds):(Code.region id ops true).wpIn (ev ro) n c.P (PQ (c.cx B) X0 N Q) a X.w:=by
 obtain⟨he,hg⟩:=hI.good.drew;have U:Inv (c.cx B) X0 N X.drew fr ds a:=hI.ext' he hg;by_cases D:anyO ord=true
 ·obtain rfl:ord=some []:=by
   match ord,D with
   | some [],_=>rfl
  refine wpIn_region_any hm ?_;exact Jp (c:={ c with dr:=true }) O hN ops.size (List.range ops.size) _ X.drew fr ds a Ad.none_ (by simp) (by simp) (λi E _=>gy.2 E) U .nil h
 rw[Bool.eq_false_iff.2 D,Bool.false_or] at A;replace h:fR { c with dr:=true } ops.toList ((rf ord ops.size).map (opAt ops)) (Q .normal) Ad.none_ fr X.st ds:=by
  match ord,h,D with
  | none,h,_=>simp only[rf,Jq];exact h
  | some (i::l),h,_=>exact h
  | some [],_,h=>exact absurd rfl h
 generalize rf ord ops.size=ord at A h;unfold vW at A;simp only[bAt,ed,gy,dTe] at A;obtain⟨⟨⟨h1,h2⟩,aa⟩,h3⟩:=A;have W:=(Bj h3).imp (λ{i j} h=>Jm (c:={ c with dr:=true }) h);refine wpIn_region_any hm ?_;refine Jo (c:={ c with dr:=true }) (bf:=Region.before ops) rfl O hN (λi E=>Jl (h1 i E).2) ops.size ord _ X.drew fr ds a Ad.none_ ?_ (by simp) (λi E=>?_) h2 W (λi E hl=>?_) (λi E d hd x t off h=>by cases h) (Ji _) U .nil (A8 h)
 ·exact aa
 ·have:i∈ord:=by simpa using (h1 i E).1
  simp[this,E]
 ·rw[gx,jj (by simpa using E)] at hl;simp at hl
