/- The layer of ideal values, part Ob: regi -/
import Derived.Test.YtakbihknkdpmgaaGreatDoorJF
set_option linter.all false
namespace Go.Iv
open Go
def Cl (ops:List Oper)(x y:Oper):Prop:=pq x.op=true->∀d,y.dst=some d->d ∉ looks ops x
def tD {c:Cf}(E:c.dr=true){ops:List Oper}{x:Oper}{d:Nat}{ad:Ad}{fr:Fr}{pr:PR}{p:Ad×Fr}(G:pq x.op=true->d ∉ looks ops x)(J:jY ad d)(hf:Fine c x.op ad fr pr)
  (D:after x.dst pr ad fr=some p):jY p.1 d:=by
 cases U:x.dst with
 | none =>
  rw[U] at D;cases pr<;>simp only[after,dG,reduceCtorEq] at D<;>subst D<;>exact J
 | some e =>
  rw[U] at D;obtain⟨a,s,rfl,_,h⟩:=qX D;intro y t off A;simp only[Ad.put_apply] at A;split at A
  ·rcases h with rfl|⟨t',O,h1,rfl⟩
   ·cases A
   ·cases A;exact qW (G (hf.isA t off h1 E)) J (hf.adr t off h1)
  ·exact J y t off (oj A).1
def BP {c:Cf}(E:c.dr=true){ops:List Oper}{x:Oper}(U:x∈ops){ad:Ad}{fr:Fr}{pr:PR}{p:Ad×Fr}(hs:Safe ops ad)(hf:Fine c x.op ad fr pr)(A:after x.dst pr ad fr=some p):Safe ops p.1:=λe J=>by
 obtain⟨h1,h2⟩:=hs e J;refine⟨tD E (λO=>(BO J U O).1) h1 hf A,?_⟩;cases hd:x.dst with
 | none =>
  rw[hd] at A;cases pr<;>simp only[after,dG,reduceCtorEq] at A<;>subst A<;>exact h2
 | some d =>
  rw[hd] at A;obtain⟨a,s,rfl,_,h⟩:=qX A;simp only[Ad.put_apply];split
  ·rename_i G;rcases h with rfl|⟨t',D,h3,rfl⟩
   ·rfl
   ·exact absurd (hd.trans (dX some G.symm)) (BO J U (hf.isA t' D h3 E)).2
  ·rw[h2];rfl
def wI {dst:Option Nat}{pr:PR}{ad:Ad}{fr:Fr}{p:Ad×Fr}(h:after dst pr ad fr=some p)(D:Ad)(fr':Fr):∃p',after dst pr D fr'=some p':=by
 cases dst with
 | none=>cases pr<;>first|exact⟨_,rfl⟩|cases h
 | some d =>
  obtain⟨a,s,_,A,_⟩:=qX h;exact⟨_,A _ _⟩
structure Pend (c:Cf)(ops:List Oper)(pre:List Oper)(i:Oper)(ad:Ad):Prop where
 mem:∀j∈pre,j∈ops
 sf:Safe ops ad
 ap:∀j∈pre,Ap c ops j i
 cl:pre.Pairwise (Cl ops)
 nj:∀j∈pre,∀d,j.dst=some d->jY ad d
 ni:∀d,i.dst=some d->jY ad d
def Pend.tail {c:Cf}(A:c.dr=true){ops:List Oper}{j:Oper}{pre:List Oper}{i:Oper}{ad:Ad}{fr:Fr}{pr:PR}{p:Ad×Fr}(h:Pend c ops (j::pre) i ad)(G:Fine c j.op ad fr pr)(E:after j.dst pr ad fr=some p):Pend c ops pre i p.1 where
 mem k D:=h.mem k (.tail _ D)
 sf:=BP A (h.mem j (.head _)) h.sf G E
 ap k D:=h.ap k (.tail _ D)
 cl:=(jG.1 h.cl).2
 nj k D d hd:=tD A (λE=>(jG.1 h.cl).1 k D E d hd) (h.nj k (.tail _ D) d hd) G E
 ni d hd:=tD A (λ_=>(h.ap j (.head _)).e d hd) (h.ni d hd) G E
def One (c:Cf)(ops:List Oper)(i:Oper)(ad:Ad)(fr:Fr)(pr:PR):Prop:=∀R st ds,fh c ops i R ad fr st ds↔R pr st ds
def One.fine {c:Cf}{ops:List Oper}{i:Oper}{ad:Ad}{fr:Fr}{pr:PR}(h:One c ops i ad fr pr):Fine c i.op ad fr pr:=by
 have h1:fh c ops i (λp _ _=>p=pr) ad fr (λ_=>none) []:=(h _ _ _).2 rfl;have h2:=(h _ _ _).1 (px h1);exact h2.2
def One.of_same {c:Cf}{ops:List Oper}{i:Oper}{ad A:Ad}{fr fr':Fr}{pr:PR}(h:One c ops i ad fr pr)(hs:SameAt c i.op ad A fr fr')(D:nC ops i fr fr'):One c ops i A fr' pr :=
 λR st ds=>by rw[<- pw hs D];exact h R st ds
def BQ {c:Cf}(J:c.dr=true){ops:List Oper}{i:Oper}{K:Kt}:∀(pre:List Oper) (ad:Ad) (fr:Fr) (st:ISt) (ds:List Dfd),Pend c ops pre i ad->(∀j∈pre,l8 c.esc j.dst j.op=true) →
  vcK c ops pre (iM c ops i K) ad fr st ds->iM c ops i (vcK c ops pre K) ad fr st ds
 | [],ad,fr,st,ds,_,_,h=>h
 | j::pre,ad,fr,st,ds,E,ab,h=>by
  have O:=E.ap j (.head _);rcases Jy (c:=c) J (ops:=ops) (ad:=ad) (fr:=fr) (ab j (.head _)) with⟨pj,ho⟩|ho
  ·have D:One c ops j ad fr pj:=ho;obtain⟨q,hq,hK⟩:=yZg.1 ((D _ _ _).1 h);have G:=BQ J pre q.1 q.2 st ds (E.tail J D.fine hq) (λk hk=>ab k (.tail _ hk)) hK;have hs:=pz O E.sf (λd hd=>E.nj j (.head _) d hd) D.fine hq;change fh c ops i (finK i.dst (vcK c ops (j::pre) K) ad fr) ad fr st ds;have A:fh c ops i (finK i.dst (vcK c ops pre K) q.1 q.2) q.1 q.2 st ds:=G;rw[<- pw hs.1 hs.2] at A;refine qT ?_ (px A);rintro pi st' al ⟨h1,ac⟩;obtain⟨r,hr,ah⟩:=yZg.1 h1;obtain⟨p,hp⟩:=wI hr ad fr;obtain⟨r',aa,ae⟩:=wH O (λd hd=>E.nj j (.head _) d hd) (λd hd=>E.ni d hd) D.fine ac hq hp;rw[hr] at aa;cases aa;have U:=pz O.symm E.sf (λd hd=>E.ni d hd) ac hp;exact yZg.2 ⟨p,hp,((D.of_same U.1 U.2) _ _ _).2 (yZg.2 ⟨r,ae,ah⟩)⟩
  ·exact (ho _ _ _ h).elim
def BR {c:Cf}(D:c.dr=true){ops:List Oper}{i:Oper}{K:Kt}(hi:hZ c.esc i.dst i.op=true):∀(pre:List Oper) (ad:Ad) (fr:Fr) (st:ISt) (ds:List Dfd),Pend c ops pre i ad->(∀j∈pre,hZ c.esc j.dst j.op=true) →
  vcK c ops pre (iM c ops i K) ad fr st ds->iM c ops i (vcK c ops pre K) ad fr st ds
 | [],ad,fr,st,ds,_,_,h=>h
 | j::pre,ad,fr,st,ds,E,af,h=>by
  have aa:=E.ap j (.head _);have fine:∀ {o:Oper} {pr:PR},(∀R ds,fh c ops o R ad fr st ds↔R pr st ds)->Fine c o.op ad fr pr:=λ{o pr} ho=>by
   have h1:fh c ops o (λp _ _=>p=pr) ad fr st []:=(ho _ _).2 rfl;exact ((ho _ _).1 (px h1)).2
  rcases wE (c:=c) D (ops:=ops) (ad:=ad) (fr:=fr) (af j (.head _)) st with⟨pj,J,_⟩|ho
  ·have U:=fine J;obtain⟨q,hq,hK⟩:=yZg.1 ((J _ _).1 h);have G:=BR D hi pre q.1 q.2 st ds (E.tail D U hq) (λk hk=>af k (.tail _ hk)) hK;have hs:=pz aa E.sf (λd hd=>E.nj j (.head _) d hd) U hq;change fh c ops i (finK i.dst (vcK c ops (j::pre) K) ad fr) ad fr st ds;have A:fh c ops i (finK i.dst (vcK c ops pre K) q.1 q.2) q.1 q.2 st ds:=G;rw[<- pw hs.1 hs.2] at A;rcases wE (c:=c) D (ops:=ops) (ad:=ad) (fr:=fr) hi st with⟨pi,O,_⟩|ho
   ·have ag:=fine O;refine (O _ _).2 ?_;obtain⟨r,hr,aj⟩:=yZg.1 ((O _ _).1 A);obtain⟨p,hp⟩:=wI hr ad fr;obtain⟨r',ae,ah⟩:=wH aa (λd hd=>E.nj j (.head _) d hd) (λd hd=>E.ni d hd) U ag hq hp;rw[hr] at ae;cases ae;have ac:=pz aa.symm E.sf (λd hd=>E.ni d hd) ag hp;refine yZg.2 ⟨p,hp,?_⟩;change fh c ops j (finK j.dst (vcK c ops pre K) p.1 p.2) p.1 p.2 st ds;rw[<- pw ac.1 ac.2];exact (J _ _).2 (yZg.2 ⟨r,ah,aj⟩)
   ·exact (ho _ _ A).elim
  ·exact (ho _ _ h).elim
def BS {c:Cf}(O:c.dr=true){ops:List Oper}{i:Oper}{K:Kt}(hi:appQ c.esc i.dst i.op=true):∀(pre:List Oper) (ad:Ad) (fr:Fr) (st:ISt) (ds:List Dfd),Pend c ops pre i ad->(∀j∈pre,hZ c.esc j.dst j.op=true) →
  vcK c ops pre (iM c ops i K) ad fr st ds->iM c ops i (vcK c ops pre K) ad fr st ds
 | [],ad,fr,st,ds,_,_,h=>h
 | j::pre,ad,fr,st,ds,D,ac,h=>by
  have U:=D.ap j (.head _);have fine:∀ {o:Oper} {pr:PR},(∀R ds,fh c ops o R ad fr st ds↔R pr st ds)->Fine c o.op ad fr pr:=λ{o pr} ho=>by
   have h1:fh c ops o (λp _ _=>p=pr) ad fr st []:=(ho _ _).2 rfl;exact ((ho _ _).1 (px h1)).2
  rcases wE (c:=c) O (ops:=ops) (ad:=ad) (fr:=fr) (ac j (.head _)) st with⟨pj,ae,aj⟩|ho
  ·have J:=fine ae;obtain⟨q,hq,hK⟩:=yZg.1 ((ae _ _).1 h);have E:=BS O hi pre q.1 q.2 st ds (D.tail O J hq) (λk hk=>ac k (.tail _ hk)) hK;have hs:=pz U D.sf (λd hd=>D.nj j (.head _) d hd) J hq;change fh c ops i (finK i.dst (vcK c ops (j::pre) K) ad fr) ad fr st ds;have A:fh c ops i (finK i.dst (vcK c ops pre K) q.1 q.2) q.1 q.2 st ds:=E;rw[<- pw hs.1 hs.2] at A;refine qT ?_ (px (JB hi A));rintro pi st' al ⟨⟨h1,G⟩,af⟩;obtain⟨r,hr,ak⟩:=yZg.1 h1;obtain⟨p,hp⟩:=wI hr ad fr;obtain⟨r',ab,ah⟩:=wH U (λd hd=>D.nj j (.head _) d hd) (λd hd=>D.ni d hd) J af hq hp;rw[hr] at ab;cases ab;have aa:=pz U.symm D.sf (λd hd=>D.ni d hd) af hp;refine yZg.2 ⟨p,hp,?_⟩;change fh c ops j (finK j.dst (vcK c ops pre K) p.1 p.2) p.1 p.2 st' al;rw[<- pw aa.1 aa.2];exact aj st' G _ _ (yZg.2 ⟨r,ah,ak⟩)
  ·exact (ho _ _ h).elim
def opAt (ops:Array Oper)(i:Nat):Oper:=ops.getD i default
def nD {ops:Array Oper}{i:Nat}(h:i<ops.size):ops[i]?=some (opAt ops i):=by
 unfold opAt;rw[la,mu h];rfl
def wJ (bf:Array Nat)(ops:Array Oper)(i:Nat):Bool :=
 (opAt ops i).after.toList.all (λe=>!Region.binds .any e || decide (e.on<i)) &&
 (List.range ops.size).all λj=>!(bf.getD i 0).testBit j || (opAt ops i).after.toList.any λe=>Region.binds .any e&&(e.on == j || (bf.getD e.on 0).testBit j)
def wK (esc:List Nat)(bf:Array Nat)(ops:Array Oper)(i j:Nat):Bool :=
 i != j&&((bf.getD j 0).testBit i || (wA esc ops.toList (opAt ops i) (opAt ops j)&&(l8 esc (opAt ops i).dst (opAt ops i).op || (hZ esc (opAt ops i).dst (opAt ops i).op&&(hZ esc (opAt ops j).dst (opAt ops j).op || appQ esc (opAt ops j).dst (opAt ops j).op))))) &&
  (!pq (opAt ops i).op || match (opAt ops j).dst with|some d=>!(looks ops.toList (opAt ops i)).contains d|none=>true)
def tE (f:Nat->Nat->Bool):List Nat->Bool
 | []=>true
 | i::l=>l.all (f i)&&tE f l
def wL (esc:List Nat)(ops:Array Oper)(ord:List Nat):Bool :=
 (List.range ops.size).all (λi=>ord.contains i&&wJ (Region.before ops) ops i)&&ord.all (λi=>decide (i<ops.size))&&decide (ord.length<=ops.size)&&tE (wK esc (Region.before ops) ops) ord
def BU {f:Nat->Nat->Bool}:∀ {l:List Nat},tE f l=true->l.Pairwise (λi j=>f i j=true)
 | [],_=>.nil
 | i::l,h=>by
  simp only[tE,bAt,eP] at h;exact .cons h.1 (BU h.2)
structure EdgeP (bf:Array Nat)(ops:Array Oper)(i:Nat):Prop where
 lt:∀e∈(opAt ops i).after,Region.binds .any e=true->e.on<i
 via:∀j,j<ops.size->(bf.getD i 0).testBit j=true->∃e∈(opAt ops i).after,Region.binds .any e=true/\(e.on=j\/(bf.getD e.on 0).testBit j=true)
def JN {bf:Array Nat}{ops:Array Oper}{i:Nat}(h:wJ bf ops i=true):EdgeP bf ops i:=by
 unfold wJ at h;simp only[bAt,eP,lf,lZ,dTe,jE,gw,beq_iff_eq] at h;obtain⟨h1,h2⟩:=h;refine⟨λe D E=>(h1 e (by simpa using D)).resolve_left (by rw[E];exact λh=>by cases h),λj G ht=>?_⟩;obtain⟨e,D,E,A⟩:=(h2 j G).resolve_left (by rw[ht];exact λh=>by cases h);exact⟨e,by simpa using D,E,A⟩
structure PairP (c:Cf)(bf:Array Nat)(ops:Array Oper)(i j:Nat):Prop where
 ne:i≠j
 ap:(bf.getD j 0).testBit i=true\/(Ap c ops.toList (opAt ops i) (opAt ops j)/\(l8 c.esc (opAt ops i).dst (opAt ops i).op=true\/(hZ c.esc (opAt ops i).dst (opAt ops i).op=true/\(hZ c.esc (opAt ops j).dst (opAt ops j).op=true\/appQ c.esc (opAt ops j).dst (opAt ops j).op=true))))
 cl:Cl ops.toList (opAt ops i) (opAt ops j)
def JO {c:Cf}{bf:Array Nat}{ops:Array Oper}{i j:Nat}(h:wK c.esc bf ops i j=true):PairP c bf ops i j:=by
 unfold wK at h;simp only[bAt,lf,lZ,bne_iff_ne] at h;obtain⟨⟨h1,h2⟩,A⟩:=h;refine⟨h1,h2.imp id λh=>⟨JJ h.1,h.2⟩,λD d hd=>?_⟩;rcases A with A|A
 ·rw[D] at A;cases A
 ·rw[hd] at A;simpa using A
def BV {c:Cf}{B:Nat}{X0 X:WS}{N:Nat}{ro:Option Nat}{n i:Nat}{ops:Array Oper}{Q:Exit->Act->World->Prop}{o:Oper}{K:Kt}{fr:Fr}{ds:List Dfd}{a:Act}{ad:Ad}(O:c.rd=false->ro=none)
  (hN:∀o∈ops.toList,∀d,o.dst=some d->d<N) (ho:ops[i]?=some o) (J:Inv (c.cx B) X0 N X fr ds a) (D:AdOk fr a.tmps ad) (h:iM c ops.toList o K ad fr X.st ds) :
  wpOpIn (eF ro) n c.P ops Q i (PK (c.cx B) X0 N K) a X.w:=by
 have A:o∈ops.toList:=lMg (by simpa using ho);unfold wpOpIn;simp only[ho];unfold iM fh at h;split at h
 ·rename_i hg;have E:Region.wanted o (yielded ops a.tmps)=true:=by simp[Region.wanted,hg]
  rw[cV E];exact wm O ⟨J,D,hN o A⟩ h
 ·rename_i j ag hg;split at h
  ·rename_i d hd;obtain⟨od,U,aa⟩:=Bj hd;have ac:=hN od U d aa;split at h
   ·rename_i b hs;have hy:=Bh J hd ac hs;split at h
    ·rename_i G;have E:Region.wanted o (yielded ops a.tmps)=true:=by simp[Region.wanted,hg,hy,G]
     rw[cV E];exact wm O ⟨J,D,hN o A⟩ h
    ·rename_i G;have E:¬ Region.wanted o (yielded ops a.tmps)=true:=by simp[Region.wanted,hg,hy,G]
     rw[a_ E];exact⟨λ_ _=>trivial,gA J D (hN o A) (.raw _ trivial) h⟩
   ·rename_i t hs;have hy:=Bi J hd ac hs;have E:¬ Region.wanted o (yielded ops a.tmps)=true:=by simp[Region.wanted,hg,hy]
    rw[a_ E];exact⟨λ_ _=>trivial,gA J D (hN o A) (.raw _ trivial) h⟩
   ·exact h.elim
  ·exact h.elim
def JP {bf:Array Nat}{ops:Array Oper}{A:Array Bool}(he:∀i,i<ops.size->EdgeP bf ops i)
  (aa:∀i,i<ops.size->A.getD i true=true->∀e∈(opAt ops i).after,Region.binds .any e=true->A.getD e.on true=true) :
  ∀i,i<ops.size->(∀e∈(opAt ops i).after,Region.binds .any e=true->A.getD e.on true=true)->∀j,j<ops.size->(bf.getD i 0).testBit j=true->A.getD j true=true:=by
 intro i
 induction i using Nat.strongRecOn with
 | _ i ih =>
  intro U D j hj ht;obtain⟨e,G,hb,E⟩:=(he i U).via j hj ht;rcases E with rfl|E
  ·exact D e G hb
  ·have J:=(he i U).lt e G hb;have O:e.on<ops.size:=Nat.lt_trans J U;exact ih e.on J O (aa e.on O (D e G hb)) j hj E
def JQ {c:Cf}(aj:c.dr=true){B:Nat}{X0:WS}{N:Nat}{ro:Option Nat}{n:Nat}{ops:Array Oper}{Q:Kc}(aM:c.rd=false->ro=none)(hN:∀o∈ops.toList,∀d,o.dst=some d->d<N)
  {bf:Array Nat} (he:∀i,i<ops.size->EdgeP bf ops i):∀(ab:Nat) (rest:List Nat) (A:Array Bool) (X:WS) (fr:Fr) (ds:List Dfd) (a:Act) (ad:Ad),rest.length<=ab →
   A.size=ops.size->(∀i,i<ops.size->(A.getD i true=false↔i∈rest))->(∀i∈rest,i<ops.size)->rest.Pairwise (PairP c bf ops) →
   (∀i,i<ops.size->A.getD i true=true->∀e∈(opAt ops i).after,Region.binds .any e=true->A.getD e.on true=true) →
   (∀i∈rest,∀d,(opAt ops i).dst=some d->jY ad d)->Safe ops.toList ad →
   Inv (c.cx B) X0 N X fr ds a->AdOk fr a.tmps ad->vcK c ops.toList (rest.map (opAt ops)) (λ_ fr st ds=>Q .normal fr st ds) ad fr X.st ds →
   wpAnyIn (eF ro) n c.P .any ops (PQ (c.cx B) X0 N Q) ab A a X.w:=by
 intro ab
 induction ab with
 | zero =>
  intro rest A X fr ds a ad an aq ac _ _ _ _ _ hI _ h;have:rest=[]:=eG (by omega);subst this;refine⟨?_,X,fr,ds,rfl,hI,h⟩;rw[List.eq_nil_iff_forall_not_mem];intro j D;obtain⟨h0,o,O,_⟩:=mem_ready.1 D;have af:j<ops.size:=(iF.1 O).1;cases (ac j af).1 h0
 | succ ab ih =>
  intro rest A X fr ds a ad an aq ac af aA aF av ay hI aQ h;have aa:∀i,i<ops.size->A.getD i false=A.getD i true:=λi hi=>by
   rw[la,la,mu (by rw[aq];exact hi)];rfl
  refine⟨λhr=>?_,λi hi=>?_⟩
  ·have au:∀i,i<ops.size->i ∉ rest:=by
    intro i
    induction i using Nat.strongRecOn with
    | _ i aL =>
     intro E ae;have:i∈Region.ready .any ops A:=mem_ready.2 ⟨(ac i E).2 ae,_,nD E,λe U hb=>by
      have hl:=(he i E).lt e U hb;have ai:e.on<ops.size:=Nat.lt_trans hl E;have:=aL e.on hl ai;rw[aa _ ai];cases hq:A.getD e.on true with
      | true=>rfl
      | false=>exact absurd ((ac _ ai).1 hq) this⟩
     rw[hr] at this;cases this
   have:rest=[]:=List.eq_nil_iff_forall_not_mem.2 λi ae=>au i (af i ae) ae;subst this;exact⟨X,fr,ds,rfl,hI,h⟩
  ·obtain⟨h0,o,O,aG⟩:=mem_ready.1 hi;have E:i<ops.size:=(iF.1 O).1;obtain rfl:opAt ops i=o:=by rw[nD E] at O;exact eE O
   have ae:=(ac i E).1 h0;have al:∀e∈(opAt ops i).after,Region.binds .any e=true->A.getD e.on true=true:=λe U hb=>by
    rw[<- aa _ (Nat.lt_trans ((he i E).lt e U hb) E)];exact aG e U hb
   obtain⟨pre,J,rfl⟩:=List.append_of_mem ae;have am:=List.pairwise_append.1 aA;have aB:∀j∈pre,PairP c bf ops j i:=λj D=>am.2.2 j D i (by simp);have ak:∀j∈pre,Ap c ops.toList (opAt ops j) (opAt ops i)/\(l8 c.esc (opAt ops j).dst (opAt ops j).op=true\/(hZ c.esc (opAt ops j).dst (opAt ops j).op=true/\(hZ c.esc (opAt ops i).dst (opAt ops i).op=true\/appQ c.esc (opAt ops i).dst (opAt ops i).op=true))):=λj D=>by
    refine ((aB j D).ap).resolve_left λht=>?_;have aD:=af j (by simp[D]);have h1:=JP he aF i E al j aD ht;have h2:=(ac j aD).2 (by simp[D]);rw[h1] at h2;cases h2
   have hP:Pend c ops.toList (pre.map (opAt ops)) (opAt ops i) ad:=by
    refine⟨?_,ay,?_,?_,?_,λd hd=>av i ae d hd⟩
    ·intro o O;obtain⟨j,D,rfl⟩:=dH.1 O;exact lMg (i:=j) (by simpa using nD (af j (by simp[D])))
    ·intro o O;obtain⟨j,D,rfl⟩:=dH.1 O;exact (ak j D).1
    ·exact km.2 (am.1.imp λh=>h.cl)
    ·intro o O;obtain⟨j,D,rfl⟩:=dH.1 O;exact av j (by simp[D])
   rw[eJ,ec,BG] at h;have h1:iM c ops.toList (opAt ops i) (vcK c ops.toList (pre.map (opAt ops)) (vcK c ops.toList (J.map (opAt ops)) (λ_ fr st ds=>Q .normal fr st ds))) ad fr X.st ds:=by
    by_cases aw:hZ c.esc (opAt ops i).dst (opAt ops i).op=true
    ·refine BR aj aw (pre.map (opAt ops)) ad fr X.st ds hP (λo O=>?_) h;obtain⟨j,D,rfl⟩:=dH.1 O;rcases (ak j D).2 with hp|hp
     ·unfold hZ;rw[hp];rfl
     ·exact hp.1
    ·by_cases az:appQ c.esc (opAt ops i).dst (opAt ops i).op=true
     ·refine BS aj az (pre.map (opAt ops)) ad fr X.st ds hP (λo O=>?_) h;obtain⟨j,D,rfl⟩:=dH.1 O;rcases (ak j D).2 with hp|hp
      ·unfold hZ;rw[hp];rfl
      ·exact hp.1
     ·refine BQ aj (pre.map (opAt ops)) ad fr X.st ds hP (λo O=>?_) h;obtain⟨j,D,rfl⟩:=dH.1 O;exact (ak j D).2.resolve_right λhp=>hp.2.elim aw az
   rw[<- BG,<- eJ] at h1;have aN:i ∉ pre++J:=by
    intro hm;rcases dR.1 hm with hm|hm
    ·exact (aB i hm).ne rfl
    ·exact ((jG.1 am.2.1).1 i hm).ne rfl
   have h2:iM c ops.toList (opAt ops i) (λad fr st ds=>((∀j∈pre++J,∀d,(opAt ops j).dst=some d->jY ad d)/\Safe ops.toList ad)/\vcK c ops.toList ((pre++J).map (opAt ops)) (λ_ fr st ds=>Q .normal fr st ds) ad fr st ds) ad fr X.st ds:=by
    refine qT ?_ (px h1);rintro pr st' aI ⟨hf,ah⟩;obtain⟨p,hp,hK⟩:=yZg.1 hf;refine yZg.2 ⟨p,hp,⟨λj D d hd=>?_,BP (ops:=ops.toList) aj (lMg (i:=i) (by simpa using nD E)) ay ah hp⟩,hK⟩;refine tD (ops:=ops.toList) aj (λha=>?_) (av j (by simp only[dR,dN] at D ⊢;rcases D with D|D<;>simp[D]) d hd) ah hp;rcases dR.1 D with D|D
    ·exact (ak j D).1.d d hd |>.1
    ·exact ((jG.1 am.2.1).1 j D).cl ha d hd
   refine wpOpIn_mono ?_ (BV aM hN (nD E) hI aQ h2);rintro a' w' ⟨X',aU,fr',aI,rfl,aT,aH,⟨aC,ax⟩,h'⟩;have ag:∀j,j<ops.size->((A.setIfInBounds i true).getD j true=if i=j then true else A.getD j true):=λj D=>by
    by_cases G:i=j
    ·subst G;rw[cV rfl];simp
    ·rw[a_ G,getD_set_ne true G]
   refine ih (pre++J) (A.setIfInBounds i true) X' fr' aI a' aU (by simp at an ⊢;omega) (by simp[aq]) (λj D=>?_) (λj D=>af j (by simp only[dR,dN] at D ⊢;rcases D with D|D<;>simp[D]))
    (aA.sublist (List.Sublist.append_left (List.sublist_cons_self _ _) _)) (λj D hl e U hb=>?_) aC ax aT aH h'
   ·rw[ag j D];by_cases G:i=j
    ·subst G;rw[cV rfl];exact⟨(λh=>absurd h (by simp)),λh=>absurd h aN⟩
    ·rw[a_ G,ac j D];simp only[dR,dN];exact⟨λh=>by rcases h with h|h|h<;>first|exact .inl h|exact absurd h.symm G|exact .inr h,λh=>by rcases h with h|h<;>simp[h]⟩
   ·rw[ag j D] at hl;have ai:e.on<ops.size:=Nat.lt_trans ((he j D).lt e U hb) D;rw[ag _ ai];by_cases aE:i=e.on
    ·rw[cV aE]
    ·rw[a_ aE];by_cases G:i=j
     ·subst G;exact al e U hb
     ·rw[a_ G] at hl;exact aF j D hl e U hb
def lD:List (Nat×List Nat)->Nat->Option (List Nat)
 | [],_=>none
 | (i,o)::l,id=>if id=i then some o else lD l id
@[go_sem] def UA (id:Nat):lD [] id=none:=(rfl)
@[go_sem] def UB (i id:Nat)(o:List Nat)(l:List (Nat×List Nat)):lD ((i,o)::l) id=if id=i then some o else lD l id:=(rfl)
def qY (o:Option (List Nat))(n:Nat):List Nat:=match o with|some l=>l|none=>List.range n
def anyV (c:Cf)(ops:Array Oper)(Q:Fr->ISt->List Dfd->Prop):Nat->Array Bool->Kt
 | 0,A=>λ_ fr st ds=>Region.ready .any ops A=[]->Q fr st ds
 | n+1,A=>λad fr st ds=>(Region.ready .any ops A=[]->Q fr st ds) /\
   ∀i∈Region.ready .any ops A,iM c ops.toList (opAt ops i) (anyV c ops Q n (A.setIfInBounds i true)) ad fr st ds
def BW {dst:Option Nat}{K K':Kt}{ad:Ad}{fr:Fr}(h:∀ad fr st ds,K ad fr st ds->K' ad fr st ds):∀pr st ds,finK dst K ad fr pr st ds->finK dst K' ad fr pr st ds:=λpr st ds A=>by
 obtain⟨p,hp,hK⟩:=yZg.1 A;exact yZg.2 ⟨p,hp,h _ _ _ _ hK⟩
def BX {c:Cf}{ops:Array Oper}{Q Q':Fr->ISt->List Dfd->Prop}(h:∀fr st ds,Q fr st ds->Q' fr st ds):∀(n:Nat) (A:Array Bool) {ad:Ad} {fr:Fr} {st:ISt} {ds:List Dfd},anyV c ops Q n A ad fr st ds->anyV c ops Q' n A ad fr st ds
 | 0,_,_,_,_,_,D=>λE=>h _ _ _ (D E)
 | n+1,_,_,_,_,_,D=>⟨λE=>h _ _ _ (D.1 E),λi G=>qT (BW λ_ _ _ _ J=>BX h n _ J) (D.2 i G)⟩
def wM {c:Cf}{ops:Array Oper}{Q:Fr->ISt->List Dfd->Prop}(J:Array Bool->Kt)
  (hs:∀A ad fr st ds,A.size=ops.size->J A ad fr st ds->∀i∈Region.ready .any ops A,iM c ops.toList (opAt ops i) (J (A.setIfInBounds i true)) ad fr st ds)
  (G:∀A ad fr st ds,A.size=ops.size->Region.ready .any ops A=[]->J A ad fr st ds->Q fr st ds) :
  ∀(n:Nat) (A:Array Bool) (ad:Ad) (fr:Fr) (st:ISt) (ds:List Dfd),A.size=ops.size->J A ad fr st ds->anyV c ops Q n A ad fr st ds
 | 0,A,ad,fr,st,ds,D,h=>λE=>G _ _ _ _ _ D E h
 | n+1,A,ad,fr,st,ds,D,h=>⟨λE=>G _ _ _ _ _ D E h,λi O=>qT (BW λad fr st ds U=>wM J hs G n _ ad fr st ds (by rw[lb];exact D) U) (hs _ _ _ _ _ D h i O)⟩
def JR {c:Cf}{B:Nat}{X0:WS}{N:Nat}{ro:Option Nat}{n:Nat}{ops:Array Oper}{Q:Kc}(ae:c.rd=false->ro=none)(hN:∀o∈ops.toList,∀d,o.dst=some d->d<N) :
  ∀(D:Nat) (rest:List Nat) (A:Array Bool) (X:WS) (fr:Fr) (ds:List Dfd) (a:Act) (ad:Ad),rest.length<=D->A.size=ops.size->(∀i,i<ops.size->A.getD i true=false->i∈rest) →
   Inv (c.cx B) X0 N X fr ds a->AdOk fr a.tmps ad->anyV c ops (Q .normal) D A ad fr X.st ds->wpAnyIn (eF ro) n c.P .any ops (PQ (c.cx B) X0 N Q) D A a X.w:=by
 intro D
 induction D with
 | zero =>
  intro rest A X fr ds a ad O J E hI _ h;have:rest=[]:=eG (by omega);subst this;have hr:Region.ready .any ops A=[]:=by
   rw[List.eq_nil_iff_forall_not_mem];intro j hj;obtain⟨h0,o,ho,_⟩:=mem_ready.1 hj;cases E j (iF.1 ho).1 h0
  exact⟨hr,X,fr,ds,rfl,hI,h hr⟩
 | succ D ih =>
  intro rest A X fr ds a ad O J E hI ai h;refine⟨λhr=>⟨X,fr,ds,rfl,hI,h.1 hr⟩,λi hi=>?_⟩;obtain⟨h0,o,ho,_⟩:=mem_ready.1 hi;have U:i<ops.size:=(iF.1 ho).1;have ah:=E i U h0;refine wpOpIn_mono ?_ (BV ae hN (nD U) hI ai (h.2 i hi));rintro a' w' ⟨X',al,fr',ak,rfl,aj,aa,h'⟩;refine ih (rest.erase i) (A.setIfInBounds i true) X' fr' ak a' al (by rw[List.length_erase_of_mem ah];omega) (by simp[J]) (λj hj hl=>?_) aj aa h';by_cases G:i=j
  ·subst G;simp at hl
  ·rw[getD_set_ne true G] at hl;exact (List.mem_erase_of_ne (Ne.symm G)).2 (E j hj hl)
def anyO:Option (List Nat)->Bool
 | some []=>true
 | _=>false
def lE (c:Cf)(ops:Array Oper)(o:Option (List Nat))(Q:Fr->ISt->List Dfd->Prop)(fr:Fr)(st:ISt)(ds:List Dfd):Prop :=
 match o with
 | some []=>anyV { c with dr:=true } ops Q ops.size (Array.replicate ops.size false) Ad.none_ fr st ds
 | none=>fU { c with dr:=true } ops.toList ops.toList Q Ad.none_ fr st ds
 | some l=>fU { c with dr:=true } ops.toList (l.map (opAt ops)) Q Ad.none_ fr st ds
@[congr] def UC (c:Cf)(ops:Array Oper){o o':Option (List Nat)}(Q:Fr->ISt->List Dfd->Prop)(fr:Fr)(st:ISt)(ds:List Dfd)(h:o=o'):lE c ops o Q fr st ds=lE c ops o' Q fr st ds:=by rw[h]
@[go_sem] def UD (c:Cf)(l:List Oper)(Q:Fr->ISt->List Dfd->Prop)(fr:Fr)(st:ISt)(ds:List Dfd):lE c ⟨l⟩ none Q fr st ds=fU { c with dr:=true } l l Q Ad.none_ fr st ds:=(rfl)
@[go_sem] def UE (c:Cf)(ops:List Oper)(i:Nat)(l:List Nat)(Q:Fr->ISt->List Dfd->Prop)(fr:Fr)(st:ISt)(ds:List Dfd):lE c ⟨ops⟩ (some (i::l)) Q fr st ds=fU { c with dr:=true } ops ((i::l).map (opAt ⟨ops⟩)) Q Ad.none_ fr st ds:=(rfl)
def BY (c:Cf)(ops:List Oper)(Q:Fr->ISt->List Dfd->Prop)(fr:Fr)(st:ISt)(ds:List Dfd):lE c ⟨ops⟩ (some []) Q fr st ds=anyV { c with dr:=true } ⟨ops⟩ Q ops.length (Array.replicate ops.length false) Ad.none_ fr st ds:=(rfl)
@[go_sem ↓] def UF (o:Oper)(l:List Oper):opAt ⟨o::l⟩ 0=o:=(rfl)
@[go_sem ↓] def UG (o:Oper)(l:List Oper)(i:Nat):opAt ⟨o::l⟩ (i+1)=opAt ⟨l⟩ i:=by simp[opAt]
def JS (ops:Array Oper):(List.range ops.size).map (opAt ops)=ops.toList:=by
 apply List.ext_getElem
 ·simp
 ·intro i h1 h2;have A:i<ops.size:=by simpa using h1
  have:=nD A;rw[mu A,dG] at this;simp[<- this]
def JT {c:Cf}{B:Nat}{X0 X:WS}{N:Nat}{ro:Option Nat}{n id:Nat}{ops:Array Oper}{ord:Option (List Nat)}{Q:Kc}{fr:Fr}{ds:List Dfd}{a:Act}(G:c.rd=false->ro=none)(hN:∀o∈ops.toList,∀d,o.dst=some d->d<N)
  (hm:c.P.follows .mixedOrders=true) (A:(anyO ord || wL c.esc ops (qY ord ops.size))=true) (hI:Inv (c.cx B) X0 N X fr ds a) (h:lE c ops ord (Q .normal) fr X.st ds):(Code.region id ops true).wpIn (eF ro) n c.P (PQ (c.cx B) X0 N Q) a X.w:=by
 obtain⟨he,hg⟩:=hI.good.drew;have J:Inv (c.cx B) X0 N X.drew fr ds a:=hI.ext' he hg;by_cases D:anyO ord=true
 ·obtain rfl:ord=some []:=by
   match ord,D with
   | some [],_=>rfl
  refine wpIn_region_any hm ?_;exact JR (c:={ c with dr:=true }) G hN ops.size (List.range ops.size) _ X.drew fr ds a Ad.none_ (by simp) (by simp) (λi E _=>jE.2 E) J .nil h
 rw[Bool.eq_false_iff.2 D,Bool.false_or] at A;replace h:fU { c with dr:=true } ops.toList ((qY ord ops.size).map (opAt ops)) (Q .normal) Ad.none_ fr X.st ds:=by
  match ord,h,D with
  | none,h,_=>simp only[qY,JS];exact h
  | some (i::l),h,_=>exact h
  | some [],_,h=>exact absurd rfl h
 generalize qY ord ops.size=ord at A h;unfold wL at A;simp only[bAt,eP,jE,dTe] at A;obtain⟨⟨⟨h1,h2⟩,U⟩,h3⟩:=A;have O:=(BU h3).imp (λ{i j} h=>JO (c:={ c with dr:=true }) h);refine wpIn_region_any hm ?_;refine JQ (c:={ c with dr:=true }) (bf:=Region.before ops) rfl G hN (λi E=>JN (h1 i E).2) ops.size ord _ X.drew fr ds a Ad.none_ ?_ (by simp) (λi E=>?_) h2 O (λi E hl=>?_) (λi E d hd x t off h=>by cases h) (JK _) J .nil (BH h)
 ·exact U
 ·have:i∈ord:=by simpa using (h1 i E).1
  simp[this,E]
 ·rw[la,mu (by simpa using E)] at hl;simp at hl
