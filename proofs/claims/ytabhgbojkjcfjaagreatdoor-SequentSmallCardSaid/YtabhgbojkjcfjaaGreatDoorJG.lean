/- The layer of ideal values, part Ob: regi -/
import Derived.Test.YtabhgbojkjcfjaaGreatDoorJF
set_option linter.all false
namespace Go.Iv
open Go
def Cl (ops:List Oper)(x y:Oper):Prop:=wQe x.op=true->∀d,y.dst=some d->d ∉ looks ops x
theorem yWp {c:Cf}(E:c.dr=true){ops:List Oper}{x:Oper}{d:Nat}{ad:Ad}{fr:Fr}{pr:PR}{p:Ad×Fr}(F:wQe x.op=true->d ∉ looks ops x)(G:yWv ad d)(U:Fine c x.op ad fr pr)
  (D:after x.dst pr ad fr=some p):yWv p.1 d:=by
 cases O:x.dst with
 | none =>
  rw[O] at D;cases pr<;>simp only[after,Option.some.injEq,reduceCtorEq] at D<;>subst D<;>exact G
 | some e =>
  rw[O] at D;obtain⟨a,s,rfl,_,h⟩:=yYk D;intro y t off A;simp only[Ad.put_apply] at A;split at A
  ·rcases h with rfl|⟨W,J,h1,rfl⟩
   ·cases A
   ·cases A;exact zZq (F (U.isA t off h1 E)) G (U.adr t off h1)
  ·exact G y t off (Ad.keep_some A).1
theorem zYu {c:Cf}(E:c.dr=true){ops:List Oper}{x:Oper}(O:x∈ops){ad:Ad}{fr:Fr}{pr:PR}{p:Ad×Fr}(hs:Safe ops ad)(U:Fine c x.op ad fr pr)(A:after x.dst pr ad fr=some p):Safe ops p.1:=λe G=>by
 obtain⟨h1,h2⟩:=hs e G;refine⟨yWp E (λJ=>(xWv G O J).1) h1 U A,?_⟩;cases hd:x.dst with
 | none =>
  rw[hd] at A;cases pr<;>simp only[after,Option.some.injEq,reduceCtorEq] at A<;>subst A<;>exact h2
 | some d =>
  rw[hd] at A;obtain⟨a,s,rfl,_,h⟩:=yYk A;simp only[Ad.put_apply];split
  ·rename_i F;rcases h with rfl|⟨W,D,h3,rfl⟩
   ·rfl
   ·exact absurd (hd.trans (congrArg some F.symm)) (xWv G O (U.isA W D h3 E)).2
  ·rw[h2];rfl
theorem zWn {dst:Option Nat}{pr:PR}{ad:Ad}{fr:Fr}{p:Ad×Fr}(h:after dst pr ad fr=some p)(D:Ad)(fr':Fr):∃p',after dst pr D fr'=some p':=by
 cases dst with
 | none=>cases pr<;>first|exact⟨_,rfl⟩|cases h
 | some d =>
  obtain⟨a,s,_,A,_⟩:=yYk h;exact⟨_,A _ _⟩
structure Pend (c:Cf)(ops:List Oper)(pre:List Oper)(i:Oper)(ad:Ad):Prop where
 mem:∀j∈pre,j∈ops
 sf:Safe ops ad
 ap:∀j∈pre,Ap c ops j i
 cl:pre.Pairwise (Cl ops)
 nj:∀j∈pre,∀d,j.dst=some d->yWv ad d
 ni:∀d,i.dst=some d->yWv ad d
theorem Pend.tail {c:Cf}(A:c.dr=true){ops:List Oper}{j:Oper}{E:List Oper}{i:Oper}{ad:Ad}{fr:Fr}{pr:PR}{p:Ad×Fr}(h:Pend c ops (j::E) i ad)(G:Fine c j.op ad fr pr)(F:after j.dst pr ad fr=some p):Pend c ops E i p.1 where
 mem k D:=h.mem k (.tail _ D)
 sf:=zYu A (h.mem j (.head _)) h.sf G F
 ap k D:=h.ap k (.tail _ D)
 cl:=(List.pairwise_cons.1 h.cl).2
 nj k D d hd:=yWp A (λF=>(List.pairwise_cons.1 h.cl).1 k D F d hd) (h.nj k (.tail _ D) d hd) G F
 ni d hd:=yWp A (λ_=>(h.ap j (.head _)).e d hd) (h.ni d hd) G F
def One (c:Cf)(ops:List Oper)(i:Oper)(ad:Ad)(fr:Fr)(pr:PR):Prop:=∀R st ds,yXk c ops i R ad fr st ds↔R pr st ds
theorem One.fine {c:Cf}{ops:List Oper}{i:Oper}{ad:Ad}{fr:Fr}{pr:PR}(h:One c ops i ad fr pr):Fine c i.op ad fr pr:=by
 have h1:yXk c ops i (λp _ _=>p=pr) ad fr (λ_=>none) []:=(h _ _ _).2 rfl;have h2:=(h _ _ _).1 (yVz h1);exact h2.2
theorem One.of_same {c:Cf}{ops:List Oper}{i:Oper}{ad A:Ad}{fr fr':Fr}{pr:PR}(h:One c ops i ad fr pr)(D:SameAt c i.op ad A fr fr')(E:yVl ops i fr fr'):One c ops i A fr' pr :=
 λR st ds=>by rw[<- yV1 D E];exact h R st ds
theorem xXk {c:Cf}(J:c.dr=true){ops:List Oper}{i:Oper}{K:Kt}:∀(A:List Oper) (ad:Ad) (fr:Fr) (st:ISt) (ds:List Dfd),Pend c ops A i ad->(∀j∈A,zY8 c.esc j.dst j.op=true) →
  vcK c ops A (yXa c ops i K) ad fr st ds->yXa c ops i (vcK c ops A K) ad fr st ds
 | [],ad,fr,st,ds,_,_,h=>h
 | j::A,ad,fr,st,ds,F,aa,h=>by
  have O:=F.ap j (.head _);rcases wJ7 (c:=c) J (ops:=ops) (ad:=ad) (fr:=fr) (aa j (.head _)) with⟨pj,ho⟩|ho
  ·have E:One c ops j ad fr pj:=ho;obtain⟨q,hq,hK⟩:=yX9.1 ((E _ _ _).1 h);have G:=xXk J A q.1 q.2 st ds (F.tail J E.fine hq) (λk hk=>aa k (.tail _ hk)) hK;have hs:=yW0 O F.sf (λd hd=>F.nj j (.head _) d hd) E.fine hq;change yXk c ops i (finK i.dst (vcK c ops (j::A) K) ad fr) ad fr st ds;have D:yXk c ops i (finK i.dst (vcK c ops A K) q.1 q.2) q.1 q.2 st ds:=G;rw[<- yV1 hs.1 hs.2] at D;refine zX7 ?_ (yVz D);rintro pi st' am ⟨h1,ab⟩;obtain⟨r,hr,ag⟩:=yX9.1 h1;obtain⟨p,hp⟩:=zWn hr ad fr;obtain⟨r',W,ac⟩:=zXw O (λd hd=>F.nj j (.head _) d hd) (λd hd=>F.ni d hd) E.fine ab hq hp;rw[hr] at W;cases W;have U:=yW0 O.symm F.sf (λd hd=>F.ni d hd) ab hp;exact yX9.2 ⟨p,hp,((E.of_same U.1 U.2) _ _ _).2 (yX9.2 ⟨r,ac,ag⟩)⟩
  ·exact (ho _ _ _ h).elim
theorem zG5 {c:Cf}(E:c.dr=true){ops:List Oper}{i:Oper}{K:Kt}(hi:yK8 c.esc i.dst i.op=true):∀(A:List Oper) (ad:Ad) (fr:Fr) (st:ISt) (ds:List Dfd),Pend c ops A i ad->(∀j∈A,yK8 c.esc j.dst j.op=true) →
  vcK c ops A (yXa c ops i K) ad fr st ds->yXa c ops i (vcK c ops A K) ad fr st ds
 | [],ad,fr,st,ds,_,_,h=>h
 | j::A,ad,fr,st,ds,F,ae,h=>by
  have W:=F.ap j (.head _);have fine:∀ {o:Oper} {pr:PR},(∀R ds,yXk c ops o R ad fr st ds↔R pr st ds)->Fine c o.op ad fr pr:=λ{o pr} ho=>by
   have h1:yXk c ops o (λp _ _=>p=pr) ad fr st []:=(ho _ _).2 rfl;exact ((ho _ _).1 (yVz h1)).2
  rcases zXi (c:=c) E (ops:=ops) (ad:=ad) (fr:=fr) (ae j (.head _)) st with⟨pj,J,_⟩|ho
  ·have U:=fine J;obtain⟨q,hq,hK⟩:=yX9.1 ((J _ _).1 h);have G:=zG5 E hi A q.1 q.2 st ds (F.tail E U hq) (λk hk=>ae k (.tail _ hk)) hK;have hs:=yW0 W F.sf (λd hd=>F.nj j (.head _) d hd) U hq;change yXk c ops i (finK i.dst (vcK c ops (j::A) K) ad fr) ad fr st ds;have D:yXk c ops i (finK i.dst (vcK c ops A K) q.1 q.2) q.1 q.2 st ds:=G;rw[<- yV1 hs.1 hs.2] at D;rcases zXi (c:=c) E (ops:=ops) (ad:=ad) (fr:=fr) hi st with⟨pi,O,_⟩|ho
   ·have af:=fine O;refine (O _ _).2 ?_;obtain⟨r,hr,ai⟩:=yX9.1 ((O _ _).1 D);obtain⟨p,hp⟩:=zWn hr ad fr;obtain⟨r',ac,ag⟩:=zXw W (λd hd=>F.nj j (.head _) d hd) (λd hd=>F.ni d hd) U af hq hp;rw[hr] at ac;cases ac;have ab:=yW0 W.symm F.sf (λd hd=>F.ni d hd) af hp;refine yX9.2 ⟨p,hp,?_⟩;change yXk c ops j (finK j.dst (vcK c ops A K) p.1 p.2) p.1 p.2 st ds;rw[<- yV1 ab.1 ab.2];exact (J _ _).2 (yX9.2 ⟨r,ag,ai⟩)
   ·exact (ho _ _ D).elim
  ·exact (ho _ _ h).elim
theorem xYh {c:Cf}(O:c.dr=true){ops:List Oper}{i:Oper}{K:Kt}(hi:appQ c.esc i.dst i.op=true):∀(A:List Oper) (ad:Ad) (fr:Fr) (st:ISt) (ds:List Dfd),Pend c ops A i ad->(∀j∈A,yK8 c.esc j.dst j.op=true) →
  vcK c ops A (yXa c ops i K) ad fr st ds->yXa c ops i (vcK c ops A K) ad fr st ds
 | [],ad,fr,st,ds,_,_,h=>h
 | j::A,ad,fr,st,ds,E,ab,h=>by
  have U:=E.ap j (.head _);have fine:∀ {o:Oper} {pr:PR},(∀R ds,yXk c ops o R ad fr st ds↔R pr st ds)->Fine c o.op ad fr pr:=λ{o pr} ho=>by
   have h1:yXk c ops o (λp _ _=>p=pr) ad fr st []:=(ho _ _).2 rfl;exact ((ho _ _).1 (yVz h1)).2
  rcases zXi (c:=c) O (ops:=ops) (ad:=ad) (fr:=fr) (ab j (.head _)) st with⟨pj,ac,ai⟩|ho
  ·have J:=fine ac;obtain⟨q,hq,hK⟩:=yX9.1 ((ac _ _).1 h);have F:=xYh O hi A q.1 q.2 st ds (E.tail O J hq) (λk hk=>ab k (.tail _ hk)) hK;have hs:=yW0 U E.sf (λd hd=>E.nj j (.head _) d hd) J hq;change yXk c ops i (finK i.dst (vcK c ops (j::A) K) ad fr) ad fr st ds;have D:yXk c ops i (finK i.dst (vcK c ops A K) q.1 q.2) q.1 q.2 st ds:=F;rw[<- yV1 hs.1 hs.2] at D;refine zX7 ?_ (yVz (wQw hi D));rintro pi st' ak ⟨⟨h1,G⟩,ae⟩;obtain⟨r,hr,aj⟩:=yX9.1 h1;obtain⟨p,hp⟩:=zWn hr ad fr;obtain⟨r',aa,ag⟩:=zXw U (λd hd=>E.nj j (.head _) d hd) (λd hd=>E.ni d hd) J ae hq hp;rw[hr] at aa;cases aa;have W:=yW0 U.symm E.sf (λd hd=>E.ni d hd) ae hp;refine yX9.2 ⟨p,hp,?_⟩;change yXk c ops j (finK j.dst (vcK c ops A K) p.1 p.2) p.1 p.2 st' ak;rw[<- yV1 W.1 W.2];exact ai st' G _ _ (yX9.2 ⟨r,ag,aj⟩)
  ·exact (ho _ _ h).elim
def opAt (ops:Array Oper)(i:Nat):Oper:=ops.getD i default
theorem yUh {ops:Array Oper}{i:Nat}(h:i<ops.size):ops[i]?=some (opAt ops i):=by
 unfold opAt;rw[Array.getD_eq_getD_getElem?,Array.getElem?_eq_getElem h];rfl
def wKk (bf:Array Nat)(ops:Array Oper)(i:Nat):Bool :=
 (opAt ops i).after.toList.all (λe=>!Region.binds .any e || decide (e.on<i)) &&
 (List.range ops.size).all λj=>!(bf.getD i 0).testBit j || (opAt ops i).after.toList.any λe=>Region.binds .any e&&(e.on == j || (bf.getD e.on 0).testBit j)
def wXo (esc:List Nat)(bf:Array Nat)(ops:Array Oper)(i j:Nat):Bool :=
 i != j&&((bf.getD j 0).testBit i || (wKy esc ops.toList (opAt ops i) (opAt ops j)&&(zY8 esc (opAt ops i).dst (opAt ops i).op || (yK8 esc (opAt ops i).dst (opAt ops i).op&&(yK8 esc (opAt ops j).dst (opAt ops j).op || appQ esc (opAt ops j).dst (opAt ops j).op))))) &&
  (!wQe (opAt ops i).op || match (opAt ops j).dst with|some d=>!(looks ops.toList (opAt ops i)).contains d|none=>true)
def xYc (f:Nat->Nat->Bool):List Nat->Bool
 | []=>true
 | i::l=>l.all (f i)&&xYc f l
def wKl (esc:List Nat)(ops:Array Oper)(ord:List Nat):Bool :=
 (List.range ops.size).all (λi=>ord.contains i&&wKk (Region.before ops) ops i)&&ord.all (λi=>decide (i<ops.size))&&decide (ord.length<=ops.size)&&xYc (wXo esc (Region.before ops) ops) ord
theorem yGq {f:Nat->Nat->Bool}:∀ {l:List Nat},xYc f l=true->l.Pairwise (λi j=>f i j=true)
 | [],_=>.nil
 | i::l,h=>by
  simp only[xYc,bAt,List.all_eq_true] at h;exact .cons h.1 (yGq h.2)
structure EdgeP (bf:Array Nat)(ops:Array Oper)(i:Nat):Prop where
 lt:∀e∈(opAt ops i).after,Region.binds .any e=true->e.on<i
 via:∀j,j<ops.size->(bf.getD i 0).testBit j=true->∃e∈(opAt ops i).after,Region.binds .any e=true/\(e.on=j\/(bf.getD e.on 0).testBit j=true)
theorem vX5 {bf:Array Nat}{ops:Array Oper}{i:Nat}(h:wKk bf ops i=true):EdgeP bf ops i:=by
 unfold wKk at h;simp only[bAt,List.all_eq_true,Bool.or_eq_true,Bool.not_eq_true',dTe,List.mem_range,List.any_eq_true,beq_iff_eq] at h;obtain⟨h1,h2⟩:=h;refine⟨λe D E=>(h1 e (by simpa using D)).resolve_left (by rw[E];exact λh=>by cases h),λj G F=>?_⟩;obtain⟨e,D,E,A⟩:=(h2 j G).resolve_left (by rw[F];exact λh=>by cases h);exact⟨e,by simpa using D,E,A⟩
structure PairP (c:Cf)(bf:Array Nat)(ops:Array Oper)(i j:Nat):Prop where
 ne:i≠j
 ap:(bf.getD j 0).testBit i=true\/(Ap c ops.toList (opAt ops i) (opAt ops j)/\(zY8 c.esc (opAt ops i).dst (opAt ops i).op=true\/(yK8 c.esc (opAt ops i).dst (opAt ops i).op=true/\(yK8 c.esc (opAt ops j).dst (opAt ops j).op=true\/appQ c.esc (opAt ops j).dst (opAt ops j).op=true))))
 cl:Cl ops.toList (opAt ops i) (opAt ops j)
theorem vZc {c:Cf}{bf:Array Nat}{ops:Array Oper}{i j:Nat}(h:wXo c.esc bf ops i j=true):PairP c bf ops i j:=by
 unfold wXo at h;simp only[bAt,Bool.or_eq_true,Bool.not_eq_true',bne_iff_ne] at h;obtain⟨⟨h1,h2⟩,A⟩:=h;refine⟨h1,h2.imp id λh=>⟨kQx h.1,h.2⟩,λD d hd=>?_⟩;rcases A with A|A
 ·rw[D] at A;cases A
 ·rw[hd] at A;simpa using A
theorem xUc {c:Cf}{B:Nat}{X0 X:WS}{N:Nat}{ro:Option Nat}{n i:Nat}{ops:Array Oper}{Q:Exit->Act->World->Prop}{o:Oper}{K:Kt}{fr:Fr}{ds:List Dfd}{a:Act}{ad:Ad}(J:c.rd=false->ro=none)
  (hN:∀o∈ops.toList,∀d,o.dst=some d->d<N) (ho:ops[i]?=some o) (G:Inv (c.cx B) X0 N X fr ds a) (D:AdOk fr a.tmps ad) (h:yXa c ops.toList o K ad fr X.st ds) :
  wpOpIn (yZo ro) n c.P ops Q i (PK (c.cx B) X0 N K) a X.w:=by
 have A:o∈ops.toList:=lMg (by simpa using ho);unfold wpOpIn;simp only[ho];unfold yXa yXk at h;split at h
 ·rename_i W;have E:Region.wanted o (yielded ops a.tmps)=true:=by simp[Region.wanted,W]
  rw[if_pos E];exact zX8 J ⟨G,D,hN o A⟩ h
 ·rename_i j af W;split at h
  ·rename_i d hd;obtain⟨od,O,U⟩:=xJo hd;have aa:=hN od O d U;split at h
   ·rename_i b hs;have hy:=zXy G hd aa hs;split at h
    ·rename_i F;have E:Region.wanted o (yielded ops a.tmps)=true:=by simp[Region.wanted,W,hy,F]
     rw[if_pos E];exact zX8 J ⟨G,D,hN o A⟩ h
    ·rename_i F;have E:¬ Region.wanted o (yielded ops a.tmps)=true:=by simp[Region.wanted,W,hy,F]
     rw[if_neg E];exact⟨λ_ _=>trivial,yXi G D (hN o A) (.raw _ trivial) h⟩
   ·rename_i t hs;have hy:=zXz G hd aa hs;have E:¬ Region.wanted o (yielded ops a.tmps)=true:=by simp[Region.wanted,W,hy]
    rw[if_neg E];exact⟨λ_ _=>trivial,yXi G D (hN o A) (.raw _ trivial) h⟩
   ·exact h.elim
  ·exact h.elim
theorem wJ5 {bf:Array Nat}{ops:Array Oper}{A:Array Bool}(he:∀i,i<ops.size->EdgeP bf ops i)
  (U:∀i,i<ops.size->A.getD i true=true->∀e∈(opAt ops i).after,Region.binds .any e=true->A.getD e.on true=true) :
  ∀i,i<ops.size->(∀e∈(opAt ops i).after,Region.binds .any e=true->A.getD e.on true=true)->∀j,j<ops.size->(bf.getD i 0).testBit j=true->A.getD j true=true:=by
 intro i
 induction i using Nat.strongRecOn with
 | _ i ih =>
  intro O D j hj ht;obtain⟨e,F,W,E⟩:=(he i O).via j hj ht;rcases E with rfl|E
  ·exact D e F W
  ·have G:=(he i O).lt e F W;have J:e.on<ops.size:=Nat.lt_trans G O;exact ih e.on G J (U e.on J (D e F W)) j hj E
theorem wZt {c:Cf}(ai:c.dr=true){B:Nat}{X0:WS}{N:Nat}{ro:Option Nat}{n:Nat}{ops:Array Oper}{Q:Kc}(aM:c.rd=false->ro=none)(hN:∀o∈ops.toList,∀d,o.dst=some d->d<N)
  {bf:Array Nat} (he:∀i,i<ops.size->EdgeP bf ops i):∀(aa:Nat) (rest:List Nat) (A:Array Bool) (X:WS) (fr:Fr) (ds:List Dfd) (a:Act) (ad:Ad),rest.length<=aa →
   A.size=ops.size->(∀i,i<ops.size->(A.getD i true=false↔i∈rest))->(∀i∈rest,i<ops.size)->rest.Pairwise (PairP c bf ops) →
   (∀i,i<ops.size->A.getD i true=true->∀e∈(opAt ops i).after,Region.binds .any e=true->A.getD e.on true=true) →
   (∀i∈rest,∀d,(opAt ops i).dst=some d->yWv ad d)->Safe ops.toList ad →
   Inv (c.cx B) X0 N X fr ds a->AdOk fr a.tmps ad->vcK c ops.toList (rest.map (opAt ops)) (λ_ fr st ds=>Q .normal fr st ds) ad fr X.st ds →
   wpAnyIn (yZo ro) n c.P .any ops (PQ (c.cx B) X0 N Q) aa A a X.w:=by
 intro aa
 induction aa with
 | zero =>
  intro rest A X fr ds a ad am ao ab _ _ _ _ _ hI _ h;have:rest=[]:=List.eq_nil_of_length_eq_zero (by omega);subst this;refine⟨?_,X,fr,ds,rfl,hI,h⟩;rw[List.eq_nil_iff_forall_not_mem];intro j D;obtain⟨h0,o,O,_⟩:=mem_ready.1 D;have ae:j<ops.size:=(Array.getElem?_eq_some_iff.1 O).1;cases (ab j ae).1 h0
 | succ aa ih =>
  intro rest A X fr ds a ad am ao ab ae aA aF au ay hI aP h;have W:∀i,i<ops.size->A.getD i false=A.getD i true:=λi hi=>by
   rw[Array.getD_eq_getD_getElem?,Array.getD_eq_getD_getElem?,Array.getElem?_eq_getElem (by rw[ao];exact hi)];rfl
  refine⟨λhr=>?_,λi hi=>?_⟩
  ·have aq:∀i,i<ops.size->i ∉ rest:=by
    intro i
    induction i using Nat.strongRecOn with
    | _ i aL =>
     intro E ac;have:i∈Region.ready .any ops A:=mem_ready.2 ⟨(ab i E).2 ac,_,yUh E,λe U hb=>by
      have hl:=(he i E).lt e U hb;have ah:e.on<ops.size:=Nat.lt_trans hl E;have:=aL e.on hl ah;rw[W _ ah];cases hq:A.getD e.on true with
      | true=>rfl
      | false=>exact absurd ((ab _ ah).1 hq) this⟩
     rw[hr] at this;cases this
   have:rest=[]:=List.eq_nil_iff_forall_not_mem.2 λi ac=>aq i (ae i ac) ac;subst this;exact⟨X,fr,ds,rfl,hI,h⟩
  ·obtain⟨h0,o,O,aG⟩:=mem_ready.1 hi;have E:i<ops.size:=(Array.getElem?_eq_some_iff.1 O).1;obtain rfl:opAt ops i=o:=by rw[yUh E] at O;exact Option.some.inj O
   have ac:=(ab i E).1 h0;have ak:∀e∈(opAt ops i).after,Region.binds .any e=true->A.getD e.on true=true:=λe U hb=>by
    rw[<- W _ (Nat.lt_trans ((he i E).lt e U hb) E)];exact aG e U hb
   obtain⟨F,J,rfl⟩:=List.append_of_mem ac;have al:=List.pairwise_append.1 aA;have aB:∀j∈F,PairP c bf ops j i:=λj D=>al.2.2 j D i (by simp);have aj:∀j∈F,Ap c ops.toList (opAt ops j) (opAt ops i)/\(zY8 c.esc (opAt ops j).dst (opAt ops j).op=true\/(yK8 c.esc (opAt ops j).dst (opAt ops j).op=true/\(yK8 c.esc (opAt ops i).dst (opAt ops i).op=true\/appQ c.esc (opAt ops i).dst (opAt ops i).op=true))):=λj D=>by
    refine ((aB j D).ap).resolve_left λht=>?_;have aD:=ae j (by simp[D]);have h1:=wJ5 he aF i E ak j aD ht;have h2:=(ab j aD).2 (by simp[D]);rw[h1] at h2;cases h2
   have hP:Pend c ops.toList (F.map (opAt ops)) (opAt ops i) ad:=by
    refine⟨?_,ay,?_,?_,?_,λd hd=>au i ac d hd⟩
    ·intro o O;obtain⟨j,D,rfl⟩:=List.mem_map.1 O;exact lMg (i:=j) (by simpa using yUh (ae j (by simp[D])))
    ·intro o O;obtain⟨j,D,rfl⟩:=List.mem_map.1 O;exact (aj j D).1
    ·exact List.pairwise_map.2 (al.1.imp λh=>h.cl)
    ·intro o O;obtain⟨j,D,rfl⟩:=List.mem_map.1 O;exact au j (by simp[D])
   rw[List.map_append,List.map_cons,zYl] at h;have h1:yXa c ops.toList (opAt ops i) (vcK c ops.toList (F.map (opAt ops)) (vcK c ops.toList (J.map (opAt ops)) (λ_ fr st ds=>Q .normal fr st ds))) ad fr X.st ds:=by
    by_cases aw:yK8 c.esc (opAt ops i).dst (opAt ops i).op=true
    ·refine zG5 ai aw (F.map (opAt ops)) ad fr X.st ds hP (λo O=>?_) h;obtain⟨j,D,rfl⟩:=List.mem_map.1 O;rcases (aj j D).2 with hp|hp
     ·unfold yK8;rw[hp];rfl
     ·exact hp.1
    ·by_cases az:appQ c.esc (opAt ops i).dst (opAt ops i).op=true
     ·refine xYh ai az (F.map (opAt ops)) ad fr X.st ds hP (λo O=>?_) h;obtain⟨j,D,rfl⟩:=List.mem_map.1 O;rcases (aj j D).2 with hp|hp
      ·unfold yK8;rw[hp];rfl
      ·exact hp.1
     ·refine xXk ai (F.map (opAt ops)) ad fr X.st ds hP (λo O=>?_) h;obtain⟨j,D,rfl⟩:=List.mem_map.1 O;exact (aj j D).2.resolve_right λhp=>hp.2.elim aw az
   rw[<- zYl,<- List.map_append] at h1;have aN:i ∉ F++J:=by
    intro hm;rcases List.mem_append.1 hm with hm|hm
    ·exact (aB i hm).ne rfl
    ·exact ((List.pairwise_cons.1 al.2.1).1 i hm).ne rfl
   have h2:yXa c ops.toList (opAt ops i) (λad fr st ds=>((∀j∈F++J,∀d,(opAt ops j).dst=some d->yWv ad d)/\Safe ops.toList ad)/\vcK c ops.toList ((F++J).map (opAt ops)) (λ_ fr st ds=>Q .normal fr st ds) ad fr st ds) ad fr X.st ds:=by
    refine zX7 ?_ (yVz h1);rintro pr st' aI ⟨hf,ag⟩;obtain⟨p,hp,hK⟩:=yX9.1 hf;refine yX9.2 ⟨p,hp,⟨λj D d hd=>?_,zYu (ops:=ops.toList) ai (lMg (i:=i) (by simpa using yUh E)) ay ag hp⟩,hK⟩;refine yWp (ops:=ops.toList) ai (λha=>?_) (au j (by simp only[List.mem_append,List.mem_cons] at D ⊢;rcases D with D|D<;>simp[D]) d hd) ag hp;rcases List.mem_append.1 D with D|D
    ·exact (aj j D).1.d d hd |>.1
    ·exact ((List.pairwise_cons.1 al.2.1).1 j D).cl ha d hd
   refine wpOpIn_mono ?_ (xUc aM hN (yUh E) hI aP h2);rintro a' w' ⟨X',aU,fr',aI,rfl,aS,aH,⟨aC,ax⟩,h'⟩;have af:∀j,j<ops.size->((A.setIfInBounds i true).getD j true=if i=j then true else A.getD j true):=λj D=>by
    by_cases G:i=j
    ·subst G;rw[if_pos rfl];simp
    ·rw[if_neg G,getD_set_ne true G]
   refine ih (F++J) (A.setIfInBounds i true) X' fr' aI a' aU (by simp at am ⊢;omega) (by simp[ao]) (λj D=>?_) (λj D=>ae j (by simp only[List.mem_append,List.mem_cons] at D ⊢;rcases D with D|D<;>simp[D]))
    (aA.sublist (List.Sublist.append_left (List.sublist_cons_self _ _) _)) (λj D hl e U hb=>?_) aC ax aS aH h'
   ·rw[af j D];by_cases G:i=j
    ·subst G;rw[if_pos rfl];exact⟨(λh=>absurd h (by simp)),λh=>absurd h aN⟩
    ·rw[if_neg G,ab j D];simp only[List.mem_append,List.mem_cons];exact⟨λh=>by rcases h with h|h|h<;>first|exact .inl h|exact absurd h.symm G|exact .inr h,λh=>by rcases h with h|h<;>simp[h]⟩
   ·rw[af j D] at hl;have ah:e.on<ops.size:=Nat.lt_trans ((he j D).lt e U hb) D;rw[af _ ah];by_cases aE:i=e.on
    ·rw[if_pos aE]
    ·rw[if_neg aE];by_cases G:i=j
     ·subst G;exact ak e U hb
     ·rw[if_neg G] at hl;exact aF j D hl e U hb
def xQ2:List (Nat×List Nat)->Nat->Option (List Nat)
 | [],_=>none
 | (i,o)::l,id=>if id=i then some o else xQ2 l id
@[go_sem] theorem vV3 (id:Nat):xQ2 [] id=none:=(rfl)
@[go_sem] theorem vJ8 (i id:Nat)(o:List Nat)(l:List (Nat×List Nat)):xQ2 ((i,o)::l) id=if id=i then some o else xQ2 l id:=(rfl)
def wXp (o:Option (List Nat))(n:Nat):List Nat:=match o with|some l=>l|none=>List.range n
def zYe (c:Cf)(ops:Array Oper)(o:Option (List Nat))(Q:Fr->ISt->List Dfd->Prop)(fr:Fr)(st:ISt)(ds:List Dfd):Prop :=
 match o with
 | none=>yK5 { c with dr:=true } ops.toList ops.toList Q Ad.none_ fr st ds
 | some l=>yK5 { c with dr:=true } ops.toList (l.map (opAt ops)) Q Ad.none_ fr st ds
@[congr] theorem vX7 (c:Cf)(ops:Array Oper){o o':Option (List Nat)}(Q:Fr->ISt->List Dfd->Prop)(fr:Fr)(st:ISt)(ds:List Dfd)(h:o=o'):zYe c ops o Q fr st ds=zYe c ops o' Q fr st ds:=by rw[h]
@[go_sem] theorem vJp (c:Cf)(l:List Oper)(Q:Fr->ISt->List Dfd->Prop)(fr:Fr)(st:ISt)(ds:List Dfd):zYe c ⟨l⟩ none Q fr st ds=yK5 { c with dr:=true } l l Q Ad.none_ fr st ds:=(rfl)
@[go_sem] theorem vJo (c:Cf)(ops:List Oper)(l:List Nat)(Q:Fr->ISt->List Dfd->Prop)(fr:Fr)(st:ISt)(ds:List Dfd):zYe c ⟨ops⟩ (some l) Q fr st ds=yK5 { c with dr:=true } ops (l.map (opAt ⟨ops⟩)) Q Ad.none_ fr st ds:=(rfl)
@[go_sem ↓] theorem vV4 (o:Oper)(l:List Oper):opAt ⟨o::l⟩ 0=o:=(rfl)
@[go_sem ↓] theorem vV5 (o:Oper)(l:List Oper)(i:Nat):opAt ⟨o::l⟩ (i+1)=opAt ⟨l⟩ i:=by simp[opAt]
theorem xUu (ops:Array Oper):(List.range ops.size).map (opAt ops)=ops.toList:=by
 apply List.ext_getElem
 ·simp
 ·intro i h1 h2;have A:i<ops.size:=by simpa using h1
  have:=yUh A;rw[Array.getElem?_eq_getElem A,Option.some.injEq] at this;simp[<- this]
theorem xUg {c:Cf}{B:Nat}{X0 X:WS}{N:Nat}{ro:Option Nat}{n id:Nat}{ops:Array Oper}{ord:Option (List Nat)}{Q:Kc}{fr:Fr}{ds:List Dfd}{a:Act}(E:c.rd=false->ro=none)(hN:∀o∈ops.toList,∀d,o.dst=some d->d<N)
  (W:c.P.follows .mixedOrders=true) (A:wKl c.esc ops (wXp ord ops.size)=true) (U:Inv (c.cx B) X0 N X fr ds a) (h:zYe c ops ord (Q .normal) fr X.st ds):(Code.region id ops true).wpIn (yZo ro) n c.P (PQ (c.cx B) X0 N Q) a X.w:=by
 obtain⟨he,hg⟩:=U.good.drew;have J:Inv (c.cx B) X0 N X.drew fr ds a:=U.ext' he hg;replace h:yK5 { c with dr:=true } ops.toList ((wXp ord ops.size).map (opAt ops)) (Q .normal) Ad.none_ fr X.st ds:=by
  cases ord with
  | none=>simp only[wXp,xUu];exact h
  | some l=>exact h
 generalize wXp ord ops.size=ord at A h;unfold wKl at A;simp only[bAt,List.all_eq_true,List.mem_range,dTe] at A;obtain⟨⟨⟨h1,h2⟩,G⟩,h3⟩:=A;have F:=(yGq h3).imp (λ{i j} h=>vZc (c:={ c with dr:=true }) h);refine wpIn_region_any W ?_;refine wZt (c:={ c with dr:=true }) (bf:=Region.before ops) rfl E hN (λi D=>vX5 (h1 i D).2) ops.size ord _ X.drew fr ds a Ad.none_ ?_ (by simp) (λi D=>?_) h2 F (λi D O=>?_) (λi D d hd x t off h=>by cases h) (wX2 _) J .nil (xZd h)
 ·exact G
 ·have:i∈ord:=by simpa using (h1 i D).1
  simp[this,D]
 ·rw[Array.getD_eq_getD_getElem?,Array.getElem?_eq_getElem (by simpa using D)] at O;simp at O
