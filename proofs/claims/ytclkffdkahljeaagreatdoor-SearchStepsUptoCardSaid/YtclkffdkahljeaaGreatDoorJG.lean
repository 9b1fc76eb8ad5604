/- The layer of ideal values, part Ob: regi -/
import Derived.Test.YtclkffdkahljeaaGreatDoorJF
set_option linter.all false
namespace Go.Iv
open Go
def Cl (ops:List Oper)(x y:Oper):Prop:=xGi x.op=true->∀d,y.dst=some d->d ∉ looks ops x
theorem yVe {c:Cf}(E:c.dr=true){ops:List Oper}{x:Oper}{d:Nat}{ad:Ad}{fr:Fr}{pr:PR}{p:Ad×Fr}(J:xGi x.op=true->d ∉ looks ops x)(O:yVo ad d)(hf:Fine c x.op ad fr pr)
  (D:after x.dst pr ad fr=some p):yVo p.1 d:=by
 cases hx:x.dst with
 | none =>
  rw[hx] at D;cases pr<;>simp only[after,Option.some.injEq,reduceCtorEq] at D<;>subst D<;>exact O
 | some e =>
  rw[hx] at D;obtain⟨a,s,rfl,_,h⟩:=yWe D;intro y t off A;simp only[Ad.put_apply] at A;split at A
  ·rcases h with rfl|⟨t',U,h1,rfl⟩
   ·cases A
   ·cases A;exact zQc (J (hf.isA t off h1 E)) O (hf.adr t off h1)
  ·exact O y t off (Ad.keep_some A).1
theorem zVv {c:Cf}(E:c.dr=true){ops:List Oper}{x:Oper}(hx:x∈ops){ad:Ad}{fr:Fr}{pr:PR}{p:Ad×Fr}(hs:Safe ops ad)(hf:Fine c x.op ad fr pr)(A:after x.dst pr ad fr=some p):Safe ops p.1:=λe O=>by
 obtain⟨h1,h2⟩:=hs e O;refine⟨yVe E (λU=>(xKz O hx U).1) h1 hf A,?_⟩;cases hd:x.dst with
 | none =>
  rw[hd] at A;cases pr<;>simp only[after,Option.some.injEq,reduceCtorEq] at A<;>subst A<;>exact h2
 | some d =>
  rw[hd] at A;obtain⟨a,s,rfl,_,h⟩:=yWe A;simp only[Ad.put_apply];split
  ·rename_i J;rcases h with rfl|⟨t',D,h3,rfl⟩
   ·rfl
   ·exact absurd (hd.trans (congrArg some J.symm)) (xKz O hx (hf.isA t' D h3 E)).2
  ·rw[h2];rfl
theorem zV1 {dst:Option Nat}{pr:PR}{ad:Ad}{fr:Fr}{p:Ad×Fr}(h:after dst pr ad fr=some p)(D:Ad)(fr':Fr):∃p',after dst pr D fr'=some p':=by
 cases dst with
 | none=>cases pr<;>first|exact⟨_,rfl⟩|cases h
 | some d =>
  obtain⟨a,s,_,A,_⟩:=yWe h;exact⟨_,A _ _⟩
structure Pend (c:Cf)(ops:List Oper)(pre:List Oper)(i:Oper)(ad:Ad):Prop where
 mem:∀j∈pre,j∈ops
 sf:Safe ops ad
 ap:∀j∈pre,Ap c ops j i
 cl:pre.Pairwise (Cl ops)
 nj:∀j∈pre,∀d,j.dst=some d->yVo ad d
 ni:∀d,i.dst=some d->yVo ad d
theorem Pend.tail {c:Cf}(A:c.dr=true){ops:List Oper}{j:Oper}{pre:List Oper}{i:Oper}{ad:Ad}{fr:Fr}{pr:PR}{p:Ad×Fr}(h:Pend c ops (j::pre) i ad)(J:Fine c j.op ad fr pr)(E:after j.dst pr ad fr=some p):Pend c ops pre i p.1 where
 mem k D:=h.mem k (.tail _ D)
 sf:=zVv A (h.mem j (.head _)) h.sf J E
 ap k D:=h.ap k (.tail _ D)
 cl:=(List.pairwise_cons.1 h.cl).2
 nj k D d hd:=yVe A (λE=>(List.pairwise_cons.1 h.cl).1 k D E d hd) (h.nj k (.tail _ D) d hd) J E
 ni d hd:=yVe A (λ_=>(h.ap j (.head _)).e d hd) (h.ni d hd) J E
def One (c:Cf)(ops:List Oper)(i:Oper)(ad:Ad)(fr:Fr)(pr:PR):Prop:=∀R st ds,yZz c ops i R ad fr st ds↔R pr st ds
theorem One.fine {c:Cf}{ops:List Oper}{i:Oper}{ad:Ad}{fr:Fr}{pr:PR}(h:One c ops i ad fr pr):Fine c i.op ad fr pr:=by
 have h1:yZz c ops i (λp _ _=>p=pr) ad fr (λ_=>none) []:=(h _ _ _).2 rfl;have h2:=(h _ _ _).1 (yKm h1);exact h2.2
theorem One.of_same {c:Cf}{ops:List Oper}{i:Oper}{ad A:Ad}{fr fr':Fr}{pr:PR}(h:One c ops i ad fr pr)(hs:SameAt c i.op ad A fr fr')(D:yK8 ops i fr fr'):One c ops i A fr' pr :=
 λR st ds=>by rw[<- yJt hs D];exact h R st ds
theorem xQ6 {c:Cf}(O:c.dr=true){ops:List Oper}{i:Oper}{K:Kt}:∀(pre:List Oper) (ad:Ad) (fr:Fr) (st:ISt) (ds:List Dfd),Pend c ops pre i ad->(∀j∈pre,zVe c.esc j.dst j.op=true) →
  vcK c ops pre (yY4 c ops i K) ad fr st ds->yY4 c ops i (vcK c ops pre K) ad fr st ds
 | [],ad,fr,st,ds,_,_,h=>h
 | j::pre,ad,fr,st,ds,E,ac,h=>by
  have U:=E.ap j (.head _);rcases wZu (c:=c) O (ops:=ops) (ad:=ad) (fr:=fr) (ac j (.head _)) with⟨pj,ho⟩|ho
  ·have D:One c ops j ad fr pj:=ho;obtain⟨q,hq,hK⟩:=yZc.1 ((D _ _ _).1 h);have J:=xQ6 O pre q.1 q.2 st ds (E.tail O D.fine hq) (λk hk=>ac k (.tail _ hk)) hK;have hs:=yKn U E.sf (λd hd=>E.nj j (.head _) d hd) D.fine hq;change yZz c ops i (finK i.dst (vcK c ops (j::pre) K) ad fr) ad fr st ds;have A:yZz c ops i (finK i.dst (vcK c ops pre K) q.1 q.2) q.1 q.2 st ds:=J;rw[<- yJt hs.1 hs.2] at A;refine yVy ?_ (yKm A);rintro pi st' am ⟨h1,ae⟩;obtain⟨r,hr,ai⟩:=yZc.1 h1;obtain⟨p,hp⟩:=zV1 hr ad fr;obtain⟨r',ab,af⟩:=zZp U (λd hd=>E.nj j (.head _) d hd) (λd hd=>E.ni d hd) D.fine ae hq hp;rw[hr] at ab;cases ab;have aa:=yKn U.symm E.sf (λd hd=>E.ni d hd) ae hp;exact yZc.2 ⟨p,hp,((D.of_same aa.1 aa.2) _ _ _).2 (yZc.2 ⟨r,af,ai⟩)⟩
  ·exact (ho _ _ _ h).elim
theorem zW4 {c:Cf}(D:c.dr=true){ops:List Oper}{i:Oper}{K:Kt}(hi:yXy c.esc i.dst i.op=true):∀(pre:List Oper) (ad:Ad) (fr:Fr) (st:ISt) (ds:List Dfd),Pend c ops pre i ad->(∀j∈pre,yXy c.esc j.dst j.op=true) →
  vcK c ops pre (yY4 c ops i K) ad fr st ds->yY4 c ops i (vcK c ops pre K) ad fr st ds
 | [],ad,fr,st,ds,_,_,h=>h
 | j::pre,ad,fr,st,ds,E,ag,h=>by
  have ab:=E.ap j (.head _);have fine:∀ {o:Oper} {pr:PR},(∀R ds,yZz c ops o R ad fr st ds↔R pr st ds)->Fine c o.op ad fr pr:=λ{o pr} ho=>by
   have h1:yZz c ops o (λp _ _=>p=pr) ad fr st []:=(ho _ _).2 rfl;exact ((ho _ _).1 (yKm h1)).2
  rcases zZ8 (c:=c) D (ops:=ops) (ad:=ad) (fr:=fr) (ag j (.head _)) st with⟨pj,O,_⟩|ho
  ·have aa:=fine O;obtain⟨q,hq,hK⟩:=yZc.1 ((O _ _).1 h);have J:=zW4 D hi pre q.1 q.2 st ds (E.tail D aa hq) (λk hk=>ag k (.tail _ hk)) hK;have hs:=yKn ab E.sf (λd hd=>E.nj j (.head _) d hd) aa hq;change yZz c ops i (finK i.dst (vcK c ops (j::pre) K) ad fr) ad fr st ds;have A:yZz c ops i (finK i.dst (vcK c ops pre K) q.1 q.2) q.1 q.2 st ds:=J;rw[<- yJt hs.1 hs.2] at A;rcases zZ8 (c:=c) D (ops:=ops) (ad:=ad) (fr:=fr) hi st with⟨pi,U,_⟩|ho
   ·have ah:=fine U;refine (U _ _).2 ?_;obtain⟨r,hr,ak⟩:=yZc.1 ((U _ _).1 A);obtain⟨p,hp⟩:=zV1 hr ad fr;obtain⟨r',af,ai⟩:=zZp ab (λd hd=>E.nj j (.head _) d hd) (λd hd=>E.ni d hd) aa ah hq hp;rw[hr] at af;cases af;have ae:=yKn ab.symm E.sf (λd hd=>E.ni d hd) ah hp;refine yZc.2 ⟨p,hp,?_⟩;change yZz c ops j (finK j.dst (vcK c ops pre K) p.1 p.2) p.1 p.2 st ds;rw[<- yJt ae.1 ae.2];exact (O _ _).2 (yZc.2 ⟨r,ai,ak⟩)
   ·exact (ho _ _ A).elim
  ·exact (ho _ _ h).elim
theorem xVc {c:Cf}(U:c.dr=true){ops:List Oper}{i:Oper}{K:Kt}(hi:appQ c.esc i.dst i.op=true):∀(pre:List Oper) (ad:Ad) (fr:Fr) (st:ISt) (ds:List Dfd),Pend c ops pre i ad->(∀j∈pre,yXy c.esc j.dst j.op=true) →
  vcK c ops pre (yY4 c ops i K) ad fr st ds->yY4 c ops i (vcK c ops pre K) ad fr st ds
 | [],ad,fr,st,ds,_,_,h=>h
 | j::pre,ad,fr,st,ds,D,ae,h=>by
  have aa:=D.ap j (.head _);have fine:∀ {o:Oper} {pr:PR},(∀R ds,yZz c ops o R ad fr st ds↔R pr st ds)->Fine c o.op ad fr pr:=λ{o pr} ho=>by
   have h1:yZz c ops o (λp _ _=>p=pr) ad fr st []:=(ho _ _).2 rfl;exact ((ho _ _).1 (yKm h1)).2
  rcases zZ8 (c:=c) U (ops:=ops) (ad:=ad) (fr:=fr) (ae j (.head _)) st with⟨pj,af,ak⟩|ho
  ·have O:=fine af;obtain⟨q,hq,hK⟩:=yZc.1 ((af _ _).1 h);have E:=xVc U hi pre q.1 q.2 st ds (D.tail U O hq) (λk hk=>ae k (.tail _ hk)) hK;have hs:=yKn aa D.sf (λd hd=>D.nj j (.head _) d hd) O hq;change yZz c ops i (finK i.dst (vcK c ops (j::pre) K) ad fr) ad fr st ds;have A:yZz c ops i (finK i.dst (vcK c ops pre K) q.1 q.2) q.1 q.2 st ds:=E;rw[<- yJt hs.1 hs.2] at A;refine yVy ?_ (yKm (xU1 hi A));rintro pi st' am ⟨⟨h1,J⟩,ag⟩;obtain⟨r,hr,al⟩:=yZc.1 h1;obtain⟨p,hp⟩:=zV1 hr ad fr;obtain⟨r',ac,ai⟩:=zZp aa (λd hd=>D.nj j (.head _) d hd) (λd hd=>D.ni d hd) O ag hq hp;rw[hr] at ac;cases ac;have ab:=yKn aa.symm D.sf (λd hd=>D.ni d hd) ag hp;refine yZc.2 ⟨p,hp,?_⟩;change yZz c ops j (finK j.dst (vcK c ops pre K) p.1 p.2) p.1 p.2 st' am;rw[<- yJt ab.1 ab.2];exact ak st' J _ _ (yZc.2 ⟨r,ai,al⟩)
  ·exact (ho _ _ h).elim
def opAt (ops:Array Oper)(i:Nat):Oper:=ops.getD i default
theorem yVc {ops:Array Oper}{i:Nat}(h:i<ops.size):ops[i]?=some (opAt ops i):=by
 unfold opAt;rw[Array.getD_eq_getD_getElem?,Array.getElem?_eq_getElem h];rfl
def wJ6 (bf:Array Nat)(ops:Array Oper)(i:Nat):Bool :=
 (opAt ops i).after.toList.all (λe=>!Region.binds .any e || decide (e.on<i)) &&
 (List.range ops.size).all λj=>!(bf.getD i 0).testBit j || (opAt ops i).after.toList.any λe=>Region.binds .any e&&(e.on == j || (bf.getD e.on 0).testBit j)
def wZ1 (esc:List Nat)(bf:Array Nat)(ops:Array Oper)(i j:Nat):Bool :=
 i != j&&((bf.getD j 0).testBit i || (wJo esc ops.toList (opAt ops i) (opAt ops j)&&(zVe esc (opAt ops i).dst (opAt ops i).op || (yXy esc (opAt ops i).dst (opAt ops i).op&&(yXy esc (opAt ops j).dst (opAt ops j).op || appQ esc (opAt ops j).dst (opAt ops j).op))))) &&
  (!xGi (opAt ops i).op || match (opAt ops j).dst with|some d=>!(looks ops.toList (opAt ops i)).contains d|none=>true)
def xVa (f:Nat->Nat->Bool):List Nat->Bool
 | []=>true
 | i::l=>l.all (f i)&&xVa f l
def wJ7 (esc:List Nat)(ops:Array Oper)(ord:List Nat):Bool :=
 (List.range ops.size).all (λi=>ord.contains i&&wJ6 (Region.before ops) ops i)&&ord.all (λi=>decide (i<ops.size))&&decide (ord.length<=ops.size)&&xVa (wZ1 esc (Region.before ops) ops) ord
theorem yYh {f:Nat->Nat->Bool}:∀ {l:List Nat},xVa f l=true->l.Pairwise (λi j=>f i j=true)
 | [],_=>.nil
 | i::l,h=>by
  simp only[xVa,bAt,List.all_eq_true] at h;exact .cons h.1 (yYh h.2)
structure EdgeP (bf:Array Nat)(ops:Array Oper)(i:Nat):Prop where
 lt:∀e∈(opAt ops i).after,Region.binds .any e=true->e.on<i
 via:∀j,j<ops.size->(bf.getD i 0).testBit j=true->∃e∈(opAt ops i).after,Region.binds .any e=true/\(e.on=j\/(bf.getD e.on 0).testBit j=true)
theorem vQz {bf:Array Nat}{ops:Array Oper}{i:Nat}(h:wJ6 bf ops i=true):EdgeP bf ops i:=by
 unfold wJ6 at h;simp only[bAt,List.all_eq_true,Bool.or_eq_true,Bool.not_eq_true',dTe,List.mem_range,List.any_eq_true,beq_iff_eq] at h;obtain⟨h1,h2⟩:=h;refine⟨λe D E=>(h1 e (by simpa using D)).resolve_left (by rw[E];exact λh=>by cases h),λj J ht=>?_⟩;obtain⟨e,D,E,A⟩:=(h2 j J).resolve_left (by rw[ht];exact λh=>by cases h);exact⟨e,by simpa using D,E,A⟩
structure PairP (c:Cf)(bf:Array Nat)(ops:Array Oper)(i j:Nat):Prop where
 ne:i≠j
 ap:(bf.getD j 0).testBit i=true\/(Ap c ops.toList (opAt ops i) (opAt ops j)/\(zVe c.esc (opAt ops i).dst (opAt ops i).op=true\/(yXy c.esc (opAt ops i).dst (opAt ops i).op=true/\(yXy c.esc (opAt ops j).dst (opAt ops j).op=true\/appQ c.esc (opAt ops j).dst (opAt ops j).op=true))))
 cl:Cl ops.toList (opAt ops i) (opAt ops j)
theorem vQ3 {c:Cf}{bf:Array Nat}{ops:Array Oper}{i j:Nat}(h:wZ1 c.esc bf ops i j=true):PairP c bf ops i j:=by
 unfold wZ1 at h;simp only[bAt,Bool.or_eq_true,Bool.not_eq_true',bne_iff_ne] at h;obtain⟨⟨h1,h2⟩,A⟩:=h;refine⟨h1,h2.imp id λh=>⟨kQa h.1,h.2⟩,λD d hd=>?_⟩;rcases A with A|A
 ·rw[D] at A;cases A
 ·rw[hd] at A;simpa using A
theorem zVs {c:Cf}{B:Nat}{X0 X:WS}{N:Nat}{ro:Option Nat}{n i:Nat}{ops:Array Oper}{Q:Exit->Act->World->Prop}{o:Oper}{K:Kt}{fr:Fr}{ds:List Dfd}{a:Act}{ad:Ad}(U:c.rd=false->ro=none)
  (hN:∀o∈ops.toList,∀d,o.dst=some d->d<N) (ho:ops[i]?=some o) (O:Inv (c.cx B) X0 N X fr ds a) (D:AdOk fr a.tmps ad) (h:yY4 c ops.toList o K ad fr X.st ds) :
  wpOpIn (yZ7 ro) n c.P ops Q i (PK (c.cx B) X0 N K) a X.w:=by
 have A:o∈ops.toList:=lMg (by simpa using ho);unfold wpOpIn;simp only[ho];unfold yY4 yZz at h;split at h
 ·rename_i hg;have E:Region.wanted o (yielded ops a.tmps)=true:=by simp[Region.wanted,hg]
  rw[if_pos E];exact zQt U ⟨O,D,hN o A⟩ h
 ·rename_i j ah hg;split at h
  ·rename_i d hd;obtain⟨od,aa,ab⟩:=xZ1 hd;have ae:=hN od aa d ab;split at h
   ·rename_i b hs;have hy:=zZs O hd ae hs;split at h
    ·rename_i J;have E:Region.wanted o (yielded ops a.tmps)=true:=by simp[Region.wanted,hg,hy,J]
     rw[if_pos E];exact zQt U ⟨O,D,hN o A⟩ h
    ·rename_i J;have E:¬ Region.wanted o (yielded ops a.tmps)=true:=by simp[Region.wanted,hg,hy,J]
     rw[if_neg E];exact⟨λ_ _=>trivial,yZl O D (hN o A) (.raw _ trivial) h⟩
   ·rename_i t hs;have hy:=zZt O hd ae hs;have E:¬ Region.wanted o (yielded ops a.tmps)=true:=by simp[Region.wanted,hg,hy]
    rw[if_neg E];exact⟨λ_ _=>trivial,yZl O D (hN o A) (.raw _ trivial) h⟩
   ·exact h.elim
  ·exact h.elim
theorem wZs {bf:Array Nat}{ops:Array Oper}{A:Array Bool}(he:∀i,i<ops.size->EdgeP bf ops i)
  (ab:∀i,i<ops.size->A.getD i true=true->∀e∈(opAt ops i).after,Region.binds .any e=true->A.getD e.on true=true) :
  ∀i,i<ops.size->(∀e∈(opAt ops i).after,Region.binds .any e=true->A.getD e.on true=true)->∀j,j<ops.size->(bf.getD i 0).testBit j=true->A.getD j true=true:=by
 intro i
 induction i using Nat.strongRecOn with
 | _ i ih =>
  intro hi D j hj ht;obtain⟨e,J,hb,E⟩:=(he i hi).via j hj ht;rcases E with rfl|E
  ·exact D e J hb
  ·have O:=(he i hi).lt e J hb;have U:e.on<ops.size:=Nat.lt_trans O hi;exact ih e.on O U (ab e.on U (D e J hb)) j hj E
theorem wQ6 {c:Cf}(ak:c.dr=true){B:Nat}{X0:WS}{N:Nat}{ro:Option Nat}{n:Nat}{ops:Array Oper}{Q:Kc}(aN:c.rd=false->ro=none)(hN:∀o∈ops.toList,∀d,o.dst=some d->d<N)
  {bf:Array Nat} (he:∀i,i<ops.size->EdgeP bf ops i):∀(ac:Nat) (rest:List Nat) (A:Array Bool) (X:WS) (fr:Fr) (ds:List Dfd) (a:Act) (ad:Ad),rest.length<=ac →
   A.size=ops.size->(∀i,i<ops.size->(A.getD i true=false↔i∈rest))->(∀i∈rest,i<ops.size)->rest.Pairwise (PairP c bf ops) →
   (∀i,i<ops.size->A.getD i true=true->∀e∈(opAt ops i).after,Region.binds .any e=true->A.getD e.on true=true) →
   (∀i∈rest,∀d,(opAt ops i).dst=some d->yVo ad d)->Safe ops.toList ad →
   Inv (c.cx B) X0 N X fr ds a->AdOk fr a.tmps ad->vcK c ops.toList (rest.map (opAt ops)) (λ_ fr st ds=>Q .normal fr st ds) ad fr X.st ds →
   wpAnyIn (yZ7 ro) n c.P .any ops (PQ (c.cx B) X0 N Q) ac A a X.w:=by
 intro ac
 induction ac with
 | zero =>
  intro rest A X fr ds a ad ao au ae _ _ _ _ _ hI _ h;have:rest=[]:=List.eq_nil_of_length_eq_zero (by omega);subst this;refine⟨?_,X,fr,ds,rfl,hI,h⟩;rw[List.eq_nil_iff_forall_not_mem];intro j D;obtain⟨h0,o,U,_⟩:=mem_ready.1 D;have ag:j<ops.size:=(Array.getElem?_eq_some_iff.1 U).1;cases (ae j ag).1 h0
 | succ ac ih =>
  intro rest A X fr ds a ad ao au ae ag aB aG aw az hI aS h;have ab:∀i,i<ops.size->A.getD i false=A.getD i true:=λi hi=>by
   rw[Array.getD_eq_getD_getElem?,Array.getD_eq_getD_getElem?,Array.getElem?_eq_getElem (by rw[au];exact hi)];rfl
  refine⟨λhr=>?_,λi hi=>?_⟩
  ·have av:∀i,i<ops.size->i ∉ rest:=by
    intro i
    induction i using Nat.strongRecOn with
    | _ i aM =>
     intro E af;have:i∈Region.ready .any ops A:=mem_ready.2 ⟨(ae i E).2 af,_,yVc E,λe aa hb=>by
      have hl:=(he i E).lt e aa hb;have aj:e.on<ops.size:=Nat.lt_trans hl E;have:=aM e.on hl aj;rw[ab _ aj];cases hq:A.getD e.on true with
      | true=>rfl
      | false=>exact absurd ((ae _ aj).1 hq) this⟩
     rw[hr] at this;cases this
   have:rest=[]:=List.eq_nil_iff_forall_not_mem.2 λi af=>av i (ag i af) af;subst this;exact⟨X,fr,ds,rfl,hI,h⟩
  ·obtain⟨h0,o,U,aH⟩:=mem_ready.1 hi;have E:i<ops.size:=(Array.getElem?_eq_some_iff.1 U).1;obtain rfl:opAt ops i=o:=by rw[yVc E] at U;exact Option.some.inj U
   have af:=(ae i E).1 h0;have am:∀e∈(opAt ops i).after,Region.binds .any e=true->A.getD e.on true=true:=λe aa hb=>by
    rw[<- ab _ (Nat.lt_trans ((he i E).lt e aa hb) E)];exact aH e aa hb
   obtain⟨pre,O,rfl⟩:=List.append_of_mem af;have an:=List.pairwise_append.1 aB;have aC:∀j∈pre,PairP c bf ops j i:=λj D=>an.2.2 j D i (by simp);have al:∀j∈pre,Ap c ops.toList (opAt ops j) (opAt ops i)/\(zVe c.esc (opAt ops j).dst (opAt ops j).op=true\/(yXy c.esc (opAt ops j).dst (opAt ops j).op=true/\(yXy c.esc (opAt ops i).dst (opAt ops i).op=true\/appQ c.esc (opAt ops i).dst (opAt ops i).op=true))):=λj D=>by
    refine ((aC j D).ap).resolve_left λht=>?_;have aE:=ag j (by simp[D]);have h1:=wZs he aG i E am j aE ht;have h2:=(ae j aE).2 (by simp[D]);rw[h1] at h2;cases h2
   have hP:Pend c ops.toList (pre.map (opAt ops)) (opAt ops i) ad:=by
    refine⟨?_,az,?_,?_,?_,λd hd=>aw i af d hd⟩
    ·intro o U;obtain⟨j,D,rfl⟩:=List.mem_map.1 U;exact lMg (i:=j) (by simpa using yVc (ag j (by simp[D])))
    ·intro o U;obtain⟨j,D,rfl⟩:=List.mem_map.1 U;exact (al j D).1
    ·exact List.pairwise_map.2 (an.1.imp λh=>h.cl)
    ·intro o U;obtain⟨j,D,rfl⟩:=List.mem_map.1 U;exact aw j (by simp[D])
   rw[List.map_append,List.map_cons,zVn] at h;have h1:yY4 c ops.toList (opAt ops i) (vcK c ops.toList (pre.map (opAt ops)) (vcK c ops.toList (O.map (opAt ops)) (λ_ fr st ds=>Q .normal fr st ds))) ad fr X.st ds:=by
    by_cases ax:yXy c.esc (opAt ops i).dst (opAt ops i).op=true
    ·refine zW4 ak ax (pre.map (opAt ops)) ad fr X.st ds hP (λo U=>?_) h;obtain⟨j,D,rfl⟩:=List.mem_map.1 U;rcases (al j D).2 with hp|hp
     ·unfold yXy;rw[hp];rfl
     ·exact hp.1
    ·by_cases aA:appQ c.esc (opAt ops i).dst (opAt ops i).op=true
     ·refine xVc ak aA (pre.map (opAt ops)) ad fr X.st ds hP (λo U=>?_) h;obtain⟨j,D,rfl⟩:=List.mem_map.1 U;rcases (al j D).2 with hp|hp
      ·unfold yXy;rw[hp];rfl
      ·exact hp.1
     ·refine xQ6 ak (pre.map (opAt ops)) ad fr X.st ds hP (λo U=>?_) h;obtain⟨j,D,rfl⟩:=List.mem_map.1 U;exact (al j D).2.resolve_right λhp=>hp.2.elim ax aA
   rw[<- zVn,<- List.map_append] at h1;have aO:i ∉ pre++O:=by
    intro hm;rcases List.mem_append.1 hm with hm|hm
    ·exact (aC i hm).ne rfl
    ·exact ((List.pairwise_cons.1 an.2.1).1 i hm).ne rfl
   have h2:yY4 c ops.toList (opAt ops i) (λad fr st ds=>((∀j∈pre++O,∀d,(opAt ops j).dst=some d->yVo ad d)/\Safe ops.toList ad)/\vcK c ops.toList ((pre++O).map (opAt ops)) (λ_ fr st ds=>Q .normal fr st ds) ad fr st ds) ad fr X.st ds:=by
    refine yVy ?_ (yKm h1);rintro pr st' aJ ⟨hf,ai⟩;obtain⟨p,hp,hK⟩:=yZc.1 hf;refine yZc.2 ⟨p,hp,⟨λj D d hd=>?_,zVv (ops:=ops.toList) ak (lMg (i:=i) (by simpa using yVc E)) az ai hp⟩,hK⟩;refine yVe (ops:=ops.toList) ak (λha=>?_) (aw j (by simp only[List.mem_append,List.mem_cons] at D ⊢;rcases D with D|D<;>simp[D]) d hd) ai hp;rcases List.mem_append.1 D with D|D
    ·exact (al j D).1.d d hd |>.1
    ·exact ((List.pairwise_cons.1 an.2.1).1 j D).cl ha d hd
   refine wpOpIn_mono ?_ (zVs aN hN (yVc E) hI aS h2);rintro a' w' ⟨X',aV,fr',aJ,rfl,aU,aI,⟨aD,ay⟩,h'⟩;have ah:∀j,j<ops.size->((A.setIfInBounds i true).getD j true=if i=j then true else A.getD j true):=λj D=>by
    by_cases J:i=j
    ·subst J;rw[if_pos rfl];simp
    ·rw[if_neg J,getD_set_ne true J]
   refine ih (pre++O) (A.setIfInBounds i true) X' fr' aJ a' aV (by simp at ao ⊢;omega) (by simp[au]) (λj D=>?_) (λj D=>ag j (by simp only[List.mem_append,List.mem_cons] at D ⊢;rcases D with D|D<;>simp[D]))
    (aB.sublist (List.Sublist.append_left (List.sublist_cons_self _ _) _)) (λj D hl e aa hb=>?_) aD ay aU aI h'
   ·rw[ah j D];by_cases J:i=j
    ·subst J;rw[if_pos rfl];exact⟨(λh=>absurd h (by simp)),λh=>absurd h aO⟩
    ·rw[if_neg J,ae j D];simp only[List.mem_append,List.mem_cons];exact⟨λh=>by rcases h with h|h|h<;>first|exact .inl h|exact absurd h.symm J|exact .inr h,λh=>by rcases h with h|h<;>simp[h]⟩
   ·rw[ah j D] at hl;have aj:e.on<ops.size:=Nat.lt_trans ((he j D).lt e aa hb) D;rw[ah _ aj];by_cases aF:i=e.on
    ·rw[if_pos aF]
    ·rw[if_neg aF];by_cases J:i=j
     ·subst J;exact am e aa hb
     ·rw[if_neg J] at hl;exact aG j D hl e aa hb
def zJo:List (Nat×List Nat)->Nat->Option (List Nat)
 | [],_=>none
 | (i,o)::l,id=>if id=i then some o else zJo l id
@[go_sem] theorem vKc (id:Nat):zJo [] id=none:=(rfl)
@[go_sem] theorem vXc (i id:Nat)(o:List Nat)(l:List (Nat×List Nat)):zJo ((i,o)::l) id=if id=i then some o else zJo l id:=(rfl)
def wZ2 (o:Option (List Nat))(n:Nat):List Nat:=match o with|some l=>l|none=>List.range n
def anyV (c:Cf)(ops:Array Oper)(Q:Fr->ISt->List Dfd->Prop):Nat->Array Bool->Kt
 | 0,A=>λ_ fr st ds=>Region.ready .any ops A=[]->Q fr st ds
 | n+1,A=>λad fr st ds=>(Region.ready .any ops A=[]->Q fr st ds) /\
   ∀i∈Region.ready .any ops A,yY4 c ops.toList (opAt ops i) (anyV c ops Q n (A.setIfInBounds i true)) ad fr st ds
theorem zWp {dst:Option Nat}{K K':Kt}{ad:Ad}{fr:Fr}(h:∀ad fr st ds,K ad fr st ds->K' ad fr st ds):∀pr st ds,finK dst K ad fr pr st ds->finK dst K' ad fr pr st ds:=λpr st ds A=>by
 obtain⟨p,hp,hK⟩:=yZc.1 A;exact yZc.2 ⟨p,hp,h _ _ _ _ hK⟩
theorem xZi {c:Cf}{ops:Array Oper}{Q Q':Fr->ISt->List Dfd->Prop}(h:∀fr st ds,Q fr st ds->Q' fr st ds):∀(n:Nat) (A:Array Bool) {ad:Ad} {fr:Fr} {st:ISt} {ds:List Dfd},anyV c ops Q n A ad fr st ds->anyV c ops Q' n A ad fr st ds
 | 0,_,_,_,_,_,D=>λE=>h _ _ _ (D E)
 | n+1,_,_,_,_,_,D=>⟨λE=>h _ _ _ (D.1 E),λi J=>yVy (zWp λ_ _ _ _ O=>xZi h n _ O) (D.2 i J)⟩
theorem zY2 {c:Cf}{ops:Array Oper}{Q:Fr->ISt->List Dfd->Prop}(J:Array Bool->Kt)
  (hs:∀A ad fr st ds,A.size=ops.size->J A ad fr st ds->∀i∈Region.ready .any ops A,yY4 c ops.toList (opAt ops i) (J (A.setIfInBounds i true)) ad fr st ds)
  (O:∀A ad fr st ds,A.size=ops.size->Region.ready .any ops A=[]->J A ad fr st ds->Q fr st ds) :
  ∀(n:Nat) (A:Array Bool) (ad:Ad) (fr:Fr) (st:ISt) (ds:List Dfd),A.size=ops.size->J A ad fr st ds->anyV c ops Q n A ad fr st ds
 | 0,A,ad,fr,st,ds,D,h=>λE=>O _ _ _ _ _ D E h
 | n+1,A,ad,fr,st,ds,D,h=>⟨λE=>O _ _ _ _ _ D E h,λi U=>yVy (zWp λad fr st ds h'=>zY2 J hs O n _ ad fr st ds (by rw[Array.size_setIfInBounds];exact D) h') (hs _ _ _ _ _ D h i U)⟩
theorem xYm {c:Cf}{B:Nat}{X0:WS}{N:Nat}{ro:Option Nat}{n:Nat}{ops:Array Oper}{Q:Kc}(af:c.rd=false->ro=none)(hN:∀o∈ops.toList,∀d,o.dst=some d->d<N) :
  ∀(D:Nat) (rest:List Nat) (A:Array Bool) (X:WS) (fr:Fr) (ds:List Dfd) (a:Act) (ad:Ad),rest.length<=D->A.size=ops.size->(∀i,i<ops.size->A.getD i true=false->i∈rest) →
   Inv (c.cx B) X0 N X fr ds a->AdOk fr a.tmps ad->anyV c ops (Q .normal) D A ad fr X.st ds->wpAnyIn (yZ7 ro) n c.P .any ops (PQ (c.cx B) X0 N Q) D A a X.w:=by
 intro D
 induction D with
 | zero =>
  intro rest A X fr ds a ad U O E hI _ h;have:rest=[]:=List.eq_nil_of_length_eq_zero (by omega);subst this;have hr:Region.ready .any ops A=[]:=by
   rw[List.eq_nil_iff_forall_not_mem];intro j hj;obtain⟨h0,o,ho,_⟩:=mem_ready.1 hj;cases E j (Array.getElem?_eq_some_iff.1 ho).1 h0
  exact⟨hr,X,fr,ds,rfl,hI,h hr⟩
 | succ D ih =>
  intro rest A X fr ds a ad U O E hI aj h;refine⟨λhr=>⟨X,fr,ds,rfl,hI,h.1 hr⟩,λi hi=>?_⟩;obtain⟨h0,o,ho,_⟩:=mem_ready.1 hi;have aa:i<ops.size:=(Array.getElem?_eq_some_iff.1 ho).1;have ai:=E i aa h0;refine wpOpIn_mono ?_ (zVs af hN (yVc aa) hI aj (h.2 i hi));rintro a' w' ⟨X',am,fr',al,rfl,ak,ab,h'⟩;refine ih (rest.erase i) (A.setIfInBounds i true) X' fr' al a' am (by rw[List.length_erase_of_mem ai];omega) (by simp[O]) (λj hj hl=>?_) ak ab h';by_cases J:i=j
  ·subst J;simp at hl
  ·rw[getD_set_ne true J] at hl;exact (List.mem_erase_of_ne (Ne.symm J)).2 (E j hj hl)
def anyO:Option (List Nat)->Bool
 | some []=>true
 | _=>false
def zKi (c:Cf)(ops:Array Oper)(o:Option (List Nat))(Q:Fr->ISt->List Dfd->Prop)(fr:Fr)(st:ISt)(ds:List Dfd):Prop :=
 match o with
 | some []=>anyV { c with dr:=true } ops Q ops.size (Array.replicate ops.size false) Ad.none_ fr st ds
 | none=>yXw { c with dr:=true } ops.toList ops.toList Q Ad.none_ fr st ds
 | some l=>yXw { c with dr:=true } ops.toList (l.map (opAt ops)) Q Ad.none_ fr st ds
@[congr] theorem vZ1 (c:Cf)(ops:Array Oper){o o':Option (List Nat)}(Q:Fr->ISt->List Dfd->Prop)(fr:Fr)(st:ISt)(ds:List Dfd)(h:o=o'):zKi c ops o Q fr st ds=zKi c ops o' Q fr st ds:=by rw[h]
@[go_sem] theorem vXv (c:Cf)(l:List Oper)(Q:Fr->ISt->List Dfd->Prop)(fr:Fr)(st:ISt)(ds:List Dfd):zKi c ⟨l⟩ none Q fr st ds=yXw { c with dr:=true } l l Q Ad.none_ fr st ds:=(rfl)
@[go_sem] theorem vXu (c:Cf)(ops:List Oper)(i:Nat)(l:List Nat)(Q:Fr->ISt->List Dfd->Prop)(fr:Fr)(st:ISt)(ds:List Dfd):zKi c ⟨ops⟩ (some (i::l)) Q fr st ds=yXw { c with dr:=true } ops ((i::l).map (opAt ⟨ops⟩)) Q Ad.none_ fr st ds:=(rfl)
theorem xZ2 (c:Cf)(ops:List Oper)(Q:Fr->ISt->List Dfd->Prop)(fr:Fr)(st:ISt)(ds:List Dfd):zKi c ⟨ops⟩ (some []) Q fr st ds=anyV { c with dr:=true } ⟨ops⟩ Q ops.length (Array.replicate ops.length false) Ad.none_ fr st ds:=(rfl)
@[go_sem ↓] theorem vKd (o:Oper)(l:List Oper):opAt ⟨o::l⟩ 0=o:=(rfl)
@[go_sem ↓] theorem vKe (o:Oper)(l:List Oper)(i:Nat):opAt ⟨o::l⟩ (i+1)=opAt ⟨l⟩ i:=by simp[opAt]
theorem xYv (ops:Array Oper):(List.range ops.size).map (opAt ops)=ops.toList:=by
 apply List.ext_getElem
 ·simp
 ·intro i h1 h2;have A:i<ops.size:=by simpa using h1
  have:=yVc A;rw[Array.getElem?_eq_getElem A,Option.some.injEq] at this;simp[<- this]
theorem xYk {c:Cf}{B:Nat}{X0 X:WS}{N:Nat}{ro:Option Nat}{n id:Nat}{ops:Array Oper}{ord:Option (List Nat)}{Q:Kc}{fr:Fr}{ds:List Dfd}{a:Act}(J:c.rd=false->ro=none)(hN:∀o∈ops.toList,∀d,o.dst=some d->d<N)
  (hm:c.P.follows .mixedOrders=true) (A:(anyO ord || wJ7 c.esc ops (wZ2 ord ops.size))=true) (hI:Inv (c.cx B) X0 N X fr ds a) (h:zKi c ops ord (Q .normal) fr X.st ds):(Code.region id ops true).wpIn (yZ7 ro) n c.P (PQ (c.cx B) X0 N Q) a X.w:=by
 obtain⟨he,hg⟩:=hI.good.drew;have O:Inv (c.cx B) X0 N X.drew fr ds a:=hI.ext' he hg;by_cases D:anyO ord=true
 ·obtain rfl:ord=some []:=by
   match ord,D with
   | some [],_=>rfl
  refine wpIn_region_any hm ?_;exact xYm (c:={ c with dr:=true }) J hN ops.size (List.range ops.size) _ X.drew fr ds a Ad.none_ (by simp) (by simp) (λi E _=>List.mem_range.2 E) O .nil h
 rw[Bool.eq_false_iff.2 D,Bool.false_or] at A;replace h:yXw { c with dr:=true } ops.toList ((wZ2 ord ops.size).map (opAt ops)) (Q .normal) Ad.none_ fr X.st ds:=by
  match ord,h,D with
  | none,h,_=>simp only[wZ2,xYv];exact h
  | some (i::l),h,_=>exact h
  | some [],_,h=>exact absurd rfl h
 generalize wZ2 ord ops.size=ord at A h;unfold wJ7 at A;simp only[bAt,List.all_eq_true,List.mem_range,dTe] at A;obtain⟨⟨⟨h1,h2⟩,aa⟩,h3⟩:=A;have U:=(yYh h3).imp (λ{i j} h=>vQ3 (c:={ c with dr:=true }) h);refine wpIn_region_any hm ?_;refine wQ6 (c:={ c with dr:=true }) (bf:=Region.before ops) rfl J hN (λi E=>vQz (h1 i E).2) ops.size ord _ X.drew fr ds a Ad.none_ ?_ (by simp) (λi E=>?_) h2 U (λi E hl=>?_) (λi E d hd x t off h=>by cases h) (wQj _) O .nil (zUg h)
 ·exact aa
 ·have:i∈ord:=by simpa using (h1 i E).1
  simp[this,E]
 ·rw[Array.getD_eq_getD_getElem?,Array.getElem?_eq_getElem (by simpa using E)] at hl;simp at hl
