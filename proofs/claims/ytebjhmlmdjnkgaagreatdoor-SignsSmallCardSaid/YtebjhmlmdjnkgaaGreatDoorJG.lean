/- The layer of ideal values, part Ob: regi -/
import Derived.Test.YtebjhmlmdjnkgaaGreatDoorJF
set_option linter.all false
namespace Go.Iv
open Go
def Cl (ops:List Oper)(x y:Oper):Prop:=xWt x.op=true->∀d,y.dst=some d->d ∉ looks ops x
theorem yVh {c:Cf}(hdr:c.dr=true){ops:List Oper}{x:Oper}{d:Nat}{ad:Ad}{fr:Fr}{pr:PR}{p:Ad×Fr}(hcl:xWt x.op=true->d ∉ looks ops x)(hb:yVo ad d)(hf:Fine c x.op ad fr pr)
  (ha:after x.dst pr ad fr=some p):yVo p.1 d:=by
 cases hx:x.dst with
 | none =>
  rw[hx] at ha;cases pr<;>simp only[after,Option.some.injEq,reduceCtorEq] at ha<;>subst ha<;>exact hb
 | some e =>
  rw[hx] at ha;obtain⟨a,s,rfl,_,h⟩:=yW8 ha;intro y t off hy;simp only[Ad.put_apply] at hy;split at hy
  ·rcases h with rfl|⟨t',off',h1,rfl⟩
   ·cases hy
   ·cases hy;exact yUs (hcl (hf.isA t off h1 hdr)) hb (hf.adr t off h1)
  ·exact hb y t off (Ad.keep_some hy).1
theorem zV4 {c:Cf}(hdr:c.dr=true){ops:List Oper}{x:Oper}(hx:x∈ops){ad:Ad}{fr:Fr}{pr:PR}{p:Ad×Fr}(hs:Safe ops ad)(hf:Fine c x.op ad fr pr)(ha:after x.dst pr ad fr=some p):Safe ops p.1:=λe he=>by
 obtain⟨h1,h2⟩:=hs e he;refine⟨yVh hdr (λhax=>(xJr he hx hax).1) h1 hf ha,?_⟩;cases hd:x.dst with
 | none =>
  rw[hd] at ha;cases pr<;>simp only[after,Option.some.injEq,reduceCtorEq] at ha<;>subst ha<;>exact h2
 | some d =>
  rw[hd] at ha;obtain⟨a,s,rfl,_,h⟩:=yW8 ha;simp only[Ad.put_apply];split
  ·rename_i hed;rcases h with rfl|⟨t',off',h3,rfl⟩
   ·rfl
   ·exact absurd (hd.trans (congrArg some hed.symm)) (xJr he hx (hf.isA t' off' h3 hdr)).2
  ·rw[h2];rfl
theorem zK6 {dst:Option Nat}{pr:PR}{ad:Ad}{fr:Fr}{p:Ad×Fr}(h:after dst pr ad fr=some p)(ad':Ad)(fr':Fr):∃p',after dst pr ad' fr'=some p':=by
 cases dst with
 | none=>cases pr<;>first|exact⟨_,rfl⟩|cases h
 | some d =>
  obtain⟨a,s,_,hall,_⟩:=yW8 h;exact⟨_,hall _ _⟩
structure Pend (c:Cf)(ops:List Oper)(pre:List Oper)(i:Oper)(ad:Ad):Prop where
 mem:∀j∈pre,j∈ops
 sf:Safe ops ad
 ap:∀j∈pre,Ap c ops j i
 cl:pre.Pairwise (Cl ops)
 nj:∀j∈pre,∀d,j.dst=some d->yVo ad d
 ni:∀d,i.dst=some d->yVo ad d
theorem Pend.tail {c:Cf}(hdr:c.dr=true){ops:List Oper}{j:Oper}{pre:List Oper}{i:Oper}{ad:Ad}{fr:Fr}{pr:PR}{p:Ad×Fr}(h:Pend c ops (j::pre) i ad)(hf:Fine c j.op ad fr pr)(ha:after j.dst pr ad fr=some p):Pend c ops pre i p.1 where
 mem k hk:=h.mem k (.tail _ hk)
 sf:=zV4 hdr (h.mem j (.head _)) h.sf hf ha
 ap k hk:=h.ap k (.tail _ hk)
 cl:=(List.pairwise_cons.1 h.cl).2
 nj k hk d hd:=yVh hdr (λha=>(List.pairwise_cons.1 h.cl).1 k hk ha d hd) (h.nj k (.tail _ hk) d hd) hf ha
 ni d hd:=yVh hdr (λ_=>(h.ap j (.head _)).e d hd) (h.ni d hd) hf ha
def One (c:Cf)(ops:List Oper)(i:Oper)(ad:Ad)(fr:Fr)(pr:PR):Prop:=∀R st ds,yX5 c ops i R ad fr st ds↔R pr st ds
theorem One.fine {c:Cf}{ops:List Oper}{i:Oper}{ad:Ad}{fr:Fr}{pr:PR}(h:One c ops i ad fr pr):Fine c i.op ad fr pr:=by
 have h1:yX5 c ops i (λp _ _=>p=pr) ad fr (λ_=>none) []:=(h _ _ _).2 rfl;have h2:=(h _ _ _).1 (yKv h1);exact h2.2
theorem One.of_same {c:Cf}{ops:List Oper}{i:Oper}{ad ad':Ad}{fr fr':Fr}{pr:PR}(h:One c ops i ad fr pr)(hs:SameAt c i.op ad ad' fr fr')(hg:yKi ops i fr fr'):One c ops i ad' fr' pr :=
 λR st ds=>by rw[<- yK6 hs hg];exact h R st ds
theorem zUd {c:Cf}(hdr:c.dr=true){ops:List Oper}{i:Oper}{K:Kt}:∀(pre:List Oper) (ad:Ad) (fr:Fr) (st:ISt) (ds:List Dfd),Pend c ops pre i ad->(∀j∈pre,zKh c.esc j.dst j.op=true) →
  vcK c ops pre (yY6 c ops i K) ad fr st ds->yY6 c ops i (vcK c ops pre K) ad fr st ds
 | [],ad,fr,st,ds,_,_,h=>h
 | j::pre,ad,fr,st,ds,hP,hpu,h=>by
  have hap:=hP.ap j (.head _);rcases xUx (c:=c) hdr (ops:=ops) (ad:=ad) (fr:=fr) (hpu j (.head _)) with⟨pj,ho⟩|ho
  ·have hoj:One c ops j ad fr pj:=ho;obtain⟨q,hq,hK⟩:=yZl.1 ((hoj _ _ _).1 h);have hrest:=zUd hdr pre q.1 q.2 st ds (hP.tail hdr hoj.fine hq) (λk hk=>hpu k (.tail _ hk)) hK;have hs:=yKx hap hP.sf (λd hd=>hP.nj j (.head _) d hd) hoj.fine hq;change yX5 c ops i (finK i.dst (vcK c ops (j::pre) K) ad fr) ad fr st ds;have hrest':yX5 c ops i (finK i.dst (vcK c ops pre K) q.1 q.2) q.1 q.2 st ds:=hrest;rw[<- yK6 hs.1 hs.2] at hrest';refine yVy ?_ (yKv hrest');rintro pi st' ds' ⟨h1,hfi⟩;obtain⟨r,hr,hKr⟩:=yZl.1 h1;obtain⟨p,hp⟩:=zK6 hr ad fr;obtain⟨r',hr1,hr2⟩:=zQo hap (λd hd=>hP.nj j (.head _) d hd) (λd hd=>hP.ni d hd) hoj.fine hfi hq hp;rw[hr] at hr1;cases hr1;have hs2:=yKx hap.symm hP.sf (λd hd=>hP.ni d hd) hfi hp;exact yZl.2 ⟨p,hp,((hoj.of_same hs2.1 hs2.2) _ _ _).2 (yZl.2 ⟨r,hr2,hKr⟩)⟩
  ·exact (ho _ _ _ h).elim
theorem zVe {c:Cf}(hdr:c.dr=true){ops:List Oper}{i:Oper}{K:Kt}(hi:yJd c.esc i.dst i.op=true):∀(pre:List Oper) (ad:Ad) (fr:Fr) (st:ISt) (ds:List Dfd),Pend c ops pre i ad->(∀j∈pre,yJd c.esc j.dst j.op=true) →
  vcK c ops pre (yY6 c ops i K) ad fr st ds->yY6 c ops i (vcK c ops pre K) ad fr st ds
 | [],ad,fr,st,ds,_,_,h=>h
 | j::pre,ad,fr,st,ds,hP,hpu,h=>by
  have hap:=hP.ap j (.head _);have fine:∀ {o:Oper} {pr:PR},(∀R ds,yX5 c ops o R ad fr st ds↔R pr st ds)->Fine c o.op ad fr pr:=λ{o pr} ho=>by
   have h1:yX5 c ops o (λp _ _=>p=pr) ad fr st []:=(ho _ _).2 rfl;exact ((ho _ _).1 (yKv h1)).2
  rcases zQc (c:=c) hdr (ops:=ops) (ad:=ad) (fr:=fr) (hpu j (.head _)) st with⟨pj,hoj,_⟩|ho
  ·have hfj:=fine hoj;obtain⟨q,hq,hK⟩:=yZl.1 ((hoj _ _).1 h);have hrest:=zVe hdr hi pre q.1 q.2 st ds (hP.tail hdr hfj hq) (λk hk=>hpu k (.tail _ hk)) hK;have hs:=yKx hap hP.sf (λd hd=>hP.nj j (.head _) d hd) hfj hq;change yX5 c ops i (finK i.dst (vcK c ops (j::pre) K) ad fr) ad fr st ds;have hrest':yX5 c ops i (finK i.dst (vcK c ops pre K) q.1 q.2) q.1 q.2 st ds:=hrest;rw[<- yK6 hs.1 hs.2] at hrest';rcases zQc (c:=c) hdr (ops:=ops) (ad:=ad) (fr:=fr) hi st with⟨pi,hoi,_⟩|ho
   ·have hfi:=fine hoi;refine (hoi _ _).2 ?_;obtain⟨r,hr,hKr⟩:=yZl.1 ((hoi _ _).1 hrest');obtain⟨p,hp⟩:=zK6 hr ad fr;obtain⟨r',hr1,hr2⟩:=zQo hap (λd hd=>hP.nj j (.head _) d hd) (λd hd=>hP.ni d hd) hfj hfi hq hp;rw[hr] at hr1;cases hr1;have hs2:=yKx hap.symm hP.sf (λd hd=>hP.ni d hd) hfi hp;refine yZl.2 ⟨p,hp,?_⟩;change yX5 c ops j (finK j.dst (vcK c ops pre K) p.1 p.2) p.1 p.2 st ds;rw[<- yK6 hs2.1 hs2.2];exact (hoj _ _).2 (yZl.2 ⟨r,hr2,hKr⟩)
   ·exact (ho _ _ hrest').elim
  ·exact (ho _ _ h).elim
theorem xK6 {c:Cf}(hdr:c.dr=true){ops:List Oper}{i:Oper}{K:Kt}(hi:appQ c.esc i.dst i.op=true):∀(pre:List Oper) (ad:Ad) (fr:Fr) (st:ISt) (ds:List Dfd),Pend c ops pre i ad->(∀j∈pre,yJd c.esc j.dst j.op=true) →
  vcK c ops pre (yY6 c ops i K) ad fr st ds->yY6 c ops i (vcK c ops pre K) ad fr st ds
 | [],ad,fr,st,ds,_,_,h=>h
 | j::pre,ad,fr,st,ds,hP,hpu,h=>by
  have hap:=hP.ap j (.head _);have fine:∀ {o:Oper} {pr:PR},(∀R ds,yX5 c ops o R ad fr st ds↔R pr st ds)->Fine c o.op ad fr pr:=λ{o pr} ho=>by
   have h1:yX5 c ops o (λp _ _=>p=pr) ad fr st []:=(ho _ _).2 rfl;exact ((ho _ _).1 (yKv h1)).2
  rcases zQc (c:=c) hdr (ops:=ops) (ad:=ad) (fr:=fr) (hpu j (.head _)) st with⟨pj,hoj,hkj⟩|ho
  ·have hfj:=fine hoj;obtain⟨q,hq,hK⟩:=yZl.1 ((hoj _ _).1 h);have hrest:=xK6 hdr hi pre q.1 q.2 st ds (hP.tail hdr hfj hq) (λk hk=>hpu k (.tail _ hk)) hK;have hs:=yKx hap hP.sf (λd hd=>hP.nj j (.head _) d hd) hfj hq;change yX5 c ops i (finK i.dst (vcK c ops (j::pre) K) ad fr) ad fr st ds;have hrest':yX5 c ops i (finK i.dst (vcK c ops pre K) q.1 q.2) q.1 q.2 st ds:=hrest;rw[<- yK6 hs.1 hs.2] at hrest';refine yVy ?_ (yKv (xY9 hi hrest'));rintro pi st' ds' ⟨⟨h1,hkept⟩,hfi⟩;obtain⟨r,hr,hKr⟩:=yZl.1 h1;obtain⟨p,hp⟩:=zK6 hr ad fr;obtain⟨r',hr1,hr2⟩:=zQo hap (λd hd=>hP.nj j (.head _) d hd) (λd hd=>hP.ni d hd) hfj hfi hq hp;rw[hr] at hr1;cases hr1;have hs2:=yKx hap.symm hP.sf (λd hd=>hP.ni d hd) hfi hp;refine yZl.2 ⟨p,hp,?_⟩;change yX5 c ops j (finK j.dst (vcK c ops pre K) p.1 p.2) p.1 p.2 st' ds';rw[<- yK6 hs2.1 hs2.2];exact hkj st' hkept _ _ (yZl.2 ⟨r,hr2,hKr⟩)
  ·exact (ho _ _ h).elim
def opAt (ops:Array Oper)(i:Nat):Oper:=ops.getD i default
theorem yZu {ops:Array Oper}{i:Nat}(h:i<ops.size):ops[i]?=some (opAt ops i):=by
 unfold opAt;rw[Array.getD_eq_getD_getElem?,Array.getElem?_eq_getElem h];rfl
def wQz (bf:Array Nat)(ops:Array Oper)(i:Nat):Bool :=
 (opAt ops i).after.toList.all (λe=>!Region.binds .any e || decide (e.on<i)) &&
 (List.range ops.size).all λj=>!(bf.getD i 0).testBit j || (opAt ops i).after.toList.any λe=>Region.binds .any e&&(e.on == j || (bf.getD e.on 0).testBit j)
def xU4 (esc:List Nat)(bf:Array Nat)(ops:Array Oper)(i j:Nat):Bool :=
 i != j&&((bf.getD j 0).testBit i || (wZj esc ops.toList (opAt ops i) (opAt ops j)&&(zKh esc (opAt ops i).dst (opAt ops i).op || (yJd esc (opAt ops i).dst (opAt ops i).op&&(yJd esc (opAt ops j).dst (opAt ops j).op || appQ esc (opAt ops j).dst (opAt ops j).op))))) &&
  (!xWt (opAt ops i).op || match (opAt ops j).dst with|some d=>!(looks ops.toList (opAt ops i)).contains d|none=>true)
def xK3 (f:Nat->Nat->Bool):List Nat->Bool
 | []=>true
 | i::l=>l.all (f i)&&xK3 f l
def wZ0 (esc:List Nat)(ops:Array Oper)(ord:List Nat):Bool :=
 (List.range ops.size).all (λi=>ord.contains i&&wQz (Region.before ops) ops i)&&ord.all (λi=>decide (i<ops.size))&&decide (ord.length<=ops.size)&&xK3 (xU4 esc (Region.before ops) ops) ord
theorem yYj {f:Nat->Nat->Bool}:∀ {l:List Nat},xK3 f l=true->l.Pairwise (λi j=>f i j=true)
 | [],_=>.nil
 | i::l,h=>by
  simp only[xK3,bAt,List.all_eq_true] at h;exact .cons h.1 (yYj h.2)
structure EdgeP (bf:Array Nat)(ops:Array Oper)(i:Nat):Prop where
 lt:∀e∈(opAt ops i).after,Region.binds .any e=true->e.on<i
 via:∀j,j<ops.size->(bf.getD i 0).testBit j=true->∃e∈(opAt ops i).after,Region.binds .any e=true/\(e.on=j\/(bf.getD e.on 0).testBit j=true)
theorem vQa {bf:Array Nat}{ops:Array Oper}{i:Nat}(h:wQz bf ops i=true):EdgeP bf ops i:=by
 unfold wQz at h;simp only[bAt,List.all_eq_true,Bool.or_eq_true,Bool.not_eq_true',dTe,List.mem_range,List.any_eq_true,beq_iff_eq] at h;obtain⟨h1,h2⟩:=h;refine⟨λe he hb=>(h1 e (by simpa using he)).resolve_left (by rw[hb];exact λh=>by cases h),λj hj ht=>?_⟩;obtain⟨e,he,hb,hor⟩:=(h2 j hj).resolve_left (by rw[ht];exact λh=>by cases h);exact⟨e,by simpa using he,hb,hor⟩
structure PairP (c:Cf)(bf:Array Nat)(ops:Array Oper)(i j:Nat):Prop where
 ne:i≠j
 ap:(bf.getD j 0).testBit i=true\/(Ap c ops.toList (opAt ops i) (opAt ops j)/\(zKh c.esc (opAt ops i).dst (opAt ops i).op=true\/(yJd c.esc (opAt ops i).dst (opAt ops i).op=true/\(yJd c.esc (opAt ops j).dst (opAt ops j).op=true\/appQ c.esc (opAt ops j).dst (opAt ops j).op=true))))
 cl:Cl ops.toList (opAt ops i) (opAt ops j)
theorem wU1 {c:Cf}{bf:Array Nat}{ops:Array Oper}{i j:Nat}(h:xU4 c.esc bf ops i j=true):PairP c bf ops i j:=by
 unfold xU4 at h;simp only[bAt,Bool.or_eq_true,Bool.not_eq_true',bne_iff_ne] at h;obtain⟨⟨h1,h2⟩,h3⟩:=h;refine⟨h1,h2.imp id λh=>⟨kQx h.1,h.2⟩,λha d hd=>?_⟩;rcases h3 with h3|h3
 ·rw[ha] at h3;cases h3
 ·rw[hd] at h3;simpa using h3
theorem zKz {c:Cf}{B:Nat}{X0 X:WS}{N:Nat}{ro:Option Nat}{n i:Nat}{ops:Array Oper}{Q:Exit->Act->World->Prop}{o:Oper}{K:Kt}{fr:Fr}{ds:List Dfd}{a:Act}{ad:Ad}(hro:c.rd=false->ro=none)
  (hN:∀o∈ops.toList,∀d,o.dst=some d->d<N) (ho:ops[i]?=some o) (hI:Inv (c.cx B) X0 N X fr ds a) (had:AdOk fr a.tmps ad) (h:yY6 c ops.toList o K ad fr X.st ds) :
  wpOpIn (yZ3 ro) n c.P ops Q i (PK (c.cx B) X0 N K) a X.w:=by
 have hmem:o∈ops.toList:=lMg (by simpa using ho);unfold wpOpIn;simp only[ho];unfold yY6 yX5 at h;split at h
 ·rename_i hg;have hw:Region.wanted o (yielded ops a.tmps)=true:=by simp[Region.wanted,hg]
  rw[if_pos hw];exact yUz hro ⟨hI,had,hN o hmem⟩ h
 ·rename_i j want hg;split at h
  ·rename_i d hd;obtain⟨od,hodm,hodd⟩:=xQ5 hd;have hdN:=hN od hodm d hodd;split at h
   ·rename_i b hs;have hy:=zQt hI hd hdN hs;split at h
    ·rename_i hbw;have hw:Region.wanted o (yielded ops a.tmps)=true:=by simp[Region.wanted,hg,hy,hbw]
     rw[if_pos hw];exact yUz hro ⟨hI,had,hN o hmem⟩ h
    ·rename_i hbw;have hw:¬ Region.wanted o (yielded ops a.tmps)=true:=by simp[Region.wanted,hg,hy,hbw]
     rw[if_neg hw];exact⟨λ_ _=>trivial,yZx hI had (hN o hmem) (.raw _ trivial) h⟩
   ·rename_i t hs;have hy:=zQu hI hd hdN hs;have hw:¬ Region.wanted o (yielded ops a.tmps)=true:=by simp[Region.wanted,hg,hy]
    rw[if_neg hw];exact⟨λ_ _=>trivial,yZx hI had (hN o hmem) (.raw _ trivial) h⟩
   ·exact h.elim
  ·exact h.elim
theorem xUw {bf:Array Nat}{ops:Array Oper}{listed:Array Bool}(he:∀i,i<ops.size->EdgeP bf ops i)
  (hcl:∀i,i<ops.size->listed.getD i true=true->∀e∈(opAt ops i).after,Region.binds .any e=true->listed.getD e.on true=true) :
  ∀i,i<ops.size->(∀e∈(opAt ops i).after,Region.binds .any e=true->listed.getD e.on true=true)->∀j,j<ops.size->(bf.getD i 0).testBit j=true->listed.getD j true=true:=by
 intro i
 induction i using Nat.strongRecOn with
 | _ i ih =>
  intro hi hall j hj ht;obtain⟨e,hem,hb,hor⟩:=(he i hi).via j hj ht;rcases hor with rfl|hor
  ·exact hall e hem hb
  ·have hlt:=(he i hi).lt e hem hb;have hes:e.on<ops.size:=Nat.lt_trans hlt hi;exact ih e.on hlt hes (hcl e.on hes (hall e hem hb)) j hj hor
theorem xG9 {c:Cf}(hdr:c.dr=true){B:Nat}{X0:WS}{N:Nat}{ro:Option Nat}{n:Nat}{ops:Array Oper}{Q:Kc}(hro:c.rd=false->ro=none)(hN:∀o∈ops.toList,∀d,o.dst=some d->d<N)
  {bf:Array Nat} (he:∀i,i<ops.size->EdgeP bf ops i):∀(fuel:Nat) (rest:List Nat) (listed:Array Bool) (X:WS) (fr:Fr) (ds:List Dfd) (a:Act) (ad:Ad),rest.length<=fuel →
   listed.size=ops.size->(∀i,i<ops.size->(listed.getD i true=false↔i∈rest))->(∀i∈rest,i<ops.size)->rest.Pairwise (PairP c bf ops) →
   (∀i,i<ops.size->listed.getD i true=true->∀e∈(opAt ops i).after,Region.binds .any e=true->listed.getD e.on true=true) →
   (∀i∈rest,∀d,(opAt ops i).dst=some d->yVo ad d)->Safe ops.toList ad →
   Inv (c.cx B) X0 N X fr ds a->AdOk fr a.tmps ad->vcK c ops.toList (rest.map (opAt ops)) (λ_ fr st ds=>Q .normal fr st ds) ad fr X.st ds →
   wpAnyIn (yZ3 ro) n c.P .any ops (PQ (c.cx B) X0 N Q) fuel listed a X.w:=by
 intro fuel
 induction fuel with
 | zero =>
  intro rest listed X fr ds a ad hlen hsz hls _ _ _ _ _ hI _ h;have:rest=[]:=List.eq_nil_of_length_eq_zero (by omega);subst this;refine⟨?_,X,fr,ds,rfl,hI,h⟩;rw[List.eq_nil_iff_forall_not_mem];intro j hj;obtain⟨h0,o,ho,_⟩:=mem_ready.1 hj;have hlt:j<ops.size:=(Array.getElem?_eq_some_iff.1 ho).1;cases (hls j hlt).1 h0
 | succ fuel ih =>
  intro rest listed X fr ds a ad hlen hsz hls hlt hpw hcl hnb hsf hI had h;have getD_tf:∀i,i<ops.size->listed.getD i false=listed.getD i true:=λi hi=>by
   rw[Array.getD_eq_getD_getElem?,Array.getD_eq_getD_getElem?,Array.getElem?_eq_getElem (by rw[hsz];exact hi)];rfl
  refine⟨λhr=>?_,λi hi=>?_⟩
  ·have hnone:∀i,i<ops.size->i ∉ rest:=by
    intro i
    induction i using Nat.strongRecOn with
    | _ i ihh =>
     intro his hir;have:i∈Region.ready .any ops listed:=mem_ready.2 ⟨(hls i his).2 hir,_,yZu his,λe hem hb=>by
      have hl:=(he i his).lt e hem hb;have hes:e.on<ops.size:=Nat.lt_trans hl his;have:=ihh e.on hl hes;rw[getD_tf _ hes];cases hq:listed.getD e.on true with
      | true=>rfl
      | false=>exact absurd ((hls _ hes).1 hq) this⟩
     rw[hr] at this;cases this
   have:rest=[]:=List.eq_nil_iff_forall_not_mem.2 λi hir=>hnone i (hlt i hir) hir;subst this;exact⟨X,fr,ds,rfl,hI,h⟩
  ·obtain⟨h0,o,ho,hall⟩:=mem_ready.1 hi;have his:i<ops.size:=(Array.getElem?_eq_some_iff.1 ho).1;obtain rfl:opAt ops i=o:=by rw[yZu his] at ho;exact Option.some.inj ho
   have hir:=(hls i his).1 h0;have hall':∀e∈(opAt ops i).after,Region.binds .any e=true->listed.getD e.on true=true:=λe hem hb=>by
    rw[<- getD_tf _ (Nat.lt_trans ((he i his).lt e hem hb) his)];exact hall e hem hb
   obtain⟨pre,post,rfl⟩:=List.append_of_mem hir;have hpp:=List.pairwise_append.1 hpw;have hpi:∀j∈pre,PairP c bf ops j i:=λj hj=>hpp.2.2 j hj i (by simp);have hap:∀j∈pre,Ap c ops.toList (opAt ops j) (opAt ops i)/\(zKh c.esc (opAt ops j).dst (opAt ops j).op=true\/(yJd c.esc (opAt ops j).dst (opAt ops j).op=true/\(yJd c.esc (opAt ops i).dst (opAt ops i).op=true\/appQ c.esc (opAt ops i).dst (opAt ops i).op=true))):=λj hj=>by
    refine ((hpi j hj).ap).resolve_left λht=>?_;have hjs:=hlt j (by simp[hj]);have h1:=xUw he hcl i his hall' j hjs ht;have h2:=(hls j hjs).2 (by simp[hj]);rw[h1] at h2;cases h2
   have hP:Pend c ops.toList (pre.map (opAt ops)) (opAt ops i) ad:=by
    refine⟨?_,hsf,?_,?_,?_,λd hd=>hnb i hir d hd⟩
    ·intro o ho;obtain⟨j,hj,rfl⟩:=List.mem_map.1 ho;exact lMg (i:=j) (by simpa using yZu (hlt j (by simp[hj])))
    ·intro o ho;obtain⟨j,hj,rfl⟩:=List.mem_map.1 ho;exact (hap j hj).1
    ·exact List.pairwise_map.2 (hpp.1.imp λh=>h.cl)
    ·intro o ho;obtain⟨j,hj,rfl⟩:=List.mem_map.1 ho;exact hnb j (by simp[hj])
   rw[List.map_append,List.map_cons,zKt] at h;have h1:yY6 c ops.toList (opAt ops i) (vcK c ops.toList (pre.map (opAt ops)) (vcK c ops.toList (post.map (opAt ops)) (λ_ fr st ds=>Q .normal fr st ds))) ad fr X.st ds:=by
    by_cases hsi:yJd c.esc (opAt ops i).dst (opAt ops i).op=true
    ·refine zVe hdr hsi (pre.map (opAt ops)) ad fr X.st ds hP (λo ho=>?_) h;obtain⟨j,hj,rfl⟩:=List.mem_map.1 ho;rcases (hap j hj).2 with hp|hp
     ·unfold yJd;rw[hp];rfl
     ·exact hp.1
    ·by_cases hqi:appQ c.esc (opAt ops i).dst (opAt ops i).op=true
     ·refine xK6 hdr hqi (pre.map (opAt ops)) ad fr X.st ds hP (λo ho=>?_) h;obtain⟨j,hj,rfl⟩:=List.mem_map.1 ho;rcases (hap j hj).2 with hp|hp
      ·unfold yJd;rw[hp];rfl
      ·exact hp.1
     ·refine zUd hdr (pre.map (opAt ops)) ad fr X.st ds hP (λo ho=>?_) h;obtain⟨j,hj,rfl⟩:=List.mem_map.1 ho;exact (hap j hj).2.resolve_right λhp=>hp.2.elim hsi hqi
   rw[<- zKt,<- List.map_append] at h1;have hnr:i ∉ pre++post:=by
    intro hm;rcases List.mem_append.1 hm with hm|hm
    ·exact (hpi i hm).ne rfl
    ·exact ((List.pairwise_cons.1 hpp.2.1).1 i hm).ne rfl
   have h2:yY6 c ops.toList (opAt ops i) (λad fr st ds=>((∀j∈pre++post,∀d,(opAt ops j).dst=some d->yVo ad d)/\Safe ops.toList ad)/\vcK c ops.toList ((pre++post).map (opAt ops)) (λ_ fr st ds=>Q .normal fr st ds) ad fr st ds) ad fr X.st ds:=by
    refine yVy ?_ (yKv h1);rintro pr st' ds' ⟨hf,hfine⟩;obtain⟨p,hp,hK⟩:=yZl.1 hf;refine yZl.2 ⟨p,hp,⟨λj hj d hd=>?_,zV4 (ops:=ops.toList) hdr (lMg (i:=i) (by simpa using yZu his)) hsf hfine hp⟩,hK⟩;refine yVh (ops:=ops.toList) hdr (λha=>?_) (hnb j (by simp only[List.mem_append,List.mem_cons] at hj ⊢;rcases hj with hj|hj<;>simp[hj]) d hd) hfine hp;rcases List.mem_append.1 hj with hj|hj
    ·exact (hap j hj).1.d d hd |>.1
    ·exact ((List.pairwise_cons.1 hpp.2.1).1 j hj).cl ha d hd
   refine wpOpIn_mono ?_ (zKz hro hN (yZu his) hI had h2);rintro a' w' ⟨X',ad',fr',ds',rfl,hI',had',⟨hnb',hsf'⟩,h'⟩;have hset:∀j,j<ops.size->((listed.setIfInBounds i true).getD j true=if i=j then true else listed.getD j true):=λj hj=>by
    by_cases hij:i=j
    ·subst hij;rw[if_pos rfl];simp
    ·rw[if_neg hij,getD_set_ne true hij]
   refine ih (pre++post) (listed.setIfInBounds i true) X' fr' ds' a' ad' (by simp at hlen ⊢;omega) (by simp[hsz]) (λj hj=>?_) (λj hj=>hlt j (by simp only[List.mem_append,List.mem_cons] at hj ⊢;rcases hj with hj|hj<;>simp[hj]))
    (hpw.sublist (List.Sublist.append_left (List.sublist_cons_self _ _) _)) (λj hj hl e hem hb=>?_) hnb' hsf' hI' had' h'
   ·rw[hset j hj];by_cases hij:i=j
    ·subst hij;rw[if_pos rfl];exact⟨(λh=>absurd h (by simp)),λh=>absurd h hnr⟩
    ·rw[if_neg hij,hls j hj];simp only[List.mem_append,List.mem_cons];exact⟨λh=>by rcases h with h|h|h<;>first|exact .inl h|exact absurd h.symm hij|exact .inr h,λh=>by rcases h with h|h<;>simp[h]⟩
   ·rw[hset j hj] at hl;have hes:e.on<ops.size:=Nat.lt_trans ((he j hj).lt e hem hb) hj;rw[hset _ hes];by_cases hie:i=e.on
    ·rw[if_pos hie]
    ·rw[if_neg hie];by_cases hij:i=j
     ·subst hij;exact hall' e hem hb
     ·rw[if_neg hij] at hl;exact hcl j hj hl e hem hb
def zJ1:List (Nat×List Nat)->Nat->Option (List Nat)
 | [],_=>none
 | (i,o)::l,id=>if id=i then some o else zJ1 l id
@[go_sem] theorem vJe (id:Nat):zJ1 [] id=none:=(rfl)
@[go_sem] theorem vZh (i id:Nat)(o:List Nat)(l:List (Nat×List Nat)):zJ1 ((i,o)::l) id=if id=i then some o else zJ1 l id:=(rfl)
def xU5 (o:Option (List Nat))(n:Nat):List Nat:=match o with|some l=>l|none=>List.range n
def anyV (c:Cf)(ops:Array Oper)(Q:Fr->ISt->List Dfd->Prop):Nat->Array Bool->Kt
 | 0,listed=>λ_ fr st ds=>Region.ready .any ops listed=[]->Q fr st ds
 | n+1,listed=>λad fr st ds=>(Region.ready .any ops listed=[]->Q fr st ds) /\
   ∀i∈Region.ready .any ops listed,yY6 c ops.toList (opAt ops i) (anyV c ops Q n (listed.setIfInBounds i true)) ad fr st ds
theorem zVv {dst:Option Nat}{K K':Kt}{ad:Ad}{fr:Fr}(h:∀ad fr st ds,K ad fr st ds->K' ad fr st ds):∀pr st ds,finK dst K ad fr pr st ds->finK dst K' ad fr pr st ds:=λpr st ds hf=>by
 obtain⟨p,hp,hK⟩:=yZl.1 hf;exact yZl.2 ⟨p,hp,h _ _ _ _ hK⟩
theorem xQk {c:Cf}{ops:Array Oper}{Q Q':Fr->ISt->List Dfd->Prop}(h:∀fr st ds,Q fr st ds->Q' fr st ds):∀(n:Nat) (listed:Array Bool) {ad:Ad} {fr:Fr} {st:ISt} {ds:List Dfd},anyV c ops Q n listed ad fr st ds->anyV c ops Q' n listed ad fr st ds
 | 0,_,_,_,_,_,hh=>λhr=>h _ _ _ (hh hr)
 | n+1,_,_,_,_,_,hh=>⟨λhr=>h _ _ _ (hh.1 hr),λi hi=>yVy (zVv λ_ _ _ _ h'=>xQk h n _ h') (hh.2 i hi)⟩
theorem yJ9 {c:Cf}{ops:Array Oper}{Q:Fr->ISt->List Dfd->Prop}(J:Array Bool->Kt)
  (hs:∀listed ad fr st ds,listed.size=ops.size->J listed ad fr st ds->∀i∈Region.ready .any ops listed,yY6 c ops.toList (opAt ops i) (J (listed.setIfInBounds i true)) ad fr st ds)
  (he:∀listed ad fr st ds,listed.size=ops.size->Region.ready .any ops listed=[]->J listed ad fr st ds->Q fr st ds) :
  ∀(n:Nat) (listed:Array Bool) (ad:Ad) (fr:Fr) (st:ISt) (ds:List Dfd),listed.size=ops.size->J listed ad fr st ds->anyV c ops Q n listed ad fr st ds
 | 0,listed,ad,fr,st,ds,hz,h=>λhr=>he _ _ _ _ _ hz hr h
 | n+1,listed,ad,fr,st,ds,hz,h=>⟨λhr=>he _ _ _ _ _ hz hr h,λi hi=>yVy (zVv λad fr st ds h'=>yJ9 J hs he n _ ad fr st ds (by rw[Array.size_setIfInBounds];exact hz) h') (hs _ _ _ _ _ hz h i hi)⟩
theorem xW0 {c:Cf}{B:Nat}{X0:WS}{N:Nat}{ro:Option Nat}{n:Nat}{ops:Array Oper}{Q:Kc}(hro:c.rd=false->ro=none)(hN:∀o∈ops.toList,∀d,o.dst=some d->d<N) :
  ∀(fuel:Nat) (rest:List Nat) (listed:Array Bool) (X:WS) (fr:Fr) (ds:List Dfd) (a:Act) (ad:Ad),rest.length<=fuel->listed.size=ops.size->(∀i,i<ops.size->listed.getD i true=false->i∈rest) →
   Inv (c.cx B) X0 N X fr ds a->AdOk fr a.tmps ad->anyV c ops (Q .normal) fuel listed ad fr X.st ds->wpAnyIn (yZ3 ro) n c.P .any ops (PQ (c.cx B) X0 N Q) fuel listed a X.w:=by
 intro fuel
 induction fuel with
 | zero =>
  intro rest listed X fr ds a ad hlen hsz hls hI _ h;have:rest=[]:=List.eq_nil_of_length_eq_zero (by omega);subst this;have hr:Region.ready .any ops listed=[]:=by
   rw[List.eq_nil_iff_forall_not_mem];intro j hj;obtain⟨h0,o,ho,_⟩:=mem_ready.1 hj;cases hls j (Array.getElem?_eq_some_iff.1 ho).1 h0
  exact⟨hr,X,fr,ds,rfl,hI,h hr⟩
 | succ fuel ih =>
  intro rest listed X fr ds a ad hlen hsz hls hI had h;refine⟨λhr=>⟨X,fr,ds,rfl,hI,h.1 hr⟩,λi hi=>?_⟩;obtain⟨h0,o,ho,_⟩:=mem_ready.1 hi;have his:i<ops.size:=(Array.getElem?_eq_some_iff.1 ho).1;have hir:=hls i his h0;refine wpOpIn_mono ?_ (zKz hro hN (yZu his) hI had (h.2 i hi));rintro a' w' ⟨X',ad',fr',ds',rfl,hI',had',h'⟩;refine ih (rest.erase i) (listed.setIfInBounds i true) X' fr' ds' a' ad' (by rw[List.length_erase_of_mem hir];omega) (by simp[hsz]) (λj hj hl=>?_) hI' had' h';by_cases hij:i=j
  ·subst hij;simp at hl
  ·rw[getD_set_ne true hij] at hl;exact (List.mem_erase_of_ne (Ne.symm hij)).2 (hls j hj hl)
def anyO:Option (List Nat)->Bool
 | some []=>true
 | _=>false
def zKn (c:Cf)(ops:Array Oper)(o:Option (List Nat))(Q:Fr->ISt->List Dfd->Prop)(fr:Fr)(st:ISt)(ds:List Dfd):Prop :=
 match o with
 | some []=>anyV { c with dr:=true } ops Q ops.size (Array.replicate ops.size false) Ad.none_ fr st ds
 | none=>yJb { c with dr:=true } ops.toList ops.toList Q Ad.none_ fr st ds
 | some l=>yJb { c with dr:=true } ops.toList (l.map (opAt ops)) Q Ad.none_ fr st ds
@[congr] theorem vQc (c:Cf)(ops:Array Oper){o o':Option (List Nat)}(Q:Fr->ISt->List Dfd->Prop)(fr:Fr)(st:ISt)(ds:List Dfd)(h:o=o'):zKn c ops o Q fr st ds=zKn c ops o' Q fr st ds:=by rw[h]
@[go_sem] theorem vX2 (c:Cf)(l:List Oper)(Q:Fr->ISt->List Dfd->Prop)(fr:Fr)(st:ISt)(ds:List Dfd):zKn c ⟨l⟩ none Q fr st ds=yJb { c with dr:=true } l l Q Ad.none_ fr st ds:=(rfl)
@[go_sem] theorem vX1 (c:Cf)(ops:List Oper)(i:Nat)(l:List Nat)(Q:Fr->ISt->List Dfd->Prop)(fr:Fr)(st:ISt)(ds:List Dfd):zKn c ⟨ops⟩ (some (i::l)) Q fr st ds=yJb { c with dr:=true } ops ((i::l).map (opAt ⟨ops⟩)) Q Ad.none_ fr st ds:=(rfl)
theorem yKg (c:Cf)(ops:List Oper)(Q:Fr->ISt->List Dfd->Prop)(fr:Fr)(st:ISt)(ds:List Dfd):zKn c ⟨ops⟩ (some []) Q fr st ds=anyV { c with dr:=true } ⟨ops⟩ Q ops.length (Array.replicate ops.length false) Ad.none_ fr st ds:=(rfl)
@[go_sem ↓] theorem vJg (o:Oper)(l:List Oper):opAt ⟨o::l⟩ 0=o:=(rfl)
@[go_sem ↓] theorem vJh (o:Oper)(l:List Oper)(i:Nat):opAt ⟨o::l⟩ (i+1)=opAt ⟨l⟩ i:=by simp[opAt]
theorem xWb (ops:Array Oper):(List.range ops.size).map (opAt ops)=ops.toList:=by
 apply List.ext_getElem
 ·simp
 ·intro i h1 h2;have hi:i<ops.size:=by simpa using h1
  have:=yZu hi;rw[Array.getElem?_eq_getElem hi,Option.some.injEq] at this;simp[<- this]
theorem xVy {c:Cf}{B:Nat}{X0 X:WS}{N:Nat}{ro:Option Nat}{n id:Nat}{ops:Array Oper}{ord:Option (List Nat)}{Q:Kc}{fr:Fr}{ds:List Dfd}{a:Act}(hro:c.rd=false->ro=none)(hN:∀o∈ops.toList,∀d,o.dst=some d->d<N)
  (hm:c.P.follows .mixedOrders=true) (hok:(anyO ord || wZ0 c.esc ops (xU5 ord ops.size))=true) (hI:Inv (c.cx B) X0 N X fr ds a) (h:zKn c ops ord (Q .normal) fr X.st ds):(Code.region id ops true).wpIn (yZ3 ro) n c.P (PQ (c.cx B) X0 N Q) a X.w:=by
 obtain⟨he,hg⟩:=hI.good.drew;have hI':Inv (c.cx B) X0 N X.drew fr ds a:=hI.ext' he hg;by_cases hany:anyO ord=true
 ·obtain rfl:ord=some []:=by
   match ord,hany with
   | some [],_=>rfl
  refine wpIn_region_any hm ?_;exact xW0 (c:={ c with dr:=true }) hro hN ops.size (List.range ops.size) _ X.drew fr ds a Ad.none_ (by simp) (by simp) (λi hi _=>List.mem_range.2 hi) hI' .nil h
 rw[Bool.eq_false_iff.2 hany,Bool.false_or] at hok;replace h:yJb { c with dr:=true } ops.toList ((xU5 ord ops.size).map (opAt ops)) (Q .normal) Ad.none_ fr X.st ds:=by
  match ord,h,hany with
  | none,h,_=>simp only[xU5,xWb];exact h
  | some (i::l),h,_=>exact h
  | some [],_,h=>exact absurd rfl h
 generalize xU5 ord ops.size=ord at hok h;unfold wZ0 at hok;simp only[bAt,List.all_eq_true,List.mem_range,dTe] at hok;obtain⟨⟨⟨h1,h2⟩,hle⟩,h3⟩:=hok;have hpw:=(yYj h3).imp (λ{i j} h=>wU1 (c:={ c with dr:=true }) h);refine wpIn_region_any hm ?_;refine xG9 (c:={ c with dr:=true }) (bf:=Region.before ops) rfl hro hN (λi hi=>vQa (h1 i hi).2) ops.size ord _ X.drew fr ds a Ad.none_ ?_ (by simp) (λi hi=>?_) h2 hpw (λi hi hl=>?_) (λi hi d hd x t off h=>by cases h) (xGl _) hI' .nil (zG9 h)
 ·exact hle
 ·have:i∈ord:=by simpa using (h1 i hi).1
  simp[this,hi]
 ·rw[Array.getD_eq_getD_getElem?,Array.getElem?_eq_getElem (by simpa using hi)] at hl;simp at hl
