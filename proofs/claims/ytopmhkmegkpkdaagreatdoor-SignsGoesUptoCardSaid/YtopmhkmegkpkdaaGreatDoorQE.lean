/- Walks: the reader of trees; what is hand -/
import Derived.Test.YtopmhkmegkpkdaaGreatDoorQD
set_option linter.all false
open Nat renaming reduceEqDiff → zE,reduceBEq → zB,reduceAdd → zA,reduceMul → zM,reduceLeDiff → zL
namespace Go.Proofs.Tryz
open Go Go.Iv
set_option maxRecDepth 4000
variable (gl:Nat->Option IV)
structure RulX (ents:Array MapEntry)(clock:Nat):Prop where
 all:∀e∈ents.toList,∃k,k<10/\e.key=sgV (kB k) (kO k)/\e.val=.int .u8 (ga (kB k) (kO k))
 has:∀k,k<10->∃e∈ents.toList,e.key=sgV (kB k) (kO k)
 born:∀e∈ents.toList,e.born<clock
 nd:(ents.toList.map (·.born)).Nodup
def Ox {es:List (Value×IV)}{A:Array MapEntry}{D:Nat}(h:sc es)(hg:Ab .sg es A D):RulX A D:=by
 obtain⟨h1,h2,_⟩:=h;obtain⟨g1,g2,g3,g4,g5⟩:=hg;have E:A.toList.length=es.length:=by have:=et List.length g1;simpa using this
 refine⟨λe W=>?_,λk hk=>?_,g3,?_⟩
 ·obtain⟨i,O⟩:=List.mem_iff_getElem?.1 W;obtain⟨p,hp⟩:=dd (l:=es) (k:=i) (by rw[<- E];exact (lGs O).1);have U:e.key=p.1:=by
   have:=et (λl=>l[i]?) g1;simp only[en,O,hp,fg,dL] at this;exact this
  obtain⟨k,hk,rfl⟩:=h1 p (lMg hp);exact⟨k,hk,U,g5 i e _ O hp _ rfl⟩
 ·obtain⟨i,O⟩:=List.mem_iff_getElem?.1 (h2 k hk);obtain⟨e,W⟩:=dd (l:=A.toList) (k:=i) (by rw[E];exact (lGs O).1);refine⟨e,lMg W,?_⟩;have:=et (λl=>l[i]?) g1;simp only[en,O,W,fg,dL] at this;exact this
 ·rw[List.Nodup,List.pairwise_map];exact g4.imp λh=>Nat.ne_of_lt h
def Oy (st:ISt):ICall prog gl 36 [] st (λr st'=>∃b D A,st b=none/\r=.raw (.map (some b))/\RulX D A/\st'=st.put b (some (.mapx D A))) :=
 rn ((Fj gl st).mono λr st' ⟨b,es,hb,U,E,O⟩=>⟨b,.sg,es,by rw[O];exact cT ..,λD A W=>⟨b,D,A,hb,U,Ox E W,by rw[O,eZ]⟩⟩)
def Oz {A:Array MapEntry}(D:(A.toList.map (·.born)).Nodup)(seen:Array Nat){e:MapEntry}(h:e∈A.toList):pz A (seen.push e.born)=valI e.val:=by
 have E:A.toList.find? (λx=>x.born == e.born)=some e:=find_born e A.toList D h;unfold pz;rw[Array.back?_push,kG,E]
def qy (es:List (Value×IV)):Prop:=∀rule:Nat,e8 (.int .u8 rule) es=if iN rule=true then some (.raw (.bool true)) else none
def yP (A:Array MapEntry)(seen:Array Nat)(es:List (Value×IV)):Prop :=
 (∀(rule:Nat) v,e8 (.int .u8 rule) es=some v->v=true/\iN rule=true)/\e8 (.int .u8 1) es=some (.raw (.bool true))/\e8 (.int .u8 2) es=some (.raw (.bool true)) /\
 ∀e∈A.toList,e ∉ jb A seen->∀k,k<10->e.key=sgV (kB k) (kO k)->kB k=true->e8 (.int .u8 (ga true (kO k))) es=some (.raw (.bool true))
def OA {k:Nat}(D:k<10)(A:kB k=true):iN (ga true (kO k))=true:=by
 rcases (show k=0\/k=1\/k=2\/k=3\/k=4\/k=5\/k=6\/k=7\/k=8\/k=9 by omega) with rfl|rfl|rfl|rfl|rfl|rfl|rfl|rfl|rfl|rfl<;>revert A<;>decide
def OB {A:Array MapEntry}{D:Nat}{seen:Array Nat}{es:List (Value×IV)}(hX:RulX A D)(W:jb A seen=[])(h:yP A seen es):qy es:=by
 intro rule;cases E:iN rule
 ·cases hf:e8 (.int .u8 rule) es with
  | none=>rfl
  | some v=>rw[(h.1 rule v hf).2] at E;cases E
 ·rw[b_ rfl];have key:∀k,k<10->kB k=true->e8 (.int .u8 (ga true (kO k))) es=some (.raw (.bool true)):=λk U hb=>by
   obtain⟨e,he,O⟩:=hX.has k U;exact h.2.2.2 e he (by rw[W];simp) k U O hb
  have hc:rule=1\/rule=2\/rule=3\/rule=5\/rule=7\/rule=9\/rule=11:=by
   simp only[iN,iU,dTe] at E;omega
  rcases hc with rfl|rfl|rfl|rfl|rfl|rfl|rfl
  ·exact h.2.1
  ·exact h.2.2.1
  ·exact key 0 (by decide) rfl
  ·exact key 2 (by decide) rfl
  ·exact key 4 (by decide) rfl
  ·exact key 6 (by decide) rfl
  ·exact key 8 (by decide) rfl
def Fk (b:Bool)(o:Int):keyI (sgV b o)=some (.agg [b,.raw (.int .u8 o)]):=rfl
def Fl (st:ISt):ICall prog gl 61 [] st (λr st'=>∃m es,st m=none/\r=.agg [.raw (.map (some m))]/\qy es/\st'=st.put m (some (.map (.int .u8) es))):=by
 refine iI func61 ?_;simp only[go_sem,zE,zA,zL,fits];refine λm=>eB λhm=>?_;simp only[go_sem,eZ];refine (Oy gl _).mono ?_;rintro _ _ ⟨b,A,D,hb,rfl,hX,rfl⟩;have am:b≠m:=λh=>by rw[h,cT] at hb;cases hb
 simp only[go_sem,reduceCtorEq,cT];refine λr=>eB λhr=>?_;have aa:r≠b:=λh=>by rw[h,cT] at hr;cases hr
 have W:r≠m:=λh=>by rw[h,de am.symm,cT] at hr;cases hr
 have aS:st b=none:=by rw[de am] at hb;exact hb
 have aI:st r=none:=by rw[de aa,de W] at hr;exact hr
 have aB:((∀e∈A.toList,e.born<D/\(keyI e.key).isSome=true)/\D<=D)=True:=eq_true ⟨λe he=>⟨hX.born e he,by obtain⟨k,_,hk,_⟩:=hX.all e he;rw[hk];rfl⟩,dz _⟩;have az:(A.toList.map (·.born)).Nodup=True:=eq_true hX.nd;refine LoopC.dec A.toList.length (λk fr st' ds=>(∃seen es,(jb A seen).length=k/\yP A seen es/\st' m=some (.map (.int .u8) es)/\st' b=some (.mapx A D)/\st' r=some (.iter b D seen D)/\∀c,c≠m->c≠b->c≠r->st' c=st c) /\
  fr 0=.box [.raw (.map none)]/\fr 1=.box [.raw (.map (some m))]/\fr 8=.iv (.raw (.pointer (some ⟨r,0,none⟩)))/\ds=[]) ?_ ?_
 ·simp only[go_sem,zE,reduceCtorEq];refine⟨#[],_,by rw[Fb],⟨λrule v h=>?_,rfl,rfl,λe he hn=>absurd (by rw[Fb];exact he) hn⟩,by rw[de W.symm,de am.symm,cT],by rw[de aa.symm,cT],rfl,λc h1 h2 h3=>by rw[de h3,de h2,de h1]⟩;rw[l9,l9] at h;have h2:rule=1\/rule=2:=by
   refine fL λhc=>?_;rw[a_ (by omega),a_ (by omega)] at h;cases h
  have hv:v=true:=by
   rcases h2 with rfl|rfl
   ·exact (eK h).symm
   ·exact (eK h).symm
  exact⟨hv,by rcases h2 with rfl|rfl<;>rfl⟩
 ·rintro k fr aG _ ⟨⟨seen,es,aV,hP,aq,an,aH,E⟩,f0,f1,f8,rfl⟩;simp only[go_sem,reduceCtorEq,f8,aH,an,aB];refine⟨λay=>?_,λe he x hx=>?_⟩
  ·simp only[go_sem,zE,zL,reduceCtorEq,f0,f1];refine dZ (st':=st.put m (some (.map (.int .u8) es))) (λc o hc=>?_) ⟨m,es,hm,rfl,OB hX ay hP,rfl⟩;by_cases aw:c=m
   ·subst aw;rw[cT] at hc;rw[aq];exact hc
   ·rw[de aw] at hc;rw[E c aw (λh=>by rw[h,aS] at hc;cases hc) (λh=>by rw[h,aI] at hc;cases hc)];exact hc
  ·have ak:=Ot he;obtain⟨j,hj,ar,aN⟩:=hX.all e ak;rw[ar] at hx;cases hx;have O:=Ou hX.nd seen ak;rw[ar] at O;have aj:=Oz hX.nd seen ak;rw[aN] at aj;have aJ:=Ov hX.nd he;have ai:∀(o1 o2:IObj) c,c≠m->c≠b->c≠r->((aG.put r (some o1)).put m (some o2)) c=st c:=λo1 o2 c h1 h2 h3=>by rw[de h1,de h3];exact E c h1 h2 h3
   have U:∀ae,(∀(rule:Nat) v,e8 (.int .u8 rule) ae=some v->v=true/\iN rule=true)->(∀rule:Nat,e8 (.int .u8 rule) es=some (.raw (.bool true))->e8 (.int .u8 rule) ae=some (.raw (.bool true)))->(kB j=true->e8 (.int .u8 (ga true (kO j))) ae=some (.raw (.bool true)))->yP A (seen.push e.born) ae:=λae h1 h2 h3=>by
    refine⟨h1,h2 1 hP.2.1,h2 2 hP.2.2.1,λe' au aK k' aA ac aC=>?_⟩;by_cases hl:e'∈jb A seen
    ·have aR:e'.born=e.born:=by
      refine fL λhc=>aK ?_;unfold jb at hl ⊢;rw[jq] at hl ⊢;refine⟨au,?_⟩;have:=hl.2;simp only[Array.contains_push,Bool.not_or,bAt,fV] at this ⊢;exact⟨this,by simpa using hc⟩
     have aO:e'=e:=by
      have h5:=find_born e A.toList hX.nd ak;have h6:=find_born e' A.toList hX.nd au;rw[aR] at h6;exact eK (h6.symm.trans h5)
     subst aO;rw[ar] at ac;have aM:j=k':=by
      refine fL λhc=>?_;have:=Fi hj aA hc;rw[ac] at this;have h9:f_ (sgV (kB k') (kO k')) (sgV (kB k') (kO k'))=true:=by
       show (decide (kB k'=kB k')&&decide ((kO k':Int)=kO k'))=true;simp
      rw[h9] at this;cases this
     subst aM;exact h3 aC
    ·exact h2 _ (hP.2.2.2 e' au hl k' aA ac aC)
   cases ab:kB j
   ·rw[ab] at U;simp only[go_sem,zE,zA,zL,reduceCtorEq,f0,f1,f8,cT,de aa.symm,de W.symm,an,aq,az,O,aj,valI,Fk,ab];refine⟨(jb A (seen.push e.born)).length,by omega,⟨seen.push e.born,es,rfl,U es hP.1 (λ_ h=>h) (λh=>by cases h),rfl,rfl,λc h1 h2 h3=>by rw[de h3];exact E c h1 h2 h3⟩⟩
   ·rw[ab] at U aj;simp only[go_sem,zE,zA,zL,reduceCtorEq,f0,f1,f8,cT,de aa.symm,de W.symm,an,aq,az,O,aj,valI,Fk,ab];have aL:=OA hj ab;refine⟨(jb A (seen.push e.born)).length,by omega,⟨seen.push e.born,updI (.int .u8 (ga true (kO j))) true es,rfl,U _ (λrule v h=>?_) (λrule h=>?_) (λ_=>by rw[l9,b_ rfl]),rfl,by rw[de am,de aa.symm];exact an,by rw[de W,cT],ai _ _⟩⟩
    ·rw[l9] at h;by_cases hr:(rule:Int)=(ga true (kO j):Nat)
     ·rw[b_ hr] at h;have:rule=ga true (kO j):=by omega
      rw[this];exact⟨(eK h).symm,aL⟩
     ·rw[a_ hr] at h;exact hP.1 rule v h
    ·rw[l9];split
     ·rfl
     ·exact h
end Go.Proofs.Tryz
namespace Go.Iv
open Go
def ndO:List (Option Nat)->Bool
 | []=>true
 | none::l=>ndO l
 | some d::l=>!l.contains (some d)&&ndO l
def sd:∀ {l:List (Option Nat)}{i j d O:Nat},ndO l=true->l[i]?=some (some d)->l[j]?=some (some O)->i≠j->d≠O
 | [],i,j,d,O,_,h,_,_=>by simp at h
 | none::l,0,j,d,O,D,h,E,A=>by simp at h
 | none::l,i+1,0,d,O,D,h,E,A=>by simp at E
 | none::l,i+1,j+1,d,O,D,h,E,A=>sd (l:=l) D (by simpa using h) (by simpa using E) (by omega)
 | some x::l,0,0,d,O,D,h,E,A=>absurd rfl A
 | some x::l,0,j+1,d,O,D,h,E,A=>by
  simp only[ndO,bAt,fV] at D;simp only[fC,dL] at h;subst h;rintro rfl;have:=lMg (show l[j]?=some (some x) by simpa using E);have h2:l.contains (some x)=true:=List.contains_iff_mem.2 this;rw[D.1] at h2;cases h2
 | some x::l,i+1,0,d,O,D,h,E,A=>by
  simp only[ndO,bAt,fV] at D;simp only[fC,dL] at E;subst E;rintro rfl;have:=lMg (show l[i]?=some (some d) by simpa using h);have h2:l.contains (some d)=true:=List.contains_iff_mem.2 this;rw[D.1] at h2;cases h2
 | some x::l,i+1,j+1,d,O,D,h,E,A=>by
  simp only[ndO,bAt] at D;exact sd (l:=l) D.2 (by simpa using h) (by simpa using E) (by omega)
def SlotsOk (L:List (Option (Nat×IV)))(A:Array Bool)(fr:Fr):Prop:=∀i,A.getD i false=true->∀d z,L[i]?=some (some (d,z))->fr d=.iv z
def SlotsOk.step {L L':List (Option (Nat×IV))}{D:List (Option Nat)}(hD:L'.map (·.map (·.1))=D)(hn:ndO D=true){i d:Nat}{z:IV}{A:Array Bool}{fr:Fr}(hi:i<A.size)(W:L'[i]?=some (some (d,z)))
  (hk:∀j,j≠i->A.getD j false=true->L'[j]?=L[j]?) (h:SlotsOk L A fr):SlotsOk L' (A.setIfInBounds i true) (fr.put d z):=by
 intro j U d' z' E;rw[Fr.put_apply];by_cases O:i=j
 ·subst O;rw[W] at E;cases E;rw[b_ rfl]
 ·have g1:D[i]?=some (some d):=by rw[<- hD,en,W];rfl
  have g2:D[j]?=some (some d'):=by rw[<- hD,en,E];rfl
  rw[a_ (sd hn g1 g2 O).symm];rw[fq false O] at U;exact h j U d' z' (by rw[<- hk j (Ne.symm O) U];exact E)
def SlotsOk.skip {L:List (Option (Nat×IV))}{i:Nat}{A:Array Bool}{fr:Fr}(E:L[i]?=some none\/L.length<=i)(h:SlotsOk L A fr):SlotsOk L (A.setIfInBounds i true) fr:=by
 intro j U d' W D;have O:i≠j:=by
  rintro rfl;rcases E with E|E
  ·rw[E] at D;cases D
  ·rw[lF E] at D;cases D
 rw[fq false O] at U;exact h j U d' W D
def SlotsOk.start (L:List (Option (Nat×IV)))(n:Nat)(fr:Fr):SlotsOk L (Array.replicate n false) fr:=by
 intro j A;rw[gx,Array.getElem?_replicate] at A;split at A<;>cases A
def OC (ops:Array Oper):Bool:=(List.range ops.size).all λi=>(opAt ops i).after.toList.all λe=>Region.binds .any e&&decide (e.on<i)
def OD (ops:Array Oper)(n:Nat):Bool:=(List.range n).all λi=>(opAt ops n).after.toList.any λe=>e.on == i
def ly (ops:Array Oper):List (Option Nat):=ops.toList.map (·.dst)
def AnyJ (ops:Array Oper)(n:Nat)(Rel:Nat->IV->Prop)(F G:Fr->Prop)(st:ISt)(A:Array Bool):Kt:=λad fr D ds=>(∀s,ad s=none)/\ds=[]/\D=st /\
 (A.getD n false=true->∀i,i<ops.size->A.getD i false=true) /\
 (∀i,A.getD i false=true->∀d,(opAt ops i).dst=some d->∃v,fr d=.iv v/\Rel i v)/\(A.getD n false=false->F fr)/\(A.getD n false=true->G fr)
structure AnyS (ops:Array Oper)(n:Nat)(F:Fr->Prop):Prop where
 size:ops.size=n+1
 bind:OC ops=true
 last:OD ops n=true
 nd:ndO (ly ops)=true
 keep:∀fr d z,some d∈ly ops->F fr->F (fr.put d z)
def ou {ad:Ad}(h:∀s,ad s=none)(d:Nat):∀s,ad.put d none s=none:=λs=>by
 rw[Ad.put_apply,h s];split<;>rfl
def ov {L:List (Option Nat)}{d k:Nat}{fr:Fr}{z:SV}(hd:some d∈L)(A:L.contains (some k)=false):(fr.put d z) k=fr k:=by
 rw[Fr.put_apply,a_];rintro rfl;rw[List.contains_iff_mem.2 hd] at A;cases A
def Fo {L:List (Option Nat)}{d k:Nat}{fr:Fr}{z:SV}(A:L.contains (some k)=false):some d∈L->(fr.put k z) d=fr d:=λhd=>by
 rw[Fr.put_apply,a_];rintro rfl;rw[List.contains_iff_mem.2 hd] at A;cases A
def yQ {c:Cf}{ops:List Oper}{dst:Option Nat}{op:Op}{O:TypeId}{pos:String}{E:Array Edge}{j:Nat}{A b:Bool}{d D:Nat}{K:Kt}{ad:Ad}{fr:Fr}{st:ISt}{ds:List Dfd}(hd:dst=some D)(U:gQ ops j=some d)(W:fr d=b)(aa:∀s,ad s=none)
  (h1:b=A->vcOp c dst op K ad fr st ds) (h2:b≠A->K (ad.put D none) (fr.put D (.iv (.raw undef))) st ds):jc c ops ⟨dst,op,O,pos,E,some (j,A)⟩ K ad fr st ds:=by
 subst hd;unfold jc fc;simp only[U,W];split
 ·exact h1 ‹_›
 ·exact h2 ‹_›
def yR (c:Cf)(ops:Array Oper)(n:Nat)(Rel:Nat->IV->Prop)(F G:Fr->Prop)(st:ISt)(o:Oper)(i:Nat):Prop:=∀(ad:Ad) (fr:Fr) (K:Kt),(∀s,ad s=none)->F fr →
 (∀k d,(o.after.toList.any λe=>e.on == k)=true->(opAt ops k).dst=some d->∃v,fr d=.iv v/\Rel k v) →
 (∀d v,o.dst=some d->(i=n->G (fr.put d (.iv v)))->Rel i v->K (ad.put d none) (fr.put d (.iv v)) st [])->(∀fr',o.dst=none->i=n->G fr'->(∀d,some d∈ly ops->fr' d=fr d)->K ad fr' st [])->jc c ops.toList o K ad fr st []
def AllOk (c:Cf)(ops:Array Oper)(n:Nat)(Rel:Nat->IV->Prop)(F G:Fr->Prop)(st:ISt):List Oper->Nat->Prop
 | [],_=>True
 | o::l,i=>yR c ops n Rel F G st o i/\AllOk c ops n Rel F G st l (i+1)
def AllOk.cons {c:Cf}{ops:Array Oper}{n:Nat}{Rel:Nat->IV->Prop}{F G:Fr->Prop}{st:ISt}{o:Oper}{l:List Oper}{i:Nat}(h:yR c ops n Rel F G st o i)(A:AllOk c ops n Rel F G st l (i+1)):AllOk c ops n Rel F G st (o::l) i:=⟨h,A⟩
def AllOk.get {c:Cf}{ops:Array Oper}{n:Nat}{Rel:Nat->IV->Prop}{F G:Fr->Prop}{st:ISt}:∀ {l:List Oper} {i k:Nat} {o:Oper},AllOk c ops n Rel F G st l i->l[k]?=some o->yR c ops n Rel F G st o (i+k)
 | [],i,k,o,_,A=>by simp at A
 | a::l,i,0,o,h,A=>by simp at A;subst A;exact h.1
 | a::l,i,k+1,o,h,A=>by
  have:=AllOk.get (k:=k) h.2 (by simpa using A);rw[show i+1+k=i+(k+1) by omega] at this;exact this
def anyS {ops:Array Oper}{n:Nat}{Rel:Nat->IV->Prop}{F G:Fr->Prop}(h:AnyS ops n F){c:Cf}{Q:Fr->ISt->List Dfd->Prop}{st:ISt}(hs:AllOk c ops n Rel F G st ops.toList 0)
  (he:∀fr,G fr->(∀i,i<ops.size->∀d,(opAt ops i).dst=some d->∃v,fr d=.iv v/\Rel i v)->Q fr st []) {ad:Ad} {fr:Fr} (ab:∀s,ad s=none) (hF:F fr):anyV c ops Q ops.size (Array.replicate ops.size false) ad fr st []:=by
 have aN:=h.size;have ae:∀i,(Array.replicate ops.size false).getD i false=false:=λi=>by
  rw[gx,Array.getElem?_replicate];split<;>rfl
 have W:∀ {l:Array Bool} {i j:Nat},i<l.size->(l.setIfInBounds i true).getD j false=if i=j then true else l.getD j false:=λ{l i j} hi=>by
  by_cases h:i=j
  ·subst h;rw[b_ rfl];simp[hi]
  ·rw[a_ h,fq false h]
 refine mU (AnyJ ops n Rel F G st) (λA ad fr aC ds hz hJ i hi=>?_) (λA ad fr aC ds hz hr hJ=>?_) _ _ _ _ _ _ (by simp) ⟨ab,rfl,rfl,λD=>?_,λi D=>?_,λ_=>hF,λD=>?_⟩
 ·obtain⟨j0,o,ho,az⟩:=fb.1 hi;have af:i<ops.size:=(gO.1 ho).1;obtain rfl:opAt ops i=o:=by rw[iC af] at ho;exact eK ho
  have ay:A.getD i false=false:=by
   rw[gx,jj (by omega)] at j0 ⊢;exact j0
  obtain⟨ab,rfl,rfl,aj,ac,aw,aA⟩:=hJ;have ai:∀e∈(opAt ops i).after.toList,A.getD e.on false=true:=λe an=>az e (by simpa using an) ((bAt _ _).mp (ed.1 (ed.1 h.bind i (gy.2 af)) e an)).1;have ak:A.getD (n) false=false:=by
   cases D:A.getD (n) false
   ·rfl
   ·rw[aj D i af] at ay;cases ay
  have aq:∀d,(opAt ops i).dst=some d->(ly ops)[i]?=some (some d):=λd hd=>by
   rw[ly,en,pw,iC af];exact et some hd
  have ag:∀j d,(opAt ops j).dst=some d->j<ops.size->(ly ops)[j]?=some (some d):=λj d hd hj=>by
   rw[ly,en,pw,iC hj];exact et some hd
  have ah:∀j d,(opAt ops j).dst=some d->j<ops.size:=λj d hd=>by
   refine Decidable.byContradiction λhc=>?_;unfold opAt at hd;rw[gx,Array.getElem?_eq_none (by omega)] at hd;cases hd
  have U:(A.setIfInBounds i true).getD (n) false=true->∀j,j<ops.size->(A.setIfInBounds i true).getD j false=true:=λD j hj=>by
   rw[W (by omega)] at D ⊢;by_cases aa:i=n
   ·by_cases O:i=j
    ·rw[b_ O]
    ·rw[a_ O];obtain⟨e,ao,av⟩:=jm.1 (ed.1 h.last j (gy.2 (by omega)));rw[<- aa] at ao;have:=ai e ao;rw[show e.on=j by simpa using av] at this;exact this
   ·rw[a_ aa,ak] at D;cases D
  have ax:=hs.get (k:=i) (by rw[pw,iC af]);rw[eQ] at ax;refine ax ad fr _ ab (aw ak) (λk d hk hd=>?_) (λd v hd hg hR=>?_) (λfr' hd aa hg au=>?_)
  ·obtain⟨e,ao,av⟩:=jm.1 hk;rw[<- show e.on=k by simpa using av] at hd ⊢;exact ac e.on (ai e ao) d hd
  ·refine⟨ou ab d,rfl,rfl,U,λj D d' E=>?_,λD=>?_,λD=>?_⟩
   ·rw[W (by omega)] at D;by_cases O:i=j
    ·subst O;rw[hd] at E;cases E;exact⟨v,by rw[Fr.put_apply,b_ rfl],hR⟩
    ·rw[a_ O] at D;obtain⟨v',e',r'⟩:=ac j D d' E;exact⟨v',by rw[Fr.put_apply,a_ (sd h.nd (aq d hd) (ag j d' E (ah j d' E)) O).symm];exact e',r'⟩
   ·exact h.keep _ _ _ (lMg (aq d hd)) (aw ak)
   ·rw[W (by omega)] at D;by_cases aa:i=n
    ·exact hg aa
    ·rw[a_ aa,ak] at D;cases D
  ·refine⟨ab,rfl,rfl,U,λj D d' E=>?_,λD=>?_,λD=>hg⟩
   ·rw[W (by omega)] at D;by_cases O:i=j
    ·subst O;rw[hd] at E;cases E
    ·rw[a_ O] at D;obtain⟨v',e',r'⟩:=ac j D d' E;exact⟨v',by rw[au d' (lMg (ag j d' E (ah j d' E)))];exact e',r'⟩
   ·rw[W (by omega),b_ aa] at D;cases D
 ·obtain⟨ab,rfl,rfl,aj,ac,aw,aA⟩:=hJ;have D:A.getD (n) false=true:=by
   refine fL λhc=>?_;have aE:∀i,i<ops.size->A.getD i false=true:=by
    intro i
    induction i using Nat.strongRecOn with
    | _ i ih =>
     intro hi;refine fL λhc=>?_;have h4:A.getD i true=false:=by
      rw[gx,jj (by omega)] at hc ⊢;simpa using hc
     have:i∈Region.ready .any ops A:=fb.2 ⟨h4,_,iC hi,λe an _=>by
      have h5:=eI ((bAt _ _).mp (ed.1 (ed.1 h.bind i (gy.2 hi)) e (by simpa using an))).2;exact ih e.on h5 (js h5 hi)⟩
     rw[hr] at this;cases this
   exact hc (aE _ (by omega))
  exact he fr (aA D) λi hi d hd=>ac i (aj D i hi) d hd
 ·rw[ae] at D;cases D
 ·rw[ae] at D;cases D
 ·rw[ae] at D;cases D
def OE (ops:Array Oper)(n:Nat)(Rel:Nat->IV->Prop)(F G:Fr->Prop)(S:Array Bool->ISt)(A:Array Bool):Kt:=λad fr D ds=>(∀s,ad s=none)/\ds=[]/\D=S A /\
 (A.getD n false=true->∀i,i<ops.size->A.getD i false=true) /\
 (∀i,A.getD i false=true->∀d,(opAt ops i).dst=some d->∃v,fr d=.iv v/\Rel i v)/\(A.getD n false=false->F fr)/\(A.getD n false=true->G fr)
def allB (n:Nat):Array Bool:=Array.replicate n true
def yS (c:Cf)(ops:Array Oper)(n:Nat)(Rel:Nat->IV->Prop)(F G:Fr->Prop)(S:Array Bool->ISt)(o:Oper)(i:Nat):Prop:=∀(A:Array Bool) (ad:Ad) (fr:Fr) (K:Kt),A.size=ops.size->A.getD i false=false->(∀s,ad s=none)->F fr →
 (∀k d,(o.after.toList.any λe=>e.on == k)=true->(opAt ops k).dst=some d->∃v,fr d=.iv v/\Rel k v) →
 (∀d v,o.dst=some d->(i=n->G (fr.put d (.iv v)))->Rel i v->K (ad.put d none) (fr.put d (.iv v)) (S (A.setIfInBounds i true)) [])->(∀fr',o.dst=none->i=n->G fr'->(∀d,some d∈ly ops->fr' d=fr d)->K ad fr' (S (A.setIfInBounds i true)) [])->jc c ops.toList o K ad fr (S A) []
def AllOkS (c:Cf)(ops:Array Oper)(n:Nat)(Rel:Nat->IV->Prop)(F G:Fr->Prop)(S:Array Bool->ISt):List Oper->Nat->Prop
 | [],_=>True
 | o::l,i=>yS c ops n Rel F G S o i/\AllOkS c ops n Rel F G S l (i+1)
def AllOkS.cons {c:Cf}{ops:Array Oper}{n:Nat}{Rel:Nat->IV->Prop}{F G:Fr->Prop}{S:Array Bool->ISt}{o:Oper}{l:List Oper}{i:Nat}(h:yS c ops n Rel F G S o i)(A:AllOkS c ops n Rel F G S l (i+1)):AllOkS c ops n Rel F G S (o::l) i:=⟨h,A⟩
def AllOkS.get {c:Cf}{ops:Array Oper}{n:Nat}{Rel:Nat->IV->Prop}{F G:Fr->Prop}{S:Array Bool->ISt}:∀ {l:List Oper} {i k:Nat} {o:Oper},AllOkS c ops n Rel F G S l i->l[k]?=some o->yS c ops n Rel F G S o (i+k)
 | [],i,k,o,_,A=>by simp at A
 | a::l,i,0,o,h,A=>by simp at A;subst A;exact h.1
 | a::l,i,k+1,o,h,A=>by
  have:=AllOkS.get (k:=k) h.2 (by simpa using A);rw[show i+1+k=i+(k+1) by omega] at this;exact this
def anyT {ops:Array Oper}{n:Nat}{Rel:Nat->IV->Prop}{F G:Fr->Prop}(h:AnyS ops n F){c:Cf}{Q:Fr->ISt->List Dfd->Prop}{S:Array Bool->ISt}(hs:AllOkS c ops n Rel F G S ops.toList 0)
  (he:∀fr,G fr->(∀i,i<ops.size->∀d,(opAt ops i).dst=some d->∃v,fr d=.iv v/\Rel i v)->Q fr (S (allB ops.size)) []) {ad:Ad} {fr:Fr} (ac:∀s,ad s=none) (hF:F fr):anyV c ops Q ops.size (Array.replicate ops.size false) ad fr (S (Array.replicate ops.size false)) []:=by
 have aO:=h.size;have af:∀i,(Array.replicate ops.size false).getD i false=false:=λi=>by
  rw[gx,Array.getElem?_replicate];split<;>rfl
 have W:∀ {l:Array Bool} {i j:Nat},i<l.size->(l.setIfInBounds i true).getD j false=if i=j then true else l.getD j false:=λ{l i j} hi=>by
  by_cases h:i=j
  ·subst h;rw[b_ rfl];simp[hi]
  ·rw[a_ h,fq false h]
 refine mU (OE ops n Rel F G S) (λA ad fr aC ds hz hJ i hi=>?_) (λA ad fr aC ds hz hr hJ=>?_) _ _ _ _ _ _ (by simp) ⟨ac,rfl,rfl,λD=>?_,λi D=>?_,λ_=>hF,λD=>?_⟩
 ·obtain⟨j0,o,ho,az⟩:=fb.1 hi;have ag:i<ops.size:=(gO.1 ho).1;obtain rfl:opAt ops i=o:=by rw[iC ag] at ho;exact eK ho
  have av:A.getD i false=false:=by
   rw[gx,jj (by omega)] at j0 ⊢;exact j0
  obtain⟨ac,rfl,rfl,ab,ae,ax,aA⟩:=hJ;have aj:∀e∈(opAt ops i).after.toList,A.getD e.on false=true:=λe an=>az e (by simpa using an) ((bAt _ _).mp (ed.1 (ed.1 h.bind i (gy.2 ag)) e an)).1;have ak:A.getD (n) false=false:=by
   cases D:A.getD (n) false
   ·rfl
   ·rw[ab D i ag] at av;cases av
  have aq:∀d,(opAt ops i).dst=some d->(ly ops)[i]?=some (some d):=λd hd=>by
   rw[ly,en,pw,iC ag];exact et some hd
  have ah:∀j d,(opAt ops j).dst=some d->j<ops.size->(ly ops)[j]?=some (some d):=λj d hd hj=>by
   rw[ly,en,pw,iC hj];exact et some hd
  have ai:∀j d,(opAt ops j).dst=some d->j<ops.size:=λj d hd=>by
   refine Decidable.byContradiction λhc=>?_;unfold opAt at hd;rw[gx,Array.getElem?_eq_none (by omega)] at hd;cases hd
  have U:(A.setIfInBounds i true).getD (n) false=true->∀j,j<ops.size->(A.setIfInBounds i true).getD j false=true:=λD j hj=>by
   rw[W (by omega)] at D ⊢;by_cases aa:i=n
   ·by_cases O:i=j
    ·rw[b_ O]
    ·rw[a_ O];obtain⟨e,ao,aw⟩:=jm.1 (ed.1 h.last j (gy.2 (by omega)));rw[<- aa] at ao;have:=aj e ao;rw[show e.on=j by simpa using aw] at this;exact this
   ·rw[a_ aa,ak] at D;cases D
  have ay:=hs.get (k:=i) (by rw[pw,iC ag]);rw[eQ] at ay;refine ay A ad fr _ hz av ac (ax ak) (λk d hk hd=>?_) (λd v hd hg hR=>?_) (λfr' hd aa hg au=>?_)
  ·obtain⟨e,ao,aw⟩:=jm.1 hk;rw[<- show e.on=k by simpa using aw] at hd ⊢;exact ae e.on (aj e ao) d hd
  ·refine⟨ou ac d,rfl,rfl,U,λj D d' E=>?_,λD=>?_,λD=>?_⟩
   ·rw[W (by omega)] at D;by_cases O:i=j
    ·subst O;rw[hd] at E;cases E;exact⟨v,by rw[Fr.put_apply,b_ rfl],hR⟩
    ·rw[a_ O] at D;obtain⟨v',e',r'⟩:=ae j D d' E;exact⟨v',by rw[Fr.put_apply,a_ (sd h.nd (aq d hd) (ah j d' E (ai j d' E)) O).symm];exact e',r'⟩
   ·exact h.keep _ _ _ (lMg (aq d hd)) (ax ak)
   ·rw[W (by omega)] at D;by_cases aa:i=n
    ·exact hg aa
    ·rw[a_ aa,ak] at D;cases D
  ·refine⟨ac,rfl,rfl,U,λj D d' E=>?_,λD=>?_,λD=>hg⟩
   ·rw[W (by omega)] at D;by_cases O:i=j
    ·subst O;rw[hd] at E;cases E
    ·rw[a_ O] at D;obtain⟨v',e',r'⟩:=ae j D d' E;exact⟨v',by rw[au d' (lMg (ah j d' E (ai j d' E)))];exact e',r'⟩
   ·rw[W (by omega),b_ aa] at D;cases D
 ·obtain⟨ac,rfl,rfl,ab,ae,ax,aA⟩:=hJ;have D:A.getD (n) false=true:=by
   refine fL λhc=>?_;have aF:∀i,i<ops.size->A.getD i false=true:=by
    intro i
    induction i using Nat.strongRecOn with
    | _ i ih =>
     intro hi;refine fL λhc=>?_;have h4:A.getD i true=false:=by
      rw[gx,jj (by omega)] at hc ⊢;simpa using hc
     have:i∈Region.ready .any ops A:=fb.2 ⟨h4,_,iC hi,λe an _=>by
      have h5:=eI ((bAt _ _).mp (ed.1 (ed.1 h.bind i (gy.2 hi)) e (by simpa using an))).2;exact ih e.on h5 (js h5 hi)⟩
     rw[hr] at this;cases this
   exact hc (aF _ (by omega))
  have aG:A=allB ops.size:=by
   refine Array.ext (by rw[hz];simp[allB]) λi h1 h2=>?_;have:=ab D i (by omega);rw[gx,jj h1] at this;simpa[allB] using this
  rw[aG];exact he fr (aA D) λi hi d hd=>ae i (ab D i hi) d hd
 ·rw[af] at D;cases D
 ·rw[af] at D;cases D
 ·rw[af] at D;cases D
end Go.Iv
namespace Go.Proofs.Tryz
open Go Go.Iv
set_option maxRecDepth 4000
variable (gl:Nat->Option IV)
def OF {p:List Nat}{k a:Nat}(h:p[k]?=some a):(plI p)[k]?=some (.raw (.int .i64 (a:Int))):=by simp[plI,en,h]
def OG (p q:List Nat):plI (p++q)=plI p++plI q:=by simp[plI]
def sumN:List Nat->Nat
 | []=>0
 | a::l=>a+sumN l
def yT:∀l m:List Nat,sumN (l++m)=sumN l+sumN m
 | [],m=>by simp[sumN]
 | a::l,m=>by simp only[dX,sumN,yT l m];omega
def OH (l:List Nat)(k:Nat):sumN (l.take k)<=sumN l:=by
 conv=>rhs;rw[<- eF k l]
 rw[yT];omega
def OJ (D:Tag)(l:List Nat)(O:okEs D 1)(hs:sumN l<=4611686018427387904)(st:ISt):ICall prog gl 99 [.sl D (plI l)] st (λr st'=>r=(sumN l:Int)/\st'=st):=by
 refine iI func99 ?_;simp only[go_sem,reduceCtorEq,pg];intro _;refine cV l.length (λk fr st' ds=>fr 3=(sumN (l.take k):Int)/\fr 6=.iv (.sl D (plI l))/\fr 7=l.length/\fr 8=.iv (.raw (.int .i64 k))/\st'=st/\ds=[]) ?_ ?_ ?_
 ·simp only[go_sem,zE];simp[sumN]
 ·rintro k fr E _ A ⟨f3,f6,f7,f8,rfl,rfl⟩;obtain⟨a,U⟩:=dd A;have h1:=OH l (k+1);have h2:sumN (l.take (k+1))=sumN (l.take k)+a:=by rw[dK U,yT];rfl
  have W:IntKind.i64.wrap (((sumN (l.take k):Nat):Int)+(a:Int))=((sumN (l.take (k+1)):Nat):Int):=by rw[w64]<;>omega
  simp only[go_sem,zE,f3,f6,f7,f8,lt_i A,dc O,iNn,OF U,fits,W,df A (by omega)]
 ·rintro fr E _ ⟨f3,f6,f7,f8,rfl,rfl⟩;rw[lTl] at f3;simp only[go_sem,zE,f3,f7,f8,dD (nLi _)];exact cO ⟨rfl,rfl⟩
def se:Tr->List Tr
 | .mk _ _ _ _ _ sub=>sub
def ug (g:Nat)(v:Tr->Nat):Prop:=∀(t:Tr) (l:List Nat) (x:IV) (D:Tag) (A st:ISt),IsTr t x->t.steps<=1099511627776->l=(se t).map v->own st D l.length 1 A->subSt A st →
 ICall prog gl g [x,.sl D (plI l)] st (λr st'=>r=(v t:Int)/\subSt A st')
def uh:∀ {l:List Tr}{t:Tr},t∈l->t.steps<=jf l
 | a::l,t,h=>by
  simp only[jf];rcases dC.1 h with rfl|h
  ·omega
  ·have:=uh h;omega
def ow:∀l:List Tr,l.length<=jf l
 | []=>dz _
 | .mk _ _ _ _ _ s::l=>by
  have:=ow l;simp only[eG,jf,Tr.steps];omega
def ui (v:Tr->Nat)(g:Nat)(t:Tr):Prop:=∀(x:IV) (_:IsTr t x) (_:t.steps<=1099511627776) (st:ISt),ICall prog gl 97 [x,.fn (.func g) [] []] st (λr st'=>r=(v t:Int)/\st'=st)
def OL (v:Tr->Nat)(g:Nat)(ae:entI prog g=true)(hg:ug gl g v)(rule:Nat)(sq:Sq)(f:Fm)(u:Tm)(n:ByteArray)(sub:List Tr)(IH:∀a∈sub,ui gl v g a):ui gl v g (.mk rule sq f u n sub):=by
 intro x hx hs st;have ai:=hx;obtain⟨tl,xl,tr,xr,op,fn,ta,xa,tb,xb,vb,un,tu,xu,ts,xs,rfl,aV,_,_,_,_,_,_,e3,i3⟩:=hx.mk;have aj:=hs;simp only[Tr.steps] at hs;have hll:=ow sub;refine iI func97 ?_;simp only[go_sem,zE,i3.len];intro _;refine cV sub.length (λk fr st' ds=>(∃D,fr 5=.iv (.sl D (plI ((sub.take k).map v)))/\own st' D k 1 st/\subSt st st')/\fr 1=.iv (.fn (.func g) [] [])/\fr 2=.box [.raw (.int .u8 rule),.sl tl xl,.sl tr xr,.raw (.int .u8 op),fn,.sl ta xa,.sl tb xb,vb,un,.sl tu xu,n,.sl ts xs] /\
  fr 9=.iv (.sl ts xs)/\fr 10=sub.length/\fr 11=.iv (.raw (.int .i64 k))/\ds=[]) ?_ ?_ ?_
 ·simp only[go_sem,zE];exact⟨⟨_,rfl,.inl ⟨rfl,rfl⟩,subSt.refl _⟩,rfl⟩
 ·rintro k fr U _ ac ⟨⟨D,f5,O,E⟩,f1,f2,f9,f10,f11,rfl⟩;obtain⟨a,ha⟩:=dd ac;obtain⟨z,ak,hz⟩:=i3.get ha;have aU:=uh (lMg ha);have A:=IH a (lMg ha) z hz (by omega) U;obtain⟨ah,aL,ay,aK,aw,aT,aX,aO,aC,aM,aA,v',aF,aH,ar,n',aJ,av,rfl⟩:=gg hz;simp only[go_sem,zE,zB,zA,zL,f1,f5,f9,f10,f11,lt_i ac,dc e3,iNn,ak,fits];refine A.mono ?_;rintro _ _ ⟨rfl,rfl⟩;simp only[go_sem,zE,zA,zM,zL,fits,yF];refine iG O (by rw[pg,gj,dO];omega) E rfl (by simp[fits,IV.one]) (by simp only;omega) (by omega) λag st4 ab W _ _=>?_;simp only[go_sem,zE,f1,f2,f9,f10,f11,df ac (by omega)];exact⟨ag,by rw[dK ha,jn,OG];rfl,ab,W⟩
 ·rintro fr U _ ⟨⟨D,f5,O,E⟩,f1,f2,f9,f10,f11,rfl⟩;rw[lTl] at f5;have A:=hg _ (sub.map v) _ D st U ai aj rfl (by rw[gj];exact O) E;simp only[go_sem,zE,zA,zL,f1,f2,f5,f10,f11,dD (nLi _),ae];refine A.mono ?_;rintro _ aS ⟨rfl,aa⟩;simp only[go_sem];exact dZ aa ⟨rfl,rfl⟩
def Fp (v:Tr->Nat)(g:Nat)(A:entI prog g=true)(D:ug gl g v):∀(k:Nat) (t:Tr),SizeOf.sizeOf t<k->ui gl v g t
 | 0,t,h=>by omega
 | k+1,.mk r sq f u n sub,h=>OL gl v g A D r sq f u n sub (λa E=>Fp v g A D k a (by
   have:=lSm E;simp at h;omega))
def OM (v:Tr->Nat)(g:Nat)(A:entI prog g=true)(D:ug gl g v)(t:Tr):ui gl v g t:=Fp gl v g A D _ t (dM _)
def yU:∀l:List Tr,sumN (l.map Tr.cuts)=l3 l
 | []=>rfl
 | a::l=>by simp only[eo,sumN,l3,yU l]
mutual
def ON:∀t:Tr,t.cuts<=t.steps
 | .mk _ _ _ _ _ sub=>by
  have:=yV sub;simp only[Tr.cuts,Tr.steps];split<;>omega
def yV:∀l:List Tr,l3 l<=jf l
 | []=>dz _
 | a::l=>by
  have:=ON a;have:=yV l;simp only[l3,jf];omega
end
def OO:ug gl 98 Tr.cuts:=by
 rintro⟨rule,s,m,u,n,sub⟩ l x tg an st hx hs rfl E D;simp only[se] at E ⊢;simp only[Tr.steps] at hs;have au:=yV sub;have A:=λst=>OJ gl tg (sub.map Tr.cuts) E.es (by rw[yU];omega) st;have hw:IntKind.i64.wrap (1+((l3 sub:Nat):Int))=((1+l3 sub:Nat):Int):=by rw[w64]<;>omega
 rw[yU] at A;obtain⟨ai,aa,ah,W,ao,av,am,ac,ak,ab,v',ae,af,O,ag,U,rfl,_⟩:=hx.mk;refine iI func98 ?_;by_cases h:rule=17
 ·have d:decide ((rule:Int)=17)=true:=dEt (by omega);simp only[go_sem,zE,zA,d];refine (A _).q ?_;simp only[go_sem,hw];exact cO ⟨by simp only[Tr.cuts,b_ h],D⟩
 ·have d:decide ((rule:Int)=17)=false:=dEf (by omega);simp only[go_sem,zE,zA,d];refine (A _).q ?_;simp only[go_sem];exact cO ⟨by simp only[Tr.cuts,a_ h,eQ],D⟩
def OP (t:Tr)(x:IV)(hx:IsTr t x)(hs:t.steps<=1099511627776)(st:ISt):ICall prog gl 59 [x] st (λr st'=>r=(t.cuts:Int)/\st'=st):=by
 have hf:=λst=>OM gl Tr.cuts 98 (by simp only[go_sem]) (OO gl) t x hx hs st;obtain⟨A,ag,U,af,O,aj,an,ai,aa,ah,W,v',ab,ac,D,n',ae,E,rfl⟩:=gg hx;refine iI func59 ?_;simp only[go_sem,zE,zA,zL];refine (hf _).q ?_;simp only[go_sem];exact cO ⟨rfl,rfl⟩
def Fq (rd:IV)(m:Nat)(E:rd=.agg [.raw (.map (some m))])(t:Tr)(x:IV)(hx:IsTr t x)(W:(se t).length<=1000000)(st:ISt) :
  ICall prog gl 63 [rd,x,.agg []] st (λr st'=>∃D A,r=.tup [.sl D A,.sl ⟨false,.none,0⟩ (List.replicate (se t).length (.agg []))]/\okEs D 12/\IsTrs (se t) A/\st'=st):=by
 subst E;obtain⟨rule,s,mn,u,nm,sub⟩:=t;obtain⟨tl,xl,tr,xr,op,fn,ta,xa,tb,xb,v,un,tu,xu,D,A,rfl,O,e1,i1,e2,i2,hy,hz,e3,i3⟩:=hx.mk;have hc:((sub.length:Int)*0<=140737488355328)=True:=eq_true (by omega);refine ICall.intro (c:=cf prog gl [] [(1,[0,1,2,3,4,6,5,7])]) func63 rfl (by show _<=14;simp) (by kernel_rfl) ?_;simp only[go_sem,zE,zA,i3.len];have U:sub.length<=1000000:=W;refine gv ⟨by omega,by simp,by omega⟩ (cO ⟨D,A,rfl,e3,i3,rfl⟩)
def OQ (rd:IV)(m:Nat)(aD:rd=.agg [.raw (.map (some m))])(rule:Nat)(s:Sq)(mn:Fm)(u:Tm)(nm:ByteArray)(sb:List Tr)(x:IV)(hx:IsTr (.mk rule s mn u nm sb) x)(sub:List Nd)(tg:Tag)(zs:List IV)(aB:okEs tg 9)(hzs:IsNds sub zs)(aC:mn.size<=1099511627776)(st:ISt)(es:List (Value×IV))(hm:st m=some (.map (.int .u8) es))(hl:qy es) :
  ICall prog gl 64 [rd,x,.agg [],.sl tg zs] st (λr st'=>IsNd (.mk ⟨iN rule,0,mn⟩ (decide (rule=1) || decide (rule=2)) 0 sub) r/\st'=st):=by
 subst aD;obtain⟨tl,xl,tr,xr,op,fn,ta,xa,tb,xb,v,un,tu,xu,ts,xs,rfl,a7,e1,i1,e2,i2,hy,hz,e3,i3⟩:=hx.mk;have ah:=qk gl mn _ hy aC st;have aE:=hl rule;have aH:((rule:Int)=1)=(rule=1):=by simp;omega
 have aG:((rule:Int)=2)=(rule=2):=by simp;omega
 refine ICall.intro (c:=cf prog gl [] [(1,[])] [4,5]) func64 rfl (by show _<=28;simp) (by kernel_rfl) ?_;simp only[go_sem,zE];rw[nL];refine anyS (n:=19) (Rel:=λi z=>match i with
  | 0=>z=.cptr (.raw (.map (some m)))
  | 1=>z=.raw (.map (some m))
  | 2=>z=.cptr (.raw (.int .u8 rule))
  | 3=>z=.raw (.int .u8 rule)
  | 4=>z=.raw (.bool (iN rule))
  | 5=>z=.cptr (.agg [.raw (.int .u8 op),.raw (.string fn),.sl ta xa,.sl tb xb])
  | 6=>z=.agg [.raw (.int .u8 op),.raw (.string fn),.sl ta xa,.sl tb xb]
  | 7=>IsFm mn z
  | 8=>IsMk ⟨iN rule,0,mn⟩ z
  | 9=>z=.cptr (.raw (.int .u8 rule))
  | 10=>z=.raw (.int .u8 rule)
  | 11=>z=.raw (.bool (decide (rule=1)))
  | 12=>z=.raw (.bool (decide (rule=1)))
  | 13=>z=if rule=1 then .raw undef else .cptr (.raw (.int .u8 rule))
  | 14=>z=if rule=1 then .raw undef else .raw (.int .u8 rule)
  | 15=>z=if rule=1 then .raw undef else .raw (.bool (decide (rule=2)))
  | 16=>z=.raw (.bool (decide (rule=1) || decide (rule=2)))
  | 17=>z=.sl tg zs
  | 18=>IsNd (.mk ⟨iN rule,0,mn⟩ (decide (rule=1) || decide (rule=2)) 0 sub) z
  | _=>True)
  (F:=λfr=>fr 3=.iv (.sl tg zs)/\fr 4=.iv (.cptr (.agg [.raw (.map (some m))]))/\fr 5=.iv (.cptr (.agg [.raw (.int .u8 rule),.sl tl xl,.sl tr xr,.raw (.int .u8 op),.raw (.string fn),.sl ta xa,.sl tb xb,.raw (.bool v),.raw (.string un),.sl tu xu,.raw (.string nm),.sl ts xs]))/\fr 8=.box [.raw (.bool false),.raw (.int .i64 0),.raw (.int .u8 0),.raw (.string ⟨#[]⟩),.sl ⟨true,.nil,0⟩ [],.sl ⟨true,.nil,0⟩ [],.raw (.bool false),.raw (.int .i64 0),.sl ⟨true,.nil,0⟩ []]) (G:=λfr=>∃l,IsNd (.mk ⟨iN rule,0,mn⟩ (decide (rule=1) || decide (rule=2)) 0 sub) (.agg l)/\fr 8=.box l)
  ⟨rfl,by decide,by decide,by decide,λfr d z hd ⟨h3,h4,h5,h8⟩=>⟨(ov hd rfl).trans h3,(ov hd rfl).trans h4,(ov hd rfl).trans h5,(ov hd rfl).trans h8⟩⟩ ?_ ?_ (λ_=>rfl) ⟨rfl,rfl,rfl,rfl⟩
 ·repeat' apply AllOk.cons
  ·intro ad fr K A E hd D O;obtain⟨f3,f4,f5,f8⟩:=E;simp only[go_sem,dT,A,f4];exact D _ _ rfl (λh=>absurd h (by decide)) rfl
  ·intro ad fr K A E hd D O;obtain⟨f3,f4,f5,f8⟩:=E;obtain⟨_,g0,rfl⟩:=hd 0 _ rfl rfl;simp only[go_sem,dT,A,g0];exact D _ _ rfl (λh=>absurd h (by decide)) rfl
  ·intro ad fr K A E hd D O;obtain⟨f3,f4,f5,f8⟩:=E;simp only[go_sem,dT,A,f5];exact D _ _ rfl (λh=>absurd h (by decide)) rfl
  ·intro ad fr K A E hd D O;obtain⟨f3,f4,f5,f8⟩:=E;obtain⟨_,g2,rfl⟩:=hd 2 _ rfl rfl;simp only[go_sem,dT,A,g2];exact D _ _ rfl (λh=>absurd h (by decide)) rfl
  ·intro ad fr K A E hd D O;obtain⟨f3,f4,f5,f8⟩:=E;obtain⟨_,g1,rfl⟩:=hd 1 _ rfl rfl;obtain⟨_,g3,rfl⟩:=hd 3 _ rfl rfl;simp only[go_sem,dT,g1,g3,hm,aE];cases ak:iN rule
   ·simp only[go_sem,reduceCtorEq];exact D _ _ rfl (λh=>absurd h (by decide)) (by show _=IV.raw (.bool (iN rule));rw[ak];rfl)
   ·simp only[go_sem];exact D _ _ rfl (λh=>absurd h (by decide)) (by show _=IV.raw (.bool (iN rule));rw[ak];rfl)
  ·intro ad fr K A E hd D O;obtain⟨f3,f4,f5,f8⟩:=E;simp only[go_sem,zA,zL,dT,A,f5];exact D _ _ rfl (λh=>absurd h (by decide)) rfl
  ·intro ad fr K A E hd D O;obtain⟨f3,f4,f5,f8⟩:=E;obtain⟨_,g5,rfl⟩:=hd 5 _ rfl rfl;simp only[go_sem,zA,dT,A,g5];exact D _ _ rfl (λh=>absurd h (by decide)) rfl
  ·intro ad fr K A E hd D O;obtain⟨f3,f4,f5,f8⟩:=E;obtain⟨_,g6,rfl⟩:=hd 6 _ rfl rfl;simp only[go_sem,zA,dT,g6];refine ah.mono ?_;rintro r _ ⟨hr,rfl⟩;exact D _ _ rfl (λh=>absurd h (by decide)) hr.1
  ·intro ad fr K A E hd D O;obtain⟨f3,f4,f5,f8⟩:=E;obtain⟨_,g4,rfl⟩:=hd 4 _ rfl rfl;obtain⟨z7,g7,k7⟩:=hd 7 _ rfl rfl;obtain k7:=k7;replace k7:IsFm mn z7:=k7;obtain⟨o2,n2,t2,x2,t3,x3,rfl⟩:=k7.agg;simp only[go_sem,zA,zL,dT,g4,g7,fits];exact D _ _ rfl (λh=>absurd h (by decide)) ⟨_,_,_,_,_,_,rfl,k7⟩
  ·intro ad fr K A E hd D O;obtain⟨f3,f4,f5,f8⟩:=E;simp only[go_sem,dT,A,f5];exact D _ _ rfl (λh=>absurd h (by decide)) rfl
  ·intro ad fr K A E hd D O;obtain⟨f3,f4,f5,f8⟩:=E;obtain⟨_,g9,rfl⟩:=hd 9 _ rfl rfl;simp only[go_sem,dT,A,g9];exact D _ _ rfl (λh=>absurd h (by decide)) rfl
  ·intro ad fr K A E hd D O;obtain⟨f3,f4,f5,f8⟩:=E;obtain⟨_,aL,rfl⟩:=hd 10 _ rfl rfl;simp only[go_sem,dT,aL,aH];exact D _ _ rfl (λh=>absurd h (by decide)) (by simp[])
  ·intro ad fr K A E hd D O;obtain⟨f3,f4,f5,f8⟩:=E;obtain⟨_,aK,rfl⟩:=hd 11 _ rfl rfl;simp only[go_sem,dT,aK];exact D _ _ rfl (λh=>absurd h (by decide)) rfl
  ·intro ad fr K A E hd D O;obtain⟨f3,f4,f5,f8⟩:=E;obtain⟨_,W,rfl⟩:=hd 12 _ rfl rfl;refine yQ rfl rfl W A (λU=>?_) (λU=>D _ _ rfl (λh=>absurd h (by decide)) (b_ (by simpa using U)).symm);have aa:¬ rule=1:=by simpa using U
   simp only[go_sem,A,f5];exact D _ _ rfl (λh=>absurd h (by decide)) (a_ aa).symm
  ·intro ad fr K A E hd D O;obtain⟨f3,f4,f5,f8⟩:=E;obtain⟨_,W,rfl⟩:=hd 12 _ rfl rfl;obtain⟨_,an,rfl⟩:=hd 13 _ rfl rfl;refine yQ rfl rfl W A (λU=>?_) (λU=>D _ _ rfl (λh=>absurd h (by decide)) (b_ (by simpa using U)).symm);have aa:¬ rule=1:=by simpa using U
   rw[a_ aa] at an;simp only[go_sem,A,an];exact D _ _ rfl (λh=>absurd h (by decide)) (a_ aa).symm
  ·intro ad fr K A E hd D O;obtain⟨f3,f4,f5,f8⟩:=E;obtain⟨_,W,rfl⟩:=hd 12 _ rfl rfl;obtain⟨_,am,rfl⟩:=hd 14 _ rfl rfl;refine yQ rfl rfl W A (λU=>?_) (λU=>D _ _ rfl (λh=>absurd h (by decide)) (b_ (by simpa using U)).symm);have aa:¬ rule=1:=by simpa using U
   rw[a_ aa] at am;simp only[go_sem,am,aG];exact D _ _ rfl (λh=>absurd h (by decide)) (by show _=(if rule=1 then IV.raw undef else _);rw[a_ aa])
  ·intro ad fr K A E hd D O;obtain⟨f3,f4,f5,f8⟩:=E;obtain⟨_,W,rfl⟩:=hd 12 _ rfl rfl;obtain⟨_,ai,rfl⟩:=hd 15 _ rfl rfl;by_cases U:rule=1
   ·rw[b_ U] at ai;simp only[go_sem,dT,W,U,dR];exact D _ _ rfl (λh=>absurd h (by decide)) (by simp[U])
   ·rw[a_ U] at ai;simp only[go_sem,dT,W,ai,U,decide_false];exact D _ _ rfl (λh=>absurd h (by decide)) (by simp[U])
  ·intro ad fr K A E hd D O;obtain⟨f3,f4,f5,f8⟩:=E;simp only[go_sem,dT,f3];exact D _ _ rfl (λh=>absurd h (by decide)) rfl
  ·intro ad fr K A E hd D O;obtain⟨f3,f4,f5,f8⟩:=E;obtain⟨z8,g8,k8⟩:=hd 8 _ rfl rfl;obtain⟨o2,n2,t2,x2,t3,x3,rfl,aA⟩:=k8;obtain⟨_,aJ,rfl⟩:=hd 16 _ rfl rfl;obtain⟨_,g17,rfl⟩:=hd 17 _ rfl rfl;simp only[go_sem,zA,zL,dT,g8,aJ,g17,fits];exact D _ _ rfl (λh=>absurd h (by decide)) (by simp only[IsNd];exact⟨_,_,_,_,_,_,_,_,rfl,aA,aB,hzs⟩)
  ·intro ad fr K A E hd D O;obtain⟨f3,f4,f5,f8⟩:=E;obtain⟨aO,g18,ag⟩:=hd 18 _ rfl rfl;obtain ag:=ag;obtain⟨o2,n2,t2,x2,t3,x3,t4,x4,rfl,af,ae,ac⟩:=IsNd.mk ag;simp only[go_sem,zA,zL,dT,A,f8,g18];exact O _ rfl rfl ⟨_,by simp only[IsNd];exact⟨_,_,_,_,_,_,_,_,rfl,af,ae,ac⟩,rfl⟩ (λ_=>Fo rfl)
  ·exact trivial
 ·rintro fr ⟨l,hl,h8⟩ aM;obtain⟨o2,n2,t2,x2,t3,x3,t4,x4,aF,af,ae,ac⟩:=IsNd.mk hl;obtain rfl:=IV.agg.inj aF;simp only[go_sem,zA,zL,h8];exact cO ⟨hl,rfl⟩
mutual
def wTm:Tm->Nat
 | .mk _ n us=>1+n.size / 20+wTms us
def wTms:List Tm->Nat
 | []=>0
 | a::l=>wTm a+wTms l
end
mutual
def wFm:Fm->Nat
 | .mk _ n us sub=>1+n.size / 20+wTms us+wFms sub
def wFms:List Fm->Nat
 | []=>0
 | a::l=>wFm a+wFms l
end
def yW:∀l m:List Tm,wTms (l++m)=wTms l+wTms m
 | [],m=>by simp[wTms]
 | a::l,m=>by simp only[dX,wTms,yW l m];omega
def OR {l:List Tm}{k:Nat}{a:Tm}(h:l[k]?=some a):wTms (l.take (k+1))=wTms (l.take k)+wTm a:=by
 rw[dK h,yW];simp[wTms]
def Fs (l:List Tm)(k:Nat):wTms (l.take k)<=wTms l:=by
 conv=>rhs;rw[<- eF k l]
 rw[yW];omega
def yX:∀l m:List Fm,wFms (l++m)=wFms l+wFms m
 | [],m=>by simp[wFms]
 | a::l,m=>by simp only[dX,wFms,yX l m];omega
def OS {l:List Fm}{k:Nat}{a:Fm}(h:l[k]?=some a):wFms (l.take (k+1))=wFms (l.take k)+wFm a:=by
 rw[dK h,yX];simp[wFms]
def Fu (l:List Fm)(k:Nat):wFms (l.take k)<=wFms l:=by
 conv=>rhs;rw[<- eF k l]
 rw[yX];omega
def Sum (w:Nat)(A:Int)(r:IV):Prop:=∃n:Nat,r=n/\n<=w/\((n:Int)<=A->n=w)
def tC (us:List Tm):Prop:=∀(t:Tag) (D:List IV) (_:okEs t 3) (_:IsTms us D) (A:Int) (_:-1<=A/\A<=1000) (_:wTms us<=1099511627776) (st:ISt),
 ICall prog gl 30 [.sl t D,A] st (λr st'=>Sum (wTms us) A r/\st'=st)
def OU (us:List Tm)(IH:∀v n l,Tm.mk v n l∈us->tC gl l):tC gl us:=by
 intro t xs ht hx A ak hw st;refine iI func30 ?_;simp only[go_sem];refine cV us.length (λk fr st' ds=>(∃n:Nat,fr 5=.iv (.raw (.int .i64 n))/\n<=wTms (us.take k)/\((n:Int)<=A->n=wTms (us.take k)))/\fr 0=.iv (.sl t xs)/\fr 1=A/\fr 6=.iv (.raw (.int .i64 k))/\st'=st/\ds=[]) ?_ ?_ ?_
 ·simp only[go_sem,zE,reduceCtorEq];exact⟨⟨0,rfl,dz _,λ_=>rfl⟩,rfl⟩
 ·rintro k fr ab _ E ⟨⟨n,f5,U,D⟩,f0,f1,f6,rfl,rfl⟩;obtain⟨a,ha⟩:=dd E;obtain⟨x,ag,ac⟩:=hx.get ha;obtain⟨v2,n2,l2⟩:=a;obtain⟨tx,cx,rfl,ae,ah⟩:=ac.mk;have aa:=OR ha;have ax:=Fs us (k+1);have ay:=Fs us k;simp only[wTm] at aa;by_cases O:(n:Int)<=A
  ·have aA:=D O;have W:=λst=>IH _ _ _ (lMg ha) tx cx ae ah (A-n-1) ⟨by omega,by omega⟩ (by omega) st;have hq:IntKind.i64.wrap (((n2.size:Nat):Int).tdiv 20)=((n2.size / 20:Nat):Int):=by
    have:((n2.size:Nat):Int).tdiv 20=((n2.size / 20:Nat):Int):=rfl;rw[this,w64 (by omega) (by omega)]
   have hz:¬ ((20:Int)=0):=by decide
   generalize n2.size / 20=q at hq aa;have w1:IntKind.i64.wrap (1+((q:Nat):Int))=((1+q:Nat):Int):=by rw[w64]<;>omega
   have w2:IntKind.i64.wrap (IntKind.i64.wrap (A-(n:Int))-1)=A-n-1:=by rw[w64 (n:=A-n) (by omega) (by omega),w64 (by omega) (by omega)]
   simp only[go_sem,zE,zA,reduceCtorEq,f0,f1,f5,f6,hx.len,lt_i E,dEt O,dc ht,iNn,ag,fits,hq,hz,w1,w2];intro _;refine (W _).mono ?_;rintro _ av ⟨⟨m,rfl,aB,af⟩,rfl⟩;have w3:IntKind.i64.wrap (((1+q:Nat):Int)+(m:Int))=((1+q+m:Nat):Int):=by rw[w64]<;>omega
   have w4:IntKind.i64.wrap ((n:Int)+((1+q+m:Nat):Int))=((n+(1+q+m):Nat):Int):=by rw[w64]<;>omega
   simp only[go_sem,zE,reduceCtorEq,f0,f1,f6,w3,w4,df E (by omega)];exact⟨n+(1+q+m),rfl,by omega,λh=>by have:=af (by omega);omega⟩
  ·simp only[go_sem,zE,reduceCtorEq,f0,f1,f5,f6,hx.len,lt_i E,dEf O];intro _;exact cO ⟨⟨n,rfl,by omega,λh=>absurd h O⟩,rfl⟩
 ·rintro fr ab _ ⟨⟨n,f5,U,D⟩,f0,f1,f6,rfl,rfl⟩;rw[lTl] at U D;simp only[go_sem,zE,reduceCtorEq,f0,f5,f6,hx.len,dD (nLi _)];intro _;exact cO ⟨⟨n,rfl,U,D⟩,rfl⟩
def Fv:∀(k:Nat)(us:List Tm),SizeOf.sizeOf us<k->tC gl us
 | 0,f,h=>by omega
 | k+1,us,h=>OU gl us (λv n l A=>Fv k l (by
   have:=lSm A;simp at this;omega))
def OV (us:List Tm):tC gl us:=Fv gl _ us (dM _)
def zC (us:List Fm):Prop:=∀(t:Tag) (D:List IV) (_:okEs t 4) (_:IsFms us D) (A:Int) (_:-1<=A/\A<=1000) (_:wFms us<=1099511627776) (st:ISt),
 ICall prog gl 8 [.sl t D,A] st (λr st'=>Sum (wFms us) A r/\st'=st)
def OW (us:List Fm)(IH:∀o n l m,Fm.mk o n l m∈us->zC gl m):zC gl us:=by
 intro t xs ht hx A au hw st;refine ICall.intro (c:=cf prog gl [] [(5,[0,1,2,3,4,5,6,7,8,9,10,11,12,13,14,15,16,19,20,21,22,23,24,25,26,27,17,18,28,29,30,31])]) func8 rfl (by show _<=50;simp) (by kernel_rfl) ?_;simp only[go_sem];refine cV us.length (λk fr st' ds=>(∃n:Nat,fr 5=.iv (.raw (.int .i64 n))/\n<=wFms (us.take k)/\((n:Int)<=A->n=wFms (us.take k)))/\fr 0=.iv (.sl t xs)/\fr 1=A/\fr 6=.iv (.raw (.int .i64 k))/\st'=st/\ds=[]) ?_ ?_ ?_
 ·simp only[go_sem,zE,reduceCtorEq];exact⟨⟨0,rfl,dz _,λ_=>rfl⟩,rfl⟩
 ·rintro k fr ag _ E ⟨⟨n,f5,aa,D⟩,f0,f1,f6,rfl,rfl⟩;obtain⟨a,ha⟩:=dd E;obtain⟨x,am,ah⟩:=hx.get ha;obtain⟨o2,n2,l2,m2⟩:=a;obtain⟨tx,cx,ty,cy,rfl,_,aj,ao,ai,an⟩:=ah.mk;have ac:=OS ha;have aG:=Fu us (k+1);have aH:=Fu us k;simp only[wFm] at ac;by_cases O:(n:Int)<=A
  ·have aJ:=D O;have ab:=λst=>IH _ _ _ _ (lMg ha) ty cy ai an (A-n-1) ⟨by omega,by omega⟩ (by omega) st;have W:=λst=>OV gl l2 tx cx aj ao (A-n) ⟨by omega,by omega⟩ (by omega) st;have hq:IntKind.i64.wrap (((n2.size:Nat):Int).tdiv 20)=((n2.size / 20:Nat):Int):=by
    have:((n2.size:Nat):Int).tdiv 20=((n2.size / 20:Nat):Int):=rfl;rw[this,w64 (by omega) (by omega)]
   have hz:¬ ((20:Int)=0):=by decide
   generalize n2.size / 20=q at hq ac;have w1:IntKind.i64.wrap (1+((q:Nat):Int))=((1+q:Nat):Int):=by rw[w64]<;>omega
   have w0:IntKind.i64.wrap (A-(n:Int))=A-n:=w64 (by omega) (by omega);have w2:IntKind.i64.wrap (A-(n:Int)-1)=A-n-1:=w64 (by omega) (by omega);simp only[go_sem,zE,zA,reduceCtorEq,f0,f1,f5,f6,hx.len,lt_i E,dEt O,dc ht,iNn,am,fits,hq,hz,w1,w0,w2];intro _;refine (W _).mono ?_;rintro _ af ⟨⟨U,rfl,aK,ae⟩,rfl⟩;have w3:IntKind.i64.wrap (((1+q:Nat):Int)+(U:Int))=((1+q+U:Nat):Int):=by rw[w64]<;>omega
   simp only[go_sem,zE,zA,w3];refine (ab _).mono ?_;rintro _ af ⟨⟨m,rfl,hm,ak⟩,rfl⟩;have w4:IntKind.i64.wrap (((1+q+U:Nat):Int)+(m:Int))=((1+q+U+m:Nat):Int):=by rw[w64]<;>omega
   have w5:IntKind.i64.wrap ((n:Int)+((1+q+U+m:Nat):Int))=((n+(1+q+U+m):Nat):Int):=by rw[w64]<;>omega
   simp only[go_sem,zE,reduceCtorEq,f0,f1,f6,w4,w5,df E (by omega)];exact⟨n+(1+q+U+m),rfl,by omega,λh=>by have:=ae (by omega);have:=ak (by omega);omega⟩
  ·simp only[go_sem,zE,reduceCtorEq,f0,f1,f5,f6,hx.len,lt_i E,dEf O];intro _;exact cO ⟨⟨n,rfl,by omega,λh=>absurd h O⟩,rfl⟩
 ·rintro fr ag _ ⟨⟨n,f5,aa,D⟩,f0,f1,f6,rfl,rfl⟩;rw[lTl] at aa D;simp only[go_sem,zE,reduceCtorEq,f0,f5,f6,hx.len,dD (nLi _)];intro _;exact cO ⟨⟨n,rfl,aa,D⟩,rfl⟩
def Fw:∀(k:Nat)(us:List Fm),SizeOf.sizeOf us<k->zC gl us
 | 0,f,h=>by omega
 | k+1,us,h=>OW gl us (λo n l m A=>Fw k m (by
   have:=lSm A;simp at this;omega))
def Fx (us:List Fm):zC gl us:=Fw gl _ us (dM _)
def Fy (s:Sq)(x:IV)(hx:IsSq s x)(O:wFms s.l<=1099511627776/\wFms s.r<=1099511627776)(st:ISt):ICall prog gl 4 [x] st (λr st'=>(r=(decide (wFms s.l+wFms s.r<=300):Bool))/\st'=st):=by
 obtain⟨t1,W,t2,U,rfl,e1,i1,e2,i2⟩:=hx;have h1:=λst=>Fx gl s.l t1 W e1 i1 300 ⟨by omega,by omega⟩ O.1 st;have h2:=λst=>Fx gl s.r t2 U e2 i2 300 ⟨by omega,by omega⟩ O.2 st;refine ICall.intro (c:=cf prog gl [] [(1,[0,1,3,4,2,5,6,7,8])]) func4 rfl (by show _<=11;simp) (by kernel_rfl) ?_;simp only[go_sem,zE,zA];refine (h1 _).mono ?_;rintro _ A ⟨⟨n,rfl,aa,D⟩,rfl⟩;simp only[go_sem,zE,zA];refine (h2 _).mono ?_;rintro _ A ⟨⟨m,rfl,ab,E⟩,rfl⟩;have w:IntKind.i64.wrap ((n:Int)+(m:Int))=((n+m:Nat):Int):=by rw[w64]<;>omega
 have hd:decide (((n+m:Nat):Int)<=300)=decide (wFms s.l+wFms s.r<=300):=by
  rw[decide_eq_decide];constructor
  ·intro h;have:=D (by omega);have:=E (by omega);omega
  ·intro h;omega
 simp only[go_sem,zE,w,hd];exact cO ⟨rfl,rfl⟩
def yY (s:Sq)(f:Fm)(u:Tm)(n:ByteArray):Bool:=decide (wFms s.l+wFms s.r<=300)&&!decide (300<wFm f)&&!decide (300<wTm u)&&!decide (100<n.size)
mutual
def okT:Tr->Bool
 | .mk _ s f u n sub=>yY s f u n&&okTs sub
def okTs:List Tr->Bool
 | []=>true
 | a::l=>okT a&&okTs l
end
end Go.Proofs.Tryz
namespace Go.Proofs.Tryz
open Go Go.Iv
mutual
def Fz:∀t:Tm,t.size<=wTm t
 | .mk _ n us=>by have:=yZ us;simp only[wTm,Tm.size];omega
def yZ:∀l:List Tm,dN l<=wTms l
 | []=>dz _
 | a::l=>by have:=Fz a;have:=yZ l;simp only[wTms,dN];omega
end
mutual
def uj:∀f:Fm,f.size<=wFm f
 | .mk _ n us sub=>by have:=yZ us;have:=iT sub;simp only[wFm,Fm.size];omega
def iT:∀l:List Fm,dt l<=wFms l
 | []=>dz _
 | a::l=>by have:=uj a;have:=iT l;simp only[wFms,dt];omega
end
def uk {s:Sq}{f:Fm}{u:Tm}{n:ByteArray}(h:yY s f u n=true):wFms s.l+wFms s.r<=300/\wFm f<=300/\wTm u<=300/\n.size<=100:=by
 unfold yY at h;grind
def sh {s:Sq}(h:wFms s.l+wFms s.r<=300):iQ s:=by
 have:=iT s.l;have:=iT s.r;exact⟨λf A=>by have:=lx A;omega,λf A=>by have:=lx A;omega⟩
def y7:∀ {l:List Tr}{a:Tr},okTs l=true->a∈l->okT a=true
 | b::l,a,h,A=>by
  simp only[okTs,bAt] at h;rcases dC.1 A with rfl|A
  ·exact h.1
  ·exact y7 h.2 A
def FA:∀ {t:Tr},okT t=true->ub t
 | .mk rule s m u n sub,h=>by
  simp only[okT,bAt] at h;obtain⟨h1,h2,h3,_⟩:=uk h.1;have:=uj m;have:=Fz u;refine⟨sh h1,by omega,by omega,λa E=>?_⟩;have:=y7 h.2 E;obtain⟨A,s',W,O,U,D⟩:=a;simp only[okT,bAt] at this;exact sh (uk this.1).1
mutual
def FC:∀(p:List Nat)(t:Tr),okT t=true->∀q∈t.walk p,okT q.2=true
 | p,.mk rule s m u n sub,h,q,A=>by
  simp only[Tr.walk,dC] at A;rcases A with rfl|A
  ·exact h
  ·simp only[okT,bAt] at h;exact FD p 0 sub h.2 q A
def FD:∀(p:List Nat)(i:Nat)(l:List Tr),okTs l=true->∀q∈gr p i l,okT q.2=true
 | _,_,[],_,q,A=>by cases A
 | p,i,a::l,h,q,A=>by
  simp only[okTs,bAt] at h;simp only[gr,eX] at A;rcases A with A|A
  ·exact FC _ a h.1 q A
  ·exact FD p (i+1) l h.2 q A
end
def OX {t:Tr}(h:okT t=true)(A:t.steps<=1099511627776):yG t:=⟨λq D=>FA (FC [] t h q D),eh t.height_le_steps A⟩
mutual
def NA:Tr->Prop
 | .mk _ s m u _ sub=>iQ s/\m.size<=1000000/\u.size<=1000000/\NAs sub
def NAs:List Tr->Prop
 | []=>True
 | a::l=>NA a/\NAs l
end
def FG:∀ {t:Tr},NA t->iQ t.sq
 | .mk _ _ _ _ _ _,h=>by simp only[NA] at h;exact h.1
def y9:∀ {l:List Tr}{a:Tr},NAs l->a∈l->NA a
 | b::l,a,h,A=>by
  simp only[NAs] at h;rcases dC.1 A with rfl|A
  ·exact h.1
  ·exact y9 h.2 A
def OY:∀ {t:Tr},NA t->ub t
 | .mk _ _ _ _ _ _,h=>by
  simp only[NA] at h;exact⟨h.1,h.2.1,h.2.2.1,λa A=>FG (y9 h.2.2.2 A)⟩
mutual
def FH:∀(p:List Nat)(t:Tr),NA t->∀q∈t.walk p,NA q.2
 | p,.mk rule s m u n sub,h,q,A=>by
  simp only[Tr.walk,dC] at A;rcases A with rfl|A
  ·exact h
  ·simp only[NA] at h;exact FI p 0 sub h.2.2.2 q A
def FI:∀(p:List Nat)(i:Nat)(l:List Tr),NAs l->∀q∈gr p i l,NA q.2
 | _,_,[],_,q,A=>by cases A
 | p,i,a::l,h,q,A=>by
  simp only[NAs] at h;simp only[gr,eX] at A;rcases A with A|A
  ·exact FH _ a h.1 q A
  ·exact FI p (i+1) l h.2 q A
end
def OZ {t:Tr}(h:NA t)(A:t.steps<=1099511627776):yG t:=⟨λq D=>OY (FH [] t h q D),eh t.height_le_steps A⟩
mutual
def FJ:∀ {t:Tr},okT t=true->NA t
 | .mk _ s m u n sub,h=>by
  have A:=FA h;simp only[okT,bAt] at h;exact⟨A.1,A.2.1,A.2.2.1,FK h.2⟩
def FK:∀ {l:List Tr},okTs l=true->NAs l
 | [],_=>trivial
 | a::l,h=>by
  simp only[okTs,bAt] at h;exact⟨FJ h.1,FK h.2⟩
end
end Go.Proofs.Tryz
namespace Go.Proofs.Tryz
open Go Go.Iv
set_option maxRecDepth 4000
variable (gl:Nat->Option IV)
mutual
def IsNd.aged:∀ {n:Nd}{x:IV},IsNd n x->IsNd n (age x)
 | .mk m c w sub,x,h=>by
  obtain⟨o,n,t,D,O,ys,E,zs,rfl,h1,h2,A⟩:=h.mk;have:=h1.aged;simp only[age,ages,IsNd] at this ⊢;exact⟨_,_,_,_,_,_,_,_,rfl,this,jJ h2,IsNds.aged A⟩
def IsNds.aged:∀ {l:List Nd}{A:List IV},IsNds l A->IsNds l (ages A)
 | [],_,h=>by simp only[IsNds] at h;subst h;simp only[ages,IsNds]
 | a::l,_,h=>by
  simp only[IsNds] at h;obtain⟨y,ys,rfl,D,h⟩:=h;simp only[ages,IsNds];exact⟨_,_,rfl,IsNd.aged D,IsNds.aged h⟩
end
def y_ {cs new:List IV}{k n s:Nat}(E:cs.length=n*s)(D:k<n)(A:new.length=s) :
  (cs.take (k*s)++new++cs.drop (k*s+s)).length=n*s/\(cs.take (k*s)++new++cs.drop (k*s+s)).take ((k+1)*s)=cs.take (k*s)++new:=by
 have h1:(k+1)*s<=n*s:=ec _ D;rw[ek,jt] at h1 ⊢;have h2:(cs.take (k*s)++new).length=k*s+s:=by rw[lLa,dO,A,kF (by omega)]
 refine⟨?_,?_⟩
 ·rw[lLa,h2,fp];omega
 ·rw[gP (by omega),gA (by omega)]
def FL {st:ISt}{b:Nat}{o:IObj}(h:st b=none):(st.put b (some o)).put b none=st:=by
 funext c;simp only[ISt.put_apply];split
 ·subst_vars;exact h.symm
 ·rfl
def FM:∀ {l:List Nd}{A:List IV},IsNds l A->∀x∈A,x.cells.length=9
 | [],_,h,x,hx=>by simp only[IsNds] at h;subst h;cases hx
 | a::l,_,h,x,hx=>by
  simp only[IsNds] at h;obtain⟨y,ys,rfl,D,h⟩:=h;rcases dC.1 hx with rfl|hx
  ·obtain⟨v1,w1,o1,n1,t1,U,t2,O,c1,W,t3,E,rfl⟩:=fG D;rfl
  ·exact FM h x hx
def FN:∀l m:List Tr,mH (l++m)=mH l++mH m
 | [],m=>rfl
 | a::l,m=>by simp only[dX,mH,FN l m]
def ndZ:List IV:=[false,(0:Int),.raw (.int .u8 0),.raw (.string ⟨#[]⟩),(),(),false,(0:Int),()]
def um (t:Tr):Prop:=∀(x:IV) (_:IsTr t x) (_:t.steps<=1000000) (_:NA t) (st:ISt) (m:Nat) (es:List (Value×IV)) (_:st m=some (.map (.int .u8) es)) (_:qy es),
 ICall prog gl 62 [x,.agg [],.fn (.func 63) [.agg [.raw (.map (some m))]] [],.fn (.func 64) [.agg [.raw (.map (some m))]] []] st
  (λr st'=>IsNd (qx t) r/\st'=st)
def O0 (rule:Nat)(s:Sq)(mn:Fm)(u:Tm)(nm:ByteArray)(sub:List Tr)(IH:∀a∈sub,um gl a):um gl (.mk rule s mn u nm sub):=by
 intro x hx D hw st m es hm hl;obtain⟨tl,xl,tr,xr,op,fn,ta,xa,tb,xb,v,un,tu,xu,ts,xs,rfl,bh,e1,i1,e2,i2,hy,hz,e3,i3⟩:=hx.mk;refine ICall.intro (c:=cf prog gl [23] []) func62 rfl (by show _<=48;simp) (by kernel_rfl) ?_;simp only[go_sem,zE,zA,zL];refine (Fq gl _ m rfl _ _ hx (by show sub.length<=_;simp only[Tr.steps] at D;have:=ow sub;omega) _).mono ?_;rintro _ st ⟨ar,aa,rfl,aD,ab,rfl⟩;have ag:=ab.len;have bi:sub.length<=1000000:=by rw[Tr.steps] at D;have:=ow sub;omega
 change aa.length=sub.length at ag;simp only[go_sem,zE,zA];intro _;refine gv ⟨by omega,by omega,by omega⟩ λg=>eB λhg=>?_;have aA:g≠m:=λh=>by rw[h,hm] at hg;cases hg
 intro _;refine cV sub.length (λk fr st' ds=>(∃cs zs,st'=st.put g (some (.box cs))/\cs.length=sub.length*9/\cs.take (k*9)=zs.flatMap IV.cells/\IsNds (mH (sub.take k)) zs) /\
  fr 2=.iv (.fn (.func 63) [.agg [.raw (.map (some m))]] [])/\fr 3=.iv (.fn (.func 64) [.agg [.raw (.map (some m))]] [])/\fr 4=.box [.raw (.int .u8 rule),.sl tl xl,.sl tr xr,.raw (.int .u8 op),fn,.sl ta xa,.sl tb xb,v,un,.sl tu xu,nm,.sl ts xs]/\fr 5=.box []/\fr 8=.box ndZ /\
  fr 10=.iv (.sl ⟨false,.none,0⟩ (List.replicate sub.length (.agg [])))/\fr 11=.iv (.raw (.slice (some ⟨g,0,none⟩) sub.length sub.length))/\fr 24=.iv (.sl ar aa)/\fr 25=sub.length/\fr 26=.iv (.raw (.int .i64 k))/\ds=[]) ?_ ?_ ?_
 ·simp only[go_sem,zE,zM,ag];exact⟨⟨_,[],rfl,by simp,rfl,rfl⟩,rfl,rfl,rfl⟩
 ·rintro k fr _ _ A ⟨⟨cs,zs,rfl,ah,O,hzs⟩,f2,f3,f4,f5,f8,f10,f11,f24,f25,f26,rfl⟩;obtain⟨a,ha⟩:=dd A;obtain⟨z,az,hz⟩:=ab.get ha;have W:=lMg ha;have aG:=uh W;simp only[Tr.steps] at D;simp only[NA] at hw;have U:=λau hm=>IH a W z hz (by omega) (y9 hw.2.2.2 W) au m es hm hl;have ac:(List.replicate sub.length (IV.agg []))[k]?=some (.agg []):=by rw[List.getElem?_replicate,b_ A]
  obtain⟨av,a8,aO,a7,aM,bg,bk,bc,aU,ba,aS,v',aW,aY,aI,n',a1,aK,rfl⟩:=gg hz;simp only[go_sem,zE,zB,zA,zL,f2,f3,f10,f11,f24,f25,f26,lt_i A,dc aD,iNn,az,fits,ac];refine (U _ (by rw[de aA.symm];exact hm)).mono ?_;rintro r _ ⟨hr,rfl⟩;have E:=hr;obtain⟨v1,w1,o1,n1,t1,y1,t2,y2,c1,w2,t3,y3,rfl⟩:=fG hr;simp only[go_sem,zE,zA,f2,f3,f4,f5,f8,f10,f11,f24,f25,f26,cT,eZ,df A (by omega)];have bj:k*9+9<=sub.length*9:=by omega
  obtain⟨q1,q2⟩:=y_ (new:=[IV.raw (.bool v1),w1,.raw (.int .u8 o1),n1,.sl t1 y1,.sl t2 y2,c1,w2,.sl t3 y3]) ah A rfl;rw[b_ ⟨by omega,A⟩,b_ (by omega)];refine⟨_,zs++[.agg [v1,w1,.raw (.int .u8 o1),n1,.sl t1 y1,.sl t2 y2,c1,w2,.sl t3 y3]],rfl,q1,?_,?_⟩
  ·rw[q2,O,iu,lE];rfl
  ·rw[dK ha,FN];exact hzs.append ⟨_,_,rfl,E,rfl⟩
 ·rintro fr _ _ ⟨⟨cs,zs,rfl,ah,O,hzs⟩,f2,f3,f4,f5,f8,f10,f11,f24,f25,f26,rfl⟩;rw[lTl] at hzs;have ax:zs.length=sub.length:=by rw[hzs.len,Fa]
  simp only[go_sem,zE,zA,zL,f3,f4,f5,f11,f25,f26,dD (nLi _)];refine ma (pre:=[_,_,_]) (es:=9) (zs:=zs) (cT ..) ax (dz _) (by omega) (FM hzs) O (by omega) ?_;rw[FL hg];refine (OQ gl _ m rfl rule s mn u nm sub _ hx (mH sub) _ _ (.inr rfl) hzs.aged (by simp only[NA] at hw;have:=hw.2.1;omega) _ es hm hl).mono ?_;rintro r _ ⟨hr,rfl⟩;have E:=hr;obtain⟨v1,w1,o1,n1,t1,y1,t2,y2,c1,w2,t3,y3,rfl⟩:=fG hr;simp only[go_sem,zE,zA,zL,f8,ndZ];exact cO ⟨by simpa only[qx] using E,rfl⟩
def FP:∀(k:Nat)(t:Tr),SizeOf.sizeOf t<k->um gl t
 | 0,_,h=>absurd h (by omega)
 | k+1,.mk rule s A u nm sub,h=>O0 gl rule s A u nm sub λa D=>FP k a (by have:=lSm D;simp only[Tr.mk.sizeOf_spec] at h;omega)
def O1 (t:Tr):um gl t:=FP gl _ t (dM _)
def RowsO.get {s0 st:ISt}:∀ {E:List Nat} {l:List (List Mk)} {O:List IV} {k:Nat} {a:List Mk},RowsO s0 st E l O->l[k]?=some a->∃g y,O[k]?=some y/\g∈E/\MksO st g a y/\s0 g=none/\∀st',(∀c,c≠g->st' c=st c)->MksO st' g a y->RowsO s0 st' E l O
 | [],[],O,k,a,_,A=>by simp at A
 | g::E,a::l,_,0,_,⟨y,ys,rfl,h1,U,D,h6⟩,A=>by
  simp only[fC,dL] at A;subst A;exact⟨g,y,rfl,by simp,h1,U,λst' h h'=>⟨y,ys,rfl,h',U,D,RowsO.mono (λc hc=>h c λW=>D (W▸hc)) h6⟩⟩
 | g::E,a::l,_,k+1,b,⟨y,ys,rfl,h1,U,D,h6⟩,A=>by
  obtain⟨g',y',e1,e2,e3,e0,e4⟩:=RowsO.get (k:=k) h6 (by simpa using A);have aa:g≠g':=λW=>D (W▸e2);obtain⟨cap,cs,zs,q1,q2,q3⟩:=h1;exact⟨g',y',by simpa using e1,by simp[e2],e3,e0,λst' h h'=>⟨y,ys,rfl,⟨cap,cs,zs,q1,by rw[h g aa];exact q2,q3⟩,U,D,e4 st' h h'⟩⟩
def uo:∀ {l:List Mk}{A:List IV},IsMks l A->∀x∈A,x.cells.length=6
 | [],_,rfl,x,hx=>by cases hx
 | a::l,_,⟨y,ys,rfl,E,h⟩,x,hx=>by
  rcases dC.1 hx with rfl|hx
  ·obtain⟨o,n,t,A,O,D,rfl,U⟩:=E;rfl
  ·exact uo h x hx
def O2 {zs:List IV}{j:Nat}{z:IV}(A:zs[j]?=some z):zs=zs.take j++z::zs.drop (j+1):=by
 obtain⟨h,rfl⟩:=lGs A;rw[<- fM h,eF]
def uq {s:Nat}:∀ {zs:List IV},(∀z∈zs,z.cells.length=s)->(zs.flatMap IV.cells).length=zs.length*s
 | [],_=>by simp
 | a::zs,h=>by
  rw[ff,lLa,h a (by simp),uq λz A=>h z (by simp[A]),eG,ek];omega
def O3 {zs cs:List IV}{n s j:Nat}{z:IV}(h:∀z∈zs,z.cells.length=s)(hc:cs.take (n*s)=zs.flatMap IV.cells)(U:zs.length=n)(O:zs[j]?=some z) :
  (cs.drop (j*s)).take s=z.cells/\j*s+s<=cs.length/\∀y:IV,y.cells.length=s->(cs.take (j*s)++y.cells++cs.drop (j*s+s)).take (n*s)=(zs.take j++[y]++zs.drop (j+1)).flatMap IV.cells/\(cs.take (j*s)++y.cells++cs.drop (j*s+s)).length=cs.length:=by
 have ac:j<n:=by rw[<- U];exact (lGs O).1
 have h1:=uq (zs:=zs.take j) λz D=>h z (List.mem_of_mem_take D);have h2:=uq (zs:=zs.drop (j+1)) λz D=>h z (lG D);have D:=h z (lMg O);rw[dO,kF (by omega)] at h1;rw[fp,U] at h2;generalize hA:(zs.take j).flatMap IV.cells=A at h1;generalize W:(zs.drop (j+1)).flatMap IV.cells=B at h2;have hf:zs.flatMap IV.cells=A++(z.cells++B):=by
  conv=>lhs;rw[O2 O]
  rw[iu,ff,hA,W]
 have ab:n*s=j*s+s+(n-(j+1))*s:=by
  have:n=j+1+(n-(j+1)):=by omega
  conv=>lhs;rw[this]
  rw[ek,ek,jt]
 have E:cs=A++(z.cells++(B++cs.drop (n*s))):=by
  conv=>lhs;rw[<- eF (n*s) cs,hc,hf]
  simp only[fA]
 generalize cs.drop (n*s)=R at E;subst E;have e1:(A++(z.cells++(B++R))).take (j*s)=A:=by rw[<- h1,List.take_left]
 have e2:(A++(z.cells++(B++R))).drop (j*s)=z.cells++(B++R):=by rw[<- h1,jR]
 have e3:(A++(z.cells++(B++R))).drop (j*s+s)=B++R:=by rw[<- kC,e2,<- D,jR]
 refine⟨by rw[e2,<- D,List.take_left],by simp only[lLa];omega,λy hy=>?_⟩;rw[e1,e3];refine⟨?_,by simp only[lLa];omega⟩;rw[iu,iu,lE,hA,W,<- fA (A++y.cells) B R,gP (by simp only[lLa];omega),gA (by simp only[lLa];omega)]
def FQ:∀ {l:List Mk}{zs:List IV}{j:Nat}{b:Mk}{y:IV},IsMks l zs->l[j]?=some b->IsMk b y->IsMks l (zs.take j++[y]++zs.drop (j+1))
 | a::l,_,0,b,y,⟨x,E,rfl,hx,h⟩,A,D=>by
  simp only[fC,dL] at A;subst A;exact⟨y,E,rfl,D,h⟩
 | a::l,_,j+1,b,y,⟨x,E,rfl,hx,h⟩,A,D=>⟨x,_,rfl,hx,FQ (j:=j) h (by simpa using A) D⟩
def size_pos (f:Fm):1<=f.size:=by
 cases f;simp only[Fm.size];omega
def FR (f:Fm)(i:Nat):((f.subs[i]?).getD fm0).size<=f.size:=by
 obtain⟨o,n,us,sub⟩:=f;cases h:sub[i]? with
 | none =>
  simp only[Fm.subs,h,gm];exact eh (by decide) (size_pos _)
 | some a =>
  have:=lx (lMg h);simp only[Fm.subs,h,fI,Fm.size];omega
def O4 (b:Bool)(o:Int)(x y:Fm){k:Nat}(hx:x.size<=k)(A:y.size<=k):∀q∈askT b o x y,∀h∈q,h.2.size<=2*k+1:=by
 have h1:(impF x y).size<=2*k+1:=by simp only[impF,Fm.size,dt,dN];omega
 have h2:(impF y x).size<=2*k+1:=by simp only[impF,Fm.size,dt,dN];omega
 unfold askT
 repeat' split
 all_goals (simp only[dC,e_,eu,forall_eq_or_imp,forall_eq];(repeat' apply And.intro)<;>omega)
def O5 (m:Mk)(w:Int):∀q∈dY m w,∀b∈q,b.f.size<=2*m.f.size+1:=by
 intro q A b O;unfold dY at A;split at A
 ·cases A
 ·obtain⟨l,D,rfl⟩:=eP.1 A;obtain⟨h,E,rfl⟩:=eP.1 O;refine O4 _ _ _ _ (k:=m.f.size) (FR _ 0) ?_ l D h E;split
  ·exact FR _ 1
  ·exact eh (by decide) (size_pos _)
def RowsO.oi {s0 st s1:ISt}:∀ {gs:List Nat} {l:List (List Mk)} {A:List IV},RowsO s0 st gs l A->(∀g∈gs,s1 g=st g)->(∀q∈l,q.length<=2) →
  ∃ys,ys.length=A.length/\(∀(i:Nat) (r c:IV),A[i]?=some r->ys[i]?=some c->OI s1 r c)/\IsMkss l (ages ys)/\∀y∈ys,y.cells=[y]
 | [],[],A,h,_,_=>by
  obtain rfl:A=[]:=h;exact⟨[],rfl,λi r c h=>by simp at h,rfl,λy D=>by cases D⟩
 | g::gs,a::l,_,⟨y,ys,rfl,W,h7,h8,h9⟩,hs,hq=>by
  obtain⟨cap,cs,zs,rfl,h2,h3,h4,h5,O⟩:=W;obtain⟨zz,e1,e2,e3,e4⟩:=RowsO.oi h9 (λc hc=>hs c (by simp[hc])) λq U=>hq q (by simp[U]);have aa:=hq a (by simp);refine⟨.sl ⟨true,.app g,6⟩ zs::zz,by simp[e1],λi r c E hc=>?_,?_,λy D=>?_⟩
  ·cases i with
   | zero =>
    simp only[fC,dL] at E hc;subst E;subst hc;rw[<- O.len] at h3 h5 aa ⊢;refine .sl g cap ⟨true,.app g,6⟩ zs cs rfl (by omega) h3 (uo O) (by rw[hs g (by simp)];exact h2) h4 λi r c E hc=>?_;have hi:i<zs.length*6:=by
     have:=(lGs hc).1
     rwa [uq (uo O)] at this
    have:(cs.take (zs.length*6))[i]?=cs[i]?:=by rw[fl,b_ hi]
    rw[h5,hc,E] at this;cases this;exact .refl _
   | succ i=>exact e2 i r c (by simpa using E) (by simpa using hc)
  ·simp only[ages,age];exact⟨_,_,_,rfl,.inr rfl,O.aged,e3⟩
  ·rcases dC.1 D with rfl|D
   ·rfl
   ·exact e4 y D
def FT:∀ {ys:List IV},(∀y∈ys,y.cells=[y])->ys.flatMap IV.cells=ys
 | [],_=>rfl
 | y::ys,h=>by rw[ff,h y (by simp),FT λz A=>h z (by simp[A])];rfl
def O6 {st S0 A:ISt}{g cap:Nat}{gs:List Nat}{L:List (List Mk)}{xs cs:List IV}(hg:A g=some (.box cs))(D:RowsO S0 A gs L xs)(hq:∀q∈L,q.length<=2)(hL:L.length<=2)(W:L.length<=cap)(af:cap*1<=cs.length)(O:cs.take (L.length*1)=xs)(ae:S0 g=none)
  (h0:subSt st S0) (U:subSt S0 A):∃x s1,LendOk A s1 st/\OI s1 (.raw (.slice (some ⟨g,0,none⟩) L.length cap)) x/\∃tg zs,age x=.sl tg zs/\okEs tg 1/\IsMkss L zs:=by
 obtain⟨ys,e1,e2,e3,e4⟩:=D.oi (s1:=λc=>if c=g\/c∈gs then A c else none) (λc hc=>b_ (.inr hc)) hq;have ab:=D.len;have E:∀c,S0 c=none->st c=none:=λc hc=>by
  cases hq:st c with
  | none=>rfl
  | some o=>have:=h0 _ _ hq;rw[hc] at this;cases this
 refine⟨.sl ⟨true,.app g,1⟩ ys,λc=>if c=g\/c∈gs then A c else none,⟨λc o hc=>?_,λc o hc=>U c o (h0 c o hc),λc cs' hc=>?_⟩,?_,⟨false,.app g,1⟩,ages ys,by simp only[age],.inr rfl,e3⟩
 ·split at hc
  ·exact hc
  ·cases hc
 ·split at hc
  ·rename_i h;rcases h with rfl|h
   ·exact E _ ae
   ·exact E _ (D.new c h).2
  ·cases hc
 ·have aa:ys.length=L.length:=by rw[e1,ab]
  rw[<- aa] at W O ⊢;refine .sl g cap ⟨true,.app g,1⟩ ys cs rfl (by omega) W (λy hy=>by rw[e4 y hy];rfl) ((b_ (.inl rfl)).trans hg) af λi r c hr hc=>?_;rw[FT e4] at hc;have hi:=(lGs hc).1;refine e2 i r c ?_ hc;rw[<- O,fl,b_ (by omega)];exact hr
def O7 (m:Mk)(y:IV)(hy:IsMk m y)(hm:m.f.op<=7)(hk:(eJ m).1≠0)(bq:m.f.size<=100000)(w:Int)(st:ISt) :
  ICall prog gl 74 [y,w] st (λr st'=>∃tg xs,r=.sl tg xs/\okEs tg 1/\IsMkss (dY m w) xs/\st'=st):=by
 refine lW ?_;have aI:=og m w;have hll:=nt m w;have aX:=O5 m w;have aJ:=λst b es hb ht=>Oq gl m y hy hm w st b es hb ht hk;obtain⟨o5,n5,t5,x5,t6,x6,rfl,h1⟩:=hy;refine ICall.intro (c:=cf prog gl [] [(1,[1,2,0,3,4])]) func74 rfl (by show _<=35;simp) (by kernel_rfl) ?_;simp only[go_sem,zE,zA,zL];refine (DM gl _).mono ?_;rintro _ _ ⟨tb,es,aE,rfl,aG,rfl⟩;simp only[go_sem,zE,zA];refine (aJ _ _ _ (cT ..) aG).mono ?_;rintro _ bg ⟨g,gs,xs,an,h0,aR,ae,ac⟩;obtain⟨S0,av⟩:∃S0,S0=st.put tb (some (.map .sg es)):=⟨_,rfl⟩
 rw[<- av] at an ae ac;rcases an with⟨hq,_⟩|⟨_,cap,cs,rfl,hg,aM,aV,am,aN⟩
 ·omega
 generalize hL:dY m w=L at *;simp only[go_sem];refine cV L.length (λk fr st' ds=>(st' g=some (.box cs)/\RowsO S0 st' gs L xs/\subSt S0 st')/\fr 5=.iv (.raw (.slice (some ⟨g,0,none⟩) L.length cap))/\fr 14=.iv (.raw (.slice (some ⟨g,0,none⟩) L.length cap))/\fr 15=L.length/\fr 16=.iv (.raw (.int .i64 k))/\ds=[]) ?_ ?_ ?_
 ·simp only[go_sem,zE];exact⟨⟨hg,ae,ac⟩,rfl⟩
 ·rintro k fr aj _ aa ⟨⟨ab,O,E⟩,f5,f14,f15,f16,rfl⟩;obtain⟨a,ha⟩:=dd aa;obtain⟨gk,y,aC,aO,aH,aq,ak⟩:=O.get ha;have aT:cs[k*1]?=some y:=by
   have:(cs.take (L.length*1))[k*1]?=cs[k*1]?:=by rw[fl,b_ (by omega)]
   rw[<- this,am,Nat.mul_one];exact aC
  have bB:=hll a (lMg ha);have au:g≠gk:=λh=>aR (h▸aO);obtain⟨D,aY,ay,rfl,ag⟩:=aH;simp only[go_sem,zE,f14,f15,f16,lt_i aa,ab,fits,aT,b_ (show 0<=(k:Int)/\k<L.length from⟨by omega,aa⟩)];refine cV a.length (λj fr st' ds=>((∀c,c≠gk->st' c=aj c)/\MksO st' gk a (.raw (.slice (some ⟨gk,0,none⟩) a.length D)))/\fr 5=.iv (.raw (.slice (some ⟨g,0,none⟩) L.length cap))/\fr 7=.iv (.raw (.slice (some ⟨gk,0,none⟩) a.length D))/\fr 14=.iv (.raw (.slice (some ⟨g,0,none⟩) L.length cap))/\fr 15=L.length/\fr 16=.iv (.raw (.int .i64 k)) /\
   fr 20=.iv (.raw (.slice (some ⟨gk,0,none⟩) a.length D))/\fr 21=a.length/\fr 22=.iv (.raw (.int .i64 j))/\ds=[]) ?_ ?_ ?_
  ·simp only[go_sem,zE,f5,f14,f15,f16];exact⟨⟨λ_ _=>trivial,D,aY,ay,rfl,ag⟩,rfl⟩
  ·rintro j fr aA _ U ⟨⟨A,bc,bD,bd,af,ar,aL,aU,aD,W⟩,f5,f7,f14,f15,f16,f20,f21,f22,rfl⟩;simp only[IV.raw.injEq,Value.slice.injEq,true_and] at af;subst af;simp only[go_sem,zE,zB,zA,f7,f20,f21,f22,lt_i U,ar,fits,b_ (show 0<=(j:Int)/\j<a.length from⟨by omega,U⟩)];obtain⟨b,ah⟩:=dd U;obtain⟨z,aK,hz⟩:=W.get ah;obtain⟨r1,r2,r3⟩:=O3 (n:=a.length) (s:=6) (uo W) aD W.len aK;have aB:=hz;obtain⟨o7,n7,t7,x7,t8,x8,rfl,hf⟩:=hz;have aS:=λst=>E9 gl b _ aB (by have:=aX a (lMg ha) b (lMg ah);omega) st;simp only[IV.cells] at r1;simp only[go_sem,zA,zL,r1,b_ r2];refine (aS _).mono ?_;rintro r _ ⟨⟨hr,_⟩,rfl⟩;have aF:=hr;obtain⟨o9,n9,t9,x9,t10,az,rfl,bw⟩:=hr;simp only[go_sem,zE,zA,f5,f7,f14,f15,f16,f20,f21,f22,ar,df U (by omega),b_ (show 0<=(j:Int)/\j<a.length from⟨by omega,U⟩),b_ r2];obtain⟨r4,r5⟩:=r3 (.agg [.raw (.bool b.is),.raw (.int .i64 b.w),.raw (.int .u8 o9),n9,.sl t9 x9,.sl t10 az]) rfl;simp only[IV.cells] at r4 r5;exact⟨λc hc=>by rw[de hc];exact A c hc,D,_,_,rfl,cT ..,aL,by rw[r5];exact aU,r4,FQ W ah aF⟩
  ·rintro fr aA _ ⟨⟨A,ao⟩,f5,f7,f14,f15,f16,f20,f21,f22,rfl⟩;simp only[go_sem,zE,f5,f14,f15,f16,f21,f22,dD (nLi _),df aa (by omega)];exact⟨by rw[A g au];exact ab,ak _ A ao,λc o hc=>by rw[A c λh=>(by rw[h,aq] at hc;cases hc)];exact E c o hc⟩
 ·rintro fr aj _ ⟨⟨ab,O,E⟩,f5,f14,f15,f16,rfl⟩;simp only[go_sem,zE,f5,f15,f16,dD (nLi _)];obtain⟨x,s1,q1,q2,tg,zs,q3,q4,q5⟩:=O6 ab O hll aI aM aV am aN (by rw[av];exact fj aE) E;exact cO ⟨x,s1,st,q1,q2,tg,zs,q3,q4,q5,rfl⟩
def nd0:Nd:=.mk ⟨false,0,fm0⟩ false 0 []
def zb:IsNd nd0 (.agg ndZ):=by
 simp only[nd0,IsNd,ndZ];exact⟨_,_,_,_,_,_,_,_,rfl,yA,.inl rfl,rfl⟩
noncomputable def ku (t:Tr):Nd×Nat:=if (gM 1 t).2≠0\/0<t.cuts then (nd0,231) else if iK t.sq=false then (nd0,2) else (qx t,0)
def O8 (G:Gl gl)(T:Gt gl)(t:Tr)(x:IV)(hx:IsTr t x)(D:NA t)(aa:t.steps<=1000000)(st:ISt) :
  ICall prog gl 28 [x] st (λr st'=>(∃z,r=.tup [z,.raw (.int .i64 (ku t).2)]/\IsNd (ku t).1 z)/\st'=st):=by
 have af:=λst=>EM gl G T 1 t x hx (OZ D (by omega)) st;have ae:=λst=>OP gl t x hx (by omega) st;obtain⟨rule,s,A,u,nm,sub⟩:=t;obtain⟨tl,xl,tr,xr,op,fn,ta,xa,tb,xb,v,un,tu,xu,ts,xs,rfl,am,e1,i1,e2,i2,hy,hz,e3,i3⟩:=hx.mk;have hV:=λst=>yM gl G s (.agg [.sl tl xl,.sl tr xr]) ⟨_,_,_,_,rfl,e1,i1,e2,i2⟩ (FG D) st;refine iI func28 ?_;simp only[go_sem,zE,zA,zL];refine (af _).mono ?_;rintro _ st ⟨⟨tg,rfl,ak⟩,rfl⟩;have ac:∀n:Nat,((n:Int)=0)=(n=0):=λn=>propext (by omega);have E:(Tr.mk rule s A u nm sub).sq=s:=rfl;by_cases W:(gM 1 (.mk rule s A u nm sub)).2=0
 ·have O:((0:Int)<((Tr.mk rule s A u nm sub).cuts:Int))=(0<(Tr.mk rule s A u nm sub).cuts):=propext (by omega);simp only[go_sem,zE,zA,zL,W,dR,fW,Int.natCast_zero];refine (ae _).q ?_;by_cases h1:0<(Tr.mk rule s A u nm sub).cuts
  ·simp only[go_sem,zE,zA,zL,O,h1,dR];exact cO ⟨⟨_,by rw[ku,b_ (.inr h1)];rfl,by rw[ku,b_ (.inr h1)];exact zb⟩,rfl⟩
  ·simp only[go_sem,zE,zA,zL,O,h1,decide_false];refine (hV _).q ?_;cases hv:iK s
   ·simp only[go_sem,zE,zA,zL];have U:ku (.mk rule s A u nm sub)=(nd0,2):=by rw[ku,a_ (by rintro (h|h)<;>contradiction),E,b_ hv]
    exact cO ⟨⟨_,by rw[U];rfl,by rw[U];exact zb⟩,rfl⟩
   ·simp only[go_sem,zA];refine (Fl gl st).mono ?_;rintro _ _ ⟨m,es,hm,rfl,hl,rfl⟩;simp only[go_sem,zE,zA,zL];refine (O1 gl _ _ hx aa D _ m es (cT ..) hl).mono ?_;rintro r _ ⟨hr,rfl⟩;have ab:=hr;obtain⟨v1,w1,o1,n1,t1,y1,t2,y2,c1,w2,t3,y3,rfl⟩:=fG hr;simp only[go_sem,zE,zA,zL];have U:ku (.mk rule s A u nm sub)=(qx (.mk rule s A u nm sub),0):=by rw[ku,a_ (by rintro (h|h)<;>contradiction),a_ (by rw[E,hv];decide)]
    exact dZ (fj hm) ⟨⟨_,by rw[U];rfl,by rw[U];exact ab⟩,rfl⟩
 ·simp only[go_sem,zE,zA,zL,ac,W,decide_false,jQ];exact cO ⟨⟨_,by rw[ku,b_ (.inl W)];rfl,by rw[ku,b_ (.inl W)];exact zb⟩,rfl⟩
def O9 (G:Gl gl)(T:Gt gl)(t:Tr)(x:IV)(hx:IsTr t x)(D:okT t=true)(A:t.steps<=1000000)(st:ISt) :
  ICall prog gl 28 [x] st (λr st'=>(∃z,r=.tup [z,.raw (.int .i64 (ku t).2)]/\IsNd (ku t).1 z)/\st'=st):=O8 gl G T t x hx (FJ D) A st
def ptrI (c:Nat):IV:=.raw (.pointer (some ⟨c,0,none⟩))
def subN:Nd->List Nd
 | .mk _ _ _ sub=>sub
def nz (n:Nd):Nat:=if (subN n).isEmpty then 1 else 0
def O_ (n:Nd)(z:IV)(U:IsNd n z)(hl:(subN n).length<=1000000)(c:Nat)(v:Nat)(hv:v<=1000000000)(st:ISt)(hc:st c=some (.box [v])) :
  ICall prog gl 52 [ptrI c,z,.agg []] st (λr st'=>∃D zs,r=.tup [.sl D zs,.sl ⟨false,.none,0⟩ (List.replicate (subN n).length (.agg []))]/\okEs D 9/\IsNds (subN n) zs/\st'=st.put c (some (.box [(v+nz n:Nat)]))):=by
 obtain⟨m,cl,w,sub⟩:=n;obtain⟨o,n,t,xs,t',ys,D,zs,rfl,h1,h2,A⟩:=U.mk;have ab:sub.length<=1000000:=hl;have W:IntKind.i64.wrap ((v:Int)+1)=((v+1:Nat):Int):=by rw[w64]<;>omega
 refine ICall.intro (c:=cf prog gl [] [(3,[0,1,2,3,4,6,5,7])]) func52 rfl (by show _<=25;simp) (by kernel_rfl) ?_;simp only[go_sem,zE,ptrI,A.len];intro _;have aa:(subN (.mk m cl w sub)).length=sub.length:=rfl;by_cases O:sub.length=0
 ·have E:nz (.mk m cl w sub)=1:=by rw[nz,show subN (.mk m cl w sub)=sub from rfl,List.isEmpty_iff.2 (fX.1 O)];rfl
  have hd:decide ((sub.length:Int)=0)=true:=dEt (by omega);simp only[go_sem,zE,zA,zL,reduceCtorEq,hd,hc,W,A.len];refine gv ⟨by omega,by omega,by omega⟩ (cO ⟨_,_,?_,h2,A,?_⟩)
  ·rfl
  ·rw[E]
 ·have E:nz (.mk m cl w sub)=0:=by rw[nz,show subN (.mk m cl w sub)=sub from rfl,a_ (by rw[List.isEmpty_iff];exact λh=>O (by rw[h];rfl))]
  have hd:decide ((sub.length:Int)=0)=false:=dEf (by omega);simp only[go_sem,zE,zA,hd,A.len];refine gv ⟨by omega,by omega,by omega⟩ (cO ⟨_,_,?_,h2,A,?_⟩)
  ·rfl
  ·rw[E,jr,lj hc]
def Pb (z:IV)(n:Nd)(A:IsNd n z)(c:Nat)(y:IV)(st:ISt):ICall prog gl 53 [ptrI c,z,.agg [],y] st (λr st'=>r=.agg []/\st'=st):=by
 obtain⟨v1,W,o1,n1,t1,O,t2,E,c1,U,t3,D,rfl⟩:=fG A;refine iI func53 ?_;simp only[go_sem,zE,zL];exact cO ⟨rfl,rfl⟩
def ur:∀l m:List Nd,gu (l++m)=gu l+gu m
 | [],m=>by simp[gu]
 | a::l,m=>by simp only[dX,gu,ur l m];omega
def Pd {l:List Nd}{k:Nat}{a:Nd}(h:l[k]?=some a):gu (l.take (k+1))=gu (l.take k)+a.branches:=by
 rw[dK h,ur];simp[gu]
def Pe (l:List Nd)(k:Nat):gu (l.take k)<=gu l:=by
 conv=>rhs;rw[<- eF k l]
 rw[ur];omega
def FU (m:Mk)(c:Bool)(w:Int)(sub:List Nd):(Nd.mk m c w sub).branches=nz (.mk m c w sub)+gu sub:=by
 cases sub<;>simp[Nd.branches,nz,subN,gu]
def uu {st:ISt}{a b:Nat}(h:a≠b)(x y:Option IObj):(st.put a x).put b y=(st.put b y).put a x:=by
 funext c;simp only[ISt.put_apply];split<;>split<;>first|rfl|(subst_vars;exact absurd rfl h)
def uv (n:Nd):Prop:=∀(z:IV) (_:IsNd n z) (_:n.nodes<=1000000) (c v:Nat) (_:v+n.branches<=1000000000) (st:ISt) (_:st c=some (.box [v])),
 ICall prog gl 51 [z,.agg [],.fn (.func 52) [ptrI c] [],.fn (.func 53) [ptrI c] []] st
  (λr st'=>r=.agg []/\st'=st.put c (some (.box [(v+n.branches:Nat)])))
def Pf (mm:Mk)(cl:Bool)(w:Int)(sub:List Nd)(IH:∀a∈sub,uv gl a):uv gl (.mk mm cl w sub):=by
 intro z W ag c v hv st hc;have U:=W;rw[FU] at hv;have an:=mG sub;simp only[Nd.nodes] at ag;obtain⟨v1,w1,o1,n1,t1,y1,t2,y2,c1,w2,t3,y3,rfl⟩:=fG W;refine ICall.intro (c:=cf prog gl [23] []) func51 rfl (by show _<=48;simp) (by kernel_rfl) ?_;simp only[go_sem,zE,zA,zL];refine (O_ gl _ _ U (by show sub.length<=_;omega) c v (by omega) st hc).mono ?_;rintro _ _ ⟨ts,zs,rfl,e3,i3,rfl⟩;have O:=i3.len;change zs.length=sub.length at O;replace i3:IsNds sub zs:=i3;simp only[go_sem,zE,zA];intro _;refine gv ⟨by omega,by omega,by omega⟩ λg=>eB λhg=>?_;have D:g≠c:=λh=>by rw[h,cT] at hg;cases hg
 have ai:st g=none:=by rw[de D] at hg;exact hg
 intro _;refine cV sub.length (λk fr st' ds=>st'=(st.put c (some (.box [(v+nz (.mk mm cl w sub)+gu (sub.take k):Nat)]))).put g (some (.box [])) /\
  fr 2=.iv (.fn (.func 52) [ptrI c] [])/\fr 3=.iv (.fn (.func 53) [ptrI c] [])/\fr 4=.box [v1,w1,.raw (.int .u8 o1),n1,.sl t1 y1,.sl t2 y2,c1,w2,.sl t3 y3]/\fr 5=.box []/\fr 8=.box [] /\
  fr 10=.iv (.sl ⟨false,.none,0⟩ (List.replicate sub.length (.agg [])))/\fr 11=.iv (.raw (.slice (some ⟨g,0,none⟩) sub.length sub.length))/\fr 24=.iv (.sl ts zs)/\fr 25=sub.length/\fr 26=.iv (.raw (.int .i64 k))/\ds=[]) ?_ ?_ ?_
 ·simp only[go_sem,zE,O];exact⟨by simp only[Nat.mul_zero,List.replicate_zero,gu,jr],rfl,rfl⟩
 ·rintro k fr _ _ A ⟨rfl,f2,f3,f4,f5,f8,f10,f11,f24,f25,f26,rfl⟩;obtain⟨a,ha⟩:=dd A;obtain⟨z,ah,W⟩:=i3.get ha;have ab:=lMg ha;have am:=kb ab;have aj:=Pd ha;have ao:=Pe sub (k+1);have E:=λae hm=>IH a ab z W (by omega) c (v+nz (.mk mm cl w sub)+gu (sub.take k)) (by omega) ae hm;have aa:(List.replicate sub.length (IV.agg []))[k]?=some (.agg []):=by rw[List.getElem?_replicate,b_ A]
  obtain⟨v3,w3,o3,n3,t4,y4,t5,y5,c5,w5,t6,y6,rfl⟩:=fG W;simp only[go_sem,zE,zB,zA,zL,f2,f3,f10,f11,f24,f25,f26,lt_i A,dc e3,iNn,ah,fits,aa];refine (E _ (by rw[de D.symm,cT])).mono ?_;rintro r _ ⟨rfl,rfl⟩;simp only[go_sem,zE,f2,f3,f4,f5,f8,f10,f11,f24,f25,f26,cT,de D,df A (by omega)];rw[b_ ⟨by omega,A⟩,b_ (by omega),aj,<- fa,uu D,eZ,eZ];simp only[List.take_nil,List.drop_nil,fH]
 ·rintro fr _ _ ⟨rfl,f2,f3,f4,f5,f8,f10,f11,f24,f25,f26,rfl⟩;rw[lTl];simp only[go_sem,zE,zA,zL,f3,f4,f5,f11,f25,f26,dD (nLi _)];refine (Pb gl _ _ U c _ _).mono ?_;rintro r _ ⟨rfl,rfl⟩;simp only[go_sem,zE,zL,f8];refine dZ (fj (by rw[de D];exact ai)) ⟨rfl,?_⟩;rw[FU,fa]
def FV:∀(k:Nat)(n:Nd),SizeOf.sizeOf n<k->uv gl n
 | 0,_,h=>absurd h (by omega)
 | k+1,.mk m c w sub,h=>Pf gl m c w sub λa A=>FV k a (by have:=lSm A;simp only[Nd.mk.sizeOf_spec] at h;omega)
def Pg (n:Nd):uv gl n:=FV gl _ n (dM _)
def FW:∀n:Nd,n.branches<=n.nodes:=by
 have key:∀(k:Nat) (n:Nd),SizeOf.sizeOf n<k->n.branches<=n.nodes:=by
  intro k
  induction k with
  | zero=>intro n h;omega
  | succ k E =>
   rintro⟨m,c,w,sub⟩ h;have O:∀l:List Nd,(∀a∈l,a∈sub)->gu l<=eT l:=by
    intro l
    induction l with
    | nil=>intro _;exact dz _
    | cons a l A =>
     intro D;have h1:=E a (by have:=lSm (D a (by simp));simp only[Nd.mk.sizeOf_spec] at h;omega);have h2:=A λb U=>D b (by simp[U]);simp only[gu,eT];omega
   have:=O sub λa W=>W;simp only[Nd.branches,Nd.nodes];split<;>omega
 exact λn=>key _ n (dM _)
def FX (n:Nd)(z:IV)(D:IsNd n z)(E:n.nodes<=1000000)(st:ISt):ICall prog gl 17 [z] st (λr st'=>r=n.branches/\st'=st):=by
 have hb:=FW n;have A:=D;obtain⟨v1,w1,o1,n1,t1,W,t2,U,c1,w2,t3,O,rfl⟩:=fG D;refine ICall.intro (c:=cf prog gl [5] []) func17 rfl (by show _<=17;simp) (by kernel_rfl) ?_;simp only[go_sem,zE,zA,zL];refine λc=>eB λhc=>?_;refine (Pg gl n _ A E c 0 (by omega) _ (cT ..)).q ?_;simp only[go_sem,zE,cT,eZ,eQ];exact dZ (fj hc) ⟨rfl,rfl⟩
def zd {m:Mk}(hf:fmB 1 m.f=true)(h:(eJ m).1≠0)(w:Int):∀q∈dY m w,∀b∈q,b.f.size<=m.f.size:=by
 rcases DU hf h with⟨n,a,A,ha⟩|⟨o,n,a,b,O,A,ha,hb⟩
 ·obtain⟨is,w',f⟩:=m;simp only at A;subst A;cases is
  ·show ∀q∈[[(⟨true,w',a⟩:Mk)]],_;simp only[fD,forall_eq,Fm.size,dN,dt];omega
  ·show ∀q∈[[(⟨false,w',a⟩:Mk)]],_;simp only[fD,forall_eq,Fm.size,dN,dt];omega
 ·obtain⟨is,w',f⟩:=m;simp only at A;subst A;have hi:(impF a b).size=(Fm.mk o n [] [a,b]).size:=by simp only[impF,Fm.size]
  have W:(impF b a).size=(Fm.mk o n [] [a,b]).size:=by simp only[impF,Fm.size,dt];omega
  have h1:a.size<=(Fm.mk o n [] [a,b]).size:=by simp only[Fm.size,dt];omega
  have h2:b.size<=(Fm.mk o n [] [a,b]).size:=by simp only[Fm.size,dt];omega
  intro q D x hx;have h6:∀q∈askT is o a b,∀h∈q,h.2.size<=(Fm.mk o n [] [a,b]).size:=by
   unfold askT
   repeat' split
   all_goals (simp only[dC,e_,eu,forall_eq_or_imp,forall_eq];(repeat' apply And.intro)<;>omega)
  have h7:(eJ ⟨is,w',.mk o n [] [a,b]⟩).2=2:=by rcases O with rfl|rfl|rfl|rfl<;>cases is<;>rfl
  unfold dY at D;rw[a_ h,b_ h7] at D;obtain⟨l,U,rfl⟩:=eP.1 D;obtain⟨y,E,rfl⟩:=eP.1 hx;exact h6 l U y E
def Ph {A:Tag}{es:Nat}(h:okEs A es){len D l:Nat}:okEs (k_ (reTag es A) len D l none) es:=by
 have:=dc h;unfold k_;by_cases h1:(reTag es A).cap=.nil
 ·rw[b_ h1];exact .inr this
 ·rw[a_ h1];by_cases h2:l=0/\D=len
  ·simp only[b_ h2];exact .inr this
  ·simp only[a_ h2];exact .inr this
noncomputable def si (l:List Mk)(m:Mk)(c:Bool):List (List Mk):=if c then [] else (dY m 0).map (d_ l)
def Pj (wp:IV)(l:List Mk)(t:Tag)(xs:List IV)(ht:okEs t 6)(ao:IsMks l xs)(m:Mk)(c:Bool)(w:Int)(sub:List Nd)(z:IV)(hz:IsNd (.mk m c w sub) z)(hc:c=false->m.f.op<=7/\(eJ m).1≠0/\sub.length=(dY m 0).length)(hs:c=true->sub=[])
  (av:m.f.size<=100000) (hl:l.length<=100000) (st:ISt) :
  ICall prog gl 39 [wp,z,.sl t xs] st (λr st'=>∃ts zs tq qs,r=.tup [.sl ts zs,.sl tq qs]/\okEs ts 9/\IsNds sub zs/\okEs tq 1/\IsMkss (si l m c) qs/\st'=st):=by
 have aG:=og m 0;have hll:=nt m 0;obtain⟨o,n,t1,x1,t2,x2,ts,zs,rfl,h1,h2,h3⟩:=hz.mk;refine iI func39 ?_;cases c
 ·obtain⟨hm,hk,af⟩:=hc rfl;have hA:=λst=>O7 gl m _ ⟨_,_,_,_,_,_,rfl,h1⟩ hm hk av 0 st;simp only[go_sem,zE,zA,zL];refine (hA _).mono ?_;rintro _ st ⟨tg,qs,rfl,au,ac,rfl⟩;have aw:gK none (some (min (sub.length:Int) ((dY m 0).length:Int))) sub.length=some (0,sub.length):=by
   rw[af];simp[gK]
  have ar:List.take sub.length zs=zs:=gA (by rw[h3.len];exact dz _);simp only[go_sem,zE,h3.len,ac.len];intro _ _;refine gv (dc h2) ?_;rw[aw];simp only[go_sem,ar,h3.len];intro _;refine cV sub.length (λk fr st' ds=>(∃t' ys A,fr 10=.iv (.sl t' ys)/\IsMkss (((dY m 0).map (d_ l)).take k) ys/\own st' t' k 1 st/\subSt st st'/\fr 9=.iv (.sl A zs)/\okEs A 9)/\fr 2=.iv (.sl t xs)/\fr 8=.iv (.sl tg qs)/\fr 27=sub.length/\fr 28=.iv (.raw (.int .i64 k))/\ds=[]) ?_ ?_ ?_
  ·simp only[go_sem,zE];exact⟨⟨_,_,_,rfl,rfl,.inl ⟨rfl,rfl⟩,subSt.refl _,rfl,Ph h2⟩,rfl⟩
  ·rintro k fr am _ ae ⟨⟨t',ys,A,f10,hys,E,D,f9,O⟩,f2,f8,f27,f28,rfl⟩;obtain⟨q,hq⟩:=dd (show k<(dY m 0).length by omega);obtain⟨tq,zq,ay,aq,an⟩:=ac.get hq;have aE:=hll q (lMg hq);have ab:=hys.len;rw[dO,gj,kF (by omega)] at ab;simp only[go_sem,zE,zA,f2,f8,f10,f27,f28,lt_i ae,dc au,iNn,ay,fits];refine (E8 gl l t xs ao q tq zq aq an (by omega) _).mono ?_;rintro _ _ ⟨t3,y3,rfl,e3,i3,rfl⟩;simp only[go_sem,zE,zA,zM,zL,fits,dP];refine lq E ab D rfl (by simp[fits,IV.one]) (by simp only;omega) (by omega) λak st5 W U _=>?_;simp only[go_sem,zE,f2,f8,f9,f27,f28,df ae (by omega)];refine⟨ak,_,A,rfl,?_,W,U,rfl,O⟩;rw[dK (show ((dY m 0).map (d_ l))[k]?=some (d_ l q) by rw[en,hq];rfl)];exact hys.append (IsMkss.one e3 i3)
  ·rintro fr am _ ⟨⟨t',ys,A,f10,hys,E,D,f9,O⟩,f2,f8,f27,f28,rfl⟩;rw[gA (by rw[gj];omega)] at hys;simp only[go_sem,zE,f9,f10,f27,f28,dD (nLi _)];exact dZ D ⟨A,zs,t',ys,rfl,O,h3,E.es,hys,rfl⟩
 ·simp only[go_sem,zE];exact cO ⟨_,_,_,_,rfl,.inl rfl,by rw[hs rfl];rfl,.inl rfl,rfl,rfl⟩
def wrI (D:Nat)(A:Bool):List IV:=[.raw (.map (some D)),A]
def Pk (c0 rb:Nat)(D:Bool)(l:List Mk)(t:Tag)(O:List IV)(ht:okEs t 6)(U:IsMks l O)(m:Mk)(c:Bool)(w:Int)(sub:List Nd)(z:IV)(hz:IsNd (.mk m c w sub) z)(hc:c=false->m.f.op<=7/\(eJ m).1≠0)(st:ISt)(es:List (Value×IV))
  (h0:st c0=some (.box (wrI rb D))) (hb:st rb=some (.map .sg es)) (A:sc es) :
  ICall prog gl 76 [ptrI c0,z,.sl t O] st (λr st'=>r=.raw (.int .u8 (ji l m c))/\st'=st):=by
 obtain⟨o,n,t1,x1,t2,x2,ts,zs,rfl,h1,h2,h3⟩:=hz.mk;unfold wrI at h0;unfold ptrI;have hh:=λst=>E7 gl l t O ht U ⟨!m.is,m.w,m.f⟩ _ ⟨_,_,_,_,_,_,rfl,h1⟩ st;obtain⟨is,mw,⟨o',n',us,sb⟩⟩:=m;obtain⟨_,_,_,_,he,ho,_,_,_,_⟩:=h1.mk;simp only[IV.agg.injEq,List.cons.injEq,IV.raw.injEq,Value.int.injEq,Value.string.injEq,IV.sl.injEq,true_and,and_true] at he;obtain⟨rfl,rfl,⟨rfl,rfl⟩,rfl,rfl⟩:=he;refine ICall.intro (c:=cf prog gl [14] []) func76 rfl (by show _<=33;simp) (by kernel_rfl) ?_;cases c
 ·obtain⟨hm,hk⟩:=hc rfl;have hf:e8 (.agg #[.bool is,.int .u8 (o':Int)]) es=some (.raw (.int .u8 (ga is o'))):=by
   obtain⟨r,E,_⟩:=oe hk;simp only[Fm.op] at E hm;have W:o'=3\/o'=4\/o'=5\/o'=6\/o'=7:=by
    refine fL λhq=>?_;unfold rowT at E
    repeat (rw[a_ (by omega)] at E)
    cases E
   rcases W with rfl|rfl|rfl|rfl|rfl<;>cases is
   ·exact A.2.2 1 (by decide)
   ·exact A.2.2 0 (by decide)
   ·exact A.2.2 3 (by decide)
   ·exact A.2.2 2 (by decide)
   ·exact A.2.2 5 (by decide)
   ·exact A.2.2 4 (by decide)
   ·exact A.2.2 7 (by decide)
   ·exact A.2.2 6 (by decide)
   ·exact A.2.2 9 (by decide)
   ·exact A.2.2 8 (by decide)
  simp only[go_sem,zE,zA,zL,reduceCtorEq,fits,h0,hb];refine gv (by simp;omega) ?_;simp only[go_sem,hf,show kN false (some (IV.raw (.int .u8 (ga is o')))) (IV.raw (.int .u8 0))=some (IV.raw (.int .u8 (ga is o'))) from rfl];exact cO ⟨rfl,rfl⟩
 ·simp only[go_sem,zE,zA,zL];refine (hh _).q ?_;unfold ji;cases hq:hasT l ⟨!is,mw,.mk o' n us sb⟩
  ·simp only[go_sem,reduceCtorEq];exact cO ⟨rfl,rfl⟩
  ·simp only[go_sem,reduceCtorEq];exact cO ⟨rfl,rfl⟩
def trZ:List IV:=[.raw (.int .u8 0),(),(),.raw (.int .u8 0),.raw (.string ⟨#[]⟩),(),(),false,.raw (.string ⟨#[]⟩),(),.raw (.string ⟨#[]⟩),()]
def tr0:Tr:=.mk 0 ⟨[],[]⟩ fm0 tm0 bE []
def uw:IsTr tr0 (.agg trZ):=by
 simp only[tr0,IsTr,trZ];exact⟨_,_,_,_,_,_,_,_,_,_,_,_,_,_,_,_,rfl,by decide,.inl rfl,rfl,.inl rfl,rfl,yA,⟨_,_,rfl,.inl rfl,rfl⟩,.inl rfl,rfl⟩
def Pm (l:List Mk)(m:Mk)(c:Bool):ji l m c<256:=by
 unfold ji ga
 repeat' split
 all_goals decide
def FY:dfr (.agg trZ):=by
 simp only[trZ,dfr,dfrs,appT,and_true,true_and,true_or,List.flatMap_nil,e_,false_imp_iff,implies_true];intro c hc;simp only[dC,e_,eu] at hc;rcases hc with rfl|rfl|rfl|rfl|rfl|rfl|rfl|rfl|rfl|rfl|rfl|rfl<;>rfl
def FZ (rule:Nat)(s:Sq)(f:Fm)(pre:List IV):Prop:=(∀(D:List Tr) (E:Tag) (A:List IV),okEs E 12->IsTrs D A->IsTr (.mk rule s f tm0 bE D) (.agg (pre++[.sl E A])))/\dfrs pre/\∀c∈pre,c.one=true
def Pn {rule:Nat}{s:Sq}{f:Fm}{D A t W:Tag}{U O E ys:List IV}{o:Int}{n:ByteArray}(hr:rule<256)(e1:okEs D 4)(a1:appT s.l.length D)(i1:IsFmsD s.l U)(e2:okEs A 4)(a2:appT s.r.length A)(i2:IsFmsD s.r O)
  (hf:IsFmD f (.agg [.raw (.int .u8 o),n,.sl t E,.sl W ys])):FZ rule s f [.raw (.int .u8 rule),.sl D U,.sl A O,.raw (.int .u8 o),n,.sl t E,.sl W ys,false,.raw (.string ⟨#[]⟩),(),.raw (.string ⟨#[]⟩)]:=by
 have h1:=DE a1 i1;have h2:=DE a2 i2;have h3:dfr ():=by simp[dfr,dfrs,appT]
 have h4:=hf.2;rw[dfr] at h4;refine⟨λts tS xS eS iS=>?_,?_,λc hc=>?_⟩
 ·simp only[IsTr];exact⟨_,_,_,_,_,_,_,_,_,_,_,_,_,_,_,_,rfl,hr,e1,i1.1,e2,i2.1,hf.1,⟨_,_,rfl,.inl rfl,rfl⟩,eS,iS⟩
 ·obtain⟨_,_,h5,h6,_⟩:=h4.1;exact⟨trivial,h1,h2,trivial,trivial,h5,h6,trivial,trivial,h3,trivial,trivial⟩
 ·simp only[dC,e_,eu] at hc;rcases hc with rfl|rfl|rfl|rfl|rfl|rfl|rfl|rfl|rfl|rfl|rfl<;>rfl
def Po (c0 rb:Nat)(D:Bool)(l:List Mk)(t:Tag)(O:List IV)(ht:okEs t 6)(ac:IsMks l O)(m:Mk)(c:Bool)(w:Int)(sub:List Nd)(z:IV)(hz:IsNd (.mk m c w sub) z)(hc:c=false->m.f.op<=7/\(eJ m).1≠0)(hl:l.length<=100000)
  (hs1:dt (eC true l)<=1000000) (hs2:dt (eC false l)<=1000000) (aK:m.f.size<=1000000) (g k:Nat) (st:ISt) (es:List (Value×IV))
  (h0:st c0=some (.box (wrI rb D))) (hb:st rb=some (.map .sg es)) (aw:sc es) :
  ICall prog gl 40 [ptrI c0,z,.sl t O,.raw (.slice (some ⟨g,0,none⟩) k k)] st (λr st'=>∃A,A=(D || decide (64<(eC true l).length) || decide (64<(eC false l).length))/\(A=true->r=.agg trZ) /\
   (A=false->∃tL xL tR xR o n t O t' ys,r=.agg [.raw (.int .u8 (ji l m c)),.sl tL xL,.sl tR xR,.raw (.int .u8 o),.raw (.string n),.sl t O,.sl t' ys,false,.raw (.string ⟨#[]⟩),(),.raw (.string ⟨#[]⟩),.raw (.slice (some ⟨g,0,none⟩) k k)] /\
    FZ (ji l m c) (sqT l) m.f [.raw (.int .u8 (ji l m c)),.sl tL xL,.sl tR xR,.raw (.int .u8 o),.raw (.string n),.sl t O,.sl t' ys,false,.raw (.string ⟨#[]⟩),(),.raw (.string ⟨#[]⟩)])/\st'=st.put c0 (some (.box (wrI rb A)))):=by
 have au:=hz;have E:=λb st=>Oo gl l t O ht ac (by omega) b st;obtain⟨o,n,t1,x1,t2,x2,tn,zs,rfl,h1,h2,h3⟩:=hz.mk;have U:=Pk gl c0 rb D l t O ht ac m c w sub _ au hc st es h0 hb aw;have W:=λst=>qk gl m.f _ h1 (by omega) st;unfold wrI at h0;unfold ptrI at *;refine ICall.intro (c:=cf prog gl [] [(5,[0,1,2,4,6,9,10,11,13,3,5,7,8,12,14,15])]) func40 rfl (by show _<=48;simp) (by kernel_rfl) ?_;simp only[go_sem,zE,zA];refine (E true _).mono ?_;rintro _ st ⟨tL,xL,rfl,eL,iL,rfl⟩;simp only[go_sem,zE,zA];refine (E false _).mono ?_;rintro _ st ⟨tR,xR,rfl,eR,iR,rfl⟩;have e1:∀n:Nat,decide ((64:Int)<(n:Int))=decide (64<n):=λn=>decide_eq_decide.2 (by omega);cases D
 ·generalize aa:decide (64<(eC true l).length)=bL;cases bL
  ·generalize af:decide (64<(eC false l).length)=bR;cases bR
   ·simp only[go_sem,zE,zA,zL,reduceCtorEq,h0,iL.len,iR.len,e1,aa,af];intro _ _;refine U.mono ?_;rintro _ _ ⟨rfl,rfl⟩;simp only[go_sem,zE,zA];refine (yO gl _ tL xL eL iL hs1 _).mono ?_;rintro _ st ⟨aJ,aH,rfl,ay,aB,ar,rfl⟩;simp only[go_sem,zE,zA];refine (yO gl _ tR xR eR iR hs2 _).mono ?_;rintro _ st ⟨aI,aG,rfl,ax,aA,ao,rfl⟩;simp only[go_sem,zE,zA,zL,fits];refine (W _).mono ?_;rintro _ st ⟨hr,rfl⟩;have av:=hr;obtain⟨o7,n7,t7,x7,t8,x8,rfl⟩:=hr.1.agg;simp only[go_sem,zE,zA,zL,fits,IV.one];have ae:=Pn (s:=sqT l) (Pm l m c) ay aB ar ax aA ao av;refine cO ?_;exact⟨false,rfl,(λh=>nomatch h),(λ_=>⟨_,_,_,_,_,_,_,_,_,_,rfl,ae⟩),(lj h0).symm⟩
   ·simp only[go_sem,zE,zA,zL,reduceCtorEq,h0,iL.len,iR.len,e1,aa,af];intro _ _;exact cO ⟨true,rfl,(λ_=>rfl),(λh=>nomatch h),rfl⟩
  ·simp only[go_sem,zE,zA,zL,reduceCtorEq,h0,iL.len,e1,aa];intro _;exact cO ⟨true,rfl,(λ_=>rfl),(λh=>nomatch h),rfl⟩
 ·simp only[go_sem,zE,zA,zL,reduceCtorEq,h0];exact cO ⟨true,rfl,(λ_=>rfl),(λh=>nomatch h),rfl⟩
end Go.Proofs.Tryz
namespace Go.Iv
open Go
section
variable {P:Program}{gl:Nat->Option IV}{f:FuncId}{args args':List IV}{st:ISt}
def sj {K:IV->ISt->Prop}(h:ICall P gl f args st (λy st'=>K y st'\/∃pre g n cap cs es zs S,st g=none/\S g=none/\y=.agg (pre++[.raw (.slice (some ⟨g,0,none⟩) n cap)])/\st'=S.put g (some (.box cs)) /\
   zs.length=n/\n<=140737488355328/\n<=cap/\cap*es<=cs.length/\cs.take (n*es)=zs.flatMap IV.cells/\(∀z∈zs,z.cells.length=es)/\K (.agg (pre++[.sl ⟨true,.app g,es⟩ zs])) S)) :
  ICall P gl f args st K:=by
 intro B X rs hg W hv;subst W;refine (h B X rs hg rfl hv).mono ?_;rintro e w' ⟨v,rfl,X',y,rfl,h2,h3,h4,hK|⟨pre,g,n,cap,cs,es,zs,S,h0,hS,rfl,A,rfl,hn,O,E,U,hz,hK⟩⟩
 ·exact⟨v,rfl,X',y,rfl,h2,h3,h4,hK⟩
 have ae:=DC h3 h0 (by rw[A];exact cT ..);have hk:=xC hS A;refine⟨v,rfl,X'.lendS _ S,_,rfl,h2.lendS hk,h3.trans (h2.lendS_ext hk),?_,hK⟩;obtain⟨rr,rfl,hr⟩:=lH h4;refine .agg rr _ (by have:=hr.1;simpa using this) λi r x h1 D=>?_;by_cases hi:i<pre.length
 ·rw[fP hi] at D;exact (h2.lendS_ext hk).v (hr.2 i r x h1 (by rw[fP hi];exact D))
 ·have ac:i=pre.length:=by
   have:=(lGs D).1;simp at this;omega
  subst ac;simp only[dz,gh,jV,fC,dL] at D;subst D;obtain rfl:=dQ (hr.2 pre.length r (.raw (.slice (some ⟨g,0,none⟩) zs.length cap)) h1 (by simp));exact DD h2 hS A (eh hg.B ae) hn O E U hz
def sk {K:IV->Prop}(O:flatSt st)(A:∀g x,gl g=some x->age x=x)(E:Lents st args args')(h:ICall P gl f (ages args') (gS st) (λr st'=>st'=gS st/\dfr r/\K (age r))) :
  ICall P gl f args st (λy st'=>st'=st/\K y) :=
 lW ((nY (K:=λr=>K (age r)) O A E h).mono λy st' ⟨D,_,x,N,hK,W,_,_,hN,hd⟩=>⟨x,N,st,⟨hN,D,λb cs U=>hd b (by rw[U];exact Option.some_ne_none _)⟩,W,rfl,hK⟩)
end
