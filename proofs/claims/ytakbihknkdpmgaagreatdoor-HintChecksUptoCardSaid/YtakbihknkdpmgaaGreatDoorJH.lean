/- The layer of ideal values, part Pa: what -/
import Derived.Test.YtakbihknkdpmgaaGreatDoorJG
import Derived.Scope
set_option linter.all false
namespace Go.Iv
open Go
def subSt (st' st:ISt):Prop:=∀b o,st' b=some o->st b=some o
def subSt.refl (st:ISt):subSt st st:=λ_ _ h=>h
def subSt.trans {a b c:ISt}(h:subSt a b)(k:subSt b c):subSt a c:=λx o A=>k x o (h x o A)
def Good.sub {C:Cx}{X:WS}(h:Good C X){st:ISt}(hs:subSt st X.st):Good C { X with st:=st }/\Ext X { X with st:=st } :=
 ⟨⟨λb o A=>(h.ok b o (hs b o A)).mono rfl rfl (λ_ _ hv=>hv),h.gl,h.B,h.Lnew,h.gsh,h.dr⟩,
  ⟨rfl,rfl,rfl,dJ _,λ_=>dJ _,λ_ _ _=>rfl,λ_ _ _=>⟨rfl,rfl⟩,(λb _ A=>by
   cases D:st b with
   | none=>exact D
   | some o=>have:=hs b o D;rw[A] at this;cases this),λ_ _ hp=>hp,rfl⟩⟩
def join (stu own:ISt):ISt:=λb=>match own b with|some o=>some o|none=>stu b
def disj (stu own:ISt):Prop:=∀b,own b≠none->stu b=none
def eS {stu own:ISt}{b:Nat}{o:IObj}(h:own b=some o):join stu own b=some o:=by simp[join,h]
def fO {stu own:ISt}{b:Nat}(h:own b=none):join stu own b=stu b:=by simp[join,h]
def ix {stu own:ISt}(h:disj stu own):subSt stu (join stu own):=λb o D=>by
 cases A:own b with
 | none=>rw[fO A];exact D
 | some o'=>have:=h b (by rw[A];simp);rw[D] at this;cases this
def join_sub' {stu own:ISt}:subSt own (join stu own):=λ_ _ A=>eS A
def BZ {C:Cx}{X:WS}{stu own:ISt}{K:IV->ISt->Prop}{v:Value}{w':World}(hg:Good C X)(hst:X.st=join stu own)(hd:disj stu own)(h:ends C { X with st:=stu } K v w') :
  ends C X (λx st'=>∃J,disj J own/\st'=join J own/\K x J) v w':=by
 obtain⟨X',x,rfl,E,A,hv,hK⟩:=h;have U:∀b o,own b=some o->b<X.w.heap.size:=λb o D=>hg.lt (show X.st b=some o by rw[hst];exact eS D);have O:∀b o,own b=some o->X'.w.heap[b]?=X.w.heap[b]?/\X'.L b=X.L b:=λb o D=>A.keep b (U b o D) (hd b (by rw[D];simp));have aa:∀b o,own b=some o->X'.st b=none:=λb o D=>A.dom b (U b o D) (hd b (by rw[D];simp));refine⟨{ X' with st:=join X'.st own },x,rfl,⟨λb o D=>?_,E.gl,E.B,E.Lnew,E.gsh,E.dr⟩,⟨A.os,A.tape,A.output,A.size,A.lmono,A.cells,λb D hs=>?_,λb D hs=>?_,A.shape,A.d⟩,hv,X'.st,?_,rfl,hK⟩
 ·cases G:own b with
  | none =>
   have ab:X'.st b=some o:=by rw[<- fO (stu:=X'.st) G];exact D
   exact (E.ok b o ab).mono rfl rfl (λ_ _ hv=>hv)
  | some o' =>
   have:o'=o:=by have:=(eS (stu:=X'.st) G).symm.trans D;exact eE this
   subst this;have h1:=hg.ok b o' (by rw[hst];exact eS G);have h2:ObjOk C X' b o':=h1.mono (O b o' G).1 (O b o' G).2 (λ_ _ hv=>A.vl hv);exact h2.mono rfl rfl (λ_ _ hv=>hv)
 ·have h1:own b=none:=by
   cases G:own b with
   | none=>rfl
   | some o=>rw[hst,eS G] at hs;cases hs
  rw[hst,fO h1] at hs;exact A.keep b D hs
 ·have h1:own b=none:=by
   cases G:own b with
   | none=>rfl
   | some o=>rw[hst,eS G] at hs;cases hs
  rw[hst,fO h1] at hs;exact (fO h1).trans (A.dom b D hs)
 ·intro b D;cases G:own b with
  | none=>exact absurd G D
  | some o=>exact aa b o G
section
variable {P:Program}{gl:Nat->Option IV}
def ICall.frame {f:FuncId}{args:List IV}{stu own:ISt}{K:IV->ISt->Prop}(h:ICall P gl f args stu K)(hd:disj stu own) :
  ICall P gl f args (join stu own) (λx st'=>∃A,disj A own/\st'=join A own/\K x A):=by
 intro B X rs G hst hv;obtain⟨D,E⟩:=G.sub (st:=stu) (by rw[hst];exact ix hd);refine (h B { X with st:=stu } rs D rfl ⟨hv.1,λi r c J hc=>E.v (hv.2 i r c J hc)⟩).mono ?_;rintro e w' ⟨v,rfl,O⟩;exact⟨v,rfl,BZ G hst hd O⟩
def ICallV.frame {f:IV}{args:List IV}{stu own:ISt}{K:IV->ISt->Prop}(h:ICallV P gl f args stu K)(hd:disj stu own) :
  ICallV P gl f args (join stu own) (λx st'=>∃A,disj A own/\st'=join A own/\K x A):=by
 intro B X fv rs G hst O hv;obtain⟨E,D⟩:=G.sub (st:=stu) (by rw[hst];exact ix hd);exact (h B { X with st:=stu } fv rs E rfl (D.v O) ⟨hv.1,λi r c J hc=>D.v (hv.2 i r c J hc)⟩).mono λv w' U=>BZ G hst hd U
def ICallV.of_ICall {g:FuncId}{first A args:List IV}{st:ISt}{K:IV->ISt->Prop}(O:entI P g=true)(h:ICall P gl g (first++args++A) st K):ICallV P gl (.fn (.func g) first A) args st K:=by
 intro B X fv rs G hst J hv;obtain⟨U,cs,rfl,D,E⟩:=ja J;exact Bg O (h B X (U++rs++cs) G hst ((D.append hv).append E))
def VL.split {B:Nat}{L:Nat->Nat}{w:World}{rs:List Value}{c1 c2:List IV}(h:VL B L w rs (c1++c2)):∃r1 r2,rs=r1++r2/\VL B L w r1 c1/\VL B L w r2 c2:=by
 refine⟨rs.take c1.length,rs.drop c1.length,(el _ _).symm,?_,?_⟩
 ·have:=h.take c1.length
  rwa [List.take_left] at this
 ·have:=h.drop c1.length
  rwa [List.drop_left] at this
def qZ {g:FuncId}{first A args:List IV}{st:ISt}{K:IV->ISt->Prop}(D:entI P g=true)(h:ICallV P gl (.fn (.func g) first A) args st K):ICall P gl g (first++args++A) st K:=by
 intro B X rs U hst hv;obtain⟨O,r3,rfl,G,J⟩:=VL.split hv;obtain⟨r1,r2,rfl,h1,h2⟩:=VL.split G;have hc:=h B X (.func (.func g) ⟨r1⟩ ⟨r3⟩) r2 U hst (.fn (.func g) r1 first h1.1 h1.2 r3 A J.1 J.2) h2;unfold entI at D;cases E:P.funcs[g]? with
 | none=>simp[E] at D
 | some fn =>
  simp only[E,bAt,bne_iff_ne,ne_eq] at D;have hb:¬ fn.body.isNone=true:=by
   have:=D.2;cases hq:fn.body<;>simp_all
  have hr:(do let d <- Deferred.ofValue (.func (.func g) ⟨r1⟩ ⟨r3⟩) ⟨r2⟩;invoke d.target d.args:Sem Next).run P X.w=.ok (.enter g ⟨r1++r2++r3⟩) X.w:=by
   simp only[Deferred.ofValue,dt,dv,dq,invoke,callFunc,run_program,E];rw[a_ (by simpa using D.1),a_ hb];simp
  unfold CallsVal at hc;grind
def lF {f:Fn}{first A args:List IV}{st:ISt}{K:IV->ISt->Prop}(D:∀g,f=.func g->entI P g=true)(h:ICallV P gl (.fn f first A) args st K):callV P gl f first A args st K:=by
 unfold callV;split
 ·rw[cV (D _ rfl)];exact qZ (D _ rfl) h
 ·exact h
def IsFn (P:Program)(y:IV):Prop:=∃f first A,y=.fn f first A/\fnOk f=true/\∀g,f=.func g->entI P g=true
def B1 (P:Program)(gl:Nat->Option IV)(y:IV)(A:Nat->List IV->Prop)(I:Nat->ISt->Prop)(S:ISt->Prop):Prop :=
 ∀k a stu,A k a->I k stu->ICallV P gl y a stu λr st'=>(r=true/\I (k+1) st')\/(r=false/\S st')
def IterC (P:Program)(gl:Nat->Option IV)(g:FuncId)(first D:List IV)(E:Nat->List IV->Prop)(len:Nat)(I:Nat->ISt->Prop):Prop :=
 ∀(y:IV) (I':Nat->ISt->Prop) (S':ISt->Prop) (st:ISt),IsFn P y->(∀k stu,I' k stu->∃A,subSt A stu/\I k A)->B1 P gl y E I' S'->I' 0 st →
  ICall P gl g (first++[y]++D) st λ_ st'=>I' len st'\/S' st'
abbrev ISt.add (s e:ISt):ISt:=Go.Iv.join s e
abbrev ISt.disj (e s:ISt):Prop:=Go.Iv.disj s e
def nE {s e:ISt}{b:Nat}(h:e b=none):s.add e b=s b:=fO h
def lG {s e:ISt}{b:Nat}{o:Option IObj}(h:e b=none):(s.add e).put b o=(s.put b o).add e:=by
 funext c;by_cases hc:c=b
 ·subst hc;simp only[ISt.put_apply,join,h,dD]
 ·simp only[ISt.put_apply,join,a_ hc]
def ISt.disj.put {e s:ISt}(h:e.disj s){b:Nat}{o:Option IObj}(A:e b=none):e.disj (s.put b o):=λc hc=>by
 rw[ISt.put_apply,a_ (by rintro rfl;exact hc A)];exact h c hc
def ISt.disj.off {e s:ISt}(h:e.disj s){b:Nat}{o:IObj}(hs:s b=some o):e b=none:=by
 cases A:e b with
 | none=>rfl
 | some o'=>have:=h b (by rw[A];simp);rw[hs] at this;cases this
def YieldL (P:Program)(gl:Nat->Option IV)(y:IV)(lk:Nat->List IV->ISt->Prop)(I:Nat->ISt->Prop)(S:ISt->Prop):Prop :=
 ∀k a e stu,lk k a e->e.disj stu->I k stu->ICallV P gl y a (stu.add e) λr st'=>(r=true/\∃s1,I (k+1) s1/\e.disj s1/\st'=s1.add e)\/(r=false/\S st')
def IterL (P:Program)(gl:Nat->Option IV)(g:FuncId)(first D:List IV)(lk:Nat->List IV->ISt->Prop)(len:Nat)(I:Nat->ISt->Prop):Prop :=
 ∀(y:IV) (I':Nat->ISt->Prop) (S':ISt->Prop) (st:ISt),IsFn P y->(∀k stu,I' k stu->∃A,subSt A stu/\I k A)->YieldL P gl y lk I' S'->I' 0 st →
  ICall P gl g (first++[y]++D) st λ_ st'=>I' len st'\/S' st'
def IterU (P:Program)(gl:Nat->Option IV)(g:FuncId)(first E:List IV)(lk:Nat->List IV->ISt->Prop)(len:Nat)(I:Nat->ISt->Prop)(up:Nat->List (Value×IV)->List (Value×IV)->Prop):Prop :=
 ∀(y:IV) (I':Nat->ISt->Prop) (S':ISt->Prop) (st:ISt),IsFn P y->(∀k stu,I' k stu->∃A,subSt A stu/\I k A)->(∀k stu m kk es D,I' k stu->stu m=some (.map kk es)->up m es D->I' k (stu.put m (some (.map kk D))))->YieldL P gl y lk I' S'->I' 0 st →
  ICall P gl g (first++[y]++E) st λ_ st'=>I' len st'\/S' st'
def noUp (_:Nat)(_ _:List (Value×IV)):Prop:=False
def B2 {σ:Type}(P:Program)(gl:Nat->Option IV)(y:IV)(lk:σ->List IV->ISt->σ->Prop)(I:σ->ISt->Prop)(S:ISt->Prop):Prop :=
 ∀k a e A stu,lk k a e A->e.disj stu->I k stu->ICallV P gl y a (stu.add e) λr st'=>(r=true/\∃s1,I A s1/\e.disj s1/\st'=s1.add e)\/(r=false/\S st')
def B3 {σ:Type}(P:Program)(gl:Nat->Option IV)(g:FuncId)(first E:List IV)(lk:σ->List IV->ISt->σ->Prop)(k0:σ)(G:σ->Prop)(I:σ->ISt->Prop)(up:Nat->List (Value×IV)->List (Value×IV)->Prop):Prop :=
 ∀(y:IV) (I':σ->ISt->Prop) (S':ISt->Prop) (st:ISt),IsFn P y->(∀k stu,I' k stu->∃A,subSt A stu/\I k A)->(∀k stu m kk es D,I' k stu->stu m=some (.map kk es)->up m es D->I' k (stu.put m (some (.map kk D))))->B2 P gl y lk I' S'->I' k0 st →
  ICall P gl g (first++[y]++E) st λ_ st'=>(∃k,G k/\I' k st')\/S' st'
def tG (lk:Nat->List IV->ISt->Prop)(k:Nat)(a:List IV)(e:ISt)(A:Nat):Prop:=lk k a e/\A=k+1
def IterU.toH {P:Program}{gl:Nat->Option IV}{g:FuncId}{first A:List IV}{lk:Nat->List IV->ISt->Prop}{len:Nat}{I:Nat->ISt->Prop}{up:Nat->List (Value×IV)->List (Value×IV)->Prop}(h:IterU P gl g first A lk len I up):B3 P gl g first A (tG lk) 0 (·=len) I up :=
 λy I' S' st U hI G E h0=>(h y I' S' st U hI G (λk a e stu O hd D=>E k a e (k+1) stu ⟨O,rfl⟩ hd D) h0).mono λr st' J=>J.imp (λD=>⟨len,rfl,D⟩) id
def IterL.up {P:Program}{gl:Nat->Option IV}{g:FuncId}{first A:List IV}{lk:Nat->List IV->ISt->Prop}{len:Nat}{I:Nat->ISt->Prop}(h:IterL P gl g first A lk len I):IterU P gl g first A lk len I noUp :=
 λy I' S' st E G _ D h0=>h y I' S' st E G D h0
def pA (A:Nat->List IV->Prop):Nat->List IV->ISt->Prop:=λk a e=>A k a/\e=λ_=>none
def IterC.lent {P:Program}{gl:Nat->Option IV}{g:FuncId}{first A:List IV}{D:Nat->List IV->Prop}{len:Nat}{I:Nat->ISt->Prop}(h:IterC P gl g first A D len I):IterL P gl g first A (pA D) len I :=
 λy I' S' st U hI E h0=>h y I' S' st U hI (λk a stu G O=>(E k a (λ_=>none) stu ⟨G,rfl⟩ (λb hb=>absurd rfl hb) O).mono λr st' J=>J.imp (λ⟨h1,s1,h2,h3,h4⟩=>⟨h1,h4▸h2⟩) id) h0
def ICallD (P:Program)(gl:Nat->Option IV)(f:FuncId)(args:List IV)(st:ISt)(K:IV->ISt->Prop):Prop :=
 ∀(B:Nat) (X:WS) (rs:List Value) (u:FrameMode),Good ⟨P,gl,B⟩ X->X.st=st->Cx.vl ⟨P,gl,B⟩ X rs args →
  CallsDIn Fence.wide 0 P f ⟨rs⟩ u X.w λe A w'=>A=u/\∃v,e=.returned v/\ends ⟨P,gl,B⟩ X K v w'
def ICallD.mono {f:FuncId}{args:List IV}{st:ISt}{K K':IV->ISt->Prop}(h:ICallD P gl f args st K)(E:∀x st,K x st->K' x st):ICallD P gl f args st K' :=
 λB X rs u G hst hv=>(h B X rs u G hst hv).mono λe J w' D=>⟨D.1,by
  obtain⟨v,A,h⟩:=D.2;exact⟨v,A,vI h E⟩⟩
end
def pB:SV->IV
 | .iv x=>x
 | .box _=>.junk
@[go_sem] def UH (x:IV):pB x=x:=(rfl)
def nF (fr:Fr):Fr:=λt=>(pB (fr t))
@[go_sem ↓] def UI (fr:Fr)(t:Nat):nF fr t=(pB (fr t)):=(rfl)
def kF (fr:Fr):List (Nat×IV)->Fr
 | []=>fr
 | p::l=>kF (fr.put p.1 p.2) l
@[go_sem ↓] def UJ (fr:Fr):kF fr []=fr:=(rfl)
@[go_sem ↓] def UK (fr:Fr)(t:Nat)(x:IV)(l:List (Nat×IV)):kF fr ((t,x)::l)=kF (fr.put t x) l:=(rfl)
def wN (R:Exit->ISt->Prop):Kc:=λe _ st ds=>chk (ds=[]) (R e st)
@[go_sem ↓] def UL (R:Exit->ISt->Prop)(e:Exit)(fr:Fr)(st:ISt)(ds:List Dfd):wN R e fr st ds=chk (ds=[]) (R e st):=(rfl)
def oy (A:Kc->Fr->ISt->List Dfd->Prop)(R:Exit->ISt->Prop):Kc
 | .normal,fr,st,ds=>chk (ds=[]) (A (wN R) fr st [])
 | _,_,_,_=>False
@[go_sem ↓] def UM (A:Kc->Fr->ISt->List Dfd->Prop)(R:Exit->ISt->Prop)(fr:Fr)(st:ISt)(ds:List Dfd):oy A R .normal fr st ds=chk (ds=[]) (A (wN R) fr st []):=(rfl)
def pC (I:ISt->Prop)(S:Exit->ISt->Prop):Exit->ISt->Prop
 | .normal,st=>I st
 | .ret,st=>S .ret st
 | .exit id,st=>S (.exit id) st
 | .goto t,st=>S (.goto t) st
 | _,_=>False
@[go_sem ↓] def UN (I:ISt->Prop)(S:Exit->ISt->Prop)(st:ISt):pC I S .normal st=I st:=(rfl)
@[go_sem ↓] def UO (I:ISt->Prop)(S:Exit->ISt->Prop)(st:ISt):pC I S .ret st=S .ret st:=(rfl)
def wO (P:Program)(gl:Nat->Option IV)(f:Fn)(first G:List IV)(n:Nat)(A:List IV->ISt->(Exit->ISt->Prop)->Prop)(Q:Exit->ISt->Nat->Prop)(st:ISt)(_:Lock A)(_:Lock Q):Prop :=
 ∃g,f=.func g/\entI P g=true/\∃(σ:Type) (lk:σ->List IV->ISt->σ->Prop) (k0:σ) (D:σ->Prop) (I:σ->ISt->Prop) (S:Exit->ISt->Prop) (up:Nat->List (Value×IV)->List (Value×IV)->Prop),(∀k s m kk es E,I k s->s m=some (.map kk es)->up m es E->I k (s.put m (some (.map kk E))))/\(∀k a e J,lk k a e J->a.length=n)/\I k0 st /\
  (∀k a e J s,lk k a e J->e.disj s->I k s->A a (s.add e) (pC (λs'=>∃s1,I J s1/\e.disj s1/\s'=s1.add e) S))/\B3 P gl g first G lk k0 D I up/\(∀k st' r,D k->I k st'->Q .normal st' r)/\(∀e st' r,S e st'->Q e st' r)
def vcC:Cf->Code->Kc->Fr->ISt->List Dfd->Prop
 | _,.skip,Q,fr,st,ds=>Q .normal fr st ds
 | c,.region _ ops false,Q,fr,st,ds=>fU { c with dr:=false } ops.toList ops.toList (Q .normal) Ad.none_ fr st ds
 | c,.region id ops true,Q,fr,st,ds=>lE c ops (lD c.ord id) (Q .normal) fr st ds
 | c,.seq a b,Q,fr,st,ds=>vcC c a (seqK (vcC c b Q) Q) fr st ds
 | c,.cond x a b,Q,fr,st,ds=>dp (evV c.gl fr x) λv=>kR v λt=>jb t (vcC c a Q fr st ds) (vcC c b Q fr st ds) .mk .mk
 | c,.block id a,Q,fr,st,ds=>vcC c a (ow id Q) fr st ds
 | c,.loop a,Q,fr,st,ds=>LoopV (λfr st ds Q=>vcC c a Q fr st ds) Q fr st ds .mk .mk
 | c,.rangeFunc g ps D b,Q,fr,st,ds=>if c.rd=true then False else dp (evV c.gl fr g) λv=>fnV v λf first A =>
   wO c.P c.gl f first A ps.size (λE st' R=>vcC { c with rd:=true } D (oy (vcC { c with rd:=true } b) R) (kF (nF fr) (ps.toList.zip E)) st' []) (λe st' r=>Q e fr st' (.coll r::ds)) st .mk .mk
 | _,.exit id,Q,fr,st,ds=>Q (.exit id) fr st ds
 | c,.scope a,Q,fr,st,ds=>if c.rd=true then False else vcC c a (vL Q) fr st ds
 | _,.label _,Q,fr,st,ds=>Q .normal fr st ds
 | _,.goto l,Q,fr,st,ds=>Q (.goto l) fr st ds
 | _,.ret,Q,fr,st,ds=>Q .ret fr st ds
 | _,_,_,_,_,_=>False
def tH {p:Nat->Prop}(h:∃m,p m):∃m,p m/\∀k,p k->m<=k:=by
 obtain⟨m,D⟩:=h
 induction m using Nat.strongRecOn with
 | _ m A =>
  grind
open Classical in
noncomputable def least (p:Nat->Prop):Nat:=if h:∃m,p m then (tH h).choose else 0
def least_spec {p:Nat->Prop}(h:∃m,p m):p (least p)/\∀k,p k->least p<=k:=by
 unfold least;grind
def JU {F:Fence}{n:Nat}{P:Program}{c:Code}{Q:Exit->Act->World->Prop}{a:Act}{w:World}(J:Nat->Act->World->Prop)(h0:∃m,J m a w)
  (A:∀m a w,J m a w->c.wpIn F n P (Exit.then (λa' w'=>∃D,D<m/\J D a' w') Q) a w):(Code.loop c).wpIn F n P Q a w:=by
 refine wpIn_loop (λa w=>∃m,J m a w) (λa w=>least λm=>J m a w) h0 (λa w hI=>?_);obtain⟨U,_⟩:=least_spec hI;refine fN (A _ a w U) (λe a' w' O=>?_);cases e with
 | normal =>
  obtain⟨D,E,G⟩:=O;exact⟨⟨D,G⟩,Nat.lt_of_le_of_lt ((least_spec ⟨D,G⟩).2 D G) E⟩
 | _=>exact O
def codeOk (c:Cf)(N:Nat):Code->Bool
 | .region id ops dr=>(ops.toList.all λo=>match o.dst with|some d=>decide (d<N)|none=>true)&&(!dr || (c.P.follows .mixedOrders&&(anyO (lD c.ord id) || wL c.esc ops (qY (lD c.ord id) ops.size))))
 | .seq a b=>codeOk c N a&&codeOk c N b
 | .cond _ a b=>codeOk c N a&&codeOk c N b
 | .block _ a=>codeOk c N a
 | .loop a=>codeOk c N a
 | .scope a=>codeOk c N a
 | .rangeFunc _ ps a b=>ps.toList.all (λd=>decide (d<N))&&codeOk c N a&&codeOk c N b
 | _=>true
def lH {c:Cf}{N:Nat}(r:Bool):∀(A:Code),codeOk { c with rd:=r } N A=codeOk c N A
 | .region _ _ _=>rfl
 | .seq a b=>by rw[codeOk,codeOk,lH r a,lH r b]
 | .cond _ a b=>by rw[codeOk,codeOk,lH r a,lH r b]
 | .block _ a=>by rw[codeOk,codeOk,lH r a]
 | .loop a=>by rw[codeOk,codeOk,lH r a]
 | .scope a=>by rw[codeOk,codeOk,lH r a]
 | .rangeFunc _ _ a b=>by rw[codeOk,codeOk,lH r a,lH r b]
 | .skip=>rfl
 | .exit _=>rfl
 | .label _=>rfl
 | .goto _=>rfl
 | .ret=>rfl
 | .refuse _=>rfl
def eN (st:ISt)(b:Nat)(x y:Option IObj):(st.put b x).put b y=st.put b y:=by
 funext c;simp only[ISt.put_apply];split<;>rfl
def jo {st:ISt}{b:Nat}{x:Option IObj}(h:st b=x):st.put b x=st:=by
 funext c;simp only[ISt.put_apply];split
 ·grind
 ·rfl
def tI (X:WS)(g:Nat)(o:Obj)(so:Option IObj):(X.obj g o so).st=X.st.put g so:=rfl
def nG {C:Cx}{X:WS}{n0:Nat}:∀ {ps:List Nat} {rs:List Value} {A:List IV} {fr:Fr} {ts:Array Value},FrOk C X n0 fr ts->(∀p∈ps,p<ts.size)->C.vl X rs A->ps.length=A.length →
  FrOk C X n0 (kF fr (ps.zip A)) ((ps.zip rs).foldl (λt p=>t.setIfInBounds p.1 p.2) ts)
 | [],rs,A,fr,ts,h,_,_,_=>h
 | p::ps,[],A,fr,ts,h,_,hv,hl=>by
  have:=hv.1;grind
 | p::ps,r::rs,[],fr,ts,h,_,hv,hl=>by cases hl
 | p::ps,r::rs,a::A,fr,ts,h,hp,hv,hl=>by
  have E:C.v X r a:=hv.2 0 r a rfl rfl;have D:C.vl X rs A:=⟨by simpa using hv.1,λi x c G hc=>hv.2 (i+1) x c (by simpa using G) (by simpa using hc)⟩
  have:=nG (ps:=ps) (h.put (hp p (by simp)) E) (λq J=>by rw[lb];exact hp q (.tail _ J)) D (by simpa using hl);simpa only[List.zip_cons_cons,jB,kF] using this
def wP:∀(l:List (Nat×Value))(ts:Array Value),(l.foldl (λt p=>t.setIfInBounds p.1 p.2) ts).size=ts.size
 | [],ts=>rfl
 | p::l,ts=>by rw[jB,wP l];simp
def B4:Exit->Option Code
 | .ret=>some .ret
 | .exit id=>some (.exit id)
 | .goto t=>some (.goto t)
 | _=>none
section
variable {C:Cx}{X Y Z:WS}{l:Nat}{r r':Loop}
def iN (c:Array Value)(T:TypeId)(f:Nat×Nat):Obj.loop r≠.cells c T f:=by intro h;cases h
def Ext.both (h:Ext X Y)(D:X.w.heap[l]?=some (.loop r))(hs:X.st l=none):Ext (X.obj l (.loop r') none) (Y.obj l (.loop r') none):=by
 have O:=(iF.1 D).1;obtain⟨U,hL⟩:=h.keep l O hs;have J:Y.w.heap[l]?=some (.loop r):=U.trans D;refine⟨h.os,h.tape,h.output,?_,h.lmono,λb i hi=>?_,λb G E=>?_,λb G E=>?_,λb p hp=>?_,h.d⟩
 ·simp only[WS.obj,lb];exact h.size
 ·rw[qQ J iN iN,qQ D iN iN];exact h.cells b i hi
 ·simp only[WS.obj,lb] at G;by_cases A:b=l
  ·subst A;exact⟨(nA J).trans (nA D).symm,hL⟩
  ·have:X.st b=none:=by simpa only[WS.obj,a_ A] using E
   rw[jV J A,jV D A];exact h.keep b G this
 ·simp only[WS.obj,lb] at G;by_cases A:b=l
  ·subst A;simp[WS.obj]
  ·have:X.st b=none:=by simpa only[WS.obj,a_ A] using E
   simp only[WS.obj,a_ A];exact h.dom b G this
 ·refine qR J iN b p (h.shape b p ?_);by_cases A:b=l
  ·subst A;have:=nA (so:=none) (o':=.loop r') D;simp[shq,this] at hp
  ·rw[np (jV D A)] at hp;exact hp
def q_ {J:IObj}(O:X.w.heap[l]?=some (.loop r))(hs:X.st l=some J)(hL:X.L l=0)(h:Ext ({ X with st:=X.st.put l none }.obj l (.loop r') none) Y):Ext X Y:=by
 have E:({ X with st:=X.st.put l none }:WS).w.heap[l]?=some (.loop r):=O;refine⟨h.os,h.tape,h.output,?_,h.lmono,λb i U=>?_,λb G A=>?_,λb G A=>?_,λb p hp=>?_,h.d⟩
 ·have:=h.size;simpa only[WS.obj,lb] using this
 ·rw[h.cells b i U];exact qQ E iN iN b i
 ·have D:b≠l:=by rintro rfl;rw[hs] at A;cases A
  have h1:=h.keep b (by simpa only[WS.obj,lb] using G) (by simp only[WS.obj,a_ D,ISt.put_apply];exact A);rw[jV E D] at h1;exact h1
 ·have D:b≠l:=by rintro rfl;rw[hs] at A;cases A
  exact h.dom b (by simpa only[WS.obj,lb] using G) (by simp only[WS.obj,a_ D,ISt.put_apply];exact A)
 ·exact h.shape b p (qR E iN b p hp)
def Inv.both {N:Nat}{fr:Fr}{a:Act}(h:Inv C X N Y fr [] a)(J:X.w.heap[l]?=some (.loop r))(hs:X.st l=none):Inv C (X.obj l (.loop r') none) N (Y.obj l (.loop r') none) fr [] a:=by
 have D:=(iF.1 J).1;have G:Y.w.heap[l]?=some (.loop r):=(h.ext.keep l D hs).1.trans J;have A:=h.ext.dom l D hs;have O:∀i,none=some i->ObjOk C (Y.obj l (.loop r') none) l i:=λi hi=>by cases hi
 refine⟨h.good.obj G iN iN O,h.ext.both J hs,⟨λt=>?_,h.fr.inj⟩,h.size,?_⟩
 ·have h0:(X.obj l (.loop r') none).w.heap.size=X.w.heap.size:=by simp[WS.obj]
  rw[h0];refine (h.fr.slot t).mono (λ_ _=>mH G iN iN) ?_;intro b cs hb hr h1 h2 h3;have E:b≠l:=by
   rintro rfl;have A:=h.fr.slot t;rw[hb] at A;obtain⟨b',c,T,U,ab,_⟩:=A;grind
  exact⟨jV G E,rfl,by simp only[WS.obj,a_ E];exact h1⟩
 ·have:=h.ds;generalize a.defers=ae at this ⊢;cases this;exact .nil
end
abbrev recI (fr:Fr):Nat->IV:=λt=>pB (fr t)
def JV {c:Cf}{B:Nat}{X0 X:WS}{N:Nat}{n:Nat}{g:Operand}{ps:Array Tmp}{D body:Code}{Q:Kc}{fr:Fr}{ds:List Dfd}{a:Act}(cm:∀p∈ps.toList,p<N)
  (b9:∀(B:Nat) (X0 X:WS) (l:Nat) (Q:Kc) (fr:Fr) (ds:List Dfd) (a:Act),Inv (c.cx B) X0 N X fr ds a->vcC { c with rd:=true } D Q fr X.st ds->D.wpIn (eF (some l)) 0 c.P (PQ (c.cx B) X0 N Q) a X.w)
  (b8:∀(B:Nat) (X0 X:WS) (l:Nat) (Q:Kc) (fr:Fr) (ds:List Dfd) (a:Act),Inv (c.cx B) X0 N X fr ds a->vcC { c with rd:=true } body Q fr X.st ds->body.wpIn (eF (some l)) 0 c.P (PQ (c.cx B) X0 N Q) a X.w)
  (hI:Inv (c.cx B) X0 N X fr ds a) {v:IV} (cv:evV c.gl fr g=some v) {f:Fn} {first aO:List IV} (hv:v=.fn f first aO)
  (h:wO c.P c.gl f first aO ps.size (λaL st' R=>vcC { c with rd:=true } D (oy (vcC { c with rd:=true } body) R) (kF (nF fr) (ps.toList.zip aL)) st' []) (λe st' r=>Q e fr st' (.coll r::ds)) X.st .mk .mk) :
  (Code.rangeFunc g ps D body).wpIn (eF none) n c.P (PQ (c.cx B) X0 N Q) a X.w:=by
 obtain⟨gf,rfl,he,σ,lk,k0,cU,I,S,up,cd,ca,h0,aw,aY,cA,cz⟩:=h;subst hv;have cc:=(pg (C:=c.cx B) (X:=X) hI.good hI.fr cv).1;obtain⟨fs,cs,eg,bM,bS⟩:=ja cc;refine wpIn_rangeFunc ?_;intro fn _;obtain⟨rec,A⟩:∃rec:Loop,rec={ state:=.ready,pending:=none,fn:=fn,tmps:=a.tmps,params:=ps,assign:=D,body:=body,defers:=X.w.heap.size }:=⟨_,rfl⟩
 have bt:X.st X.w.heap.size=none:=by
  cases hs:X.st X.w.heap.size with
  | none=>rfl
  | some o=>have:=hI.good.lt hs;omega
 have bs:X.st (X.w.heap.size+1)=none:=by
  cases hs:X.st (X.w.heap.size+1) with
  | none=>rfl
  | some o=>have:=hI.good.lt hs;omega
 -- af two new b6
 obtain⟨X1,ab⟩:∃X1,X1=X.new (.deferred (some [])) 0 none:=⟨_,rfl⟩
 have ak:Inv (c.cx B) X0 N X1 fr ds a:=by rw[ab];exact hI.new _ _ _ (λi hi=>by cases hi)
 have bo:X1.w.heap.size=X.w.heap.size+1:=by rw[ab];simp[WS.new]
 obtain⟨l,hl⟩:∃l,l=X1.w.heap.size:=⟨_,rfl⟩
 have bG:l=X.w.heap.size+1:=hl.trans bo;have aS:X1.st=X.st:=by
  rw[ab];funext b;simp only[WS.new];split
  ·grind
  ·rfl
 obtain⟨X2,aA⟩:∃X2,X2=X1.new (.loop rec) 0 (some (.loop rec (recI fr))):=⟨_,rfl⟩
 have bk:∀t,(c.cx B).v X1 (rec.tmps.getD t undef) (recI fr t):=λt=>by
  have hs:=ak.fr.slot t;rw[A];show (c.cx B).v X1 (tm a.tmps t) (pB (fr t));cases hf:fr t with
  | iv x=>rw[hf] at hs;exact hs
  | box cs=>exact .junk _
 have bX:Inv (c.cx B) X0 N X2 fr ds a:=by
  rw[aA];refine ak.new _ _ _ (λi hi=>?_);cases hi;have bN:=ak.good.new_ext (.loop rec) 0 (some (.loop rec (recI fr)));exact⟨by simp[WS.new],iL _ _,λt=>bN.v (bk t)⟩
 have aF:X2.st=X.st.put l (some (.loop rec (recI fr))):=by
  rw[aA,<- aS];funext b;simp only[WS.new,ISt.put_apply,hl]
 have bn:X2.w=(X.w.alloc (.deferred (some []))).alloc (.loop rec):=by rw[aA,ab];rfl
 have bZ:X2.w.heap[X.w.heap.size]?=some (.deferred (some [])):=by
  rw[bn,qD _ _ (by simp)];exact iL _ _
 have aK:X2.st X.w.heap.size=none:=by
  rw[aF,ISt.put_apply,a_ (by omega)];exact bt
 -- af b1 of af b2
 obtain⟨I',ac⟩:∃I':σ->ISt->Prop,I'=λk stu=>stu l=some (.loop rec (recI fr))/\I k (stu.put l none):=⟨_,rfl⟩
 obtain⟨S',bT⟩:∃S':ISt->Prop,S'=λstu=>∃e cj,B4 e=some cj/\stu l=some (.loop { rec with state:=.done,pending:=some cj } (recI fr))/\S e (stu.put l none):=⟨_,rfl⟩
 have av:B2 c.P c.gl (.fn (.yield l) [] []) lk I' S':=by
  intro k aL le k2 stu hk hd hi B' X3 fv rs bK aE cu aT;rw[ac] at hi;obtain⟨bu,cq⟩:=hi;have U:le l=none:=hd.off bu;obtain⟨cG,cs',rfl,bL,bR⟩:=ja cu;obtain rfl:cG=[]:=eG bL.1;obtain rfl:cs'=[]:=eG bR.1;have ag:X3.st l=some (.loop rec (recI fr)):=by rw[aE,nE U];exact bu
  obtain⟨bV,aZ,aD⟩:=bK.ok l _ ag;have bF:rs.length=ps.size:=by rw[aT.1];exact ca k aL le k2 hk
  have bw:(do let d <- Deferred.ofValue (.func (.yield l) ⟨[]⟩ ⟨[]⟩) ⟨rs⟩;invoke d.target d.args:Sem Next).run c.P X3.w =
    .ok (.round l rec.fn ((rec.params.zip ⟨rs⟩).foldl (λtmps (t,a)=>tmps.setIfInBounds t a) rec.tmps) rec.assign rec.body) X3.w:=by
   have:=run_yield (P:=c.P) (args:=⟨rs⟩) aZ (by rw[A];simpa using bF);simp only[Deferred.ofValue,dt,dv,dq,invoke];grind
  unfold CallsVal;rw[bw];refine⟨rfl,?_⟩;obtain⟨aQ,J⟩:∃t,t=(rec.params.zip ⟨rs⟩).foldl (λ(tmps:Array Value) (p:Tmp×Value)=>tmps.setIfInBounds p.1 p.2) rec.tmps:=⟨_,rfl⟩
  have htl:aQ=(ps.toList.zip rs).foldl (λt p=>t.setIfInBounds p.1 p.2) a.tmps:=by
   rw[J,A,<- Array.foldl_toList];simp
  have ck:rec.assign=D:=by rw[A]
  have ci:rec.body=body:=by rw[A]
  rw[ck,ci];change RoundIn Fence.wide 0 c.P l rec.fn ((rec.params.zip ⟨rs⟩).foldl (λ(tmps:Array Value) (p:Tmp×Value)=>tmps.setIfInBounds p.1 p.2) rec.tmps) D body X3.w _;rw[<- J,htl]
  -- af bh frame
  obtain⟨Xc,aa⟩:∃Xc:WS,Xc={ X3 with st:=X3.st.put l none }:=⟨_,rfl⟩
  have bp:subSt (X3.st.put l none) X3.st:=λb o hb=>by
   rw[ISt.put_apply] at hb;grind
  obtain⟨bI,a1⟩:=bK.sub bp;rw[<- aa] at bI a1;have aJ:Xc.w=X3.w:=by rw[aa]
  have ax:Xc.w.heap[l]?=some (.loop rec):=by rw[aJ];exact aZ
  have aV:Xc.st l=none:=by rw[aa];exact b_ _ _ _
  have cC:Inv (c.cx B') Xc N Xc (kF (nF fr) (ps.toList.zip aL)) [] { tmps:=(ps.toList.zip rs).foldl (λt p=>t.setIfInBounds p.1 p.2) a.tmps,defers:=[] }:=by
   refine⟨bI,Ext.refl _,nG ⟨λt=>?_,λt t' cs cs' ht=>by cases ht⟩ (λp hp=>by rw[hI.size];exact cm p hp) ⟨aT.1,λi r x hr hx=>a1.v (aT.2 i r x hr hx)⟩ ?_,?_,.nil⟩
   ·have:=aD t;rw[A] at this;exact a1.v this
   ·grind
   ·simp only[wP];exact hI.size
  have bx:=aw k aL le k2 (stu.put l none) hk (hd.put U) cq;have bq:Xc.st=(stu.put l none).add le:=by rw[aa,<- lG U,<- aE]
  rw[<- bq] at bx;have bm:=b9 B' Xc Xc l _ _ _ _ cC bx;rw[aJ] at bm;refine roundIn_of_wpIn trivial (fN bm ?_);rintro e a6 w6 ⟨X6,cT,cX,rfl,aB,hq⟩;cases e with
  | normal =>
   obtain⟨bQ,hq⟩:=hq;subst bQ;have bD:l<Xc.w.heap.size:=(iF.1 ax).1;have cr:X6.w.heap[l]?=some (.loop rec):=(aB.ext.keep l bD aV).1.trans ax;have ce:X6.st l=none:=aB.ext.dom l bD aV;refine⟨(X6.obj l (.loop { rec with state:=.busy }) none).w,run_beginRound cr (by rw[A]),?_⟩;have cD:=aB.both (r':={ rec with state:=.busy }) ax aV;have br:(X6.obj l (.loop { rec with state:=.busy }) none).st=X6.st:=by rw[tI];exact jo ce
   rw[<- br] at hq;have cK:a6.defers=[]:=by
    have:=aB.ds;generalize a6.defers=cY at this;cases this;rfl
   have cb:=b8 B' _ _ l _ _ _ _ cD hq;refine fN cb ?_;rintro e a8 w8 ⟨X8,cS,cW,rfl,aj,cJ,hR⟩;have bH:(Xc.obj l (.loop { rec with state:=.busy }) none).w.heap[l]?=some (.loop { rec with state:=.busy }):=nA ax;have aU:(Xc.obj l (.loop { rec with state:=.busy }) none).st l=none:=by rw[tI];exact b_ _ _ _
   have ah:l<(Xc.obj l (.loop { rec with state:=.busy }) none).w.heap.size:=(iF.1 bH).1;have ai:X8.w.heap[l]?=some (.loop { rec with state:=.busy }):=(aj.ext.keep l ah aU).1.trans bH;have aW:X8.st l=none:=aj.ext.dom l ah aU;have cB:X8.L l=0:=(aj.ext.keep l ah aU).2.trans (by rw[aa];exact bV);have bO:Ext X3 X8:=q_ aZ ag bV (by rw[<- aa];exact aj.ext)
   -- af b4 is set cL
   have aM:∀(r9:Loop) (b:Bool),r9.tmps=rec.tmps->((b=true/\∃s1,I' k2 s1/\le.disj s1/\X8.st.put l (some (.loop r9 (recI fr)))=s1.add le)\/(b=false/\S' (X8.st.put l (some (.loop r9 (recI fr)))))) →
     ends (c.cx B') X3 (λr st'=>(r=true/\∃s1,I' k2 s1/\le.disj s1/\st'=s1.add le)\/(r=false/\S' st')) (.bool b) (X8.w.putObj l (.loop r9)):=by
    intro r9 b ht cQ;have aH:Ext X3 (X8.obj l (.loop r9) (some (.loop r9 (recI fr)))):=bO.obj ai iN iN (.inr (by rw[ag];simp));refine⟨X8.obj l (.loop r9) (some (.loop r9 (recI fr))),.raw (.bool b),rfl,aj.good.obj ai iN iN (λi hi=>?_),aH,.raw _ trivial,?_⟩
    ·cases hi;exact⟨cB,nA ai,λt=>by rw[ht];exact aH.v (aD t)⟩
    ·rw[tI];grind
   have bA:∀o,(X8.st.put l o).put l none=X8.st:=λo=>by rw[eN];exact jo aW
   have stop:∀e cj,B4 e=some cj->S e X8.st->∃v w',(Instr.endRound l (some cj)).run c.P X8.w=.ok v w'/\∃v',Ending.returned v=.returned v' /\
     ends (c.cx B') X3 (λr st'=>(r=true/\∃s1,I' k2 s1/\le.disj s1/\st'=s1.add le)\/(r=false/\S' st')) v' w':=by
    intro e cj hj hS;refine⟨_,_,run_endRound (some cj) ai,_,rfl,aM { rec with state:=.done,pending:=some cj } false rfl (.inr ⟨rfl,?_⟩)⟩;rw[bT];exact⟨e,cj,hj,b_ _ _ _,by rw[bA];exact hS⟩
   cases e with
   | normal =>
    have cP:({ { rec with state:=.busy } with state:=.ready,pending:=none }:Loop)=rec:=by rw[A]
    refine⟨_,_,run_endRound none ai,_,rfl,?_⟩;obtain⟨s1,cy,cw,bU⟩:=hR;have cg:s1 l=none:=by rw[bU,nE U] at aW;exact aW
    have:=aM rec true rfl (.inl ⟨rfl,s1.put l (some (.loop rec (recI fr))),by rw[ac];exact⟨b_ _ _ _,by rw[eN,jo cg];exact cy⟩,cw.put U,by rw[bU,lG U]⟩);grind
   | ret=>exact stop .ret .ret rfl hR
   | exit id=>exact stop (.exit id) (.exit id) rfl hR
   | goto t=>exact stop (.goto t) (.goto t) rfl hR
   | panic ch=>exact hR.elim
   | outgrown=>exact hR.elim
  | _=>exact hq.elim
 have ba:=aY (.fn (.yield l) [] []) I' S' X2.st ⟨_,_,_,rfl,rfl,λg hg=>by cases hg⟩
  (λk stu hk=>by
   rw[ac] at hk;exact⟨stu.put l none,λb o hb=>by
    rw[ISt.put_apply] at hb;split at hb
    ·cases hb
    ·exact hb,hk.2⟩) (λk stu m kk es bc hk hm hu=>by
   rw[ac] at hk ⊢;have hml:m≠l:=by
    rintro rfl;rw[hk.1] at hm;cases hm
   refine⟨by simp only[ISt.put_apply,a_ (Ne.symm hml)];exact hk.1,?_⟩;have h1:(stu.put m (some (.map kk bc))).put l none=(stu.put l none).put m (some (.map kk bc)):=by
    funext c;simp only[ISt.put_apply];by_cases hc:c=l
    ·subst hc;rw[cV rfl,a_ (Ne.symm hml),cV rfl]
    ·rw[a_ hc,a_ hc]
   rw[h1];exact cd k _ m kk es bc hk.2 (by simp only[ISt.put_apply,a_ hml];exact hm) hu) av
  (by rw[ac,aF];exact⟨b_ _ _ _,by rw[eN,jo (by rw[bG];exact bs)];exact h0⟩)
 have ay:=bX.good;have aI:Ext X X2:=by
  rw[aA,ab];rw[ab] at ak;exact (hI.good.new_ext _ _ _).trans (ak.good.new_ext _ _ _)
 have az:=ba B X2 (fs++[.func (.yield l) ⟨[]⟩ ⟨[]⟩]++cs) ay rfl
  ((VL.append (VL.append ⟨bM.1,λi r x hr hx=>aI.v (bM.2 i r x hr hx)⟩ (VL.cons (.fn (.yield l) [] [] rfl (λi r x h=>by simp at h) [] [] rfl (λi r x h=>by simp at h)) VL.nil)) ⟨bS.1,λi r x hr hx=>aI.v (bS.2 i r x hr hx)⟩))
 have aG:=run_enterLoop_outer (P:=c.P) (w:=X.w) fn a.tmps ps D body;rw[<- A,<- bn,<- bG] at aG;have ct:∃G,c.P.funcs[gf]?=some G/\G.name ≠ "runtime.NumGoroutine" /\ ¬ G.body.isNone=true:=by
  unfold entI at he;cases hf:c.P.funcs[gf]? with
  | none=>simp[hf] at he
  | some G =>
   simp only[hf,bAt,bne_iff_ne,ne_eq] at he;exact⟨G,rfl,he.1,by have:=he.2;cases hq:G.body<;>simp_all⟩
 obtain⟨G,hf,cn,bb⟩:=ct;refine⟨l,[{ target:=.collected X.w.heap.size,args:=#[] }],X2.w,{ target:=.fn (.func gf) ⟨cs⟩,args:=⟨fs++[.func (.yield l) ⟨[]⟩ ⟨[]⟩]⟩ },X2.w,gf,⟨fs++[.func (.yield l) ⟨[]⟩ ⟨[]⟩]++cs⟩,X2.w,
  aG,?_,λ_ _=>trivial,?_,λh=>by simp[eF,Fence.wide] at h,?_⟩
 ·simp only[resolve,eg];simp[Deferred.ofValue,Act.eval]
 ·simp only[invoke,callFunc,dt,run_program,dq,hf];rw[a_ (by simpa using cn),a_ bb];simp
 ·refine Bf (az.mono ?_);rintro e w' ⟨v,rfl,X4,x,rfl,bJ,a7,_,hK⟩;have cE:Inv (c.cx B) X0 N X4 fr ds a:=bX.ext' a7 bJ;have al:X.w.heap.size<X2.w.heap.size:=(iF.1 bZ).1;have cF:X4.w.heap[X.w.heap.size]?=some (.deferred (some [])):=(a7.keep _ al aK).1.trans bZ;have bY:=a7.dom _ al aK
  -- b7 af call
  have aN:∀(r4:Loop),X4.st l=some (.loop r4 (recI fr))->X4.w.heap[l]?=some (.loop r4) /\
    Inv (c.cx B) X0 N (X4.obj l (.loop { r4 with state:=.exhausted }) none) fr (.coll X.w.heap.size::ds) { a with defers:={ target:=.collected X.w.heap.size,args:=#[] }::a.defers }:=by
   intro r4 O;obtain⟨_,E,_⟩:=bJ.ok l _ O;have h5:=cE.obj (o':=.loop { r4 with state:=.exhausted }) (so:=none) E iN iN (by rw[O];simp) (λi hi=>by cases hi);have bB:X.w.heap.size≠l:=by omega
   refine⟨E,h5.good,h5.ext,h5.fr,h5.size,.cons ⟨rfl,(jV E bB).trans cF,?_,hI.ext.size⟩ h5.ds (λr hr=>by cases hr;exact λhm=>nLi _ (hI.ds.lt hm))⟩;rw[tI,ISt.put_apply,a_ bB];exact bY
  rcases hK with hK|hK
  ·obtain⟨kf,co,hK⟩:=hK;rw[ac] at hK;obtain⟨O,bW⟩:=hK;obtain⟨E,h5⟩:=aN rec O;refine⟨none,_,(run_endLoop E (by rw[A];simp)).trans (dX (λp=>Result.ok p _) (show rec.pending=none by rw[A])),?_⟩;exact⟨_,fr,_,rfl,h5,cA kf _ _ co bW⟩
  ·rw[bT] at hK;obtain⟨e,cj,hj,O,hS⟩:=hK;obtain⟨E,h5⟩:=aN _ O;refine⟨some cj,_,run_endLoop E (by simp),?_⟩;have hq:PQ (c.cx B) X0 N Q e { a with defers:={ target:=.collected X.w.heap.size,args:=#[] }::a.defers } (X4.w.putObj l (.loop { { rec with state:=.done,pending:=some cj } with state:=.exhausted })):=⟨_,fr,_,rfl,h5,cz e _ _ hS⟩
   cases e with
   | ret=>cases hj;exact wpIn_ret hq
   | exit id=>cases hj;exact wpIn_exit hq
   | goto t=>cases hj;exact wpIn_goto hq
   | _=>cases hj
def tJ {N:Nat}:∀(O:Code) (c:Cf) (B:Nat) (X0:WS) (ro:Option Nat) (n:Nat),(c.rd=false->ro=none)->∀(Q:Kc) (X:WS) (fr:Fr) (ds:List Dfd) (a:Act),codeOk c N O=true →
  Inv (c.cx B) X0 N X fr ds a->vcC c O Q fr X.st ds->O.wpIn (eF ro) n c.P (PQ (c.cx B) X0 N Q) a X.w:=by
 intro O
 induction O with
 | skip=>intro c B X0 ro n A Q X fr ds a _ D h;exact wpIn_skip ⟨X,fr,ds,rfl,D,h⟩
 | region id ops ai =>
  intro c B X0 ro n A Q X fr ds a hd D h;simp only[codeOk,bAt,lf,lZ] at hd;have hN:∀o∈ops.toList,∀d,o.dst=some d->d<N:=λo ho d az=>by
   grind
  cases ai with
  | false=>exact Jf (c:={ c with dr:=false }) A hN D h
  | true =>
   have h2:=hd.2.resolve_left (by simp);exact JT A hN h2.1 (by rw[lf];exact h2.2) D h
 | seq x y ak aj =>
  intro c B X0 ro n A Q X fr ds a hd D h;simp only[codeOk,bAt] at hd;refine wpIn_seq (fN (ak c B X0 ro n A _ X fr ds a hd.1 D h) ?_);rintro e a' w' ⟨X',fr',E,rfl,G,U⟩;cases e with
  | normal=>exact aj c B X0 ro n A Q X' fr' E a' hd.2 G U
  | _=>exact⟨X',fr',E,rfl,G,U⟩
 | cond x p q am al =>
  intro c B X0 ro n A Q X fr ds a hd D h;simp only[codeOk,bAt] at hd;obtain⟨v,hv,h1⟩:=yQ3.1 h;obtain⟨t,rfl,h2⟩:=AZ h1;have he:=dK (pg (C:=c.cx B) D.good D.fr hv).1;exact wpIn_cond_split he (λht=>am c B X0 ro n A Q X fr ds a hd.1 D (h2.1 ht)) (λht=>al c B X0 ro n A Q X fr ds a hd.2 D (h2.2 ht))
 | block id p ih =>
  intro c B X0 ro n A Q X fr ds a hd D h;refine wpIn_block (fN (ih c B X0 ro n A _ X fr ds a hd D h) ?_);rintro e a' w' ⟨X',fr',E,rfl,G,U⟩;cases e with
  | exit id' =>
   simp only[ow] at U;simp only[Exit.inBlock];split at U
   ·rename_i hid;rw[cV hid];exact⟨X',fr',E,rfl,G,U⟩
   ·rename_i hid;rw[a_ hid];exact⟨X',fr',E,rfl,G,U⟩
  | _=>exact⟨X',fr',E,rfl,G,U⟩
 | loop p ih =>
  intro c B X0 ro n A Q X fr ds a hd D h;obtain⟨J,⟨m0,h0⟩,aa⟩:=h;refine JU (λm a w=>∃X fr ds,X.w=w/\Inv (c.cx B) X0 N X fr ds a/\J m fr X.st ds) ⟨m0,X,fr,ds,rfl,D,h0⟩ ?_;rintro m a' w' ⟨X',fr',E,rfl,G,hi⟩;refine fN (ih c B X0 ro n A _ X' fr' E a' hd G (aa m fr' X'.st E hi)) ?_;rintro e a2 w2 ⟨X2,ag,ah,rfl,af,U⟩;cases e with
  | normal =>
   obtain⟨m',aq,hj⟩:=U;exact⟨m',aq,X2,ag,ah,rfl,af,hj⟩
  | _=>exact⟨X2,ag,ah,rfl,af,U⟩
 | rangeFunc g ps aE p ao an =>
  intro c B X0 ro n A Q X fr ds a hd D h;simp only[codeOk,bAt,eP,dTe] at hd;change (if c.rd=true then False else _) at h;obtain⟨ab,h1⟩:=sX h;have ac:=A (by simpa using ab);subst ac;obtain⟨v,hv,h2⟩:=yQ3.1 h1;obtain⟨f,first,av,rfl,h3⟩:=vR h2;exact JV hd.1.1 (λB X0 X l Q fr ds a D h=>ao { c with rd:=true } B X0 (some l) 0 (λh=>by cases h) Q X fr ds a (by rw[lH];exact hd.1.2) D h)
   (λB X0 X l Q fr ds a D h=>an { c with rd:=true } B X0 (some l) 0 (λh=>by cases h) Q X fr ds a (by rw[lH];exact hd.2) D h) D hv rfl h3
 | exit id=>intro c B X0 ro n A Q X fr ds a _ D h;exact wpIn_exit ⟨X,fr,ds,rfl,D,h⟩
 | scope p ih =>
  intro c B X0 ro n A Q X fr ds a hd D h;change (if c.rd=true then False else _) at h;obtain⟨ab,h1⟩:=sX h;have ac:=A (by simpa using ab);subst ac;have:=ih c B X0 none n A (vL Q) X fr ds a hd D h1;refine wpIn_wide.2 (wp_scope_straight (wpIn_wide.1 (fN this ?_)));rintro e a' w' ⟨X',fr',E,rfl,G,U⟩;cases e with
  | goto l=>exact U.elim
  | _=>exact⟨X',fr',E,rfl,G,U⟩
 | label l=>intro c B X0 ro n A Q X fr ds a _ D h;exact wpIn_label ⟨X,fr,ds,rfl,D,h⟩
 | goto l=>intro c B X0 ro n A Q X fr ds a _ D h;exact wpIn_goto ⟨X,fr,ds,rfl,D,h⟩
 | ret=>intro c B X0 ro n A Q X fr ds a _ D h;exact wpIn_ret ⟨X,fr,ds,rfl,D,h⟩
 | refuse aw=>intro c B X0 ro n A Q X fr ds a _ D h;exact h.elim
