/- The layer of ideal values, part Pa: what -/
import Derived.Test.YtigeiecfkoimpaaGreatDoorJG
import Derived.Scope
set_option linter.all false
namespace Go.Iv
open Go
def subSt (st' st:ISt):Prop:=∀b o,st' b=some o->st b=some o
def subSt.refl (st:ISt):subSt st st:=λ_ _ h=>h
def subSt.trans {a b c:ISt}(h:subSt a b)(k:subSt b c):subSt a c:=λx o D=>k x o (h x o D)
def Good.sub {C:Cx}{X:WS}(h:Good C X){st:ISt}(hs:subSt st X.st):Good C { X with st:=st }/\Ext X { X with st:=st } :=
 ⟨⟨λb o D=>(h.ok b o (hs b o D)).mono rfl rfl (λ_ _ hv=>hv),h.gl,h.B,h.Lnew,h.gsh,h.dr⟩,
  ⟨rfl,rfl,rfl,dG _,λ_=>dG _,λ_ _ _=>rfl,λ_ _ _=>⟨rfl,rfl⟩,(λb _ D=>by
   cases E:st b with
   | none=>exact E
   | some o=>have:=hs b o E;rw[D] at this;cases this),λ_ _ hp=>hp,rfl⟩⟩
def join (stu own:ISt):ISt:=λb=>match own b with|some o=>some o|none=>stu b
def disj (stu own:ISt):Prop:=∀b,own b≠none->stu b=none
def e_ {stu own:ISt}{b:Nat}{o:IObj}(h:own b=some o):join stu own b=some o:=by simp[join,h]
def fT {stu own:ISt}{b:Nat}(h:own b=none):join stu own b=stu b:=by simp[join,h]
def iF {stu own:ISt}(h:disj stu own):subSt stu (join stu own):=λb o E=>by
 cases D:own b with
 | none=>rw[fT D];exact E
 | some o'=>have:=h b (by rw[D];simp);rw[E] at this;cases this
def join_sub' {stu own:ISt}:subSt own (join stu own):=λ_ _ D=>e_ D
def Ca {C:Cx}{X:WS}{stu own:ISt}{K:IV->ISt->Prop}{v:Value}{w':World}(hg:Good C X)(hst:X.st=join stu own)(hd:disj stu own)(h:ends C { X with st:=stu } K v w') :
  ends C X (λx st'=>∃O,disj O own/\st'=join O own/\K x O) v w':=by
 obtain⟨X',x,rfl,G,D,hv,hK⟩:=h;have ab:∀b o,own b=some o->b<X.w.heap.size:=λb o E=>hg.lt (show X.st b=some o by rw[hst];exact e_ E);have aa:∀b o,own b=some o->X'.w.heap[b]?=X.w.heap[b]?/\X'.L b=X.L b:=λb o E=>D.keep b (ab b o E) (hd b (by rw[E];simp));have ac:∀b o,own b=some o->X'.st b=none:=λb o E=>D.dom b (ab b o E) (hd b (by rw[E];simp));refine⟨{ X' with st:=join X'.st own },x,rfl,⟨λb o E=>?_,G.gl,G.B,G.Lnew,G.gsh,G.dr⟩,⟨D.os,D.tape,D.output,D.size,D.lmono,D.cells,λb E hs=>?_,λb E hs=>?_,D.shape,D.d⟩,hv,X'.st,?_,rfl,hK⟩
 ·cases J:own b with
  | none =>
   have ae:X'.st b=some o:=by rw[<- fT (stu:=X'.st) J];exact E
   exact (G.ok b o ae).mono rfl rfl (λ_ _ hv=>hv)
  | some o' =>
   have:o'=o:=by have:=(e_ (stu:=X'.st) J).symm.trans E;exact eC this
   subst this;have h1:=hg.ok b o' (by rw[hst];exact e_ J);have h2:ObjOk C X' b o':=h1.mono (aa b o' J).1 (aa b o' J).2 (λ_ _ hv=>D.vl hv);exact h2.mono rfl rfl (λ_ _ hv=>hv)
 ·have h1:own b=none:=by
   cases J:own b with
   | none=>rfl
   | some o=>rw[hst,e_ J] at hs;cases hs
  rw[hst,fT h1] at hs;exact D.keep b E hs
 ·have h1:own b=none:=by
   cases J:own b with
   | none=>rfl
   | some o=>rw[hst,e_ J] at hs;cases hs
  rw[hst,fT h1] at hs;exact (fT h1).trans (D.dom b E hs)
 ·intro b E;cases J:own b with
  | none=>exact absurd J E
  | some o=>exact ac b o J
section
variable {P:Program}{gl:Nat->Option IV}
def ICall.frame {f:FuncId}{args:List IV}{stu own:ISt}{K:IV->ISt->Prop}(h:ICall P gl f args stu K)(hd:disj stu own) :
  ICall P gl f args (join stu own) (λx st'=>∃D,disj D own/\st'=join D own/\K x D):=by
 intro B X rs J hst hv;obtain⟨E,G⟩:=J.sub (st:=stu) (by rw[hst];exact iF hd);refine (h B { X with st:=stu } rs E rfl ⟨hv.1,λi r c O hc=>G.v (hv.2 i r c O hc)⟩).mono ?_;rintro e w' ⟨v,rfl,he⟩;exact⟨v,rfl,Ca J hst hd he⟩
def ICallV.frame {f:IV}{args:List IV}{stu own:ISt}{K:IV->ISt->Prop}(h:ICallV P gl f args stu K)(hd:disj stu own) :
  ICallV P gl f args (join stu own) (λx st'=>∃D,disj D own/\st'=join D own/\K x D):=by
 intro B X fv rs J hst hf hv;obtain⟨G,E⟩:=J.sub (st:=stu) (by rw[hst];exact iF hd);exact (h B { X with st:=stu } fv rs G rfl (E.v hf) ⟨hv.1,λi r c O hc=>E.v (hv.2 i r c O hc)⟩).mono λv w' he=>Ca J hst hd he
def ICallV.of_ICall {g:FuncId}{first D args:List IV}{st:ISt}{K:IV->ISt->Prop}(he:entI P g=true)(h:ICall P gl g (first++args++D) st K):ICallV P gl (.fn (.func g) first D) args st K:=by
 intro B X fv rs J hst O hv;obtain⟨fs,cs,rfl,E,G⟩:=jk O;exact Bs he (h B X (fs++rs++cs) J hst ((E.append hv).append G))
def VL.split {B:Nat}{L:Nat->Nat}{w:World}{rs:List Value}{c1 c2:List IV}(h:VL B L w rs (c1++c2)):∃r1 r2,rs=r1++r2/\VL B L w r1 c1/\VL B L w r2 c2:=by
 refine⟨rs.take c1.length,rs.drop c1.length,(eA _ _).symm,?_,?_⟩
 ·have:=h.take c1.length
  rwa [List.take_left] at this
 ·have:=h.drop c1.length
  rwa [List.drop_left] at this
def rq {g:FuncId}{first D args:List IV}{st:ISt}{K:IV->ISt->Prop}(E:entI P g=true)(h:ICallV P gl (.fn (.func g) first D) args st K):ICall P gl g (first++args++D) st K:=by
 intro B X rs hg hst hv;obtain⟨aa,r3,rfl,J,O⟩:=VL.split hv;obtain⟨r1,r2,rfl,h1,h2⟩:=VL.split J;have hc:=h B X (.func (.func g) ⟨r1⟩ ⟨r3⟩) r2 hg hst (.fn (.func g) r1 first h1.1 h1.2 r3 D O.1 O.2) h2;unfold entI at E;cases G:P.funcs[g]? with
 | none=>simp[G] at E
 | some fn =>
  simp only[G,bAt,bne_iff_ne,ne_eq] at E;have hb:¬ fn.body.isNone=true:=by
   have:=E.2;cases hq:fn.body<;>simp_all
  have hr:(do let d <- Deferred.ofValue (.func (.func g) ⟨r1⟩ ⟨r3⟩) ⟨r2⟩;invoke d.target d.args:Sem Next).run P X.w=.ok (.enter g ⟨r1++r2++r3⟩) X.w:=by
   simp only[Deferred.ofValue,dw,dA,dv,invoke,callFunc,run_program,G];rw[a_ (by simpa using E.1),a_ hb];simp
  unfold CallsVal at hc;grind
def lO {f:Fn}{first D args:List IV}{st:ISt}{K:IV->ISt->Prop}(E:∀g,f=.func g->entI P g=true)(h:ICallV P gl (.fn f first D) args st K):callV P gl f first D args st K:=by
 unfold callV;split
 ·rw[cX (E _ rfl)];exact rq (E _ rfl) h
 ·exact h
def IsFn (P:Program)(y:IV):Prop:=∃f first D,y=.fn f first D/\fnOk f=true/\∀g,f=.func g->entI P g=true
def Cb (P:Program)(gl:Nat->Option IV)(y:IV)(xs:Nat->List IV->Prop)(I:Nat->ISt->Prop)(S:ISt->Prop):Prop :=
 ∀k a stu,xs k a->I k stu->ICallV P gl y a stu λr st'=>(r=true/\I (k+1) st')\/(r=false/\S st')
def IterC (P:Program)(gl:Nat->Option IV)(g:FuncId)(first E:List IV)(xs:Nat->List IV->Prop)(len:Nat)(I:Nat->ISt->Prop):Prop :=
 ∀(y:IV) (I':Nat->ISt->Prop) (S':ISt->Prop) (st:ISt),IsFn P y->(∀k stu,I' k stu->∃D,subSt D stu/\I k D)->Cb P gl y xs I' S'->I' 0 st →
  ICall P gl g (first++[y]++E) st λ_ st'=>I' len st'\/S' st'
abbrev ISt.add (s e:ISt):ISt:=Go.Iv.join s e
abbrev ISt.disj (e s:ISt):Prop:=Go.Iv.disj s e
def nK {s e:ISt}{b:Nat}(h:e b=none):s.add e b=s b:=fT h
def lP {s e:ISt}{b:Nat}{o:Option IObj}(h:e b=none):(s.add e).put b o=(s.put b o).add e:=by
 funext c;by_cases hc:c=b
 ·subst hc;simp only[ISt.put_apply,join,h,dJ]
 ·simp only[ISt.put_apply,join,a_ hc]
def ISt.disj.put {e s:ISt}(h:e.disj s){b:Nat}{o:Option IObj}(D:e b=none):e.disj (s.put b o):=λc hc=>by
 rw[ISt.put_apply,a_ (by rintro rfl;exact hc D)];exact h c hc
def ISt.disj.off {e s:ISt}(h:e.disj s){b:Nat}{o:IObj}(hs:s b=some o):e b=none:=by
 cases D:e b with
 | none=>rfl
 | some o'=>have:=h b (by rw[D];simp);rw[hs] at this;cases this
def YieldL (P:Program)(gl:Nat->Option IV)(y:IV)(lk:Nat->List IV->ISt->Prop)(I:Nat->ISt->Prop)(S:ISt->Prop):Prop :=
 ∀k a e stu,lk k a e->e.disj stu->I k stu->ICallV P gl y a (stu.add e) λr st'=>(r=true/\∃s1,I (k+1) s1/\e.disj s1/\st'=s1.add e)\/(r=false/\S st')
def IterL (P:Program)(gl:Nat->Option IV)(g:FuncId)(first E:List IV)(lk:Nat->List IV->ISt->Prop)(len:Nat)(I:Nat->ISt->Prop):Prop :=
 ∀(y:IV) (I':Nat->ISt->Prop) (S':ISt->Prop) (st:ISt),IsFn P y->(∀k stu,I' k stu->∃D,subSt D stu/\I k D)->YieldL P gl y lk I' S'->I' 0 st →
  ICall P gl g (first++[y]++E) st λ_ st'=>I' len st'\/S' st'
def IterU (P:Program)(gl:Nat->Option IV)(g:FuncId)(first G:List IV)(lk:Nat->List IV->ISt->Prop)(len:Nat)(I:Nat->ISt->Prop)(up:Nat->List (Value×IV)->List (Value×IV)->Prop):Prop :=
 ∀(y:IV) (I':Nat->ISt->Prop) (S':ISt->Prop) (st:ISt),IsFn P y->(∀k stu,I' k stu->∃D,subSt D stu/\I k D)->(∀k stu m kk es E,I' k stu->stu m=some (.map kk es)->up m es E->I' k (stu.put m (some (.map kk E))))->YieldL P gl y lk I' S'->I' 0 st →
  ICall P gl g (first++[y]++G) st λ_ st'=>I' len st'\/S' st'
def noUp (_:Nat)(_ _:List (Value×IV)):Prop:=False
def Cc {σ:Type}(P:Program)(gl:Nat->Option IV)(y:IV)(lk:σ->List IV->ISt->σ->Prop)(I:σ->ISt->Prop)(S:ISt->Prop):Prop :=
 ∀k a e D stu,lk k a e D->e.disj stu->I k stu->ICallV P gl y a (stu.add e) λr st'=>(r=true/\∃s1,I D s1/\e.disj s1/\st'=s1.add e)\/(r=false/\S st')
def Cd {σ:Type}(P:Program)(gl:Nat->Option IV)(g:FuncId)(first G:List IV)(lk:σ->List IV->ISt->σ->Prop)(k0:σ)(J:σ->Prop)(I:σ->ISt->Prop)(up:Nat->List (Value×IV)->List (Value×IV)->Prop):Prop :=
 ∀(y:IV) (I':σ->ISt->Prop) (S':ISt->Prop) (st:ISt),IsFn P y->(∀k stu,I' k stu->∃D,subSt D stu/\I k D)->(∀k stu m kk es E,I' k stu->stu m=some (.map kk es)->up m es E->I' k (stu.put m (some (.map kk E))))->Cc P gl y lk I' S'->I' k0 st →
  ICall P gl g (first++[y]++G) st λ_ st'=>(∃k,J k/\I' k st')\/S' st'
def tT (lk:Nat->List IV->ISt->Prop)(k:Nat)(a:List IV)(e:ISt)(D:Nat):Prop:=lk k a e/\D=k+1
def IterU.toH {P:Program}{gl:Nat->Option IV}{g:FuncId}{first D:List IV}{lk:Nat->List IV->ISt->Prop}{len:Nat}{I:Nat->ISt->Prop}{up:Nat->List (Value×IV)->List (Value×IV)->Prop}(h:IterU P gl g first D lk len I up):Cd P gl g first D (tT lk) 0 (·=len) I up :=
 λy I' S' st hf hI J G h0=>(h y I' S' st hf hI J (λk a e stu hk hd E=>G k a e (k+1) stu ⟨hk,rfl⟩ hd E) h0).mono λr st' O=>O.imp (λE=>⟨len,rfl,E⟩) id
def IterL.up {P:Program}{gl:Nat->Option IV}{g:FuncId}{first D:List IV}{lk:Nat->List IV->ISt->Prop}{len:Nat}{I:Nat->ISt->Prop}(h:IterL P gl g first D lk len I):IterU P gl g first D lk len I noUp :=
 λy I' S' st G J _ E h0=>h y I' S' st G J E h0
def pF (xs:Nat->List IV->Prop):Nat->List IV->ISt->Prop:=λk a e=>xs k a/\e=λ_=>none
def IterC.lent {P:Program}{gl:Nat->Option IV}{g:FuncId}{first D:List IV}{xs:Nat->List IV->Prop}{len:Nat}{I:Nat->ISt->Prop}(h:IterC P gl g first D xs len I):IterL P gl g first D (pF xs) len I :=
 λy I' S' st hf hI E h0=>h y I' S' st hf hI (λk a stu G O=>(E k a (λ_=>none) stu ⟨G,rfl⟩ (λb hb=>absurd rfl hb) O).mono λr st' J=>J.imp (λ⟨h1,s1,h2,h3,h4⟩=>⟨h1,h4▸h2⟩) id) h0
def ICallD (P:Program)(gl:Nat->Option IV)(f:FuncId)(args:List IV)(st:ISt)(K:IV->ISt->Prop):Prop :=
 ∀(B:Nat) (X:WS) (rs:List Value) (u:FrameMode),Good ⟨P,gl,B⟩ X->X.st=st->Cx.vl ⟨P,gl,B⟩ X rs args →
  CallsDIn Fence.wide 0 P f ⟨rs⟩ u X.w λe D w'=>D=u/\∃v,e=.returned v/\ends ⟨P,gl,B⟩ X K v w'
def ICallD.mono {f:FuncId}{args:List IV}{st:ISt}{K K':IV->ISt->Prop}(h:ICallD P gl f args st K)(G:∀x st,K x st->K' x st):ICallD P gl f args st K' :=
 λB X rs u J hst hv=>(h B X rs u J hst hv).mono λe O w' E=>⟨E.1,by
  obtain⟨v,D,h⟩:=E.2;exact⟨v,D,vR h G⟩⟩
end
def pG:SV->IV
 | .iv x=>x
 | .box _=>.junk
@[go_sem] def UJ (x:IV):pG x=x:=(rfl)
def nL (fr:Fr):Fr:=λt=>(pG (fr t))
@[go_sem ↓] def UK (fr:Fr)(t:Nat):nL fr t=(pG (fr t)):=(rfl)
def kP (fr:Fr):List (Nat×IV)->Fr
 | []=>fr
 | p::l=>kP (fr.put p.1 p.2) l
@[go_sem ↓] def UL (fr:Fr):kP fr []=fr:=(rfl)
@[go_sem ↓] def UM (fr:Fr)(t:Nat)(x:IV)(l:List (Nat×IV)):kP fr ((t,x)::l)=kP (fr.put t x) l:=(rfl)
def w7 (R:Exit->ISt->Prop):Kc:=λe _ st ds=>chk (ds=[]) (R e st)
@[go_sem ↓] def UN (R:Exit->ISt->Prop)(e:Exit)(fr:Fr)(st:ISt)(ds:List Dfd):w7 R e fr st ds=chk (ds=[]) (R e st):=(rfl)
def oE (D:Kc->Fr->ISt->List Dfd->Prop)(R:Exit->ISt->Prop):Kc
 | .normal,fr,st,ds=>chk (ds=[]) (D (w7 R) fr st [])
 | _,_,_,_=>False
@[go_sem ↓] def UO (D:Kc->Fr->ISt->List Dfd->Prop)(R:Exit->ISt->Prop)(fr:Fr)(st:ISt)(ds:List Dfd):oE D R .normal fr st ds=chk (ds=[]) (D (w7 R) fr st []):=(rfl)
def pH (I:ISt->Prop)(S:Exit->ISt->Prop):Exit->ISt->Prop
 | .normal,st=>I st
 | .ret,st=>S .ret st
 | .exit id,st=>S (.exit id) st
 | .goto t,st=>S (.goto t) st
 | _,_=>False
@[go_sem ↓] def UP (I:ISt->Prop)(S:Exit->ISt->Prop)(st:ISt):pH I S .normal st=I st:=(rfl)
@[go_sem ↓] def UQ (I:ISt->Prop)(S:Exit->ISt->Prop)(st:ISt):pH I S .ret st=S .ret st:=(rfl)
def w9 (P:Program)(gl:Nat->Option IV)(f:Fn)(first J:List IV)(n:Nat)(D:List IV->ISt->(Exit->ISt->Prop)->Prop)(Q:Exit->ISt->Nat->Prop)(st:ISt)(_:Lock D)(_:Lock Q):Prop :=
 ∃g,f=.func g/\entI P g=true/\∃(σ:Type) (lk:σ->List IV->ISt->σ->Prop) (k0:σ) (E:σ->Prop) (I:σ->ISt->Prop) (S:Exit->ISt->Prop) (up:Nat->List (Value×IV)->List (Value×IV)->Prop),(∀k s m kk es G,I k s->s m=some (.map kk es)->up m es G->I k (s.put m (some (.map kk G))))/\(∀k a e O,lk k a e O->a.length=n)/\I k0 st /\
  (∀k a e O s,lk k a e O->e.disj s->I k s->D a (s.add e) (pH (λs'=>∃s1,I O s1/\e.disj s1/\s'=s1.add e) S))/\Cd P gl g first J lk k0 E I up/\(∀k st' r,E k->I k st'->Q .normal st' r)/\(∀e st' r,S e st'->Q e st' r)
def vcC:Cf->Code->Kc->Fr->ISt->List Dfd->Prop
 | _,.skip,Q,fr,st,ds=>Q .normal fr st ds
 | c,.region _ ops false,Q,fr,st,ds=>fW { c with dr:=false } ops.toList ops.toList (Q .normal) Ad.none_ fr st ds
 | c,.region id ops true,Q,fr,st,ds=>lN c ops (lM c.ord id) (Q .normal) fr st ds
 | c,.seq a b,Q,fr,st,ds=>vcC c a (seqK (vcC c b Q) Q) fr st ds
 | c,.cond x a b,Q,fr,st,ds=>du (evV c.gl fr x) λv=>k9 v λt=>jl t (vcC c a Q fr st ds) (vcC c b Q fr st ds) .mk .mk
 | c,.block id a,Q,fr,st,ds=>vcC c a (oC id Q) fr st ds
 | c,.loop a,Q,fr,st,ds=>LoopV (λfr st ds Q=>vcC c a Q fr st ds) Q fr st ds .mk .mk
 | c,.rangeFunc g ps E b,Q,fr,st,ds=>if c.rd=true then False else du (evV c.gl fr g) λv=>fnV v λf first D =>
   w9 c.P c.gl f first D ps.size (λG st' R=>vcC { c with rd:=true } E (oE (vcC { c with rd:=true } b) R) (kP (nL fr) (ps.toList.zip G)) st' []) (λe st' r=>Q e fr st' (.coll r::ds)) st .mk .mk
 | _,.exit id,Q,fr,st,ds=>Q (.exit id) fr st ds
 | c,.scope a,Q,fr,st,ds=>if c.rd=true then False else vcC c a (vV Q) fr st ds
 | _,.label _,Q,fr,st,ds=>Q .normal fr st ds
 | _,.goto l,Q,fr,st,ds=>Q (.goto l) fr st ds
 | _,.ret,Q,fr,st,ds=>Q .ret fr st ds
 | _,_,_,_,_,_=>False
def tU {p:Nat->Prop}(h:∃m,p m):∃m,p m/\∀k,p k->m<=k:=by
 obtain⟨m,E⟩:=h
 induction m using Nat.strongRecOn with
 | _ m D =>
  grind
open Classical in
noncomputable def least (p:Nat->Prop):Nat:=if h:∃m,p m then (tU h).choose else 0
def least_spec {p:Nat->Prop}(h:∃m,p m):p (least p)/\∀k,p k->least p<=k:=by
 unfold least;grind
def J3 {F:Fence}{n:Nat}{P:Program}{c:Code}{Q:Exit->Act->World->Prop}{a:Act}{w:World}(J:Nat->Act->World->Prop)(h0:∃m,J m a w)
  (D:∀m a w,J m a w->c.wpIn F n P (Exit.then (λa' w'=>∃E,E<m/\J E a' w') Q) a w):(Code.loop c).wpIn F n P Q a w:=by
 refine wpIn_loop (λa w=>∃m,J m a w) (λa w=>least λm=>J m a w) h0 (λa w hI=>?_);obtain⟨hj,_⟩:=least_spec hI;refine fS (D _ a w hj) (λe a' w' hq=>?_);cases e with
 | normal =>
  obtain⟨E,G,O⟩:=hq;exact⟨⟨E,O⟩,Nat.lt_of_le_of_lt ((least_spec ⟨E,O⟩).2 E O) G⟩
 | _=>exact hq
def codeOk (c:Cf)(N:Nat):Code->Bool
 | .region id ops dr=>(ops.toList.all λo=>match o.dst with|some d=>decide (d<N)|none=>true)&&(!dr || (c.P.follows .mixedOrders&&(anyO (lM c.ord id) || wY c.esc ops (rp (lM c.ord id) ops.size))))
 | .seq a b=>codeOk c N a&&codeOk c N b
 | .cond _ a b=>codeOk c N a&&codeOk c N b
 | .block _ a=>codeOk c N a
 | .loop a=>codeOk c N a
 | .scope a=>codeOk c N a
 | .rangeFunc _ ps a b=>ps.toList.all (λd=>decide (d<N))&&codeOk c N a&&codeOk c N b
 | _=>true
def lQ {c:Cf}{N:Nat}(r:Bool):∀(D:Code),codeOk { c with rd:=r } N D=codeOk c N D
 | .region _ _ _=>rfl
 | .seq a b=>by rw[codeOk,codeOk,lQ r a,lQ r b]
 | .cond _ a b=>by rw[codeOk,codeOk,lQ r a,lQ r b]
 | .block _ a=>by rw[codeOk,codeOk,lQ r a]
 | .loop a=>by rw[codeOk,codeOk,lQ r a]
 | .scope a=>by rw[codeOk,codeOk,lQ r a]
 | .rangeFunc _ _ a b=>by rw[codeOk,codeOk,lQ r a,lQ r b]
 | .skip=>rfl
 | .exit _=>rfl
 | .label _=>rfl
 | .goto _=>rfl
 | .ret=>rfl
 | .refuse _=>rfl
def eN (st:ISt)(b:Nat)(x y:Option IObj):(st.put b x).put b y=st.put b y:=by
 funext c;simp only[ISt.put_apply];split<;>rfl
def jy {st:ISt}{b:Nat}{x:Option IObj}(h:st b=x):st.put b x=st:=by
 funext c;simp only[ISt.put_apply];split
 ·grind
 ·rfl
def tV (X:WS)(g:Nat)(o:Obj)(so:Option IObj):(X.obj g o so).st=X.st.put g so:=rfl
def nM {C:Cx}{X:WS}{n0:Nat}:∀ {ps:List Nat} {rs:List Value} {D:List IV} {fr:Fr} {ts:Array Value},FrOk C X n0 fr ts->(∀p∈ps,p<ts.size)->C.vl X rs D->ps.length=D.length →
  FrOk C X n0 (kP fr (ps.zip D)) ((ps.zip rs).foldl (λt p=>t.setIfInBounds p.1 p.2) ts)
 | [],rs,D,fr,ts,h,_,_,_=>h
 | p::ps,[],D,fr,ts,h,_,hv,hl=>by
  have:=hv.1;grind
 | p::ps,r::rs,[],fr,ts,h,_,hv,hl=>by cases hl
 | p::ps,r::rs,a::D,fr,ts,h,hp,hv,hl=>by
  have G:C.v X r a:=hv.2 0 r a rfl rfl;have E:C.vl X rs D:=⟨by simpa using hv.1,λi x c J hc=>hv.2 (i+1) x c (by simpa using J) (by simpa using hc)⟩
  have:=nM (ps:=ps) (h.put (hp p (by simp)) G) (λq O=>by rw[lx];exact hp q (.tail _ O)) E (by simpa using hl);simpa only[List.zip_cons_cons,jH,kP] using this
def w_:∀(l:List (Nat×Value))(ts:Array Value),(l.foldl (λt p=>t.setIfInBounds p.1 p.2) ts).size=ts.size
 | [],ts=>rfl
 | p::l,ts=>by rw[jH,w_ l];simp
def Ce:Exit->Option Code
 | .ret=>some .ret
 | .exit id=>some (.exit id)
 | .goto t=>some (.goto t)
 | _=>none
section
variable {C:Cx}{X Y Z:WS}{l:Nat}{r r':Loop}
def iT (c:Array Value)(T:TypeId)(f:Nat×Nat):Obj.loop r≠.cells c T f:=by intro h;cases h
def Ext.both (h:Ext X Y)(E:X.w.heap[l]?=some (.loop r))(hs:X.st l=none):Ext (X.obj l (.loop r') none) (Y.obj l (.loop r') none):=by
 have aa:=(iN.1 E).1;obtain⟨hk,hL⟩:=h.keep l aa hs;have O:Y.w.heap[l]?=some (.loop r):=hk.trans E;refine⟨h.os,h.tape,h.output,?_,h.lmono,λb i hi=>?_,λb J G=>?_,λb J G=>?_,λb p hp=>?_,h.d⟩
 ·simp only[WS.obj,lx];exact h.size
 ·rw[rf O iT iT,rf E iT iT];exact h.cells b i hi
 ·simp only[WS.obj,lx] at J;by_cases D:b=l
  ·subst D;exact⟨(nG O).trans (nG E).symm,hL⟩
  ·have:X.st b=none:=by simpa only[WS.obj,a_ D] using G
   rw[j3 O D,j3 E D];exact h.keep b J this
 ·simp only[WS.obj,lx] at J;by_cases D:b=l
  ·subst D;simp[WS.obj]
  ·have:X.st b=none:=by simpa only[WS.obj,a_ D] using G
   simp only[WS.obj,a_ D];exact h.dom b J this
 ·refine rh O iT b p (h.shape b p ?_);by_cases D:b=l
  ·subst D;have:=nG (so:=none) (o':=.loop r') E;simp[shq,this] at hp
  ·rw[ny (j3 E D)] at hp;exact hp
def ru {O:IObj}(hx:X.w.heap[l]?=some (.loop r))(hs:X.st l=some O)(hL:X.L l=0)(h:Ext ({ X with st:=X.st.put l none }.obj l (.loop r') none) Y):Ext X Y:=by
 have G:({ X with st:=X.st.put l none }:WS).w.heap[l]?=some (.loop r):=hx;refine⟨h.os,h.tape,h.output,?_,h.lmono,λb i hi=>?_,λb J D=>?_,λb J D=>?_,λb p hp=>?_,h.d⟩
 ·have:=h.size;simpa only[WS.obj,lx] using this
 ·rw[h.cells b i hi];exact rf G iT iT b i
 ·have E:b≠l:=by rintro rfl;rw[hs] at D;cases D
  have h1:=h.keep b (by simpa only[WS.obj,lx] using J) (by simp only[WS.obj,a_ E,ISt.put_apply];exact D);rw[j3 G E] at h1;exact h1
 ·have E:b≠l:=by rintro rfl;rw[hs] at D;cases D
  exact h.dom b (by simpa only[WS.obj,lx] using J) (by simp only[WS.obj,a_ E,ISt.put_apply];exact D)
 ·exact h.shape b p (rh G iT b p hp)
def Inv.both {N:Nat}{fr:Fr}{a:Act}(h:Inv C X N Y fr [] a)(O:X.w.heap[l]?=some (.loop r))(hs:X.st l=none):Inv C (X.obj l (.loop r') none) N (Y.obj l (.loop r') none) fr [] a:=by
 have E:=(iN.1 O).1;have J:Y.w.heap[l]?=some (.loop r):=(h.ext.keep l E hs).1.trans O;have D:=h.ext.dom l E hs;have aa:∀i,none=some i->ObjOk C (Y.obj l (.loop r') none) l i:=λi hi=>by cases hi
 refine⟨h.good.obj J iT iT aa,h.ext.both O hs,⟨λt=>?_,h.fr.inj⟩,h.size,?_⟩
 ·have h0:(X.obj l (.loop r') none).w.heap.size=X.w.heap.size:=by simp[WS.obj]
  rw[h0];refine (h.fr.slot t).mono (λ_ _=>mL J iT iT) ?_;intro b cs hb hr h1 h2 h3;have G:b≠l:=by
   rintro rfl;have D:=h.fr.slot t;rw[hb] at D;obtain⟨b',c,T,ab,ae,_⟩:=D;grind
  exact⟨j3 J G,rfl,by simp only[WS.obj,a_ G];exact h1⟩
 ·have:=h.ds;generalize a.defers=ag at this ⊢;cases this;exact .nil
end
abbrev recI (fr:Fr):Nat->IV:=λt=>pG (fr t)
def J4 {c:Cf}{B:Nat}{X0 X:WS}{N:Nat}{n:Nat}{g:Operand}{ps:Array Tmp}{E body:Code}{Q:Kc}{fr:Fr}{ds:List Dfd}{a:Act}(co:∀p∈ps.toList,p<N)
  (cb:∀(B:Nat) (X0 X:WS) (l:Nat) (Q:Kc) (fr:Fr) (ds:List Dfd) (a:Act),Inv (c.cx B) X0 N X fr ds a->vcC { c with rd:=true } E Q fr X.st ds->E.wpIn (eP (some l)) 0 c.P (PQ (c.cx B) X0 N Q) a X.w)
  (ca:∀(B:Nat) (X0 X:WS) (l:Nat) (Q:Kc) (fr:Fr) (ds:List Dfd) (a:Act),Inv (c.cx B) X0 N X fr ds a->vcC { c with rd:=true } body Q fr X.st ds->body.wpIn (eP (some l)) 0 c.P (PQ (c.cx B) X0 N Q) a X.w)
  (hI:Inv (c.cx B) X0 N X fr ds a) {v:IV} (cy:evV c.gl fr g=some v) {f:Fn} {first aS:List IV} (hv:v=.fn f first aS)
  (h:w9 c.P c.gl f first aS ps.size (λaL st' R=>vcC { c with rd:=true } E (oE (vcC { c with rd:=true } body) R) (kP (nL fr) (ps.toList.zip aL)) st' []) (λe st' r=>Q e fr st' (.coll r::ds)) X.st .mk .mk) :
  (Code.rangeFunc g ps E body).wpIn (eP none) n c.P (PQ (c.cx B) X0 N Q) a X.w:=by
 obtain⟨gf,rfl,he,σ,lk,k0,cW,I,S,up,cg,cc,h0,ay,a1,cC,cB⟩:=h;subst hv;have ce:=(pv (C:=c.cx B) (X:=X) hI.good hI.fr cy).1;obtain⟨fs,cs,eg,bO,bU⟩:=jk ce;refine wpIn_rangeFunc ?_;intro fn _;obtain⟨rec,D⟩:∃rec:Loop,rec={ state:=.ready,pending:=none,fn:=fn,tmps:=a.tmps,params:=ps,assign:=E,body:=body,defers:=X.w.heap.size }:=⟨_,rfl⟩
 have bw:X.st X.w.heap.size=none:=by
  cases hs:X.st X.w.heap.size with
  | none=>rfl
  | some o=>have:=hI.good.lt hs;omega
 have bu:X.st (X.w.heap.size+1)=none:=by
  cases hs:X.st (X.w.heap.size+1) with
  | none=>rfl
  | some o=>have:=hI.good.lt hs;omega
 -- ah two new b8
 obtain⟨X1,ae⟩:∃X1,X1=X.new (.deferred (some [])) 0 none:=⟨_,rfl⟩
 have am:Inv (c.cx B) X0 N X1 fr ds a:=by rw[ae];exact hI.new _ _ _ (λi hi=>by cases hi)
 have bq:X1.w.heap.size=X.w.heap.size+1:=by rw[ae];simp[WS.new]
 obtain⟨l,hl⟩:∃l,l=X1.w.heap.size:=⟨_,rfl⟩
 have bI:l=X.w.heap.size+1:=hl.trans bq;have aU:X1.st=X.st:=by
  rw[ae];funext b;simp only[WS.new];split
  ·grind
  ·rfl
 obtain⟨X2,aC⟩:∃X2,X2=X1.new (.loop rec) 0 (some (.loop rec (recI fr))):=⟨_,rfl⟩
 have bm:∀t,(c.cx B).v X1 (rec.tmps.getD t undef) (recI fr t):=λt=>by
  have hs:=am.fr.slot t;rw[D];show (c.cx B).v X1 (tm a.tmps t) (pG (fr t));cases hf:fr t with
  | iv x=>rw[hf] at hs;exact hs
  | box cs=>exact .junk _
 have bZ:Inv (c.cx B) X0 N X2 fr ds a:=by
  rw[aC];refine am.new _ _ _ (λi hi=>?_);cases hi;have bP:=am.good.new_ext (.loop rec) 0 (some (.loop rec (recI fr)));exact⟨by simp[WS.new],iR _ _,λt=>bP.v (bm t)⟩
 have aH:X2.st=X.st.put l (some (.loop rec (recI fr))):=by
  rw[aC,<- aU];funext b;simp only[WS.new,ISt.put_apply,hl]
 have bp:X2.w=(X.w.alloc (.deferred (some []))).alloc (.loop rec):=by rw[aC,ae];rfl
 have b1:X2.w.heap[X.w.heap.size]?=some (.deferred (some [])):=by
  rw[bp,qR _ _ (by simp)];exact iR _ _
 have aN:X2.st X.w.heap.size=none:=by
  rw[aH,ISt.put_apply,a_ (by omega)];exact bw
 -- ah b4 of ah b5
 obtain⟨I',af⟩:∃I':σ->ISt->Prop,I'=λk stu=>stu l=some (.loop rec (recI fr))/\I k (stu.put l none):=⟨_,rfl⟩
 obtain⟨S',bV⟩:∃S':ISt->Prop,S'=λstu=>∃e cj,Ce e=some cj/\stu l=some (.loop { rec with state:=.done,pending:=some cj } (recI fr))/\S e (stu.put l none):=⟨_,rfl⟩
 have ax:Cc c.P c.gl (.fn (.yield l) [] []) lk I' S':=by
  intro k aL le k2 stu hk hd hi B' X3 fv rs bM aG cw aV;rw[af] at hi;obtain⟨bx,ct⟩:=hi;have ab:le l=none:=hd.off bx;obtain⟨cI,cs',rfl,bN,bT⟩:=jk cw;obtain rfl:cI=[]:=ev bN.1;obtain rfl:cs'=[]:=ev bT.1;have ai:X3.st l=some (.loop rec (recI fr)):=by rw[aG,nK ab];exact bx
  obtain⟨bX,a7,aF⟩:=bM.ok l _ ai;have bH:rs.length=ps.size:=by rw[aV.1];exact cc k aL le k2 hk
  have bA:(do let d <- Deferred.ofValue (.func (.yield l) ⟨[]⟩ ⟨[]⟩) ⟨rs⟩;invoke d.target d.args:Sem Next).run c.P X3.w =
    .ok (.round l rec.fn ((rec.params.zip ⟨rs⟩).foldl (λtmps (t,a)=>tmps.setIfInBounds t a) rec.tmps) rec.assign rec.body) X3.w:=by
   have:=run_yield (P:=c.P) (args:=⟨rs⟩) a7 (by rw[D];simpa using bH);simp only[Deferred.ofValue,dw,dA,dv,invoke];grind
  unfold CallsVal;rw[bA];refine⟨rfl,?_⟩;obtain⟨aT,O⟩:∃t,t=(rec.params.zip ⟨rs⟩).foldl (λ(tmps:Array Value) (p:Tmp×Value)=>tmps.setIfInBounds p.1 p.2) rec.tmps:=⟨_,rfl⟩
  have htl:aT=(ps.toList.zip rs).foldl (λt p=>t.setIfInBounds p.1 p.2) a.tmps:=by
   rw[O,D,<- Array.foldl_toList];simp
  have cn:rec.assign=E:=by rw[D]
  have cm:rec.body=body:=by rw[D]
  rw[cn,cm];change RoundIn Fence.wide 0 c.P l rec.fn ((rec.params.zip ⟨rs⟩).foldl (λ(tmps:Array Value) (p:Tmp×Value)=>tmps.setIfInBounds p.1 p.2) rec.tmps) E body X3.w _;rw[<- O,htl]
  -- ah bj frame
  obtain⟨Xc,ac⟩:∃Xc:WS,Xc={ X3 with st:=X3.st.put l none }:=⟨_,rfl⟩
  have br:subSt (X3.st.put l none) X3.st:=λb o hb=>by
   rw[ISt.put_apply] at hb;grind
  obtain⟨bK,ba⟩:=bM.sub br;rw[<- ac] at bK ba;have aM:Xc.w=X3.w:=by rw[ac]
  have az:Xc.w.heap[l]?=some (.loop rec):=by rw[aM];exact a7
  have aX:Xc.st l=none:=by rw[ac];exact b_ _ _ _
  have cE:Inv (c.cx B') Xc N Xc (kP (nL fr) (ps.toList.zip aL)) [] { tmps:=(ps.toList.zip rs).foldl (λt p=>t.setIfInBounds p.1 p.2) a.tmps,defers:=[] }:=by
   refine⟨bK,Ext.refl _,nM ⟨λt=>?_,λt t' cs cs' ht=>by cases ht⟩ (λp hp=>by rw[hI.size];exact co p hp) ⟨aV.1,λi r x hr hx=>ba.v (aV.2 i r x hr hx)⟩ ?_,?_,.nil⟩
   ·have:=aF t;rw[D] at this;exact ba.v this
   ·grind
   ·simp only[w_];exact hI.size
  have bB:=ay k aL le k2 (stu.put l none) hk (hd.put ab) ct;have bs:Xc.st=(stu.put l none).add le:=by rw[ac,<- lP ab,<- aG]
  rw[<- bs] at bB;have bo:=cb B' Xc Xc l _ _ _ _ cE bB;rw[aM] at bo;refine roundIn_of_wpIn trivial (fS bo ?_);rintro e a6 w6 ⟨X6,cV,cZ,rfl,aD,hq⟩;cases e with
  | normal =>
   obtain⟨bS,hq⟩:=hq;subst bS;have bG:l<Xc.w.heap.size:=(iN.1 az).1;have cu:X6.w.heap[l]?=some (.loop rec):=(aD.ext.keep l bG aX).1.trans az;have ci:X6.st l=none:=aD.ext.dom l bG aX;refine⟨(X6.obj l (.loop { rec with state:=.busy }) none).w,run_beginRound cu (by rw[D]),?_⟩;have cF:=aD.both (r':={ rec with state:=.busy }) az aX;have bt:(X6.obj l (.loop { rec with state:=.busy }) none).st=X6.st:=by rw[tV];exact jy ci
   rw[<- bt] at hq;have cM:a6.defers=[]:=by
    have:=aD.ds;generalize a6.defers=c0 at this;cases this;rfl
   have cd:=ca B' _ _ l _ _ _ _ cF hq;refine fS cd ?_;rintro e a8 w8 ⟨X8,cU,cY,rfl,al,cL,hR⟩;have bJ:(Xc.obj l (.loop { rec with state:=.busy }) none).w.heap[l]?=some (.loop { rec with state:=.busy }):=nG az;have aW:(Xc.obj l (.loop { rec with state:=.busy }) none).st l=none:=by rw[tV];exact b_ _ _ _
   have aj:l<(Xc.obj l (.loop { rec with state:=.busy }) none).w.heap.size:=(iN.1 bJ).1;have ak:X8.w.heap[l]?=some (.loop { rec with state:=.busy }):=(al.ext.keep l aj aW).1.trans bJ;have aY:X8.st l=none:=al.ext.dom l aj aW;have cD:X8.L l=0:=(al.ext.keep l aj aW).2.trans (by rw[ac];exact bX);have bQ:Ext X3 X8:=ru a7 ai bX (by rw[<- ac];exact al.ext)
   -- ah b6 is set cN
   have aO:∀(r9:Loop) (b:Bool),r9.tmps=rec.tmps->((b=true/\∃s1,I' k2 s1/\le.disj s1/\X8.st.put l (some (.loop r9 (recI fr)))=s1.add le)\/(b=false/\S' (X8.st.put l (some (.loop r9 (recI fr)))))) →
     ends (c.cx B') X3 (λr st'=>(r=true/\∃s1,I' k2 s1/\le.disj s1/\st'=s1.add le)\/(r=false/\S' st')) (.bool b) (X8.w.putObj l (.loop r9)):=by
    intro r9 b ht cS;have aJ:Ext X3 (X8.obj l (.loop r9) (some (.loop r9 (recI fr)))):=bQ.obj ak iT iT (.inr (by rw[ai];simp));refine⟨X8.obj l (.loop r9) (some (.loop r9 (recI fr))),.raw (.bool b),rfl,al.good.obj ak iT iT (λi hi=>?_),aJ,.raw _ trivial,?_⟩
    ·cases hi;exact⟨cD,nG ak,λt=>by rw[ht];exact aJ.v (aF t)⟩
    ·rw[tV];grind
   have bC:∀o,(X8.st.put l o).put l none=X8.st:=λo=>by rw[eN];exact jy aY
   have stop:∀e cj,Ce e=some cj->S e X8.st->∃v w',(Instr.endRound l (some cj)).run c.P X8.w=.ok v w'/\∃v',Ending.returned v=.returned v' /\
     ends (c.cx B') X3 (λr st'=>(r=true/\∃s1,I' k2 s1/\le.disj s1/\st'=s1.add le)\/(r=false/\S' st')) v' w':=by
    intro e cj hj hS;refine⟨_,_,run_endRound (some cj) ak,_,rfl,aO { rec with state:=.done,pending:=some cj } false rfl (.inr ⟨rfl,?_⟩)⟩;rw[bV];exact⟨e,cj,hj,b_ _ _ _,by rw[bC];exact hS⟩
   cases e with
   | normal =>
    have cR:({ { rec with state:=.busy } with state:=.ready,pending:=none }:Loop)=rec:=by rw[D]
    refine⟨_,_,run_endRound none ak,_,rfl,?_⟩;obtain⟨s1,cA,cz,bW⟩:=hR;have ck:s1 l=none:=by rw[bW,nK ab] at aY;exact aY
    have:=aO rec true rfl (.inl ⟨rfl,s1.put l (some (.loop rec (recI fr))),by rw[af];exact⟨b_ _ _ _,by rw[eN,jy ck];exact cA⟩,cz.put ab,by rw[bW,lP ab]⟩);grind
   | ret=>exact stop .ret .ret rfl hR
   | exit id=>exact stop (.exit id) (.exit id) rfl hR
   | goto t=>exact stop (.goto t) (.goto t) rfl hR
   | panic ch=>exact hR.elim
   | outgrown=>exact hR.elim
  | _=>exact hq.elim
 have bc:=a1 (.fn (.yield l) [] []) I' S' X2.st ⟨_,_,_,rfl,rfl,λg hg=>by cases hg⟩
  (λk stu hk=>by
   rw[af] at hk;exact⟨stu.put l none,λb o hb=>by
    rw[ISt.put_apply] at hb;split at hb
    ·cases hb
    ·exact hb,hk.2⟩) (λk stu m kk es be hk hm hu=>by
   rw[af] at hk ⊢;have hml:m≠l:=by
    rintro rfl;rw[hk.1] at hm;cases hm
   refine⟨by simp only[ISt.put_apply,a_ (Ne.symm hml)];exact hk.1,?_⟩;have h1:(stu.put m (some (.map kk be))).put l none=(stu.put l none).put m (some (.map kk be)):=by
    funext c;simp only[ISt.put_apply];by_cases hc:c=l
    ·subst hc;rw[cX rfl,a_ (Ne.symm hml),cX rfl]
    ·rw[a_ hc,a_ hc]
   rw[h1];exact cg k _ m kk es be hk.2 (by simp only[ISt.put_apply,a_ hml];exact hm) hu) ax
  (by rw[af,aH];exact⟨b_ _ _ _,by rw[eN,jy (by rw[bI];exact bu)];exact h0⟩)
 have aA:=bZ.good;have aK:Ext X X2:=by
  rw[aC,ae];rw[ae] at am;exact (hI.good.new_ext _ _ _).trans (am.good.new_ext _ _ _)
 have aB:=bc B X2 (fs++[.func (.yield l) ⟨[]⟩ ⟨[]⟩]++cs) aA rfl
  ((VL.append (VL.append ⟨bO.1,λi r x hr hx=>aK.v (bO.2 i r x hr hx)⟩ (VL.cons (.fn (.yield l) [] [] rfl (λi r x h=>by simp at h) [] [] rfl (λi r x h=>by simp at h)) VL.nil)) ⟨bU.1,λi r x hr hx=>aK.v (bU.2 i r x hr hx)⟩))
 have aI:=run_enterLoop_outer (P:=c.P) (w:=X.w) fn a.tmps ps E body;rw[<- D,<- bp,<- bI] at aI;have cv:∃J,c.P.funcs[gf]?=some J/\J.name ≠ "runtime.NumGoroutine" /\ ¬ J.body.isNone=true:=by
  unfold entI at he;cases hf:c.P.funcs[gf]? with
  | none=>simp[hf] at he
  | some J =>
   simp only[hf,bAt,bne_iff_ne,ne_eq] at he;exact⟨J,rfl,he.1,by have:=he.2;cases hq:J.body<;>simp_all⟩
 obtain⟨J,hf,cq,bd⟩:=cv;refine⟨l,[{ target:=.collected X.w.heap.size,args:=#[] }],X2.w,{ target:=.fn (.func gf) ⟨cs⟩,args:=⟨fs++[.func (.yield l) ⟨[]⟩ ⟨[]⟩]⟩ },X2.w,gf,⟨fs++[.func (.yield l) ⟨[]⟩ ⟨[]⟩]++cs⟩,X2.w,
  aI,?_,λ_ _=>trivial,?_,λh=>by simp[eP,Fence.wide] at h,?_⟩
 ·simp only[resolve,eg];simp[Deferred.ofValue,Act.eval]
 ·simp only[invoke,callFunc,dw,run_program,dv,hf];rw[a_ (by simpa using cq),a_ bd];simp
 ·refine Br (aB.mono ?_);rintro e w' ⟨v,rfl,X4,x,rfl,bL,bb,_,hK⟩;have cG:Inv (c.cx B) X0 N X4 fr ds a:=bZ.ext' bb bL;have an:X.w.heap.size<X2.w.heap.size:=(iN.1 b1).1;have cH:X4.w.heap[X.w.heap.size]?=some (.deferred (some [])):=(bb.keep _ an aN).1.trans b1;have b0:=bb.dom _ an aN
  -- b9 ah call
  have aQ:∀(r4:Loop),X4.st l=some (.loop r4 (recI fr))->X4.w.heap[l]?=some (.loop r4) /\
    Inv (c.cx B) X0 N (X4.obj l (.loop { r4 with state:=.exhausted }) none) fr (.coll X.w.heap.size::ds) { a with defers:={ target:=.collected X.w.heap.size,args:=#[] }::a.defers }:=by
   intro r4 aa;obtain⟨_,G,_⟩:=bL.ok l _ aa;have h5:=cG.obj (o':=.loop { r4 with state:=.exhausted }) (so:=none) G iT iT (by rw[aa];simp) (λi hi=>by cases hi);have bD:X.w.heap.size≠l:=by omega
   refine⟨G,h5.good,h5.ext,h5.fr,h5.size,.cons ⟨rfl,(j3 G bD).trans cH,?_,hI.ext.size⟩ h5.ds (λr hr=>by cases hr;exact λhm=>nLi _ (hI.ds.lt hm))⟩;rw[tV,ISt.put_apply,a_ bD];exact b0
  rcases hK with hK|hK
  ·obtain⟨kf,cr,hK⟩:=hK;rw[af] at hK;obtain⟨aa,bY⟩:=hK;obtain⟨G,h5⟩:=aQ rec aa;refine⟨none,_,(run_endLoop G (by rw[D];simp)).trans (dZ (λp=>Result.ok p _) (show rec.pending=none by rw[D])),?_⟩;exact⟨_,fr,_,rfl,h5,cC kf _ _ cr bY⟩
  ·rw[bV] at hK;obtain⟨e,cj,hj,aa,hS⟩:=hK;obtain⟨G,h5⟩:=aQ _ aa;refine⟨some cj,_,run_endLoop G (by simp),?_⟩;have hq:PQ (c.cx B) X0 N Q e { a with defers:={ target:=.collected X.w.heap.size,args:=#[] }::a.defers } (X4.w.putObj l (.loop { { rec with state:=.done,pending:=some cj } with state:=.exhausted })):=⟨_,fr,_,rfl,h5,cB e _ _ hS⟩
   cases e with
   | ret=>cases hj;exact wpIn_ret hq
   | exit id=>cases hj;exact wpIn_exit hq
   | goto t=>cases hj;exact wpIn_goto hq
   | _=>cases hj
def tW {N:Nat}:∀(aa:Code) (c:Cf) (B:Nat) (X0:WS) (ro:Option Nat) (n:Nat),(c.rd=false->ro=none)->∀(Q:Kc) (X:WS) (fr:Fr) (ds:List Dfd) (a:Act),codeOk c N aa=true →
  Inv (c.cx B) X0 N X fr ds a->vcC c aa Q fr X.st ds->aa.wpIn (eP ro) n c.P (PQ (c.cx B) X0 N Q) a X.w:=by
 intro aa
 induction aa with
 | skip=>intro c B X0 ro n D Q X fr ds a _ E h;exact wpIn_skip ⟨X,fr,ds,rfl,E,h⟩
 | region id ops ak =>
  intro c B X0 ro n D Q X fr ds a hd E h;simp only[codeOk,bAt,gL,mc] at hd;have hN:∀o∈ops.toList,∀d,o.dst=some d->d<N:=λo ho d aB=>by
   grind
  cases ak with
  | false=>exact Jo (c:={ c with dr:=false }) D hN E h
  | true =>
   have h2:=hd.2.resolve_left (by simp);exact J2 D hN h2.1 (by rw[gL];exact h2.2) E h
 | seq x y am al =>
  intro c B X0 ro n D Q X fr ds a hd E h;simp only[codeOk,bAt] at hd;refine wpIn_seq (fS (am c B X0 ro n D _ X fr ds a hd.1 E h) ?_);rintro e a' w' ⟨X',fr',G,rfl,O,hq⟩;cases e with
  | normal=>exact al c B X0 ro n D Q X' fr' G a' hd.2 O hq
  | _=>exact⟨X',fr',G,rfl,O,hq⟩
 | cond x p q ao an =>
  intro c B X0 ro n D Q X fr ds a hd E h;simp only[codeOk,bAt] at hd;obtain⟨v,hv,h1⟩:=yQ2.1 h;obtain⟨t,rfl,h2⟩:=A_ h1;have he:=dK (pv (C:=c.cx B) E.good E.fr hv).1;exact wpIn_cond_split he (λht=>ao c B X0 ro n D Q X fr ds a hd.1 E (h2.1 ht)) (λht=>an c B X0 ro n D Q X fr ds a hd.2 E (h2.2 ht))
 | block id p ih =>
  intro c B X0 ro n D Q X fr ds a hd E h;refine wpIn_block (fS (ih c B X0 ro n D _ X fr ds a hd E h) ?_);rintro e a' w' ⟨X',fr',G,rfl,O,hq⟩;cases e with
  | exit id' =>
   simp only[oC] at hq;simp only[Exit.inBlock];split at hq
   ·rename_i hid;rw[cX hid];exact⟨X',fr',G,rfl,O,hq⟩
   ·rename_i hid;rw[a_ hid];exact⟨X',fr',G,rfl,O,hq⟩
  | _=>exact⟨X',fr',G,rfl,O,hq⟩
 | loop p ih =>
  intro c B X0 ro n D Q X fr ds a hd E h;obtain⟨J,⟨m0,h0⟩,ac⟩:=h;refine J3 (λm a w=>∃X fr ds,X.w=w/\Inv (c.cx B) X0 N X fr ds a/\J m fr X.st ds) ⟨m0,X,fr,ds,rfl,E,h0⟩ ?_;rintro m a' w' ⟨X',fr',G,rfl,O,hi⟩;refine fS (ih c B X0 ro n D _ X' fr' G a' hd O (ac m fr' X'.st G hi)) ?_;rintro e a2 w2 ⟨X2,ai,aj,rfl,ah,hq⟩;cases e with
  | normal =>
   obtain⟨m',av,hj⟩:=hq;exact⟨m',av,X2,ai,aj,rfl,ah,hj⟩
  | _=>exact⟨X2,ai,aj,rfl,ah,hq⟩
 | rangeFunc g ps aG p au aq =>
  intro c B X0 ro n D Q X fr ds a hd E h;simp only[codeOk,bAt,eF,dTe] at hd;change (if c.rd=true then False else _) at h;obtain⟨ae,h1⟩:=tj h;have af:=D (by simpa using ae);subst af;obtain⟨v,hv,h2⟩:=yQ2.1 h1;obtain⟨f,first,ax,rfl,h3⟩:=v8 h2;exact J4 hd.1.1 (λB X0 X l Q fr ds a E h=>au { c with rd:=true } B X0 (some l) 0 (λh=>by cases h) Q X fr ds a (by rw[lQ];exact hd.1.2) E h)
   (λB X0 X l Q fr ds a E h=>aq { c with rd:=true } B X0 (some l) 0 (λh=>by cases h) Q X fr ds a (by rw[lQ];exact hd.2) E h) E hv rfl h3
 | exit id=>intro c B X0 ro n D Q X fr ds a _ E h;exact wpIn_exit ⟨X,fr,ds,rfl,E,h⟩
 | scope p ih =>
  intro c B X0 ro n D Q X fr ds a hd E h;change (if c.rd=true then False else _) at h;obtain⟨ae,h1⟩:=tj h;have af:=D (by simpa using ae);subst af;have:=ih c B X0 none n D (vV Q) X fr ds a hd E h1;refine wpIn_wide.2 (wp_scope_straight (wpIn_wide.1 (fS this ?_)));rintro e a' w' ⟨X',fr',G,rfl,O,hq⟩;cases e with
  | goto l=>exact hq.elim
  | _=>exact⟨X',fr',G,rfl,O,hq⟩
 | label l=>intro c B X0 ro n D Q X fr ds a _ E h;exact wpIn_label ⟨X,fr,ds,rfl,E,h⟩
 | goto l=>intro c B X0 ro n D Q X fr ds a _ E h;exact wpIn_goto ⟨X,fr,ds,rfl,E,h⟩
 | ret=>intro c B X0 ro n D Q X fr ds a _ E h;exact wpIn_ret ⟨X,fr,ds,rfl,E,h⟩
 | refuse ay=>intro c B X0 ro n D Q X fr ds a _ E h;exact h.elim
