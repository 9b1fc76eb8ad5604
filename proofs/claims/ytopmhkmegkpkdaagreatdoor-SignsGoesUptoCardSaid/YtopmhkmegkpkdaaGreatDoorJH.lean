/- The layer of ideal values, part Pa: what -/
import Derived.Test.YtopmhkmegkpkdaaGreatDoorJG
import Derived.Scope
set_option linter.all false
namespace Go.Iv
open Go
def subSt (st' st:ISt):Prop:=∀b o,st' b=some o->st b=some o
def subSt.refl (st:ISt):subSt st st:=λ_ _ h=>h
def subSt.trans {a b c:ISt}(h:subSt a b)(k:subSt b c):subSt a c:=λx o hx=>k x o (h x o hx)
def Good.sub {C:Cx}{X:WS}(h:Good C X){st:ISt}(D:subSt st X.st):Good C { X with st:=st }/\Ext X { X with st:=st } :=
 ⟨⟨λb o A=>(h.ok b o (D b o A)).mono rfl rfl (λ_ _ O=>O),h.gl,h.B,h.Lnew,h.gsh,h.dr⟩,
  ⟨rfl,rfl,rfl,dz _,λ_=>dz _,λ_ _ _=>rfl,λ_ _ _=>⟨rfl,rfl⟩,(λb _ A=>by
   cases E:st b with
   | none=>exact E
   | some o=>have:=D b o E;rw[A] at this;cases this),λ_ _ hp=>hp,rfl⟩⟩
def join (stu own:ISt):ISt:=λb=>match own b with|some o=>some o|none=>stu b
def disj (stu own:ISt):Prop:=∀b,own b≠none->stu b=none
def fS {stu own:ISt}{b:Nat}{o:IObj}(h:own b=some o):join stu own b=some o:=by simp[join,h]
def gE {stu own:ISt}{b:Nat}(h:own b=none):join stu own b=stu b:=by simp[join,h]
def lg {stu own:ISt}(h:disj stu own):subSt stu (join stu own):=λb o D=>by
 cases A:own b with
 | none=>rw[gE A];exact D
 | some o'=>have:=h b (by rw[A];simp);rw[D] at this;cases this
def Bp {C:Cx}{X:WS}{stu own:ISt}{K:IV->ISt->Prop}{v:Value}{w':World}(hg:Good C X)(E:X.st=join stu own)(hd:disj stu own)(h:ends C { X with st:=stu } K v w') :
  ends C X (λx st'=>∃W,disj W own/\st'=join W own/\K x W) v w':=by
 obtain⟨X',x,rfl,O,A,hv,hK⟩:=h;have ae:∀b o,own b=some o->b<X.w.heap.size:=λb o D=>hg.lt (show X.st b=some o by rw[E];exact fS D);have aa:∀b o,own b=some o->X'.w.heap[b]?=X.w.heap[b]?/\X'.L b=X.L b:=λb o D=>A.keep b (ae b o D) (hd b (by rw[D];simp));have af:∀b o,own b=some o->X'.st b=none:=λb o D=>A.dom b (ae b o D) (hd b (by rw[D];simp));refine⟨{ X' with st:=join X'.st own },x,rfl,⟨λb o D=>?_,O.gl,O.B,O.Lnew,O.gsh,O.dr⟩,⟨A.os,A.tape,A.output,A.size,A.lmono,A.cells,λb D hs=>?_,λb D hs=>?_,A.shape,A.d⟩,hv,X'.st,?_,rfl,hK⟩
 ·cases U:own b with
  | none =>
   have ag:X'.st b=some o:=by rw[<- gE (stu:=X'.st) U];exact D
   exact (O.ok b o ag).mono rfl rfl (λ_ _ hv=>hv)
  | some o' =>
   have:o'=o:=by have:=(fS (stu:=X'.st) U).symm.trans D;exact eK this
   subst this;have h1:=hg.ok b o' (by rw[E];exact fS U);have h2:ObjOk C X' b o':=h1.mono (aa b o' U).1 (aa b o' U).2 (λ_ _ hv=>A.vl hv);exact h2.mono rfl rfl (λ_ _ hv=>hv)
 ·have h1:own b=none:=by
   cases U:own b with
   | none=>rfl
   | some o=>rw[E,fS U] at hs;cases hs
  rw[E,gE h1] at hs;exact A.keep b D hs
 ·have h1:own b=none:=by
   cases U:own b with
   | none=>rfl
   | some o=>rw[E,fS U] at hs;cases hs
  rw[E,gE h1] at hs;exact (gE h1).trans (A.dom b D hs)
 ·intro b D;cases U:own b with
  | none=>exact absurd U D
  | some o=>exact af b o U
section
variable {P:Program}{gl:Nat->Option IV}
def ICall.frame {f:FuncId}{args:List IV}{stu own:ISt}{K:IV->ISt->Prop}(h:ICall P gl f args stu K)(hd:disj stu own) :
  ICall P gl f args (join stu own) (λx st'=>∃A,disj A own/\st'=join A own/\K x A):=by
 intro B X rs W D U;obtain⟨E,O⟩:=W.sub (st:=stu) (by rw[D];exact lg hd);refine (h B { X with st:=stu } rs E rfl ⟨U.1,λi r c hr hc=>O.v (U.2 i r c hr hc)⟩).mono ?_;rintro e w' ⟨v,rfl,he⟩;exact⟨v,rfl,Bp W D hd he⟩
def ICallV.frame {f:IV}{args:List IV}{stu own:ISt}{K:IV->ISt->Prop}(h:ICallV P gl f args stu K)(hd:disj stu own) :
  ICallV P gl f args (join stu own) (λx st'=>∃A,disj A own/\st'=join A own/\K x A):=by
 intro B X fv rs W D hf U;obtain⟨O,E⟩:=W.sub (st:=stu) (by rw[D];exact lg hd);exact (h B { X with st:=stu } fv rs O rfl (E.v hf) ⟨U.1,λi r c hr hc=>E.v (U.2 i r c hr hc)⟩).mono λv w' he=>Bp W D hd he
def lR {g:FuncId}{first A args:List IV}{st:ISt}{K:IV->ISt->Prop}(he:entI P g=true)(h:ICall P gl g (first++args++A) st K):ICallV P gl (.fn (.func g) first A) args st K:=by
 intro B X fv rs W D hf U;obtain⟨fs,cs,rfl,E,O⟩:=kJ hf;exact AG he (h B X (fs++rs++cs) W D ((E.append U).append O))
def VL.split {B:Nat}{L:Nat->Nat}{w:World}{rs:List Value}{A O:List IV}(h:VL B L w rs (A++O)):∃E D,rs=E++D/\VL B L w E A/\VL B L w D O:=by
 refine⟨rs.take A.length,rs.drop A.length,(eF _ _).symm,?_,?_⟩
 ·have:=h.take A.length
  rwa [List.take_left] at this
 ·have:=h.drop A.length
  rwa [jR] at this
def rh {g:FuncId}{first A args:List IV}{st:ISt}{K:IV->ISt->Prop}(D:entI P g=true)(h:ICallV P gl (.fn (.func g) first A) args st K):ICall P gl g (first++args++A) st K:=by
 intro B X rs hg W hv;obtain⟨ae,E,rfl,ab,h3⟩:=VL.split hv;obtain⟨O,U,rfl,h1,h2⟩:=VL.split ab;have hc:=h B X (.func (.func g) ⟨O⟩ ⟨E⟩) U hg W (.fn (.func g) O first h1.1 h1.2 E A h3.1 h3.2) h2;unfold entI at D;cases hf:P.funcs[g]? with
 | none=>simp[hf] at D
 | some fn =>
  simp only[hf,bAt,bne_iff_ne,ne_eq] at D;have hb:¬ fn.body.isNone=true:=by
   have:=D.2;cases hq:fn.body<;>simp_all
  have hr:(do let d <- Deferred.ofValue (.func (.func g) ⟨O⟩ ⟨E⟩) ⟨U⟩;invoke d.target d.args:Sem Next).run P X.w=.ok (.enter g ⟨O++U++E⟩) X.w:=by
   simp only[Deferred.ofValue,cX,c_,cW,invoke,callFunc,run_program,hf];rw[a_ (by simpa using D.1),a_ hb];simp
  unfold CallsVal at hc;grind
def pQ {f:Fn}{first A args:List IV}{st:ISt}{K:IV->ISt->Prop}(D:∀g,f=.func g->entI P g=true)(h:ICallV P gl (.fn f first A) args st K):callV P gl f first A args st K:=by
 unfold callV;split
 ·rw[b_ (D _ rfl)];exact rh (D _ rfl) h
 ·exact h
def IsFn (P:Program)(y:IV):Prop:=∃f first A,y=.fn f first A/\fnOk f=true/\∀g,f=.func g->entI P g=true
def Bq (P:Program)(gl:Nat->Option IV)(y:IV)(A:Nat->List IV->Prop)(I:Nat->ISt->Prop)(S:ISt->Prop):Prop :=
 ∀k a stu,A k a->I k stu->ICallV P gl y a stu λr st'=>(r=true/\I (k+1) st')\/(r=false/\S st')
def IterC (P:Program)(gl:Nat->Option IV)(g:FuncId)(first D:List IV)(E:Nat->List IV->Prop)(len:Nat)(I:Nat->ISt->Prop):Prop :=
 ∀(y:IV) (I':Nat->ISt->Prop) (S':ISt->Prop) (st:ISt),IsFn P y->(∀k stu,I' k stu->∃A,subSt A stu/\I k A)->Bq P gl y E I' S'->I' 0 st →
  ICall P gl g (first++[y]++D) st λ_ st'=>I' len st'\/S' st'
abbrev ISt.add (s e:ISt):ISt:=Go.Iv.join s e
abbrev ISt.disj (e s:ISt):Prop:=Go.Iv.disj s e
def nM {s e:ISt}{b:Nat}(h:e b=none):s.add e b=s b:=gE h
def lS {s e:ISt}{b:Nat}{o:Option IObj}(h:e b=none):(s.add e).put b o=(s.put b o).add e:=by
 funext c;by_cases hc:c=b
 ·subst hc;simp only[ISt.put_apply,join,h,dB]
 ·simp only[ISt.put_apply,join,a_ hc]
def ISt.disj.put {e s:ISt}(h:e.disj s){b:Nat}{o:Option IObj}(A:e b=none):e.disj (s.put b o):=λc hc=>by
 rw[ISt.put_apply,a_ (by rintro rfl;exact hc A)];exact h c hc
def ISt.disj.off {e s:ISt}(h:e.disj s){b:Nat}{o:IObj}(A:s b=some o):e b=none:=by
 cases D:e b with
 | none=>rfl
 | some o'=>have:=h b (by rw[D];simp);rw[A] at this;cases this
def Br (P:Program)(gl:Nat->Option IV)(y:IV)(A:Nat->List IV->ISt->Prop)(I:Nat->ISt->Prop)(S:ISt->Prop):Prop :=
 ∀k a e stu,A k a e->e.disj stu->I k stu->ICallV P gl y a (stu.add e) λr st'=>(r=true/\∃s1,I (k+1) s1/\e.disj s1/\st'=s1.add e)\/(r=false/\S st')
def IterL (P:Program)(gl:Nat->Option IV)(g:FuncId)(first D:List IV)(E:Nat->List IV->ISt->Prop)(len:Nat)(I:Nat->ISt->Prop):Prop :=
 ∀(y:IV) (I':Nat->ISt->Prop) (S':ISt->Prop) (st:ISt),IsFn P y->(∀k stu,I' k stu->∃A,subSt A stu/\I k A)->Br P gl y E I' S'->I' 0 st →
  ICall P gl g (first++[y]++D) st λ_ st'=>I' len st'\/S' st'
def IterU (P:Program)(gl:Nat->Option IV)(g:FuncId)(first E:List IV)(U:Nat->List IV->ISt->Prop)(len:Nat)(I:Nat->ISt->Prop)(up:Nat->List (Value×IV)->List (Value×IV)->Prop):Prop :=
 ∀(y:IV) (I':Nat->ISt->Prop) (S':ISt->Prop) (st:ISt),IsFn P y->(∀k stu,I' k stu->∃A,subSt A stu/\I k A)->(∀k stu m O es D,I' k stu->stu m=some (.map O es)->up m es D->I' k (stu.put m (some (.map O D))))->Br P gl y U I' S'->I' 0 st →
  ICall P gl g (first++[y]++E) st λ_ st'=>I' len st'\/S' st'
def noUp (_:Nat)(_ _:List (Value×IV)):Prop:=False
def Bs {σ:Type}(P:Program)(gl:Nat->Option IV)(y:IV)(D:σ->List IV->ISt->σ->Prop)(I:σ->ISt->Prop)(S:ISt->Prop):Prop :=
 ∀k a e A stu,D k a e A->e.disj stu->I k stu->ICallV P gl y a (stu.add e) λr st'=>(r=true/\∃s1,I A s1/\e.disj s1/\st'=s1.add e)\/(r=false/\S st')
def Bt {σ:Type}(P:Program)(gl:Nat->Option IV)(g:FuncId)(first E:List IV)(W:σ->List IV->ISt->σ->Prop)(k0:σ)(O:σ->Prop)(I:σ->ISt->Prop)(up:Nat->List (Value×IV)->List (Value×IV)->Prop):Prop :=
 ∀(y:IV) (I':σ->ISt->Prop) (S':ISt->Prop) (st:ISt),IsFn P y->(∀k stu,I' k stu->∃A,subSt A stu/\I k A)->(∀k stu m U es D,I' k stu->stu m=some (.map U es)->up m es D->I' k (stu.put m (some (.map U D))))->Bs P gl y W I' S'->I' k0 st →
  ICall P gl g (first++[y]++E) st λ_ st'=>(∃k,O k/\I' k st')\/S' st'
def vX (A:Nat->List IV->ISt->Prop)(k:Nat)(a:List IV)(e:ISt)(D:Nat):Prop:=A k a e/\D=k+1
def IterU.toH {P:Program}{gl:Nat->Option IV}{g:FuncId}{first A:List IV}{E:Nat->List IV->ISt->Prop}{len:Nat}{I:Nat->ISt->Prop}{up:Nat->List (Value×IV)->List (Value×IV)->Prop}(h:IterU P gl g first A E len I up):Bt P gl g first A (vX E) 0 (·=len) I up :=
 λy I' S' st hf hI U O h0=>(h y I' S' st hf hI U (λk a e stu hk hd D=>O k a e (k+1) stu ⟨hk,rfl⟩ hd D) h0).mono λr st' W=>W.imp (λD=>⟨len,rfl,D⟩) id
def IterL.up {P:Program}{gl:Nat->Option IV}{g:FuncId}{first A:List IV}{D:Nat->List IV->ISt->Prop}{len:Nat}{I:Nat->ISt->Prop}(h:IterL P gl g first A D len I):IterU P gl g first A D len I noUp :=
 λy I' S' st O U _ E W=>h y I' S' st O U E W
def Bu (A:Nat->List IV->Prop):Nat->List IV->ISt->Prop:=λk a e=>A k a/\e=λ_=>none
def IterC.lent {P:Program}{gl:Nat->Option IV}{g:FuncId}{first A:List IV}{D:Nat->List IV->Prop}{len:Nat}{I:Nat->ISt->Prop}(h:IterC P gl g first A D len I):IterL P gl g first A (Bu D) len I :=
 λy I' S' st W hI E h0=>h y I' S' st W hI (λk a stu hx U=>(E k a (λ_=>none) stu ⟨hx,rfl⟩ (λb hb=>absurd rfl hb) U).mono λr st' O=>O.imp (λ⟨h1,s1,h2,h3,h4⟩=>⟨h1,h4▸h2⟩) id) h0
def ICallD (P:Program)(gl:Nat->Option IV)(f:FuncId)(args:List IV)(st:ISt)(K:IV->ISt->Prop):Prop :=
 ∀(B:Nat) (X:WS) (rs:List Value) (u:FrameMode),Good ⟨P,gl,B⟩ X->X.st=st->Cx.vl ⟨P,gl,B⟩ X rs args →
  CallsDIn Fence.wide 0 P f ⟨rs⟩ u X.w λe A w'=>A=u/\∃v,e=.returned v/\ends ⟨P,gl,B⟩ X K v w'
def ICallD.mono {f:FuncId}{args:List IV}{st:ISt}{K K':IV->ISt->Prop}(h:ICallD P gl f args st K)(U:∀x st,K x st->K' x st):ICallD P gl f args st K' :=
 λB X rs u W A O=>(h B X rs u W A O).mono λe u' w' E=>⟨E.1,by
  obtain⟨v,D,h⟩:=E.2;exact⟨v,D,uU h U⟩⟩
end
def pR:SV->IV
 | .iv x=>x
 | .box _=>.junk
@[go_sem] def Ux (x:IV):pR x=x:=(rfl)
def oL (fr:Fr):Fr:=λt=>(pR (fr t))
@[go_sem ↓] def Uy (fr:Fr)(t:Nat):oL fr t=(pR (fr t)):=(rfl)
def lh (fr:Fr):List (Nat×IV)->Fr
 | []=>fr
 | p::l=>lh (fr.put p.1 p.2) l
@[go_sem ↓] def Uz (fr:Fr):lh fr []=fr:=(rfl)
@[go_sem ↓] def UA (fr:Fr)(t:Nat)(x:IV)(l:List (Nat×IV)):lh fr ((t,x)::l)=lh (fr.put t x) l:=(rfl)
def vY (R:Exit->ISt->Prop):Kc:=λe _ st ds=>chk (ds=[]) (R e st)
@[go_sem ↓] def UB (R:Exit->ISt->Prop)(e:Exit)(fr:Fr)(st:ISt)(ds:List Dfd):vY R e fr st ds=chk (ds=[]) (R e st):=(rfl)
def pS (A:Kc->Fr->ISt->List Dfd->Prop)(R:Exit->ISt->Prop):Kc
 | .normal,fr,st,ds=>chk (ds=[]) (A (vY R) fr st [])
 | _,_,_,_=>False
@[go_sem ↓] def UC (A:Kc->Fr->ISt->List Dfd->Prop)(R:Exit->ISt->Prop)(fr:Fr)(st:ISt)(ds:List Dfd):pS A R .normal fr st ds=chk (ds=[]) (A (vY R) fr st []):=(rfl)
def ri (I:ISt->Prop)(S:Exit->ISt->Prop):Exit->ISt->Prop
 | .normal,st=>I st
 | .ret,st=>S .ret st
 | .exit id,st=>S (.exit id) st
 | .goto t,st=>S (.goto t) st
 | _,_=>False
@[go_sem ↓] def UD (I:ISt->Prop)(S:Exit->ISt->Prop)(st:ISt):ri I S .normal st=I st:=(rfl)
@[go_sem ↓] def UE (I:ISt->Prop)(S:Exit->ISt->Prop)(st:ISt):ri I S .ret st=S .ret st:=(rfl)
def vZ (P:Program)(gl:Nat->Option IV)(f:Fn)(first O:List IV)(n:Nat)(A:List IV->ISt->(Exit->ISt->Prop)->Prop)(Q:Exit->ISt->Nat->Prop)(st:ISt)(_:Lock A)(_:Lock Q):Prop :=
 ∃g,f=.func g/\entI P g=true/\∃(σ:Type) (W:σ->List IV->ISt->σ->Prop) (k0:σ) (D:σ->Prop) (I:σ->ISt->Prop) (S:Exit->ISt->Prop) (up:Nat->List (Value×IV)->List (Value×IV)->Prop),(∀k s m kk es E,I k s->s m=some (.map kk es)->up m es E->I k (s.put m (some (.map kk E))))/\(∀k a e U,W k a e U->a.length=n)/\I k0 st /\
  (∀k a e U s,W k a e U->e.disj s->I k s->A a (s.add e) (ri (λs'=>∃s1,I U s1/\e.disj s1/\s'=s1.add e) S))/\Bt P gl g first O W k0 D I up/\(∀k st' r,D k->I k st'->Q .normal st' r)/\(∀e st' r,S e st'->Q e st' r)
def vcC:Cf->Code->Kc->Fr->ISt->List Dfd->Prop
 | _,.skip,Q,fr,st,ds=>Q .normal fr st ds
 | c,.region _ ops false,Q,fr,st,ds=>fR { c with dr:=false } ops.toList ops.toList (Q .normal) Ad.none_ fr st ds
 | c,.region id ops true,Q,fr,st,ds=>mj c ops (lQ c.ord id) (Q .normal) fr st ds
 | c,.seq a b,Q,fr,st,ds=>vcC c a (seqK (vcC c b Q) Q) fr st ds
 | c,.cond x a b,Q,fr,st,ds=>cU (evV c.gl fr x) λv=>kZ v λt=>jG t (vcC c a Q fr st ds) (vcC c b Q fr st ds) .mk .mk
 | c,.block id a,Q,fr,st,ds=>vcC c a (oI id Q) fr st ds
 | c,.loop a,Q,fr,st,ds=>LoopV (λfr st ds Q=>vcC c a Q fr st ds) Q fr st ds .mk .mk
 | c,.rangeFunc g ps D b,Q,fr,st,ds=>if c.rd=true then False else cU (evV c.gl fr g) λv=>fnV v λf first A =>
   vZ c.P c.gl f first A ps.size (λE st' R=>vcC { c with rd:=true } D (pS (vcC { c with rd:=true } b) R) (lh (oL fr) (ps.toList.zip E)) st' []) (λe st' r=>Q e fr st' (.coll r::ds)) st .mk .mk
 | _,.exit id,Q,fr,st,ds=>Q (.exit id) fr st ds
 | c,.scope a,Q,fr,st,ds=>if c.rd=true then False else vcC c a (uX Q) fr st ds
 | _,.label _,Q,fr,st,ds=>Q .normal fr st ds
 | _,.goto l,Q,fr,st,ds=>Q (.goto l) fr st ds
 | _,.ret,Q,fr,st,ds=>Q .ret fr st ds
 | _,_,_,_,_,_=>False
def Js {p:Nat->Prop}(h:∃m,p m):∃m,p m/\∀k,p k->m<=k:=by
 obtain⟨m,D⟩:=h
 induction m using Nat.strongRecOn with
 | _ m A =>
  grind
open Classical in
noncomputable def least (p:Nat->Prop):Nat:=if h:∃m,p m then (Js h).choose else 0
def least_spec {p:Nat->Prop}(h:∃m,p m):p (least p)/\∀k,p k->least p<=k:=by
 unfold least;grind
def Jt {F:Fence}{n:Nat}{P:Program}{c:Code}{Q:Exit->Act->World->Prop}{a:Act}{w:World}(J:Nat->Act->World->Prop)(h0:∃m,J m a w)
  (A:∀m a w,J m a w->c.wpIn F n P (Exit.then (λa' w'=>∃D,D<m/\J D a' w') Q) a w):(Code.loop c).wpIn F n P Q a w:=by
 refine wpIn_loop (λa w=>∃m,J m a w) (λa w=>least λm=>J m a w) h0 (λa w hI=>?_);obtain⟨W,_⟩:=least_spec hI;refine gp (A _ a w W) (λe a' w' U=>?_);cases e with
 | normal =>
  obtain⟨D,E,O⟩:=U;exact⟨⟨D,O⟩,Nat.lt_of_le_of_lt ((least_spec ⟨D,O⟩).2 D O) E⟩
 | _=>exact U
def codeOk (c:Cf)(N:Nat):Code->Bool
 | .region id ops dr=>(ops.toList.all λo=>match o.dst with|some d=>decide (d<N)|none=>true)&&(!dr || (c.P.follows .mixedOrders&&(anyO (lQ c.ord id) || vW c.esc ops (rf (lQ c.ord id) ops.size))))
 | .seq a b=>codeOk c N a&&codeOk c N b
 | .cond _ a b=>codeOk c N a&&codeOk c N b
 | .block _ a=>codeOk c N a
 | .loop a=>codeOk c N a
 | .scope a=>codeOk c N a
 | .rangeFunc _ ps a b=>ps.toList.all (λd=>decide (d<N))&&codeOk c N a&&codeOk c N b
 | _=>true
def lT {c:Cf}{N:Nat}(r:Bool):∀(A:Code),codeOk { c with rd:=r } N A=codeOk c N A
 | .region _ _ _=>rfl
 | .seq a b=>by rw[codeOk,codeOk,lT r a,lT r b]
 | .cond _ a b=>by rw[codeOk,codeOk,lT r a,lT r b]
 | .block _ a=>by rw[codeOk,codeOk,lT r a]
 | .loop a=>by rw[codeOk,codeOk,lT r a]
 | .scope a=>by rw[codeOk,codeOk,lT r a]
 | .rangeFunc _ _ a b=>by rw[codeOk,codeOk,lT r a,lT r b]
 | .skip=>rfl
 | .exit _=>rfl
 | .label _=>rfl
 | .goto _=>rfl
 | .ret=>rfl
 | .refuse _=>rfl
def eZ (st:ISt)(b:Nat)(x y:Option IObj):(st.put b x).put b y=st.put b y:=by
 funext c;simp only[ISt.put_apply];split<;>rfl
def lj {st:ISt}{b:Nat}{x:Option IObj}(h:st b=x):st.put b x=st:=by
 funext c;simp only[ISt.put_apply];split
 ·grind
 ·rfl
def sS (X:WS)(g:Nat)(o:Obj)(so:Option IObj):(X.obj g o so).st=X.st.put g so:=rfl
def nN {C:Cx}{X:WS}{n0:Nat}:∀ {ps:List Nat} {rs:List Value} {D:List IV} {fr:Fr} {A:Array Value},FrOk C X n0 fr A->(∀p∈ps,p<A.size)->C.vl X rs D->ps.length=D.length →
  FrOk C X n0 (lh fr (ps.zip D)) ((ps.zip rs).foldl (λt p=>t.setIfInBounds p.1 p.2) A)
 | [],rs,D,fr,A,h,_,_,_=>h
 | p::ps,[],D,fr,A,h,_,E,O=>by
  have:=E.1;grind
 | p::ps,r::rs,[],fr,A,h,_,E,O=>by cases O
 | p::ps,r::rs,a::D,fr,A,h,hp,E,O=>by
  have W:C.v X r a:=E.2 0 r a rfl rfl;have U:C.vl X rs D:=⟨by simpa using E.1,λi x c hx hc=>E.2 (i+1) x c (by simpa using hx) (by simpa using hc)⟩
  have:=nN (ps:=ps) (h.put (hp p (by simp)) W) (λq hq=>by rw[lz];exact hp q (.tail _ hq)) U (by simpa using O);simpa only[List.zip_cons_cons,jS,lh] using this
def v7:∀(l:List (Nat×Value))(A:Array Value),(l.foldl (λt p=>t.setIfInBounds p.1 p.2) A).size=A.size
 | [],A=>rfl
 | p::l,A=>by rw[jS,v7 l];simp
def Bv:Exit->Option Code
 | .ret=>some .ret
 | .exit id=>some (.exit id)
 | .goto t=>some (.goto t)
 | _=>none
section
variable {C:Cx}{X Y Z:WS}{l:Nat}{r r':Loop}
def jd (c:Array Value)(T:TypeId)(f:Nat×Nat):Obj.loop r≠.cells c T f:=by intro h;cases h
def Ext.both (h:Ext X Y)(hx:X.w.heap[l]?=some (.loop r))(W:X.st l=none):Ext (X.obj l (.loop r') none) (Y.obj l (.loop r') none):=by
 have U:=(gO.1 hx).1;obtain⟨hk,hL⟩:=h.keep l U W;have O:Y.w.heap[l]?=some (.loop r):=hk.trans hx;refine⟨h.os,h.tape,h.output,?_,h.lmono,λb i hi=>?_,λb E D=>?_,λb E D=>?_,λb p hp=>?_,h.d⟩
 ·simp only[WS.obj,lz];exact h.size
 ·rw[qW O jd jd,qW hx jd jd];exact h.cells b i hi
 ·simp only[WS.obj,lz] at E;by_cases A:b=l
  ·subst A;exact⟨(nI O).trans (nI hx).symm,hL⟩
  ·have:X.st b=none:=by simpa only[WS.obj,a_ A] using D
   rw[kh O A,kh hx A];exact h.keep b E this
 ·simp only[WS.obj,lz] at E;by_cases A:b=l
  ·subst A;simp[WS.obj]
  ·have:X.st b=none:=by simpa only[WS.obj,a_ A] using D
   simp only[WS.obj,a_ A];exact h.dom b E this
 ·refine qX O jd b p (h.shape b p ?_);by_cases A:b=l
  ·subst A;have:=nI (so:=none) (o':=.loop r') hx;simp[shq,this] at hp
  ·rw[qG (kh hx A)] at hp;exact hp
def rj {W:IObj}(hx:X.w.heap[l]?=some (.loop r))(U:X.st l=some W)(hL:X.L l=0)(h:Ext ({ X with st:=X.st.put l none }.obj l (.loop r') none) Y):Ext X Y:=by
 have E:({ X with st:=X.st.put l none }:WS).w.heap[l]?=some (.loop r):=hx;refine⟨h.os,h.tape,h.output,?_,h.lmono,λb i hi=>?_,λb O A=>?_,λb O A=>?_,λb p hp=>?_,h.d⟩
 ·have:=h.size;simpa only[WS.obj,lz] using this
 ·rw[h.cells b i hi];exact qW E jd jd b i
 ·have D:b≠l:=by rintro rfl;rw[U] at A;cases A
  have h1:=h.keep b (by simpa only[WS.obj,lz] using O) (by simp only[WS.obj,a_ D,ISt.put_apply];exact A);rw[kh E D] at h1;exact h1
 ·have D:b≠l:=by rintro rfl;rw[U] at A;cases A
  exact h.dom b (by simpa only[WS.obj,lz] using O) (by simp only[WS.obj,a_ D,ISt.put_apply];exact A)
 ·exact h.shape b p (qX E jd b p hp)
def Inv.both {N:Nat}{fr:Fr}{a:Act}(h:Inv C X N Y fr [] a)(hx:X.w.heap[l]?=some (.loop r))(W:X.st l=none):Inv C (X.obj l (.loop r') none) N (Y.obj l (.loop r') none) fr [] a:=by
 have D:=(gO.1 hx).1;have O:Y.w.heap[l]?=some (.loop r):=(h.ext.keep l D W).1.trans hx;have A:=h.ext.dom l D W;have U:∀i,none=some i->ObjOk C (Y.obj l (.loop r') none) l i:=λi hi=>by cases hi
 refine⟨h.good.obj O jd jd U,h.ext.both hx W,⟨λt=>?_,h.fr.inj⟩,h.size,?_⟩
 ·have h0:(X.obj l (.loop r') none).w.heap.size=X.w.heap.size:=by simp[WS.obj]
  rw[h0];refine (h.fr.slot t).mono (λ_ _=>mS O jd jd) ?_;intro b cs hb hr h1 h2 h3;have E:b≠l:=by
   rintro rfl;have A:=h.fr.slot t;rw[hb] at A;obtain⟨b',c,T,aa,ac,_⟩:=A;grind
  exact⟨kh O E,rfl,by simp only[WS.obj,a_ E];exact h1⟩
 ·have:=h.ds;generalize a.defers=ag at this ⊢;cases this;exact .nil
end
abbrev recI (fr:Fr):Nat->IV:=λt=>pR (fr t)
def Ju {c:Cf}{B:Nat}{X0 X:WS}{N:Nat}{n:Nat}{g:Operand}{ps:Array Tmp}{D body:Code}{Q:Kc}{fr:Fr}{ds:List Dfd}{a:Act}(ct:∀p∈ps.toList,p<N)
  (ce:∀(B:Nat) (X0 X:WS) (l:Nat) (Q:Kc) (fr:Fr) (ds:List Dfd) (a:Act),Inv (c.cx B) X0 N X fr ds a->vcC { c with rd:=true } D Q fr X.st ds->D.wpIn (ev (some l)) 0 c.P (PQ (c.cx B) X0 N Q) a X.w)
  (cd:∀(B:Nat) (X0 X:WS) (l:Nat) (Q:Kc) (fr:Fr) (ds:List Dfd) (a:Act),Inv (c.cx B) X0 N X fr ds a->vcC { c with rd:=true } body Q fr X.st ds->body.wpIn (ev (some l)) 0 c.P (PQ (c.cx B) X0 N Q) a X.w)
  (hI:Inv (c.cx B) X0 N X fr ds a) {v:IV} (cB:evV c.gl fr g=some v) {f:Fn} {first aS:List IV} (hv:v=.fn f first aS)
  (h:vZ c.P c.gl f first aS ps.size (λaL st' R=>vcC { c with rd:=true } D (pS (vcC { c with rd:=true } body) R) (lh (oL fr) (ps.toList.zip aL)) st' []) (λe st' r=>Q e fr st' (.coll r::ds)) X.st .mk .mk) :
  (Code.rangeFunc g ps D body).wpIn (ev none) n c.P (PQ (c.cx B) X0 N Q) a X.w:=by
 obtain⟨gf,rfl,he,σ,lk,k0,c4,I,S,up,cm,cg,h0,ax,a7,cG,cF⟩:=h;subst hv;have ck:=(pI (C:=c.cx B) (X:=X) hI.good hI.fr cB).1;obtain⟨fs,cs,eg,bR,bX⟩:=kJ ck;refine wpIn_rangeFunc ?_;intro fn _;obtain⟨rec,A⟩:∃rec:Loop,rec={ state:=.ready,pending:=none,fn:=fn,tmps:=a.tmps,params:=ps,assign:=D,body:=body,defers:=X.w.heap.size }:=⟨_,rfl⟩
 have bB:X.st X.w.heap.size=none:=by
  cases hs:X.st X.w.heap.size with
  | none=>rfl
  | some o=>have:=hI.good.lt hs;omega
 have bA:X.st (X.w.heap.size+1)=none:=by
  cases hs:X.st (X.w.heap.size+1) with
  | none=>rfl
  | some o=>have:=hI.good.lt hs;omega
 -- ag two new ca
 obtain⟨X1,ac⟩:∃X1,X1=X.new (.deferred (some [])) 0 none:=⟨_,rfl⟩
 have am:Inv (c.cx B) X0 N X1 fr ds a:=by rw[ac];exact hI.new _ _ _ (λi hi=>by cases hi)
 have bs:X1.w.heap.size=X.w.heap.size+1:=by rw[ac];simp[WS.new]
 obtain⟨l,hl⟩:∃l,l=X1.w.heap.size:=⟨_,rfl⟩
 have bL:l=X.w.heap.size+1:=hl.trans bs;have aU:X1.st=X.st:=by
  rw[ac];funext b;simp only[WS.new];split
  ·grind
  ·rfl
 obtain⟨X2,aB⟩:∃X2,X2=X1.new (.loop rec) 0 (some (.loop rec (recI fr))):=⟨_,rfl⟩
 have bo:∀t,(c.cx B).v X1 (rec.tmps.getD t undef) (recI fr t):=λt=>by
  have hs:=am.fr.slot t;rw[A];show (c.cx B).v X1 (tm a.tmps t) (pR (fr t));cases hf:fr t with
  | iv x=>rw[hf] at hs;exact hs
  | box cs=>exact .junk _
 have b2:Inv (c.cx B) X0 N X2 fr ds a:=by
  rw[aB];refine am.new _ _ _ (λi hi=>?_);cases hi;have bS:=am.good.new_ext (.loop rec) 0 (some (.loop rec (recI fr)));exact⟨by simp[WS.new],ja _ _,λt=>bS.v (bo t)⟩
 have aH:X2.st=X.st.put l (some (.loop rec (recI fr))):=by
  rw[aB,<- aU];funext b;simp only[WS.new,ISt.put_apply,hl]
 have bq:X2.w=(X.w.alloc (.deferred (some []))).alloc (.loop rec):=by rw[aB,ac];rfl
 have b4:X2.w.heap[X.w.heap.size]?=some (.deferred (some [])):=by
  rw[bq,qE _ _ (by simp)];exact ja _ _
 have aN:X2.st X.w.heap.size=none:=by
  rw[aH,ISt.put_apply,a_ (by omega)];exact bB
 -- ag b6 of ag b7
 obtain⟨I',ae⟩:∃I':σ->ISt->Prop,I'=λk stu=>stu l=some (.loop rec (recI fr))/\I k (stu.put l none):=⟨_,rfl⟩
 obtain⟨S',bY⟩:∃S':ISt->Prop,S'=λstu=>∃e cj,Bv e=some cj/\stu l=some (.loop { rec with state:=.done,pending:=some cj } (recI fr))/\S e (stu.put l none):=⟨_,rfl⟩
 have aw:Bs c.P c.gl (.fn (.yield l) [] []) lk I' S':=by
  intro k aL le k2 stu hk hd hi B' X3 fv rs bP aG cA aV;rw[ae] at hi;obtain⟨bC,cw⟩:=hi;have aa:le l=none:=hd.off bC;obtain⟨cM,cs',rfl,bQ,bW⟩:=kJ cA;obtain rfl:cM=[]:=eN bQ.1;obtain rfl:cs'=[]:=eN bW.1;have ah:X3.st l=some (.loop rec (recI fr)):=by rw[aG,nM aa];exact bC
  obtain⟨b0,ba,aF⟩:=bP.ok l _ ah;have bK:rs.length=ps.size:=by rw[aV.1];exact cg k aL le k2 hk
  have bD:(do let d <- Deferred.ofValue (.func (.yield l) ⟨[]⟩ ⟨[]⟩) ⟨rs⟩;invoke d.target d.args:Sem Next).run c.P X3.w =
    .ok (.round l rec.fn ((rec.params.zip ⟨rs⟩).foldl (λtmps (t,a)=>tmps.setIfInBounds t a) rec.tmps) rec.assign rec.body) X3.w:=by
   have:=run_yield (P:=c.P) (args:=⟨rs⟩) ba (by rw[A];simpa using bK);simp only[Deferred.ofValue,cX,c_,cW,invoke];grind
  unfold CallsVal;rw[bD];refine⟨rfl,?_⟩;obtain⟨aT,U⟩:∃t,t=(rec.params.zip ⟨rs⟩).foldl (λ(tmps:Array Value) (p:Tmp×Value)=>tmps.setIfInBounds p.1 p.2) rec.tmps:=⟨_,rfl⟩
  have htl:aT=(ps.toList.zip rs).foldl (λt p=>t.setIfInBounds p.1 p.2) a.tmps:=by
   rw[U,A,<- Array.foldl_toList];simp
  have cr:rec.assign=D:=by rw[A]
  have cq:rec.body=body:=by rw[A]
  rw[cr,cq];change RoundIn Fence.wide 0 c.P l rec.fn ((rec.params.zip ⟨rs⟩).foldl (λ(tmps:Array Value) (p:Tmp×Value)=>tmps.setIfInBounds p.1 p.2) rec.tmps) D body X3.w _;rw[<- U,htl]
  -- ag bl frame
  obtain⟨Xc,ab⟩:∃Xc:WS,Xc={ X3 with st:=X3.st.put l none }:=⟨_,rfl⟩
  have bt:subSt (X3.st.put l none) X3.st:=λb o hb=>by
   rw[ISt.put_apply] at hb;grind
  obtain⟨bN,bb⟩:=bP.sub bt;rw[<- ab] at bN bb;have aM:Xc.w=X3.w:=by rw[ab]
  have ay:Xc.w.heap[l]?=some (.loop rec):=by rw[aM];exact ba
  have aX:Xc.st l=none:=by rw[ab];exact cT _ _ _
  have cI:Inv (c.cx B') Xc N Xc (lh (oL fr) (ps.toList.zip aL)) [] { tmps:=(ps.toList.zip rs).foldl (λt p=>t.setIfInBounds p.1 p.2) a.tmps,defers:=[] }:=by
   refine⟨bN,Ext.refl _,nN ⟨λt=>?_,λt t' cs cs' ht=>by cases ht⟩ (λp hp=>by rw[hI.size];exact ct p hp) ⟨aV.1,λi r x hr hx=>bb.v (aV.2 i r x hr hx)⟩ ?_,?_,.nil⟩
   ·have:=aF t;rw[A] at this;exact bb.v this
   ·grind
   ·simp only[v7];exact hI.size
  have bF:=ax k aL le k2 (stu.put l none) hk (hd.put aa) cw;have bu:Xc.st=(stu.put l none).add le:=by rw[ab,<- lS aa,<- aG]
  rw[<- bu] at bF;have bp:=ce B' Xc Xc l _ _ _ _ cI bF;rw[aM] at bp;refine roundIn_of_wpIn trivial (gp bp ?_);rintro e a6 w6 ⟨X6,c3,c7,rfl,aD,hq⟩;cases e with
  | normal =>
   obtain⟨bV,hq⟩:=hq;subst bV;have bJ:l<Xc.w.heap.size:=(gO.1 ay).1;have cy:X6.w.heap[l]?=some (.loop rec):=(aD.ext.keep l bJ aX).1.trans ay;have co:X6.st l=none:=aD.ext.dom l bJ aX;refine⟨(X6.obj l (.loop { rec with state:=.busy }) none).w,run_beginRound cy (by rw[A]),?_⟩;have cJ:=aD.both (r':={ rec with state:=.busy }) ay aX;have bw:(X6.obj l (.loop { rec with state:=.busy }) none).st=X6.st:=by rw[sS];exact lj co
   rw[<- bw] at hq;have cR:a6.defers=[]:=by
    have:=aD.ds;generalize a6.defers=c8 at this;cases this;rfl
   have ci:=cd B' _ _ l _ _ _ _ cJ hq;refine gp ci ?_;rintro e a8 w8 ⟨X8,c2,c6,rfl,ak,cQ,hR⟩;have bM:(Xc.obj l (.loop { rec with state:=.busy }) none).w.heap[l]?=some (.loop { rec with state:=.busy }):=nI ay;have aW:(Xc.obj l (.loop { rec with state:=.busy }) none).st l=none:=by rw[sS];exact cT _ _ _
   have ai:l<(Xc.obj l (.loop { rec with state:=.busy }) none).w.heap.size:=(gO.1 bM).1;have aj:X8.w.heap[l]?=some (.loop { rec with state:=.busy }):=(ak.ext.keep l ai aW).1.trans bM;have aY:X8.st l=none:=ak.ext.dom l ai aW;have cH:X8.L l=0:=(ak.ext.keep l ai aW).2.trans (by rw[ab];exact b0);have bT:Ext X3 X8:=rj ba ah b0 (by rw[<- ab];exact ak.ext)
   -- ag b8 is set cS
   have aO:∀(r9:Loop) (b:Bool),r9.tmps=rec.tmps->((b=true/\∃s1,I' k2 s1/\le.disj s1/\X8.st.put l (some (.loop r9 (recI fr)))=s1.add le)\/(b=false/\S' (X8.st.put l (some (.loop r9 (recI fr)))))) →
     ends (c.cx B') X3 (λr st'=>(r=true/\∃s1,I' k2 s1/\le.disj s1/\st'=s1.add le)\/(r=false/\S' st')) (.bool b) (X8.w.putObj l (.loop r9)):=by
    intro r9 b ht cZ;have aJ:Ext X3 (X8.obj l (.loop r9) (some (.loop r9 (recI fr)))):=bT.obj aj jd jd (.inr (by rw[ah];simp));refine⟨X8.obj l (.loop r9) (some (.loop r9 (recI fr))),.raw (.bool b),rfl,ak.good.obj aj jd jd (λi hi=>?_),aJ,.raw _ trivial,?_⟩
    ·cases hi;exact⟨cH,nI aj,λt=>by rw[ht];exact aJ.v (aF t)⟩
    ·rw[sS];grind
   have bG:∀o,(X8.st.put l o).put l none=X8.st:=λo=>by rw[eZ];exact lj aY
   have stop:∀e cj,Bv e=some cj->S e X8.st->∃v w',(Instr.endRound l (some cj)).run c.P X8.w=.ok v w'/\∃v',Ending.returned v=.returned v' /\
     ends (c.cx B') X3 (λr st'=>(r=true/\∃s1,I' k2 s1/\le.disj s1/\st'=s1.add le)\/(r=false/\S' st')) v' w':=by
    intro e cj hj hS;refine⟨_,_,run_endRound (some cj) aj,_,rfl,aO { rec with state:=.done,pending:=some cj } false rfl (.inr ⟨rfl,?_⟩)⟩;rw[bY];exact⟨e,cj,hj,cT _ _ _,by rw[bG];exact hS⟩
   cases e with
   | normal =>
    have cY:({ { rec with state:=.busy } with state:=.ready,pending:=none }:Loop)=rec:=by rw[A]
    refine⟨_,_,run_endRound none aj,_,rfl,?_⟩;obtain⟨s1,cE,cD,bZ⟩:=hR;have hs1:s1 l=none:=by rw[bZ,nM aa] at aY;exact aY
    have:=aO rec true rfl (.inl ⟨rfl,s1.put l (some (.loop rec (recI fr))),by rw[ae];exact⟨cT _ _ _,by rw[eZ,lj hs1];exact cE⟩,cD.put aa,by rw[bZ,lS aa]⟩);grind
   | ret=>exact stop .ret .ret rfl hR
   | exit id=>exact stop (.exit id) (.exit id) rfl hR
   | goto t=>exact stop (.goto t) (.goto t) rfl hR
   | panic ch=>exact hR.elim
   | outgrown=>exact hR.elim
  | _=>exact hq.elim
 have bd:=a7 (.fn (.yield l) [] []) I' S' X2.st ⟨_,_,_,rfl,rfl,λg hg=>by cases hg⟩
  (λk stu hk=>by
   rw[ae] at hk;exact⟨stu.put l none,λb o hb=>by
    rw[ISt.put_apply] at hb;split at hb
    ·cases hb
    ·exact hb,hk.2⟩) (λk stu m kk es bf hk hm hu=>by
   rw[ae] at hk ⊢;have a1:m≠l:=by
    rintro rfl;rw[hk.1] at hm;cases hm
   refine⟨by simp only[ISt.put_apply,a_ (Ne.symm a1)];exact hk.1,?_⟩;have h1:(stu.put m (some (.map kk bf))).put l none=(stu.put l none).put m (some (.map kk bf)):=by
    funext c;simp only[ISt.put_apply];by_cases hc:c=l
    ·subst hc;rw[b_ rfl,a_ (Ne.symm a1),b_ rfl]
    ·rw[a_ hc,a_ hc]
   rw[h1];exact cm k _ m kk es bf hk.2 (by simp only[ISt.put_apply,a_ a1];exact hm) hu) aw
  (by rw[ae,aH];exact⟨cT _ _ _,by rw[eZ,lj (by rw[bL];exact bA)];exact h0⟩)
 have az:=b2.good;have aK:Ext X X2:=by
  rw[aB,ac];rw[ac] at am;exact (hI.good.new_ext _ _ _).trans (am.good.new_ext _ _ _)
 have aA:=bd B X2 (fs++[.func (.yield l) ⟨[]⟩ ⟨[]⟩]++cs) az rfl
  ((VL.append (VL.append ⟨bR.1,λi r x hr hx=>aK.v (bR.2 i r x hr hx)⟩ (VL.cons (.fn (.yield l) [] [] rfl (λi r x h=>by simp at h) [] [] rfl (λi r x h=>by simp at h)) VL.nil)) ⟨bX.1,λi r x hr hx=>aK.v (bX.2 i r x hr hx)⟩))
 have aI:=run_enterLoop_outer (P:=c.P) (w:=X.w) fn a.tmps ps D body;rw[<- A,<- bq,<- bL] at aI;have cz:∃O,c.P.funcs[gf]?=some O/\O.name ≠ "runtime.NumGoroutine" /\ ¬ O.body.isNone=true:=by
  unfold entI at he;cases hf:c.P.funcs[gf]? with
  | none=>simp[hf] at he
  | some O =>
   simp only[hf,bAt,bne_iff_ne,ne_eq] at he;exact⟨O,rfl,he.1,by have:=he.2;cases hq:O.body<;>simp_all⟩
 obtain⟨O,hf,cu,be⟩:=cz;refine⟨l,[{ target:=.collected X.w.heap.size,args:=#[] }],X2.w,{ target:=.fn (.func gf) ⟨cs⟩,args:=⟨fs++[.func (.yield l) ⟨[]⟩ ⟨[]⟩]⟩ },X2.w,gf,⟨fs++[.func (.yield l) ⟨[]⟩ ⟨[]⟩]++cs⟩,X2.w,
  aI,?_,λ_ _=>trivial,?_,λh=>by simp[ev,Fence.wide] at h,?_⟩
 ·simp only[resolve,eg];simp[Deferred.ofValue,Act.eval]
 ·simp only[invoke,callFunc,cX,run_program,cW,hf];rw[a_ (by simpa using cu),a_ be];simp
 ·refine AF (aA.mono ?_);rintro e w' ⟨v,rfl,X4,x,rfl,bO,bc,_,hK⟩;have cK:Inv (c.cx B) X0 N X4 fr ds a:=b2.ext' bc bO;have an:X.w.heap.size<X2.w.heap.size:=(gO.1 b4).1;have cL:X4.w.heap[X.w.heap.size]?=some (.deferred (some [])):=(bc.keep _ an aN).1.trans b4;have b3:=bc.dom _ an aN
  -- cb ag call
  have aR:∀(r4:Loop),X4.st l=some (.loop r4 (recI fr))->X4.w.heap[l]?=some (.loop r4) /\
    Inv (c.cx B) X0 N (X4.obj l (.loop { r4 with state:=.exhausted }) none) fr (.coll X.w.heap.size::ds) { a with defers:={ target:=.collected X.w.heap.size,args:=#[] }::a.defers }:=by
   intro r4 W;obtain⟨_,E,_⟩:=bO.ok l _ W;have h5:=cK.obj (o':=.loop { r4 with state:=.exhausted }) (so:=none) E jd jd (by rw[W];simp) (λi hi=>by cases hi);have bH:X.w.heap.size≠l:=by omega
   refine⟨E,h5.good,h5.ext,h5.fr,h5.size,.cons ⟨rfl,(kh E bH).trans cL,?_,hI.ext.size⟩ h5.ds (λr hr=>by cases hr;exact λhm=>nLi _ (hI.ds.lt hm))⟩;rw[sS,ISt.put_apply,a_ bH];exact b3
  rcases hK with hK|hK
  ·obtain⟨kf,cv,hK⟩:=hK;rw[ae] at hK;obtain⟨W,b1⟩:=hK;obtain⟨E,h5⟩:=aR rec W;refine⟨none,_,(run_endLoop E (by rw[A];simp)).trans (et (λp=>Result.ok p _) (show rec.pending=none by rw[A])),?_⟩;exact⟨_,fr,_,rfl,h5,cG kf _ _ cv b1⟩
  ·rw[bY] at hK;obtain⟨e,cj,hj,W,hS⟩:=hK;obtain⟨E,h5⟩:=aR _ W;refine⟨some cj,_,run_endLoop E (by simp),?_⟩;have hq:PQ (c.cx B) X0 N Q e { a with defers:={ target:=.collected X.w.heap.size,args:=#[] }::a.defers } (X4.w.putObj l (.loop { { rec with state:=.done,pending:=some cj } with state:=.exhausted })):=⟨_,fr,_,rfl,h5,cF e _ _ hS⟩
   cases e with
   | ret=>cases hj;exact wpIn_ret hq
   | exit id=>cases hj;exact wpIn_exit hq
   | goto t=>cases hj;exact wpIn_goto hq
   | _=>cases hj
def Bw {N:Nat}:∀(U:Code) (c:Cf) (B:Nat) (X0:WS) (ro:Option Nat) (n:Nat),(c.rd=false->ro=none)->∀(Q:Kc) (X:WS) (fr:Fr) (ds:List Dfd) (a:Act),codeOk c N U=true →
  Inv (c.cx B) X0 N X fr ds a->vcC c U Q fr X.st ds->U.wpIn (ev ro) n c.P (PQ (c.cx B) X0 N Q) a X.w:=by
 intro U
 induction U with
 | skip=>intro c B X0 ro n A Q X fr ds a _ D h;exact wpIn_skip ⟨X,fr,ds,rfl,D,h⟩
 | region id ops ai =>
  intro c B X0 ro n A Q X fr ds a hd D h;simp only[codeOk,bAt,iU,fV] at hd;have hN:∀o∈ops.toList,∀d,o.dst=some d->d<N:=λo ho d aB=>by
   grind
  cases ai with
  | false=>exact IM (c:={ c with dr:=false }) A hN D h
  | true =>
   have h2:=hd.2.resolve_left (by simp);exact Jr A hN h2.1 (by rw[iU];exact h2.2) D h
 | seq x y ak aj =>
  intro c B X0 ro n A Q X fr ds a hd D h;simp only[codeOk,bAt] at hd;refine wpIn_seq (gp (ak c B X0 ro n A _ X fr ds a hd.1 D h) ?_);rintro e a' w' ⟨X',fr',E,rfl,O,W⟩;cases e with
  | normal=>exact aj c B X0 ro n A Q X' fr' E a' hd.2 O W
  | _=>exact⟨X',fr',E,rfl,O,W⟩
 | cond x p q an am =>
  intro c B X0 ro n A Q X fr ds a hd D h;simp only[codeOk,bAt] at hd;obtain⟨v,hv,h1⟩:=yQ4.1 h;obtain⟨t,rfl,h2⟩:=Ai h1;have he:=dQ (pI (C:=c.cx B) D.good D.fr hv).1;exact wpIn_cond_split he (λht=>an c B X0 ro n A Q X fr ds a hd.1 D (h2.1 ht)) (λht=>am c B X0 ro n A Q X fr ds a hd.2 D (h2.2 ht))
 | block id p ih =>
  intro c B X0 ro n A Q X fr ds a hd D h;refine wpIn_block (gp (ih c B X0 ro n A _ X fr ds a hd D h) ?_);rintro e a' w' ⟨X',fr',E,rfl,O,W⟩;cases e with
  | exit id' =>
   simp only[oI] at W;simp only[Exit.inBlock];split at W
   ·rename_i hid;rw[b_ hid];exact⟨X',fr',E,rfl,O,W⟩
   ·rename_i hid;rw[a_ hid];exact⟨X',fr',E,rfl,O,W⟩
  | _=>exact⟨X',fr',E,rfl,O,W⟩
 | loop p ih =>
  intro c B X0 ro n A Q X fr ds a hd D h;obtain⟨J,⟨m0,h0⟩,aa⟩:=h;refine Jt (λm a w=>∃X fr ds,X.w=w/\Inv (c.cx B) X0 N X fr ds a/\J m fr X.st ds) ⟨m0,X,fr,ds,rfl,D,h0⟩ ?_;rintro m a' w' ⟨X',fr',E,rfl,O,hi⟩;refine gp (ih c B X0 ro n A _ X' fr' E a' hd O (aa m fr' X'.st E hi)) ?_;rintro e a2 w2 ⟨X2,ag,ah,rfl,af,W⟩;cases e with
  | normal =>
   obtain⟨m',av,hj⟩:=W;exact⟨m',av,X2,ag,ah,rfl,af,hj⟩
  | _=>exact⟨X2,ag,ah,rfl,af,W⟩
 | rangeFunc g ps aH p aq ao =>
  intro c B X0 ro n A Q X fr ds a hd D h;simp only[codeOk,bAt,ed,dTe] at hd;change (if c.rd=true then False else _) at h;obtain⟨ab,h1⟩:=sF h;have ac:=A (by simpa using ab);subst ac;obtain⟨v,hv,h2⟩:=yQ4.1 h1;obtain⟨f,first,ax,rfl,h3⟩:=va h2;exact Ju hd.1.1 (λB X0 X l Q fr ds a D h=>aq { c with rd:=true } B X0 (some l) 0 (λh=>by cases h) Q X fr ds a (by rw[lT];exact hd.1.2) D h)
   (λB X0 X l Q fr ds a D h=>ao { c with rd:=true } B X0 (some l) 0 (λh=>by cases h) Q X fr ds a (by rw[lT];exact hd.2) D h) D hv rfl h3
 | exit id=>intro c B X0 ro n A Q X fr ds a _ D h;exact wpIn_exit ⟨X,fr,ds,rfl,D,h⟩
 | scope p ih =>
  intro c B X0 ro n A Q X fr ds a hd D h;change (if c.rd=true then False else _) at h;obtain⟨ab,h1⟩:=sF h;have ac:=A (by simpa using ab);subst ac;have:=ih c B X0 none n A (uX Q) X fr ds a hd D h1;refine wpIn_wide.2 (wp_scope_straight (wpIn_wide.1 (gp this ?_)));rintro e a' w' ⟨X',fr',E,rfl,O,W⟩;cases e with
  | goto l=>exact W.elim
  | _=>exact⟨X',fr',E,rfl,O,W⟩
 | label l=>intro c B X0 ro n A Q X fr ds a _ D h;exact wpIn_label ⟨X,fr,ds,rfl,D,h⟩
 | goto l=>intro c B X0 ro n A Q X fr ds a _ D h;exact wpIn_goto ⟨X,fr,ds,rfl,D,h⟩
 | ret=>intro c B X0 ro n A Q X fr ds a _ D h;exact wpIn_ret ⟨X,fr,ds,rfl,D,h⟩
 | refuse ay=>intro c B X0 ro n A Q X fr ds a _ D h;exact h.elim
