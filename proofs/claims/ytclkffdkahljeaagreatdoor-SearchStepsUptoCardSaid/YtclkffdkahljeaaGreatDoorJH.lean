/- The layer of ideal values, part Pa: what -/
import Derived.Test.YtclkffdkahljeaaGreatDoorJG
import Derived.Scope
set_option linter.all false
namespace Go.Iv
open Go
def subSt (st' st:ISt):Prop:=∀b o,st' b=some o->st b=some o
theorem subSt.refl (st:ISt):subSt st st:=λ_ _ h=>h
theorem subSt.trans {a b c:ISt}(h:subSt a b)(k:subSt b c):subSt a c:=λx o hx=>k x o (h x o hx)
theorem Good.sub {C:Cx}{X:WS}(h:Good C X){st:ISt}(hs:subSt st X.st):Good C { X with st:=st }/\Ext X { X with st:=st } :=
 ⟨⟨λb o A=>(h.ok b o (hs b o A)).mono rfl rfl (λ_ _ hv=>hv),h.gl,h.B,h.Lnew,h.gsh,h.dr⟩,
  ⟨rfl,rfl,rfl,Nat.le_refl _,λ_=>Nat.le_refl _,λ_ _ _=>rfl,λ_ _ _=>⟨rfl,rfl⟩,(λb _ A=>by
   cases D:st b with
   | none=>exact D
   | some o=>have:=hs b o D;rw[A] at this;cases this),λ_ _ hp=>hp,rfl⟩⟩
def join (stu own:ISt):ISt:=λb=>match own b with|some o=>some o|none=>stu b
def disj (stu own:ISt):Prop:=∀b,own b≠none->stu b=none
theorem yQu {stu own:ISt}{b:Nat}{o:IObj}(h:own b=some o):join stu own b=some o:=by simp[join,h]
theorem yQy {stu own:ISt}{b:Nat}(h:own b=none):join stu own b=stu b:=by simp[join,h]
theorem yJ3 {stu own:ISt}(h:disj stu own):subSt stu (join stu own):=λb o D=>by
 cases A:own b with
 | none=>rw[yQy A];exact D
 | some o'=>have:=h b (by rw[A];simp);rw[D] at this;cases this
theorem zWs {C:Cx}{X:WS}{stu own:ISt}{K:IV->ISt->Prop}{v:Value}{w':World}(hg:Good C X)(E:X.st=join stu own)(hd:disj stu own)(h:ends C { X with st:=stu } K v w') :
  ends C X (λx st'=>∃U,disj U own/\st'=join U own/\K x U) v w':=by
 obtain⟨X',x,rfl,J,A,hv,hK⟩:=h;have ab:∀b o,own b=some o->b<X.w.heap.size:=λb o D=>hg.lt (show X.st b=some o by rw[E];exact yQu D);have aa:∀b o,own b=some o->X'.w.heap[b]?=X.w.heap[b]?/\X'.L b=X.L b:=λb o D=>A.keep b (ab b o D) (hd b (by rw[D];simp));have ac:∀b o,own b=some o->X'.st b=none:=λb o D=>A.dom b (ab b o D) (hd b (by rw[D];simp));refine⟨{ X' with st:=join X'.st own },x,rfl,⟨λb o D=>?_,J.gl,J.B,J.Lnew,J.gsh,J.dr⟩,⟨A.os,A.tape,A.output,A.size,A.lmono,A.cells,λb D hs=>?_,λb D hs=>?_,A.shape,A.d⟩,hv,X'.st,?_,rfl,hK⟩
 ·cases O:own b with
  | none =>
   have ae:X'.st b=some o:=by rw[<- yQy (stu:=X'.st) O];exact D
   exact (J.ok b o ae).mono rfl rfl (λ_ _ hv=>hv)
  | some o' =>
   have:o'=o:=by have:=(yQu (stu:=X'.st) O).symm.trans D;exact Option.some.inj this
   subst this;have h1:=hg.ok b o' (by rw[E];exact yQu O);have h2:ObjOk C X' b o':=h1.mono (aa b o' O).1 (aa b o' O).2 (λ_ _ hv=>A.vl hv);exact h2.mono rfl rfl (λ_ _ hv=>hv)
 ·have h1:own b=none:=by
   cases O:own b with
   | none=>rfl
   | some o=>rw[E,yQu O] at hs;cases hs
  rw[E,yQy h1] at hs;exact A.keep b D hs
 ·have h1:own b=none:=by
   cases O:own b with
   | none=>rfl
   | some o=>rw[E,yQu O] at hs;cases hs
  rw[E,yQy h1] at hs;exact (yQy h1).trans (A.dom b D hs)
 ·intro b D;cases O:own b with
  | none=>exact absurd O D
  | some o=>exact ac b o O
section
variable {P:Program}{gl:Nat->Option IV}
theorem ICall.frame {f:FuncId}{args:List IV}{stu own:ISt}{K:IV->ISt->Prop}(h:ICall P gl f args stu K)(hd:disj stu own) :
  ICall P gl f args (join stu own) (λx st'=>∃A,disj A own/\st'=join A own/\K x A):=by
 intro B X rs O D hv;obtain⟨E,J⟩:=O.sub (st:=stu) (by rw[D];exact yJ3 hd);refine (h B { X with st:=stu } rs E rfl ⟨hv.1,λi r c U hc=>J.v (hv.2 i r c U hc)⟩).mono ?_;rintro e w' ⟨v,rfl,he⟩;exact⟨v,rfl,zWs O D hd he⟩
theorem ICallV.frame {f:IV}{args:List IV}{stu own:ISt}{K:IV->ISt->Prop}(h:ICallV P gl f args stu K)(hd:disj stu own) :
  ICallV P gl f args (join stu own) (λx st'=>∃A,disj A own/\st'=join A own/\K x A):=by
 intro B X fv rs O D hf hv;obtain⟨J,E⟩:=O.sub (st:=stu) (by rw[D];exact yJ3 hd);exact (h B { X with st:=stu } fv rs J rfl (E.v hf) ⟨hv.1,λi r c U hc=>E.v (hv.2 i r c U hc)⟩).mono λv w' he=>zWs O D hd he
theorem ICallV.of_ICall {g:FuncId}{first A args:List IV}{st:ISt}{K:IV->ISt->Prop}(he:entI P g=true)(h:ICall P gl g (first++args++A) st K):ICallV P gl (.fn (.func g) first A) args st K:=by
 intro B X fv rs O D U hv;obtain⟨fs,cs,rfl,E,J⟩:=V.fn_inv U;exact zQi he (h B X (fs++rs++cs) O D ((E.append hv).append J))
theorem VL.split {B:Nat}{L:Nat->Nat}{w:World}{rs:List Value}{c1 c2:List IV}(h:VL B L w rs (c1++c2)):∃D A,rs=D++A/\VL B L w D c1/\VL B L w A c2:=by
 refine⟨rs.take c1.length,rs.drop c1.length,(List.take_append_drop _ _).symm,?_,?_⟩
 ·have:=h.take c1.length
  rwa [List.take_left] at this
 ·have:=h.drop c1.length
  rwa [List.drop_left] at this
theorem ICall.of_ICallV {g:FuncId}{first A args:List IV}{st:ISt}{K:IV->ISt->Prop}(D:entI P g=true)(h:ICallV P gl (.fn (.func g) first A) args st K):ICall P gl g (first++args++A) st K:=by
 intro B X rs hg U hv;obtain⟨ae,E,rfl,ab,h3⟩:=VL.split hv;obtain⟨J,O,rfl,h1,h2⟩:=VL.split ab;have hc:=h B X (.func (.func g) ⟨J⟩ ⟨E⟩) O hg U (.fn (.func g) J first h1.1 h1.2 E A h3.1 h3.2) h2;unfold entI at D;cases hf:P.funcs[g]? with
 | none=>simp[hf] at D
 | some fn =>
  simp only[hf,bAt,bne_iff_ne,ne_eq] at D;have hb:¬ fn.body.isNone=true:=by
   have:=D.2;cases hq:fn.body<;>simp_all
  have hr:(do let d <- Deferred.ofValue (.func (.func g) ⟨J⟩ ⟨E⟩) ⟨O⟩;invoke d.target d.args:Sem Next).run P X.w=.ok (.enter g ⟨J++O++E⟩) X.w:=by
   simp only[Deferred.ofValue,Sem.run_bind,Sem.run_pure,Result.andThen_ok,invoke,callFunc,run_program,hf];rw[if_neg (by simpa using D.1),if_neg hb];simp
  unfold CallsVal at hc;grind
theorem yZ4 {f:Fn}{first A args:List IV}{st:ISt}{K:IV->ISt->Prop}(D:∀g,f=.func g->entI P g=true)(h:ICallV P gl (.fn f first A) args st K):callV P gl f first A args st K:=by
 unfold callV;split
 ·rw[if_pos (D _ rfl)];exact ICall.of_ICallV (D _ rfl) h
 ·exact h
def IsFn (P:Program)(y:IV):Prop:=∃f first A,y=.fn f first A/\fnOk f=true/\∀g,f=.func g->entI P g=true
def wK8 (P:Program)(gl:Nat->Option IV)(y:IV)(A:Nat->List IV->Prop)(I:Nat->ISt->Prop)(S:ISt->Prop):Prop :=
 ∀k a stu,A k a->I k stu->ICallV P gl y a stu λr st'=>(r=.raw (.bool true)/\I (k+1) st')\/(r=.raw (.bool false)/\S st')
def IterC (P:Program)(gl:Nat->Option IV)(g:FuncId)(first D:List IV)(E:Nat->List IV->Prop)(len:Nat)(I:Nat->ISt->Prop):Prop :=
 ∀(y:IV) (I':Nat->ISt->Prop) (S':ISt->Prop) (st:ISt),IsFn P y->(∀k stu,I' k stu->∃A,subSt A stu/\I k A)->wK8 P gl y E I' S'->I' 0 st →
  ICall P gl g (first++[y]++D) st λ_ st'=>I' len st'\/S' st'
abbrev ISt.add (s e:ISt):ISt:=Go.Iv.join s e
abbrev ISt.disj (e s:ISt):Prop:=Go.Iv.disj s e
theorem ISt.add_off {s e:ISt}{b:Nat}(h:e b=none):s.add e b=s b:=yQy h
theorem ISt.put_add {s e:ISt}{b:Nat}{o:Option IObj}(h:e b=none):(s.add e).put b o=(s.put b o).add e:=by
 funext c;by_cases hc:c=b
 ·subst hc;simp only[ISt.put_apply,join,h,if_true]
 ·simp only[ISt.put_apply,join,if_neg hc]
theorem ISt.disj.put {e s:ISt}(h:e.disj s){b:Nat}{o:Option IObj}(A:e b=none):e.disj (s.put b o):=λc hc=>by
 rw[ISt.put_apply,if_neg (by rintro rfl;exact hc A)];exact h c hc
theorem ISt.disj.off {e s:ISt}(h:e.disj s){b:Nat}{o:IObj}(hs:s b=some o):e b=none:=by
 cases A:e b with
 | none=>rfl
 | some o'=>have:=h b (by rw[A];simp);rw[hs] at this;cases this
def YieldL (P:Program)(gl:Nat->Option IV)(y:IV)(lk:Nat->List IV->ISt->Prop)(I:Nat->ISt->Prop)(S:ISt->Prop):Prop :=
 ∀k a e stu,lk k a e->e.disj stu->I k stu->ICallV P gl y a (stu.add e) λr st'=>(r=.raw (.bool true)/\∃s1,I (k+1) s1/\e.disj s1/\st'=s1.add e)\/(r=.raw (.bool false)/\S st')
def IterL (P:Program)(gl:Nat->Option IV)(g:FuncId)(first D:List IV)(lk:Nat->List IV->ISt->Prop)(len:Nat)(I:Nat->ISt->Prop):Prop :=
 ∀(y:IV) (I':Nat->ISt->Prop) (S':ISt->Prop) (st:ISt),IsFn P y->(∀k stu,I' k stu->∃A,subSt A stu/\I k A)->YieldL P gl y lk I' S'->I' 0 st →
  ICall P gl g (first++[y]++D) st λ_ st'=>I' len st'\/S' st'
def IterU (P:Program)(gl:Nat->Option IV)(g:FuncId)(first D:List IV)(lk:Nat->List IV->ISt->Prop)(len:Nat)(I:Nat->ISt->Prop)(up:Nat->List (Value×IV)->List (Value×IV)->Prop):Prop :=
 ∀(y:IV) (I':Nat->ISt->Prop) (S':ISt->Prop) (st:ISt),IsFn P y->(∀k stu,I' k stu->∃A,subSt A stu/\I k A)->(∀k stu m kk es es',I' k stu->stu m=some (.map kk es)->up m es es'->I' k (stu.put m (some (.map kk es'))))->YieldL P gl y lk I' S'->I' 0 st →
  ICall P gl g (first++[y]++D) st λ_ st'=>I' len st'\/S' st'
def noUp (_:Nat)(_ _:List (Value×IV)):Prop:=False
def wGw {σ:Type}(P:Program)(gl:Nat->Option IV)(y:IV)(lk:σ->List IV->ISt->σ->Prop)(I:σ->ISt->Prop)(S:ISt->Prop):Prop :=
 ∀k a e A stu,lk k a e A->e.disj stu->I k stu->ICallV P gl y a (stu.add e) λr st'=>(r=.raw (.bool true)/\∃s1,I A s1/\e.disj s1/\st'=s1.add e)\/(r=.raw (.bool false)/\S st')
def xKc {σ:Type}(P:Program)(gl:Nat->Option IV)(g:FuncId)(first D:List IV)(lk:σ->List IV->ISt->σ->Prop)(k0:σ)(E:σ->Prop)(I:σ->ISt->Prop)(up:Nat->List (Value×IV)->List (Value×IV)->Prop):Prop :=
 ∀(y:IV) (I':σ->ISt->Prop) (S':ISt->Prop) (st:ISt),IsFn P y->(∀k stu,I' k stu->∃A,subSt A stu/\I k A)->(∀k stu m kk es es',I' k stu->stu m=some (.map kk es)->up m es es'->I' k (stu.put m (some (.map kk es'))))->wGw P gl y lk I' S'->I' k0 st →
  ICall P gl g (first++[y]++D) st λ_ st'=>(∃k,E k/\I' k st')\/S' st'
def wKv (lk:Nat->List IV->ISt->Prop)(k:Nat)(a:List IV)(e:ISt)(A:Nat):Prop:=lk k a e/\A=k+1
theorem IterU.toH {P:Program}{gl:Nat->Option IV}{g:FuncId}{first A:List IV}{lk:Nat->List IV->ISt->Prop}{len:Nat}{I:Nat->ISt->Prop}{up:Nat->List (Value×IV)->List (Value×IV)->Prop}(h:IterU P gl g first A lk len I up):xKc P gl g first A (wKv lk) 0 (·=len) I up :=
 λy I' S' st hf hI J E h0=>(h y I' S' st hf hI J (λk a e stu U hd D=>E k a e (k+1) stu ⟨U,rfl⟩ hd D) h0).mono λr st' O=>O.imp (λD=>⟨len,rfl,D⟩) id
theorem IterL.up {P:Program}{gl:Nat->Option IV}{g:FuncId}{first A:List IV}{lk:Nat->List IV->ISt->Prop}{len:Nat}{I:Nat->ISt->Prop}(h:IterL P gl g first A lk len I):IterU P gl g first A lk len I noUp :=
 λy I' S' st E J _ D h0=>h y I' S' st E J D h0
def zW8 (A:Nat->List IV->Prop):Nat->List IV->ISt->Prop:=λk a e=>A k a/\e=λ_=>none
theorem IterC.lent {P:Program}{gl:Nat->Option IV}{g:FuncId}{first A:List IV}{D:Nat->List IV->Prop}{len:Nat}{I:Nat->ISt->Prop}(h:IterC P gl g first A D len I):IterL P gl g first A (zW8 D) len I :=
 λy I' S' st U hI E h0=>h y I' S' st U hI (λk a stu hx O=>(E k a (λ_=>none) stu ⟨hx,rfl⟩ (λb hb=>absurd rfl hb) O).mono λr st' J=>J.imp (λ⟨h1,s1,h2,h3,h4⟩=>⟨h1,h4▸h2⟩) id) h0
def ICallD (P:Program)(gl:Nat->Option IV)(f:FuncId)(args:List IV)(st:ISt)(K:IV->ISt->Prop):Prop :=
 ∀(B:Nat) (X:WS) (rs:List Value) (u:FrameMode),Good ⟨P,gl,B⟩ X->X.st=st->Cx.vl ⟨P,gl,B⟩ X rs args →
  CallsDIn Fence.wide 0 P f ⟨rs⟩ u X.w λe A w'=>A=u/\∃v,e=.returned v/\ends ⟨P,gl,B⟩ X K v w'
theorem ICallD.mono {f:FuncId}{args:List IV}{st:ISt}{K K':IV->ISt->Prop}(h:ICallD P gl f args st K)(J:∀x st,K x st->K' x st):ICallD P gl f args st K' :=
 λB X rs u O A hv=>(h B X rs u O A hv).mono λe U w' E=>⟨E.1,by
  obtain⟨v,D,h⟩:=E.2;exact⟨v,D,zKh h J⟩⟩
end
end Go.Iv
namespace Go.Iv
open Go
def zVo:SV->IV
 | .iv x=>x
 | .box _=>.junk
@[go_sem] theorem vJf (x:IV):zVo (.iv x)=x:=(rfl)
def zYb (fr:Fr):Fr:=λt=>.iv (zVo (fr t))
@[go_sem ↓] theorem wUa (fr:Fr)(t:Nat):zYb fr t=.iv (zVo (fr t)):=(rfl)
def yVh (fr:Fr):List (Nat×IV)->Fr
 | []=>fr
 | p::l=>yVh (fr.put p.1 (.iv p.2)) l
@[go_sem ↓] theorem vXm (fr:Fr):yVh fr []=fr:=(rfl)
@[go_sem ↓] theorem vQr (fr:Fr)(t:Nat)(x:IV)(l:List (Nat×IV)):yVh fr ((t,x)::l)=yVh (fr.put t (.iv x)) l:=(rfl)
def wQp (R:Exit->ISt->Prop):Kc:=λe _ st ds=>chk (ds=[]) (R e st)
@[go_sem ↓] theorem wYs (R:Exit->ISt->Prop)(e:Exit)(fr:Fr)(st:ISt)(ds:List Dfd):wQp R e fr st ds=chk (ds=[]) (R e st):=(rfl)
def zZy (A:Kc->Fr->ISt->List Dfd->Prop)(R:Exit->ISt->Prop):Kc
 | .normal,fr,st,ds=>chk (ds=[]) (A (wQp R) fr st [])
 | _,_,_,_=>False
@[go_sem ↓] theorem wV9 (A:Kc->Fr->ISt->List Dfd->Prop)(R:Exit->ISt->Prop)(fr:Fr)(st:ISt)(ds:List Dfd):zZy A R .normal fr st ds=chk (ds=[]) (A (wQp R) fr st []):=(rfl)
def xJ1 (I:ISt->Prop)(S:Exit->ISt->Prop):Exit->ISt->Prop
 | .normal,st=>I st
 | .ret,st=>S .ret st
 | .exit id,st=>S (.exit id) st
 | .goto t,st=>S (.goto t) st
 | _,_=>False
@[go_sem ↓] theorem wYx (I:ISt->Prop)(S:Exit->ISt->Prop)(st:ISt):xJ1 I S .normal st=I st:=(rfl)
@[go_sem ↓] theorem vKl (I:ISt->Prop)(S:Exit->ISt->Prop)(st:ISt):xJ1 I S .ret st=S .ret st:=(rfl)
def wKa (P:Program)(gl:Nat->Option IV)(f:Fn)(first E:List IV)(n:Nat)(A:List IV->ISt->(Exit->ISt->Prop)->Prop)(Q:Exit->ISt->Nat->Prop)(st:ISt)(_:Lock A)(_:Lock Q):Prop :=
 ∃g,f=.func g/\entI P g=true/\∃(σ:Type) (lk:σ->List IV->ISt->σ->Prop) (k0:σ) (D:σ->Prop) (I:σ->ISt->Prop) (S:Exit->ISt->Prop) (up:Nat->List (Value×IV)->List (Value×IV)->Prop),(∀k s m kk es es',I k s->s m=some (.map kk es)->up m es es'->I k (s.put m (some (.map kk es'))))/\(∀k a e J,lk k a e J->a.length=n)/\I k0 st /\
  (∀k a e J s,lk k a e J->e.disj s->I k s->A a (s.add e) (xJ1 (λs'=>∃s1,I J s1/\e.disj s1/\s'=s1.add e) S))/\xKc P gl g first E lk k0 D I up/\(∀k st' r,D k->I k st'->Q .normal st' r)/\(∀e st' r,S e st'->Q e st' r)
def vcC:Cf->Code->Kc->Fr->ISt->List Dfd->Prop
 | _,.skip,Q,fr,st,ds=>Q .normal fr st ds
 | c,.region _ ops false,Q,fr,st,ds=>yXw { c with dr:=false } ops.toList ops.toList (Q .normal) Ad.none_ fr st ds
 | c,.region id ops true,Q,fr,st,ds=>zKi c ops (zJo c.ord id) (Q .normal) fr st ds
 | c,.seq a b,Q,fr,st,ds=>vcC c a (seqK (vcC c b Q) Q) fr st ds
 | c,.cond x a b,Q,fr,st,ds=>yQ6 (evV c.gl fr x) λv=>zXg v λt=>yYv t (vcC c a Q fr st ds) (vcC c b Q fr st ds) .mk .mk
 | c,.block id a,Q,fr,st,ds=>vcC c a (zKu id Q) fr st ds
 | c,.loop a,Q,fr,st,ds=>LoopV (λfr st ds Q=>vcC c a Q fr st ds) Q fr st ds .mk .mk
 | c,.rangeFunc g ps D b,Q,fr,st,ds=>if c.rd=true then False else yQ6 (evV c.gl fr g) λv=>fnV v λf first A =>
   wKa c.P c.gl f first A ps.size (λE st' R=>vcC { c with rd:=true } D (zZy (vcC { c with rd:=true } b) R) (yVh (zYb fr) (ps.toList.zip E)) st' []) (λe st' r=>Q e fr st' (.coll r::ds)) st .mk .mk
 | _,.exit id,Q,fr,st,ds=>Q (.exit id) fr st ds
 | c,.scope a,Q,fr,st,ds=>if c.rd=true then False else vcC c a (wQi Q) fr st ds
 | _,.label _,Q,fr,st,ds=>Q .normal fr st ds
 | _,.goto l,Q,fr,st,ds=>Q (.goto l) fr st ds
 | _,.ret,Q,fr,st,ds=>Q .ret fr st ds
 | _,_,_,_,_,_=>False
theorem yVk {p:Nat->Prop}(h:∃m,p m):∃m,p m/\∀k,p k->m<=k:=by
 obtain⟨m,D⟩:=h
 induction m using Nat.strongRecOn with
 | _ m A =>
  grind
open Classical in
noncomputable def least (p:Nat->Prop):Nat:=if h:∃m,p m then (yVk h).choose else 0
theorem least_spec {p:Nat->Prop}(h:∃m,p m):p (least p)/\∀k,p k->least p<=k:=by
 unfold least;grind
theorem zY6 {F:Fence}{n:Nat}{P:Program}{c:Code}{Q:Exit->Act->World->Prop}{a:Act}{w:World}(J:Nat->Act->World->Prop)(h0:∃m,J m a w)
  (A:∀m a w,J m a w->c.wpIn F n P (Exit.then (λa' w'=>∃D,D<m/\J D a' w') Q) a w):(Code.loop c).wpIn F n P Q a w:=by
 refine wpIn_loop (λa w=>∃m,J m a w) (λa w=>least λm=>J m a w) h0 (λa w hI=>?_);obtain⟨hj,_⟩:=least_spec hI;refine wpIn_mono (A _ a w hj) (λe a' w' U=>?_);cases e with
 | normal =>
  obtain⟨D,E,O⟩:=U;exact⟨⟨D,O⟩,Nat.lt_of_le_of_lt ((least_spec ⟨D,O⟩).2 D O) E⟩
 | _=>exact U
def codeOk (c:Cf)(N:Nat):Code->Bool
 | .region id ops dr=>(ops.toList.all λo=>match o.dst with|some d=>decide (d<N)|none=>true)&&(!dr || (c.P.follows .mixedOrders&&(anyO (zJo c.ord id) || wJ7 c.esc ops (wZ2 (zJo c.ord id) ops.size))))
 | .seq a b=>codeOk c N a&&codeOk c N b
 | .cond _ a b=>codeOk c N a&&codeOk c N b
 | .block _ a=>codeOk c N a
 | .loop a=>codeOk c N a
 | .scope a=>codeOk c N a
 | .rangeFunc _ ps a b=>ps.toList.all (λd=>decide (d<N))&&codeOk c N a&&codeOk c N b
 | _=>true
theorem yXs {c:Cf}{N:Nat}(r:Bool):∀(A:Code),codeOk { c with rd:=r } N A=codeOk c N A
 | .region _ _ _=>rfl
 | .seq a b=>by rw[codeOk,codeOk,yXs r a,yXs r b]
 | .cond _ a b=>by rw[codeOk,codeOk,yXs r a,yXs r b]
 | .block _ a=>by rw[codeOk,codeOk,yXs r a]
 | .loop a=>by rw[codeOk,codeOk,yXs r a]
 | .scope a=>by rw[codeOk,codeOk,yXs r a]
 | .rangeFunc _ _ a b=>by rw[codeOk,codeOk,yXs r a,yXs r b]
 | .skip=>rfl
 | .exit _=>rfl
 | .label _=>rfl
 | .goto _=>rfl
 | .ret=>rfl
 | .refuse _=>rfl
theorem yQ9 (st:ISt)(b:Nat)(x y:Option IObj):(st.put b x).put b y=st.put b y:=by
 funext c;simp only[ISt.put_apply];split<;>rfl
theorem yZm {st:ISt}{b:Nat}{x:Option IObj}(h:st b=x):st.put b x=st:=by
 funext c;simp only[ISt.put_apply];split
 ·grind
 ·rfl
theorem xVf (X:WS)(g:Nat)(o:Obj)(so:Option IObj):(X.obj g o so).st=X.st.put g so:=rfl
theorem FrOk.puts {C:Cx}{X:WS}{n0:Nat}:∀ {ps:List Nat} {rs:List Value} {D:List IV} {fr:Fr} {A:Array Value},FrOk C X n0 fr A->(∀p∈ps,p<A.size)->C.vl X rs D->ps.length=D.length →
  FrOk C X n0 (yVh fr (ps.zip D)) ((ps.zip rs).foldl (λt p=>t.setIfInBounds p.1 p.2) A)
 | [],rs,D,fr,A,h,_,_,_=>h
 | p::ps,[],D,fr,A,h,_,hv,hl=>by
  have:=hv.1;grind
 | p::ps,r::rs,[],fr,A,h,_,hv,hl=>by cases hl
 | p::ps,r::rs,a::D,fr,A,h,hp,hv,hl=>by
  have J:C.v X r a:=hv.2 0 r a rfl rfl;have E:C.vl X rs D:=⟨by simpa using hv.1,λi x c hx hc=>hv.2 (i+1) x c (by simpa using hx) (by simpa using hc)⟩
  have:=FrOk.puts (ps:=ps) (h.put (hp p (by simp)) J) (λq O=>by rw[Array.size_setIfInBounds];exact hp q (.tail _ O)) E (by simpa using hl);simpa only[List.zip_cons_cons,List.foldl_cons,yVh] using this
theorem zJl:∀(l:List (Nat×Value))(A:Array Value),(l.foldl (λt p=>t.setIfInBounds p.1 p.2) A).size=A.size
 | [],A=>rfl
 | p::l,A=>by rw[List.foldl_cons,zJl l];simp
def wG7:Exit->Option Code
 | .ret=>some .ret
 | .exit id=>some (.exit id)
 | .goto t=>some (.goto t)
 | _=>none
section
variable {C:Cx}{X Y Z:WS}{l:Nat}{r r':Loop}
theorem yY6 (c:Array Value)(T:TypeId)(f:Nat×Nat):Obj.loop r≠.cells c T f:=by intro h;cases h
theorem Ext.both (h:Ext X Y)(hx:X.w.heap[l]?=some (.loop r))(hs:X.st l=none):Ext (X.obj l (.loop r') none) (Y.obj l (.loop r') none):=by
 have O:=(Array.getElem?_eq_some_iff.1 hx).1;obtain⟨U,hL⟩:=h.keep l O hs;have J:Y.w.heap[l]?=some (.loop r):=U.trans hx;refine⟨h.os,h.tape,h.output,?_,h.lmono,λb i hi=>?_,λb E D=>?_,λb E D=>?_,λb p hp=>?_,h.d⟩
 ·simp only[WS.obj,Array.size_setIfInBounds];exact h.size
 ·rw[yUx J yY6 yY6,yUx hx yY6 yY6];exact h.cells b i hi
 ·simp only[WS.obj,Array.size_setIfInBounds] at E;by_cases A:b=l
  ·subst A;exact⟨(yVd J).trans (yVd hx).symm,hL⟩
  ·have:X.st b=none:=by simpa only[WS.obj,if_neg A] using D
   rw[yX4 J A,yX4 hx A];exact h.keep b E this
 ·simp only[WS.obj,Array.size_setIfInBounds] at E;by_cases A:b=l
  ·subst A;simp[WS.obj]
  ·have:X.st b=none:=by simpa only[WS.obj,if_neg A] using D
   simp only[WS.obj,if_neg A];exact h.dom b E this
 ·refine yYj J yY6 b p (h.shape b p ?_);by_cases A:b=l
  ·subst A;have:=yVd (so:=none) (o':=.loop r') hx;simp[shq,this] at hp
  ·rw[yZu (yX4 hx A)] at hp;exact hp
theorem Ext.star {O:IObj}(hx:X.w.heap[l]?=some (.loop r))(hs:X.st l=some O)(hL:X.L l=0)(h:Ext ({ X with st:=X.st.put l none }.obj l (.loop r') none) Y):Ext X Y:=by
 have E:({ X with st:=X.st.put l none }:WS).w.heap[l]?=some (.loop r):=hx;refine⟨h.os,h.tape,h.output,?_,h.lmono,λb i U=>?_,λb J A=>?_,λb J A=>?_,λb p hp=>?_,h.d⟩
 ·have:=h.size;simpa only[WS.obj,Array.size_setIfInBounds] using this
 ·rw[h.cells b i U];exact yUx E yY6 yY6 b i
 ·have D:b≠l:=by rintro rfl;rw[hs] at A;cases A
  have h1:=h.keep b (by simpa only[WS.obj,Array.size_setIfInBounds] using J) (by simp only[WS.obj,if_neg D,ISt.put_apply];exact A);rw[yX4 E D] at h1;exact h1
 ·have D:b≠l:=by rintro rfl;rw[hs] at A;cases A
  exact h.dom b (by simpa only[WS.obj,Array.size_setIfInBounds] using J) (by simp only[WS.obj,if_neg D,ISt.put_apply];exact A)
 ·exact h.shape b p (yYj E yY6 b p hp)
theorem Inv.both {N:Nat}{fr:Fr}{a:Act}(h:Inv C X N Y fr [] a)(hx:X.w.heap[l]?=some (.loop r))(hs:X.st l=none):Inv C (X.obj l (.loop r') none) N (Y.obj l (.loop r') none) fr [] a:=by
 have D:=(Array.getElem?_eq_some_iff.1 hx).1;have J:Y.w.heap[l]?=some (.loop r):=(h.ext.keep l D hs).1.trans hx;have A:=h.ext.dom l D hs;have O:∀i,none=some i->ObjOk C (Y.obj l (.loop r') none) l i:=λi hi=>by cases hi
 refine⟨h.good.obj J yY6 yY6 O,h.ext.both hx hs,⟨λt=>?_,h.fr.inj⟩,h.size,?_⟩
 ·have h0:(X.obj l (.loop r') none).w.heap.size=X.w.heap.size:=by simp[WS.obj]
  rw[h0];refine (h.fr.slot t).mono (λ_ _=>zG0 J yY6 yY6) ?_;intro b cs hb hr h1 h2 h3;have E:b≠l:=by
   rintro rfl;have A:=h.fr.slot t;rw[hb] at A;obtain⟨b',c,T,U,ab,_⟩:=A;grind
  exact⟨yX4 J E,rfl,by simp only[WS.obj,if_neg E];exact h1⟩
 ·have:=h.ds;generalize a.defers=ae at this ⊢;cases this;exact .nil
end
abbrev recI (fr:Fr):Nat->IV:=λt=>zVo (fr t)
theorem xXb {c:Cf}{B:Nat}{X0 X:WS}{N:Nat}{n:Nat}{g:Operand}{ps:Array Tmp}{D body:Code}{Q:Kc}{fr:Fr}{ds:List Dfd}{a:Act}(ck:∀p∈ps.toList,p<N)
  (b8:∀(B:Nat) (X0 X:WS) (l:Nat) (Q:Kc) (fr:Fr) (ds:List Dfd) (a:Act),Inv (c.cx B) X0 N X fr ds a->vcC { c with rd:=true } D Q fr X.st ds->D.wpIn (yZ7 (some l)) 0 c.P (PQ (c.cx B) X0 N Q) a X.w)
  (b7:∀(B:Nat) (X0 X:WS) (l:Nat) (Q:Kc) (fr:Fr) (ds:List Dfd) (a:Act),Inv (c.cx B) X0 N X fr ds a->vcC { c with rd:=true } body Q fr X.st ds->body.wpIn (yZ7 (some l)) 0 c.P (PQ (c.cx B) X0 N Q) a X.w)
  (hI:Inv (c.cx B) X0 N X fr ds a) {v:IV} (cu:evV c.gl fr g=some v) {f:Fn} {first aQ:List IV} (hv:v=.fn f first aQ)
  (h:wKa c.P c.gl f first aQ ps.size (λaL st' R=>vcC { c with rd:=true } D (zZy (vcC { c with rd:=true } body) R) (yVh (zYb fr) (ps.toList.zip aL)) st' []) (λe st' r=>Q e fr st' (.coll r::ds)) X.st .mk .mk) :
  (Code.rangeFunc g ps D body).wpIn (yZ7 none) n c.P (PQ (c.cx B) X0 N Q) a X.w:=by
 obtain⟨gf,rfl,he,σ,lk,k0,cT,I,S,up,cc,b9,h0,ax,aZ,cz,cy⟩:=h;subst hv;have cb:=(xGr (C:=c.cx B) (X:=X) hI.good hI.fr cu).1;obtain⟨fs,cs,eg,bL,bR⟩:=V.fn_inv cb;refine wpIn_rangeFunc ?_;intro fn _;obtain⟨rec,A⟩:∃rec:Loop,rec={ state:=.ready,pending:=none,fn:=fn,tmps:=a.tmps,params:=ps,assign:=D,body:=body,defers:=X.w.heap.size }:=⟨_,rfl⟩
 have bs:X.st X.w.heap.size=none:=by
  cases hs:X.st X.w.heap.size with
  | none=>rfl
  | some o=>have:=hI.good.lt hs;omega
 have br:X.st (X.w.heap.size+1)=none:=by
  cases hs:X.st (X.w.heap.size+1) with
  | none=>rfl
  | some o=>have:=hI.good.lt hs;omega
 -- ag two new b5
 obtain⟨X1,ac⟩:∃X1,X1=X.new (.deferred (some [])) 0 none:=⟨_,rfl⟩
 have al:Inv (c.cx B) X0 N X1 fr ds a:=by rw[ac];exact hI.new _ _ _ (λi hi=>by cases hi)
 have bn:X1.w.heap.size=X.w.heap.size+1:=by rw[ac];simp[WS.new]
 obtain⟨l,hl⟩:∃l,l=X1.w.heap.size:=⟨_,rfl⟩
 have bF:l=X.w.heap.size+1:=hl.trans bn;have aT:X1.st=X.st:=by
  rw[ac];funext b;simp only[WS.new];split
  ·grind
  ·rfl
 obtain⟨X2,aB⟩:∃X2,X2=X1.new (.loop rec) 0 (some (.loop rec (recI fr))):=⟨_,rfl⟩
 have bk:∀t,(c.cx B).v X1 (rec.tmps.getD t undef) (recI fr t):=λt=>by
  have hs:=al.fr.slot t;rw[A];show (c.cx B).v X1 (tm a.tmps t) (zVo (fr t));cases hf:fr t with
  | iv x=>rw[hf] at hs;exact hs
  | box cs=>exact .junk _
 have bW:Inv (c.cx B) X0 N X2 fr ds a:=by
  rw[aB];refine al.new _ _ _ (λi hi=>?_);cases hi;have bM:=al.good.new_ext (.loop rec) 0 (some (.loop rec (recI fr)));exact⟨by simp[WS.new],yQm _ _,λt=>bM.v (bk t)⟩
 have aG:X2.st=X.st.put l (some (.loop rec (recI fr))):=by
  rw[aB,<- aT];funext b;simp only[WS.new,ISt.put_apply,hl]
 have bm:X2.w=(X.w.alloc (.deferred (some []))).alloc (.loop rec):=by rw[aB,ac];rfl
 have bY:X2.w.heap[X.w.heap.size]?=some (.deferred (some [])):=by
  rw[bm,yJj _ _ (by simp)];exact yQm _ _
 have aM:X2.st X.w.heap.size=none:=by
  rw[aG,ISt.put_apply,if_neg (by omega)];exact bs
 -- ag b0 of ag b1
 obtain⟨I',ae⟩:∃I':σ->ISt->Prop,I'=λk stu=>stu l=some (.loop rec (recI fr))/\I k (stu.put l none):=⟨_,rfl⟩
 obtain⟨S',bS⟩:∃S':ISt->Prop,S'=λstu=>∃e cj,wG7 e=some cj/\stu l=some (.loop { rec with state:=.done,pending:=some cj } (recI fr))/\S e (stu.put l none):=⟨_,rfl⟩
 have aw:wGw c.P c.gl (.fn (.yield l) [] []) lk I' S':=by
  intro k aL le k2 stu hk hd hi B' X3 fv rs bJ aF ct aU;rw[ae] at hi;obtain⟨bt,co⟩:=hi;have aa:le l=none:=hd.off bt;obtain⟨cF,cs',rfl,bK,bQ⟩:=V.fn_inv ct;obtain rfl:cF=[]:=List.eq_nil_of_length_eq_zero bK.1;obtain rfl:cs'=[]:=List.eq_nil_of_length_eq_zero bQ.1;have ah:X3.st l=some (.loop rec (recI fr)):=by rw[aF,ISt.add_off aa];exact bt
  obtain⟨bU,a1,aE⟩:=bJ.ok l _ ah;have bD:rs.length=ps.size:=by rw[aU.1];exact b9 k aL le k2 hk
  have bu:(do let d <- Deferred.ofValue (.func (.yield l) ⟨[]⟩ ⟨[]⟩) ⟨rs⟩;invoke d.target d.args:Sem Next).run c.P X3.w =
    .ok (.round l rec.fn ((rec.params.zip ⟨rs⟩).foldl (λtmps (t,a)=>tmps.setIfInBounds t a) rec.tmps) rec.assign rec.body) X3.w:=by
   have:=run_yield (P:=c.P) (args:=⟨rs⟩) a1 (by rw[A];simpa using bD);simp only[Deferred.ofValue,Sem.run_bind,Sem.run_pure,Result.andThen_ok,invoke];grind
  unfold CallsVal;rw[bu];refine⟨rfl,?_⟩;obtain⟨aS,O⟩:∃t,t=(rec.params.zip ⟨rs⟩).foldl (λ(tmps:Array Value) (p:Tmp×Value)=>tmps.setIfInBounds p.1 p.2) rec.tmps:=⟨_,rfl⟩
  have htl:aS=(ps.toList.zip rs).foldl (λt p=>t.setIfInBounds p.1 p.2) a.tmps:=by
   rw[O,A,<- Array.foldl_toList];simp
  have ci:rec.assign=D:=by rw[A]
  have cg:rec.body=body:=by rw[A]
  rw[ci,cg];change RoundIn Fence.wide 0 c.P l rec.fn ((rec.params.zip ⟨rs⟩).foldl (λ(tmps:Array Value) (p:Tmp×Value)=>tmps.setIfInBounds p.1 p.2) rec.tmps) D body X3.w _;rw[<- O,htl]
  -- ag bh frame
  obtain⟨Xc,ab⟩:∃Xc:WS,Xc={ X3 with st:=X3.st.put l none }:=⟨_,rfl⟩
  have bo:subSt (X3.st.put l none) X3.st:=λb o hb=>by
   rw[ISt.put_apply] at hb;grind
  obtain⟨bH,a7⟩:=bJ.sub bo;rw[<- ab] at bH a7;have aK:Xc.w=X3.w:=by rw[ab]
  have ay:Xc.w.heap[l]?=some (.loop rec):=by rw[aK];exact a1
  have aW:Xc.st l=none:=by rw[ab];exact ISt.put_same _ _ _
  have cB:Inv (c.cx B') Xc N Xc (yVh (zYb fr) (ps.toList.zip aL)) [] { tmps:=(ps.toList.zip rs).foldl (λt p=>t.setIfInBounds p.1 p.2) a.tmps,defers:=[] }:=by
   refine⟨bH,Ext.refl _,FrOk.puts ⟨λt=>?_,λt t' cs cs' ht=>by cases ht⟩ (λp hp=>by rw[hI.size];exact ck p hp) ⟨aU.1,λi r x hr hx=>a7.v (aU.2 i r x hr hx)⟩ ?_,?_,.nil⟩
   ·have:=aE t;rw[A] at this;exact a7.v this
   ·grind
   ·simp only[zJl];exact hI.size
  have bw:=ax k aL le k2 (stu.put l none) hk (hd.put aa) co;have bp:Xc.st=(stu.put l none).add le:=by rw[ab,<- ISt.put_add aa,<- aF]
  rw[<- bp] at bw;have bl:=b8 B' Xc Xc l _ _ _ _ cB bw;rw[aK] at bl;refine roundIn_of_wpIn trivial (wpIn_mono bl ?_);rintro e a6 w6 ⟨X6,cS,cW,rfl,aC,hq⟩;cases e with
  | normal =>
   obtain⟨bP,hq⟩:=hq;subst bP;have bC:l<Xc.w.heap.size:=(Array.getElem?_eq_some_iff.1 ay).1;have cq:X6.w.heap[l]?=some (.loop rec):=(aC.ext.keep l bC aW).1.trans ay;have cd:X6.st l=none:=aC.ext.dom l bC aW;refine⟨(X6.obj l (.loop { rec with state:=.busy }) none).w,run_beginRound cq (by rw[A]),?_⟩;have cC:=aC.both (r':={ rec with state:=.busy }) ay aW;have bq:(X6.obj l (.loop { rec with state:=.busy }) none).st=X6.st:=by rw[xVf];exact yZm cd
   rw[<- bq] at hq;have cJ:a6.defers=[]:=by
    have:=aC.ds;generalize a6.defers=cX at this;cases this;rfl
   have ca:=b7 B' _ _ l _ _ _ _ cC hq;refine wpIn_mono ca ?_;rintro e a8 w8 ⟨X8,cR,cV,rfl,ak,cI,hR⟩;have bG:(Xc.obj l (.loop { rec with state:=.busy }) none).w.heap[l]?=some (.loop { rec with state:=.busy }):=yVd ay;have aV:(Xc.obj l (.loop { rec with state:=.busy }) none).st l=none:=by rw[xVf];exact ISt.put_same _ _ _
   have ai:l<(Xc.obj l (.loop { rec with state:=.busy }) none).w.heap.size:=(Array.getElem?_eq_some_iff.1 bG).1;have aj:X8.w.heap[l]?=some (.loop { rec with state:=.busy }):=(ak.ext.keep l ai aV).1.trans bG;have aX:X8.st l=none:=ak.ext.dom l ai aV;have cA:X8.L l=0:=(ak.ext.keep l ai aV).2.trans (by rw[ab];exact bU);have bN:Ext X3 X8:=Ext.star a1 ah bU (by rw[<- ab];exact ak.ext)
   -- ag b2 is set cK
   have aN:∀(r9:Loop) (b:Bool),r9.tmps=rec.tmps->((b=true/\∃s1,I' k2 s1/\le.disj s1/\X8.st.put l (some (.loop r9 (recI fr)))=s1.add le)\/(b=false/\S' (X8.st.put l (some (.loop r9 (recI fr)))))) →
     ends (c.cx B') X3 (λr st'=>(r=.raw (.bool true)/\∃s1,I' k2 s1/\le.disj s1/\st'=s1.add le)\/(r=.raw (.bool false)/\S' st')) (.bool b) (X8.w.putObj l (.loop r9)):=by
    intro r9 b ht cP;have aI:Ext X3 (X8.obj l (.loop r9) (some (.loop r9 (recI fr)))):=bN.obj aj yY6 yY6 (.inr (by rw[ah];simp));refine⟨X8.obj l (.loop r9) (some (.loop r9 (recI fr))),.raw (.bool b),rfl,ak.good.obj aj yY6 yY6 (λi hi=>?_),aI,.raw _ trivial,?_⟩
    ·cases hi;exact⟨cA,yVd aj,λt=>by rw[ht];exact aI.v (aE t)⟩
    ·rw[xVf];grind
   have bx:∀o,(X8.st.put l o).put l none=X8.st:=λo=>by rw[yQ9];exact yZm aX
   have stop:∀e cj,wG7 e=some cj->S e X8.st->∃v w',(Instr.endRound l (some cj)).run c.P X8.w=.ok v w'/\∃v',Ending.returned v=.returned v' /\
     ends (c.cx B') X3 (λr st'=>(r=.raw (.bool true)/\∃s1,I' k2 s1/\le.disj s1/\st'=s1.add le)\/(r=.raw (.bool false)/\S' st')) v' w':=by
    intro e cj hj hS;refine⟨_,_,run_endRound (some cj) aj,_,rfl,aN { rec with state:=.done,pending:=some cj } false rfl (.inr ⟨rfl,?_⟩)⟩;rw[bS];exact⟨e,cj,hj,ISt.put_same _ _ _,by rw[bx];exact hS⟩
   cases e with
   | normal =>
    have cO:({ { rec with state:=.busy } with state:=.ready,pending:=none }:Loop)=rec:=by rw[A]
    refine⟨_,_,run_endRound none aj,_,rfl,?_⟩;obtain⟨s1,cw,cv,bT⟩:=hR;have ce:s1 l=none:=by rw[bT,ISt.add_off aa] at aX;exact aX
    have:=aN rec true rfl (.inl ⟨rfl,s1.put l (some (.loop rec (recI fr))),by rw[ae];exact⟨ISt.put_same _ _ _,by rw[yQ9,yZm ce];exact cw⟩,cv.put aa,by rw[bT,ISt.put_add aa]⟩);grind
   | ret=>exact stop .ret .ret rfl hR
   | exit id=>exact stop (.exit id) (.exit id) rfl hR
   | goto t=>exact stop (.goto t) (.goto t) rfl hR
   | panic ch=>exact hR.elim
   | outgrown=>exact hR.elim
  | _=>exact hq.elim
 have bb:=aZ (.fn (.yield l) [] []) I' S' X2.st ⟨_,_,_,rfl,rfl,λg hg=>by cases hg⟩
  (λk stu hk=>by
   rw[ae] at hk;exact⟨stu.put l none,λb o hb=>by
    rw[ISt.put_apply] at hb;split at hb
    ·cases hb
    ·exact hb,hk.2⟩) (λk stu m kk es es' hk hm hu=>by
   rw[ae] at hk ⊢;have hml:m≠l:=by
    rintro rfl;rw[hk.1] at hm;cases hm
   refine⟨by simp only[ISt.put_apply,if_neg (Ne.symm hml)];exact hk.1,?_⟩;have h1:(stu.put m (some (.map kk es'))).put l none=(stu.put l none).put m (some (.map kk es')):=by
    funext c;simp only[ISt.put_apply];by_cases hc:c=l
    ·subst hc;rw[if_pos rfl,if_neg (Ne.symm hml),if_pos rfl]
    ·rw[if_neg hc,if_neg hc]
   rw[h1];exact cc k _ m kk es es' hk.2 (by simp only[ISt.put_apply,if_neg hml];exact hm) hu) aw
  (by rw[ae,aG];exact⟨ISt.put_same _ _ _,by rw[yQ9,yZm (by rw[bF];exact br)];exact h0⟩)
 have az:=bW.good;have aJ:Ext X X2:=by
  rw[aB,ac];rw[ac] at al;exact (hI.good.new_ext _ _ _).trans (al.good.new_ext _ _ _)
 have aA:=bb B X2 (fs++[.func (.yield l) ⟨[]⟩ ⟨[]⟩]++cs) az rfl
  ((VL.append (VL.append ⟨bL.1,λi r x hr hx=>aJ.v (bL.2 i r x hr hx)⟩ (VL.cons (.fn (.yield l) [] [] rfl (λi r x h=>by simp at h) [] [] rfl (λi r x h=>by simp at h)) VL.nil)) ⟨bR.1,λi r x hr hx=>aJ.v (bR.2 i r x hr hx)⟩))
 have aH:=run_enterLoop_outer (P:=c.P) (w:=X.w) fn a.tmps ps D body;rw[<- A,<- bm,<- bF] at aH;have cr:∃J,c.P.funcs[gf]?=some J/\J.name ≠ "runtime.NumGoroutine" /\ ¬ J.body.isNone=true:=by
  unfold entI at he;cases hf:c.P.funcs[gf]? with
  | none=>simp[hf] at he
  | some J =>
   simp only[hf,bAt,bne_iff_ne,ne_eq] at he;exact⟨J,rfl,he.1,by have:=he.2;cases hq:J.body<;>simp_all⟩
 obtain⟨J,hf,cm,bc⟩:=cr;refine⟨l,[{ target:=.collected X.w.heap.size,args:=#[] }],X2.w,{ target:=.fn (.func gf) ⟨cs⟩,args:=⟨fs++[.func (.yield l) ⟨[]⟩ ⟨[]⟩]⟩ },X2.w,gf,⟨fs++[.func (.yield l) ⟨[]⟩ ⟨[]⟩]++cs⟩,X2.w,
  aH,?_,λ_ _=>trivial,?_,λh=>by simp[yZ7,Fence.wide] at h,?_⟩
 ·simp only[resolve,eg];simp[Deferred.ofValue,Act.eval]
 ·simp only[invoke,callFunc,Sem.run_bind,run_program,Result.andThen_ok,hf];rw[if_neg (by simpa using cm),if_neg bc];simp
 ·refine zQj (aA.mono ?_);rintro e w' ⟨v,rfl,X4,x,rfl,bI,ba,_,hK⟩;have cD:Inv (c.cx B) X0 N X4 fr ds a:=bW.ext' ba bI;have am:X.w.heap.size<X2.w.heap.size:=(Array.getElem?_eq_some_iff.1 bY).1;have cE:X4.w.heap[X.w.heap.size]?=some (.deferred (some [])):=(ba.keep _ am aM).1.trans bY;have bX:=ba.dom _ am aM
  -- b6 ag call
  have aO:∀(r4:Loop),X4.st l=some (.loop r4 (recI fr))->X4.w.heap[l]?=some (.loop r4) /\
    Inv (c.cx B) X0 N (X4.obj l (.loop { r4 with state:=.exhausted }) none) fr (.coll X.w.heap.size::ds) { a with defers:={ target:=.collected X.w.heap.size,args:=#[] }::a.defers }:=by
   intro r4 U;obtain⟨_,E,_⟩:=bI.ok l _ U;have h5:=cD.obj (o':=.loop { r4 with state:=.exhausted }) (so:=none) E yY6 yY6 (by rw[U];simp) (λi hi=>by cases hi);have bA:X.w.heap.size≠l:=by omega
   refine⟨E,h5.good,h5.ext,h5.fr,h5.size,.cons ⟨rfl,(yX4 E bA).trans cE,?_,hI.ext.size⟩ h5.ds (λr hr=>by cases hr;exact λhm=>nLi _ (hI.ds.lt hm))⟩;rw[xVf,ISt.put_apply,if_neg bA];exact bX
  rcases hK with hK|hK
  ·obtain⟨kf,cn,hK⟩:=hK;rw[ae] at hK;obtain⟨U,bV⟩:=hK;obtain⟨E,h5⟩:=aO rec U;refine⟨none,_,(run_endLoop E (by rw[A];simp)).trans (congrArg (λp=>Result.ok p _) (show rec.pending=none by rw[A])),?_⟩;exact⟨_,fr,_,rfl,h5,cz kf _ _ cn bV⟩
  ·rw[bS] at hK;obtain⟨e,cj,hj,U,hS⟩:=hK;obtain⟨E,h5⟩:=aO _ U;refine⟨some cj,_,run_endLoop E (by simp),?_⟩;have hq:PQ (c.cx B) X0 N Q e { a with defers:={ target:=.collected X.w.heap.size,args:=#[] }::a.defers } (X4.w.putObj l (.loop { { rec with state:=.done,pending:=some cj } with state:=.exhausted })):=⟨_,fr,_,rfl,h5,cy e _ _ hS⟩
   cases e with
   | ret=>cases hj;exact wpIn_ret hq
   | exit id=>cases hj;exact wpIn_exit hq
   | goto t=>cases hj;exact wpIn_goto hq
   | _=>cases hj
theorem yUq {N:Nat}:∀(U:Code) (c:Cf) (B:Nat) (X0:WS) (ro:Option Nat) (n:Nat),(c.rd=false->ro=none)->∀(Q:Kc) (X:WS) (fr:Fr) (ds:List Dfd) (a:Act),codeOk c N U=true →
  Inv (c.cx B) X0 N X fr ds a->vcC c U Q fr X.st ds->U.wpIn (yZ7 ro) n c.P (PQ (c.cx B) X0 N Q) a X.w:=by
 intro U
 induction U with
 | skip=>intro c B X0 ro n A Q X fr ds a _ D h;exact wpIn_skip ⟨X,fr,ds,rfl,D,h⟩
 | region id ops aj =>
  intro c B X0 ro n A Q X fr ds a hd D h;simp only[codeOk,bAt,Bool.or_eq_true,Bool.not_eq_true'] at hd;have hN:∀o∈ops.toList,∀d,o.dst=some d->d<N:=λo ho d aA=>by
   grind
  cases aj with
  | false=>exact zUq (c:={ c with dr:=false }) A hN D h
  | true =>
   have h2:=hd.2.resolve_left (by simp);exact xYk A hN h2.1 (by rw[Bool.or_eq_true];exact h2.2) D h
 | seq x y al ak =>
  intro c B X0 ro n A Q X fr ds a hd D h;simp only[codeOk,bAt] at hd;refine wpIn_seq (wpIn_mono (al c B X0 ro n A _ X fr ds a hd.1 D h) ?_);rintro e a' w' ⟨X',fr',E,rfl,O,hq⟩;cases e with
  | normal=>exact ak c B X0 ro n A Q X' fr' E a' hd.2 O hq
  | _=>exact⟨X',fr',E,rfl,O,hq⟩
 | cond x p q an am =>
  intro c B X0 ro n A Q X fr ds a hd D h;simp only[codeOk,bAt] at hd;obtain⟨v,hv,h1⟩:=yQ2.1 h;obtain⟨t,rfl,h2⟩:=zY0 h1;have he:=V.raw_inv (xGr (C:=c.cx B) D.good D.fr hv).1;exact wpIn_cond_split he (λht=>an c B X0 ro n A Q X fr ds a hd.1 D (h2.1 ht)) (λht=>am c B X0 ro n A Q X fr ds a hd.2 D (h2.2 ht))
 | block id p ih =>
  intro c B X0 ro n A Q X fr ds a hd D h;refine wpIn_block (wpIn_mono (ih c B X0 ro n A _ X fr ds a hd D h) ?_);rintro e a' w' ⟨X',fr',E,rfl,O,hq⟩;cases e with
  | exit id' =>
   simp only[zKu] at hq;simp only[Exit.inBlock];split at hq
   ·rename_i hid;rw[if_pos hid];exact⟨X',fr',E,rfl,O,hq⟩
   ·rename_i hid;rw[if_neg hid];exact⟨X',fr',E,rfl,O,hq⟩
  | _=>exact⟨X',fr',E,rfl,O,hq⟩
 | loop p ih =>
  intro c B X0 ro n A Q X fr ds a hd D h;obtain⟨J,⟨m0,h0⟩,ab⟩:=h;refine zY6 (λm a w=>∃X fr ds,X.w=w/\Inv (c.cx B) X0 N X fr ds a/\J m fr X.st ds) ⟨m0,X,fr,ds,rfl,D,h0⟩ ?_;rintro m a' w' ⟨X',fr',E,rfl,O,hi⟩;refine wpIn_mono (ih c B X0 ro n A _ X' fr' E a' hd O (ab m fr' X'.st E hi)) ?_;rintro e a2 w2 ⟨X2,ah,ai,rfl,ag,hq⟩;cases e with
  | normal =>
   obtain⟨m',au,hj⟩:=hq;exact⟨m',au,X2,ah,ai,rfl,ag,hj⟩
  | _=>exact⟨X2,ah,ai,rfl,ag,hq⟩
 | rangeFunc g ps aF p aq ao =>
  intro c B X0 ro n A Q X fr ds a hd D h;simp only[codeOk,bAt,List.all_eq_true,dTe] at hd;change (if c.rd=true then False else _) at h;obtain⟨ac,h1⟩:=yK0 h;have ae:=A (by simpa using ac);subst ae;obtain⟨v,hv,h2⟩:=yQ2.1 h1;obtain⟨f,first,aw,rfl,h3⟩:=xJo h2;exact xXb hd.1.1 (λB X0 X l Q fr ds a D h=>aq { c with rd:=true } B X0 (some l) 0 (λh=>by cases h) Q X fr ds a (by rw[yXs];exact hd.1.2) D h)
   (λB X0 X l Q fr ds a D h=>ao { c with rd:=true } B X0 (some l) 0 (λh=>by cases h) Q X fr ds a (by rw[yXs];exact hd.2) D h) D hv rfl h3
 | exit id=>intro c B X0 ro n A Q X fr ds a _ D h;exact wpIn_exit ⟨X,fr,ds,rfl,D,h⟩
 | scope p ih =>
  intro c B X0 ro n A Q X fr ds a hd D h;change (if c.rd=true then False else _) at h;obtain⟨ac,h1⟩:=yK0 h;have ae:=A (by simpa using ac);subst ae;have:=ih c B X0 none n A (wQi Q) X fr ds a hd D h1;refine wpIn_wide.2 (wp_scope_straight (wpIn_wide.1 (wpIn_mono this ?_)));rintro e a' w' ⟨X',fr',E,rfl,O,hq⟩;cases e with
  | goto l=>exact hq.elim
  | _=>exact⟨X',fr',E,rfl,O,hq⟩
 | label l=>intro c B X0 ro n A Q X fr ds a _ D h;exact wpIn_label ⟨X,fr,ds,rfl,D,h⟩
 | goto l=>intro c B X0 ro n A Q X fr ds a _ D h;exact wpIn_goto ⟨X,fr,ds,rfl,D,h⟩
 | ret=>intro c B X0 ro n A Q X fr ds a _ D h;exact wpIn_ret ⟨X,fr,ds,rfl,D,h⟩
 | refuse ax=>intro c B X0 ro n A Q X fr ds a _ D h;exact h.elim
