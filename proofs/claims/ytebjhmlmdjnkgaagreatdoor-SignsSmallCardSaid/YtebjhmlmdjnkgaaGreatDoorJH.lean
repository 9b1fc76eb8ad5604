/- The layer of ideal values, part Pa: what -/
import Derived.Test.YtebjhmlmdjnkgaaGreatDoorJG
import Derived.Scope
set_option linter.all false
namespace Go.Iv
open Go
def subSt (st' st:ISt):Prop:=∀b o,st' b=some o->st b=some o
theorem subSt.refl (st:ISt):subSt st st:=λ_ _ h=>h
theorem subSt.trans {a b c:ISt}(h:subSt a b)(k:subSt b c):subSt a c:=λx o hx=>k x o (h x o hx)
theorem Good.sub {C:Cx}{X:WS}(h:Good C X){st:ISt}(hs:subSt st X.st):Good C { X with st:=st }/\Ext X { X with st:=st } :=
 ⟨⟨λb o hb=>(h.ok b o (hs b o hb)).mono rfl rfl (λ_ _ hv=>hv),h.gl,h.B,h.Lnew,h.gsh,h.dr⟩,
  ⟨rfl,rfl,rfl,Nat.le_refl _,λ_=>Nat.le_refl _,λ_ _ _=>rfl,λ_ _ _=>⟨rfl,rfl⟩,(λb _ hb=>by
   cases hq:st b with
   | none=>exact hq
   | some o=>have:=hs b o hq;rw[hb] at this;cases this),λ_ _ hp=>hp,rfl⟩⟩
def join (stu own:ISt):ISt:=λb=>match own b with|some o=>some o|none=>stu b
def disj (stu own:ISt):Prop:=∀b,own b≠none->stu b=none
theorem yQt {stu own:ISt}{b:Nat}{o:IObj}(h:own b=some o):join stu own b=some o:=by simp[join,h]
theorem yQw {stu own:ISt}{b:Nat}(h:own b=none):join stu own b=stu b:=by simp[join,h]
theorem yJh {stu own:ISt}(h:disj stu own):subSt stu (join stu own):=λb o hb=>by
 cases hq:own b with
 | none=>rw[yQw hq];exact hb
 | some o'=>have:=h b (by rw[hq];simp);rw[hb] at this;cases this
theorem zVx {C:Cx}{X:WS}{stu own:ISt}{K:IV->ISt->Prop}{v:Value}{w':World}(hg:Good C X)(hst:X.st=join stu own)(hd:disj stu own)(h:ends C { X with st:=stu } K v w') :
  ends C X (λx st'=>∃stu',disj stu' own/\st'=join stu' own/\K x stu') v w':=by
 obtain⟨X',x,rfl,hg',he',hv,hK⟩:=h;have hlt:∀b o,own b=some o->b<X.w.heap.size:=λb o hb=>hg.lt (show X.st b=some o by rw[hst];exact yQt hb);have hkeep:∀b o,own b=some o->X'.w.heap[b]?=X.w.heap[b]?/\X'.L b=X.L b:=λb o hb=>he'.keep b (hlt b o hb) (hd b (by rw[hb];simp));have hdom:∀b o,own b=some o->X'.st b=none:=λb o hb=>he'.dom b (hlt b o hb) (hd b (by rw[hb];simp));refine⟨{ X' with st:=join X'.st own },x,rfl,⟨λb o hb=>?_,hg'.gl,hg'.B,hg'.Lnew,hg'.gsh,hg'.dr⟩,⟨he'.os,he'.tape,he'.output,he'.size,he'.lmono,he'.cells,λb hb hs=>?_,λb hb hs=>?_,he'.shape,he'.d⟩,hv,X'.st,?_,rfl,hK⟩
 ·cases hq:own b with
  | none =>
   have hb':X'.st b=some o:=by rw[<- yQw (stu:=X'.st) hq];exact hb
   exact (hg'.ok b o hb').mono rfl rfl (λ_ _ hv=>hv)
  | some o' =>
   have:o'=o:=by have:=(yQt (stu:=X'.st) hq).symm.trans hb;exact Option.some.inj this
   subst this;have h1:=hg.ok b o' (by rw[hst];exact yQt hq);have h2:ObjOk C X' b o':=h1.mono (hkeep b o' hq).1 (hkeep b o' hq).2 (λ_ _ hv=>he'.vl hv);exact h2.mono rfl rfl (λ_ _ hv=>hv)
 ·have h1:own b=none:=by
   cases hq:own b with
   | none=>rfl
   | some o=>rw[hst,yQt hq] at hs;cases hs
  rw[hst,yQw h1] at hs;exact he'.keep b hb hs
 ·have h1:own b=none:=by
   cases hq:own b with
   | none=>rfl
   | some o=>rw[hst,yQt hq] at hs;cases hs
  rw[hst,yQw h1] at hs;exact (yQw h1).trans (he'.dom b hb hs)
 ·intro b hb;cases hq:own b with
  | none=>exact absurd hq hb
  | some o=>exact hdom b o hq
section
variable {P:Program}{gl:Nat->Option IV}
theorem ICall.frame {f:FuncId}{args:List IV}{stu own:ISt}{K:IV->ISt->Prop}(h:ICall P gl f args stu K)(hd:disj stu own) :
  ICall P gl f args (join stu own) (λx st'=>∃stu',disj stu' own/\st'=join stu' own/\K x stu'):=by
 intro B X rs hg hst hv;obtain⟨hg1,he1⟩:=hg.sub (st:=stu) (by rw[hst];exact yJh hd);refine (h B { X with st:=stu } rs hg1 rfl ⟨hv.1,λi r c hr hc=>he1.v (hv.2 i r c hr hc)⟩).mono ?_;rintro e w' ⟨v,rfl,he⟩;exact⟨v,rfl,zVx hg hst hd he⟩
theorem ICallV.frame {f:IV}{args:List IV}{stu own:ISt}{K:IV->ISt->Prop}(h:ICallV P gl f args stu K)(hd:disj stu own) :
  ICallV P gl f args (join stu own) (λx st'=>∃stu',disj stu' own/\st'=join stu' own/\K x stu'):=by
 intro B X fv rs hg hst hf hv;obtain⟨hg1,he1⟩:=hg.sub (st:=stu) (by rw[hst];exact yJh hd);exact (h B { X with st:=stu } fv rs hg1 rfl (he1.v hf) ⟨hv.1,λi r c hr hc=>he1.v (hv.2 i r c hr hc)⟩).mono λv w' he=>zVx hg hst hd he
theorem VL.split {B:Nat}{L:Nat->Nat}{w:World}{rs:List Value}{c1 c2:List IV}(h:VL B L w rs (c1++c2)):∃r1 r2,rs=r1++r2/\VL B L w r1 c1/\VL B L w r2 c2:=by
 refine⟨rs.take c1.length,rs.drop c1.length,(List.take_append_drop _ _).symm,?_,?_⟩
 ·have:=h.take c1.length
  rwa [List.take_left] at this
 ·have:=h.drop c1.length
  rwa [List.drop_left] at this
theorem ICall.of_ICallV {g:FuncId}{first caps args:List IV}{st:ISt}{K:IV->ISt->Prop}(he:entI P g=true)(h:ICallV P gl (.fn (.func g) first caps) args st K):ICall P gl g (first++args++caps) st K:=by
 intro B X rs hg hst hv;obtain⟨r12,r3,rfl,h12,h3⟩:=VL.split hv;obtain⟨r1,r2,rfl,h1,h2⟩:=VL.split h12;have hc:=h B X (.func (.func g) ⟨r1⟩ ⟨r3⟩) r2 hg hst (.fn (.func g) r1 first h1.1 h1.2 r3 caps h3.1 h3.2) h2;unfold entI at he;cases hf:P.funcs[g]? with
 | none=>simp[hf] at he
 | some fn =>
  simp only[hf,bAt,bne_iff_ne,ne_eq] at he;have hb:¬ fn.body.isNone=true:=by
   have:=he.2;cases hq:fn.body<;>simp_all
  have hr:(do let d <- Deferred.ofValue (.func (.func g) ⟨r1⟩ ⟨r3⟩) ⟨r2⟩;invoke d.target d.args:Sem Next).run P X.w=.ok (.enter g ⟨r1++r2++r3⟩) X.w:=by
   simp only[Deferred.ofValue,Sem.run_bind,Sem.run_pure,Result.andThen_ok,invoke,callFunc,run_program,hf];rw[if_neg (by simpa using he.1),if_neg hb];simp
  unfold CallsVal at hc;grind
theorem yYu {f:Fn}{first caps args:List IV}{st:ISt}{K:IV->ISt->Prop}(he:∀g,f=.func g->entI P g=true)(h:ICallV P gl (.fn f first caps) args st K):callV P gl f first caps args st K:=by
 unfold callV;split
 ·rw[if_pos (he _ rfl)];exact ICall.of_ICallV (he _ rfl) h
 ·exact h
def IsFn (P:Program)(y:IV):Prop:=∃f first caps,y=.fn f first caps/\fnOk f=true/\∀g,f=.func g->entI P g=true
def vQv (P:Program)(gl:Nat->Option IV)(y:IV)(xs:Nat->List IV->Prop)(I:Nat->ISt->Prop)(S:ISt->Prop):Prop :=
 ∀k a stu,xs k a->I k stu->ICallV P gl y a stu λr st'=>(r=.raw (.bool true)/\I (k+1) st')\/(r=.raw (.bool false)/\S st')
def IterC (P:Program)(gl:Nat->Option IV)(g:FuncId)(first caps:List IV)(xs:Nat->List IV->Prop)(len:Nat)(I:Nat->ISt->Prop):Prop :=
 ∀(y:IV) (I':Nat->ISt->Prop) (S':ISt->Prop) (st:ISt),IsFn P y->(∀k stu,I' k stu->∃stu0,subSt stu0 stu/\I k stu0)->vQv P gl y xs I' S'->I' 0 st →
  ICall P gl g (first++[y]++caps) st λ_ st'=>I' len st'\/S' st'
abbrev ISt.add (s e:ISt):ISt:=Go.Iv.join s e
abbrev ISt.disj (e s:ISt):Prop:=Go.Iv.disj s e
theorem ISt.add_off {s e:ISt}{b:Nat}(h:e b=none):s.add e b=s b:=yQw h
theorem ISt.put_add {s e:ISt}{b:Nat}{o:Option IObj}(h:e b=none):(s.add e).put b o=(s.put b o).add e:=by
 funext c;by_cases hc:c=b
 ·subst hc;simp only[ISt.put_apply,join,h,if_true]
 ·simp only[ISt.put_apply,join,if_neg hc]
theorem ISt.disj.put {e s:ISt}(h:e.disj s){b:Nat}{o:Option IObj}(hb:e b=none):e.disj (s.put b o):=λc hc=>by
 rw[ISt.put_apply,if_neg (by rintro rfl;exact hc hb)];exact h c hc
theorem ISt.disj.off {e s:ISt}(h:e.disj s){b:Nat}{o:IObj}(hs:s b=some o):e b=none:=by
 cases he:e b with
 | none=>rfl
 | some o'=>have:=h b (by rw[he];simp);rw[hs] at this;cases this
def wYf (P:Program)(gl:Nat->Option IV)(y:IV)(lk:Nat->List IV->ISt->Prop)(I:Nat->ISt->Prop)(S:ISt->Prop):Prop :=
 ∀k a e stu,lk k a e->e.disj stu->I k stu->ICallV P gl y a (stu.add e) λr st'=>(r=.raw (.bool true)/\∃s1,I (k+1) s1/\e.disj s1/\st'=s1.add e)\/(r=.raw (.bool false)/\S st')
def IterL (P:Program)(gl:Nat->Option IV)(g:FuncId)(first caps:List IV)(lk:Nat->List IV->ISt->Prop)(len:Nat)(I:Nat->ISt->Prop):Prop :=
 ∀(y:IV) (I':Nat->ISt->Prop) (S':ISt->Prop) (st:ISt),IsFn P y->(∀k stu,I' k stu->∃stu0,subSt stu0 stu/\I k stu0)->wYf P gl y lk I' S'->I' 0 st →
  ICall P gl g (first++[y]++caps) st λ_ st'=>I' len st'\/S' st'
def IterU (P:Program)(gl:Nat->Option IV)(g:FuncId)(first caps:List IV)(lk:Nat->List IV->ISt->Prop)(len:Nat)(I:Nat->ISt->Prop)(up:Nat->List (Value×IV)->List (Value×IV)->Prop):Prop :=
 ∀(y:IV) (I':Nat->ISt->Prop) (S':ISt->Prop) (st:ISt),IsFn P y->(∀k stu,I' k stu->∃stu0,subSt stu0 stu/\I k stu0)->(∀k stu m kk es es',I' k stu->stu m=some (.map kk es)->up m es es'->I' k (stu.put m (some (.map kk es'))))->wYf P gl y lk I' S'->I' 0 st →
  ICall P gl g (first++[y]++caps) st λ_ st'=>I' len st'\/S' st'
def noUp (_:Nat)(_ _:List (Value×IV)):Prop:=False
def wYg {σ:Type}(P:Program)(gl:Nat->Option IV)(y:IV)(lk:σ->List IV->ISt->σ->Prop)(I:σ->ISt->Prop)(S:ISt->Prop):Prop :=
 ∀k a e k' stu,lk k a e k'->e.disj stu->I k stu->ICallV P gl y a (stu.add e) λr st'=>(r=.raw (.bool true)/\∃s1,I k' s1/\e.disj s1/\st'=s1.add e)\/(r=.raw (.bool false)/\S st')
def vWa {σ:Type}(P:Program)(gl:Nat->Option IV)(g:FuncId)(first caps:List IV)(lk:σ->List IV->ISt->σ->Prop)(k0:σ)(fin:σ->Prop)(I:σ->ISt->Prop)(up:Nat->List (Value×IV)->List (Value×IV)->Prop):Prop :=
 ∀(y:IV) (I':σ->ISt->Prop) (S':ISt->Prop) (st:ISt),IsFn P y->(∀k stu,I' k stu->∃stu0,subSt stu0 stu/\I k stu0)->(∀k stu m kk es es',I' k stu->stu m=some (.map kk es)->up m es es'->I' k (stu.put m (some (.map kk es'))))->wYg P gl y lk I' S'->I' k0 st →
  ICall P gl g (first++[y]++caps) st λ_ st'=>(∃k,fin k/\I' k st')\/S' st'
def wG7 (lk:Nat->List IV->ISt->Prop)(k:Nat)(a:List IV)(e:ISt)(k':Nat):Prop:=lk k a e/\k'=k+1
theorem IterU.toH {P:Program}{gl:Nat->Option IV}{g:FuncId}{first caps:List IV}{lk:Nat->List IV->ISt->Prop}{len:Nat}{I:Nat->ISt->Prop}{up:Nat->List (Value×IV)->List (Value×IV)->Prop}(h:IterU P gl g first caps lk len I up):vWa P gl g first caps (wG7 lk) 0 (·=len) I up :=
 λy I' S' st hf hI hu hy h0=>(h y I' S' st hf hI hu (λk a e stu hk hd hi=>hy k a e (k+1) stu ⟨hk,rfl⟩ hd hi) h0).mono λr st' hr=>hr.imp (λhi=>⟨len,rfl,hi⟩) id
theorem IterL.up {P:Program}{gl:Nat->Option IV}{g:FuncId}{first caps:List IV}{lk:Nat->List IV->ISt->Prop}{len:Nat}{I:Nat->ISt->Prop}(h:IterL P gl g first caps lk len I):IterU P gl g first caps lk len I noUp :=
 λy I' S' st hf hI _ hy h0=>h y I' S' st hf hI hy h0
def wWk (xs:Nat->List IV->Prop):Nat->List IV->ISt->Prop:=λk a e=>xs k a/\e=λ_=>none
theorem IterC.lent {P:Program}{gl:Nat->Option IV}{g:FuncId}{first caps:List IV}{xs:Nat->List IV->Prop}{len:Nat}{I:Nat->ISt->Prop}(h:IterC P gl g first caps xs len I):IterL P gl g first caps (wWk xs) len I :=
 λy I' S' st hf hI hy h0=>h y I' S' st hf hI (λk a stu hx hi=>(hy k a (λ_=>none) stu ⟨hx,rfl⟩ (λb hb=>absurd rfl hb) hi).mono λr st' hr=>hr.imp (λ⟨h1,s1,h2,h3,h4⟩=>⟨h1,h4▸h2⟩) id) h0
def wYl (P:Program)(gl:Nat->Option IV)(f:FuncId)(args:List IV)(st:ISt)(K:IV->ISt->Prop):Prop :=
 ∀(B:Nat) (X:WS) (rs:List Value) (u:FrameMode),Good ⟨P,gl,B⟩ X->X.st=st->Cx.vl ⟨P,gl,B⟩ X rs args →
  CallsDIn Fence.wide 0 P f ⟨rs⟩ u X.w λe u' w'=>u'=u/\∃v,e=.returned v/\ends ⟨P,gl,B⟩ X K v w'
end
def zGe:SV->IV
 | .iv x=>x
 | .box _=>.junk
@[go_sem] theorem vXm (x:IV):zGe (.iv x)=x:=(rfl)
def xQu (fr:Fr):Fr:=λt=>.iv (zGe (fr t))
@[go_sem ↓] theorem wYw (fr:Fr)(t:Nat):xQu fr t=.iv (zGe (fr t)):=(rfl)
def yY4 (fr:Fr):List (Nat×IV)->Fr
 | []=>fr
 | p::l=>yY4 (fr.put p.1 (.iv p.2)) l
@[go_sem ↓] theorem vZt (fr:Fr):yY4 fr []=fr:=(rfl)
@[go_sem ↓] theorem wUy (fr:Fr)(t:Nat)(x:IV)(l:List (Nat×IV)):yY4 fr ((t,x)::l)=yY4 (fr.put t (.iv x)) l:=(rfl)
def xGs (R:Exit->ISt->Prop):Kc:=λe _ st ds=>chk (ds=[]) (R e st)
@[go_sem ↓] theorem wW6 (R:Exit->ISt->Prop)(e:Exit)(fr:Fr)(st:ISt)(ds:List Dfd):xGs R e fr st ds=chk (ds=[]) (R e st):=(rfl)
def zV6 (vb:Kc->Fr->ISt->List Dfd->Prop)(R:Exit->ISt->Prop):Kc
 | .normal,fr,st,ds=>chk (ds=[]) (vb (xGs R) fr st [])
 | _,_,_,_=>False
@[go_sem ↓] theorem wJ8 (vb:Kc->Fr->ISt->List Dfd->Prop)(R:Exit->ISt->Prop)(fr:Fr)(st:ISt)(ds:List Dfd):zV6 vb R .normal fr st ds=chk (ds=[]) (vb (xGs R) fr st []):=(rfl)
def xUi (I:ISt->Prop)(S:Exit->ISt->Prop):Exit->ISt->Prop
 | .normal,st=>I st
 | .ret,st=>S .ret st
 | .exit id,st=>S (.exit id) st
 | .goto t,st=>S (.goto t) st
 | _,_=>False
@[go_sem ↓] theorem wWl (I:ISt->Prop)(S:Exit->ISt->Prop)(st:ISt):xUi I S .normal st=I st:=(rfl)
@[go_sem ↓] theorem vJt (I:ISt->Prop)(S:Exit->ISt->Prop)(st:ISt):xUi I S .ret st=S .ret st:=(rfl)
def wX3 (P:Program)(gl:Nat->Option IV)(f:Fn)(first caps:List IV)(n:Nat)(round:List IV->ISt->(Exit->ISt->Prop)->Prop)(Q:Exit->ISt->Nat->Prop)(st:ISt)(_:Lock round)(_:Lock Q):Prop :=
 ∃g,f=.func g/\entI P g=true/\∃(σ:Type) (lk:σ->List IV->ISt->σ->Prop) (k0:σ) (fin:σ->Prop) (I:σ->ISt->Prop) (S:Exit->ISt->Prop) (up:Nat->List (Value×IV)->List (Value×IV)->Prop),(∀k s m kk es es',I k s->s m=some (.map kk es)->up m es es'->I k (s.put m (some (.map kk es'))))/\(∀k a e k',lk k a e k'->a.length=n)/\I k0 st /\
  (∀k a e k' s,lk k a e k'->e.disj s->I k s->round a (s.add e) (xUi (λs'=>∃s1,I k' s1/\e.disj s1/\s'=s1.add e) S))/\vWa P gl g first caps lk k0 fin I up/\(∀k st' r,fin k->I k st'->Q .normal st' r)/\(∀e st' r,S e st'->Q e st' r)
def vcC:Cf->Code->Kc->Fr->ISt->List Dfd->Prop
 | _,.skip,Q,fr,st,ds=>Q .normal fr st ds
 | c,.region _ ops false,Q,fr,st,ds=>yJb { c with dr:=false } ops.toList ops.toList (Q .normal) Ad.none_ fr st ds
 | c,.region id ops true,Q,fr,st,ds=>zKn c ops (zJ1 c.ord id) (Q .normal) fr st ds
 | c,.seq a b,Q,fr,st,ds=>vcC c a (seqK (vcC c b Q) Q) fr st ds
 | c,.cond x a b,Q,fr,st,ds=>yQ6 (evV c.gl fr x) λv=>zZm v λt=>yGf t (vcC c a Q fr st ds) (vcC c b Q fr st ds) .mk .mk
 | c,.block id a,Q,fr,st,ds=>vcC c a (zK4 id Q) fr st ds
 | c,.loop a,Q,fr,st,ds=>LoopV (λfr st ds Q=>vcC c a Q fr st ds) Q fr st ds .mk .mk
 | c,.rangeFunc g ps asg b,Q,fr,st,ds=>if c.rd=true then False else yQ6 (evV c.gl fr g) λv=>fnV v λf first caps =>
   wX3 c.P c.gl f first caps ps.size (λaL st' R=>vcC { c with rd:=true } asg (zV6 (vcC { c with rd:=true } b) R) (yY4 (xQu fr) (ps.toList.zip aL)) st' []) (λe st' r=>Q e fr st' (.coll r::ds)) st .mk .mk
 | _,.exit id,Q,fr,st,ds=>Q (.exit id) fr st ds
 | c,.scope a,Q,fr,st,ds=>if c.rd=true then False else vcC c a (wW2 Q) fr st ds
 | _,.label _,Q,fr,st,ds=>Q .normal fr st ds
 | _,.goto l,Q,fr,st,ds=>Q (.goto l) fr st ds
 | _,.ret,Q,fr,st,ds=>Q .ret fr st ds
 | _,_,_,_,_,_=>False
theorem xQ3 {p:Nat->Prop}(h:∃m,p m):∃m,p m/\∀k,p k->m<=k:=by
 obtain⟨m,hm⟩:=h
 induction m using Nat.strongRecOn with
 | _ m ih =>
  grind
open Classical in
noncomputable def wK3 (p:Nat->Prop):Nat:=if h:∃m,p m then (xQ3 h).choose else 0
theorem zVn {p:Nat->Prop}(h:∃m,p m):p (wK3 p)/\∀k,p k->wK3 p<=k:=by
 unfold wK3;grind
theorem zW4 {F:Fence}{n:Nat}{P:Program}{c:Code}{Q:Exit->Act->World->Prop}{a:Act}{w:World}(J:Nat->Act->World->Prop)(h0:∃m,J m a w)
  (round:∀m a w,J m a w->c.wpIn F n P (Exit.then (λa' w'=>∃m',m'<m/\J m' a' w') Q) a w):(Code.loop c).wpIn F n P Q a w:=by
 refine wpIn_loop (λa w=>∃m,J m a w) (λa w=>wK3 λm=>J m a w) h0 (λa w hI=>?_);obtain⟨hj,_⟩:=zVn hI;refine wpIn_mono (round _ a w hj) (λe a' w' hq=>?_);cases e with
 | normal =>
  obtain⟨m',hlt,hJ⟩:=hq;exact⟨⟨m',hJ⟩,Nat.lt_of_le_of_lt ((zVn ⟨m',hJ⟩).2 m' hJ) hlt⟩
 | _=>exact hq
def codeOk (c:Cf)(N:Nat):Code->Bool
 | .region id ops dr=>(ops.toList.all λo=>match o.dst with|some d=>decide (d<N)|none=>true)&&(!dr || (c.P.follows .mixedOrders&&(anyO (zJ1 c.ord id) || wZ0 c.esc ops (xU5 (zJ1 c.ord id) ops.size))))
 | .seq a b=>codeOk c N a&&codeOk c N b
 | .cond _ a b=>codeOk c N a&&codeOk c N b
 | .block _ a=>codeOk c N a
 | .loop a=>codeOk c N a
 | .scope a=>codeOk c N a
 | .rangeFunc _ ps a b=>ps.toList.all (λd=>decide (d<N))&&codeOk c N a&&codeOk c N b
 | _=>true
theorem yJ5 {c:Cf}{N:Nat}(r:Bool):∀(code:Code),codeOk { c with rd:=r } N code=codeOk c N code
 | .region _ _ _=>rfl
 | .seq a b=>by rw[codeOk,codeOk,yJ5 r a,yJ5 r b]
 | .cond _ a b=>by rw[codeOk,codeOk,yJ5 r a,yJ5 r b]
 | .block _ a=>by rw[codeOk,codeOk,yJ5 r a]
 | .loop a=>by rw[codeOk,codeOk,yJ5 r a]
 | .scope a=>by rw[codeOk,codeOk,yJ5 r a]
 | .rangeFunc _ _ a b=>by rw[codeOk,codeOk,yJ5 r a,yJ5 r b]
 | .skip=>rfl
 | .exit _=>rfl
 | .label _=>rfl
 | .goto _=>rfl
 | .ret=>rfl
 | .refuse _=>rfl
theorem yQh (st:ISt)(b:Nat)(x y:Option IObj):(st.put b x).put b y=st.put b y:=by
 funext c;simp only[ISt.put_apply];split<;>rfl
theorem yWh {st:ISt}{b:Nat}{x:Option IObj}(h:st b=x):st.put b x=st:=by
 funext c;simp only[ISt.put_apply];split
 ·grind
 ·rfl
theorem xKd (X:WS)(g:Nat)(o:Obj)(so:Option IObj):(X.obj g o so).st=X.st.put g so:=rfl
theorem FrOk.puts {C:Cx}{X:WS}{n0:Nat}:∀ {ps:List Nat} {rs:List Value} {aL:List IV} {fr:Fr} {ts:Array Value},FrOk C X n0 fr ts->(∀p∈ps,p<ts.size)->C.vl X rs aL->ps.length=aL.length →
  FrOk C X n0 (yY4 fr (ps.zip aL)) ((ps.zip rs).foldl (λt p=>t.setIfInBounds p.1 p.2) ts)
 | [],rs,aL,fr,ts,h,_,_,_=>h
 | p::ps,[],aL,fr,ts,h,_,hv,hl=>by
  have:=hv.1;grind
 | p::ps,r::rs,[],fr,ts,h,_,hv,hl=>by cases hl
 | p::ps,r::rs,a::aL,fr,ts,h,hp,hv,hl=>by
  have hv0:C.v X r a:=hv.2 0 r a rfl rfl;have hv1:C.vl X rs aL:=⟨by simpa using hv.1,λi x c hx hc=>hv.2 (i+1) x c (by simpa using hx) (by simpa using hc)⟩
  have:=FrOk.puts (ps:=ps) (h.put (hp p (by simp)) hv0) (λq hq=>by rw[Array.size_setIfInBounds];exact hp q (.tail _ hq)) hv1 (by simpa using hl);simpa only[List.zip_cons_cons,List.foldl_cons,yY4] using this
theorem zU7:∀(l:List (Nat×Value))(ts:Array Value),(l.foldl (λt p=>t.setIfInBounds p.1 p.2) ts).size=ts.size
 | [],ts=>rfl
 | p::l,ts=>by rw[List.foldl_cons,zU7 l];simp
def wY0:Exit->Option Code
 | .ret=>some .ret
 | .exit id=>some (.exit id)
 | .goto t=>some (.goto t)
 | _=>none
section
variable {C:Cx}{X Y Z:WS}{l:Nat}{r r':Loop}
theorem yY8 (c:Array Value)(T:TypeId)(f:Nat×Nat):Obj.loop r≠.cells c T f:=by intro h;cases h
theorem Ext.both (h:Ext X Y)(hx:X.w.heap[l]?=some (.loop r))(hs:X.st l=none):Ext (X.obj l (.loop r') none) (Y.obj l (.loop r') none):=by
 have hlt:=(Array.getElem?_eq_some_iff.1 hx).1;obtain⟨hk,hL⟩:=h.keep l hlt hs;have hy:Y.w.heap[l]?=some (.loop r):=hk.trans hx;refine⟨h.os,h.tape,h.output,?_,h.lmono,λb i hi=>?_,λb hb hb2=>?_,λb hb hb2=>?_,λb p hp=>?_,h.d⟩
 ·simp only[WS.obj,Array.size_setIfInBounds];exact h.size
 ·rw[yUd hy yY8 yY8,yUd hx yY8 yY8];exact h.cells b i hi
 ·simp only[WS.obj,Array.size_setIfInBounds] at hb;by_cases hbl:b=l
  ·subst hbl;exact⟨(yVg hy).trans (yVg hx).symm,hL⟩
  ·have:X.st b=none:=by simpa only[WS.obj,if_neg hbl] using hb2
   rw[yXf hy hbl,yXf hx hbl];exact h.keep b hb this
 ·simp only[WS.obj,Array.size_setIfInBounds] at hb;by_cases hbl:b=l
  ·subst hbl;simp[WS.obj]
  ·have:X.st b=none:=by simpa only[WS.obj,if_neg hbl] using hb2
   simp only[WS.obj,if_neg hbl];exact h.dom b hb this
 ·refine yYk hy yY8 b p (h.shape b p ?_);by_cases hbl:b=l
  ·subst hbl;have:=yVg (so:=none) (o':=.loop r') hx;simp[shq,this] at hp
  ·rw[yWe (yXf hx hbl)] at hp;exact hp
theorem Ext.star {io:IObj}(hx:X.w.heap[l]?=some (.loop r))(hs:X.st l=some io)(hL:X.L l=0)(h:Ext ({ X with st:=X.st.put l none }.obj l (.loop r') none) Y):Ext X Y:=by
 have hx':({ X with st:=X.st.put l none }:WS).w.heap[l]?=some (.loop r):=hx;refine⟨h.os,h.tape,h.output,?_,h.lmono,λb i hi=>?_,λb hb hb2=>?_,λb hb hb2=>?_,λb p hp=>?_,h.d⟩
 ·have:=h.size;simpa only[WS.obj,Array.size_setIfInBounds] using this
 ·rw[h.cells b i hi];exact yUd hx' yY8 yY8 b i
 ·have hbl:b≠l:=by rintro rfl;rw[hs] at hb2;cases hb2
  have h1:=h.keep b (by simpa only[WS.obj,Array.size_setIfInBounds] using hb) (by simp only[WS.obj,if_neg hbl,ISt.put_apply];exact hb2);rw[yXf hx' hbl] at h1;exact h1
 ·have hbl:b≠l:=by rintro rfl;rw[hs] at hb2;cases hb2
  exact h.dom b (by simpa only[WS.obj,Array.size_setIfInBounds] using hb) (by simp only[WS.obj,if_neg hbl,ISt.put_apply];exact hb2)
 ·exact h.shape b p (yYk hx' yY8 b p hp)
theorem Inv.both {N:Nat}{fr:Fr}{a:Act}(h:Inv C X N Y fr [] a)(hx:X.w.heap[l]?=some (.loop r))(hs:X.st l=none):Inv C (X.obj l (.loop r') none) N (Y.obj l (.loop r') none) fr [] a:=by
 have hlt:=(Array.getElem?_eq_some_iff.1 hx).1;have hy:Y.w.heap[l]?=some (.loop r):=(h.ext.keep l hlt hs).1.trans hx;have hsl:=h.ext.dom l hlt hs;have hso:∀i,none=some i->ObjOk C (Y.obj l (.loop r') none) l i:=λi hi=>by cases hi
 refine⟨h.good.obj hy yY8 yY8 hso,h.ext.both hx hs,⟨λt=>?_,h.fr.inj⟩,h.size,?_⟩
 ·have h0:(X.obj l (.loop r') none).w.heap.size=X.w.heap.size:=by simp[WS.obj]
  rw[h0];refine (h.fr.slot t).mono (λ_ _=>zY0 hy yY8 yY8) ?_;intro b cs hb hr h1 h2 h3;have hbl:b≠l:=by
   rintro rfl;have hsl:=h.fr.slot t;rw[hb] at hsl;obtain⟨b',c,T,hr',hh',_⟩:=hsl;grind
  exact⟨yXf hy hbl,rfl,by simp only[WS.obj,if_neg hbl];exact h1⟩
 ·have:=h.ds;generalize a.defers=das at this ⊢;cases this;exact .nil
end
abbrev recI (fr:Fr):Nat->IV:=λt=>zGe (fr t)
theorem xZ0 {c:Cf}{B:Nat}{X0 X:WS}{N:Nat}{n:Nat}{g:Operand}{ps:Array Tmp}{asg body:Code}{Q:Kc}{fr:Fr}{ds:List Dfd}{a:Act}(hps:∀p∈ps.toList,p<N)
  (iha:∀(B:Nat) (X0 X:WS) (l:Nat) (Q:Kc) (fr:Fr) (ds:List Dfd) (a:Act),Inv (c.cx B) X0 N X fr ds a->vcC { c with rd:=true } asg Q fr X.st ds->asg.wpIn (yZ3 (some l)) 0 c.P (PQ (c.cx B) X0 N Q) a X.w)
  (ihb:∀(B:Nat) (X0 X:WS) (l:Nat) (Q:Kc) (fr:Fr) (ds:List Dfd) (a:Act),Inv (c.cx B) X0 N X fr ds a->vcC { c with rd:=true } body Q fr X.st ds->body.wpIn (yZ3 (some l)) 0 c.P (PQ (c.cx B) X0 N Q) a X.w)
  (hI:Inv (c.cx B) X0 N X fr ds a) {v:IV} (hev:evV c.gl fr g=some v) {f:Fn} {first caps:List IV} (hv:v=.fn f first caps)
  (h:wX3 c.P c.gl f first caps ps.size (λaL st' R=>vcC { c with rd:=true } asg (zV6 (vcC { c with rd:=true } body) R) (yY4 (xQu fr) (ps.toList.zip aL)) st' []) (λe st' r=>Q e fr st' (.coll r::ds)) X.st .mk .mk) :
  (Code.rangeFunc g ps asg body).wpIn (yZ3 none) n c.P (PQ (c.cx B) X0 N Q) a X.w:=by
 obtain⟨gf,rfl,he,σ,lk,k0,fin,I,S,up,hup,hxs,h0,hround,hiter,hQn,hQs⟩:=h;subst hv;have hvg:=(xWx (C:=c.cx B) (X:=X) hI.good hI.fr hev).1;obtain⟨fs,cs,eg,hfs,hcs⟩:=V.fn_inv hvg;refine wpIn_rangeFunc ?_;intro fn _;obtain⟨rec,hrec⟩:∃rec:Loop,rec={ state:=.ready,pending:=none,fn:=fn,tmps:=a.tmps,params:=ps,assign:=asg,body:=body,defers:=X.w.heap.size }:=⟨_,rfl⟩
 have hst0:X.st X.w.heap.size=none:=by
  cases hs:X.st X.w.heap.size with
  | none=>rfl
  | some o=>have:=hI.good.lt hs;omega
 have hst1:X.st (X.w.heap.size+1)=none:=by
  cases hs:X.st (X.w.heap.size+1) with
  | none=>rfl
  | some o=>have:=hI.good.lt hs;omega
 -- the two new blocks
 obtain⟨X1,hX1⟩:∃X1,X1=X.new (.deferred (some [])) 0 none:=⟨_,rfl⟩
 have hI1:Inv (c.cx B) X0 N X1 fr ds a:=by rw[hX1];exact hI.new _ _ _ (λi hi=>by cases hi)
 have hsz1:X1.w.heap.size=X.w.heap.size+1:=by rw[hX1];simp[WS.new]
 obtain⟨l,hl⟩:∃l,l=X1.w.heap.size:=⟨_,rfl⟩
 have hl':l=X.w.heap.size+1:=hl.trans hsz1;have hx1st:X1.st=X.st:=by
  rw[hX1];funext b;simp only[WS.new];split
  ·grind
  ·rfl
 obtain⟨X2,hX2⟩:∃X2,X2=X1.new (.loop rec) 0 (some (.loop rec (recI fr))):=⟨_,rfl⟩
 have hxs2:∀t,(c.cx B).v X1 (rec.tmps.getD t undef) (recI fr t):=λt=>by
  have hs:=hI1.fr.slot t;rw[hrec];show (c.cx B).v X1 (tm a.tmps t) (zGe (fr t));cases hf:fr t with
  | iv x=>rw[hf] at hs;exact hs
  | box cs=>exact .junk _
 have hI2:Inv (c.cx B) X0 N X2 fr ds a:=by
  rw[hX2];refine hI1.new _ _ _ (λi hi=>?_);cases hi;have hext:=hI1.good.new_ext (.loop rec) 0 (some (.loop rec (recI fr)));exact⟨by simp[WS.new],yQn _ _,λt=>hext.v (hxs2 t)⟩
 have hst2:X2.st=X.st.put l (some (.loop rec (recI fr))):=by
  rw[hX2,<- hx1st];funext b;simp only[WS.new,ISt.put_apply,hl]
 have hw2:X2.w=(X.w.alloc (.deferred (some []))).alloc (.loop rec):=by rw[hX2,hX1];rfl
 have hD2:X2.w.heap[X.w.heap.size]?=some (.deferred (some [])):=by
  rw[hw2,yJw _ _ (by simp)];exact yQn _ _
 have hD2s:X2.st X.w.heap.size=none:=by
  rw[hst2,ISt.put_apply,if_neg (by omega)];exact hst0
 -- the states of the rounds
 obtain⟨I',hI'⟩:∃I':σ->ISt->Prop,I'=λk stu=>stu l=some (.loop rec (recI fr))/\I k (stu.put l none):=⟨_,rfl⟩
 obtain⟨S',hS'⟩:∃S':ISt->Prop,S'=λstu=>∃e cj,wY0 e=some cj/\stu l=some (.loop { rec with state:=.done,pending:=some cj } (recI fr))/\S e (stu.put l none):=⟨_,rfl⟩
 have hyield:wYg c.P c.gl (.fn (.yield l) [] []) lk I' S':=by
  intro k aL le k2 stu hk hd hi B' X3 fv rs hg3 hst3 hf3 hv3;rw[hI'] at hi;obtain⟨hsl,hik⟩:=hi;have hel:le l=none:=hd.off hsl;obtain⟨fs',cs',rfl,hfs',hcs'⟩:=V.fn_inv hf3;obtain rfl:fs'=[]:=List.eq_nil_of_length_eq_zero hfs'.1;obtain rfl:cs'=[]:=List.eq_nil_of_length_eq_zero hcs'.1;have hsl3:X3.st l=some (.loop rec (recI fr)):=by rw[hst3,ISt.add_off hel];exact hsl
  obtain⟨hL3,hh3,htm3⟩:=hg3.ok l _ hsl3;have hlen:rs.length=ps.size:=by rw[hv3.1];exact hxs k aL le k2 hk
  have hrun:(do let d <- Deferred.ofValue (.func (.yield l) ⟨[]⟩ ⟨[]⟩) ⟨rs⟩;invoke d.target d.args:Sem Next).run c.P X3.w =
    .ok (.round l rec.fn ((rec.params.zip ⟨rs⟩).foldl (λtmps (t,a)=>tmps.setIfInBounds t a) rec.tmps) rec.assign rec.body) X3.w:=by
   have:=run_yield (P:=c.P) (args:=⟨rs⟩) hh3 (by rw[hrec];simpa using hlen);simp only[Deferred.ofValue,Sem.run_bind,Sem.run_pure,Result.andThen_ok,invoke];grind
  unfold CallsVal;rw[hrun];refine⟨rfl,?_⟩;obtain⟨tmps',htmps'⟩:∃t,t=(rec.params.zip ⟨rs⟩).foldl (λ(tmps:Array Value) (p:Tmp×Value)=>tmps.setIfInBounds p.1 p.2) rec.tmps:=⟨_,rfl⟩
  have htl:tmps'=(ps.toList.zip rs).foldl (λt p=>t.setIfInBounds p.1 p.2) a.tmps:=by
   rw[htmps',hrec,<- Array.foldl_toList];simp
  have hra:rec.assign=asg:=by rw[hrec]
  have hrb:rec.body=body:=by rw[hrec]
  rw[hra,hrb];change RoundIn Fence.wide 0 c.P l rec.fn ((rec.params.zip ⟨rs⟩).foldl (λ(tmps:Array Value) (p:Tmp×Value)=>tmps.setIfInBounds p.1 p.2) rec.tmps) asg body X3.w _;rw[<- htmps',htl]
  -- the round's frame
  obtain⟨Xc,hXc⟩:∃Xc:WS,Xc={ X3 with st:=X3.st.put l none }:=⟨_,rfl⟩
  have hsub:subSt (X3.st.put l none) X3.st:=λb o hb=>by
   rw[ISt.put_apply] at hb;grind
  obtain⟨hgc,hec⟩:=hg3.sub hsub;rw[<- hXc] at hgc hec;have hXcw:Xc.w=X3.w:=by rw[hXc]
  have hhc:Xc.w.heap[l]?=some (.loop rec):=by rw[hXcw];exact hh3
  have hsc:Xc.st l=none:=by rw[hXc];exact ISt.put_same _ _ _
  have hIc:Inv (c.cx B') Xc N Xc (yY4 (xQu fr) (ps.toList.zip aL)) [] { tmps:=(ps.toList.zip rs).foldl (λt p=>t.setIfInBounds p.1 p.2) a.tmps,defers:=[] }:=by
   refine⟨hgc,Ext.refl _,FrOk.puts ⟨λt=>?_,λt t' cs cs' ht=>by cases ht⟩ (λp hp=>by rw[hI.size];exact hps p hp) ⟨hv3.1,λi r x hr hx=>hec.v (hv3.2 i r x hr hx)⟩ ?_,?_,.nil⟩
   ·have:=htm3 t;rw[hrec] at this;exact hec.v this
   ·grind
   ·simp only[zU7];exact hI.size
  have hrd:=hround k aL le k2 (stu.put l none) hk (hd.put hel) hik;have hstc:Xc.st=(stu.put l none).add le:=by rw[hXc,<- ISt.put_add hel,<- hst3]
  rw[<- hstc] at hrd;have hwa:=iha B' Xc Xc l _ _ _ _ hIc hrd;rw[hXcw] at hwa;refine roundIn_of_wpIn trivial (wpIn_mono hwa ?_);rintro e a6 w6 ⟨X6,fr6,ds6,rfl,hI6,hq⟩;cases e with
  | normal =>
   obtain⟨hds6,hq⟩:=hq;subst hds6;have hlt:l<Xc.w.heap.size:=(Array.getElem?_eq_some_iff.1 hhc).1;have hh6:X6.w.heap[l]?=some (.loop rec):=(hI6.ext.keep l hlt hsc).1.trans hhc;have hs6:X6.st l=none:=hI6.ext.dom l hlt hsc;refine⟨(X6.obj l (.loop { rec with state:=.busy }) none).w,run_beginRound hh6 (by rw[hrec]),?_⟩;have hI7:=hI6.both (r':={ rec with state:=.busy }) hhc hsc;have hst7:(X6.obj l (.loop { rec with state:=.busy }) none).st=X6.st:=by rw[xKd];exact yWh hs6
   rw[<- hst7] at hq;have hda6:a6.defers=[]:=by
    have:=hI6.ds;generalize a6.defers=das at this;cases this;rfl
   have hwb:=ihb B' _ _ l _ _ _ _ hI7 hq;refine wpIn_mono hwb ?_;rintro e a8 w8 ⟨X8,fr8,ds8,rfl,hI8,hds8,hR⟩;have hhs:(Xc.obj l (.loop { rec with state:=.busy }) none).w.heap[l]?=some (.loop { rec with state:=.busy }):=yVg hhc;have hss:(Xc.obj l (.loop { rec with state:=.busy }) none).st l=none:=by rw[xKd];exact ISt.put_same _ _ _
   have hlts:l<(Xc.obj l (.loop { rec with state:=.busy }) none).w.heap.size:=(Array.getElem?_eq_some_iff.1 hhs).1;have hh8:X8.w.heap[l]?=some (.loop { rec with state:=.busy }):=(hI8.ext.keep l hlts hss).1.trans hhs;have hs8:X8.st l=none:=hI8.ext.dom l hlts hss;have hL8:X8.L l=0:=(hI8.ext.keep l hlts hss).2.trans (by rw[hXc];exact hL3);have he38:Ext X3 X8:=Ext.star hh3 hsl3 hL3 (by rw[<- hXc];exact hI8.ext)
   -- the record is set anew
   have fin9:∀(r9:Loop) (b:Bool),r9.tmps=rec.tmps->((b=true/\∃s1,I' k2 s1/\le.disj s1/\X8.st.put l (some (.loop r9 (recI fr)))=s1.add le)\/(b=false/\S' (X8.st.put l (some (.loop r9 (recI fr)))))) →
     ends (c.cx B') X3 (λr st'=>(r=.raw (.bool true)/\∃s1,I' k2 s1/\le.disj s1/\st'=s1.add le)\/(r=.raw (.bool false)/\S' st')) (.bool b) (X8.w.putObj l (.loop r9)):=by
    intro r9 b ht hor;have he39:Ext X3 (X8.obj l (.loop r9) (some (.loop r9 (recI fr)))):=he38.obj hh8 yY8 yY8 (.inr (by rw[hsl3];simp));refine⟨X8.obj l (.loop r9) (some (.loop r9 (recI fr))),.raw (.bool b),rfl,hI8.good.obj hh8 yY8 yY8 (λi hi=>?_),he39,.raw _ trivial,?_⟩
    ·cases hi;exact⟨hL8,yVg hh8,λt=>by rw[ht];exact he39.v (htm3 t)⟩
    ·rw[xKd];grind
   have hput:∀o,(X8.st.put l o).put l none=X8.st:=λo=>by rw[yQh];exact yWh hs8
   have stop:∀e cj,wY0 e=some cj->S e X8.st->∃v w',(Instr.endRound l (some cj)).run c.P X8.w=.ok v w'/\∃v',Ending.returned v=.returned v' /\
     ends (c.cx B') X3 (λr st'=>(r=.raw (.bool true)/\∃s1,I' k2 s1/\le.disj s1/\st'=s1.add le)\/(r=.raw (.bool false)/\S' st')) v' w':=by
    intro e cj hj hS;refine⟨_,_,run_endRound (some cj) hh8,_,rfl,fin9 { rec with state:=.done,pending:=some cj } false rfl (.inr ⟨rfl,?_⟩)⟩;rw[hS'];exact⟨e,cj,hj,ISt.put_same _ _ _,by rw[hput];exact hS⟩
   cases e with
   | normal =>
    have hrr:({ { rec with state:=.busy } with state:=.ready,pending:=none }:Loop)=rec:=by rw[hrec]
    refine⟨_,_,run_endRound none hh8,_,rfl,?_⟩;obtain⟨s1,hR1,hR2,hR3⟩:=hR;have hs1:s1 l=none:=by rw[hR3,ISt.add_off hel] at hs8;exact hs8
    have:=fin9 rec true rfl (.inl ⟨rfl,s1.put l (some (.loop rec (recI fr))),by rw[hI'];exact⟨ISt.put_same _ _ _,by rw[yQh,yWh hs1];exact hR1⟩,hR2.put hel,by rw[hR3,ISt.put_add hel]⟩);grind
   | ret=>exact stop .ret .ret rfl hR
   | exit id=>exact stop (.exit id) (.exit id) rfl hR
   | goto t=>exact stop (.goto t) (.goto t) rfl hR
   | panic ch=>exact hR.elim
   | outgrown=>exact hR.elim
  | _=>exact hq.elim
 have hcall:=hiter (.fn (.yield l) [] []) I' S' X2.st ⟨_,_,_,rfl,rfl,λg hg=>by cases hg⟩
  (λk stu hk=>by
   rw[hI'] at hk;exact⟨stu.put l none,λb o hb=>by
    rw[ISt.put_apply] at hb;split at hb
    ·cases hb
    ·exact hb,hk.2⟩) (λk stu m kk es es' hk hm hu=>by
   rw[hI'] at hk ⊢;have hml:m≠l:=by
    rintro rfl;rw[hk.1] at hm;cases hm
   refine⟨by simp only[ISt.put_apply,if_neg (Ne.symm hml)];exact hk.1,?_⟩;have h1:(stu.put m (some (.map kk es'))).put l none=(stu.put l none).put m (some (.map kk es')):=by
    funext c;simp only[ISt.put_apply];by_cases hc:c=l
    ·subst hc;rw[if_pos rfl,if_neg (Ne.symm hml),if_pos rfl]
    ·rw[if_neg hc,if_neg hc]
   rw[h1];exact hup k _ m kk es es' hk.2 (by simp only[ISt.put_apply,if_neg hml];exact hm) hu) hyield
  (by rw[hI',hst2];exact⟨ISt.put_same _ _ _,by rw[yQh,yWh (by rw[hl'];exact hst1)];exact h0⟩)
 have hgood2:=hI2.good;have he02:Ext X X2:=by
  rw[hX2,hX1];rw[hX1] at hI1;exact (hI.good.new_ext _ _ _).trans (hI1.good.new_ext _ _ _)
 have hcalls:=hcall B X2 (fs++[.func (.yield l) ⟨[]⟩ ⟨[]⟩]++cs) hgood2 rfl
  ((VL.append (VL.append ⟨hfs.1,λi r x hr hx=>he02.v (hfs.2 i r x hr hx)⟩ (VL.cons (.fn (.yield l) [] [] rfl (λi r x h=>by simp at h) [] [] rfl (λi r x h=>by simp at h)) VL.nil)) ⟨hcs.1,λi r x hr hx=>he02.v (hcs.2 i r x hr hx)⟩))
 have hent:=run_enterLoop_outer (P:=c.P) (w:=X.w) fn a.tmps ps asg body;rw[<- hrec,<- hw2,<- hl'] at hent;have hfn:∃fnn,c.P.funcs[gf]?=some fnn/\fnn.name ≠ "runtime.NumGoroutine" /\ ¬ fnn.body.isNone=true:=by
  unfold entI at he;cases hf:c.P.funcs[gf]? with
  | none=>simp[hf] at he
  | some fnn =>
   simp only[hf,bAt,bne_iff_ne,ne_eq] at he;exact⟨fnn,rfl,he.1,by have:=he.2;cases hq:fnn.body<;>simp_all⟩
 obtain⟨fnn,hf,hnn,hbody⟩:=hfn;refine⟨l,[{ target:=.collected X.w.heap.size,args:=#[] }],X2.w,{ target:=.fn (.func gf) ⟨cs⟩,args:=⟨fs++[.func (.yield l) ⟨[]⟩ ⟨[]⟩]⟩ },X2.w,gf,⟨fs++[.func (.yield l) ⟨[]⟩ ⟨[]⟩]++cs⟩,X2.w,
  hent,?_,λ_ _=>trivial,?_,λh=>by simp[yZ3,Fence.wide] at h,?_⟩
 ·simp only[resolve,eg];simp[Deferred.ofValue,Act.eval]
 ·simp only[invoke,callFunc,Sem.run_bind,run_program,Result.andThen_ok,hf];rw[if_neg (by simpa using hnn),if_neg hbody];simp
 ·refine yUt (hcalls.mono ?_);rintro e w' ⟨v,rfl,X4,x,rfl,hg4,he4,_,hK⟩;have hI4:Inv (c.cx B) X0 N X4 fr ds a:=hI2.ext' he4 hg4;have hD2lt:X.w.heap.size<X2.w.heap.size:=(Array.getElem?_eq_some_iff.1 hD2).1;have hD4:X4.w.heap[X.w.heap.size]?=some (.deferred (some [])):=(he4.keep _ hD2lt hD2s).1.trans hD2;have hD4s:=he4.dom _ hD2lt hD2s
  -- behind the call
  have fin4:∀(r4:Loop),X4.st l=some (.loop r4 (recI fr))->X4.w.heap[l]?=some (.loop r4) /\
    Inv (c.cx B) X0 N (X4.obj l (.loop { r4 with state:=.exhausted }) none) fr (.coll X.w.heap.size::ds) { a with defers:={ target:=.collected X.w.heap.size,args:=#[] }::a.defers }:=by
   intro r4 hs4;obtain⟨_,hh4,_⟩:=hg4.ok l _ hs4;have h5:=hI4.obj (o':=.loop { r4 with state:=.exhausted }) (so:=none) hh4 yY8 yY8 (by rw[hs4];simp) (λi hi=>by cases hi);have hne:X.w.heap.size≠l:=by omega
   refine⟨hh4,h5.good,h5.ext,h5.fr,h5.size,.cons ⟨rfl,(yXf hh4 hne).trans hD4,?_,hI.ext.size⟩ h5.ds (λr hr=>by cases hr;exact λhm=>nLi _ (hI.ds.lt hm))⟩;rw[xKd,ISt.put_apply,if_neg hne];exact hD4s
  rcases hK with hK|hK
  ·obtain⟨kf,hkf,hK⟩:=hK;rw[hI'] at hK;obtain⟨hs4,hI4'⟩:=hK;obtain⟨hh4,h5⟩:=fin4 rec hs4;refine⟨none,_,(run_endLoop hh4 (by rw[hrec];simp)).trans (congrArg (λp=>Result.ok p _) (show rec.pending=none by rw[hrec])),?_⟩;exact⟨_,fr,_,rfl,h5,hQn kf _ _ hkf hI4'⟩
  ·rw[hS'] at hK;obtain⟨e,cj,hj,hs4,hS⟩:=hK;obtain⟨hh4,h5⟩:=fin4 _ hs4;refine⟨some cj,_,run_endLoop hh4 (by simp),?_⟩;have hq:PQ (c.cx B) X0 N Q e { a with defers:={ target:=.collected X.w.heap.size,args:=#[] }::a.defers } (X4.w.putObj l (.loop { { rec with state:=.done,pending:=some cj } with state:=.exhausted })):=⟨_,fr,_,rfl,h5,hQs e _ _ hS⟩
   cases e with
   | ret=>cases hj;exact wpIn_ret hq
   | exit id=>cases hj;exact wpIn_exit hq
   | goto t=>cases hj;exact wpIn_goto hq
   | _=>cases hj
theorem xG3 {N:Nat}:∀(code:Code) (c:Cf) (B:Nat) (X0:WS) (ro:Option Nat) (n:Nat),(c.rd=false->ro=none)->∀(Q:Kc) (X:WS) (fr:Fr) (ds:List Dfd) (a:Act),codeOk c N code=true →
  Inv (c.cx B) X0 N X fr ds a->vcC c code Q fr X.st ds->code.wpIn (yZ3 ro) n c.P (PQ (c.cx B) X0 N Q) a X.w:=by
 intro code
 induction code with
 | skip=>intro c B X0 ro n hro Q X fr ds a _ hI h;exact wpIn_skip ⟨X,fr,ds,rfl,hI,h⟩
 | region id ops draw =>
  intro c B X0 ro n hro Q X fr ds a hd hI h;simp only[codeOk,bAt,Bool.or_eq_true,Bool.not_eq_true'] at hd;have hN:∀o∈ops.toList,∀d,o.dst=some d->d<N:=λo ho d hod=>by
   grind
  cases draw with
  | false=>exact zGj (c:={ c with dr:=false }) hro hN hI h
  | true =>
   have h2:=hd.2.resolve_left (by simp);exact xVy hro hN h2.1 (by rw[Bool.or_eq_true];exact h2.2) hI h
 | seq x y ihx ihy =>
  intro c B X0 ro n hro Q X fr ds a hd hI h;simp only[codeOk,bAt] at hd;refine wpIn_seq (wpIn_mono (ihx c B X0 ro n hro _ X fr ds a hd.1 hI h) ?_);rintro e a' w' ⟨X',fr',ds',rfl,hI',hq⟩;cases e with
  | normal=>exact ihy c B X0 ro n hro Q X' fr' ds' a' hd.2 hI' hq
  | _=>exact⟨X',fr',ds',rfl,hI',hq⟩
 | cond x p q ihp ihq =>
  intro c B X0 ro n hro Q X fr ds a hd hI h;simp only[codeOk,bAt] at hd;obtain⟨v,hv,h1⟩:=yQ4.1 h;obtain⟨t,rfl,h2⟩:=zW0 h1;have he:=V.raw_inv (xWx (C:=c.cx B) hI.good hI.fr hv).1;exact wpIn_cond_split he (λht=>ihp c B X0 ro n hro Q X fr ds a hd.1 hI (h2.1 ht)) (λht=>ihq c B X0 ro n hro Q X fr ds a hd.2 hI (h2.2 ht))
 | block id p ih =>
  intro c B X0 ro n hro Q X fr ds a hd hI h;refine wpIn_block (wpIn_mono (ih c B X0 ro n hro _ X fr ds a hd hI h) ?_);rintro e a' w' ⟨X',fr',ds',rfl,hI',hq⟩;cases e with
  | exit id' =>
   simp only[zK4] at hq;simp only[Exit.inBlock];split at hq
   ·rename_i hid;rw[if_pos hid];exact⟨X',fr',ds',rfl,hI',hq⟩
   ·rename_i hid;rw[if_neg hid];exact⟨X',fr',ds',rfl,hI',hq⟩
  | _=>exact⟨X',fr',ds',rfl,hI',hq⟩
 | loop p ih =>
  intro c B X0 ro n hro Q X fr ds a hd hI h;obtain⟨J,⟨m0,h0⟩,hstep⟩:=h;refine zW4 (λm a w=>∃X fr ds,X.w=w/\Inv (c.cx B) X0 N X fr ds a/\J m fr X.st ds) ⟨m0,X,fr,ds,rfl,hI,h0⟩ ?_;rintro m a' w' ⟨X',fr',ds',rfl,hI',hi⟩;refine wpIn_mono (ih c B X0 ro n hro _ X' fr' ds' a' hd hI' (hstep m fr' X'.st ds' hi)) ?_;rintro e a2 w2 ⟨X2,fr2,ds2,rfl,hI2,hq⟩;cases e with
  | normal =>
   obtain⟨m',hlt,hj⟩:=hq;exact⟨m',hlt,X2,fr2,ds2,rfl,hI2,hj⟩
  | _=>exact⟨X2,fr2,ds2,rfl,hI2,hq⟩
 | rangeFunc g ps asg p iha ihb =>
  intro c B X0 ro n hro Q X fr ds a hd hI h;simp only[codeOk,bAt,List.all_eq_true,dTe] at hd;change (if c.rd=true then False else _) at h;obtain⟨hrd,h1⟩:=yK9 h;have hr0:=hro (by simpa using hrd);subst hr0;obtain⟨v,hv,h2⟩:=yQ4.1 h1;obtain⟨f,first,caps,rfl,h3⟩:=xX7 h2;exact xZ0 hd.1.1 (λB X0 X l Q fr ds a hI h=>iha { c with rd:=true } B X0 (some l) 0 (λh=>by cases h) Q X fr ds a (by rw[yJ5];exact hd.1.2) hI h)
   (λB X0 X l Q fr ds a hI h=>ihb { c with rd:=true } B X0 (some l) 0 (λh=>by cases h) Q X fr ds a (by rw[yJ5];exact hd.2) hI h) hI hv rfl h3
 | exit id=>intro c B X0 ro n hro Q X fr ds a _ hI h;exact wpIn_exit ⟨X,fr,ds,rfl,hI,h⟩
 | scope p ih =>
  intro c B X0 ro n hro Q X fr ds a hd hI h;change (if c.rd=true then False else _) at h;obtain⟨hrd,h1⟩:=yK9 h;have hr0:=hro (by simpa using hrd);subst hr0;have:=ih c B X0 none n hro (wW2 Q) X fr ds a hd hI h1;refine wpIn_wide.2 (wp_scope_straight (wpIn_wide.1 (wpIn_mono this ?_)));rintro e a' w' ⟨X',fr',ds',rfl,hI',hq⟩;cases e with
  | goto l=>exact hq.elim
  | _=>exact⟨X',fr',ds',rfl,hI',hq⟩
 | label l=>intro c B X0 ro n hro Q X fr ds a _ hI h;exact wpIn_label ⟨X,fr,ds,rfl,hI,h⟩
 | goto l=>intro c B X0 ro n hro Q X fr ds a _ hI h;exact wpIn_goto ⟨X,fr,ds,rfl,hI,h⟩
 | ret=>intro c B X0 ro n hro Q X fr ds a _ hI h;exact wpIn_ret ⟨X,fr,ds,rfl,hI,h⟩
 | refuse why=>intro c B X0 ro n hro Q X fr ds a _ hI h;exact h.elim
