/- The layer of ideal values, part Pa: what -/
import Derived.Test.YtabhgbojkjcfjaaGreatDoorJG
import Derived.Scope
set_option linter.all false
namespace Go.Iv
open Go
def subSt (st' st:ISt):Prop:=∀b o,st' b=some o->st b=some o
theorem subSt.refl (st:ISt):subSt st st:=λ_ _ h=>h
theorem subSt.trans {a b c:ISt}(h:subSt a b)(k:subSt b c):subSt a c:=λx o A=>k x o (h x o A)
theorem Good.sub {C:Cx}{X:WS}(h:Good C X){st:ISt}(D:subSt st X.st):Good C { X with st:=st }/\Ext X { X with st:=st } :=
 ⟨⟨λb o A=>(h.ok b o (D b o A)).mono rfl rfl (λ_ _ F=>F),h.gl,h.B,h.Lnew,h.gsh,h.dr⟩,
  ⟨rfl,rfl,rfl,Nat.le_refl _,λ_=>Nat.le_refl _,λ_ _ _=>rfl,λ_ _ _=>⟨rfl,rfl⟩,(λb _ A=>by
   cases E:st b with
   | none=>exact E
   | some o=>have:=D b o E;rw[A] at this;cases this),λ_ _ hp=>hp,rfl⟩⟩
def join (stu own:ISt):ISt:=λb=>match own b with|some o=>some o|none=>stu b
def disj (stu own:ISt):Prop:=∀b,own b≠none->stu b=none
theorem yZ3 {stu own:ISt}{b:Nat}{o:IObj}(h:own b=some o):join stu own b=some o:=by simp[join,h]
theorem yZ9 {stu own:ISt}{b:Nat}(h:own b=none):join stu own b=stu b:=by simp[join,h]
theorem yKc {stu own:ISt}(h:disj stu own):subSt stu (join stu own):=λb o D=>by
 cases A:own b with
 | none=>rw[yZ9 A];exact D
 | some o'=>have:=h b (by rw[A];simp);rw[D] at this;cases this
theorem zGt {C:Cx}{X:WS}{stu own:ISt}{K:IV->ISt->Prop}{v:Value}{w':World}(hg:Good C X)(E:X.st=join stu own)(hd:disj stu own)(h:ends C { X with st:=stu } K v w') :
  ends C X (λx st'=>∃J,disj J own/\st'=join J own/\K x J) v w':=by
 obtain⟨X',x,rfl,F,A,W,hK⟩:=h;have aa:∀b o,own b=some o->b<X.w.heap.size:=λb o D=>hg.lt (show X.st b=some o by rw[E];exact yZ3 D);have O:∀b o,own b=some o->X'.w.heap[b]?=X.w.heap[b]?/\X'.L b=X.L b:=λb o D=>A.keep b (aa b o D) (hd b (by rw[D];simp));have ab:∀b o,own b=some o->X'.st b=none:=λb o D=>A.dom b (aa b o D) (hd b (by rw[D];simp));refine⟨{ X' with st:=join X'.st own },x,rfl,⟨λb o D=>?_,F.gl,F.B,F.Lnew,F.gsh,F.dr⟩,⟨A.os,A.tape,A.output,A.size,A.lmono,A.cells,λb D U=>?_,λb D U=>?_,A.shape,A.d⟩,W,X'.st,?_,rfl,hK⟩
 ·cases G:own b with
  | none =>
   have ac:X'.st b=some o:=by rw[<- yZ9 (stu:=X'.st) G];exact D
   exact (F.ok b o ac).mono rfl rfl (λ_ _ W=>W)
  | some o' =>
   have:o'=o:=by have:=(yZ3 (stu:=X'.st) G).symm.trans D;exact Option.some.inj this
   subst this;have h1:=hg.ok b o' (by rw[E];exact yZ3 G);have h2:ObjOk C X' b o':=h1.mono (O b o' G).1 (O b o' G).2 (λ_ _ W=>A.vl W);exact h2.mono rfl rfl (λ_ _ W=>W)
 ·have h1:own b=none:=by
   cases G:own b with
   | none=>rfl
   | some o=>rw[E,yZ3 G] at U;cases U
  rw[E,yZ9 h1] at U;exact A.keep b D U
 ·have h1:own b=none:=by
   cases G:own b with
   | none=>rfl
   | some o=>rw[E,yZ3 G] at U;cases U
  rw[E,yZ9 h1] at U;exact (yZ9 h1).trans (A.dom b D U)
 ·intro b D;cases G:own b with
  | none=>exact absurd G D
  | some o=>exact ab b o G
section
variable {P:Program}{gl:Nat->Option IV}
theorem ICall.frame {f:FuncId}{args:List IV}{stu own:ISt}{K:IV->ISt->Prop}(h:ICall P gl f args stu K)(hd:disj stu own) :
  ICall P gl f args (join stu own) (λx st'=>∃A,disj A own/\st'=join A own/\K x A):=by
 intro B X rs J D G;obtain⟨E,F⟩:=J.sub (st:=stu) (by rw[D];exact yKc hd);refine (h B { X with st:=stu } rs E rfl ⟨G.1,λi r c O hc=>F.v (G.2 i r c O hc)⟩).mono ?_;rintro e w' ⟨v,rfl,U⟩;exact⟨v,rfl,zGt J D hd U⟩
theorem ICallV.frame {f:IV}{args:List IV}{stu own:ISt}{K:IV->ISt->Prop}(h:ICallV P gl f args stu K)(hd:disj stu own) :
  ICallV P gl f args (join stu own) (λx st'=>∃A,disj A own/\st'=join A own/\K x A):=by
 intro B X fv rs J D U G;obtain⟨F,E⟩:=J.sub (st:=stu) (by rw[D];exact yKc hd);exact (h B { X with st:=stu } fv rs F rfl (E.v U) ⟨G.1,λi r c O hc=>E.v (G.2 i r c O hc)⟩).mono λv w' W=>zGt J D hd W
theorem ICallV.of_ICall {g:FuncId}{first A args:List IV}{st:ISt}{K:IV->ISt->Prop}(U:entI P g=true)(h:ICall P gl g (first++args++A) st K):ICallV P gl (.fn (.func g) first A) args st K:=by
 intro B X fv rs J D O G;obtain⟨W,cs,rfl,E,F⟩:=V.fn_inv O;exact zZv U (h B X (W++rs++cs) J D ((E.append G).append F))
theorem VL.split {B:Nat}{L:Nat->Nat}{w:World}{rs:List Value}{A F:List IV}(h:VL B L w rs (A++F)):∃E D,rs=E++D/\VL B L w E A/\VL B L w D F:=by
 refine⟨rs.take A.length,rs.drop A.length,(List.take_append_drop _ _).symm,?_,?_⟩
 ·have:=h.take A.length
  rwa [List.take_left] at this
 ·have:=h.drop A.length
  rwa [List.drop_left] at this
theorem ICall.of_ICallV {g:FuncId}{first A args:List IV}{st:ISt}{K:IV->ISt->Prop}(D:entI P g=true)(h:ICallV P gl (.fn (.func g) first A) args st K):ICall P gl g (first++args++A) st K:=by
 intro B X rs hg J hv;obtain⟨aa,E,rfl,U,W⟩:=VL.split hv;obtain⟨F,G,rfl,h1,h2⟩:=VL.split U;have hc:=h B X (.func (.func g) ⟨F⟩ ⟨E⟩) G hg J (.fn (.func g) F first h1.1 h1.2 E A W.1 W.2) h2;unfold entI at D;cases O:P.funcs[g]? with
 | none=>simp[O] at D
 | some fn =>
  simp only[O,bAt,bne_iff_ne,ne_eq] at D;have hb:¬ fn.body.isNone=true:=by
   have:=D.2;cases hq:fn.body<;>simp_all
  have hr:(do let d <- Deferred.ofValue (.func (.func g) ⟨F⟩ ⟨E⟩) ⟨G⟩;invoke d.target d.args:Sem Next).run P X.w=.ok (.enter g ⟨F++G++E⟩) X.w:=by
   simp only[Deferred.ofValue,Sem.run_bind,Sem.run_pure,Result.andThen_ok,invoke,callFunc,run_program,O];rw[if_neg (by simpa using D.1),if_neg hb];simp
  unfold CallsVal at hc;rw[hr] at hc;exact hc.2
theorem yJz {f:Fn}{first A args:List IV}{st:ISt}{K:IV->ISt->Prop}(D:∀g,f=.func g->entI P g=true)(h:ICallV P gl (.fn f first A) args st K):callV P gl f first A args st K:=by
 unfold callV;split
 ·rw[if_pos (D _ rfl)];exact ICall.of_ICallV (D _ rfl) h
 ·exact h
def IsFn (P:Program)(y:IV):Prop:=∃f first A,y=.fn f first A/\fnOk f=true/\∀g,f=.func g->entI P g=true
def wVg (P:Program)(gl:Nat->Option IV)(y:IV)(A:Nat->List IV->Prop)(I:Nat->ISt->Prop)(S:ISt->Prop):Prop :=
 ∀k a stu,A k a->I k stu->ICallV P gl y a stu λr st'=>(r=.raw (.bool true)/\I (k+1) st')\/(r=.raw (.bool false)/\S st')
def IterC (P:Program)(gl:Nat->Option IV)(g:FuncId)(first D:List IV)(E:Nat->List IV->Prop)(len:Nat)(I:Nat->ISt->Prop):Prop :=
 ∀(y:IV) (I':Nat->ISt->Prop) (S':ISt->Prop) (st:ISt),IsFn P y->(∀k stu,I' k stu->∃A,subSt A stu/\I k A)->wVg P gl y E I' S'->I' 0 st →
  ICall P gl g (first++[y]++D) st λ_ st'=>I' len st'\/S' st'
abbrev ISt.add (s e:ISt):ISt:=Go.Iv.join s e
abbrev ISt.disj (e s:ISt):Prop:=Go.Iv.disj s e
theorem ISt.add_off {s e:ISt}{b:Nat}(h:e b=none):s.add e b=s b:=yZ9 h
theorem ISt.put_add {s e:ISt}{b:Nat}{o:Option IObj}(h:e b=none):(s.add e).put b o=(s.put b o).add e:=by
 funext c;by_cases hc:c=b
 ·subst hc;simp only[ISt.put_apply,join,h,if_true]
 ·simp only[ISt.put_apply,join,if_neg hc]
theorem ISt.disj.put {e s:ISt}(h:e.disj s){b:Nat}{o:Option IObj}(A:e b=none):e.disj (s.put b o):=λc hc=>by
 rw[ISt.put_apply,if_neg (by rintro rfl;exact hc A)];exact h c hc
theorem ISt.disj.off {e s:ISt}(h:e.disj s){b:Nat}{o:IObj}(A:s b=some o):e b=none:=by
 cases D:e b with
 | none=>rfl
 | some o'=>have:=h b (by rw[D];simp);rw[A] at this;cases this
def wUx (P:Program)(gl:Nat->Option IV)(y:IV)(A:Nat->List IV->ISt->Prop)(I:Nat->ISt->Prop)(S:ISt->Prop):Prop :=
 ∀k a e stu,A k a e->e.disj stu->I k stu->ICallV P gl y a (stu.add e) λr st'=>(r=.raw (.bool true)/\∃s1,I (k+1) s1/\e.disj s1/\st'=s1.add e)\/(r=.raw (.bool false)/\S st')
def wGh (P:Program)(gl:Nat->Option IV)(g:FuncId)(first D:List IV)(E:Nat->List IV->ISt->Prop)(len:Nat)(I:Nat->ISt->Prop):Prop :=
 ∀(y:IV) (I':Nat->ISt->Prop) (S':ISt->Prop) (st:ISt),IsFn P y->(∀k stu,I' k stu->∃A,subSt A stu/\I k A)->wUx P gl y E I' S'->I' 0 st →
  ICall P gl g (first++[y]++D) st λ_ st'=>I' len st'\/S' st'
def wU8 (A:Nat->List IV->Prop):Nat->List IV->ISt->Prop:=λk a e=>A k a/\e=λ_=>none
theorem IterC.lent {P:Program}{gl:Nat->Option IV}{g:FuncId}{first A:List IV}{D:Nat->List IV->Prop}{len:Nat}{I:Nat->ISt->Prop}(h:IterC P gl g first A D len I):wGh P gl g first A (wU8 D) len I :=
 λy I' S' st O W E h0=>h y I' S' st O W (λk a stu F J=>(E k a (λ_=>none) stu ⟨F,rfl⟩ (λb U=>absurd rfl U) J).mono λr st' G=>G.imp (λ⟨h1,s1,h2,h3,h4⟩=>⟨h1,h4▸h2⟩) id) h0
def ICallD (P:Program)(gl:Nat->Option IV)(f:FuncId)(args:List IV)(st:ISt)(K:IV->ISt->Prop):Prop :=
 ∀(B:Nat) (X:WS) (rs:List Value) (u:FrameMode),Good ⟨P,gl,B⟩ X->X.st=st->Cx.vl ⟨P,gl,B⟩ X rs args →
  CallsDIn Fence.wide 0 P f ⟨rs⟩ u X.w λe A w'=>A=u/\∃v,e=.returned v/\ends ⟨P,gl,B⟩ X K v w'
theorem ICallD.mono {f:FuncId}{args:List IV}{st:ISt}{K K':IV->ISt->Prop}(h:ICallD P gl f args st K)(G:∀x st,K x st->K' x st):ICallD P gl f args st K' :=
 λB X rs u J A F=>(h B X rs u J A F).mono λe O w' E=>⟨E.1,by
  obtain⟨v,D,h⟩:=E.2;exact⟨v,D,zW3 h G⟩⟩
end
end Go.Iv
namespace Go.Iv
open Go
def zYm:SV->IV
 | .iv x=>x
 | .box _=>.junk
@[go_sem] theorem vKa (x:IV):zYm (.iv x)=x:=(rfl)
def xKd (fr:Fr):Fr:=λt=>.iv (zYm (fr t))
@[go_sem ↓] theorem vQa (fr:Fr)(t:Nat):xKd fr t=.iv (zYm (fr t)):=(rfl)
def yG8 (fr:Fr):List (Nat×IV)->Fr
 | []=>fr
 | p::l=>yG8 (fr.put p.1 (.iv p.2)) l
@[go_sem ↓] theorem vJh (fr:Fr):yG8 fr []=fr:=(rfl)
@[go_sem ↓] theorem vX0 (fr:Fr)(t:Nat)(x:IV)(l:List (Nat×IV)):yG8 fr ((t,x)::l)=yG8 (fr.put t (.iv x)) l:=(rfl)
def wXb (R:Exit->ISt->Prop):Kc:=λe _ st ds=>chk (ds=[]) (R e st)
@[go_sem ↓] theorem wU1 (R:Exit->ISt->Prop)(e:Exit)(fr:Fr)(st:ISt)(ds:List Dfd):wXb R e fr st ds=chk (ds=[]) (R e st):=(rfl)
def zYw (A:Kc->Fr->ISt->List Dfd->Prop)(R:Exit->ISt->Prop):Kc
 | .normal,fr,st,ds=>chk (ds=[]) (A (wXb R) fr st [])
 | _,_,_,_=>False
@[go_sem ↓] theorem wWa (A:Kc->Fr->ISt->List Dfd->Prop)(R:Exit->ISt->Prop)(fr:Fr)(st:ISt)(ds:List Dfd):zYw A R .normal fr st ds=chk (ds=[]) (A (wXb R) fr st []):=(rfl)
def wXx (I:ISt->Prop)(S:Exit->ISt->Prop):Exit->ISt->Prop
 | .normal,st=>I st
 | .ret,st=>S .ret st
 | .exit id,st=>S (.exit id) st
 | .goto t,st=>S (.goto t) st
 | _,_=>False
@[go_sem ↓] theorem wU9 (I:ISt->Prop)(S:Exit->ISt->Prop)(st:ISt):wXx I S .normal st=I st:=(rfl)
@[go_sem ↓] theorem vVd (I:ISt->Prop)(S:Exit->ISt->Prop)(st:ISt):wXx I S .ret st=S .ret st:=(rfl)
def wVk (P:Program)(gl:Nat->Option IV)(f:Fn)(first D:List IV)(n:Nat)(A:List IV->ISt->(Exit->ISt->Prop)->Prop)(Q:Exit->ISt->Nat->Prop)(st:ISt)(_:Lock A)(_:Lock Q):Prop :=
 ∃g,f=.func g/\entI P g=true/\∃(E:Nat->List IV->ISt->Prop) (len:Nat) (I:Nat->ISt->Prop) (S:Exit->ISt->Prop),(∀k a e,E k a e->a.length=n)/\I 0 st /\
  (∀k a e s,E k a e->e.disj s->I k s->A a (s.add e) (wXx (λs'=>∃s1,I (k+1) s1/\e.disj s1/\s'=s1.add e) S))/\wGh P gl g first D E len I/\(∀st' r,I len st'->Q .normal st' r)/\(∀e st' r,S e st'->Q e st' r)
def vcC:Cf->Code->Kc->Fr->ISt->List Dfd->Prop
 | _,.skip,Q,fr,st,ds=>Q .normal fr st ds
 | c,.region _ ops false,Q,fr,st,ds=>yK5 { c with dr:=false } ops.toList ops.toList (Q .normal) Ad.none_ fr st ds
 | c,.region id ops true,Q,fr,st,ds=>zYe c ops (xQ2 c.ord id) (Q .normal) fr st ds
 | c,.seq a b,Q,fr,st,ds=>vcC c a (seqK (vcC c b Q) Q) fr st ds
 | c,.cond x a b,Q,fr,st,ds=>yQ8 (evV c.gl fr x) λv=>zJu v λt=>yU6 t (vcC c a Q fr st ds) (vcC c b Q fr st ds) .mk .mk
 | c,.block id a,Q,fr,st,ds=>vcC c a (zWg id Q) fr st ds
 | c,.loop a,Q,fr,st,ds=>LoopV (λfr st ds Q=>vcC c a Q fr st ds) Q fr st ds .mk .mk
 | c,.rangeFunc g ps D b,Q,fr,st,ds=>if c.rd=true then False else yQ8 (evV c.gl fr g) λv=>fnV v λf first A =>
   wVk c.P c.gl f first A ps.size (λE st' R=>vcC { c with rd:=true } D (zYw (vcC { c with rd:=true } b) R) (yG8 (xKd fr) (ps.toList.zip E)) st' []) (λe st' r=>Q e fr st' (.coll r::ds)) st .mk .mk
 | _,.exit id,Q,fr,st,ds=>Q (.exit id) fr st ds
 | c,.scope a,Q,fr,st,ds=>if c.rd=true then False else vcC c a (wX0 Q) fr st ds
 | _,.label _,Q,fr,st,ds=>Q .normal fr st ds
 | _,.goto l,Q,fr,st,ds=>Q (.goto l) fr st ds
 | _,.ret,Q,fr,st,ds=>Q .ret fr st ds
 | _,_,_,_,_,_=>False
theorem zJm {p:Nat->Prop}(h:∃m,p m):∃m,p m/\∀k,p k->m<=k:=by
 obtain⟨m,E⟩:=h
 induction m using Nat.strongRecOn with
 | _ m D =>
  by_cases A:∃k,p k/\k<m
  ·obtain⟨k,h1,h2⟩:=A;exact D k h2 h1
  ·refine⟨m,E,λk hp=>?_⟩;rcases Nat.lt_or_ge k m with h|h
   ·exact absurd ⟨k,hp,h⟩ A
   ·exact h
open Classical in
noncomputable def least (p:Nat->Prop):Nat:=if h:∃m,p m then (zJm h).choose else 0
theorem least_spec {p:Nat->Prop}(h:∃m,p m):p (least p)/\∀k,p k->least p<=k:=by
 unfold least;rw[dif_pos h];exact (zJm h).choose_spec
theorem zU7 {F:Fence}{n:Nat}{P:Program}{c:Code}{Q:Exit->Act->World->Prop}{a:Act}{w:World}(J:Nat->Act->World->Prop)(h0:∃m,J m a w)
  (A:∀m a w,J m a w->c.wpIn F n P (Exit.then (λa' w'=>∃D,D<m/\J D a' w') Q) a w):(Code.loop c).wpIn F n P Q a w:=by
 refine wpIn_loop (λa w=>∃m,J m a w) (λa w=>least λm=>J m a w) h0 (λa w W=>?_);obtain⟨U,_⟩:=least_spec W;refine wpIn_mono (A _ a w U) (λe a' w' O=>?_);cases e with
 | normal =>
  obtain⟨D,E,G⟩:=O;exact⟨⟨D,G⟩,Nat.lt_of_le_of_lt ((least_spec ⟨D,G⟩).2 D G) E⟩
 | _=>exact O
def codeOk (c:Cf)(N:Nat):Code->Bool
 | .region id ops dr=>(ops.toList.all λo=>match o.dst with|some d=>decide (d<N)|none=>true)&&(!dr || (c.P.follows .mixedOrders&&wKl c.esc ops (wXp (xQ2 c.ord id) ops.size)))
 | .seq a b=>codeOk c N a&&codeOk c N b
 | .cond _ a b=>codeOk c N a&&codeOk c N b
 | .block _ a=>codeOk c N a
 | .loop a=>codeOk c N a
 | .scope a=>codeOk c N a
 | .rangeFunc _ ps a b=>ps.toList.all (λd=>decide (d<N))&&codeOk c N a&&codeOk c N b
 | _=>true
theorem yJy {c:Cf}{N:Nat}(r:Bool):∀(A:Code),codeOk { c with rd:=r } N A=codeOk c N A
 | .region _ _ _=>rfl
 | .seq a b=>by rw[codeOk,codeOk,yJy r a,yJy r b]
 | .cond _ a b=>by rw[codeOk,codeOk,yJy r a,yJy r b]
 | .block _ a=>by rw[codeOk,codeOk,yJy r a]
 | .loop a=>by rw[codeOk,codeOk,yJy r a]
 | .scope a=>by rw[codeOk,codeOk,yJy r a]
 | .rangeFunc _ _ a b=>by rw[codeOk,codeOk,yJy r a,yJy r b]
 | .skip=>rfl
 | .exit _=>rfl
 | .label _=>rfl
 | .goto _=>rfl
 | .ret=>rfl
 | .refuse _=>rfl
theorem yQg (st:ISt)(b:Nat)(x y:Option IObj):(st.put b x).put b y=st.put b y:=by
 funext c;simp only[ISt.put_apply];split<;>rfl
theorem yJ8 {st:ISt}{b:Nat}{x:Option IObj}(h:st b=x):st.put b x=st:=by
 funext c;simp only[ISt.put_apply];split
 ·rename_i hc;rw[hc,h]
 ·rfl
theorem xYo (X:WS)(g:Nat)(o:Obj)(so:Option IObj):(X.obj g o so).st=X.st.put g so:=rfl
theorem FrOk.puts {C:Cx}{X:WS}{n0:Nat}:∀ {ps:List Nat} {rs:List Value} {A:List IV} {fr:Fr} {D:Array Value},FrOk C X n0 fr D->(∀p∈ps,p<D.size)->C.vl X rs A->ps.length=A.length →
  FrOk C X n0 (yG8 fr (ps.zip A)) ((ps.zip rs).foldl (λt p=>t.setIfInBounds p.1 p.2) D)
 | [],rs,A,fr,D,h,_,_,_=>h
 | p::ps,[],A,fr,D,h,_,E,F=>by
  have:=E.1;cases A with
  | nil=>cases F
  | cons a A=>cases this
 | p::ps,r::rs,[],fr,D,h,_,E,F=>by cases F
 | p::ps,r::rs,a::A,fr,D,h,hp,E,F=>by
  have J:C.v X r a:=E.2 0 r a rfl rfl;have G:C.vl X rs A:=⟨by simpa using E.1,λi x c O hc=>E.2 (i+1) x c (by simpa using O) (by simpa using hc)⟩
  have:=FrOk.puts (ps:=ps) (h.put (hp p (by simp)) J) (λq U=>by rw[Array.size_setIfInBounds];exact hp q (.tail _ U)) G (by simpa using F);simpa only[List.zip_cons_cons,List.foldl_cons,yG8] using this
theorem zV5:∀(l:List (Nat×Value))(A:Array Value),(l.foldl (λt p=>t.setIfInBounds p.1 p.2) A).size=A.size
 | [],A=>rfl
 | p::l,A=>by rw[List.foldl_cons,zV5 l];simp
def wUh:Exit->Option Code
 | .ret=>some .ret
 | .exit id=>some (.exit id)
 | .goto t=>some (.goto t)
 | _=>none
section
variable {C:Cx}{X Y Z:WS}{l:Nat}{r r':Loop}
theorem yGc (c:Array Value)(T:TypeId)(f:Nat×Nat):Obj.loop r≠.cells c T f:=by intro h;cases h
theorem Ext.both (h:Ext X Y)(D:X.w.heap[l]?=some (.loop r))(O:X.st l=none):Ext (X.obj l (.loop r') none) (Y.obj l (.loop r') none):=by
 have J:=(Array.getElem?_eq_some_iff.1 D).1;obtain⟨U,hL⟩:=h.keep l J O;have G:Y.w.heap[l]?=some (.loop r):=U.trans D;refine⟨h.os,h.tape,h.output,?_,h.lmono,λb i W=>?_,λb F E=>?_,λb F E=>?_,λb p hp=>?_,h.d⟩
 ·simp only[WS.obj,Array.size_setIfInBounds];exact h.size
 ·rw[zZa G yGc yGc,zZa D yGc yGc];exact h.cells b i W
 ·simp only[WS.obj,Array.size_setIfInBounds] at F;by_cases A:b=l
  ·subst A;exact⟨(yWo G).trans (yWo D).symm,hL⟩
  ·have:X.st b=none:=by simpa only[WS.obj,if_neg A] using E
   rw[yXr G A,yXr D A];exact h.keep b F this
 ·simp only[WS.obj,Array.size_setIfInBounds] at F;by_cases A:b=l
  ·subst A;simp[WS.obj]
  ·have:X.st b=none:=by simpa only[WS.obj,if_neg A] using E
   simp only[WS.obj,if_neg A];exact h.dom b F this
 ·refine yGr G yGc b p (h.shape b p ?_);by_cases A:b=l
  ·subst A;have:=yWo (so:=none) (o':=.loop r') D;simp[shq,this] at hp
  ·rw[yJq (yXr D A)] at hp;exact hp
theorem Ext.star {J:IObj}(O:X.w.heap[l]?=some (.loop r))(G:X.st l=some J)(W:X.L l=0)(h:Ext ({ X with st:=X.st.put l none }.obj l (.loop r') none) Y):Ext X Y:=by
 have E:({ X with st:=X.st.put l none }:WS).w.heap[l]?=some (.loop r):=O;refine⟨h.os,h.tape,h.output,?_,h.lmono,λb i U=>?_,λb F A=>?_,λb F A=>?_,λb p hp=>?_,h.d⟩
 ·have:=h.size;simpa only[WS.obj,Array.size_setIfInBounds] using this
 ·rw[h.cells b i U];exact zZa E yGc yGc b i
 ·have D:b≠l:=by rintro rfl;rw[G] at A;cases A
  have h1:=h.keep b (by simpa only[WS.obj,Array.size_setIfInBounds] using F) (by simp only[WS.obj,if_neg D,ISt.put_apply];exact A);rw[yXr E D] at h1;exact h1
 ·have D:b≠l:=by rintro rfl;rw[G] at A;cases A
  exact h.dom b (by simpa only[WS.obj,Array.size_setIfInBounds] using F) (by simp only[WS.obj,if_neg D,ISt.put_apply];exact A)
 ·exact h.shape b p (yGr E yGc b p hp)
theorem Inv.both {N:Nat}{fr:Fr}{a:Act}(h:Inv C X N Y fr [] a)(O:X.w.heap[l]?=some (.loop r))(W:X.st l=none):Inv C (X.obj l (.loop r') none) N (Y.obj l (.loop r') none) fr [] a:=by
 have E:=(Array.getElem?_eq_some_iff.1 O).1;have J:Y.w.heap[l]?=some (.loop r):=(h.ext.keep l E W).1.trans O;have D:=h.ext.dom l E W;have U:∀i,none=some i->ObjOk C (Y.obj l (.loop r') none) l i:=λi hi=>by cases hi
 refine⟨h.good.obj J yGc yGc U,h.ext.both O W,⟨λt=>?_,h.fr.inj⟩,h.size,?_⟩
 ·have h0:(X.obj l (.loop r') none).w.heap.size=X.w.heap.size:=by simp[WS.obj]
  rw[h0];refine (h.fr.slot t).mono (λ_ _=>xQ4 J yGc yGc) ?_;intro b cs hb hr h1 h2 h3;have G:b≠l:=by
   rintro rfl;have D:=h.fr.slot t;rw[hb] at D;obtain⟨b',c,T,A,F,_⟩:=D;rw[hr] at A;injection A with A;injection A with A;injection A with A;subst A;rw[J] at F;cases F
  exact⟨yXr J G,rfl,by simp only[WS.obj,if_neg G];exact h1⟩
 ·have:=h.ds;generalize a.defers=af at this ⊢;cases this;exact .nil
end
abbrev recI (fr:Fr):Nat->IV:=λt=>zYm (fr t)
theorem xKm {c:Cf}{B:Nat}{X0 X:WS}{N:Nat}{n:Nat}{g:Operand}{ps:Array Tmp}{D body:Code}{Q:Kc}{fr:Fr}{ds:List Dfd}{a:Act}(cc:∀p∈ps.toList,p<N)
  (b2:∀(B:Nat) (X0 X:WS) (l:Nat) (Q:Kc) (fr:Fr) (ds:List Dfd) (a:Act),Inv (c.cx B) X0 N X fr ds a->vcC { c with rd:=true } D Q fr X.st ds->D.wpIn (yZo (some l)) 0 c.P (PQ (c.cx B) X0 N Q) a X.w)
  (b1:∀(B:Nat) (X0 X:WS) (l:Nat) (Q:Kc) (fr:Fr) (ds:List Dfd) (a:Act),Inv (c.cx B) X0 N X fr ds a->vcC { c with rd:=true } body Q fr X.st ds->body.wpIn (yZo (some l)) 0 c.P (PQ (c.cx B) X0 N Q) a X.w)
  (hI:Inv (c.cx B) X0 N X fr ds a) {v:IV} (cn:evV c.gl fr g=some v) {f:Fn} {first aO:List IV} (hv:v=.fn f first aO)
  (h:wVk c.P c.gl f first aO ps.size (λaL st' R=>vcC { c with rd:=true } D (zYw (vcC { c with rd:=true } body) R) (yG8 (xKd fr) (ps.toList.zip aL)) st' []) (λe st' r=>Q e fr st' (.coll r::ds)) X.st .mk .mk) :
  (Code.rangeFunc g ps D body).wpIn (yZo none) n c.P (PQ (c.cx B) X0 N Q) a X.w:=by
 obtain⟨gf,rfl,he,lk,len,I,S,b3,h0,aw,aW,cu,ct⟩:=h;subst hv;have b5:=(wQo (C:=c.cx B) (X:=X) hI.good hI.fr cn).1;obtain⟨fs,cs,eg,bG,bM⟩:=V.fn_inv b5;refine wpIn_rangeFunc ?_;intro fn _;obtain⟨rec,A⟩:∃rec:Loop,rec={ state:=.ready,pending:=none,fn:=fn,tmps:=a.tmps,params:=ps,assign:=D,body:=body,defers:=X.w.heap.size }:=⟨_,rfl⟩
 have aG:X.st X.w.heap.size=none:=by
  cases hs:X.st X.w.heap.size with
  | none=>rfl
  | some o=>have:=hI.good.lt hs;omega
 have bp:X.st (X.w.heap.size+1)=none:=by
  cases hs:X.st (X.w.heap.size+1) with
  | none=>rfl
  | some o=>have:=hI.good.lt hs;omega
 -- ab two new bZ
 obtain⟨X1,W⟩:∃X1,X1=X.new (.deferred (some [])) 0 none:=⟨_,rfl⟩
 have ai:Inv (c.cx B) X0 N X1 fr ds a:=by rw[W];exact hI.new _ _ _ (λi hi=>by cases hi)
 have bl:X1.w.heap.size=X.w.heap.size+1:=by rw[W];simp[WS.new]
 obtain⟨l,hl⟩:∃l,l=X1.w.heap.size:=⟨_,rfl⟩
 have bx:l=X.w.heap.size+1:=hl.trans bl;have aQ:X1.st=X.st:=by
  rw[W];funext b;simp only[WS.new];split
  ·rename_i hb;rw[hb,aG]
  ·rfl
 obtain⟨X2,aA⟩:∃X2,X2=X1.new (.loop rec) 0 (some (.loop rec (recI fr))):=⟨_,rfl⟩
 have bh:∀t,(c.cx B).v X1 (rec.tmps.getD t undef) (recI fr t):=λt=>by
  have hs:=ai.fr.slot t;rw[A];show (c.cx B).v X1 (tm a.tmps t) (zYm (fr t));cases hf:fr t with
  | iv x=>rw[hf] at hs;exact hs
  | box cs=>exact .junk _
 have bR:Inv (c.cx B) X0 N X2 fr ds a:=by
  rw[aA];refine ai.new _ _ _ (λi hi=>?_);cases hi;have bH:=ai.good.new_ext (.loop rec) 0 (some (.loop rec (recI fr)));exact⟨by simp[WS.new],yQr _ _,λt=>bH.v (bh t)⟩
 have aF:X2.st=X.st.put l (some (.loop rec (recI fr))):=by
  rw[aA,<- aQ];funext b;simp only[WS.new,ISt.put_apply,hl]
 have bk:X2.w=(X.w.alloc (.deferred (some []))).alloc (.loop rec):=by rw[aA,W];rfl
 have bT:X2.w.heap[X.w.heap.size]?=some (.deferred (some [])):=by
  rw[bk,yKs _ _ (by simp)];exact yQr _ _
 have aN:X2.st X.w.heap.size=none:=by
  rw[aF,ISt.put_apply,if_neg (by omega)];exact aG
 -- ab bV of ab bW
 obtain⟨I',aj⟩:∃I':Nat->ISt->Prop,I'=λk stu=>stu l=some (.loop rec (recI fr))/\I k (stu.put l none):=⟨_,rfl⟩
 obtain⟨S',bN⟩:∃S':ISt->Prop,S'=λstu=>∃e cj,wUh e=some cj/\stu l=some (.loop { rec with state:=.done,pending:=some cj } (recI fr))/\S e (stu.put l none):=⟨_,rfl⟩
 have au:wUx c.P c.gl (.fn (.yield l) [] []) lk I' S':=by
  intro k aL le stu hk hd hi B' X3 fv rs bD aE cm av;rw[aj] at hi;obtain⟨bq,cg⟩:=hi;have O:le l=none:=hd.off bq;obtain⟨cB,cs',rfl,bF,bL⟩:=V.fn_inv cm;obtain rfl:cB=[]:=List.eq_nil_of_length_eq_zero bF.1;obtain rfl:cs'=[]:=List.eq_nil_of_length_eq_zero bL.1;have ac:X3.st l=some (.loop rec (recI fr)):=by rw[aE,ISt.add_off O];exact bq
  obtain⟨bP,aX,aD⟩:=bD.ok l _ ac;have aH:rs.length=ps.size:=by rw[av.1];exact b3 k aL le hk
  have br:(do let d <- Deferred.ofValue (.func (.yield l) ⟨[]⟩ ⟨[]⟩) ⟨rs⟩;invoke d.target d.args:Sem Next).run c.P X3.w =
    .ok (.round l rec.fn ((rec.params.zip ⟨rs⟩).foldl (λtmps (t,a)=>tmps.setIfInBounds t a) rec.tmps) rec.assign rec.body) X3.w:=by
   have:=run_yield (P:=c.P) (args:=⟨rs⟩) aX (by rw[A];simpa using aH);simp only[Deferred.ofValue,Sem.run_bind,Sem.run_pure,Result.andThen_ok,invoke];simpa using this
  unfold CallsVal;rw[br];refine⟨rfl,?_⟩;obtain⟨aP,G⟩:∃t,t=(rec.params.zip ⟨rs⟩).foldl (λ(tmps:Array Value) (p:Tmp×Value)=>tmps.setIfInBounds p.1 p.2) rec.tmps:=⟨_,rfl⟩
  have htl:aP=(ps.toList.zip rs).foldl (λt p=>t.setIfInBounds p.1 p.2) a.tmps:=by
   rw[G,A,<- Array.foldl_toList];simp
  have cb:rec.assign=D:=by rw[A]
  have ca:rec.body=body:=by rw[A]
  rw[cb,ca];change RoundIn Fence.wide 0 c.P l rec.fn ((rec.params.zip ⟨rs⟩).foldl (λ(tmps:Array Value) (p:Tmp×Value)=>tmps.setIfInBounds p.1 p.2) rec.tmps) D body X3.w _;rw[<- G,htl]
  -- ab bf frame
  obtain⟨Xc,U⟩:∃Xc:WS,Xc={ X3 with st:=X3.st.put l none }:=⟨_,rfl⟩
  have bm:subSt (X3.st.put l none) X3.st:=λb o hb=>by
   rw[ISt.put_apply] at hb;split at hb
   ·cases hb
   ·exact hb
  obtain⟨bB,aY⟩:=bD.sub bm;rw[<- U] at bB aY;have aM:Xc.w=X3.w:=by rw[U]
  have ax:Xc.w.heap[l]?=some (.loop rec):=by rw[aM];exact aX
  have aT:Xc.st l=none:=by rw[U];exact ISt.put_same _ _ _
  have cw:Inv (c.cx B') Xc N Xc (yG8 (xKd fr) (ps.toList.zip aL)) [] { tmps:=(ps.toList.zip rs).foldl (λt p=>t.setIfInBounds p.1 p.2) a.tmps,defers:=[] }:=by
   refine⟨bB,Ext.refl _,FrOk.puts ⟨λt=>?_,λt t' cs cs' ht=>by cases ht⟩ (λp hp=>by rw[hI.size];exact cc p hp) ⟨av.1,λi r x hr hx=>aY.v (av.2 i r x hr hx)⟩ ?_,?_,.nil⟩
   ·have:=aD t;rw[A] at this;exact aY.v this
   ·rw[<- av.1,aH];simp
   ·simp only[zV5];exact hI.size
  have bs:=aw k aL le (stu.put l none) hk (hd.put O) cg;have bn:Xc.st=(stu.put l none).add le:=by rw[U,<- ISt.put_add O,<- aE]
  rw[<- bn] at bs;have bj:=b2 B' Xc Xc l _ _ _ _ cw bs;rw[aM] at bj;refine roundIn_of_wpIn trivial (wpIn_mono bj ?_);rintro e a6 w6 ⟨X6,cP,cS,rfl,aB,hq⟩;cases e with
  | normal =>
   obtain⟨bK,hq⟩:=hq;subst bK;have bw:l<Xc.w.heap.size:=(Array.getElem?_eq_some_iff.1 ax).1;have ci:X6.w.heap[l]?=some (.loop rec):=(aB.ext.keep l bw aT).1.trans ax;have b7:X6.st l=none:=aB.ext.dom l bw aT;refine⟨(X6.obj l (.loop { rec with state:=.busy }) none).w,run_beginRound ci (by rw[A]),?_⟩;have cy:=aB.both (r':={ rec with state:=.busy }) ax aT;have bo:(X6.obj l (.loop { rec with state:=.busy }) none).st=X6.st:=by rw[xYo];exact yJ8 b7
   rw[<- bo] at hq;have cG:a6.defers=[]:=by
    have:=aB.ds;generalize a6.defers=cT at this;cases this;rfl
   have b4:=b1 B' _ _ l _ _ _ _ cy hq;refine wpIn_mono b4 ?_;rintro e a8 w8 ⟨X8,cO,cR,rfl,ah,cF,hR⟩;have bA:(Xc.obj l (.loop { rec with state:=.busy }) none).w.heap[l]?=some (.loop { rec with state:=.busy }):=yWo ax;have aS:(Xc.obj l (.loop { rec with state:=.busy }) none).st l=none:=by rw[xYo];exact ISt.put_same _ _ _
   have ae:l<(Xc.obj l (.loop { rec with state:=.busy }) none).w.heap.size:=(Array.getElem?_eq_some_iff.1 bA).1;have af:X8.w.heap[l]?=some (.loop { rec with state:=.busy }):=(ah.ext.keep l ae aS).1.trans bA;have aU:X8.st l=none:=ah.ext.dom l ae aS;have cv:X8.L l=0:=(ah.ext.keep l ae aS).2.trans (by rw[U];exact bP);have bI:Ext X3 X8:=Ext.star aX ac bP (by rw[<- U];exact ah.ext)
   -- ab bX is set cH
   have al:∀(r9:Loop) (b:Bool),r9.tmps=rec.tmps->((b=true/\∃s1,I' (k+1) s1/\le.disj s1/\X8.st.put l (some (.loop r9 (recI fr)))=s1.add le)\/(b=false/\S' (X8.st.put l (some (.loop r9 (recI fr)))))) →
     ends (c.cx B') X3 (λr st'=>(r=.raw (.bool true)/\∃s1,I' (k+1) s1/\le.disj s1/\st'=s1.add le)\/(r=.raw (.bool false)/\S' st')) (.bool b) (X8.w.putObj l (.loop r9)):=by
    intro r9 b ht cd;have aJ:Ext X3 (X8.obj l (.loop r9) (some (.loop r9 (recI fr)))):=bI.obj af yGc yGc (.inr (by rw[ac];simp));refine⟨X8.obj l (.loop r9) (some (.loop r9 (recI fr))),.raw (.bool b),rfl,ah.good.obj af yGc yGc (λi hi=>?_),aJ,.raw _ trivial,?_⟩
    ·cases hi;exact⟨cv,yWo af,λt=>by rw[ht];exact aJ.v (aD t)⟩
    ·rw[xYo];rcases cd with⟨rfl,h⟩|⟨rfl,h⟩
     ·exact .inl ⟨rfl,h⟩
     ·exact .inr ⟨rfl,h⟩
   have bt:∀o,(X8.st.put l o).put l none=X8.st:=λo=>by rw[yQg];exact yJ8 aU
   have stop:∀e cj,wUh e=some cj->S e X8.st->∃v w',(Instr.endRound l (some cj)).run c.P X8.w=.ok v w'/\∃v',Ending.returned v=.returned v' /\
     ends (c.cx B') X3 (λr st'=>(r=.raw (.bool true)/\∃s1,I' (k+1) s1/\le.disj s1/\st'=s1.add le)\/(r=.raw (.bool false)/\S' st')) v' w':=by
    intro e cj hj hS;refine⟨_,_,run_endRound (some cj) af,_,rfl,al { rec with state:=.done,pending:=some cj } false rfl (.inr ⟨rfl,?_⟩)⟩;rw[bN];exact⟨e,cj,hj,ISt.put_same _ _ _,by rw[bt];exact hS⟩
   cases e with
   | normal =>
    have b9:({ { rec with state:=.busy } with state:=.ready,pending:=none }:Loop)=rec:=by rw[A]
    refine⟨_,_,run_endRound none af,_,rfl,?_⟩;obtain⟨s1,cr,cq,bO⟩:=hR;have b8:s1 l=none:=by rw[bO,ISt.add_off O] at aU;exact aU
    have:=al rec true rfl (.inl ⟨rfl,s1.put l (some (.loop rec (recI fr))),by rw[aj];exact⟨ISt.put_same _ _ _,by rw[yQg,yJ8 b8];exact cr⟩,cq.put O,by rw[bO,ISt.put_add O]⟩);rw[<- b9] at this;exact this
   | ret=>exact stop .ret .ret rfl hR
   | exit id=>exact stop (.exit id) (.exit id) rfl hR
   | goto t=>exact stop (.goto t) (.goto t) rfl hR
   | panic ch=>exact hR.elim
   | outgrown=>exact hR.elim
  | _=>exact hq.elim
 have a1:=aW (.fn (.yield l) [] []) I' S' X2.st ⟨_,_,_,rfl,rfl,λg hg=>by cases hg⟩
  (λk stu hk=>by
   rw[aj] at hk;exact⟨stu.put l none,λb o hb=>by
    rw[ISt.put_apply] at hb;split at hb
    ·cases hb
    ·exact hb,hk.2⟩) au
  (by rw[aj,aF];exact⟨ISt.put_same _ _ _,by rw[yQg,yJ8 (by rw[bx];exact bp)];exact h0⟩)
 have ay:=bR.good;have aK:Ext X X2:=by
  rw[aA,W];rw[W] at ai;exact (hI.good.new_ext _ _ _).trans (ai.good.new_ext _ _ _)
 have az:=a1 B X2 (fs++[.func (.yield l) ⟨[]⟩ ⟨[]⟩]++cs) ay rfl
  ((VL.append (VL.append ⟨bG.1,λi r x hr hx=>aK.v (bG.2 i r x hr hx)⟩ (VL.cons (.fn (.yield l) [] [] rfl (λi r x h=>by simp at h) [] [] rfl (λi r x h=>by simp at h)) VL.nil)) ⟨bM.1,λi r x hr hx=>aK.v (bM.2 i r x hr hx)⟩))
 have aI:=run_enterLoop_outer (P:=c.P) (w:=X.w) fn a.tmps ps D body;rw[<- A,<- bk,<- bx] at aI;have ck:∃F,c.P.funcs[gf]?=some F/\F.name ≠ "runtime.NumGoroutine" /\ ¬ F.body.isNone=true:=by
  unfold entI at he;cases hf:c.P.funcs[gf]? with
  | none=>simp[hf] at he
  | some F =>
   simp only[hf,bAt,bne_iff_ne,ne_eq] at he;exact⟨F,rfl,he.1,by have:=he.2;cases hq:F.body<;>simp_all⟩
 obtain⟨F,hf,ce,a7⟩:=ck;refine⟨l,[{ target:=.collected X.w.heap.size,args:=#[] }],X2.w,{ target:=.fn (.func gf) ⟨cs⟩,args:=⟨fs++[.func (.yield l) ⟨[]⟩ ⟨[]⟩]⟩ },X2.w,gf,⟨fs++[.func (.yield l) ⟨[]⟩ ⟨[]⟩]++cs⟩,X2.w,
  aI,?_,λ_ _=>trivial,?_,λh=>by simp[yZo,Fence.wide] at h,?_⟩
 ·simp only[resolve,eg];simp[Deferred.ofValue,Act.eval]
 ·simp only[invoke,callFunc,Sem.run_bind,run_program,Result.andThen_ok,hf];rw[if_neg (by simpa using ce),if_neg a7];simp
 ·refine zZw (az.mono ?_);rintro e w' ⟨v,rfl,X4,x,rfl,bC,aZ,_,hK⟩;have cz:Inv (c.cx B) X0 N X4 fr ds a:=bR.ext' aZ bC;have ak:X.w.heap.size<X2.w.heap.size:=(Array.getElem?_eq_some_iff.1 bT).1;have cA:X4.w.heap[X.w.heap.size]?=some (.deferred (some [])):=(aZ.keep _ ak aN).1.trans bT;have bS:=aZ.dom _ ak aN
  -- b0 ab call
  have al:∀(r4:Loop),X4.st l=some (.loop r4 (recI fr))->X4.w.heap[l]?=some (.loop r4) /\
    Inv (c.cx B) X0 N (X4.obj l (.loop { r4 with state:=.exhausted }) none) fr (.coll X.w.heap.size::ds) { a with defers:={ target:=.collected X.w.heap.size,args:=#[] }::a.defers }:=by
   intro r4 J;obtain⟨_,E,_⟩:=bC.ok l _ J;have h5:=cz.obj (o':=.loop { r4 with state:=.exhausted }) (so:=none) E yGc yGc (by rw[J];simp) (λi hi=>by cases hi);have bu:X.w.heap.size≠l:=by omega
   refine⟨E,h5.good,h5.ext,h5.fr,h5.size,.cons ⟨rfl,(yXr E bu).trans cA,?_,hI.ext.size⟩ h5.ds (λr hr=>by cases hr;exact λhm=>nLi _ (hI.ds.lt hm))⟩;rw[xYo,ISt.put_apply,if_neg bu];exact bS
  rcases hK with hK|hK
  ·rw[aj] at hK;obtain⟨J,bQ⟩:=hK;obtain⟨E,h5⟩:=al rec J;refine⟨none,_,(run_endLoop E (by rw[A];simp)).trans (congrArg (λp=>Result.ok p _) (show rec.pending=none by rw[A])),?_⟩;exact⟨_,fr,_,rfl,h5,cu _ _ bQ⟩
  ·rw[bN] at hK;obtain⟨e,cj,hj,J,hS⟩:=hK;obtain⟨E,h5⟩:=al _ J;refine⟨some cj,_,run_endLoop E (by simp),?_⟩;have hq:PQ (c.cx B) X0 N Q e { a with defers:={ target:=.collected X.w.heap.size,args:=#[] }::a.defers } (X4.w.putObj l (.loop { { rec with state:=.done,pending:=some cj } with state:=.exhausted })):=⟨_,fr,_,rfl,h5,ct e _ _ hS⟩
   cases e with
   | ret=>cases hj;exact wpIn_ret hq
   | exit id=>cases hj;exact wpIn_exit hq
   | goto t=>cases hj;exact wpIn_goto hq
   | _=>cases hj
theorem xZp {N:Nat}:∀(G:Code) (c:Cf) (B:Nat) (X0:WS) (ro:Option Nat) (n:Nat),(c.rd=false->ro=none)->∀(Q:Kc) (X:WS) (fr:Fr) (ds:List Dfd) (a:Act),codeOk c N G=true →
  Inv (c.cx B) X0 N X fr ds a->vcC c G Q fr X.st ds->G.wpIn (yZo ro) n c.P (PQ (c.cx B) X0 N Q) a X.w:=by
 intro G
 induction G with
 | skip=>intro c B X0 ro n A Q X fr ds a _ D h;exact wpIn_skip ⟨X,fr,ds,rfl,D,h⟩
 | region id ops ag =>
  intro c B X0 ro n A Q X fr ds a hd D h;simp only[codeOk,bAt,Bool.or_eq_true,Bool.not_eq_true'] at hd;have hN:∀o∈ops.toList,∀d,o.dst=some d->d<N:=λo ho d aq=>by
   have:=List.all_eq_true.1 hd.1 o ho;rw[aq] at this;exact of_decide_eq_true this
  cases ag with
  | false=>exact xZq (c:={ c with dr:=false }) A hN D h
  | true =>
   have h2:=hd.2.resolve_left (by simp);exact xUg A hN h2.1 h2.2 D h
 | seq x y ai ah =>
  intro c B X0 ro n A Q X fr ds a hd D h;simp only[codeOk,bAt] at hd;refine wpIn_seq (wpIn_mono (ai c B X0 ro n A _ X fr ds a hd.1 D h) ?_);rintro e a' w' ⟨X',fr',E,rfl,F,O⟩;cases e with
  | normal=>exact ah c B X0 ro n A Q X' fr' E a' hd.2 F O
  | _=>exact⟨X',fr',E,rfl,F,O⟩
 | cond x p q ak aj =>
  intro c B X0 ro n A Q X fr ds a hd D h;simp only[codeOk,bAt] at hd;obtain⟨v,hv,h1⟩:=yQ5.1 h;obtain⟨t,rfl,h2⟩:=zGy h1;have he:=V.raw_inv (wQo (C:=c.cx B) D.good D.fr hv).1;exact wpIn_cond_split he (λht=>ak c B X0 ro n A Q X fr ds a hd.1 D (h2.1 ht)) (λht=>aj c B X0 ro n A Q X fr ds a hd.2 D (h2.2 ht))
 | block id p ih =>
  intro c B X0 ro n A Q X fr ds a hd D h;refine wpIn_block (wpIn_mono (ih c B X0 ro n A _ X fr ds a hd D h) ?_);rintro e a' w' ⟨X',fr',E,rfl,F,O⟩;cases e with
  | exit id' =>
   simp only[zWg] at O;simp only[Exit.inBlock];split at O
   ·rename_i hid;rw[if_pos hid];exact⟨X',fr',E,rfl,F,O⟩
   ·rename_i hid;rw[if_neg hid];exact⟨X',fr',E,rfl,F,O⟩
  | _=>exact⟨X',fr',E,rfl,F,O⟩
 | loop p ih =>
  intro c B X0 ro n A Q X fr ds a hd D h;obtain⟨J,⟨m0,h0⟩,U⟩:=h;refine zU7 (λm a w=>∃X fr ds,X.w=w/\Inv (c.cx B) X0 N X fr ds a/\J m fr X.st ds) ⟨m0,X,fr,ds,rfl,D,h0⟩ ?_;rintro m a' w' ⟨X',fr',E,rfl,F,hi⟩;refine wpIn_mono (ih c B X0 ro n A _ X' fr' E a' hd F (U m fr' X'.st E hi)) ?_;rintro e a2 w2 ⟨X2,ae,af,rfl,ac,O⟩;cases e with
  | normal =>
   obtain⟨m',au,hj⟩:=O;exact⟨m',au,X2,ae,af,rfl,ac,hj⟩
  | _=>exact⟨X2,ae,af,rfl,ac,O⟩
 | rangeFunc g ps aG p am al =>
  intro c B X0 ro n A Q X fr ds a hd D h;simp only[codeOk,bAt,List.all_eq_true,dTe] at hd;change (if c.rd=true then False else _) at h;obtain⟨W,h1⟩:=yKa h;have aa:=A (by simpa using W);subst aa;obtain⟨v,hv,h2⟩:=yQ5.1 h1;obtain⟨f,first,aw,rfl,h3⟩:=xVx h2;exact xKm hd.1.1 (λB X0 X l Q fr ds a D h=>am { c with rd:=true } B X0 (some l) 0 (λh=>by cases h) Q X fr ds a (by rw[yJy];exact hd.1.2) D h)
   (λB X0 X l Q fr ds a D h=>al { c with rd:=true } B X0 (some l) 0 (λh=>by cases h) Q X fr ds a (by rw[yJy];exact hd.2) D h) D hv rfl h3
 | exit id=>intro c B X0 ro n A Q X fr ds a _ D h;exact wpIn_exit ⟨X,fr,ds,rfl,D,h⟩
 | scope p ih =>
  intro c B X0 ro n A Q X fr ds a hd D h;change (if c.rd=true then False else _) at h;obtain⟨W,h1⟩:=yKa h;have aa:=A (by simpa using W);subst aa;have:=ih c B X0 none n A (wX0 Q) X fr ds a hd D h1;refine wpIn_wide.2 (wp_scope_straight (wpIn_wide.1 (wpIn_mono this ?_)));rintro e a' w' ⟨X',fr',E,rfl,F,O⟩;cases e with
  | goto l=>exact O.elim
  | _=>exact⟨X',fr',E,rfl,F,O⟩
 | label l=>intro c B X0 ro n A Q X fr ds a _ D h;exact wpIn_label ⟨X,fr,ds,rfl,D,h⟩
 | goto l=>intro c B X0 ro n A Q X fr ds a _ D h;exact wpIn_goto ⟨X,fr,ds,rfl,D,h⟩
 | ret=>intro c B X0 ro n A Q X fr ds a _ D h;exact wpIn_ret ⟨X,fr,ds,rfl,D,h⟩
 | refuse ax=>intro c B X0 ro n A Q X fr ds a _ D h;exact h.elim
