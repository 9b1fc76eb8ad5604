/- The layer of ideal values, part O: regio -/
import Derived.Test.YtofmbookakncjabGreatDoorJE
set_option linter.all false
namespace Go.Iv
open Go
section
variable {α:Type}{p q p' q':Prop}
def jk {o:Option α}{f g:α->Prop}(h:∀x,f x->g x):dP o f->dP o g:=by
 cases o<;>simp only[dP]<;>first|exact h _|exact id
def yZ {c:Prop}(h:p->q):chk c p->chk c q:=λx=>⟨x.1,h x.2⟩
def Dk {c:Prop}(h:p->q):giv c p->giv c q:=λx y=>h (x y)
def Dl {c:Prop}(h:p->q):(c->p)->(c->q):=λx y=>h (x y)
def Dm {f g:α->Prop}(h:∀x,f x->g x):(∀x,f x)->(∀x,g x):=λA x=>h x (A x)
def y7 {b:Bool}{k:Lock p}{l:Lock q}{E:Lock p'}{D:Lock q'}(h:p->p')(G:q->q'):j7 b p q k l->j7 b p' q' E D:=λx=>⟨λA=>h (x.1 A),λA=>G (x.2 A)⟩
def Dn (h:p->p')(A:q->q'):p\/q->p'\/q':=λx=>x.imp h A
def kS {c:Prop} [Decidable c](h:p->p')(A:q->q'):(if c then p else q)->(if c then p' else q'):=by split<;>assumption
def Dp {s:SV}{f g:List IV->Prop}(h:∀x,f x->g x):boxV s f->boxV s g:=by unfold boxV;split<;>first|exact h _|exact id
def y8 {s:IObj}{f g:List IV->Prop}(h:∀x,f x->g x):obV s f->obV s g:=by unfold obV;split<;>first|exact h _|exact id
def Dq {s:IObj}{f g:KeyK->List (Value×IV)->Prop}(h:∀x y,f x y->g x y):omV s f->omV s g:=by unfold omV;split<;>first|exact h _ _|exact id
def vr {s:IV}{f g:IntKind->Int->Prop}(h:∀x y,f x y->g x y):intV s f->intV s g:=by unfold intV;split<;>first|exact h _ _|exact id
def y9 {s:IV}{f g:Bool->Prop}(h:∀x,f x->g x):lV s f->lV s g:=by unfold lV;split<;>first|exact h _|exact id
def vt {s:IV}{f g:Tag->List IV->Prop}(h:∀x y,f x y->g x y):slV s f->slV s g:=by unfold slV;split<;>first|exact h _ _|exact id
def y_ {s:IV}{f D:Tag->List IV->Prop}{g A:Nat->Nat->Nat->Prop}(h:∀x y,f x y->D x y)(E:∀x y z,g x y z->A x y z):slX s f g->slX s D A:=by unfold slX;split<;>first|exact h _ _|exact E _ _ _|exact id
def vu {s:IV}{f D:Tag->List IV->Prop}{g A:Nat->Nat->Nat->Nat->Prop}(h:∀x y,f x y->D x y)(E:∀x y z u,g x y z u->A x y z u):slY s f g->slY s D A:=by unfold slY;split<;>first|exact h _ _|exact E _ _ _ _|exact id
def za {k:Option LenK}{i:Option IntKind}{f D g A:Prop}(h:f->D)(E:g->A):appK k i f g->appK k i D A:=by unfold appK;split<;>first|exact h|exact E|exact id
def vv {s:IV}{f g:List IV->Prop}(h:∀x,f x->g x):aggV s f->aggV s g:=by unfold aggV;split<;>first|exact h _|exact id
def Dr {s:IV}{f g:List IV->Prop}(h:∀x,f x->g x):tupV s f->tupV s g:=by unfold tupV;split<;>first|exact h _|exact id
def zb {s:IV}{f g:Fn->List IV->List IV->Prop}(h:∀x y z,f x y z->g x y z):fnV s f->fnV s g:=by unfold fnV;split<;>first|exact h _ _ _|exact id
def Ds {s:IV}{f g:Option Nat->Prop}(h:∀x,f x->g x):mapV s f->mapV s g:=by unfold mapV;split<;>first|exact h _|exact id
def Dt {s:IV}{f g:Value->Prop}(h:∀x,f x->g x):keyV s f->keyV s g:=by unfold keyV;split<;>first|exact h _|exact λk hs=>h _ (k hs)|exact id
def Du {s:IV}{f g:Nat->Prop}(h:∀x,f x->g x):adrV s f->adrV s g:=by unfold adrV;split<;>first|exact h _|exact id
def Dv {s:IObj}{f g:Nat->Nat->Array Nat->Nat->Prop}(h:∀x y z u,f x y z u->g x y z u):itO s f->itO s g:=by unfold itO;split<;>first|exact h _ _ _ _|exact id
def Dw {s:IObj}{f g:Array MapEntry->Nat->Prop}(h:∀x y,f x y->g x y):mxO s f->mxO s g:=by unfold mxO;split<;>first|exact h _ _|exact id
def Dx {e:Array MapEntry}{n:Array Nat}{p p':Prop}{q q':MapEntry->IV->Prop}{k:Lock p}{l:Lock q}{D:Lock p'}{A:Lock q'}(h:p->p')(E:∀x y,q x y->q' x y):nxR e n p q k l->nxR e n p' q' D A:=λx=>⟨λy=>h (x.1 y),λa b c d=>E _ _ (x.2 a b c d)⟩
def Dy {s:IV}{f g:Value->Prop}(h:∀x,f x->g x):rawV s f->rawV s g:=by unfold rawV;split<;>first|exact h _|exact id
end
section
variable {R R':Rt}(h:∀pr st ds,R pr st ds->R' pr st ds)
include h
set_option maxHeartbeats 1000000 in
def qK {c:Cf}{dst:Option Nat}{op:Op}{ad:Ad}{fr:Fr}{st:ISt}{ds:List Dfd}:vcR c dst op R ad fr st ds->vcR c dst op R' ad fr st ds:=by
 unfold vcR;split
 all_goals try unfold lB
 all_goals try unfold nilV
 all_goals repeat (first
  | exact h _ _ _|exact id
  | refine jk λ_=>?_|refine yZ ?_|refine Dk ?_|refine Dl ?_|refine Dm λ_=>?_|refine y7 ?_ ?_|refine Dn ?_ ?_|refine kS ?_ ?_
  | refine Dp λ_=>?_|refine y8 λ_=>?_|refine Dq λ_ _=>?_|refine vr λ_ _=>?_|refine y9 λ_=>?_|refine vt λ_ _=>?_|refine y_ (λ_ _=>?_) (λ_ _ _=>?_)|refine vu (λ_ _=>?_) (λ_ _ _ _=>?_)|refine za ?_ ?_
  | refine vv λ_=>?_|refine Dr λ_=>?_|refine zb λ_ _ _=>?_|refine Ds λ_=>?_|refine Dy λ_=>?_|refine Dt λ_=>?_|refine Du λ_=>?_|refine Dv λ_ _ _ _=>?_|refine Dw λ_ _=>?_|refine Dx ?_ (λ_ _=>?_)
  | (refine λA=>callV.mono A λ_ _=>?_;unfold mB)
  | unfold nI|unfold lX|unfold nJ|unfold kP|unfold mz|unfold oL|unfold pO|unfold idxV|unfold lE|unfold arrV|unfold oM|unfold qE|unfold oN|unfold ve|unfold vf|unfold vg|unfold lenV|unfold appV|unfold qO|unfold appO|unfold appR|unfold appZ|unfold capV|unfold qD|unfold pP|unfold nN|unfold plR
  | split)
end
def nh (esc:List Nat)(dst:Option Nat):Op->Bool
 | .move _|.assign _|.pick ..|.build ..=>true
 | .buildSlice ..=>!jc esc dst
 | .load ..=>!jc esc dst
 | .nilCheck _|.binOp ..|.unOp ..|.convert ..|.makeFunc ..|.slice ..|.fieldAddr ..|.field ..|.indexAddr ..|.index ..|.extract ..=>true
 | .alloc _|.box ..=>match dst with|some d=>!esc.contains d|none=>false
 | .call ⟨.builtin .len,_,_⟩|.call ⟨.builtin .max,_,_⟩=>true
 | .call ⟨.value (.func g),_,_⟩=>esc.contains (g+1000000)
 | _=>false
def oS:Op->Bool
 | .load ..=>true
 | _=>false
def nk:Op->Bool
 | .store ..=>true
 | _=>false
def jq (esc:List Nat)(dst:Option Nat)(op:Op):Bool:=nh esc dst op || oS op
def KM (l:List Operand):List Nat:=l.filterMap λ| .tmp t=>some t|_=>none
def looks (ops:List Oper)(o:Oper):List Nat:=KM o.op.operands.toList++(match o.guard with|some (j,_)=>(ji ops j).toList|none=>[])
def qL:Op->Bool
 | .fieldAddr ..=>true
 | .indexAddr ..=>true
 | _=>false
def vw (ops:List Oper)(e:Nat):Bool:=ops.all λo=>!qL o.op || (!(looks ops o).contains e&&!(o.dst == some e))
def stOk (ops:List Oper)(x y:Oper):Bool :=
 match x.op with
 | .store _ (.tmp e) _=>vw ops e&&!(looks ops y).contains e
 | _=>false
def zd (esc:List Nat)(ops:List Oper)(x y:Oper):Bool :=
 (jq esc x.dst x.op || jq esc y.dst y.op)&&(!(oS x.op&&nk y.op) || stOk ops y x)&&(!(oS y.op&&nk x.op) || stOk ops x y) &&
 (match x.dst with|some d=>!(looks ops y).contains d&&!(y.dst == some d)|none=>true)&&(match y.dst with|some d=>!(looks ops x).contains d|none=>true)
def Lin (F:Rt->ISt->List Dfd->Prop):Prop:=(∃pr,∀R st ds,F R st ds↔R pr st ds)\/(∀R st ds,¬ F R st ds)
def gy (pr:PR):Lin (λR st ds=>R pr st ds):=.inl ⟨pr,λ_ _ _=>Iff.rfl⟩
def fV:Lin (λ_ _ _=>False):=.inr λ_ _ _ h=>h
def fQ {α:Type}{o:Option α}{F:α->Rt->ISt->List Dfd->Prop}(h:∀x,Lin (F x)):Lin (λR st ds=>dP o λx=>F x R st ds):=by
 cases o with
 | none=>exact fV
 | some x=>exact h x
def nW {c:Prop}{F:Rt->ISt->List Dfd->Prop}(h:Lin F):Lin (λR st ds=>chk c (F R st ds)):=by
 by_cases hc:c
 ·rcases h with⟨pr,h⟩|h
  ·exact .inl ⟨pr,λR st ds=>⟨λx=>(h R st ds).1 x.2,λx=>⟨hc,(h R st ds).2 x⟩⟩⟩
  ·exact .inr λR st ds x=>h R st ds x.2
 ·exact .inr λR st ds x=>hc x.1
def kT {c:Prop} [Decidable c]{F G:Rt->ISt->List Dfd->Prop}(h:Lin F)(A:Lin G):Lin (λR st ds=>if c then F R st ds else G R st ds):=by
 by_cases hc:c
 ·simpa only[c_ hc] using h
 ·simpa only[a_ hc] using A
def Dz {c:Prop}{F:Rt->ISt->List Dfd->Prop}(hc:c)(h:Lin F):Lin (λR st ds=>c->F R st ds):=by
 rcases h with⟨pr,h⟩|h
 ·exact .inl ⟨pr,λR st ds=>⟨λx=>(h R st ds).1 (x hc),λx _=>(h R st ds).2 x⟩⟩
 ·exact .inr λR st ds x=>h R st ds (x hc)
def KN {b:Bool}{F G:Rt->ISt->List Dfd->Prop}(h:Lin F)(A:Lin G):Lin (λR st ds=>j7 b (F R st ds) (G R st ds) .mk .mk):=by
 cases b
 ·simpa only[JJ] using A
 ·simpa only[JI] using h
def DA {s:SV}{F:List IV->Rt->ISt->List Dfd->Prop}(h:∀x,Lin (F x)):Lin (λR st ds=>boxV s λx=>F x R st ds):=by
 cases s<;>first|exact h _|exact fV
def vB {s:IV}{F:IntKind->Int->Rt->ISt->List Dfd->Prop}(h:∀x y,Lin (F x y)):Lin (λR st ds=>intV s λx y=>F x y R st ds):=by
 cases s with
 | raw v=>cases v<;>first|exact h _ _|exact fV
 | _=>exact fV
def KO {s:IV}{F:Bool->Rt->ISt->List Dfd->Prop}(h:∀x,Lin (F x)):Lin (λR st ds=>lV s λx=>F x R st ds):=by
 cases s with
 | raw v=>cases v<;>first|exact h _|exact fV
 | _=>exact fV
def DB {s:IV}{F:Tag->List IV->Rt->ISt->List Dfd->Prop}{G:Nat->Nat->Nat->Rt->ISt->List Dfd->Prop}(h:∀x y,Lin (F x y))(J:∀x y z,Lin (G x y z)):Lin (λR st ds=>slX s (λx y=>F x y R st ds) (λx y z=>G x y z R st ds)):=by
 by_cases hs:∃t D,s=.sl t D
 ·obtain⟨t,D,rfl⟩:=hs;exact h _ _
 ·by_cases E:∃b off n cap,s=.raw (.slice (some ⟨b,off,none⟩) n cap)
  ·obtain⟨b,off,n,cap,rfl⟩:=E;exact J _ _ _
  ·refine .inr λR st ds A=>?_;simp only at A;unfold slX at A;split at A
   ·exact hs ⟨_,_,rfl⟩
   ·exact E ⟨_,_,_,_,rfl⟩
   ·exact A
def KP {s:IV}{F:Tag->List IV->Rt->ISt->List Dfd->Prop}{G:Nat->Nat->Nat->Nat->Rt->ISt->List Dfd->Prop}(h:∀x y,Lin (F x y))(J:∀x y z u,Lin (G x y z u)):Lin (λR st ds=>slY s (λx y=>F x y R st ds) (λx y z u=>G x y z u R st ds)):=by
 by_cases hs:∃t D,s=.sl t D
 ·obtain⟨t,D,rfl⟩:=hs;exact h _ _
 ·by_cases E:∃b off n cap,s=.raw (.slice (some ⟨b,off,none⟩) n cap)
  ·obtain⟨b,off,n,cap,rfl⟩:=E;exact J _ _ _ _
  ·refine .inr λR st ds A=>?_;simp only at A;unfold slY at A;split at A
   ·exact hs ⟨_,_,rfl⟩
   ·exact E ⟨_,_,_,_,rfl⟩
   ·exact A
def vC {s:IV}{F:List IV->Rt->ISt->List Dfd->Prop}(h:∀x,Lin (F x)):Lin (λR st ds=>aggV s λx=>F x R st ds):=by
 cases s<;>first|exact h _|exact fV
def KQ {s:IV}{F:List IV->Rt->ISt->List Dfd->Prop}(h:∀x,Lin (F x)):Lin (λR st ds=>tupV s λx=>F x R st ds):=by
 cases s<;>first|exact h _|exact fV
def zg {s:IV}{F:Value->Rt->ISt->List Dfd->Prop}(h:∀x,Lin (F x)):Lin (λR st ds=>rawV s λx=>F x R st ds):=by
 cases s<;>first|exact h _|exact fV
def KR {ag:Bool}{n:Nat}{p:Pl}{fr:Fr}:Lin (λR st ds=>kP true ag n p fr R st ds):=by
 cases p with
 | box t off=>exact DA λ_=>fQ λ_=>gy _
 | ptr b off=>exact fV
 | cp y=>exact kT (gy _) fV
def KS {f:Nat×Bool×Nat}{p:Pl}:Lin (λR st ds=>oL f p R st ds):=by
 cases p with
 | box t off=>exact gy _
 | ptr b off=>exact gy _
 | cp y=>exact vC λ_=>fQ λ_=>kT (gy _) fV
def KT {len n j:Nat}{ag:Bool}{p:Pl}:Lin (λR st ds=>pO len ag n j p R st ds):=by
 unfold pO;refine kT ?_ fV;cases p with
 | box t off=>exact gy _
 | ptr b off=>exact gy _
 | cp y=>exact vC λ_=>fQ λ_=>kT (gy _) fV
def KU {k:LenK}{s:Option (TypeId×Bool×Nat×Nat)}{A:Option IV}{p:Option Pl}{e:Option (Nat×Bool×Nat)}{j:Int}:Lin (λR st ds=>idxV k s A p e j R st ds):=by
 cases k with
 | sl=>exact fQ λ_=>fQ λ_=>DB (λ_ _=>kT (kT (fQ λ_=>gy _) fV) fV) (λ_ _ _=>kT (gy _) fV)
 | arr n=>exact fQ λ_=>fQ λ_=>kT KT fV
 | _=>exact fV
def KV {k:LenK}{e:Option (Nat×Bool×Nat)}{x:IV}{j:Int}:Lin (λR st ds=>oM k e x j R st ds):=by
 cases k with
 | str =>
  refine zg λv=>?_;cases v with
  | string s=>exact fQ λ_=>gy _
  | _=>exact fV
 | arr n=>exact vC λ_=>fQ λ_=>kT (fQ λ_=>gy _) fV
 | _=>exact fV
def KW {k:LenK}{x:IV}:Lin (λR st ds=>lenV true k x R st ds):=by
 cases k with
 | str =>
  refine zg λv=>?_;cases v with
  | string s=>exact Dz (λh=>by cases h) (gy _)
  | _=>exact fV
 | sl=>exact DB (λ_ _=>Dz (λh=>by cases h) (gy _)) (λ_ _ _=>gy _)
 | map=>exact fV
 | arr n=>exact gy _
def KX {ar:Option (Nat×Bool×Nat)}{x:IV}{lo D A:Option Int}{len:Nat}:Lin (λR st ds=>arrV ar x lo D A len R st ds):=by
 cases x with
 | cptr y =>
  cases y with
  | agg cs =>
   cases lo with
   | none =>
    cases A with
    | none=>exact fQ λ_=>nW (fQ λ_=>gy _)
    | some m=>exact fV
   | some l=>exact fV
  | _=>exact fV
 | _=>exact fV
def KY {k:LenK}{s:Option (TypeId×Bool×Nat×Nat)}{ar:Option (Nat×Bool×Nat)}{x:IV}{lo D A:Option Int}:Lin (λR st ds=>lE k s ar x lo D A R st ds):=by
 cases k with
 | str =>
  refine zg λv=>?_;cases v with
  | string s =>
   cases A with
   | none=>exact fQ λ_=>gy _
   | some m=>exact fV
  | _=>exact fV
 | sl =>
  refine fQ λ_=>KP (λ_ _=>nW ?_) (λ_ _ _ _=>?_)
  ·cases D with
   | none =>
    cases A with
    | none=>exact fQ λ_=>nW (gy _)
    | some m=>exact fV
   | some h=>exact fQ λ_=>nW (gy _)
  ·cases A with
   | none=>exact nW (fQ λ_=>gy _)
   | some m=>exact fV
 | arr n=>exact KX
 | map=>exact fV
def DC {o:Option IV}{p:Option Pl}:Lin (λR st ds=>lB true o p R st ds):=by
 cases o with
 | some x=>exact gy _
 | none=>exact fV
def KZ {o:Option IV}{p:Option Pl}:Lin (λR st ds=>nilV o p true R st ds):=by
 cases o with
 | none=>exact fV
 | some x =>
  cases x with
  | fn f a b=>exact kT (gy _) fV
  | cptr y=>exact gy _
  | raw v =>
   cases v with
   | pointer o =>
    cases o with
    | none=>exact fV
    | some q=>exact gy _
   | _=>exact fV
  | _=>exact fV
def DD {esc:List Nat}{d:Nat}(h:esc.contains d=false){cs:List IV}:Lin (λR st ds=>lX esc (some d) cs R st ds):=by
 have:¬ d∈esc:=by simpa using h
 simp only[lX,a_ this];exact gy _
def K0 {frz esc:List Nat}{d:Nat}(h:esc.contains d=false){y:IV}:Lin (λR st ds=>nI frz esc (some d) y R st ds):=kT (gy _) (DD h)
def zh {c:Cf}(A:c.dr=true){dst:Option Nat}{op:Op}{ad:Ad}{fr:Fr}(hp:nh c.esc dst op=true):Lin (λR st ds=>vcR c dst op R ad fr st ds):=by
 unfold nh at hp;split at hp
 case h_1=>simp only[vcR,A];exact DC
 case h_2=>simp only[vcR,A];exact DC
 case h_3=>exact fQ λ_=>KO λ_=>KN (fQ λ_=>gy _) (fQ λ_=>gy _)
 case h_4=>exact nW (fQ λ_=>fQ λ_=>gy _)
 case h_5 =>
  have hl:jc c.esc dst=false:=by simpa using hp
  simp only[vcR,nJ,hl,bFt,et];exact fQ λ_=>nW (fQ λ_=>nW (gy _))
 case h_6 =>
  have hl:ldr c.dr c.esc dst=true:=by unfold ldr;rw[A,hp];rfl
  simp only[vcR,hl];exact fQ λ_=>fQ λ_=>KR
 case h_7=>simp only[vcR,A];exact KZ
 case h_8=>exact fQ λ_=>fQ λ_=>fQ λ_=>gy _
 case h_9=>exact fQ λ_=>fQ λ_=>gy _
 case h_10=>exact fQ λ_=>fQ λ_=>gy _
 case h_11=>exact fQ λ_=>fQ λ_=>gy _
 case h_12=>exact fQ λ_=>fQ λ_=>fQ λ_=>fQ λ_=>fQ λ_=>KY
 case h_13=>exact fQ λ_=>fQ λ_=>KS
 case h_14=>exact fQ λ_=>fQ λ_=>vC λ_=>fQ λ_=>gy _
 case h_15=>exact fQ λ_=>vB λ_ _=>fQ λ_=>KU
 case h_16=>exact fQ λ_=>vB λ_ _=>fQ λ_=>fQ λ_=>KV
 case h_17=>exact fQ λ_=>KQ λ_=>fQ λ_=>gy _
 case h_18 =>
  split at hp
  ·exact fQ λ_=>DD (by simpa using hp)
  ·cases hp
 case h_19 =>
  split at hp
  ·exact fQ λ_=>fQ λ_=>nW (K0 (by simpa using hp))
  ·cases hp
 case h_20 =>
  rename_i args ts;obtain⟨args⟩:=args;obtain⟨ts⟩:=ts
  match args,ts with
  | [x],[T]=>simp only[vcR,A];exact fQ λ_=>fQ λ_=>KW
  | [],_=>exact fV
  | _::_::_,_=>exact fV
  | [_],[]=>exact fV
  | [_],_::_::_=>exact fV
 case h_21 =>
  rename_i args ts;obtain⟨args⟩:=args
  match args with
  | [x,y]=>exact fQ λ_=>fQ λ_=>vB λ_ _=>vB λ_ _=>kT (gy _) fV
  | []=>exact fV
  | [_]=>exact fV
  | _::_::_::_=>exact fV
 case h_22 =>
  rename_i g _ _;have D:g+1000000∈c.esc:=by simpa using hp
  simp only[vcR,nN,c_ D];exact fQ λ_=>fQ λ_=>gy _
 case h_23=>cases hp
structure SameAt (c:Cf)(op:Op)(ad ad':Ad)(fr fr':Fr):Prop where
 v:∀x∈op.operands,evV c.gl fr x=evV c.gl fr' x
 a:∀x∈op.operands,evA c.gl ad fr x=evA c.gl ad' fr' x
 box:(oS op || nk op)=true->∀x∈op.operands,∀t off,evA c.gl ad fr x=some (.box t off)->fr t=fr' t
def qM {gl:Nat->Option IV}{fr fr':Fr}:∀ {l:List Operand},(∀x∈l,evV gl fr x=evV gl fr' x)->evL gl fr l=evL gl fr' l
 | [],_=>rfl
 | x::l,h=>by rw[CD,CD,h x (by simp),qM λy A=>h y (by simp[A])]
def zj {gl:Nat->Option IV}{fr fr':Fr}{o:Option Operand}(h:∀x,o=some x->evV gl fr x=evV gl fr' x):jK gl fr o=jK gl fr' o:=by
 cases o with
 | none=>rfl
 | some x=>simp only[JP,h x rfl]
def DE {P:Program}{gl:Nat->Option IV}{fr fr':Fr}{T:TypeId}:∀ {l:List (Nat×Operand)} {cs:List IV},(∀x∈l.map (·.2),evV gl fr x=evV gl fr' x)->lC P gl fr T cs l=lC P gl fr' T cs l
 | [],cs,_=>rfl
 | (i,x)::l,cs,h=>by
  rw[yv,yv,h x (by simp)];cases bfI P T i with
  | none=>rfl
  | some f =>
   cases evV gl fr' x with
   | none=>rfl
   | some y=>simp only[qC];split<;>first|exact DE λy A=>h y (by simp[A])|rfl
def K1 {dr ag:Bool}{n:Nat}{p:Pl}{fr fr':Fr}{R:Rt}{st:ISt}{ds:List Dfd}(h:∀t off,p=.box t off->fr t=fr' t):kP dr ag n p fr R st ds=kP dr ag n p fr' R st ds:=by
 cases p with
 | box t off=>simp only[kP,h t off rfl]
 | _=>rfl
def K2 {y:List IV}{p:Pl}{fr fr':Fr}{R:Rt}{st:ISt}{ds:List Dfd}(h:∀t off,p=.box t off->fr t=fr' t):mz y p fr R st ds=mz y p fr' R st ds:=by
 cases p with
 | box t off=>simp only[mz,h t off rfl]
 | _=>rfl
def K3 {c:Cf}{dst:Option Nat}{op:Op}{R:Rt}{ad O:Ad}{fr fr':Fr}{st:ISt}{ds:List Dfd}(h:SameAt c op ad O fr fr'):vcR c dst op R ad fr st ds=vcR c dst op R O fr' st ds:=by
 obtain⟨hv,G,hb⟩:=h;cases op with
 | move x=>simp only[vcR,hv x (by simp[Op.operands]),G x (by simp[Op.operands])]
 | assign x=>simp only[vcR,hv x (by simp[Op.operands]),G x (by simp[Op.operands])]
 | pick x y z=>simp only[vcR];rw[hv x (by simp[Op.operands]),hv y (by simp[Op.operands]),hv z (by simp[Op.operands])]
 | alloc T=>rfl
 | box T x=>simp only[vcR,hv x (by simp[Op.operands])]
 | build T parts=>simp only[vcR,λcs=>DE (P:=c.P) (T:=T) (cs:=cs) (l:=parts.toList) (λx D=>hv x (by simpa[Op.operands] using D))]
 | buildSlice T n parts=>simp only[vcR,qM (l:=parts.toList.map (·.2)) (λx D=>hv x (by simpa[Op.operands] using D))]
 | load T x =>
  have E:=hb rfl x (by simp[Op.operands]);simp only[vcR,<- G x (by simp[Op.operands])];cases hp:evA c.gl ad fr x with
  | none=>rfl
  | some p=>simp only[pM,λ(i:Bool×Nat)=>K1 (dr:=ldr c.dr c.esc dst) (ag:=i.1) (n:=i.2) (p:=p) (fr:=fr) (fr':=fr') (R:=R) (st:=st) (ds:=ds) (λt off U=>E t off (by rw[hp,U]))]
 | store T x y =>
  have E:=hb rfl x (by simp[Op.operands]);simp only[vcR,<- G x (by simp[Op.operands]),<- hv y (by simp[Op.operands])];cases hp:evA c.gl ad fr x with
  | none=>rfl
  | some p=>simp only[pM,λ(i:List IV)=>K2 (y:=i) (p:=p) (fr:=fr) (fr':=fr') (R:=R) (st:=st) (ds:=ds) (λt off U=>E t off (by rw[hp,U]))]
 | nilCheck x=>simp only[vcR,hv x (by simp[Op.operands]),G x (by simp[Op.operands])]
 | binOp o T x y T'=>simp only[vcR,hv x (by simp[Op.operands]),hv y (by simp[Op.operands])]
 | unOp o T x=>simp only[vcR,hv x (by simp[Op.operands])]
 | convert T T' x=>simp only[vcR,hv x (by simp[Op.operands])]
 | makeFunc f a b=>simp only[vcR,qM (l:=a.toList) (λx D=>hv x (by simp[Op.operands];exact .inl (by simpa using D))),qM (l:=b.toList) (λx D=>hv x (by simp[Op.operands];exact .inr (by simpa using D)))]
 | slice T x lo hi mx=>simp only[vcR,hv x (by simp[Op.operands]),zj (o:=lo) (λy J=>hv y (by simp[Op.operands,J])),zj (o:=hi) (λy J=>hv y (by simp[Op.operands,J])),
   zj (o:=mx) (λy J=>hv y (by simp[Op.operands,J]))]
 | fieldAddr T x i=>simp only[vcR,G x (by simp[Op.operands])]
 | field T x i=>simp only[vcR,hv x (by simp[Op.operands])]
 | indexAddr T x y=>simp only[vcR,hv x (by simp[Op.operands]),G x (by simp[Op.operands]),hv y (by simp[Op.operands])]
 | index T x y=>simp only[vcR,hv x (by simp[Op.operands]),hv y (by simp[Op.operands])]
 | lookup T x y ok=>simp only[vcR,hv x (by simp[Op.operands]),hv y (by simp[Op.operands])]
 | mapUpdate T x y z=>simp only[vcR,hv x (by simp[Op.operands]),hv y (by simp[Op.operands]),hv z (by simp[Op.operands])]
 | extract x i=>simp only[vcR,hv x (by simp[Op.operands])]
 | call cc =>
  obtain⟨f,args,ts⟩:=cc;cases f with
  | value f=>simp only[vcR,hv f (by simp[Op.operands,Call.operands]),qM (l:=args.toList) (λx D=>hv x (by simp[Op.operands,Call.operands];exact .inr (by simpa using D)))]
  | invoke r nm=>rfl
  | builtin b =>
   obtain⟨args⟩:=args;obtain⟨ts⟩:=ts;have A:∀x∈args,evV c.gl fr x=evV c.gl fr' x:=λx D=>hv x (by simp[Op.operands,Call.operands];exact D);cases b with
   | len =>
    match args,ts,A with
    | [x],[T],A=>simp only[vcR,A x (by simp)]
    | [],_,_=>rfl
    | _::_::_,_,_=>rfl
    | [_],[],_=>rfl
    | [_],_::_::_,_=>rfl
   | append =>
    match args,ts,A with
    | [x,y],[T,T'],A=>simp only[vcR,A x (by simp),A y (by simp)]
    | [],_,_=>rfl
    | [_],_,_=>rfl
    | _::_::_::_,_,_=>rfl
    | [_,_],[],_=>rfl
    | [_,_],[_],_=>rfl
    | [_,_],_::_::_::_,_=>rfl
   | cap =>
    match args,ts,A with
    | [x],[T],A=>simp only[vcR,A x (by simp)]
    | [],_,_=>rfl
    | _::_::_,_,_=>rfl
    | [_],[],_=>rfl
    | [_],_::_::_,_=>rfl
   | clear =>
    match args,ts,A with
    | [x],[T],A=>simp only[vcR,A x (by simp)]
    | [],_,_=>rfl
    | _::_::_,_,_=>rfl
    | [_],[],_=>rfl
    | [_],_::_::_,_=>rfl
   | max =>
    match args,A with
    | [x,y],A=>simp only[vcR,A x (by simp),A y (by simp)]
    | [],_=>rfl
    | [_],_=>rfl
    | _::_::_::_,_=>rfl
   | min =>
    match args,A with
    | [x,y],A=>simp only[vcR,A x (by simp),A y (by simp)]
    | [],_=>rfl
    | [_],_=>rfl
    | _::_::_::_,_=>rfl
   | _=>rfl
 | defer cc =>
  obtain⟨f,args,ts⟩:=cc;cases f with
  | value f=>simp only[vcR,hv f (by simp[Op.operands,Call.operands]),qM (l:=args.toList) (λx D=>hv x (by simp[Op.operands,Call.operands];exact .inr (by simpa using D)))]
  | _=>rfl
 | makeMap T r=>cases r<;>rfl
 | insert T x y z=>simp only[vcR,hv x (by simp[Op.operands]),hv y (by simp[Op.operands]),hv z (by simp[Op.operands])]
 | makeSlice T x y=>simp only[vcR,hv x (by simp[Op.operands]),hv y (by simp[Op.operands])]
 | range T x=>simp only[vcR,hv x (by simp[Op.operands])]
 | next x b=>cases b<;>simp only[vcR,hv x (by simp[Op.operands])]
 | entry x=>simp only[vcR,hv x (by simp[Op.operands])]
 | _=>rfl
def gv (c:Cf)(ops:List Oper)(o:Oper)(R:Rt)(ad:Ad)(fr:Fr)(st:ISt)(ds:List Dfd):Prop :=
 match o.guard with
 | none=>vcR c o.dst o.op R ad fr st ds
 | some (j,A)=>match ji ops j with
  | some d=>match fr d with
   | .iv (.raw (.bool b))=>if b=A then vcR c o.dst o.op R ad fr st ds else R (.val (.raw undef)) st ds
   | .iv (.raw (.tuple _))=>R (.val (.raw undef)) st ds
   | _=>False
  | none=>False
def jP (c:Cf)(ops:List Oper)(o:Oper)(K:Kt):Kt:=λad fr st ds=>gv c ops o (finK o.dst K ad fr) ad fr st ds
def vcK (c:Cf)(ops:List Oper):List Oper->Kt->Kt
 | [],K=>K
 | o::l,K=>jP c ops o (vcK c ops l K)
def DG {c:Cf}{ops l A:List Oper}{K:Kt}:vcK c ops (l++A) K=vcK c ops l (vcK c ops A K):=by
 induction l with
 | nil=>rfl
 | cons o l D=>rw[fq,vcK,vcK,D]
def DH {c:Cf}{ops:List Oper}{Q:Fr->ISt->List Dfd->Prop}:∀ {l:List Oper} {ad:Ad} {fr:Fr} {st:ISt} {ds:List Dfd},gY c ops l Q ad fr st ds->vcK c ops l (λ_ fr st ds=>Q fr st ds) ad fr st ds
 | [],_,_,_,_,h=>h
 | o::l,ad,fr,st,ds,h=>by
  have G:∀ad fr st ds,gY c ops l Q ad fr st ds->vcK c ops l (λ_ fr st ds=>Q fr st ds) ad fr st ds:=λ_ _ _ _=>DH;have A:∀pr st ds,finK o.dst (gY c ops l Q) ad fr pr st ds->finK o.dst (vcK c ops l (λ_ fr st ds=>Q fr st ds)) ad fr pr st ds:=by
   intro pr st ds;cases pr<;>cases o.dst<;>simp only[finK]<;>first|exact G _ _ _ _|exact id|(split<;>first|exact id|exact G _ _ _ _)
  unfold gY at h;change gv c ops o (finK o.dst (vcK c ops l (λ_ fr st ds=>Q fr st ds)) ad fr) ad fr st ds;unfold gv;split at h
  ·rename_i E;rw[E];exact qK A h
  ·rename_i j D E;rw[E];simp only[ji];cases hd:(ops[j]?).bind (·.dst) with
   | none=>rw[hd] at h;exact h.elim
   | some d =>
    rw[hd] at h;simp only at h ⊢;cases hs:fr d with
    | box cs=>rw[hs] at h;exact h.elim
    | iv x =>
     cases x with
     | raw v =>
      cases v with
      | bool b =>
       rw[hs,CT fr d D b _ _ _ _ hs] at h;simp only;split
       ·exact qK A (h.1 ‹_›)
       ·have J:b=!D:=by cases b<;>cases D<;>simp_all
        exact A _ _ _ (h.2 J)
      | tuple t =>
       rw[hs] at h;exact A _ _ _ h
      | _=>rw[hs] at h;exact h.elim
     | _=>rw[hs] at h;exact h.elim
def sY {c:Cf}{ops:List Oper}{o:Oper}{R R':Rt}(h:∀pr st ds,R pr st ds->R' pr st ds){ad:Ad}{fr:Fr}{st:ISt}{ds:List Dfd}:gv c ops o R ad fr st ds->gv c ops o R' ad fr st ds:=by
 unfold gv;split
 ·exact qK h
 ·split
  ·split
   ·split
    ·exact qK h
    ·exact h _ _ _
   ·exact h _ _ _
   ·exact id
  ·exact id
def K4 {c:Cf}(D:c.dr=true){ops:List Oper}{o:Oper}{ad:Ad}{fr:Fr}(hp:nh c.esc o.dst o.op=true):Lin (λR st ds=>gv c ops o R ad fr st ds):=by
 cases A:o.guard with
 | none=>simp only[gv,A];exact zh D hp
 | some p =>
  obtain⟨j,E⟩:=p;cases hd:ji ops j with
  | none=>simp only[gv,A,hd];exact fV
  | some d =>
   cases hs:fr d with
   | box cs=>simp only[gv,A,hd,hs];exact fV
   | iv x =>
    cases x with
    | raw v =>
     cases v with
     | bool b=>simp only[gv,A,hd,hs];exact kT (zh D hp) (gy _)
     | tuple t=>simp only[gv,A,hd,hs];exact gy _
     | _=>simp only[gv,A,hd,hs];exact fV
    | _=>simp only[gv,A,hd,hs];exact fV
def Kept (st st':ISt):Prop:=∀b cs,st b=some (.box cs)->st' b=some (.box cs)
def Kept.refl (st:ISt):Kept st st:=λ_ _ h=>h
def LinS (st:ISt)(F:Rt->ISt->List Dfd->Prop):Prop:=(∃pr,(∀R ds,F R st ds↔R pr st ds)/\∀st',Kept st st'->∀R ds,R pr st' ds->F R st' ds)\/(∀R ds,¬ F R st ds)
def l7 {F:Rt->ISt->List Dfd->Prop}(h:Lin F)(st:ISt):LinS st F:=by
 rcases h with⟨pr,h⟩|h
 ·exact .inl ⟨pr,λR ds=>h R st ds,λst' _ R ds A=>(h R st' ds).2 A⟩
 ·exact .inr λR ds=>h R st ds
def K5 {c:Cf}{dst:Option Nat}{T:TypeId}{x:Operand}{ad:Ad}{fr:Fr}(st:ISt):LinS st (λR st ds=>vcR c dst (.load T x) R ad fr st ds):=by
 simp only[vcR];cases tyI c.P T with
 | none=>exact l7 fV st
 | some i =>
  cases evA c.gl ad fr x with
  | none=>exact l7 fV st
  | some p =>
   simp only[pM];cases p with
   | box t off=>exact l7 (DA λ_=>fQ λ_=>gy _) st
   | cp y=>exact l7 (kT (gy _) fV) st
   | ptr b off =>
    simp only[kP];cases hl:ldr c.dr c.esc dst with
    | true=>simp only[el];exact l7 fV st
    | false =>
     simp only[bFt,et];cases A:st b with
     | none=>exact .inr λR ds h=>by simp only[A] at h;exact h
     | some o =>
      cases o with
      | box cs =>
       cases hp:iB i.1 i.2 cs off with
       | none=>exact .inr λR ds h=>by simp only[A,pM,obV,hp] at h;exact h
       | some y=>exact .inl ⟨.val y,λR ds=>by simp only[A,pM,obV,hp],λst' E R ds D=>by simp only[E b cs A,pM,obV,hp];exact D⟩
      | _=>exact .inr λR ds h=>by simp only[A,pM,obV] at h
def DI {c:Cf}(A:c.dr=true){dst:Option Nat}{op:Op}{ad:Ad}{fr:Fr}(hp:jq c.esc dst op=true)(st:ISt):LinS st (λR st ds=>vcR c dst op R ad fr st ds):=by
 unfold jq at hp;rw[iN] at hp;rcases hp with hp|hp
 ·exact l7 (zh A hp) st
 ·cases op<;>first|exact K5 st|cases hp
def zk {c:Cf}(E:c.dr=true){ops:List Oper}{o:Oper}{ad:Ad}{fr:Fr}(hp:jq c.esc o.dst o.op=true)(st:ISt):LinS st (λR st ds=>gv c ops o R ad fr st ds):=by
 cases A:o.guard with
 | none=>simp only[gv,A];exact DI E hp st
 | some p =>
  obtain⟨j,D⟩:=p;cases hd:ji ops j with
  | none=>simp only[gv,A,hd];exact l7 fV st
  | some d =>
   cases hs:fr d with
   | box cs=>simp only[gv,A,hd,hs];exact l7 fV st
   | iv x =>
    cases x with
    | raw v =>
     cases v with
     | bool b =>
      simp only[gv,A,hd,hs];by_cases G:b=D
      ·simp only[c_ G];exact DI E hp st
      ·simp only[a_ G];exact l7 (gy _) st
     | tuple t=>simp only[gv,A,hd,hs];exact l7 (gy _) st
     | _=>simp only[gv,A,hd,hs];exact l7 fV st
    | _=>simp only[gv,A,hd,hs];exact l7 fV st
def appQ (esc:List Nat)(dst:Option Nat):Op->Bool
 | .call ⟨.builtin .append,⟨[_,_]⟩,⟨[_,_]⟩⟩=>sL esc dst
 | _=>false
def Kept.new {st:ISt}{g:Nat}(D:st g=none)(o:Option IObj):Kept st (st.put g o):=λb cs A=>by
 rw[ISt.put_apply];split
 ·rename_i h;subst h;rw[D] at A;cases A
 ·exact A
def Kept.front {st:ISt}{g₀ g n s:Nat}(h0:st g₀=some (.front n s))(D:g=g₀\/st g=none)(o:Option IObj):Kept st ((st.put g₀ none).put g o):=λb cs A=>by
 have h1:b≠g₀:=by rintro rfl;rw[h0] at A;cases A
 have h2:b≠g:=by
  rintro rfl;rcases D with rfl|D
  ·exact h1 rfl
  ·rw[D] at A;cases A
 rw[ISt.put_apply,a_ h2,ISt.put_apply,a_ h1];exact A
def K6 {esc:List Nat}{dst:Option Nat}{e:TypeId×Bool×Nat×Nat}{E:Tag}{J ys:List IV}{R:Rt}{st:ISt}{ds:List Dfd}(h:appV esc dst e E J ys R st ds) :
  appV esc dst e E J ys (λpr st' ds=>R pr st' ds/\Kept st st') st ds:=by
 obtain⟨h1,h2,A⟩:=h;refine⟨h1,h2,?_⟩;cases hc:E.cap with
 | none =>
  rw[hc] at A;cases ys with
  | nil=>exact⟨A,Kept.refl _⟩
  | cons y ys=>exact A.elim
 | nil =>
  rw[hc] at A;cases ys with
  | nil=>exact⟨A,Kept.refl _⟩
  | cons y ys =>
   by_cases O:jc esc dst=true
   ·simp only[c_ O] at A ⊢;exact λg cap D=>⟨A g cap D,Kept.new D.1 _⟩
   ·simp only[a_ O] at A ⊢;exact λg D=>⟨A g D,Kept.new D _⟩
 | full =>
  rw[hc] at A;obtain⟨G,A⟩:=A;refine⟨G,?_⟩;cases ys with
  | nil=>exact⟨A,Kept.refl _⟩
  | cons y ys=>exact λg D=>⟨A g D,Kept.new D _⟩
 | app g₀ =>
  rw[hc] at A;obtain⟨G,U,A⟩:=A;exact⟨G,U,λg D=>⟨A g D,Kept.front U D _⟩⟩
def DJ {c:Cf}{dst:Option Nat}{op:Op}{R:Rt}{ad:Ad}{fr:Fr}{st:ISt}{ds:List Dfd}(A:appQ c.esc dst op=true)(h:vcR c dst op R ad fr st ds) :
  vcR c dst op (λpr st' ds=>R pr st' ds/\Kept st st') ad fr st ds:=by
 unfold appQ at A;split at A
 ·simp only[vcR] at h ⊢;refine jk (λe=>?_) h;refine za ?_ ?_
  ·refine jk λs=>vu (λE G=>jk λy=>vt λ_ ys h=>K6 h) λb off n cap=>jk λy=>vu (λ_ ys h=>?_) (λ_ _ _ _ h=>?_)
   all_goals (unfold qO at h;rw[c_ A] at h;exact h.elim)
  ·refine jk λs=>vt λE _=>jk λy=>vr λ_ m h=>?_;obtain⟨h1,h2⟩:=h;exact⟨h1,λg cap D=>⟨h2 g cap D,Kept.new D.1 _⟩⟩
 ·cases A
def K7 {c:Cf}{ops:List Oper}{o:Oper}{R:Rt}{ad:Ad}{fr:Fr}{st:ISt}{ds:List Dfd}(D:appQ c.esc o.dst o.op=true)(h:gv c ops o R ad fr st ds) :
  gv c ops o (λpr st' ds=>R pr st' ds/\Kept st st') ad fr st ds:=by
 unfold gv at h ⊢;split at h
 ·exact DJ D h
 ·split at h
  ·split at h
   ·split at h
    ·rename_i A;rw[c_ A];exact DJ D h
    ·rename_i A;rw[a_ A];exact⟨h,Kept.refl _⟩
   ·exact⟨h,Kept.refl _⟩
   ·exact h.elim
  ·exact h.elim
def oT (ops:List Oper)(o:Oper)(fr fr':Fr):Prop:=∀j A d,o.guard=some (j,A)->ji ops j=some d->fr d=fr' d\/(∃cs cs',fr d=.box cs/\fr' d=.box cs')
def qN {c:Cf}{ops:List Oper}{o:Oper}{R:Rt}{ad D:Ad}{fr fr':Fr}{st:ISt}{ds:List Dfd}(h:SameAt c o.op ad D fr fr')(G:oT ops o fr fr'):gv c ops o R ad fr st ds=gv c ops o R D fr' st ds:=by
 unfold gv;rw[K3 h];cases E:o.guard with
 | none=>rfl
 | some p =>
  obtain⟨j,A⟩:=p;cases hd:ji ops j with
  | none=>simp only[hd]
  | some d =>
   simp only[hd];rcases G j A d E hd with J|⟨cs,cs',h1,h2⟩
   ·rw[J]
   ·rw[h1,h2]
structure Fine (c:Cf)(op:Op)(ad:Ad)(fr:Fr)(pr:PR):Prop where
 isA:∀t off,pr=.adr t off->c.dr=true->qL op=true
 adr:∀t off,pr=.adr t off->∃x∈op.operands,∃off',evA c.gl ad fr x=some (.box t off')
 sto:∀t cs,pr=.sto t cs->nk op=true/\(∃cs0,fr t=.box cs0)/\∃x∈op.operands,∃off',evA c.gl ad fr x=some (.box t off')
 stoA:∀t cs,pr=.sto t cs->∀T a v,op=.store T a v->∃off',evA c.gl ad fr a=some (.box t off')
def kI {c:Cf}{op:Op}{ad:Ad}{fr:Fr}{x:IV}:Fine c op ad fr (.val x):=⟨(λ_ _ h=>by cases h),(λ_ _ h=>by cases h),(λ_ _ h=>by cases h),(λ_ _ h=>by cases h)⟩
def K8 {c:Cf}{op:Op}{ad:Ad}{fr:Fr}{x:List IV}:Fine c op ad fr (.box x):=⟨(λ_ _ h=>by cases h),(λ_ _ h=>by cases h),(λ_ _ h=>by cases h),(λ_ _ h=>by cases h)⟩
def DK {c:Cf}{op:Op}{ad:Ad}{fr:Fr}:Fine c op ad fr .nop:=⟨(λ_ _ h=>by cases h),(λ_ _ h=>by cases h),(λ_ _ h=>by cases h),(λ_ _ h=>by cases h)⟩
def zl {c:Cf}{op:Op}{R:Rt}{ad:Ad}{fr:Fr}{st:ISt}{ds:List Dfd}{x:Operand}{p:Pl}(A:¬ c.dr=true)(E:x∈op.operands)(hp:evA c.gl ad fr x=some p):plR p R st ds->plR p (λpr st ds=>R pr st ds/\Fine c op ad fr pr) st ds:=by
 cases p with
 | box t off=>exact λh=>⟨h,⟨(λ_ _ _ h0=>(A h0).elim),λJ D G=>by cases G;exact⟨x,E,off,hp⟩,(λ_ _ h=>by cases h),(λ_ _ h=>by cases h)⟩⟩
 | ptr b off=>exact λh=>⟨h,kI⟩
 | cp y=>exact λh=>⟨h,kI⟩
def DL {c:Cf}{op:Op}{R:Rt}{ad:Ad}{fr:Fr}{st:ISt}{ds:List Dfd}{x:Operand}(A:x∈op.operands)(o:Option IV) :
  lB c.dr o (evA c.gl ad fr x) R st ds->lB c.dr o (evA c.gl ad fr x) (λpr st ds=>R pr st ds/\Fine c op ad fr pr) st ds:=by
 unfold lB;split
 ·exact λh=>⟨h,kI⟩
 ·split
  ·exact id
  ·intro h;obtain⟨p,hp,h⟩:=yQ3.1 h;exact yQ3.2 ⟨p,hp,zl ‹_› A hp h⟩
set_option maxHeartbeats 1000000 in
def DM {c:Cf}{dst:Option Nat}{op:Op}{R:Rt}{ad:Ad}{fr:Fr}{st:ISt}{ds:List Dfd}:vcR c dst op R ad fr st ds->vcR c dst op (λpr st ds=>R pr st ds/\Fine c op ad fr pr) ad fr st ds:=by
 by_cases h1:∃x,op=.move x\/op=.assign x
 ·obtain⟨x,rfl|rfl⟩:=h1
  ·exact DL (by simp[Op.operands]) _
  ·exact DL (by simp[Op.operands]) _
 by_cases h2:∃x,op=.nilCheck x
 ·obtain⟨x,rfl⟩:=h2;simp only[vcR,nilV];split
  ·exact kS (λh=>⟨h,kI⟩) id
  ·exact λh=>⟨h,kI⟩
  ·split
   ·exact λh=>⟨h,kI⟩
   ·intro h;obtain⟨p,hp,h⟩:=yQ3.1 h;exact yQ3.2 ⟨p,hp,zl ‹_› (by simp[Op.operands]) hp h⟩
  ·split
   ·exact id
   ·intro h;obtain⟨p,hp,h⟩:=yQ3.1 h;exact yQ3.2 ⟨p,hp,zl ‹_› (by simp[Op.operands]) hp h⟩
 by_cases h3:∃T x i,op=.fieldAddr T x i
 ·obtain⟨T,x,i,rfl⟩:=h3;simp only[vcR];refine jk λf=>λh=>?_;obtain⟨p,hp,h⟩:=yQ3.1 h;refine yQ3.2 ⟨p,hp,?_⟩;cases p with
  | box t off=>exact⟨h,⟨(λ_ _ _ _=>rfl),λE D A=>by cases A;exact⟨x,by simp[Op.operands],off,hp⟩,(λ_ _ h=>by cases h),(λ_ _ h=>by cases h)⟩⟩
  | ptr b off=>exact⟨h,kI⟩
  | cp y=>exact vv (λ_=>jk λ_=>kS (λh=>⟨h,kI⟩) id) h
 by_cases U:∃T x y,op=.indexAddr T x y
 ·obtain⟨T,x,y,rfl⟩:=U;simp only[vcR];refine jk λ_=>vr λ_ j=>jk λk=>?_;cases k with
  | sl=>exact jk λ_=>jk λ_=>y_ (λ_ _=>kS (kS (jk λ_=>λh=>⟨h,kI⟩) id) id) (λ_ _ _=>kS (λh=>⟨h,kI⟩) id)
  | arr n =>
   refine jk λ_=>λh=>?_;obtain⟨p,hp,h⟩:=yQ3.1 h;refine yQ3.2 ⟨p,hp,kS (kS ?_ id) id h⟩;cases p with
   | box t off=>exact λh=>⟨h,⟨(λ_ _ _ _=>rfl),λE D A=>by cases A;exact⟨x,by simp[Op.operands],off,hp⟩,(λ_ _ h=>by cases h),(λ_ _ h=>by cases h)⟩⟩
   | ptr b off=>exact λh=>⟨h,kI⟩
   | cp y=>exact vv (λ_=>jk λ_=>kS (λh=>⟨h,kI⟩) id)
  | str=>exact id
  | map=>exact id
 by_cases O:∃T x y,op=.store T x y
 ·obtain⟨T,x,y,rfl⟩:=O;simp only[vcR];refine jk λ_=>jk λ_=>yZ λh=>?_;obtain⟨p,hp,h⟩:=yQ3.1 h;refine yQ3.2 ⟨p,hp,?_⟩;revert h;cases p with
  | box t off =>
   simp only[mz];cases hf:fr t with
   | box cs=>exact kS (λh=>⟨h,⟨(λ_ _ h=>by cases h),(λ_ _ h=>by cases h),(λE cs' A=>by cases A;exact⟨rfl,⟨cs,hf⟩,x,by simp[Op.operands],off,hp⟩),λE cs' A T' a' v' ho=>by cases A;cases ho;exact⟨off,hp⟩⟩⟩) id
   | iv x=>exact id
  | ptr b off=>exact jk λ_=>y8 λ_=>kS (λh=>⟨h,DK⟩) id
  | cp y=>exact id
 have hv:∀x st ds,R (.val x) st ds->R (.val x) st ds/\Fine c op ad fr (.val x):=λx st ds h=>⟨h,kI⟩
 have J:∀x st ds,R (.box x) st ds->R (.box x) st ds/\Fine c op ad fr (.box x):=λx st ds h=>⟨h,K8⟩
 have G:∀st ds,R .nop st ds->R .nop st ds/\Fine c op ad fr .nop:=λst ds h=>⟨h,DK⟩
 generalize Fine c op ad fr=F at hv J G ⊢;unfold vcR;split
 all_goals first
  | exact absurd ⟨_,.inl rfl⟩ h1|exact absurd ⟨_,.inr rfl⟩ h1|exact absurd ⟨_,rfl⟩ h2|exact absurd ⟨_,_,_,rfl⟩ h3|exact absurd ⟨_,_,_,rfl⟩ U|exact absurd ⟨_,_,_,rfl⟩ O
  | repeat (first
   | exact hv _ _ _|exact J _ _ _|exact G _ _|exact id
   | refine jk λ_=>?_|refine yZ ?_|refine Dk ?_|refine Dl ?_|refine Dm λ_=>?_|refine y7 ?_ ?_|refine Dn ?_ ?_|refine kS ?_ ?_
   | refine Dp λ_=>?_|refine y8 λ_=>?_|refine Dq λ_ _=>?_|refine vr λ_ _=>?_|refine y9 λ_=>?_|refine vt λ_ _=>?_|refine y_ (λ_ _=>?_) (λ_ _ _=>?_)|refine vu (λ_ _=>?_) (λ_ _ _ _=>?_)|refine za ?_ ?_
   | refine vv λ_=>?_|refine Dr λ_=>?_|refine zb λ_ _ _=>?_|refine Ds λ_=>?_|refine Dy λ_=>?_|refine Dt λ_=>?_|refine Du λ_=>?_|refine Dv λ_ _ _ _=>?_|refine Dw λ_ _=>?_|refine Dx ?_ (λ_ _=>?_)
   | (refine λhh=>callV.mono hh λ_ _=>?_;unfold mB)
   | unfold nI|unfold lX|unfold nJ|unfold kP|unfold lE|unfold arrV|unfold oM|unfold qE|unfold oN|unfold ve|unfold vf|unfold vg|unfold lenV|unfold appV|unfold qO|unfold appO|unfold appR|unfold appZ|unfold capV|unfold qD|unfold pP|unfold nN
   | split)
def kU (ad:Ad)(d:Nat):Prop:=∀x t off,ad x=some (t,off)->t≠d
def K9 {ad:Ad}{d:Nat}(h:kU ad d)(s:Nat):Ad.keep d (ad s)=ad s:=by
 cases A:ad s with
 | none=>rfl
 | some p =>
  obtain⟨t,off⟩:=p;simp only[Ad.keep,a_ (h s t off A)]
def zm {c:Cf}{ad:Ad}{fr:Fr}{x:Operand}{t off d:Nat}(h:evA c.gl ad fr x=some (.box t off))(U:kU ad d)(J:x≠.tmp d):t≠d:=by
 cases x with
 | tmp y =>
  simp only[evA] at h;cases D:ad y with
  | some p =>
   obtain⟨G,A⟩:=p;rw[D] at h;simp only[plAd,ee,Pl.box.injEq] at h;exact h.1▸U y G A D
  | none =>
   rw[D] at h;simp only[plAd] at h;cases E:fr y with
   | box cs =>
    rw[E] at h;simp only[plOf,ee,Pl.box.injEq] at h;rintro rfl;exact J (by rw[h.1])
   | iv z =>
    rw[E] at h;exfalso;cases z with
    | raw u =>
     cases u with
     | pointer p =>
      cases p with
      | none=>cases h
      | some p =>
       obtain⟨pb,po,ps⟩:=p;cases ps<;>cases h
     | _=>cases h
    | _=>cases h
 | global g=>simp only[evA] at h;cases O:c.gl g<;>rw[O] at h<;>cases h
 | const v=>cases h
 | func f=>cases h
def K_ {c:Cf}{op:Op}{ad:Ad}{fr:Fr}{d:Nat}{a:Option (Nat×Nat)}{s:SV}(hd:∀x∈op.operands,x≠.tmp d)(E:kU ad d):SameAt c op ad (ad.put d a) fr (fr.put d s):=by
 refine⟨λx A=>?_,λx A=>?_,λ_ x A t off G=>?_⟩
 ·cases x with
  | tmp y=>rw[qB,qB,Fr.put_apply,a_ (λh=>hd _ A (by rw[h]))]
  | _=>rfl
 ·cases x with
  | tmp y =>
   have D:y≠d:=λh=>hd _ A (by rw[h]);simp only[evA,Ad.put_apply,a_ D,K9 E];cases ad y with
   | none=>simp only[plAd,Fr.put_apply,a_ D]
   | some p=>rfl
  | _=>rfl
 ·rw[Fr.put_apply,a_ (zm G E (hd x A))]
def La {c:Cf}{op:Op}{ad:Ad}{fr:Fr}{t:Nat}{cs cs':List IV}(ht:fr t=.box cs)(h:(oS op || nk op)=false):SameAt c op ad ad fr (fr.put t (.box cs')):=by
 refine⟨λx _=>?_,λx _=>?_,λD=>by rw[h] at D;cases D⟩
 ·cases x with
  | tmp y =>
   rw[qB,qB,Fr.put_apply];split
   ·rename_i A;rw[A,ht];rfl
   ·rfl
  | _=>rfl
 ·cases x with
  | tmp y =>
   simp only[evA];cases ad y with
   | none =>
    simp only[plAd,Fr.put_apply];split
    ·rename_i A;rw[A,ht];rfl
    ·rfl
   | some p=>rfl
  | _=>rfl
def Lb {ops:List Oper}{o:Oper}{fr:Fr}{d:Nat}{s:SV}(h:d ∉ looks ops o):oT ops o fr (fr.put d s):=by
 intro j A e D E;refine .inl ?_;rw[Fr.put_apply,a_];rintro rfl;exact h (jI _ (by rw[D];simp[E]))
def DN {ops:List Oper}{o:Oper}{fr:Fr}{t:Nat}{cs cs':List IV}(ht:fr t=.box cs):oT ops o fr (fr.put t (.box cs')):=by
 intro j D e _ _;rw[Fr.put_apply];by_cases A:e=t
 ·rw[c_ A,A];exact .inr ⟨cs,cs',ht,rfl⟩
 ·rw[a_ A];exact .inl rfl
def sZ {ops:List Oper}{o:Oper}{d:Nat}(h:d ∉ looks ops o):∀x∈o.op.operands,x≠.tmp d:=by
 rintro x A rfl;exact h (jH _ (List.mem_filterMap.2 ⟨.tmp d,by simpa using A,rfl⟩))
def after (dst:Option Nat)(pr:PR)(ad:Ad)(fr:Fr):Option (Ad×Fr) :=
 match pr,dst with
 | .val x,some d=>some (ad.put d none,fr.put d x)
 | .val _,none=>some (ad,fr)
 | .adr t off,some d=>if d=t then none else some (ad.put d (some (t,off)),fr.put d (.iv .junk))
 | .adr _ _,none=>some (ad,fr)
 | .box cs,some d=>some (ad.put d none,fr.put d (.box cs))
 | .box _,none=>none
 | .sto _ _,some _=>none
 | .sto t cs,none=>some (ad,fr.put t (.box cs))
 | .nop,some _=>none
 | .nop,none=>some (ad,fr)
def yZg {dst:Option Nat}{K:Kt}{ad:Ad}{fr:Fr}{pr:PR}{st:ISt}{ds:List Dfd}:finK dst K ad fr pr st ds↔∃p,after dst pr ad fr=some p/\K p.1 p.2 st ds:=by
 cases pr<;>cases dst<;>simp only[finK,after,ee,exists_eq_left',reduceCtorEq,false_and,exists_false];split<;>simp
def qP {c:Cf}{ops:List Oper}{o:Oper}{R:Rt}{ad:Ad}{fr:Fr}{st:ISt}{ds:List Dfd}(h:gv c ops o R ad fr st ds):gv c ops o (λpr st ds=>R pr st ds/\Fine c o.op ad fr pr) ad fr st ds:=by
 unfold gv at *;split
 ·exact DM (by simpa[*] using h)
 ·rename_i j D E;rw[E] at h;simp only at h;split at h
  ·rename_i d hd;cases hs:fr d with
   | box cs=>rw[hs] at h;exact h.elim
   | iv x =>
    cases x with
    | raw v =>
     cases v with
     | bool b =>
      rw[hs] at h;simp only at h ⊢;split
      ·rename_i A;rw[c_ A] at h;exact DM h
      ·rename_i A;rw[a_ A] at h;exact⟨h,kI⟩
     | tuple t=>rw[hs] at h;exact⟨h,kI⟩
     | _=>rw[hs] at h;exact h.elim
    | _=>rw[hs] at h;exact h.elim
  ·exact h.elim
structure Ap (c:Cf)(ops:List Oper)(x y:Oper):Prop where
 pure:jq c.esc x.dst x.op=true\/jq c.esc y.dst y.op=true
 ls:oS x.op=true->nk y.op=true->stOk ops y x=true
 sl:nk x.op=true->oS y.op=true->stOk ops x y=true
 d:∀d,x.dst=some d->d ∉ looks ops y/\y.dst≠some d
 e:∀d,y.dst=some d->d ∉ looks ops x
def Ap.symm {c:Cf}{ops:List Oper}{x y:Oper}(h:Ap c ops x y):Ap c ops y x :=
 ⟨h.pure.symm,λa b=>h.sl b a,λa b=>h.ls b a,λd hd=>⟨h.e d hd,λA=>(h.d d A).2 hd⟩,λd hd=>(h.d d hd).1⟩
def Lc {esc:List Nat}{dst:Option Nat}{op:Op}(h:nh esc dst op=true):nk op=false:=by
 cases op<;>first|rfl|simp[nh] at h
def vD {esc:List Nat}{dst:Option Nat}{op:Op}(h:jq esc dst op=true):nk op=false:=by
 unfold jq at h;rw[iN] at h;rcases h with h|h
 ·exact Lc h
 ·cases op<;>first|rfl|cases h
def Ld {c:Cf}{ops:List Oper}{x y:Oper}(h:zd c.esc ops x y=true):Ap c ops x y:=by
 unfold zd at h;simp only[bAt,iN,mg,Bool.and_eq_false_iff] at h;obtain⟨⟨⟨⟨h1,h2⟩,D⟩,A⟩,E⟩:=h;refine⟨h1,λa b=>by rcases h2 with h2|h2<;>simp_all,λa b=>by rcases D with D|D<;>simp_all,λd hd=>?_,λd hd=>?_⟩
 ·rw[hd] at A;simp only[bAt,mg] at A;exact⟨by simpa using A.1,by simpa using A.2⟩
 ·rw[hd] at E;simpa using E
def Safe (ops:List Oper)(ad:Ad):Prop:=∀e,vw ops e=true->kU ad e/\ad e=none
def Le (ops:List Oper):Safe ops Ad.none_:=λ_ _=>⟨λ_ _ _ h=>(by cases h),rfl⟩
def DO {ops:List Oper}{e:Nat}(h:vw ops e=true){o:Oper}(A:o∈ops)(D:qL o.op=true):e ∉ looks ops o/\o.dst≠some e:=by
 unfold vw at h;have:=fZ.1 h o A;rw[D] at this;simp only[nD,Bool.false_or,bAt,mg] at this;exact⟨by simpa using this.1,by simpa using this.2⟩
def qQ {c:Cf}{ops:List Oper}{x y:Oper}(h:Ap c ops x y){ad:Ad}(ae:Safe ops ad){fr:Fr}{pr:PR}{p:Ad×Fr}(hb:∀d,x.dst=some d->kU ad d)(hf:Fine c x.op ad fr pr)(E:after x.dst pr ad fr=some p) :
  SameAt c y.op ad p.1 fr p.2/\oT ops y fr p.2:=by
 have refl:SameAt c y.op ad ad fr fr/\oT ops y fr fr:=⟨⟨λ_ _=>rfl,λ_ _=>rfl,λ_ _ _ _ _ _=>rfl⟩,λ_ _ _ _ _=>.inl rfl⟩
 cases G:x.dst with
 | none =>
  rw[G] at E;cases pr with
  | sto t cs =>
   simp only[after,ee] at E;subst E;obtain⟨hs,⟨am,ht⟩,_⟩:=hf.sto t cs rfl;have hst:nk y.op=false:=by
    rcases h.pure with hp|hp
    ·rw[vD hp] at hs;cases hs
    ·exact vD hp
   cases hl:oS y.op with
   | false=>exact⟨La ht (by rw[hl,hst];rfl),DN ht⟩
   | true =>
    have D:=h.sl hs hl;unfold stOk at D;split at D
    ·rename_i T e v ab;rw[bAt] at D;obtain⟨ag,J⟩:=ae e D.1;have U:e ∉ looks ops y:=by simpa using D.2
     obtain⟨off,A⟩:=hf.stoA t cs rfl T _ v ab;have ac:t=e:=by
      simp only[evA,J,plAd] at A;cases aa:fr e with
      | box al=>rw[aa] at A;simp only[plOf,ee,Pl.box.injEq] at A;exact A.1.symm
      | iv x1 =>
       rw[aa] at A;unfold plOf at A;split at A<;>first|(cases A;done)|(cases A;rfl)
     subst ac;show SameAt c y.op ad ad fr (fr.put t (.box cs))/\oT ops y fr (fr.put t (.box cs));refine⟨⟨λx G=>?_,λx G=>?_,λ_ x G t2 ai ah=>?_⟩,DN ht⟩
     ·have O:=sZ U x G;cases x with
      | tmp q =>
       rw[qB,qB,Fr.put_apply,a_ λhq=>O (by rw[hq])]
      | _=>rfl
     ·have O:=sZ U x G;cases x with
      | tmp q =>
       simp only[evA];cases ad q with
       | none=>simp only[plAd];rw[Fr.put_apply,a_ λhq=>O (by rw[hq])]
       | some p=>rfl
      | _=>rfl
     ·rw[Fr.put_apply,a_ (zm ah ag (sZ U x G))]
    ·cases D
  | _=>simp only[after,ee,reduceCtorEq] at E<;>subst E<;>exact refl
 | some d =>
  rw[G] at E;have hd:=h.d d G;have key:∀a s,SameAt c y.op ad (ad.put d a) fr (fr.put d s)/\oT ops y fr (fr.put d s):=λa s=>⟨K_ (sZ hd.1) (hb d G),Lb hd.1⟩
  cases pr with
  | adr t off =>
   simp only[after] at E;split at E
   ·cases E
   ·cases E;exact key _ _
  | _=>simp only[after,ee,reduceCtorEq] at E<;>subst E<;>exact key _ _
def vE {fr:Fr}{d e:Nat}{s t:SV}(h:d≠e):(fr.put d s).put e t=(fr.put e t).put d s:=by
 funext x;simp only[Fr.put_apply];by_cases h1:x=e
 ·rw[c_ h1,a_ (λh2=>h (by rw[<- h2,h1])),c_ h1]
 ·rw[a_ h1,a_ h1]
def Lf {d e:Nat}(o:Option (Nat×Nat)):Ad.keep d (Ad.keep e o)=Ad.keep e (Ad.keep d o):=by
 cases o with
 | none=>rfl
 | some p =>
  obtain⟨t,off⟩:=p;by_cases h1:t=e
  ·by_cases h2:t=d
   ·simp only[Ad.keep,c_ h1,c_ h2]
   ·simp only[Ad.keep,c_ h1,a_ h2]
  ·by_cases h2:t=d
   ·simp only[Ad.keep,a_ h1,c_ h2]
   ·simp only[Ad.keep,a_ h1,a_ h2]
def Lg {ad:Ad}{d e:Nat}{a b:Option (Nat×Nat)}(h:d≠e)(D:Ad.keep e a=a)(A:Ad.keep d b=b):(ad.put d a).put e b=(ad.put e b).put d a:=by
 funext x;simp only[Ad.put_apply];by_cases h1:x=e
 ·have h2:x≠d:=λh2=>h (by rw[<- h2,h1]);rw[c_ h1,a_ h2,c_ h1,A]
 ·by_cases h2:x=d
  ·rw[a_ h1,c_ h2,c_ h2,D]
  ·rw[a_ h1,a_ h2,a_ h2,a_ h1,Lf]
def s7 {c:Cf}{ops:List Oper}{y:Oper}{d:Nat}{ad:Ad}{fr:Fr}(hd:d ∉ looks ops y)(G:kU ad d){t:Nat}(h:∃x∈y.op.operands,∃A,evA c.gl ad fr x=some (.box t A)):t≠d:=by
 obtain⟨x,D,A,E⟩:=h;exact zm E G (sZ hd x D)
def s8 {d:Nat}{pr:PR}{ad:Ad}{fr:Fr}{p:Ad×Fr}(h:after (some d) pr ad fr=some p):∃a s,p=(ad.put d a,fr.put d s)/\(∀A fr',after (some d) pr A fr'=some (A.put d a,fr'.put d s)) /\
  (a=none\/∃t off,pr=.adr t off/\a=some (t,off)):=by
 cases pr with
 | val x=>cases h;exact⟨_,_,rfl,λ_ _=>rfl,.inl rfl⟩
 | box x=>cases h;exact⟨_,_,rfl,λ_ _=>rfl,.inl rfl⟩
 | adr t off =>
  simp only[after] at h;split at h
  ·cases h
  ·rename_i D;cases h;exact⟨_,_,rfl,λ_ _=>a_ D,.inr ⟨t,off,rfl,rfl⟩⟩
 | sto t cs=>cases h
 | nop=>cases h
def zn {c:Cf}{ops:List Oper}{x y:Oper}(h:Ap c ops x y){ad:Ad}{fr:Fr}{G E:PR}{p q:Ad×Fr}(ag:∀d,x.dst=some d->kU ad d)(af:∀d,y.dst=some d->kU ad d)
  (U:Fine c x.op ad fr G) (O:Fine c y.op ad fr E) (hp:after x.dst G ad fr=some p) (A:after y.dst E ad fr=some q) :
  ∃r,after y.dst E p.1 p.2=some r/\after x.dst G q.1 q.2=some r:=by
 have an:∀d t off,x.dst=some d->E=.adr t off->Ad.keep d (some (t,off))=some (t,off):=λd t off hd he=>by
  simp only[Ad.keep,a_ (s7 (h.d d hd).1 (ag d hd) (O.adr t off he))]
 have am:∀d t off,y.dst=some d->G=.adr t off->Ad.keep d (some (t,off))=some (t,off):=λd t off hd he=>by
  simp only[Ad.keep,a_ (s7 (h.e d hd) (af d hd) (U.adr t off he))]
 have aj:∀d t cs,x.dst=some d->E=.sto t cs->t≠d:=λd t cs hd he=>s7 (h.d d hd).1 (ag d hd) (O.sto t cs he).2.2;have ai:∀d t cs,y.dst=some d->G=.sto t cs->t≠d:=λd t cs hd he=>s7 (h.e d hd) (af d hd) (U.sto t cs he).2.2;have ak:∀t cs t' cs',G=.sto t cs->E=.sto t' cs'->False:=λt cs t' cs' h1 h2=>by
  have a:=(U.sto t cs h1).1;have b:=(O.sto t' cs' h2).1;rcases h.pure with A|A
  ·rw[vD A] at a;cases a
  ·rw[vD A] at b;cases b
 cases hx:x.dst with
 | none =>
  cases J:y.dst with
  | none =>
   rw[hx] at hp;rw[J] at A;cases G<;>cases E<;>simp only[after,ee,reduceCtorEq] at hp A<;>subst hp A<;>first|exact⟨_,rfl,rfl⟩|exact (ak _ _ _ _ rfl rfl).elim
  | some e =>
   rw[hx] at hp;rw[J] at A;cases G with
   | sto t cs =>
    have ht:=ai e t cs J rfl;simp only[after,ee] at hp;subst hp;cases E with
    | adr t' off =>
     simp only[after] at A;split at A
     ·cases A
     ·rename_i al;cases A;exact⟨_,a_ al,by simp only[after];rw[vE (λh=>ht h.symm)]⟩
    | _=>simp only[after,ee,reduceCtorEq] at A<;>subst A<;>exact⟨_,rfl,by simp only[after];rw[vE (λh=>ht h.symm)]⟩
   | _=>simp only[after,ee,reduceCtorEq] at hp<;>subst hp<;>exact⟨_,A,rfl⟩
 | some d =>
  rw[hx] at hp;obtain⟨a,s,rfl,D,ha⟩:=s8 hp;cases J:y.dst with
  | none =>
   rw[J] at A;cases E with
   | sto t cs =>
    have ht:=aj d t cs hx rfl;cases A;exact⟨_,rfl,by rw[D,vE ht]⟩
   | box cs=>cases A
   | _=>cases A;exact⟨_,rfl,D _ _⟩
  | some e =>
   rw[J] at A;obtain⟨b,s',rfl,ab,hb⟩:=s8 A;have ae:d≠e:=λh0=>(h.d d hx).2 (by rw[J,h0]);have aq:Ad.keep e a=a:=by
    rcases ha with rfl|⟨t,off,h1,rfl⟩
    ·rfl
    ·exact am e t off J h1
   have ao:Ad.keep d b=b:=by
    rcases hb with rfl|⟨t,off,h1,rfl⟩
    ·rfl
    ·exact an d t off hx h1
   exact⟨_,ab _ _,by rw[D,vE ae,Lg ae aq ao]⟩
