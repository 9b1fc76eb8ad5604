/- The layer of ideal values, part O: regio -/
import Derived.Test.YtabhgbojkjcfjaaGreatDoorJE
set_option linter.all false
namespace Go.Iv
open Go
section
variable {α:Type}{p q p' q':Prop}
theorem yZe {o:Option α}{f g:α->Prop}(h:∀x,f x->g x):yQ8 o f->yQ8 o g:=by
 cases o<;>simp only[yQ8]<;>first|exact h _|exact id
theorem xVs {c:Prop}(h:p->q):chk c p->chk c q:=λx=>⟨x.1,h x.2⟩
theorem wJy {c:Prop}(h:p->q):giv c p->giv c q:=λx y=>h (x y)
theorem wJz {c:Prop}(h:p->q):(c->p)->(c->q):=λx y=>h (x y)
theorem wK0 {f g:α->Prop}(h:∀x,f x->g x):(∀x,f x)->(∀x,g x):=λA x=>h x (A x)
theorem zVp {b:Bool}{k:Lock p}{l:Lock q}{E:Lock p'}{D:Lock q'}(h:p->p')(F:q->q'):yU6 b p q k l->yU6 b p' q' E D:=λx=>⟨λA=>h (x.1 A),λA=>F (x.2 A)⟩
theorem yKr {c:Prop} [Decidable c](h:p->p')(A:q->q'):(if c then p else q)->(if c then p' else q'):=by split<;>assumption
theorem xG8 {s:SV}{f g:List IV->Prop}(h:∀x,f x->g x):boxV s f->boxV s g:=by unfold boxV;split<;>first|exact h _|exact id
theorem xVq {s:IObj}{f g:List IV->Prop}(h:∀x,f x->g x):obV s f->obV s g:=by unfold obV;split<;>first|exact h _|exact id
theorem wJu {s:IObj}{f g:KeyK->List (Value×IV)->Prop}(h:∀x y,f x y->g x y):omV s f->omV s g:=by unfold omV;split<;>first|exact h _ _|exact id
theorem zK6 {s:IV}{f g:IntKind->Int->Prop}(h:∀x y,f x y->g x y):intV s f->intV s g:=by unfold intV;split<;>first|exact h _ _|exact id
theorem zVq {s:IV}{f g:Bool->Prop}(h:∀x,f x->g x):zJu s f->zJu s g:=by unfold zJu;split<;>first|exact h _|exact id
theorem zVo {s:IV}{f g:Tag->List IV->Prop}(h:∀x y,f x y->g x y):slV s f->slV s g:=by unfold slV;split<;>first|exact h _ _|exact id
theorem xVp {s:IV}{f D:Tag->List IV->Prop}{g A:Nat->Nat->Nat->Prop}(h:∀x y,f x y->D x y)(E:∀x y z,g x y z->A x y z):slX s f g->slX s D A:=by unfold slX;split<;>first|exact h _ _|exact E _ _ _|exact id
theorem xVo {s:IV}{f D:Tag->List IV->Prop}{g A:Nat->Nat->Nat->Nat->Prop}(h:∀x y,f x y->D x y)(E:∀x y z u,g x y z u->A x y z u):slY s f g->slY s D A:=by unfold slY;split<;>first|exact h _ _|exact E _ _ _ _|exact id
theorem xQk {k:Option LenK}{i:Option IntKind}{f D g A:Prop}(h:f->D)(E:g->A):appK k i f g->appK k i D A:=by unfold appK;split<;>first|exact h|exact E|exact id
theorem zK7 {s:IV}{f g:List IV->Prop}(h:∀x,f x->g x):aggV s f->aggV s g:=by unfold aggV;split<;>first|exact h _|exact id
theorem xG4 {s:IV}{f g:List IV->Prop}(h:∀x,f x->g x):tupV s f->tupV s g:=by unfold tupV;split<;>first|exact h _|exact id
theorem xVr {s:IV}{f g:Fn->List IV->List IV->Prop}(h:∀x y z,f x y z->g x y z):fnV s f->fnV s g:=by unfold fnV;split<;>first|exact h _ _ _|exact id
theorem xG6 {s:IV}{f g:Option Nat->Prop}(h:∀x,f x->g x):mapV s f->mapV s g:=by unfold mapV;split<;>first|exact h _|exact id
theorem xG7 {s:IV}{f g:Value->Prop}(h:∀x,f x->g x):keyV s f->keyV s g:=by unfold keyV;split<;>first|exact h _|exact λk A=>h _ (k A)|exact id
theorem xG9 {s:IV}{f g:Nat->Prop}(h:∀x,f x->g x):adrV s f->adrV s g:=by unfold adrV;split<;>first|exact h _|exact id
theorem wJx {s:IObj}{f g:Nat->Nat->Array Nat->Nat->Prop}(h:∀x y z u,f x y z u->g x y z u):itO s f->itO s g:=by unfold itO;split<;>first|exact h _ _ _ _|exact id
theorem wJw {s:IObj}{f g:Array MapEntry->Nat->Prop}(h:∀x y,f x y->g x y):mxO s f->mxO s g:=by unfold mxO;split<;>first|exact h _ _|exact id
theorem wJv {e:Array MapEntry}{n:Array Nat}{p p':Prop}{q q':MapEntry->IV->Prop}{k:Lock p}{l:Lock q}{D:Lock p'}{A:Lock q'}(h:p->p')(E:∀x y,q x y->q' x y):nxR e n p q k l->nxR e n p' q' D A:=λx=>⟨λy=>h (x.1 y),λa b c d=>E _ _ (x.2 a b c d)⟩
theorem xG5 {s:IV}{f g:Value->Prop}(h:∀x,f x->g x):rawV s f->rawV s g:=by unfold rawV;split<;>first|exact h _|exact id
end
section
variable {R R':Rt}(h:∀pr st ds,R pr st ds->R' pr st ds)
include h
set_option maxHeartbeats 1000000 in
theorem yU9 {c:Cf}{dst:Option Nat}{op:Op}{ad:Ad}{fr:Fr}{st:ISt}{ds:List Dfd}:vcR c dst op R ad fr st ds->vcR c dst op R' ad fr st ds:=by
 unfold vcR;split
 all_goals try unfold zXf
 all_goals try unfold nilV
 all_goals repeat (first
  | exact h _ _ _|exact id
  | refine yZe λ_=>?_|refine xVs ?_|refine wJy ?_|refine wJz ?_|refine wK0 λ_=>?_|refine zVp ?_ ?_|refine yKr ?_ ?_
  | refine xG8 λ_=>?_|refine xVq λ_=>?_|refine wJu λ_ _=>?_|refine zK6 λ_ _=>?_|refine zVq λ_=>?_|refine zVo λ_ _=>?_|refine xVp (λ_ _=>?_) (λ_ _ _=>?_)|refine xVo (λ_ _=>?_) (λ_ _ _ _=>?_)|refine xQk ?_ ?_
  | refine zK7 λ_=>?_|refine xG4 λ_=>?_|refine xVr λ_ _ _=>?_|refine xG6 λ_=>?_|refine xG5 λ_=>?_|refine xG7 λ_=>?_|refine xG9 λ_=>?_|refine wJx λ_ _ _ _=>?_|refine wJw λ_ _=>?_|refine wJv ?_ (λ_ _=>?_)
  | (refine λA=>callV.mono A λ_ _=>?_;unfold zWe)
  | unfold yYt|unfold yG6|unfold xQ8|unfold zZe|unfold yGh|unfold zJl|unfold wQp|unfold idxV|unfold yGj|unfold zVl|unfold zXh|unfold yGg|unfold xY0|unfold wWy|unfold xGn|unfold lenV|unfold appV|unfold qO|unfold appO|unfold appZ|unfold capV|unfold zGv|unfold xVf|unfold xZ2|unfold plR
  | split)
end
def zY8 (esc:List Nat)(dst:Option Nat):Op->Bool
 | .move _|.assign _|.pick ..|.build ..=>true
 | .buildSlice ..=>!yWe esc dst
 | .load ..=>!yWe esc dst
 | .nilCheck _|.binOp ..|.unOp ..|.convert ..|.makeFunc ..|.slice ..|.fieldAddr ..|.field ..|.indexAddr ..|.index ..|.extract ..=>true
 | .alloc _|.box ..=>match dst with|some d=>!esc.contains d|none=>false
 | .call ⟨.builtin .len,_,_⟩|.call ⟨.builtin .max,_,_⟩=>true
 | .call ⟨.value (.func g),_,_⟩=>esc.contains (g+1000000)
 | _=>false
def zJj:Op->Bool
 | .load ..=>true
 | _=>false
def yY3:Op->Bool
 | .store ..=>true
 | _=>false
def yK8 (esc:List Nat)(dst:Option Nat)(op:Op):Bool:=zY8 esc dst op || zJj op
def vKb (l:List Operand):List Nat:=l.filterMap λ| .tmp t=>some t|_=>none
def looks (ops:List Oper)(o:Oper):List Nat:=vKb o.op.operands.toList++(match o.guard with|some (j,_)=>(yWk ops j).toList|none=>[])
def wQe:Op->Bool
 | .fieldAddr ..=>true
 | .indexAddr ..=>true
 | _=>false
def wW5 (ops:List Oper)(e:Nat):Bool:=ops.all λo=>!wQe o.op || (!(looks ops o).contains e&&!(o.dst == some e))
def stOk (ops:List Oper)(x y:Oper):Bool :=
 match x.op with
 | .store _ (.tmp e) _=>wW5 ops e&&!(looks ops y).contains e
 | _=>false
def wKy (esc:List Nat)(ops:List Oper)(x y:Oper):Bool :=
 (yK8 esc x.dst x.op || yK8 esc y.dst y.op)&&(!(zJj x.op&&yY3 y.op) || stOk ops y x)&&(!(zJj y.op&&yY3 x.op) || stOk ops x y) &&
 (match x.dst with|some d=>!(looks ops y).contains d&&!(y.dst == some d)|none=>true)&&(match y.dst with|some d=>!(looks ops x).contains d|none=>true)
def Lin (F:Rt->ISt->List Dfd->Prop):Prop:=(∃pr,∀R st ds,F R st ds↔R pr st ds)\/(∀R st ds,¬ F R st ds)
theorem yXs (pr:PR):Lin (λR st ds=>R pr st ds):=.inl ⟨pr,λ_ _ _=>Iff.rfl⟩
theorem yZz:Lin (λ_ _ _=>False):=.inr λ_ _ _ h=>h
theorem yQf {α:Type}{o:Option α}{F:α->Rt->ISt->List Dfd->Prop}(h:∀x,Lin (F x)):Lin (λR st ds=>yQ8 o λx=>F x R st ds):=by
 cases o with
 | none=>exact yZz
 | some x=>exact h x
theorem yGu {c:Prop}{F:Rt->ISt->List Dfd->Prop}(h:Lin F):Lin (λR st ds=>chk c (F R st ds)):=by
 by_cases hc:c
 ·rcases h with⟨pr,h⟩|h
  ·exact .inl ⟨pr,λR st ds=>⟨λx=>(h R st ds).1 x.2,λx=>⟨hc,(h R st ds).2 x⟩⟩⟩
  ·exact .inr λR st ds x=>h R st ds x.2
 ·exact .inr λR st ds x=>hc x.1
theorem yKp {c:Prop} [Decidable c]{F G:Rt->ISt->List Dfd->Prop}(h:Lin F)(A:Lin G):Lin (λR st ds=>if c then F R st ds else G R st ds):=by
 by_cases hc:c
 ·simpa only[if_pos hc] using h
 ·simpa only[if_neg hc] using A
theorem wJa {c:Prop}{F:Rt->ISt->List Dfd->Prop}(hc:c)(h:Lin F):Lin (λR st ds=>c->F R st ds):=by
 rcases h with⟨pr,h⟩|h
 ·exact .inl ⟨pr,λR st ds=>⟨λx=>(h R st ds).1 (x hc),λx _=>(h R st ds).2 x⟩⟩
 ·exact .inr λR st ds x=>h R st ds (x hc)
theorem wJc {b:Bool}{F G:Rt->ISt->List Dfd->Prop}(h:Lin F)(A:Lin G):Lin (λR st ds=>yU6 b (F R st ds) (G R st ds) .mk .mk):=by
 cases b
 ·simpa only[xW4] using A
 ·simpa only[wQs] using h
theorem xYv {s:SV}{F:List IV->Rt->ISt->List Dfd->Prop}(h:∀x,Lin (F x)):Lin (λR st ds=>boxV s λx=>F x R st ds):=by
 cases s<;>first|exact h _|exact yZz
theorem zK2 {s:IV}{F:IntKind->Int->Rt->ISt->List Dfd->Prop}(h:∀x y,Lin (F x y)):Lin (λR st ds=>intV s λx y=>F x y R st ds):=by
 cases s with
 | raw v=>cases v<;>first|exact h _ _|exact yZz
 | _=>exact yZz
theorem wJd {s:IV}{F:Bool->Rt->ISt->List Dfd->Prop}(h:∀x,Lin (F x)):Lin (λR st ds=>zJu s λx=>F x R st ds):=by
 cases s with
 | raw v=>cases v<;>first|exact h _|exact yZz
 | _=>exact yZz
theorem wJ8 {s:IV}{F:Tag->List IV->Rt->ISt->List Dfd->Prop}{G:Nat->Nat->Nat->Rt->ISt->List Dfd->Prop}(h:∀x y,Lin (F x y))(O:∀x y z,Lin (G x y z)):Lin (λR st ds=>slX s (λx y=>F x y R st ds) (λx y z=>G x y z R st ds)):=by
 by_cases E:∃t D,s=.sl t D
 ·obtain⟨t,D,rfl⟩:=E;exact h _ _
 ·by_cases J:∃b off n cap,s=.raw (.slice (some ⟨b,off,none⟩) n cap)
  ·obtain⟨b,off,n,cap,rfl⟩:=J;exact O _ _ _
  ·refine .inr λR st ds A=>?_;simp only at A;unfold slX at A;split at A
   ·exact E ⟨_,_,rfl⟩
   ·exact J ⟨_,_,_,_,rfl⟩
   ·exact A
theorem vZo {s:IV}{F:Tag->List IV->Rt->ISt->List Dfd->Prop}{G:Nat->Nat->Nat->Nat->Rt->ISt->List Dfd->Prop}(h:∀x y,Lin (F x y))(O:∀x y z u,Lin (G x y z u)):Lin (λR st ds=>slY s (λx y=>F x y R st ds) (λx y z u=>G x y z u R st ds)):=by
 by_cases E:∃t D,s=.sl t D
 ·obtain⟨t,D,rfl⟩:=E;exact h _ _
 ·by_cases J:∃b off n cap,s=.raw (.slice (some ⟨b,off,none⟩) n cap)
  ·obtain⟨b,off,n,cap,rfl⟩:=J;exact O _ _ _ _
  ·refine .inr λR st ds A=>?_;simp only at A;unfold slY at A;split at A
   ·exact E ⟨_,_,rfl⟩
   ·exact J ⟨_,_,_,_,rfl⟩
   ·exact A
theorem zK3 {s:IV}{F:List IV->Rt->ISt->List Dfd->Prop}(h:∀x,Lin (F x)):Lin (λR st ds=>aggV s λx=>F x R st ds):=by
 cases s<;>first|exact h _|exact yZz
theorem wY6 {s:IV}{F:List IV->Rt->ISt->List Dfd->Prop}(h:∀x,Lin (F x)):Lin (λR st ds=>tupV s λx=>F x R st ds):=by
 cases s<;>first|exact h _|exact yZz
theorem xQc {s:IV}{F:Value->Rt->ISt->List Dfd->Prop}(h:∀x,Lin (F x)):Lin (λR st ds=>rawV s λx=>F x R st ds):=by
 cases s<;>first|exact h _|exact yZz
theorem wJ9 {ag:Bool}{n:Nat}{p:Pl}{fr:Fr}:Lin (λR st ds=>zZe true ag n p fr R st ds):=by
 cases p with
 | box t off=>exact xYv λ_=>yQf λ_=>yXs _
 | ptr b off=>exact yZz
 | cp y=>exact yKp (yXs _) yZz
theorem wQa {f:Nat×Bool×Nat}{p:Pl}:Lin (λR st ds=>zJl f p R st ds):=by
 cases p with
 | box t off=>exact yXs _
 | ptr b off=>exact yXs _
 | cp y=>exact zK3 λ_=>yQf λ_=>yKp (yXs _) yZz
theorem wJb {len n j:Nat}{ag:Bool}{p:Pl}:Lin (λR st ds=>wQp len ag n j p R st ds):=by
 unfold wQp;refine yKp ?_ yZz;cases p with
 | box t off=>exact yXs _
 | ptr b off=>exact yXs _
 | cp y=>exact zK3 λ_=>yQf λ_=>yKp (yXs _) yZz
theorem wY9 {k:LenK}{s:Option (TypeId×Bool×Nat×Nat)}{A:Option IV}{p:Option Pl}{e:Option (Nat×Bool×Nat)}{j:Int}:Lin (λR st ds=>idxV k s A p e j R st ds):=by
 cases k with
 | sl=>exact yQf λ_=>yQf λ_=>wJ8 (λ_ _=>yKp (yKp (yQf λ_=>yXs _) yZz) yZz) (λ_ _ _=>yKp (yXs _) yZz)
 | arr n=>exact yQf λ_=>yQf λ_=>yKp wJb yZz
 | _=>exact yZz
theorem wQ9 {k:LenK}{e:Option (Nat×Bool×Nat)}{x:IV}{j:Int}:Lin (λR st ds=>zVl k e x j R st ds):=by
 cases k with
 | str =>
  refine xQc λv=>?_;cases v with
  | string s=>exact yQf λ_=>yXs _
  | _=>exact yZz
 | arr n=>exact zK3 λ_=>yQf λ_=>yKp (yQf λ_=>yXs _) yZz
 | _=>exact yZz
theorem wY8 {k:LenK}{x:IV}:Lin (λR st ds=>lenV true k x R st ds):=by
 cases k with
 | str =>
  refine xQc λv=>?_;cases v with
  | string s=>exact wJa (λh=>by cases h) (yXs _)
  | _=>exact yZz
 | sl=>exact wJ8 (λ_ _=>wJa (λh=>by cases h) (yXs _)) (λ_ _ _=>yXs _)
 | map=>exact yZz
 | arr n=>exact yXs _
theorem wQ8 {k:LenK}{s:Option (TypeId×Bool×Nat×Nat)}{x:IV}{E D A:Option Int}:Lin (λR st ds=>yGj k s x E D A R st ds):=by
 cases k with
 | str =>
  refine xQc λv=>?_;cases v with
  | string s =>
   cases A with
   | none=>exact yQf λ_=>yXs _
   | some m=>exact yZz
  | _=>exact yZz
 | sl =>
  refine yQf λ_=>vZo (λ_ _=>yGu ?_) (λ_ _ _ _=>?_)
  ·cases D with
   | none =>
    cases A with
    | none=>exact yQf λ_=>yGu (yXs _)
    | some m=>exact yZz
   | some h=>exact yQf λ_=>yGu (yXs _)
  ·cases A with
   | none=>exact yGu (yQf λ_=>yXs _)
   | some m=>exact yZz
 | _=>exact yZz
theorem xJ1 {o:Option IV}{p:Option Pl}:Lin (λR st ds=>zXf true o p R st ds):=by
 cases o with
 | some x=>exact yXs _
 | none=>exact yZz
theorem wY7 {o:Option IV}{p:Option Pl}:Lin (λR st ds=>nilV o p true R st ds):=by
 cases o with
 | none=>exact yZz
 | some x =>
  cases x with
  | fn f a b=>exact yKp (yXs _) yZz
  | cptr y=>exact yXs _
  | raw v =>
   cases v with
   | pointer o =>
    cases o with
    | none=>exact yZz
    | some q=>exact yXs _
   | _=>exact yZz
  | _=>exact yZz
theorem zGg {esc:List Nat}{d:Nat}(h:esc.contains d=false){cs:List IV}:Lin (λR st ds=>yG6 esc (some d) cs R st ds):=by
 have:¬ d∈esc:=by simpa using h
 simp only[yG6,if_neg this];exact yXs _
theorem xVj {frz esc:List Nat}{d:Nat}(h:esc.contains d=false){y:IV}:Lin (λR st ds=>yYt frz esc (some d) y R st ds):=yKp (yXs _) (zGg h)
theorem xVi {c:Cf}(A:c.dr=true){dst:Option Nat}{op:Op}{ad:Ad}{fr:Fr}(hp:zY8 c.esc dst op=true):Lin (λR st ds=>vcR c dst op R ad fr st ds):=by
 unfold zY8 at hp;split at hp
 case h_1=>simp only[vcR,A];exact xJ1
 case h_2=>simp only[vcR,A];exact xJ1
 case h_3=>exact yQf λ_=>wJd λ_=>wJc (yQf λ_=>yXs _) (yQf λ_=>yXs _)
 case h_4=>exact yGu (yQf λ_=>yQf λ_=>yXs _)
 case h_5 =>
  have E:yWe c.esc dst=false:=by simpa using hp
  simp only[vcR,xQ8,E,bFt,if_false];exact yQf λ_=>yGu (yQf λ_=>yGu (yXs _))
 case h_6 =>
  have E:ldr c.dr c.esc dst=true:=by unfold ldr;rw[A,hp];rfl
  simp only[vcR,E];exact yQf λ_=>yQf λ_=>wJ9
 case h_7=>simp only[vcR,A];exact wY7
 case h_8=>exact yQf λ_=>yQf λ_=>yQf λ_=>yXs _
 case h_9=>exact yQf λ_=>yQf λ_=>yXs _
 case h_10=>exact yQf λ_=>yQf λ_=>yXs _
 case h_11=>exact yQf λ_=>yQf λ_=>yXs _
 case h_12=>exact yQf λ_=>yQf λ_=>yQf λ_=>yQf λ_=>yQf λ_=>wQ8
 case h_13=>exact yQf λ_=>yQf λ_=>wQa
 case h_14=>exact yQf λ_=>yQf λ_=>zK3 λ_=>yQf λ_=>yXs _
 case h_15=>exact yQf λ_=>zK2 λ_ _=>yQf λ_=>wY9
 case h_16=>exact yQf λ_=>zK2 λ_ _=>yQf λ_=>yQf λ_=>wQ9
 case h_17=>exact yQf λ_=>wY6 λ_=>yQf λ_=>yXs _
 case h_18 =>
  split at hp
  ·exact yQf λ_=>zGg (by simpa using hp)
  ·cases hp
 case h_19 =>
  split at hp
  ·exact yQf λ_=>yQf λ_=>yGu (xVj (by simpa using hp))
  ·cases hp
 case h_20 =>
  rename_i args D;obtain⟨args⟩:=args;obtain⟨D⟩:=D
  match args,D with
  | [x],[T]=>simp only[vcR,A];exact yQf λ_=>yQf λ_=>wY8
  | [],_=>exact yZz
  | _::_::_,_=>exact yZz
  | [_],[]=>exact yZz
  | [_],_::_::_=>exact yZz
 case h_21 =>
  rename_i args D;obtain⟨args⟩:=args
  match args with
  | [x,y]=>exact yQf λ_=>yQf λ_=>zK2 λ_ _=>zK2 λ_ _=>yKp (yXs _) yZz
  | []=>exact yZz
  | [_]=>exact yZz
  | _::_::_::_=>exact yZz
 case h_22 =>
  rename_i g _ _;have F:g+1000000∈c.esc:=by simpa using hp
  simp only[vcR,xZ2,if_pos F];exact yQf λ_=>yQf λ_=>yXs _
 case h_23=>cases hp
structure SameAt (c:Cf)(op:Op)(ad ad':Ad)(fr fr':Fr):Prop where
 v:∀x∈op.operands,evV c.gl fr x=evV c.gl fr' x
 a:∀x∈op.operands,evA c.gl ad fr x=evA c.gl ad' fr' x
 box:(zJj op || yY3 op)=true->∀x∈op.operands,∀t off,evA c.gl ad fr x=some (.box t off)->fr t=fr' t
theorem yUq {gl:Nat->Option IV}{fr fr':Fr}:∀ {l:List Operand},(∀x∈l,evV gl fr x=evV gl fr' x)->evL gl fr l=evL gl fr' l
 | [],_=>rfl
 | x::l,h=>by rw[xGl,xGl,h x (by simp),yUq λy A=>h y (by simp[A])]
theorem zXm {gl:Nat->Option IV}{fr fr':Fr}{o:Option Operand}(h:∀x,o=some x->evV gl fr x=evV gl fr' x):yG1 gl fr o=yG1 gl fr' o:=by
 cases o with
 | none=>rfl
 | some x=>simp only[wQf,h x rfl]
theorem zWf {P:Program}{gl:Nat->Option IV}{fr fr':Fr}{T:TypeId}:∀ {l:List (Nat×Operand)} {cs:List IV},(∀x∈l.map (·.2),evV gl fr x=evV gl fr' x)->yYi P gl fr T cs l=yYi P gl fr' T cs l
 | [],cs,_=>rfl
 | (i,x)::l,cs,h=>by
  rw[zQq,zQq,h x (by simp)];cases fldI P T i with
  | none=>rfl
  | some f =>
   cases evV gl fr' x with
   | none=>rfl
   | some y=>simp only[zGx];split<;>first|exact zWf λy A=>h y (by simp[A])|rfl
theorem wQ7 {dr ag:Bool}{n:Nat}{p:Pl}{fr fr':Fr}{R:Rt}{st:ISt}{ds:List Dfd}(h:∀t off,p=.box t off->fr t=fr' t):zZe dr ag n p fr R st ds=zZe dr ag n p fr' R st ds:=by
 cases p with
 | box t off=>simp only[zZe,h t off rfl]
 | _=>rfl
theorem xKh {y:List IV}{p:Pl}{fr fr':Fr}{R:Rt}{st:ISt}{ds:List Dfd}(h:∀t off,p=.box t off->fr t=fr' t):yGh y p fr R st ds=yGh y p fr' R st ds:=by
 cases p with
 | box t off=>simp only[yGh,h t off rfl]
 | _=>rfl
theorem wZb {c:Cf}{dst:Option Nat}{op:Op}{R:Rt}{ad U:Ad}{fr fr':Fr}{st:ISt}{ds:List Dfd}(h:SameAt c op ad U fr fr'):vcR c dst op R ad fr st ds=vcR c dst op R U fr' st ds:=by
 obtain⟨A,J,hb⟩:=h;cases op with
 | move x=>simp only[vcR,A x (by simp[Op.operands]),J x (by simp[Op.operands])]
 | assign x=>simp only[vcR,A x (by simp[Op.operands]),J x (by simp[Op.operands])]
 | pick x y z=>simp only[vcR];rw[A x (by simp[Op.operands]),A y (by simp[Op.operands]),A z (by simp[Op.operands])]
 | alloc T=>rfl
 | box T x=>simp only[vcR,A x (by simp[Op.operands])]
 | build T parts=>simp only[vcR,λcs=>zWf (P:=c.P) (T:=T) (cs:=cs) (l:=parts.toList) (λx E=>A x (by simpa[Op.operands] using E))]
 | buildSlice T n parts=>simp only[vcR,yUq (l:=parts.toList.map (·.2)) (λx E=>A x (by simpa[Op.operands] using E))]
 | load T x =>
  have G:=hb rfl x (by simp[Op.operands]);simp only[vcR,<- J x (by simp[Op.operands])];cases hp:evA c.gl ad fr x with
  | none=>rfl
  | some p=>simp only[yV8,λ(i:Bool×Nat)=>wQ7 (dr:=ldr c.dr c.esc dst) (ag:=i.1) (n:=i.2) (p:=p) (fr:=fr) (fr':=fr') (R:=R) (st:=st) (ds:=ds) (λt off W=>G t off (by rw[hp,W]))]
 | store T x y =>
  have G:=hb rfl x (by simp[Op.operands]);simp only[vcR,<- J x (by simp[Op.operands]),<- A y (by simp[Op.operands])];cases hp:evA c.gl ad fr x with
  | none=>rfl
  | some p=>simp only[yV8,λ(i:List IV)=>xKh (y:=i) (p:=p) (fr:=fr) (fr':=fr') (R:=R) (st:=st) (ds:=ds) (λt off W=>G t off (by rw[hp,W]))]
 | nilCheck x=>simp only[vcR,A x (by simp[Op.operands]),J x (by simp[Op.operands])]
 | binOp o T x y T'=>simp only[vcR,A x (by simp[Op.operands]),A y (by simp[Op.operands])]
 | unOp o T x=>simp only[vcR,A x (by simp[Op.operands])]
 | convert T T' x=>simp only[vcR,A x (by simp[Op.operands])]
 | makeFunc f a b=>simp only[vcR,yUq (l:=a.toList) (λx E=>A x (by simp[Op.operands];exact .inl (by simpa using E))),yUq (l:=b.toList) (λx E=>A x (by simp[Op.operands];exact .inr (by simpa using E)))]
 | slice T x lo hi mx=>simp only[vcR,A x (by simp[Op.operands]),zXm (o:=lo) (λy O=>A y (by simp[Op.operands,O])),zXm (o:=hi) (λy O=>A y (by simp[Op.operands,O])),
   zXm (o:=mx) (λy O=>A y (by simp[Op.operands,O]))]
 | fieldAddr T x i=>simp only[vcR,J x (by simp[Op.operands])]
 | field T x i=>simp only[vcR,A x (by simp[Op.operands])]
 | indexAddr T x y=>simp only[vcR,A x (by simp[Op.operands]),J x (by simp[Op.operands]),A y (by simp[Op.operands])]
 | index T x y=>simp only[vcR,A x (by simp[Op.operands]),A y (by simp[Op.operands])]
 | lookup T x y ok=>simp only[vcR,A x (by simp[Op.operands]),A y (by simp[Op.operands])]
 | mapUpdate T x y z=>simp only[vcR,A x (by simp[Op.operands]),A y (by simp[Op.operands]),A z (by simp[Op.operands])]
 | extract x i=>simp only[vcR,A x (by simp[Op.operands])]
 | call cc =>
  obtain⟨f,args,F⟩:=cc;cases f with
  | value f=>simp only[vcR,A f (by simp[Op.operands,Call.operands]),yUq (l:=args.toList) (λx E=>A x (by simp[Op.operands,Call.operands];exact .inr (by simpa using E)))]
  | invoke r nm=>rfl
  | builtin b =>
   obtain⟨args⟩:=args;obtain⟨F⟩:=F;have D:∀x∈args,evV c.gl fr x=evV c.gl fr' x:=λx E=>A x (by simp[Op.operands,Call.operands];exact E);cases b with
   | len =>
    match args,F,D with
    | [x],[T],D=>simp only[vcR,D x (by simp)]
    | [],_,_=>rfl
    | _::_::_,_,_=>rfl
    | [_],[],_=>rfl
    | [_],_::_::_,_=>rfl
   | append =>
    match args,F,D with
    | [x,y],[T,T'],D=>simp only[vcR,D x (by simp),D y (by simp)]
    | [],_,_=>rfl
    | [_],_,_=>rfl
    | _::_::_::_,_,_=>rfl
    | [_,_],[],_=>rfl
    | [_,_],[_],_=>rfl
    | [_,_],_::_::_::_,_=>rfl
   | cap =>
    match args,F,D with
    | [x],[T],D=>simp only[vcR,D x (by simp)]
    | [],_,_=>rfl
    | _::_::_,_,_=>rfl
    | [_],[],_=>rfl
    | [_],_::_::_,_=>rfl
   | clear =>
    match args,F,D with
    | [x],[T],D=>simp only[vcR,D x (by simp)]
    | [],_,_=>rfl
    | _::_::_,_,_=>rfl
    | [_],[],_=>rfl
    | [_],_::_::_,_=>rfl
   | max =>
    match args,D with
    | [x,y],D=>simp only[vcR,D x (by simp),D y (by simp)]
    | [],_=>rfl
    | [_],_=>rfl
    | _::_::_::_,_=>rfl
   | min =>
    match args,D with
    | [x,y],D=>simp only[vcR,D x (by simp),D y (by simp)]
    | [],_=>rfl
    | [_],_=>rfl
    | _::_::_::_,_=>rfl
   | _=>rfl
 | defer cc =>
  obtain⟨f,args,F⟩:=cc;cases f with
  | value f=>simp only[vcR,A f (by simp[Op.operands,Call.operands]),yUq (l:=args.toList) (λx E=>A x (by simp[Op.operands,Call.operands];exact .inr (by simpa using E)))]
  | _=>rfl
 | makeMap T r=>cases r<;>rfl
 | insert T x y z=>simp only[vcR,A x (by simp[Op.operands]),A y (by simp[Op.operands]),A z (by simp[Op.operands])]
 | makeSlice T x y=>simp only[vcR,A x (by simp[Op.operands]),A y (by simp[Op.operands])]
 | range T x=>simp only[vcR,A x (by simp[Op.operands])]
 | next x b=>cases b<;>simp only[vcR,A x (by simp[Op.operands])]
 | entry x=>simp only[vcR,A x (by simp[Op.operands])]
 | _=>rfl
def yXk (c:Cf)(ops:List Oper)(o:Oper)(R:Rt)(ad:Ad)(fr:Fr)(st:ISt)(ds:List Dfd):Prop :=
 match o.guard with
 | none=>vcR c o.dst o.op R ad fr st ds
 | some (j,A)=>match yWk ops j with
  | some d=>match fr d with
   | .iv (.raw (.bool b))=>if b=A then vcR c o.dst o.op R ad fr st ds else R (.val (.raw undef)) st ds
   | .iv (.raw (.tuple _))=>R (.val (.raw undef)) st ds
   | _=>False
  | none=>False
def yXa (c:Cf)(ops:List Oper)(o:Oper)(K:Kt):Kt:=λad fr st ds=>yXk c ops o (finK o.dst K ad fr) ad fr st ds
def vcK (c:Cf)(ops:List Oper):List Oper->Kt->Kt
 | [],K=>K
 | o::l,K=>yXa c ops o (vcK c ops l K)
theorem zYl {c:Cf}{ops l A:List Oper}{K:Kt}:vcK c ops (l++A) K=vcK c ops l (vcK c ops A K):=by
 induction l with
 | nil=>rfl
 | cons o l D=>rw[List.cons_append,vcK,vcK,D]
theorem xZd {c:Cf}{ops:List Oper}{Q:Fr->ISt->List Dfd->Prop}:∀ {l:List Oper} {ad:Ad} {fr:Fr} {st:ISt} {ds:List Dfd},yK5 c ops l Q ad fr st ds->vcK c ops l (λ_ fr st ds=>Q fr st ds) ad fr st ds
 | [],_,_,_,_,h=>h
 | o::l,ad,fr,st,ds,h=>by
  have G:∀ad fr st ds,yK5 c ops l Q ad fr st ds->vcK c ops l (λ_ fr st ds=>Q fr st ds) ad fr st ds:=λ_ _ _ _=>xZd;have A:∀pr st ds,finK o.dst (yK5 c ops l Q) ad fr pr st ds->finK o.dst (vcK c ops l (λ_ fr st ds=>Q fr st ds)) ad fr pr st ds:=by
   intro pr st ds;cases pr<;>cases o.dst<;>simp only[finK]<;>first|exact G _ _ _ _|exact id|(split<;>first|exact id|exact G _ _ _ _)
  unfold yK5 at h;change yXk c ops o (finK o.dst (vcK c ops l (λ_ fr st ds=>Q fr st ds)) ad fr) ad fr st ds;unfold yXk;split at h
  ·rename_i F;rw[F];exact yU9 A h
  ·rename_i j D F;rw[F];simp only[yWk];cases hd:(ops[j]?).bind (·.dst) with
   | none=>rw[hd] at h;exact h.elim
   | some d =>
    rw[hd] at h;simp only at h ⊢;cases E:fr d with
    | box cs=>rw[E] at h;exact h.elim
    | iv x =>
     cases x with
     | raw v =>
      cases v with
      | bool b =>
       rw[E,xJe fr d D b _ _ _ _ E] at h;simp only;split
       ·exact yU9 A (h.1 ‹_›)
       ·have J:b=!D:=by cases b<;>cases D<;>simp_all
        exact A _ _ _ (h.2 J)
      | tuple t =>
       rw[E] at h;exact A _ _ _ h
      | _=>rw[E] at h;exact h.elim
     | _=>rw[E] at h;exact h.elim
theorem zX7 {c:Cf}{ops:List Oper}{o:Oper}{R R':Rt}(h:∀pr st ds,R pr st ds->R' pr st ds){ad:Ad}{fr:Fr}{st:ISt}{ds:List Dfd}:yXk c ops o R ad fr st ds->yXk c ops o R' ad fr st ds:=by
 unfold yXk;split
 ·exact yU9 h
 ·split
  ·split
   ·split
    ·exact yU9 h
    ·exact h _ _ _
   ·exact h _ _ _
   ·exact id
  ·exact id
theorem wJ7 {c:Cf}(E:c.dr=true){ops:List Oper}{o:Oper}{ad:Ad}{fr:Fr}(hp:zY8 c.esc o.dst o.op=true):Lin (λR st ds=>yXk c ops o R ad fr st ds):=by
 cases A:o.guard with
 | none=>simp only[yXk,A];exact xVi E hp
 | some p =>
  obtain⟨j,F⟩:=p;cases hd:yWk ops j with
  | none=>simp only[yXk,A,hd];exact yZz
  | some d =>
   cases D:fr d with
   | box cs=>simp only[yXk,A,hd,D];exact yZz
   | iv x =>
    cases x with
    | raw v =>
     cases v with
     | bool b=>simp only[yXk,A,hd,D];exact yKp (xVi E hp) (yXs _)
     | tuple t=>simp only[yXk,A,hd,D];exact yXs _
     | _=>simp only[yXk,A,hd,D];exact yZz
    | _=>simp only[yXk,A,hd,D];exact yZz
def Kept (st st':ISt):Prop:=∀b cs,st b=some (.box cs)->st' b=some (.box cs)
theorem Kept.refl (st:ISt):Kept st st:=λ_ _ h=>h
def LinS (st:ISt)(F:Rt->ISt->List Dfd->Prop):Prop:=(∃pr,(∀R ds,F R st ds↔R pr st ds)/\∀st',Kept st st'->∀R ds,R pr st' ds->F R st' ds)\/(∀R ds,¬ F R st ds)
theorem yVn {F:Rt->ISt->List Dfd->Prop}(h:Lin F)(st:ISt):LinS st F:=by
 rcases h with⟨pr,h⟩|h
 ·exact .inl ⟨pr,λR ds=>h R st ds,λst' _ R ds A=>(h R st' ds).2 A⟩
 ·exact .inr λR ds=>h R st ds
theorem wJe {c:Cf}{dst:Option Nat}{T:TypeId}{x:Operand}{ad:Ad}{fr:Fr}(st:ISt):LinS st (λR st ds=>vcR c dst (.load T x) R ad fr st ds):=by
 simp only[vcR];cases tyI c.P T with
 | none=>exact yVn yZz st
 | some i =>
  cases evA c.gl ad fr x with
  | none=>exact yVn yZz st
  | some p =>
   simp only[yV8];cases p with
   | box t off=>exact yVn (xYv λ_=>yQf λ_=>yXs _) st
   | cp y=>exact yVn (yKp (yXs _) yZz) st
   | ptr b off =>
    simp only[zZe];cases F:ldr c.dr c.esc dst with
    | true=>simp only[if_true];exact yVn yZz st
    | false =>
     simp only[bFt,if_false];cases A:st b with
     | none=>exact .inr λR ds h=>by simp only[A] at h;exact h
     | some o =>
      cases o with
      | box cs =>
       cases hp:yVd i.1 i.2 cs off with
       | none=>exact .inr λR ds h=>by simp only[A,yV8,obV,hp] at h;exact h
       | some y=>exact .inl ⟨.val y,λR ds=>by simp only[A,yV8,obV,hp],λst' E R ds D=>by simp only[E b cs A,yV8,obV,hp];exact D⟩
      | _=>exact .inr λR ds h=>by simp only[A,yV8,obV] at h
theorem xYw {c:Cf}(A:c.dr=true){dst:Option Nat}{op:Op}{ad:Ad}{fr:Fr}(hp:yK8 c.esc dst op=true)(st:ISt):LinS st (λR st ds=>vcR c dst op R ad fr st ds):=by
 unfold yK8 at hp;rw[Bool.or_eq_true] at hp;rcases hp with hp|hp
 ·exact yVn (xVi A hp) st
 ·cases op<;>first|exact wJe st|cases hp
theorem zXi {c:Cf}(F:c.dr=true){ops:List Oper}{o:Oper}{ad:Ad}{fr:Fr}(hp:yK8 c.esc o.dst o.op=true)(st:ISt):LinS st (λR st ds=>yXk c ops o R ad fr st ds):=by
 cases A:o.guard with
 | none=>simp only[yXk,A];exact xYw F hp st
 | some p =>
  obtain⟨j,D⟩:=p;cases hd:yWk ops j with
  | none=>simp only[yXk,A,hd];exact yVn yZz st
  | some d =>
   cases E:fr d with
   | box cs=>simp only[yXk,A,hd,E];exact yVn yZz st
   | iv x =>
    cases x with
    | raw v =>
     cases v with
     | bool b =>
      simp only[yXk,A,hd,E];by_cases G:b=D
      ·simp only[if_pos G];exact xYw F hp st
      ·simp only[if_neg G];exact yVn (yXs _) st
     | tuple t=>simp only[yXk,A,hd,E];exact yVn (yXs _) st
     | _=>simp only[yXk,A,hd,E];exact yVn yZz st
    | _=>simp only[yXk,A,hd,E];exact yVn yZz st
def appQ (esc:List Nat)(dst:Option Nat):Op->Bool
 | .call ⟨.builtin .append,⟨[_,_]⟩,⟨[_,_]⟩⟩=>zUw esc dst
 | _=>false
theorem Kept.new {st:ISt}{g:Nat}(D:st g=none)(o:Option IObj):Kept st (st.put g o):=λb cs A=>by
 rw[ISt.put_apply];split
 ·rename_i h;subst h;rw[D] at A;cases A
 ·exact A
theorem Kept.front {st:ISt}{g₀ g n s:Nat}(E:st g₀=some (.front n s))(D:g=g₀\/st g=none)(o:Option IObj):Kept st ((st.put g₀ none).put g o):=λb cs A=>by
 have h1:b≠g₀:=by rintro rfl;rw[E] at A;cases A
 have h2:b≠g:=by
  rintro rfl;rcases D with rfl|D
  ·exact h1 rfl
  ·rw[D] at A;cases A
 rw[ISt.put_apply,if_neg h2,ISt.put_apply,if_neg h1];exact A
theorem wKx {esc:List Nat}{dst:Option Nat}{e:TypeId×Bool×Nat×Nat}{E:Tag}{G ys:List IV}{R:Rt}{st:ISt}{ds:List Dfd}(h:appV esc dst e E G ys R st ds) :
  appV esc dst e E G ys (λpr st' ds=>R pr st' ds/\Kept st st') st ds:=by
 obtain⟨h1,h2,A⟩:=h;refine⟨h1,h2,?_⟩;cases hc:E.cap with
 | none =>
  rw[hc] at A;cases ys with
  | nil=>exact⟨A,Kept.refl _⟩
  | cons y ys=>exact A.elim
 | nil =>
  rw[hc] at A;cases ys with
  | nil=>exact⟨A,Kept.refl _⟩
  | cons y ys =>
   by_cases J:yWe esc dst=true
   ·simp only[if_pos J] at A ⊢;exact λg cap D=>⟨A g cap D,Kept.new D.1 _⟩
   ·simp only[if_neg J] at A ⊢;exact λg D=>⟨A g D,Kept.new D _⟩
 | full =>
  rw[hc] at A;obtain⟨F,A⟩:=A;refine⟨F,?_⟩;cases ys with
  | nil=>exact⟨A,Kept.refl _⟩
  | cons y ys=>exact λg D=>⟨A g D,Kept.new D _⟩
 | app g₀ =>
  rw[hc] at A;obtain⟨F,O,A⟩:=A;exact⟨F,O,λg D=>⟨A g D,Kept.front O D _⟩⟩
theorem xGs {c:Cf}{dst:Option Nat}{op:Op}{R:Rt}{ad:Ad}{fr:Fr}{st:ISt}{ds:List Dfd}(A:appQ c.esc dst op=true)(h:vcR c dst op R ad fr st ds) :
  vcR c dst op (λpr st' ds=>R pr st' ds/\Kept st st') ad fr st ds:=by
 unfold appQ at A;split at A
 ·simp only[vcR] at h ⊢;refine yZe (λe=>?_) h;refine xQk ?_ ?_
  ·refine yZe λs=>xVo (λE F=>yZe λy=>zVo λ_ ys h=>wKx h) λb off n cap=>yZe λy=>zVo λ_ ys h=>?_;unfold qO at h;rw[if_pos A] at h;exact h.elim
  ·refine yZe λs=>zVo λE _=>yZe λy=>zK6 λ_ m h=>?_;obtain⟨h1,h2⟩:=h;exact⟨h1,λg cap D=>⟨h2 g cap D,Kept.new D.1 _⟩⟩
 ·cases A
theorem wQw {c:Cf}{ops:List Oper}{o:Oper}{R:Rt}{ad:Ad}{fr:Fr}{st:ISt}{ds:List Dfd}(D:appQ c.esc o.dst o.op=true)(h:yXk c ops o R ad fr st ds) :
  yXk c ops o (λpr st' ds=>R pr st' ds/\Kept st st') ad fr st ds:=by
 unfold yXk at h ⊢;split at h
 ·exact xGs D h
 ·split at h
  ·split at h
   ·split at h
    ·rename_i A;rw[if_pos A];exact xGs D h
    ·rename_i A;rw[if_neg A];exact⟨h,Kept.refl _⟩
   ·exact⟨h,Kept.refl _⟩
   ·exact h.elim
  ·exact h.elim
def yVl (ops:List Oper)(o:Oper)(fr fr':Fr):Prop:=∀j A d,o.guard=some (j,A)->yWk ops j=some d->fr d=fr' d\/(∃cs cs',fr d=.box cs/\fr' d=.box cs')
theorem yV1 {c:Cf}{ops:List Oper}{o:Oper}{R:Rt}{ad D:Ad}{fr fr':Fr}{st:ISt}{ds:List Dfd}(h:SameAt c o.op ad D fr fr')(F:yVl ops o fr fr'):yXk c ops o R ad fr st ds=yXk c ops o R D fr' st ds:=by
 unfold yXk;rw[wZb h];cases E:o.guard with
 | none=>rfl
 | some p =>
  obtain⟨j,A⟩:=p;cases hd:yWk ops j with
  | none=>simp only[hd]
  | some d =>
   simp only[hd];rcases F j A d E hd with G|⟨cs,cs',h1,h2⟩
   ·rw[G]
   ·rw[h1,h2]
structure Fine (c:Cf)(op:Op)(ad:Ad)(fr:Fr)(pr:PR):Prop where
 isA:∀t off,pr=.adr t off->c.dr=true->wQe op=true
 adr:∀t off,pr=.adr t off->∃x∈op.operands,∃off',evA c.gl ad fr x=some (.box t off')
 sto:∀t cs,pr=.sto t cs->yY3 op=true/\(∃cs0,fr t=.box cs0)/\∃x∈op.operands,∃off',evA c.gl ad fr x=some (.box t off')
 stoA:∀t cs,pr=.sto t cs->∀T a v,op=.store T a v->∃off',evA c.gl ad fr a=some (.box t off')
theorem yJ9 {c:Cf}{op:Op}{ad:Ad}{fr:Fr}{x:IV}:Fine c op ad fr (.val x):=⟨(λ_ _ h=>by cases h),(λ_ _ h=>by cases h),(λ_ _ h=>by cases h),(λ_ _ h=>by cases h)⟩
theorem wYm {c:Cf}{op:Op}{ad:Ad}{fr:Fr}{x:List IV}:Fine c op ad fr (.box x):=⟨(λ_ _ h=>by cases h),(λ_ _ h=>by cases h),(λ_ _ h=>by cases h),(λ_ _ h=>by cases h)⟩
theorem xGj {c:Cf}{op:Op}{ad:Ad}{fr:Fr}:Fine c op ad fr .nop:=⟨(λ_ _ h=>by cases h),(λ_ _ h=>by cases h),(λ_ _ h=>by cases h),(λ_ _ h=>by cases h)⟩
theorem xQt {c:Cf}{op:Op}{R:Rt}{ad:Ad}{fr:Fr}{st:ISt}{ds:List Dfd}{x:Operand}{p:Pl}(A:¬ c.dr=true)(E:x∈op.operands)(hp:evA c.gl ad fr x=some p):plR p R st ds->plR p (λpr st ds=>R pr st ds/\Fine c op ad fr pr) st ds:=by
 cases p with
 | box t off=>exact λh=>⟨h,⟨(λ_ _ _ G=>(A G).elim),λJ D F=>by cases F;exact⟨x,E,off,hp⟩,(λ_ _ h=>by cases h),(λ_ _ h=>by cases h)⟩⟩
 | ptr b off=>exact λh=>⟨h,yJ9⟩
 | cp y=>exact λh=>⟨h,yJ9⟩
theorem zGs {c:Cf}{op:Op}{R:Rt}{ad:Ad}{fr:Fr}{st:ISt}{ds:List Dfd}{x:Operand}(A:x∈op.operands)(o:Option IV) :
  zXf c.dr o (evA c.gl ad fr x) R st ds->zXf c.dr o (evA c.gl ad fr x) (λpr st ds=>R pr st ds/\Fine c op ad fr pr) st ds:=by
 unfold zXf;split
 ·exact λh=>⟨h,yJ9⟩
 ·split
  ·exact id
  ·intro h;obtain⟨p,hp,h⟩:=yQ5.1 h;exact yQ5.2 ⟨p,hp,xQt ‹_› A hp h⟩
set_option maxHeartbeats 1000000 in
theorem xWj {c:Cf}{dst:Option Nat}{op:Op}{R:Rt}{ad:Ad}{fr:Fr}{st:ISt}{ds:List Dfd}:vcR c dst op R ad fr st ds->vcR c dst op (λpr st ds=>R pr st ds/\Fine c op ad fr pr) ad fr st ds:=by
 by_cases h1:∃x,op=.move x\/op=.assign x
 ·obtain⟨x,rfl|rfl⟩:=h1
  ·exact zGs (by simp[Op.operands]) _
  ·exact zGs (by simp[Op.operands]) _
 by_cases h2:∃x,op=.nilCheck x
 ·obtain⟨x,rfl⟩:=h2;simp only[vcR,nilV];split
  ·exact yKr (λh=>⟨h,yJ9⟩) id
  ·exact λh=>⟨h,yJ9⟩
  ·split
   ·exact λh=>⟨h,yJ9⟩
   ·intro h;obtain⟨p,hp,h⟩:=yQ5.1 h;exact yQ5.2 ⟨p,hp,xQt ‹_› (by simp[Op.operands]) hp h⟩
  ·split
   ·exact id
   ·intro h;obtain⟨p,hp,h⟩:=yQ5.1 h;exact yQ5.2 ⟨p,hp,xQt ‹_› (by simp[Op.operands]) hp h⟩
 by_cases h3:∃T x i,op=.fieldAddr T x i
 ·obtain⟨T,x,i,rfl⟩:=h3;simp only[vcR];refine yZe λf=>λh=>?_;obtain⟨p,hp,h⟩:=yQ5.1 h;refine yQ5.2 ⟨p,hp,?_⟩;cases p with
  | box t off=>exact⟨h,⟨(λ_ _ _ _=>rfl),λE D A=>by cases A;exact⟨x,by simp[Op.operands],off,hp⟩,(λ_ _ h=>by cases h),(λ_ _ h=>by cases h)⟩⟩
  | ptr b off=>exact⟨h,yJ9⟩
  | cp y=>exact zK7 (λ_=>yZe λ_=>yKr (λh=>⟨h,yJ9⟩) id) h
 by_cases W:∃T x y,op=.indexAddr T x y
 ·obtain⟨T,x,y,rfl⟩:=W;simp only[vcR];refine yZe λ_=>zK6 λ_ j=>yZe λk=>?_;cases k with
  | sl=>exact yZe λ_=>yZe λ_=>xVp (λ_ _=>yKr (yKr (yZe λ_=>λh=>⟨h,yJ9⟩) id) id) (λ_ _ _=>yKr (λh=>⟨h,yJ9⟩) id)
  | arr n =>
   refine yZe λ_=>λh=>?_;obtain⟨p,hp,h⟩:=yQ5.1 h;refine yQ5.2 ⟨p,hp,yKr (yKr ?_ id) id h⟩;cases p with
   | box t off=>exact λh=>⟨h,⟨(λ_ _ _ _=>rfl),λE D A=>by cases A;exact⟨x,by simp[Op.operands],off,hp⟩,(λ_ _ h=>by cases h),(λ_ _ h=>by cases h)⟩⟩
   | ptr b off=>exact λh=>⟨h,yJ9⟩
   | cp y=>exact zK7 (λ_=>yZe λ_=>yKr (λh=>⟨h,yJ9⟩) id)
  | str=>exact id
  | map=>exact id
 by_cases U:∃T x y,op=.store T x y
 ·obtain⟨T,x,y,rfl⟩:=U;simp only[vcR];refine yZe λ_=>yZe λ_=>xVs λh=>?_;obtain⟨p,hp,h⟩:=yQ5.1 h;refine yQ5.2 ⟨p,hp,?_⟩;revert h;cases p with
  | box t off =>
   simp only[yGh];cases hf:fr t with
   | box cs=>exact yKr (λh=>⟨h,⟨(λ_ _ h=>by cases h),(λ_ _ h=>by cases h),(λE cs' A=>by cases A;exact⟨rfl,⟨cs,hf⟩,x,by simp[Op.operands],off,hp⟩),λE cs' A T' a' v' ho=>by cases A;cases ho;exact⟨off,hp⟩⟩⟩) id
   | iv x=>exact id
  | ptr b off=>exact yZe λ_=>xVq λ_=>yKr (λh=>⟨h,xGj⟩) id
  | cp y=>exact id
 have G:∀x st ds,R (.val x) st ds->R (.val x) st ds/\Fine c op ad fr (.val x):=λx st ds h=>⟨h,yJ9⟩
 have O:∀x st ds,R (.box x) st ds->R (.box x) st ds/\Fine c op ad fr (.box x):=λx st ds h=>⟨h,wYm⟩
 have J:∀st ds,R .nop st ds->R .nop st ds/\Fine c op ad fr .nop:=λst ds h=>⟨h,xGj⟩
 generalize Fine c op ad fr=F at G O J ⊢;unfold vcR;split
 all_goals first
  | exact absurd ⟨_,.inl rfl⟩ h1|exact absurd ⟨_,.inr rfl⟩ h1|exact absurd ⟨_,rfl⟩ h2|exact absurd ⟨_,_,_,rfl⟩ h3|exact absurd ⟨_,_,_,rfl⟩ W|exact absurd ⟨_,_,_,rfl⟩ U
  | repeat (first
   | exact G _ _ _|exact O _ _ _|exact J _ _|exact id
   | refine yZe λ_=>?_|refine xVs ?_|refine wJy ?_|refine wJz ?_|refine wK0 λ_=>?_|refine zVp ?_ ?_|refine yKr ?_ ?_
   | refine xG8 λ_=>?_|refine xVq λ_=>?_|refine wJu λ_ _=>?_|refine zK6 λ_ _=>?_|refine zVq λ_=>?_|refine zVo λ_ _=>?_|refine xVp (λ_ _=>?_) (λ_ _ _=>?_)|refine xVo (λ_ _=>?_) (λ_ _ _ _=>?_)|refine xQk ?_ ?_
   | refine zK7 λ_=>?_|refine xG4 λ_=>?_|refine xVr λ_ _ _=>?_|refine xG6 λ_=>?_|refine xG5 λ_=>?_|refine xG7 λ_=>?_|refine xG9 λ_=>?_|refine wJx λ_ _ _ _=>?_|refine wJw λ_ _=>?_|refine wJv ?_ (λ_ _=>?_)
   | (refine λhh=>callV.mono hh λ_ _=>?_;unfold zWe)
   | unfold yYt|unfold yG6|unfold xQ8|unfold zZe|unfold yGj|unfold zVl|unfold zXh|unfold yGg|unfold xY0|unfold wWy|unfold xGn|unfold lenV|unfold appV|unfold qO|unfold appO|unfold appZ|unfold capV|unfold zGv|unfold xVf|unfold xZ2
   | split)
def yWv (ad:Ad)(d:Nat):Prop:=∀x t off,ad x=some (t,off)->t≠d
theorem xVm {ad:Ad}{d:Nat}(h:yWv ad d)(s:Nat):Ad.keep d (ad s)=ad s:=by
 cases A:ad s with
 | none=>rfl
 | some p =>
  obtain⟨t,off⟩:=p;simp only[Ad.keep,if_neg (h s t off A)]
theorem xQv {c:Cf}{ad:Ad}{fr:Fr}{x:Operand}{t off d:Nat}(h:evA c.gl ad fr x=some (.box t off))(O:yWv ad d)(G:x≠.tmp d):t≠d:=by
 cases x with
 | tmp y =>
  simp only[evA] at h;cases D:ad y with
  | some p =>
   obtain⟨F,A⟩:=p;rw[D] at h;simp only[plAd,Option.some.injEq,Pl.box.injEq] at h;exact h.1▸O y F A D
  | none =>
   rw[D] at h;simp only[plAd] at h;cases E:fr y with
   | box cs =>
    rw[E] at h;simp only[plOf,Option.some.injEq,Pl.box.injEq] at h;rintro rfl;exact G (by rw[h.1])
   | iv z =>
    rw[E] at h;exfalso;cases z with
    | raw u =>
     cases u with
     | pointer p =>
      cases p with
      | none=>cases h
      | some p =>
       obtain⟨W,U,ps⟩:=p;cases ps<;>cases h
     | _=>cases h
    | _=>cases h
 | global g=>simp only[evA] at h;cases J:c.gl g<;>rw[J] at h<;>cases h
 | const v=>cases h
 | func f=>cases h
theorem xUl {c:Cf}{op:Op}{ad:Ad}{fr:Fr}{d:Nat}{a:Option (Nat×Nat)}{s:SV}(hd:∀x∈op.operands,x≠.tmp d)(E:yWv ad d):SameAt c op ad (ad.put d a) fr (fr.put d s):=by
 refine⟨λx A=>?_,λx A=>?_,λ_ x A t off F=>?_⟩
 ·cases x with
  | tmp y=>rw[zXp,zXp,Fr.put_apply,if_neg (λh=>hd _ A (by rw[h]))]
  | _=>rfl
 ·cases x with
  | tmp y =>
   have D:y≠d:=λh=>hd _ A (by rw[h]);simp only[evA,Ad.put_apply,if_neg D,xVm E];cases ad y with
   | none=>simp only[plAd,Fr.put_apply,if_neg D]
   | some p=>rfl
  | _=>rfl
 ·rw[Fr.put_apply,if_neg (xQv F E (hd x A))]
theorem xUk {c:Cf}{op:Op}{ad:Ad}{fr:Fr}{t:Nat}{cs cs':List IV}(D:fr t=.box cs)(h:(zJj op || yY3 op)=false):SameAt c op ad ad fr (fr.put t (.box cs')):=by
 refine⟨λx _=>?_,λx _=>?_,λE=>by rw[h] at E;cases E⟩
 ·cases x with
  | tmp y =>
   rw[zXp,zXp,Fr.put_apply];split
   ·rename_i A;rw[A,D];rfl
   ·rfl
  | _=>rfl
 ·cases x with
  | tmp y =>
   simp only[evA];cases ad y with
   | none =>
    simp only[plAd,Fr.put_apply];split
    ·rename_i A;rw[A,D];rfl
    ·rfl
   | some p=>rfl
  | _=>rfl
theorem zUp {ops:List Oper}{o:Oper}{fr:Fr}{d:Nat}{s:SV}(h:d ∉ looks ops o):yVl ops o fr (fr.put d s):=by
 intro j A e D E;refine .inl ?_;rw[Fr.put_apply,if_neg];rintro rfl;exact h (List.mem_append_right _ (by rw[D];simp[E]))
theorem zZ4 {ops:List Oper}{o:Oper}{fr:Fr}{t:Nat}{cs cs':List IV}(E:fr t=.box cs):yVl ops o fr (fr.put t (.box cs')):=by
 intro j D e _ _;rw[Fr.put_apply];by_cases A:e=t
 ·rw[if_pos A,A];exact .inr ⟨cs,cs',E,rfl⟩
 ·rw[if_neg A];exact .inl rfl
theorem yGs {ops:List Oper}{o:Oper}{d:Nat}(h:d ∉ looks ops o):∀x∈o.op.operands,x≠.tmp d:=by
 rintro x A rfl;exact h (List.mem_append_left _ (List.mem_filterMap.2 ⟨.tmp d,by simpa using A,rfl⟩))
def after (dst:Option Nat)(pr:PR)(ad:Ad)(fr:Fr):Option (Ad×Fr) :=
 match pr,dst with
 | .val x,some d=>some (ad.put d none,fr.put d (.iv x))
 | .val _,none=>some (ad,fr)
 | .adr t off,some d=>if d=t then none else some (ad.put d (some (t,off)),fr.put d (.iv .junk))
 | .adr _ _,none=>some (ad,fr)
 | .box cs,some d=>some (ad.put d none,fr.put d (.box cs))
 | .box _,none=>none
 | .sto _ _,some _=>none
 | .sto t cs,none=>some (ad,fr.put t (.box cs))
 | .nop,some _=>none
 | .nop,none=>some (ad,fr)
theorem yX9 {dst:Option Nat}{K:Kt}{ad:Ad}{fr:Fr}{pr:PR}{st:ISt}{ds:List Dfd}:finK dst K ad fr pr st ds↔∃p,after dst pr ad fr=some p/\K p.1 p.2 st ds:=by
 cases pr<;>cases dst<;>simp only[finK,after,Option.some.injEq,exists_eq_left',reduceCtorEq,false_and,exists_false];split<;>simp
theorem yVz {c:Cf}{ops:List Oper}{o:Oper}{R:Rt}{ad:Ad}{fr:Fr}{st:ISt}{ds:List Dfd}(h:yXk c ops o R ad fr st ds):yXk c ops o (λpr st ds=>R pr st ds/\Fine c o.op ad fr pr) ad fr st ds:=by
 unfold yXk at *;split
 ·exact xWj (by simpa[*] using h)
 ·rename_i j E F;rw[F] at h;simp only at h;split at h
  ·rename_i d hd;cases A:fr d with
   | box cs=>rw[A] at h;exact h.elim
   | iv x =>
    cases x with
    | raw v =>
     cases v with
     | bool b =>
      rw[A] at h;simp only at h ⊢;split
      ·rename_i D;rw[if_pos D] at h;exact xWj h
      ·rename_i D;rw[if_neg D] at h;exact⟨h,yJ9⟩
     | tuple t=>rw[A] at h;exact⟨h,yJ9⟩
     | _=>rw[A] at h;exact h.elim
    | _=>rw[A] at h;exact h.elim
  ·exact h.elim
structure Ap (c:Cf)(ops:List Oper)(x y:Oper):Prop where
 pure:yK8 c.esc x.dst x.op=true\/yK8 c.esc y.dst y.op=true
 ls:zJj x.op=true->yY3 y.op=true->stOk ops y x=true
 sl:yY3 x.op=true->zJj y.op=true->stOk ops x y=true
 d:∀d,x.dst=some d->d ∉ looks ops y/\y.dst≠some d
 e:∀d,y.dst=some d->d ∉ looks ops x
theorem Ap.symm {c:Cf}{ops:List Oper}{x y:Oper}(h:Ap c ops x y):Ap c ops y x :=
 ⟨h.pure.symm,λa b=>h.sl b a,λa b=>h.ls b a,λd hd=>⟨h.e d hd,λA=>(h.d d A).2 hd⟩,λd hd=>(h.d d hd).1⟩
theorem xXh {esc:List Nat}{dst:Option Nat}{op:Op}(h:zY8 esc dst op=true):yY3 op=false:=by
 cases op<;>first|rfl|simp[zY8] at h
theorem yVs {esc:List Nat}{dst:Option Nat}{op:Op}(h:yK8 esc dst op=true):yY3 op=false:=by
 unfold yK8 at h;rw[Bool.or_eq_true] at h;rcases h with h|h
 ·exact xXh h
 ·cases op<;>first|rfl|cases h
theorem kQx {c:Cf}{ops:List Oper}{x y:Oper}(h:wKy c.esc ops x y=true):Ap c ops x y:=by
 unfold wKy at h;simp only[bAt,Bool.or_eq_true,Bool.not_eq_true',Bool.and_eq_false_iff] at h;obtain⟨⟨⟨⟨h1,h2⟩,D⟩,A⟩,E⟩:=h;refine⟨h1,λa b=>by rcases h2 with h2|h2<;>simp_all,λa b=>by rcases D with D|D<;>simp_all,λd hd=>?_,λd hd=>?_⟩
 ·rw[hd] at A;simp only[bAt,Bool.not_eq_true'] at A;exact⟨by simpa using A.1,by simpa using A.2⟩
 ·rw[hd] at E;simpa using E
def Safe (ops:List Oper)(ad:Ad):Prop:=∀e,wW5 ops e=true->yWv ad e/\ad e=none
theorem wX2 (ops:List Oper):Safe ops Ad.none_:=λ_ _=>⟨λ_ _ _ h=>(by cases h),rfl⟩
theorem xWv {ops:List Oper}{e:Nat}(h:wW5 ops e=true){o:Oper}(A:o∈ops)(D:wQe o.op=true):e ∉ looks ops o/\o.dst≠some e:=by
 unfold wW5 at h;have:=List.all_eq_true.1 h o A;rw[D] at this;simp only[Bool.not_true,Bool.false_or,bAt,Bool.not_eq_true'] at this;exact⟨by simpa using this.1,by simpa using this.2⟩
theorem yW0 {c:Cf}{ops:List Oper}{x y:Oper}(h:Ap c ops x y){ad:Ad}(ae:Safe ops ad){fr:Fr}{pr:PR}{p:Ad×Fr}(hb:∀d,x.dst=some d->yWv ad d)(hf:Fine c x.op ad fr pr)(E:after x.dst pr ad fr=some p) :
  SameAt c y.op ad p.1 fr p.2/\yVl ops y fr p.2:=by
 have refl:SameAt c y.op ad ad fr fr/\yVl ops y fr fr:=⟨⟨λ_ _=>rfl,λ_ _=>rfl,λ_ _ _ _ _ _=>rfl⟩,λ_ _ _ _ _=>.inl rfl⟩
 cases F:x.dst with
 | none =>
  rw[F] at E;cases pr with
  | sto t cs =>
   simp only[after,Option.some.injEq] at E;subst E;obtain⟨hs,⟨ao,ht⟩,_⟩:=hf.sto t cs rfl;have ac:yY3 y.op=false:=by
    rcases h.pure with hp|hp
    ·rw[yVs hp] at hs;cases hs
    ·exact yVs hp
   cases hl:zJj y.op with
   | false=>exact⟨xUk ht (by rw[hl,ac];rfl),zZ4 ht⟩
   | true =>
    have D:=h.sl hs hl;unfold stOk at D;split at D
    ·rename_i T e v W;rw[bAt] at D;obtain⟨ah,G⟩:=ae e D.1;have O:e ∉ looks ops y:=by simpa using D.2
     obtain⟨off,A⟩:=hf.stoA t cs rfl T _ v W;have aa:t=e:=by
      simp only[evA,G,plAd] at A;cases U:fr e with
      | box an=>rw[U] at A;simp only[plOf,Option.some.injEq,Pl.box.injEq] at A;exact A.1.symm
      | iv x1 =>
       rw[U] at A;unfold plOf at A;split at A<;>first|(cases A;done)|(cases A;rfl)
     subst aa;show SameAt c y.op ad ad fr (fr.put t (.box cs))/\yVl ops y fr (fr.put t (.box cs));refine⟨⟨λx F=>?_,λx F=>?_,λ_ x F t2 aj ai=>?_⟩,zZ4 ht⟩
     ·have J:=yGs O x F;cases x with
      | tmp q =>
       rw[zXp,zXp,Fr.put_apply,if_neg λhq=>J (by rw[hq])]
      | _=>rfl
     ·have J:=yGs O x F;cases x with
      | tmp q =>
       simp only[evA];cases ad q with
       | none=>simp only[plAd];rw[Fr.put_apply,if_neg λhq=>J (by rw[hq])]
       | some p=>rfl
      | _=>rfl
     ·rw[Fr.put_apply,if_neg (xQv ai ah (yGs O x F))]
    ·cases D
  | _=>simp only[after,Option.some.injEq,reduceCtorEq] at E<;>subst E<;>exact refl
 | some d =>
  rw[F] at E;have hd:=h.d d F;have key:∀a s,SameAt c y.op ad (ad.put d a) fr (fr.put d s)/\yVl ops y fr (fr.put d s):=λa s=>⟨xUl (yGs hd.1) (hb d F),zUp hd.1⟩
  cases pr with
  | adr t off =>
   simp only[after] at E;split at E
   ·cases E
   ·cases E;exact key _ _
  | _=>simp only[after,Option.some.injEq,reduceCtorEq] at E<;>subst E<;>exact key _ _
theorem zUx {fr:Fr}{d e:Nat}{s t:SV}(h:d≠e):(fr.put d s).put e t=(fr.put e t).put d s:=by
 funext x;simp only[Fr.put_apply];by_cases h1:x=e
 ·rw[if_pos h1,if_neg (λh2=>h (by rw[<- h2,h1])),if_pos h1]
 ·rw[if_neg h1,if_neg h1]
theorem wJl {d e:Nat}(o:Option (Nat×Nat)):Ad.keep d (Ad.keep e o)=Ad.keep e (Ad.keep d o):=by
 cases o with
 | none=>rfl
 | some p =>
  obtain⟨t,off⟩:=p;by_cases h1:t=e
  ·by_cases h2:t=d
   ·simp only[Ad.keep,if_pos h1,if_pos h2]
   ·simp only[Ad.keep,if_pos h1,if_neg h2]
  ·by_cases h2:t=d
   ·simp only[Ad.keep,if_neg h1,if_pos h2]
   ·simp only[Ad.keep,if_neg h1,if_neg h2]
theorem wQy {ad:Ad}{d e:Nat}{a b:Option (Nat×Nat)}(h:d≠e)(D:Ad.keep e a=a)(A:Ad.keep d b=b):(ad.put d a).put e b=(ad.put e b).put d a:=by
 funext x;simp only[Ad.put_apply];by_cases h1:x=e
 ·have h2:x≠d:=λh2=>h (by rw[<- h2,h1]);rw[if_pos h1,if_neg h2,if_pos h1,A]
 ·by_cases h2:x=d
  ·rw[if_neg h1,if_pos h2,if_pos h2,D]
  ·rw[if_neg h1,if_neg h2,if_neg h2,if_neg h1,wJl]
theorem zZq {c:Cf}{ops:List Oper}{y:Oper}{d:Nat}{ad:Ad}{fr:Fr}(hd:d ∉ looks ops y)(F:yWv ad d){t:Nat}(h:∃x∈y.op.operands,∃A,evA c.gl ad fr x=some (.box t A)):t≠d:=by
 obtain⟨x,D,A,E⟩:=h;exact xQv E F (yGs hd x D)
theorem yYk {d:Nat}{pr:PR}{ad:Ad}{fr:Fr}{p:Ad×Fr}(h:after (some d) pr ad fr=some p):∃a s,p=(ad.put d a,fr.put d s)/\(∀A fr',after (some d) pr A fr'=some (A.put d a,fr'.put d s)) /\
  (a=none\/∃t off,pr=.adr t off/\a=some (t,off)):=by
 cases pr with
 | val x=>cases h;exact⟨_,_,rfl,λ_ _=>rfl,.inl rfl⟩
 | box x=>cases h;exact⟨_,_,rfl,λ_ _=>rfl,.inl rfl⟩
 | adr t off =>
  simp only[after] at h;split at h
  ·cases h
  ·rename_i D;cases h;exact⟨_,_,rfl,λ_ _=>if_neg D,.inr ⟨t,off,rfl,rfl⟩⟩
 | sto t cs=>cases h
 | nop=>cases h
theorem zXw {c:Cf}{ops:List Oper}{x y:Oper}(h:Ap c ops x y){ad:Ad}{fr:Fr}{F E:PR}{p q:Ad×Fr}(ae:∀d,x.dst=some d->yWv ad d)(ac:∀d,y.dst=some d->yWv ad d)
  (O:Fine c x.op ad fr F) (J:Fine c y.op ad fr E) (hp:after x.dst F ad fr=some p) (A:after y.dst E ad fr=some q) :
  ∃r,after y.dst E p.1 p.2=some r/\after x.dst F q.1 q.2=some r:=by
 have am:∀d t off,x.dst=some d->E=.adr t off->Ad.keep d (some (t,off))=some (t,off):=λd t off hd U=>by
  simp only[Ad.keep,if_neg (zZq (h.d d hd).1 (ae d hd) (J.adr t off U))]
 have al:∀d t off,y.dst=some d->F=.adr t off->Ad.keep d (some (t,off))=some (t,off):=λd t off hd U=>by
  simp only[Ad.keep,if_neg (zZq (h.e d hd) (ac d hd) (O.adr t off U))]
 have ai:∀d t cs,x.dst=some d->E=.sto t cs->t≠d:=λd t cs hd U=>zZq (h.d d hd).1 (ae d hd) (J.sto t cs U).2.2;have ah:∀d t cs,y.dst=some d->F=.sto t cs->t≠d:=λd t cs hd U=>zZq (h.e d hd) (ac d hd) (O.sto t cs U).2.2;have aj:∀t cs t' cs',F=.sto t cs->E=.sto t' cs'->False:=λt cs t' cs' h1 h2=>by
  have a:=(O.sto t cs h1).1;have b:=(J.sto t' cs' h2).1;rcases h.pure with A|A
  ·rw[yVs A] at a;cases a
  ·rw[yVs A] at b;cases b
 cases hx:x.dst with
 | none =>
  cases G:y.dst with
  | none =>
   rw[hx] at hp;rw[G] at A;cases F<;>cases E<;>simp only[after,Option.some.injEq,reduceCtorEq] at hp A<;>subst hp A<;>first|exact⟨_,rfl,rfl⟩|exact (aj _ _ _ _ rfl rfl).elim
  | some e =>
   rw[hx] at hp;rw[G] at A;cases F with
   | sto t cs =>
    have ht:=ah e t cs G rfl;simp only[after,Option.some.injEq] at hp;subst hp;cases E with
    | adr t' off =>
     simp only[after] at A;split at A
     ·cases A
     ·rename_i ak;cases A;exact⟨_,if_neg ak,by simp only[after];rw[zUx (λh=>ht h.symm)]⟩
    | _=>simp only[after,Option.some.injEq,reduceCtorEq] at A<;>subst A<;>exact⟨_,rfl,by simp only[after];rw[zUx (λh=>ht h.symm)]⟩
   | _=>simp only[after,Option.some.injEq,reduceCtorEq] at hp<;>subst hp<;>exact⟨_,A,rfl⟩
 | some d =>
  rw[hx] at hp;obtain⟨a,s,rfl,D,ha⟩:=yYk hp;cases G:y.dst with
  | none =>
   rw[G] at A;cases E with
   | sto t cs =>
    have ht:=ai d t cs hx rfl;cases A;exact⟨_,rfl,by rw[D,zUx ht]⟩
   | box cs=>cases A
   | _=>cases A;exact⟨_,rfl,D _ _⟩
  | some e =>
   rw[G] at A;obtain⟨b,s',rfl,W,hb⟩:=yYk A;have ab:d≠e:=λh0=>(h.d d hx).2 (by rw[G,h0]);have ao:Ad.keep e a=a:=by
    rcases ha with rfl|⟨t,off,h1,rfl⟩
    ·rfl
    ·exact al e t off G h1
   have an:Ad.keep d b=b:=by
    rcases hb with rfl|⟨t,off,h1,rfl⟩
    ·rfl
    ·exact am d t off hx h1
   exact⟨_,W _ _,by rw[D,zUx ab,wQy ab ao an]⟩
