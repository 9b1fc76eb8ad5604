/- The layer of ideal values, part O: regio -/
import Derived.Test.YtofmbookakncjaaGreatDoorJE
set_option linter.all false
namespace Go.Iv
open Go
section
variable {α:Type}{p q p' q':Prop}
theorem yZ4 {o:Option α}{f g:α->Prop}(h:∀x,f x->g x):yQ5 o f->yQ5 o g:=by
 cases o<;>simp only[yQ5]<;>first|exact h _|exact id
theorem xK9 {c:Prop}(h:p->q):chk c p->chk c q:=λx=>⟨x.1,h x.2⟩
theorem wJo {c:Prop}(h:p->q):giv c p->giv c q:=λx y=>h (x y)
theorem wJp {c:Prop}(h:p->q):(c->p)->(c->q):=λx y=>h (x y)
theorem wJq {f g:α->Prop}(h:∀x,f x->g x):(∀x,f x)->(∀x,g x):=λA x=>h x (A x)
theorem zKm {b:Bool}{k:Lock p}{l:Lock q}{E:Lock p'}{D:Lock q'}(h:p->p')(G:q->q'):yG1 b p q k l->yG1 b p' q' E D:=λx=>⟨λA=>h (x.1 A),λA=>G (x.2 A)⟩
theorem wUk (h:p->p')(A:q->q'):p\/q->p'\/q':=λx=>x.imp h A
theorem yJg {c:Prop} [Decidable c](h:p->p')(A:q->q'):(if c then p else q)->(if c then p' else q'):=by split<;>assumption
theorem xYd {s:SV}{f g:List IV->Prop}(h:∀x,f x->g x):boxV s f->boxV s g:=by unfold boxV;split<;>first|exact h _|exact id
theorem xK7 {s:IObj}{f g:List IV->Prop}(h:∀x,f x->g x):obV s f->obV s g:=by unfold obV;split<;>first|exact h _|exact id
theorem wJk {s:IObj}{f g:KeyK->List (Value×IV)->Prop}(h:∀x y,f x y->g x y):omV s f->omV s g:=by unfold omV;split<;>first|exact h _ _|exact id
theorem zJ1 {s:IV}{f g:IntKind->Int->Prop}(h:∀x y,f x y->g x y):intV s f->intV s g:=by unfold intV;split<;>first|exact h _ _|exact id
theorem zKn {s:IV}{f g:Bool->Prop}(h:∀x,f x->g x):zXm s f->zXm s g:=by unfold zXm;split<;>first|exact h _|exact id
theorem zU5 {s:IV}{f g:Tag->List IV->Prop}(h:∀x y,f x y->g x y):slV s f->slV s g:=by unfold slV;split<;>first|exact h _ _|exact id
theorem xK6 {s:IV}{f D:Tag->List IV->Prop}{g A:Nat->Nat->Nat->Prop}(h:∀x y,f x y->D x y)(E:∀x y z,g x y z->A x y z):slX s f g->slX s D A:=by unfold slX;split<;>first|exact h _ _|exact E _ _ _|exact id
theorem zU4 {s:IV}{f D:Tag->List IV->Prop}{g A:Nat->Nat->Nat->Nat->Prop}(h:∀x y,f x y->D x y)(E:∀x y z u,g x y z u->A x y z u):slY s f g->slY s D A:=by unfold slY;split<;>first|exact h _ _|exact E _ _ _ _|exact id
theorem zU6 {k:Option LenK}{i:Option IntKind}{f D g A:Prop}(h:f->D)(E:g->A):appK k i f g->appK k i D A:=by unfold appK;split<;>first|exact h|exact E|exact id
theorem zJ2 {s:IV}{f g:List IV->Prop}(h:∀x,f x->g x):aggV s f->aggV s g:=by unfold aggV;split<;>first|exact h _|exact id
theorem xY9 {s:IV}{f g:List IV->Prop}(h:∀x,f x->g x):tupV s f->tupV s g:=by unfold tupV;split<;>first|exact h _|exact id
theorem xK8 {s:IV}{f g:Fn->List IV->List IV->Prop}(h:∀x y z,f x y z->g x y z):fnV s f->fnV s g:=by unfold fnV;split<;>first|exact h _ _ _|exact id
theorem xYb {s:IV}{f g:Option Nat->Prop}(h:∀x,f x->g x):mapV s f->mapV s g:=by unfold mapV;split<;>first|exact h _|exact id
theorem xYc {s:IV}{f g:Value->Prop}(h:∀x,f x->g x):keyV s f->keyV s g:=by unfold keyV;split<;>first|exact h _|exact λk hs=>h _ (k hs)|exact id
theorem xYe {s:IV}{f g:Nat->Prop}(h:∀x,f x->g x):adrV s f->adrV s g:=by unfold adrV;split<;>first|exact h _|exact id
theorem wJn {s:IObj}{f g:Nat->Nat->Array Nat->Nat->Prop}(h:∀x y z u,f x y z u->g x y z u):itO s f->itO s g:=by unfold itO;split<;>first|exact h _ _ _ _|exact id
theorem wJm {s:IObj}{f g:Array MapEntry->Nat->Prop}(h:∀x y,f x y->g x y):mxO s f->mxO s g:=by unfold mxO;split<;>first|exact h _ _|exact id
theorem wJl {e:Array MapEntry}{n:Array Nat}{p p':Prop}{q q':MapEntry->IV->Prop}{k:Lock p}{l:Lock q}{D:Lock p'}{A:Lock q'}(h:p->p')(E:∀x y,q x y->q' x y):nxR e n p q k l->nxR e n p' q' D A:=λx=>⟨λy=>h (x.1 y),λa b c d=>E _ _ (x.2 a b c d)⟩
theorem xYa {s:IV}{f g:Value->Prop}(h:∀x,f x->g x):rawV s f->rawV s g:=by unfold rawV;split<;>first|exact h _|exact id
end
section
variable {R R':Rt}(h:∀pr st ds,R pr st ds->R' pr st ds)
include h
set_option maxHeartbeats 1000000 in
theorem yG6 {c:Cf}{dst:Option Nat}{op:Op}{ad:Ad}{fr:Fr}{st:ISt}{ds:List Dfd}:vcR c dst op R ad fr st ds->vcR c dst op R' ad fr st ds:=by
 unfold vcR;split
 all_goals try unfold zZc
 all_goals try unfold nilV
 all_goals repeat (first
  | exact h _ _ _|exact id
  | refine yZ4 λ_=>?_|refine xK9 ?_|refine wJo ?_|refine wJp ?_|refine wJq λ_=>?_|refine zKm ?_ ?_|refine wUk ?_ ?_|refine yJg ?_ ?_
  | refine xYd λ_=>?_|refine xK7 λ_=>?_|refine wJk λ_ _=>?_|refine zJ1 λ_ _=>?_|refine zKn λ_=>?_|refine zU5 λ_ _=>?_|refine xK6 (λ_ _=>?_) (λ_ _ _=>?_)|refine zU4 (λ_ _=>?_) (λ_ _ _ _=>?_)|refine zU6 ?_ ?_
  | refine zJ2 λ_=>?_|refine xY9 λ_=>?_|refine xK8 λ_ _ _=>?_|refine xYb λ_=>?_|refine xYa λ_=>?_|refine xYc λ_=>?_|refine xYe λ_=>?_|refine wJn λ_ _ _ _=>?_|refine wJm λ_ _=>?_|refine wJl ?_ (λ_ _=>?_)
  | (refine λA=>callV.mono A λ_ _=>?_;unfold zVg)
  | unfold yWr|unfold yY0|unfold zGq|unfold zQc|unfold yYb|unfold zXa|unfold xKm|unfold idxV|unfold yW1|unfold arrV|unfold zX8|unfold zZd|unfold yYa|unfold xW3|unfold wY7|unfold xG1|unfold lenV|unfold appV|unfold qO|unfold appO|unfold appR|unfold appZ|unfold capV|unfold zYh|unfold xJx|unfold zUm|unfold plR
  | split)
end
def zVz (esc:List Nat)(dst:Option Nat):Op->Bool
 | .move _|.assign _|.pick ..|.build ..=>true
 | .buildSlice ..=>!yV3 esc dst
 | .load ..=>!yV3 esc dst
 | .nilCheck _|.binOp ..|.unOp ..|.convert ..|.makeFunc ..|.slice ..|.fieldAddr ..|.field ..|.indexAddr ..|.index ..|.extract ..=>true
 | .alloc _|.box ..=>match dst with|some d=>!esc.contains d|none=>false
 | .call ⟨.builtin .len,_,_⟩|.call ⟨.builtin .max,_,_⟩=>true
 | .call ⟨.value (.func g),_,_⟩=>esc.contains (g+1000000)
 | _=>false
def zX7:Op->Bool
 | .load ..=>true
 | _=>false
def yVu:Op->Bool
 | .store ..=>true
 | _=>false
def yJ1 (esc:List Nat)(dst:Option Nat)(op:Op):Bool:=zVz esc dst op || zX7 op
def vKx (l:List Operand):List Nat:=l.filterMap λ| .tmp t=>some t|_=>none
def looks (ops:List Oper)(o:Oper):List Nat:=vKx o.op.operands.toList++(match o.guard with|some (j,_)=>(yV9 ops j).toList|none=>[])
def xUs:Op->Bool
 | .fieldAddr ..=>true
 | .indexAddr ..=>true
 | _=>false
def wWn (ops:List Oper)(e:Nat):Bool:=ops.all λo=>!xUs o.op || (!(looks ops o).contains e&&!(o.dst == some e))
def stOk (ops:List Oper)(x y:Oper):Bool :=
 match x.op with
 | .store _ (.tmp e) _=>wWn ops e&&!(looks ops y).contains e
 | _=>false
def wV5 (esc:List Nat)(ops:List Oper)(x y:Oper):Bool :=
 (yJ1 esc x.dst x.op || yJ1 esc y.dst y.op)&&(!(zX7 x.op&&yVu y.op) || stOk ops y x)&&(!(zX7 y.op&&yVu x.op) || stOk ops x y) &&
 (match x.dst with|some d=>!(looks ops y).contains d&&!(y.dst == some d)|none=>true)&&(match y.dst with|some d=>!(looks ops x).contains d|none=>true)
def Lin (F:Rt->ISt->List Dfd->Prop):Prop:=(∃pr,∀R st ds,F R st ds↔R pr st ds)\/(∀R st ds,¬ F R st ds)
theorem yZv (pr:PR):Lin (λR st ds=>R pr st ds):=.inl ⟨pr,λ_ _ _=>Iff.rfl⟩
theorem yZd:Lin (λ_ _ _=>False):=.inr λ_ _ _ h=>h
theorem yQd {α:Type}{o:Option α}{F:α->Rt->ISt->List Dfd->Prop}(h:∀x,Lin (F x)):Lin (λR st ds=>yQ5 o λx=>F x R st ds):=by
 cases o with
 | none=>exact yZd
 | some x=>exact h x
theorem yWt {c:Prop}{F:Rt->ISt->List Dfd->Prop}(h:Lin F):Lin (λR st ds=>chk c (F R st ds)):=by
 by_cases hc:c
 ·rcases h with⟨pr,h⟩|h
  ·exact .inl ⟨pr,λR st ds=>⟨λx=>(h R st ds).1 x.2,λx=>⟨hc,(h R st ds).2 x⟩⟩⟩
  ·exact .inr λR st ds x=>h R st ds x.2
 ·exact .inr λR st ds x=>hc x.1
theorem yJf {c:Prop} [Decidable c]{F G:Rt->ISt->List Dfd->Prop}(h:Lin F)(A:Lin G):Lin (λR st ds=>if c then F R st ds else G R st ds):=by
 by_cases hc:c
 ·simpa only[if_pos hc] using h
 ·simpa only[if_neg hc] using A
theorem wJ5 {c:Prop}{F:Rt->ISt->List Dfd->Prop}(hc:c)(h:Lin F):Lin (λR st ds=>c->F R st ds):=by
 rcases h with⟨pr,h⟩|h
 ·exact .inl ⟨pr,λR st ds=>⟨λx=>(h R st ds).1 (x hc),λx _=>(h R st ds).2 x⟩⟩
 ·exact .inr λR st ds x=>h R st ds (x hc)
theorem wJ7 {b:Bool}{F G:Rt->ISt->List Dfd->Prop}(h:Lin F)(A:Lin G):Lin (λR st ds=>yG1 b (F R st ds) (G R st ds) .mk .mk):=by
 cases b
 ·simpa only[xKo] using A
 ·simpa only[wQ7] using h
theorem xWq {s:SV}{F:List IV->Rt->ISt->List Dfd->Prop}(h:∀x,Lin (F x)):Lin (λR st ds=>boxV s λx=>F x R st ds):=by
 cases s<;>first|exact h _|exact yZd
theorem zXy {s:IV}{F:IntKind->Int->Rt->ISt->List Dfd->Prop}(h:∀x y,Lin (F x y)):Lin (λR st ds=>intV s λx y=>F x y R st ds):=by
 cases s with
 | raw v=>cases v<;>first|exact h _ _|exact yZd
 | _=>exact yZd
theorem wJ8 {s:IV}{F:Bool->Rt->ISt->List Dfd->Prop}(h:∀x,Lin (F x)):Lin (λR st ds=>zXm s λx=>F x R st ds):=by
 cases s with
 | raw v=>cases v<;>first|exact h _|exact yZd
 | _=>exact yZd
theorem wJ3 {s:IV}{F:Tag->List IV->Rt->ISt->List Dfd->Prop}{G:Nat->Nat->Nat->Rt->ISt->List Dfd->Prop}(h:∀x y,Lin (F x y))(J:∀x y z,Lin (G x y z)):Lin (λR st ds=>slX s (λx y=>F x y R st ds) (λx y z=>G x y z R st ds)):=by
 by_cases hs:∃t D,s=.sl t D
 ·obtain⟨t,D,rfl⟩:=hs;exact h _ _
 ·by_cases E:∃b off n cap,s=.raw (.slice (some ⟨b,off,none⟩) n cap)
  ·obtain⟨b,off,n,cap,rfl⟩:=E;exact J _ _ _
  ·refine .inr λR st ds A=>?_;simp only at A;unfold slX at A;split at A
   ·exact hs ⟨_,_,rfl⟩
   ·exact E ⟨_,_,_,_,rfl⟩
   ·exact A
theorem vZp {s:IV}{F:Tag->List IV->Rt->ISt->List Dfd->Prop}{G:Nat->Nat->Nat->Nat->Rt->ISt->List Dfd->Prop}(h:∀x y,Lin (F x y))(J:∀x y z u,Lin (G x y z u)):Lin (λR st ds=>slY s (λx y=>F x y R st ds) (λx y z u=>G x y z u R st ds)):=by
 by_cases hs:∃t D,s=.sl t D
 ·obtain⟨t,D,rfl⟩:=hs;exact h _ _
 ·by_cases E:∃b off n cap,s=.raw (.slice (some ⟨b,off,none⟩) n cap)
  ·obtain⟨b,off,n,cap,rfl⟩:=E;exact J _ _ _ _
  ·refine .inr λR st ds A=>?_;simp only at A;unfold slY at A;split at A
   ·exact hs ⟨_,_,rfl⟩
   ·exact E ⟨_,_,_,_,rfl⟩
   ·exact A
theorem zXz {s:IV}{F:List IV->Rt->ISt->List Dfd->Prop}(h:∀x,Lin (F x)):Lin (λR st ds=>aggV s λx=>F x R st ds):=by
 cases s<;>first|exact h _|exact yZd
theorem wYa {s:IV}{F:List IV->Rt->ISt->List Dfd->Prop}(h:∀x,Lin (F x)):Lin (λR st ds=>tupV s λx=>F x R st ds):=by
 cases s<;>first|exact h _|exact yZd
theorem zGv {s:IV}{F:Value->Rt->ISt->List Dfd->Prop}(h:∀x,Lin (F x)):Lin (λR st ds=>rawV s λx=>F x R st ds):=by
 cases s<;>first|exact h _|exact yZd
theorem wJ4 {ag:Bool}{n:Nat}{p:Pl}{fr:Fr}:Lin (λR st ds=>zQc true ag n p fr R st ds):=by
 cases p with
 | box t off=>exact xWq λ_=>yQd λ_=>yZv _
 | ptr b off=>exact yZd
 | cp y=>exact yJf (yZv _) yZd
theorem xUm {f:Nat×Bool×Nat}{p:Pl}:Lin (λR st ds=>zXa f p R st ds):=by
 cases p with
 | box t off=>exact yZv _
 | ptr b off=>exact yZv _
 | cp y=>exact zXz λ_=>yQd λ_=>yJf (yZv _) yZd
theorem wJ6 {len n j:Nat}{ag:Bool}{p:Pl}:Lin (λR st ds=>xKm len ag n j p R st ds):=by
 unfold xKm;refine yJf ?_ yZd;cases p with
 | box t off=>exact yZv _
 | ptr b off=>exact yZv _
 | cp y=>exact zXz λ_=>yQd λ_=>yJf (yZv _) yZd
theorem wYd {k:LenK}{s:Option (TypeId×Bool×Nat×Nat)}{A:Option IV}{p:Option Pl}{e:Option (Nat×Bool×Nat)}{j:Int}:Lin (λR st ds=>idxV k s A p e j R st ds):=by
 cases k with
 | sl=>exact yQd λ_=>yQd λ_=>wJ3 (λ_ _=>yJf (yJf (yQd λ_=>yZv _) yZd) yZd) (λ_ _ _=>yJf (yZv _) yZd)
 | arr n=>exact yQd λ_=>yQd λ_=>yJf wJ6 yZd
 | _=>exact yZd
theorem xUl {k:LenK}{e:Option (Nat×Bool×Nat)}{x:IV}{j:Int}:Lin (λR st ds=>zX8 k e x j R st ds):=by
 cases k with
 | str =>
  refine zGv λv=>?_;cases v with
  | string s=>exact yQd λ_=>yZv _
  | _=>exact yZd
 | arr n=>exact zXz λ_=>yQd λ_=>yJf (yQd λ_=>yZv _) yZd
 | _=>exact yZd
theorem wYc {k:LenK}{x:IV}:Lin (λR st ds=>lenV true k x R st ds):=by
 cases k with
 | str =>
  refine zGv λv=>?_;cases v with
  | string s=>exact wJ5 (λh=>by cases h) (yZv _)
  | _=>exact yZd
 | sl=>exact wJ3 (λ_ _=>wJ5 (λh=>by cases h) (yZv _)) (λ_ _ _=>yZv _)
 | map=>exact yZd
 | arr n=>exact yZv _
theorem wYe {ar:Option (Nat×Bool×Nat)}{x:IV}{lo D A:Option Int}{len:Nat}:Lin (λR st ds=>arrV ar x lo D A len R st ds):=by
 cases x with
 | cptr y =>
  cases y with
  | agg cs =>
   cases lo with
   | none =>
    cases A with
    | none=>exact yQd λ_=>yWt (yQd λ_=>yZv _)
    | some m=>exact yZd
   | some l=>exact yZd
  | _=>exact yZd
 | _=>exact yZd
theorem xUk {k:LenK}{s:Option (TypeId×Bool×Nat×Nat)}{ar:Option (Nat×Bool×Nat)}{x:IV}{lo D A:Option Int}:Lin (λR st ds=>yW1 k s ar x lo D A R st ds):=by
 cases k with
 | str =>
  refine zGv λv=>?_;cases v with
  | string s =>
   cases A with
   | none=>exact yQd λ_=>yZv _
   | some m=>exact yZd
  | _=>exact yZd
 | sl =>
  refine yQd λ_=>vZp (λ_ _=>yWt ?_) (λ_ _ _ _=>?_)
  ·cases D with
   | none =>
    cases A with
    | none=>exact yQd λ_=>yWt (yZv _)
    | some m=>exact yZd
   | some h=>exact yQd λ_=>yWt (yZv _)
  ·cases A with
   | none=>exact yWt (yQd λ_=>yZv _)
   | some m=>exact yZd
 | arr n=>exact wYe
 | map=>exact yZd
theorem xQy {o:Option IV}{p:Option Pl}:Lin (λR st ds=>zZc true o p R st ds):=by
 cases o with
 | some x=>exact yZv _
 | none=>exact yZd
theorem wYb {o:Option IV}{p:Option Pl}:Lin (λR st ds=>nilV o p true R st ds):=by
 cases o with
 | none=>exact yZd
 | some x =>
  cases x with
  | fn f a b=>exact yJf (yZv _) yZd
  | cptr y=>exact yZv _
  | raw v =>
   cases v with
   | pointer o =>
    cases o with
    | none=>exact yZd
    | some q=>exact yZv _
   | _=>exact yZd
  | _=>exact yZd
theorem zY2 {esc:List Nat}{d:Nat}(h:esc.contains d=false){cs:List IV}:Lin (λR st ds=>yY0 esc (some d) cs R st ds):=by
 have:¬ d∈esc:=by simpa using h
 simp only[yY0,if_neg this];exact yZv _
theorem xK0 {frz esc:List Nat}{d:Nat}(h:esc.contains d=false){y:IV}:Lin (λR st ds=>yWr frz esc (some d) y R st ds):=yJf (yZv _) (zY2 h)
theorem xJz {c:Cf}(A:c.dr=true){dst:Option Nat}{op:Op}{ad:Ad}{fr:Fr}(hp:zVz c.esc dst op=true):Lin (λR st ds=>vcR c dst op R ad fr st ds):=by
 unfold zVz at hp;split at hp
 case h_1=>simp only[vcR,A];exact xQy
 case h_2=>simp only[vcR,A];exact xQy
 case h_3=>exact yQd λ_=>wJ8 λ_=>wJ7 (yQd λ_=>yZv _) (yQd λ_=>yZv _)
 case h_4=>exact yWt (yQd λ_=>yQd λ_=>yZv _)
 case h_5 =>
  have hl:yV3 c.esc dst=false:=by simpa using hp
  simp only[vcR,zGq,hl,bFt,if_false];exact yQd λ_=>yWt (yQd λ_=>yWt (yZv _))
 case h_6 =>
  have hl:ldr c.dr c.esc dst=true:=by unfold ldr;rw[A,hp];rfl
  simp only[vcR,hl];exact yQd λ_=>yQd λ_=>wJ4
 case h_7=>simp only[vcR,A];exact wYb
 case h_8=>exact yQd λ_=>yQd λ_=>yQd λ_=>yZv _
 case h_9=>exact yQd λ_=>yQd λ_=>yZv _
 case h_10=>exact yQd λ_=>yQd λ_=>yZv _
 case h_11=>exact yQd λ_=>yQd λ_=>yZv _
 case h_12=>exact yQd λ_=>yQd λ_=>yQd λ_=>yQd λ_=>yQd λ_=>xUk
 case h_13=>exact yQd λ_=>yQd λ_=>xUm
 case h_14=>exact yQd λ_=>yQd λ_=>zXz λ_=>yQd λ_=>yZv _
 case h_15=>exact yQd λ_=>zXy λ_ _=>yQd λ_=>wYd
 case h_16=>exact yQd λ_=>zXy λ_ _=>yQd λ_=>yQd λ_=>xUl
 case h_17=>exact yQd λ_=>wYa λ_=>yQd λ_=>yZv _
 case h_18 =>
  split at hp
  ·exact yQd λ_=>zY2 (by simpa using hp)
  ·cases hp
 case h_19 =>
  split at hp
  ·exact yQd λ_=>yQd λ_=>yWt (xK0 (by simpa using hp))
  ·cases hp
 case h_20 =>
  rename_i args ts;obtain⟨args⟩:=args;obtain⟨ts⟩:=ts
  match args,ts with
  | [x],[T]=>simp only[vcR,A];exact yQd λ_=>yQd λ_=>wYc
  | [],_=>exact yZd
  | _::_::_,_=>exact yZd
  | [_],[]=>exact yZd
  | [_],_::_::_=>exact yZd
 case h_21 =>
  rename_i args ts;obtain⟨args⟩:=args
  match args with
  | [x,y]=>exact yQd λ_=>yQd λ_=>zXy λ_ _=>zXy λ_ _=>yJf (yZv _) yZd
  | []=>exact yZd
  | [_]=>exact yZd
  | _::_::_::_=>exact yZd
 case h_22 =>
  rename_i g _ _;have D:g+1000000∈c.esc:=by simpa using hp
  simp only[vcR,zUm,if_pos D];exact yQd λ_=>yQd λ_=>yZv _
 case h_23=>cases hp
structure SameAt (c:Cf)(op:Op)(ad ad':Ad)(fr fr':Fr):Prop where
 v:∀x∈op.operands,evV c.gl fr x=evV c.gl fr' x
 a:∀x∈op.operands,evA c.gl ad fr x=evA c.gl ad' fr' x
 box:(zX7 op || yVu op)=true->∀x∈op.operands,∀t off,evA c.gl ad fr x=some (.box t off)->fr t=fr' t
theorem yGi {gl:Nat->Option IV}{fr fr':Fr}:∀ {l:List Operand},(∀x∈l,evV gl fr x=evV gl fr' x)->evL gl fr l=evL gl fr' l
 | [],_=>rfl
 | x::l,h=>by rw[xYy,xYy,h x (by simp),yGi λy A=>h y (by simp[A])]
theorem zZl {gl:Nat->Option IV}{fr fr':Fr}{o:Option Operand}(h:∀x,o=some x->evV gl fr x=evV gl fr' x):yWu gl fr o=yWu gl fr' o:=by
 cases o with
 | none=>rfl
 | some x=>simp only[xUt,h x rfl]
theorem zVh {P:Program}{gl:Nat->Option IV}{fr fr':Fr}{T:TypeId}:∀ {l:List (Nat×Operand)} {cs:List IV},(∀x∈l.map (·.2),evV gl fr x=evV gl fr' x)->yWg P gl fr T cs l=yWg P gl fr' T cs l
 | [],cs,_=>rfl
 | (i,x)::l,cs,h=>by
  rw[yUm,yUm,h x (by simp)];cases bfI P T i with
  | none=>rfl
  | some f =>
   cases evV gl fr' x with
   | none=>rfl
   | some y=>simp only[zYk];split<;>first|exact zVh λy A=>h y (by simp[A])|rfl
theorem xUj {dr ag:Bool}{n:Nat}{p:Pl}{fr fr':Fr}{R:Rt}{st:ISt}{ds:List Dfd}(h:∀t off,p=.box t off->fr t=fr' t):zQc dr ag n p fr R st ds=zQc dr ag n p fr' R st ds:=by
 cases p with
 | box t off=>simp only[zQc,h t off rfl]
 | _=>rfl
theorem xXw {y:List IV}{p:Pl}{fr fr':Fr}{R:Rt}{st:ISt}{ds:List Dfd}(h:∀t off,p=.box t off->fr t=fr' t):yYb y p fr R st ds=yYb y p fr' R st ds:=by
 cases p with
 | box t off=>simp only[yYb,h t off rfl]
 | _=>rfl
theorem wZ1 {c:Cf}{dst:Option Nat}{op:Op}{R:Rt}{ad O:Ad}{fr fr':Fr}{st:ISt}{ds:List Dfd}(h:SameAt c op ad O fr fr'):vcR c dst op R ad fr st ds=vcR c dst op R O fr' st ds:=by
 obtain⟨hv,G,hb⟩:=h;cases op with
 | move x=>simp only[vcR,hv x (by simp[Op.operands]),G x (by simp[Op.operands])]
 | assign x=>simp only[vcR,hv x (by simp[Op.operands]),G x (by simp[Op.operands])]
 | pick x y z=>simp only[vcR];rw[hv x (by simp[Op.operands]),hv y (by simp[Op.operands]),hv z (by simp[Op.operands])]
 | alloc T=>rfl
 | box T x=>simp only[vcR,hv x (by simp[Op.operands])]
 | build T parts=>simp only[vcR,λcs=>zVh (P:=c.P) (T:=T) (cs:=cs) (l:=parts.toList) (λx D=>hv x (by simpa[Op.operands] using D))]
 | buildSlice T n parts=>simp only[vcR,yGi (l:=parts.toList.map (·.2)) (λx D=>hv x (by simpa[Op.operands] using D))]
 | load T x =>
  have E:=hb rfl x (by simp[Op.operands]);simp only[vcR,<- G x (by simp[Op.operands])];cases hp:evA c.gl ad fr x with
  | none=>rfl
  | some p=>simp only[yJv,λ(i:Bool×Nat)=>xUj (dr:=ldr c.dr c.esc dst) (ag:=i.1) (n:=i.2) (p:=p) (fr:=fr) (fr':=fr') (R:=R) (st:=st) (ds:=ds) (λt off U=>E t off (by rw[hp,U]))]
 | store T x y =>
  have E:=hb rfl x (by simp[Op.operands]);simp only[vcR,<- G x (by simp[Op.operands]),<- hv y (by simp[Op.operands])];cases hp:evA c.gl ad fr x with
  | none=>rfl
  | some p=>simp only[yJv,λ(i:List IV)=>xXw (y:=i) (p:=p) (fr:=fr) (fr':=fr') (R:=R) (st:=st) (ds:=ds) (λt off U=>E t off (by rw[hp,U]))]
 | nilCheck x=>simp only[vcR,hv x (by simp[Op.operands]),G x (by simp[Op.operands])]
 | binOp o T x y T'=>simp only[vcR,hv x (by simp[Op.operands]),hv y (by simp[Op.operands])]
 | unOp o T x=>simp only[vcR,hv x (by simp[Op.operands])]
 | convert T T' x=>simp only[vcR,hv x (by simp[Op.operands])]
 | makeFunc f a b=>simp only[vcR,yGi (l:=a.toList) (λx D=>hv x (by simp[Op.operands];exact .inl (by simpa using D))),yGi (l:=b.toList) (λx D=>hv x (by simp[Op.operands];exact .inr (by simpa using D)))]
 | slice T x lo hi mx=>simp only[vcR,hv x (by simp[Op.operands]),zZl (o:=lo) (λy J=>hv y (by simp[Op.operands,J])),zZl (o:=hi) (λy J=>hv y (by simp[Op.operands,J])),
   zZl (o:=mx) (λy J=>hv y (by simp[Op.operands,J]))]
 | fieldAddr T x i=>simp only[vcR,G x (by simp[Op.operands])]
 | field T x i=>simp only[vcR,hv x (by simp[Op.operands])]
 | indexAddr T x y=>simp only[vcR,hv x (by simp[Op.operands]),G x (by simp[Op.operands]),hv y (by simp[Op.operands])]
 | index T x y=>simp only[vcR,hv x (by simp[Op.operands]),hv y (by simp[Op.operands])]
 | lookup T x y ok=>simp only[vcR,hv x (by simp[Op.operands]),hv y (by simp[Op.operands])]
 | mapUpdate T x y z=>simp only[vcR,hv x (by simp[Op.operands]),hv y (by simp[Op.operands]),hv z (by simp[Op.operands])]
 | extract x i=>simp only[vcR,hv x (by simp[Op.operands])]
 | call cc =>
  obtain⟨f,args,ts⟩:=cc;cases f with
  | value f=>simp only[vcR,hv f (by simp[Op.operands,Call.operands]),yGi (l:=args.toList) (λx D=>hv x (by simp[Op.operands,Call.operands];exact .inr (by simpa using D)))]
  | invoke r nm=>rfl
  | builtin b =>
   obtain⟨args⟩:=args;obtain⟨ts⟩:=ts;have A:∀x∈args,evV c.gl fr x=evV c.gl fr' x:=λx D=>hv x (by simp[Op.operands,Call.operands];exact D);cases b with
   | len =>
    match args,ts,A with
    | [x],[T],A=>simp only[vcR,A x (by simp)]
    | [],_,_=>rfl
    | _::_::_,_,_=>rfl
    | [_],[],_=>rfl
    | [_],_::_::_,_=>rfl
   | append =>
    match args,ts,A with
    | [x,y],[T,T'],A=>simp only[vcR,A x (by simp),A y (by simp)]
    | [],_,_=>rfl
    | [_],_,_=>rfl
    | _::_::_::_,_,_=>rfl
    | [_,_],[],_=>rfl
    | [_,_],[_],_=>rfl
    | [_,_],_::_::_::_,_=>rfl
   | cap =>
    match args,ts,A with
    | [x],[T],A=>simp only[vcR,A x (by simp)]
    | [],_,_=>rfl
    | _::_::_,_,_=>rfl
    | [_],[],_=>rfl
    | [_],_::_::_,_=>rfl
   | clear =>
    match args,ts,A with
    | [x],[T],A=>simp only[vcR,A x (by simp)]
    | [],_,_=>rfl
    | _::_::_,_,_=>rfl
    | [_],[],_=>rfl
    | [_],_::_::_,_=>rfl
   | max =>
    match args,A with
    | [x,y],A=>simp only[vcR,A x (by simp),A y (by simp)]
    | [],_=>rfl
    | [_],_=>rfl
    | _::_::_::_,_=>rfl
   | min =>
    match args,A with
    | [x,y],A=>simp only[vcR,A x (by simp),A y (by simp)]
    | [],_=>rfl
    | [_],_=>rfl
    | _::_::_::_,_=>rfl
   | _=>rfl
 | defer cc =>
  obtain⟨f,args,ts⟩:=cc;cases f with
  | value f=>simp only[vcR,hv f (by simp[Op.operands,Call.operands]),yGi (l:=args.toList) (λx D=>hv x (by simp[Op.operands,Call.operands];exact .inr (by simpa using D)))]
  | _=>rfl
 | makeMap T r=>cases r<;>rfl
 | insert T x y z=>simp only[vcR,hv x (by simp[Op.operands]),hv y (by simp[Op.operands]),hv z (by simp[Op.operands])]
 | makeSlice T x y=>simp only[vcR,hv x (by simp[Op.operands]),hv y (by simp[Op.operands])]
 | range T x=>simp only[vcR,hv x (by simp[Op.operands])]
 | next x b=>cases b<;>simp only[vcR,hv x (by simp[Op.operands])]
 | entry x=>simp only[vcR,hv x (by simp[Op.operands])]
 | _=>rfl
def yZt (c:Cf)(ops:List Oper)(o:Oper)(R:Rt)(ad:Ad)(fr:Fr)(st:ISt)(ds:List Dfd):Prop :=
 match o.guard with
 | none=>vcR c o.dst o.op R ad fr st ds
 | some (j,A)=>match yV9 ops j with
  | some d=>match fr d with
   | .iv (.raw (.bool b))=>if b=A then vcR c o.dst o.op R ad fr st ds else R (.val (.raw undef)) st ds
   | .iv (.raw (.tuple _))=>R (.val (.raw undef)) st ds
   | _=>False
  | none=>False
def yY3 (c:Cf)(ops:List Oper)(o:Oper)(K:Kt):Kt:=λad fr st ds=>yZt c ops o (finK o.dst K ad fr) ad fr st ds
def vcK (c:Cf)(ops:List Oper):List Oper->Kt->Kt
 | [],K=>K
 | o::l,K=>yY3 c ops o (vcK c ops l K)
theorem zWa {c:Cf}{ops l A:List Oper}{K:Kt}:vcK c ops (l++A) K=vcK c ops l (vcK c ops A K):=by
 induction l with
 | nil=>rfl
 | cons o l D=>rw[List.cons_append,vcK,vcK,D]
theorem zUy {c:Cf}{ops:List Oper}{Q:Fr->ISt->List Dfd->Prop}:∀ {l:List Oper} {ad:Ad} {fr:Fr} {st:ISt} {ds:List Dfd},yJ0 c ops l Q ad fr st ds->vcK c ops l (λ_ fr st ds=>Q fr st ds) ad fr st ds
 | [],_,_,_,_,h=>h
 | o::l,ad,fr,st,ds,h=>by
  have G:∀ad fr st ds,yJ0 c ops l Q ad fr st ds->vcK c ops l (λ_ fr st ds=>Q fr st ds) ad fr st ds:=λ_ _ _ _=>zUy;have A:∀pr st ds,finK o.dst (yJ0 c ops l Q) ad fr pr st ds->finK o.dst (vcK c ops l (λ_ fr st ds=>Q fr st ds)) ad fr pr st ds:=by
   intro pr st ds;cases pr<;>cases o.dst<;>simp only[finK]<;>first|exact G _ _ _ _|exact id|(split<;>first|exact id|exact G _ _ _ _)
  unfold yJ0 at h;change yZt c ops o (finK o.dst (vcK c ops l (λ_ fr st ds=>Q fr st ds)) ad fr) ad fr st ds;unfold yZt;split at h
  ·rename_i E;rw[E];exact yG6 A h
  ·rename_i j D E;rw[E];simp only[yV9];cases hd:(ops[j]?).bind (·.dst) with
   | none=>rw[hd] at h;exact h.elim
   | some d =>
    rw[hd] at h;simp only at h ⊢;cases hs:fr d with
    | box cs=>rw[hs] at h;exact h.elim
    | iv x =>
     cases x with
     | raw v =>
      cases v with
      | bool b =>
       rw[hs,xZk fr d D b _ _ _ _ hs] at h;simp only;split
       ·exact yG6 A (h.1 ‹_›)
       ·have J:b=!D:=by cases b<;>cases D<;>simp_all
        exact A _ _ _ (h.2 J)
      | tuple t =>
       rw[hs] at h;exact A _ _ _ h
      | _=>rw[hs] at h;exact h.elim
     | _=>rw[hs] at h;exact h.elim
theorem yW0 {c:Cf}{ops:List Oper}{o:Oper}{R R':Rt}(h:∀pr st ds,R pr st ds->R' pr st ds){ad:Ad}{fr:Fr}{st:ISt}{ds:List Dfd}:yZt c ops o R ad fr st ds->yZt c ops o R' ad fr st ds:=by
 unfold yZt;split
 ·exact yG6 h
 ·split
  ·split
   ·split
    ·exact yG6 h
    ·exact h _ _ _
   ·exact h _ _ _
   ·exact id
  ·exact id
theorem wJ2 {c:Cf}(D:c.dr=true){ops:List Oper}{o:Oper}{ad:Ad}{fr:Fr}(hp:zVz c.esc o.dst o.op=true):Lin (λR st ds=>yZt c ops o R ad fr st ds):=by
 cases A:o.guard with
 | none=>simp only[yZt,A];exact xJz D hp
 | some p =>
  obtain⟨j,E⟩:=p;cases hd:yV9 ops j with
  | none=>simp only[yZt,A,hd];exact yZd
  | some d =>
   cases hs:fr d with
   | box cs=>simp only[yZt,A,hd,hs];exact yZd
   | iv x =>
    cases x with
    | raw v =>
     cases v with
     | bool b=>simp only[yZt,A,hd,hs];exact yJf (xJz D hp) (yZv _)
     | tuple t=>simp only[yZt,A,hd,hs];exact yZv _
     | _=>simp only[yZt,A,hd,hs];exact yZd
    | _=>simp only[yZt,A,hd,hs];exact yZd
def Kept (st st':ISt):Prop:=∀b cs,st b=some (.box cs)->st' b=some (.box cs)
theorem Kept.refl (st:ISt):Kept st st:=λ_ _ h=>h
def LinS (st:ISt)(F:Rt->ISt->List Dfd->Prop):Prop:=(∃pr,(∀R ds,F R st ds↔R pr st ds)/\∀st',Kept st st'->∀R ds,R pr st' ds->F R st' ds)\/(∀R ds,¬ F R st ds)
theorem yK4 {F:Rt->ISt->List Dfd->Prop}(h:Lin F)(st:ISt):LinS st F:=by
 rcases h with⟨pr,h⟩|h
 ·exact .inl ⟨pr,λR ds=>h R st ds,λst' _ R ds A=>(h R st' ds).2 A⟩
 ·exact .inr λR ds=>h R st ds
theorem wJ9 {c:Cf}{dst:Option Nat}{T:TypeId}{x:Operand}{ad:Ad}{fr:Fr}(st:ISt):LinS st (λR st ds=>vcR c dst (.load T x) R ad fr st ds):=by
 simp only[vcR];cases tyI c.P T with
 | none=>exact yK4 yZd st
 | some i =>
  cases evA c.gl ad fr x with
  | none=>exact yK4 yZd st
  | some p =>
   simp only[yJv];cases p with
   | box t off=>exact yK4 (xWq λ_=>yQd λ_=>yZv _) st
   | cp y=>exact yK4 (yJf (yZv _) yZd) st
   | ptr b off =>
    simp only[zQc];cases hl:ldr c.dr c.esc dst with
    | true=>simp only[if_true];exact yK4 yZd st
    | false =>
     simp only[bFt,if_false];cases A:st b with
     | none=>exact .inr λR ds h=>by simp only[A] at h;exact h
     | some o =>
      cases o with
      | box cs =>
       cases hp:yJn i.1 i.2 cs off with
       | none=>exact .inr λR ds h=>by simp only[A,yJv,obV,hp] at h;exact h
       | some y=>exact .inl ⟨.val y,λR ds=>by simp only[A,yJv,obV,hp],λst' E R ds D=>by simp only[E b cs A,yJv,obV,hp];exact D⟩
      | _=>exact .inr λR ds h=>by simp only[A,yJv,obV] at h
theorem xWr {c:Cf}(A:c.dr=true){dst:Option Nat}{op:Op}{ad:Ad}{fr:Fr}(hp:yJ1 c.esc dst op=true)(st:ISt):LinS st (λR st ds=>vcR c dst op R ad fr st ds):=by
 unfold yJ1 at hp;rw[Bool.or_eq_true] at hp;rcases hp with hp|hp
 ·exact yK4 (xJz A hp) st
 ·cases op<;>first|exact wJ9 st|cases hp
theorem zZf {c:Cf}(E:c.dr=true){ops:List Oper}{o:Oper}{ad:Ad}{fr:Fr}(hp:yJ1 c.esc o.dst o.op=true)(st:ISt):LinS st (λR st ds=>yZt c ops o R ad fr st ds):=by
 cases A:o.guard with
 | none=>simp only[yZt,A];exact xWr E hp st
 | some p =>
  obtain⟨j,D⟩:=p;cases hd:yV9 ops j with
  | none=>simp only[yZt,A,hd];exact yK4 yZd st
  | some d =>
   cases hs:fr d with
   | box cs=>simp only[yZt,A,hd,hs];exact yK4 yZd st
   | iv x =>
    cases x with
    | raw v =>
     cases v with
     | bool b =>
      simp only[yZt,A,hd,hs];by_cases G:b=D
      ·simp only[if_pos G];exact xWr E hp st
      ·simp only[if_neg G];exact yK4 (yZv _) st
     | tuple t=>simp only[yZt,A,hd,hs];exact yK4 (yZv _) st
     | _=>simp only[yZt,A,hd,hs];exact yK4 yZd st
    | _=>simp only[yZt,A,hd,hs];exact yK4 yZd st
def appQ (esc:List Nat)(dst:Option Nat):Op->Bool
 | .call ⟨.builtin .append,⟨[_,_]⟩,⟨[_,_]⟩⟩=>zK3 esc dst
 | _=>false
theorem Kept.new {st:ISt}{g:Nat}(D:st g=none)(o:Option IObj):Kept st (st.put g o):=λb cs A=>by
 rw[ISt.put_apply];split
 ·rename_i h;subst h;rw[D] at A;cases A
 ·exact A
theorem Kept.front {st:ISt}{g₀ g n s:Nat}(h0:st g₀=some (.front n s))(D:g=g₀\/st g=none)(o:Option IObj):Kept st ((st.put g₀ none).put g o):=λb cs A=>by
 have h1:b≠g₀:=by rintro rfl;rw[h0] at A;cases A
 have h2:b≠g:=by
  rintro rfl;rcases D with rfl|D
  ·exact h1 rfl
  ·rw[D] at A;cases A
 rw[ISt.put_apply,if_neg h2,ISt.put_apply,if_neg h1];exact A
theorem wV4 {esc:List Nat}{dst:Option Nat}{e:TypeId×Bool×Nat×Nat}{E:Tag}{J ys:List IV}{R:Rt}{st:ISt}{ds:List Dfd}(h:appV esc dst e E J ys R st ds) :
  appV esc dst e E J ys (λpr st' ds=>R pr st' ds/\Kept st st') st ds:=by
 obtain⟨h1,h2,A⟩:=h;refine⟨h1,h2,?_⟩;cases hc:E.cap with
 | none =>
  rw[hc] at A;cases ys with
  | nil=>exact⟨A,Kept.refl _⟩
  | cons y ys=>exact A.elim
 | nil =>
  rw[hc] at A;cases ys with
  | nil=>exact⟨A,Kept.refl _⟩
  | cons y ys =>
   by_cases O:yV3 esc dst=true
   ·simp only[if_pos O] at A ⊢;exact λg cap D=>⟨A g cap D,Kept.new D.1 _⟩
   ·simp only[if_neg O] at A ⊢;exact λg D=>⟨A g D,Kept.new D _⟩
 | full =>
  rw[hc] at A;obtain⟨G,A⟩:=A;refine⟨G,?_⟩;cases ys with
  | nil=>exact⟨A,Kept.refl _⟩
  | cons y ys=>exact λg D=>⟨A g D,Kept.new D _⟩
 | app g₀ =>
  rw[hc] at A;obtain⟨G,U,A⟩:=A;exact⟨G,U,λg D=>⟨A g D,Kept.front U D _⟩⟩
theorem xGc {c:Cf}{dst:Option Nat}{op:Op}{R:Rt}{ad:Ad}{fr:Fr}{st:ISt}{ds:List Dfd}(A:appQ c.esc dst op=true)(h:vcR c dst op R ad fr st ds) :
  vcR c dst op (λpr st' ds=>R pr st' ds/\Kept st st') ad fr st ds:=by
 unfold appQ at A;split at A
 ·simp only[vcR] at h ⊢;refine yZ4 (λe=>?_) h;refine zU6 ?_ ?_
  ·refine yZ4 λs=>zU4 (λE G=>yZ4 λy=>zU5 λ_ ys h=>wV4 h) λb off n cap=>yZ4 λy=>zU4 (λ_ ys h=>?_) (λ_ _ _ _ h=>?_)
   all_goals (unfold qO at h;rw[if_pos A] at h;exact h.elim)
  ·refine yZ4 λs=>zU5 λE _=>yZ4 λy=>zJ1 λ_ m h=>?_;obtain⟨h1,h2⟩:=h;exact⟨h1,λg cap D=>⟨h2 g cap D,Kept.new D.1 _⟩⟩
 ·cases A
theorem wQe {c:Cf}{ops:List Oper}{o:Oper}{R:Rt}{ad:Ad}{fr:Fr}{st:ISt}{ds:List Dfd}(D:appQ c.esc o.dst o.op=true)(h:yZt c ops o R ad fr st ds) :
  yZt c ops o (λpr st' ds=>R pr st' ds/\Kept st st') ad fr st ds:=by
 unfold yZt at h ⊢;split at h
 ·exact xGc D h
 ·split at h
  ·split at h
   ·split at h
    ·rename_i A;rw[if_pos A];exact xGc D h
    ·rename_i A;rw[if_neg A];exact⟨h,Kept.refl _⟩
   ·exact⟨h,Kept.refl _⟩
   ·exact h.elim
  ·exact h.elim
def yK3 (ops:List Oper)(o:Oper)(fr fr':Fr):Prop:=∀j A d,o.guard=some (j,A)->yV9 ops j=some d->fr d=fr' d\/(∃cs cs',fr d=.box cs/\fr' d=.box cs')
theorem yJq {c:Cf}{ops:List Oper}{o:Oper}{R:Rt}{ad D:Ad}{fr fr':Fr}{st:ISt}{ds:List Dfd}(h:SameAt c o.op ad D fr fr')(G:yK3 ops o fr fr'):yZt c ops o R ad fr st ds=yZt c ops o R D fr' st ds:=by
 unfold yZt;rw[wZ1 h];cases E:o.guard with
 | none=>rfl
 | some p =>
  obtain⟨j,A⟩:=p;cases hd:yV9 ops j with
  | none=>simp only[hd]
  | some d =>
   simp only[hd];rcases G j A d E hd with J|⟨cs,cs',h1,h2⟩
   ·rw[J]
   ·rw[h1,h2]
structure Fine (c:Cf)(op:Op)(ad:Ad)(fr:Fr)(pr:PR):Prop where
 isA:∀t off,pr=.adr t off->c.dr=true->xUs op=true
 adr:∀t off,pr=.adr t off->∃x∈op.operands,∃off',evA c.gl ad fr x=some (.box t off')
 sto:∀t cs,pr=.sto t cs->yVu op=true/\(∃cs0,fr t=.box cs0)/\∃x∈op.operands,∃off',evA c.gl ad fr x=some (.box t off')
 stoA:∀t cs,pr=.sto t cs->∀T a v,op=.store T a v->∃off',evA c.gl ad fr a=some (.box t off')
theorem yXl {c:Cf}{op:Op}{ad:Ad}{fr:Fr}{x:IV}:Fine c op ad fr (.val x):=⟨(λ_ _ h=>by cases h),(λ_ _ h=>by cases h),(λ_ _ h=>by cases h),(λ_ _ h=>by cases h)⟩
theorem wYt {c:Cf}{op:Op}{ad:Ad}{fr:Fr}{x:List IV}:Fine c op ad fr (.box x):=⟨(λ_ _ h=>by cases h),(λ_ _ h=>by cases h),(λ_ _ h=>by cases h),(λ_ _ h=>by cases h)⟩
theorem xYw {c:Cf}{op:Op}{ad:Ad}{fr:Fr}:Fine c op ad fr .nop:=⟨(λ_ _ h=>by cases h),(λ_ _ h=>by cases h),(λ_ _ h=>by cases h),(λ_ _ h=>by cases h)⟩
theorem zUg {c:Cf}{op:Op}{R:Rt}{ad:Ad}{fr:Fr}{st:ISt}{ds:List Dfd}{x:Operand}{p:Pl}(A:¬ c.dr=true)(E:x∈op.operands)(hp:evA c.gl ad fr x=some p):plR p R st ds->plR p (λpr st ds=>R pr st ds/\Fine c op ad fr pr) st ds:=by
 cases p with
 | box t off=>exact λh=>⟨h,⟨(λ_ _ _ h0=>(A h0).elim),λJ D G=>by cases G;exact⟨x,E,off,hp⟩,(λ_ _ h=>by cases h),(λ_ _ h=>by cases h)⟩⟩
 | ptr b off=>exact λh=>⟨h,yXl⟩
 | cp y=>exact λh=>⟨h,yXl⟩
theorem zYb {c:Cf}{op:Op}{R:Rt}{ad:Ad}{fr:Fr}{st:ISt}{ds:List Dfd}{x:Operand}(A:x∈op.operands)(o:Option IV) :
  zZc c.dr o (evA c.gl ad fr x) R st ds->zZc c.dr o (evA c.gl ad fr x) (λpr st ds=>R pr st ds/\Fine c op ad fr pr) st ds:=by
 unfold zZc;split
 ·exact λh=>⟨h,yXl⟩
 ·split
  ·exact id
  ·intro h;obtain⟨p,hp,h⟩:=yQ2.1 h;exact yQ2.2 ⟨p,hp,zUg ‹_› A hp h⟩
set_option maxHeartbeats 1000000 in
theorem xVi {c:Cf}{dst:Option Nat}{op:Op}{R:Rt}{ad:Ad}{fr:Fr}{st:ISt}{ds:List Dfd}:vcR c dst op R ad fr st ds->vcR c dst op (λpr st ds=>R pr st ds/\Fine c op ad fr pr) ad fr st ds:=by
 by_cases h1:∃x,op=.move x\/op=.assign x
 ·obtain⟨x,rfl|rfl⟩:=h1
  ·exact zYb (by simp[Op.operands]) _
  ·exact zYb (by simp[Op.operands]) _
 by_cases h2:∃x,op=.nilCheck x
 ·obtain⟨x,rfl⟩:=h2;simp only[vcR,nilV];split
  ·exact yJg (λh=>⟨h,yXl⟩) id
  ·exact λh=>⟨h,yXl⟩
  ·split
   ·exact λh=>⟨h,yXl⟩
   ·intro h;obtain⟨p,hp,h⟩:=yQ2.1 h;exact yQ2.2 ⟨p,hp,zUg ‹_› (by simp[Op.operands]) hp h⟩
  ·split
   ·exact id
   ·intro h;obtain⟨p,hp,h⟩:=yQ2.1 h;exact yQ2.2 ⟨p,hp,zUg ‹_› (by simp[Op.operands]) hp h⟩
 by_cases h3:∃T x i,op=.fieldAddr T x i
 ·obtain⟨T,x,i,rfl⟩:=h3;simp only[vcR];refine yZ4 λf=>λh=>?_;obtain⟨p,hp,h⟩:=yQ2.1 h;refine yQ2.2 ⟨p,hp,?_⟩;cases p with
  | box t off=>exact⟨h,⟨(λ_ _ _ _=>rfl),λE D A=>by cases A;exact⟨x,by simp[Op.operands],off,hp⟩,(λ_ _ h=>by cases h),(λ_ _ h=>by cases h)⟩⟩
  | ptr b off=>exact⟨h,yXl⟩
  | cp y=>exact zJ2 (λ_=>yZ4 λ_=>yJg (λh=>⟨h,yXl⟩) id) h
 by_cases U:∃T x y,op=.indexAddr T x y
 ·obtain⟨T,x,y,rfl⟩:=U;simp only[vcR];refine yZ4 λ_=>zJ1 λ_ j=>yZ4 λk=>?_;cases k with
  | sl=>exact yZ4 λ_=>yZ4 λ_=>xK6 (λ_ _=>yJg (yJg (yZ4 λ_=>λh=>⟨h,yXl⟩) id) id) (λ_ _ _=>yJg (λh=>⟨h,yXl⟩) id)
  | arr n =>
   refine yZ4 λ_=>λh=>?_;obtain⟨p,hp,h⟩:=yQ2.1 h;refine yQ2.2 ⟨p,hp,yJg (yJg ?_ id) id h⟩;cases p with
   | box t off=>exact λh=>⟨h,⟨(λ_ _ _ _=>rfl),λE D A=>by cases A;exact⟨x,by simp[Op.operands],off,hp⟩,(λ_ _ h=>by cases h),(λ_ _ h=>by cases h)⟩⟩
   | ptr b off=>exact λh=>⟨h,yXl⟩
   | cp y=>exact zJ2 (λ_=>yZ4 λ_=>yJg (λh=>⟨h,yXl⟩) id)
  | str=>exact id
  | map=>exact id
 by_cases O:∃T x y,op=.store T x y
 ·obtain⟨T,x,y,rfl⟩:=O;simp only[vcR];refine yZ4 λ_=>yZ4 λ_=>xK9 λh=>?_;obtain⟨p,hp,h⟩:=yQ2.1 h;refine yQ2.2 ⟨p,hp,?_⟩;revert h;cases p with
  | box t off =>
   simp only[yYb];cases hf:fr t with
   | box cs=>exact yJg (λh=>⟨h,⟨(λ_ _ h=>by cases h),(λ_ _ h=>by cases h),(λE cs' A=>by cases A;exact⟨rfl,⟨cs,hf⟩,x,by simp[Op.operands],off,hp⟩),λE cs' A T' a' v' ho=>by cases A;cases ho;exact⟨off,hp⟩⟩⟩) id
   | iv x=>exact id
  | ptr b off=>exact yZ4 λ_=>xK7 λ_=>yJg (λh=>⟨h,xYw⟩) id
  | cp y=>exact id
 have hv:∀x st ds,R (.val x) st ds->R (.val x) st ds/\Fine c op ad fr (.val x):=λx st ds h=>⟨h,yXl⟩
 have J:∀x st ds,R (.box x) st ds->R (.box x) st ds/\Fine c op ad fr (.box x):=λx st ds h=>⟨h,wYt⟩
 have G:∀st ds,R .nop st ds->R .nop st ds/\Fine c op ad fr .nop:=λst ds h=>⟨h,xYw⟩
 generalize Fine c op ad fr=F at hv J G ⊢;unfold vcR;split
 all_goals first
  | exact absurd ⟨_,.inl rfl⟩ h1|exact absurd ⟨_,.inr rfl⟩ h1|exact absurd ⟨_,rfl⟩ h2|exact absurd ⟨_,_,_,rfl⟩ h3|exact absurd ⟨_,_,_,rfl⟩ U|exact absurd ⟨_,_,_,rfl⟩ O
  | repeat (first
   | exact hv _ _ _|exact J _ _ _|exact G _ _|exact id
   | refine yZ4 λ_=>?_|refine xK9 ?_|refine wJo ?_|refine wJp ?_|refine wJq λ_=>?_|refine zKm ?_ ?_|refine wUk ?_ ?_|refine yJg ?_ ?_
   | refine xYd λ_=>?_|refine xK7 λ_=>?_|refine wJk λ_ _=>?_|refine zJ1 λ_ _=>?_|refine zKn λ_=>?_|refine zU5 λ_ _=>?_|refine xK6 (λ_ _=>?_) (λ_ _ _=>?_)|refine zU4 (λ_ _=>?_) (λ_ _ _ _=>?_)|refine zU6 ?_ ?_
   | refine zJ2 λ_=>?_|refine xY9 λ_=>?_|refine xK8 λ_ _ _=>?_|refine xYb λ_=>?_|refine xYa λ_=>?_|refine xYc λ_=>?_|refine xYe λ_=>?_|refine wJn λ_ _ _ _=>?_|refine wJm λ_ _=>?_|refine wJl ?_ (λ_ _=>?_)
   | (refine λhh=>callV.mono hh λ_ _=>?_;unfold zVg)
   | unfold yWr|unfold yY0|unfold zGq|unfold zQc|unfold yW1|unfold arrV|unfold zX8|unfold zZd|unfold yYa|unfold xW3|unfold wY7|unfold xG1|unfold lenV|unfold appV|unfold qO|unfold appO|unfold appR|unfold appZ|unfold capV|unfold zYh|unfold xJx|unfold zUm
   | split)
def yVp (ad:Ad)(d:Nat):Prop:=∀x t off,ad x=some (t,off)->t≠d
theorem xK4 {ad:Ad}{d:Nat}(h:yVp ad d)(s:Nat):Ad.keep d (ad s)=ad s:=by
 cases A:ad s with
 | none=>rfl
 | some p =>
  obtain⟨t,off⟩:=p;simp only[Ad.keep,if_neg (h s t off A)]
theorem zUh {c:Cf}{ad:Ad}{fr:Fr}{x:Operand}{t off d:Nat}(h:evA c.gl ad fr x=some (.box t off))(U:yVp ad d)(J:x≠.tmp d):t≠d:=by
 cases x with
 | tmp y =>
  simp only[evA] at h;cases D:ad y with
  | some p =>
   obtain⟨G,A⟩:=p;rw[D] at h;simp only[plAd,Option.some.injEq,Pl.box.injEq] at h;exact h.1▸U y G A D
  | none =>
   rw[D] at h;simp only[plAd] at h;cases E:fr y with
   | box cs =>
    rw[E] at h;simp only[plOf,Option.some.injEq,Pl.box.injEq] at h;rintro rfl;exact J (by rw[h.1])
   | iv z =>
    rw[E] at h;exfalso;cases z with
    | raw u =>
     cases u with
     | pointer p =>
      cases p with
      | none=>cases h
      | some p =>
       obtain⟨pb,po,ps⟩:=p;cases ps<;>cases h
     | _=>cases h
    | _=>cases h
 | global g=>simp only[evA] at h;cases O:c.gl g<;>rw[O] at h<;>cases h
 | const v=>cases h
 | func f=>cases h
theorem xU3 {c:Cf}{op:Op}{ad:Ad}{fr:Fr}{d:Nat}{a:Option (Nat×Nat)}{s:SV}(hd:∀x∈op.operands,x≠.tmp d)(E:yVp ad d):SameAt c op ad (ad.put d a) fr (fr.put d s):=by
 refine⟨λx A=>?_,λx A=>?_,λ_ x A t off G=>?_⟩
 ·cases x with
  | tmp y=>rw[zZp,zZp,Fr.put_apply,if_neg (λh=>hd _ A (by rw[h]))]
  | _=>rfl
 ·cases x with
  | tmp y =>
   have D:y≠d:=λh=>hd _ A (by rw[h]);simp only[evA,Ad.put_apply,if_neg D,xK4 E];cases ad y with
   | none=>simp only[plAd,Fr.put_apply,if_neg D]
   | some p=>rfl
  | _=>rfl
 ·rw[Fr.put_apply,if_neg (zUh G E (hd x A))]
theorem xU2 {c:Cf}{op:Op}{ad:Ad}{fr:Fr}{t:Nat}{cs cs':List IV}(ht:fr t=.box cs)(h:(zX7 op || yVu op)=false):SameAt c op ad ad fr (fr.put t (.box cs')):=by
 refine⟨λx _=>?_,λx _=>?_,λD=>by rw[h] at D;cases D⟩
 ·cases x with
  | tmp y =>
   rw[zZp,zZp,Fr.put_apply];split
   ·rename_i A;rw[A,ht];rfl
   ·rfl
  | _=>rfl
 ·cases x with
  | tmp y =>
   simp only[evA];cases ad y with
   | none =>
    simp only[plAd,Fr.put_apply];split
    ·rename_i A;rw[A,ht];rfl
    ·rfl
   | some p=>rfl
  | _=>rfl
theorem zG9 {ops:List Oper}{o:Oper}{fr:Fr}{d:Nat}{s:SV}(h:d ∉ looks ops o):yK3 ops o fr (fr.put d s):=by
 intro j A e D E;refine .inl ?_;rw[Fr.put_apply,if_neg];rintro rfl;exact h (List.mem_append_right _ (by rw[D];simp[E]))
theorem zQ3 {ops:List Oper}{o:Oper}{fr:Fr}{t:Nat}{cs cs':List IV}(ht:fr t=.box cs):yK3 ops o fr (fr.put t (.box cs')):=by
 intro j D e _ _;rw[Fr.put_apply];by_cases A:e=t
 ·rw[if_pos A,A];exact .inr ⟨cs,cs',ht,rfl⟩
 ·rw[if_neg A];exact .inl rfl
theorem yYp {ops:List Oper}{o:Oper}{d:Nat}(h:d ∉ looks ops o):∀x∈o.op.operands,x≠.tmp d:=by
 rintro x A rfl;exact h (List.mem_append_left _ (List.mem_filterMap.2 ⟨.tmp d,by simpa using A,rfl⟩))
def after (dst:Option Nat)(pr:PR)(ad:Ad)(fr:Fr):Option (Ad×Fr) :=
 match pr,dst with
 | .val x,some d=>some (ad.put d none,fr.put d (.iv x))
 | .val _,none=>some (ad,fr)
 | .adr t off,some d=>if d=t then none else some (ad.put d (some (t,off)),fr.put d (.iv .junk))
 | .adr _ _,none=>some (ad,fr)
 | .box cs,some d=>some (ad.put d none,fr.put d (.box cs))
 | .box _,none=>none
 | .sto _ _,some _=>none
 | .sto t cs,none=>some (ad,fr.put t (.box cs))
 | .nop,some _=>none
 | .nop,none=>some (ad,fr)
theorem yZe {dst:Option Nat}{K:Kt}{ad:Ad}{fr:Fr}{pr:PR}{st:ISt}{ds:List Dfd}:finK dst K ad fr pr st ds↔∃p,after dst pr ad fr=some p/\K p.1 p.2 st ds:=by
 cases pr<;>cases dst<;>simp only[finK,after,Option.some.injEq,exists_eq_left',reduceCtorEq,false_and,exists_false];split<;>simp
theorem yKh {c:Cf}{ops:List Oper}{o:Oper}{R:Rt}{ad:Ad}{fr:Fr}{st:ISt}{ds:List Dfd}(h:yZt c ops o R ad fr st ds):yZt c ops o (λpr st ds=>R pr st ds/\Fine c o.op ad fr pr) ad fr st ds:=by
 unfold yZt at *;split
 ·exact xVi (by simpa[*] using h)
 ·rename_i j D E;rw[E] at h;simp only at h;split at h
  ·rename_i d hd;cases hs:fr d with
   | box cs=>rw[hs] at h;exact h.elim
   | iv x =>
    cases x with
    | raw v =>
     cases v with
     | bool b =>
      rw[hs] at h;simp only at h ⊢;split
      ·rename_i A;rw[if_pos A] at h;exact xVi h
      ·rename_i A;rw[if_neg A] at h;exact⟨h,yXl⟩
     | tuple t=>rw[hs] at h;exact⟨h,yXl⟩
     | _=>rw[hs] at h;exact h.elim
    | _=>rw[hs] at h;exact h.elim
  ·exact h.elim
structure Ap (c:Cf)(ops:List Oper)(x y:Oper):Prop where
 pure:yJ1 c.esc x.dst x.op=true\/yJ1 c.esc y.dst y.op=true
 ls:zX7 x.op=true->yVu y.op=true->stOk ops y x=true
 sl:yVu x.op=true->zX7 y.op=true->stOk ops x y=true
 d:∀d,x.dst=some d->d ∉ looks ops y/\y.dst≠some d
 e:∀d,y.dst=some d->d ∉ looks ops x
theorem Ap.symm {c:Cf}{ops:List Oper}{x y:Oper}(h:Ap c ops x y):Ap c ops y x :=
 ⟨h.pure.symm,λa b=>h.sl b a,λa b=>h.ls b a,λd hd=>⟨h.e d hd,λA=>(h.d d A).2 hd⟩,λd hd=>(h.d d hd).1⟩
theorem xQl {esc:List Nat}{dst:Option Nat}{op:Op}(h:zVz esc dst op=true):yVu op=false:=by
 cases op<;>first|rfl|simp[zVz] at h
theorem yKb {esc:List Nat}{dst:Option Nat}{op:Op}(h:yJ1 esc dst op=true):yVu op=false:=by
 unfold yJ1 at h;rw[Bool.or_eq_true] at h;rcases h with h|h
 ·exact xQl h
 ·cases op<;>first|rfl|cases h
theorem kX9 {c:Cf}{ops:List Oper}{x y:Oper}(h:wV5 c.esc ops x y=true):Ap c ops x y:=by
 unfold wV5 at h;simp only[bAt,Bool.or_eq_true,Bool.not_eq_true',Bool.and_eq_false_iff] at h;obtain⟨⟨⟨⟨h1,h2⟩,D⟩,A⟩,E⟩:=h;refine⟨h1,λa b=>by rcases h2 with h2|h2<;>simp_all,λa b=>by rcases D with D|D<;>simp_all,λd hd=>?_,λd hd=>?_⟩
 ·rw[hd] at A;simp only[bAt,Bool.not_eq_true'] at A;exact⟨by simpa using A.1,by simpa using A.2⟩
 ·rw[hd] at E;simpa using E
def Safe (ops:List Oper)(ad:Ad):Prop:=∀e,wWn ops e=true->yVp ad e/\ad e=none
theorem wZx (ops:List Oper):Safe ops Ad.none_:=λ_ _=>⟨λ_ _ _ h=>(by cases h),rfl⟩
theorem xVy {ops:List Oper}{e:Nat}(h:wWn ops e=true){o:Oper}(A:o∈ops)(D:xUs o.op=true):e ∉ looks ops o/\o.dst≠some e:=by
 unfold wWn at h;have:=List.all_eq_true.1 h o A;rw[D] at this;simp only[Bool.not_true,Bool.false_or,bAt,Bool.not_eq_true'] at this;exact⟨by simpa using this.1,by simpa using this.2⟩
theorem yKj {c:Cf}{ops:List Oper}{x y:Oper}(h:Ap c ops x y){ad:Ad}(ae:Safe ops ad){fr:Fr}{pr:PR}{p:Ad×Fr}(hb:∀d,x.dst=some d->yVp ad d)(hf:Fine c x.op ad fr pr)(E:after x.dst pr ad fr=some p) :
  SameAt c y.op ad p.1 fr p.2/\yK3 ops y fr p.2:=by
 have refl:SameAt c y.op ad ad fr fr/\yK3 ops y fr fr:=⟨⟨λ_ _=>rfl,λ_ _=>rfl,λ_ _ _ _ _ _=>rfl⟩,λ_ _ _ _ _=>.inl rfl⟩
 cases G:x.dst with
 | none =>
  rw[G] at E;cases pr with
  | sto t cs =>
   simp only[after,Option.some.injEq] at E;subst E;obtain⟨hs,⟨am,ht⟩,_⟩:=hf.sto t cs rfl;have hst:yVu y.op=false:=by
    rcases h.pure with hp|hp
    ·rw[yKb hp] at hs;cases hs
    ·exact yKb hp
   cases hl:zX7 y.op with
   | false=>exact⟨xU2 ht (by rw[hl,hst];rfl),zQ3 ht⟩
   | true =>
    have D:=h.sl hs hl;unfold stOk at D;split at D
    ·rename_i T e v ab;rw[bAt] at D;obtain⟨ag,J⟩:=ae e D.1;have U:e ∉ looks ops y:=by simpa using D.2
     obtain⟨off,A⟩:=hf.stoA t cs rfl T _ v ab;have ac:t=e:=by
      simp only[evA,J,plAd] at A;cases aa:fr e with
      | box al=>rw[aa] at A;simp only[plOf,Option.some.injEq,Pl.box.injEq] at A;exact A.1.symm
      | iv x1 =>
       rw[aa] at A;unfold plOf at A;split at A<;>first|(cases A;done)|(cases A;rfl)
     subst ac;show SameAt c y.op ad ad fr (fr.put t (.box cs))/\yK3 ops y fr (fr.put t (.box cs));refine⟨⟨λx G=>?_,λx G=>?_,λ_ x G t2 ai ah=>?_⟩,zQ3 ht⟩
     ·have O:=yYp U x G;cases x with
      | tmp q =>
       rw[zZp,zZp,Fr.put_apply,if_neg λhq=>O (by rw[hq])]
      | _=>rfl
     ·have O:=yYp U x G;cases x with
      | tmp q =>
       simp only[evA];cases ad q with
       | none=>simp only[plAd];rw[Fr.put_apply,if_neg λhq=>O (by rw[hq])]
       | some p=>rfl
      | _=>rfl
     ·rw[Fr.put_apply,if_neg (zUh ah ag (yYp U x G))]
    ·cases D
  | _=>simp only[after,Option.some.injEq,reduceCtorEq] at E<;>subst E<;>exact refl
 | some d =>
  rw[G] at E;have hd:=h.d d G;have key:∀a s,SameAt c y.op ad (ad.put d a) fr (fr.put d s)/\yK3 ops y fr (fr.put d s):=λa s=>⟨xU3 (yYp hd.1) (hb d G),zG9 hd.1⟩
  cases pr with
  | adr t off =>
   simp only[after] at E;split at E
   ·cases E
   ·cases E;exact key _ _
  | _=>simp only[after,Option.some.injEq,reduceCtorEq] at E<;>subst E<;>exact key _ _
theorem zGf {fr:Fr}{d e:Nat}{s t:SV}(h:d≠e):(fr.put d s).put e t=(fr.put e t).put d s:=by
 funext x;simp only[Fr.put_apply];by_cases h1:x=e
 ·rw[if_pos h1,if_neg (λh2=>h (by rw[<- h2,h1])),if_pos h1]
 ·rw[if_neg h1,if_neg h1]
theorem wJe {d e:Nat}(o:Option (Nat×Nat)):Ad.keep d (Ad.keep e o)=Ad.keep e (Ad.keep d o):=by
 cases o with
 | none=>rfl
 | some p =>
  obtain⟨t,off⟩:=p;by_cases h1:t=e
  ·by_cases h2:t=d
   ·simp only[Ad.keep,if_pos h1,if_pos h2]
   ·simp only[Ad.keep,if_pos h1,if_neg h2]
  ·by_cases h2:t=d
   ·simp only[Ad.keep,if_neg h1,if_pos h2]
   ·simp only[Ad.keep,if_neg h1,if_neg h2]
theorem wQh {ad:Ad}{d e:Nat}{a b:Option (Nat×Nat)}(h:d≠e)(D:Ad.keep e a=a)(A:Ad.keep d b=b):(ad.put d a).put e b=(ad.put e b).put d a:=by
 funext x;simp only[Ad.put_apply];by_cases h1:x=e
 ·have h2:x≠d:=λh2=>h (by rw[<- h2,h1]);rw[if_pos h1,if_neg h2,if_pos h1,A]
 ·by_cases h2:x=d
  ·rw[if_neg h1,if_pos h2,if_pos h2,D]
  ·rw[if_neg h1,if_neg h2,if_neg h2,if_neg h1,wJe]
theorem zQo {c:Cf}{ops:List Oper}{y:Oper}{d:Nat}{ad:Ad}{fr:Fr}(hd:d ∉ looks ops y)(G:yVp ad d){t:Nat}(h:∃x∈y.op.operands,∃A,evA c.gl ad fr x=some (.box t A)):t≠d:=by
 obtain⟨x,D,A,E⟩:=h;exact zUh E G (yYp hd x D)
theorem yWh {d:Nat}{pr:PR}{ad:Ad}{fr:Fr}{p:Ad×Fr}(h:after (some d) pr ad fr=some p):∃a s,p=(ad.put d a,fr.put d s)/\(∀A fr',after (some d) pr A fr'=some (A.put d a,fr'.put d s)) /\
  (a=none\/∃t off,pr=.adr t off/\a=some (t,off)):=by
 cases pr with
 | val x=>cases h;exact⟨_,_,rfl,λ_ _=>rfl,.inl rfl⟩
 | box x=>cases h;exact⟨_,_,rfl,λ_ _=>rfl,.inl rfl⟩
 | adr t off =>
  simp only[after] at h;split at h
  ·cases h
  ·rename_i D;cases h;exact⟨_,_,rfl,λ_ _=>if_neg D,.inr ⟨t,off,rfl,rfl⟩⟩
 | sto t cs=>cases h
 | nop=>cases h
theorem zZv {c:Cf}{ops:List Oper}{x y:Oper}(h:Ap c ops x y){ad:Ad}{fr:Fr}{G E:PR}{p q:Ad×Fr}(ag:∀d,x.dst=some d->yVp ad d)(af:∀d,y.dst=some d->yVp ad d)
  (U:Fine c x.op ad fr G) (O:Fine c y.op ad fr E) (hp:after x.dst G ad fr=some p) (A:after y.dst E ad fr=some q) :
  ∃r,after y.dst E p.1 p.2=some r/\after x.dst G q.1 q.2=some r:=by
 have an:∀d t off,x.dst=some d->E=.adr t off->Ad.keep d (some (t,off))=some (t,off):=λd t off hd he=>by
  simp only[Ad.keep,if_neg (zQo (h.d d hd).1 (ag d hd) (O.adr t off he))]
 have am:∀d t off,y.dst=some d->G=.adr t off->Ad.keep d (some (t,off))=some (t,off):=λd t off hd he=>by
  simp only[Ad.keep,if_neg (zQo (h.e d hd) (af d hd) (U.adr t off he))]
 have aj:∀d t cs,x.dst=some d->E=.sto t cs->t≠d:=λd t cs hd he=>zQo (h.d d hd).1 (ag d hd) (O.sto t cs he).2.2;have ai:∀d t cs,y.dst=some d->G=.sto t cs->t≠d:=λd t cs hd he=>zQo (h.e d hd) (af d hd) (U.sto t cs he).2.2;have ak:∀t cs t' cs',G=.sto t cs->E=.sto t' cs'->False:=λt cs t' cs' h1 h2=>by
  have a:=(U.sto t cs h1).1;have b:=(O.sto t' cs' h2).1;rcases h.pure with A|A
  ·rw[yKb A] at a;cases a
  ·rw[yKb A] at b;cases b
 cases hx:x.dst with
 | none =>
  cases J:y.dst with
  | none =>
   rw[hx] at hp;rw[J] at A;cases G<;>cases E<;>simp only[after,Option.some.injEq,reduceCtorEq] at hp A<;>subst hp A<;>first|exact⟨_,rfl,rfl⟩|exact (ak _ _ _ _ rfl rfl).elim
  | some e =>
   rw[hx] at hp;rw[J] at A;cases G with
   | sto t cs =>
    have ht:=ai e t cs J rfl;simp only[after,Option.some.injEq] at hp;subst hp;cases E with
    | adr t' off =>
     simp only[after] at A;split at A
     ·cases A
     ·rename_i al;cases A;exact⟨_,if_neg al,by simp only[after];rw[zGf (λh=>ht h.symm)]⟩
    | _=>simp only[after,Option.some.injEq,reduceCtorEq] at A<;>subst A<;>exact⟨_,rfl,by simp only[after];rw[zGf (λh=>ht h.symm)]⟩
   | _=>simp only[after,Option.some.injEq,reduceCtorEq] at hp<;>subst hp<;>exact⟨_,A,rfl⟩
 | some d =>
  rw[hx] at hp;obtain⟨a,s,rfl,D,ha⟩:=yWh hp;cases J:y.dst with
  | none =>
   rw[J] at A;cases E with
   | sto t cs =>
    have ht:=aj d t cs hx rfl;cases A;exact⟨_,rfl,by rw[D,zGf ht]⟩
   | box cs=>cases A
   | _=>cases A;exact⟨_,rfl,D _ _⟩
  | some e =>
   rw[J] at A;obtain⟨b,s',rfl,ab,hb⟩:=yWh A;have ae:d≠e:=λh0=>(h.d d hx).2 (by rw[J,h0]);have aq:Ad.keep e a=a:=by
    rcases ha with rfl|⟨t,off,h1,rfl⟩
    ·rfl
    ·exact am e t off J h1
   have ao:Ad.keep d b=b:=by
    rcases hb with rfl|⟨t,off,h1,rfl⟩
    ·rfl
    ·exact an d t off hx h1
   exact⟨_,ab _ _,by rw[D,zGf ae,wQh ae aq ao]⟩
