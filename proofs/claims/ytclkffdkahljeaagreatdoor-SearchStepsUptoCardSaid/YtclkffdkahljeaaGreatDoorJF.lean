/- The layer of ideal values, part O: regio -/
import Derived.Test.YtclkffdkahljeaaGreatDoorJE
set_option linter.all false
namespace Go.Iv
open Go
section
variable {α:Type}{p q p' q':Prop}
theorem yZ1 {o:Option α}{f g:α->Prop}(h:∀x,f x->g x):yQ6 o f->yQ6 o g:=by
 cases o<;>simp only[yQ6]<;>first|exact h _|exact id
theorem xJh {c:Prop}(h:p->q):chk c p->chk c q:=λx=>⟨x.1,h x.2⟩
theorem wXi {c:Prop}(h:p->q):giv c p->giv c q:=λx y=>h (x y)
theorem wXj {c:Prop}(h:p->q):(c->p)->(c->q):=λx y=>h (x y)
theorem wXk {f g:α->Prop}(h:∀x,f x->g x):(∀x,f x)->(∀x,g x):=λA x=>h x (A x)
theorem zK7 {b:Bool}{k:Lock p}{l:Lock q}{E:Lock p'}{D:Lock q'}(h:p->p')(J:q->q'):yYv b p q k l->yYv b p' q' E D:=λx=>⟨λA=>h (x.1 A),λA=>J (x.2 A)⟩
theorem wGb (h:p->p')(A:q->q'):p\/q->p'\/q':=λx=>x.imp h A
theorem yJi {c:Prop} [Decidable c](h:p->p')(A:q->q'):(if c then p else q)->(if c then p' else q'):=by split<;>assumption
theorem xW6 {s:SV}{f g:List IV->Prop}(h:∀x,f x->g x):boxV s f->boxV s g:=by unfold boxV;split<;>first|exact h _|exact id
theorem xJf {s:IObj}{f g:List IV->Prop}(h:∀x,f x->g x):obV s f->obV s g:=by unfold obV;split<;>first|exact h _|exact id
theorem wXe {s:IObj}{f g:KeyK->List (Value×IV)->Prop}(h:∀x y,f x y->g x y):omV s f->omV s g:=by unfold omV;split<;>first|exact h _ _|exact id
theorem zXv {s:IV}{f g:IntKind->Int->Prop}(h:∀x y,f x y->g x y):intV s f->intV s g:=by unfold intV;split<;>first|exact h _ _|exact id
theorem zK8 {s:IV}{f g:Bool->Prop}(h:∀x,f x->g x):zXg s f->zXg s g:=by unfold zXg;split<;>first|exact h _|exact id
theorem zGl {s:IV}{f g:Tag->List IV->Prop}(h:∀x y,f x y->g x y):slV s f->slV s g:=by unfold slV;split<;>first|exact h _ _|exact id
theorem xJe {s:IV}{f D:Tag->List IV->Prop}{g A:Nat->Nat->Nat->Prop}(h:∀x y,f x y->D x y)(E:∀x y z,g x y z->A x y z):slX s f g->slX s D A:=by unfold slX;split<;>first|exact h _ _|exact E _ _ _|exact id
theorem zGk {s:IV}{f D:Tag->List IV->Prop}{g A:Nat->Nat->Nat->Nat->Prop}(h:∀x y,f x y->D x y)(E:∀x y z u,g x y z u->A x y z u):slY s f g->slY s D A:=by unfold slY;split<;>first|exact h _ _|exact E _ _ _ _|exact id
theorem zGm {k:Option LenK}{i:Option IntKind}{f D g A:Prop}(h:f->D)(E:g->A):appK k i f g->appK k i D A:=by unfold appK;split<;>first|exact h|exact E|exact id
theorem zXw {s:IV}{f g:List IV->Prop}(h:∀x,f x->g x):aggV s f->aggV s g:=by unfold aggV;split<;>first|exact h _|exact id
theorem xW2 {s:IV}{f g:List IV->Prop}(h:∀x,f x->g x):tupV s f->tupV s g:=by unfold tupV;split<;>first|exact h _|exact id
theorem xJg {s:IV}{f g:Fn->List IV->List IV->Prop}(h:∀x y z,f x y z->g x y z):fnV s f->fnV s g:=by unfold fnV;split<;>first|exact h _ _ _|exact id
theorem xW4 {s:IV}{f g:Option Nat->Prop}(h:∀x,f x->g x):mapV s f->mapV s g:=by unfold mapV;split<;>first|exact h _|exact id
theorem xW5 {s:IV}{f g:Value->Prop}(h:∀x,f x->g x):keyV s f->keyV s g:=by unfold keyV;split<;>first|exact h _|exact λk hs=>h _ (k hs)|exact id
theorem xW7 {s:IV}{f g:Nat->Prop}(h:∀x,f x->g x):adrV s f->adrV s g:=by unfold adrV;split<;>first|exact h _|exact id
theorem wXh {s:IObj}{f g:Nat->Nat->Array Nat->Nat->Prop}(h:∀x y z u,f x y z u->g x y z u):itO s f->itO s g:=by unfold itO;split<;>first|exact h _ _ _ _|exact id
theorem wXg {s:IObj}{f g:Array MapEntry->Nat->Prop}(h:∀x y,f x y->g x y):mxO s f->mxO s g:=by unfold mxO;split<;>first|exact h _ _|exact id
theorem wXf {e:Array MapEntry}{n:Array Nat}{p p':Prop}{q q':MapEntry->IV->Prop}{k:Lock p}{l:Lock q}{D:Lock p'}{A:Lock q'}(h:p->p')(E:∀x y,q x y->q' x y):nxR e n p q k l->nxR e n p' q' D A:=λx=>⟨λy=>h (x.1 y),λa b c d=>E _ _ (x.2 a b c d)⟩
theorem xW3 {s:IV}{f g:Value->Prop}(h:∀x,f x->g x):rawV s f->rawV s g:=by unfold rawV;split<;>first|exact h _|exact id
end
section
variable {R R':Rt}(h:∀pr st ds,R pr st ds->R' pr st ds)
include h
set_option maxHeartbeats 1000000 in
theorem yG1 {c:Cf}{dst:Option Nat}{op:Op}{ad:Ad}{fr:Fr}{st:ISt}{ds:List Dfd}:vcR c dst op R ad fr st ds->vcR c dst op R' ad fr st ds:=by
 unfold vcR;split
 all_goals try unfold zZ6
 all_goals try unfold nilV
 all_goals repeat (first
  | exact h _ _ _|exact id
  | refine yZ1 λ_=>?_|refine xJh ?_|refine wXi ?_|refine wXj ?_|refine wXk λ_=>?_|refine zK7 ?_ ?_|refine wGb ?_ ?_|refine yJi ?_ ?_
  | refine xW6 λ_=>?_|refine xJf λ_=>?_|refine wXe λ_ _=>?_|refine zXv λ_ _=>?_|refine zK8 λ_=>?_|refine zGl λ_ _=>?_|refine xJe (λ_ _=>?_) (λ_ _ _=>?_)|refine zGk (λ_ _=>?_) (λ_ _ _ _=>?_)|refine zGm ?_ ?_
  | refine zXw λ_=>?_|refine xW2 λ_=>?_|refine xJg λ_ _ _=>?_|refine xW4 λ_=>?_|refine xW3 λ_=>?_|refine xW5 λ_=>?_|refine xW7 λ_=>?_|refine wXh λ_ _ _ _=>?_|refine wXg λ_ _=>?_|refine wXf ?_ (λ_ _=>?_)
  | (refine λA=>callV.mono A λ_ _=>?_;unfold zKs)
  | unfold yWp|unfold yY1|unfold zG1|unfold yUz|unfold yYa|unfold zX6|unfold xJs|unfold idxV|unfold yVz|unfold arrV|unfold zK5|unfold zZ7|unfold yY9|unfold zVx|unfold xG0|unfold zWr|unfold lenV|unfold appV|unfold qO|unfold appO|unfold appR|unfold appZ|unfold capV|unfold zWw|unfold xJ5|unfold zU1|unfold plR
  | split)
end
def zVe (esc:List Nat)(dst:Option Nat):Op->Bool
 | .move _|.assign _|.pick ..|.build ..=>true
 | .buildSlice ..=>!yV2 esc dst
 | .load ..=>!yV2 esc dst
 | .nilCheck _|.binOp ..|.unOp ..|.convert ..|.makeFunc ..|.slice ..|.fieldAddr ..|.field ..|.indexAddr ..|.index ..|.extract ..=>true
 | .alloc _|.box ..=>match dst with|some d=>!esc.contains d|none=>false
 | .call ⟨.builtin .len,_,_⟩|.call ⟨.builtin .max,_,_⟩=>true
 | .call ⟨.value (.func g),_,_⟩=>esc.contains (g+1000000)
 | _=>false
def zX5:Op->Bool
 | .load ..=>true
 | _=>false
def yVt:Op->Bool
 | .store ..=>true
 | _=>false
def yXy (esc:List Nat)(dst:Option Nat)(op:Op):Bool:=zVe esc dst op || zX5 op
def vJj (l:List Operand):List Nat:=l.filterMap λ| .tmp t=>some t|_=>none
def looks (ops:List Oper)(o:Oper):List Nat:=vJj o.op.operands.toList++(match o.guard with|some (j,_)=>(yV7 ops j).toList|none=>[])
def xGi:Op->Bool
 | .fieldAddr ..=>true
 | .indexAddr ..=>true
 | _=>false
def wV4 (ops:List Oper)(e:Nat):Bool:=ops.all λo=>!xGi o.op || (!(looks ops o).contains e&&!(o.dst == some e))
def stOk (ops:List Oper)(x y:Oper):Bool :=
 match x.op with
 | .store _ (.tmp e) _=>wV4 ops e&&!(looks ops y).contains e
 | _=>false
def wJo (esc:List Nat)(ops:List Oper)(x y:Oper):Bool :=
 (yXy esc x.dst x.op || yXy esc y.dst y.op)&&(!(zX5 x.op&&yVt y.op) || stOk ops y x)&&(!(zX5 y.op&&yVt x.op) || stOk ops x y) &&
 (match x.dst with|some d=>!(looks ops y).contains d&&!(y.dst == some d)|none=>true)&&(match y.dst with|some d=>!(looks ops x).contains d|none=>true)
def Lin (F:Rt->ISt->List Dfd->Prop):Prop:=(∃pr,∀R st ds,F R st ds↔R pr st ds)\/(∀R st ds,¬ F R st ds)
theorem yX0 (pr:PR):Lin (λR st ds=>R pr st ds):=.inl ⟨pr,λ_ _ _=>Iff.rfl⟩
theorem yZa:Lin (λ_ _ _=>False):=.inr λ_ _ _ h=>h
theorem yQd {α:Type}{o:Option α}{F:α->Rt->ISt->List Dfd->Prop}(h:∀x,Lin (F x)):Lin (λR st ds=>yQ6 o λx=>F x R st ds):=by
 cases o with
 | none=>exact yZa
 | some x=>exact h x
theorem yWr {c:Prop}{F:Rt->ISt->List Dfd->Prop}(h:Lin F):Lin (λR st ds=>chk c (F R st ds)):=by
 by_cases hc:c
 ·rcases h with⟨pr,h⟩|h
  ·exact .inl ⟨pr,λR st ds=>⟨λx=>(h R st ds).1 x.2,λx=>⟨hc,(h R st ds).2 x⟩⟩⟩
  ·exact .inr λR st ds x=>h R st ds x.2
 ·exact .inr λR st ds x=>hc x.1
theorem yJh {c:Prop} [Decidable c]{F G:Rt->ISt->List Dfd->Prop}(h:Lin F)(A:Lin G):Lin (λR st ds=>if c then F R st ds else G R st ds):=by
 by_cases hc:c
 ·simpa only[if_pos hc] using h
 ·simpa only[if_neg hc] using A
theorem wZx {c:Prop}{F:Rt->ISt->List Dfd->Prop}(hc:c)(h:Lin F):Lin (λR st ds=>c->F R st ds):=by
 rcases h with⟨pr,h⟩|h
 ·exact .inl ⟨pr,λR st ds=>⟨λx=>(h R st ds).1 (x hc),λx _=>(h R st ds).2 x⟩⟩
 ·exact .inr λR st ds x=>h R st ds (x hc)
theorem wZz {b:Bool}{F G:Rt->ISt->List Dfd->Prop}(h:Lin F)(A:Lin G):Lin (λR st ds=>yYv b (F R st ds) (G R st ds) .mk .mk):=by
 cases b
 ·simpa only[xJu] using A
 ·simpa only[xGu] using h
theorem xVn {s:SV}{F:List IV->Rt->ISt->List Dfd->Prop}(h:∀x,Lin (F x)):Lin (λR st ds=>boxV s λx=>F x R st ds):=by
 cases s<;>first|exact h _|exact yZa
theorem zXs {s:IV}{F:IntKind->Int->Rt->ISt->List Dfd->Prop}(h:∀x y,Lin (F x y)):Lin (λR st ds=>intV s λx y=>F x y R st ds):=by
 cases s with
 | raw v=>cases v<;>first|exact h _ _|exact yZa
 | _=>exact yZa
theorem wX0 {s:IV}{F:Bool->Rt->ISt->List Dfd->Prop}(h:∀x,Lin (F x)):Lin (λR st ds=>zXg s λx=>F x R st ds):=by
 cases s with
 | raw v=>cases v<;>first|exact h _|exact yZa
 | _=>exact yZa
theorem wZv {s:IV}{F:Tag->List IV->Rt->ISt->List Dfd->Prop}{G:Nat->Nat->Nat->Rt->ISt->List Dfd->Prop}(h:∀x y,Lin (F x y))(J:∀x y z,Lin (G x y z)):Lin (λR st ds=>slX s (λx y=>F x y R st ds) (λx y z=>G x y z R st ds)):=by
 by_cases hs:∃t D,s=.sl t D
 ·obtain⟨t,D,rfl⟩:=hs;exact h _ _
 ·by_cases E:∃b off n cap,s=.raw (.slice (some ⟨b,off,none⟩) n cap)
  ·obtain⟨b,off,n,cap,rfl⟩:=E;exact J _ _ _
  ·refine .inr λR st ds A=>?_;simp only at A;unfold slX at A;split at A
   ·exact hs ⟨_,_,rfl⟩
   ·exact E ⟨_,_,_,_,rfl⟩
   ·exact A
theorem vQf {s:IV}{F:Tag->List IV->Rt->ISt->List Dfd->Prop}{G:Nat->Nat->Nat->Nat->Rt->ISt->List Dfd->Prop}(h:∀x y,Lin (F x y))(J:∀x y z u,Lin (G x y z u)):Lin (λR st ds=>slY s (λx y=>F x y R st ds) (λx y z u=>G x y z u R st ds)):=by
 by_cases hs:∃t D,s=.sl t D
 ·obtain⟨t,D,rfl⟩:=hs;exact h _ _
 ·by_cases E:∃b off n cap,s=.raw (.slice (some ⟨b,off,none⟩) n cap)
  ·obtain⟨b,off,n,cap,rfl⟩:=E;exact J _ _ _ _
  ·refine .inr λR st ds A=>?_;simp only at A;unfold slY at A;split at A
   ·exact hs ⟨_,_,rfl⟩
   ·exact E ⟨_,_,_,_,rfl⟩
   ·exact A
theorem zXt {s:IV}{F:List IV->Rt->ISt->List Dfd->Prop}(h:∀x,Lin (F x)):Lin (λR st ds=>aggV s λx=>F x R st ds):=by
 cases s<;>first|exact h _|exact yZa
theorem wVw {s:IV}{F:List IV->Rt->ISt->List Dfd->Prop}(h:∀x,Lin (F x)):Lin (λR st ds=>tupV s λx=>F x R st ds):=by
 cases s<;>first|exact h _|exact yZa
theorem zGa {s:IV}{F:Value->Rt->ISt->List Dfd->Prop}(h:∀x,Lin (F x)):Lin (λR st ds=>rawV s λx=>F x R st ds):=by
 cases s<;>first|exact h _|exact yZa
theorem wZw {ag:Bool}{n:Nat}{p:Pl}{fr:Fr}:Lin (λR st ds=>yUz true ag n p fr R st ds):=by
 cases p with
 | box t off=>exact xVn λ_=>yQd λ_=>yX0 _
 | ptr b off=>exact yZa
 | cp y=>exact yJh (yX0 _) yZa
theorem xGb {f:Nat×Bool×Nat}{p:Pl}:Lin (λR st ds=>zX6 f p R st ds):=by
 cases p with
 | box t off=>exact yX0 _
 | ptr b off=>exact yX0 _
 | cp y=>exact zXt λ_=>yQd λ_=>yJh (yX0 _) yZa
theorem wZy {len n j:Nat}{ag:Bool}{p:Pl}:Lin (λR st ds=>xJs len ag n j p R st ds):=by
 unfold xJs;refine yJh ?_ yZa;cases p with
 | box t off=>exact yX0 _
 | ptr b off=>exact yX0 _
 | cp y=>exact zXt λ_=>yQd λ_=>yJh (yX0 _) yZa
theorem wVz {k:LenK}{s:Option (TypeId×Bool×Nat×Nat)}{A:Option IV}{p:Option Pl}{e:Option (Nat×Bool×Nat)}{j:Int}:Lin (λR st ds=>idxV k s A p e j R st ds):=by
 cases k with
 | sl=>exact yQd λ_=>yQd λ_=>wZv (λ_ _=>yJh (yJh (yQd λ_=>yX0 _) yZa) yZa) (λ_ _ _=>yJh (yX0 _) yZa)
 | arr n=>exact yQd λ_=>yQd λ_=>yJh wZy yZa
 | _=>exact yZa
theorem xGa {k:LenK}{e:Option (Nat×Bool×Nat)}{x:IV}{j:Int}:Lin (λR st ds=>zK5 k e x j R st ds):=by
 cases k with
 | str =>
  refine zGa λv=>?_;cases v with
  | string s=>exact yQd λ_=>yX0 _
  | _=>exact yZa
 | arr n=>exact zXt λ_=>yQd λ_=>yJh (yQd λ_=>yX0 _) yZa
 | _=>exact yZa
theorem wVy {k:LenK}{x:IV}:Lin (λR st ds=>lenV true k x R st ds):=by
 cases k with
 | str =>
  refine zGa λv=>?_;cases v with
  | string s=>exact wZx (λh=>by cases h) (yX0 _)
  | _=>exact yZa
 | sl=>exact wZv (λ_ _=>wZx (λh=>by cases h) (yX0 _)) (λ_ _ _=>yX0 _)
 | map=>exact yZa
 | arr n=>exact yX0 _
theorem wW0 {ar:Option (Nat×Bool×Nat)}{x:IV}{lo D A:Option Int}{len:Nat}:Lin (λR st ds=>arrV ar x lo D A len R st ds):=by
 cases x with
 | cptr y =>
  cases y with
  | agg cs =>
   cases lo with
   | none =>
    cases A with
    | none=>exact yQd λ_=>yWr (yQd λ_=>yX0 _)
    | some m=>exact yZa
   | some l=>exact yZa
  | _=>exact yZa
 | _=>exact yZa
theorem xG9 {k:LenK}{s:Option (TypeId×Bool×Nat×Nat)}{ar:Option (Nat×Bool×Nat)}{x:IV}{lo D A:Option Int}:Lin (λR st ds=>yVz k s ar x lo D A R st ds):=by
 cases k with
 | str =>
  refine zGa λv=>?_;cases v with
  | string s =>
   cases A with
   | none=>exact yQd λ_=>yX0 _
   | some m=>exact yZa
  | _=>exact yZa
 | sl =>
  refine yQd λ_=>vQf (λ_ _=>yWr ?_) (λ_ _ _ _=>?_)
  ·cases D with
   | none =>
    cases A with
    | none=>exact yQd λ_=>yWr (yX0 _)
    | some m=>exact yZa
   | some h=>exact yQd λ_=>yWr (yX0 _)
  ·cases A with
   | none=>exact yWr (yQd λ_=>yX0 _)
   | some m=>exact yZa
 | arr n=>exact wW0
 | map=>exact yZa
theorem xQg {o:Option IV}{p:Option Pl}:Lin (λR st ds=>zZ6 true o p R st ds):=by
 cases o with
 | some x=>exact yX0 _
 | none=>exact yZa
theorem wVx {o:Option IV}{p:Option Pl}:Lin (λR st ds=>nilV o p true R st ds):=by
 cases o with
 | none=>exact yZa
 | some x =>
  cases x with
  | fn f a b=>exact yJh (yX0 _) yZa
  | cptr y=>exact yX0 _
  | raw v =>
   cases v with
   | pointer o =>
    cases o with
    | none=>exact yZa
    | some q=>exact yX0 _
   | _=>exact yZa
  | _=>exact yZa
theorem zWd {esc:List Nat}{d:Nat}(h:esc.contains d=false){cs:List IV}:Lin (λR st ds=>yY1 esc (some d) cs R st ds):=by
 have:¬ d∈esc:=by simpa using h
 simp only[yY1,if_neg this];exact yX0 _
theorem xJ8 {frz esc:List Nat}{d:Nat}(h:esc.contains d=false){y:IV}:Lin (λR st ds=>yWp frz esc (some d) y R st ds):=yJh (yX0 _) (zWd h)
theorem xJ7 {c:Cf}(A:c.dr=true){dst:Option Nat}{op:Op}{ad:Ad}{fr:Fr}(hp:zVe c.esc dst op=true):Lin (λR st ds=>vcR c dst op R ad fr st ds):=by
 unfold zVe at hp;split at hp
 case h_1=>simp only[vcR,A];exact xQg
 case h_2=>simp only[vcR,A];exact xQg
 case h_3=>exact yQd λ_=>wX0 λ_=>wZz (yQd λ_=>yX0 _) (yQd λ_=>yX0 _)
 case h_4=>exact yWr (yQd λ_=>yQd λ_=>yX0 _)
 case h_5 =>
  have hl:yV2 c.esc dst=false:=by simpa using hp
  simp only[vcR,zG1,hl,bFt,if_false];exact yQd λ_=>yWr (yQd λ_=>yWr (yX0 _))
 case h_6 =>
  have hl:ldr c.dr c.esc dst=true:=by unfold ldr;rw[A,hp];rfl
  simp only[vcR,hl];exact yQd λ_=>yQd λ_=>wZw
 case h_7=>simp only[vcR,A];exact wVx
 case h_8=>exact yQd λ_=>yQd λ_=>yQd λ_=>yX0 _
 case h_9=>exact yQd λ_=>yQd λ_=>yX0 _
 case h_10=>exact yQd λ_=>yQd λ_=>yX0 _
 case h_11=>exact yQd λ_=>yQd λ_=>yX0 _
 case h_12=>exact yQd λ_=>yQd λ_=>yQd λ_=>yQd λ_=>yQd λ_=>xG9
 case h_13=>exact yQd λ_=>yQd λ_=>xGb
 case h_14=>exact yQd λ_=>yQd λ_=>zXt λ_=>yQd λ_=>yX0 _
 case h_15=>exact yQd λ_=>zXs λ_ _=>yQd λ_=>wVz
 case h_16=>exact yQd λ_=>zXs λ_ _=>yQd λ_=>yQd λ_=>xGa
 case h_17=>exact yQd λ_=>wVw λ_=>yQd λ_=>yX0 _
 case h_18 =>
  split at hp
  ·exact yQd λ_=>zWd (by simpa using hp)
  ·cases hp
 case h_19 =>
  split at hp
  ·exact yQd λ_=>yQd λ_=>yWr (xJ8 (by simpa using hp))
  ·cases hp
 case h_20 =>
  rename_i args D;obtain⟨args⟩:=args;obtain⟨D⟩:=D
  match args,D with
  | [x],[T]=>simp only[vcR,A];exact yQd λ_=>yQd λ_=>wVy
  | [],_=>exact yZa
  | _::_::_,_=>exact yZa
  | [_],[]=>exact yZa
  | [_],_::_::_=>exact yZa
 case h_21 =>
  rename_i args D;obtain⟨args⟩:=args
  match args with
  | [x,y]=>exact yQd λ_=>yQd λ_=>zXs λ_ _=>zXs λ_ _=>yJh (yX0 _) yZa
  | []=>exact yZa
  | [_]=>exact yZa
  | _::_::_::_=>exact yZa
 case h_22 =>
  rename_i g _ _;have E:g+1000000∈c.esc:=by simpa using hp
  simp only[vcR,zU1,if_pos E];exact yQd λ_=>yQd λ_=>yX0 _
 case h_23=>cases hp
structure SameAt (c:Cf)(op:Op)(ad ad':Ad)(fr fr':Fr):Prop where
 v:∀x∈op.operands,evV c.gl fr x=evV c.gl fr' x
 a:∀x∈op.operands,evA c.gl ad fr x=evA c.gl ad' fr' x
 box:(zX5 op || yVt op)=true->∀x∈op.operands,∀t off,evA c.gl ad fr x=some (.box t off)->fr t=fr' t
theorem yGe {gl:Nat->Option IV}{fr fr':Fr}:∀ {l:List Operand},(∀x∈l,evV gl fr x=evV gl fr' x)->evL gl fr l=evL gl fr' l
 | [],_=>rfl
 | x::l,h=>by rw[xWm,xWm,h x (by simp),yGe λy A=>h y (by simp[A])]
theorem zZe {gl:Nat->Option IV}{fr fr':Fr}{o:Option Operand}(h:∀x,o=some x->evV gl fr x=evV gl fr' x):yWt gl fr o=yWt gl fr' o:=by
 cases o with
 | none=>rfl
 | some x=>simp only[xGj,h x rfl]
theorem zKt {P:Program}{gl:Nat->Option IV}{fr fr':Fr}{T:TypeId}:∀ {l:List (Nat×Operand)} {cs:List IV},(∀x∈l.map (·.2),evV gl fr x=evV gl fr' x)->yWd P gl fr T cs l=yWd P gl fr' T cs l
 | [],cs,_=>rfl
 | (i,x)::l,cs,h=>by
  rw[yUd,yUd,h x (by simp)];cases fldI P T i with
  | none=>rfl
  | some f =>
   cases evV gl fr' x with
   | none=>rfl
   | some y=>simp only[zWz];split<;>first|exact zKt λy A=>h y (by simp[A])|rfl
theorem xG8 {dr ag:Bool}{n:Nat}{p:Pl}{fr fr':Fr}{R:Rt}{st:ISt}{ds:List Dfd}(h:∀t off,p=.box t off->fr t=fr' t):yUz dr ag n p fr R st ds=yUz dr ag n p fr' R st ds:=by
 cases p with
 | box t off=>simp only[yUz,h t off rfl]
 | _=>rfl
theorem xX8 {y:List IV}{p:Pl}{fr fr':Fr}{R:Rt}{st:ISt}{ds:List Dfd}(h:∀t off,p=.box t off->fr t=fr' t):yYa y p fr R st ds=yYa y p fr' R st ds:=by
 cases p with
 | box t off=>simp only[yYa,h t off rfl]
 | _=>rfl
theorem xUn {c:Cf}{dst:Option Nat}{op:Op}{R:Rt}{ad U:Ad}{fr fr':Fr}{st:ISt}{ds:List Dfd}(h:SameAt c op ad U fr fr'):vcR c dst op R ad fr st ds=vcR c dst op R U fr' st ds:=by
 obtain⟨hv,J,hb⟩:=h;cases op with
 | move x=>simp only[vcR,hv x (by simp[Op.operands]),J x (by simp[Op.operands])]
 | assign x=>simp only[vcR,hv x (by simp[Op.operands]),J x (by simp[Op.operands])]
 | pick x y z=>simp only[vcR];rw[hv x (by simp[Op.operands]),hv y (by simp[Op.operands]),hv z (by simp[Op.operands])]
 | alloc T=>rfl
 | box T x=>simp only[vcR,hv x (by simp[Op.operands])]
 | build T parts=>simp only[vcR,λcs=>zKt (P:=c.P) (T:=T) (cs:=cs) (l:=parts.toList) (λx hx=>hv x (by simpa[Op.operands] using hx))]
 | buildSlice T n parts=>simp only[vcR,yGe (l:=parts.toList.map (·.2)) (λx hx=>hv x (by simpa[Op.operands] using hx))]
 | load T x =>
  have E:=hb rfl x (by simp[Op.operands]);simp only[vcR,<- J x (by simp[Op.operands])];cases hp:evA c.gl ad fr x with
  | none=>rfl
  | some p=>simp only[yJy,λ(i:Bool×Nat)=>xG8 (dr:=ldr c.dr c.esc dst) (ag:=i.1) (n:=i.2) (p:=p) (fr:=fr) (fr':=fr') (R:=R) (st:=st) (ds:=ds) (λt off hq=>E t off (by rw[hp,hq]))]
 | store T x y =>
  have E:=hb rfl x (by simp[Op.operands]);simp only[vcR,<- J x (by simp[Op.operands]),<- hv y (by simp[Op.operands])];cases hp:evA c.gl ad fr x with
  | none=>rfl
  | some p=>simp only[yJy,λ(i:List IV)=>xX8 (y:=i) (p:=p) (fr:=fr) (fr':=fr') (R:=R) (st:=st) (ds:=ds) (λt off hq=>E t off (by rw[hp,hq]))]
 | nilCheck x=>simp only[vcR,hv x (by simp[Op.operands]),J x (by simp[Op.operands])]
 | binOp o T x y T'=>simp only[vcR,hv x (by simp[Op.operands]),hv y (by simp[Op.operands])]
 | unOp o T x=>simp only[vcR,hv x (by simp[Op.operands])]
 | convert T T' x=>simp only[vcR,hv x (by simp[Op.operands])]
 | makeFunc f a b=>simp only[vcR,yGe (l:=a.toList) (λx hx=>hv x (by simp[Op.operands];exact .inl (by simpa using hx))),yGe (l:=b.toList) (λx hx=>hv x (by simp[Op.operands];exact .inr (by simpa using hx)))]
 | slice T x lo hi mx=>simp only[vcR,hv x (by simp[Op.operands]),zZe (o:=lo) (λy O=>hv y (by simp[Op.operands,O])),zZe (o:=hi) (λy O=>hv y (by simp[Op.operands,O])),
   zZe (o:=mx) (λy O=>hv y (by simp[Op.operands,O]))]
 | fieldAddr T x i=>simp only[vcR,J x (by simp[Op.operands])]
 | field T x i=>simp only[vcR,hv x (by simp[Op.operands])]
 | indexAddr T x y=>simp only[vcR,hv x (by simp[Op.operands]),J x (by simp[Op.operands]),hv y (by simp[Op.operands])]
 | index T x y=>simp only[vcR,hv x (by simp[Op.operands]),hv y (by simp[Op.operands])]
 | lookup T x y ok=>simp only[vcR,hv x (by simp[Op.operands]),hv y (by simp[Op.operands])]
 | mapUpdate T x y z=>simp only[vcR,hv x (by simp[Op.operands]),hv y (by simp[Op.operands]),hv z (by simp[Op.operands])]
 | extract x i=>simp only[vcR,hv x (by simp[Op.operands])]
 | call cc =>
  obtain⟨f,args,D⟩:=cc;cases f with
  | value f=>simp only[vcR,hv f (by simp[Op.operands,Call.operands]),yGe (l:=args.toList) (λx hx=>hv x (by simp[Op.operands,Call.operands];exact .inr (by simpa using hx)))]
  | invoke r nm=>rfl
  | builtin b =>
   obtain⟨args⟩:=args;obtain⟨D⟩:=D;have A:∀x∈args,evV c.gl fr x=evV c.gl fr' x:=λx hx=>hv x (by simp[Op.operands,Call.operands];exact hx);cases b with
   | len =>
    match args,D,A with
    | [x],[T],A=>simp only[vcR,A x (by simp)]
    | [],_,_=>rfl
    | _::_::_,_,_=>rfl
    | [_],[],_=>rfl
    | [_],_::_::_,_=>rfl
   | append =>
    match args,D,A with
    | [x,y],[T,T'],A=>simp only[vcR,A x (by simp),A y (by simp)]
    | [],_,_=>rfl
    | [_],_,_=>rfl
    | _::_::_::_,_,_=>rfl
    | [_,_],[],_=>rfl
    | [_,_],[_],_=>rfl
    | [_,_],_::_::_::_,_=>rfl
   | cap =>
    match args,D,A with
    | [x],[T],A=>simp only[vcR,A x (by simp)]
    | [],_,_=>rfl
    | _::_::_,_,_=>rfl
    | [_],[],_=>rfl
    | [_],_::_::_,_=>rfl
   | clear =>
    match args,D,A with
    | [x],[T],A=>simp only[vcR,A x (by simp)]
    | [],_,_=>rfl
    | _::_::_,_,_=>rfl
    | [_],[],_=>rfl
    | [_],_::_::_,_=>rfl
   | max =>
    match args,A with
    | [x,y],A=>simp only[vcR,A x (by simp),A y (by simp)]
    | [],_=>rfl
    | [_],_=>rfl
    | _::_::_::_,_=>rfl
   | min =>
    match args,A with
    | [x,y],A=>simp only[vcR,A x (by simp),A y (by simp)]
    | [],_=>rfl
    | [_],_=>rfl
    | _::_::_::_,_=>rfl
   | _=>rfl
 | defer cc =>
  obtain⟨f,args,D⟩:=cc;cases f with
  | value f=>simp only[vcR,hv f (by simp[Op.operands,Call.operands]),yGe (l:=args.toList) (λx hx=>hv x (by simp[Op.operands,Call.operands];exact .inr (by simpa using hx)))]
  | _=>rfl
 | makeMap T r=>cases r<;>rfl
 | insert T x y z=>simp only[vcR,hv x (by simp[Op.operands]),hv y (by simp[Op.operands]),hv z (by simp[Op.operands])]
 | makeSlice T x y=>simp only[vcR,hv x (by simp[Op.operands]),hv y (by simp[Op.operands])]
 | range T x=>simp only[vcR,hv x (by simp[Op.operands])]
 | next x b=>cases b<;>simp only[vcR,hv x (by simp[Op.operands])]
 | entry x=>simp only[vcR,hv x (by simp[Op.operands])]
 | _=>rfl
def yZz (c:Cf)(ops:List Oper)(o:Oper)(R:Rt)(ad:Ad)(fr:Fr)(st:ISt)(ds:List Dfd):Prop :=
 match o.guard with
 | none=>vcR c o.dst o.op R ad fr st ds
 | some (j,A)=>match yV7 ops j with
  | some d=>match fr d with
   | .iv (.raw (.bool b))=>if b=A then vcR c o.dst o.op R ad fr st ds else R (.val (.raw undef)) st ds
   | .iv (.raw (.tuple _))=>R (.val (.raw undef)) st ds
   | _=>False
  | none=>False
def yY4 (c:Cf)(ops:List Oper)(o:Oper)(K:Kt):Kt:=λad fr st ds=>yZz c ops o (finK o.dst K ad fr) ad fr st ds
def vcK (c:Cf)(ops:List Oper):List Oper->Kt->Kt
 | [],K=>K
 | o::l,K=>yY4 c ops o (vcK c ops l K)
theorem zVn {c:Cf}{ops l A:List Oper}{K:Kt}:vcK c ops (l++A) K=vcK c ops l (vcK c ops A K):=by
 induction l with
 | nil=>rfl
 | cons o l D=>rw[List.cons_append,vcK,vcK,D]
theorem zUg {c:Cf}{ops:List Oper}{Q:Fr->ISt->List Dfd->Prop}:∀ {l:List Oper} {ad:Ad} {fr:Fr} {st:ISt} {ds:List Dfd},yXw c ops l Q ad fr st ds->vcK c ops l (λ_ fr st ds=>Q fr st ds) ad fr st ds
 | [],_,_,_,_,h=>h
 | o::l,ad,fr,st,ds,h=>by
  have J:∀ad fr st ds,yXw c ops l Q ad fr st ds->vcK c ops l (λ_ fr st ds=>Q fr st ds) ad fr st ds:=λ_ _ _ _=>zUg;have A:∀pr st ds,finK o.dst (yXw c ops l Q) ad fr pr st ds->finK o.dst (vcK c ops l (λ_ fr st ds=>Q fr st ds)) ad fr pr st ds:=by
   intro pr st ds;cases pr<;>cases o.dst<;>simp only[finK]<;>first|exact J _ _ _ _|exact id|(split<;>first|exact id|exact J _ _ _ _)
  unfold yXw at h;change yZz c ops o (finK o.dst (vcK c ops l (λ_ fr st ds=>Q fr st ds)) ad fr) ad fr st ds;unfold yZz;split at h
  ·rename_i E;rw[E];exact yG1 A h
  ·rename_i j D E;rw[E];simp only[yV7];cases hd:(ops[j]?).bind (·.dst) with
   | none=>rw[hd] at h;exact h.elim
   | some d =>
    rw[hd] at h;simp only at h ⊢;cases hs:fr d with
    | box cs=>rw[hs] at h;exact h.elim
    | iv x =>
     cases x with
     | raw v =>
      cases v with
      | bool b =>
       rw[hs,xQu fr d D b _ _ _ _ hs] at h;simp only;split
       ·exact yG1 A (h.1 ‹_›)
       ·have O:b=!D:=by cases b<;>cases D<;>simp_all
        exact A _ _ _ (h.2 O)
      | tuple t =>
       rw[hs] at h;exact A _ _ _ h
      | _=>rw[hs] at h;exact h.elim
     | _=>rw[hs] at h;exact h.elim
theorem yVy {c:Cf}{ops:List Oper}{o:Oper}{R R':Rt}(h:∀pr st ds,R pr st ds->R' pr st ds){ad:Ad}{fr:Fr}{st:ISt}{ds:List Dfd}:yZz c ops o R ad fr st ds->yZz c ops o R' ad fr st ds:=by
 unfold yZz;split
 ·exact yG1 h
 ·split
  ·split
   ·split
    ·exact yG1 h
    ·exact h _ _ _
   ·exact h _ _ _
   ·exact id
  ·exact id
theorem wZu {c:Cf}(D:c.dr=true){ops:List Oper}{o:Oper}{ad:Ad}{fr:Fr}(hp:zVe c.esc o.dst o.op=true):Lin (λR st ds=>yZz c ops o R ad fr st ds):=by
 cases A:o.guard with
 | none=>simp only[yZz,A];exact xJ7 D hp
 | some p =>
  obtain⟨j,E⟩:=p;cases hd:yV7 ops j with
  | none=>simp only[yZz,A,hd];exact yZa
  | some d =>
   cases hs:fr d with
   | box cs=>simp only[yZz,A,hd,hs];exact yZa
   | iv x =>
    cases x with
    | raw v =>
     cases v with
     | bool b=>simp only[yZz,A,hd,hs];exact yJh (xJ7 D hp) (yX0 _)
     | tuple t=>simp only[yZz,A,hd,hs];exact yX0 _
     | _=>simp only[yZz,A,hd,hs];exact yZa
    | _=>simp only[yZz,A,hd,hs];exact yZa
def Kept (st st':ISt):Prop:=∀b cs,st b=some (.box cs)->st' b=some (.box cs)
theorem Kept.refl (st:ISt):Kept st st:=λ_ _ h=>h
def LinS (st:ISt)(F:Rt->ISt->List Dfd->Prop):Prop:=(∃pr,(∀R ds,F R st ds↔R pr st ds)/\∀st',Kept st st'->∀R ds,R pr st' ds->F R st' ds)\/(∀R ds,¬ F R st ds)
theorem yKa {F:Rt->ISt->List Dfd->Prop}(h:Lin F)(st:ISt):LinS st F:=by
 rcases h with⟨pr,h⟩|h
 ·exact .inl ⟨pr,λR ds=>h R st ds,λst' _ R ds A=>(h R st' ds).2 A⟩
 ·exact .inr λR ds=>h R st ds
theorem wX1 {c:Cf}{dst:Option Nat}{T:TypeId}{x:Operand}{ad:Ad}{fr:Fr}(st:ISt):LinS st (λR st ds=>vcR c dst (.load T x) R ad fr st ds):=by
 simp only[vcR];cases tyI c.P T with
 | none=>exact yKa yZa st
 | some i =>
  cases evA c.gl ad fr x with
  | none=>exact yKa yZa st
  | some p =>
   simp only[yJy];cases p with
   | box t off=>exact yKa (xVn λ_=>yQd λ_=>yX0 _) st
   | cp y=>exact yKa (yJh (yX0 _) yZa) st
   | ptr b off =>
    simp only[yUz];cases hl:ldr c.dr c.esc dst with
    | true=>simp only[if_true];exact yKa yZa st
    | false =>
     simp only[bFt,if_false];cases A:st b with
     | none=>exact .inr λR ds h=>by simp only[A] at h;exact h
     | some o =>
      cases o with
      | box cs =>
       cases hp:yK4 i.1 i.2 cs off with
       | none=>exact .inr λR ds h=>by simp only[A,yJy,obV,hp] at h;exact h
       | some y=>exact .inl ⟨.val y,λR ds=>by simp only[A,yJy,obV,hp],λst' E R ds D=>by simp only[E b cs A,yJy,obV,hp];exact D⟩
      | _=>exact .inr λR ds h=>by simp only[A,yJy,obV] at h
theorem xVo {c:Cf}(A:c.dr=true){dst:Option Nat}{op:Op}{ad:Ad}{fr:Fr}(hp:yXy c.esc dst op=true)(st:ISt):LinS st (λR st ds=>vcR c dst op R ad fr st ds):=by
 unfold yXy at hp;rw[Bool.or_eq_true] at hp;rcases hp with hp|hp
 ·exact yKa (xJ7 A hp) st
 ·cases op<;>first|exact wX1 st|cases hp
theorem zZ8 {c:Cf}(E:c.dr=true){ops:List Oper}{o:Oper}{ad:Ad}{fr:Fr}(hp:yXy c.esc o.dst o.op=true)(st:ISt):LinS st (λR st ds=>yZz c ops o R ad fr st ds):=by
 cases A:o.guard with
 | none=>simp only[yZz,A];exact xVo E hp st
 | some p =>
  obtain⟨j,D⟩:=p;cases hd:yV7 ops j with
  | none=>simp only[yZz,A,hd];exact yKa yZa st
  | some d =>
   cases hs:fr d with
   | box cs=>simp only[yZz,A,hd,hs];exact yKa yZa st
   | iv x =>
    cases x with
    | raw v =>
     cases v with
     | bool b =>
      simp only[yZz,A,hd,hs];by_cases J:b=D
      ·simp only[if_pos J];exact xVo E hp st
      ·simp only[if_neg J];exact yKa (yX0 _) st
     | tuple t=>simp only[yZz,A,hd,hs];exact yKa (yX0 _) st
     | _=>simp only[yZz,A,hd,hs];exact yKa yZa st
    | _=>simp only[yZz,A,hd,hs];exact yKa yZa st
def appQ (esc:List Nat)(dst:Option Nat):Op->Bool
 | .call ⟨.builtin .append,⟨[_,_]⟩,⟨[_,_]⟩⟩=>zJk esc dst
 | _=>false
theorem Kept.new {st:ISt}{g:Nat}(D:st g=none)(o:Option IObj):Kept st (st.put g o):=λb cs A=>by
 rw[ISt.put_apply];split
 ·rename_i h;subst h;rw[D] at A;cases A
 ·exact A
theorem Kept.front {st:ISt}{g₀ g n s:Nat}(h0:st g₀=some (.front n s))(D:g=g₀\/st g=none)(o:Option IObj):Kept st ((st.put g₀ none).put g o):=λb cs A=>by
 have h1:b≠g₀:=by rintro rfl;rw[h0] at A;cases A
 have h2:b≠g:=by
  rintro rfl;rcases D with rfl|D
  ·exact h1 rfl
  ·rw[D] at A;cases A
 rw[ISt.put_apply,if_neg h2,ISt.put_apply,if_neg h1];exact A
theorem wJn {esc:List Nat}{dst:Option Nat}{e:TypeId×Bool×Nat×Nat}{E:Tag}{O ys:List IV}{R:Rt}{st:ISt}{ds:List Dfd}(h:appV esc dst e E O ys R st ds) :
  appV esc dst e E O ys (λpr st' ds=>R pr st' ds/\Kept st st') st ds:=by
 obtain⟨h1,h2,A⟩:=h;refine⟨h1,h2,?_⟩;cases hc:E.cap with
 | none =>
  rw[hc] at A;cases ys with
  | nil=>exact⟨A,Kept.refl _⟩
  | cons y ys=>exact A.elim
 | nil =>
  rw[hc] at A;cases ys with
  | nil=>exact⟨A,Kept.refl _⟩
  | cons y ys =>
   by_cases U:yV2 esc dst=true
   ·simp only[if_pos U] at A ⊢;exact λg cap D=>⟨A g cap D,Kept.new D.1 _⟩
   ·simp only[if_neg U] at A ⊢;exact λg D=>⟨A g D,Kept.new D _⟩
 | full =>
  rw[hc] at A;obtain⟨J,A⟩:=A;refine⟨J,?_⟩;cases ys with
  | nil=>exact⟨A,Kept.refl _⟩
  | cons y ys=>exact λg D=>⟨A g D,Kept.new D _⟩
 | app g₀ =>
  rw[hc] at A;obtain⟨J,h5,A⟩:=A;exact⟨J,h5,λg D=>⟨A g D,Kept.front h5 D _⟩⟩
theorem xWz {c:Cf}{dst:Option Nat}{op:Op}{R:Rt}{ad:Ad}{fr:Fr}{st:ISt}{ds:List Dfd}(A:appQ c.esc dst op=true)(h:vcR c dst op R ad fr st ds) :
  vcR c dst op (λpr st' ds=>R pr st' ds/\Kept st st') ad fr st ds:=by
 unfold appQ at A;split at A
 ·simp only[vcR] at h ⊢;refine yZ1 (λe=>?_) h;refine zGm ?_ ?_
  ·refine yZ1 λs=>zGk (λE J=>yZ1 λy=>zGl λ_ ys h=>wJn h) λb off n cap=>yZ1 λy=>zGk (λ_ ys h=>?_) (λ_ _ _ _ h=>?_)
   all_goals (unfold qO at h;rw[if_pos A] at h;exact h.elim)
  ·refine yZ1 λs=>zGl λE _=>yZ1 λy=>zXv λ_ m h=>?_;obtain⟨h1,h2⟩:=h;exact⟨h1,λg cap D=>⟨h2 g cap D,Kept.new D.1 _⟩⟩
 ·cases A
theorem xU1 {c:Cf}{ops:List Oper}{o:Oper}{R:Rt}{ad:Ad}{fr:Fr}{st:ISt}{ds:List Dfd}(D:appQ c.esc o.dst o.op=true)(h:yZz c ops o R ad fr st ds) :
  yZz c ops o (λpr st' ds=>R pr st' ds/\Kept st st') ad fr st ds:=by
 unfold yZz at h ⊢;split at h
 ·exact xWz D h
 ·split at h
  ·split at h
   ·split at h
    ·rename_i A;rw[if_pos A];exact xWz D h
    ·rename_i A;rw[if_neg A];exact⟨h,Kept.refl _⟩
   ·exact⟨h,Kept.refl _⟩
   ·exact h.elim
  ·exact h.elim
def yK8 (ops:List Oper)(o:Oper)(fr fr':Fr):Prop:=∀j A d,o.guard=some (j,A)->yV7 ops j=some d->fr d=fr' d\/(∃cs cs',fr d=.box cs/\fr' d=.box cs')
theorem yJt {c:Cf}{ops:List Oper}{o:Oper}{R:Rt}{ad D:Ad}{fr fr':Fr}{st:ISt}{ds:List Dfd}(h:SameAt c o.op ad D fr fr')(J:yK8 ops o fr fr'):yZz c ops o R ad fr st ds=yZz c ops o R D fr' st ds:=by
 unfold yZz;rw[xUn h];cases E:o.guard with
 | none=>rfl
 | some p =>
  obtain⟨j,A⟩:=p;cases hd:yV7 ops j with
  | none=>simp only[hd]
  | some d =>
   simp only[hd];rcases J j A d E hd with O|⟨cs,cs',h1,h2⟩
   ·rw[O]
   ·rw[h1,h2]
structure Fine (c:Cf)(op:Op)(ad:Ad)(fr:Fr)(pr:PR):Prop where
 isA:∀t off,pr=.adr t off->c.dr=true->xGi op=true
 adr:∀t off,pr=.adr t off->∃x∈op.operands,∃off',evA c.gl ad fr x=some (.box t off')
 sto:∀t cs,pr=.sto t cs->yVt op=true/\(∃cs0,fr t=.box cs0)/\∃x∈op.operands,∃off',evA c.gl ad fr x=some (.box t off')
 stoA:∀t cs,pr=.sto t cs->∀T a v,op=.store T a v->∃off',evA c.gl ad fr a=some (.box t off')
theorem yXk {c:Cf}{op:Op}{ad:Ad}{fr:Fr}{x:IV}:Fine c op ad fr (.val x):=⟨(λ_ _ h=>by cases h),(λ_ _ h=>by cases h),(λ_ _ h=>by cases h),(λ_ _ h=>by cases h)⟩
theorem wWg {c:Cf}{op:Op}{ad:Ad}{fr:Fr}{x:List IV}:Fine c op ad fr (.box x):=⟨(λ_ _ h=>by cases h),(λ_ _ h=>by cases h),(λ_ _ h=>by cases h),(λ_ _ h=>by cases h)⟩
theorem xWj {c:Cf}{op:Op}{ad:Ad}{fr:Fr}:Fine c op ad fr .nop:=⟨(λ_ _ h=>by cases h),(λ_ _ h=>by cases h),(λ_ _ h=>by cases h),(λ_ _ h=>by cases h)⟩
theorem zGw {c:Cf}{op:Op}{R:Rt}{ad:Ad}{fr:Fr}{st:ISt}{ds:List Dfd}{x:Operand}{p:Pl}(A:¬ c.dr=true)(hx:x∈op.operands)(hp:evA c.gl ad fr x=some p):plR p R st ds->plR p (λpr st ds=>R pr st ds/\Fine c op ad fr pr) st ds:=by
 cases p with
 | box t off=>exact λh=>⟨h,⟨(λ_ _ _ h0=>(A h0).elim),λJ D E=>by cases E;exact⟨x,hx,off,hp⟩,(λ_ _ h=>by cases h),(λ_ _ h=>by cases h)⟩⟩
 | ptr b off=>exact λh=>⟨h,yXk⟩
 | cp y=>exact λh=>⟨h,yXk⟩
theorem zWn {c:Cf}{op:Op}{R:Rt}{ad:Ad}{fr:Fr}{st:ISt}{ds:List Dfd}{x:Operand}(hx:x∈op.operands)(o:Option IV) :
  zZ6 c.dr o (evA c.gl ad fr x) R st ds->zZ6 c.dr o (evA c.gl ad fr x) (λpr st ds=>R pr st ds/\Fine c op ad fr pr) st ds:=by
 unfold zZ6;split
 ·exact λh=>⟨h,yXk⟩
 ·split
  ·exact id
  ·intro h;obtain⟨p,hp,h⟩:=yQ2.1 h;exact yQ2.2 ⟨p,hp,zGw ‹_› hx hp h⟩
set_option maxHeartbeats 1000000 in
theorem xKi {c:Cf}{dst:Option Nat}{op:Op}{R:Rt}{ad:Ad}{fr:Fr}{st:ISt}{ds:List Dfd}:vcR c dst op R ad fr st ds->vcR c dst op (λpr st ds=>R pr st ds/\Fine c op ad fr pr) ad fr st ds:=by
 by_cases h1:∃x,op=.move x\/op=.assign x
 ·obtain⟨x,rfl|rfl⟩:=h1
  ·exact zWn (by simp[Op.operands]) _
  ·exact zWn (by simp[Op.operands]) _
 by_cases h2:∃x,op=.nilCheck x
 ·obtain⟨x,rfl⟩:=h2;simp only[vcR,nilV];split
  ·exact yJi (λh=>⟨h,yXk⟩) id
  ·exact λh=>⟨h,yXk⟩
  ·split
   ·exact λh=>⟨h,yXk⟩
   ·intro h;obtain⟨p,hp,h⟩:=yQ2.1 h;exact yQ2.2 ⟨p,hp,zGw ‹_› (by simp[Op.operands]) hp h⟩
  ·split
   ·exact id
   ·intro h;obtain⟨p,hp,h⟩:=yQ2.1 h;exact yQ2.2 ⟨p,hp,zGw ‹_› (by simp[Op.operands]) hp h⟩
 by_cases h3:∃T x i,op=.fieldAddr T x i
 ·obtain⟨T,x,i,rfl⟩:=h3;simp only[vcR];refine yZ1 λf=>λh=>?_;obtain⟨p,hp,h⟩:=yQ2.1 h;refine yQ2.2 ⟨p,hp,?_⟩;cases p with
  | box t off=>exact⟨h,⟨(λ_ _ _ _=>rfl),λE D A=>by cases A;exact⟨x,by simp[Op.operands],off,hp⟩,(λ_ _ h=>by cases h),(λ_ _ h=>by cases h)⟩⟩
  | ptr b off=>exact⟨h,yXk⟩
  | cp y=>exact zXw (λ_=>yZ1 λ_=>yJi (λh=>⟨h,yXk⟩) id) h
 by_cases h4:∃T x y,op=.indexAddr T x y
 ·obtain⟨T,x,y,rfl⟩:=h4;simp only[vcR];refine yZ1 λ_=>zXv λ_ j=>yZ1 λk=>?_;cases k with
  | sl=>exact yZ1 λ_=>yZ1 λ_=>xJe (λ_ _=>yJi (yJi (yZ1 λ_=>λh=>⟨h,yXk⟩) id) id) (λ_ _ _=>yJi (λh=>⟨h,yXk⟩) id)
  | arr n =>
   refine yZ1 λ_=>λh=>?_;obtain⟨p,hp,h⟩:=yQ2.1 h;refine yQ2.2 ⟨p,hp,yJi (yJi ?_ id) id h⟩;cases p with
   | box t off=>exact λh=>⟨h,⟨(λ_ _ _ _=>rfl),λE D A=>by cases A;exact⟨x,by simp[Op.operands],off,hp⟩,(λ_ _ h=>by cases h),(λ_ _ h=>by cases h)⟩⟩
   | ptr b off=>exact λh=>⟨h,yXk⟩
   | cp y=>exact zXw (λ_=>yZ1 λ_=>yJi (λh=>⟨h,yXk⟩) id)
  | str=>exact id
  | map=>exact id
 by_cases U:∃T x y,op=.store T x y
 ·obtain⟨T,x,y,rfl⟩:=U;simp only[vcR];refine yZ1 λ_=>yZ1 λ_=>xJh λh=>?_;obtain⟨p,hp,h⟩:=yQ2.1 h;refine yQ2.2 ⟨p,hp,?_⟩;revert h;cases p with
  | box t off =>
   simp only[yYa];cases hf:fr t with
   | box cs=>exact yJi (λh=>⟨h,⟨(λ_ _ h=>by cases h),(λ_ _ h=>by cases h),(λE cs' A=>by cases A;exact⟨rfl,⟨cs,hf⟩,x,by simp[Op.operands],off,hp⟩),λE cs' A T' a' v' ho=>by cases A;cases ho;exact⟨off,hp⟩⟩⟩) id
   | iv x=>exact id
  | ptr b off=>exact yZ1 λ_=>xJf λ_=>yJi (λh=>⟨h,xWj⟩) id
  | cp y=>exact id
 have hv:∀x st ds,R (.val x) st ds->R (.val x) st ds/\Fine c op ad fr (.val x):=λx st ds h=>⟨h,yXk⟩
 have O:∀x st ds,R (.box x) st ds->R (.box x) st ds/\Fine c op ad fr (.box x):=λx st ds h=>⟨h,wWg⟩
 have J:∀st ds,R .nop st ds->R .nop st ds/\Fine c op ad fr .nop:=λst ds h=>⟨h,xWj⟩
 generalize Fine c op ad fr=F at hv O J ⊢;unfold vcR;split
 all_goals first
  | exact absurd ⟨_,.inl rfl⟩ h1|exact absurd ⟨_,.inr rfl⟩ h1|exact absurd ⟨_,rfl⟩ h2|exact absurd ⟨_,_,_,rfl⟩ h3|exact absurd ⟨_,_,_,rfl⟩ h4|exact absurd ⟨_,_,_,rfl⟩ U
  | repeat (first
   | exact hv _ _ _|exact O _ _ _|exact J _ _|exact id
   | refine yZ1 λ_=>?_|refine xJh ?_|refine wXi ?_|refine wXj ?_|refine wXk λ_=>?_|refine zK7 ?_ ?_|refine wGb ?_ ?_|refine yJi ?_ ?_
   | refine xW6 λ_=>?_|refine xJf λ_=>?_|refine wXe λ_ _=>?_|refine zXv λ_ _=>?_|refine zK8 λ_=>?_|refine zGl λ_ _=>?_|refine xJe (λ_ _=>?_) (λ_ _ _=>?_)|refine zGk (λ_ _=>?_) (λ_ _ _ _=>?_)|refine zGm ?_ ?_
   | refine zXw λ_=>?_|refine xW2 λ_=>?_|refine xJg λ_ _ _=>?_|refine xW4 λ_=>?_|refine xW3 λ_=>?_|refine xW5 λ_=>?_|refine xW7 λ_=>?_|refine wXh λ_ _ _ _=>?_|refine wXg λ_ _=>?_|refine wXf ?_ (λ_ _=>?_)
   | (refine λhh=>callV.mono hh λ_ _=>?_;unfold zKs)
   | unfold yWp|unfold yY1|unfold zG1|unfold yUz|unfold yVz|unfold arrV|unfold zK5|unfold zZ7|unfold yY9|unfold zVx|unfold xG0|unfold zWr|unfold lenV|unfold appV|unfold qO|unfold appO|unfold appR|unfold appZ|unfold capV|unfold zWw|unfold xJ5|unfold zU1
   | split)
def yVo (ad:Ad)(d:Nat):Prop:=∀x t off,ad x=some (t,off)->t≠d
theorem xJc {ad:Ad}{d:Nat}(h:yVo ad d)(s:Nat):Ad.keep d (ad s)=ad s:=by
 cases A:ad s with
 | none=>rfl
 | some p =>
  obtain⟨t,off⟩:=p;simp only[Ad.keep,if_neg (h s t off A)]
theorem zGx {c:Cf}{ad:Ad}{fr:Fr}{x:Operand}{t off d:Nat}(h:evA c.gl ad fr x=some (.box t off))(U:yVo ad d)(hx:x≠.tmp d):t≠d:=by
 cases x with
 | tmp y =>
  simp only[evA] at h;cases D:ad y with
  | some p =>
   obtain⟨J,A⟩:=p;rw[D] at h;simp only[plAd,Option.some.injEq,Pl.box.injEq] at h;exact h.1▸U y J A D
  | none =>
   rw[D] at h;simp only[plAd] at h;cases E:fr y with
   | box cs =>
    rw[E] at h;simp only[plOf,Option.some.injEq,Pl.box.injEq] at h;rintro rfl;exact hx (by rw[h.1])
   | iv z =>
    rw[E] at h;exfalso;cases z with
    | raw u =>
     cases u with
     | pointer p =>
      cases p with
      | none=>cases h
      | some p =>
       obtain⟨pb,po,ps⟩:=p;cases ps<;>cases h
     | _=>cases h
    | _=>cases h
 | global g=>simp only[evA] at h;cases O:c.gl g<;>rw[O] at h<;>cases h
 | const v=>cases h
 | func f=>cases h
theorem xYr {c:Cf}{op:Op}{ad:Ad}{fr:Fr}{d:Nat}{a:Option (Nat×Nat)}{s:SV}(hd:∀x∈op.operands,x≠.tmp d)(D:yVo ad d):SameAt c op ad (ad.put d a) fr (fr.put d s):=by
 refine⟨λx hx=>?_,λx hx=>?_,λ_ x hx t off E=>?_⟩
 ·cases x with
  | tmp y=>rw[zZh,zZh,Fr.put_apply,if_neg (λh=>hd _ hx (by rw[h]))]
  | _=>rfl
 ·cases x with
  | tmp y =>
   have A:y≠d:=λh=>hd _ hx (by rw[h]);simp only[evA,Ad.put_apply,if_neg A,xJc D];cases ad y with
   | none=>simp only[plAd,Fr.put_apply,if_neg A]
   | some p=>rfl
  | _=>rfl
 ·rw[Fr.put_apply,if_neg (zGx E D (hd x hx))]
theorem xYq {c:Cf}{op:Op}{ad:Ad}{fr:Fr}{t:Nat}{cs cs':List IV}(ht:fr t=.box cs)(h:(zX5 op || yVt op)=false):SameAt c op ad ad fr (fr.put t (.box cs')):=by
 refine⟨λx _=>?_,λx _=>?_,λD=>by rw[h] at D;cases D⟩
 ·cases x with
  | tmp y =>
   rw[zZh,zZh,Fr.put_apply];split
   ·rename_i A;rw[A,ht];rfl
   ·rfl
  | _=>rfl
 ·cases x with
  | tmp y =>
   simp only[evA];cases ad y with
   | none =>
    simp only[plAd,Fr.put_apply];split
    ·rename_i A;rw[A,ht];rfl
    ·rfl
   | some p=>rfl
  | _=>rfl
theorem zYp {ops:List Oper}{o:Oper}{fr:Fr}{d:Nat}{s:SV}(h:d ∉ looks ops o):yK8 ops o fr (fr.put d s):=by
 intro j A e D E;refine .inl ?_;rw[Fr.put_apply,if_neg];rintro rfl;exact h (List.mem_append_right _ (by rw[D];simp[E]))
theorem yUr {ops:List Oper}{o:Oper}{fr:Fr}{t:Nat}{cs cs':List IV}(ht:fr t=.box cs):yK8 ops o fr (fr.put t (.box cs')):=by
 intro j D e _ _;rw[Fr.put_apply];by_cases A:e=t
 ·rw[if_pos A,A];exact .inr ⟨cs,cs',ht,rfl⟩
 ·rw[if_neg A];exact .inl rfl
theorem yYm {ops:List Oper}{o:Oper}{d:Nat}(h:d ∉ looks ops o):∀x∈o.op.operands,x≠.tmp d:=by
 rintro x hx rfl;exact h (List.mem_append_left _ (List.mem_filterMap.2 ⟨.tmp d,by simpa using hx,rfl⟩))
def after (dst:Option Nat)(pr:PR)(ad:Ad)(fr:Fr):Option (Ad×Fr) :=
 match pr,dst with
 | .val x,some d=>some (ad.put d none,fr.put d (.iv x))
 | .val _,none=>some (ad,fr)
 | .adr t off,some d=>if d=t then none else some (ad.put d (some (t,off)),fr.put d (.iv .junk))
 | .adr _ _,none=>some (ad,fr)
 | .box cs,some d=>some (ad.put d none,fr.put d (.box cs))
 | .box _,none=>none
 | .sto _ _,some _=>none
 | .sto t cs,none=>some (ad,fr.put t (.box cs))
 | .nop,some _=>none
 | .nop,none=>some (ad,fr)
theorem yZc {dst:Option Nat}{K:Kt}{ad:Ad}{fr:Fr}{pr:PR}{st:ISt}{ds:List Dfd}:finK dst K ad fr pr st ds↔∃p,after dst pr ad fr=some p/\K p.1 p.2 st ds:=by
 cases pr<;>cases dst<;>simp only[finK,after,Option.some.injEq,exists_eq_left',reduceCtorEq,false_and,exists_false];split<;>simp
theorem yKm {c:Cf}{ops:List Oper}{o:Oper}{R:Rt}{ad:Ad}{fr:Fr}{st:ISt}{ds:List Dfd}(h:yZz c ops o R ad fr st ds):yZz c ops o (λpr st ds=>R pr st ds/\Fine c o.op ad fr pr) ad fr st ds:=by
 unfold yZz at *;split
 ·exact xKi (by simpa[*] using h)
 ·rename_i j D E;rw[E] at h;simp only at h;split at h
  ·rename_i d hd;cases hs:fr d with
   | box cs=>rw[hs] at h;exact h.elim
   | iv x =>
    cases x with
    | raw v =>
     cases v with
     | bool b =>
      rw[hs] at h;simp only at h ⊢;split
      ·rename_i A;rw[if_pos A] at h;exact xKi h
      ·rename_i A;rw[if_neg A] at h;exact⟨h,yXk⟩
     | tuple t=>rw[hs] at h;exact⟨h,yXk⟩
     | _=>rw[hs] at h;exact h.elim
    | _=>rw[hs] at h;exact h.elim
  ·exact h.elim
structure Ap (c:Cf)(ops:List Oper)(x y:Oper):Prop where
 pure:yXy c.esc x.dst x.op=true\/yXy c.esc y.dst y.op=true
 ls:zX5 x.op=true->yVt y.op=true->stOk ops y x=true
 sl:yVt x.op=true->zX5 y.op=true->stOk ops x y=true
 d:∀d,x.dst=some d->d ∉ looks ops y/\y.dst≠some d
 e:∀d,y.dst=some d->d ∉ looks ops x
theorem Ap.symm {c:Cf}{ops:List Oper}{x y:Oper}(h:Ap c ops x y):Ap c ops y x :=
 ⟨h.pure.symm,λa b=>h.sl b a,λa b=>h.ls b a,λd hd=>⟨h.e d hd,λhx=>(h.d d hx).2 hd⟩,λd hd=>(h.d d hd).1⟩
theorem xQ2 {esc:List Nat}{dst:Option Nat}{op:Op}(h:zVe esc dst op=true):yVt op=false:=by
 cases op<;>first|rfl|simp[zVe] at h
theorem yKh {esc:List Nat}{dst:Option Nat}{op:Op}(h:yXy esc dst op=true):yVt op=false:=by
 unfold yXy at h;rw[Bool.or_eq_true] at h;rcases h with h|h
 ·exact xQ2 h
 ·cases op<;>first|rfl|cases h
theorem kQa {c:Cf}{ops:List Oper}{x y:Oper}(h:wJo c.esc ops x y=true):Ap c ops x y:=by
 unfold wJo at h;simp only[bAt,Bool.or_eq_true,Bool.not_eq_true',Bool.and_eq_false_iff] at h;obtain⟨⟨⟨⟨h1,h2⟩,D⟩,A⟩,E⟩:=h;refine⟨h1,λa b=>by rcases h2 with h2|h2<;>simp_all,λa b=>by rcases D with D|D<;>simp_all,λd hd=>?_,λd hd=>?_⟩
 ·rw[hd] at A;simp only[bAt,Bool.not_eq_true'] at A;exact⟨by simpa using A.1,by simpa using A.2⟩
 ·rw[hd] at E;simpa using E
def Safe (ops:List Oper)(ad:Ad):Prop:=∀e,wV4 ops e=true->yVo ad e/\ad e=none
theorem wQj (ops:List Oper):Safe ops Ad.none_:=λ_ _=>⟨λ_ _ _ h=>(by cases h),rfl⟩
theorem xKz {ops:List Oper}{e:Nat}(h:wV4 ops e=true){o:Oper}(A:o∈ops)(D:xGi o.op=true):e ∉ looks ops o/\o.dst≠some e:=by
 unfold wV4 at h;have:=List.all_eq_true.1 h o A;rw[D] at this;simp only[Bool.not_true,Bool.false_or,bAt,Bool.not_eq_true'] at this;exact⟨by simpa using this.1,by simpa using this.2⟩
theorem yKn {c:Cf}{ops:List Oper}{x y:Oper}(h:Ap c ops x y){ad:Ad}(af:Safe ops ad){fr:Fr}{pr:PR}{p:Ad×Fr}(hb:∀d,x.dst=some d->yVo ad d)(hf:Fine c x.op ad fr pr)(E:after x.dst pr ad fr=some p) :
  SameAt c y.op ad p.1 fr p.2/\yK8 ops y fr p.2:=by
 have refl:SameAt c y.op ad ad fr fr/\yK8 ops y fr fr:=⟨⟨λ_ _=>rfl,λ_ _=>rfl,λ_ _ _ _ _ _=>rfl⟩,λ_ _ _ _ _=>.inl rfl⟩
 cases hx:x.dst with
 | none =>
  rw[hx] at E;cases pr with
  | sto t cs =>
   simp only[after,Option.some.injEq] at E;subst E;obtain⟨hs,⟨an,ht⟩,_⟩:=hf.sto t cs rfl;have ae:yVt y.op=false:=by
    rcases h.pure with hp|hp
    ·rw[yKh hp] at hs;cases hs
    ·exact yKh hp
   cases hl:zX5 y.op with
   | false=>exact⟨xYq ht (by rw[hl,ae];rfl),yUr ht⟩
   | true =>
    have D:=h.sl hs hl;unfold stOk at D;split at D
    ·rename_i T e v ab;rw[bAt] at D;obtain⟨ah,J⟩:=af e D.1;have U:e ∉ looks ops y:=by simpa using D.2
     obtain⟨off,A⟩:=hf.stoA t cs rfl T _ v ab;have ac:t=e:=by
      simp only[evA,J,plAd] at A;cases aa:fr e with
      | box am=>rw[aa] at A;simp only[plOf,Option.some.injEq,Pl.box.injEq] at A;exact A.1.symm
      | iv x1 =>
       rw[aa] at A;unfold plOf at A;split at A<;>first|(cases A;done)|(cases A;rfl)
     subst ac;show SameAt c y.op ad ad fr (fr.put t (.box cs))/\yK8 ops y fr (fr.put t (.box cs));refine⟨⟨λx hx=>?_,λx hx=>?_,λ_ x hx t2 aj ai=>?_⟩,yUr ht⟩
     ·have O:=yYm U x hx;cases x with
      | tmp q =>
       rw[zZh,zZh,Fr.put_apply,if_neg λhq=>O (by rw[hq])]
      | _=>rfl
     ·have O:=yYm U x hx;cases x with
      | tmp q =>
       simp only[evA];cases ad q with
       | none=>simp only[plAd];rw[Fr.put_apply,if_neg λhq=>O (by rw[hq])]
       | some p=>rfl
      | _=>rfl
     ·rw[Fr.put_apply,if_neg (zGx ai ah (yYm U x hx))]
    ·cases D
  | _=>simp only[after,Option.some.injEq,reduceCtorEq] at E<;>subst E<;>exact refl
 | some d =>
  rw[hx] at E;have hd:=h.d d hx;have key:∀a s,SameAt c y.op ad (ad.put d a) fr (fr.put d s)/\yK8 ops y fr (fr.put d s):=λa s=>⟨xYr (yYm hd.1) (hb d hx),zYp hd.1⟩
  cases pr with
  | adr t off =>
   simp only[after] at E;split at E
   ·cases E
   ·cases E;exact key _ _
  | _=>simp only[after,Option.some.injEq,reduceCtorEq] at E<;>subst E<;>exact key _ _
theorem zYu {fr:Fr}{d e:Nat}{s t:SV}(h:d≠e):(fr.put d s).put e t=(fr.put e t).put d s:=by
 funext x;simp only[Fr.put_apply];by_cases h1:x=e
 ·rw[if_pos h1,if_neg (λh2=>h (by rw[<- h2,h1])),if_pos h1]
 ·rw[if_neg h1,if_neg h1]
theorem wX7 {d e:Nat}(o:Option (Nat×Nat)):Ad.keep d (Ad.keep e o)=Ad.keep e (Ad.keep d o):=by
 cases o with
 | none=>rfl
 | some p =>
  obtain⟨t,off⟩:=p;by_cases h1:t=e
  ·by_cases h2:t=d
   ·simp only[Ad.keep,if_pos h1,if_pos h2]
   ·simp only[Ad.keep,if_pos h1,if_neg h2]
  ·by_cases h2:t=d
   ·simp only[Ad.keep,if_neg h1,if_pos h2]
   ·simp only[Ad.keep,if_neg h1,if_neg h2]
theorem xU3 {ad:Ad}{d e:Nat}{a b:Option (Nat×Nat)}(h:d≠e)(D:Ad.keep e a=a)(A:Ad.keep d b=b):(ad.put d a).put e b=(ad.put e b).put d a:=by
 funext x;simp only[Ad.put_apply];by_cases h1:x=e
 ·have h2:x≠d:=λh2=>h (by rw[<- h2,h1]);rw[if_pos h1,if_neg h2,if_pos h1,A]
 ·by_cases h2:x=d
  ·rw[if_neg h1,if_pos h2,if_pos h2,D]
  ·rw[if_neg h1,if_neg h2,if_neg h2,if_neg h1,wX7]
theorem zQc {c:Cf}{ops:List Oper}{y:Oper}{d:Nat}{ad:Ad}{fr:Fr}(hd:d ∉ looks ops y)(E:yVo ad d){t:Nat}(h:∃x∈y.op.operands,∃A,evA c.gl ad fr x=some (.box t A)):t≠d:=by
 obtain⟨x,hx,A,D⟩:=h;exact zGx D E (yYm hd x hx)
theorem yWe {d:Nat}{pr:PR}{ad:Ad}{fr:Fr}{p:Ad×Fr}(h:after (some d) pr ad fr=some p):∃a s,p=(ad.put d a,fr.put d s)/\(∀A fr',after (some d) pr A fr'=some (A.put d a,fr'.put d s)) /\
  (a=none\/∃t off,pr=.adr t off/\a=some (t,off)):=by
 cases pr with
 | val x=>cases h;exact⟨_,_,rfl,λ_ _=>rfl,.inl rfl⟩
 | box x=>cases h;exact⟨_,_,rfl,λ_ _=>rfl,.inl rfl⟩
 | adr t off =>
  simp only[after] at h;split at h
  ·cases h
  ·rename_i D;cases h;exact⟨_,_,rfl,λ_ _=>if_neg D,.inr ⟨t,off,rfl,rfl⟩⟩
 | sto t cs=>cases h
 | nop=>cases h
theorem zZp {c:Cf}{ops:List Oper}{x y:Oper}(h:Ap c ops x y){ad:Ad}{fr:Fr}{J E:PR}{p q:Ad×Fr}(ag:∀d,x.dst=some d->yVo ad d)(af:∀d,y.dst=some d->yVo ad d)
  (aa:Fine c x.op ad fr J) (U:Fine c y.op ad fr E) (hp:after x.dst J ad fr=some p) (A:after y.dst E ad fr=some q) :
  ∃r,after y.dst E p.1 p.2=some r/\after x.dst J q.1 q.2=some r:=by
 have an:∀d t off,x.dst=some d->E=.adr t off->Ad.keep d (some (t,off))=some (t,off):=λd t off hd he=>by
  simp only[Ad.keep,if_neg (zQc (h.d d hd).1 (ag d hd) (U.adr t off he))]
 have am:∀d t off,y.dst=some d->J=.adr t off->Ad.keep d (some (t,off))=some (t,off):=λd t off hd he=>by
  simp only[Ad.keep,if_neg (zQc (h.e d hd) (af d hd) (aa.adr t off he))]
 have aj:∀d t cs,x.dst=some d->E=.sto t cs->t≠d:=λd t cs hd he=>zQc (h.d d hd).1 (ag d hd) (U.sto t cs he).2.2;have ai:∀d t cs,y.dst=some d->J=.sto t cs->t≠d:=λd t cs hd he=>zQc (h.e d hd) (af d hd) (aa.sto t cs he).2.2;have ak:∀t cs t' cs',J=.sto t cs->E=.sto t' cs'->False:=λt cs t' cs' h1 h2=>by
  have a:=(aa.sto t cs h1).1;have b:=(U.sto t' cs' h2).1;rcases h.pure with A|A
  ·rw[yKh A] at a;cases a
  ·rw[yKh A] at b;cases b
 cases hx:x.dst with
 | none =>
  cases O:y.dst with
  | none =>
   rw[hx] at hp;rw[O] at A;cases J<;>cases E<;>simp only[after,Option.some.injEq,reduceCtorEq] at hp A<;>subst hp A<;>first|exact⟨_,rfl,rfl⟩|exact (ak _ _ _ _ rfl rfl).elim
  | some e =>
   rw[hx] at hp;rw[O] at A;cases J with
   | sto t cs =>
    have ht:=ai e t cs O rfl;simp only[after,Option.some.injEq] at hp;subst hp;cases E with
    | adr t' off =>
     simp only[after] at A;split at A
     ·cases A
     ·rename_i al;cases A;exact⟨_,if_neg al,by simp only[after];rw[zYu (λh=>ht h.symm)]⟩
    | _=>simp only[after,Option.some.injEq,reduceCtorEq] at A<;>subst A<;>exact⟨_,rfl,by simp only[after];rw[zYu (λh=>ht h.symm)]⟩
   | _=>simp only[after,Option.some.injEq,reduceCtorEq] at hp<;>subst hp<;>exact⟨_,A,rfl⟩
 | some d =>
  rw[hx] at hp;obtain⟨a,s,rfl,D,ha⟩:=yWe hp;cases O:y.dst with
  | none =>
   rw[O] at A;cases E with
   | sto t cs =>
    have ht:=aj d t cs hx rfl;cases A;exact⟨_,rfl,by rw[D,zYu ht]⟩
   | box cs=>cases A
   | _=>cases A;exact⟨_,rfl,D _ _⟩
  | some e =>
   rw[O] at A;obtain⟨b,s',rfl,ac,hb⟩:=yWe A;have ae:d≠e:=λh0=>(h.d d hx).2 (by rw[O,h0]);have aq:Ad.keep e a=a:=by
    rcases ha with rfl|⟨t,off,h1,rfl⟩
    ·rfl
    ·exact am e t off O h1
   have ao:Ad.keep d b=b:=by
    rcases hb with rfl|⟨t,off,h1,rfl⟩
    ·rfl
    ·exact an d t off hx h1
   exact⟨_,ac _ _,by rw[D,zYu ae,xU3 ae aq ao]⟩
