/- The layer of ideal values, part O: regio -/
import Derived.Test.YtclkffdkahljeaaGreatDoorJE
set_option linter.all false
namespace Go.Iv
open Go
section
variable {α:Type}{p q p' q':Prop}
theorem yZ0 {o:Option α}{f g:α->Prop}(h:∀x,f x->g x):yQ5 o f->yQ5 o g:=by
 cases o<;>simp only[yQ5]<;>first|exact h _|exact id
theorem xQq {c:Prop}(h:p->q):chk c p->chk c q:=λx=>⟨x.1,h x.2⟩
theorem xGt {c:Prop}(h:p->q):giv c p->giv c q:=λx y=>h (x y)
theorem xGu {c:Prop}(h:p->q):(c->p)->(c->q):=λx y=>h (x y)
theorem xGv {f g:α->Prop}(h:∀x,f x->g x):(∀x,f x)->(∀x,g x):=λhf x=>h x (hf x)
theorem zXa {b:Bool}{k:Lock p}{l:Lock q}{k':Lock p'}{l':Lock q'}(h:p->p')(h':q->q'):yWi b p q k l->yWi b p' q' k' l':=λx=>⟨λhb=>h (x.1 hb),λhb=>h' (x.2 hb)⟩
theorem wK6 (h:p->p')(h':q->q'):p\/q->p'\/q':=λx=>x.imp h h'
theorem yJ1 {c:Prop} [Decidable c](h:p->p')(h':q->q'):(if c then p else q)->(if c then p' else q'):=by split<;>assumption
theorem xJ3 {s:SV}{f g:List IV->Prop}(h:∀x,f x->g x):boxV s f->boxV s g:=by unfold boxV;split<;>first|exact h _|exact id
theorem xQo {s:IObj}{f g:List IV->Prop}(h:∀x,f x->g x):obV s f->obV s g:=by unfold obV;split<;>first|exact h _|exact id
theorem xGp {s:IObj}{f g:KeyK->List (Value×IV)->Prop}(h:∀x y,f x y->g x y):omV s f->omV s g:=by unfold omV;split<;>first|exact h _ _|exact id
theorem zZ6 {s:IV}{f g:IntKind->Int->Prop}(h:∀x y,f x y->g x y):intV s f->intV s g:=by unfold intV;split<;>first|exact h _ _|exact id
theorem zXb {s:IV}{f g:Bool->Prop}(h:∀x,f x->g x):zQt s f->zQt s g:=by unfold zQt;split<;>first|exact h _|exact id
theorem zW7 {s:IV}{f g:Tag->List IV->Prop}(h:∀x y,f x y->g x y):slV s f->slV s g:=by unfold slV;split<;>first|exact h _ _|exact id
theorem xQn {s:IV}{f f':Tag->List IV->Prop}{g g':Nat->Nat->Nat->Prop}(h:∀x y,f x y->f' x y)(h':∀x y z,g x y z->g' x y z):slX s f g->slX s f' g':=by unfold slX;split<;>first|exact h _ _|exact h' _ _ _|exact id
theorem zW6 {s:IV}{f f':Tag->List IV->Prop}{g g':Nat->Nat->Nat->Nat->Prop}(h:∀x y,f x y->f' x y)(h':∀x y z u,g x y z u->g' x y z u):slY s f g->slY s f' g':=by unfold slY;split<;>first|exact h _ _|exact h' _ _ _ _|exact id
theorem zW8 {k:Option LenK}{i:Option IntKind}{f f' g g':Prop}(h:f->f')(h':g->g'):appK k i f g->appK k i f' g':=by unfold appK;split<;>first|exact h|exact h'|exact id
theorem zZ7 {s:IV}{f g:List IV->Prop}(h:∀x,f x->g x):aggV s f->aggV s g:=by unfold aggV;split<;>first|exact h _|exact id
theorem xXz {s:IV}{f g:List IV->Prop}(h:∀x,f x->g x):tupV s f->tupV s g:=by unfold tupV;split<;>first|exact h _|exact id
theorem xQp {s:IV}{f g:Fn->List IV->List IV->Prop}(h:∀x y z,f x y z->g x y z):fnV s f->fnV s g:=by unfold fnV;split<;>first|exact h _ _ _|exact id
theorem xJ1 {s:IV}{f g:Option Nat->Prop}(h:∀x,f x->g x):mapV s f->mapV s g:=by unfold mapV;split<;>first|exact h _|exact id
theorem xJ2 {s:IV}{f g:Value->Prop}(h:∀x,f x->g x):keyV s f->keyV s g:=by unfold keyV;split<;>first|exact h _|exact λk hs=>h _ (k hs)|exact id
theorem xJ4 {s:IV}{f g:Nat->Prop}(h:∀x,f x->g x):adrV s f->adrV s g:=by unfold adrV;split<;>first|exact h _|exact id
theorem xGs {s:IObj}{f g:Nat->Nat->Array Nat->Nat->Prop}(h:∀x y z u,f x y z u->g x y z u):itO s f->itO s g:=by unfold itO;split<;>first|exact h _ _ _ _|exact id
theorem xGr {s:IObj}{f g:Array MapEntry->Nat->Prop}(h:∀x y,f x y->g x y):mxO s f->mxO s g:=by unfold mxO;split<;>first|exact h _ _|exact id
theorem xGq {e:Array MapEntry}{n:Array Nat}{p p':Prop}{q q':MapEntry->IV->Prop}{k:Lock p}{l:Lock q}{k':Lock p'}{l':Lock q'}(h:p->p')(h':∀x y,q x y->q' x y):nxR e n p q k l->nxR e n p' q' k' l':=λx=>⟨λy=>h (x.1 y),λa b c d=>h' _ _ (x.2 a b c d)⟩
theorem xJ0 {s:IV}{f g:Value->Prop}(h:∀x,f x->g x):rawV s f->rawV s g:=by unfold rawV;split<;>first|exact h _|exact id
end
section
variable {R R':Rt}(h:∀pr st ds,R pr st ds->R' pr st ds)
include h
set_option maxHeartbeats 1000000 in
theorem yWp {c:Cf}{dst:Option Nat}{op:Op}{ad:Ad}{fr:Fr}{st:ISt}{ds:List Dfd}:vcR c dst op R ad fr st ds->vcR c dst op R' ad fr st ds:=by
 unfold vcR;split
 all_goals try unfold yUp
 all_goals try unfold nilV
 all_goals repeat (first
  | exact h _ _ _|exact id
  | refine yZ0 λ_=>?_|refine xQq ?_|refine xGt ?_|refine xGu ?_|refine xGv λ_=>?_|refine zXa ?_ ?_|refine wK6 ?_ ?_|refine yJ1 ?_ ?_
  | refine xJ3 λ_=>?_|refine xQo λ_=>?_|refine xGp λ_ _=>?_|refine zZ6 λ_ _=>?_|refine zXb λ_=>?_|refine zW7 λ_ _=>?_|refine xQn (λ_ _=>?_) (λ_ _ _=>?_)|refine zW6 (λ_ _=>?_) (λ_ _ _ _=>?_)|refine zW8 ?_ ?_
  | refine zZ7 λ_=>?_|refine xXz λ_=>?_|refine xQp λ_ _ _=>?_|refine xJ1 λ_=>?_|refine xJ0 λ_=>?_|refine xJ2 λ_=>?_|refine xJ4 λ_=>?_|refine xGs λ_ _ _ _=>?_|refine xGr λ_ _=>?_|refine xGq ?_ (λ_ _=>?_)
  | (refine λhh=>callV.mono hh λ_ _=>?_;unfold zXv)
  | unfold yVh|unfold yVs|unfold zVo|unfold yGp|unfold yVz|unfold zQl|unfold xQw|unfold idxV|unfold yKx|unfold arrV|unfold zX9|unfold yUq|unfold yVy|unfold zK0|unfold xKi|unfold zKm|unfold lenV|unfold appV|unfold qO|unfold appO|unfold appR|unfold appZ|unfold capV|unfold zKp|unfold xQd|unfold zWp|unfold plR
  | split)
end
def zJg (esc:List Nat)(dst:Option Nat):Op->Bool
 | .move _|.assign _|.pick ..|.build ..=>true
 | .buildSlice ..=>!yK9 esc dst
 | .load ..=>!yK9 esc dst
 | .nilCheck _|.binOp ..|.unOp ..|.convert ..|.makeFunc ..|.slice ..|.fieldAddr ..|.field ..|.indexAddr ..|.index ..|.extract ..=>true
 | .alloc _|.box ..=>match dst with|some d=>!esc.contains d|none=>false
 | .call ⟨.builtin .len,_,_⟩|.call ⟨.builtin .max,_,_⟩=>true
 | .call ⟨.value (.func g),_,_⟩=>esc.contains (g+1000000)
 | _=>false
def zQj:Op->Bool
 | .load ..=>true
 | _=>false
def yKt:Op->Bool
 | .store ..=>true
 | _=>false
def yXq (esc:List Nat)(dst:Option Nat)(op:Op):Bool:=zJg esc dst op || zQj op
def wU9 (l:List Operand):List Nat:=l.filterMap λ| .tmp t=>some t|_=>none
def looks (ops:List Oper)(o:Oper):List Nat:=wU9 o.op.operands.toList++(match o.guard with|some (j,_)=>(yKd ops j).toList|none=>[])
def xV2:Op->Bool
 | .fieldAddr ..=>true
 | .indexAddr ..=>true
 | _=>false
def wZ6 (ops:List Oper)(e:Nat):Bool:=ops.all λo=>!xV2 o.op || (!(looks ops o).contains e&&!(o.dst == some e))
def stOk (ops:List Oper)(x y:Oper):Bool :=
 match x.op with
 | .store _ (.tmp e) _=>wZ6 ops e&&!(looks ops y).contains e
 | _=>false
def wQ1 (esc:List Nat)(ops:List Oper)(x y:Oper):Bool :=
 (yXq esc x.dst x.op || yXq esc y.dst y.op)&&(!(zQj x.op&&yKt y.op) || stOk ops y x)&&(!(zQj y.op&&yKt x.op) || stOk ops x y) &&
 (match x.dst with|some d=>!(looks ops y).contains d&&!(y.dst == some d)|none=>true)&&(match y.dst with|some d=>!(looks ops x).contains d|none=>true)
def Lin (F:Rt->ISt->List Dfd->Prop):Prop:=(∃pr,∀R st ds,F R st ds↔R pr st ds)\/(∀R st ds,¬ F R st ds)
theorem yZt (pr:PR):Lin (λR st ds=>R pr st ds):=.inl ⟨pr,λ_ _ _=>Iff.rfl⟩
theorem yZb:Lin (λ_ _ _=>False):=.inr λ_ _ _ h=>h
theorem yQa {α:Type}{o:Option α}{F:α->Rt->ISt->List Dfd->Prop}(h:∀x,Lin (F x)):Lin (λR st ds=>yQ5 o λx=>F x R st ds):=by
 cases o with
 | none=>exact yZb
 | some x=>exact h x
theorem yVj {c:Prop}{F:Rt->ISt->List Dfd->Prop}(h:Lin F):Lin (λR st ds=>chk c (F R st ds)):=by
 by_cases hc:c
 ·rcases h with⟨pr,h⟩|h
  ·exact .inl ⟨pr,λR st ds=>⟨λx=>(h R st ds).1 x.2,λx=>⟨hc,(h R st ds).2 x⟩⟩⟩
  ·exact .inr λR st ds x=>h R st ds x.2
 ·exact .inr λR st ds x=>hc x.1
theorem yJ0 {c:Prop} [Decidable c]{F G:Rt->ISt->List Dfd->Prop}(h:Lin F)(h':Lin G):Lin (λR st ds=>if c then F R st ds else G R st ds):=by
 by_cases hc:c
 ·simpa only[if_pos hc] using h
 ·simpa only[if_neg hc] using h'
theorem xGa {c:Prop}{F:Rt->ISt->List Dfd->Prop}(hc:c)(h:Lin F):Lin (λR st ds=>c->F R st ds):=by
 rcases h with⟨pr,h⟩|h
 ·exact .inl ⟨pr,λR st ds=>⟨λx=>(h R st ds).1 (x hc),λx _=>(h R st ds).2 x⟩⟩
 ·exact .inr λR st ds x=>h R st ds (x hc)
theorem xGc {b:Bool}{F G:Rt->ISt->List Dfd->Prop}(h:Lin F)(h':Lin G):Lin (λR st ds=>yWi b (F R st ds) (G R st ds) .mk .mk):=by
 cases b
 ·simpa only[xQz] using h'
 ·simpa only[xVf] using h
theorem xXl {s:SV}{F:List IV->Rt->ISt->List Dfd->Prop}(h:∀x,Lin (F x)):Lin (λR st ds=>boxV s λx=>F x R st ds):=by
 cases s<;>first|exact h _|exact yZb
theorem zZ3 {s:IV}{F:IntKind->Int->Rt->ISt->List Dfd->Prop}(h:∀x y,Lin (F x y)):Lin (λR st ds=>intV s λx y=>F x y R st ds):=by
 cases s with
 | raw v=>cases v<;>first|exact h _ _|exact yZb
 | _=>exact yZb
theorem xGd {s:IV}{F:Bool->Rt->ISt->List Dfd->Prop}(h:∀x,Lin (F x)):Lin (λR st ds=>zQt s λx=>F x R st ds):=by
 cases s with
 | raw v=>cases v<;>first|exact h _|exact yZb
 | _=>exact yZb
theorem xG8 {s:IV}{F:Tag->List IV->Rt->ISt->List Dfd->Prop}{G:Nat->Nat->Nat->Rt->ISt->List Dfd->Prop}(h:∀x y,Lin (F x y))(h':∀x y z,Lin (G x y z)):Lin (λR st ds=>slX s (λx y=>F x y R st ds) (λx y z=>G x y z R st ds)):=by
 by_cases hs:∃t xs,s=.sl t xs
 ·obtain⟨t,xs,rfl⟩:=hs;exact h _ _
 ·by_cases hr:∃b off n cap,s=.raw (.slice (some ⟨b,off,none⟩) n cap)
  ·obtain⟨b,off,n,cap,rfl⟩:=hr;exact h' _ _ _
  ·refine .inr λR st ds hh=>?_;simp only at hh;unfold slX at hh;split at hh
   ·exact hs ⟨_,_,rfl⟩
   ·exact hr ⟨_,_,_,_,rfl⟩
   ·exact hh
theorem wW4 {s:IV}{F:Tag->List IV->Rt->ISt->List Dfd->Prop}{G:Nat->Nat->Nat->Nat->Rt->ISt->List Dfd->Prop}(h:∀x y,Lin (F x y))(h':∀x y z u,Lin (G x y z u)):Lin (λR st ds=>slY s (λx y=>F x y R st ds) (λx y z u=>G x y z u R st ds)):=by
 by_cases hs:∃t xs,s=.sl t xs
 ·obtain⟨t,xs,rfl⟩:=hs;exact h _ _
 ·by_cases hr:∃b off n cap,s=.raw (.slice (some ⟨b,off,none⟩) n cap)
  ·obtain⟨b,off,n,cap,rfl⟩:=hr;exact h' _ _ _ _
  ·refine .inr λR st ds hh=>?_;simp only at hh;unfold slY at hh;split at hh
   ·exact hs ⟨_,_,rfl⟩
   ·exact hr ⟨_,_,_,_,rfl⟩
   ·exact hh
theorem zZ4 {s:IV}{F:List IV->Rt->ISt->List Dfd->Prop}(h:∀x,Lin (F x)):Lin (λR st ds=>aggV s λx=>F x R st ds):=by
 cases s<;>first|exact h _|exact yZb
theorem wZu {s:IV}{F:List IV->Rt->ISt->List Dfd->Prop}(h:∀x,Lin (F x)):Lin (λR st ds=>tupV s λx=>F x R st ds):=by
 cases s<;>first|exact h _|exact yZb
theorem zVv {s:IV}{F:Value->Rt->ISt->List Dfd->Prop}(h:∀x,Lin (F x)):Lin (λR st ds=>rawV s λx=>F x R st ds):=by
 cases s<;>first|exact h _|exact yZb
theorem xG9 {ag:Bool}{n:Nat}{p:Pl}{fr:Fr}:Lin (λR st ds=>yGp true ag n p fr R st ds):=by
 cases p with
 | box t off=>exact xXl λ_=>yQa λ_=>yZt _
 | ptr b off=>exact yZb
 | cp y=>exact yJ0 (yZt _) yZb
theorem xKu {f:Nat×Bool×Nat}{p:Pl}:Lin (λR st ds=>zQl f p R st ds):=by
 cases p with
 | box t off=>exact yZt _
 | ptr b off=>exact yZt _
 | cp y=>exact zZ4 λ_=>yQa λ_=>yJ0 (yZt _) yZb
theorem xGb {len n j:Nat}{ag:Bool}{p:Pl}:Lin (λR st ds=>xQw len ag n j p R st ds):=by
 unfold xQw;refine yJ0 ?_ yZb;cases p with
 | box t off=>exact yZt _
 | ptr b off=>exact yZt _
 | cp y=>exact zZ4 λ_=>yQa λ_=>yJ0 (yZt _) yZb
theorem wZx {k:LenK}{s:Option (TypeId×Bool×Nat×Nat)}{xs:Option IV}{p:Option Pl}{e:Option (Nat×Bool×Nat)}{j:Int}:Lin (λR st ds=>idxV k s xs p e j R st ds):=by
 cases k with
 | sl=>exact yQa λ_=>yQa λ_=>xG8 (λ_ _=>yJ0 (yJ0 (yQa λ_=>yZt _) yZb) yZb) (λ_ _ _=>yJ0 (yZt _) yZb)
 | arr n=>exact yQa λ_=>yQa λ_=>yJ0 xGb yZb
 | _=>exact yZb
theorem xKt {k:LenK}{e:Option (Nat×Bool×Nat)}{x:IV}{j:Int}:Lin (λR st ds=>zX9 k e x j R st ds):=by
 cases k with
 | str =>
  refine zVv λv=>?_;cases v with
  | string s=>exact yQa λ_=>yZt _
  | _=>exact yZb
 | arr n=>exact zZ4 λ_=>yQa λ_=>yJ0 (yQa λ_=>yZt _) yZb
 | _=>exact yZb
theorem wZw {k:LenK}{x:IV}:Lin (λR st ds=>lenV true k x R st ds):=by
 cases k with
 | str =>
  refine zVv λv=>?_;cases v with
  | string s=>exact xGa (λh=>by cases h) (yZt _)
  | _=>exact yZb
 | sl=>exact xG8 (λ_ _=>xGa (λh=>by cases h) (yZt _)) (λ_ _ _=>yZt _)
 | map=>exact yZb
 | arr n=>exact yZt _
theorem wZy {ar:Option (Nat×Bool×Nat)}{x:IV}{lo hi mx:Option Int}{len:Nat}:Lin (λR st ds=>arrV ar x lo hi mx len R st ds):=by
 cases x with
 | cptr y =>
  cases y with
  | agg cs =>
   cases lo with
   | none =>
    cases mx with
    | none=>exact yQa λ_=>yVj (yQa λ_=>yZt _)
    | some m=>exact yZb
   | some l=>exact yZb
  | _=>exact yZb
 | _=>exact yZb
theorem xKs {k:LenK}{s:Option (TypeId×Bool×Nat×Nat)}{ar:Option (Nat×Bool×Nat)}{x:IV}{lo hi mx:Option Int}:Lin (λR st ds=>yKx k s ar x lo hi mx R st ds):=by
 cases k with
 | str =>
  refine zVv λv=>?_;cases v with
  | string s =>
   cases mx with
   | none=>exact yQa λ_=>yZt _
   | some m=>exact yZb
  | _=>exact yZb
 | sl =>
  refine yQa λ_=>wW4 (λ_ _=>yVj ?_) (λ_ _ _ _=>?_)
  ·cases hi with
   | none =>
    cases mx with
    | none=>exact yQa λ_=>yVj (yZt _)
    | some m=>exact yZb
   | some h=>exact yQa λ_=>yVj (yZt _)
  ·cases mx with
   | none=>exact yVj (yQa λ_=>yZt _)
   | some m=>exact yZb
 | arr n=>exact wZy
 | map=>exact yZb
theorem zYv {o:Option IV}{p:Option Pl}:Lin (λR st ds=>yUp true o p R st ds):=by
 cases o with
 | some x=>exact yZt _
 | none=>exact yZb
theorem wZv {o:Option IV}{p:Option Pl}:Lin (λR st ds=>nilV o p true R st ds):=by
 cases o with
 | none=>exact yZb
 | some x =>
  cases x with
  | fn f a b=>exact yJ0 (yZt _) yZb
  | cptr y=>exact yZt _
  | raw v =>
   cases v with
   | pointer o =>
    cases o with
    | none=>exact yZb
    | some q=>exact yZt _
   | _=>exact yZb
  | _=>exact yZb
theorem zKd {esc:List Nat}{d:Nat}(h:esc.contains d=false){cs:List IV}:Lin (λR st ds=>yVs esc (some d) cs R st ds):=by
 have:¬ d∈esc:=by simpa using h
 simp only[yVs,if_neg this];exact yZt _
theorem xQg {frz esc:List Nat}{d:Nat}(h:esc.contains d=false){y:IV}:Lin (λR st ds=>yVh frz esc (some d) y R st ds):=yJ0 (yZt _) (zKd h)
theorem xQf {c:Cf}(hdr:c.dr=true){dst:Option Nat}{op:Op}{ad:Ad}{fr:Fr}(hp:zJg c.esc dst op=true):Lin (λR st ds=>vcR c dst op R ad fr st ds):=by
 unfold zJg at hp;split at hp
 case h_1=>simp only[vcR,hdr];exact zYv
 case h_2=>simp only[vcR,hdr];exact zYv
 case h_3=>exact yQa λ_=>xGd λ_=>xGc (yQa λ_=>yZt _) (yQa λ_=>yZt _)
 case h_4=>exact yVj (yQa λ_=>yQa λ_=>yZt _)
 case h_5 =>
  have hl:yK9 c.esc dst=false:=by simpa using hp
  simp only[vcR,zVo,hl,bFt,if_false];exact yQa λ_=>yVj (yQa λ_=>yVj (yZt _))
 case h_6 =>
  have hl:ldr c.dr c.esc dst=true:=by unfold ldr;rw[hdr,hp];rfl
  simp only[vcR,hl];exact yQa λ_=>yQa λ_=>xG9
 case h_7=>simp only[vcR,hdr];exact wZv
 case h_8=>exact yQa λ_=>yQa λ_=>yQa λ_=>yZt _
 case h_9=>exact yQa λ_=>yQa λ_=>yZt _
 case h_10=>exact yQa λ_=>yQa λ_=>yZt _
 case h_11=>exact yQa λ_=>yQa λ_=>yZt _
 case h_12=>exact yQa λ_=>yQa λ_=>yQa λ_=>yQa λ_=>yQa λ_=>xKs
 case h_13=>exact yQa λ_=>yQa λ_=>xKu
 case h_14=>exact yQa λ_=>yQa λ_=>zZ4 λ_=>yQa λ_=>yZt _
 case h_15=>exact yQa λ_=>zZ3 λ_ _=>yQa λ_=>wZx
 case h_16=>exact yQa λ_=>zZ3 λ_ _=>yQa λ_=>yQa λ_=>xKt
 case h_17=>exact yQa λ_=>wZu λ_=>yQa λ_=>yZt _
 case h_18 =>
  split at hp
  ·exact yQa λ_=>zKd (by simpa using hp)
  ·cases hp
 case h_19 =>
  split at hp
  ·exact yQa λ_=>yQa λ_=>yVj (xQg (by simpa using hp))
  ·cases hp
 case h_20 =>
  rename_i args ts;obtain⟨args⟩:=args;obtain⟨ts⟩:=ts
  match args,ts with
  | [x],[T]=>simp only[vcR,hdr];exact yQa λ_=>yQa λ_=>wZw
  | [],_=>exact yZb
  | _::_::_,_=>exact yZb
  | [_],[]=>exact yZb
  | [_],_::_::_=>exact yZb
 case h_21 =>
  rename_i args ts;obtain⟨args⟩:=args
  match args with
  | [x,y]=>exact yQa λ_=>yQa λ_=>zZ3 λ_ _=>zZ3 λ_ _=>yJ0 (yZt _) yZb
  | []=>exact yZb
  | [_]=>exact yZb
  | _::_::_::_=>exact yZb
 case h_22 =>
  rename_i g _ _;have hm:g+1000000∈c.esc:=by simpa using hp
  simp only[vcR,zWp,if_pos hm];exact yQa λ_=>yQa λ_=>yZt _
 case h_23=>cases hp
structure SameAt (c:Cf)(op:Op)(ad ad':Ad)(fr fr':Fr):Prop where
 v:∀x∈op.operands,evV c.gl fr x=evV c.gl fr' x
 a:∀x∈op.operands,evA c.gl ad fr x=evA c.gl ad' fr' x
 box:(zQj op || yKt op)=true->∀x∈op.operands,∀t off,evA c.gl ad fr x=some (.box t off)->fr t=fr' t
theorem yY4 {gl:Nat->Option IV}{fr fr':Fr}:∀ {l:List Operand},(∀x∈l,evV gl fr x=evV gl fr' x)->evL gl fr l=evL gl fr' l
 | [],_=>rfl
 | x::l,h=>by rw[xJf,xJf,h x (by simp),yY4 λy hy=>h y (by simp[hy])]
theorem yUx {gl:Nat->Option IV}{fr fr':Fr}{o:Option Operand}(h:∀x,o=some x->evV gl fr x=evV gl fr' x):yVl gl fr o=yVl gl fr' o:=by
 cases o with
 | none=>rfl
 | some x=>simp only[xV3,h x rfl]
theorem zXw {P:Program}{gl:Nat->Option IV}{fr fr':Fr}{T:TypeId}:∀ {l:List (Nat×Operand)} {cs:List IV},(∀x∈l.map (·.2),evV gl fr x=evV gl fr' x)->yV9 P gl fr T cs l=yV9 P gl fr' T cs l
 | [],cs,_=>rfl
 | (i,x)::l,cs,h=>by
  rw[yG3,yG3,h x (by simp)];cases fldI P T i with
  | none=>rfl
  | some f =>
   cases evV gl fr' x with
   | none=>rfl
   | some y=>simp only[zKs];split<;>first|exact zXw λy hy=>h y (by simp[hy])|rfl
theorem xKr {dr ag:Bool}{n:Nat}{p:Pl}{fr fr':Fr}{R:Rt}{st:ISt}{ds:List Dfd}(h:∀t off,p=.box t off->fr t=fr' t):yGp dr ag n p fr R st ds=yGp dr ag n p fr' R st ds:=by
 cases p with
 | box t off=>simp only[yGp,h t off rfl]
 | _=>rfl
theorem zUh {y:List IV}{p:Pl}{fr fr':Fr}{R:Rt}{st:ISt}{ds:List Dfd}(h:∀t off,p=.box t off->fr t=fr' t):yVz y p fr R st ds=yVz y p fr' R st ds:=by
 cases p with
 | box t off=>simp only[yVz,h t off rfl]
 | _=>rfl
theorem xW7 {c:Cf}{dst:Option Nat}{op:Op}{R:Rt}{ad ad':Ad}{fr fr':Fr}{st:ISt}{ds:List Dfd}(h:SameAt c op ad ad' fr fr'):vcR c dst op R ad fr st ds=vcR c dst op R ad' fr' st ds:=by
 obtain⟨hv,ha,hb⟩:=h;cases op with
 | move x=>simp only[vcR,hv x (by simp[Op.operands]),ha x (by simp[Op.operands])]
 | assign x=>simp only[vcR,hv x (by simp[Op.operands]),ha x (by simp[Op.operands])]
 | pick x y z=>simp only[vcR];rw[hv x (by simp[Op.operands]),hv y (by simp[Op.operands]),hv z (by simp[Op.operands])]
 | alloc T=>rfl
 | box T x=>simp only[vcR,hv x (by simp[Op.operands])]
 | build T parts=>simp only[vcR,λcs=>zXw (P:=c.P) (T:=T) (cs:=cs) (l:=parts.toList) (λx hx=>hv x (by simpa[Op.operands] using hx))]
 | buildSlice T n parts=>simp only[vcR,yY4 (l:=parts.toList.map (·.2)) (λx hx=>hv x (by simpa[Op.operands] using hx))]
 | load T x =>
  have hbx:=hb rfl x (by simp[Op.operands]);simp only[vcR,<- ha x (by simp[Op.operands])];cases hp:evA c.gl ad fr x with
  | none=>rfl
  | some p=>simp only[yJd,λ(i:Bool×Nat)=>xKr (dr:=ldr c.dr c.esc dst) (ag:=i.1) (n:=i.2) (p:=p) (fr:=fr) (fr':=fr') (R:=R) (st:=st) (ds:=ds) (λt off hq=>hbx t off (by rw[hp,hq]))]
 | store T x y =>
  have hbx:=hb rfl x (by simp[Op.operands]);simp only[vcR,<- ha x (by simp[Op.operands]),<- hv y (by simp[Op.operands])];cases hp:evA c.gl ad fr x with
  | none=>rfl
  | some p=>simp only[yJd,λ(i:List IV)=>zUh (y:=i) (p:=p) (fr:=fr) (fr':=fr') (R:=R) (st:=st) (ds:=ds) (λt off hq=>hbx t off (by rw[hp,hq]))]
 | nilCheck x=>simp only[vcR,hv x (by simp[Op.operands]),ha x (by simp[Op.operands])]
 | binOp o T x y T'=>simp only[vcR,hv x (by simp[Op.operands]),hv y (by simp[Op.operands])]
 | unOp o T x=>simp only[vcR,hv x (by simp[Op.operands])]
 | convert T T' x=>simp only[vcR,hv x (by simp[Op.operands])]
 | makeFunc f a b=>simp only[vcR,yY4 (l:=a.toList) (λx hx=>hv x (by simp[Op.operands];exact .inl (by simpa using hx))),yY4 (l:=b.toList) (λx hx=>hv x (by simp[Op.operands];exact .inr (by simpa using hx)))]
 | slice T x lo hi mx=>simp only[vcR,hv x (by simp[Op.operands]),yUx (o:=lo) (λy hy=>hv y (by simp[Op.operands,hy])),yUx (o:=hi) (λy hy=>hv y (by simp[Op.operands,hy])),
   yUx (o:=mx) (λy hy=>hv y (by simp[Op.operands,hy]))]
 | fieldAddr T x i=>simp only[vcR,ha x (by simp[Op.operands])]
 | field T x i=>simp only[vcR,hv x (by simp[Op.operands])]
 | indexAddr T x y=>simp only[vcR,hv x (by simp[Op.operands]),ha x (by simp[Op.operands]),hv y (by simp[Op.operands])]
 | index T x y=>simp only[vcR,hv x (by simp[Op.operands]),hv y (by simp[Op.operands])]
 | lookup T x y ok=>simp only[vcR,hv x (by simp[Op.operands]),hv y (by simp[Op.operands])]
 | mapUpdate T x y z=>simp only[vcR,hv x (by simp[Op.operands]),hv y (by simp[Op.operands]),hv z (by simp[Op.operands])]
 | extract x i=>simp only[vcR,hv x (by simp[Op.operands])]
 | call cc =>
  obtain⟨f,args,ts⟩:=cc;cases f with
  | value f=>simp only[vcR,hv f (by simp[Op.operands,Call.operands]),yY4 (l:=args.toList) (λx hx=>hv x (by simp[Op.operands,Call.operands];exact .inr (by simpa using hx)))]
  | invoke r nm=>rfl
  | builtin b =>
   obtain⟨args⟩:=args;obtain⟨ts⟩:=ts;have hv':∀x∈args,evV c.gl fr x=evV c.gl fr' x:=λx hx=>hv x (by simp[Op.operands,Call.operands];exact hx);cases b with
   | len =>
    match args,ts,hv' with
    | [x],[T],hv'=>simp only[vcR,hv' x (by simp)]
    | [],_,_=>rfl
    | _::_::_,_,_=>rfl
    | [_],[],_=>rfl
    | [_],_::_::_,_=>rfl
   | append =>
    match args,ts,hv' with
    | [x,y],[T,T'],hv'=>simp only[vcR,hv' x (by simp),hv' y (by simp)]
    | [],_,_=>rfl
    | [_],_,_=>rfl
    | _::_::_::_,_,_=>rfl
    | [_,_],[],_=>rfl
    | [_,_],[_],_=>rfl
    | [_,_],_::_::_::_,_=>rfl
   | cap =>
    match args,ts,hv' with
    | [x],[T],hv'=>simp only[vcR,hv' x (by simp)]
    | [],_,_=>rfl
    | _::_::_,_,_=>rfl
    | [_],[],_=>rfl
    | [_],_::_::_,_=>rfl
   | clear =>
    match args,ts,hv' with
    | [x],[T],hv'=>simp only[vcR,hv' x (by simp)]
    | [],_,_=>rfl
    | _::_::_,_,_=>rfl
    | [_],[],_=>rfl
    | [_],_::_::_,_=>rfl
   | max =>
    match args,hv' with
    | [x,y],hv'=>simp only[vcR,hv' x (by simp),hv' y (by simp)]
    | [],_=>rfl
    | [_],_=>rfl
    | _::_::_::_,_=>rfl
   | min =>
    match args,hv' with
    | [x,y],hv'=>simp only[vcR,hv' x (by simp),hv' y (by simp)]
    | [],_=>rfl
    | [_],_=>rfl
    | _::_::_::_,_=>rfl
   | _=>rfl
 | defer cc =>
  obtain⟨f,args,ts⟩:=cc;cases f with
  | value f=>simp only[vcR,hv f (by simp[Op.operands,Call.operands]),yY4 (l:=args.toList) (λx hx=>hv x (by simp[Op.operands,Call.operands];exact .inr (by simpa using hx)))]
  | _=>rfl
 | makeMap T r=>cases r<;>rfl
 | insert T x y z=>simp only[vcR,hv x (by simp[Op.operands]),hv y (by simp[Op.operands]),hv z (by simp[Op.operands])]
 | makeSlice T x y=>simp only[vcR,hv x (by simp[Op.operands]),hv y (by simp[Op.operands])]
 | range T x=>simp only[vcR,hv x (by simp[Op.operands])]
 | next x b=>cases b<;>simp only[vcR,hv x (by simp[Op.operands])]
 | entry x=>simp only[vcR,hv x (by simp[Op.operands])]
 | _=>rfl
def yZs (c:Cf)(ops:List Oper)(o:Oper)(R:Rt)(ad:Ad)(fr:Fr)(st:ISt)(ds:List Dfd):Prop :=
 match o.guard with
 | none=>vcR c o.dst o.op R ad fr st ds
 | some (j,want)=>match yKd ops j with
  | some d=>match fr d with
   | .iv (.raw (.bool b))=>if b=want then vcR c o.dst o.op R ad fr st ds else R (.val (.raw undef)) st ds
   | .iv (.raw (.tuple _))=>R (.val (.raw undef)) st ds
   | _=>False
  | none=>False
def yVu (c:Cf)(ops:List Oper)(o:Oper)(K:Kt):Kt:=λad fr st ds=>yZs c ops o (finK o.dst K ad fr) ad fr st ds
def vcK (c:Cf)(ops:List Oper):List Oper->Kt->Kt
 | [],K=>K
 | o::l,K=>yVu c ops o (vcK c ops l K)
theorem zJp {c:Cf}{ops l l':List Oper}{K:Kt}:vcK c ops (l++l') K=vcK c ops l (vcK c ops l' K):=by
 induction l with
 | nil=>rfl
 | cons o l ih=>rw[List.cons_append,vcK,vcK,ih]
theorem zY0 {c:Cf}{ops:List Oper}{Q:Fr->ISt->List Dfd->Prop}:∀ {l:List Oper} {ad:Ad} {fr:Fr} {st:ISt} {ds:List Dfd},yXp c ops l Q ad fr st ds->vcK c ops l (λ_ fr st ds=>Q fr st ds) ad fr st ds
 | [],_,_,_,_,h=>h
 | o::l,ad,fr,st,ds,h=>by
  have hk:∀ad fr st ds,yXp c ops l Q ad fr st ds->vcK c ops l (λ_ fr st ds=>Q fr st ds) ad fr st ds:=λ_ _ _ _=>zY0;have hfin:∀pr st ds,finK o.dst (yXp c ops l Q) ad fr pr st ds->finK o.dst (vcK c ops l (λ_ fr st ds=>Q fr st ds)) ad fr pr st ds:=by
   intro pr st ds;cases pr<;>cases o.dst<;>simp only[finK]<;>first|exact hk _ _ _ _|exact id|(split<;>first|exact id|exact hk _ _ _ _)
  unfold yXp at h;change yZs c ops o (finK o.dst (vcK c ops l (λ_ fr st ds=>Q fr st ds)) ad fr) ad fr st ds;unfold yZs;split at h
  ·rename_i hg;rw[hg];exact yWp hfin h
  ·rename_i j want hg;rw[hg];simp only[yKd];cases hd:(ops[j]?).bind (·.dst) with
   | none=>rw[hd] at h;exact h.elim
   | some d =>
    rw[hd] at h;simp only at h ⊢;cases hs:fr d with
    | box cs=>rw[hs] at h;exact h.elim
    | iv x =>
     cases x with
     | raw v =>
      cases v with
      | bool b =>
       rw[hs,zG7 fr d want b _ _ _ _ hs] at h;simp only;split
       ·exact yWp hfin (h.1 ‹_›)
       ·have hb:b=!want:=by cases b<;>cases want<;>simp_all
        exact hfin _ _ _ (h.2 hb)
      | tuple t =>
       rw[hs] at h;exact hfin _ _ _ h
      | _=>rw[hs] at h;exact h.elim
     | _=>rw[hs] at h;exact h.elim
theorem yKw {c:Cf}{ops:List Oper}{o:Oper}{R R':Rt}(h:∀pr st ds,R pr st ds->R' pr st ds){ad:Ad}{fr:Fr}{st:ISt}{ds:List Dfd}:yZs c ops o R ad fr st ds->yZs c ops o R' ad fr st ds:=by
 unfold yZs;split
 ·exact yWp h
 ·split
  ·split
   ·split
    ·exact yWp h
    ·exact h _ _ _
   ·exact h _ _ _
   ·exact id
  ·exact id
theorem xG7 {c:Cf}(hdr:c.dr=true){ops:List Oper}{o:Oper}{ad:Ad}{fr:Fr}(hp:zJg c.esc o.dst o.op=true):Lin (λR st ds=>yZs c ops o R ad fr st ds):=by
 cases hg:o.guard with
 | none=>simp only[yZs,hg];exact xQf hdr hp
 | some p =>
  obtain⟨j,want⟩:=p;cases hd:yKd ops j with
  | none=>simp only[yZs,hg,hd];exact yZb
  | some d =>
   cases hs:fr d with
   | box cs=>simp only[yZs,hg,hd,hs];exact yZb
   | iv x =>
    cases x with
    | raw v =>
     cases v with
     | bool b=>simp only[yZs,hg,hd,hs];exact yJ0 (xQf hdr hp) (yZt _)
     | tuple t=>simp only[yZs,hg,hd,hs];exact yZt _
     | _=>simp only[yZs,hg,hd,hs];exact yZb
    | _=>simp only[yZs,hg,hd,hs];exact yZb
def Kept (st st':ISt):Prop:=∀b cs,st b=some (.box cs)->st' b=some (.box cs)
theorem Kept.refl (st:ISt):Kept st st:=λ_ _ h=>h
def LinS (st:ISt)(F:Rt->ISt->List Dfd->Prop):Prop:=(∃pr,(∀R ds,F R st ds↔R pr st ds)/\∀st',Kept st st'->∀R ds,R pr st' ds->F R st' ds)\/(∀R ds,¬ F R st ds)
theorem yJm {F:Rt->ISt->List Dfd->Prop}(h:Lin F)(st:ISt):LinS st F:=by
 rcases h with⟨pr,h⟩|h
 ·exact .inl ⟨pr,λR ds=>h R st ds,λst' _ R ds hr=>(h R st' ds).2 hr⟩
 ·exact .inr λR ds=>h R st ds
theorem xGe {c:Cf}{dst:Option Nat}{T:TypeId}{x:Operand}{ad:Ad}{fr:Fr}(st:ISt):LinS st (λR st ds=>vcR c dst (.load T x) R ad fr st ds):=by
 simp only[vcR];cases tyI c.P T with
 | none=>exact yJm yZb st
 | some i =>
  cases evA c.gl ad fr x with
  | none=>exact yJm yZb st
  | some p =>
   simp only[yJd];cases p with
   | box t off=>exact yJm (xXl λ_=>yQa λ_=>yZt _) st
   | cp y=>exact yJm (yJ0 (yZt _) yZb) st
   | ptr b off =>
    simp only[yGp];cases hl:ldr c.dr c.esc dst with
    | true=>simp only[if_true];exact yJm yZb st
    | false =>
     simp only[bFt,if_false];cases hb:st b with
     | none=>exact .inr λR ds h=>by simp only[hb] at h;exact h
     | some o =>
      cases o with
      | box cs =>
       cases hp:yJi i.1 i.2 cs off with
       | none=>exact .inr λR ds h=>by simp only[hb,yJd,obV,hp] at h;exact h
       | some y=>exact .inl ⟨.val y,λR ds=>by simp only[hb,yJd,obV,hp],λst' hk R ds hr=>by simp only[hk b cs hb,yJd,obV,hp];exact hr⟩
      | _=>exact .inr λR ds h=>by simp only[hb,yJd,obV] at h
theorem xXm {c:Cf}(hdr:c.dr=true){dst:Option Nat}{op:Op}{ad:Ad}{fr:Fr}(hp:yXq c.esc dst op=true)(st:ISt):LinS st (λR st ds=>vcR c dst op R ad fr st ds):=by
 unfold yXq at hp;rw[Bool.or_eq_true] at hp;rcases hp with hp|hp
 ·exact yJm (xQf hdr hp) st
 ·cases op<;>first|exact xGe st|cases hp
theorem yUs {c:Cf}(hdr:c.dr=true){ops:List Oper}{o:Oper}{ad:Ad}{fr:Fr}(hp:yXq c.esc o.dst o.op=true)(st:ISt):LinS st (λR st ds=>yZs c ops o R ad fr st ds):=by
 cases hg:o.guard with
 | none=>simp only[yZs,hg];exact xXm hdr hp st
 | some p =>
  obtain⟨j,want⟩:=p;cases hd:yKd ops j with
  | none=>simp only[yZs,hg,hd];exact yJm yZb st
  | some d =>
   cases hs:fr d with
   | box cs=>simp only[yZs,hg,hd,hs];exact yJm yZb st
   | iv x =>
    cases x with
    | raw v =>
     cases v with
     | bool b =>
      simp only[yZs,hg,hd,hs];by_cases hb:b=want
      ·simp only[if_pos hb];exact xXm hdr hp st
      ·simp only[if_neg hb];exact yJm (yZt _) st
     | tuple t=>simp only[yZs,hg,hd,hs];exact yJm (yZt _) st
     | _=>simp only[yZs,hg,hd,hs];exact yJm yZb st
    | _=>simp only[yZs,hg,hd,hs];exact yJm yZb st
def appQ (esc:List Nat)(dst:Option Nat):Op->Bool
 | .call ⟨.builtin .append,⟨[_,_]⟩,⟨[_,_]⟩⟩=>zZv esc dst
 | _=>false
theorem Kept.new {st:ISt}{g:Nat}(hg:st g=none)(o:Option IObj):Kept st (st.put g o):=λb cs hb=>by
 rw[ISt.put_apply];split
 ·rename_i h;subst h;rw[hg] at hb;cases hb
 ·exact hb
theorem Kept.front {st:ISt}{g₀ g n s:Nat}(h0:st g₀=some (.front n s))(hg:g=g₀\/st g=none)(o:Option IObj):Kept st ((st.put g₀ none).put g o):=λb cs hb=>by
 have h1:b≠g₀:=by rintro rfl;rw[h0] at hb;cases hb
 have h2:b≠g:=by
  rintro rfl;rcases hg with rfl|hg
  ·exact h1 rfl
  ·rw[hg] at hb;cases hb
 rw[ISt.put_apply,if_neg h2,ISt.put_apply,if_neg h1];exact hb
theorem wQ0 {esc:List Nat}{dst:Option Nat}{e:TypeId×Bool×Nat×Nat}{tg:Tag}{xs ys:List IV}{R:Rt}{st:ISt}{ds:List Dfd}(h:appV esc dst e tg xs ys R st ds) :
  appV esc dst e tg xs ys (λpr st' ds=>R pr st' ds/\Kept st st') st ds:=by
 obtain⟨h1,h2,h3⟩:=h;refine⟨h1,h2,?_⟩;cases hc:tg.cap with
 | none =>
  rw[hc] at h3;cases ys with
  | nil=>exact⟨h3,Kept.refl _⟩
  | cons y ys=>exact h3.elim
 | nil =>
  rw[hc] at h3;cases ys with
  | nil=>exact⟨h3,Kept.refl _⟩
  | cons y ys =>
   by_cases he:yK9 esc dst=true
   ·simp only[if_pos he] at h3 ⊢;exact λg cap hg=>⟨h3 g cap hg,Kept.new hg.1 _⟩
   ·simp only[if_neg he] at h3 ⊢;exact λg hg=>⟨h3 g hg,Kept.new hg _⟩
 | full =>
  rw[hc] at h3;obtain⟨h4,h3⟩:=h3;refine⟨h4,?_⟩;cases ys with
  | nil=>exact⟨h3,Kept.refl _⟩
  | cons y ys=>exact λg hg=>⟨h3 g hg,Kept.new hg _⟩
 | app g₀ =>
  rw[hc] at h3;obtain⟨h4,h5,h3⟩:=h3;exact⟨h4,h5,λg hg=>⟨h3 g hg,Kept.front h5 hg _⟩⟩
theorem xJm {c:Cf}{dst:Option Nat}{op:Op}{R:Rt}{ad:Ad}{fr:Fr}{st:ISt}{ds:List Dfd}(hq:appQ c.esc dst op=true)(h:vcR c dst op R ad fr st ds) :
  vcR c dst op (λpr st' ds=>R pr st' ds/\Kept st st') ad fr st ds:=by
 unfold appQ at hq;split at hq
 ·simp only[vcR] at h ⊢;refine yZ0 (λe=>?_) h;refine zW8 ?_ ?_
  ·refine yZ0 λs=>zW6 (λtg xs=>yZ0 λy=>zW7 λ_ ys h=>wQ0 h) λb off n cap=>yZ0 λy=>zW6 (λ_ ys h=>?_) (λ_ _ _ _ h=>?_)
   all_goals (unfold qO at h;rw[if_pos hq] at h;exact h.elim)
  ·refine yZ0 λs=>zW7 λtg _=>yZ0 λy=>zZ6 λ_ m h=>?_;obtain⟨h1,h2⟩:=h;exact⟨h1,λg cap hg=>⟨h2 g cap hg,Kept.new hg.1 _⟩⟩
 ·cases hq
theorem xVl {c:Cf}{ops:List Oper}{o:Oper}{R:Rt}{ad:Ad}{fr:Fr}{st:ISt}{ds:List Dfd}(hq:appQ c.esc o.dst o.op=true)(h:yZs c ops o R ad fr st ds) :
  yZs c ops o (λpr st' ds=>R pr st' ds/\Kept st st') ad fr st ds:=by
 unfold yZs at h ⊢;split at h
 ·exact xJm hq h
 ·split at h
  ·split at h
   ·split at h
    ·rename_i hb;rw[if_pos hb];exact xJm hq h
    ·rename_i hb;rw[if_neg hb];exact⟨h,Kept.refl _⟩
   ·exact⟨h,Kept.refl _⟩
   ·exact h.elim
  ·exact h.elim
def yJl (ops:List Oper)(o:Oper)(fr fr':Fr):Prop:=∀j want d,o.guard=some (j,want)->yKd ops j=some d->fr d=fr' d\/(∃cs cs',fr d=.box cs/\fr' d=.box cs')
theorem yJa {c:Cf}{ops:List Oper}{o:Oper}{R:Rt}{ad ad':Ad}{fr fr':Fr}{st:ISt}{ds:List Dfd}(h:SameAt c o.op ad ad' fr fr')(hg:yJl ops o fr fr'):yZs c ops o R ad fr st ds=yZs c ops o R ad' fr' st ds:=by
 unfold yZs;rw[xW7 h];cases hgo:o.guard with
 | none=>rfl
 | some p =>
  obtain⟨j,want⟩:=p;cases hd:yKd ops j with
  | none=>simp only[hd]
  | some d =>
   simp only[hd];rcases hg j want d hgo hd with he|⟨cs,cs',h1,h2⟩
   ·rw[he]
   ·rw[h1,h2]
structure Fine (c:Cf)(op:Op)(ad:Ad)(fr:Fr)(pr:PR):Prop where
 isA:∀t off,pr=.adr t off->c.dr=true->xV2 op=true
 adr:∀t off,pr=.adr t off->∃x∈op.operands,∃off',evA c.gl ad fr x=some (.box t off')
 sto:∀t cs,pr=.sto t cs->yKt op=true/\(∃cs0,fr t=.box cs0)/\∃x∈op.operands,∃off',evA c.gl ad fr x=some (.box t off')
 stoA:∀t cs,pr=.sto t cs->∀T a v,op=.store T a v->∃off',evA c.gl ad fr a=some (.box t off')
theorem yXc {c:Cf}{op:Op}{ad:Ad}{fr:Fr}{x:IV}:Fine c op ad fr (.val x):=⟨(λ_ _ h=>by cases h),(λ_ _ h=>by cases h),(λ_ _ h=>by cases h),(λ_ _ h=>by cases h)⟩
theorem wXg {c:Cf}{op:Op}{ad:Ad}{fr:Fr}{x:List IV}:Fine c op ad fr (.box x):=⟨(λ_ _ h=>by cases h),(λ_ _ h=>by cases h),(λ_ _ h=>by cases h),(λ_ _ h=>by cases h)⟩
theorem xJd {c:Cf}{op:Op}{ad:Ad}{fr:Fr}:Fine c op ad fr .nop:=⟨(λ_ _ h=>by cases h),(λ_ _ h=>by cases h),(λ_ _ h=>by cases h),(λ_ _ h=>by cases h)⟩
theorem zWk {c:Cf}{op:Op}{R:Rt}{ad:Ad}{fr:Fr}{st:ISt}{ds:List Dfd}{x:Operand}{p:Pl}(hdr:¬ c.dr=true)(hx:x∈op.operands)(hp:evA c.gl ad fr x=some p):plR p R st ds->plR p (λpr st ds=>R pr st ds/\Fine c op ad fr pr) st ds:=by
 cases p with
 | box t off=>exact λh=>⟨h,⟨(λ_ _ _ h0=>(hdr h0).elim),λt' off' he=>by cases he;exact⟨x,hx,off,hp⟩,(λ_ _ h=>by cases h),(λ_ _ h=>by cases h)⟩⟩
 | ptr b off=>exact λh=>⟨h,yXc⟩
 | cp y=>exact λh=>⟨h,yXc⟩
theorem zKj {c:Cf}{op:Op}{R:Rt}{ad:Ad}{fr:Fr}{st:ISt}{ds:List Dfd}{x:Operand}(hx:x∈op.operands)(o:Option IV) :
  yUp c.dr o (evA c.gl ad fr x) R st ds->yUp c.dr o (evA c.gl ad fr x) (λpr st ds=>R pr st ds/\Fine c op ad fr pr) st ds:=by
 unfold yUp;split
 ·exact λh=>⟨h,yXc⟩
 ·split
  ·exact id
  ·intro h;obtain⟨p,hp,h⟩:=yQ4.1 h;exact yQ4.2 ⟨p,hp,zWk ‹_› hx hp h⟩
set_option maxHeartbeats 1000000 in
theorem xZl {c:Cf}{dst:Option Nat}{op:Op}{R:Rt}{ad:Ad}{fr:Fr}{st:ISt}{ds:List Dfd}:vcR c dst op R ad fr st ds->vcR c dst op (λpr st ds=>R pr st ds/\Fine c op ad fr pr) ad fr st ds:=by
 by_cases h1:∃x,op=.move x\/op=.assign x
 ·obtain⟨x,rfl|rfl⟩:=h1
  ·exact zKj (by simp[Op.operands]) _
  ·exact zKj (by simp[Op.operands]) _
 by_cases h2:∃x,op=.nilCheck x
 ·obtain⟨x,rfl⟩:=h2;simp only[vcR,nilV];split
  ·exact yJ1 (λh=>⟨h,yXc⟩) id
  ·exact λh=>⟨h,yXc⟩
  ·split
   ·exact λh=>⟨h,yXc⟩
   ·intro h;obtain⟨p,hp,h⟩:=yQ4.1 h;exact yQ4.2 ⟨p,hp,zWk ‹_› (by simp[Op.operands]) hp h⟩
  ·split
   ·exact id
   ·intro h;obtain⟨p,hp,h⟩:=yQ4.1 h;exact yQ4.2 ⟨p,hp,zWk ‹_› (by simp[Op.operands]) hp h⟩
 by_cases h3:∃T x i,op=.fieldAddr T x i
 ·obtain⟨T,x,i,rfl⟩:=h3;simp only[vcR];refine yZ0 λf=>λh=>?_;obtain⟨p,hp,h⟩:=yQ4.1 h;refine yQ4.2 ⟨p,hp,?_⟩;cases p with
  | box t off=>exact⟨h,⟨(λ_ _ _ _=>rfl),λt' off' he=>by cases he;exact⟨x,by simp[Op.operands],off,hp⟩,(λ_ _ h=>by cases h),(λ_ _ h=>by cases h)⟩⟩
  | ptr b off=>exact⟨h,yXc⟩
  | cp y=>exact zZ7 (λ_=>yZ0 λ_=>yJ1 (λh=>⟨h,yXc⟩) id) h
 by_cases h4:∃T x y,op=.indexAddr T x y
 ·obtain⟨T,x,y,rfl⟩:=h4;simp only[vcR];refine yZ0 λ_=>zZ6 λ_ j=>yZ0 λk=>?_;cases k with
  | sl=>exact yZ0 λ_=>yZ0 λ_=>xQn (λ_ _=>yJ1 (yJ1 (yZ0 λ_=>λh=>⟨h,yXc⟩) id) id) (λ_ _ _=>yJ1 (λh=>⟨h,yXc⟩) id)
  | arr n =>
   refine yZ0 λ_=>λh=>?_;obtain⟨p,hp,h⟩:=yQ4.1 h;refine yQ4.2 ⟨p,hp,yJ1 (yJ1 ?_ id) id h⟩;cases p with
   | box t off=>exact λh=>⟨h,⟨(λ_ _ _ _=>rfl),λt' off' he=>by cases he;exact⟨x,by simp[Op.operands],off,hp⟩,(λ_ _ h=>by cases h),(λ_ _ h=>by cases h)⟩⟩
   | ptr b off=>exact λh=>⟨h,yXc⟩
   | cp y=>exact zZ7 (λ_=>yZ0 λ_=>yJ1 (λh=>⟨h,yXc⟩) id)
  | str=>exact id
  | map=>exact id
 by_cases h5:∃T x y,op=.store T x y
 ·obtain⟨T,x,y,rfl⟩:=h5;simp only[vcR];refine yZ0 λ_=>yZ0 λ_=>xQq λh=>?_;obtain⟨p,hp,h⟩:=yQ4.1 h;refine yQ4.2 ⟨p,hp,?_⟩;revert h;cases p with
  | box t off =>
   simp only[yVz];cases hf:fr t with
   | box cs=>exact yJ1 (λh=>⟨h,⟨(λ_ _ h=>by cases h),(λ_ _ h=>by cases h),(λt' cs' he=>by cases he;exact⟨rfl,⟨cs,hf⟩,x,by simp[Op.operands],off,hp⟩),λt' cs' he T' a' v' ho=>by cases he;cases ho;exact⟨off,hp⟩⟩⟩) id
   | iv x=>exact id
  | ptr b off=>exact yZ0 λ_=>xQo λ_=>yJ1 (λh=>⟨h,xJd⟩) id
  | cp y=>exact id
 have hv:∀x st ds,R (.val x) st ds->R (.val x) st ds/\Fine c op ad fr (.val x):=λx st ds h=>⟨h,yXc⟩
 have hb:∀x st ds,R (.box x) st ds->R (.box x) st ds/\Fine c op ad fr (.box x):=λx st ds h=>⟨h,wXg⟩
 have hn:∀st ds,R .nop st ds->R .nop st ds/\Fine c op ad fr .nop:=λst ds h=>⟨h,xJd⟩
 generalize Fine c op ad fr=F at hv hb hn ⊢;unfold vcR;split
 all_goals first
  | exact absurd ⟨_,.inl rfl⟩ h1|exact absurd ⟨_,.inr rfl⟩ h1|exact absurd ⟨_,rfl⟩ h2|exact absurd ⟨_,_,_,rfl⟩ h3|exact absurd ⟨_,_,_,rfl⟩ h4|exact absurd ⟨_,_,_,rfl⟩ h5
  | repeat (first
   | exact hv _ _ _|exact hb _ _ _|exact hn _ _|exact id
   | refine yZ0 λ_=>?_|refine xQq ?_|refine xGt ?_|refine xGu ?_|refine xGv λ_=>?_|refine zXa ?_ ?_|refine wK6 ?_ ?_|refine yJ1 ?_ ?_
   | refine xJ3 λ_=>?_|refine xQo λ_=>?_|refine xGp λ_ _=>?_|refine zZ6 λ_ _=>?_|refine zXb λ_=>?_|refine zW7 λ_ _=>?_|refine xQn (λ_ _=>?_) (λ_ _ _=>?_)|refine zW6 (λ_ _=>?_) (λ_ _ _ _=>?_)|refine zW8 ?_ ?_
   | refine zZ7 λ_=>?_|refine xXz λ_=>?_|refine xQp λ_ _ _=>?_|refine xJ1 λ_=>?_|refine xJ0 λ_=>?_|refine xJ2 λ_=>?_|refine xJ4 λ_=>?_|refine xGs λ_ _ _ _=>?_|refine xGr λ_ _=>?_|refine xGq ?_ (λ_ _=>?_)
   | (refine λhh=>callV.mono hh λ_ _=>?_;unfold zXv)
   | unfold yVh|unfold yVs|unfold zVo|unfold yGp|unfold yKx|unfold arrV|unfold zX9|unfold yUq|unfold yVy|unfold zK0|unfold xKi|unfold zKm|unfold lenV|unfold appV|unfold qO|unfold appO|unfold appR|unfold appZ|unfold capV|unfold zKp|unfold xQd|unfold zWp
   | split)
def yKq (ad:Ad)(d:Nat):Prop:=∀x t off,ad x=some (t,off)->t≠d
theorem xQl {ad:Ad}{d:Nat}(h:yKq ad d)(s:Nat):Ad.keep d (ad s)=ad s:=by
 cases ha:ad s with
 | none=>rfl
 | some p =>
  obtain⟨t,off⟩:=p;simp only[Ad.keep,if_neg (h s t off ha)]
theorem zWl {c:Cf}{ad:Ad}{fr:Fr}{x:Operand}{t off d:Nat}(h:evA c.gl ad fr x=some (.box t off))(hb:yKq ad d)(hx:x≠.tmp d):t≠d:=by
 cases x with
 | tmp y =>
  simp only[evA] at h;cases ha:ad y with
  | some p =>
   obtain⟨t',off'⟩:=p;rw[ha] at h;simp only[plAd,Option.some.injEq,Pl.box.injEq] at h;exact h.1▸hb y t' off' ha
  | none =>
   rw[ha] at h;simp only[plAd] at h;cases hf:fr y with
   | box cs =>
    rw[hf] at h;simp only[plOf,Option.some.injEq,Pl.box.injEq] at h;rintro rfl;exact hx (by rw[h.1])
   | iv z =>
    rw[hf] at h;exfalso;cases z with
    | raw u =>
     cases u with
     | pointer p =>
      cases p with
      | none=>cases h
      | some p =>
       obtain⟨pb,po,ps⟩:=p;cases ps<;>cases h
     | _=>cases h
    | _=>cases h
 | global g=>simp only[evA] at h;cases hg:c.gl g<;>rw[hg] at h<;>cases h
 | const v=>cases h
 | func f=>cases h
theorem xKb {c:Cf}{op:Op}{ad:Ad}{fr:Fr}{d:Nat}{a:Option (Nat×Nat)}{s:SV}(hd:∀x∈op.operands,x≠.tmp d)(hb:yKq ad d):SameAt c op ad (ad.put d a) fr (fr.put d s):=by
 refine⟨λx hx=>?_,λx hx=>?_,λ_ x hx t off he=>?_⟩
 ·cases x with
  | tmp y=>rw[yUz,yUz,Fr.put_apply,if_neg (λh=>hd _ hx (by rw[h]))]
  | _=>rfl
 ·cases x with
  | tmp y =>
   have hy:y≠d:=λh=>hd _ hx (by rw[h]);simp only[evA,Ad.put_apply,if_neg hy,xQl hb];cases ad y with
   | none=>simp only[plAd,Fr.put_apply,if_neg hy]
   | some p=>rfl
  | _=>rfl
 ·rw[Fr.put_apply,if_neg (zWl he hb (hd x hx))]
theorem xKa {c:Cf}{op:Op}{ad:Ad}{fr:Fr}{t:Nat}{cs cs':List IV}(ht:fr t=.box cs)(h:(zQj op || yKt op)=false):SameAt c op ad ad fr (fr.put t (.box cs')):=by
 refine⟨λx _=>?_,λx _=>?_,λh'=>by rw[h] at h';cases h'⟩
 ·cases x with
  | tmp y =>
   rw[yUz,yUz,Fr.put_apply];split
   ·rename_i hy;rw[hy,ht];rfl
   ·rfl
  | _=>rfl
 ·cases x with
  | tmp y =>
   simp only[evA];cases ad y with
   | none =>
    simp only[plAd,Fr.put_apply];split
    ·rename_i hy;rw[hy,ht];rfl
    ·rfl
   | some p=>rfl
  | _=>rfl
theorem zVf {ops:List Oper}{o:Oper}{fr:Fr}{d:Nat}{s:SV}(h:d ∉ looks ops o):yJl ops o fr (fr.put d s):=by
 intro j want e hg he;refine .inl ?_;rw[Fr.put_apply,if_neg];rintro rfl;exact h (List.mem_append_right _ (by rw[hg];simp[he]))
theorem yGh {ops:List Oper}{o:Oper}{fr:Fr}{t:Nat}{cs cs':List IV}(ht:fr t=.box cs):yJl ops o fr (fr.put t (.box cs')):=by
 intro j want e _ _;rw[Fr.put_apply];by_cases he:e=t
 ·rw[if_pos he,he];exact .inr ⟨cs,cs',ht,rfl⟩
 ·rw[if_neg he];exact .inl rfl
theorem yWa {ops:List Oper}{o:Oper}{d:Nat}(h:d ∉ looks ops o):∀x∈o.op.operands,x≠.tmp d:=by
 rintro x hx rfl;exact h (List.mem_append_left _ (List.mem_filterMap.2 ⟨.tmp d,by simpa using hx,rfl⟩))
def after (dst:Option Nat)(pr:PR)(ad:Ad)(fr:Fr):Option (Ad×Fr) :=
 match pr,dst with
 | .val x,some d=>some (ad.put d none,fr.put d (.iv x))
 | .val _,none=>some (ad,fr)
 | .adr t off,some d=>if d=t then none else some (ad.put d (some (t,off)),fr.put d (.iv .junk))
 | .adr _ _,none=>some (ad,fr)
 | .box cs,some d=>some (ad.put d none,fr.put d (.box cs))
 | .box _,none=>none
 | .sto _ _,some _=>none
 | .sto t cs,none=>some (ad,fr.put t (.box cs))
 | .nop,some _=>none
 | .nop,none=>some (ad,fr)
theorem yZe {dst:Option Nat}{K:Kt}{ad:Ad}{fr:Fr}{pr:PR}{st:ISt}{ds:List Dfd}:finK dst K ad fr pr st ds↔∃p,after dst pr ad fr=some p/\K p.1 p.2 st ds:=by
 cases pr<;>cases dst<;>simp only[finK,after,Option.some.injEq,exists_eq_left',reduceCtorEq,false_and,exists_false];split<;>simp
theorem yJv {c:Cf}{ops:List Oper}{o:Oper}{R:Rt}{ad:Ad}{fr:Fr}{st:ISt}{ds:List Dfd}(h:yZs c ops o R ad fr st ds):yZs c ops o (λpr st ds=>R pr st ds/\Fine c o.op ad fr pr) ad fr st ds:=by
 unfold yZs at *;split
 ·exact xZl (by simpa[*] using h)
 ·rename_i j want hg;rw[hg] at h;simp only at h;split at h
  ·rename_i d hd;cases hs:fr d with
   | box cs=>rw[hs] at h;exact h.elim
   | iv x =>
    cases x with
    | raw v =>
     cases v with
     | bool b =>
      rw[hs] at h;simp only at h ⊢;split
      ·rename_i hw;rw[if_pos hw] at h;exact xZl h
      ·rename_i hw;rw[if_neg hw] at h;exact⟨h,yXc⟩
     | tuple t=>rw[hs] at h;exact⟨h,yXc⟩
     | _=>rw[hs] at h;exact h.elim
    | _=>rw[hs] at h;exact h.elim
  ·exact h.elim
structure Ap (c:Cf)(ops:List Oper)(x y:Oper):Prop where
 pure:yXq c.esc x.dst x.op=true\/yXq c.esc y.dst y.op=true
 ls:zQj x.op=true->yKt y.op=true->stOk ops y x=true
 sl:yKt x.op=true->zQj y.op=true->stOk ops x y=true
 d:∀d,x.dst=some d->d ∉ looks ops y/\y.dst≠some d
 e:∀d,y.dst=some d->d ∉ looks ops x
theorem Ap.symm {c:Cf}{ops:List Oper}{x y:Oper}(h:Ap c ops x y):Ap c ops y x :=
 ⟨h.pure.symm,λa b=>h.sl b a,λa b=>h.ls b a,λd hd=>⟨h.e d hd,λhx=>(h.d d hx).2 hd⟩,λd hd=>(h.d d hd).1⟩
theorem zYi {esc:List Nat}{dst:Option Nat}{op:Op}(h:zJg esc dst op=true):yKt op=false:=by
 cases op<;>first|rfl|simp[zJg] at h
theorem yJs {esc:List Nat}{dst:Option Nat}{op:Op}(h:yXq esc dst op=true):yKt op=false:=by
 unfold yXq at h;rw[Bool.or_eq_true] at h;rcases h with h|h
 ·exact zYi h
 ·cases op<;>first|rfl|cases h
theorem uKt {c:Cf}{ops:List Oper}{x y:Oper}(h:wQ1 c.esc ops x y=true):Ap c ops x y:=by
 unfold wQ1 at h;simp only[bAt,Bool.or_eq_true,Bool.not_eq_true',Bool.and_eq_false_iff] at h;obtain⟨⟨⟨⟨h1,h2⟩,h3⟩,h4⟩,h5⟩:=h;refine⟨h1,λa b=>by rcases h2 with h2|h2<;>simp_all,λa b=>by rcases h3 with h3|h3<;>simp_all,λd hd=>?_,λd hd=>?_⟩
 ·rw[hd] at h4;simp only[bAt,Bool.not_eq_true'] at h4;exact⟨by simpa using h4.1,by simpa using h4.2⟩
 ·rw[hd] at h5;simpa using h5
def Safe (ops:List Oper)(ad:Ad):Prop:=∀e,wZ6 ops e=true->yKq ad e/\ad e=none
theorem xWy (ops:List Oper):Safe ops Ad.none_:=λ_ _=>⟨λ_ _ _ h=>(by cases h),rfl⟩
theorem xX1 {ops:List Oper}{e:Nat}(h:wZ6 ops e=true){o:Oper}(ho:o∈ops)(ha:xV2 o.op=true):e ∉ looks ops o/\o.dst≠some e:=by
 unfold wZ6 at h;have:=List.all_eq_true.1 h o ho;rw[ha] at this;simp only[Bool.not_true,Bool.false_or,bAt,Bool.not_eq_true'] at this;exact⟨by simpa using this.1,by simpa using this.2⟩
theorem yJw {c:Cf}{ops:List Oper}{x y:Oper}(h:Ap c ops x y){ad:Ad}(hsf:Safe ops ad){fr:Fr}{pr:PR}{p:Ad×Fr}(hb:∀d,x.dst=some d->yKq ad d)(hf:Fine c x.op ad fr pr)(ha:after x.dst pr ad fr=some p) :
  SameAt c y.op ad p.1 fr p.2/\yJl ops y fr p.2:=by
 have refl:SameAt c y.op ad ad fr fr/\yJl ops y fr fr:=⟨⟨λ_ _=>rfl,λ_ _=>rfl,λ_ _ _ _ _ _=>rfl⟩,λ_ _ _ _ _=>.inl rfl⟩
 cases hx:x.dst with
 | none =>
  rw[hx] at ha;cases pr with
  | sto t cs =>
   simp only[after,Option.some.injEq] at ha;subst ha;obtain⟨hs,⟨cs0,ht⟩,_⟩:=hf.sto t cs rfl;have hst:yKt y.op=false:=by
    rcases h.pure with hp|hp
    ·rw[yJs hp] at hs;cases hs
    ·exact yJs hp
   cases hl:zQj y.op with
   | false=>exact⟨xKa ht (by rw[hl,hst];rfl),yGh ht⟩
   | true =>
    have hok:=h.sl hs hl;unfold stOk at hok;split at hok
    ·rename_i T e v hxo;rw[bAt] at hok;obtain⟨hno,hnone⟩:=hsf e hok.1;have hey:e ∉ looks ops y:=by simpa using hok.2
     obtain⟨off,hea⟩:=hf.stoA t cs rfl T _ v hxo;have hte:t=e:=by
      simp only[evA,hnone,plAd] at hea;cases hfe:fr e with
      | box cs1=>rw[hfe] at hea;simp only[plOf,Option.some.injEq,Pl.box.injEq] at hea;exact hea.1.symm
      | iv x1 =>
       rw[hfe] at hea;unfold plOf at hea;split at hea<;>first|(cases hea;done)|(cases hea;rfl)
     subst hte;show SameAt c y.op ad ad fr (fr.put t (.box cs))/\yJl ops y fr (fr.put t (.box cs));refine⟨⟨λx hx=>?_,λx hx=>?_,λ_ x hx t2 off2 he2=>?_⟩,yGh ht⟩
     ·have hne:=yWa hey x hx;cases x with
      | tmp q =>
       rw[yUz,yUz,Fr.put_apply,if_neg λhq=>hne (by rw[hq])]
      | _=>rfl
     ·have hne:=yWa hey x hx;cases x with
      | tmp q =>
       simp only[evA];cases ad q with
       | none=>simp only[plAd];rw[Fr.put_apply,if_neg λhq=>hne (by rw[hq])]
       | some p=>rfl
      | _=>rfl
     ·rw[Fr.put_apply,if_neg (zWl he2 hno (yWa hey x hx))]
    ·cases hok
  | _=>simp only[after,Option.some.injEq,reduceCtorEq] at ha<;>subst ha<;>exact refl
 | some d =>
  rw[hx] at ha;have hd:=h.d d hx;have key:∀a s,SameAt c y.op ad (ad.put d a) fr (fr.put d s)/\yJl ops y fr (fr.put d s):=λa s=>⟨xKb (yWa hd.1) (hb d hx),zVf hd.1⟩
  cases pr with
  | adr t off =>
   simp only[after] at ha;split at ha
   ·cases ha
   ·cases ha;exact key _ _
  | _=>simp only[after,Option.some.injEq,reduceCtorEq] at ha<;>subst ha<;>exact key _ _
theorem zVk {fr:Fr}{d e:Nat}{s t:SV}(h:d≠e):(fr.put d s).put e t=(fr.put e t).put d s:=by
 funext x;simp only[Fr.put_apply];by_cases h1:x=e
 ·rw[if_pos h1,if_neg (λh2=>h (by rw[<- h2,h1])),if_pos h1]
 ·rw[if_neg h1,if_neg h1]
theorem xGj {d e:Nat}(o:Option (Nat×Nat)):Ad.keep d (Ad.keep e o)=Ad.keep e (Ad.keep d o):=by
 cases o with
 | none=>rfl
 | some p =>
  obtain⟨t,off⟩:=p;by_cases h1:t=e
  ·by_cases h2:t=d
   ·simp only[Ad.keep,if_pos h1,if_pos h2]
   ·simp only[Ad.keep,if_pos h1,if_neg h2]
  ·by_cases h2:t=d
   ·simp only[Ad.keep,if_neg h1,if_pos h2]
   ·simp only[Ad.keep,if_neg h1,if_neg h2]
theorem xVo {ad:Ad}{d e:Nat}{a b:Option (Nat×Nat)}(h:d≠e)(ha:Ad.keep e a=a)(hb:Ad.keep d b=b):(ad.put d a).put e b=(ad.put e b).put d a:=by
 funext x;simp only[Ad.put_apply];by_cases h1:x=e
 ·have h2:x≠d:=λh2=>h (by rw[<- h2,h1]);rw[if_pos h1,if_neg h2,if_pos h1,hb]
 ·by_cases h2:x=d
  ·rw[if_neg h1,if_pos h2,if_pos h2,ha]
  ·rw[if_neg h1,if_neg h2,if_neg h2,if_neg h1,xGj]
theorem yU0 {c:Cf}{ops:List Oper}{y:Oper}{d:Nat}{ad:Ad}{fr:Fr}(hd:d ∉ looks ops y)(hb:yKq ad d){t:Nat}(h:∃x∈y.op.operands,∃off',evA c.gl ad fr x=some (.box t off')):t≠d:=by
 obtain⟨x,hx,off',he⟩:=h;exact zWl he hb (yWa hd x hx)
theorem yVa {d:Nat}{pr:PR}{ad:Ad}{fr:Fr}{p:Ad×Fr}(h:after (some d) pr ad fr=some p):∃a s,p=(ad.put d a,fr.put d s)/\(∀ad' fr',after (some d) pr ad' fr'=some (ad'.put d a,fr'.put d s)) /\
  (a=none\/∃t off,pr=.adr t off/\a=some (t,off)):=by
 cases pr with
 | val x=>cases h;exact⟨_,_,rfl,λ_ _=>rfl,.inl rfl⟩
 | box x=>cases h;exact⟨_,_,rfl,λ_ _=>rfl,.inl rfl⟩
 | adr t off =>
  simp only[after] at h;split at h
  ·cases h
  ·rename_i hne;cases h;exact⟨_,_,rfl,λ_ _=>if_neg hne,.inr ⟨t,off,rfl,rfl⟩⟩
 | sto t cs=>cases h
 | nop=>cases h
theorem zQ5 {c:Cf}{ops:List Oper}{x y:Oper}(h:Ap c ops x y){ad:Ad}{fr:Fr}{px py:PR}{p q:Ad×Fr}(hbx:∀d,x.dst=some d->yKq ad d)(hby:∀d,y.dst=some d->yKq ad d)
  (hfx:Fine c x.op ad fr px) (hfy:Fine c y.op ad fr py) (hp:after x.dst px ad fr=some p) (hq:after y.dst py ad fr=some q) :
  ∃r,after y.dst py p.1 p.2=some r/\after x.dst px q.1 q.2=some r:=by
 have hkx:∀d t off,x.dst=some d->py=.adr t off->Ad.keep d (some (t,off))=some (t,off):=λd t off hd he=>by
  simp only[Ad.keep,if_neg (yU0 (h.d d hd).1 (hbx d hd) (hfy.adr t off he))]
 have hky:∀d t off,y.dst=some d->px=.adr t off->Ad.keep d (some (t,off))=some (t,off):=λd t off hd he=>by
  simp only[Ad.keep,if_neg (yU0 (h.e d hd) (hby d hd) (hfx.adr t off he))]
 have hsx:∀d t cs,x.dst=some d->py=.sto t cs->t≠d:=λd t cs hd he=>yU0 (h.d d hd).1 (hbx d hd) (hfy.sto t cs he).2.2;have hsy:∀d t cs,y.dst=some d->px=.sto t cs->t≠d:=λd t cs hd he=>yU0 (h.e d hd) (hby d hd) (hfx.sto t cs he).2.2;have hss:∀t cs t' cs',px=.sto t cs->py=.sto t' cs'->False:=λt cs t' cs' h1 h2=>by
  have a:=(hfx.sto t cs h1).1;have b:=(hfy.sto t' cs' h2).1;rcases h.pure with hq|hq
  ·rw[yJs hq] at a;cases a
  ·rw[yJs hq] at b;cases b
 cases hx:x.dst with
 | none =>
  cases hy:y.dst with
  | none =>
   rw[hx] at hp;rw[hy] at hq;cases px<;>cases py<;>simp only[after,Option.some.injEq,reduceCtorEq] at hp hq<;>subst hp hq<;>first|exact⟨_,rfl,rfl⟩|exact (hss _ _ _ _ rfl rfl).elim
  | some e =>
   rw[hx] at hp;rw[hy] at hq;cases px with
   | sto t cs =>
    have ht:=hsy e t cs hy rfl;simp only[after,Option.some.injEq] at hp;subst hp;cases py with
    | adr t' off =>
     simp only[after] at hq;split at hq
     ·cases hq
     ·rename_i hne;cases hq;exact⟨_,if_neg hne,by simp only[after];rw[zVk (λh=>ht h.symm)]⟩
    | _=>simp only[after,Option.some.injEq,reduceCtorEq] at hq<;>subst hq<;>exact⟨_,rfl,by simp only[after];rw[zVk (λh=>ht h.symm)]⟩
   | _=>simp only[after,Option.some.injEq,reduceCtorEq] at hp<;>subst hp<;>exact⟨_,hq,rfl⟩
 | some d =>
  rw[hx] at hp;obtain⟨a,s,rfl,hall,ha⟩:=yVa hp;cases hy:y.dst with
  | none =>
   rw[hy] at hq;cases py with
   | sto t cs =>
    have ht:=hsx d t cs hx rfl;cases hq;exact⟨_,rfl,by rw[hall,zVk ht]⟩
   | box cs=>cases hq
   | _=>cases hq;exact⟨_,rfl,hall _ _⟩
  | some e =>
   rw[hy] at hq;obtain⟨b,s',rfl,hall',hb⟩:=yVa hq;have hde:d≠e:=λh0=>(h.d d hx).2 (by rw[hy,h0]);have hka:Ad.keep e a=a:=by
    rcases ha with rfl|⟨t,off,h1,rfl⟩
    ·rfl
    ·exact hky e t off hy h1
   have hkb:Ad.keep d b=b:=by
    rcases hb with rfl|⟨t,off,h1,rfl⟩
    ·rfl
    ·exact hkx d t off hx h1
   exact⟨_,hall' _ _,by rw[hall,zVk hde,xVo hde hka hkb]⟩
