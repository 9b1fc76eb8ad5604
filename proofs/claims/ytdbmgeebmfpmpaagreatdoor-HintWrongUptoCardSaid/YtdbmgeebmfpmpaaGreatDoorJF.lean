/- The layer of ideal values, part O: regio -/
import Derived.Test.YtdbmgeebmfpmpaaGreatDoorJE
set_option linter.all false
namespace Go.Iv
open Go
section
variable {α:Type}{p q p' q':Prop}
theorem yZ3 {o:Option α}{f g:α->Prop}(h:∀x,f x->g x):yQ5 o f->yQ5 o g:=by
 cases o<;>simp only[yQ5]<;>first|exact h _|exact id
theorem xJc {c:Prop}(h:p->q):chk c p->chk c q:=λx=>⟨x.1,h x.2⟩
theorem wXk {c:Prop}(h:p->q):giv c p->giv c q:=λx y=>h (x y)
theorem wXl {c:Prop}(h:p->q):(c->p)->(c->q):=λx y=>h (x y)
theorem wXm {f g:α->Prop}(h:∀x,f x->g x):(∀x,f x)->(∀x,g x):=λhf x=>h x (hf x)
theorem zK5 {b:Bool}{k:Lock p}{l:Lock q}{k':Lock p'}{l':Lock q'}(h:p->p')(h':q->q'):yYv b p q k l->yYv b p' q' k' l':=λx=>⟨λhb=>h (x.1 hb),λhb=>h' (x.2 hb)⟩
theorem wG2 (h:p->p')(h':q->q'):p\/q->p'\/q':=λx=>x.imp h h'
theorem yJe {c:Prop} [Decidable c](h:p->p')(h':q->q'):(if c then p else q)->(if c then p' else q'):=by split<;>assumption
theorem xWg {s:SV}{f g:List IV->Prop}(h:∀x,f x->g x):boxV s f->boxV s g:=by unfold boxV;split<;>first|exact h _|exact id
theorem xJa {s:IObj}{f g:List IV->Prop}(h:∀x,f x->g x):obV s f->obV s g:=by unfold obV;split<;>first|exact h _|exact id
theorem wXg {s:IObj}{f g:KeyK->List (Value×IV)->Prop}(h:∀x y,f x y->g x y):omV s f->omV s g:=by unfold omV;split<;>first|exact h _ _|exact id
theorem zXl {s:IV}{f g:IntKind->Int->Prop}(h:∀x y,f x y->g x y):intV s f->intV s g:=by unfold intV;split<;>first|exact h _ _|exact id
theorem zK6 {s:IV}{f g:Bool->Prop}(h:∀x,f x->g x):zX6 s f->zX6 s g:=by unfold zX6;split<;>first|exact h _|exact id
theorem zGf {s:IV}{f g:Tag->List IV->Prop}(h:∀x y,f x y->g x y):slV s f->slV s g:=by unfold slV;split<;>first|exact h _ _|exact id
theorem xJ9 {s:IV}{f f':Tag->List IV->Prop}{g g':Nat->Nat->Nat->Prop}(h:∀x y,f x y->f' x y)(h':∀x y z,g x y z->g' x y z):slX s f g->slX s f' g':=by unfold slX;split<;>first|exact h _ _|exact h' _ _ _|exact id
theorem zGe {s:IV}{f f':Tag->List IV->Prop}{g g':Nat->Nat->Nat->Nat->Prop}(h:∀x y,f x y->f' x y)(h':∀x y z u,g x y z u->g' x y z u):slY s f g->slY s f' g':=by unfold slY;split<;>first|exact h _ _|exact h' _ _ _ _|exact id
theorem zGg {k:Option LenK}{i:Option IntKind}{f f' g g':Prop}(h:f->f')(h':g->g'):appK k i f g->appK k i f' g':=by unfold appK;split<;>first|exact h|exact h'|exact id
theorem zXm {s:IV}{f g:List IV->Prop}(h:∀x,f x->g x):aggV s f->aggV s g:=by unfold aggV;split<;>first|exact h _|exact id
theorem xWc {s:IV}{f g:List IV->Prop}(h:∀x,f x->g x):tupV s f->tupV s g:=by unfold tupV;split<;>first|exact h _|exact id
theorem xJb {s:IV}{f g:Fn->List IV->List IV->Prop}(h:∀x y z,f x y z->g x y z):fnV s f->fnV s g:=by unfold fnV;split<;>first|exact h _ _ _|exact id
theorem xWe {s:IV}{f g:Option Nat->Prop}(h:∀x,f x->g x):mapV s f->mapV s g:=by unfold mapV;split<;>first|exact h _|exact id
theorem xWf {s:IV}{f g:Value->Prop}(h:∀x,f x->g x):keyV s f->keyV s g:=by unfold keyV;split<;>first|exact h _|exact λk hs=>h _ (k hs)|exact id
theorem xWh {s:IV}{f g:Nat->Prop}(h:∀x,f x->g x):adrV s f->adrV s g:=by unfold adrV;split<;>first|exact h _|exact id
theorem wXj {s:IObj}{f g:Nat->Nat->Array Nat->Nat->Prop}(h:∀x y z u,f x y z u->g x y z u):itO s f->itO s g:=by unfold itO;split<;>first|exact h _ _ _ _|exact id
theorem wXi {s:IObj}{f g:Array MapEntry->Nat->Prop}(h:∀x y,f x y->g x y):mxO s f->mxO s g:=by unfold mxO;split<;>first|exact h _ _|exact id
theorem wXh {e:Array MapEntry}{n:Array Nat}{p p':Prop}{q q':MapEntry->IV->Prop}{k:Lock p}{l:Lock q}{k':Lock p'}{l':Lock q'}(h:p->p')(h':∀x y,q x y->q' x y):nxR e n p q k l->nxR e n p' q' k' l':=λx=>⟨λy=>h (x.1 y),λa b c d=>h' _ _ (x.2 a b c d)⟩
theorem xWd {s:IV}{f g:Value->Prop}(h:∀x,f x->g x):rawV s f->rawV s g:=by unfold rawV;split<;>first|exact h _|exact id
end
section
variable {R R':Rt}(h:∀pr st ds,R pr st ds->R' pr st ds)
include h
set_option maxHeartbeats 1000000 in
theorem yG0 {c:Cf}{dst:Option Nat}{op:Op}{ad:Ad}{fr:Fr}{st:ISt}{ds:List Dfd}:vcR c dst op R ad fr st ds->vcR c dst op R' ad fr st ds:=by
 unfold vcR;split
 all_goals try unfold zZ0
 all_goals try unfold nilV
 all_goals repeat (first
  | exact h _ _ _|exact id
  | refine yZ3 λ_=>?_|refine xJc ?_|refine wXk ?_|refine wXl ?_|refine wXm λ_=>?_|refine zK5 ?_ ?_|refine wG2 ?_ ?_|refine yJe ?_ ?_
  | refine xWg λ_=>?_|refine xJa λ_=>?_|refine wXg λ_ _=>?_|refine zXl λ_ _=>?_|refine zK6 λ_=>?_|refine zGf λ_ _=>?_|refine xJ9 (λ_ _=>?_) (λ_ _ _=>?_)|refine zGe (λ_ _=>?_) (λ_ _ _ _=>?_)|refine zGg ?_ ?_
  | refine zXm λ_=>?_|refine xWc λ_=>?_|refine xJb λ_ _ _=>?_|refine xWe λ_=>?_|refine xWd λ_=>?_|refine xWf λ_=>?_|refine xWh λ_=>?_|refine wXj λ_ _ _ _=>?_|refine wXi λ_ _=>?_|refine wXh ?_ (λ_ _=>?_)
  | (refine λhh=>callV.mono hh λ_ _=>?_;unfold zKw)
  | unfold yWn|unfold yWw|unfold zYz|unfold zQ3|unfold yY6|unfold zZv|unfold xJr|unfold idxV|unfold yVv|unfold arrV|unfold zZu|unfold zZ1|unfold yY5|unfold xV9|unfold wVt|unfold xY1|unfold lenV|unfold appV|unfold qO|unfold appO|unfold appR|unfold appZ|unfold capV|unfold zWw|unfold xJ0|unfold zGz|unfold plR
  | split)
end
def zVg (esc:List Nat)(dst:Option Nat):Op->Bool
 | .move _|.assign _|.pick ..|.build ..=>true
 | .buildSlice ..=>!yKx esc dst
 | .load ..=>!yKx esc dst
 | .nilCheck _|.binOp ..|.unOp ..|.convert ..|.makeFunc ..|.slice ..|.fieldAddr ..|.field ..|.indexAddr ..|.index ..|.extract ..=>true
 | .alloc _|.box ..=>match dst with|some d=>!esc.contains d|none=>false
 | .call ⟨.builtin .len,_,_⟩|.call ⟨.builtin .max,_,_⟩=>true
 | .call ⟨.value (.func g),_,_⟩=>esc.contains (g+1000000)
 | _=>false
def zZt:Op->Bool
 | .load ..=>true
 | _=>false
def yVo:Op->Bool
 | .store ..=>true
 | _=>false
def yXw (esc:List Nat)(dst:Option Nat)(op:Op):Bool:=zVg esc dst op || zZt op
def vJa (l:List Operand):List Nat:=l.filterMap λ| .tmp t=>some t|_=>none
def looks (ops:List Oper)(o:Oper):List Nat:=vJa o.op.operands.toList++(match o.guard with|some (j,_)=>(yV3 ops j).toList|none=>[])
def xGq:Op->Bool
 | .fieldAddr ..=>true
 | .indexAddr ..=>true
 | _=>false
def wVa (ops:List Oper)(e:Nat):Bool:=ops.all λo=>!xGq o.op || (!(looks ops o).contains e&&!(o.dst == some e))
def stOk (ops:List Oper)(x y:Oper):Bool :=
 match x.op with
 | .store _ (.tmp e) _=>wVa ops e&&!(looks ops y).contains e
 | _=>false
def wJt (esc:List Nat)(ops:List Oper)(x y:Oper):Bool :=
 (yXw esc x.dst x.op || yXw esc y.dst y.op)&&(!(zZt x.op&&yVo y.op) || stOk ops y x)&&(!(zZt y.op&&yVo x.op) || stOk ops x y) &&
 (match x.dst with|some d=>!(looks ops y).contains d&&!(y.dst == some d)|none=>true)&&(match y.dst with|some d=>!(looks ops x).contains d|none=>true)
def Lin (F:Rt->ISt->List Dfd->Prop):Prop:=(∃pr,∀R st ds,F R st ds↔R pr st ds)\/(∀R st ds,¬ F R st ds)
theorem yZt (pr:PR):Lin (λR st ds=>R pr st ds):=.inl ⟨pr,λ_ _ _=>Iff.rfl⟩
theorem yZc:Lin (λ_ _ _=>False):=.inr λ_ _ _ h=>h
theorem yQc {α:Type}{o:Option α}{F:α->Rt->ISt->List Dfd->Prop}(h:∀x,Lin (F x)):Lin (λR st ds=>yQ5 o λx=>F x R st ds):=by
 cases o with
 | none=>exact yZc
 | some x=>exact h x
theorem yWp {c:Prop}{F:Rt->ISt->List Dfd->Prop}(h:Lin F):Lin (λR st ds=>chk c (F R st ds)):=by
 by_cases hc:c
 ·rcases h with⟨pr,h⟩|h
  ·exact .inl ⟨pr,λR st ds=>⟨λx=>(h R st ds).1 x.2,λx=>⟨hc,(h R st ds).2 x⟩⟩⟩
  ·exact .inr λR st ds x=>h R st ds x.2
 ·exact .inr λR st ds x=>hc x.1
theorem yJd {c:Prop} [Decidable c]{F G:Rt->ISt->List Dfd->Prop}(h:Lin F)(h':Lin G):Lin (λR st ds=>if c then F R st ds else G R st ds):=by
 by_cases hc:c
 ·simpa only[if_pos hc] using h
 ·simpa only[if_neg hc] using h'
theorem wX2 {c:Prop}{F:Rt->ISt->List Dfd->Prop}(hc:c)(h:Lin F):Lin (λR st ds=>c->F R st ds):=by
 rcases h with⟨pr,h⟩|h
 ·exact .inl ⟨pr,λR st ds=>⟨λx=>(h R st ds).1 (x hc),λx _=>(h R st ds).2 x⟩⟩
 ·exact .inr λR st ds x=>h R st ds (x hc)
theorem wX4 {b:Bool}{F G:Rt->ISt->List Dfd->Prop}(h:Lin F)(h':Lin G):Lin (λR st ds=>yYv b (F R st ds) (G R st ds) .mk .mk):=by
 cases b
 ·simpa only[xJt] using h'
 ·simpa only[xU4] using h
theorem xVx {s:SV}{F:List IV->Rt->ISt->List Dfd->Prop}(h:∀x,Lin (F x)):Lin (λR st ds=>boxV s λx=>F x R st ds):=by
 cases s<;>first|exact h _|exact yZc
theorem zXi {s:IV}{F:IntKind->Int->Rt->ISt->List Dfd->Prop}(h:∀x y,Lin (F x y)):Lin (λR st ds=>intV s λx y=>F x y R st ds):=by
 cases s with
 | raw v=>cases v<;>first|exact h _ _|exact yZc
 | _=>exact yZc
theorem wX5 {s:IV}{F:Bool->Rt->ISt->List Dfd->Prop}(h:∀x,Lin (F x)):Lin (λR st ds=>zX6 s λx=>F x R st ds):=by
 cases s with
 | raw v=>cases v<;>first|exact h _|exact yZc
 | _=>exact yZc
theorem wX0 {s:IV}{F:Tag->List IV->Rt->ISt->List Dfd->Prop}{G:Nat->Nat->Nat->Rt->ISt->List Dfd->Prop}(h:∀x y,Lin (F x y))(h':∀x y z,Lin (G x y z)):Lin (λR st ds=>slX s (λx y=>F x y R st ds) (λx y z=>G x y z R st ds)):=by
 by_cases hs:∃t xs,s=.sl t xs
 ·obtain⟨t,xs,rfl⟩:=hs;exact h _ _
 ·by_cases hr:∃b off n cap,s=.raw (.slice (some ⟨b,off,none⟩) n cap)
  ·obtain⟨b,off,n,cap,rfl⟩:=hr;exact h' _ _ _
  ·refine .inr λR st ds hh=>?_;simp only at hh;unfold slX at hh;split at hh
   ·exact hs ⟨_,_,rfl⟩
   ·exact hr ⟨_,_,_,_,rfl⟩
   ·exact hh
theorem vQ4 {s:IV}{F:Tag->List IV->Rt->ISt->List Dfd->Prop}{G:Nat->Nat->Nat->Nat->Rt->ISt->List Dfd->Prop}(h:∀x y,Lin (F x y))(h':∀x y z u,Lin (G x y z u)):Lin (λR st ds=>slY s (λx y=>F x y R st ds) (λx y z u=>G x y z u R st ds)):=by
 by_cases hs:∃t xs,s=.sl t xs
 ·obtain⟨t,xs,rfl⟩:=hs;exact h _ _
 ·by_cases hr:∃b off n cap,s=.raw (.slice (some ⟨b,off,none⟩) n cap)
  ·obtain⟨b,off,n,cap,rfl⟩:=hr;exact h' _ _ _ _
  ·refine .inr λR st ds hh=>?_;simp only at hh;unfold slY at hh;split at hh
   ·exact hs ⟨_,_,rfl⟩
   ·exact hr ⟨_,_,_,_,rfl⟩
   ·exact hh
theorem zXj {s:IV}{F:List IV->Rt->ISt->List Dfd->Prop}(h:∀x,Lin (F x)):Lin (λR st ds=>aggV s λx=>F x R st ds):=by
 cases s<;>first|exact h _|exact yZc
theorem wVw {s:IV}{F:List IV->Rt->ISt->List Dfd->Prop}(h:∀x,Lin (F x)):Lin (λR st ds=>tupV s λx=>F x R st ds):=by
 cases s<;>first|exact h _|exact yZc
theorem zG5 {s:IV}{F:Value->Rt->ISt->List Dfd->Prop}(h:∀x,Lin (F x)):Lin (λR st ds=>rawV s λx=>F x R st ds):=by
 cases s<;>first|exact h _|exact yZc
theorem wX1 {ag:Bool}{n:Nat}{p:Pl}{fr:Fr}:Lin (λR st ds=>zQ3 true ag n p fr R st ds):=by
 cases p with
 | box t off=>exact xVx λ_=>yQc λ_=>yZt _
 | ptr b off=>exact yZc
 | cp y=>exact yJd (yZt _) yZc
theorem xGl {f:Nat×Bool×Nat}{p:Pl}:Lin (λR st ds=>zZv f p R st ds):=by
 cases p with
 | box t off=>exact yZt _
 | ptr b off=>exact yZt _
 | cp y=>exact zXj λ_=>yQc λ_=>yJd (yZt _) yZc
theorem wX3 {len n j:Nat}{ag:Bool}{p:Pl}:Lin (λR st ds=>xJr len ag n j p R st ds):=by
 unfold xJr;refine yJd ?_ yZc;cases p with
 | box t off=>exact yZt _
 | ptr b off=>exact yZt _
 | cp y=>exact zXj λ_=>yQc λ_=>yJd (yZt _) yZc
theorem wVz {k:LenK}{s:Option (TypeId×Bool×Nat×Nat)}{xs:Option IV}{p:Option Pl}{e:Option (Nat×Bool×Nat)}{j:Int}:Lin (λR st ds=>idxV k s xs p e j R st ds):=by
 cases k with
 | sl=>exact yQc λ_=>yQc λ_=>wX0 (λ_ _=>yJd (yJd (yQc λ_=>yZt _) yZc) yZc) (λ_ _ _=>yJd (yZt _) yZc)
 | arr n=>exact yQc λ_=>yQc λ_=>yJd wX3 yZc
 | _=>exact yZc
theorem xGk {k:LenK}{e:Option (Nat×Bool×Nat)}{x:IV}{j:Int}:Lin (λR st ds=>zZu k e x j R st ds):=by
 cases k with
 | str =>
  refine zG5 λv=>?_;cases v with
  | string s=>exact yQc λ_=>yZt _
  | _=>exact yZc
 | arr n=>exact zXj λ_=>yQc λ_=>yJd (yQc λ_=>yZt _) yZc
 | _=>exact yZc
theorem wVy {k:LenK}{x:IV}:Lin (λR st ds=>lenV true k x R st ds):=by
 cases k with
 | str =>
  refine zG5 λv=>?_;cases v with
  | string s=>exact wX2 (λh=>by cases h) (yZt _)
  | _=>exact yZc
 | sl=>exact wX0 (λ_ _=>wX2 (λh=>by cases h) (yZt _)) (λ_ _ _=>yZt _)
 | map=>exact yZc
 | arr n=>exact yZt _
theorem wW0 {ar:Option (Nat×Bool×Nat)}{x:IV}{lo hi mx:Option Int}{len:Nat}:Lin (λR st ds=>arrV ar x lo hi mx len R st ds):=by
 cases x with
 | cptr y =>
  cases y with
  | agg cs =>
   cases lo with
   | none =>
    cases mx with
    | none=>exact yQc λ_=>yWp (yQc λ_=>yZt _)
    | some m=>exact yZc
   | some l=>exact yZc
  | _=>exact yZc
 | _=>exact yZc
theorem xGj {k:LenK}{s:Option (TypeId×Bool×Nat×Nat)}{ar:Option (Nat×Bool×Nat)}{x:IV}{lo hi mx:Option Int}:Lin (λR st ds=>yVv k s ar x lo hi mx R st ds):=by
 cases k with
 | str =>
  refine zG5 λv=>?_;cases v with
  | string s =>
   cases mx with
   | none=>exact yQc λ_=>yZt _
   | some m=>exact yZc
  | _=>exact yZc
 | sl =>
  refine yQc λ_=>vQ4 (λ_ _=>yWp ?_) (λ_ _ _ _=>?_)
  ·cases hi with
   | none =>
    cases mx with
    | none=>exact yQc λ_=>yWp (yZt _)
    | some m=>exact yZc
   | some h=>exact yQc λ_=>yWp (yZt _)
  ·cases mx with
   | none=>exact yWp (yQc λ_=>yZt _)
   | some m=>exact yZc
 | arr n=>exact wW0
 | map=>exact yZc
theorem xQb {o:Option IV}{p:Option Pl}:Lin (λR st ds=>zZ0 true o p R st ds):=by
 cases o with
 | some x=>exact yZt _
 | none=>exact yZc
theorem wVx {o:Option IV}{p:Option Pl}:Lin (λR st ds=>nilV o p true R st ds):=by
 cases o with
 | none=>exact yZc
 | some x =>
  cases x with
  | fn f a b=>exact yJd (yZt _) yZc
  | cptr y=>exact yZt _
  | raw v =>
   cases v with
   | pointer o =>
    cases o with
    | none=>exact yZc
    | some q=>exact yZt _
   | _=>exact yZc
  | _=>exact yZc
theorem zWh {esc:List Nat}{d:Nat}(h:esc.contains d=false){cs:List IV}:Lin (λR st ds=>yWw esc (some d) cs R st ds):=by
 have:¬ d∈esc:=by simpa using h
 simp only[yWw,if_neg this];exact yZt _
theorem xJ3 {frz esc:List Nat}{d:Nat}(h:esc.contains d=false){y:IV}:Lin (λR st ds=>yWn frz esc (some d) y R st ds):=yJd (yZt _) (zWh h)
theorem xJ2 {c:Cf}(hdr:c.dr=true){dst:Option Nat}{op:Op}{ad:Ad}{fr:Fr}(hp:zVg c.esc dst op=true):Lin (λR st ds=>vcR c dst op R ad fr st ds):=by
 unfold zVg at hp;split at hp
 case h_1=>simp only[vcR,hdr];exact xQb
 case h_2=>simp only[vcR,hdr];exact xQb
 case h_3=>exact yQc λ_=>wX5 λ_=>wX4 (yQc λ_=>yZt _) (yQc λ_=>yZt _)
 case h_4=>exact yWp (yQc λ_=>yQc λ_=>yZt _)
 case h_5 =>
  have hl:yKx c.esc dst=false:=by simpa using hp
  simp only[vcR,zYz,hl,bFt,if_false];exact yQc λ_=>yWp (yQc λ_=>yWp (yZt _))
 case h_6 =>
  have hl:ldr c.dr c.esc dst=true:=by unfold ldr;rw[hdr,hp];rfl
  simp only[vcR,hl];exact yQc λ_=>yQc λ_=>wX1
 case h_7=>simp only[vcR,hdr];exact wVx
 case h_8=>exact yQc λ_=>yQc λ_=>yQc λ_=>yZt _
 case h_9=>exact yQc λ_=>yQc λ_=>yZt _
 case h_10=>exact yQc λ_=>yQc λ_=>yZt _
 case h_11=>exact yQc λ_=>yQc λ_=>yZt _
 case h_12=>exact yQc λ_=>yQc λ_=>yQc λ_=>yQc λ_=>yQc λ_=>xGj
 case h_13=>exact yQc λ_=>yQc λ_=>xGl
 case h_14=>exact yQc λ_=>yQc λ_=>zXj λ_=>yQc λ_=>yZt _
 case h_15=>exact yQc λ_=>zXi λ_ _=>yQc λ_=>wVz
 case h_16=>exact yQc λ_=>zXi λ_ _=>yQc λ_=>yQc λ_=>xGk
 case h_17=>exact yQc λ_=>wVw λ_=>yQc λ_=>yZt _
 case h_18 =>
  split at hp
  ·exact yQc λ_=>zWh (by simpa using hp)
  ·cases hp
 case h_19 =>
  split at hp
  ·exact yQc λ_=>yQc λ_=>yWp (xJ3 (by simpa using hp))
  ·cases hp
 case h_20 =>
  rename_i args ts;obtain⟨args⟩:=args;obtain⟨ts⟩:=ts
  match args,ts with
  | [x],[T]=>simp only[vcR,hdr];exact yQc λ_=>yQc λ_=>wVy
  | [],_=>exact yZc
  | _::_::_,_=>exact yZc
  | [_],[]=>exact yZc
  | [_],_::_::_=>exact yZc
 case h_21 =>
  rename_i args ts;obtain⟨args⟩:=args
  match args with
  | [x,y]=>exact yQc λ_=>yQc λ_=>zXi λ_ _=>zXi λ_ _=>yJd (yZt _) yZc
  | []=>exact yZc
  | [_]=>exact yZc
  | _::_::_::_=>exact yZc
 case h_22 =>
  rename_i g _ _;have hm:g+1000000∈c.esc:=by simpa using hp
  simp only[vcR,zGz,if_pos hm];exact yQc λ_=>yQc λ_=>yZt _
 case h_23=>cases hp
structure SameAt (c:Cf)(op:Op)(ad ad':Ad)(fr fr':Fr):Prop where
 v:∀x∈op.operands,evV c.gl fr x=evV c.gl fr' x
 a:∀x∈op.operands,evA c.gl ad fr x=evA c.gl ad' fr' x
 box:(zZt op || yVo op)=true->∀x∈op.operands,∀t off,evA c.gl ad fr x=some (.box t off)->fr t=fr' t
theorem yGe {gl:Nat->Option IV}{fr fr':Fr}:∀ {l:List Operand},(∀x∈l,evV gl fr x=evV gl fr' x)->evL gl fr l=evL gl fr' l
 | [],_=>rfl
 | x::l,h=>by rw[xWz,xWz,h x (by simp),yGe λy hy=>h y (by simp[hy])]
theorem zZ8 {gl:Nat->Option IV}{fr fr':Fr}{o:Option Operand}(h:∀x,o=some x->evV gl fr x=evV gl fr' x):yWq gl fr o=yWq gl fr' o:=by
 cases o with
 | none=>rfl
 | some x=>simp only[xGr,h x rfl]
theorem zKx {P:Program}{gl:Nat->Option IV}{fr fr':Fr}{T:TypeId}:∀ {l:List (Nat×Operand)} {cs:List IV},(∀x∈l.map (·.2),evV gl fr x=evV gl fr' x)->yW9 P gl fr T cs l=yW9 P gl fr' T cs l
 | [],cs,_=>rfl
 | (i,x)::l,cs,h=>by
  rw[yUe,yUe,h x (by simp)];cases bfI P T i with
  | none=>rfl
  | some f =>
   cases evV gl fr' x with
   | none=>rfl
   | some y=>simp only[zWz];split<;>first|exact zKx λy hy=>h y (by simp[hy])|rfl
theorem xGi {dr ag:Bool}{n:Nat}{p:Pl}{fr fr':Fr}{R:Rt}{st:ISt}{ds:List Dfd}(h:∀t off,p=.box t off->fr t=fr' t):zQ3 dr ag n p fr R st ds=zQ3 dr ag n p fr' R st ds:=by
 cases p with
 | box t off=>simp only[zQ3,h t off rfl]
 | _=>rfl
theorem xX0 {y:List IV}{p:Pl}{fr fr':Fr}{R:Rt}{st:ISt}{ds:List Dfd}(h:∀t off,p=.box t off->fr t=fr' t):yY6 y p fr R st ds=yY6 y p fr' R st ds:=by
 cases p with
 | box t off=>simp only[yY6,h t off rfl]
 | _=>rfl
theorem xUw {c:Cf}{dst:Option Nat}{op:Op}{R:Rt}{ad ad':Ad}{fr fr':Fr}{st:ISt}{ds:List Dfd}(h:SameAt c op ad ad' fr fr'):vcR c dst op R ad fr st ds=vcR c dst op R ad' fr' st ds:=by
 obtain⟨hv,ha,hb⟩:=h;cases op with
 | move x=>simp only[vcR,hv x (by simp[Op.operands]),ha x (by simp[Op.operands])]
 | assign x=>simp only[vcR,hv x (by simp[Op.operands]),ha x (by simp[Op.operands])]
 | pick x y z=>simp only[vcR];rw[hv x (by simp[Op.operands]),hv y (by simp[Op.operands]),hv z (by simp[Op.operands])]
 | alloc T=>rfl
 | box T x=>simp only[vcR,hv x (by simp[Op.operands])]
 | build T parts=>simp only[vcR,λcs=>zKx (P:=c.P) (T:=T) (cs:=cs) (l:=parts.toList) (λx hx=>hv x (by simpa[Op.operands] using hx))]
 | buildSlice T n parts=>simp only[vcR,yGe (l:=parts.toList.map (·.2)) (λx hx=>hv x (by simpa[Op.operands] using hx))]
 | load T x =>
  have hbx:=hb rfl x (by simp[Op.operands]);simp only[vcR,<- ha x (by simp[Op.operands])];cases hp:evA c.gl ad fr x with
  | none=>rfl
  | some p=>simp only[yJu,λ(i:Bool×Nat)=>xGi (dr:=ldr c.dr c.esc dst) (ag:=i.1) (n:=i.2) (p:=p) (fr:=fr) (fr':=fr') (R:=R) (st:=st) (ds:=ds) (λt off hq=>hbx t off (by rw[hp,hq]))]
 | store T x y =>
  have hbx:=hb rfl x (by simp[Op.operands]);simp only[vcR,<- ha x (by simp[Op.operands]),<- hv y (by simp[Op.operands])];cases hp:evA c.gl ad fr x with
  | none=>rfl
  | some p=>simp only[yJu,λ(i:List IV)=>xX0 (y:=i) (p:=p) (fr:=fr) (fr':=fr') (R:=R) (st:=st) (ds:=ds) (λt off hq=>hbx t off (by rw[hp,hq]))]
 | nilCheck x=>simp only[vcR,hv x (by simp[Op.operands]),ha x (by simp[Op.operands])]
 | binOp o T x y T'=>simp only[vcR,hv x (by simp[Op.operands]),hv y (by simp[Op.operands])]
 | unOp o T x=>simp only[vcR,hv x (by simp[Op.operands])]
 | convert T T' x=>simp only[vcR,hv x (by simp[Op.operands])]
 | makeFunc f a b=>simp only[vcR,yGe (l:=a.toList) (λx hx=>hv x (by simp[Op.operands];exact .inl (by simpa using hx))),yGe (l:=b.toList) (λx hx=>hv x (by simp[Op.operands];exact .inr (by simpa using hx)))]
 | slice T x lo hi mx=>simp only[vcR,hv x (by simp[Op.operands]),zZ8 (o:=lo) (λy hy=>hv y (by simp[Op.operands,hy])),zZ8 (o:=hi) (λy hy=>hv y (by simp[Op.operands,hy])),
   zZ8 (o:=mx) (λy hy=>hv y (by simp[Op.operands,hy]))]
 | fieldAddr T x i=>simp only[vcR,ha x (by simp[Op.operands])]
 | field T x i=>simp only[vcR,hv x (by simp[Op.operands])]
 | indexAddr T x y=>simp only[vcR,hv x (by simp[Op.operands]),ha x (by simp[Op.operands]),hv y (by simp[Op.operands])]
 | index T x y=>simp only[vcR,hv x (by simp[Op.operands]),hv y (by simp[Op.operands])]
 | lookup T x y ok=>simp only[vcR,hv x (by simp[Op.operands]),hv y (by simp[Op.operands])]
 | mapUpdate T x y z=>simp only[vcR,hv x (by simp[Op.operands]),hv y (by simp[Op.operands]),hv z (by simp[Op.operands])]
 | extract x i=>simp only[vcR,hv x (by simp[Op.operands])]
 | call cc =>
  obtain⟨f,args,ts⟩:=cc;cases f with
  | value f=>simp only[vcR,hv f (by simp[Op.operands,Call.operands]),yGe (l:=args.toList) (λx hx=>hv x (by simp[Op.operands,Call.operands];exact .inr (by simpa using hx)))]
  | invoke r nm=>rfl
  | builtin b =>
   obtain⟨args⟩:=args;obtain⟨ts⟩:=ts;have hv':∀x∈args,evV c.gl fr x=evV c.gl fr' x:=λx hx=>hv x (by simp[Op.operands,Call.operands];exact hx);cases b with
   | len =>
    match args,ts,hv' with
    | [x],[T],hv'=>simp only[vcR,hv' x (by simp)]
    | [],_,_=>rfl
    | _::_::_,_,_=>rfl
    | [_],[],_=>rfl
    | [_],_::_::_,_=>rfl
   | append =>
    match args,ts,hv' with
    | [x,y],[T,T'],hv'=>simp only[vcR,hv' x (by simp),hv' y (by simp)]
    | [],_,_=>rfl
    | [_],_,_=>rfl
    | _::_::_::_,_,_=>rfl
    | [_,_],[],_=>rfl
    | [_,_],[_],_=>rfl
    | [_,_],_::_::_::_,_=>rfl
   | cap =>
    match args,ts,hv' with
    | [x],[T],hv'=>simp only[vcR,hv' x (by simp)]
    | [],_,_=>rfl
    | _::_::_,_,_=>rfl
    | [_],[],_=>rfl
    | [_],_::_::_,_=>rfl
   | clear =>
    match args,ts,hv' with
    | [x],[T],hv'=>simp only[vcR,hv' x (by simp)]
    | [],_,_=>rfl
    | _::_::_,_,_=>rfl
    | [_],[],_=>rfl
    | [_],_::_::_,_=>rfl
   | max =>
    match args,hv' with
    | [x,y],hv'=>simp only[vcR,hv' x (by simp),hv' y (by simp)]
    | [],_=>rfl
    | [_],_=>rfl
    | _::_::_::_,_=>rfl
   | min =>
    match args,hv' with
    | [x,y],hv'=>simp only[vcR,hv' x (by simp),hv' y (by simp)]
    | [],_=>rfl
    | [_],_=>rfl
    | _::_::_::_,_=>rfl
   | _=>rfl
 | defer cc =>
  obtain⟨f,args,ts⟩:=cc;cases f with
  | value f=>simp only[vcR,hv f (by simp[Op.operands,Call.operands]),yGe (l:=args.toList) (λx hx=>hv x (by simp[Op.operands,Call.operands];exact .inr (by simpa using hx)))]
  | _=>rfl
 | makeMap T r=>cases r<;>rfl
 | insert T x y z=>simp only[vcR,hv x (by simp[Op.operands]),hv y (by simp[Op.operands]),hv z (by simp[Op.operands])]
 | makeSlice T x y=>simp only[vcR,hv x (by simp[Op.operands]),hv y (by simp[Op.operands])]
 | range T x=>simp only[vcR,hv x (by simp[Op.operands])]
 | next x b=>cases b<;>simp only[vcR,hv x (by simp[Op.operands])]
 | entry x=>simp only[vcR,hv x (by simp[Op.operands])]
 | _=>rfl
def yZs (c:Cf)(ops:List Oper)(o:Oper)(R:Rt)(ad:Ad)(fr:Fr)(st:ISt)(ds:List Dfd):Prop :=
 match o.guard with
 | none=>vcR c o.dst o.op R ad fr st ds
 | some (j,want)=>match yV3 ops j with
  | some d=>match fr d with
   | .iv (.raw (.bool b))=>if b=want then vcR c o.dst o.op R ad fr st ds else R (.val (.raw undef)) st ds
   | .iv (.raw (.tuple _))=>R (.val (.raw undef)) st ds
   | _=>False
  | none=>False
def yWz (c:Cf)(ops:List Oper)(o:Oper)(K:Kt):Kt:=λad fr st ds=>yZs c ops o (finK o.dst K ad fr) ad fr st ds
def vcK (c:Cf)(ops:List Oper):List Oper->Kt->Kt
 | [],K=>K
 | o::l,K=>yWz c ops o (vcK c ops l K)
theorem zVq {c:Cf}{ops l l':List Oper}{K:Kt}:vcK c ops (l++l') K=vcK c ops l (vcK c ops l' K):=by
 induction l with
 | nil=>rfl
 | cons o l ih=>rw[List.cons_append,vcK,vcK,ih]
theorem zU9 {c:Cf}{ops:List Oper}{Q:Fr->ISt->List Dfd->Prop}:∀ {l:List Oper} {ad:Ad} {fr:Fr} {st:ISt} {ds:List Dfd},yXv c ops l Q ad fr st ds->vcK c ops l (λ_ fr st ds=>Q fr st ds) ad fr st ds
 | [],_,_,_,_,h=>h
 | o::l,ad,fr,st,ds,h=>by
  have hk:∀ad fr st ds,yXv c ops l Q ad fr st ds->vcK c ops l (λ_ fr st ds=>Q fr st ds) ad fr st ds:=λ_ _ _ _=>zU9;have hfin:∀pr st ds,finK o.dst (yXv c ops l Q) ad fr pr st ds->finK o.dst (vcK c ops l (λ_ fr st ds=>Q fr st ds)) ad fr pr st ds:=by
   intro pr st ds;cases pr<;>cases o.dst<;>simp only[finK]<;>first|exact hk _ _ _ _|exact id|(split<;>first|exact id|exact hk _ _ _ _)
  unfold yXv at h;change yZs c ops o (finK o.dst (vcK c ops l (λ_ fr st ds=>Q fr st ds)) ad fr) ad fr st ds;unfold yZs;split at h
  ·rename_i hg;rw[hg];exact yG0 hfin h
  ·rename_i j want hg;rw[hg];simp only[yV3];cases hd:(ops[j]?).bind (·.dst) with
   | none=>rw[hd] at h;exact h.elim
   | some d =>
    rw[hd] at h;simp only at h ⊢;cases hs:fr d with
    | box cs=>rw[hs] at h;exact h.elim
    | iv x =>
     cases x with
     | raw v =>
      cases v with
      | bool b =>
       rw[hs,xQs fr d want b _ _ _ _ hs] at h;simp only;split
       ·exact yG0 hfin (h.1 ‹_›)
       ·have hb:b=!want:=by cases b<;>cases want<;>simp_all
        exact hfin _ _ _ (h.2 hb)
      | tuple t =>
       rw[hs] at h;exact hfin _ _ _ h
      | _=>rw[hs] at h;exact h.elim
     | _=>rw[hs] at h;exact h.elim
theorem yVu {c:Cf}{ops:List Oper}{o:Oper}{R R':Rt}(h:∀pr st ds,R pr st ds->R' pr st ds){ad:Ad}{fr:Fr}{st:ISt}{ds:List Dfd}:yZs c ops o R ad fr st ds->yZs c ops o R' ad fr st ds:=by
 unfold yZs;split
 ·exact yG0 h
 ·split
  ·split
   ·split
    ·exact yG0 h
    ·exact h _ _ _
   ·exact h _ _ _
   ·exact id
  ·exact id
theorem wZz {c:Cf}(hdr:c.dr=true){ops:List Oper}{o:Oper}{ad:Ad}{fr:Fr}(hp:zVg c.esc o.dst o.op=true):Lin (λR st ds=>yZs c ops o R ad fr st ds):=by
 cases hg:o.guard with
 | none=>simp only[yZs,hg];exact xJ2 hdr hp
 | some p =>
  obtain⟨j,want⟩:=p;cases hd:yV3 ops j with
  | none=>simp only[yZs,hg,hd];exact yZc
  | some d =>
   cases hs:fr d with
   | box cs=>simp only[yZs,hg,hd,hs];exact yZc
   | iv x =>
    cases x with
    | raw v =>
     cases v with
     | bool b=>simp only[yZs,hg,hd,hs];exact yJd (xJ2 hdr hp) (yZt _)
     | tuple t=>simp only[yZs,hg,hd,hs];exact yZt _
     | _=>simp only[yZs,hg,hd,hs];exact yZc
    | _=>simp only[yZs,hg,hd,hs];exact yZc
def Kept (st st':ISt):Prop:=∀b cs,st b=some (.box cs)->st' b=some (.box cs)
theorem Kept.refl (st:ISt):Kept st st:=λ_ _ h=>h
def LinS (st:ISt)(F:Rt->ISt->List Dfd->Prop):Prop:=(∃pr,(∀R ds,F R st ds↔R pr st ds)/\∀st',Kept st st'->∀R ds,R pr st' ds->F R st' ds)\/(∀R ds,¬ F R st ds)
theorem yK2 {F:Rt->ISt->List Dfd->Prop}(h:Lin F)(st:ISt):LinS st F:=by
 rcases h with⟨pr,h⟩|h
 ·exact .inl ⟨pr,λR ds=>h R st ds,λst' _ R ds hr=>(h R st' ds).2 hr⟩
 ·exact .inr λR ds=>h R st ds
theorem wX6 {c:Cf}{dst:Option Nat}{T:TypeId}{x:Operand}{ad:Ad}{fr:Fr}(st:ISt):LinS st (λR st ds=>vcR c dst (.load T x) R ad fr st ds):=by
 simp only[vcR];cases tyI c.P T with
 | none=>exact yK2 yZc st
 | some i =>
  cases evA c.gl ad fr x with
  | none=>exact yK2 yZc st
  | some p =>
   simp only[yJu];cases p with
   | box t off=>exact yK2 (xVx λ_=>yQc λ_=>yZt _) st
   | cp y=>exact yK2 (yJd (yZt _) yZc) st
   | ptr b off =>
    simp only[zQ3];cases hl:ldr c.dr c.esc dst with
    | true=>simp only[if_true];exact yK2 yZc st
    | false =>
     simp only[bFt,if_false];cases hb:st b with
     | none=>exact .inr λR ds h=>by simp only[hb] at h;exact h
     | some o =>
      cases o with
      | box cs =>
       cases hp:yJl i.1 i.2 cs off with
       | none=>exact .inr λR ds h=>by simp only[hb,yJu,obV,hp] at h;exact h
       | some y=>exact .inl ⟨.val y,λR ds=>by simp only[hb,yJu,obV,hp],λst' hk R ds hr=>by simp only[hk b cs hb,yJu,obV,hp];exact hr⟩
      | _=>exact .inr λR ds h=>by simp only[hb,yJu,obV] at h
theorem xVy {c:Cf}(hdr:c.dr=true){dst:Option Nat}{op:Op}{ad:Ad}{fr:Fr}(hp:yXw c.esc dst op=true)(st:ISt):LinS st (λR st ds=>vcR c dst op R ad fr st ds):=by
 unfold yXw at hp;rw[Bool.or_eq_true] at hp;rcases hp with hp|hp
 ·exact yK2 (xJ2 hdr hp) st
 ·cases op<;>first|exact wX6 st|cases hp
theorem zZ3 {c:Cf}(hdr:c.dr=true){ops:List Oper}{o:Oper}{ad:Ad}{fr:Fr}(hp:yXw c.esc o.dst o.op=true)(st:ISt):LinS st (λR st ds=>yZs c ops o R ad fr st ds):=by
 cases hg:o.guard with
 | none=>simp only[yZs,hg];exact xVy hdr hp st
 | some p =>
  obtain⟨j,want⟩:=p;cases hd:yV3 ops j with
  | none=>simp only[yZs,hg,hd];exact yK2 yZc st
  | some d =>
   cases hs:fr d with
   | box cs=>simp only[yZs,hg,hd,hs];exact yK2 yZc st
   | iv x =>
    cases x with
    | raw v =>
     cases v with
     | bool b =>
      simp only[yZs,hg,hd,hs];by_cases hb:b=want
      ·simp only[if_pos hb];exact xVy hdr hp st
      ·simp only[if_neg hb];exact yK2 (yZt _) st
     | tuple t=>simp only[yZs,hg,hd,hs];exact yK2 (yZt _) st
     | _=>simp only[yZs,hg,hd,hs];exact yK2 yZc st
    | _=>simp only[yZs,hg,hd,hs];exact yK2 yZc st
def appQ (esc:List Nat)(dst:Option Nat):Op->Bool
 | .call ⟨.builtin .append,⟨[_,_]⟩,⟨[_,_]⟩⟩=>zJk esc dst
 | _=>false
theorem Kept.new {st:ISt}{g:Nat}(hg:st g=none)(o:Option IObj):Kept st (st.put g o):=λb cs hb=>by
 rw[ISt.put_apply];split
 ·rename_i h;subst h;rw[hg] at hb;cases hb
 ·exact hb
theorem Kept.front {st:ISt}{g₀ g n s:Nat}(h0:st g₀=some (.front n s))(hg:g=g₀\/st g=none)(o:Option IObj):Kept st ((st.put g₀ none).put g o):=λb cs hb=>by
 have h1:b≠g₀:=by rintro rfl;rw[h0] at hb;cases hb
 have h2:b≠g:=by
  rintro rfl;rcases hg with rfl|hg
  ·exact h1 rfl
  ·rw[hg] at hb;cases hb
 rw[ISt.put_apply,if_neg h2,ISt.put_apply,if_neg h1];exact hb
theorem wJs {esc:List Nat}{dst:Option Nat}{e:TypeId×Bool×Nat×Nat}{tg:Tag}{xs ys:List IV}{R:Rt}{st:ISt}{ds:List Dfd}(h:appV esc dst e tg xs ys R st ds) :
  appV esc dst e tg xs ys (λpr st' ds=>R pr st' ds/\Kept st st') st ds:=by
 obtain⟨h1,h2,h3⟩:=h;refine⟨h1,h2,?_⟩;cases hc:tg.cap with
 | none =>
  rw[hc] at h3;cases ys with
  | nil=>exact⟨h3,Kept.refl _⟩
  | cons y ys=>exact h3.elim
 | nil =>
  rw[hc] at h3;cases ys with
  | nil=>exact⟨h3,Kept.refl _⟩
  | cons y ys =>
   by_cases he:yKx esc dst=true
   ·simp only[if_pos he] at h3 ⊢;exact λg cap hg=>⟨h3 g cap hg,Kept.new hg.1 _⟩
   ·simp only[if_neg he] at h3 ⊢;exact λg hg=>⟨h3 g hg,Kept.new hg _⟩
 | full =>
  rw[hc] at h3;obtain⟨h4,h3⟩:=h3;refine⟨h4,?_⟩;cases ys with
  | nil=>exact⟨h3,Kept.refl _⟩
  | cons y ys=>exact λg hg=>⟨h3 g hg,Kept.new hg _⟩
 | app g₀ =>
  rw[hc] at h3;obtain⟨h4,h5,h3⟩:=h3;exact⟨h4,h5,λg hg=>⟨h3 g hg,Kept.front h5 hg _⟩⟩
theorem xYb {c:Cf}{dst:Option Nat}{op:Op}{R:Rt}{ad:Ad}{fr:Fr}{st:ISt}{ds:List Dfd}(hq:appQ c.esc dst op=true)(h:vcR c dst op R ad fr st ds) :
  vcR c dst op (λpr st' ds=>R pr st' ds/\Kept st st') ad fr st ds:=by
 unfold appQ at hq;split at hq
 ·simp only[vcR] at h ⊢;refine yZ3 (λe=>?_) h;refine zGg ?_ ?_
  ·refine yZ3 λs=>zGe (λtg xs=>yZ3 λy=>zGf λ_ ys h=>wJs h) λb off n cap=>yZ3 λy=>zGe (λ_ ys h=>?_) (λ_ _ _ _ h=>?_)
   all_goals (unfold qO at h;rw[if_pos hq] at h;exact h.elim)
  ·refine yZ3 λs=>zGf λtg _=>yZ3 λy=>zXl λ_ m h=>?_;obtain⟨h1,h2⟩:=h;exact⟨h1,λg cap hg=>⟨h2 g cap hg,Kept.new hg.1 _⟩⟩
 ·cases hq
theorem xUb {c:Cf}{ops:List Oper}{o:Oper}{R:Rt}{ad:Ad}{fr:Fr}{st:ISt}{ds:List Dfd}(hq:appQ c.esc o.dst o.op=true)(h:yZs c ops o R ad fr st ds) :
  yZs c ops o (λpr st' ds=>R pr st' ds/\Kept st st') ad fr st ds:=by
 unfold yZs at h ⊢;split at h
 ·exact xYb hq h
 ·split at h
  ·split at h
   ·split at h
    ·rename_i hb;rw[if_pos hb];exact xYb hq h
    ·rename_i hb;rw[if_neg hb];exact⟨h,Kept.refl _⟩
   ·exact⟨h,Kept.refl _⟩
   ·exact h.elim
  ·exact h.elim
def yK1 (ops:List Oper)(o:Oper)(fr fr':Fr):Prop:=∀j want d,o.guard=some (j,want)->yV3 ops j=some d->fr d=fr' d\/(∃cs cs',fr d=.box cs/\fr' d=.box cs')
theorem yJp {c:Cf}{ops:List Oper}{o:Oper}{R:Rt}{ad ad':Ad}{fr fr':Fr}{st:ISt}{ds:List Dfd}(h:SameAt c o.op ad ad' fr fr')(hg:yK1 ops o fr fr'):yZs c ops o R ad fr st ds=yZs c ops o R ad' fr' st ds:=by
 unfold yZs;rw[xUw h];cases hgo:o.guard with
 | none=>rfl
 | some p =>
  obtain⟨j,want⟩:=p;cases hd:yV3 ops j with
  | none=>simp only[hd]
  | some d =>
   simp only[hd];rcases hg j want d hgo hd with he|⟨cs,cs',h1,h2⟩
   ·rw[he]
   ·rw[h1,h2]
structure Fine (c:Cf)(op:Op)(ad:Ad)(fr:Fr)(pr:PR):Prop where
 isA:∀t off,pr=.adr t off->c.dr=true->xGq op=true
 adr:∀t off,pr=.adr t off->∃x∈op.operands,∃off',evA c.gl ad fr x=some (.box t off')
 sto:∀t cs,pr=.sto t cs->yVo op=true/\(∃cs0,fr t=.box cs0)/\∃x∈op.operands,∃off',evA c.gl ad fr x=some (.box t off')
 stoA:∀t cs,pr=.sto t cs->∀T a v,op=.store T a v->∃off',evA c.gl ad fr a=some (.box t off')
theorem yXh {c:Cf}{op:Op}{ad:Ad}{fr:Fr}{x:IV}:Fine c op ad fr (.val x):=⟨(λ_ _ h=>by cases h),(λ_ _ h=>by cases h),(λ_ _ h=>by cases h),(λ_ _ h=>by cases h)⟩
theorem wWg {c:Cf}{op:Op}{ad:Ad}{fr:Fr}{x:List IV}:Fine c op ad fr (.box x):=⟨(λ_ _ h=>by cases h),(λ_ _ h=>by cases h),(λ_ _ h=>by cases h),(λ_ _ h=>by cases h)⟩
theorem xWx {c:Cf}{op:Op}{ad:Ad}{fr:Fr}:Fine c op ad fr .nop:=⟨(λ_ _ h=>by cases h),(λ_ _ h=>by cases h),(λ_ _ h=>by cases h),(λ_ _ h=>by cases h)⟩
theorem zGt {c:Cf}{op:Op}{R:Rt}{ad:Ad}{fr:Fr}{st:ISt}{ds:List Dfd}{x:Operand}{p:Pl}(hdr:¬ c.dr=true)(hx:x∈op.operands)(hp:evA c.gl ad fr x=some p):plR p R st ds->plR p (λpr st ds=>R pr st ds/\Fine c op ad fr pr) st ds:=by
 cases p with
 | box t off=>exact λh=>⟨h,⟨(λ_ _ _ h0=>(hdr h0).elim),λt' off' he=>by cases he;exact⟨x,hx,off,hp⟩,(λ_ _ h=>by cases h),(λ_ _ h=>by cases h)⟩⟩
 | ptr b off=>exact λh=>⟨h,yXh⟩
 | cp y=>exact λh=>⟨h,yXh⟩
theorem zWq {c:Cf}{op:Op}{R:Rt}{ad:Ad}{fr:Fr}{st:ISt}{ds:List Dfd}{x:Operand}(hx:x∈op.operands)(o:Option IV) :
  zZ0 c.dr o (evA c.gl ad fr x) R st ds->zZ0 c.dr o (evA c.gl ad fr x) (λpr st ds=>R pr st ds/\Fine c op ad fr pr) st ds:=by
 unfold zZ0;split
 ·exact λh=>⟨h,yXh⟩
 ·split
  ·exact id
  ·intro h;obtain⟨p,hp,h⟩:=yQ2.1 h;exact yQ2.2 ⟨p,hp,zGt ‹_› hx hp h⟩
set_option maxHeartbeats 1000000 in
theorem xKo {c:Cf}{dst:Option Nat}{op:Op}{R:Rt}{ad:Ad}{fr:Fr}{st:ISt}{ds:List Dfd}:vcR c dst op R ad fr st ds->vcR c dst op (λpr st ds=>R pr st ds/\Fine c op ad fr pr) ad fr st ds:=by
 by_cases h1:∃x,op=.move x\/op=.assign x
 ·obtain⟨x,rfl|rfl⟩:=h1
  ·exact zWq (by simp[Op.operands]) _
  ·exact zWq (by simp[Op.operands]) _
 by_cases h2:∃x,op=.nilCheck x
 ·obtain⟨x,rfl⟩:=h2;simp only[vcR,nilV];split
  ·exact yJe (λh=>⟨h,yXh⟩) id
  ·exact λh=>⟨h,yXh⟩
  ·split
   ·exact λh=>⟨h,yXh⟩
   ·intro h;obtain⟨p,hp,h⟩:=yQ2.1 h;exact yQ2.2 ⟨p,hp,zGt ‹_› (by simp[Op.operands]) hp h⟩
  ·split
   ·exact id
   ·intro h;obtain⟨p,hp,h⟩:=yQ2.1 h;exact yQ2.2 ⟨p,hp,zGt ‹_› (by simp[Op.operands]) hp h⟩
 by_cases h3:∃T x i,op=.fieldAddr T x i
 ·obtain⟨T,x,i,rfl⟩:=h3;simp only[vcR];refine yZ3 λf=>λh=>?_;obtain⟨p,hp,h⟩:=yQ2.1 h;refine yQ2.2 ⟨p,hp,?_⟩;cases p with
  | box t off=>exact⟨h,⟨(λ_ _ _ _=>rfl),λt' off' he=>by cases he;exact⟨x,by simp[Op.operands],off,hp⟩,(λ_ _ h=>by cases h),(λ_ _ h=>by cases h)⟩⟩
  | ptr b off=>exact⟨h,yXh⟩
  | cp y=>exact zXm (λ_=>yZ3 λ_=>yJe (λh=>⟨h,yXh⟩) id) h
 by_cases h4:∃T x y,op=.indexAddr T x y
 ·obtain⟨T,x,y,rfl⟩:=h4;simp only[vcR];refine yZ3 λ_=>zXl λ_ j=>yZ3 λk=>?_;cases k with
  | sl=>exact yZ3 λ_=>yZ3 λ_=>xJ9 (λ_ _=>yJe (yJe (yZ3 λ_=>λh=>⟨h,yXh⟩) id) id) (λ_ _ _=>yJe (λh=>⟨h,yXh⟩) id)
  | arr n =>
   refine yZ3 λ_=>λh=>?_;obtain⟨p,hp,h⟩:=yQ2.1 h;refine yQ2.2 ⟨p,hp,yJe (yJe ?_ id) id h⟩;cases p with
   | box t off=>exact λh=>⟨h,⟨(λ_ _ _ _=>rfl),λt' off' he=>by cases he;exact⟨x,by simp[Op.operands],off,hp⟩,(λ_ _ h=>by cases h),(λ_ _ h=>by cases h)⟩⟩
   | ptr b off=>exact λh=>⟨h,yXh⟩
   | cp y=>exact zXm (λ_=>yZ3 λ_=>yJe (λh=>⟨h,yXh⟩) id)
  | str=>exact id
  | map=>exact id
 by_cases h5:∃T x y,op=.store T x y
 ·obtain⟨T,x,y,rfl⟩:=h5;simp only[vcR];refine yZ3 λ_=>yZ3 λ_=>xJc λh=>?_;obtain⟨p,hp,h⟩:=yQ2.1 h;refine yQ2.2 ⟨p,hp,?_⟩;revert h;cases p with
  | box t off =>
   simp only[yY6];cases hf:fr t with
   | box cs=>exact yJe (λh=>⟨h,⟨(λ_ _ h=>by cases h),(λ_ _ h=>by cases h),(λt' cs' he=>by cases he;exact⟨rfl,⟨cs,hf⟩,x,by simp[Op.operands],off,hp⟩),λt' cs' he T' a' v' ho=>by cases he;cases ho;exact⟨off,hp⟩⟩⟩) id
   | iv x=>exact id
  | ptr b off=>exact yZ3 λ_=>xJa λ_=>yJe (λh=>⟨h,xWx⟩) id
  | cp y=>exact id
 have hv:∀x st ds,R (.val x) st ds->R (.val x) st ds/\Fine c op ad fr (.val x):=λx st ds h=>⟨h,yXh⟩
 have hb:∀x st ds,R (.box x) st ds->R (.box x) st ds/\Fine c op ad fr (.box x):=λx st ds h=>⟨h,wWg⟩
 have hn:∀st ds,R .nop st ds->R .nop st ds/\Fine c op ad fr .nop:=λst ds h=>⟨h,xWx⟩
 generalize Fine c op ad fr=F at hv hb hn ⊢;unfold vcR;split
 all_goals first
  | exact absurd ⟨_,.inl rfl⟩ h1|exact absurd ⟨_,.inr rfl⟩ h1|exact absurd ⟨_,rfl⟩ h2|exact absurd ⟨_,_,_,rfl⟩ h3|exact absurd ⟨_,_,_,rfl⟩ h4|exact absurd ⟨_,_,_,rfl⟩ h5
  | repeat (first
   | exact hv _ _ _|exact hb _ _ _|exact hn _ _|exact id
   | refine yZ3 λ_=>?_|refine xJc ?_|refine wXk ?_|refine wXl ?_|refine wXm λ_=>?_|refine zK5 ?_ ?_|refine wG2 ?_ ?_|refine yJe ?_ ?_
   | refine xWg λ_=>?_|refine xJa λ_=>?_|refine wXg λ_ _=>?_|refine zXl λ_ _=>?_|refine zK6 λ_=>?_|refine zGf λ_ _=>?_|refine xJ9 (λ_ _=>?_) (λ_ _ _=>?_)|refine zGe (λ_ _=>?_) (λ_ _ _ _=>?_)|refine zGg ?_ ?_
   | refine zXm λ_=>?_|refine xWc λ_=>?_|refine xJb λ_ _ _=>?_|refine xWe λ_=>?_|refine xWd λ_=>?_|refine xWf λ_=>?_|refine xWh λ_=>?_|refine wXj λ_ _ _ _=>?_|refine wXi λ_ _=>?_|refine wXh ?_ (λ_ _=>?_)
   | (refine λhh=>callV.mono hh λ_ _=>?_;unfold zKw)
   | unfold yWn|unfold yWw|unfold zYz|unfold zQ3|unfold yVv|unfold arrV|unfold zZu|unfold zZ1|unfold yY5|unfold xV9|unfold wVt|unfold xY1|unfold lenV|unfold appV|unfold qO|unfold appO|unfold appR|unfold appZ|unfold capV|unfold zWw|unfold xJ0|unfold zGz
   | split)
def yVi (ad:Ad)(d:Nat):Prop:=∀x t off,ad x=some (t,off)->t≠d
theorem xJ7 {ad:Ad}{d:Nat}(h:yVi ad d)(s:Nat):Ad.keep d (ad s)=ad s:=by
 cases ha:ad s with
 | none=>rfl
 | some p =>
  obtain⟨t,off⟩:=p;simp only[Ad.keep,if_neg (h s t off ha)]
theorem zGu {c:Cf}{ad:Ad}{fr:Fr}{x:Operand}{t off d:Nat}(h:evA c.gl ad fr x=some (.box t off))(hb:yVi ad d)(hx:x≠.tmp d):t≠d:=by
 cases x with
 | tmp y =>
  simp only[evA] at h;cases ha:ad y with
  | some p =>
   obtain⟨t',off'⟩:=p;rw[ha] at h;simp only[plAd,Option.some.injEq,Pl.box.injEq] at h;exact h.1▸hb y t' off' ha
  | none =>
   rw[ha] at h;simp only[plAd] at h;cases hf:fr y with
   | box cs =>
    rw[hf] at h;simp only[plOf,Option.some.injEq,Pl.box.injEq] at h;rintro rfl;exact hx (by rw[h.1])
   | iv z =>
    rw[hf] at h;exfalso;cases z with
    | raw u =>
     cases u with
     | pointer p =>
      cases p with
      | none=>cases h
      | some p =>
       obtain⟨pb,po,ps⟩:=p;cases ps<;>cases h
     | _=>cases h
    | _=>cases h
 | global g=>simp only[evA] at h;cases hg:c.gl g<;>rw[hg] at h<;>cases h
 | const v=>cases h
 | func f=>cases h
theorem xG1 {c:Cf}{op:Op}{ad:Ad}{fr:Fr}{d:Nat}{a:Option (Nat×Nat)}{s:SV}(hd:∀x∈op.operands,x≠.tmp d)(hb:yVi ad d):SameAt c op ad (ad.put d a) fr (fr.put d s):=by
 refine⟨λx hx=>?_,λx hx=>?_,λ_ x hx t off he=>?_⟩
 ·cases x with
  | tmp y=>rw[zZb,zZb,Fr.put_apply,if_neg (λh=>hd _ hx (by rw[h]))]
  | _=>rfl
 ·cases x with
  | tmp y =>
   have hy:y≠d:=λh=>hd _ hx (by rw[h]);simp only[evA,Ad.put_apply,if_neg hy,xJ7 hb];cases ad y with
   | none=>simp only[plAd,Fr.put_apply,if_neg hy]
   | some p=>rfl
  | _=>rfl
 ·rw[Fr.put_apply,if_neg (zGu he hb (hd x hx))]
theorem xG0 {c:Cf}{op:Op}{ad:Ad}{fr:Fr}{t:Nat}{cs cs':List IV}(ht:fr t=.box cs)(h:(zZt op || yVo op)=false):SameAt c op ad ad fr (fr.put t (.box cs')):=by
 refine⟨λx _=>?_,λx _=>?_,λh'=>by rw[h] at h';cases h'⟩
 ·cases x with
  | tmp y =>
   rw[zZb,zZb,Fr.put_apply];split
   ·rename_i hy;rw[hy,ht];rfl
   ·rfl
  | _=>rfl
 ·cases x with
  | tmp y =>
   simp only[evA];cases ad y with
   | none =>
    simp only[plAd,Fr.put_apply];split
    ·rename_i hy;rw[hy,ht];rfl
    ·rfl
   | some p=>rfl
  | _=>rfl
theorem zYj {ops:List Oper}{o:Oper}{fr:Fr}{d:Nat}{s:SV}(h:d ∉ looks ops o):yK1 ops o fr (fr.put d s):=by
 intro j want e hg he;refine .inl ?_;rw[Fr.put_apply,if_neg];rintro rfl;exact h (List.mem_append_right _ (by rw[hg];simp[he]))
theorem yUv {ops:List Oper}{o:Oper}{fr:Fr}{t:Nat}{cs cs':List IV}(ht:fr t=.box cs):yK1 ops o fr (fr.put t (.box cs')):=by
 intro j want e _ _;rw[Fr.put_apply];by_cases he:e=t
 ·rw[if_pos he,he];exact .inr ⟨cs,cs',ht,rfl⟩
 ·rw[if_neg he];exact .inl rfl
theorem yYj {ops:List Oper}{o:Oper}{d:Nat}(h:d ∉ looks ops o):∀x∈o.op.operands,x≠.tmp d:=by
 rintro x hx rfl;exact h (List.mem_append_left _ (List.mem_filterMap.2 ⟨.tmp d,by simpa using hx,rfl⟩))
def after (dst:Option Nat)(pr:PR)(ad:Ad)(fr:Fr):Option (Ad×Fr) :=
 match pr,dst with
 | .val x,some d=>some (ad.put d none,fr.put d (.iv x))
 | .val _,none=>some (ad,fr)
 | .adr t off,some d=>if d=t then none else some (ad.put d (some (t,off)),fr.put d (.iv .junk))
 | .adr _ _,none=>some (ad,fr)
 | .box cs,some d=>some (ad.put d none,fr.put d (.box cs))
 | .box _,none=>none
 | .sto _ _,some _=>none
 | .sto t cs,none=>some (ad,fr.put t (.box cs))
 | .nop,some _=>none
 | .nop,none=>some (ad,fr)
theorem yZd {dst:Option Nat}{K:Kt}{ad:Ad}{fr:Fr}{pr:PR}{st:ISt}{ds:List Dfd}:finK dst K ad fr pr st ds↔∃p,after dst pr ad fr=some p/\K p.1 p.2 st ds:=by
 cases pr<;>cases dst<;>simp only[finK,after,Option.some.injEq,exists_eq_left',reduceCtorEq,false_and,exists_false];split<;>simp
theorem yKe {c:Cf}{ops:List Oper}{o:Oper}{R:Rt}{ad:Ad}{fr:Fr}{st:ISt}{ds:List Dfd}(h:yZs c ops o R ad fr st ds):yZs c ops o (λpr st ds=>R pr st ds/\Fine c o.op ad fr pr) ad fr st ds:=by
 unfold yZs at *;split
 ·exact xKo (by simpa[*] using h)
 ·rename_i j want hg;rw[hg] at h;simp only at h;split at h
  ·rename_i d hd;cases hs:fr d with
   | box cs=>rw[hs] at h;exact h.elim
   | iv x =>
    cases x with
    | raw v =>
     cases v with
     | bool b =>
      rw[hs] at h;simp only at h ⊢;split
      ·rename_i hw;rw[if_pos hw] at h;exact xKo h
      ·rename_i hw;rw[if_neg hw] at h;exact⟨h,yXh⟩
     | tuple t=>rw[hs] at h;exact⟨h,yXh⟩
     | _=>rw[hs] at h;exact h.elim
    | _=>rw[hs] at h;exact h.elim
  ·exact h.elim
structure Ap (c:Cf)(ops:List Oper)(x y:Oper):Prop where
 pure:yXw c.esc x.dst x.op=true\/yXw c.esc y.dst y.op=true
 ls:zZt x.op=true->yVo y.op=true->stOk ops y x=true
 sl:yVo x.op=true->zZt y.op=true->stOk ops x y=true
 d:∀d,x.dst=some d->d ∉ looks ops y/\y.dst≠some d
 e:∀d,y.dst=some d->d ∉ looks ops x
theorem Ap.symm {c:Cf}{ops:List Oper}{x y:Oper}(h:Ap c ops x y):Ap c ops y x :=
 ⟨h.pure.symm,λa b=>h.sl b a,λa b=>h.ls b a,λd hd=>⟨h.e d hd,λhx=>(h.d d hx).2 hd⟩,λd hd=>(h.d d hd).1⟩
theorem zUx {esc:List Nat}{dst:Option Nat}{op:Op}(h:zVg esc dst op=true):yVo op=false:=by
 cases op<;>first|rfl|simp[zVg] at h
theorem yK8 {esc:List Nat}{dst:Option Nat}{op:Op}(h:yXw esc dst op=true):yVo op=false:=by
 unfold yXw at h;rw[Bool.or_eq_true] at h;rcases h with h|h
 ·exact zUx h
 ·cases op<;>first|rfl|cases h
theorem kQ5 {c:Cf}{ops:List Oper}{x y:Oper}(h:wJt c.esc ops x y=true):Ap c ops x y:=by
 unfold wJt at h;simp only[bAt,Bool.or_eq_true,Bool.not_eq_true',Bool.and_eq_false_iff] at h;obtain⟨⟨⟨⟨h1,h2⟩,h3⟩,h4⟩,h5⟩:=h;refine⟨h1,λa b=>by rcases h2 with h2|h2<;>simp_all,λa b=>by rcases h3 with h3|h3<;>simp_all,λd hd=>?_,λd hd=>?_⟩
 ·rw[hd] at h4;simp only[bAt,Bool.not_eq_true'] at h4;exact⟨by simpa using h4.1,by simpa using h4.2⟩
 ·rw[hd] at h5;simpa using h5
def Safe (ops:List Oper)(ad:Ad):Prop:=∀e,wVa ops e=true->yVi ad e/\ad e=none
theorem wQs (ops:List Oper):Safe ops Ad.none_:=λ_ _=>⟨λ_ _ _ h=>(by cases h),rfl⟩
theorem xV4 {ops:List Oper}{e:Nat}(h:wVa ops e=true){o:Oper}(ho:o∈ops)(ha:xGq o.op=true):e ∉ looks ops o/\o.dst≠some e:=by
 unfold wVa at h;have:=List.all_eq_true.1 h o ho;rw[ha] at this;simp only[Bool.not_true,Bool.false_or,bAt,Bool.not_eq_true'] at this;exact⟨by simpa using this.1,by simpa using this.2⟩
theorem yKg {c:Cf}{ops:List Oper}{x y:Oper}(h:Ap c ops x y){ad:Ad}(hsf:Safe ops ad){fr:Fr}{pr:PR}{p:Ad×Fr}(hb:∀d,x.dst=some d->yVi ad d)(hf:Fine c x.op ad fr pr)(ha:after x.dst pr ad fr=some p) :
  SameAt c y.op ad p.1 fr p.2/\yK1 ops y fr p.2:=by
 have refl:SameAt c y.op ad ad fr fr/\yK1 ops y fr fr:=⟨⟨λ_ _=>rfl,λ_ _=>rfl,λ_ _ _ _ _ _=>rfl⟩,λ_ _ _ _ _=>.inl rfl⟩
 cases hx:x.dst with
 | none =>
  rw[hx] at ha;cases pr with
  | sto t cs =>
   simp only[after,Option.some.injEq] at ha;subst ha;obtain⟨hs,⟨cs0,ht⟩,_⟩:=hf.sto t cs rfl;have hst:yVo y.op=false:=by
    rcases h.pure with hp|hp
    ·rw[yK8 hp] at hs;cases hs
    ·exact yK8 hp
   cases hl:zZt y.op with
   | false=>exact⟨xG0 ht (by rw[hl,hst];rfl),yUv ht⟩
   | true =>
    have hok:=h.sl hs hl;unfold stOk at hok;split at hok
    ·rename_i T e v hxo;rw[bAt] at hok;obtain⟨hno,hnone⟩:=hsf e hok.1;have hey:e ∉ looks ops y:=by simpa using hok.2
     obtain⟨off,hea⟩:=hf.stoA t cs rfl T _ v hxo;have hte:t=e:=by
      simp only[evA,hnone,plAd] at hea;cases hfe:fr e with
      | box cs1=>rw[hfe] at hea;simp only[plOf,Option.some.injEq,Pl.box.injEq] at hea;exact hea.1.symm
      | iv x1 =>
       rw[hfe] at hea;unfold plOf at hea;split at hea<;>first|(cases hea;done)|(cases hea;rfl)
     subst hte;show SameAt c y.op ad ad fr (fr.put t (.box cs))/\yK1 ops y fr (fr.put t (.box cs));refine⟨⟨λx hx=>?_,λx hx=>?_,λ_ x hx t2 off2 he2=>?_⟩,yUv ht⟩
     ·have hne:=yYj hey x hx;cases x with
      | tmp q =>
       rw[zZb,zZb,Fr.put_apply,if_neg λhq=>hne (by rw[hq])]
      | _=>rfl
     ·have hne:=yYj hey x hx;cases x with
      | tmp q =>
       simp only[evA];cases ad q with
       | none=>simp only[plAd];rw[Fr.put_apply,if_neg λhq=>hne (by rw[hq])]
       | some p=>rfl
      | _=>rfl
     ·rw[Fr.put_apply,if_neg (zGu he2 hno (yYj hey x hx))]
    ·cases hok
  | _=>simp only[after,Option.some.injEq,reduceCtorEq] at ha<;>subst ha<;>exact refl
 | some d =>
  rw[hx] at ha;have hd:=h.d d hx;have key:∀a s,SameAt c y.op ad (ad.put d a) fr (fr.put d s)/\yK1 ops y fr (fr.put d s):=λa s=>⟨xG1 (yYj hd.1) (hb d hx),zYj hd.1⟩
  cases pr with
  | adr t off =>
   simp only[after] at ha;split at ha
   ·cases ha
   ·cases ha;exact key _ _
  | _=>simp only[after,Option.some.injEq,reduceCtorEq] at ha<;>subst ha<;>exact key _ _
theorem zYo {fr:Fr}{d e:Nat}{s t:SV}(h:d≠e):(fr.put d s).put e t=(fr.put e t).put d s:=by
 funext x;simp only[Fr.put_apply];by_cases h1:x=e
 ·rw[if_pos h1,if_neg (λh2=>h (by rw[<- h2,h1])),if_pos h1]
 ·rw[if_neg h1,if_neg h1]
theorem wXa {d e:Nat}(o:Option (Nat×Nat)):Ad.keep d (Ad.keep e o)=Ad.keep e (Ad.keep d o):=by
 cases o with
 | none=>rfl
 | some p =>
  obtain⟨t,off⟩:=p;by_cases h1:t=e
  ·by_cases h2:t=d
   ·simp only[Ad.keep,if_pos h1,if_pos h2]
   ·simp only[Ad.keep,if_pos h1,if_neg h2]
  ·by_cases h2:t=d
   ·simp only[Ad.keep,if_neg h1,if_pos h2]
   ·simp only[Ad.keep,if_neg h1,if_neg h2]
theorem xUe {ad:Ad}{d e:Nat}{a b:Option (Nat×Nat)}(h:d≠e)(ha:Ad.keep e a=a)(hb:Ad.keep d b=b):(ad.put d a).put e b=(ad.put e b).put d a:=by
 funext x;simp only[Ad.put_apply];by_cases h1:x=e
 ·have h2:x≠d:=λh2=>h (by rw[<- h2,h1]);rw[if_pos h1,if_neg h2,if_pos h1,hb]
 ·by_cases h2:x=d
  ·rw[if_neg h1,if_pos h2,if_pos h2,ha]
  ·rw[if_neg h1,if_neg h2,if_neg h2,if_neg h1,wXa]
theorem zQd {c:Cf}{ops:List Oper}{y:Oper}{d:Nat}{ad:Ad}{fr:Fr}(hd:d ∉ looks ops y)(hb:yVi ad d){t:Nat}(h:∃x∈y.op.operands,∃off',evA c.gl ad fr x=some (.box t off')):t≠d:=by
 obtain⟨x,hx,off',he⟩:=h;exact zGu he hb (yYj hd x hx)
theorem yWa {d:Nat}{pr:PR}{ad:Ad}{fr:Fr}{p:Ad×Fr}(h:after (some d) pr ad fr=some p):∃a s,p=(ad.put d a,fr.put d s)/\(∀ad' fr',after (some d) pr ad' fr'=some (ad'.put d a,fr'.put d s)) /\
  (a=none\/∃t off,pr=.adr t off/\a=some (t,off)):=by
 cases pr with
 | val x=>cases h;exact⟨_,_,rfl,λ_ _=>rfl,.inl rfl⟩
 | box x=>cases h;exact⟨_,_,rfl,λ_ _=>rfl,.inl rfl⟩
 | adr t off =>
  simp only[after] at h;split at h
  ·cases h
  ·rename_i hne;cases h;exact⟨_,_,rfl,λ_ _=>if_neg hne,.inr ⟨t,off,rfl,rfl⟩⟩
 | sto t cs=>cases h
 | nop=>cases h
theorem zZh {c:Cf}{ops:List Oper}{x y:Oper}(h:Ap c ops x y){ad:Ad}{fr:Fr}{px py:PR}{p q:Ad×Fr}(hbx:∀d,x.dst=some d->yVi ad d)(hby:∀d,y.dst=some d->yVi ad d)
  (hfx:Fine c x.op ad fr px) (hfy:Fine c y.op ad fr py) (hp:after x.dst px ad fr=some p) (hq:after y.dst py ad fr=some q) :
  ∃r,after y.dst py p.1 p.2=some r/\after x.dst px q.1 q.2=some r:=by
 have hkx:∀d t off,x.dst=some d->py=.adr t off->Ad.keep d (some (t,off))=some (t,off):=λd t off hd he=>by
  simp only[Ad.keep,if_neg (zQd (h.d d hd).1 (hbx d hd) (hfy.adr t off he))]
 have hky:∀d t off,y.dst=some d->px=.adr t off->Ad.keep d (some (t,off))=some (t,off):=λd t off hd he=>by
  simp only[Ad.keep,if_neg (zQd (h.e d hd) (hby d hd) (hfx.adr t off he))]
 have hsx:∀d t cs,x.dst=some d->py=.sto t cs->t≠d:=λd t cs hd he=>zQd (h.d d hd).1 (hbx d hd) (hfy.sto t cs he).2.2;have hsy:∀d t cs,y.dst=some d->px=.sto t cs->t≠d:=λd t cs hd he=>zQd (h.e d hd) (hby d hd) (hfx.sto t cs he).2.2;have hss:∀t cs t' cs',px=.sto t cs->py=.sto t' cs'->False:=λt cs t' cs' h1 h2=>by
  have a:=(hfx.sto t cs h1).1;have b:=(hfy.sto t' cs' h2).1;rcases h.pure with hq|hq
  ·rw[yK8 hq] at a;cases a
  ·rw[yK8 hq] at b;cases b
 cases hx:x.dst with
 | none =>
  cases hy:y.dst with
  | none =>
   rw[hx] at hp;rw[hy] at hq;cases px<;>cases py<;>simp only[after,Option.some.injEq,reduceCtorEq] at hp hq<;>subst hp hq<;>first|exact⟨_,rfl,rfl⟩|exact (hss _ _ _ _ rfl rfl).elim
  | some e =>
   rw[hx] at hp;rw[hy] at hq;cases px with
   | sto t cs =>
    have ht:=hsy e t cs hy rfl;simp only[after,Option.some.injEq] at hp;subst hp;cases py with
    | adr t' off =>
     simp only[after] at hq;split at hq
     ·cases hq
     ·rename_i hne;cases hq;exact⟨_,if_neg hne,by simp only[after];rw[zYo (λh=>ht h.symm)]⟩
    | _=>simp only[after,Option.some.injEq,reduceCtorEq] at hq<;>subst hq<;>exact⟨_,rfl,by simp only[after];rw[zYo (λh=>ht h.symm)]⟩
   | _=>simp only[after,Option.some.injEq,reduceCtorEq] at hp<;>subst hp<;>exact⟨_,hq,rfl⟩
 | some d =>
  rw[hx] at hp;obtain⟨a,s,rfl,hall,ha⟩:=yWa hp;cases hy:y.dst with
  | none =>
   rw[hy] at hq;cases py with
   | sto t cs =>
    have ht:=hsx d t cs hx rfl;cases hq;exact⟨_,rfl,by rw[hall,zYo ht]⟩
   | box cs=>cases hq
   | _=>cases hq;exact⟨_,rfl,hall _ _⟩
  | some e =>
   rw[hy] at hq;obtain⟨b,s',rfl,hall',hb⟩:=yWa hq;have hde:d≠e:=λh0=>(h.d d hx).2 (by rw[hy,h0]);have hka:Ad.keep e a=a:=by
    rcases ha with rfl|⟨t,off,h1,rfl⟩
    ·rfl
    ·exact hky e t off hy h1
   have hkb:Ad.keep d b=b:=by
    rcases hb with rfl|⟨t,off,h1,rfl⟩
    ·rfl
    ·exact hkx d t off hx h1
   exact⟨_,hall' _ _,by rw[hall,zYo hde,xUe hde hka hkb]⟩
