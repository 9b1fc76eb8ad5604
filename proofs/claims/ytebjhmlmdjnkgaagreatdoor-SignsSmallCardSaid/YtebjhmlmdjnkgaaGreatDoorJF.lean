/- The layer of ideal values, part O: regio -/
import Derived.Test.YtebjhmlmdjnkgaaGreatDoorJE
set_option linter.all false
namespace Go.Iv
open Go
section
variable {α:Type}{p q p' q':Prop}
theorem yZa {o:Option α}{f g:α->Prop}(h:∀x,f x->g x):yQ6 o f->yQ6 o g:=by
 cases o<;>simp only[yQ6]<;>first|exact h _|exact id
theorem xX4 {c:Prop}(h:p->q):chk c p->chk c q:=λx=>⟨x.1,h x.2⟩
theorem wQh {c:Prop}(h:p->q):giv c p->giv c q:=λx y=>h (x y)
theorem wQi {c:Prop}(h:p->q):(c->p)->(c->q):=λx y=>h (x y)
theorem wQj {f g:α->Prop}(h:∀x,f x->g x):(∀x,f x)->(∀x,g x):=λhf x=>h x (hf x)
theorem zJn {b:Bool}{k:Lock p}{l:Lock q}{k':Lock p'}{l':Lock q'}(h:p->p')(h':q->q'):yGf b p q k l->yGf b p' q' k' l':=λx=>⟨λhb=>h (x.1 hb),λhb=>h' (x.2 hb)⟩
theorem wY2 (h:p->p')(h':q->q'):p\/q->p'\/q':=λx=>x.imp h h'
theorem yJu {c:Prop} [Decidable c](h:p->p')(h':q->q'):(if c then p else q)->(if c then p' else q'):=by split<;>assumption
theorem xV1 {s:SV}{f g:List IV->Prop}(h:∀x,f x->g x):boxV s f->boxV s g:=by unfold boxV;split<;>first|exact h _|exact id
theorem xX2 {s:IObj}{f g:List IV->Prop}(h:∀x,f x->g x):obV s f->obV s g:=by unfold obV;split<;>first|exact h _|exact id
theorem wQd {s:IObj}{f g:KeyK->List (Value×IV)->Prop}(h:∀x y,f x y->g x y):omV s f->omV s g:=by unfold omV;split<;>first|exact h _ _|exact id
theorem zX3 {s:IV}{f g:IntKind->Int->Prop}(h:∀x y,f x y->g x y):intV s f->intV s g:=by unfold intV;split<;>first|exact h _ _|exact id
theorem zJo {s:IV}{f g:Bool->Prop}(h:∀x,f x->g x):zZm s f->zZm s g:=by unfold zZm;split<;>first|exact h _|exact id
theorem zY8 {s:IV}{f g:Tag->List IV->Prop}(h:∀x y,f x y->g x y):slV s f->slV s g:=by unfold slV;split<;>first|exact h _ _|exact id
theorem xX1 {s:IV}{f f':Tag->List IV->Prop}{g g':Nat->Nat->Nat->Prop}(h:∀x y,f x y->f' x y)(h':∀x y z,g x y z->g' x y z):slX s f g->slX s f' g':=by unfold slX;split<;>first|exact h _ _|exact h' _ _ _|exact id
theorem zY7 {s:IV}{f f':Tag->List IV->Prop}{g g':Nat->Nat->Nat->Nat->Prop}(h:∀x y,f x y->f' x y)(h':∀x y z u,g x y z u->g' x y z u):slY s f g->slY s f' g':=by unfold slY;split<;>first|exact h _ _|exact h' _ _ _ _|exact id
theorem zY9 {k:Option LenK}{i:Option IntKind}{f f' g g':Prop}(h:f->f')(h':g->g'):appK k i f g->appK k i f' g':=by unfold appK;split<;>first|exact h|exact h'|exact id
theorem zX4 {s:IV}{f g:List IV->Prop}(h:∀x,f x->g x):aggV s f->aggV s g:=by unfold aggV;split<;>first|exact h _|exact id
theorem xKx {s:IV}{f g:List IV->Prop}(h:∀x,f x->g x):tupV s f->tupV s g:=by unfold tupV;split<;>first|exact h _|exact id
theorem xX3 {s:IV}{f g:Fn->List IV->List IV->Prop}(h:∀x y z,f x y z->g x y z):fnV s f->fnV s g:=by unfold fnV;split<;>first|exact h _ _ _|exact id
theorem xKz {s:IV}{f g:Option Nat->Prop}(h:∀x,f x->g x):mapV s f->mapV s g:=by unfold mapV;split<;>first|exact h _|exact id
theorem xV0 {s:IV}{f g:Value->Prop}(h:∀x,f x->g x):keyV s f->keyV s g:=by unfold keyV;split<;>first|exact h _|exact λk hs=>h _ (k hs)|exact id
theorem xV2 {s:IV}{f g:Nat->Prop}(h:∀x,f x->g x):adrV s f->adrV s g:=by unfold adrV;split<;>first|exact h _|exact id
theorem wQg {s:IObj}{f g:Nat->Nat->Array Nat->Nat->Prop}(h:∀x y z u,f x y z u->g x y z u):itO s f->itO s g:=by unfold itO;split<;>first|exact h _ _ _ _|exact id
theorem wQf {s:IObj}{f g:Array MapEntry->Nat->Prop}(h:∀x y,f x y->g x y):mxO s f->mxO s g:=by unfold mxO;split<;>first|exact h _ _|exact id
theorem wQe {e:Array MapEntry}{n:Array Nat}{p p':Prop}{q q':MapEntry->IV->Prop}{k:Lock p}{l:Lock q}{k':Lock p'}{l':Lock q'}(h:p->p')(h':∀x y,q x y->q' x y):nxR e n p q k l->nxR e n p' q' k' l':=λx=>⟨λy=>h (x.1 y),λa b c d=>h' _ _ (x.2 a b c d)⟩
theorem xKy {s:IV}{f g:Value->Prop}(h:∀x,f x->g x):rawV s f->rawV s g:=by unfold rawV;split<;>first|exact h _|exact id
end
section
variable {R R':Rt}(h:∀pr st ds,R pr st ds->R' pr st ds)
include h
set_option maxHeartbeats 1000000 in
theorem yYy {c:Cf}{dst:Option Nat}{op:Op}{ad:Ad}{fr:Fr}{st:ISt}{ds:List Dfd}:vcR c dst op R ad fr st ds->vcR c dst op R' ad fr st ds:=by
 unfold vcR;split
 all_goals try unfold zQ8
 all_goals try unfold nilV
 all_goals repeat (first
  | exact h _ _ _|exact id
  | refine yZa λ_=>?_|refine xX4 ?_|refine wQh ?_|refine wQi ?_|refine wQj λ_=>?_|refine zJn ?_ ?_|refine wY2 ?_ ?_|refine yJu ?_ ?_
  | refine xV1 λ_=>?_|refine xX2 λ_=>?_|refine wQd λ_ _=>?_|refine zX3 λ_ _=>?_|refine zJo λ_=>?_|refine zY8 λ_ _=>?_|refine xX1 (λ_ _=>?_) (λ_ _ _=>?_)|refine zY7 (λ_ _=>?_) (λ_ _ _ _=>?_)|refine zY9 ?_ ?_
  | refine zX4 λ_=>?_|refine xKx λ_=>?_|refine xX3 λ_ _ _=>?_|refine xKz λ_=>?_|refine xKy λ_=>?_|refine xV0 λ_=>?_|refine xV2 λ_=>?_|refine wQg λ_ _ _ _=>?_|refine wQf λ_ _=>?_|refine wQe ?_ (λ_ _=>?_)
  | (refine λhh=>callV.mono hh λ_ _=>?_;unfold zK1)
  | unfold yWk|unfold yY1|unfold zY2|unfold yUg|unfold yYb|unfold zZd|unfold xWy|unfold idxV|unfold yGg|unfold arrV|unfold zZc|unfold zQa|unfold yYa|unfold zV9|unfold xWg|unfold zVw|unfold lenV|unfold appV|unfold qO|unfold appO|unfold appR|unfold appZ|unfold capV|unfold xVb|unfold xZr|unfold zYn|unfold plR
  | split)
end
def zKh (esc:List Nat)(dst:Option Nat):Op->Bool
 | .move _|.assign _|.pick ..|.build ..=>true
 | .buildSlice ..=>!yKm esc dst
 | .load ..=>!yKm esc dst
 | .nilCheck _|.binOp ..|.unOp ..|.convert ..|.makeFunc ..|.slice ..|.fieldAddr ..|.field ..|.indexAddr ..|.index ..|.extract ..=>true
 | .alloc _|.box ..=>match dst with|some d=>!esc.contains d|none=>false
 | .call ⟨.builtin .len,_,_⟩|.call ⟨.builtin .max,_,_⟩=>true
 | .call ⟨.value (.func g),_,_⟩=>esc.contains (g+1000000)
 | _=>false
def zZb:Op->Bool
 | .load ..=>true
 | _=>false
def yVr:Op->Bool
 | .store ..=>true
 | _=>false
def yJd (esc:List Nat)(dst:Option Nat)(op:Op):Bool:=zKh esc dst op || zZb op
def vXn (l:List Operand):List Nat:=l.filterMap λ| .tmp t=>some t|_=>none
def looks (ops:List Oper)(o:Oper):List Nat:=vXn o.op.operands.toList++(match o.guard with|some (j,_)=>(yVb ops j).toList|none=>[])
def xWt:Op->Bool
 | .fieldAddr ..=>true
 | .indexAddr ..=>true
 | _=>false
def wJ3 (ops:List Oper)(e:Nat):Bool:=ops.all λo=>!xWt o.op || (!(looks ops o).contains e&&!(o.dst == some e))
def stOk (ops:List Oper)(x y:Oper):Bool :=
 match x.op with
 | .store _ (.tmp e) _=>wJ3 ops e&&!(looks ops y).contains e
 | _=>false
def wZj (esc:List Nat)(ops:List Oper)(x y:Oper):Bool :=
 (yJd esc x.dst x.op || yJd esc y.dst y.op)&&(!(zZb x.op&&yVr y.op) || stOk ops y x)&&(!(zZb y.op&&yVr x.op) || stOk ops x y) &&
 (match x.dst with|some d=>!(looks ops y).contains d&&!(y.dst == some d)|none=>true)&&(match y.dst with|some d=>!(looks ops x).contains d|none=>true)
def Lin (F:Rt->ISt->List Dfd->Prop):Prop:=(∃pr,∀R st ds,F R st ds↔R pr st ds)\/(∀R st ds,¬ F R st ds)
theorem yXd (pr:PR):Lin (λR st ds=>R pr st ds):=.inl ⟨pr,λ_ _ _=>Iff.rfl⟩
theorem yZj:Lin (λ_ _ _=>False):=.inr λ_ _ _ h=>h
theorem yQc {α:Type}{o:Option α}{F:α->Rt->ISt->List Dfd->Prop}(h:∀x,Lin (F x)):Lin (λR st ds=>yQ6 o λx=>F x R st ds):=by
 cases o with
 | none=>exact yZj
 | some x=>exact h x
theorem yWm {c:Prop}{F:Rt->ISt->List Dfd->Prop}(h:Lin F):Lin (λR st ds=>chk c (F R st ds)):=by
 by_cases hc:c
 ·rcases h with⟨pr,h⟩|h
  ·exact .inl ⟨pr,λR st ds=>⟨λx=>(h R st ds).1 x.2,λx=>⟨hc,(h R st ds).2 x⟩⟩⟩
  ·exact .inr λR st ds x=>h R st ds x.2
 ·exact .inr λR st ds x=>hc x.1
theorem yJs {c:Prop} [Decidable c]{F G:Rt->ISt->List Dfd->Prop}(h:Lin F)(h':Lin G):Lin (λR st ds=>if c then F R st ds else G R st ds):=by
 by_cases hc:c
 ·simpa only[if_pos hc] using h
 ·simpa only[if_neg hc] using h'
theorem wQ0 {c:Prop}{F:Rt->ISt->List Dfd->Prop}(hc:c)(h:Lin F):Lin (λR st ds=>c->F R st ds):=by
 rcases h with⟨pr,h⟩|h
 ·exact .inl ⟨pr,λR st ds=>⟨λx=>(h R st ds).1 (x hc),λx _=>(h R st ds).2 x⟩⟩
 ·exact .inr λR st ds x=>h R st ds (x hc)
theorem wQ2 {b:Bool}{F G:Rt->ISt->List Dfd->Prop}(h:Lin F)(h':Lin G):Lin (λR st ds=>yGf b (F R st ds) (G R st ds) .mk .mk):=by
 cases b
 ·simpa only[xXb] using h'
 ·simpa only[xY0] using h
theorem xKn {s:SV}{F:List IV->Rt->ISt->List Dfd->Prop}(h:∀x,Lin (F x)):Lin (λR st ds=>boxV s λx=>F x R st ds):=by
 cases s<;>first|exact h _|exact yZj
theorem zX0 {s:IV}{F:IntKind->Int->Rt->ISt->List Dfd->Prop}(h:∀x y,Lin (F x y)):Lin (λR st ds=>intV s λx y=>F x y R st ds):=by
 cases s with
 | raw v=>cases v<;>first|exact h _ _|exact yZj
 | _=>exact yZj
theorem wQ3 {s:IV}{F:Bool->Rt->ISt->List Dfd->Prop}(h:∀x,Lin (F x)):Lin (λR st ds=>zZm s λx=>F x R st ds):=by
 cases s with
 | raw v=>cases v<;>first|exact h _|exact yZj
 | _=>exact yZj
theorem xUy {s:IV}{F:Tag->List IV->Rt->ISt->List Dfd->Prop}{G:Nat->Nat->Nat->Rt->ISt->List Dfd->Prop}(h:∀x y,Lin (F x y))(h':∀x y z,Lin (G x y z)):Lin (λR st ds=>slX s (λx y=>F x y R st ds) (λx y z=>G x y z R st ds)):=by
 by_cases hs:∃t xs,s=.sl t xs
 ·obtain⟨t,xs,rfl⟩:=hs;exact h _ _
 ·by_cases hr:∃b off n cap,s=.raw (.slice (some ⟨b,off,none⟩) n cap)
  ·obtain⟨b,off,n,cap,rfl⟩:=hr;exact h' _ _ _
  ·refine .inr λR st ds hh=>?_;simp only at hh;unfold slX at hh;split at hh
   ·exact hs ⟨_,_,rfl⟩
   ·exact hr ⟨_,_,_,_,rfl⟩
   ·exact hh
theorem wUl {s:IV}{F:Tag->List IV->Rt->ISt->List Dfd->Prop}{G:Nat->Nat->Nat->Nat->Rt->ISt->List Dfd->Prop}(h:∀x y,Lin (F x y))(h':∀x y z u,Lin (G x y z u)):Lin (λR st ds=>slY s (λx y=>F x y R st ds) (λx y z u=>G x y z u R st ds)):=by
 by_cases hs:∃t xs,s=.sl t xs
 ·obtain⟨t,xs,rfl⟩:=hs;exact h _ _
 ·by_cases hr:∃b off n cap,s=.raw (.slice (some ⟨b,off,none⟩) n cap)
  ·obtain⟨b,off,n,cap,rfl⟩:=hr;exact h' _ _ _ _
  ·refine .inr λR st ds hh=>?_;simp only at hh;unfold slY at hh;split at hh
   ·exact hs ⟨_,_,rfl⟩
   ·exact hr ⟨_,_,_,_,rfl⟩
   ·exact hh
theorem zX1 {s:IV}{F:List IV->Rt->ISt->List Dfd->Prop}(h:∀x,Lin (F x)):Lin (λR st ds=>aggV s λx=>F x R st ds):=by
 cases s<;>first|exact h _|exact yZj
theorem wJv {s:IV}{F:List IV->Rt->ISt->List Dfd->Prop}(h:∀x,Lin (F x)):Lin (λR st ds=>tupV s λx=>F x R st ds):=by
 cases s<;>first|exact h _|exact yZj
theorem zY4 {s:IV}{F:Value->Rt->ISt->List Dfd->Prop}(h:∀x,Lin (F x)):Lin (λR st ds=>rawV s λx=>F x R st ds):=by
 cases s<;>first|exact h _|exact yZj
theorem xUz {ag:Bool}{n:Nat}{p:Pl}{fr:Fr}:Lin (λR st ds=>yUg true ag n p fr R st ds):=by
 cases p with
 | box t off=>exact xKn λ_=>yQc λ_=>yXd _
 | ptr b off=>exact yZj
 | cp y=>exact yJs (yXd _) yZj
theorem xWm {f:Nat×Bool×Nat}{p:Pl}:Lin (λR st ds=>zZd f p R st ds):=by
 cases p with
 | box t off=>exact yXd _
 | ptr b off=>exact yXd _
 | cp y=>exact zX1 λ_=>yQc λ_=>yJs (yXd _) yZj
theorem wQ1 {len n j:Nat}{ag:Bool}{p:Pl}:Lin (λR st ds=>xWy len ag n j p R st ds):=by
 unfold xWy;refine yJs ?_ yZj;cases p with
 | box t off=>exact yXd _
 | ptr b off=>exact yXd _
 | cp y=>exact zX1 λ_=>yQc λ_=>yJs (yXd _) yZj
theorem wJy {k:LenK}{s:Option (TypeId×Bool×Nat×Nat)}{xs:Option IV}{p:Option Pl}{e:Option (Nat×Bool×Nat)}{j:Int}:Lin (λR st ds=>idxV k s xs p e j R st ds):=by
 cases k with
 | sl=>exact yQc λ_=>yQc λ_=>xUy (λ_ _=>yJs (yJs (yQc λ_=>yXd _) yZj) yZj) (λ_ _ _=>yJs (yXd _) yZj)
 | arr n=>exact yQc λ_=>yQc λ_=>yJs wQ1 yZj
 | _=>exact yZj
theorem xWl {k:LenK}{e:Option (Nat×Bool×Nat)}{x:IV}{j:Int}:Lin (λR st ds=>zZc k e x j R st ds):=by
 cases k with
 | str =>
  refine zY4 λv=>?_;cases v with
  | string s=>exact yQc λ_=>yXd _
  | _=>exact yZj
 | arr n=>exact zX1 λ_=>yQc λ_=>yJs (yQc λ_=>yXd _) yZj
 | _=>exact yZj
theorem wJx {k:LenK}{x:IV}:Lin (λR st ds=>lenV true k x R st ds):=by
 cases k with
 | str =>
  refine zY4 λv=>?_;cases v with
  | string s=>exact wQ0 (λh=>by cases h) (yXd _)
  | _=>exact yZj
 | sl=>exact xUy (λ_ _=>wQ0 (λh=>by cases h) (yXd _)) (λ_ _ _=>yXd _)
 | map=>exact yZj
 | arr n=>exact yXd _
theorem wJz {ar:Option (Nat×Bool×Nat)}{x:IV}{lo hi mx:Option Int}{len:Nat}:Lin (λR st ds=>arrV ar x lo hi mx len R st ds):=by
 cases x with
 | cptr y =>
  cases y with
  | agg cs =>
   cases lo with
   | none =>
    cases mx with
    | none=>exact yQc λ_=>yWm (yQc λ_=>yXd _)
    | some m=>exact yZj
   | some l=>exact yZj
  | _=>exact yZj
 | _=>exact yZj
theorem xWk {k:LenK}{s:Option (TypeId×Bool×Nat×Nat)}{ar:Option (Nat×Bool×Nat)}{x:IV}{lo hi mx:Option Int}:Lin (λR st ds=>yGg k s ar x lo hi mx R st ds):=by
 cases k with
 | str =>
  refine zY4 λv=>?_;cases v with
  | string s =>
   cases mx with
   | none=>exact yQc λ_=>yXd _
   | some m=>exact yZj
  | _=>exact yZj
 | sl =>
  refine yQc λ_=>wUl (λ_ _=>yWm ?_) (λ_ _ _ _=>?_)
  ·cases hi with
   | none =>
    cases mx with
    | none=>exact yQc λ_=>yWm (yXd _)
    | some m=>exact yZj
   | some h=>exact yQc λ_=>yWm (yXd _)
  ·cases mx with
   | none=>exact yWm (yQc λ_=>yXd _)
   | some m=>exact yZj
 | arr n=>exact wJz
 | map=>exact yZj
theorem zUp {o:Option IV}{p:Option Pl}:Lin (λR st ds=>zQ8 true o p R st ds):=by
 cases o with
 | some x=>exact yXd _
 | none=>exact yZj
theorem wJw {o:Option IV}{p:Option Pl}:Lin (λR st ds=>nilV o p true R st ds):=by
 cases o with
 | none=>exact yZj
 | some x =>
  cases x with
  | fn f a b=>exact yJs (yXd _) yZj
  | cptr y=>exact yXd _
  | raw v =>
   cases v with
   | pointer o =>
    cases o with
    | none=>exact yZj
    | some q=>exact yXd _
   | _=>exact yZj
  | _=>exact yZj
theorem zVm {esc:List Nat}{d:Nat}(h:esc.contains d=false){cs:List IV}:Lin (λR st ds=>yY1 esc (some d) cs R st ds):=by
 have:¬ d∈esc:=by simpa using h
 simp only[yY1,if_neg this];exact yXd _
theorem xZu {frz esc:List Nat}{d:Nat}(h:esc.contains d=false){y:IV}:Lin (λR st ds=>yWk frz esc (some d) y R st ds):=yJs (yXd _) (zVm h)
theorem xZt {c:Cf}(hdr:c.dr=true){dst:Option Nat}{op:Op}{ad:Ad}{fr:Fr}(hp:zKh c.esc dst op=true):Lin (λR st ds=>vcR c dst op R ad fr st ds):=by
 unfold zKh at hp;split at hp
 case h_1=>simp only[vcR,hdr];exact zUp
 case h_2=>simp only[vcR,hdr];exact zUp
 case h_3=>exact yQc λ_=>wQ3 λ_=>wQ2 (yQc λ_=>yXd _) (yQc λ_=>yXd _)
 case h_4=>exact yWm (yQc λ_=>yQc λ_=>yXd _)
 case h_5 =>
  have hl:yKm c.esc dst=false:=by simpa using hp
  simp only[vcR,zY2,hl,bFt,if_false];exact yQc λ_=>yWm (yQc λ_=>yWm (yXd _))
 case h_6 =>
  have hl:ldr c.dr c.esc dst=true:=by unfold ldr;rw[hdr,hp];rfl
  simp only[vcR,hl];exact yQc λ_=>yQc λ_=>xUz
 case h_7=>simp only[vcR,hdr];exact wJw
 case h_8=>exact yQc λ_=>yQc λ_=>yQc λ_=>yXd _
 case h_9=>exact yQc λ_=>yQc λ_=>yXd _
 case h_10=>exact yQc λ_=>yQc λ_=>yXd _
 case h_11=>exact yQc λ_=>yQc λ_=>yXd _
 case h_12=>exact yQc λ_=>yQc λ_=>yQc λ_=>yQc λ_=>yQc λ_=>xWk
 case h_13=>exact yQc λ_=>yQc λ_=>xWm
 case h_14=>exact yQc λ_=>yQc λ_=>zX1 λ_=>yQc λ_=>yXd _
 case h_15=>exact yQc λ_=>zX0 λ_ _=>yQc λ_=>wJy
 case h_16=>exact yQc λ_=>zX0 λ_ _=>yQc λ_=>yQc λ_=>xWl
 case h_17=>exact yQc λ_=>wJv λ_=>yQc λ_=>yXd _
 case h_18 =>
  split at hp
  ·exact yQc λ_=>zVm (by simpa using hp)
  ·cases hp
 case h_19 =>
  split at hp
  ·exact yQc λ_=>yQc λ_=>yWm (xZu (by simpa using hp))
  ·cases hp
 case h_20 =>
  rename_i args ts;obtain⟨args⟩:=args;obtain⟨ts⟩:=ts
  match args,ts with
  | [x],[T]=>simp only[vcR,hdr];exact yQc λ_=>yQc λ_=>wJx
  | [],_=>exact yZj
  | _::_::_,_=>exact yZj
  | [_],[]=>exact yZj
  | [_],_::_::_=>exact yZj
 case h_21 =>
  rename_i args ts;obtain⟨args⟩:=args
  match args with
  | [x,y]=>exact yQc λ_=>yQc λ_=>zX0 λ_ _=>zX0 λ_ _=>yJs (yXd _) yZj
  | []=>exact yZj
  | [_]=>exact yZj
  | _::_::_::_=>exact yZj
 case h_22 =>
  rename_i g _ _;have hm:g+1000000∈c.esc:=by simpa using hp
  simp only[vcR,zYn,if_pos hm];exact yQc λ_=>yQc λ_=>yXd _
 case h_23=>cases hp
structure SameAt (c:Cf)(op:Op)(ad ad':Ad)(fr fr':Fr):Prop where
 v:∀x∈op.operands,evV c.gl fr x=evV c.gl fr' x
 a:∀x∈op.operands,evA c.gl ad fr x=evA c.gl ad' fr' x
 box:(zZb op || yVr op)=true->∀x∈op.operands,∀t off,evA c.gl ad fr x=some (.box t off)->fr t=fr' t
theorem yGa {gl:Nat->Option IV}{fr fr':Fr}:∀ {l:List Operand},(∀x∈l,evV gl fr x=evV gl fr' x)->evL gl fr l=evL gl fr' l
 | [],_=>rfl
 | x::l,h=>by rw[xV9,xV9,h x (by simp),yGa λy hy=>h y (by simp[hy])]
theorem zQf {gl:Nat->Option IV}{fr fr':Fr}{o:Option Operand}(h:∀x,o=some x->evV gl fr x=evV gl fr' x):yWr gl fr o=yWr gl fr' o:=by
 cases o with
 | none=>rfl
 | some x=>simp only[xWu,h x rfl]
theorem zK3 {P:Program}{gl:Nat->Option IV}{fr fr':Fr}{T:TypeId}:∀ {l:List (Nat×Operand)} {cs:List IV},(∀x∈l.map (·.2),evV gl fr x=evV gl fr' x)->yW6 P gl fr T cs l=yW6 P gl fr' T cs l
 | [],cs,_=>rfl
 | (i,x)::l,cs,h=>by
  rw[yU1,yU1,h x (by simp)];cases bfI P T i with
  | none=>rfl
  | some f =>
   cases evV gl fr' x with
   | none=>rfl
   | some y=>simp only[zVz];split<;>first|exact zK3 λy hy=>h y (by simp[hy])|rfl
theorem xWi {dr ag:Bool}{n:Nat}{p:Pl}{fr fr':Fr}{R:Rt}{st:ISt}{ds:List Dfd}(h:∀t off,p=.box t off->fr t=fr' t):yUg dr ag n p fr R st ds=yUg dr ag n p fr' R st ds:=by
 cases p with
 | box t off=>simp only[yUg,h t off rfl]
 | _=>rfl
theorem xQw {y:List IV}{p:Pl}{fr fr':Fr}{R:Rt}{st:ISt}{ds:List Dfd}(h:∀t off,p=.box t off->fr t=fr' t):yYb y p fr R st ds=yYb y p fr' R st ds:=by
 cases p with
 | box t off=>simp only[yYb,h t off rfl]
 | _=>rfl
theorem xYn {c:Cf}{dst:Option Nat}{op:Op}{R:Rt}{ad ad':Ad}{fr fr':Fr}{st:ISt}{ds:List Dfd}(h:SameAt c op ad ad' fr fr'):vcR c dst op R ad fr st ds=vcR c dst op R ad' fr' st ds:=by
 obtain⟨hv,ha,hb⟩:=h;cases op with
 | move x=>simp only[vcR,hv x (by simp[Op.operands]),ha x (by simp[Op.operands])]
 | assign x=>simp only[vcR,hv x (by simp[Op.operands]),ha x (by simp[Op.operands])]
 | pick x y z=>simp only[vcR];rw[hv x (by simp[Op.operands]),hv y (by simp[Op.operands]),hv z (by simp[Op.operands])]
 | alloc T=>rfl
 | box T x=>simp only[vcR,hv x (by simp[Op.operands])]
 | build T parts=>simp only[vcR,λcs=>zK3 (P:=c.P) (T:=T) (cs:=cs) (l:=parts.toList) (λx hx=>hv x (by simpa[Op.operands] using hx))]
 | buildSlice T n parts=>simp only[vcR,yGa (l:=parts.toList.map (·.2)) (λx hx=>hv x (by simpa[Op.operands] using hx))]
 | load T x =>
  have hbx:=hb rfl x (by simp[Op.operands]);simp only[vcR,<- ha x (by simp[Op.operands])];cases hp:evA c.gl ad fr x with
  | none=>rfl
  | some p=>simp only[yK7,λ(i:Bool×Nat)=>xWi (dr:=ldr c.dr c.esc dst) (ag:=i.1) (n:=i.2) (p:=p) (fr:=fr) (fr':=fr') (R:=R) (st:=st) (ds:=ds) (λt off hq=>hbx t off (by rw[hp,hq]))]
 | store T x y =>
  have hbx:=hb rfl x (by simp[Op.operands]);simp only[vcR,<- ha x (by simp[Op.operands]),<- hv y (by simp[Op.operands])];cases hp:evA c.gl ad fr x with
  | none=>rfl
  | some p=>simp only[yK7,λ(i:List IV)=>xQw (y:=i) (p:=p) (fr:=fr) (fr':=fr') (R:=R) (st:=st) (ds:=ds) (λt off hq=>hbx t off (by rw[hp,hq]))]
 | nilCheck x=>simp only[vcR,hv x (by simp[Op.operands]),ha x (by simp[Op.operands])]
 | binOp o T x y T'=>simp only[vcR,hv x (by simp[Op.operands]),hv y (by simp[Op.operands])]
 | unOp o T x=>simp only[vcR,hv x (by simp[Op.operands])]
 | convert T T' x=>simp only[vcR,hv x (by simp[Op.operands])]
 | makeFunc f a b=>simp only[vcR,yGa (l:=a.toList) (λx hx=>hv x (by simp[Op.operands];exact .inl (by simpa using hx))),yGa (l:=b.toList) (λx hx=>hv x (by simp[Op.operands];exact .inr (by simpa using hx)))]
 | slice T x lo hi mx=>simp only[vcR,hv x (by simp[Op.operands]),zQf (o:=lo) (λy hy=>hv y (by simp[Op.operands,hy])),zQf (o:=hi) (λy hy=>hv y (by simp[Op.operands,hy])),
   zQf (o:=mx) (λy hy=>hv y (by simp[Op.operands,hy]))]
 | fieldAddr T x i=>simp only[vcR,ha x (by simp[Op.operands])]
 | field T x i=>simp only[vcR,hv x (by simp[Op.operands])]
 | indexAddr T x y=>simp only[vcR,hv x (by simp[Op.operands]),ha x (by simp[Op.operands]),hv y (by simp[Op.operands])]
 | index T x y=>simp only[vcR,hv x (by simp[Op.operands]),hv y (by simp[Op.operands])]
 | lookup T x y ok=>simp only[vcR,hv x (by simp[Op.operands]),hv y (by simp[Op.operands])]
 | mapUpdate T x y z=>simp only[vcR,hv x (by simp[Op.operands]),hv y (by simp[Op.operands]),hv z (by simp[Op.operands])]
 | extract x i=>simp only[vcR,hv x (by simp[Op.operands])]
 | call cc =>
  obtain⟨f,args,ts⟩:=cc;cases f with
  | value f=>simp only[vcR,hv f (by simp[Op.operands,Call.operands]),yGa (l:=args.toList) (λx hx=>hv x (by simp[Op.operands,Call.operands];exact .inr (by simpa using hx)))]
  | invoke r nm=>rfl
  | builtin b =>
   obtain⟨args⟩:=args;obtain⟨ts⟩:=ts;have hv':∀x∈args,evV c.gl fr x=evV c.gl fr' x:=λx hx=>hv x (by simp[Op.operands,Call.operands];exact hx);cases b with
   | len =>
    match args,ts,hv' with
    | [x],[T],hv'=>simp only[vcR,hv' x (by simp)]
    | [],_,_=>rfl
    | _::_::_,_,_=>rfl
    | [_],[],_=>rfl
    | [_],_::_::_,_=>rfl
   | append =>
    match args,ts,hv' with
    | [x,y],[T,T'],hv'=>simp only[vcR,hv' x (by simp),hv' y (by simp)]
    | [],_,_=>rfl
    | [_],_,_=>rfl
    | _::_::_::_,_,_=>rfl
    | [_,_],[],_=>rfl
    | [_,_],[_],_=>rfl
    | [_,_],_::_::_::_,_=>rfl
   | cap =>
    match args,ts,hv' with
    | [x],[T],hv'=>simp only[vcR,hv' x (by simp)]
    | [],_,_=>rfl
    | _::_::_,_,_=>rfl
    | [_],[],_=>rfl
    | [_],_::_::_,_=>rfl
   | clear =>
    match args,ts,hv' with
    | [x],[T],hv'=>simp only[vcR,hv' x (by simp)]
    | [],_,_=>rfl
    | _::_::_,_,_=>rfl
    | [_],[],_=>rfl
    | [_],_::_::_,_=>rfl
   | max =>
    match args,hv' with
    | [x,y],hv'=>simp only[vcR,hv' x (by simp),hv' y (by simp)]
    | [],_=>rfl
    | [_],_=>rfl
    | _::_::_::_,_=>rfl
   | min =>
    match args,hv' with
    | [x,y],hv'=>simp only[vcR,hv' x (by simp),hv' y (by simp)]
    | [],_=>rfl
    | [_],_=>rfl
    | _::_::_::_,_=>rfl
   | _=>rfl
 | defer cc =>
  obtain⟨f,args,ts⟩:=cc;cases f with
  | value f=>simp only[vcR,hv f (by simp[Op.operands,Call.operands]),yGa (l:=args.toList) (λx hx=>hv x (by simp[Op.operands,Call.operands];exact .inr (by simpa using hx)))]
  | _=>rfl
 | makeMap T r=>cases r<;>rfl
 | insert T x y z=>simp only[vcR,hv x (by simp[Op.operands]),hv y (by simp[Op.operands]),hv z (by simp[Op.operands])]
 | makeSlice T x y=>simp only[vcR,hv x (by simp[Op.operands]),hv y (by simp[Op.operands])]
 | range T x=>simp only[vcR,hv x (by simp[Op.operands])]
 | next x b=>cases b<;>simp only[vcR,hv x (by simp[Op.operands])]
 | entry x=>simp only[vcR,hv x (by simp[Op.operands])]
 | _=>rfl
def yX5 (c:Cf)(ops:List Oper)(o:Oper)(R:Rt)(ad:Ad)(fr:Fr)(st:ISt)(ds:List Dfd):Prop :=
 match o.guard with
 | none=>vcR c o.dst o.op R ad fr st ds
 | some (j,want)=>match yVb ops j with
  | some d=>match fr d with
   | .iv (.raw (.bool b))=>if b=want then vcR c o.dst o.op R ad fr st ds else R (.val (.raw undef)) st ds
   | .iv (.raw (.tuple _))=>R (.val (.raw undef)) st ds
   | _=>False
  | none=>False
def yY6 (c:Cf)(ops:List Oper)(o:Oper)(K:Kt):Kt:=λad fr st ds=>yX5 c ops o (finK o.dst K ad fr) ad fr st ds
def vcK (c:Cf)(ops:List Oper):List Oper->Kt->Kt
 | [],K=>K
 | o::l,K=>yY6 c ops o (vcK c ops l K)
theorem zKt {c:Cf}{ops l l':List Oper}{K:Kt}:vcK c ops (l++l') K=vcK c ops l (vcK c ops l' K):=by
 induction l with
 | nil=>rfl
 | cons o l ih=>rw[List.cons_append,vcK,vcK,ih]
theorem zG9 {c:Cf}{ops:List Oper}{Q:Fr->ISt->List Dfd->Prop}:∀ {l:List Oper} {ad:Ad} {fr:Fr} {st:ISt} {ds:List Dfd},yJb c ops l Q ad fr st ds->vcK c ops l (λ_ fr st ds=>Q fr st ds) ad fr st ds
 | [],_,_,_,_,h=>h
 | o::l,ad,fr,st,ds,h=>by
  have hk:∀ad fr st ds,yJb c ops l Q ad fr st ds->vcK c ops l (λ_ fr st ds=>Q fr st ds) ad fr st ds:=λ_ _ _ _=>zG9;have hfin:∀pr st ds,finK o.dst (yJb c ops l Q) ad fr pr st ds->finK o.dst (vcK c ops l (λ_ fr st ds=>Q fr st ds)) ad fr pr st ds:=by
   intro pr st ds;cases pr<;>cases o.dst<;>simp only[finK]<;>first|exact hk _ _ _ _|exact id|(split<;>first|exact id|exact hk _ _ _ _)
  unfold yJb at h;change yX5 c ops o (finK o.dst (vcK c ops l (λ_ fr st ds=>Q fr st ds)) ad fr) ad fr st ds;unfold yX5;split at h
  ·rename_i hg;rw[hg];exact yYy hfin h
  ·rename_i j want hg;rw[hg];simp only[yVb];cases hd:(ops[j]?).bind (·.dst) with
   | none=>rw[hd] at h;exact h.elim
   | some d =>
    rw[hd] at h;simp only at h ⊢;cases hs:fr d with
    | box cs=>rw[hs] at h;exact h.elim
    | iv x =>
     cases x with
     | raw v =>
      cases v with
      | bool b =>
       rw[hs,zUv fr d want b _ _ _ _ hs] at h;simp only;split
       ·exact yYy hfin (h.1 ‹_›)
       ·have hb:b=!want:=by cases b<;>cases want<;>simp_all
        exact hfin _ _ _ (h.2 hb)
      | tuple t =>
       rw[hs] at h;exact hfin _ _ _ h
      | _=>rw[hs] at h;exact h.elim
     | _=>rw[hs] at h;exact h.elim
theorem yVy {c:Cf}{ops:List Oper}{o:Oper}{R R':Rt}(h:∀pr st ds,R pr st ds->R' pr st ds){ad:Ad}{fr:Fr}{st:ISt}{ds:List Dfd}:yX5 c ops o R ad fr st ds->yX5 c ops o R' ad fr st ds:=by
 unfold yX5;split
 ·exact yYy h
 ·split
  ·split
   ·split
    ·exact yYy h
    ·exact h _ _ _
   ·exact h _ _ _
   ·exact id
  ·exact id
theorem xUx {c:Cf}(hdr:c.dr=true){ops:List Oper}{o:Oper}{ad:Ad}{fr:Fr}(hp:zKh c.esc o.dst o.op=true):Lin (λR st ds=>yX5 c ops o R ad fr st ds):=by
 cases hg:o.guard with
 | none=>simp only[yX5,hg];exact xZt hdr hp
 | some p =>
  obtain⟨j,want⟩:=p;cases hd:yVb ops j with
  | none=>simp only[yX5,hg,hd];exact yZj
  | some d =>
   cases hs:fr d with
   | box cs=>simp only[yX5,hg,hd,hs];exact yZj
   | iv x =>
    cases x with
    | raw v =>
     cases v with
     | bool b=>simp only[yX5,hg,hd,hs];exact yJs (xZt hdr hp) (yXd _)
     | tuple t=>simp only[yX5,hg,hd,hs];exact yXd _
     | _=>simp only[yX5,hg,hd,hs];exact yZj
    | _=>simp only[yX5,hg,hd,hs];exact yZj
def Kept (st st':ISt):Prop:=∀b cs,st b=some (.box cs)->st' b=some (.box cs)
theorem Kept.refl (st:ISt):Kept st st:=λ_ _ h=>h
def LinS (st:ISt)(F:Rt->ISt->List Dfd->Prop):Prop:=(∃pr,(∀R ds,F R st ds↔R pr st ds)/\∀st',Kept st st'->∀R ds,R pr st' ds->F R st' ds)\/(∀R ds,¬ F R st ds)
theorem yKl {F:Rt->ISt->List Dfd->Prop}(h:Lin F)(st:ISt):LinS st F:=by
 rcases h with⟨pr,h⟩|h
 ·exact .inl ⟨pr,λR ds=>h R st ds,λst' _ R ds hr=>(h R st' ds).2 hr⟩
 ·exact .inr λR ds=>h R st ds
theorem wQ4 {c:Cf}{dst:Option Nat}{T:TypeId}{x:Operand}{ad:Ad}{fr:Fr}(st:ISt):LinS st (λR st ds=>vcR c dst (.load T x) R ad fr st ds):=by
 simp only[vcR];cases tyI c.P T with
 | none=>exact yKl yZj st
 | some i =>
  cases evA c.gl ad fr x with
  | none=>exact yKl yZj st
  | some p =>
   simp only[yK7];cases p with
   | box t off=>exact yKl (xKn λ_=>yQc λ_=>yXd _) st
   | cp y=>exact yKl (yJs (yXd _) yZj) st
   | ptr b off =>
    simp only[yUg];cases hl:ldr c.dr c.esc dst with
    | true=>simp only[if_true];exact yKl yZj st
    | false =>
     simp only[bFt,if_false];cases hb:st b with
     | none=>exact .inr λR ds h=>by simp only[hb] at h;exact h
     | some o =>
      cases o with
      | box cs =>
       cases hp:yK4 i.1 i.2 cs off with
       | none=>exact .inr λR ds h=>by simp only[hb,yK7,obV,hp] at h;exact h
       | some y=>exact .inl ⟨.val y,λR ds=>by simp only[hb,yK7,obV,hp],λst' hk R ds hr=>by simp only[hk b cs hb,yK7,obV,hp];exact hr⟩
      | _=>exact .inr λR ds h=>by simp only[hb,yK7,obV] at h
theorem xKo {c:Cf}(hdr:c.dr=true){dst:Option Nat}{op:Op}{ad:Ad}{fr:Fr}(hp:yJd c.esc dst op=true)(st:ISt):LinS st (λR st ds=>vcR c dst op R ad fr st ds):=by
 unfold yJd at hp;rw[Bool.or_eq_true] at hp;rcases hp with hp|hp
 ·exact yKl (xZt hdr hp) st
 ·cases op<;>first|exact wQ4 st|cases hp
theorem zQc {c:Cf}(hdr:c.dr=true){ops:List Oper}{o:Oper}{ad:Ad}{fr:Fr}(hp:yJd c.esc o.dst o.op=true)(st:ISt):LinS st (λR st ds=>yX5 c ops o R ad fr st ds):=by
 cases hg:o.guard with
 | none=>simp only[yX5,hg];exact xKo hdr hp st
 | some p =>
  obtain⟨j,want⟩:=p;cases hd:yVb ops j with
  | none=>simp only[yX5,hg,hd];exact yKl yZj st
  | some d =>
   cases hs:fr d with
   | box cs=>simp only[yX5,hg,hd,hs];exact yKl yZj st
   | iv x =>
    cases x with
    | raw v =>
     cases v with
     | bool b =>
      simp only[yX5,hg,hd,hs];by_cases hb:b=want
      ·simp only[if_pos hb];exact xKo hdr hp st
      ·simp only[if_neg hb];exact yKl (yXd _) st
     | tuple t=>simp only[yX5,hg,hd,hs];exact yKl (yXd _) st
     | _=>simp only[yX5,hg,hd,hs];exact yKl yZj st
    | _=>simp only[yX5,hg,hd,hs];exact yKl yZj st
def appQ (esc:List Nat)(dst:Option Nat):Op->Bool
 | .call ⟨.builtin .append,⟨[_,_]⟩,⟨[_,_]⟩⟩=>zJ0 esc dst
 | _=>false
theorem Kept.new {st:ISt}{g:Nat}(hg:st g=none)(o:Option IObj):Kept st (st.put g o):=λb cs hb=>by
 rw[ISt.put_apply];split
 ·rename_i h;subst h;rw[hg] at hb;cases hb
 ·exact hb
theorem Kept.front {st:ISt}{g₀ g n s:Nat}(h0:st g₀=some (.front n s))(hg:g=g₀\/st g=none)(o:Option IObj):Kept st ((st.put g₀ none).put g o):=λb cs hb=>by
 have h1:b≠g₀:=by rintro rfl;rw[h0] at hb;cases hb
 have h2:b≠g:=by
  rintro rfl;rcases hg with rfl|hg
  ·exact h1 rfl
  ·rw[hg] at hb;cases hb
 rw[ISt.put_apply,if_neg h2,ISt.put_apply,if_neg h1];exact hb
theorem wZh {esc:List Nat}{dst:Option Nat}{e:TypeId×Bool×Nat×Nat}{tg:Tag}{xs ys:List IV}{R:Rt}{st:ISt}{ds:List Dfd}(h:appV esc dst e tg xs ys R st ds) :
  appV esc dst e tg xs ys (λpr st' ds=>R pr st' ds/\Kept st st') st ds:=by
 obtain⟨h1,h2,h3⟩:=h;refine⟨h1,h2,?_⟩;cases hc:tg.cap with
 | none =>
  rw[hc] at h3;cases ys with
  | nil=>exact⟨h3,Kept.refl _⟩
  | cons y ys=>exact h3.elim
 | nil =>
  rw[hc] at h3;cases ys with
  | nil=>exact⟨h3,Kept.refl _⟩
  | cons y ys =>
   by_cases he:yKm esc dst=true
   ·simp only[if_pos he] at h3 ⊢;exact λg cap hg=>⟨h3 g cap hg,Kept.new hg.1 _⟩
   ·simp only[if_neg he] at h3 ⊢;exact λg hg=>⟨h3 g hg,Kept.new hg _⟩
 | full =>
  rw[hc] at h3;obtain⟨h4,h3⟩:=h3;refine⟨h4,?_⟩;cases ys with
  | nil=>exact⟨h3,Kept.refl _⟩
  | cons y ys=>exact λg hg=>⟨h3 g hg,Kept.new hg _⟩
 | app g₀ =>
  rw[hc] at h3;obtain⟨h4,h5,h3⟩:=h3;exact⟨h4,h5,λg hg=>⟨h3 g hg,Kept.front h5 hg _⟩⟩
theorem xVe {c:Cf}{dst:Option Nat}{op:Op}{R:Rt}{ad:Ad}{fr:Fr}{st:ISt}{ds:List Dfd}(hq:appQ c.esc dst op=true)(h:vcR c dst op R ad fr st ds) :
  vcR c dst op (λpr st' ds=>R pr st' ds/\Kept st st') ad fr st ds:=by
 unfold appQ at hq;split at hq
 ·simp only[vcR] at h ⊢;refine yZa (λe=>?_) h;refine zY9 ?_ ?_
  ·refine yZa λs=>zY7 (λtg xs=>yZa λy=>zY8 λ_ ys h=>wZh h) λb off n cap=>yZa λy=>zY7 (λ_ ys h=>?_) (λ_ _ _ _ h=>?_)
   all_goals (unfold qO at h;rw[if_pos hq] at h;exact h.elim)
  ·refine yZa λs=>zY8 λtg _=>yZa λy=>zX3 λ_ m h=>?_;obtain⟨h1,h2⟩:=h;exact⟨h1,λg cap hg=>⟨h2 g cap hg,Kept.new hg.1 _⟩⟩
 ·cases hq
theorem xY9 {c:Cf}{ops:List Oper}{o:Oper}{R:Rt}{ad:Ad}{fr:Fr}{st:ISt}{ds:List Dfd}(hq:appQ c.esc o.dst o.op=true)(h:yX5 c ops o R ad fr st ds) :
  yX5 c ops o (λpr st' ds=>R pr st' ds/\Kept st st') ad fr st ds:=by
 unfold yX5 at h ⊢;split at h
 ·exact xVe hq h
 ·split at h
  ·split at h
   ·split at h
    ·rename_i hb;rw[if_pos hb];exact xVe hq h
    ·rename_i hb;rw[if_neg hb];exact⟨h,Kept.refl _⟩
   ·exact⟨h,Kept.refl _⟩
   ·exact h.elim
  ·exact h.elim
def yKi (ops:List Oper)(o:Oper)(fr fr':Fr):Prop:=∀j want d,o.guard=some (j,want)->yVb ops j=some d->fr d=fr' d\/(∃cs cs',fr d=.box cs/\fr' d=.box cs')
theorem yK6 {c:Cf}{ops:List Oper}{o:Oper}{R:Rt}{ad ad':Ad}{fr fr':Fr}{st:ISt}{ds:List Dfd}(h:SameAt c o.op ad ad' fr fr')(hg:yKi ops o fr fr'):yX5 c ops o R ad fr st ds=yX5 c ops o R ad' fr' st ds:=by
 unfold yX5;rw[xYn h];cases hgo:o.guard with
 | none=>rfl
 | some p =>
  obtain⟨j,want⟩:=p;cases hd:yVb ops j with
  | none=>simp only[hd]
  | some d =>
   simp only[hd];rcases hg j want d hgo hd with he|⟨cs,cs',h1,h2⟩
   ·rw[he]
   ·rw[h1,h2]
structure Fine (c:Cf)(op:Op)(ad:Ad)(fr:Fr)(pr:PR):Prop where
 isA:∀t off,pr=.adr t off->c.dr=true->xWt op=true
 adr:∀t off,pr=.adr t off->∃x∈op.operands,∃off',evA c.gl ad fr x=some (.box t off')
 sto:∀t cs,pr=.sto t cs->yVr op=true/\(∃cs0,fr t=.box cs0)/\∃x∈op.operands,∃off',evA c.gl ad fr x=some (.box t off')
 stoA:∀t cs,pr=.sto t cs->∀T a v,op=.store T a v->∃off',evA c.gl ad fr a=some (.box t off')
theorem yXr {c:Cf}{op:Op}{ad:Ad}{fr:Fr}{x:IV}:Fine c op ad fr (.val x):=⟨(λ_ _ h=>by cases h),(λ_ _ h=>by cases h),(λ_ _ h=>by cases h),(λ_ _ h=>by cases h)⟩
theorem wKh {c:Cf}{op:Op}{ad:Ad}{fr:Fr}{x:List IV}:Fine c op ad fr (.box x):=⟨(λ_ _ h=>by cases h),(λ_ _ h=>by cases h),(λ_ _ h=>by cases h),(λ_ _ h=>by cases h)⟩
theorem xV7 {c:Cf}{op:Op}{ad:Ad}{fr:Fr}:Fine c op ad fr .nop:=⟨(λ_ _ h=>by cases h),(λ_ _ h=>by cases h),(λ_ _ h=>by cases h),(λ_ _ h=>by cases h)⟩
theorem zYe {c:Cf}{op:Op}{R:Rt}{ad:Ad}{fr:Fr}{st:ISt}{ds:List Dfd}{x:Operand}{p:Pl}(hdr:¬ c.dr=true)(hx:x∈op.operands)(hp:evA c.gl ad fr x=some p):plR p R st ds->plR p (λpr st ds=>R pr st ds/\Fine c op ad fr pr) st ds:=by
 cases p with
 | box t off=>exact λh=>⟨h,⟨(λ_ _ _ h0=>(hdr h0).elim),λt' off' he=>by cases he;exact⟨x,hx,off,hp⟩,(λ_ _ h=>by cases h),(λ_ _ h=>by cases h)⟩⟩
 | ptr b off=>exact λh=>⟨h,yXr⟩
 | cp y=>exact λh=>⟨h,yXr⟩
theorem zVu {c:Cf}{op:Op}{R:Rt}{ad:Ad}{fr:Fr}{st:ISt}{ds:List Dfd}{x:Operand}(hx:x∈op.operands)(o:Option IV) :
  zQ8 c.dr o (evA c.gl ad fr x) R st ds->zQ8 c.dr o (evA c.gl ad fr x) (λpr st ds=>R pr st ds/\Fine c op ad fr pr) st ds:=by
 unfold zQ8;split
 ·exact λh=>⟨h,yXr⟩
 ·split
  ·exact id
  ·intro h;obtain⟨p,hp,h⟩:=yQ4.1 h;exact yQ4.2 ⟨p,hp,zYe ‹_› hx hp h⟩
set_option maxHeartbeats 1000000 in
theorem xJ2 {c:Cf}{dst:Option Nat}{op:Op}{R:Rt}{ad:Ad}{fr:Fr}{st:ISt}{ds:List Dfd}:vcR c dst op R ad fr st ds->vcR c dst op (λpr st ds=>R pr st ds/\Fine c op ad fr pr) ad fr st ds:=by
 by_cases h1:∃x,op=.move x\/op=.assign x
 ·obtain⟨x,rfl|rfl⟩:=h1
  ·exact zVu (by simp[Op.operands]) _
  ·exact zVu (by simp[Op.operands]) _
 by_cases h2:∃x,op=.nilCheck x
 ·obtain⟨x,rfl⟩:=h2;simp only[vcR,nilV];split
  ·exact yJu (λh=>⟨h,yXr⟩) id
  ·exact λh=>⟨h,yXr⟩
  ·split
   ·exact λh=>⟨h,yXr⟩
   ·intro h;obtain⟨p,hp,h⟩:=yQ4.1 h;exact yQ4.2 ⟨p,hp,zYe ‹_› (by simp[Op.operands]) hp h⟩
  ·split
   ·exact id
   ·intro h;obtain⟨p,hp,h⟩:=yQ4.1 h;exact yQ4.2 ⟨p,hp,zYe ‹_› (by simp[Op.operands]) hp h⟩
 by_cases h3:∃T x i,op=.fieldAddr T x i
 ·obtain⟨T,x,i,rfl⟩:=h3;simp only[vcR];refine yZa λf=>λh=>?_;obtain⟨p,hp,h⟩:=yQ4.1 h;refine yQ4.2 ⟨p,hp,?_⟩;cases p with
  | box t off=>exact⟨h,⟨(λ_ _ _ _=>rfl),λt' off' he=>by cases he;exact⟨x,by simp[Op.operands],off,hp⟩,(λ_ _ h=>by cases h),(λ_ _ h=>by cases h)⟩⟩
  | ptr b off=>exact⟨h,yXr⟩
  | cp y=>exact zX4 (λ_=>yZa λ_=>yJu (λh=>⟨h,yXr⟩) id) h
 by_cases h4:∃T x y,op=.indexAddr T x y
 ·obtain⟨T,x,y,rfl⟩:=h4;simp only[vcR];refine yZa λ_=>zX3 λ_ j=>yZa λk=>?_;cases k with
  | sl=>exact yZa λ_=>yZa λ_=>xX1 (λ_ _=>yJu (yJu (yZa λ_=>λh=>⟨h,yXr⟩) id) id) (λ_ _ _=>yJu (λh=>⟨h,yXr⟩) id)
  | arr n =>
   refine yZa λ_=>λh=>?_;obtain⟨p,hp,h⟩:=yQ4.1 h;refine yQ4.2 ⟨p,hp,yJu (yJu ?_ id) id h⟩;cases p with
   | box t off=>exact λh=>⟨h,⟨(λ_ _ _ _=>rfl),λt' off' he=>by cases he;exact⟨x,by simp[Op.operands],off,hp⟩,(λ_ _ h=>by cases h),(λ_ _ h=>by cases h)⟩⟩
   | ptr b off=>exact λh=>⟨h,yXr⟩
   | cp y=>exact zX4 (λ_=>yZa λ_=>yJu (λh=>⟨h,yXr⟩) id)
  | str=>exact id
  | map=>exact id
 by_cases h5:∃T x y,op=.store T x y
 ·obtain⟨T,x,y,rfl⟩:=h5;simp only[vcR];refine yZa λ_=>yZa λ_=>xX4 λh=>?_;obtain⟨p,hp,h⟩:=yQ4.1 h;refine yQ4.2 ⟨p,hp,?_⟩;revert h;cases p with
  | box t off =>
   simp only[yYb];cases hf:fr t with
   | box cs=>exact yJu (λh=>⟨h,⟨(λ_ _ h=>by cases h),(λ_ _ h=>by cases h),(λt' cs' he=>by cases he;exact⟨rfl,⟨cs,hf⟩,x,by simp[Op.operands],off,hp⟩),λt' cs' he T' a' v' ho=>by cases he;cases ho;exact⟨off,hp⟩⟩⟩) id
   | iv x=>exact id
  | ptr b off=>exact yZa λ_=>xX2 λ_=>yJu (λh=>⟨h,xV7⟩) id
  | cp y=>exact id
 have hv:∀x st ds,R (.val x) st ds->R (.val x) st ds/\Fine c op ad fr (.val x):=λx st ds h=>⟨h,yXr⟩
 have hb:∀x st ds,R (.box x) st ds->R (.box x) st ds/\Fine c op ad fr (.box x):=λx st ds h=>⟨h,wKh⟩
 have hn:∀st ds,R .nop st ds->R .nop st ds/\Fine c op ad fr .nop:=λst ds h=>⟨h,xV7⟩
 generalize Fine c op ad fr=F at hv hb hn ⊢;unfold vcR;split
 all_goals first
  | exact absurd ⟨_,.inl rfl⟩ h1|exact absurd ⟨_,.inr rfl⟩ h1|exact absurd ⟨_,rfl⟩ h2|exact absurd ⟨_,_,_,rfl⟩ h3|exact absurd ⟨_,_,_,rfl⟩ h4|exact absurd ⟨_,_,_,rfl⟩ h5
  | repeat (first
   | exact hv _ _ _|exact hb _ _ _|exact hn _ _|exact id
   | refine yZa λ_=>?_|refine xX4 ?_|refine wQh ?_|refine wQi ?_|refine wQj λ_=>?_|refine zJn ?_ ?_|refine wY2 ?_ ?_|refine yJu ?_ ?_
   | refine xV1 λ_=>?_|refine xX2 λ_=>?_|refine wQd λ_ _=>?_|refine zX3 λ_ _=>?_|refine zJo λ_=>?_|refine zY8 λ_ _=>?_|refine xX1 (λ_ _=>?_) (λ_ _ _=>?_)|refine zY7 (λ_ _=>?_) (λ_ _ _ _=>?_)|refine zY9 ?_ ?_
   | refine zX4 λ_=>?_|refine xKx λ_=>?_|refine xX3 λ_ _ _=>?_|refine xKz λ_=>?_|refine xKy λ_=>?_|refine xV0 λ_=>?_|refine xV2 λ_=>?_|refine wQg λ_ _ _ _=>?_|refine wQf λ_ _=>?_|refine wQe ?_ (λ_ _=>?_)
   | (refine λhh=>callV.mono hh λ_ _=>?_;unfold zK1)
   | unfold yWk|unfold yY1|unfold zY2|unfold yUg|unfold yGg|unfold arrV|unfold zZc|unfold zQa|unfold yYa|unfold zV9|unfold xWg|unfold zVw|unfold lenV|unfold appV|unfold qO|unfold appO|unfold appR|unfold appZ|unfold capV|unfold xVb|unfold xZr|unfold zYn
   | split)
def yVo (ad:Ad)(d:Nat):Prop:=∀x t off,ad x=some (t,off)->t≠d
theorem xX0 {ad:Ad}{d:Nat}(h:yVo ad d)(s:Nat):Ad.keep d (ad s)=ad s:=by
 cases ha:ad s with
 | none=>rfl
 | some p =>
  obtain⟨t,off⟩:=p;simp only[Ad.keep,if_neg (h s t off ha)]
theorem zYg {c:Cf}{ad:Ad}{fr:Fr}{x:Operand}{t off d:Nat}(h:evA c.gl ad fr x=some (.box t off))(hb:yVo ad d)(hx:x≠.tmp d):t≠d:=by
 cases x with
 | tmp y =>
  simp only[evA] at h;cases ha:ad y with
  | some p =>
   obtain⟨t',off'⟩:=p;rw[ha] at h;simp only[plAd,Option.some.injEq,Pl.box.injEq] at h;exact h.1▸hb y t' off' ha
  | none =>
   rw[ha] at h;simp only[plAd] at h;cases hf:fr y with
   | box cs =>
    rw[hf] at h;simp only[plOf,Option.some.injEq,Pl.box.injEq] at h;rintro rfl;exact hx (by rw[h.1])
   | iv z =>
    rw[hf] at h;exfalso;cases z with
    | raw u =>
     cases u with
     | pointer p =>
      cases p with
      | none=>cases h
      | some p =>
       obtain⟨pb,po,ps⟩:=p;cases ps<;>cases h
     | _=>cases h
    | _=>cases h
 | global g=>simp only[evA] at h;cases hg:c.gl g<;>rw[hg] at h<;>cases h
 | const v=>cases h
 | func f=>cases h
theorem xW5 {c:Cf}{op:Op}{ad:Ad}{fr:Fr}{d:Nat}{a:Option (Nat×Nat)}{s:SV}(hd:∀x∈op.operands,x≠.tmp d)(hb:yVo ad d):SameAt c op ad (ad.put d a) fr (fr.put d s):=by
 refine⟨λx hx=>?_,λx hx=>?_,λ_ x hx t off he=>?_⟩
 ·cases x with
  | tmp y=>rw[zQh,zQh,Fr.put_apply,if_neg (λh=>hd _ hx (by rw[h]))]
  | _=>rfl
 ·cases x with
  | tmp y =>
   have hy:y≠d:=λh=>hd _ hx (by rw[h]);simp only[evA,Ad.put_apply,if_neg hy,xX0 hb];cases ad y with
   | none=>simp only[plAd,Fr.put_apply,if_neg hy]
   | some p=>rfl
  | _=>rfl
 ·rw[Fr.put_apply,if_neg (zYg he hb (hd x hx))]
theorem xW4 {c:Cf}{op:Op}{ad:Ad}{fr:Fr}{t:Nat}{cs cs':List IV}(ht:fr t=.box cs)(h:(zZb op || yVr op)=false):SameAt c op ad ad fr (fr.put t (.box cs')):=by
 refine⟨λx _=>?_,λx _=>?_,λh'=>by rw[h] at h';cases h'⟩
 ·cases x with
  | tmp y =>
   rw[zQh,zQh,Fr.put_apply];split
   ·rename_i hy;rw[hy,ht];rfl
   ·rfl
  | _=>rfl
 ·cases x with
  | tmp y =>
   simp only[evA];cases ad y with
   | none =>
    simp only[plAd,Fr.put_apply];split
    ·rename_i hy;rw[hy,ht];rfl
    ·rfl
   | some p=>rfl
  | _=>rfl
theorem zWk {ops:List Oper}{o:Oper}{fr:Fr}{d:Nat}{s:SV}(h:d ∉ looks ops o):yKi ops o fr (fr.put d s):=by
 intro j want e hg he;refine .inl ?_;rw[Fr.put_apply,if_neg];rintro rfl;exact h (List.mem_append_right _ (by rw[hg];simp[he]))
theorem yU9 {ops:List Oper}{o:Oper}{fr:Fr}{t:Nat}{cs cs':List IV}(ht:fr t=.box cs):yKi ops o fr (fr.put t (.box cs')):=by
 intro j want e _ _;rw[Fr.put_apply];by_cases he:e=t
 ·rw[if_pos he,he];exact .inr ⟨cs,cs',ht,rfl⟩
 ·rw[if_neg he];exact .inl rfl
theorem yYm {ops:List Oper}{o:Oper}{d:Nat}(h:d ∉ looks ops o):∀x∈o.op.operands,x≠.tmp d:=by
 rintro x hx rfl;exact h (List.mem_append_left _ (List.mem_filterMap.2 ⟨.tmp d,by simpa using hx,rfl⟩))
def after (dst:Option Nat)(pr:PR)(ad:Ad)(fr:Fr):Option (Ad×Fr) :=
 match pr,dst with
 | .val x,some d=>some (ad.put d none,fr.put d (.iv x))
 | .val _,none=>some (ad,fr)
 | .adr t off,some d=>if d=t then none else some (ad.put d (some (t,off)),fr.put d (.iv .junk))
 | .adr _ _,none=>some (ad,fr)
 | .box cs,some d=>some (ad.put d none,fr.put d (.box cs))
 | .box _,none=>none
 | .sto _ _,some _=>none
 | .sto t cs,none=>some (ad,fr.put t (.box cs))
 | .nop,some _=>none
 | .nop,none=>some (ad,fr)
theorem yZl {dst:Option Nat}{K:Kt}{ad:Ad}{fr:Fr}{pr:PR}{st:ISt}{ds:List Dfd}:finK dst K ad fr pr st ds↔∃p,after dst pr ad fr=some p/\K p.1 p.2 st ds:=by
 cases pr<;>cases dst<;>simp only[finK,after,Option.some.injEq,exists_eq_left',reduceCtorEq,false_and,exists_false];split<;>simp
theorem yKv {c:Cf}{ops:List Oper}{o:Oper}{R:Rt}{ad:Ad}{fr:Fr}{st:ISt}{ds:List Dfd}(h:yX5 c ops o R ad fr st ds):yX5 c ops o (λpr st ds=>R pr st ds/\Fine c o.op ad fr pr) ad fr st ds:=by
 unfold yX5 at *;split
 ·exact xJ2 (by simpa[*] using h)
 ·rename_i j want hg;rw[hg] at h;simp only at h;split at h
  ·rename_i d hd;cases hs:fr d with
   | box cs=>rw[hs] at h;exact h.elim
   | iv x =>
    cases x with
    | raw v =>
     cases v with
     | bool b =>
      rw[hs] at h;simp only at h ⊢;split
      ·rename_i hw;rw[if_pos hw] at h;exact xJ2 h
      ·rename_i hw;rw[if_neg hw] at h;exact⟨h,yXr⟩
     | tuple t=>rw[hs] at h;exact⟨h,yXr⟩
     | _=>rw[hs] at h;exact h.elim
    | _=>rw[hs] at h;exact h.elim
  ·exact h.elim
structure Ap (c:Cf)(ops:List Oper)(x y:Oper):Prop where
 pure:yJd c.esc x.dst x.op=true\/yJd c.esc y.dst y.op=true
 ls:zZb x.op=true->yVr y.op=true->stOk ops y x=true
 sl:yVr x.op=true->zZb y.op=true->stOk ops x y=true
 d:∀d,x.dst=some d->d ∉ looks ops y/\y.dst≠some d
 e:∀d,y.dst=some d->d ∉ looks ops x
theorem Ap.symm {c:Cf}{ops:List Oper}{x y:Oper}(h:Ap c ops x y):Ap c ops y x :=
 ⟨h.pure.symm,λa b=>h.sl b a,λa b=>h.ls b a,λd hd=>⟨h.e d hd,λhx=>(h.d d hx).2 hd⟩,λd hd=>(h.d d hd).1⟩
theorem zU9 {esc:List Nat}{dst:Option Nat}{op:Op}(h:zKh esc dst op=true):yVr op=false:=by
 cases op<;>first|rfl|simp[zKh] at h
theorem yKr {esc:List Nat}{dst:Option Nat}{op:Op}(h:yJd esc dst op=true):yVr op=false:=by
 unfold yJd at h;rw[Bool.or_eq_true] at h;rcases h with h|h
 ·exact zU9 h
 ·cases op<;>first|rfl|cases h
theorem kQx {c:Cf}{ops:List Oper}{x y:Oper}(h:wZj c.esc ops x y=true):Ap c ops x y:=by
 unfold wZj at h;simp only[bAt,Bool.or_eq_true,Bool.not_eq_true',Bool.and_eq_false_iff] at h;obtain⟨⟨⟨⟨h1,h2⟩,h3⟩,h4⟩,h5⟩:=h;refine⟨h1,λa b=>by rcases h2 with h2|h2<;>simp_all,λa b=>by rcases h3 with h3|h3<;>simp_all,λd hd=>?_,λd hd=>?_⟩
 ·rw[hd] at h4;simp only[bAt,Bool.not_eq_true'] at h4;exact⟨by simpa using h4.1,by simpa using h4.2⟩
 ·rw[hd] at h5;simpa using h5
def Safe (ops:List Oper)(ad:Ad):Prop:=∀e,wJ3 ops e=true->yVo ad e/\ad e=none
theorem xGl (ops:List Oper):Safe ops Ad.none_:=λ_ _=>⟨λ_ _ _ h=>(by cases h),rfl⟩
theorem xJr {ops:List Oper}{e:Nat}(h:wJ3 ops e=true){o:Oper}(ho:o∈ops)(ha:xWt o.op=true):e ∉ looks ops o/\o.dst≠some e:=by
 unfold wJ3 at h;have:=List.all_eq_true.1 h o ho;rw[ha] at this;simp only[Bool.not_true,Bool.false_or,bAt,Bool.not_eq_true'] at this;exact⟨by simpa using this.1,by simpa using this.2⟩
theorem yKx {c:Cf}{ops:List Oper}{x y:Oper}(h:Ap c ops x y){ad:Ad}(hsf:Safe ops ad){fr:Fr}{pr:PR}{p:Ad×Fr}(hb:∀d,x.dst=some d->yVo ad d)(hf:Fine c x.op ad fr pr)(ha:after x.dst pr ad fr=some p) :
  SameAt c y.op ad p.1 fr p.2/\yKi ops y fr p.2:=by
 have refl:SameAt c y.op ad ad fr fr/\yKi ops y fr fr:=⟨⟨λ_ _=>rfl,λ_ _=>rfl,λ_ _ _ _ _ _=>rfl⟩,λ_ _ _ _ _=>.inl rfl⟩
 cases hx:x.dst with
 | none =>
  rw[hx] at ha;cases pr with
  | sto t cs =>
   simp only[after,Option.some.injEq] at ha;subst ha;obtain⟨hs,⟨cs0,ht⟩,_⟩:=hf.sto t cs rfl;have hst:yVr y.op=false:=by
    rcases h.pure with hp|hp
    ·rw[yKr hp] at hs;cases hs
    ·exact yKr hp
   cases hl:zZb y.op with
   | false=>exact⟨xW4 ht (by rw[hl,hst];rfl),yU9 ht⟩
   | true =>
    have hok:=h.sl hs hl;unfold stOk at hok;split at hok
    ·rename_i T e v hxo;rw[bAt] at hok;obtain⟨hno,hnone⟩:=hsf e hok.1;have hey:e ∉ looks ops y:=by simpa using hok.2
     obtain⟨off,hea⟩:=hf.stoA t cs rfl T _ v hxo;have hte:t=e:=by
      simp only[evA,hnone,plAd] at hea;cases hfe:fr e with
      | box cs1=>rw[hfe] at hea;simp only[plOf,Option.some.injEq,Pl.box.injEq] at hea;exact hea.1.symm
      | iv x1 =>
       rw[hfe] at hea;unfold plOf at hea;split at hea<;>first|(cases hea;done)|(cases hea;rfl)
     subst hte;show SameAt c y.op ad ad fr (fr.put t (.box cs))/\yKi ops y fr (fr.put t (.box cs));refine⟨⟨λx hx=>?_,λx hx=>?_,λ_ x hx t2 off2 he2=>?_⟩,yU9 ht⟩
     ·have hne:=yYm hey x hx;cases x with
      | tmp q =>
       rw[zQh,zQh,Fr.put_apply,if_neg λhq=>hne (by rw[hq])]
      | _=>rfl
     ·have hne:=yYm hey x hx;cases x with
      | tmp q =>
       simp only[evA];cases ad q with
       | none=>simp only[plAd];rw[Fr.put_apply,if_neg λhq=>hne (by rw[hq])]
       | some p=>rfl
      | _=>rfl
     ·rw[Fr.put_apply,if_neg (zYg he2 hno (yYm hey x hx))]
    ·cases hok
  | _=>simp only[after,Option.some.injEq,reduceCtorEq] at ha<;>subst ha<;>exact refl
 | some d =>
  rw[hx] at ha;have hd:=h.d d hx;have key:∀a s,SameAt c y.op ad (ad.put d a) fr (fr.put d s)/\yKi ops y fr (fr.put d s):=λa s=>⟨xW5 (yYm hd.1) (hb d hx),zWk hd.1⟩
  cases pr with
  | adr t off =>
   simp only[after] at ha;split at ha
   ·cases ha
   ·cases ha;exact key _ _
  | _=>simp only[after,Option.some.injEq,reduceCtorEq] at ha<;>subst ha<;>exact key _ _
theorem zWq {fr:Fr}{d e:Nat}{s t:SV}(h:d≠e):(fr.put d s).put e t=(fr.put e t).put d s:=by
 funext x;simp only[Fr.put_apply];by_cases h1:x=e
 ·rw[if_pos h1,if_neg (λh2=>h (by rw[<- h2,h1])),if_pos h1]
 ·rw[if_neg h1,if_neg h1]
theorem wQ9 {d e:Nat}(o:Option (Nat×Nat)):Ad.keep d (Ad.keep e o)=Ad.keep e (Ad.keep d o):=by
 cases o with
 | none=>rfl
 | some p =>
  obtain⟨t,off⟩:=p;by_cases h1:t=e
  ·by_cases h2:t=d
   ·simp only[Ad.keep,if_pos h1,if_pos h2]
   ·simp only[Ad.keep,if_pos h1,if_neg h2]
  ·by_cases h2:t=d
   ·simp only[Ad.keep,if_neg h1,if_pos h2]
   ·simp only[Ad.keep,if_neg h1,if_neg h2]
theorem xYb {ad:Ad}{d e:Nat}{a b:Option (Nat×Nat)}(h:d≠e)(ha:Ad.keep e a=a)(hb:Ad.keep d b=b):(ad.put d a).put e b=(ad.put e b).put d a:=by
 funext x;simp only[Ad.put_apply];by_cases h1:x=e
 ·have h2:x≠d:=λh2=>h (by rw[<- h2,h1]);rw[if_pos h1,if_neg h2,if_pos h1,hb]
 ·by_cases h2:x=d
  ·rw[if_neg h1,if_pos h2,if_pos h2,ha]
  ·rw[if_neg h1,if_neg h2,if_neg h2,if_neg h1,wQ9]
theorem yUs {c:Cf}{ops:List Oper}{y:Oper}{d:Nat}{ad:Ad}{fr:Fr}(hd:d ∉ looks ops y)(hb:yVo ad d){t:Nat}(h:∃x∈y.op.operands,∃off',evA c.gl ad fr x=some (.box t off')):t≠d:=by
 obtain⟨x,hx,off',he⟩:=h;exact zYg he hb (yYm hd x hx)
theorem yW8 {d:Nat}{pr:PR}{ad:Ad}{fr:Fr}{p:Ad×Fr}(h:after (some d) pr ad fr=some p):∃a s,p=(ad.put d a,fr.put d s)/\(∀ad' fr',after (some d) pr ad' fr'=some (ad'.put d a,fr'.put d s)) /\
  (a=none\/∃t off,pr=.adr t off/\a=some (t,off)):=by
 cases pr with
 | val x=>cases h;exact⟨_,_,rfl,λ_ _=>rfl,.inl rfl⟩
 | box x=>cases h;exact⟨_,_,rfl,λ_ _=>rfl,.inl rfl⟩
 | adr t off =>
  simp only[after] at h;split at h
  ·cases h
  ·rename_i hne;cases h;exact⟨_,_,rfl,λ_ _=>if_neg hne,.inr ⟨t,off,rfl,rfl⟩⟩
 | sto t cs=>cases h
 | nop=>cases h
theorem zQo {c:Cf}{ops:List Oper}{x y:Oper}(h:Ap c ops x y){ad:Ad}{fr:Fr}{px py:PR}{p q:Ad×Fr}(hbx:∀d,x.dst=some d->yVo ad d)(hby:∀d,y.dst=some d->yVo ad d)
  (hfx:Fine c x.op ad fr px) (hfy:Fine c y.op ad fr py) (hp:after x.dst px ad fr=some p) (hq:after y.dst py ad fr=some q) :
  ∃r,after y.dst py p.1 p.2=some r/\after x.dst px q.1 q.2=some r:=by
 have hkx:∀d t off,x.dst=some d->py=.adr t off->Ad.keep d (some (t,off))=some (t,off):=λd t off hd he=>by
  simp only[Ad.keep,if_neg (yUs (h.d d hd).1 (hbx d hd) (hfy.adr t off he))]
 have hky:∀d t off,y.dst=some d->px=.adr t off->Ad.keep d (some (t,off))=some (t,off):=λd t off hd he=>by
  simp only[Ad.keep,if_neg (yUs (h.e d hd) (hby d hd) (hfx.adr t off he))]
 have hsx:∀d t cs,x.dst=some d->py=.sto t cs->t≠d:=λd t cs hd he=>yUs (h.d d hd).1 (hbx d hd) (hfy.sto t cs he).2.2;have hsy:∀d t cs,y.dst=some d->px=.sto t cs->t≠d:=λd t cs hd he=>yUs (h.e d hd) (hby d hd) (hfx.sto t cs he).2.2;have hss:∀t cs t' cs',px=.sto t cs->py=.sto t' cs'->False:=λt cs t' cs' h1 h2=>by
  have a:=(hfx.sto t cs h1).1;have b:=(hfy.sto t' cs' h2).1;rcases h.pure with hq|hq
  ·rw[yKr hq] at a;cases a
  ·rw[yKr hq] at b;cases b
 cases hx:x.dst with
 | none =>
  cases hy:y.dst with
  | none =>
   rw[hx] at hp;rw[hy] at hq;cases px<;>cases py<;>simp only[after,Option.some.injEq,reduceCtorEq] at hp hq<;>subst hp hq<;>first|exact⟨_,rfl,rfl⟩|exact (hss _ _ _ _ rfl rfl).elim
  | some e =>
   rw[hx] at hp;rw[hy] at hq;cases px with
   | sto t cs =>
    have ht:=hsy e t cs hy rfl;simp only[after,Option.some.injEq] at hp;subst hp;cases py with
    | adr t' off =>
     simp only[after] at hq;split at hq
     ·cases hq
     ·rename_i hne;cases hq;exact⟨_,if_neg hne,by simp only[after];rw[zWq (λh=>ht h.symm)]⟩
    | _=>simp only[after,Option.some.injEq,reduceCtorEq] at hq<;>subst hq<;>exact⟨_,rfl,by simp only[after];rw[zWq (λh=>ht h.symm)]⟩
   | _=>simp only[after,Option.some.injEq,reduceCtorEq] at hp<;>subst hp<;>exact⟨_,hq,rfl⟩
 | some d =>
  rw[hx] at hp;obtain⟨a,s,rfl,hall,ha⟩:=yW8 hp;cases hy:y.dst with
  | none =>
   rw[hy] at hq;cases py with
   | sto t cs =>
    have ht:=hsx d t cs hx rfl;cases hq;exact⟨_,rfl,by rw[hall,zWq ht]⟩
   | box cs=>cases hq
   | _=>cases hq;exact⟨_,rfl,hall _ _⟩
  | some e =>
   rw[hy] at hq;obtain⟨b,s',rfl,hall',hb⟩:=yW8 hq;have hde:d≠e:=λh0=>(h.d d hx).2 (by rw[hy,h0]);have hka:Ad.keep e a=a:=by
    rcases ha with rfl|⟨t,off,h1,rfl⟩
    ·rfl
    ·exact hky e t off hy h1
   have hkb:Ad.keep d b=b:=by
    rcases hb with rfl|⟨t,off,h1,rfl⟩
    ·rfl
    ·exact hkx d t off hx h1
   exact⟨_,hall' _ _,by rw[hall,zWq hde,xYb hde hka hkb]⟩
