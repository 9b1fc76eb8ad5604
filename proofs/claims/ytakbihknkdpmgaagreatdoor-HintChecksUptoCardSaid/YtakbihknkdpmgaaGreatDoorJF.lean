/- The layer of ideal values, part O: regio -/
import Derived.Test.YtakbihknkdpmgaaGreatDoorJE
set_option linter.all false
namespace Go.Iv
open Go
section
variable {α:Type}{p q p' q':Prop}
def gX {o:Option α}{f g:α->Prop}(h:∀x,f x->g x):dp o f->dp o g:=by
 cases o<;>simp only[dp]<;>first|exact h _|exact id
def wo {c:Prop}(h:p->q):chk c p->chk c q:=λx=>⟨x.1,h x.2⟩
def Bl {c:Prop}(h:p->q):giv c p->giv c q:=λx y=>h (x y)
def Bn {c:Prop}(h:p->q):(c->p)->(c->q):=λx y=>h (x y)
def Bo {f g:α->Prop}(h:∀x,f x->g x):(∀x,f x)->(∀x,g x):=λA x=>h x (A x)
def wq {b:Bool}{k:Lock p}{l:Lock q}{E:Lock p'}{D:Lock q'}(h:p->p')(G:q->q'):jb b p q k l->jb b p' q' E D:=λx=>⟨λA=>h (x.1 A),λA=>G (x.2 A)⟩
def Bp (h:p->p')(A:q->q'):p\/q->p'\/q':=λx=>x.imp h A
def jW {c:Prop} [Decidable c](h:p->p')(A:q->q'):(if c then p else q)->(if c then p' else q'):=by split<;>assumption
def Bq {s:SV}{f g:List IV->Prop}(h:∀x,f x->g x):boxV s f->boxV s g:=by unfold boxV;split<;>first|exact h _|exact id
def wu {s:IObj}{f g:List IV->Prop}(h:∀x,f x->g x):obV s f->obV s g:=by unfold obV;split<;>first|exact h _|exact id
def Br {s:IObj}{f g:KeyK->List (Value×IV)->Prop}(h:∀x y,f x y->g x y):omV s f->omV s g:=by unfold omV;split<;>first|exact h _ _|exact id
def s8 {s:IV}{f g:IntKind->Int->Prop}(h:∀x y,f x y->g x y):intV s f->intV s g:=by unfold intV;split<;>first|exact h _ _|exact id
def wv {s:IV}{f g:Bool->Prop}(h:∀x,f x->g x):kR s f->kR s g:=by unfold kR;split<;>first|exact h _|exact id
def s9 {s:IV}{f g:Tag->List IV->Prop}(h:∀x y,f x y->g x y):slV s f->slV s g:=by unfold slV;split<;>first|exact h _ _|exact id
def wx {s:IV}{f D:Tag->List IV->Prop}{g A:Nat->Nat->Nat->Prop}(h:∀x y,f x y->D x y)(E:∀x y z,g x y z->A x y z):slX s f g->slX s D A:=by unfold slX;split<;>first|exact h _ _|exact E _ _ _|exact id
def s_ {s:IV}{f D:Tag->List IV->Prop}{g A:Nat->Nat->Nat->Nat->Prop}(h:∀x y,f x y->D x y)(E:∀x y z u,g x y z u->A x y z u):slY s f g->slY s D A:=by unfold slY;split<;>first|exact h _ _|exact E _ _ _ _|exact id
def wy {k:Option LenK}{i:Option IntKind}{f D g A:Prop}(h:f->D)(E:g->A):appK k i f g->appK k i D A:=by unfold appK;split<;>first|exact h|exact E|exact id
def th {s:IV}{f g:List IV->Prop}(h:∀x,f x->g x):aggV s f->aggV s g:=by unfold aggV;split<;>first|exact h _|exact id
def Bs {s:IV}{f g:List IV->Prop}(h:∀x,f x->g x):tupV s f->tupV s g:=by unfold tupV;split<;>first|exact h _|exact id
def wz {s:IV}{f g:Fn->List IV->List IV->Prop}(h:∀x y z,f x y z->g x y z):fnV s f->fnV s g:=by unfold fnV;split<;>first|exact h _ _ _|exact id
def Bt {s:IV}{f g:Option Nat->Prop}(h:∀x,f x->g x):mapV s f->mapV s g:=by unfold mapV;split<;>first|exact h _|exact id
def Bu {s:IV}{f g:Value->Prop}(h:∀x,f x->g x):keyV s f->keyV s g:=by unfold keyV;split<;>first|exact h _|exact λk hs=>h _ (k hs)|exact id
def Bv {s:IV}{f g:Nat->Prop}(h:∀x,f x->g x):adrV s f->adrV s g:=by unfold adrV;split<;>first|exact h _|exact id
def Bw {s:IObj}{f g:Nat->Nat->Array Nat->Nat->Prop}(h:∀x y z u,f x y z u->g x y z u):itO s f->itO s g:=by unfold itO;split<;>first|exact h _ _ _ _|exact id
def Bx {s:IObj}{f g:Array MapEntry->Nat->Prop}(h:∀x y,f x y->g x y):mxO s f->mxO s g:=by unfold mxO;split<;>first|exact h _ _|exact id
def By {e:Array MapEntry}{n:Array Nat}{p p':Prop}{q q':MapEntry->IV->Prop}{k:Lock p}{l:Lock q}{D:Lock p'}{A:Lock q'}(h:p->p')(E:∀x y,q x y->q' x y):nxR e n p q k l->nxR e n p' q' D A:=λx=>⟨λy=>h (x.1 y),λa b c d=>E _ _ (x.2 a b c d)⟩
def Bz {s:IV}{f g:Value->Prop}(h:∀x,f x->g x):rawV s f->rawV s g:=by unfold rawV;split<;>first|exact h _|exact id
end
section
variable {R R':Rt}(h:∀pr st ds,R pr st ds->R' pr st ds)
include h
set_option maxHeartbeats 1000000 in
def pn {c:Cf}{dst:Option Nat}{op:Op}{ad:Ad}{fr:Fr}{st:ISt}{ds:List Dfd}:vcR c dst op R ad fr st ds->vcR c dst op R' ad fr st ds:=by
 unfold vcR;split
 all_goals try unfold kA
 all_goals try unfold nilV
 all_goals repeat (first
  | exact h _ _ _|exact id
  | refine gX λ_=>?_|refine wo ?_|refine Bl ?_|refine Bn ?_|refine Bo λ_=>?_|refine wq ?_ ?_|refine Bp ?_ ?_|refine jW ?_ ?_
  | refine Bq λ_=>?_|refine wu λ_=>?_|refine Br λ_ _=>?_|refine s8 λ_ _=>?_|refine wv λ_=>?_|refine s9 λ_ _=>?_|refine wx (λ_ _=>?_) (λ_ _ _=>?_)|refine s_ (λ_ _=>?_) (λ_ _ _ _=>?_)|refine wy ?_ ?_
  | refine th λ_=>?_|refine Bs λ_=>?_|refine wz λ_ _ _=>?_|refine Bt λ_=>?_|refine Bz λ_=>?_|refine Bu λ_=>?_|refine Bv λ_=>?_|refine Bw λ_ _ _ _=>?_|refine Bx λ_ _=>?_|refine By ?_ (λ_ _=>?_)
  | (refine λA=>callV.mono A λ_ _=>?_;unfold ly)
  | unfold mA|unfold kS|unfold mB|unfold jT|unfold lx|unfold ns|unfold ou|unfold idxV|unfold kD|unfold arrV|unfold nu|unfold pc|unfold nv|unfold sN|unfold sR|unfold sS|unfold lenV|unfold appV|unfold qO|unfold appO|unfold appR|unfold appZ|unfold capV|unfold o_|unfold ov|unfold mC|unfold plR
  | split)
end
def l8 (esc:List Nat)(dst:Option Nat):Op->Bool
 | .move _|.assign _|.pick ..|.build ..=>true
 | .buildSlice ..=>!gO esc dst
 | .load ..=>!gO esc dst
 | .nilCheck _|.binOp ..|.unOp ..|.convert ..|.makeFunc ..|.slice ..|.fieldAddr ..|.field ..|.indexAddr ..|.index ..|.extract ..=>true
 | .alloc _|.box ..=>match dst with|some d=>!esc.contains d|none=>false
 | .call ⟨.builtin .len,_,_⟩|.call ⟨.builtin .max,_,_⟩=>true
 | .call ⟨.value (.func g),_,_⟩=>esc.contains (g+1000000)
 | _=>false
def nB:Op->Bool
 | .load ..=>true
 | _=>false
def l9:Op->Bool
 | .store ..=>true
 | _=>false
def hZ (esc:List Nat)(dst:Option Nat)(op:Op):Bool:=l8 esc dst op || nB op
def Jg (l:List Operand):List Nat:=l.filterMap λ| .tmp t=>some t|_=>none
def looks (ops:List Oper)(o:Oper):List Nat:=Jg o.op.operands.toList++(match o.guard with|some (j,_)=>(gV ops j).toList|none=>[])
def pq:Op->Bool
 | .fieldAddr ..=>true
 | .indexAddr ..=>true
 | _=>false
def ti (ops:List Oper)(e:Nat):Bool:=ops.all λo=>!pq o.op || (!(looks ops o).contains e&&!(o.dst == some e))
def stOk (ops:List Oper)(x y:Oper):Bool :=
 match x.op with
 | .store _ (.tmp e) _=>ti ops e&&!(looks ops y).contains e
 | _=>false
def wA (esc:List Nat)(ops:List Oper)(x y:Oper):Bool :=
 (hZ esc x.dst x.op || hZ esc y.dst y.op)&&(!(nB x.op&&l9 y.op) || stOk ops y x)&&(!(nB y.op&&l9 x.op) || stOk ops x y) &&
 (match x.dst with|some d=>!(looks ops y).contains d&&!(y.dst == some d)|none=>true)&&(match y.dst with|some d=>!(looks ops x).contains d|none=>true)
def Lin (F:Rt->ISt->List Dfd->Prop):Prop:=(∃pr,∀R st ds,F R st ds↔R pr st ds)\/(∀R st ds,¬ F R st ds)
def ft (pr:PR):Lin (λR st ds=>R pr st ds):=.inl ⟨pr,λ_ _ _=>Iff.rfl⟩
def eM:Lin (λ_ _ _=>False):=.inr λ_ _ _ h=>h
def eD {α:Type}{o:Option α}{F:α->Rt->ISt->List Dfd->Prop}(h:∀x,Lin (F x)):Lin (λR st ds=>dp o λx=>F x R st ds):=by
 cases o with
 | none=>exact eM
 | some x=>exact h x
def mI {c:Prop}{F:Rt->ISt->List Dfd->Prop}(h:Lin F):Lin (λR st ds=>chk c (F R st ds)):=by
 by_cases hc:c
 ·rcases h with⟨pr,h⟩|h
  ·exact .inl ⟨pr,λR st ds=>⟨λx=>(h R st ds).1 x.2,λx=>⟨hc,(h R st ds).2 x⟩⟩⟩
  ·exact .inr λR st ds x=>h R st ds x.2
 ·exact .inr λR st ds x=>hc x.1
def jX {c:Prop} [Decidable c]{F G:Rt->ISt->List Dfd->Prop}(h:Lin F)(A:Lin G):Lin (λR st ds=>if c then F R st ds else G R st ds):=by
 by_cases hc:c
 ·simpa only[cV hc] using h
 ·simpa only[a_ hc] using A
def BA {c:Prop}{F:Rt->ISt->List Dfd->Prop}(hc:c)(h:Lin F):Lin (λR st ds=>c->F R st ds):=by
 rcases h with⟨pr,h⟩|h
 ·exact .inl ⟨pr,λR st ds=>⟨λx=>(h R st ds).1 (x hc),λx _=>(h R st ds).2 x⟩⟩
 ·exact .inr λR st ds x=>h R st ds (x hc)
def Jh {b:Bool}{F G:Rt->ISt->List Dfd->Prop}(h:Lin F)(A:Lin G):Lin (λR st ds=>jb b (F R st ds) (G R st ds) .mk .mk):=by
 cases b
 ·simpa only[H7] using A
 ·simpa only[H6] using h
def BB {s:SV}{F:List IV->Rt->ISt->List Dfd->Prop}(h:∀x,Lin (F x)):Lin (λR st ds=>boxV s λx=>F x R st ds):=by
 cases s<;>first|exact h _|exact eM
def tj {s:IV}{F:IntKind->Int->Rt->ISt->List Dfd->Prop}(h:∀x y,Lin (F x y)):Lin (λR st ds=>intV s λx y=>F x y R st ds):=by
 cases s with
 | raw v=>cases v<;>first|exact h _ _|exact eM
 | _=>exact eM
def Ji {s:IV}{F:Bool->Rt->ISt->List Dfd->Prop}(h:∀x,Lin (F x)):Lin (λR st ds=>kR s λx=>F x R st ds):=by
 cases s with
 | raw v=>cases v<;>first|exact h _|exact eM
 | _=>exact eM
def BC {s:IV}{F:Tag->List IV->Rt->ISt->List Dfd->Prop}{G:Nat->Nat->Nat->Rt->ISt->List Dfd->Prop}(h:∀x y,Lin (F x y))(J:∀x y z,Lin (G x y z)):Lin (λR st ds=>slX s (λx y=>F x y R st ds) (λx y z=>G x y z R st ds)):=by
 by_cases hs:∃t D,s=.sl t D
 ·obtain⟨t,D,rfl⟩:=hs;exact h _ _
 ·by_cases E:∃b off n cap,s=.raw (.slice (some ⟨b,off,none⟩) n cap)
  ·obtain⟨b,off,n,cap,rfl⟩:=E;exact J _ _ _
  ·refine .inr λR st ds A=>?_;simp only at A;unfold slX at A;split at A
   ·exact hs ⟨_,_,rfl⟩
   ·exact E ⟨_,_,_,_,rfl⟩
   ·exact A
def Jj {s:IV}{F:Tag->List IV->Rt->ISt->List Dfd->Prop}{G:Nat->Nat->Nat->Nat->Rt->ISt->List Dfd->Prop}(h:∀x y,Lin (F x y))(J:∀x y z u,Lin (G x y z u)):Lin (λR st ds=>slY s (λx y=>F x y R st ds) (λx y z u=>G x y z u R st ds)):=by
 by_cases hs:∃t D,s=.sl t D
 ·obtain⟨t,D,rfl⟩:=hs;exact h _ _
 ·by_cases E:∃b off n cap,s=.raw (.slice (some ⟨b,off,none⟩) n cap)
  ·obtain⟨b,off,n,cap,rfl⟩:=E;exact J _ _ _ _
  ·refine .inr λR st ds A=>?_;simp only at A;unfold slY at A;split at A
   ·exact hs ⟨_,_,rfl⟩
   ·exact E ⟨_,_,_,_,rfl⟩
   ·exact A
def tn {s:IV}{F:List IV->Rt->ISt->List Dfd->Prop}(h:∀x,Lin (F x)):Lin (λR st ds=>aggV s λx=>F x R st ds):=by
 cases s<;>first|exact h _|exact eM
def Jk {s:IV}{F:List IV->Rt->ISt->List Dfd->Prop}(h:∀x,Lin (F x)):Lin (λR st ds=>tupV s λx=>F x R st ds):=by
 cases s<;>first|exact h _|exact eM
def wB {s:IV}{F:Value->Rt->ISt->List Dfd->Prop}(h:∀x,Lin (F x)):Lin (λR st ds=>rawV s λx=>F x R st ds):=by
 cases s<;>first|exact h _|exact eM
def Jl {ag:Bool}{n:Nat}{p:Pl}{fr:Fr}:Lin (λR st ds=>jT true ag n p fr R st ds):=by
 cases p with
 | box t off=>exact BB λ_=>eD λ_=>ft _
 | ptr b off=>exact eM
 | cp y=>exact jX (ft _) eM
def Jm {f:Nat×Bool×Nat}{p:Pl}:Lin (λR st ds=>ns f p R st ds):=by
 cases p with
 | box t off=>exact ft _
 | ptr b off=>exact ft _
 | cp y=>exact tn λ_=>eD λ_=>jX (ft _) eM
def Jn {len n j:Nat}{ag:Bool}{p:Pl}:Lin (λR st ds=>ou len ag n j p R st ds):=by
 unfold ou;refine jX ?_ eM;cases p with
 | box t off=>exact ft _
 | ptr b off=>exact ft _
 | cp y=>exact tn λ_=>eD λ_=>jX (ft _) eM
def Jo {k:LenK}{s:Option (TypeId×Bool×Nat×Nat)}{A:Option IV}{p:Option Pl}{e:Option (Nat×Bool×Nat)}{j:Int}:Lin (λR st ds=>idxV k s A p e j R st ds):=by
 cases k with
 | sl=>exact eD λ_=>eD λ_=>BC (λ_ _=>jX (jX (eD λ_=>ft _) eM) eM) (λ_ _ _=>jX (ft _) eM)
 | arr n=>exact eD λ_=>eD λ_=>jX Jn eM
 | _=>exact eM
def Jp {k:LenK}{e:Option (Nat×Bool×Nat)}{x:IV}{j:Int}:Lin (λR st ds=>nu k e x j R st ds):=by
 cases k with
 | str =>
  refine wB λv=>?_;cases v with
  | string s=>exact eD λ_=>ft _
  | _=>exact eM
 | arr n=>exact tn λ_=>eD λ_=>jX (eD λ_=>ft _) eM
 | _=>exact eM
def Jq {k:LenK}{x:IV}:Lin (λR st ds=>lenV true k x R st ds):=by
 cases k with
 | str =>
  refine wB λv=>?_;cases v with
  | string s=>exact BA (λh=>by cases h) (ft _)
  | _=>exact eM
 | sl=>exact BC (λ_ _=>BA (λh=>by cases h) (ft _)) (λ_ _ _=>ft _)
 | map=>exact eM
 | arr n=>exact ft _
def Jr {ar:Option (Nat×Bool×Nat)}{x:IV}{lo D A:Option Int}{len:Nat}:Lin (λR st ds=>arrV ar x lo D A len R st ds):=by
 cases x with
 | cptr y =>
  cases y with
  | agg cs =>
   cases lo with
   | none =>
    cases A with
    | none=>exact eD λ_=>mI (eD λ_=>ft _)
    | some m=>exact eM
   | some l=>exact eM
  | _=>exact eM
 | _=>exact eM
def Js {k:LenK}{s:Option (TypeId×Bool×Nat×Nat)}{ar:Option (Nat×Bool×Nat)}{x:IV}{lo D A:Option Int}:Lin (λR st ds=>kD k s ar x lo D A R st ds):=by
 cases k with
 | str =>
  refine wB λv=>?_;cases v with
  | string s =>
   cases A with
   | none=>exact eD λ_=>ft _
   | some m=>exact eM
  | _=>exact eM
 | sl =>
  refine eD λ_=>Jj (λ_ _=>mI ?_) (λ_ _ _ _=>?_)
  ·cases D with
   | none =>
    cases A with
    | none=>exact eD λ_=>mI (ft _)
    | some m=>exact eM
   | some h=>exact eD λ_=>mI (ft _)
  ·cases A with
   | none=>exact mI (eD λ_=>ft _)
   | some m=>exact eM
 | arr n=>exact Jr
 | map=>exact eM
def BD {o:Option IV}{p:Option Pl}:Lin (λR st ds=>kA true o p R st ds):=by
 cases o with
 | some x=>exact ft _
 | none=>exact eM
def Jt {o:Option IV}{p:Option Pl}:Lin (λR st ds=>nilV o p true R st ds):=by
 cases o with
 | none=>exact eM
 | some x =>
  cases x with
  | fn f a b=>exact jX (ft _) eM
  | cptr y=>exact ft _
  | raw v =>
   cases v with
   | pointer o =>
    cases o with
    | none=>exact eM
    | some q=>exact ft _
   | _=>exact eM
  | _=>exact eM
def BE {esc:List Nat}{d:Nat}(h:esc.contains d=false){cs:List IV}:Lin (λR st ds=>kS esc (some d) cs R st ds):=by
 have:¬ d∈esc:=by simpa using h
 simp only[kS,a_ this];exact ft _
def Ju {frz esc:List Nat}{d:Nat}(h:esc.contains d=false){y:IV}:Lin (λR st ds=>mA frz esc (some d) y R st ds):=jX (ft _) (BE h)
def wC {c:Cf}(A:c.dr=true){dst:Option Nat}{op:Op}{ad:Ad}{fr:Fr}(hp:l8 c.esc dst op=true):Lin (λR st ds=>vcR c dst op R ad fr st ds):=by
 unfold l8 at hp;split at hp
 case h_1=>simp only[vcR,A];exact BD
 case h_2=>simp only[vcR,A];exact BD
 case h_3=>exact eD λ_=>Ji λ_=>Jh (eD λ_=>ft _) (eD λ_=>ft _)
 case h_4=>exact mI (eD λ_=>eD λ_=>ft _)
 case h_5 =>
  have hl:gO c.esc dst=false:=by simpa using hp
  simp only[vcR,mB,hl,bFt,dI];exact eD λ_=>mI (eD λ_=>mI (ft _))
 case h_6 =>
  have hl:ldr c.dr c.esc dst=true:=by unfold ldr;rw[A,hp];rfl
  simp only[vcR,hl];exact eD λ_=>eD λ_=>Jl
 case h_7=>simp only[vcR,A];exact Jt
 case h_8=>exact eD λ_=>eD λ_=>eD λ_=>ft _
 case h_9=>exact eD λ_=>eD λ_=>ft _
 case h_10=>exact eD λ_=>eD λ_=>ft _
 case h_11=>exact eD λ_=>eD λ_=>ft _
 case h_12=>exact eD λ_=>eD λ_=>eD λ_=>eD λ_=>eD λ_=>Js
 case h_13=>exact eD λ_=>eD λ_=>Jm
 case h_14=>exact eD λ_=>eD λ_=>tn λ_=>eD λ_=>ft _
 case h_15=>exact eD λ_=>tj λ_ _=>eD λ_=>Jo
 case h_16=>exact eD λ_=>tj λ_ _=>eD λ_=>eD λ_=>Jp
 case h_17=>exact eD λ_=>Jk λ_=>eD λ_=>ft _
 case h_18 =>
  split at hp
  ·exact eD λ_=>BE (by simpa using hp)
  ·cases hp
 case h_19 =>
  split at hp
  ·exact eD λ_=>eD λ_=>mI (Ju (by simpa using hp))
  ·cases hp
 case h_20 =>
  rename_i args ts;obtain⟨args⟩:=args;obtain⟨ts⟩:=ts
  match args,ts with
  | [x],[T]=>simp only[vcR,A];exact eD λ_=>eD λ_=>Jq
  | [],_=>exact eM
  | _::_::_,_=>exact eM
  | [_],[]=>exact eM
  | [_],_::_::_=>exact eM
 case h_21 =>
  rename_i args ts;obtain⟨args⟩:=args
  match args with
  | [x,y]=>exact eD λ_=>eD λ_=>tj λ_ _=>tj λ_ _=>jX (ft _) eM
  | []=>exact eM
  | [_]=>exact eM
  | _::_::_::_=>exact eM
 case h_22 =>
  rename_i g _ _;have D:g+1000000∈c.esc:=by simpa using hp
  simp only[vcR,mC,cV D];exact eD λ_=>eD λ_=>ft _
 case h_23=>cases hp
structure SameAt (c:Cf)(op:Op)(ad ad':Ad)(fr fr':Fr):Prop where
 v:∀x∈op.operands,evV c.gl fr x=evV c.gl fr' x
 a:∀x∈op.operands,evA c.gl ad fr x=evA c.gl ad' fr' x
 box:(nB op || l9 op)=true->∀x∈op.operands,∀t off,evA c.gl ad fr x=some (.box t off)->fr t=fr' t
def pv {gl:Nat->Option IV}{fr fr':Fr}:∀ {l:List Operand},(∀x∈l,evV gl fr x=evV gl fr' x)->evL gl fr l=evL gl fr' l
 | [],_=>rfl
 | x::l,h=>by rw[AF,AF,h x (by simp),pv λy A=>h y (by simp[A])]
def wD {gl:Nat->Option IV}{fr fr':Fr}{o:Option Operand}(h:∀x,o=some x->evV gl fr x=evV gl fr' x):iJ gl fr o=iJ gl fr' o:=by
 cases o with
 | none=>rfl
 | some x=>simp only[Ic,h x rfl]
def BF {P:Program}{gl:Nat->Option IV}{fr fr':Fr}{T:TypeId}:∀ {l:List (Nat×Operand)} {cs:List IV},(∀x∈l.map (·.2),evV gl fr x=evV gl fr' x)->kC P gl fr T cs l=kC P gl fr' T cs l
 | [],cs,_=>rfl
 | (i,x)::l,cs,h=>by
  rw[vK,vK,h x (by simp)];cases bfI P T i with
  | none=>rfl
  | some f =>
   cases evV gl fr' x with
   | none=>rfl
   | some y=>simp only[oZ];split<;>first|exact BF λy A=>h y (by simp[A])|rfl
def Jv {dr ag:Bool}{n:Nat}{p:Pl}{fr fr':Fr}{R:Rt}{st:ISt}{ds:List Dfd}(h:∀t off,p=.box t off->fr t=fr' t):jT dr ag n p fr R st ds=jT dr ag n p fr' R st ds:=by
 cases p with
 | box t off=>simp only[jT,h t off rfl]
 | _=>rfl
def Jw {y:List IV}{p:Pl}{fr fr':Fr}{R:Rt}{st:ISt}{ds:List Dfd}(h:∀t off,p=.box t off->fr t=fr' t):lx y p fr R st ds=lx y p fr' R st ds:=by
 cases p with
 | box t off=>simp only[lx,h t off rfl]
 | _=>rfl
def Jx {c:Cf}{dst:Option Nat}{op:Op}{R:Rt}{ad O:Ad}{fr fr':Fr}{st:ISt}{ds:List Dfd}(h:SameAt c op ad O fr fr'):vcR c dst op R ad fr st ds=vcR c dst op R O fr' st ds:=by
 obtain⟨hv,G,hb⟩:=h;cases op with
 | move x=>simp only[vcR,hv x (by simp[Op.operands]),G x (by simp[Op.operands])]
 | assign x=>simp only[vcR,hv x (by simp[Op.operands]),G x (by simp[Op.operands])]
 | pick x y z=>simp only[vcR];rw[hv x (by simp[Op.operands]),hv y (by simp[Op.operands]),hv z (by simp[Op.operands])]
 | alloc T=>rfl
 | box T x=>simp only[vcR,hv x (by simp[Op.operands])]
 | build T parts=>simp only[vcR,λcs=>BF (P:=c.P) (T:=T) (cs:=cs) (l:=parts.toList) (λx D=>hv x (by simpa[Op.operands] using D))]
 | buildSlice T n parts=>simp only[vcR,pv (l:=parts.toList.map (·.2)) (λx D=>hv x (by simpa[Op.operands] using D))]
 | load T x =>
  have E:=hb rfl x (by simp[Op.operands]);simp only[vcR,<- G x (by simp[Op.operands])];cases hp:evA c.gl ad fr x with
  | none=>rfl
  | some p=>simp only[oq,λ(i:Bool×Nat)=>Jv (dr:=ldr c.dr c.esc dst) (ag:=i.1) (n:=i.2) (p:=p) (fr:=fr) (fr':=fr') (R:=R) (st:=st) (ds:=ds) (λt off U=>E t off (by rw[hp,U]))]
 | store T x y =>
  have E:=hb rfl x (by simp[Op.operands]);simp only[vcR,<- G x (by simp[Op.operands]),<- hv y (by simp[Op.operands])];cases hp:evA c.gl ad fr x with
  | none=>rfl
  | some p=>simp only[oq,λ(i:List IV)=>Jw (y:=i) (p:=p) (fr:=fr) (fr':=fr') (R:=R) (st:=st) (ds:=ds) (λt off U=>E t off (by rw[hp,U]))]
 | nilCheck x=>simp only[vcR,hv x (by simp[Op.operands]),G x (by simp[Op.operands])]
 | binOp o T x y T'=>simp only[vcR,hv x (by simp[Op.operands]),hv y (by simp[Op.operands])]
 | unOp o T x=>simp only[vcR,hv x (by simp[Op.operands])]
 | convert T T' x=>simp only[vcR,hv x (by simp[Op.operands])]
 | makeFunc f a b=>simp only[vcR,pv (l:=a.toList) (λx D=>hv x (by simp[Op.operands];exact .inl (by simpa using D))),pv (l:=b.toList) (λx D=>hv x (by simp[Op.operands];exact .inr (by simpa using D)))]
 | slice T x lo hi mx=>simp only[vcR,hv x (by simp[Op.operands]),wD (o:=lo) (λy J=>hv y (by simp[Op.operands,J])),wD (o:=hi) (λy J=>hv y (by simp[Op.operands,J])),
   wD (o:=mx) (λy J=>hv y (by simp[Op.operands,J]))]
 | fieldAddr T x i=>simp only[vcR,G x (by simp[Op.operands])]
 | field T x i=>simp only[vcR,hv x (by simp[Op.operands])]
 | indexAddr T x y=>simp only[vcR,hv x (by simp[Op.operands]),G x (by simp[Op.operands]),hv y (by simp[Op.operands])]
 | index T x y=>simp only[vcR,hv x (by simp[Op.operands]),hv y (by simp[Op.operands])]
 | lookup T x y ok=>simp only[vcR,hv x (by simp[Op.operands]),hv y (by simp[Op.operands])]
 | mapUpdate T x y z=>simp only[vcR,hv x (by simp[Op.operands]),hv y (by simp[Op.operands]),hv z (by simp[Op.operands])]
 | extract x i=>simp only[vcR,hv x (by simp[Op.operands])]
 | call cc =>
  obtain⟨f,args,ts⟩:=cc;cases f with
  | value f=>simp only[vcR,hv f (by simp[Op.operands,Call.operands]),pv (l:=args.toList) (λx D=>hv x (by simp[Op.operands,Call.operands];exact .inr (by simpa using D)))]
  | invoke r nm=>rfl
  | builtin b =>
   obtain⟨args⟩:=args;obtain⟨ts⟩:=ts;have A:∀x∈args,evV c.gl fr x=evV c.gl fr' x:=λx D=>hv x (by simp[Op.operands,Call.operands];exact D);cases b with
   | len =>
    match args,ts,A with
    | [x],[T],A=>simp only[vcR,A x (by simp)]
    | [],_,_=>rfl
    | _::_::_,_,_=>rfl
    | [_],[],_=>rfl
    | [_],_::_::_,_=>rfl
   | append =>
    match args,ts,A with
    | [x,y],[T,T'],A=>simp only[vcR,A x (by simp),A y (by simp)]
    | [],_,_=>rfl
    | [_],_,_=>rfl
    | _::_::_::_,_,_=>rfl
    | [_,_],[],_=>rfl
    | [_,_],[_],_=>rfl
    | [_,_],_::_::_::_,_=>rfl
   | cap =>
    match args,ts,A with
    | [x],[T],A=>simp only[vcR,A x (by simp)]
    | [],_,_=>rfl
    | _::_::_,_,_=>rfl
    | [_],[],_=>rfl
    | [_],_::_::_,_=>rfl
   | clear =>
    match args,ts,A with
    | [x],[T],A=>simp only[vcR,A x (by simp)]
    | [],_,_=>rfl
    | _::_::_,_,_=>rfl
    | [_],[],_=>rfl
    | [_],_::_::_,_=>rfl
   | max =>
    match args,A with
    | [x,y],A=>simp only[vcR,A x (by simp),A y (by simp)]
    | [],_=>rfl
    | [_],_=>rfl
    | _::_::_::_,_=>rfl
   | min =>
    match args,A with
    | [x,y],A=>simp only[vcR,A x (by simp),A y (by simp)]
    | [],_=>rfl
    | [_],_=>rfl
    | _::_::_::_,_=>rfl
   | _=>rfl
 | defer cc =>
  obtain⟨f,args,ts⟩:=cc;cases f with
  | value f=>simp only[vcR,hv f (by simp[Op.operands,Call.operands]),pv (l:=args.toList) (λx D=>hv x (by simp[Op.operands,Call.operands];exact .inr (by simpa using D)))]
  | _=>rfl
 | makeMap T r=>cases r<;>rfl
 | insert T x y z=>simp only[vcR,hv x (by simp[Op.operands]),hv y (by simp[Op.operands]),hv z (by simp[Op.operands])]
 | makeSlice T x y=>simp only[vcR,hv x (by simp[Op.operands]),hv y (by simp[Op.operands])]
 | range T x=>simp only[vcR,hv x (by simp[Op.operands])]
 | next x b=>cases b<;>simp only[vcR,hv x (by simp[Op.operands])]
 | entry x=>simp only[vcR,hv x (by simp[Op.operands])]
 | _=>rfl
def fh (c:Cf)(ops:List Oper)(o:Oper)(R:Rt)(ad:Ad)(fr:Fr)(st:ISt)(ds:List Dfd):Prop :=
 match o.guard with
 | none=>vcR c o.dst o.op R ad fr st ds
 | some (j,A)=>match gV ops j with
  | some d=>match fr d with
   | .iv (.raw (.bool b))=>if b=A then vcR c o.dst o.op R ad fr st ds else R (.val (.raw undef)) st ds
   | .iv (.raw (.tuple _))=>R (.val (.raw undef)) st ds
   | _=>False
  | none=>False
def iM (c:Cf)(ops:List Oper)(o:Oper)(K:Kt):Kt:=λad fr st ds=>fh c ops o (finK o.dst K ad fr) ad fr st ds
def vcK (c:Cf)(ops:List Oper):List Oper->Kt->Kt
 | [],K=>K
 | o::l,K=>iM c ops o (vcK c ops l K)
def BG {c:Cf}{ops l A:List Oper}{K:Kt}:vcK c ops (l++A) K=vcK c ops l (vcK c ops A K):=by
 induction l with
 | nil=>rfl
 | cons o l D=>rw[ed,vcK,vcK,D]
def BH {c:Cf}{ops:List Oper}{Q:Fr->ISt->List Dfd->Prop}:∀ {l:List Oper} {ad:Ad} {fr:Fr} {st:ISt} {ds:List Dfd},fU c ops l Q ad fr st ds->vcK c ops l (λ_ fr st ds=>Q fr st ds) ad fr st ds
 | [],_,_,_,_,h=>h
 | o::l,ad,fr,st,ds,h=>by
  have G:∀ad fr st ds,fU c ops l Q ad fr st ds->vcK c ops l (λ_ fr st ds=>Q fr st ds) ad fr st ds:=λ_ _ _ _=>BH;have A:∀pr st ds,finK o.dst (fU c ops l Q) ad fr pr st ds->finK o.dst (vcK c ops l (λ_ fr st ds=>Q fr st ds)) ad fr pr st ds:=by
   intro pr st ds;cases pr<;>cases o.dst<;>simp only[finK]<;>first|exact G _ _ _ _|exact id|(split<;>first|exact id|exact G _ _ _ _)
  unfold fU at h;change fh c ops o (finK o.dst (vcK c ops l (λ_ fr st ds=>Q fr st ds)) ad fr) ad fr st ds;unfold fh;split at h
  ·rename_i E;rw[E];exact pn A h
  ·rename_i j D E;rw[E];simp only[gV];cases hd:(ops[j]?).bind (·.dst) with
   | none=>rw[hd] at h;exact h.elim
   | some d =>
    rw[hd] at h;simp only at h ⊢;cases hs:fr d with
    | box cs=>rw[hs] at h;exact h.elim
    | iv x =>
     cases x with
     | raw v =>
      cases v with
      | bool b =>
       rw[hs,AU fr d D b _ _ _ _ hs] at h;simp only;split
       ·exact pn A (h.1 ‹_›)
       ·have J:b=!D:=by cases b<;>cases D<;>simp_all
        exact A _ _ _ (h.2 J)
      | tuple t =>
       rw[hs] at h;exact A _ _ _ h
      | _=>rw[hs] at h;exact h.elim
     | _=>rw[hs] at h;exact h.elim
def qT {c:Cf}{ops:List Oper}{o:Oper}{R R':Rt}(h:∀pr st ds,R pr st ds->R' pr st ds){ad:Ad}{fr:Fr}{st:ISt}{ds:List Dfd}:fh c ops o R ad fr st ds->fh c ops o R' ad fr st ds:=by
 unfold fh;split
 ·exact pn h
 ·split
  ·split
   ·split
    ·exact pn h
    ·exact h _ _ _
   ·exact h _ _ _
   ·exact id
  ·exact id
def Jy {c:Cf}(D:c.dr=true){ops:List Oper}{o:Oper}{ad:Ad}{fr:Fr}(hp:l8 c.esc o.dst o.op=true):Lin (λR st ds=>fh c ops o R ad fr st ds):=by
 cases A:o.guard with
 | none=>simp only[fh,A];exact wC D hp
 | some p =>
  obtain⟨j,E⟩:=p;cases hd:gV ops j with
  | none=>simp only[fh,A,hd];exact eM
  | some d =>
   cases hs:fr d with
   | box cs=>simp only[fh,A,hd,hs];exact eM
   | iv x =>
    cases x with
    | raw v =>
     cases v with
     | bool b=>simp only[fh,A,hd,hs];exact jX (wC D hp) (ft _)
     | tuple t=>simp only[fh,A,hd,hs];exact ft _
     | _=>simp only[fh,A,hd,hs];exact eM
    | _=>simp only[fh,A,hd,hs];exact eM
def Kept (st st':ISt):Prop:=∀b cs,st b=some (.box cs)->st' b=some (.box cs)
def Kept.refl (st:ISt):Kept st st:=λ_ _ h=>h
def LinS (st:ISt)(F:Rt->ISt->List Dfd->Prop):Prop:=(∃pr,(∀R ds,F R st ds↔R pr st ds)/\∀st',Kept st st'->∀R ds,R pr st' ds->F R st' ds)\/(∀R ds,¬ F R st ds)
def kV {F:Rt->ISt->List Dfd->Prop}(h:Lin F)(st:ISt):LinS st F:=by
 rcases h with⟨pr,h⟩|h
 ·exact .inl ⟨pr,λR ds=>h R st ds,λst' _ R ds A=>(h R st' ds).2 A⟩
 ·exact .inr λR ds=>h R st ds
def Jz {c:Cf}{dst:Option Nat}{T:TypeId}{x:Operand}{ad:Ad}{fr:Fr}(st:ISt):LinS st (λR st ds=>vcR c dst (.load T x) R ad fr st ds):=by
 simp only[vcR];cases tyI c.P T with
 | none=>exact kV eM st
 | some i =>
  cases evA c.gl ad fr x with
  | none=>exact kV eM st
  | some p =>
   simp only[oq];cases p with
   | box t off=>exact kV (BB λ_=>eD λ_=>ft _) st
   | cp y=>exact kV (jX (ft _) eM) st
   | ptr b off =>
    simp only[jT];cases hl:ldr c.dr c.esc dst with
    | true=>simp only[dD];exact kV eM st
    | false =>
     simp only[bFt,dI];cases A:st b with
     | none=>exact .inr λR ds h=>by simp only[A] at h;exact h
     | some o =>
      cases o with
      | box cs =>
       cases hp:gr i.1 i.2 cs off with
       | none=>exact .inr λR ds h=>by simp only[A,oq,obV,hp] at h;exact h
       | some y=>exact .inl ⟨.val y,λR ds=>by simp only[A,oq,obV,hp],λst' E R ds D=>by simp only[E b cs A,oq,obV,hp];exact D⟩
      | _=>exact .inr λR ds h=>by simp only[A,oq,obV] at h
def BI {c:Cf}(A:c.dr=true){dst:Option Nat}{op:Op}{ad:Ad}{fr:Fr}(hp:hZ c.esc dst op=true)(st:ISt):LinS st (λR st ds=>vcR c dst op R ad fr st ds):=by
 unfold hZ at hp;rw[lf] at hp;rcases hp with hp|hp
 ·exact kV (wC A hp) st
 ·cases op<;>first|exact Jz st|cases hp
def wE {c:Cf}(E:c.dr=true){ops:List Oper}{o:Oper}{ad:Ad}{fr:Fr}(hp:hZ c.esc o.dst o.op=true)(st:ISt):LinS st (λR st ds=>fh c ops o R ad fr st ds):=by
 cases A:o.guard with
 | none=>simp only[fh,A];exact BI E hp st
 | some p =>
  obtain⟨j,D⟩:=p;cases hd:gV ops j with
  | none=>simp only[fh,A,hd];exact kV eM st
  | some d =>
   cases hs:fr d with
   | box cs=>simp only[fh,A,hd,hs];exact kV eM st
   | iv x =>
    cases x with
    | raw v =>
     cases v with
     | bool b =>
      simp only[fh,A,hd,hs];by_cases G:b=D
      ·simp only[cV G];exact BI E hp st
      ·simp only[a_ G];exact kV (ft _) st
     | tuple t=>simp only[fh,A,hd,hs];exact kV (ft _) st
     | _=>simp only[fh,A,hd,hs];exact kV eM st
    | _=>simp only[fh,A,hd,hs];exact kV eM st
def appQ (esc:List Nat)(dst:Option Nat):Op->Bool
 | .call ⟨.builtin .append,⟨[_,_]⟩,⟨[_,_]⟩⟩=>qJ esc dst
 | _=>false
def Kept.new {st:ISt}{g:Nat}(D:st g=none)(o:Option IObj):Kept st (st.put g o):=λb cs A=>by
 rw[ISt.put_apply];split
 ·rename_i h;subst h;rw[D] at A;cases A
 ·exact A
def Kept.front {st:ISt}{g₀ g n s:Nat}(h0:st g₀=some (.front n s))(D:g=g₀\/st g=none)(o:Option IObj):Kept st ((st.put g₀ none).put g o):=λb cs A=>by
 have h1:b≠g₀:=by rintro rfl;rw[h0] at A;cases A
 have h2:b≠g:=by
  rintro rfl;rcases D with rfl|D
  ·exact h1 rfl
  ·rw[D] at A;cases A
 rw[ISt.put_apply,a_ h2,ISt.put_apply,a_ h1];exact A
def JA {esc:List Nat}{dst:Option Nat}{e:TypeId×Bool×Nat×Nat}{E:Tag}{J ys:List IV}{R:Rt}{st:ISt}{ds:List Dfd}(h:appV esc dst e E J ys R st ds) :
  appV esc dst e E J ys (λpr st' ds=>R pr st' ds/\Kept st st') st ds:=by
 obtain⟨h1,h2,A⟩:=h;refine⟨h1,h2,?_⟩;cases hc:E.cap with
 | none =>
  rw[hc] at A;cases ys with
  | nil=>exact⟨A,Kept.refl _⟩
  | cons y ys=>exact A.elim
 | nil =>
  rw[hc] at A;cases ys with
  | nil=>exact⟨A,Kept.refl _⟩
  | cons y ys =>
   by_cases O:gO esc dst=true
   ·simp only[cV O] at A ⊢;exact λg cap D=>⟨A g cap D,Kept.new D.1 _⟩
   ·simp only[a_ O] at A ⊢;exact λg D=>⟨A g D,Kept.new D _⟩
 | full =>
  rw[hc] at A;obtain⟨G,A⟩:=A;refine⟨G,?_⟩;cases ys with
  | nil=>exact⟨A,Kept.refl _⟩
  | cons y ys=>exact λg D=>⟨A g D,Kept.new D _⟩
 | app g₀ =>
  rw[hc] at A;obtain⟨G,U,A⟩:=A;exact⟨G,U,λg D=>⟨A g D,Kept.front U D _⟩⟩
def BJ {c:Cf}{dst:Option Nat}{op:Op}{R:Rt}{ad:Ad}{fr:Fr}{st:ISt}{ds:List Dfd}(A:appQ c.esc dst op=true)(h:vcR c dst op R ad fr st ds) :
  vcR c dst op (λpr st' ds=>R pr st' ds/\Kept st st') ad fr st ds:=by
 unfold appQ at A;split at A
 ·simp only[vcR] at h ⊢;refine gX (λe=>?_) h;refine wy ?_ ?_
  ·refine gX λs=>s_ (λE G=>gX λy=>s9 λ_ ys h=>JA h) λb off n cap=>gX λy=>s_ (λ_ ys h=>?_) (λ_ _ _ _ h=>?_)
   all_goals (unfold qO at h;rw[cV A] at h;exact h.elim)
  ·refine gX λs=>s9 λE _=>gX λy=>s8 λ_ m h=>?_;obtain⟨h1,h2⟩:=h;exact⟨h1,λg cap D=>⟨h2 g cap D,Kept.new D.1 _⟩⟩
 ·cases A
def JB {c:Cf}{ops:List Oper}{o:Oper}{R:Rt}{ad:Ad}{fr:Fr}{st:ISt}{ds:List Dfd}(D:appQ c.esc o.dst o.op=true)(h:fh c ops o R ad fr st ds) :
  fh c ops o (λpr st' ds=>R pr st' ds/\Kept st st') ad fr st ds:=by
 unfold fh at h ⊢;split at h
 ·exact BJ D h
 ·split at h
  ·split at h
   ·split at h
    ·rename_i A;rw[cV A];exact BJ D h
    ·rename_i A;rw[a_ A];exact⟨h,Kept.refl _⟩
   ·exact⟨h,Kept.refl _⟩
   ·exact h.elim
  ·exact h.elim
def nC (ops:List Oper)(o:Oper)(fr fr':Fr):Prop:=∀j A d,o.guard=some (j,A)->gV ops j=some d->fr d=fr' d\/(∃cs cs',fr d=.box cs/\fr' d=.box cs')
def pw {c:Cf}{ops:List Oper}{o:Oper}{R:Rt}{ad D:Ad}{fr fr':Fr}{st:ISt}{ds:List Dfd}(h:SameAt c o.op ad D fr fr')(G:nC ops o fr fr'):fh c ops o R ad fr st ds=fh c ops o R D fr' st ds:=by
 unfold fh;rw[Jx h];cases E:o.guard with
 | none=>rfl
 | some p =>
  obtain⟨j,A⟩:=p;cases hd:gV ops j with
  | none=>simp only[hd]
  | some d =>
   simp only[hd];rcases G j A d E hd with J|⟨cs,cs',h1,h2⟩
   ·rw[J]
   ·rw[h1,h2]
structure Fine (c:Cf)(op:Op)(ad:Ad)(fr:Fr)(pr:PR):Prop where
 isA:∀t off,pr=.adr t off->c.dr=true->pq op=true
 adr:∀t off,pr=.adr t off->∃x∈op.operands,∃off',evA c.gl ad fr x=some (.box t off')
 sto:∀t cs,pr=.sto t cs->l9 op=true/\(∃cs0,fr t=.box cs0)/\∃x∈op.operands,∃off',evA c.gl ad fr x=some (.box t off')
 stoA:∀t cs,pr=.sto t cs->∀T a v,op=.store T a v->∃off',evA c.gl ad fr a=some (.box t off')
def jK {c:Cf}{op:Op}{ad:Ad}{fr:Fr}{x:IV}:Fine c op ad fr (.val x):=⟨(λ_ _ h=>by cases h),(λ_ _ h=>by cases h),(λ_ _ h=>by cases h),(λ_ _ h=>by cases h)⟩
def JC {c:Cf}{op:Op}{ad:Ad}{fr:Fr}{x:List IV}:Fine c op ad fr (.box x):=⟨(λ_ _ h=>by cases h),(λ_ _ h=>by cases h),(λ_ _ h=>by cases h),(λ_ _ h=>by cases h)⟩
def BK {c:Cf}{op:Op}{ad:Ad}{fr:Fr}:Fine c op ad fr .nop:=⟨(λ_ _ h=>by cases h),(λ_ _ h=>by cases h),(λ_ _ h=>by cases h),(λ_ _ h=>by cases h)⟩
def wF {c:Cf}{op:Op}{R:Rt}{ad:Ad}{fr:Fr}{st:ISt}{ds:List Dfd}{x:Operand}{p:Pl}(A:¬ c.dr=true)(E:x∈op.operands)(hp:evA c.gl ad fr x=some p):plR p R st ds->plR p (λpr st ds=>R pr st ds/\Fine c op ad fr pr) st ds:=by
 cases p with
 | box t off=>exact λh=>⟨h,⟨(λ_ _ _ h0=>(A h0).elim),λJ D G=>by cases G;exact⟨x,E,off,hp⟩,(λ_ _ h=>by cases h),(λ_ _ h=>by cases h)⟩⟩
 | ptr b off=>exact λh=>⟨h,jK⟩
 | cp y=>exact λh=>⟨h,jK⟩
def BL {c:Cf}{op:Op}{R:Rt}{ad:Ad}{fr:Fr}{st:ISt}{ds:List Dfd}{x:Operand}(A:x∈op.operands)(o:Option IV) :
  kA c.dr o (evA c.gl ad fr x) R st ds->kA c.dr o (evA c.gl ad fr x) (λpr st ds=>R pr st ds/\Fine c op ad fr pr) st ds:=by
 unfold kA;split
 ·exact λh=>⟨h,jK⟩
 ·split
  ·exact id
  ·intro h;obtain⟨p,hp,h⟩:=yQ3.1 h;exact yQ3.2 ⟨p,hp,wF ‹_› A hp h⟩
set_option maxHeartbeats 1000000 in
def BM {c:Cf}{dst:Option Nat}{op:Op}{R:Rt}{ad:Ad}{fr:Fr}{st:ISt}{ds:List Dfd}:vcR c dst op R ad fr st ds->vcR c dst op (λpr st ds=>R pr st ds/\Fine c op ad fr pr) ad fr st ds:=by
 by_cases h1:∃x,op=.move x\/op=.assign x
 ·obtain⟨x,rfl|rfl⟩:=h1
  ·exact BL (by simp[Op.operands]) _
  ·exact BL (by simp[Op.operands]) _
 by_cases h2:∃x,op=.nilCheck x
 ·obtain⟨x,rfl⟩:=h2;simp only[vcR,nilV];split
  ·exact jW (λh=>⟨h,jK⟩) id
  ·exact λh=>⟨h,jK⟩
  ·split
   ·exact λh=>⟨h,jK⟩
   ·intro h;obtain⟨p,hp,h⟩:=yQ3.1 h;exact yQ3.2 ⟨p,hp,wF ‹_› (by simp[Op.operands]) hp h⟩
  ·split
   ·exact id
   ·intro h;obtain⟨p,hp,h⟩:=yQ3.1 h;exact yQ3.2 ⟨p,hp,wF ‹_› (by simp[Op.operands]) hp h⟩
 by_cases h3:∃T x i,op=.fieldAddr T x i
 ·obtain⟨T,x,i,rfl⟩:=h3;simp only[vcR];refine gX λf=>λh=>?_;obtain⟨p,hp,h⟩:=yQ3.1 h;refine yQ3.2 ⟨p,hp,?_⟩;cases p with
  | box t off=>exact⟨h,⟨(λ_ _ _ _=>rfl),λE D A=>by cases A;exact⟨x,by simp[Op.operands],off,hp⟩,(λ_ _ h=>by cases h),(λ_ _ h=>by cases h)⟩⟩
  | ptr b off=>exact⟨h,jK⟩
  | cp y=>exact th (λ_=>gX λ_=>jW (λh=>⟨h,jK⟩) id) h
 by_cases U:∃T x y,op=.indexAddr T x y
 ·obtain⟨T,x,y,rfl⟩:=U;simp only[vcR];refine gX λ_=>s8 λ_ j=>gX λk=>?_;cases k with
  | sl=>exact gX λ_=>gX λ_=>wx (λ_ _=>jW (jW (gX λ_=>λh=>⟨h,jK⟩) id) id) (λ_ _ _=>jW (λh=>⟨h,jK⟩) id)
  | arr n =>
   refine gX λ_=>λh=>?_;obtain⟨p,hp,h⟩:=yQ3.1 h;refine yQ3.2 ⟨p,hp,jW (jW ?_ id) id h⟩;cases p with
   | box t off=>exact λh=>⟨h,⟨(λ_ _ _ _=>rfl),λE D A=>by cases A;exact⟨x,by simp[Op.operands],off,hp⟩,(λ_ _ h=>by cases h),(λ_ _ h=>by cases h)⟩⟩
   | ptr b off=>exact λh=>⟨h,jK⟩
   | cp y=>exact th (λ_=>gX λ_=>jW (λh=>⟨h,jK⟩) id)
  | str=>exact id
  | map=>exact id
 by_cases O:∃T x y,op=.store T x y
 ·obtain⟨T,x,y,rfl⟩:=O;simp only[vcR];refine gX λ_=>gX λ_=>wo λh=>?_;obtain⟨p,hp,h⟩:=yQ3.1 h;refine yQ3.2 ⟨p,hp,?_⟩;revert h;cases p with
  | box t off =>
   simp only[lx];cases hf:fr t with
   | box cs=>exact jW (λh=>⟨h,⟨(λ_ _ h=>by cases h),(λ_ _ h=>by cases h),(λE cs' A=>by cases A;exact⟨rfl,⟨cs,hf⟩,x,by simp[Op.operands],off,hp⟩),λE cs' A T' a' v' ho=>by cases A;cases ho;exact⟨off,hp⟩⟩⟩) id
   | iv x=>exact id
  | ptr b off=>exact gX λ_=>wu λ_=>jW (λh=>⟨h,BK⟩) id
  | cp y=>exact id
 have hv:∀x st ds,R (.val x) st ds->R (.val x) st ds/\Fine c op ad fr (.val x):=λx st ds h=>⟨h,jK⟩
 have J:∀x st ds,R (.box x) st ds->R (.box x) st ds/\Fine c op ad fr (.box x):=λx st ds h=>⟨h,JC⟩
 have G:∀st ds,R .nop st ds->R .nop st ds/\Fine c op ad fr .nop:=λst ds h=>⟨h,BK⟩
 generalize Fine c op ad fr=F at hv J G ⊢;unfold vcR;split
 all_goals first
  | exact absurd ⟨_,.inl rfl⟩ h1|exact absurd ⟨_,.inr rfl⟩ h1|exact absurd ⟨_,rfl⟩ h2|exact absurd ⟨_,_,_,rfl⟩ h3|exact absurd ⟨_,_,_,rfl⟩ U|exact absurd ⟨_,_,_,rfl⟩ O
  | repeat (first
   | exact hv _ _ _|exact J _ _ _|exact G _ _|exact id
   | refine gX λ_=>?_|refine wo ?_|refine Bl ?_|refine Bn ?_|refine Bo λ_=>?_|refine wq ?_ ?_|refine Bp ?_ ?_|refine jW ?_ ?_
   | refine Bq λ_=>?_|refine wu λ_=>?_|refine Br λ_ _=>?_|refine s8 λ_ _=>?_|refine wv λ_=>?_|refine s9 λ_ _=>?_|refine wx (λ_ _=>?_) (λ_ _ _=>?_)|refine s_ (λ_ _=>?_) (λ_ _ _ _=>?_)|refine wy ?_ ?_
   | refine th λ_=>?_|refine Bs λ_=>?_|refine wz λ_ _ _=>?_|refine Bt λ_=>?_|refine Bz λ_=>?_|refine Bu λ_=>?_|refine Bv λ_=>?_|refine Bw λ_ _ _ _=>?_|refine Bx λ_ _=>?_|refine By ?_ (λ_ _=>?_)
   | (refine λhh=>callV.mono hh λ_ _=>?_;unfold ly)
   | unfold mA|unfold kS|unfold mB|unfold jT|unfold kD|unfold arrV|unfold nu|unfold pc|unfold nv|unfold sN|unfold sR|unfold sS|unfold lenV|unfold appV|unfold qO|unfold appO|unfold appR|unfold appZ|unfold capV|unfold o_|unfold ov|unfold mC
   | split)
def jY (ad:Ad)(d:Nat):Prop:=∀x t off,ad x=some (t,off)->t≠d
def JD {ad:Ad}{d:Nat}(h:jY ad d)(s:Nat):Ad.keep d (ad s)=ad s:=by
 cases A:ad s with
 | none=>rfl
 | some p =>
  obtain⟨t,off⟩:=p;simp only[Ad.keep,a_ (h s t off A)]
def wG {c:Cf}{ad:Ad}{fr:Fr}{x:Operand}{t off d:Nat}(h:evA c.gl ad fr x=some (.box t off))(U:jY ad d)(J:x≠.tmp d):t≠d:=by
 cases x with
 | tmp y =>
  simp only[evA] at h;cases D:ad y with
  | some p =>
   obtain⟨G,A⟩:=p;rw[D] at h;simp only[plAd,dG,Pl.box.injEq] at h;exact h.1▸U y G A D
  | none =>
   rw[D] at h;simp only[plAd] at h;cases E:fr y with
   | box cs =>
    rw[E] at h;simp only[plOf,dG,Pl.box.injEq] at h;rintro rfl;exact J (by rw[h.1])
   | iv z =>
    rw[E] at h;exfalso;cases z with
    | raw u =>
     cases u with
     | pointer p =>
      cases p with
      | none=>cases h
      | some p =>
       obtain⟨pb,po,ps⟩:=p;cases ps<;>cases h
     | _=>cases h
    | _=>cases h
 | global g=>simp only[evA] at h;cases O:c.gl g<;>rw[O] at h<;>cases h
 | const v=>cases h
 | func f=>cases h
def JE {c:Cf}{op:Op}{ad:Ad}{fr:Fr}{d:Nat}{a:Option (Nat×Nat)}{s:SV}(hd:∀x∈op.operands,x≠.tmp d)(E:jY ad d):SameAt c op ad (ad.put d a) fr (fr.put d s):=by
 refine⟨λx A=>?_,λx A=>?_,λ_ x A t off G=>?_⟩
 ·cases x with
  | tmp y=>rw[oY,oY,Fr.put_apply,a_ (λh=>hd _ A (by rw[h]))]
  | _=>rfl
 ·cases x with
  | tmp y =>
   have D:y≠d:=λh=>hd _ A (by rw[h]);simp only[evA,Ad.put_apply,a_ D,JD E];cases ad y with
   | none=>simp only[plAd,Fr.put_apply,a_ D]
   | some p=>rfl
  | _=>rfl
 ·rw[Fr.put_apply,a_ (wG G E (hd x A))]
def JG {c:Cf}{op:Op}{ad:Ad}{fr:Fr}{t:Nat}{cs cs':List IV}(ht:fr t=.box cs)(h:(nB op || l9 op)=false):SameAt c op ad ad fr (fr.put t (.box cs')):=by
 refine⟨λx _=>?_,λx _=>?_,λD=>by rw[h] at D;cases D⟩
 ·cases x with
  | tmp y =>
   rw[oY,oY,Fr.put_apply];split
   ·rename_i A;rw[A,ht];rfl
   ·rfl
  | _=>rfl
 ·cases x with
  | tmp y =>
   simp only[evA];cases ad y with
   | none =>
    simp only[plAd,Fr.put_apply];split
    ·rename_i A;rw[A,ht];rfl
    ·rfl
   | some p=>rfl
  | _=>rfl
def JH {ops:List Oper}{o:Oper}{fr:Fr}{d:Nat}{s:SV}(h:d ∉ looks ops o):nC ops o fr (fr.put d s):=by
 intro j A e D E;refine .inl ?_;rw[Fr.put_apply,a_];rintro rfl;exact h (jD _ (by rw[D];simp[E]))
def BN {ops:List Oper}{o:Oper}{fr:Fr}{t:Nat}{cs cs':List IV}(ht:fr t=.box cs):nC ops o fr (fr.put t (.box cs')):=by
 intro j D e _ _;rw[Fr.put_apply];by_cases A:e=t
 ·rw[cV A,A];exact .inr ⟨cs,cs',ht,rfl⟩
 ·rw[a_ A];exact .inl rfl
def qU {ops:List Oper}{o:Oper}{d:Nat}(h:d ∉ looks ops o):∀x∈o.op.operands,x≠.tmp d:=by
 rintro x A rfl;exact h (iX _ (List.mem_filterMap.2 ⟨.tmp d,by simpa using A,rfl⟩))
def after (dst:Option Nat)(pr:PR)(ad:Ad)(fr:Fr):Option (Ad×Fr) :=
 match pr,dst with
 | .val x,some d=>some (ad.put d none,fr.put d x)
 | .val _,none=>some (ad,fr)
 | .adr t off,some d=>if d=t then none else some (ad.put d (some (t,off)),fr.put d (.iv .junk))
 | .adr _ _,none=>some (ad,fr)
 | .box cs,some d=>some (ad.put d none,fr.put d (.box cs))
 | .box _,none=>none
 | .sto _ _,some _=>none
 | .sto t cs,none=>some (ad,fr.put t (.box cs))
 | .nop,some _=>none
 | .nop,none=>some (ad,fr)
def yZg {dst:Option Nat}{K:Kt}{ad:Ad}{fr:Fr}{pr:PR}{st:ISt}{ds:List Dfd}:finK dst K ad fr pr st ds↔∃p,after dst pr ad fr=some p/\K p.1 p.2 st ds:=by
 cases pr<;>cases dst<;>simp only[finK,after,dG,exists_eq_left',reduceCtorEq,false_and,exists_false];split<;>simp
def px {c:Cf}{ops:List Oper}{o:Oper}{R:Rt}{ad:Ad}{fr:Fr}{st:ISt}{ds:List Dfd}(h:fh c ops o R ad fr st ds):fh c ops o (λpr st ds=>R pr st ds/\Fine c o.op ad fr pr) ad fr st ds:=by
 unfold fh at *;split
 ·exact BM (by simpa[*] using h)
 ·rename_i j D E;rw[E] at h;simp only at h;split at h
  ·rename_i d hd;cases hs:fr d with
   | box cs=>rw[hs] at h;exact h.elim
   | iv x =>
    cases x with
    | raw v =>
     cases v with
     | bool b =>
      rw[hs] at h;simp only at h ⊢;split
      ·rename_i A;rw[cV A] at h;exact BM h
      ·rename_i A;rw[a_ A] at h;exact⟨h,jK⟩
     | tuple t=>rw[hs] at h;exact⟨h,jK⟩
     | _=>rw[hs] at h;exact h.elim
    | _=>rw[hs] at h;exact h.elim
  ·exact h.elim
structure Ap (c:Cf)(ops:List Oper)(x y:Oper):Prop where
 pure:hZ c.esc x.dst x.op=true\/hZ c.esc y.dst y.op=true
 ls:nB x.op=true->l9 y.op=true->stOk ops y x=true
 sl:l9 x.op=true->nB y.op=true->stOk ops x y=true
 d:∀d,x.dst=some d->d ∉ looks ops y/\y.dst≠some d
 e:∀d,y.dst=some d->d ∉ looks ops x
def Ap.symm {c:Cf}{ops:List Oper}{x y:Oper}(h:Ap c ops x y):Ap c ops y x :=
 ⟨h.pure.symm,λa b=>h.sl b a,λa b=>h.ls b a,λd hd=>⟨h.e d hd,λA=>(h.d d A).2 hd⟩,λd hd=>(h.d d hd).1⟩
def JI {esc:List Nat}{dst:Option Nat}{op:Op}(h:l8 esc dst op=true):l9 op=false:=by
 cases op<;>first|rfl|simp[l8] at h
def tA {esc:List Nat}{dst:Option Nat}{op:Op}(h:hZ esc dst op=true):l9 op=false:=by
 unfold hZ at h;rw[lf] at h;rcases h with h|h
 ·exact JI h
 ·cases op<;>first|rfl|cases h
def JJ {c:Cf}{ops:List Oper}{x y:Oper}(h:wA c.esc ops x y=true):Ap c ops x y:=by
 unfold wA at h;simp only[bAt,lf,lZ,Bool.and_eq_false_iff] at h;obtain⟨⟨⟨⟨h1,h2⟩,D⟩,A⟩,E⟩:=h;refine⟨h1,λa b=>by rcases h2 with h2|h2<;>simp_all,λa b=>by rcases D with D|D<;>simp_all,λd hd=>?_,λd hd=>?_⟩
 ·rw[hd] at A;simp only[bAt,lZ] at A;exact⟨by simpa using A.1,by simpa using A.2⟩
 ·rw[hd] at E;simpa using E
def Safe (ops:List Oper)(ad:Ad):Prop:=∀e,ti ops e=true->jY ad e/\ad e=none
def JK (ops:List Oper):Safe ops Ad.none_:=λ_ _=>⟨λ_ _ _ h=>(by cases h),rfl⟩
def BO {ops:List Oper}{e:Nat}(h:ti ops e=true){o:Oper}(A:o∈ops)(D:pq o.op=true):e ∉ looks ops o/\o.dst≠some e:=by
 unfold ti at h;have:=eP.1 h o A;rw[D] at this;simp only[mw,Bool.false_or,bAt,lZ] at this;exact⟨by simpa using this.1,by simpa using this.2⟩
def pz {c:Cf}{ops:List Oper}{x y:Oper}(h:Ap c ops x y){ad:Ad}(ae:Safe ops ad){fr:Fr}{pr:PR}{p:Ad×Fr}(hb:∀d,x.dst=some d->jY ad d)(hf:Fine c x.op ad fr pr)(E:after x.dst pr ad fr=some p) :
  SameAt c y.op ad p.1 fr p.2/\nC ops y fr p.2:=by
 have refl:SameAt c y.op ad ad fr fr/\nC ops y fr fr:=⟨⟨λ_ _=>rfl,λ_ _=>rfl,λ_ _ _ _ _ _=>rfl⟩,λ_ _ _ _ _=>.inl rfl⟩
 cases G:x.dst with
 | none =>
  rw[G] at E;cases pr with
  | sto t cs =>
   simp only[after,dG] at E;subst E;obtain⟨hs,⟨am,ht⟩,_⟩:=hf.sto t cs rfl;have hst:l9 y.op=false:=by
    rcases h.pure with hp|hp
    ·rw[tA hp] at hs;cases hs
    ·exact tA hp
   cases hl:nB y.op with
   | false=>exact⟨JG ht (by rw[hl,hst];rfl),BN ht⟩
   | true =>
    have D:=h.sl hs hl;unfold stOk at D;split at D
    ·rename_i T e v ab;rw[bAt] at D;obtain⟨ag,J⟩:=ae e D.1;have U:e ∉ looks ops y:=by simpa using D.2
     obtain⟨off,A⟩:=hf.stoA t cs rfl T _ v ab;have ac:t=e:=by
      simp only[evA,J,plAd] at A;cases aa:fr e with
      | box al=>rw[aa] at A;simp only[plOf,dG,Pl.box.injEq] at A;exact A.1.symm
      | iv x1 =>
       rw[aa] at A;unfold plOf at A;split at A<;>first|(cases A;done)|(cases A;rfl)
     subst ac;show SameAt c y.op ad ad fr (fr.put t (.box cs))/\nC ops y fr (fr.put t (.box cs));refine⟨⟨λx G=>?_,λx G=>?_,λ_ x G t2 ai ah=>?_⟩,BN ht⟩
     ·have O:=qU U x G;cases x with
      | tmp q =>
       rw[oY,oY,Fr.put_apply,a_ λhq=>O (by rw[hq])]
      | _=>rfl
     ·have O:=qU U x G;cases x with
      | tmp q =>
       simp only[evA];cases ad q with
       | none=>simp only[plAd];rw[Fr.put_apply,a_ λhq=>O (by rw[hq])]
       | some p=>rfl
      | _=>rfl
     ·rw[Fr.put_apply,a_ (wG ah ag (qU U x G))]
    ·cases D
  | _=>simp only[after,dG,reduceCtorEq] at E<;>subst E<;>exact refl
 | some d =>
  rw[G] at E;have hd:=h.d d G;have key:∀a s,SameAt c y.op ad (ad.put d a) fr (fr.put d s)/\nC ops y fr (fr.put d s):=λa s=>⟨JE (qU hd.1) (hb d G),JH hd.1⟩
  cases pr with
  | adr t off =>
   simp only[after] at E;split at E
   ·cases E
   ·cases E;exact key _ _
  | _=>simp only[after,dG,reduceCtorEq] at E<;>subst E<;>exact key _ _
def tB {fr:Fr}{d e:Nat}{s t:SV}(h:d≠e):(fr.put d s).put e t=(fr.put e t).put d s:=by
 funext x;simp only[Fr.put_apply];by_cases h1:x=e
 ·rw[cV h1,a_ (λh2=>h (by rw[<- h2,h1])),cV h1]
 ·rw[a_ h1,a_ h1]
def JL {d e:Nat}(o:Option (Nat×Nat)):Ad.keep d (Ad.keep e o)=Ad.keep e (Ad.keep d o):=by
 cases o with
 | none=>rfl
 | some p =>
  obtain⟨t,off⟩:=p;by_cases h1:t=e
  ·by_cases h2:t=d
   ·simp only[Ad.keep,cV h1,cV h2]
   ·simp only[Ad.keep,cV h1,a_ h2]
  ·by_cases h2:t=d
   ·simp only[Ad.keep,a_ h1,cV h2]
   ·simp only[Ad.keep,a_ h1,a_ h2]
def JM {ad:Ad}{d e:Nat}{a b:Option (Nat×Nat)}(h:d≠e)(D:Ad.keep e a=a)(A:Ad.keep d b=b):(ad.put d a).put e b=(ad.put e b).put d a:=by
 funext x;simp only[Ad.put_apply];by_cases h1:x=e
 ·have h2:x≠d:=λh2=>h (by rw[<- h2,h1]);rw[cV h1,a_ h2,cV h1,A]
 ·by_cases h2:x=d
  ·rw[a_ h1,cV h2,cV h2,D]
  ·rw[a_ h1,a_ h2,a_ h2,a_ h1,JL]
def qW {c:Cf}{ops:List Oper}{y:Oper}{d:Nat}{ad:Ad}{fr:Fr}(hd:d ∉ looks ops y)(G:jY ad d){t:Nat}(h:∃x∈y.op.operands,∃A,evA c.gl ad fr x=some (.box t A)):t≠d:=by
 obtain⟨x,D,A,E⟩:=h;exact wG E G (qU hd x D)
def qX {d:Nat}{pr:PR}{ad:Ad}{fr:Fr}{p:Ad×Fr}(h:after (some d) pr ad fr=some p):∃a s,p=(ad.put d a,fr.put d s)/\(∀A fr',after (some d) pr A fr'=some (A.put d a,fr'.put d s)) /\
  (a=none\/∃t off,pr=.adr t off/\a=some (t,off)):=by
 cases pr with
 | val x=>cases h;exact⟨_,_,rfl,λ_ _=>rfl,.inl rfl⟩
 | box x=>cases h;exact⟨_,_,rfl,λ_ _=>rfl,.inl rfl⟩
 | adr t off =>
  simp only[after] at h;split at h
  ·cases h
  ·rename_i D;cases h;exact⟨_,_,rfl,λ_ _=>a_ D,.inr ⟨t,off,rfl,rfl⟩⟩
 | sto t cs=>cases h
 | nop=>cases h
def wH {c:Cf}{ops:List Oper}{x y:Oper}(h:Ap c ops x y){ad:Ad}{fr:Fr}{G E:PR}{p q:Ad×Fr}(ag:∀d,x.dst=some d->jY ad d)(af:∀d,y.dst=some d->jY ad d)
  (U:Fine c x.op ad fr G) (O:Fine c y.op ad fr E) (hp:after x.dst G ad fr=some p) (A:after y.dst E ad fr=some q) :
  ∃r,after y.dst E p.1 p.2=some r/\after x.dst G q.1 q.2=some r:=by
 have an:∀d t off,x.dst=some d->E=.adr t off->Ad.keep d (some (t,off))=some (t,off):=λd t off hd he=>by
  simp only[Ad.keep,a_ (qW (h.d d hd).1 (ag d hd) (O.adr t off he))]
 have am:∀d t off,y.dst=some d->G=.adr t off->Ad.keep d (some (t,off))=some (t,off):=λd t off hd he=>by
  simp only[Ad.keep,a_ (qW (h.e d hd) (af d hd) (U.adr t off he))]
 have aj:∀d t cs,x.dst=some d->E=.sto t cs->t≠d:=λd t cs hd he=>qW (h.d d hd).1 (ag d hd) (O.sto t cs he).2.2;have ai:∀d t cs,y.dst=some d->G=.sto t cs->t≠d:=λd t cs hd he=>qW (h.e d hd) (af d hd) (U.sto t cs he).2.2;have ak:∀t cs t' cs',G=.sto t cs->E=.sto t' cs'->False:=λt cs t' cs' h1 h2=>by
  have a:=(U.sto t cs h1).1;have b:=(O.sto t' cs' h2).1;rcases h.pure with A|A
  ·rw[tA A] at a;cases a
  ·rw[tA A] at b;cases b
 cases hx:x.dst with
 | none =>
  cases J:y.dst with
  | none =>
   rw[hx] at hp;rw[J] at A;cases G<;>cases E<;>simp only[after,dG,reduceCtorEq] at hp A<;>subst hp A<;>first|exact⟨_,rfl,rfl⟩|exact (ak _ _ _ _ rfl rfl).elim
  | some e =>
   rw[hx] at hp;rw[J] at A;cases G with
   | sto t cs =>
    have ht:=ai e t cs J rfl;simp only[after,dG] at hp;subst hp;cases E with
    | adr t' off =>
     simp only[after] at A;split at A
     ·cases A
     ·rename_i al;cases A;exact⟨_,a_ al,by simp only[after];rw[tB (λh=>ht h.symm)]⟩
    | _=>simp only[after,dG,reduceCtorEq] at A<;>subst A<;>exact⟨_,rfl,by simp only[after];rw[tB (λh=>ht h.symm)]⟩
   | _=>simp only[after,dG,reduceCtorEq] at hp<;>subst hp<;>exact⟨_,A,rfl⟩
 | some d =>
  rw[hx] at hp;obtain⟨a,s,rfl,D,ha⟩:=qX hp;cases J:y.dst with
  | none =>
   rw[J] at A;cases E with
   | sto t cs =>
    have ht:=aj d t cs hx rfl;cases A;exact⟨_,rfl,by rw[D,tB ht]⟩
   | box cs=>cases A
   | _=>cases A;exact⟨_,rfl,D _ _⟩
  | some e =>
   rw[J] at A;obtain⟨b,s',rfl,ab,hb⟩:=qX A;have ae:d≠e:=λh0=>(h.d d hx).2 (by rw[J,h0]);have aq:Ad.keep e a=a:=by
    rcases ha with rfl|⟨t,off,h1,rfl⟩
    ·rfl
    ·exact am e t off J h1
   have ao:Ad.keep d b=b:=by
    rcases hb with rfl|⟨t,off,h1,rfl⟩
    ·rfl
    ·exact an d t off hx h1
   exact⟨_,ab _ _,by rw[D,tB ae,JM ae aq ao]⟩
