/- The layer of ideal values, part O: regio -/
import Derived.Test.YtopmhkmegkpkdaaGreatDoorJE
set_option linter.all false
namespace Go.Iv
open Go
section
variable {α:Type}{p q p' q':Prop}
def g_ {o:Option α}{f g:α->Prop}(h:∀x,f x->g x):cU o f->cU o g:=by
 cases o<;>simp only[cU]<;>first|exact h _|exact id
def vC {c:Prop}(h:p->q):chk c p->chk c q:=λx=>⟨x.1,h x.2⟩
def AM {c:Prop}(h:p->q):giv c p->giv c q:=λx y=>h (x y)
def AN {c:Prop}(h:p->q):(c->p)->(c->q):=λx y=>h (x y)
def AO {f g:α->Prop}(h:∀x,f x->g x):(∀x,f x)->(∀x,g x):=λA x=>h x (A x)
def vD {b:Bool}{k:Lock p}{l:Lock q}{E:Lock p'}{D:Lock q'}(h:p->p')(O:q->q'):jG b p q k l->jG b p' q' E D:=λx=>⟨λA=>h (x.1 A),λA=>O (x.2 A)⟩
def AP (h:p->p')(A:q->q'):p\/q->p'\/q':=λx=>x.imp h A
def ki {c:Prop} [Decidable c](h:p->p')(A:q->q'):(if c then p else q)->(if c then p' else q'):=by split<;>assumption
def AQ {s:SV}{f g:List IV->Prop}(h:∀x,f x->g x):boxV s f->boxV s g:=by unfold boxV;split<;>first|exact h _|exact id
def vE {s:IObj}{f g:List IV->Prop}(h:∀x,f x->g x):obV s f->obV s g:=by unfold obV;split<;>first|exact h _|exact id
def AR {s:IObj}{f g:KeyK->List (Value×IV)->Prop}(h:∀x y,f x y->g x y):omV s f->omV s g:=by unfold omV;split<;>first|exact h _ _|exact id
def sH {s:IV}{f g:IntKind->Int->Prop}(h:∀x y,f x y->g x y):intV s f->intV s g:=by unfold intV;split<;>first|exact h _ _|exact id
def vF {s:IV}{f g:Bool->Prop}(h:∀x,f x->g x):kZ s f->kZ s g:=by unfold kZ;split<;>first|exact h _|exact id
def sI {s:IV}{f g:Tag->List IV->Prop}(h:∀x y,f x y->g x y):slV s f->slV s g:=by unfold slV;split<;>first|exact h _ _|exact id
def vG {s:IV}{f A:Tag->List IV->Prop}{g g':Nat->Nat->Nat->Prop}(h:∀x y,f x y->A x y)(D:∀x y z,g x y z->g' x y z):slX s f g->slX s A g':=by unfold slX;split<;>first|exact h _ _|exact D _ _ _|exact id
def sJ {s:IV}{f A:Tag->List IV->Prop}{g g':Nat->Nat->Nat->Nat->Prop}(h:∀x y,f x y->A x y)(D:∀x y z u,g x y z u->g' x y z u):slY s f g->slY s A g':=by unfold slY;split<;>first|exact h _ _|exact D _ _ _ _|exact id
def vH {k:Option LenK}{i:Option IntKind}{f A g g':Prop}(h:f->A)(D:g->g'):appK k i f g->appK k i A g':=by unfold appK;split<;>first|exact h|exact D|exact id
def sK {s:IV}{f g:List IV->Prop}(h:∀x,f x->g x):aggV s f->aggV s g:=by unfold aggV;split<;>first|exact h _|exact id
def AS {s:IV}{f g:List IV->Prop}(h:∀x,f x->g x):tupV s f->tupV s g:=by unfold tupV;split<;>first|exact h _|exact id
def vI {s:IV}{f g:Fn->List IV->List IV->Prop}(h:∀x y z,f x y z->g x y z):fnV s f->fnV s g:=by unfold fnV;split<;>first|exact h _ _ _|exact id
def AU {s:IV}{f g:Option Nat->Prop}(h:∀x,f x->g x):mapV s f->mapV s g:=by unfold mapV;split<;>first|exact h _|exact id
def AV {s:IV}{f g:Value->Prop}(h:∀x,f x->g x):keyV s f->keyV s g:=by unfold keyV;split<;>first|exact h _|exact λk A=>h _ (k A)|exact id
def AW {s:IV}{f g:Nat->Prop}(h:∀x,f x->g x):adrV s f->adrV s g:=by unfold adrV;split<;>first|exact h _|exact id
def AX {s:IObj}{f g:Nat->Nat->Array Nat->Nat->Prop}(h:∀x y z u,f x y z u->g x y z u):itO s f->itO s g:=by unfold itO;split<;>first|exact h _ _ _ _|exact id
def AY {s:IObj}{f g:Array MapEntry->Nat->Prop}(h:∀x y,f x y->g x y):mxO s f->mxO s g:=by unfold mxO;split<;>first|exact h _ _|exact id
def AZ {e:Array MapEntry}{n:Array Nat}{p p':Prop}{q q':MapEntry->IV->Prop}{k:Lock p}{l:Lock q}{D:Lock p'}{A:Lock q'}(h:p->p')(E:∀x y,q x y->q' x y):nxR e n p q k l->nxR e n p' q' D A:=λx=>⟨λy=>h (x.1 y),λa b c d=>E _ _ (x.2 a b c d)⟩
def A0 {s:IV}{f g:Value->Prop}(h:∀x,f x->g x):rawV s f->rawV s g:=by unfold rawV;split<;>first|exact h _|exact id
end
section
variable {R R':Rt}(h:∀pr st ds,R pr st ds->R' pr st ds)
include h
set_option maxHeartbeats 1000000 in
def pK {c:Cf}{dst:Option Nat}{op:Op}{ad:Ad}{fr:Fr}{st:ISt}{ds:List Dfd}:vcR c dst op R ad fr st ds->vcR c dst op R' ad fr st ds:=by
 unfold vcR;split
 all_goals try unfold kL
 all_goals try unfold nilV
 all_goals repeat (first
  | exact h _ _ _|exact id
  | refine g_ λ_=>?_|refine vC ?_|refine AM ?_|refine AN ?_|refine AO λ_=>?_|refine vD ?_ ?_|refine AP ?_ ?_|refine ki ?_ ?_
  | refine AQ λ_=>?_|refine vE λ_=>?_|refine AR λ_ _=>?_|refine sH λ_ _=>?_|refine vF λ_=>?_|refine sI λ_ _=>?_|refine vG (λ_ _=>?_) (λ_ _ _=>?_)|refine sJ (λ_ _=>?_) (λ_ _ _ _=>?_)|refine vH ?_ ?_
  | refine sK λ_=>?_|refine AS λ_=>?_|refine vI λ_ _ _=>?_|refine AU λ_=>?_|refine A0 λ_=>?_|refine AV λ_=>?_|refine AW λ_=>?_|refine AX λ_ _ _ _=>?_|refine AY λ_ _=>?_|refine AZ ?_ (λ_ _=>?_)
  | (refine λA=>callV.mono A λ_ _=>?_;unfold lL)
  | unfold mK|unfold k9|unfold mL|unfold kg|unfold lK|unfold nE|unfold pA|unfold idxV|unfold la|unfold arrV|unfold oH|unfold pC|unfold nG|unfold pD|unfold pE|unfold pF|unfold lenV|unfold appV|unfold qO|unfold appO|unfold appR|unfold appZ|unfold capV|unfold sw|unfold oG|unfold mM|unfold plR
  | split)
end
def mg (esc:List Nat)(dst:Option Nat):Op->Bool
 | .move _|.assign _|.pick ..|.build ..=>true
 | .buildSlice ..=>!iz esc dst
 | .load ..=>!iz esc dst
 | .nilCheck _|.binOp ..|.unOp ..|.convert ..|.makeFunc ..|.slice ..|.fieldAddr ..|.field ..|.indexAddr ..|.index ..|.extract ..=>true
 | .alloc _|.box ..=>match dst with|some d=>!esc.contains d|none=>false
 | .call ⟨.builtin .len,_,_⟩|.call ⟨.builtin .max,_,_⟩=>true
 | .call ⟨.value (.func g),_,_⟩=>esc.contains (g+1000000)
 | _=>false
def nJ:Op->Bool
 | .load ..=>true
 | _=>false
def mh:Op->Bool
 | .store ..=>true
 | _=>false
def iB (esc:List Nat)(dst:Option Nat)(op:Op):Bool:=mg esc dst op || nJ op
def IN (l:List Operand):List Nat:=l.filterMap λ| .tmp t=>some t|_=>none
def looks (ops:List Oper)(o:Oper):List Nat:=IN o.op.operands.toList++(match o.guard with|some (j,_)=>(gQ ops j).toList|none=>[])
def pL:Op->Bool
 | .fieldAddr ..=>true
 | .indexAddr ..=>true
 | _=>false
def sL (ops:List Oper)(e:Nat):Bool:=ops.all λo=>!pL o.op || (!(looks ops o).contains e&&!(o.dst == some e))
def stOk (ops:List Oper)(x y:Oper):Bool :=
 match x.op with
 | .store _ (.tmp e) _=>sL ops e&&!(looks ops y).contains e
 | _=>false
def vJ (esc:List Nat)(ops:List Oper)(x y:Oper):Bool :=
 (iB esc x.dst x.op || iB esc y.dst y.op)&&(!(nJ x.op&&mh y.op) || stOk ops y x)&&(!(nJ y.op&&mh x.op) || stOk ops x y) &&
 (match x.dst with|some d=>!(looks ops y).contains d&&!(y.dst == some d)|none=>true)&&(match y.dst with|some d=>!(looks ops x).contains d|none=>true)
def Lin (F:Rt->ISt->List Dfd->Prop):Prop:=(∃pr,∀R st ds,F R st ds↔R pr st ds)\/(∀R st ds,¬ F R st ds)
def fh (pr:PR):Lin (λR st ds=>R pr st ds):=.inl ⟨pr,λ_ _ _=>Iff.rfl⟩
def eO:Lin (λ_ _ _=>False):=.inr λ_ _ _ h=>h
def eH {α:Type}{o:Option α}{F:α->Rt->ISt->List Dfd->Prop}(h:∀x,Lin (F x)):Lin (λR st ds=>cU o λx=>F x R st ds):=by
 cases o with
 | none=>exact eO
 | some x=>exact h x
def mT {c:Prop}{F:Rt->ISt->List Dfd->Prop}(h:Lin F):Lin (λR st ds=>chk c (F R st ds)):=by
 by_cases hc:c
 ·rcases h with⟨pr,h⟩|h
  ·exact .inl ⟨pr,λR st ds=>⟨λx=>(h R st ds).1 x.2,λx=>⟨hc,(h R st ds).2 x⟩⟩⟩
  ·exact .inr λR st ds x=>h R st ds x.2
 ·exact .inr λR st ds x=>hc x.1
def kj {c:Prop} [Decidable c]{F G:Rt->ISt->List Dfd->Prop}(h:Lin F)(A:Lin G):Lin (λR st ds=>if c then F R st ds else G R st ds):=by
 by_cases hc:c
 ·simpa only[b_ hc] using h
 ·simpa only[a_ hc] using A
def A1 {c:Prop}{F:Rt->ISt->List Dfd->Prop}(hc:c)(h:Lin F):Lin (λR st ds=>c->F R st ds):=by
 rcases h with⟨pr,h⟩|h
 ·exact .inl ⟨pr,λR st ds=>⟨λx=>(h R st ds).1 (x hc),λx _=>(h R st ds).2 x⟩⟩
 ·exact .inr λR st ds x=>h R st ds (x hc)
def IP {b:Bool}{F G:Rt->ISt->List Dfd->Prop}(h:Lin F)(A:Lin G):Lin (λR st ds=>jG b (F R st ds) (G R st ds) .mk .mk):=by
 cases b
 ·simpa only[HG] using A
 ·simpa only[HF] using h
def A2 {s:SV}{F:List IV->Rt->ISt->List Dfd->Prop}(h:∀x,Lin (F x)):Lin (λR st ds=>boxV s λx=>F x R st ds):=by
 cases s<;>first|exact h _|exact eO
def sM {s:IV}{F:IntKind->Int->Rt->ISt->List Dfd->Prop}(h:∀x y,Lin (F x y)):Lin (λR st ds=>intV s λx y=>F x y R st ds):=by
 cases s with
 | raw v=>cases v<;>first|exact h _ _|exact eO
 | _=>exact eO
def IQ {s:IV}{F:Bool->Rt->ISt->List Dfd->Prop}(h:∀x,Lin (F x)):Lin (λR st ds=>kZ s λx=>F x R st ds):=by
 cases s with
 | raw v=>cases v<;>first|exact h _|exact eO
 | _=>exact eO
def A3 {s:IV}{F:Tag->List IV->Rt->ISt->List Dfd->Prop}{G:Nat->Nat->Nat->Rt->ISt->List Dfd->Prop}(h:∀x y,Lin (F x y))(U:∀x y z,Lin (G x y z)):Lin (λR st ds=>slX s (λx y=>F x y R st ds) (λx y z=>G x y z R st ds)):=by
 by_cases E:∃t D,s=.sl t D
 ·obtain⟨t,D,rfl⟩:=E;exact h _ _
 ·by_cases O:∃b off n cap,s=.raw (.slice (some ⟨b,off,none⟩) n cap)
  ·obtain⟨b,off,n,cap,rfl⟩:=O;exact U _ _ _
  ·refine .inr λR st ds A=>?_;simp only at A;unfold slX at A;split at A
   ·exact E ⟨_,_,rfl⟩
   ·exact O ⟨_,_,_,_,rfl⟩
   ·exact A
def IS {s:IV}{F:Tag->List IV->Rt->ISt->List Dfd->Prop}{G:Nat->Nat->Nat->Nat->Rt->ISt->List Dfd->Prop}(h:∀x y,Lin (F x y))(U:∀x y z u,Lin (G x y z u)):Lin (λR st ds=>slY s (λx y=>F x y R st ds) (λx y z u=>G x y z u R st ds)):=by
 by_cases E:∃t D,s=.sl t D
 ·obtain⟨t,D,rfl⟩:=E;exact h _ _
 ·by_cases O:∃b off n cap,s=.raw (.slice (some ⟨b,off,none⟩) n cap)
  ·obtain⟨b,off,n,cap,rfl⟩:=O;exact U _ _ _ _
  ·refine .inr λR st ds A=>?_;simp only at A;unfold slY at A;split at A
   ·exact E ⟨_,_,rfl⟩
   ·exact O ⟨_,_,_,_,rfl⟩
   ·exact A
def sN {s:IV}{F:List IV->Rt->ISt->List Dfd->Prop}(h:∀x,Lin (F x)):Lin (λR st ds=>aggV s λx=>F x R st ds):=by
 cases s<;>first|exact h _|exact eO
def IT {s:IV}{F:List IV->Rt->ISt->List Dfd->Prop}(h:∀x,Lin (F x)):Lin (λR st ds=>tupV s λx=>F x R st ds):=by
 cases s<;>first|exact h _|exact eO
def vK {s:IV}{F:Value->Rt->ISt->List Dfd->Prop}(h:∀x,Lin (F x)):Lin (λR st ds=>rawV s λx=>F x R st ds):=by
 cases s<;>first|exact h _|exact eO
def IU {ag:Bool}{n:Nat}{p:Pl}{fr:Fr}:Lin (λR st ds=>kg true ag n p fr R st ds):=by
 cases p with
 | box t off=>exact A2 λ_=>eH λ_=>fh _
 | ptr b off=>exact eO
 | cp y=>exact kj (fh _) eO
def IW {f:Nat×Bool×Nat}{p:Pl}:Lin (λR st ds=>nE f p R st ds):=by
 cases p with
 | box t off=>exact fh _
 | ptr b off=>exact fh _
 | cp y=>exact sN λ_=>eH λ_=>kj (fh _) eO
def IX {len n j:Nat}{ag:Bool}{p:Pl}:Lin (λR st ds=>pA len ag n j p R st ds):=by
 unfold pA;refine kj ?_ eO;cases p with
 | box t off=>exact fh _
 | ptr b off=>exact fh _
 | cp y=>exact sN λ_=>eH λ_=>kj (fh _) eO
def IY {k:LenK}{s:Option (TypeId×Bool×Nat×Nat)}{A:Option IV}{p:Option Pl}{e:Option (Nat×Bool×Nat)}{j:Int}:Lin (λR st ds=>idxV k s A p e j R st ds):=by
 cases k with
 | sl=>exact eH λ_=>eH λ_=>A3 (λ_ _=>kj (kj (eH λ_=>fh _) eO) eO) (λ_ _ _=>kj (fh _) eO)
 | arr n=>exact eH λ_=>eH λ_=>kj IX eO
 | _=>exact eO
def IZ {k:LenK}{e:Option (Nat×Bool×Nat)}{x:IV}{j:Int}:Lin (λR st ds=>oH k e x j R st ds):=by
 cases k with
 | str =>
  refine vK λv=>?_;cases v with
  | string s=>exact eH λ_=>fh _
  | _=>exact eO
 | arr n=>exact sN λ_=>eH λ_=>kj (eH λ_=>fh _) eO
 | _=>exact eO
def I0 {k:LenK}{x:IV}:Lin (λR st ds=>lenV true k x R st ds):=by
 cases k with
 | str =>
  refine vK λv=>?_;cases v with
  | string s=>exact A1 (λh=>by cases h) (fh _)
  | _=>exact eO
 | sl=>exact A3 (λ_ _=>A1 (λh=>by cases h) (fh _)) (λ_ _ _=>fh _)
 | map=>exact eO
 | arr n=>exact fh _
def I1 {O:Option (Nat×Bool×Nat)}{x:IV}{D E A:Option Int}{len:Nat}:Lin (λR st ds=>arrV O x D E A len R st ds):=by
 cases x with
 | cptr y =>
  cases y with
  | agg cs =>
   cases D with
   | none =>
    cases A with
    | none=>exact eH λ_=>mT (eH λ_=>fh _)
    | some m=>exact eO
   | some l=>exact eO
  | _=>exact eO
 | _=>exact eO
def I2 {k:LenK}{s:Option (TypeId×Bool×Nat×Nat)}{O:Option (Nat×Bool×Nat)}{x:IV}{E D A:Option Int}:Lin (λR st ds=>la k s O x E D A R st ds):=by
 cases k with
 | str =>
  refine vK λv=>?_;cases v with
  | string s =>
   cases A with
   | none=>exact eH λ_=>fh _
   | some m=>exact eO
  | _=>exact eO
 | sl =>
  refine eH λ_=>IS (λ_ _=>mT ?_) (λ_ _ _ _=>?_)
  ·cases D with
   | none =>
    cases A with
    | none=>exact eH λ_=>mT (fh _)
    | some m=>exact eO
   | some h=>exact eH λ_=>mT (fh _)
  ·cases A with
   | none=>exact mT (eH λ_=>fh _)
   | some m=>exact eO
 | arr n=>exact I1
 | map=>exact eO
def A4 {o:Option IV}{p:Option Pl}:Lin (λR st ds=>kL true o p R st ds):=by
 cases o with
 | some x=>exact fh _
 | none=>exact eO
def I3 {o:Option IV}{p:Option Pl}:Lin (λR st ds=>nilV o p true R st ds):=by
 cases o with
 | none=>exact eO
 | some x =>
  cases x with
  | fn f a b=>exact kj (fh _) eO
  | cptr y=>exact fh _
  | raw v =>
   cases v with
   | pointer o =>
    cases o with
    | none=>exact eO
    | some q=>exact fh _
   | _=>exact eO
  | _=>exact eO
def A5 {esc:List Nat}{d:Nat}(h:esc.contains d=false){cs:List IV}:Lin (λR st ds=>k9 esc (some d) cs R st ds):=by
 have:¬ d∈esc:=by simpa using h
 simp only[k9,a_ this];exact fh _
def I4 {frz esc:List Nat}{d:Nat}(h:esc.contains d=false){y:IV}:Lin (λR st ds=>mK frz esc (some d) y R st ds):=kj (fh _) (A5 h)
def vL {c:Cf}(A:c.dr=true){dst:Option Nat}{op:Op}{ad:Ad}{fr:Fr}(hp:mg c.esc dst op=true):Lin (λR st ds=>vcR c dst op R ad fr st ds):=by
 unfold mg at hp;split at hp
 case h_1=>simp only[vcR,A];exact A4
 case h_2=>simp only[vcR,A];exact A4
 case h_3=>exact eH λ_=>IQ λ_=>IP (eH λ_=>fh _) (eH λ_=>fh _)
 case h_4=>exact mT (eH λ_=>eH λ_=>fh _)
 case h_5 =>
  have E:iz c.esc dst=false:=by simpa using hp
  simp only[vcR,mL,E,bFt,dJ];exact eH λ_=>mT (eH λ_=>mT (fh _))
 case h_6 =>
  have E:ldr c.dr c.esc dst=true:=by unfold ldr;rw[A,hp];rfl
  simp only[vcR,E];exact eH λ_=>eH λ_=>IU
 case h_7=>simp only[vcR,A];exact I3
 case h_8=>exact eH λ_=>eH λ_=>eH λ_=>fh _
 case h_9=>exact eH λ_=>eH λ_=>fh _
 case h_10=>exact eH λ_=>eH λ_=>fh _
 case h_11=>exact eH λ_=>eH λ_=>fh _
 case h_12=>exact eH λ_=>eH λ_=>eH λ_=>eH λ_=>eH λ_=>I2
 case h_13=>exact eH λ_=>eH λ_=>IW
 case h_14=>exact eH λ_=>eH λ_=>sN λ_=>eH λ_=>fh _
 case h_15=>exact eH λ_=>sM λ_ _=>eH λ_=>IY
 case h_16=>exact eH λ_=>sM λ_ _=>eH λ_=>eH λ_=>IZ
 case h_17=>exact eH λ_=>IT λ_=>eH λ_=>fh _
 case h_18 =>
  split at hp
  ·exact eH λ_=>A5 (by simpa using hp)
  ·cases hp
 case h_19 =>
  split at hp
  ·exact eH λ_=>eH λ_=>mT (I4 (by simpa using hp))
  ·cases hp
 case h_20 =>
  rename_i args D;obtain⟨args⟩:=args;obtain⟨D⟩:=D
  match args,D with
  | [x],[T]=>simp only[vcR,A];exact eH λ_=>eH λ_=>I0
  | [],_=>exact eO
  | _::_::_,_=>exact eO
  | [_],[]=>exact eO
  | [_],_::_::_=>exact eO
 case h_21 =>
  rename_i args D;obtain⟨args⟩:=args
  match args with
  | [x,y]=>exact eH λ_=>eH λ_=>sM λ_ _=>sM λ_ _=>kj (fh _) eO
  | []=>exact eO
  | [_]=>exact eO
  | _::_::_::_=>exact eO
 case h_22 =>
  rename_i g _ _;have O:g+1000000∈c.esc:=by simpa using hp
  simp only[vcR,mM,b_ O];exact eH λ_=>eH λ_=>fh _
 case h_23=>cases hp
structure SameAt (c:Cf)(op:Op)(ad ad':Ad)(fr fr':Fr):Prop where
 v:∀x∈op.operands,evV c.gl fr x=evV c.gl fr' x
 a:∀x∈op.operands,evA c.gl ad fr x=evA c.gl ad' fr' x
 box:(nJ op || mh op)=true->∀x∈op.operands,∀t off,evA c.gl ad fr x=some (.box t off)->fr t=fr' t
def pM {gl:Nat->Option IV}{fr fr':Fr}:∀ {l:List Operand},(∀x∈l,evV gl fr x=evV gl fr' x)->evL gl fr l=evL gl fr' l
 | [],_=>rfl
 | x::l,h=>by rw[zP,zP,h x (by simp),pM λy A=>h y (by simp[A])]
def vM {gl:Nat->Option IV}{fr fr':Fr}{o:Option Operand}(h:∀x,o=some x->evV gl fr x=evV gl fr' x):iZ gl fr o=iZ gl fr' o:=by
 cases o with
 | none=>rfl
 | some x=>simp only[HN,h x rfl]
def A6 {P:Program}{gl:Nat->Option IV}{fr fr':Fr}{T:TypeId}:∀ {l:List (Nat×Operand)} {cs:List IV},(∀x∈l.map (·.2),evV gl fr x=evV gl fr' x)->kM P gl fr T cs l=kM P gl fr' T cs l
 | [],cs,_=>rfl
 | (i,x)::l,cs,h=>by
  rw[uW,uW,h x (by simp)];cases fldI P T i with
  | none=>rfl
  | some f =>
   cases evV gl fr' x with
   | none=>rfl
   | some y=>simp only[pB];split<;>first|exact A6 λy A=>h y (by simp[A])|rfl
def I5 {dr ag:Bool}{n:Nat}{p:Pl}{fr fr':Fr}{R:Rt}{st:ISt}{ds:List Dfd}(h:∀t off,p=.box t off->fr t=fr' t):kg dr ag n p fr R st ds=kg dr ag n p fr' R st ds:=by
 cases p with
 | box t off=>simp only[kg,h t off rfl]
 | _=>rfl
def I6 {y:List IV}{p:Pl}{fr fr':Fr}{R:Rt}{st:ISt}{ds:List Dfd}(h:∀t off,p=.box t off->fr t=fr' t):lK y p fr R st ds=lK y p fr' R st ds:=by
 cases p with
 | box t off=>simp only[lK,h t off rfl]
 | _=>rfl
def I7 {c:Cf}{dst:Option Nat}{op:Op}{R:Rt}{ad aa:Ad}{fr fr':Fr}{st:ISt}{ds:List Dfd}(h:SameAt c op ad aa fr fr'):vcR c dst op R ad fr st ds=vcR c dst op R aa fr' st ds:=by
 obtain⟨A,U,hb⟩:=h;cases op with
 | move x=>simp only[vcR,A x (by simp[Op.operands]),U x (by simp[Op.operands])]
 | assign x=>simp only[vcR,A x (by simp[Op.operands]),U x (by simp[Op.operands])]
 | pick x y z=>simp only[vcR];rw[A x (by simp[Op.operands]),A y (by simp[Op.operands]),A z (by simp[Op.operands])]
 | alloc T=>rfl
 | box T x=>simp only[vcR,A x (by simp[Op.operands])]
 | build T parts=>simp only[vcR,λcs=>A6 (P:=c.P) (T:=T) (cs:=cs) (l:=parts.toList) (λx hx=>A x (by simpa[Op.operands] using hx))]
 | buildSlice T n parts=>simp only[vcR,pM (l:=parts.toList.map (·.2)) (λx hx=>A x (by simpa[Op.operands] using hx))]
 | load T x =>
  have O:=hb rfl x (by simp[Op.operands]);simp only[vcR,<- U x (by simp[Op.operands])];cases hp:evA c.gl ad fr x with
  | none=>rfl
  | some p=>simp only[oF,λ(i:Bool×Nat)=>I5 (dr:=ldr c.dr c.esc dst) (ag:=i.1) (n:=i.2) (p:=p) (fr:=fr) (fr':=fr') (R:=R) (st:=st) (ds:=ds) (λt off hq=>O t off (by rw[hp,hq]))]
 | store T x y =>
  have O:=hb rfl x (by simp[Op.operands]);simp only[vcR,<- U x (by simp[Op.operands]),<- A y (by simp[Op.operands])];cases hp:evA c.gl ad fr x with
  | none=>rfl
  | some p=>simp only[oF,λ(i:List IV)=>I6 (y:=i) (p:=p) (fr:=fr) (fr':=fr') (R:=R) (st:=st) (ds:=ds) (λt off hq=>O t off (by rw[hp,hq]))]
 | nilCheck x=>simp only[vcR,A x (by simp[Op.operands]),U x (by simp[Op.operands])]
 | binOp o T x y T'=>simp only[vcR,A x (by simp[Op.operands]),A y (by simp[Op.operands])]
 | unOp o T x=>simp only[vcR,A x (by simp[Op.operands])]
 | convert T T' x=>simp only[vcR,A x (by simp[Op.operands])]
 | makeFunc f a b=>simp only[vcR,pM (l:=a.toList) (λx hx=>A x (by simp[Op.operands];exact .inl (by simpa using hx))),pM (l:=b.toList) (λx hx=>A x (by simp[Op.operands];exact .inr (by simpa using hx)))]
 | slice T x lo hi mx=>simp only[vcR,A x (by simp[Op.operands]),vM (o:=lo) (λy W=>A y (by simp[Op.operands,W])),vM (o:=hi) (λy W=>A y (by simp[Op.operands,W])),
   vM (o:=mx) (λy W=>A y (by simp[Op.operands,W]))]
 | fieldAddr T x i=>simp only[vcR,U x (by simp[Op.operands])]
 | field T x i=>simp only[vcR,A x (by simp[Op.operands])]
 | indexAddr T x y=>simp only[vcR,A x (by simp[Op.operands]),U x (by simp[Op.operands]),A y (by simp[Op.operands])]
 | index T x y=>simp only[vcR,A x (by simp[Op.operands]),A y (by simp[Op.operands])]
 | lookup T x y ok=>simp only[vcR,A x (by simp[Op.operands]),A y (by simp[Op.operands])]
 | mapUpdate T x y z=>simp only[vcR,A x (by simp[Op.operands]),A y (by simp[Op.operands]),A z (by simp[Op.operands])]
 | extract x i=>simp only[vcR,A x (by simp[Op.operands])]
 | call cc =>
  obtain⟨f,args,E⟩:=cc;cases f with
  | value f=>simp only[vcR,A f (by simp[Op.operands,Call.operands]),pM (l:=args.toList) (λx hx=>A x (by simp[Op.operands,Call.operands];exact .inr (by simpa using hx)))]
  | invoke r nm=>rfl
  | builtin b =>
   obtain⟨args⟩:=args;obtain⟨E⟩:=E;have D:∀x∈args,evV c.gl fr x=evV c.gl fr' x:=λx hx=>A x (by simp[Op.operands,Call.operands];exact hx);cases b with
   | len =>
    match args,E,D with
    | [x],[T],D=>simp only[vcR,D x (by simp)]
    | [],_,_=>rfl
    | _::_::_,_,_=>rfl
    | [_],[],_=>rfl
    | [_],_::_::_,_=>rfl
   | append =>
    match args,E,D with
    | [x,y],[T,T'],D=>simp only[vcR,D x (by simp),D y (by simp)]
    | [],_,_=>rfl
    | [_],_,_=>rfl
    | _::_::_::_,_,_=>rfl
    | [_,_],[],_=>rfl
    | [_,_],[_],_=>rfl
    | [_,_],_::_::_::_,_=>rfl
   | cap =>
    match args,E,D with
    | [x],[T],D=>simp only[vcR,D x (by simp)]
    | [],_,_=>rfl
    | _::_::_,_,_=>rfl
    | [_],[],_=>rfl
    | [_],_::_::_,_=>rfl
   | clear =>
    match args,E,D with
    | [x],[T],D=>simp only[vcR,D x (by simp)]
    | [],_,_=>rfl
    | _::_::_,_,_=>rfl
    | [_],[],_=>rfl
    | [_],_::_::_,_=>rfl
   | max =>
    match args,D with
    | [x,y],D=>simp only[vcR,D x (by simp),D y (by simp)]
    | [],_=>rfl
    | [_],_=>rfl
    | _::_::_::_,_=>rfl
   | min =>
    match args,D with
    | [x,y],D=>simp only[vcR,D x (by simp),D y (by simp)]
    | [],_=>rfl
    | [_],_=>rfl
    | _::_::_::_,_=>rfl
   | _=>rfl
 | defer cc =>
  obtain⟨f,args,E⟩:=cc;cases f with
  | value f=>simp only[vcR,A f (by simp[Op.operands,Call.operands]),pM (l:=args.toList) (λx hx=>A x (by simp[Op.operands,Call.operands];exact .inr (by simpa using hx)))]
  | _=>rfl
 | makeMap T r=>cases r<;>rfl
 | insert T x y z=>simp only[vcR,A x (by simp[Op.operands]),A y (by simp[Op.operands]),A z (by simp[Op.operands])]
 | makeSlice T x y=>simp only[vcR,A x (by simp[Op.operands]),A y (by simp[Op.operands])]
 | range T x=>simp only[vcR,A x (by simp[Op.operands])]
 | next x b=>cases b<;>simp only[vcR,A x (by simp[Op.operands])]
 | entry x=>simp only[vcR,A x (by simp[Op.operands])]
 | _=>rfl
def fc (c:Cf)(ops:List Oper)(o:Oper)(R:Rt)(ad:Ad)(fr:Fr)(st:ISt)(ds:List Dfd):Prop :=
 match o.guard with
 | none=>vcR c o.dst o.op R ad fr st ds
 | some (j,A)=>match gQ ops j with
  | some d=>match fr d with
   | .iv (.raw (.bool b))=>if b=A then vcR c o.dst o.op R ad fr st ds else R (.val (.raw undef)) st ds
   | .iv (.raw (.tuple _))=>R (.val (.raw undef)) st ds
   | _=>False
  | none=>False
def jc (c:Cf)(ops:List Oper)(o:Oper)(K:Kt):Kt:=λad fr st ds=>fc c ops o (finK o.dst K ad fr) ad fr st ds
def vcK (c:Cf)(ops:List Oper):List Oper->Kt->Kt
 | [],K=>K
 | o::l,K=>jc c ops o (vcK c ops l K)
def A7 {c:Cf}{ops l A:List Oper}{K:Kt}:vcK c ops (l++A) K=vcK c ops l (vcK c ops A K):=by
 induction l with
 | nil=>rfl
 | cons o l D=>rw[dX,vcK,vcK,D]
def A8 {c:Cf}{ops:List Oper}{Q:Fr->ISt->List Dfd->Prop}:∀ {l:List Oper} {ad:Ad} {fr:Fr} {st:ISt} {ds:List Dfd},fR c ops l Q ad fr st ds->vcK c ops l (λ_ fr st ds=>Q fr st ds) ad fr st ds
 | [],_,_,_,_,h=>h
 | o::l,ad,fr,st,ds,h=>by
  have U:∀ad fr st ds,fR c ops l Q ad fr st ds->vcK c ops l (λ_ fr st ds=>Q fr st ds) ad fr st ds:=λ_ _ _ _=>A8;have A:∀pr st ds,finK o.dst (fR c ops l Q) ad fr pr st ds->finK o.dst (vcK c ops l (λ_ fr st ds=>Q fr st ds)) ad fr pr st ds:=by
   intro pr st ds;cases pr<;>cases o.dst<;>simp only[finK]<;>first|exact U _ _ _ _|exact id|(split<;>first|exact id|exact U _ _ _ _)
  unfold fR at h;change fc c ops o (finK o.dst (vcK c ops l (λ_ fr st ds=>Q fr st ds)) ad fr) ad fr st ds;unfold fc;split at h
  ·rename_i O;rw[O];exact pK A h
  ·rename_i j D O;rw[O];simp only[gQ];cases hd:(ops[j]?).bind (·.dst) with
   | none=>rw[hd] at h;exact h.elim
   | some d =>
    rw[hd] at h;simp only at h ⊢;cases E:fr d with
    | box cs=>rw[E] at h;exact h.elim
    | iv x =>
     cases x with
     | raw v =>
      cases v with
      | bool b =>
       rw[E,Ac fr d D b _ _ _ _ E] at h;simp only;split
       ·exact pK A (h.1 ‹_›)
       ·have W:b=!D:=by cases b<;>cases D<;>simp_all
        exact A _ _ _ (h.2 W)
      | tuple t =>
       rw[E] at h;exact A _ _ _ h
      | _=>rw[E] at h;exact h.elim
     | _=>rw[E] at h;exact h.elim
def qZ {c:Cf}{ops:List Oper}{o:Oper}{R R':Rt}(h:∀pr st ds,R pr st ds->R' pr st ds){ad:Ad}{fr:Fr}{st:ISt}{ds:List Dfd}:fc c ops o R ad fr st ds->fc c ops o R' ad fr st ds:=by
 unfold fc;split
 ·exact pK h
 ·split
  ·split
   ·split
    ·exact pK h
    ·exact h _ _ _
   ·exact h _ _ _
   ·exact id
  ·exact id
def I8 {c:Cf}(E:c.dr=true){ops:List Oper}{o:Oper}{ad:Ad}{fr:Fr}(hp:mg c.esc o.dst o.op=true):Lin (λR st ds=>fc c ops o R ad fr st ds):=by
 cases A:o.guard with
 | none=>simp only[fc,A];exact vL E hp
 | some p =>
  obtain⟨j,O⟩:=p;cases hd:gQ ops j with
  | none=>simp only[fc,A,hd];exact eO
  | some d =>
   cases D:fr d with
   | box cs=>simp only[fc,A,hd,D];exact eO
   | iv x =>
    cases x with
    | raw v =>
     cases v with
     | bool b=>simp only[fc,A,hd,D];exact kj (vL E hp) (fh _)
     | tuple t=>simp only[fc,A,hd,D];exact fh _
     | _=>simp only[fc,A,hd,D];exact eO
    | _=>simp only[fc,A,hd,D];exact eO
def Kept (st st':ISt):Prop:=∀b cs,st b=some (.box cs)->st' b=some (.box cs)
def Kept.refl (st:ISt):Kept st st:=λ_ _ h=>h
def LinS (st:ISt)(F:Rt->ISt->List Dfd->Prop):Prop:=(∃pr,(∀R ds,F R st ds↔R pr st ds)/\∀st',Kept st st'->∀R ds,R pr st' ds->F R st' ds)\/(∀R ds,¬ F R st ds)
def lf {F:Rt->ISt->List Dfd->Prop}(h:Lin F)(st:ISt):LinS st F:=by
 rcases h with⟨pr,h⟩|h
 ·exact .inl ⟨pr,λR ds=>h R st ds,λst' _ R ds A=>(h R st' ds).2 A⟩
 ·exact .inr λR ds=>h R st ds
def I9 {c:Cf}{dst:Option Nat}{T:TypeId}{x:Operand}{ad:Ad}{fr:Fr}(st:ISt):LinS st (λR st ds=>vcR c dst (.load T x) R ad fr st ds):=by
 simp only[vcR];cases tyI c.P T with
 | none=>exact lf eO st
 | some i =>
  cases evA c.gl ad fr x with
  | none=>exact lf eO st
  | some p =>
   simp only[oF];cases p with
   | box t off=>exact lf (A2 λ_=>eH λ_=>fh _) st
   | cp y=>exact lf (kj (fh _) eO) st
   | ptr b off =>
    simp only[kg];cases O:ldr c.dr c.esc dst with
    | true=>simp only[dB];exact lf eO st
    | false =>
     simp only[bFt,dJ];cases A:st b with
     | none=>exact .inr λR ds h=>by simp only[A] at h;exact h
     | some o =>
      cases o with
      | box cs =>
       cases hp:gB i.1 i.2 cs off with
       | none=>exact .inr λR ds h=>by simp only[A,oF,obV,hp] at h;exact h
       | some y=>exact .inl ⟨.val y,λR ds=>by simp only[A,oF,obV,hp],λst' E R ds D=>by simp only[E b cs A,oF,obV,hp];exact D⟩
      | _=>exact .inr λR ds h=>by simp only[A,oF,obV] at h
def A9 {c:Cf}(A:c.dr=true){dst:Option Nat}{op:Op}{ad:Ad}{fr:Fr}(hp:iB c.esc dst op=true)(st:ISt):LinS st (λR st ds=>vcR c dst op R ad fr st ds):=by
 unfold iB at hp;rw[iU] at hp;rcases hp with hp|hp
 ·exact lf (vL A hp) st
 ·cases op<;>first|exact I9 st|cases hp
def vN {c:Cf}(O:c.dr=true){ops:List Oper}{o:Oper}{ad:Ad}{fr:Fr}(hp:iB c.esc o.dst o.op=true)(st:ISt):LinS st (λR st ds=>fc c ops o R ad fr st ds):=by
 cases A:o.guard with
 | none=>simp only[fc,A];exact A9 O hp st
 | some p =>
  obtain⟨j,D⟩:=p;cases hd:gQ ops j with
  | none=>simp only[fc,A,hd];exact lf eO st
  | some d =>
   cases E:fr d with
   | box cs=>simp only[fc,A,hd,E];exact lf eO st
   | iv x =>
    cases x with
    | raw v =>
     cases v with
     | bool b =>
      simp only[fc,A,hd,E];by_cases U:b=D
      ·simp only[b_ U];exact A9 O hp st
      ·simp only[a_ U];exact lf (fh _) st
     | tuple t=>simp only[fc,A,hd,E];exact lf (fh _) st
     | _=>simp only[fc,A,hd,E];exact lf eO st
    | _=>simp only[fc,A,hd,E];exact lf eO st
def appQ (esc:List Nat)(dst:Option Nat):Op->Bool
 | .call ⟨.builtin .append,⟨[_,_]⟩,⟨[_,_]⟩⟩=>qP esc dst
 | _=>false
def Kept.new {st:ISt}{g:Nat}(D:st g=none)(o:Option IObj):Kept st (st.put g o):=λb cs A=>by
 rw[ISt.put_apply];split
 ·rename_i h;subst h;rw[D] at A;cases A
 ·exact A
def Kept.front {st:ISt}{g₀ g n s:Nat}(E:st g₀=some (.front n s))(D:g=g₀\/st g=none)(o:Option IObj):Kept st ((st.put g₀ none).put g o):=λb cs A=>by
 have h1:b≠g₀:=by rintro rfl;rw[E] at A;cases A
 have h2:b≠g:=by
  rintro rfl;rcases D with rfl|D
  ·exact h1 rfl
  ·rw[D] at A;cases A
 rw[ISt.put_apply,a_ h2,ISt.put_apply,a_ h1];exact A
def I_ {esc:List Nat}{dst:Option Nat}{e:TypeId×Bool×Nat×Nat}{E:Tag}{U ys:List IV}{R:Rt}{st:ISt}{ds:List Dfd}(h:appV esc dst e E U ys R st ds) :
  appV esc dst e E U ys (λpr st' ds=>R pr st' ds/\Kept st st') st ds:=by
 obtain⟨h1,h2,A⟩:=h;refine⟨h1,h2,?_⟩;cases hc:E.cap with
 | none =>
  rw[hc] at A;cases ys with
  | nil=>exact⟨A,Kept.refl _⟩
  | cons y ys=>exact A.elim
 | nil =>
  rw[hc] at A;cases ys with
  | nil=>exact⟨A,Kept.refl _⟩
  | cons y ys =>
   by_cases W:iz esc dst=true
   ·simp only[b_ W] at A ⊢;exact λg cap D=>⟨A g cap D,Kept.new D.1 _⟩
   ·simp only[a_ W] at A ⊢;exact λg D=>⟨A g D,Kept.new D _⟩
 | full =>
  rw[hc] at A;obtain⟨O,A⟩:=A;refine⟨O,?_⟩;cases ys with
  | nil=>exact⟨A,Kept.refl _⟩
  | cons y ys=>exact λg D=>⟨A g D,Kept.new D _⟩
 | app g₀ =>
  rw[hc] at A;obtain⟨O,h5,A⟩:=A;exact⟨O,h5,λg D=>⟨A g D,Kept.front h5 D _⟩⟩
def A_ {c:Cf}{dst:Option Nat}{op:Op}{R:Rt}{ad:Ad}{fr:Fr}{st:ISt}{ds:List Dfd}(A:appQ c.esc dst op=true)(h:vcR c dst op R ad fr st ds) :
  vcR c dst op (λpr st' ds=>R pr st' ds/\Kept st st') ad fr st ds:=by
 unfold appQ at A;split at A
 ·simp only[vcR] at h ⊢;refine g_ (λe=>?_) h;refine vH ?_ ?_
  ·refine g_ λs=>sJ (λE O=>g_ λy=>sI λ_ ys h=>I_ h) λb off n cap=>g_ λy=>sJ (λ_ ys h=>?_) (λ_ _ _ _ h=>?_)
   all_goals (unfold qO at h;rw[b_ A] at h;exact h.elim)
  ·refine g_ λs=>sI λE _=>g_ λy=>sH λ_ m h=>?_;obtain⟨h1,h2⟩:=h;exact⟨h1,λg cap D=>⟨h2 g cap D,Kept.new D.1 _⟩⟩
 ·cases A
def Ja {c:Cf}{ops:List Oper}{o:Oper}{R:Rt}{ad:Ad}{fr:Fr}{st:ISt}{ds:List Dfd}(D:appQ c.esc o.dst o.op=true)(h:fc c ops o R ad fr st ds) :
  fc c ops o (λpr st' ds=>R pr st' ds/\Kept st st') ad fr st ds:=by
 unfold fc at h ⊢;split at h
 ·exact A_ D h
 ·split at h
  ·split at h
   ·split at h
    ·rename_i A;rw[b_ A];exact A_ D h
    ·rename_i A;rw[a_ A];exact⟨h,Kept.refl _⟩
   ·exact⟨h,Kept.refl _⟩
   ·exact h.elim
  ·exact h.elim
def nK (ops:List Oper)(o:Oper)(fr fr':Fr):Prop:=∀j A d,o.guard=some (j,A)->gQ ops j=some d->fr d=fr' d\/(∃cs cs',fr d=.box cs/\fr' d=.box cs')
def pN {c:Cf}{ops:List Oper}{o:Oper}{R:Rt}{ad D:Ad}{fr fr':Fr}{st:ISt}{ds:List Dfd}(h:SameAt c o.op ad D fr fr')(O:nK ops o fr fr'):fc c ops o R ad fr st ds=fc c ops o R D fr' st ds:=by
 unfold fc;rw[I7 h];cases E:o.guard with
 | none=>rfl
 | some p =>
  obtain⟨j,A⟩:=p;cases hd:gQ ops j with
  | none=>simp only[hd]
  | some d =>
   simp only[hd];rcases O j A d E hd with U|⟨cs,cs',h1,h2⟩
   ·rw[U]
   ·rw[h1,h2]
structure Fine (c:Cf)(op:Op)(ad:Ad)(fr:Fr)(pr:PR):Prop where
 isA:∀t off,pr=.adr t off->c.dr=true->pL op=true
 adr:∀t off,pr=.adr t off->∃x∈op.operands,∃off',evA c.gl ad fr x=some (.box t off')
 sto:∀t cs,pr=.sto t cs->mh op=true/\(∃cs0,fr t=.box cs0)/\∃x∈op.operands,∃off',evA c.gl ad fr x=some (.box t off')
 stoA:∀t cs,pr=.sto t cs->∀T a v,op=.store T a v->∃off',evA c.gl ad fr a=some (.box t off')
def j3 {c:Cf}{op:Op}{ad:Ad}{fr:Fr}{x:IV}:Fine c op ad fr (.val x):=⟨(λ_ _ h=>by cases h),(λ_ _ h=>by cases h),(λ_ _ h=>by cases h),(λ_ _ h=>by cases h)⟩
def Jb {c:Cf}{op:Op}{ad:Ad}{fr:Fr}{x:List IV}:Fine c op ad fr (.box x):=⟨(λ_ _ h=>by cases h),(λ_ _ h=>by cases h),(λ_ _ h=>by cases h),(λ_ _ h=>by cases h)⟩
def Ba {c:Cf}{op:Op}{ad:Ad}{fr:Fr}:Fine c op ad fr .nop:=⟨(λ_ _ h=>by cases h),(λ_ _ h=>by cases h),(λ_ _ h=>by cases h),(λ_ _ h=>by cases h)⟩
def vO {c:Cf}{op:Op}{R:Rt}{ad:Ad}{fr:Fr}{st:ISt}{ds:List Dfd}{x:Operand}{p:Pl}(A:¬ c.dr=true)(hx:x∈op.operands)(hp:evA c.gl ad fr x=some p):plR p R st ds->plR p (λpr st ds=>R pr st ds/\Fine c op ad fr pr) st ds:=by
 cases p with
 | box t off=>exact λh=>⟨h,⟨(λ_ _ _ O=>(A O).elim),λU D E=>by cases E;exact⟨x,hx,off,hp⟩,(λ_ _ h=>by cases h),(λ_ _ h=>by cases h)⟩⟩
 | ptr b off=>exact λh=>⟨h,j3⟩
 | cp y=>exact λh=>⟨h,j3⟩
def Bb {c:Cf}{op:Op}{R:Rt}{ad:Ad}{fr:Fr}{st:ISt}{ds:List Dfd}{x:Operand}(hx:x∈op.operands)(o:Option IV) :
  kL c.dr o (evA c.gl ad fr x) R st ds->kL c.dr o (evA c.gl ad fr x) (λpr st ds=>R pr st ds/\Fine c op ad fr pr) st ds:=by
 unfold kL;split
 ·exact λh=>⟨h,j3⟩
 ·split
  ·exact id
  ·intro h;obtain⟨p,hp,h⟩:=yQ4.1 h;exact yQ4.2 ⟨p,hp,vO ‹_› hx hp h⟩
set_option maxHeartbeats 1000000 in
def Bc {c:Cf}{dst:Option Nat}{op:Op}{R:Rt}{ad:Ad}{fr:Fr}{st:ISt}{ds:List Dfd}:vcR c dst op R ad fr st ds->vcR c dst op (λpr st ds=>R pr st ds/\Fine c op ad fr pr) ad fr st ds:=by
 by_cases h1:∃x,op=.move x\/op=.assign x
 ·obtain⟨x,rfl|rfl⟩:=h1
  ·exact Bb (by simp[Op.operands]) _
  ·exact Bb (by simp[Op.operands]) _
 by_cases h2:∃x,op=.nilCheck x
 ·obtain⟨x,rfl⟩:=h2;simp only[vcR,nilV];split
  ·exact ki (λh=>⟨h,j3⟩) id
  ·exact λh=>⟨h,j3⟩
  ·split
   ·exact λh=>⟨h,j3⟩
   ·intro h;obtain⟨p,hp,h⟩:=yQ4.1 h;exact yQ4.2 ⟨p,hp,vO ‹_› (by simp[Op.operands]) hp h⟩
  ·split
   ·exact id
   ·intro h;obtain⟨p,hp,h⟩:=yQ4.1 h;exact yQ4.2 ⟨p,hp,vO ‹_› (by simp[Op.operands]) hp h⟩
 by_cases h3:∃T x i,op=.fieldAddr T x i
 ·obtain⟨T,x,i,rfl⟩:=h3;simp only[vcR];refine g_ λf=>λh=>?_;obtain⟨p,hp,h⟩:=yQ4.1 h;refine yQ4.2 ⟨p,hp,?_⟩;cases p with
  | box t off=>exact⟨h,⟨(λ_ _ _ _=>rfl),λE D A=>by cases A;exact⟨x,by simp[Op.operands],off,hp⟩,(λ_ _ h=>by cases h),(λ_ _ h=>by cases h)⟩⟩
  | ptr b off=>exact⟨h,j3⟩
  | cp y=>exact sK (λ_=>g_ λ_=>ki (λh=>⟨h,j3⟩) id) h
 by_cases h4:∃T x y,op=.indexAddr T x y
 ·obtain⟨T,x,y,rfl⟩:=h4;simp only[vcR];refine g_ λ_=>sH λ_ j=>g_ λk=>?_;cases k with
  | sl=>exact g_ λ_=>g_ λ_=>vG (λ_ _=>ki (ki (g_ λ_=>λh=>⟨h,j3⟩) id) id) (λ_ _ _=>ki (λh=>⟨h,j3⟩) id)
  | arr n =>
   refine g_ λ_=>λh=>?_;obtain⟨p,hp,h⟩:=yQ4.1 h;refine yQ4.2 ⟨p,hp,ki (ki ?_ id) id h⟩;cases p with
   | box t off=>exact λh=>⟨h,⟨(λ_ _ _ _=>rfl),λE D A=>by cases A;exact⟨x,by simp[Op.operands],off,hp⟩,(λ_ _ h=>by cases h),(λ_ _ h=>by cases h)⟩⟩
   | ptr b off=>exact λh=>⟨h,j3⟩
   | cp y=>exact sK (λ_=>g_ λ_=>ki (λh=>⟨h,j3⟩) id)
  | str=>exact id
  | map=>exact id
 by_cases h5:∃T x y,op=.store T x y
 ·obtain⟨T,x,y,rfl⟩:=h5;simp only[vcR];refine g_ λ_=>g_ λ_=>vC λh=>?_;obtain⟨p,hp,h⟩:=yQ4.1 h;refine yQ4.2 ⟨p,hp,?_⟩;revert h;cases p with
  | box t off =>
   simp only[lK];cases hf:fr t with
   | box cs=>exact ki (λh=>⟨h,⟨(λ_ _ h=>by cases h),(λ_ _ h=>by cases h),(λE cs' A=>by cases A;exact⟨rfl,⟨cs,hf⟩,x,by simp[Op.operands],off,hp⟩),λE cs' A T' a' v' ho=>by cases A;cases ho;exact⟨off,hp⟩⟩⟩) id
   | iv x=>exact id
  | ptr b off=>exact g_ λ_=>vE λ_=>ki (λh=>⟨h,Ba⟩) id
  | cp y=>exact id
 have O:∀x st ds,R (.val x) st ds->R (.val x) st ds/\Fine c op ad fr (.val x):=λx st ds h=>⟨h,j3⟩
 have W:∀x st ds,R (.box x) st ds->R (.box x) st ds/\Fine c op ad fr (.box x):=λx st ds h=>⟨h,Jb⟩
 have U:∀st ds,R .nop st ds->R .nop st ds/\Fine c op ad fr .nop:=λst ds h=>⟨h,Ba⟩
 generalize Fine c op ad fr=F at O W U ⊢;unfold vcR;split
 all_goals first
  | exact absurd ⟨_,.inl rfl⟩ h1|exact absurd ⟨_,.inr rfl⟩ h1|exact absurd ⟨_,rfl⟩ h2|exact absurd ⟨_,_,_,rfl⟩ h3|exact absurd ⟨_,_,_,rfl⟩ h4|exact absurd ⟨_,_,_,rfl⟩ h5
  | repeat (first
   | exact O _ _ _|exact W _ _ _|exact U _ _|exact id
   | refine g_ λ_=>?_|refine vC ?_|refine AM ?_|refine AN ?_|refine AO λ_=>?_|refine vD ?_ ?_|refine AP ?_ ?_|refine ki ?_ ?_
   | refine AQ λ_=>?_|refine vE λ_=>?_|refine AR λ_ _=>?_|refine sH λ_ _=>?_|refine vF λ_=>?_|refine sI λ_ _=>?_|refine vG (λ_ _=>?_) (λ_ _ _=>?_)|refine sJ (λ_ _=>?_) (λ_ _ _ _=>?_)|refine vH ?_ ?_
   | refine sK λ_=>?_|refine AS λ_=>?_|refine vI λ_ _ _=>?_|refine AU λ_=>?_|refine A0 λ_=>?_|refine AV λ_=>?_|refine AW λ_=>?_|refine AX λ_ _ _ _=>?_|refine AY λ_ _=>?_|refine AZ ?_ (λ_ _=>?_)
   | (refine λhh=>callV.mono hh λ_ _=>?_;unfold lL)
   | unfold mK|unfold k9|unfold mL|unfold kg|unfold la|unfold arrV|unfold oH|unfold pC|unfold nG|unfold pD|unfold pE|unfold pF|unfold lenV|unfold appV|unfold qO|unfold appO|unfold appR|unfold appZ|unfold capV|unfold sw|unfold oG|unfold mM
   | split)
def kl (ad:Ad)(d:Nat):Prop:=∀x t off,ad x=some (t,off)->t≠d
def Jc {ad:Ad}{d:Nat}(h:kl ad d)(s:Nat):Ad.keep d (ad s)=ad s:=by
 cases A:ad s with
 | none=>rfl
 | some p =>
  obtain⟨t,off⟩:=p;simp only[Ad.keep,a_ (h s t off A)]
def vP {c:Cf}{ad:Ad}{fr:Fr}{x:Operand}{t off d:Nat}(h:evA c.gl ad fr x=some (.box t off))(W:kl ad d)(hx:x≠.tmp d):t≠d:=by
 cases x with
 | tmp y =>
  simp only[evA] at h;cases D:ad y with
  | some p =>
   obtain⟨O,A⟩:=p;rw[D] at h;simp only[plAd,dL,Pl.box.injEq] at h;exact h.1▸W y O A D
  | none =>
   rw[D] at h;simp only[plAd] at h;cases E:fr y with
   | box cs =>
    rw[E] at h;simp only[plOf,dL,Pl.box.injEq] at h;rintro rfl;exact hx (by rw[h.1])
   | iv z =>
    rw[E] at h;exfalso;cases z with
    | raw u =>
     cases u with
     | pointer p =>
      cases p with
      | none=>cases h
      | some p =>
       obtain⟨pb,po,ps⟩:=p;cases ps<;>cases h
     | _=>cases h
    | _=>cases h
 | global g=>simp only[evA] at h;cases U:c.gl g<;>rw[U] at h<;>cases h
 | const v=>cases h
 | func f=>cases h
def Jd {c:Cf}{op:Op}{ad:Ad}{fr:Fr}{d:Nat}{a:Option (Nat×Nat)}{s:SV}(hd:∀x∈op.operands,x≠.tmp d)(D:kl ad d):SameAt c op ad (ad.put d a) fr (fr.put d s):=by
 refine⟨λx hx=>?_,λx hx=>?_,λ_ x hx t off E=>?_⟩
 ·cases x with
  | tmp y=>rw[px,px,Fr.put_apply,a_ (λh=>hd _ hx (by rw[h]))]
  | _=>rfl
 ·cases x with
  | tmp y =>
   have A:y≠d:=λh=>hd _ hx (by rw[h]);simp only[evA,Ad.put_apply,a_ A,Jc D];cases ad y with
   | none=>simp only[plAd,Fr.put_apply,a_ A]
   | some p=>rfl
  | _=>rfl
 ·rw[Fr.put_apply,a_ (vP E D (hd x hx))]
def Je {c:Cf}{op:Op}{ad:Ad}{fr:Fr}{t:Nat}{cs cs':List IV}(D:fr t=.box cs)(h:(nJ op || mh op)=false):SameAt c op ad ad fr (fr.put t (.box cs')):=by
 refine⟨λx _=>?_,λx _=>?_,λE=>by rw[h] at E;cases E⟩
 ·cases x with
  | tmp y =>
   rw[px,px,Fr.put_apply];split
   ·rename_i A;rw[A,D];rfl
   ·rfl
  | _=>rfl
 ·cases x with
  | tmp y =>
   simp only[evA];cases ad y with
   | none =>
    simp only[plAd,Fr.put_apply];split
    ·rename_i A;rw[A,D];rfl
    ·rfl
   | some p=>rfl
  | _=>rfl
def Jf {ops:List Oper}{o:Oper}{fr:Fr}{d:Nat}{s:SV}(h:d ∉ looks ops o):nK ops o fr (fr.put d s):=by
 intro j A e D E;refine .inl ?_;rw[Fr.put_apply,a_];rintro rfl;exact h (List.mem_append_right _ (by rw[D];simp[E]))
def Bd {ops:List Oper}{o:Oper}{fr:Fr}{t:Nat}{cs cs':List IV}(E:fr t=.box cs):nK ops o fr (fr.put t (.box cs')):=by
 intro j D e _ _;rw[Fr.put_apply];by_cases A:e=t
 ·rw[b_ A,A];exact .inr ⟨cs,cs',E,rfl⟩
 ·rw[a_ A];exact .inl rfl
def q_ {ops:List Oper}{o:Oper}{d:Nat}(h:d ∉ looks ops o):∀x∈o.op.operands,x≠.tmp d:=by
 rintro x hx rfl;exact h (List.mem_append_left _ (List.mem_filterMap.2 ⟨.tmp d,by simpa using hx,rfl⟩))
def after (dst:Option Nat)(pr:PR)(ad:Ad)(fr:Fr):Option (Ad×Fr) :=
 match pr,dst with
 | .val x,some d=>some (ad.put d none,fr.put d x)
 | .val _,none=>some (ad,fr)
 | .adr t off,some d=>if d=t then none else some (ad.put d (some (t,off)),fr.put d (.iv .junk))
 | .adr _ _,none=>some (ad,fr)
 | .box cs,some d=>some (ad.put d none,fr.put d (.box cs))
 | .box _,none=>none
 | .sto _ _,some _=>none
 | .sto t cs,none=>some (ad,fr.put t (.box cs))
 | .nop,some _=>none
 | .nop,none=>some (ad,fr)
def yZm {dst:Option Nat}{K:Kt}{ad:Ad}{fr:Fr}{pr:PR}{st:ISt}{ds:List Dfd}:finK dst K ad fr pr st ds↔∃p,after dst pr ad fr=some p/\K p.1 p.2 st ds:=by
 cases pr<;>cases dst<;>simp only[finK,after,dL,exists_eq_left',reduceCtorEq,false_and,exists_false];split<;>simp
def pO {c:Cf}{ops:List Oper}{o:Oper}{R:Rt}{ad:Ad}{fr:Fr}{st:ISt}{ds:List Dfd}(h:fc c ops o R ad fr st ds):fc c ops o (λpr st ds=>R pr st ds/\Fine c o.op ad fr pr) ad fr st ds:=by
 unfold fc at *;split
 ·exact Bc (by simpa[*] using h)
 ·rename_i j E O;rw[O] at h;simp only at h;split at h
  ·rename_i d hd;cases A:fr d with
   | box cs=>rw[A] at h;exact h.elim
   | iv x =>
    cases x with
    | raw v =>
     cases v with
     | bool b =>
      rw[A] at h;simp only at h ⊢;split
      ·rename_i D;rw[b_ D] at h;exact Bc h
      ·rename_i D;rw[a_ D] at h;exact⟨h,j3⟩
     | tuple t=>rw[A] at h;exact⟨h,j3⟩
     | _=>rw[A] at h;exact h.elim
    | _=>rw[A] at h;exact h.elim
  ·exact h.elim
structure Ap (c:Cf)(ops:List Oper)(x y:Oper):Prop where
 pure:iB c.esc x.dst x.op=true\/iB c.esc y.dst y.op=true
 ls:nJ x.op=true->mh y.op=true->stOk ops y x=true
 sl:mh x.op=true->nJ y.op=true->stOk ops x y=true
 d:∀d,x.dst=some d->d ∉ looks ops y/\y.dst≠some d
 e:∀d,y.dst=some d->d ∉ looks ops x
def Ap.symm {c:Cf}{ops:List Oper}{x y:Oper}(h:Ap c ops x y):Ap c ops y x :=
 ⟨h.pure.symm,λa b=>h.sl b a,λa b=>h.ls b a,λd hd=>⟨h.e d hd,λhx=>(h.d d hx).2 hd⟩,λd hd=>(h.d d hd).1⟩
def Jg {esc:List Nat}{dst:Option Nat}{op:Op}(h:mg esc dst op=true):mh op=false:=by
 cases op<;>first|rfl|simp[mg] at h
def sO {esc:List Nat}{dst:Option Nat}{op:Op}(h:iB esc dst op=true):mh op=false:=by
 unfold iB at h;rw[iU] at h;rcases h with h|h
 ·exact Jg h
 ·cases op<;>first|rfl|cases h
def Jh {c:Cf}{ops:List Oper}{x y:Oper}(h:vJ c.esc ops x y=true):Ap c ops x y:=by
 unfold vJ at h;simp only[bAt,iU,fV,Bool.and_eq_false_iff] at h;obtain⟨⟨⟨⟨h1,h2⟩,D⟩,A⟩,E⟩:=h;refine⟨h1,λa b=>by rcases h2 with h2|h2<;>simp_all,λa b=>by rcases D with D|D<;>simp_all,λd hd=>?_,λd hd=>?_⟩
 ·rw[hd] at A;simp only[bAt,fV] at A;exact⟨by simpa using A.1,by simpa using A.2⟩
 ·rw[hd] at E;simpa using E
def Safe (ops:List Oper)(ad:Ad):Prop:=∀e,sL ops e=true->kl ad e/\ad e=none
def Ji (ops:List Oper):Safe ops Ad.none_:=λ_ _=>⟨λ_ _ _ h=>(by cases h),rfl⟩
def Be {ops:List Oper}{e:Nat}(h:sL ops e=true){o:Oper}(A:o∈ops)(D:pL o.op=true):e ∉ looks ops o/\o.dst≠some e:=by
 unfold sL at h;have:=ed.1 h o A;rw[D] at this;simp only[fW,Bool.false_or,bAt,fV] at this;exact⟨by simpa using this.1,by simpa using this.2⟩
def pP {c:Cf}{ops:List Oper}{x y:Oper}(h:Ap c ops x y){ad:Ad}(ag:Safe ops ad){fr:Fr}{pr:PR}{p:Ad×Fr}(hb:∀d,x.dst=some d->kl ad d)(hf:Fine c x.op ad fr pr)(E:after x.dst pr ad fr=some p) :
  SameAt c y.op ad p.1 fr p.2/\nK ops y fr p.2:=by
 have refl:SameAt c y.op ad ad fr fr/\nK ops y fr fr:=⟨⟨λ_ _=>rfl,λ_ _=>rfl,λ_ _ _ _ _ _=>rfl⟩,λ_ _ _ _ _=>.inl rfl⟩
 cases hx:x.dst with
 | none =>
  rw[hx] at E;cases pr with
  | sto t cs =>
   simp only[after,dL] at E;subst E;obtain⟨hs,⟨au,ht⟩,_⟩:=hf.sto t cs rfl;have af:mh y.op=false:=by
    rcases h.pure with hp|hp
    ·rw[sO hp] at hs;cases hs
    ·exact sO hp
   cases hl:nJ y.op with
   | false=>exact⟨Je ht (by rw[hl,af];rfl),Bd ht⟩
   | true =>
    have D:=h.sl hs hl;unfold stOk at D;split at D
    ·rename_i T e v ab;rw[bAt] at D;obtain⟨aj,O⟩:=ag e D.1;have W:e ∉ looks ops y:=by simpa using D.2
     obtain⟨off,A⟩:=hf.stoA t cs rfl T _ v ab;have ac:t=e:=by
      simp only[evA,O,plAd] at A;cases aa:fr e with
      | box ar=>rw[aa] at A;simp only[plOf,dL,Pl.box.injEq] at A;exact A.1.symm
      | iv x1 =>
       rw[aa] at A;unfold plOf at A;split at A<;>first|(cases A;done)|(cases A;rfl)
     subst ac;show SameAt c y.op ad ad fr (fr.put t (.box cs))/\nK ops y fr (fr.put t (.box cs));refine⟨⟨λx hx=>?_,λx hx=>?_,λ_ x hx t2 am ak=>?_⟩,Bd ht⟩
     ·have U:=q_ W x hx;cases x with
      | tmp q =>
       rw[px,px,Fr.put_apply,a_ λhq=>U (by rw[hq])]
      | _=>rfl
     ·have U:=q_ W x hx;cases x with
      | tmp q =>
       simp only[evA];cases ad q with
       | none=>simp only[plAd];rw[Fr.put_apply,a_ λhq=>U (by rw[hq])]
       | some p=>rfl
      | _=>rfl
     ·rw[Fr.put_apply,a_ (vP ak aj (q_ W x hx))]
    ·cases D
  | _=>simp only[after,dL,reduceCtorEq] at E<;>subst E<;>exact refl
 | some d =>
  rw[hx] at E;have hd:=h.d d hx;have key:∀a s,SameAt c y.op ad (ad.put d a) fr (fr.put d s)/\nK ops y fr (fr.put d s):=λa s=>⟨Jd (q_ hd.1) (hb d hx),Jf hd.1⟩
  cases pr with
  | adr t off =>
   simp only[after] at E;split at E
   ·cases E
   ·cases E;exact key _ _
  | _=>simp only[after,dL,reduceCtorEq] at E<;>subst E<;>exact key _ _
def sP {fr:Fr}{d e:Nat}{s t:SV}(h:d≠e):(fr.put d s).put e t=(fr.put e t).put d s:=by
 funext x;simp only[Fr.put_apply];by_cases h1:x=e
 ·rw[b_ h1,a_ (λh2=>h (by rw[<- h2,h1])),b_ h1]
 ·rw[a_ h1,a_ h1]
def Jj {d e:Nat}(o:Option (Nat×Nat)):Ad.keep d (Ad.keep e o)=Ad.keep e (Ad.keep d o):=by
 cases o with
 | none=>rfl
 | some p =>
  obtain⟨t,off⟩:=p;by_cases h1:t=e
  ·by_cases h2:t=d
   ·simp only[Ad.keep,b_ h1,b_ h2]
   ·simp only[Ad.keep,b_ h1,a_ h2]
  ·by_cases h2:t=d
   ·simp only[Ad.keep,a_ h1,b_ h2]
   ·simp only[Ad.keep,a_ h1,a_ h2]
def Jk {ad:Ad}{d e:Nat}{a b:Option (Nat×Nat)}(h:d≠e)(D:Ad.keep e a=a)(A:Ad.keep d b=b):(ad.put d a).put e b=(ad.put e b).put d a:=by
 funext x;simp only[Ad.put_apply];by_cases h1:x=e
 ·have h2:x≠d:=λh2=>h (by rw[<- h2,h1]);rw[b_ h1,a_ h2,b_ h1,A]
 ·by_cases h2:x=d
  ·rw[a_ h1,b_ h2,b_ h2,D]
  ·rw[a_ h1,a_ h2,a_ h2,a_ h1,Jj]
def ra {c:Cf}{ops:List Oper}{y:Oper}{d:Nat}{ad:Ad}{fr:Fr}(hd:d ∉ looks ops y)(E:kl ad d){t:Nat}(h:∃x∈y.op.operands,∃A,evA c.gl ad fr x=some (.box t A)):t≠d:=by
 obtain⟨x,hx,A,D⟩:=h;exact vP D E (q_ hd x hx)
def re {d:Nat}{pr:PR}{ad:Ad}{fr:Fr}{p:Ad×Fr}(h:after (some d) pr ad fr=some p):∃a s,p=(ad.put d a,fr.put d s)/\(∀A fr',after (some d) pr A fr'=some (A.put d a,fr'.put d s)) /\
  (a=none\/∃t off,pr=.adr t off/\a=some (t,off)):=by
 cases pr with
 | val x=>cases h;exact⟨_,_,rfl,λ_ _=>rfl,.inl rfl⟩
 | box x=>cases h;exact⟨_,_,rfl,λ_ _=>rfl,.inl rfl⟩
 | adr t off =>
  simp only[after] at h;split at h
  ·cases h
  ·rename_i D;cases h;exact⟨_,_,rfl,λ_ _=>a_ D,.inr ⟨t,off,rfl,rfl⟩⟩
 | sto t cs=>cases h
 | nop=>cases h
def vQ {c:Cf}{ops:List Oper}{x y:Oper}(h:Ap c ops x y){ad:Ad}{fr:Fr}{O E:PR}{p q:Ad×Fr}(ag:∀d,x.dst=some d->kl ad d)(af:∀d,y.dst=some d->kl ad d)
  (aa:Fine c x.op ad fr O) (W:Fine c y.op ad fr E) (hp:after x.dst O ad fr=some p) (A:after y.dst E ad fr=some q) :
  ∃r,after y.dst E p.1 p.2=some r/\after x.dst O q.1 q.2=some r:=by
 have aq:∀d t off,x.dst=some d->E=.adr t off->Ad.keep d (some (t,off))=some (t,off):=λd t off hd he=>by
  simp only[Ad.keep,a_ (ra (h.d d hd).1 (ag d hd) (W.adr t off he))]
 have ao:∀d t off,y.dst=some d->O=.adr t off->Ad.keep d (some (t,off))=some (t,off):=λd t off hd he=>by
  simp only[Ad.keep,a_ (ra (h.e d hd) (af d hd) (aa.adr t off he))]
 have ak:∀d t cs,x.dst=some d->E=.sto t cs->t≠d:=λd t cs hd he=>ra (h.d d hd).1 (ag d hd) (W.sto t cs he).2.2;have aj:∀d t cs,y.dst=some d->O=.sto t cs->t≠d:=λd t cs hd he=>ra (h.e d hd) (af d hd) (aa.sto t cs he).2.2;have am:∀t cs t' cs',O=.sto t cs->E=.sto t' cs'->False:=λt cs t' cs' h1 h2=>by
  have a:=(aa.sto t cs h1).1;have b:=(W.sto t' cs' h2).1;rcases h.pure with A|A
  ·rw[sO A] at a;cases a
  ·rw[sO A] at b;cases b
 cases hx:x.dst with
 | none =>
  cases U:y.dst with
  | none =>
   rw[hx] at hp;rw[U] at A;cases O<;>cases E<;>simp only[after,dL,reduceCtorEq] at hp A<;>subst hp A<;>first|exact⟨_,rfl,rfl⟩|exact (am _ _ _ _ rfl rfl).elim
  | some e =>
   rw[hx] at hp;rw[U] at A;cases O with
   | sto t cs =>
    have ht:=aj e t cs U rfl;simp only[after,dL] at hp;subst hp;cases E with
    | adr t' off =>
     simp only[after] at A;split at A
     ·cases A
     ·rename_i an;cases A;exact⟨_,a_ an,by simp only[after];rw[sP (λh=>ht h.symm)]⟩
    | _=>simp only[after,dL,reduceCtorEq] at A<;>subst A<;>exact⟨_,rfl,by simp only[after];rw[sP (λh=>ht h.symm)]⟩
   | _=>simp only[after,dL,reduceCtorEq] at hp<;>subst hp<;>exact⟨_,A,rfl⟩
 | some d =>
  rw[hx] at hp;obtain⟨a,s,rfl,D,ha⟩:=re hp;cases U:y.dst with
  | none =>
   rw[U] at A;cases E with
   | sto t cs =>
    have ht:=ak d t cs hx rfl;cases A;exact⟨_,rfl,by rw[D,sP ht]⟩
   | box cs=>cases A
   | _=>cases A;exact⟨_,rfl,D _ _⟩
  | some e =>
   rw[U] at A;obtain⟨b,s',rfl,ac,hb⟩:=re A;have ae:d≠e:=λh0=>(h.d d hx).2 (by rw[U,h0]);have au:Ad.keep e a=a:=by
    rcases ha with rfl|⟨t,off,h1,rfl⟩
    ·rfl
    ·exact ao e t off U h1
   have ar:Ad.keep d b=b:=by
    rcases hb with rfl|⟨t,off,h1,rfl⟩
    ·rfl
    ·exact aq d t off hx h1
   exact⟨_,ac _ _,by rw[D,sP ae,Jk ae au ar]⟩
