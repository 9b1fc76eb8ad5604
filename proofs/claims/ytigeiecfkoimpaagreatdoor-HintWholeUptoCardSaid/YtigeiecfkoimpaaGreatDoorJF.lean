/- The layer of ideal values, part O: regio -/
import Derived.Test.YtigeiecfkoimpaaGreatDoorJE
set_option linter.all false
namespace Go.Iv
open Go
section
variable {α:Type}{p q p' q':Prop}
def ir {o:Option α}{f g:α->Prop}(h:∀x,f x->g x):du o f->du o g:=by
 cases o<;>simp only[du]<;>first|exact h _|exact id
def wF {c:Prop}(h:p->q):chk c p->chk c q:=λx=>⟨x.1,h x.2⟩
def Bx {c:Prop}(h:p->q):giv c p->giv c q:=λx y=>h (x y)
def By {c:Prop}(h:p->q):(c->p)->(c->q):=λx y=>h (x y)
def Bz {f g:α->Prop}(h:∀x,f x->g x):(∀x,f x)->(∀x,g x):=λD x=>h x (D x)
def wG {b:Bool}{k:Lock p}{l:Lock q}{G:Lock p'}{E:Lock q'}(h:p->p')(J:q->q'):jl b p q k l->jl b p' q' G E:=λx=>⟨λD=>h (x.1 D),λD=>J (x.2 D)⟩
def BA (h:p->p')(D:q->q'):p\/q->p'\/q':=λx=>x.imp h D
def j4 {c:Prop} [Decidable c](h:p->p')(D:q->q'):(if c then p else q)->(if c then p' else q'):=by split<;>assumption
def BB {s:SV}{f g:List IV->Prop}(h:∀x,f x->g x):boxV s f->boxV s g:=by unfold boxV;split<;>first|exact h _|exact id
def wH {s:IObj}{f g:List IV->Prop}(h:∀x,f x->g x):obV s f->obV s g:=by unfold obV;split<;>first|exact h _|exact id
def BC {s:IObj}{f g:KeyK->List (Value×IV)->Prop}(h:∀x y,f x y->g x y):omV s f->omV s g:=by unfold omV;split<;>first|exact h _ _|exact id
def tE {s:IV}{f g:IntKind->Int->Prop}(h:∀x y,f x y->g x y):intV s f->intV s g:=by unfold intV;split<;>first|exact h _ _|exact id
def wI {s:IV}{f g:Bool->Prop}(h:∀x,f x->g x):k9 s f->k9 s g:=by unfold k9;split<;>first|exact h _|exact id
def tG {s:IV}{f g:Tag->List IV->Prop}(h:∀x y,f x y->g x y):slV s f->slV s g:=by unfold slV;split<;>first|exact h _ _|exact id
def wJ {s:IV}{f E:Tag->List IV->Prop}{g D:Nat->Nat->Nat->Prop}(h:∀x y,f x y->E x y)(G:∀x y z,g x y z->D x y z):slX s f g->slX s E D:=by unfold slX;split<;>first|exact h _ _|exact G _ _ _|exact id
def tH {s:IV}{f E:Tag->List IV->Prop}{g D:Nat->Nat->Nat->Nat->Prop}(h:∀x y,f x y->E x y)(G:∀x y z u,g x y z u->D x y z u):slY s f g->slY s E D:=by unfold slY;split<;>first|exact h _ _|exact G _ _ _ _|exact id
def wK {k:Option LenK}{i:Option IntKind}{f E g D:Prop}(h:f->E)(G:g->D):appK k i f g->appK k i E D:=by unfold appK;split<;>first|exact h|exact G|exact id
def tI {s:IV}{f g:List IV->Prop}(h:∀x,f x->g x):aggV s f->aggV s g:=by unfold aggV;split<;>first|exact h _|exact id
def BD {s:IV}{f g:List IV->Prop}(h:∀x,f x->g x):tupV s f->tupV s g:=by unfold tupV;split<;>first|exact h _|exact id
def wL {s:IV}{f g:Fn->List IV->List IV->Prop}(h:∀x y z,f x y z->g x y z):fnV s f->fnV s g:=by unfold fnV;split<;>first|exact h _ _ _|exact id
def BE {s:IV}{f g:Option Nat->Prop}(h:∀x,f x->g x):mapV s f->mapV s g:=by unfold mapV;split<;>first|exact h _|exact id
def BF {s:IV}{f g:Value->Prop}(h:∀x,f x->g x):keyV s f->keyV s g:=by unfold keyV;split<;>first|exact h _|exact λk hs=>h _ (k hs)|exact id
def BG {s:IV}{f g:Nat->Prop}(h:∀x,f x->g x):adrV s f->adrV s g:=by unfold adrV;split<;>first|exact h _|exact id
def BH {s:IObj}{f g:Nat->Nat->Array Nat->Nat->Prop}(h:∀x y z u,f x y z u->g x y z u):itO s f->itO s g:=by unfold itO;split<;>first|exact h _ _ _ _|exact id
def BI {s:IObj}{f g:Array MapEntry->Nat->Prop}(h:∀x y,f x y->g x y):mxO s f->mxO s g:=by unfold mxO;split<;>first|exact h _ _|exact id
def BJ {e:Array MapEntry}{n:Array Nat}{p p':Prop}{q q':MapEntry->IV->Prop}{k:Lock p}{l:Lock q}{E:Lock p'}{D:Lock q'}(h:p->p')(G:∀x y,q x y->q' x y):nxR e n p q k l->nxR e n p' q' E D:=λx=>⟨λy=>h (x.1 y),λa b c d=>G _ _ (x.2 a b c d)⟩
def BK {s:IV}{f g:Value->Prop}(h:∀x,f x->g x):rawV s f->rawV s g:=by unfold rawV;split<;>first|exact h _|exact id
end
section
variable {R R':Rt}(h:∀pr st ds,R pr st ds->R' pr st ds)
include h
set_option maxHeartbeats 1000000 in
def pz {c:Cf}{dst:Option Nat}{op:Op}{ad:Ad}{fr:Fr}{st:ISt}{ds:List Dfd}:vcR c dst op R ad fr st ds->vcR c dst op R' ad fr st ds:=by
 unfold vcR;split
 all_goals try unfold kJ
 all_goals try unfold nilV
 all_goals repeat (first
  | exact h _ _ _|exact id
  | refine ir λ_=>?_|refine wF ?_|refine Bx ?_|refine By ?_|refine Bz λ_=>?_|refine wG ?_ ?_|refine BA ?_ ?_|refine j4 ?_ ?_
  | refine BB λ_=>?_|refine wH λ_=>?_|refine BC λ_ _=>?_|refine tE λ_ _=>?_|refine wI λ_=>?_|refine tG λ_ _=>?_|refine wJ (λ_ _=>?_) (λ_ _ _=>?_)|refine tH (λ_ _=>?_) (λ_ _ _ _=>?_)|refine wK ?_ ?_
  | refine tI λ_=>?_|refine BD λ_=>?_|refine wL λ_ _ _=>?_|refine BE λ_=>?_|refine BK λ_=>?_|refine BF λ_=>?_|refine BG λ_=>?_|refine BH λ_ _ _ _=>?_|refine BI λ_ _=>?_|refine BJ ?_ (λ_ _=>?_)
  | (refine λD=>callV.mono D λ_ _=>?_;unfold lH)
  | unfold mE|unfold k_|unfold mF|unfold jZ|unfold lG|unfold nB|unfold oz|unfold idxV|unfold kM|unfold arrV|unfold nC|unfold pk|unfold nD|unfold s7|unfold s8|unfold s9|unfold lenV|unfold appV|unfold qO|unfold appO|unfold appR|unfold appZ|unfold capV|unfold ph|unfold oA|unfold mG|unfold plR
  | split)
end
def mf (esc:List Nat)(dst:Option Nat):Op->Bool
 | .move _|.assign _|.pick ..|.build ..=>true
 | .buildSlice ..=>!ic esc dst
 | .load ..=>!ic esc dst
 | .nilCheck _|.binOp ..|.unOp ..|.convert ..|.makeFunc ..|.slice ..|.fieldAddr ..|.field ..|.indexAddr ..|.index ..|.extract ..=>true
 | .alloc _|.box ..=>match dst with|some d=>!esc.contains d|none=>false
 | .call ⟨.builtin .len,_,_⟩|.call ⟨.builtin .max,_,_⟩=>true
 | .call ⟨.value (.func g),_,_⟩=>esc.contains (g+1000000)
 | _=>false
def nH:Op->Bool
 | .load ..=>true
 | _=>false
def mg:Op->Bool
 | .store ..=>true
 | _=>false
def iy (esc:List Nat)(dst:Option Nat)(op:Op):Bool:=mf esc dst op || nH op
def Jp (l:List Operand):List Nat:=l.filterMap λ| .tmp t=>some t|_=>none
def looks (ops:List Oper)(o:Oper):List Nat:=Jp o.op.operands.toList++(match o.guard with|some (j,_)=>(iq ops j).toList|none=>[])
def pA:Op->Bool
 | .fieldAddr ..=>true
 | .indexAddr ..=>true
 | _=>false
def tJ (ops:List Oper)(e:Nat):Bool:=ops.all λo=>!pA o.op || (!(looks ops o).contains e&&!(o.dst == some e))
def stOk (ops:List Oper)(x y:Oper):Bool :=
 match x.op with
 | .store _ (.tmp e) _=>tJ ops e&&!(looks ops y).contains e
 | _=>false
def wM (esc:List Nat)(ops:List Oper)(x y:Oper):Bool :=
 (iy esc x.dst x.op || iy esc y.dst y.op)&&(!(nH x.op&&mg y.op) || stOk ops y x)&&(!(nH y.op&&mg x.op) || stOk ops x y) &&
 (match x.dst with|some d=>!(looks ops y).contains d&&!(y.dst == some d)|none=>true)&&(match y.dst with|some d=>!(looks ops x).contains d|none=>true)
def Lin (F:Rt->ISt->List Dfd->Prop):Prop:=(∃pr,∀R st ds,F R st ds↔R pr st ds)\/(∀R st ds,¬ F R st ds)
def fx (pr:PR):Lin (λR st ds=>R pr st ds):=.inl ⟨pr,λ_ _ _=>Iff.rfl⟩
def eV:Lin (λ_ _ _=>False):=.inr λ_ _ _ h=>h
def eM {α:Type}{o:Option α}{F:α->Rt->ISt->List Dfd->Prop}(h:∀x,Lin (F x)):Lin (λR st ds=>du o λx=>F x R st ds):=by
 cases o with
 | none=>exact eV
 | some x=>exact h x
def mM {c:Prop}{F:Rt->ISt->List Dfd->Prop}(h:Lin F):Lin (λR st ds=>chk c (F R st ds)):=by
 by_cases hc:c
 ·rcases h with⟨pr,h⟩|h
  ·exact .inl ⟨pr,λR st ds=>⟨λx=>(h R st ds).1 x.2,λx=>⟨hc,(h R st ds).2 x⟩⟩⟩
  ·exact .inr λR st ds x=>h R st ds x.2
 ·exact .inr λR st ds x=>hc x.1
def j5 {c:Prop} [Decidable c]{F G:Rt->ISt->List Dfd->Prop}(h:Lin F)(D:Lin G):Lin (λR st ds=>if c then F R st ds else G R st ds):=by
 by_cases hc:c
 ·simpa only[cX hc] using h
 ·simpa only[a_ hc] using D
def BL {c:Prop}{F:Rt->ISt->List Dfd->Prop}(hc:c)(h:Lin F):Lin (λR st ds=>c->F R st ds):=by
 rcases h with⟨pr,h⟩|h
 ·exact .inl ⟨pr,λR st ds=>⟨λx=>(h R st ds).1 (x hc),λx _=>(h R st ds).2 x⟩⟩
 ·exact .inr λR st ds x=>h R st ds (x hc)
def Jq {b:Bool}{F G:Rt->ISt->List Dfd->Prop}(h:Lin F)(D:Lin G):Lin (λR st ds=>jl b (F R st ds) (G R st ds) .mk .mk):=by
 cases b
 ·simpa only[Ih] using D
 ·simpa only[Ig] using h
def BM {s:SV}{F:List IV->Rt->ISt->List Dfd->Prop}(h:∀x,Lin (F x)):Lin (λR st ds=>boxV s λx=>F x R st ds):=by
 cases s<;>first|exact h _|exact eV
def tK {s:IV}{F:IntKind->Int->Rt->ISt->List Dfd->Prop}(h:∀x y,Lin (F x y)):Lin (λR st ds=>intV s λx y=>F x y R st ds):=by
 cases s with
 | raw v=>cases v<;>first|exact h _ _|exact eV
 | _=>exact eV
def Jr {s:IV}{F:Bool->Rt->ISt->List Dfd->Prop}(h:∀x,Lin (F x)):Lin (λR st ds=>k9 s λx=>F x R st ds):=by
 cases s with
 | raw v=>cases v<;>first|exact h _|exact eV
 | _=>exact eV
def BN {s:IV}{F:Tag->List IV->Rt->ISt->List Dfd->Prop}{G:Nat->Nat->Nat->Rt->ISt->List Dfd->Prop}(h:∀x y,Lin (F x y))(J:∀x y z,Lin (G x y z)):Lin (λR st ds=>slX s (λx y=>F x y R st ds) (λx y z=>G x y z R st ds)):=by
 by_cases hs:∃t xs,s=.sl t xs
 ·obtain⟨t,xs,rfl⟩:=hs;exact h _ _
 ·by_cases E:∃b off n cap,s=.raw (.slice (some ⟨b,off,none⟩) n cap)
  ·obtain⟨b,off,n,cap,rfl⟩:=E;exact J _ _ _
  ·refine .inr λR st ds D=>?_;simp only at D;unfold slX at D;split at D
   ·exact hs ⟨_,_,rfl⟩
   ·exact E ⟨_,_,_,_,rfl⟩
   ·exact D
def Js {s:IV}{F:Tag->List IV->Rt->ISt->List Dfd->Prop}{G:Nat->Nat->Nat->Nat->Rt->ISt->List Dfd->Prop}(h:∀x y,Lin (F x y))(J:∀x y z u,Lin (G x y z u)):Lin (λR st ds=>slY s (λx y=>F x y R st ds) (λx y z u=>G x y z u R st ds)):=by
 by_cases hs:∃t xs,s=.sl t xs
 ·obtain⟨t,xs,rfl⟩:=hs;exact h _ _
 ·by_cases E:∃b off n cap,s=.raw (.slice (some ⟨b,off,none⟩) n cap)
  ·obtain⟨b,off,n,cap,rfl⟩:=E;exact J _ _ _ _
  ·refine .inr λR st ds D=>?_;simp only at D;unfold slY at D;split at D
   ·exact hs ⟨_,_,rfl⟩
   ·exact E ⟨_,_,_,_,rfl⟩
   ·exact D
def tM {s:IV}{F:List IV->Rt->ISt->List Dfd->Prop}(h:∀x,Lin (F x)):Lin (λR st ds=>aggV s λx=>F x R st ds):=by
 cases s<;>first|exact h _|exact eV
def Jt {s:IV}{F:List IV->Rt->ISt->List Dfd->Prop}(h:∀x,Lin (F x)):Lin (λR st ds=>tupV s λx=>F x R st ds):=by
 cases s<;>first|exact h _|exact eV
def wN {s:IV}{F:Value->Rt->ISt->List Dfd->Prop}(h:∀x,Lin (F x)):Lin (λR st ds=>rawV s λx=>F x R st ds):=by
 cases s<;>first|exact h _|exact eV
def Ju {ag:Bool}{n:Nat}{p:Pl}{fr:Fr}:Lin (λR st ds=>jZ true ag n p fr R st ds):=by
 cases p with
 | box t off=>exact BM λ_=>eM λ_=>fx _
 | ptr b off=>exact eV
 | cp y=>exact j5 (fx _) eV
def Jv {f:Nat×Bool×Nat}{p:Pl}:Lin (λR st ds=>nB f p R st ds):=by
 cases p with
 | box t off=>exact fx _
 | ptr b off=>exact fx _
 | cp y=>exact tM λ_=>eM λ_=>j5 (fx _) eV
def Jw {len n j:Nat}{ag:Bool}{p:Pl}:Lin (λR st ds=>oz len ag n j p R st ds):=by
 unfold oz;refine j5 ?_ eV;cases p with
 | box t off=>exact fx _
 | ptr b off=>exact fx _
 | cp y=>exact tM λ_=>eM λ_=>j5 (fx _) eV
def Jx {k:LenK}{s:Option (TypeId×Bool×Nat×Nat)}{xs:Option IV}{p:Option Pl}{e:Option (Nat×Bool×Nat)}{j:Int}:Lin (λR st ds=>idxV k s xs p e j R st ds):=by
 cases k with
 | sl=>exact eM λ_=>eM λ_=>BN (λ_ _=>j5 (j5 (eM λ_=>fx _) eV) eV) (λ_ _ _=>j5 (fx _) eV)
 | arr n=>exact eM λ_=>eM λ_=>j5 Jw eV
 | _=>exact eV
def Jy {k:LenK}{e:Option (Nat×Bool×Nat)}{x:IV}{j:Int}:Lin (λR st ds=>nC k e x j R st ds):=by
 cases k with
 | str =>
  refine wN λv=>?_;cases v with
  | string s=>exact eM λ_=>fx _
  | _=>exact eV
 | arr n=>exact tM λ_=>eM λ_=>j5 (eM λ_=>fx _) eV
 | _=>exact eV
def Jz {k:LenK}{x:IV}:Lin (λR st ds=>lenV true k x R st ds):=by
 cases k with
 | str =>
  refine wN λv=>?_;cases v with
  | string s=>exact BL (λh=>by cases h) (fx _)
  | _=>exact eV
 | sl=>exact BN (λ_ _=>BL (λh=>by cases h) (fx _)) (λ_ _ _=>fx _)
 | map=>exact eV
 | arr n=>exact fx _
def JA {ar:Option (Nat×Bool×Nat)}{x:IV}{lo E D:Option Int}{len:Nat}:Lin (λR st ds=>arrV ar x lo E D len R st ds):=by
 cases x with
 | cptr y =>
  cases y with
  | agg cs =>
   cases lo with
   | none =>
    cases D with
    | none=>exact eM λ_=>mM (eM λ_=>fx _)
    | some m=>exact eV
   | some l=>exact eV
  | _=>exact eV
 | _=>exact eV
def JB {k:LenK}{s:Option (TypeId×Bool×Nat×Nat)}{ar:Option (Nat×Bool×Nat)}{x:IV}{lo E D:Option Int}:Lin (λR st ds=>kM k s ar x lo E D R st ds):=by
 cases k with
 | str =>
  refine wN λv=>?_;cases v with
  | string s =>
   cases D with
   | none=>exact eM λ_=>fx _
   | some m=>exact eV
  | _=>exact eV
 | sl =>
  refine eM λ_=>Js (λ_ _=>mM ?_) (λ_ _ _ _=>?_)
  ·cases E with
   | none =>
    cases D with
    | none=>exact eM λ_=>mM (fx _)
    | some m=>exact eV
   | some h=>exact eM λ_=>mM (fx _)
  ·cases D with
   | none=>exact mM (eM λ_=>fx _)
   | some m=>exact eV
 | arr n=>exact JA
 | map=>exact eV
def BO {o:Option IV}{p:Option Pl}:Lin (λR st ds=>kJ true o p R st ds):=by
 cases o with
 | some x=>exact fx _
 | none=>exact eV
def JC {o:Option IV}{p:Option Pl}:Lin (λR st ds=>nilV o p true R st ds):=by
 cases o with
 | none=>exact eV
 | some x =>
  cases x with
  | fn f a b=>exact j5 (fx _) eV
  | cptr y=>exact fx _
  | raw v =>
   cases v with
   | pointer o =>
    cases o with
    | none=>exact eV
    | some q=>exact fx _
   | _=>exact eV
  | _=>exact eV
def BP {esc:List Nat}{d:Nat}(h:esc.contains d=false){cs:List IV}:Lin (λR st ds=>k_ esc (some d) cs R st ds):=by
 have:¬ d∈esc:=by simpa using h
 simp only[k_,a_ this];exact fx _
def JD {frz esc:List Nat}{d:Nat}(h:esc.contains d=false){y:IV}:Lin (λR st ds=>mE frz esc (some d) y R st ds):=j5 (fx _) (BP h)
def wO {c:Cf}(D:c.dr=true){dst:Option Nat}{op:Op}{ad:Ad}{fr:Fr}(hp:mf c.esc dst op=true):Lin (λR st ds=>vcR c dst op R ad fr st ds):=by
 unfold mf at hp;split at hp
 case h_1=>simp only[vcR,D];exact BO
 case h_2=>simp only[vcR,D];exact BO
 case h_3=>exact eM λ_=>Jr λ_=>Jq (eM λ_=>fx _) (eM λ_=>fx _)
 case h_4=>exact mM (eM λ_=>eM λ_=>fx _)
 case h_5 =>
  have hl:ic c.esc dst=false:=by simpa using hp
  simp only[vcR,mF,hl,bFt,dE];exact eM λ_=>mM (eM λ_=>mM (fx _))
 case h_6 =>
  have hl:ldr c.dr c.esc dst=true:=by unfold ldr;rw[D,hp];rfl
  simp only[vcR,hl];exact eM λ_=>eM λ_=>Ju
 case h_7=>simp only[vcR,D];exact JC
 case h_8=>exact eM λ_=>eM λ_=>eM λ_=>fx _
 case h_9=>exact eM λ_=>eM λ_=>fx _
 case h_10=>exact eM λ_=>eM λ_=>fx _
 case h_11=>exact eM λ_=>eM λ_=>fx _
 case h_12=>exact eM λ_=>eM λ_=>eM λ_=>eM λ_=>eM λ_=>JB
 case h_13=>exact eM λ_=>eM λ_=>Jv
 case h_14=>exact eM λ_=>eM λ_=>tM λ_=>eM λ_=>fx _
 case h_15=>exact eM λ_=>tK λ_ _=>eM λ_=>Jx
 case h_16=>exact eM λ_=>tK λ_ _=>eM λ_=>eM λ_=>Jy
 case h_17=>exact eM λ_=>Jt λ_=>eM λ_=>fx _
 case h_18 =>
  split at hp
  ·exact eM λ_=>BP (by simpa using hp)
  ·cases hp
 case h_19 =>
  split at hp
  ·exact eM λ_=>eM λ_=>mM (JD (by simpa using hp))
  ·cases hp
 case h_20 =>
  rename_i args ts;obtain⟨args⟩:=args;obtain⟨ts⟩:=ts
  match args,ts with
  | [x],[T]=>simp only[vcR,D];exact eM λ_=>eM λ_=>Jz
  | [],_=>exact eV
  | _::_::_,_=>exact eV
  | [_],[]=>exact eV
  | [_],_::_::_=>exact eV
 case h_21 =>
  rename_i args ts;obtain⟨args⟩:=args
  match args with
  | [x,y]=>exact eM λ_=>eM λ_=>tK λ_ _=>tK λ_ _=>j5 (fx _) eV
  | []=>exact eV
  | [_]=>exact eV
  | _::_::_::_=>exact eV
 case h_22 =>
  rename_i g _ _;have E:g+1000000∈c.esc:=by simpa using hp
  simp only[vcR,mG,cX E];exact eM λ_=>eM λ_=>fx _
 case h_23=>cases hp
structure SameAt (c:Cf)(op:Op)(ad ad':Ad)(fr fr':Fr):Prop where
 v:∀x∈op.operands,evV c.gl fr x=evV c.gl fr' x
 a:∀x∈op.operands,evA c.gl ad fr x=evA c.gl ad' fr' x
 box:(nH op || mg op)=true->∀x∈op.operands,∀t off,evA c.gl ad fr x=some (.box t off)->fr t=fr' t
def pB {gl:Nat->Option IV}{fr fr':Fr}:∀ {l:List Operand},(∀x∈l,evV gl fr x=evV gl fr' x)->evL gl fr l=evL gl fr' l
 | [],_=>rfl
 | x::l,h=>by rw[AR,AR,h x (by simp),pB λy D=>h y (by simp[D])]
def wP {gl:Nat->Option IV}{fr fr':Fr}{o:Option Operand}(h:∀x,o=some x->evV gl fr x=evV gl fr' x):iP gl fr o=iP gl fr' o:=by
 cases o with
 | none=>rfl
 | some x=>simp only[Io,h x rfl]
def BQ {P:Program}{gl:Nat->Option IV}{fr fr':Fr}{T:TypeId}:∀ {l:List (Nat×Operand)} {cs:List IV},(∀x∈l.map (·.2),evV gl fr x=evV gl fr' x)->kK P gl fr T cs l=kK P gl fr' T cs l
 | [],cs,_=>rfl
 | (i,x)::l,cs,h=>by
  rw[vU,vU,h x (by simp)];cases bfI P T i with
  | none=>rfl
  | some f =>
   cases evV gl fr' x with
   | none=>rfl
   | some y=>simp only[pg];split<;>first|exact BQ λy D=>h y (by simp[D])|rfl
def JE {dr ag:Bool}{n:Nat}{p:Pl}{fr fr':Fr}{R:Rt}{st:ISt}{ds:List Dfd}(h:∀t off,p=.box t off->fr t=fr' t):jZ dr ag n p fr R st ds=jZ dr ag n p fr' R st ds:=by
 cases p with
 | box t off=>simp only[jZ,h t off rfl]
 | _=>rfl
def JG {y:List IV}{p:Pl}{fr fr':Fr}{R:Rt}{st:ISt}{ds:List Dfd}(h:∀t off,p=.box t off->fr t=fr' t):lG y p fr R st ds=lG y p fr' R st ds:=by
 cases p with
 | box t off=>simp only[lG,h t off rfl]
 | _=>rfl
def JH {c:Cf}{dst:Option Nat}{op:Op}{R:Rt}{ad aa:Ad}{fr fr':Fr}{st:ISt}{ds:List Dfd}(h:SameAt c op ad aa fr fr'):vcR c dst op R ad fr st ds=vcR c dst op R aa fr' st ds:=by
 obtain⟨hv,J,hb⟩:=h;cases op with
 | move x=>simp only[vcR,hv x (by simp[Op.operands]),J x (by simp[Op.operands])]
 | assign x=>simp only[vcR,hv x (by simp[Op.operands]),J x (by simp[Op.operands])]
 | pick x y z=>simp only[vcR];rw[hv x (by simp[Op.operands]),hv y (by simp[Op.operands]),hv z (by simp[Op.operands])]
 | alloc T=>rfl
 | box T x=>simp only[vcR,hv x (by simp[Op.operands])]
 | build T parts=>simp only[vcR,λcs=>BQ (P:=c.P) (T:=T) (cs:=cs) (l:=parts.toList) (λx E=>hv x (by simpa[Op.operands] using E))]
 | buildSlice T n parts=>simp only[vcR,pB (l:=parts.toList.map (·.2)) (λx E=>hv x (by simpa[Op.operands] using E))]
 | load T x =>
  have G:=hb rfl x (by simp[Op.operands]);simp only[vcR,<- J x (by simp[Op.operands])];cases hp:evA c.gl ad fr x with
  | none=>rfl
  | some p=>simp only[ox,λ(i:Bool×Nat)=>JE (dr:=ldr c.dr c.esc dst) (ag:=i.1) (n:=i.2) (p:=p) (fr:=fr) (fr':=fr') (R:=R) (st:=st) (ds:=ds) (λt off hq=>G t off (by rw[hp,hq]))]
 | store T x y =>
  have G:=hb rfl x (by simp[Op.operands]);simp only[vcR,<- J x (by simp[Op.operands]),<- hv y (by simp[Op.operands])];cases hp:evA c.gl ad fr x with
  | none=>rfl
  | some p=>simp only[ox,λ(i:List IV)=>JG (y:=i) (p:=p) (fr:=fr) (fr':=fr') (R:=R) (st:=st) (ds:=ds) (λt off hq=>G t off (by rw[hp,hq]))]
 | nilCheck x=>simp only[vcR,hv x (by simp[Op.operands]),J x (by simp[Op.operands])]
 | binOp o T x y T'=>simp only[vcR,hv x (by simp[Op.operands]),hv y (by simp[Op.operands])]
 | unOp o T x=>simp only[vcR,hv x (by simp[Op.operands])]
 | convert T T' x=>simp only[vcR,hv x (by simp[Op.operands])]
 | makeFunc f a b=>simp only[vcR,pB (l:=a.toList) (λx E=>hv x (by simp[Op.operands];exact .inl (by simpa using E))),pB (l:=b.toList) (λx E=>hv x (by simp[Op.operands];exact .inr (by simpa using E)))]
 | slice T x lo hi mx=>simp only[vcR,hv x (by simp[Op.operands]),wP (o:=lo) (λy O=>hv y (by simp[Op.operands,O])),wP (o:=hi) (λy O=>hv y (by simp[Op.operands,O])),
   wP (o:=mx) (λy O=>hv y (by simp[Op.operands,O]))]
 | fieldAddr T x i=>simp only[vcR,J x (by simp[Op.operands])]
 | field T x i=>simp only[vcR,hv x (by simp[Op.operands])]
 | indexAddr T x y=>simp only[vcR,hv x (by simp[Op.operands]),J x (by simp[Op.operands]),hv y (by simp[Op.operands])]
 | index T x y=>simp only[vcR,hv x (by simp[Op.operands]),hv y (by simp[Op.operands])]
 | lookup T x y ok=>simp only[vcR,hv x (by simp[Op.operands]),hv y (by simp[Op.operands])]
 | mapUpdate T x y z=>simp only[vcR,hv x (by simp[Op.operands]),hv y (by simp[Op.operands]),hv z (by simp[Op.operands])]
 | extract x i=>simp only[vcR,hv x (by simp[Op.operands])]
 | call cc =>
  obtain⟨f,args,ts⟩:=cc;cases f with
  | value f=>simp only[vcR,hv f (by simp[Op.operands,Call.operands]),pB (l:=args.toList) (λx E=>hv x (by simp[Op.operands,Call.operands];exact .inr (by simpa using E)))]
  | invoke r nm=>rfl
  | builtin b =>
   obtain⟨args⟩:=args;obtain⟨ts⟩:=ts;have D:∀x∈args,evV c.gl fr x=evV c.gl fr' x:=λx E=>hv x (by simp[Op.operands,Call.operands];exact E);cases b with
   | len =>
    match args,ts,D with
    | [x],[T],D=>simp only[vcR,D x (by simp)]
    | [],_,_=>rfl
    | _::_::_,_,_=>rfl
    | [_],[],_=>rfl
    | [_],_::_::_,_=>rfl
   | append =>
    match args,ts,D with
    | [x,y],[T,T'],D=>simp only[vcR,D x (by simp),D y (by simp)]
    | [],_,_=>rfl
    | [_],_,_=>rfl
    | _::_::_::_,_,_=>rfl
    | [_,_],[],_=>rfl
    | [_,_],[_],_=>rfl
    | [_,_],_::_::_::_,_=>rfl
   | cap =>
    match args,ts,D with
    | [x],[T],D=>simp only[vcR,D x (by simp)]
    | [],_,_=>rfl
    | _::_::_,_,_=>rfl
    | [_],[],_=>rfl
    | [_],_::_::_,_=>rfl
   | clear =>
    match args,ts,D with
    | [x],[T],D=>simp only[vcR,D x (by simp)]
    | [],_,_=>rfl
    | _::_::_,_,_=>rfl
    | [_],[],_=>rfl
    | [_],_::_::_,_=>rfl
   | max =>
    match args,D with
    | [x,y],D=>simp only[vcR,D x (by simp),D y (by simp)]
    | [],_=>rfl
    | [_],_=>rfl
    | _::_::_::_,_=>rfl
   | min =>
    match args,D with
    | [x,y],D=>simp only[vcR,D x (by simp),D y (by simp)]
    | [],_=>rfl
    | [_],_=>rfl
    | _::_::_::_,_=>rfl
   | _=>rfl
 | defer cc =>
  obtain⟨f,args,ts⟩:=cc;cases f with
  | value f=>simp only[vcR,hv f (by simp[Op.operands,Call.operands]),pB (l:=args.toList) (λx E=>hv x (by simp[Op.operands,Call.operands];exact .inr (by simpa using E)))]
  | _=>rfl
 | makeMap T r=>cases r<;>rfl
 | insert T x y z=>simp only[vcR,hv x (by simp[Op.operands]),hv y (by simp[Op.operands]),hv z (by simp[Op.operands])]
 | makeSlice T x y=>simp only[vcR,hv x (by simp[Op.operands]),hv y (by simp[Op.operands])]
 | range T x=>simp only[vcR,hv x (by simp[Op.operands])]
 | next x b=>cases b<;>simp only[vcR,hv x (by simp[Op.operands])]
 | entry x=>simp only[vcR,hv x (by simp[Op.operands])]
 | _=>rfl
def fw (c:Cf)(ops:List Oper)(o:Oper)(R:Rt)(ad:Ad)(fr:Fr)(st:ISt)(ds:List Dfd):Prop :=
 match o.guard with
 | none=>vcR c o.dst o.op R ad fr st ds
 | some (j,D)=>match iq ops j with
  | some d=>match fr d with
   | .iv (.raw (.bool b))=>if b=D then vcR c o.dst o.op R ad fr st ds else R (.val (.raw undef)) st ds
   | .iv (.raw (.tuple _))=>R (.val (.raw undef)) st ds
   | _=>False
  | none=>False
def iS (c:Cf)(ops:List Oper)(o:Oper)(K:Kt):Kt:=λad fr st ds=>fw c ops o (finK o.dst K ad fr) ad fr st ds
def vcK (c:Cf)(ops:List Oper):List Oper->Kt->Kt
 | [],K=>K
 | o::l,K=>iS c ops o (vcK c ops l K)
def BR {c:Cf}{ops l D:List Oper}{K:Kt}:vcK c ops (l++D) K=vcK c ops l (vcK c ops D K):=by
 induction l with
 | nil=>rfl
 | cons o l E=>rw[eu,vcK,vcK,E]
def BS {c:Cf}{ops:List Oper}{Q:Fr->ISt->List Dfd->Prop}:∀ {l:List Oper} {ad:Ad} {fr:Fr} {st:ISt} {ds:List Dfd},fW c ops l Q ad fr st ds->vcK c ops l (λ_ fr st ds=>Q fr st ds) ad fr st ds
 | [],_,_,_,_,h=>h
 | o::l,ad,fr,st,ds,h=>by
  have J:∀ad fr st ds,fW c ops l Q ad fr st ds->vcK c ops l (λ_ fr st ds=>Q fr st ds) ad fr st ds:=λ_ _ _ _=>BS;have D:∀pr st ds,finK o.dst (fW c ops l Q) ad fr pr st ds->finK o.dst (vcK c ops l (λ_ fr st ds=>Q fr st ds)) ad fr pr st ds:=by
   intro pr st ds;cases pr<;>cases o.dst<;>simp only[finK]<;>first|exact J _ _ _ _|exact id|(split<;>first|exact id|exact J _ _ _ _)
  unfold fW at h;change fw c ops o (finK o.dst (vcK c ops l (λ_ fr st ds=>Q fr st ds)) ad fr) ad fr st ds;unfold fw;split at h
  ·rename_i G;rw[G];exact pz D h
  ·rename_i j E G;rw[G];simp only[iq];cases hd:(ops[j]?).bind (·.dst) with
   | none=>rw[hd] at h;exact h.elim
   | some d =>
    rw[hd] at h;simp only at h ⊢;cases hs:fr d with
    | box cs=>rw[hs] at h;exact h.elim
    | iv x =>
     cases x with
     | raw v =>
      cases v with
      | bool b =>
       rw[hs,A5 fr d E b _ _ _ _ hs] at h;simp only;split
       ·exact pz D (h.1 ‹_›)
       ·have O:b=!E:=by cases b<;>cases E<;>simp_all
        exact D _ _ _ (h.2 O)
      | tuple t =>
       rw[hs] at h;exact D _ _ _ h
      | _=>rw[hs] at h;exact h.elim
     | _=>rw[hs] at h;exact h.elim
def rj {c:Cf}{ops:List Oper}{o:Oper}{R R':Rt}(h:∀pr st ds,R pr st ds->R' pr st ds){ad:Ad}{fr:Fr}{st:ISt}{ds:List Dfd}:fw c ops o R ad fr st ds->fw c ops o R' ad fr st ds:=by
 unfold fw;split
 ·exact pz h
 ·split
  ·split
   ·split
    ·exact pz h
    ·exact h _ _ _
   ·exact h _ _ _
   ·exact id
  ·exact id
def JI {c:Cf}(E:c.dr=true){ops:List Oper}{o:Oper}{ad:Ad}{fr:Fr}(hp:mf c.esc o.dst o.op=true):Lin (λR st ds=>fw c ops o R ad fr st ds):=by
 cases D:o.guard with
 | none=>simp only[fw,D];exact wO E hp
 | some p =>
  obtain⟨j,G⟩:=p;cases hd:iq ops j with
  | none=>simp only[fw,D,hd];exact eV
  | some d =>
   cases hs:fr d with
   | box cs=>simp only[fw,D,hd,hs];exact eV
   | iv x =>
    cases x with
    | raw v =>
     cases v with
     | bool b=>simp only[fw,D,hd,hs];exact j5 (wO E hp) (fx _)
     | tuple t=>simp only[fw,D,hd,hs];exact fx _
     | _=>simp only[fw,D,hd,hs];exact eV
    | _=>simp only[fw,D,hd,hs];exact eV
def Kept (st st':ISt):Prop:=∀b cs,st b=some (.box cs)->st' b=some (.box cs)
def Kept.refl (st:ISt):Kept st st:=λ_ _ h=>h
def LinS (st:ISt)(F:Rt->ISt->List Dfd->Prop):Prop:=(∃pr,(∀R ds,F R st ds↔R pr st ds)/\∀st',Kept st st'->∀R ds,R pr st' ds->F R st' ds)\/(∀R ds,¬ F R st ds)
def lf {F:Rt->ISt->List Dfd->Prop}(h:Lin F)(st:ISt):LinS st F:=by
 rcases h with⟨pr,h⟩|h
 ·exact .inl ⟨pr,λR ds=>h R st ds,λst' _ R ds D=>(h R st' ds).2 D⟩
 ·exact .inr λR ds=>h R st ds
def JJ {c:Cf}{dst:Option Nat}{T:TypeId}{x:Operand}{ad:Ad}{fr:Fr}(st:ISt):LinS st (λR st ds=>vcR c dst (.load T x) R ad fr st ds):=by
 simp only[vcR];cases tyI c.P T with
 | none=>exact lf eV st
 | some i =>
  cases evA c.gl ad fr x with
  | none=>exact lf eV st
  | some p =>
   simp only[ox];cases p with
   | box t off=>exact lf (BM λ_=>eM λ_=>fx _) st
   | cp y=>exact lf (j5 (fx _) eV) st
   | ptr b off =>
    simp only[jZ];cases hl:ldr c.dr c.esc dst with
    | true=>simp only[dJ];exact lf eV st
    | false =>
     simp only[bFt,dE];cases D:st b with
     | none=>exact .inr λR ds h=>by simp only[D] at h;exact h
     | some o =>
      cases o with
      | box cs =>
       cases hp:gw i.1 i.2 cs off with
       | none=>exact .inr λR ds h=>by simp only[D,ox,obV,hp] at h;exact h
       | some y=>exact .inl ⟨.val y,λR ds=>by simp only[D,ox,obV,hp],λst' G R ds E=>by simp only[G b cs D,ox,obV,hp];exact E⟩
      | _=>exact .inr λR ds h=>by simp only[D,ox,obV] at h
def BU {c:Cf}(D:c.dr=true){dst:Option Nat}{op:Op}{ad:Ad}{fr:Fr}(hp:iy c.esc dst op=true)(st:ISt):LinS st (λR st ds=>vcR c dst op R ad fr st ds):=by
 unfold iy at hp;rw[gL] at hp;rcases hp with hp|hp
 ·exact lf (wO D hp) st
 ·cases op<;>first|exact JJ st|cases hp
def wQ {c:Cf}(G:c.dr=true){ops:List Oper}{o:Oper}{ad:Ad}{fr:Fr}(hp:iy c.esc o.dst o.op=true)(st:ISt):LinS st (λR st ds=>fw c ops o R ad fr st ds):=by
 cases D:o.guard with
 | none=>simp only[fw,D];exact BU G hp st
 | some p =>
  obtain⟨j,E⟩:=p;cases hd:iq ops j with
  | none=>simp only[fw,D,hd];exact lf eV st
  | some d =>
   cases hs:fr d with
   | box cs=>simp only[fw,D,hd,hs];exact lf eV st
   | iv x =>
    cases x with
    | raw v =>
     cases v with
     | bool b =>
      simp only[fw,D,hd,hs];by_cases J:b=E
      ·simp only[cX J];exact BU G hp st
      ·simp only[a_ J];exact lf (fx _) st
     | tuple t=>simp only[fw,D,hd,hs];exact lf (fx _) st
     | _=>simp only[fw,D,hd,hs];exact lf eV st
    | _=>simp only[fw,D,hd,hs];exact lf eV st
def appQ (esc:List Nat)(dst:Option Nat):Op->Bool
 | .call ⟨.builtin .append,⟨[_,_]⟩,⟨[_,_]⟩⟩=>qX esc dst
 | _=>false
def Kept.new {st:ISt}{g:Nat}(E:st g=none)(o:Option IObj):Kept st (st.put g o):=λb cs D=>by
 rw[ISt.put_apply];split
 ·rename_i h;subst h;rw[E] at D;cases D
 ·exact D
def Kept.front {st:ISt}{g₀ g n s:Nat}(h0:st g₀=some (.front n s))(E:g=g₀\/st g=none)(o:Option IObj):Kept st ((st.put g₀ none).put g o):=λb cs D=>by
 have h1:b≠g₀:=by rintro rfl;rw[h0] at D;cases D
 have h2:b≠g:=by
  rintro rfl;rcases E with rfl|E
  ·exact h1 rfl
  ·rw[E] at D;cases D
 rw[ISt.put_apply,a_ h2,ISt.put_apply,a_ h1];exact D
def JK {esc:List Nat}{dst:Option Nat}{e:TypeId×Bool×Nat×Nat}{G:Tag}{xs ys:List IV}{R:Rt}{st:ISt}{ds:List Dfd}(h:appV esc dst e G xs ys R st ds) :
  appV esc dst e G xs ys (λpr st' ds=>R pr st' ds/\Kept st st') st ds:=by
 obtain⟨h1,h2,D⟩:=h;refine⟨h1,h2,?_⟩;cases hc:G.cap with
 | none =>
  rw[hc] at D;cases ys with
  | nil=>exact⟨D,Kept.refl _⟩
  | cons y ys=>exact D.elim
 | nil =>
  rw[hc] at D;cases ys with
  | nil=>exact⟨D,Kept.refl _⟩
  | cons y ys =>
   by_cases O:ic esc dst=true
   ·simp only[cX O] at D ⊢;exact λg cap E=>⟨D g cap E,Kept.new E.1 _⟩
   ·simp only[a_ O] at D ⊢;exact λg E=>⟨D g E,Kept.new E _⟩
 | full =>
  rw[hc] at D;obtain⟨J,D⟩:=D;refine⟨J,?_⟩;cases ys with
  | nil=>exact⟨D,Kept.refl _⟩
  | cons y ys=>exact λg E=>⟨D g E,Kept.new E _⟩
 | app g₀ =>
  rw[hc] at D;obtain⟨J,h5,D⟩:=D;exact⟨J,h5,λg E=>⟨D g E,Kept.front h5 E _⟩⟩
def BV {c:Cf}{dst:Option Nat}{op:Op}{R:Rt}{ad:Ad}{fr:Fr}{st:ISt}{ds:List Dfd}(D:appQ c.esc dst op=true)(h:vcR c dst op R ad fr st ds) :
  vcR c dst op (λpr st' ds=>R pr st' ds/\Kept st st') ad fr st ds:=by
 unfold appQ at D;split at D
 ·simp only[vcR] at h ⊢;refine ir (λe=>?_) h;refine wK ?_ ?_
  ·refine ir λs=>tH (λG xs=>ir λy=>tG λ_ ys h=>JK h) λb off n cap=>ir λy=>tH (λ_ ys h=>?_) (λ_ _ _ _ h=>?_)
   all_goals (unfold qO at h;rw[cX D] at h;exact h.elim)
  ·refine ir λs=>tG λG _=>ir λy=>tE λ_ m h=>?_;obtain⟨h1,h2⟩:=h;exact⟨h1,λg cap E=>⟨h2 g cap E,Kept.new E.1 _⟩⟩
 ·cases D
def JL {c:Cf}{ops:List Oper}{o:Oper}{R:Rt}{ad:Ad}{fr:Fr}{st:ISt}{ds:List Dfd}(E:appQ c.esc o.dst o.op=true)(h:fw c ops o R ad fr st ds) :
  fw c ops o (λpr st' ds=>R pr st' ds/\Kept st st') ad fr st ds:=by
 unfold fw at h ⊢;split at h
 ·exact BV E h
 ·split at h
  ·split at h
   ·split at h
    ·rename_i D;rw[cX D];exact BV E h
    ·rename_i D;rw[a_ D];exact⟨h,Kept.refl _⟩
   ·exact⟨h,Kept.refl _⟩
   ·exact h.elim
  ·exact h.elim
def nI (ops:List Oper)(o:Oper)(fr fr':Fr):Prop:=∀j D d,o.guard=some (j,D)->iq ops j=some d->fr d=fr' d\/(∃cs cs',fr d=.box cs/\fr' d=.box cs')
def pC {c:Cf}{ops:List Oper}{o:Oper}{R:Rt}{ad E:Ad}{fr fr':Fr}{st:ISt}{ds:List Dfd}(h:SameAt c o.op ad E fr fr')(J:nI ops o fr fr'):fw c ops o R ad fr st ds=fw c ops o R E fr' st ds:=by
 unfold fw;rw[JH h];cases G:o.guard with
 | none=>rfl
 | some p =>
  obtain⟨j,D⟩:=p;cases hd:iq ops j with
  | none=>simp only[hd]
  | some d =>
   simp only[hd];rcases J j D d G hd with O|⟨cs,cs',h1,h2⟩
   ·rw[O]
   ·rw[h1,h2]
structure Fine (c:Cf)(op:Op)(ad:Ad)(fr:Fr)(pr:PR):Prop where
 isA:∀t off,pr=.adr t off->c.dr=true->pA op=true
 adr:∀t off,pr=.adr t off->∃x∈op.operands,∃off',evA c.gl ad fr x=some (.box t off')
 sto:∀t cs,pr=.sto t cs->mg op=true/\(∃cs0,fr t=.box cs0)/\∃x∈op.operands,∃off',evA c.gl ad fr x=some (.box t off')
 stoA:∀t cs,pr=.sto t cs->∀T a v,op=.store T a v->∃off',evA c.gl ad fr a=some (.box t off')
def jP {c:Cf}{op:Op}{ad:Ad}{fr:Fr}{x:IV}:Fine c op ad fr (.val x):=⟨(λ_ _ h=>by cases h),(λ_ _ h=>by cases h),(λ_ _ h=>by cases h),(λ_ _ h=>by cases h)⟩
def JM {c:Cf}{op:Op}{ad:Ad}{fr:Fr}{x:List IV}:Fine c op ad fr (.box x):=⟨(λ_ _ h=>by cases h),(λ_ _ h=>by cases h),(λ_ _ h=>by cases h),(λ_ _ h=>by cases h)⟩
def BW {c:Cf}{op:Op}{ad:Ad}{fr:Fr}:Fine c op ad fr .nop:=⟨(λ_ _ h=>by cases h),(λ_ _ h=>by cases h),(λ_ _ h=>by cases h),(λ_ _ h=>by cases h)⟩
def wR {c:Cf}{op:Op}{R:Rt}{ad:Ad}{fr:Fr}{st:ISt}{ds:List Dfd}{x:Operand}{p:Pl}(D:¬ c.dr=true)(G:x∈op.operands)(hp:evA c.gl ad fr x=some p):plR p R st ds->plR p (λpr st ds=>R pr st ds/\Fine c op ad fr pr) st ds:=by
 cases p with
 | box t off=>exact λh=>⟨h,⟨(λ_ _ _ h0=>(D h0).elim),λO E J=>by cases J;exact⟨x,G,off,hp⟩,(λ_ _ h=>by cases h),(λ_ _ h=>by cases h)⟩⟩
 | ptr b off=>exact λh=>⟨h,jP⟩
 | cp y=>exact λh=>⟨h,jP⟩
def BX {c:Cf}{op:Op}{R:Rt}{ad:Ad}{fr:Fr}{st:ISt}{ds:List Dfd}{x:Operand}(D:x∈op.operands)(o:Option IV) :
  kJ c.dr o (evA c.gl ad fr x) R st ds->kJ c.dr o (evA c.gl ad fr x) (λpr st ds=>R pr st ds/\Fine c op ad fr pr) st ds:=by
 unfold kJ;split
 ·exact λh=>⟨h,jP⟩
 ·split
  ·exact id
  ·intro h;obtain⟨p,hp,h⟩:=yQ2.1 h;exact yQ2.2 ⟨p,hp,wR ‹_› D hp h⟩
set_option maxHeartbeats 1000000 in
def BY {c:Cf}{dst:Option Nat}{op:Op}{R:Rt}{ad:Ad}{fr:Fr}{st:ISt}{ds:List Dfd}:vcR c dst op R ad fr st ds->vcR c dst op (λpr st ds=>R pr st ds/\Fine c op ad fr pr) ad fr st ds:=by
 by_cases h1:∃x,op=.move x\/op=.assign x
 ·obtain⟨x,rfl|rfl⟩:=h1
  ·exact BX (by simp[Op.operands]) _
  ·exact BX (by simp[Op.operands]) _
 by_cases h2:∃x,op=.nilCheck x
 ·obtain⟨x,rfl⟩:=h2;simp only[vcR,nilV];split
  ·exact j4 (λh=>⟨h,jP⟩) id
  ·exact λh=>⟨h,jP⟩
  ·split
   ·exact λh=>⟨h,jP⟩
   ·intro h;obtain⟨p,hp,h⟩:=yQ2.1 h;exact yQ2.2 ⟨p,hp,wR ‹_› (by simp[Op.operands]) hp h⟩
  ·split
   ·exact id
   ·intro h;obtain⟨p,hp,h⟩:=yQ2.1 h;exact yQ2.2 ⟨p,hp,wR ‹_› (by simp[Op.operands]) hp h⟩
 by_cases h3:∃T x i,op=.fieldAddr T x i
 ·obtain⟨T,x,i,rfl⟩:=h3;simp only[vcR];refine ir λf=>λh=>?_;obtain⟨p,hp,h⟩:=yQ2.1 h;refine yQ2.2 ⟨p,hp,?_⟩;cases p with
  | box t off=>exact⟨h,⟨(λ_ _ _ _=>rfl),λG E D=>by cases D;exact⟨x,by simp[Op.operands],off,hp⟩,(λ_ _ h=>by cases h),(λ_ _ h=>by cases h)⟩⟩
  | ptr b off=>exact⟨h,jP⟩
  | cp y=>exact tI (λ_=>ir λ_=>j4 (λh=>⟨h,jP⟩) id) h
 by_cases h4:∃T x y,op=.indexAddr T x y
 ·obtain⟨T,x,y,rfl⟩:=h4;simp only[vcR];refine ir λ_=>tE λ_ j=>ir λk=>?_;cases k with
  | sl=>exact ir λ_=>ir λ_=>wJ (λ_ _=>j4 (j4 (ir λ_=>λh=>⟨h,jP⟩) id) id) (λ_ _ _=>j4 (λh=>⟨h,jP⟩) id)
  | arr n =>
   refine ir λ_=>λh=>?_;obtain⟨p,hp,h⟩:=yQ2.1 h;refine yQ2.2 ⟨p,hp,j4 (j4 ?_ id) id h⟩;cases p with
   | box t off=>exact λh=>⟨h,⟨(λ_ _ _ _=>rfl),λG E D=>by cases D;exact⟨x,by simp[Op.operands],off,hp⟩,(λ_ _ h=>by cases h),(λ_ _ h=>by cases h)⟩⟩
   | ptr b off=>exact λh=>⟨h,jP⟩
   | cp y=>exact tI (λ_=>ir λ_=>j4 (λh=>⟨h,jP⟩) id)
  | str=>exact id
  | map=>exact id
 by_cases h5:∃T x y,op=.store T x y
 ·obtain⟨T,x,y,rfl⟩:=h5;simp only[vcR];refine ir λ_=>ir λ_=>wF λh=>?_;obtain⟨p,hp,h⟩:=yQ2.1 h;refine yQ2.2 ⟨p,hp,?_⟩;revert h;cases p with
  | box t off =>
   simp only[lG];cases hf:fr t with
   | box cs=>exact j4 (λh=>⟨h,⟨(λ_ _ h=>by cases h),(λ_ _ h=>by cases h),(λG cs' D=>by cases D;exact⟨rfl,⟨cs,hf⟩,x,by simp[Op.operands],off,hp⟩),λG cs' D T' a' v' ho=>by cases D;cases ho;exact⟨off,hp⟩⟩⟩) id
   | iv x=>exact id
  | ptr b off=>exact ir λ_=>wH λ_=>j4 (λh=>⟨h,BW⟩) id
  | cp y=>exact id
 have hv:∀x st ds,R (.val x) st ds->R (.val x) st ds/\Fine c op ad fr (.val x):=λx st ds h=>⟨h,jP⟩
 have O:∀x st ds,R (.box x) st ds->R (.box x) st ds/\Fine c op ad fr (.box x):=λx st ds h=>⟨h,JM⟩
 have J:∀st ds,R .nop st ds->R .nop st ds/\Fine c op ad fr .nop:=λst ds h=>⟨h,BW⟩
 generalize Fine c op ad fr=F at hv O J ⊢;unfold vcR;split
 all_goals first
  | exact absurd ⟨_,.inl rfl⟩ h1|exact absurd ⟨_,.inr rfl⟩ h1|exact absurd ⟨_,rfl⟩ h2|exact absurd ⟨_,_,_,rfl⟩ h3|exact absurd ⟨_,_,_,rfl⟩ h4|exact absurd ⟨_,_,_,rfl⟩ h5
  | repeat (first
   | exact hv _ _ _|exact O _ _ _|exact J _ _|exact id
   | refine ir λ_=>?_|refine wF ?_|refine Bx ?_|refine By ?_|refine Bz λ_=>?_|refine wG ?_ ?_|refine BA ?_ ?_|refine j4 ?_ ?_
   | refine BB λ_=>?_|refine wH λ_=>?_|refine BC λ_ _=>?_|refine tE λ_ _=>?_|refine wI λ_=>?_|refine tG λ_ _=>?_|refine wJ (λ_ _=>?_) (λ_ _ _=>?_)|refine tH (λ_ _=>?_) (λ_ _ _ _=>?_)|refine wK ?_ ?_
   | refine tI λ_=>?_|refine BD λ_=>?_|refine wL λ_ _ _=>?_|refine BE λ_=>?_|refine BK λ_=>?_|refine BF λ_=>?_|refine BG λ_=>?_|refine BH λ_ _ _ _=>?_|refine BI λ_ _=>?_|refine BJ ?_ (λ_ _=>?_)
   | (refine λhh=>callV.mono hh λ_ _=>?_;unfold lH)
   | unfold mE|unfold k_|unfold mF|unfold jZ|unfold kM|unfold arrV|unfold nC|unfold pk|unfold nD|unfold s7|unfold s8|unfold s9|unfold lenV|unfold appV|unfold qO|unfold appO|unfold appR|unfold appZ|unfold capV|unfold ph|unfold oA|unfold mG
   | split)
def j6 (ad:Ad)(d:Nat):Prop:=∀x t off,ad x=some (t,off)->t≠d
def JN {ad:Ad}{d:Nat}(h:j6 ad d)(s:Nat):Ad.keep d (ad s)=ad s:=by
 cases D:ad s with
 | none=>rfl
 | some p =>
  obtain⟨t,off⟩:=p;simp only[Ad.keep,a_ (h s t off D)]
def wT {c:Cf}{ad:Ad}{fr:Fr}{x:Operand}{t off d:Nat}(h:evA c.gl ad fr x=some (.box t off))(hb:j6 ad d)(O:x≠.tmp d):t≠d:=by
 cases x with
 | tmp y =>
  simp only[evA] at h;cases E:ad y with
  | some p =>
   obtain⟨J,D⟩:=p;rw[E] at h;simp only[plAd,dI,Pl.box.injEq] at h;exact h.1▸hb y J D E
  | none =>
   rw[E] at h;simp only[plAd] at h;cases G:fr y with
   | box cs =>
    rw[G] at h;simp only[plOf,dI,Pl.box.injEq] at h;rintro rfl;exact O (by rw[h.1])
   | iv z =>
    rw[G] at h;exfalso;cases z with
    | raw u =>
     cases u with
     | pointer p =>
      cases p with
      | none=>cases h
      | some p =>
       obtain⟨pb,po,ps⟩:=p;cases ps<;>cases h
     | _=>cases h
    | _=>cases h
 | global g=>simp only[evA] at h;cases hg:c.gl g<;>rw[hg] at h<;>cases h
 | const v=>cases h
 | func f=>cases h
def JO {c:Cf}{op:Op}{ad:Ad}{fr:Fr}{d:Nat}{a:Option (Nat×Nat)}{s:SV}(hd:∀x∈op.operands,x≠.tmp d)(G:j6 ad d):SameAt c op ad (ad.put d a) fr (fr.put d s):=by
 refine⟨λx D=>?_,λx D=>?_,λ_ x D t off J=>?_⟩
 ·cases x with
  | tmp y=>rw[pe,pe,Fr.put_apply,a_ (λh=>hd _ D (by rw[h]))]
  | _=>rfl
 ·cases x with
  | tmp y =>
   have E:y≠d:=λh=>hd _ D (by rw[h]);simp only[evA,Ad.put_apply,a_ E,JN G];cases ad y with
   | none=>simp only[plAd,Fr.put_apply,a_ E]
   | some p=>rfl
  | _=>rfl
 ·rw[Fr.put_apply,a_ (wT J G (hd x D))]
def JP {c:Cf}{op:Op}{ad:Ad}{fr:Fr}{t:Nat}{cs cs':List IV}(ht:fr t=.box cs)(h:(nH op || mg op)=false):SameAt c op ad ad fr (fr.put t (.box cs')):=by
 refine⟨λx _=>?_,λx _=>?_,λE=>by rw[h] at E;cases E⟩
 ·cases x with
  | tmp y =>
   rw[pe,pe,Fr.put_apply];split
   ·rename_i D;rw[D,ht];rfl
   ·rfl
  | _=>rfl
 ·cases x with
  | tmp y =>
   simp only[evA];cases ad y with
   | none =>
    simp only[plAd,Fr.put_apply];split
    ·rename_i D;rw[D,ht];rfl
    ·rfl
   | some p=>rfl
  | _=>rfl
def JQ {ops:List Oper}{o:Oper}{fr:Fr}{d:Nat}{s:SV}(h:d ∉ looks ops o):nI ops o fr (fr.put d s):=by
 intro j D e E G;refine .inl ?_;rw[Fr.put_apply,a_];rintro rfl;exact h (fV _ (by rw[E];simp[G]))
def BZ {ops:List Oper}{o:Oper}{fr:Fr}{t:Nat}{cs cs':List IV}(ht:fr t=.box cs):nI ops o fr (fr.put t (.box cs')):=by
 intro j E e _ _;rw[Fr.put_apply];by_cases D:e=t
 ·rw[cX D,D];exact .inr ⟨cs,cs',ht,rfl⟩
 ·rw[a_ D];exact .inl rfl
def rk {ops:List Oper}{o:Oper}{d:Nat}(h:d ∉ looks ops o):∀x∈o.op.operands,x≠.tmp d:=by
 rintro x D rfl;exact h (gg _ (List.mem_filterMap.2 ⟨.tmp d,by simpa using D,rfl⟩))
def after (dst:Option Nat)(pr:PR)(ad:Ad)(fr:Fr):Option (Ad×Fr) :=
 match pr,dst with
 | .val x,some d=>some (ad.put d none,fr.put d x)
 | .val _,none=>some (ad,fr)
 | .adr t off,some d=>if d=t then none else some (ad.put d (some (t,off)),fr.put d (.iv .junk))
 | .adr _ _,none=>some (ad,fr)
 | .box cs,some d=>some (ad.put d none,fr.put d (.box cs))
 | .box _,none=>none
 | .sto _ _,some _=>none
 | .sto t cs,none=>some (ad,fr.put t (.box cs))
 | .nop,some _=>none
 | .nop,none=>some (ad,fr)
def yZg {dst:Option Nat}{K:Kt}{ad:Ad}{fr:Fr}{pr:PR}{st:ISt}{ds:List Dfd}:finK dst K ad fr pr st ds↔∃p,after dst pr ad fr=some p/\K p.1 p.2 st ds:=by
 cases pr<;>cases dst<;>simp only[finK,after,dI,exists_eq_left',reduceCtorEq,false_and,exists_false];split<;>simp
def pD {c:Cf}{ops:List Oper}{o:Oper}{R:Rt}{ad:Ad}{fr:Fr}{st:ISt}{ds:List Dfd}(h:fw c ops o R ad fr st ds):fw c ops o (λpr st ds=>R pr st ds/\Fine c o.op ad fr pr) ad fr st ds:=by
 unfold fw at *;split
 ·exact BY (by simpa[*] using h)
 ·rename_i j E G;rw[G] at h;simp only at h;split at h
  ·rename_i d hd;cases hs:fr d with
   | box cs=>rw[hs] at h;exact h.elim
   | iv x =>
    cases x with
    | raw v =>
     cases v with
     | bool b =>
      rw[hs] at h;simp only at h ⊢;split
      ·rename_i D;rw[cX D] at h;exact BY h
      ·rename_i D;rw[a_ D] at h;exact⟨h,jP⟩
     | tuple t=>rw[hs] at h;exact⟨h,jP⟩
     | _=>rw[hs] at h;exact h.elim
    | _=>rw[hs] at h;exact h.elim
  ·exact h.elim
structure Ap (c:Cf)(ops:List Oper)(x y:Oper):Prop where
 pure:iy c.esc x.dst x.op=true\/iy c.esc y.dst y.op=true
 ls:nH x.op=true->mg y.op=true->stOk ops y x=true
 sl:mg x.op=true->nH y.op=true->stOk ops x y=true
 d:∀d,x.dst=some d->d ∉ looks ops y/\y.dst≠some d
 e:∀d,y.dst=some d->d ∉ looks ops x
def Ap.symm {c:Cf}{ops:List Oper}{x y:Oper}(h:Ap c ops x y):Ap c ops y x :=
 ⟨h.pure.symm,λa b=>h.sl b a,λa b=>h.ls b a,λd hd=>⟨h.e d hd,λD=>(h.d d D).2 hd⟩,λd hd=>(h.d d hd).1⟩
def JR {esc:List Nat}{dst:Option Nat}{op:Op}(h:mf esc dst op=true):mg op=false:=by
 cases op<;>first|rfl|simp[mf] at h
def tN {esc:List Nat}{dst:Option Nat}{op:Op}(h:iy esc dst op=true):mg op=false:=by
 unfold iy at h;rw[gL] at h;rcases h with h|h
 ·exact JR h
 ·cases op<;>first|rfl|cases h
def JS {c:Cf}{ops:List Oper}{x y:Oper}(h:wM c.esc ops x y=true):Ap c ops x y:=by
 unfold wM at h;simp only[bAt,gL,mc,Bool.and_eq_false_iff] at h;obtain⟨⟨⟨⟨h1,h2⟩,E⟩,D⟩,G⟩:=h;refine⟨h1,λa b=>by rcases h2 with h2|h2<;>simp_all,λa b=>by rcases E with E|E<;>simp_all,λd hd=>?_,λd hd=>?_⟩
 ·rw[hd] at D;simp only[bAt,mc] at D;exact⟨by simpa using D.1,by simpa using D.2⟩
 ·rw[hd] at G;simpa using G
def Safe (ops:List Oper)(ad:Ad):Prop:=∀e,tJ ops e=true->j6 ad e/\ad e=none
def JT (ops:List Oper):Safe ops Ad.none_:=λ_ _=>⟨λ_ _ _ h=>(by cases h),rfl⟩
def B1 {ops:List Oper}{e:Nat}(h:tJ ops e=true){o:Oper}(D:o∈ops)(E:pA o.op=true):e ∉ looks ops o/\o.dst≠some e:=by
 unfold tJ at h;have:=eF.1 h o D;rw[E] at this;simp only[ly,Bool.false_or,bAt,mc] at this;exact⟨by simpa using this.1,by simpa using this.2⟩
def pE {c:Cf}{ops:List Oper}{x y:Oper}(h:Ap c ops x y){ad:Ad}(ag:Safe ops ad){fr:Fr}{pr:PR}{p:Ad×Fr}(hb:∀d,x.dst=some d->j6 ad d)(hf:Fine c x.op ad fr pr)(G:after x.dst pr ad fr=some p) :
  SameAt c y.op ad p.1 fr p.2/\nI ops y fr p.2:=by
 have refl:SameAt c y.op ad ad fr fr/\nI ops y fr fr:=⟨⟨λ_ _=>rfl,λ_ _=>rfl,λ_ _ _ _ _ _=>rfl⟩,λ_ _ _ _ _=>.inl rfl⟩
 cases J:x.dst with
 | none =>
  rw[J] at G;cases pr with
  | sto t cs =>
   simp only[after,dI] at G;subst G;obtain⟨hs,⟨ao,ht⟩,_⟩:=hf.sto t cs rfl;have hst:mg y.op=false:=by
    rcases h.pure with hp|hp
    ·rw[tN hp] at hs;cases hs
    ·exact tN hp
   cases hl:nH y.op with
   | false=>exact⟨JP ht (by rw[hl,hst];rfl),BZ ht⟩
   | true =>
    have E:=h.sl hs hl;unfold stOk at E;split at E
    ·rename_i T e v ae;rw[bAt] at E;obtain⟨ai,O⟩:=ag e E.1;have ab:e ∉ looks ops y:=by simpa using E.2
     obtain⟨off,D⟩:=hf.stoA t cs rfl T _ v ae;have af:t=e:=by
      simp only[evA,O,plAd] at D;cases ac:fr e with
      | box an=>rw[ac] at D;simp only[plOf,dI,Pl.box.injEq] at D;exact D.1.symm
      | iv x1 =>
       rw[ac] at D;unfold plOf at D;split at D<;>first|(cases D;done)|(cases D;rfl)
     subst af;show SameAt c y.op ad ad fr (fr.put t (.box cs))/\nI ops y fr (fr.put t (.box cs));refine⟨⟨λx J=>?_,λx J=>?_,λ_ x J t2 ak aj=>?_⟩,BZ ht⟩
     ·have aa:=rk ab x J;cases x with
      | tmp q =>
       rw[pe,pe,Fr.put_apply,a_ λhq=>aa (by rw[hq])]
      | _=>rfl
     ·have aa:=rk ab x J;cases x with
      | tmp q =>
       simp only[evA];cases ad q with
       | none=>simp only[plAd];rw[Fr.put_apply,a_ λhq=>aa (by rw[hq])]
       | some p=>rfl
      | _=>rfl
     ·rw[Fr.put_apply,a_ (wT aj ai (rk ab x J))]
    ·cases E
  | _=>simp only[after,dI,reduceCtorEq] at G<;>subst G<;>exact refl
 | some d =>
  rw[J] at G;have hd:=h.d d J;have key:∀a s,SameAt c y.op ad (ad.put d a) fr (fr.put d s)/\nI ops y fr (fr.put d s):=λa s=>⟨JO (rk hd.1) (hb d J),JQ hd.1⟩
  cases pr with
  | adr t off =>
   simp only[after] at G;split at G
   ·cases G
   ·cases G;exact key _ _
  | _=>simp only[after,dI,reduceCtorEq] at G<;>subst G<;>exact key _ _
def tO {fr:Fr}{d e:Nat}{s t:SV}(h:d≠e):(fr.put d s).put e t=(fr.put e t).put d s:=by
 funext x;simp only[Fr.put_apply];by_cases h1:x=e
 ·rw[cX h1,a_ (λh2=>h (by rw[<- h2,h1])),cX h1]
 ·rw[a_ h1,a_ h1]
def JU {d e:Nat}(o:Option (Nat×Nat)):Ad.keep d (Ad.keep e o)=Ad.keep e (Ad.keep d o):=by
 cases o with
 | none=>rfl
 | some p =>
  obtain⟨t,off⟩:=p;by_cases h1:t=e
  ·by_cases h2:t=d
   ·simp only[Ad.keep,cX h1,cX h2]
   ·simp only[Ad.keep,cX h1,a_ h2]
  ·by_cases h2:t=d
   ·simp only[Ad.keep,a_ h1,cX h2]
   ·simp only[Ad.keep,a_ h1,a_ h2]
def JV {ad:Ad}{d e:Nat}{a b:Option (Nat×Nat)}(h:d≠e)(E:Ad.keep e a=a)(D:Ad.keep d b=b):(ad.put d a).put e b=(ad.put e b).put d a:=by
 funext x;simp only[Ad.put_apply];by_cases h1:x=e
 ·have h2:x≠d:=λh2=>h (by rw[<- h2,h1]);rw[cX h1,a_ h2,cX h1,D]
 ·by_cases h2:x=d
  ·rw[a_ h1,cX h2,cX h2,E]
  ·rw[a_ h1,a_ h2,a_ h2,a_ h1,JU]
def rm {c:Cf}{ops:List Oper}{y:Oper}{d:Nat}{ad:Ad}{fr:Fr}(hd:d ∉ looks ops y)(J:j6 ad d){t:Nat}(h:∃x∈y.op.operands,∃D,evA c.gl ad fr x=some (.box t D)):t≠d:=by
 obtain⟨x,E,D,G⟩:=h;exact wT G J (rk hd x E)
def rn {d:Nat}{pr:PR}{ad:Ad}{fr:Fr}{p:Ad×Fr}(h:after (some d) pr ad fr=some p):∃a s,p=(ad.put d a,fr.put d s)/\(∀D fr',after (some d) pr D fr'=some (D.put d a,fr'.put d s)) /\
  (a=none\/∃t off,pr=.adr t off/\a=some (t,off)):=by
 cases pr with
 | val x=>cases h;exact⟨_,_,rfl,λ_ _=>rfl,.inl rfl⟩
 | box x=>cases h;exact⟨_,_,rfl,λ_ _=>rfl,.inl rfl⟩
 | adr t off =>
  simp only[after] at h;split at h
  ·cases h
  ·rename_i E;cases h;exact⟨_,_,rfl,λ_ _=>a_ E,.inr ⟨t,off,rfl,rfl⟩⟩
 | sto t cs=>cases h
 | nop=>cases h
def wU {c:Cf}{ops:List Oper}{x y:Oper}(h:Ap c ops x y){ad:Ad}{fr:Fr}{J G:PR}{p q:Ad×Fr}(ai:∀d,x.dst=some d->j6 ad d)(ah:∀d,y.dst=some d->j6 ad d)
  (ab:Fine c x.op ad fr J) (aa:Fine c y.op ad fr G) (hp:after x.dst J ad fr=some p) (D:after y.dst G ad fr=some q) :
  ∃r,after y.dst G p.1 p.2=some r/\after x.dst J q.1 q.2=some r:=by
 have aq:∀d t off,x.dst=some d->G=.adr t off->Ad.keep d (some (t,off))=some (t,off):=λd t off hd he=>by
  simp only[Ad.keep,a_ (rm (h.d d hd).1 (ai d hd) (aa.adr t off he))]
 have ao:∀d t off,y.dst=some d->J=.adr t off->Ad.keep d (some (t,off))=some (t,off):=λd t off hd he=>by
  simp only[Ad.keep,a_ (rm (h.e d hd) (ah d hd) (ab.adr t off he))]
 have al:∀d t cs,x.dst=some d->G=.sto t cs->t≠d:=λd t cs hd he=>rm (h.d d hd).1 (ai d hd) (aa.sto t cs he).2.2;have ak:∀d t cs,y.dst=some d->J=.sto t cs->t≠d:=λd t cs hd he=>rm (h.e d hd) (ah d hd) (ab.sto t cs he).2.2;have am:∀t cs t' cs',J=.sto t cs->G=.sto t' cs'->False:=λt cs t' cs' h1 h2=>by
  have a:=(ab.sto t cs h1).1;have b:=(aa.sto t' cs' h2).1;rcases h.pure with D|D
  ·rw[tN D] at a;cases a
  ·rw[tN D] at b;cases b
 cases hx:x.dst with
 | none =>
  cases O:y.dst with
  | none =>
   rw[hx] at hp;rw[O] at D;cases J<;>cases G<;>simp only[after,dI,reduceCtorEq] at hp D<;>subst hp D<;>first|exact⟨_,rfl,rfl⟩|exact (am _ _ _ _ rfl rfl).elim
  | some e =>
   rw[hx] at hp;rw[O] at D;cases J with
   | sto t cs =>
    have ht:=ak e t cs O rfl;simp only[after,dI] at hp;subst hp;cases G with
    | adr t' off =>
     simp only[after] at D;split at D
     ·cases D
     ·rename_i an;cases D;exact⟨_,a_ an,by simp only[after];rw[tO (λh=>ht h.symm)]⟩
    | _=>simp only[after,dI,reduceCtorEq] at D<;>subst D<;>exact⟨_,rfl,by simp only[after];rw[tO (λh=>ht h.symm)]⟩
   | _=>simp only[after,dI,reduceCtorEq] at hp<;>subst hp<;>exact⟨_,D,rfl⟩
 | some d =>
  rw[hx] at hp;obtain⟨a,s,rfl,E,ha⟩:=rn hp;cases O:y.dst with
  | none =>
   rw[O] at D;cases G with
   | sto t cs =>
    have ht:=al d t cs hx rfl;cases D;exact⟨_,rfl,by rw[E,tO ht]⟩
   | box cs=>cases D
   | _=>cases D;exact⟨_,rfl,E _ _⟩
  | some e =>
   rw[O] at D;obtain⟨b,s',rfl,ae,hb⟩:=rn D;have ag:d≠e:=λh0=>(h.d d hx).2 (by rw[O,h0]);have av:Ad.keep e a=a:=by
    rcases ha with rfl|⟨t,off,h1,rfl⟩
    ·rfl
    ·exact ao e t off O h1
   have au:Ad.keep d b=b:=by
    rcases hb with rfl|⟨t,off,h1,rfl⟩
    ·rfl
    ·exact aq d t off hx h1
   exact⟨_,ae _ _,by rw[E,tO ag,JV ag av au]⟩
