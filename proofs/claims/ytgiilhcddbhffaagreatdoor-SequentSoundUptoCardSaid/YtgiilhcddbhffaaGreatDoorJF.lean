/- The layer of ideal values, part O: regio -/
import Derived.Test.YtgiilhcddbhffaaGreatDoorJE
set_option linter.all false
namespace Go.Iv
open Go
section
variable {α:Type}{p q p' q':Prop}
theorem yZ2 {o:Option α}{f g:α→Prop}(h:∀ x,f x→g x):yQ4 o f→yQ4 o g:=by
 cases o<;>simp only[yQ4]<;>first | exact h _ | exact id
theorem xXa {c:Prop}(h:p→q):chk c p→chk c q:=fun x=>⟨x.1,h x.2⟩
theorem wQk {c:Prop}(h:p→q):giv c p→giv c q:=fun x y=>h (x y)
theorem wQl {c:Prop}(h:p→q):(c→p)→(c→q):=fun x y=>h (x y)
theorem wQm {f g:α→Prop}(h:∀ x,f x→g x):(∀ x,f x)→(∀ x,g x):=fun hf x=>h x (hf x)
theorem zJ9 {b:Bool}{k:Lock p}{l:Lock q}{k':Lock p'}{l':Lock q'}(h:p→p')(h':q→q'):yGe b p q k l→yGe b p' q' k' l':=fun x=>⟨fun hb=>h (x.1 hb),fun hb=>h' (x.2 hb)⟩
theorem yJr {c:Prop} [Decidable c](h:p→p')(h':q→q'):(if c then p else q)→(if c then p' else q'):=by split<;>assumption
theorem xKs {s:SV}{f g:List IV→Prop}(h:∀ x,f x→g x):boxV s f→boxV s g:=by unfold boxV; split<;>first | exact h _ | exact id
theorem xX8 {s:IObj}{f g:List IV→Prop}(h:∀ x,f x→g x):obV s f→obV s g:=by unfold obV; split<;>first | exact h _ | exact id
theorem wQg {s:IObj}{f g:KeyK→List (Value×IV)→Prop}(h:∀ x y,f x y→g x y):omV s f→omV s g:=by unfold omV; split<;>first | exact h _ _ | exact id
theorem zZp {s:IV}{f g:IntKind→Int→Prop}(h:∀ x y,f x y→g x y):intV s f→intV s g:=by unfold intV; split<;>first | exact h _ _ | exact id
theorem zJa {s:IV}{f g:Bool→Prop}(h:∀ x,f x→g x):zZd s f→zZd s g:=by unfold zZd; split<;>first | exact h _ | exact id
theorem zJ8 {s:IV}{f g:Tag→List IV→Prop}(h:∀ x y,f x y→g x y):slV s f→slV s g:=by unfold slV; split<;>first | exact h _ _ | exact id
theorem xX7 {s:IV}{f f':Tag→List IV→Prop}{g g':Nat→Nat→Nat→Prop}(h:∀ x y,f x y→f' x y)(h':∀ x y z,g x y z→g' x y z):slX s f g→slX s f' g':=by unfold slX; split<;>first | exact h _ _ | exact h' _ _ _ | exact id
theorem xX6 {s:IV}{f f':Tag→List IV→Prop}{g g':Nat→Nat→Nat→Nat→Prop}(h:∀ x y,f x y→f' x y)(h':∀ x y z u,g x y z u→g' x y z u):slY s f g→slY s f' g':=by unfold slY; split<;>first | exact h _ _ | exact h' _ _ _ _ | exact id
theorem zYc {k:Option LenK}{i:Option IntKind}{f f' g g':Prop}(h:f→f')(h':g→g'):appK k i f g→appK k i f' g':=by unfold appK; split<;>first | exact h | exact h' | exact id
theorem zZq {s:IV}{f g:List IV→Prop}(h:∀ x,f x→g x):aggV s f→aggV s g:=by unfold aggV; split<;>first | exact h _ | exact id
theorem xKo {s:IV}{f g:List IV→Prop}(h:∀ x,f x→g x):tupV s f→tupV s g:=by unfold tupV; split<;>first | exact h _ | exact id
theorem xX9 {s:IV}{f g:Fn→List IV→List IV→Prop}(h:∀ x y z,f x y z→g x y z):fnV s f→fnV s g:=by unfold fnV; split<;>first | exact h _ _ _ | exact id
theorem xKq {s:IV}{f g:Option Nat→Prop}(h:∀ x,f x→g x):mapV s f→mapV s g:=by unfold mapV; split<;>first | exact h _ | exact id
theorem xKr {s:IV}{f g:Value→Prop}(h:∀ x,f x→g x):keyV s f→keyV s g:=by unfold keyV; split<;>first | exact h _ | exact fun k hs=>h _ (k hs) | exact id
theorem xKt {s:IV}{f g:Nat→Prop}(h:∀ x,f x→g x):adrV s f→adrV s g:=by unfold adrV; split<;>first | exact h _ | exact id
theorem wQj {s:IObj}{f g:Nat→Nat→Array Nat→Nat→Prop}(h:∀ x y z u,f x y z u→g x y z u):itO s f→itO s g:=by unfold itO; split<;>first | exact h _ _ _ _ | exact id
theorem wQi {s:IObj}{f g:Array MapEntry→Nat→Prop}(h:∀ x y,f x y→g x y):mxO s f→mxO s g:=by unfold mxO; split<;>first | exact h _ _ | exact id
theorem wQh {e:Array MapEntry}{n:Array Nat}{p p':Prop}{q q':MapEntry→IV→Prop}{k:Lock p}{l:Lock q}{k':Lock p'}{l':Lock q'}(h:p→p')(h':∀ x y,q x y→q' x y):nxR e n p q k l→nxR e n p' q' k' l':=fun x=>⟨fun y=>h (x.1 y),fun a b c d=>h' _ _ (x.2 a b c d)⟩
theorem xKp {s:IV}{f g:Value→Prop}(h:∀ x,f x→g x):rawV s f→rawV s g:=by unfold rawV; split<;>first | exact h _ | exact id
end
section
variable {R R':Rt}(h:∀ pr st ds,R pr st ds→R' pr st ds)
include h
set_option maxHeartbeats 1000000 in
theorem yYq {c:Cf}{dst:Option Nat}{op:Op}{ad:Ad}{fr:Fr}{st:ISt}{ds:List Dfd}:vcR c dst op R ad fr st ds→vcR c dst op R' ad fr st ds:=by
 unfold vcR
 split
 all_goals try unfold zQb
 all_goals try unfold nilV
 all_goals repeat (first
  | exact h _ _ _ | exact id
  | refine yZ2 fun _=>?_ | refine xXa ?_ | refine wQk ?_ | refine wQl ?_ | refine wQm fun _=>?_ | refine zJ9 ?_ ?_ | refine yJr ?_ ?_
  | refine xKs fun _=>?_ | refine xX8 fun _=>?_ | refine wQg fun _ _=>?_ | refine zZp fun _ _=>?_ | refine zJa fun _=>?_ | refine zJ8 fun _ _=>?_ | refine xX7 (fun _ _=>?_) (fun _ _ _=>?_) | refine xX6 (fun _ _=>?_) (fun _ _ _ _=>?_) | refine zYc ?_ ?_
  | refine zZq fun _=>?_ | refine xKo fun _=>?_ | refine xX9 fun _ _ _=>?_ | refine xKq fun _=>?_ | refine xKp fun _=>?_ | refine xKr fun _=>?_ | refine xKt fun _=>?_ | refine wQj fun _ _ _ _=>?_ | refine wQi fun _ _=>?_ | refine wQh ?_ (fun _ _=>?_)
  | (refine fun hh=>callV.mono hh fun _ _=>?_; unfold zJw)
  | unfold yWd | unfold yWn | unfold zY5 | unfold yUh | unfold yWw | unfold zZ4 | unfold xY9 | unfold idxV | unfold yWy | unfold zJ6 | unfold zQc | unfold yWv | unfold zV3 | unfold xWj | unfold zVt | unfold lenV | unfold appV | unfold qO | unfold appO | unfold appZ | unfold capV | unfold zVx | unfold xZv | unfold zYw | unfold plR
  | split)
end
def zKh (esc:List Nat)(dst:Option Nat):Op→Bool
 | .move _ | .assign _ | .pick .. | .build ..=>true
 | .buildSlice ..=>!yVa esc dst
 | .load ..=>!yVa esc dst
 | .nilCheck _ | .binOp .. | .unOp .. | .convert .. | .makeFunc .. | .slice .. | .fieldAddr .. | .field .. | .indexAddr .. | .index .. | .extract ..=>true
 | .alloc _ | .box ..=>match dst with | some d=>!esc.contains d | none=>false
 | .call ⟨.builtin .len,_,_⟩ | .call ⟨.builtin .max,_,_⟩=>true
 | .call ⟨.value (.func g),_,_⟩=>esc.contains (g+1000000)
 | _=>false
def yUo:Op→Bool
 | .load ..=>true
 | _=>false
def yVr:Op→Bool
 | .store ..=>true
 | _=>false
def yJb (esc:List Nat)(dst:Option Nat)(op:Op):Bool:=zKh esc dst op || yUo op
def vZ5 (l:List Operand):List Nat:=l.filterMap fun | .tmp t=>some t | _=>none
def looks (ops:List Oper)(o:Oper):List Nat:=vZ5 o.op.operands.toList++(match o.guard with | some (j,_)=>(yVg ops j).toList | none=>[])
def wZz (esc:List Nat)(ops:List Oper)(x y:Oper):Bool :=
 (yJb esc x.dst x.op || yJb esc y.dst y.op)&&!(yUo x.op&&yVr y.op)&&!(yUo y.op&&yVr x.op) &&
 (match x.dst with | some d=>!(looks ops y).contains d&&!(y.dst == some d) | none=>true)&&(match y.dst with | some d=>!(looks ops x).contains d | none=>true)
def Lin (F:Rt→ISt→List Dfd→Prop):Prop:=(∃ pr,∀ R st ds,F R st ds↔R pr st ds)∨(∀ R st ds,¬ F R st ds)
theorem yX5 (pr:PR):Lin (fun R st ds=>R pr st ds):=.inl ⟨pr,fun _ _ _=>Iff.rfl⟩
theorem yZf:Lin (fun _ _ _=>False):=.inr fun _ _ _ h=>h
theorem yQd {α:Type}{o:Option α}{F:α→Rt→ISt→List Dfd→Prop}(h:∀ x,Lin (F x)):Lin (fun R st ds=>yQ4 o fun x=>F x R st ds):=by
 cases o with
 | none=>exact yZf
 | some x=>exact h x
theorem yYa {c:Prop}{F:Rt→ISt→List Dfd→Prop}(h:Lin F):Lin (fun R st ds=>chk c (F R st ds)):=by
 by_cases hc:c
 ·rcases h with⟨pr,h⟩ | h
  ·exact .inl ⟨pr,fun R st ds=>⟨fun x=>(h R st ds).1 x.2,fun x=>⟨hc,(h R st ds).2 x⟩⟩⟩
  ·exact .inr fun R st ds x=>h R st ds x.2
 ·exact .inr fun R st ds x=>hc x.1
theorem yJq {c:Prop} [Decidable c]{F G:Rt→ISt→List Dfd→Prop}(h:Lin F)(h':Lin G):Lin (fun R st ds=>if c then F R st ds else G R st ds):=by
 by_cases hc:c
 ·simpa only[if_pos hc] using h
 ·simpa only[if_neg hc] using h'
theorem wQ0 {c:Prop}{F:Rt→ISt→List Dfd→Prop}(hc:c)(h:Lin F):Lin (fun R st ds=>c→F R st ds):=by
 rcases h with⟨pr,h⟩ | h
 ·exact .inl ⟨pr,fun R st ds=>⟨fun x=>(h R st ds).1 (x hc),fun x _=>(h R st ds).2 x⟩⟩
 ·exact .inr fun R st ds x=>h R st ds (x hc)
theorem wQ2 {b:Bool}{F G:Rt→ISt→List Dfd→Prop}(h:Lin F)(h':Lin G):Lin (fun R st ds=>yGe b (F R st ds) (G R st ds) .mk .mk):=by
 cases b
 ·simpa only[xXk] using h'
 ·simpa only[xYc] using h
theorem xKf {s:SV}{F:List IV→Rt→ISt→List Dfd→Prop}(h:∀ x,Lin (F x)):Lin (fun R st ds=>boxV s fun x=>F x R st ds):=by
 cases s<;>first | exact h _ | exact yZf
theorem zZn {s:IV}{F:IntKind→Int→Rt→ISt→List Dfd→Prop}(h:∀ x y,Lin (F x y)):Lin (fun R st ds=>intV s fun x y=>F x y R st ds):=by
 cases s with
 | raw v=>cases v<;>first | exact h _ _ | exact yZf
 | _=>exact yZf
theorem wQ3 {s:IV}{F:Bool→Rt→ISt→List Dfd→Prop}(h:∀ x,Lin (F x)):Lin (fun R st ds=>zZd s fun x=>F x R st ds):=by
 cases s with
 | raw v=>cases v<;>first | exact h _ | exact yZf
 | _=>exact yZf
theorem xUy {s:IV}{F:Tag→List IV→Rt→ISt→List Dfd→Prop}{G:Nat→Nat→Nat→Rt→ISt→List Dfd→Prop}(h:∀ x y,Lin (F x y))(h':∀ x y z,Lin (G x y z)):Lin (fun R st ds=>slX s (fun x y=>F x y R st ds) (fun x y z=>G x y z R st ds)):=by
 by_cases hs:∃ t xs,s=.sl t xs
 ·obtain⟨t,xs,rfl⟩:=hs; exact h _ _
 ·by_cases hr:∃ b off n cap,s=.raw (.slice (some ⟨b,off,none⟩) n cap)
  ·obtain⟨b,off,n,cap,rfl⟩:=hr; exact h' _ _ _
  ·refine .inr fun R st ds hh=>?_
   simp only at hh
   unfold slX at hh
   split at hh
   ·exact hs ⟨_,_,rfl⟩
   ·exact hr ⟨_,_,_,_,rfl⟩
   ·exact hh
theorem wG8 {s:IV}{F:Tag→List IV→Rt→ISt→List Dfd→Prop}{G:Nat→Nat→Nat→Nat→Rt→ISt→List Dfd→Prop}(h:∀ x y,Lin (F x y))(h':∀ x y z u,Lin (G x y z u)):Lin (fun R st ds=>slY s (fun x y=>F x y R st ds) (fun x y z u=>G x y z u R st ds)):=by
 by_cases hs:∃ t xs,s=.sl t xs
 ·obtain⟨t,xs,rfl⟩:=hs; exact h _ _
 ·by_cases hr:∃ b off n cap,s=.raw (.slice (some ⟨b,off,none⟩) n cap)
  ·obtain⟨b,off,n,cap,rfl⟩:=hr; exact h' _ _ _ _
  ·refine .inr fun R st ds hh=>?_
   simp only at hh
   unfold slY at hh
   split at hh
   ·exact hs ⟨_,_,rfl⟩
   ·exact hr ⟨_,_,_,_,rfl⟩
   ·exact hh
theorem zZo {s:IV}{F:List IV→Rt→ISt→List Dfd→Prop}(h:∀ x,Lin (F x)):Lin (fun R st ds=>aggV s fun x=>F x R st ds):=by
 cases s<;>first | exact h _ | exact yZf
theorem wJt {s:IV}{F:List IV→Rt→ISt→List Dfd→Prop}(h:∀ x,Lin (F x)):Lin (fun R st ds=>tupV s fun x=>F x R st ds):=by
 cases s<;>first | exact h _ | exact yZf
theorem zY7 {s:IV}{F:Value→Rt→ISt→List Dfd→Prop}(h:∀ x,Lin (F x)):Lin (fun R st ds=>rawV s fun x=>F x R st ds):=by
 cases s<;>first | exact h _ | exact yZf
theorem xUz {ag:Bool}{n:Nat}{p:Pl}{fr:Fr}:Lin (fun R st ds=>yUh true ag n p fr R st ds):=by
 cases p with
 | box t off=>exact xKf fun _=>yQd fun _=>yX5 _
 | ptr b off=>exact yZf
 | cp y=>exact yJq (yX5 _) yZf
theorem xWu {f:Nat×Bool×Nat}{p:Pl}:Lin (fun R st ds=>zZ4 f p R st ds):=by
 cases p with
 | box t off=>exact yX5 _
 | ptr b off=>exact yX5 _
 | cp y=>exact zZo fun _=>yQd fun _=>yJq (yX5 _) yZf
theorem wQ1 {len n j:Nat}{ag:Bool}{p:Pl}:Lin (fun R st ds=>xY9 len ag n j p R st ds):=by
 unfold xY9
 refine yJq ?_ yZf
 cases p with
 | box t off=>exact yX5 _
 | ptr b off=>exact yX5 _
 | cp y=>exact zZo fun _=>yQd fun _=>yJq (yX5 _) yZf
theorem wJw {k:LenK}{s:Option (TypeId×Bool×Nat×Nat)}{xs:Option IV}{p:Option Pl}{e:Option (Nat×Bool×Nat)}{j:Int}:Lin (fun R st ds=>idxV k s xs p e j R st ds):=by
 cases k with
 | sl=>exact yQd fun _=>yQd fun _=>xUy (fun _ _=>yJq (yJq (yQd fun _=>yX5 _) yZf) yZf) (fun _ _ _=>yJq (yX5 _) yZf)
 | arr n=>exact yQd fun _=>yQd fun _=>yJq wQ1 yZf
 | _=>exact yZf
theorem xWt {k:LenK}{e:Option (Nat×Bool×Nat)}{x:IV}{j:Int}:Lin (fun R st ds=>zJ6 k e x j R st ds):=by
 cases k with
 | str =>
  refine zY7 fun v=>?_
  cases v with
  | string s=>exact yQd fun _=>yX5 _
  | _=>exact yZf
 | arr n=>exact zZo fun _=>yQd fun _=>yJq (yQd fun _=>yX5 _) yZf
 | _=>exact yZf
theorem wJv {k:LenK}{x:IV}:Lin (fun R st ds=>lenV true k x R st ds):=by
 cases k with
 | str =>
  refine zY7 fun v=>?_
  cases v with
  | string s=>exact wQ0 (fun h=>by cases h) (yX5 _)
  | _=>exact yZf
 | sl=>exact xUy (fun _ _=>wQ0 (fun h=>by cases h) (yX5 _)) (fun _ _ _=>yX5 _)
 | map=>exact yZf
 | arr n=>exact yX5 _
theorem xWs {k:LenK}{s:Option (TypeId×Bool×Nat×Nat)}{x:IV}{lo hi mx:Option Int}:Lin (fun R st ds=>yWy k s x lo hi mx R st ds):=by
 cases k with
 | str =>
  refine zY7 fun v=>?_
  cases v with
  | string s =>
   cases mx with
   | none=>exact yQd fun _=>yX5 _
   | some m=>exact yZf
  | _=>exact yZf
 | sl =>
  refine yQd fun _=>wG8 (fun _ _=>yYa ?_) (fun _ _ _ _=>?_)
  ·cases hi with
   | none =>
    cases mx with
    | none=>exact yQd fun _=>yYa (yX5 _)
    | some m=>exact yZf
   | some h=>exact yQd fun _=>yYa (yX5 _)
  ·cases mx with
   | none=>exact yYa (yQd fun _=>yX5 _)
   | some m=>exact yZf
 | _=>exact yZf
theorem zU5 {o:Option IV}{p:Option Pl}:Lin (fun R st ds=>zQb true o p R st ds):=by
 cases o with
 | some x=>exact yX5 _
 | none=>exact yZf
theorem wJu {o:Option IV}{p:Option Pl}:Lin (fun R st ds=>nilV o p true R st ds):=by
 cases o with
 | none=>exact yZf
 | some x =>
  cases x with
  | fn f a b=>exact yJq (yX5 _) yZf
  | cptr y=>exact yX5 _
  | raw v =>
   cases v with
   | pointer o =>
    cases o with
    | none=>exact yZf
    | some q=>exact yX5 _
   | _=>exact yZf
  | _=>exact yZf
theorem zVj {esc:List Nat}{d:Nat}(h:esc.contains d=false){cs:List IV}:Lin (fun R st ds=>yWn esc (some d) cs R st ds):=by
 have:¬ d∈esc:=by simpa using h
 simp only[yWn,if_neg this]
 exact yX5 _
theorem xZz {frz esc:List Nat}{d:Nat}(h:esc.contains d=false){y:IV}:Lin (fun R st ds=>yWd frz esc (some d) y R st ds):=yJq (yX5 _) (zVj h)
theorem xZy {c:Cf}(hdr:c.dr=true){dst:Option Nat}{op:Op}{ad:Ad}{fr:Fr}(hp:zKh c.esc dst op=true):Lin (fun R st ds=>vcR c dst op R ad fr st ds):=by
 unfold zKh at hp
 split at hp
 case h_1=>simp only[vcR,hdr]; exact zU5
 case h_2=>simp only[vcR,hdr]; exact zU5
 case h_3=>exact yQd fun _=>wQ3 fun _=>wQ2 (yQd fun _=>yX5 _) (yQd fun _=>yX5 _)
 case h_4=>exact yYa (yQd fun _=>yQd fun _=>yX5 _)
 case h_5 =>
  have hl:yVa c.esc dst=false:=by simpa using hp
  simp only[vcR,zY5,hl,bFt,if_false]; exact yQd fun _=>yYa (yQd fun _=>yYa (yX5 _))
 case h_6 =>
  have hl:ldr c.dr c.esc dst=true:=by unfold ldr; rw[hdr,hp]; rfl
  simp only[vcR,hl]; exact yQd fun _=>yQd fun _=>xUz
 case h_7=>simp only[vcR,hdr]; exact wJu
 case h_8=>exact yQd fun _=>yQd fun _=>yQd fun _=>yX5 _
 case h_9=>exact yQd fun _=>yQd fun _=>yX5 _
 case h_10=>exact yQd fun _=>yQd fun _=>yX5 _
 case h_11=>exact yQd fun _=>yQd fun _=>yX5 _
 case h_12=>exact yQd fun _=>yQd fun _=>yQd fun _=>yQd fun _=>yQd fun _=>xWs
 case h_13=>exact yQd fun _=>yQd fun _=>xWu
 case h_14=>exact yQd fun _=>yQd fun _=>zZo fun _=>yQd fun _=>yX5 _
 case h_15=>exact yQd fun _=>zZn fun _ _=>yQd fun _=>wJw
 case h_16=>exact yQd fun _=>zZn fun _ _=>yQd fun _=>yQd fun _=>xWt
 case h_17=>exact yQd fun _=>wJt fun _=>yQd fun _=>yX5 _
 case h_18 =>
  split at hp
  ·exact yQd fun _=>zVj (by simpa using hp)
  ·cases hp
 case h_19 =>
  split at hp
  ·exact yQd fun _=>yQd fun _=>yYa (xZz (by simpa using hp))
  ·cases hp
 case h_20 =>
  rename_i args ts
  obtain⟨args⟩:=args
  obtain⟨ts⟩:=ts
  match args,ts with
  | [x],[T]=>simp only[vcR,hdr]; exact yQd fun _=>yQd fun _=>wJv
  | [],_=>exact yZf
  | _::_::_,_=>exact yZf
  | [_],[]=>exact yZf
  | [_],_::_::_=>exact yZf
 case h_21 =>
  rename_i args ts
  obtain⟨args⟩:=args
  match args with
  | [x,y]=>exact yQd fun _=>yQd fun _=>zZn fun _ _=>zZn fun _ _=>yJq (yX5 _) yZf
  | []=>exact yZf
  | [_]=>exact yZf
  | _::_::_::_=>exact yZf
 case h_22 =>
  rename_i g _ _
  have hm:g+1000000∈c.esc:=by simpa using hp
  simp only[vcR,zYw,if_pos hm]
  exact yQd fun _=>yQd fun _=>yX5 _
 case h_23=>cases hp
structure SameAt (c:Cf)(op:Op)(ad ad':Ad)(fr fr':Fr):Prop where
 v:∀ x∈op.operands,evV c.gl fr x=evV c.gl fr' x
 a:∀ x∈op.operands,evA c.gl ad fr x=evA c.gl ad' fr' x
 box:(yUo op || yVr op)=true→∀ x∈op.operands,∀ t off,evA c.gl ad fr x=some (.box t off)→fr t=fr' t
theorem yG2 {gl:Nat→Option IV}{fr fr':Fr}:∀ {l:List Operand},(∀ x∈l,evV gl fr x=evV gl fr' x)→evL gl fr l=evL gl fr' l
 | [],_=>rfl
 | x::l,h=>by rw[xV6,xV6,h x (by simp),yG2 fun y hy=>h y (by simp[hy])]
theorem zQi {gl:Nat→Option IV}{fr fr':Fr}{o:Option Operand}(h:∀ x,o=some x→evV gl fr x=evV gl fr' x):yWh gl fr o=yWh gl fr' o:=by
 cases o with
 | none=>rfl
 | some x=>simp only[xY1,h x rfl]
theorem zJx {P:Program}{gl:Nat→Option IV}{fr fr':Fr}{T:TypeId}:∀ {l:List (Nat×Operand)} {cs:List IV},(∀ x∈l.map (·.2),evV gl fr x=evV gl fr' x)→yW3 P gl fr T cs l=yW3 P gl fr' T cs l
 | [],cs,_=>rfl
 | (i,x)::l,cs,h=>by
  rw[yU3,yU3,h x (by simp)]
  cases fldI P T i with
  | none=>rfl
  | some f =>
   cases evV gl fr' x with
   | none=>rfl
   | some y=>simp only[zW0]; split<;>first | exact zJx fun y hy=>h y (by simp[hy]) | rfl
theorem xWr {dr ag:Bool}{n:Nat}{p:Pl}{fr fr':Fr}{R:Rt}{st:ISt}{ds:List Dfd}(h:∀ t off,p=.box t off→fr t=fr' t):yUh dr ag n p fr R st ds=yUh dr ag n p fr' R st ds:=by
 cases p with
 | box t off=>simp only[yUh,h t off rfl]
 | _=>rfl
theorem xQw {y:List IV}{p:Pl}{fr fr':Fr}{R:Rt}{st:ISt}{ds:List Dfd}(h:∀ t off,p=.box t off→fr t=fr' t):yWw y p fr R st ds=yWw y p fr' R st ds:=by
 cases p with
 | box t off=>simp only[yWw,h t off rfl]
 | _=>rfl
theorem xYz {c:Cf}{dst:Option Nat}{op:Op}{R:Rt}{ad ad':Ad}{fr fr':Fr}{st:ISt}{ds:List Dfd}(h:SameAt c op ad ad' fr fr'):vcR c dst op R ad fr st ds=vcR c dst op R ad' fr' st ds:=by
 obtain⟨hv,ha,hb⟩:=h
 cases op with
 | move x=>simp only[vcR,hv x (by simp[Op.operands]),ha x (by simp[Op.operands])]
 | assign x=>simp only[vcR,hv x (by simp[Op.operands]),ha x (by simp[Op.operands])]
 | pick x y z=>simp only[vcR]; rw[hv x (by simp[Op.operands]),hv y (by simp[Op.operands]),hv z (by simp[Op.operands])]
 | alloc T=>rfl
 | box T x=>simp only[vcR,hv x (by simp[Op.operands])]
 | build T parts=>simp only[vcR,fun cs=>zJx (P:=c.P) (T:=T) (cs:=cs) (l:=parts.toList) (fun x hx=>hv x (by simpa[Op.operands] using hx))]
 | buildSlice T n parts=>simp only[vcR,yG2 (l:=parts.toList.map (·.2)) (fun x hx=>hv x (by simpa[Op.operands] using hx))]
 | load T x =>
  have hbx:=hb rfl x (by simp[Op.operands])
  simp only[vcR,← ha x (by simp[Op.operands])]
  cases hp:evA c.gl ad fr x with
  | none=>rfl
  | some p=>simp only[yK7,fun (i:Bool×Nat)=>xWr (dr:=ldr c.dr c.esc dst) (ag:=i.1) (n:=i.2) (p:=p) (fr:=fr) (fr':=fr') (R:=R) (st:=st) (ds:=ds) (fun t off hq=>hbx t off (by rw[hp,hq]))]
 | store T x y =>
  have hbx:=hb rfl x (by simp[Op.operands])
  simp only[vcR,← ha x (by simp[Op.operands]),← hv y (by simp[Op.operands])]
  cases hp:evA c.gl ad fr x with
  | none=>rfl
  | some p=>simp only[yK7,fun (i:List IV)=>xQw (y:=i) (p:=p) (fr:=fr) (fr':=fr') (R:=R) (st:=st) (ds:=ds) (fun t off hq=>hbx t off (by rw[hp,hq]))]
 | nilCheck x=>simp only[vcR,hv x (by simp[Op.operands]),ha x (by simp[Op.operands])]
 | binOp o T x y T'=>simp only[vcR,hv x (by simp[Op.operands]),hv y (by simp[Op.operands])]
 | unOp o T x=>simp only[vcR,hv x (by simp[Op.operands])]
 | convert T T' x=>simp only[vcR,hv x (by simp[Op.operands])]
 | makeFunc f a b=>simp only[vcR,yG2 (l:=a.toList) (fun x hx=>hv x (by simp[Op.operands]; exact .inl (by simpa using hx))),yG2 (l:=b.toList) (fun x hx=>hv x (by simp[Op.operands]; exact .inr (by simpa using hx)))]
 | slice T x lo hi mx=>simp only[vcR,hv x (by simp[Op.operands]),zQi (o:=lo) (fun y hy=>hv y (by simp[Op.operands,hy])),zQi (o:=hi) (fun y hy=>hv y (by simp[Op.operands,hy])),
   zQi (o:=mx) (fun y hy=>hv y (by simp[Op.operands,hy]))]
 | fieldAddr T x i=>simp only[vcR,ha x (by simp[Op.operands])]
 | field T x i=>simp only[vcR,hv x (by simp[Op.operands])]
 | indexAddr T x y=>simp only[vcR,hv x (by simp[Op.operands]),ha x (by simp[Op.operands]),hv y (by simp[Op.operands])]
 | index T x y=>simp only[vcR,hv x (by simp[Op.operands]),hv y (by simp[Op.operands])]
 | lookup T x y ok=>simp only[vcR,hv x (by simp[Op.operands]),hv y (by simp[Op.operands])]
 | mapUpdate T x y z=>simp only[vcR,hv x (by simp[Op.operands]),hv y (by simp[Op.operands]),hv z (by simp[Op.operands])]
 | extract x i=>simp only[vcR,hv x (by simp[Op.operands])]
 | call cc =>
  obtain⟨f,args,ts⟩:=cc
  cases f with
  | value f=>simp only[vcR,hv f (by simp[Op.operands,Call.operands]),yG2 (l:=args.toList) (fun x hx=>hv x (by simp[Op.operands,Call.operands]; exact .inr (by simpa using hx)))]
  | invoke r nm=>rfl
  | builtin b =>
   obtain⟨args⟩:=args
   obtain⟨ts⟩:=ts
   have hv':∀ x∈args,evV c.gl fr x=evV c.gl fr' x:=fun x hx=>hv x (by simp[Op.operands,Call.operands]; exact hx)
   cases b with
   | len =>
    match args,ts,hv' with
    | [x],[T],hv'=>simp only[vcR,hv' x (by simp)]
    | [],_,_=>rfl
    | _::_::_,_,_=>rfl
    | [_],[],_=>rfl
    | [_],_::_::_,_=>rfl
   | append =>
    match args,ts,hv' with
    | [x,y],[T,T'],hv'=>simp only[vcR,hv' x (by simp),hv' y (by simp)]
    | [],_,_=>rfl
    | [_],_,_=>rfl
    | _::_::_::_,_,_=>rfl
    | [_,_],[],_=>rfl
    | [_,_],[_],_=>rfl
    | [_,_],_::_::_::_,_=>rfl
   | cap =>
    match args,ts,hv' with
    | [x],[T],hv'=>simp only[vcR,hv' x (by simp)]
    | [],_,_=>rfl
    | _::_::_,_,_=>rfl
    | [_],[],_=>rfl
    | [_],_::_::_,_=>rfl
   | clear =>
    match args,ts,hv' with
    | [x],[T],hv'=>simp only[vcR,hv' x (by simp)]
    | [],_,_=>rfl
    | _::_::_,_,_=>rfl
    | [_],[],_=>rfl
    | [_],_::_::_,_=>rfl
   | max =>
    match args,hv' with
    | [x,y],hv'=>simp only[vcR,hv' x (by simp),hv' y (by simp)]
    | [],_=>rfl
    | [_],_=>rfl
    | _::_::_::_,_=>rfl
   | min =>
    match args,hv' with
    | [x,y],hv'=>simp only[vcR,hv' x (by simp),hv' y (by simp)]
    | [],_=>rfl
    | [_],_=>rfl
    | _::_::_::_,_=>rfl
   | _=>rfl
 | defer cc =>
  obtain⟨f,args,ts⟩:=cc
  cases f with
  | value f=>simp only[vcR,hv f (by simp[Op.operands,Call.operands]),yG2 (l:=args.toList) (fun x hx=>hv x (by simp[Op.operands,Call.operands]; exact .inr (by simpa using hx)))]
  | _=>rfl
 | makeMap T r=>cases r<;>rfl
 | insert T x y z=>simp only[vcR,hv x (by simp[Op.operands]),hv y (by simp[Op.operands]),hv z (by simp[Op.operands])]
 | makeSlice T x y=>simp only[vcR,hv x (by simp[Op.operands]),hv y (by simp[Op.operands])]
 | range T x=>simp only[vcR,hv x (by simp[Op.operands])]
 | next x b=>cases b<;>simp only[vcR,hv x (by simp[Op.operands])]
 | entry x=>simp only[vcR,hv x (by simp[Op.operands])]
 | _=>rfl
def yZw (c:Cf)(ops:List Oper)(o:Oper)(R:Rt)(ad:Ad)(fr:Fr)(st:ISt)(ds:List Dfd):Prop :=
 match o.guard with
 | none=>vcR c o.dst o.op R ad fr st ds
 | some (j,want)=>match yVg ops j with
  | some d=>match fr d with
   | .iv (.raw (.bool b))=>if b=want then vcR c o.dst o.op R ad fr st ds else R (.val (.raw undef)) st ds
   | .iv (.raw (.tuple _))=>R (.val (.raw undef)) st ds
   | _=>False
  | none=>False
def zXb (c:Cf)(ops:List Oper)(o:Oper)(K:Kt):Kt:=fun ad fr st ds=>yZw c ops o (finK o.dst K ad fr) ad fr st ds
def vcK (c:Cf)(ops:List Oper):List Oper→Kt→Kt
 | [],K=>K
 | o::l,K=>zXb c ops o (vcK c ops l K)
theorem zKs {c:Cf}{ops l l':List Oper}{K:Kt}:vcK c ops (l++l') K=vcK c ops l (vcK c ops l' K):=by
 induction l with
 | nil=>rfl
 | cons o l ih=>rw[List.cons_append,vcK,vcK,ih]
theorem zG4 {c:Cf}{ops:List Oper}{Q:Fr→ISt→List Dfd→Prop}:∀ {l:List Oper} {ad:Ad} {fr:Fr} {st:ISt} {ds:List Dfd},yJ8 c ops l Q ad fr st ds→vcK c ops l (fun _ fr st ds=>Q fr st ds) ad fr st ds
 | [],_,_,_,_,h=>h
 | o::l,ad,fr,st,ds,h=>by
  have hk:∀ ad fr st ds,yJ8 c ops l Q ad fr st ds→vcK c ops l (fun _ fr st ds=>Q fr st ds) ad fr st ds:=fun _ _ _ _=>zG4
  have hfin:∀ pr st ds,finK o.dst (yJ8 c ops l Q) ad fr pr st ds→finK o.dst (vcK c ops l (fun _ fr st ds=>Q fr st ds)) ad fr pr st ds:=by
   intro pr st ds
   cases pr<;>cases o.dst<;>simp only[finK]<;>first | exact hk _ _ _ _ | exact id | (split<;>first | exact id | exact hk _ _ _ _)
  unfold yJ8 at h
  change yZw c ops o (finK o.dst (vcK c ops l (fun _ fr st ds=>Q fr st ds)) ad fr) ad fr st ds
  unfold yZw
  split at h
  ·rename_i hg
   rw[hg]
   exact yYq hfin h
  ·rename_i j want hg
   rw[hg]
   simp only[yVg]
   cases hd:(ops[j]?).bind (·.dst) with
   | none=>rw[hd] at h; exact h.elim
   | some d =>
    rw[hd] at h
    simp only at h ⊢
    cases hs:fr d with
    | box cs=>rw[hs] at h; exact h.elim
    | iv x =>
     cases x with
     | raw v =>
      cases v with
      | bool b =>
       rw[hs,zUk fr d want b _ _ _ _ hs] at h
       simp only
       split
       ·exact yYq hfin (h.1 ‹_›)
       ·have hb:b=!want:=by cases b<;>cases want<;>simp_all
        exact hfin _ _ _ (h.2 hb)
      | tuple t =>
       rw[hs] at h
       exact hfin _ _ _ h
      | _=>rw[hs] at h; exact h.elim
     | _=>rw[hs] at h; exact h.elim
theorem zQ5 {c:Cf}{ops:List Oper}{o:Oper}{R R':Rt}(h:∀ pr st ds,R pr st ds→R' pr st ds){ad:Ad}{fr:Fr}{st:ISt}{ds:List Dfd}:yZw c ops o R ad fr st ds→yZw c ops o R' ad fr st ds:=by
 unfold yZw
 split
 ·exact yYq h
 ·split
  ·split
   ·split
    ·exact yYq h
    ·exact h _ _ _
   ·exact h _ _ _
   ·exact id
  ·exact id
theorem xUx {c:Cf}(hdr:c.dr=true){ops:List Oper}{o:Oper}{ad:Ad}{fr:Fr}(hp:zKh c.esc o.dst o.op=true):Lin (fun R st ds=>yZw c ops o R ad fr st ds):=by
 cases hg:o.guard with
 | none=>simp only[yZw,hg]; exact xZy hdr hp
 | some p =>
  obtain⟨j,want⟩:=p
  cases hd:yVg ops j with
  | none=>simp only[yZw,hg,hd]; exact yZf
  | some d =>
   cases hs:fr d with
   | box cs=>simp only[yZw,hg,hd,hs]; exact yZf
   | iv x =>
    cases x with
    | raw v =>
     cases v with
     | bool b=>simp only[yZw,hg,hd,hs]; exact yJq (xZy hdr hp) (yX5 _)
     | tuple t=>simp only[yZw,hg,hd,hs]; exact yX5 _
     | _=>simp only[yZw,hg,hd,hs]; exact yZf
    | _=>simp only[yZw,hg,hd,hs]; exact yZf
def Kept (st st':ISt):Prop:=∀ b cs,st b=some (.box cs)→st' b=some (.box cs)
theorem Kept.refl (st:ISt):Kept st st:=fun _ _ h=>h
def LinS (st:ISt)(F:Rt→ISt→List Dfd→Prop):Prop:=(∃ pr,(∀ R ds,F R st ds↔R pr st ds)∧∀ st',Kept st st'→∀ R ds,R pr st' ds→F R st' ds)∨(∀ R ds,¬ F R st ds)
theorem yKl {F:Rt→ISt→List Dfd→Prop}(h:Lin F)(st:ISt):LinS st F:=by
 rcases h with⟨pr,h⟩ | h
 ·exact .inl ⟨pr,fun R ds=>h R st ds,fun st' _ R ds hr=>(h R st' ds).2 hr⟩
 ·exact .inr fun R ds=>h R st ds
theorem wQ4 {c:Cf}{dst:Option Nat}{T:TypeId}{x:Operand}{ad:Ad}{fr:Fr}(st:ISt):LinS st (fun R st ds=>vcR c dst (.load T x) R ad fr st ds):=by
 simp only[vcR]
 cases tyI c.P T with
 | none=>exact yKl yZf st
 | some i =>
  cases evA c.gl ad fr x with
  | none=>exact yKl yZf st
  | some p =>
   simp only[yK7]
   cases p with
   | box t off=>exact yKl (xKf fun _=>yQd fun _=>yX5 _) st
   | cp y=>exact yKl (yJq (yX5 _) yZf) st
   | ptr b off =>
    simp only[yUh]
    cases hl:ldr c.dr c.esc dst with
    | true=>simp only[if_true]; exact yKl yZf st
    | false =>
     simp only[bFt,if_false]
     cases hb:st b with
     | none=>exact .inr fun R ds h=>by simp only[hb] at h; exact h
     | some o =>
      cases o with
      | box cs =>
       cases hp:yKc i.1 i.2 cs off with
       | none=>exact .inr fun R ds h=>by simp only[hb,yK7,obV,hp] at h; exact h
       | some y=>exact .inl ⟨.val y,fun R ds=>by simp only[hb,yK7,obV,hp],fun st' hk R ds hr=>by simp only[hk b cs hb,yK7,obV,hp]; exact hr⟩
      | _=>exact .inr fun R ds h=>by simp only[hb,yK7,obV] at h
theorem xKg {c:Cf}(hdr:c.dr=true){dst:Option Nat}{op:Op}{ad:Ad}{fr:Fr}(hp:yJb c.esc dst op=true)(st:ISt):LinS st (fun R st ds=>vcR c dst op R ad fr st ds):=by
 unfold yJb at hp
 rw[Bool.or_eq_true] at hp
 rcases hp with hp | hp
 ·exact yKl (xZy hdr hp) st
 ·cases op<;>first | exact wQ4 st | cases hp
theorem zQe {c:Cf}(hdr:c.dr=true){ops:List Oper}{o:Oper}{ad:Ad}{fr:Fr}(hp:yJb c.esc o.dst o.op=true)(st:ISt):LinS st (fun R st ds=>yZw c ops o R ad fr st ds):=by
 cases hg:o.guard with
 | none=>simp only[yZw,hg]; exact xKg hdr hp st
 | some p =>
  obtain⟨j,want⟩:=p
  cases hd:yVg ops j with
  | none=>simp only[yZw,hg,hd]; exact yKl yZf st
  | some d =>
   cases hs:fr d with
   | box cs=>simp only[yZw,hg,hd,hs]; exact yKl yZf st
   | iv x =>
    cases x with
    | raw v =>
     cases v with
     | bool b =>
      simp only[yZw,hg,hd,hs]
      by_cases hb:b=want
      ·simp only[if_pos hb]; exact xKg hdr hp st
      ·simp only[if_neg hb]; exact yKl (yX5 _) st
     | tuple t=>simp only[yZw,hg,hd,hs]; exact yKl (yX5 _) st
     | _=>simp only[yZw,hg,hd,hs]; exact yKl yZf st
    | _=>simp only[yZw,hg,hd,hs]; exact yKl yZf st
def appQ (esc:List Nat)(dst:Option Nat):Op→Bool
 | .call ⟨.builtin .append,⟨[_,_]⟩,⟨[_,_]⟩⟩=>zWu esc dst
 | _=>false
theorem Kept.new {st:ISt}{g:Nat}(hg:st g=none)(o:Option IObj):Kept st (st.put g o):=fun b cs hb=>by
 rw[ISt.put_apply]
 split
 ·rename_i h; subst h; rw[hg] at hb; cases hb
 ·exact hb
theorem Kept.front {st:ISt}{g₀ g n s:Nat}(h0:st g₀=some (.front n s))(hg:g=g₀∨st g=none)(o:Option IObj):Kept st ((st.put g₀ none).put g o):=fun b cs hb=>by
 have h1:b≠g₀:=by rintro rfl; rw[h0] at hb; cases hb
 have h2:b≠g:=by
  rintro rfl
  rcases hg with rfl | hg
  ·exact h1 rfl
  ·rw[hg] at hb; cases hb
 rw[ISt.put_apply,if_neg h2,ISt.put_apply,if_neg h1]
 exact hb
theorem wZx {esc:List Nat}{dst:Option Nat}{e:TypeId×Bool×Nat×Nat}{tg:Tag}{xs ys:List IV}{R:Rt}{st:ISt}{ds:List Dfd}(h:appV esc dst e tg xs ys R st ds) :
  appV esc dst e tg xs ys (fun pr st' ds=>R pr st' ds∧Kept st st') st ds:=by
 obtain⟨h1,h2,h3⟩:=h
 refine⟨h1,h2,?_⟩
 cases hc:tg.cap with
 | none =>
  rw[hc] at h3
  cases ys with
  | nil=>exact⟨h3,Kept.refl _⟩
  | cons y ys=>exact h3.elim
 | nil =>
  rw[hc] at h3
  cases ys with
  | nil=>exact⟨h3,Kept.refl _⟩
  | cons y ys =>
   by_cases he:yVa esc dst=true
   ·simp only[if_pos he] at h3 ⊢
    exact fun g cap hg=>⟨h3 g cap hg,Kept.new hg.1 _⟩
   ·simp only[if_neg he] at h3 ⊢
    exact fun g hg=>⟨h3 g hg,Kept.new hg _⟩
 | full =>
  rw[hc] at h3
  obtain⟨h4,h3⟩:=h3
  refine⟨h4,?_⟩
  cases ys with
  | nil=>exact⟨h3,Kept.refl _⟩
  | cons y ys=>exact fun g hg=>⟨h3 g hg,Kept.new hg _⟩
 | app g₀ =>
  rw[hc] at h3
  obtain⟨h4,h5,h3⟩:=h3
  exact⟨h4,h5,fun g hg=>⟨h3 g hg,Kept.front h5 hg _⟩⟩
theorem xVh {c:Cf}{dst:Option Nat}{op:Op}{R:Rt}{ad:Ad}{fr:Fr}{st:ISt}{ds:List Dfd}(hq:appQ c.esc dst op=true)(h:vcR c dst op R ad fr st ds) :
  vcR c dst op (fun pr st' ds=>R pr st' ds∧Kept st st') ad fr st ds:=by
 unfold appQ at hq
 split at hq
 ·simp only[vcR] at h ⊢
  refine yZ2 (fun e=>?_) h
  refine zYc ?_ ?_
  ·refine yZ2 fun s=>xX6 (fun tg xs=>yZ2 fun y=>zJ8 fun _ ys h=>wZx h) fun b off n cap=>yZ2 fun y=>zJ8 fun _ ys h=>?_
   unfold qO at h
   rw[if_pos hq] at h
   exact h.elim
  ·refine yZ2 fun s=>zJ8 fun tg _=>yZ2 fun y=>zZp fun _ m h=>?_
   obtain⟨h1,h2⟩:=h
   exact⟨h1,fun g cap hg=>⟨h2 g cap hg,Kept.new hg.1 _⟩⟩
 ·cases hq
theorem xYi {c:Cf}{ops:List Oper}{o:Oper}{R:Rt}{ad:Ad}{fr:Fr}{st:ISt}{ds:List Dfd}(hq:appQ c.esc o.dst o.op=true)(h:yZw c ops o R ad fr st ds) :
  yZw c ops o (fun pr st' ds=>R pr st' ds∧Kept st st') ad fr st ds:=by
 unfold yZw at h ⊢
 split at h
 ·exact xVh hq h
 ·split at h
  ·split at h
   ·split at h
    ·rename_i hb; rw[if_pos hb]; exact xVh hq h
    ·rename_i hb; rw[if_neg hb]; exact⟨h,Kept.refl _⟩
   ·exact⟨h,Kept.refl _⟩
   ·exact h.elim
  ·exact h.elim
def yVd (ops:List Oper)(o:Oper)(fr fr':Fr):Prop:=∀ j want d,o.guard=some (j,want)→yVg ops j=some d→fr d=fr' d∨(∃ cs cs',fr d=.box cs∧fr' d=.box cs')
theorem yK2 {c:Cf}{ops:List Oper}{o:Oper}{R:Rt}{ad ad':Ad}{fr fr':Fr}{st:ISt}{ds:List Dfd}(h:SameAt c o.op ad ad' fr fr')(hg:yVd ops o fr fr'):yZw c ops o R ad fr st ds=yZw c ops o R ad' fr' st ds:=by
 unfold yZw
 rw[xYz h]
 cases hgo:o.guard with
 | none=>rfl
 | some p =>
  obtain⟨j,want⟩:=p
  cases hd:yVg ops j with
  | none=>simp only[hd]
  | some d =>
   simp only[hd]
   rcases hg j want d hgo hd with he | ⟨cs,cs',h1,h2⟩
   ·rw[he]
   ·rw[h1,h2]
def wK2:Op→Bool
 | .fieldAddr ..=>true
 | .indexAddr ..=>true
 | _=>false
structure Fine (c:Cf)(op:Op)(ad:Ad)(fr:Fr)(pr:PR):Prop where
 isA:∀ t off,pr=.adr t off→c.dr=true→wK2 op=true
 adr:∀ t off,pr=.adr t off→∃ x∈op.operands,∃ off',evA c.gl ad fr x=some (.box t off')
 sto:∀ t cs,pr=.sto t cs→yVr op=true∧(∃ cs0,fr t=.box cs0)∧∃ x∈op.operands,∃ off',evA c.gl ad fr x=some (.box t off')
theorem yXh {c:Cf}{op:Op}{ad:Ad}{fr:Fr}{x:IV}:Fine c op ad fr (.val x):=⟨(fun _ _ h=>by cases h),(fun _ _ h=>by cases h),(fun _ _ h=>by cases h)⟩
theorem wKc {c:Cf}{op:Op}{ad:Ad}{fr:Fr}{x:List IV}:Fine c op ad fr (.box x):=⟨(fun _ _ h=>by cases h),(fun _ _ h=>by cases h),(fun _ _ h=>by cases h)⟩
theorem xV5 {c:Cf}{op:Op}{ad:Ad}{fr:Fr}:Fine c op ad fr .nop:=⟨(fun _ _ h=>by cases h),(fun _ _ h=>by cases h),(fun _ _ h=>by cases h)⟩
theorem zYp {c:Cf}{op:Op}{R:Rt}{ad:Ad}{fr:Fr}{st:ISt}{ds:List Dfd}{x:Operand}{p:Pl}(hdr:¬ c.dr=true)(hx:x∈op.operands)(hp:evA c.gl ad fr x=some p):plR p R st ds→plR p (fun pr st ds=>R pr st ds∧Fine c op ad fr pr) st ds:=by
 cases p with
 | box t off=>exact fun h=>⟨h,⟨(fun _ _ _ h0=>(hdr h0).elim),fun t' off' he=>by cases he; exact⟨x,hx,off,hp⟩,fun _ _ h=>by cases h⟩⟩
 | ptr b off=>exact fun h=>⟨h,yXh⟩
 | cp y=>exact fun h=>⟨h,yXh⟩
theorem zVs {c:Cf}{op:Op}{R:Rt}{ad:Ad}{fr:Fr}{st:ISt}{ds:List Dfd}{x:Operand}(hx:x∈op.operands)(o:Option IV) :
  zQb c.dr o (evA c.gl ad fr x) R st ds→zQb c.dr o (evA c.gl ad fr x) (fun pr st ds=>R pr st ds∧Fine c op ad fr pr) st ds:=by
 unfold zQb
 split
 ·exact fun h=>⟨h,yXh⟩
 ·split
  ·exact id
  ·intro h
   obtain⟨p,hp,h⟩:=yQ3.1 h
   exact yQ3.2 ⟨p,hp,zYp ‹_› hx hp h⟩
set_option maxHeartbeats 1000000 in
theorem xJa {c:Cf}{dst:Option Nat}{op:Op}{R:Rt}{ad:Ad}{fr:Fr}{st:ISt}{ds:List Dfd}:vcR c dst op R ad fr st ds→vcR c dst op (fun pr st ds=>R pr st ds∧Fine c op ad fr pr) ad fr st ds:=by
 by_cases h1:∃ x,op=.move x∨op=.assign x
 ·obtain⟨x,rfl | rfl⟩:=h1
  ·exact zVs (by simp[Op.operands]) _
  ·exact zVs (by simp[Op.operands]) _
 by_cases h2:∃ x,op=.nilCheck x
 ·obtain⟨x,rfl⟩:=h2
  simp only[vcR,nilV]
  split
  ·exact yJr (fun h=>⟨h,yXh⟩) id
  ·exact fun h=>⟨h,yXh⟩
  ·split
   ·exact fun h=>⟨h,yXh⟩
   ·intro h
    obtain⟨p,hp,h⟩:=yQ3.1 h
    exact yQ3.2 ⟨p,hp,zYp ‹_› (by simp[Op.operands]) hp h⟩
  ·split
   ·exact id
   ·intro h
    obtain⟨p,hp,h⟩:=yQ3.1 h
    exact yQ3.2 ⟨p,hp,zYp ‹_› (by simp[Op.operands]) hp h⟩
 by_cases h3:∃ T x i,op=.fieldAddr T x i
 ·obtain⟨T,x,i,rfl⟩:=h3
  simp only[vcR]
  refine yZ2 fun f=>fun h=>?_
  obtain⟨p,hp,h⟩:=yQ3.1 h
  refine yQ3.2 ⟨p,hp,?_⟩
  cases p with
  | box t off=>exact⟨h,⟨(fun _ _ _ _=>rfl),fun t' off' he=>by cases he; exact⟨x,by simp[Op.operands],off,hp⟩,fun _ _ h=>by cases h⟩⟩
  | ptr b off=>exact⟨h,yXh⟩
  | cp y=>exact zZq (fun _=>yZ2 fun _=>yJr (fun h=>⟨h,yXh⟩) id) h
 by_cases h4:∃ T x y,op=.indexAddr T x y
 ·obtain⟨T,x,y,rfl⟩:=h4
  simp only[vcR]
  refine yZ2 fun _=>zZp fun _ j=>yZ2 fun k=>?_
  cases k with
  | sl=>exact yZ2 fun _=>yZ2 fun _=>xX7 (fun _ _=>yJr (yJr (yZ2 fun _=>fun h=>⟨h,yXh⟩) id) id) (fun _ _ _=>yJr (fun h=>⟨h,yXh⟩) id)
  | arr n =>
   refine yZ2 fun _=>fun h=>?_
   obtain⟨p,hp,h⟩:=yQ3.1 h
   refine yQ3.2 ⟨p,hp,yJr (yJr ?_ id) id h⟩
   cases p with
   | box t off=>exact fun h=>⟨h,⟨(fun _ _ _ _=>rfl),fun t' off' he=>by cases he; exact⟨x,by simp[Op.operands],off,hp⟩,fun _ _ h=>by cases h⟩⟩
   | ptr b off=>exact fun h=>⟨h,yXh⟩
   | cp y=>exact zZq (fun _=>yZ2 fun _=>yJr (fun h=>⟨h,yXh⟩) id)
  | str=>exact id
  | map=>exact id
 by_cases h5:∃ T x y,op=.store T x y
 ·obtain⟨T,x,y,rfl⟩:=h5
  simp only[vcR]
  refine yZ2 fun _=>yZ2 fun _=>xXa fun h=>?_
  obtain⟨p,hp,h⟩:=yQ3.1 h
  refine yQ3.2 ⟨p,hp,?_⟩
  revert h
  cases p with
  | box t off =>
   simp only[yWw]
   cases hf:fr t with
   | box cs=>exact yJr (fun h=>⟨h,⟨(fun _ _ h=>by cases h),(fun _ _ h=>by cases h),fun t' cs' he=>by cases he; exact⟨rfl,⟨cs,hf⟩,x,by simp[Op.operands],off,hp⟩⟩⟩) id
   | iv x=>exact id
  | ptr b off=>exact yZ2 fun _=>xX8 fun _=>yJr (fun h=>⟨h,xV5⟩) id
  | cp y=>exact id
 have hv:∀ x st ds,R (.val x) st ds→R (.val x) st ds∧Fine c op ad fr (.val x):=fun x st ds h=>⟨h,yXh⟩
 have hb:∀ x st ds,R (.box x) st ds→R (.box x) st ds∧Fine c op ad fr (.box x):=fun x st ds h=>⟨h,wKc⟩
 have hn:∀ st ds,R .nop st ds→R .nop st ds∧Fine c op ad fr .nop:=fun st ds h=>⟨h,xV5⟩
 generalize Fine c op ad fr=F at hv hb hn ⊢
 unfold vcR
 split
 all_goals first
  | exact absurd ⟨_,.inl rfl⟩ h1 | exact absurd ⟨_,.inr rfl⟩ h1 | exact absurd ⟨_,rfl⟩ h2 | exact absurd ⟨_,_,_,rfl⟩ h3 | exact absurd ⟨_,_,_,rfl⟩ h4 | exact absurd ⟨_,_,_,rfl⟩ h5
  | repeat (first
   | exact hv _ _ _ | exact hb _ _ _ | exact hn _ _ | exact id
   | refine yZ2 fun _=>?_ | refine xXa ?_ | refine wQk ?_ | refine wQl ?_ | refine wQm fun _=>?_ | refine zJ9 ?_ ?_ | refine yJr ?_ ?_
   | refine xKs fun _=>?_ | refine xX8 fun _=>?_ | refine wQg fun _ _=>?_ | refine zZp fun _ _=>?_ | refine zJa fun _=>?_ | refine zJ8 fun _ _=>?_ | refine xX7 (fun _ _=>?_) (fun _ _ _=>?_) | refine xX6 (fun _ _=>?_) (fun _ _ _ _=>?_) | refine zYc ?_ ?_
   | refine zZq fun _=>?_ | refine xKo fun _=>?_ | refine xX9 fun _ _ _=>?_ | refine xKq fun _=>?_ | refine xKp fun _=>?_ | refine xKr fun _=>?_ | refine xKt fun _=>?_ | refine wQj fun _ _ _ _=>?_ | refine wQi fun _ _=>?_ | refine wQh ?_ (fun _ _=>?_)
   | (refine fun hh=>callV.mono hh fun _ _=>?_; unfold zJw)
   | unfold yWd | unfold yWn | unfold zY5 | unfold yUh | unfold yWy | unfold zJ6 | unfold zQc | unfold yWv | unfold zV3 | unfold xWj | unfold zVt | unfold lenV | unfold appV | unfold qO | unfold appO | unfold appZ | unfold capV | unfold zVx | unfold xZv | unfold zYw
   | split)
def yW6 (ad:Ad)(d:Nat):Prop:=∀ x t off,ad x=some (t,off)→t≠d
theorem xX3 {ad:Ad}{d:Nat}(h:yW6 ad d)(s:Nat):Ad.keep d (ad s)=ad s:=by
 cases ha:ad s with
 | none=>rfl
 | some p =>
  obtain⟨t,off⟩:=p
  simp only[Ad.keep,if_neg (h s t off ha)]
theorem xV7 {c:Cf}{ad:Ad}{fr:Fr}{x:Operand}{t off d:Nat}(h:evA c.gl ad fr x=some (.box t off))(hb:yW6 ad d)(hx:x≠.tmp d):t≠d:=by
 cases x with
 | tmp y =>
  simp only[evA] at h
  cases ha:ad y with
  | some p =>
   obtain⟨t',off'⟩:=p
   rw[ha] at h
   simp only[plAd,Option.some.injEq,Pl.box.injEq] at h
   exact h.1▸hb y t' off' ha
  | none =>
   rw[ha] at h
   simp only[plAd] at h
   cases hf:fr y with
   | box cs =>
    rw[hf] at h
    simp only[plOf,Option.some.injEq,Pl.box.injEq] at h
    rintro rfl
    exact hx (by rw[h.1])
   | iv z =>
    rw[hf] at h
    exfalso
    cases z with
    | raw u =>
     cases u with
     | pointer p =>
      cases p with
      | none=>cases h
      | some p =>
       obtain⟨pb,po,ps⟩:=p
       cases ps<;>cases h
     | _=>cases h
    | _=>cases h
 | global g=>simp only[evA] at h; cases hg:c.gl g<;>rw[hg] at h<;>cases h
 | const v=>cases h
 | func f=>cases h
theorem xWa {c:Cf}{op:Op}{ad:Ad}{fr:Fr}{d:Nat}{a:Option (Nat×Nat)}{s:SV}(hd:∀ x∈op.operands,x≠.tmp d)(hb:yW6 ad d):SameAt c op ad (ad.put d a) fr (fr.put d s):=by
 refine⟨fun x hx=>?_,fun x hx=>?_,fun _ x hx t off he=>?_⟩
 ·cases x with
  | tmp y=>rw[zYq,zYq,Fr.put_apply,if_neg (fun h=>hd _ hx (by rw[h]))]
  | _=>rfl
 ·cases x with
  | tmp y =>
   have hy:y≠d:=fun h=>hd _ hx (by rw[h])
   simp only[evA,Ad.put_apply,if_neg hy,xX3 hb]
   cases ad y with
   | none=>simp only[plAd,Fr.put_apply,if_neg hy]
   | some p=>rfl
  | _=>rfl
 ·rw[Fr.put_apply,if_neg (xV7 he hb (hd x hx))]
theorem xW9 {c:Cf}{op:Op}{ad:Ad}{fr:Fr}{t:Nat}{cs cs':List IV}(ht:fr t=.box cs)(h:(yUo op || yVr op)=false):SameAt c op ad ad fr (fr.put t (.box cs')):=by
 refine⟨fun x _=>?_,fun x _=>?_,fun h'=>by rw[h] at h'; cases h'⟩
 ·cases x with
  | tmp y =>
   rw[zYq,zYq,Fr.put_apply]
   split
   ·rename_i hy; rw[hy,ht]; rfl
   ·rfl
  | _=>rfl
 ·cases x with
  | tmp y =>
   simp only[evA]
   cases ad y with
   | none =>
    simp only[plAd,Fr.put_apply]
    split
    ·rename_i hy; rw[hy,ht]; rfl
    ·rfl
   | some p=>rfl
  | _=>rfl
theorem zWq {ops:List Oper}{o:Oper}{fr:Fr}{d:Nat}{s:SV}(h:d ∉ looks ops o):yVd ops o fr (fr.put d s):=by
 intro j want e hg he
 refine .inl ?_
 rw[Fr.put_apply,if_neg]
 rintro rfl
 exact h (List.mem_append_right _ (by rw[hg]; simp[he]))
theorem zWp {ops:List Oper}{o:Oper}{fr:Fr}{t:Nat}{cs cs':List IV}(ht:fr t=.box cs):yVd ops o fr (fr.put t (.box cs')):=by
 intro j want e _ _
 rw[Fr.put_apply]
 by_cases he:e=t
 ·rw[if_pos he,he]; exact .inr ⟨cs,cs',ht,rfl⟩
 ·rw[if_neg he]; exact .inl rfl
theorem zU4 {ops:List Oper}{o:Oper}{d:Nat}(h:d ∉ looks ops o):∀ x∈o.op.operands,x≠.tmp d:=by
 rintro x hx rfl
 exact h (List.mem_append_left _ (List.mem_filterMap.2 ⟨.tmp d,by simpa using hx,rfl⟩))
def after (dst:Option Nat)(pr:PR)(ad:Ad)(fr:Fr):Option (Ad×Fr) :=
 match pr,dst with
 | .val x,some d=>some (ad.put d none,fr.put d (.iv x))
 | .val _,none=>some (ad,fr)
 | .adr t off,some d=>if d=t then none else some (ad.put d (some (t,off)),fr.put d (.iv .junk))
 | .adr _ _,none=>some (ad,fr)
 | .box cs,some d=>some (ad.put d none,fr.put d (.box cs))
 | .box _,none=>none
 | .sto _ _,some _=>none
 | .sto t cs,none=>some (ad,fr.put t (.box cs))
 | .nop,some _=>none
 | .nop,none=>some (ad,fr)
theorem yZk {dst:Option Nat}{K:Kt}{ad:Ad}{fr:Fr}{pr:PR}{st:ISt}{ds:List Dfd}:finK dst K ad fr pr st ds↔∃ p,after dst pr ad fr=some p∧K p.1 p.2 st ds:=by
 cases pr<;>cases dst<;>simp only[finK,after,Option.some.injEq,exists_eq_left',reduceCtorEq,false_and,exists_false]
 split<;>simp
theorem yKw {c:Cf}{ops:List Oper}{o:Oper}{R:Rt}{ad:Ad}{fr:Fr}{st:ISt}{ds:List Dfd}(h:yZw c ops o R ad fr st ds):yZw c ops o (fun pr st ds=>R pr st ds∧Fine c o.op ad fr pr) ad fr st ds:=by
 unfold yZw at *
 split
 ·exact xJa (by simpa[*] using h)
 ·rename_i j want hg
  rw[hg] at h
  simp only at h
  split at h
  ·rename_i d hd
   cases hs:fr d with
   | box cs=>rw[hs] at h; exact h.elim
   | iv x =>
    cases x with
    | raw v =>
     cases v with
     | bool b =>
      rw[hs] at h
      simp only at h ⊢
      split
      ·rename_i hw; rw[if_pos hw] at h; exact xJa h
      ·rename_i hw; rw[if_neg hw] at h; exact⟨h,yXh⟩
     | tuple t=>rw[hs] at h; exact⟨h,yXh⟩
     | _=>rw[hs] at h; exact h.elim
    | _=>rw[hs] at h; exact h.elim
  ·exact h.elim
structure Ap (c:Cf)(ops:List Oper)(x y:Oper):Prop where
 pure:yJb c.esc x.dst x.op=true∨yJb c.esc y.dst y.op=true
 ls:yUo x.op=true→yVr y.op=true→False
 sl:yVr x.op=true→yUo y.op=true→False
 d:∀ d,x.dst=some d→d ∉ looks ops y∧y.dst≠some d
 e:∀ d,y.dst=some d→d ∉ looks ops x
theorem Ap.symm {c:Cf}{ops:List Oper}{x y:Oper}(h:Ap c ops x y):Ap c ops y x :=
 ⟨h.pure.symm,fun a b=>h.sl b a,fun a b=>h.ls b a,fun d hd=>⟨h.e d hd,fun hx=>(h.d d hx).2 hd⟩,fun d hd=>(h.d d hd).1⟩
theorem zGq {esc:List Nat}{dst:Option Nat}{op:Op}(h:zKh esc dst op=true):yVr op=false:=by
 cases op<;>first | rfl | simp[zKh] at h
theorem yKp {esc:List Nat}{dst:Option Nat}{op:Op}(h:yJb esc dst op=true):yVr op=false:=by
 unfold yJb at h
 rw[Bool.or_eq_true] at h
 rcases h with h | h
 ·exact zGq h
 ·cases op<;>first | rfl | cases h
theorem uWh {c:Cf}{ops:List Oper}{x y:Oper}(h:wZz c.esc ops x y=true):Ap c ops x y:=by
 unfold wZz at h
 simp only[bAt,Bool.or_eq_true,Bool.not_eq_true',Bool.and_eq_false_iff] at h
 obtain⟨⟨⟨⟨h1,h2⟩,h3⟩,h4⟩,h5⟩:=h
 refine⟨h1,fun a b=>by rcases h2 with h2 | h2<;>simp_all,fun a b=>by rcases h3 with h3 | h3<;>simp_all,fun d hd=>?_,fun d hd=>?_⟩
 ·rw[hd] at h4
  simp only[bAt,Bool.not_eq_true'] at h4
  exact⟨by simpa using h4.1,by simpa using h4.2⟩
 ·rw[hd] at h5
  simpa using h5
theorem yKx {c:Cf}{ops:List Oper}{x y:Oper}(h:Ap c ops x y){ad:Ad}{fr:Fr}{pr:PR}{p:Ad×Fr}(hb:∀ d,x.dst=some d→yW6 ad d)(hf:Fine c x.op ad fr pr)(ha:after x.dst pr ad fr=some p) :
  SameAt c y.op ad p.1 fr p.2∧yVd ops y fr p.2:=by
 have refl:SameAt c y.op ad ad fr fr∧yVd ops y fr fr:=⟨⟨fun _ _=>rfl,fun _ _=>rfl,fun _ _ _ _ _ _=>rfl⟩,fun _ _ _ _ _=>.inl rfl⟩
 cases hx:x.dst with
 | none =>
  rw[hx] at ha
  cases pr with
  | sto t cs =>
   simp only[after,Option.some.injEq] at ha
   subst ha
   obtain⟨hs,⟨cs0,ht⟩,_⟩:=hf.sto t cs rfl
   have hl:yUo y.op=false:=by
    cases hq:yUo y.op with
    | false=>rfl
    | true=>exact (h.sl hs hq).elim
   have hst:yVr y.op=false:=by
    rcases h.pure with hp | hp
    ·rw[yKp hp] at hs; cases hs
    ·exact yKp hp
   exact⟨xW9 ht (by rw[hl,hst]; rfl),zWp ht⟩
  | _=>simp only[after,Option.some.injEq,reduceCtorEq] at ha<;>subst ha<;>exact refl
 | some d =>
  rw[hx] at ha
  have hd:=h.d d hx
  have key:∀ a s,SameAt c y.op ad (ad.put d a) fr (fr.put d s)∧yVd ops y fr (fr.put d s):=fun a s=>⟨xWa (zU4 hd.1) (hb d hx),zWq hd.1⟩
  cases pr with
  | adr t off =>
   simp only[after] at ha
   split at ha
   ·cases ha
   ·cases ha; exact key _ _
  | _=>simp only[after,Option.some.injEq,reduceCtorEq] at ha<;>subst ha<;>exact key _ _
theorem zWv {fr:Fr}{d e:Nat}{s t:SV}(h:d≠e):(fr.put d s).put e t=(fr.put e t).put d s:=by
 funext x
 simp only[Fr.put_apply]
 by_cases h1:x=e
 ·rw[if_pos h1,if_neg (fun h2=>h (by rw[← h2,h1])),if_pos h1]
 ·rw[if_neg h1,if_neg h1]
theorem wQa {d e:Nat}(o:Option (Nat×Nat)):Ad.keep d (Ad.keep e o)=Ad.keep e (Ad.keep d o):=by
 cases o with
 | none=>rfl
 | some p =>
  obtain⟨t,off⟩:=p
  by_cases h1:t=e
  ·by_cases h2:t=d
   ·simp only[Ad.keep,if_pos h1,if_pos h2]
   ·simp only[Ad.keep,if_pos h1,if_neg h2]
  ·by_cases h2:t=d
   ·simp only[Ad.keep,if_neg h1,if_pos h2]
   ·simp only[Ad.keep,if_neg h1,if_neg h2]
theorem xYk {ad:Ad}{d e:Nat}{a b:Option (Nat×Nat)}(h:d≠e)(ha:Ad.keep e a=a)(hb:Ad.keep d b=b):(ad.put d a).put e b=(ad.put e b).put d a:=by
 funext x
 simp only[Ad.put_apply]
 by_cases h1:x=e
 ·have h2:x≠d:=fun h2=>h (by rw[← h2,h1])
  rw[if_pos h1,if_neg h2,if_pos h1,hb]
 ·by_cases h2:x=d
  ·rw[if_neg h1,if_pos h2,if_pos h2,ha]
  ·rw[if_neg h1,if_neg h2,if_neg h2,if_neg h1,wQa]
theorem yUs {c:Cf}{ops:List Oper}{y:Oper}{d:Nat}{ad:Ad}{fr:Fr}(hd:d ∉ looks ops y)(hb:yW6 ad d){t:Nat}(h:∃ x∈y.op.operands,∃ off',evA c.gl ad fr x=some (.box t off')):t≠d:=by
 obtain⟨x,hx,off',he⟩:=h
 exact xV7 he hb (zU4 hd x hx)
theorem yGa {d:Nat}{pr:PR}{ad:Ad}{fr:Fr}{p:Ad×Fr}(h:after (some d) pr ad fr=some p):∃ a s,p=(ad.put d a,fr.put d s)∧(∀ ad' fr',after (some d) pr ad' fr'=some (ad'.put d a,fr'.put d s)) ∧
  (a=none∨∃ t off,pr=.adr t off∧a=some (t,off)):=by
 cases pr with
 | val x=>cases h; exact⟨_,_,rfl,fun _ _=>rfl,.inl rfl⟩
 | box x=>cases h; exact⟨_,_,rfl,fun _ _=>rfl,.inl rfl⟩
 | adr t off =>
  simp only[after] at h
  split at h
  ·cases h
  ·rename_i hne
   cases h
   exact⟨_,_,rfl,fun _ _=>if_neg hne,.inr ⟨t,off,rfl,rfl⟩⟩
 | sto t cs=>cases h
 | nop=>cases h
theorem zQr {c:Cf}{ops:List Oper}{x y:Oper}(h:Ap c ops x y){ad:Ad}{fr:Fr}{px py:PR}{p q:Ad×Fr}(hbx:∀ d,x.dst=some d→yW6 ad d)(hby:∀ d,y.dst=some d→yW6 ad d)
  (hfx:Fine c x.op ad fr px) (hfy:Fine c y.op ad fr py) (hp:after x.dst px ad fr=some p) (hq:after y.dst py ad fr=some q) :
  ∃ r,after y.dst py p.1 p.2=some r∧after x.dst px q.1 q.2=some r:=by
 have hkx:∀ d t off,x.dst=some d→py=.adr t off→Ad.keep d (some (t,off))=some (t,off):=fun d t off hd he=>by
  simp only[Ad.keep,if_neg (yUs (h.d d hd).1 (hbx d hd) (hfy.adr t off he))]
 have hky:∀ d t off,y.dst=some d→px=.adr t off→Ad.keep d (some (t,off))=some (t,off):=fun d t off hd he=>by
  simp only[Ad.keep,if_neg (yUs (h.e d hd) (hby d hd) (hfx.adr t off he))]
 have hsx:∀ d t cs,x.dst=some d→py=.sto t cs→t≠d:=fun d t cs hd he=>yUs (h.d d hd).1 (hbx d hd) (hfy.sto t cs he).2.2
 have hsy:∀ d t cs,y.dst=some d→px=.sto t cs→t≠d:=fun d t cs hd he=>yUs (h.e d hd) (hby d hd) (hfx.sto t cs he).2.2
 have hss:∀ t cs t' cs',px=.sto t cs→py=.sto t' cs'→False:=fun t cs t' cs' h1 h2=>by
  have a:=(hfx.sto t cs h1).1
  have b:=(hfy.sto t' cs' h2).1
  rcases h.pure with hq | hq
  ·rw[yKp hq] at a; cases a
  ·rw[yKp hq] at b; cases b
 cases hx:x.dst with
 | none =>
  cases hy:y.dst with
  | none =>
   rw[hx] at hp; rw[hy] at hq
   cases px<;>cases py<;>simp only[after,Option.some.injEq,reduceCtorEq] at hp hq<;>subst hp hq<;>first | exact⟨_,rfl,rfl⟩ | exact (hss _ _ _ _ rfl rfl).elim
  | some e =>
   rw[hx] at hp; rw[hy] at hq
   cases px with
   | sto t cs =>
    have ht:=hsy e t cs hy rfl
    simp only[after,Option.some.injEq] at hp
    subst hp
    cases py with
    | adr t' off =>
     simp only[after] at hq
     split at hq
     ·cases hq
     ·rename_i hne
      cases hq
      exact⟨_,if_neg hne,by simp only[after]; rw[zWv (fun h=>ht h.symm)]⟩
    | _=>simp only[after,Option.some.injEq,reduceCtorEq] at hq<;>subst hq<;>exact⟨_,rfl,by simp only[after]; rw[zWv (fun h=>ht h.symm)]⟩
   | _=>simp only[after,Option.some.injEq,reduceCtorEq] at hp<;>subst hp<;>exact⟨_,hq,rfl⟩
 | some d =>
  rw[hx] at hp
  obtain⟨a,s,rfl,hall,ha⟩:=yGa hp
  cases hy:y.dst with
  | none =>
   rw[hy] at hq
   cases py with
   | sto t cs =>
    have ht:=hsx d t cs hx rfl
    cases hq
    exact⟨_,rfl,by rw[hall,zWv ht]⟩
   | box cs=>cases hq
   | _=>cases hq; exact⟨_,rfl,hall _ _⟩
  | some e =>
   rw[hy] at hq
   obtain⟨b,s',rfl,hall',hb⟩:=yGa hq
   have hde:d≠e:=fun h0=>(h.d d hx).2 (by rw[hy,h0])
   have hka:Ad.keep e a=a:=by
    rcases ha with rfl | ⟨t,off,h1,rfl⟩
    ·rfl
    ·exact hky e t off hy h1
   have hkb:Ad.keep d b=b:=by
    rcases hb with rfl | ⟨t,off,h1,rfl⟩
    ·rfl
    ·exact hkx d t off hx h1
   exact⟨_,hall' _ _,by rw[hall,zWv hde,xYk hde hka hkb]⟩
end Go.Iv
