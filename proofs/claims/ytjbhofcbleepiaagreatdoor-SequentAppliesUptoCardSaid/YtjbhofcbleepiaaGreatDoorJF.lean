/- The layer of ideal values, part O: regio -/
import Derived.Test.YtjbhofcbleepiaaGreatDoorJE
set_option linter.all false
namespace Go.Iv
open Go
section
variable {α:Type}{p q p' q':Prop}
theorem yZu {o:Option α}{f g:α→Prop}(h:∀ x,f x→g x):yQ6 o f→yQ6 o g:=by
 cases o<;>simp only[yQ6]<;>first | exact h _ | exact id
theorem xK6 {c:Prop}(h:p→q):chk c p→chk c q:=fun x=>⟨x.1,h x.2⟩
theorem wZy {c:Prop}(h:p→q):giv c p→giv c q:=fun x y=>h (x y)
theorem wZz {c:Prop}(h:p→q):(c→p)→(c→q):=fun x y=>h (x y)
theorem wX0 {f g:α→Prop}(h:∀ x,f x→g x):(∀ x,f x)→(∀ x,g x):=fun hf x=>h x (hf x)
theorem zKo {b:Bool}{k:Lock p}{l:Lock q}{k':Lock p'}{l':Lock q'}(h:p→p')(h':q→q'):yU6 b p q k l→yU6 b p' q' k' l':=fun x=>⟨fun hb=>h (x.1 hb),fun hb=>h' (x.2 hb)⟩
theorem yK4 {c:Prop} [Decidable c](h:p→p')(h':q→q'):(if c then p else q)→(if c then p' else q'):=by split<;>assumption
theorem xWj {s:SV}{f g:List IV→Prop}(h:∀ x,f x→g x):boxV s f→boxV s g:=by unfold boxV; split<;>first | exact h _ | exact id
theorem xK4 {s:IObj}{f g:List IV→Prop}(h:∀ x,f x→g x):obV s f→obV s g:=by unfold obV; split<;>first | exact h _ | exact id
theorem wZx {s:IObj}{f g:KeyK→List (Value×IV)→Prop}(h:∀ x y,f x y→g x y):omV s f→omV s g:=by unfold omV; split<;>first | exact h _ _ | exact id
theorem zU5 {s:IV}{f g:IntKind→Int→Prop}(h:∀ x y,f x y→g x y):intV s f→intV s g:=by unfold intV; split<;>first | exact h _ _ | exact id
theorem zKp {s:IV}{f g:Bool→Prop}(h:∀ x,f x→g x):zXx s f→zXx s g:=by unfold zXx; split<;>first | exact h _ | exact id
theorem wZw {s:IV}{f g:Tag→List IV→Prop}(h:∀ x y,f x y→g x y):slV s f→slV s g:=by unfold slV; split<;>first | exact h _ _ | exact id
theorem xK3 {s:IV}{f f':Tag→List IV→Prop}{g g':Nat→Nat→Nat→Prop}(h:∀ x y,f x y→f' x y)(h':∀ x y z,g x y z→g' x y z):slX s f g→slX s f' g':=by unfold slX; split<;>first | exact h _ _ | exact h' _ _ _ | exact id
theorem wZv {s:IV}{f f':Tag→List IV→Prop}{g g':Nat→Nat→Nat→Nat→Prop}(h:∀ x y,f x y→f' x y)(h':∀ x y z u,g x y z u→g' x y z u):slY s f g→slY s f' g':=by unfold slY; split<;>first | exact h _ _ | exact h' _ _ _ _ | exact id
theorem xWk {k:Option LenK}{i:Option IntKind}{f f' g g':Prop}(h:f→f')(h':g→g'):appK k i f g→appK k i f' g':=by unfold appK; split<;>first | exact h | exact h' | exact id
theorem zJb {s:IV}{f g:List IV→Prop}(h:∀ x,f x→g x):aggV s f→aggV s g:=by unfold aggV; split<;>first | exact h _ | exact id
theorem xWg {s:IV}{f g:List IV→Prop}(h:∀ x,f x→g x):tupV s f→tupV s g:=by unfold tupV; split<;>first | exact h _ | exact id
theorem xK5 {s:IV}{f g:Fn→List IV→List IV→Prop}(h:∀ x y z,f x y z→g x y z):fnV s f→fnV s g:=by unfold fnV; split<;>first | exact h _ _ _ | exact id
theorem xWi {s:IV}{f g:Option Nat→Prop}(h:∀ x,f x→g x):mapV s f→mapV s g:=by unfold mapV; split<;>first | exact h _ | exact id
theorem xWh {s:IV}{f g:Value→Prop}(h:∀ x,f x→g x):rawV s f→rawV s g:=by unfold rawV; split<;>first | exact h _ | exact id
end
section
variable {R R':Rt}(h:∀ pr st ds,R pr st ds→R' pr st ds)
include h
set_option maxHeartbeats 1000000 in
theorem yGh {c:Cf}{dst:Option Nat}{op:Op}{ad:Ad}{fr:Fr}{st:ISt}{ds:List Dfd}:vcR c dst op R ad fr st ds→vcR c dst op R' ad fr st ds:=by
 unfold vcR
 split
 all_goals try unfold zZq
 all_goals try unfold nilV
 all_goals repeat (first
  | exact h _ _ _ | exact id
  | refine yZu fun _=>?_ | refine xK6 ?_ | refine wZy ?_ | refine wZz ?_ | refine wX0 fun _=>?_ | refine zKo ?_ ?_ | refine yK4 ?_ ?_
  | refine xWj fun _=>?_ | refine xK4 fun _=>?_ | refine wZx fun _ _=>?_ | refine zU5 fun _ _=>?_ | refine zKp fun _=>?_ | refine wZw fun _ _=>?_ | refine xK3 (fun _ _=>?_) (fun _ _ _=>?_) | refine wZv (fun _ _=>?_) (fun _ _ _ _=>?_) | refine xWk ?_ ?_
  | refine zJb fun _=>?_ | refine xWg fun _=>?_ | refine xK5 fun _ _ _=>?_ | refine xWi fun _=>?_ | refine xWh fun _=>?_
  | (refine fun hh=>callV.mono hh fun _ _=>?_; unfold zVf)
  | unfold yY4 | unfold yYf | unfold zGw | unfold zQq | unfold yYn | unfold zXo | unfold xGt | unfold idxV | unfold yYq | unfold zKm | unfold zZs | unfold yYm | unfold lenV | unfold appV | unfold appO | unfold appZ | unfold capV | unfold zYl | unfold xJt | unfold zUn | unfold plR
  | split)
end
def zW5 (esc:List Nat)(dst:Option Nat):Op→Bool
 | .move _ | .assign _ | .pick .. | .build ..=>true
 | .buildSlice ..=>!yWm esc dst
 | .load ..=>!yWm esc dst
 | .nilCheck _ | .binOp .. | .unOp .. | .convert .. | .makeFunc .. | .slice .. | .fieldAddr .. | .field .. | .indexAddr .. | .index .. | .extract ..=>true
 | .alloc _ | .box ..=>match dst with | some d=>!esc.contains d | none=>false
 | .call ⟨.builtin .len,_,_⟩ | .call ⟨.builtin .max,_,_⟩=>true
 | .call ⟨.value (.func g),_,_⟩=>esc.contains (g+1000000)
 | _=>false
def zQy:Op→Bool
 | .load ..=>true
 | _=>false
def yW7:Op→Bool
 | .store ..=>true
 | _=>false
def yJy (esc:List Nat)(dst:Option Nat)(op:Op):Bool:=zW5 esc dst op || zQy op
def vX9 (l:List Operand):List Nat:=l.filterMap fun | .tmp t=>some t | _=>none
def looks (ops:List Oper)(o:Oper):List Nat:=vX9 o.op.operands.toList++(match o.guard with | some (j,_)=>(yVw ops j).toList | none=>[])
def wXw (esc:List Nat)(ops:List Oper)(x y:Oper):Bool :=
 (yJy esc x.dst x.op || yJy esc y.dst y.op)&&!(zQy x.op&&yW7 y.op)&&!(zQy y.op&&yW7 x.op) &&
 (match x.dst with | some d=>!(looks ops y).contains d&&!(y.dst == some d) | none=>true)&&(match y.dst with | some d=>!(looks ops x).contains d | none=>true)
def Lin (F:Rt→ISt→List Dfd→Prop):Prop:=(∃ pr,∀ R st ds,F R st ds↔R pr st ds)∨(∀ R st ds,¬ F R st ds)
theorem yXh (pr:PR):Lin (fun R st ds=>R pr st ds):=.inl ⟨pr,fun _ _ _=>Iff.rfl⟩
theorem yZr:Lin (fun _ _ _=>False):=.inr fun _ _ _ h=>h
theorem yQe {α:Type}{o:Option α}{F:α→Rt→ISt→List Dfd→Prop}(h:∀ x,Lin (F x)):Lin (fun R st ds=>yQ6 o fun x=>F x R st ds):=by
 cases o with
 | none=>exact yZr
 | some x=>exact h x
theorem yG0 {c:Prop}{F:Rt→ISt→List Dfd→Prop}(h:Lin F):Lin (fun R st ds=>chk c (F R st ds)):=by
 by_cases hc:c
 ·rcases h with⟨pr,h⟩ | h
  ·exact .inl ⟨pr,fun R st ds=>⟨fun x=>(h R st ds).1 x.2,fun x=>⟨hc,(h R st ds).2 x⟩⟩⟩
  ·exact .inr fun R st ds x=>h R st ds x.2
 ·exact .inr fun R st ds x=>hc x.1
theorem yK2 {c:Prop} [Decidable c]{F G:Rt→ISt→List Dfd→Prop}(h:Lin F)(h':Lin G):Lin (fun R st ds=>if c then F R st ds else G R st ds):=by
 by_cases hc:c
 ·simpa only[if_pos hc] using h
 ·simpa only[if_neg hc] using h'
theorem wZe {c:Prop}{F:Rt→ISt→List Dfd→Prop}(hc:c)(h:Lin F):Lin (fun R st ds=>c→F R st ds):=by
 rcases h with⟨pr,h⟩ | h
 ·exact .inl ⟨pr,fun R st ds=>⟨fun x=>(h R st ds).1 (x hc),fun x _=>(h R st ds).2 x⟩⟩
 ·exact .inr fun R st ds x=>h R st ds (x hc)
theorem wZg {b:Bool}{F G:Rt→ISt→List Dfd→Prop}(h:Lin F)(h':Lin G):Lin (fun R st ds=>yU6 b (F R st ds) (G R st ds) .mk .mk):=by
 cases b
 ·simpa only[xKi] using h'
 ·simpa only[xGw] using h
theorem xW8 {s:SV}{F:List IV→Rt→ISt→List Dfd→Prop}(h:∀ x,Lin (F x)):Lin (fun R st ds=>boxV s fun x=>F x R st ds):=by
 cases s<;>first | exact h _ | exact yZr
theorem zJ7 {s:IV}{F:IntKind→Int→Rt→ISt→List Dfd→Prop}(h:∀ x y,Lin (F x y)):Lin (fun R st ds=>intV s fun x y=>F x y R st ds):=by
 cases s with
 | raw v=>cases v<;>first | exact h _ _ | exact yZr
 | _=>exact yZr
theorem wZh {s:IV}{F:Bool→Rt→ISt→List Dfd→Prop}(h:∀ x,Lin (F x)):Lin (fun R st ds=>zXx s fun x=>F x R st ds):=by
 cases s with
 | raw v=>cases v<;>first | exact h _ | exact yZr
 | _=>exact yZr
theorem wZc {s:IV}{F:Tag→List IV→Rt→ISt→List Dfd→Prop}{G:Nat→Nat→Nat→Rt→ISt→List Dfd→Prop}(h:∀ x y,Lin (F x y))(h':∀ x y z,Lin (G x y z)):Lin (fun R st ds=>slX s (fun x y=>F x y R st ds) (fun x y z=>G x y z R st ds)):=by
 by_cases hs:∃ t xs,s=.sl t xs
 ·obtain⟨t,xs,rfl⟩:=hs; exact h _ _
 ·by_cases hr:∃ b off n cap,s=.raw (.slice (some ⟨b,off,none⟩) n cap)
  ·obtain⟨b,off,n,cap,rfl⟩:=hr; exact h' _ _ _
  ·refine .inr fun R st ds hh=>?_
   simp only at hh
   unfold slX at hh
   split at hh
   ·exact hs ⟨_,_,rfl⟩
   ·exact hr ⟨_,_,_,_,rfl⟩
   ·exact hh
theorem wUh {s:IV}{F:Tag→List IV→Rt→ISt→List Dfd→Prop}{G:Nat→Nat→Nat→Nat→Rt→ISt→List Dfd→Prop}(h:∀ x y,Lin (F x y))(h':∀ x y z u,Lin (G x y z u)):Lin (fun R st ds=>slY s (fun x y=>F x y R st ds) (fun x y z u=>G x y z u R st ds)):=by
 by_cases hs:∃ t xs,s=.sl t xs
 ·obtain⟨t,xs,rfl⟩:=hs; exact h _ _
 ·by_cases hr:∃ b off n cap,s=.raw (.slice (some ⟨b,off,none⟩) n cap)
  ·obtain⟨b,off,n,cap,rfl⟩:=hr; exact h' _ _ _ _
  ·refine .inr fun R st ds hh=>?_
   simp only at hh
   unfold slY at hh
   split at hh
   ·exact hs ⟨_,_,rfl⟩
   ·exact hr ⟨_,_,_,_,rfl⟩
   ·exact hh
theorem zJ8 {s:IV}{F:List IV→Rt→ISt→List Dfd→Prop}(h:∀ x,Lin (F x)):Lin (fun R st ds=>aggV s fun x=>F x R st ds):=by
 cases s<;>first | exact h _ | exact yZr
theorem wKz {s:IV}{F:List IV→Rt→ISt→List Dfd→Prop}(h:∀ x,Lin (F x)):Lin (fun R st ds=>tupV s fun x=>F x R st ds):=by
 cases s<;>first | exact h _ | exact yZr
theorem zU0 {s:IV}{F:Value→Rt→ISt→List Dfd→Prop}(h:∀ x,Lin (F x)):Lin (fun R st ds=>rawV s fun x=>F x R st ds):=by
 cases s<;>first | exact h _ | exact yZr
theorem wZd {ag:Bool}{n:Nat}{p:Pl}{fr:Fr}:Lin (fun R st ds=>zQq true ag n p fr R st ds):=by
 cases p with
 | box t off=>exact xW8 fun _=>yQe fun _=>yXh _
 | ptr b off=>exact yZr
 | cp y=>exact yK2 (yXh _) yZr
theorem xGd {f:Nat×Bool×Nat}{p:Pl}:Lin (fun R st ds=>zXo f p R st ds):=by
 cases p with
 | box t off=>exact yXh _
 | ptr b off=>exact yXh _
 | cp y=>exact zJ8 fun _=>yQe fun _=>yK2 (yXh _) yZr
theorem wZf {len n j:Nat}{ag:Bool}{p:Pl}:Lin (fun R st ds=>xGt len ag n j p R st ds):=by
 unfold xGt
 refine yK2 ?_ yZr
 cases p with
 | box t off=>exact yXh _
 | ptr b off=>exact yXh _
 | cp y=>exact zJ8 fun _=>yQe fun _=>yK2 (yXh _) yZr
theorem wV2 {k:LenK}{s:Option (TypeId×Bool×Nat×Nat)}{xs:Option IV}{p:Option Pl}{e:Option (Nat×Bool×Nat)}{j:Int}:Lin (fun R st ds=>idxV k s xs p e j R st ds):=by
 cases k with
 | sl=>exact yQe fun _=>yQe fun _=>wZc (fun _ _=>yK2 (yK2 (yQe fun _=>yXh _) yZr) yZr) (fun _ _ _=>yK2 (yXh _) yZr)
 | arr n=>exact yQe fun _=>yQe fun _=>yK2 wZf yZr
 | _=>exact yZr
theorem xGc {k:LenK}{e:Option (Nat×Bool×Nat)}{x:IV}{j:Int}:Lin (fun R st ds=>zKm k e x j R st ds):=by
 cases k with
 | str =>
  refine zU0 fun v=>?_
  cases v with
  | string s=>exact yQe fun _=>yXh _
  | _=>exact yZr
 | arr n=>exact zJ8 fun _=>yQe fun _=>yK2 (yQe fun _=>yXh _) yZr
 | _=>exact yZr
theorem wV1 {k:LenK}{x:IV}:Lin (fun R st ds=>lenV true k x R st ds):=by
 cases k with
 | str =>
  refine zU0 fun v=>?_
  cases v with
  | string s=>exact wZe (fun h=>by cases h) (yXh _)
  | _=>exact yZr
 | sl=>exact wZc (fun _ _=>wZe (fun h=>by cases h) (yXh _)) (fun _ _ _=>yXh _)
 | map=>exact yZr
 | arr n=>exact yXh _
theorem xGb {k:LenK}{s:Option (TypeId×Bool×Nat×Nat)}{x:IV}{lo hi mx:Option Int}:Lin (fun R st ds=>yYq k s x lo hi mx R st ds):=by
 cases k with
 | str =>
  refine zU0 fun v=>?_
  cases v with
  | string s =>
   cases mx with
   | none=>exact yQe fun _=>yXh _
   | some m=>exact yZr
  | _=>exact yZr
 | sl =>
  refine yQe fun _=>wUh (fun _ _=>yG0 ?_) (fun _ _ _ _=>?_)
  ·cases hi with
   | none =>
    cases mx with
    | none=>exact yQe fun _=>yG0 (yXh _)
    | some m=>exact yZr
   | some h=>exact yQe fun _=>yG0 (yXh _)
  ·cases mx with
   | none=>exact yG0 (yQe fun _=>yXh _)
   | some m=>exact yZr
 | _=>exact yZr
theorem xZc {o:Option IV}{p:Option Pl}:Lin (fun R st ds=>zZq true o p R st ds):=by
 cases o with
 | some x=>exact yXh _
 | none=>exact yZr
theorem wV0 {o:Option IV}{p:Option Pl}:Lin (fun R st ds=>nilV o p true R st ds):=by
 cases o with
 | none=>exact yZr
 | some x =>
  cases x with
  | fn f a b=>exact yK2 (yXh _) yZr
  | cptr y=>exact yXh _
  | _=>exact yZr
theorem zY8 {esc:List Nat}{d:Nat}(h:esc.contains d=false){cs:List IV}:Lin (fun R st ds=>yYf esc (some d) cs R st ds):=by
 have:¬ d∈esc:=by simpa using h
 simp only[yYf,if_neg this]
 exact yXh _
theorem xJx {frz esc:List Nat}{d:Nat}(h:esc.contains d=false){y:IV}:Lin (fun R st ds=>yY4 frz esc (some d) y R st ds):=yK2 (yXh _) (zY8 h)
theorem xJw {c:Cf}(hdr:c.dr=true){dst:Option Nat}{op:Op}{ad:Ad}{fr:Fr}(hp:zW5 c.esc dst op=true):Lin (fun R st ds=>vcR c dst op R ad fr st ds):=by
 unfold zW5 at hp
 split at hp
 case h_1=>simp only[vcR,hdr]; exact xZc
 case h_2=>simp only[vcR,hdr]; exact xZc
 case h_3=>exact yQe fun _=>wZh fun _=>wZg (yQe fun _=>yXh _) (yQe fun _=>yXh _)
 case h_4=>exact yG0 (yQe fun _=>yQe fun _=>yXh _)
 case h_5 =>
  have hl:yWm c.esc dst=false:=by simpa using hp
  simp only[vcR,zGw,hl,bFt,if_false]; exact yQe fun _=>yG0 (yQe fun _=>yG0 (yXh _))
 case h_6 =>
  have hl:ldr c.dr c.esc dst=true:=by unfold ldr; rw[hdr,hp]; rfl
  simp only[vcR,hl]; exact yQe fun _=>yQe fun _=>wZd
 case h_7=>simp only[vcR,hdr]; exact wV0
 case h_8=>exact yQe fun _=>yQe fun _=>yQe fun _=>yXh _
 case h_9=>exact yQe fun _=>yQe fun _=>yXh _
 case h_10=>exact yQe fun _=>yQe fun _=>yXh _
 case h_11=>exact yQe fun _=>yQe fun _=>yXh _
 case h_12=>exact yQe fun _=>yQe fun _=>yQe fun _=>yQe fun _=>yQe fun _=>xGb
 case h_13=>exact yQe fun _=>yQe fun _=>xGd
 case h_14=>exact yQe fun _=>yQe fun _=>zJ8 fun _=>yQe fun _=>yXh _
 case h_15=>exact yQe fun _=>zJ7 fun _ _=>yQe fun _=>wV2
 case h_16=>exact yQe fun _=>zJ7 fun _ _=>yQe fun _=>yQe fun _=>xGc
 case h_17=>exact yQe fun _=>wKz fun _=>yQe fun _=>yXh _
 case h_18 =>
  split at hp
  ·exact yQe fun _=>zY8 (by simpa using hp)
  ·cases hp
 case h_19 =>
  split at hp
  ·exact yQe fun _=>yQe fun _=>yG0 (xJx (by simpa using hp))
  ·cases hp
 case h_20 =>
  rename_i args ts
  obtain⟨args⟩:=args
  obtain⟨ts⟩:=ts
  match args,ts with
  | [x],[T]=>simp only[vcR,hdr]; exact yQe fun _=>yQe fun _=>wV1
  | [],_=>exact yZr
  | _::_::_,_=>exact yZr
  | [_],[]=>exact yZr
  | [_],_::_::_=>exact yZr
 case h_21 =>
  rename_i args ts
  obtain⟨args⟩:=args
  match args with
  | [x,y]=>exact yQe fun _=>yQe fun _=>zJ7 fun _ _=>zJ7 fun _ _=>yK2 (yXh _) yZr
  | []=>exact yZr
  | [_]=>exact yZr
  | _::_::_::_=>exact yZr
 case h_22 =>
  rename_i g _ _
  have hm:g+1000000∈c.esc:=by simpa using hp
  simp only[vcR,zUn,if_pos hm]
  exact yQe fun _=>yQe fun _=>yXh _
 case h_23=>cases hp
structure SameAt (c:Cf)(op:Op)(ad ad':Ad)(fr fr':Fr):Prop where
 v:∀ x∈op.operands,evV c.gl fr x=evV c.gl fr' x
 a:∀ x∈op.operands,evA c.gl ad fr x=evA c.gl ad' fr' x
 box:(zQy op || yW7 op)=true→∀ x∈op.operands,∀ t off,evA c.gl ad fr x=some (.box t off)→fr t=fr' t
theorem yGx {gl:Nat→Option IV}{fr fr':Fr}:∀ {l:List Operand},(∀ x∈l,evV gl fr x=evV gl fr' x)→evL gl fr l=evL gl fr' l
 | [],_=>rfl
 | x::l,h=>by rw[xWx,xWx,h x (by simp),yGx fun y hy=>h y (by simp[hy])]
theorem zZw {gl:Nat→Option IV}{fr fr':Fr}{o:Option Operand}(h:∀ x,o=some x→evV gl fr x=evV gl fr' x):yYa gl fr o=yYa gl fr' o:=by
 cases o with
 | none=>rfl
 | some x=>simp only[xGj,h x rfl]
theorem zVg {P:Program}{gl:Nat→Option IV}{fr fr':Fr}{T:TypeId}:∀ {l:List (Nat×Operand)} {cs:List IV},(∀ x∈l.map (·.2),evV gl fr x=evV gl fr' x)→yWo P gl fr T cs l=yWo P gl fr' T cs l
 | [],cs,_=>rfl
 | (i,x)::l,cs,h=>by
  rw[zQ2,zQ2,h x (by simp)]
  cases fldI P T i with
  | none=>rfl
  | some f =>
   cases evV gl fr' x with
   | none=>rfl
   | some y=>simp only[zYp]; split<;>first | exact zVg fun y hy=>h y (by simp[hy]) | rfl
theorem xGa {dr ag:Bool}{n:Nat}{p:Pl}{fr fr':Fr}{R:Rt}{st:ISt}{ds:List Dfd}(h:∀ t off,p=.box t off→fr t=fr' t):zQq dr ag n p fr R st ds=zQq dr ag n p fr' R st ds:=by
 cases p with
 | box t off=>simp only[zQq,h t off rfl]
 | _=>rfl
theorem xXt {y:List IV}{p:Pl}{fr fr':Fr}{R:Rt}{st:ISt}{ds:List Dfd}(h:∀ t off,p=.box t off→fr t=fr' t):yYn y p fr R st ds=yYn y p fr' R st ds:=by
 cases p with
 | box t off=>simp only[yYn,h t off rfl]
 | _=>rfl
theorem xUi {c:Cf}{dst:Option Nat}{op:Op}{R:Rt}{ad ad':Ad}{fr fr':Fr}{st:ISt}{ds:List Dfd}(h:SameAt c op ad ad' fr fr'):vcR c dst op R ad fr st ds=vcR c dst op R ad' fr' st ds:=by
 obtain⟨hv,ha,hb⟩:=h
 cases op with
 | move x=>simp only[vcR,hv x (by simp[Op.operands]),ha x (by simp[Op.operands])]
 | assign x=>simp only[vcR,hv x (by simp[Op.operands]),ha x (by simp[Op.operands])]
 | pick x y z=>simp only[vcR]; rw[hv x (by simp[Op.operands]),hv y (by simp[Op.operands]),hv z (by simp[Op.operands])]
 | alloc T=>rfl
 | box T x=>simp only[vcR,hv x (by simp[Op.operands])]
 | build T parts=>simp only[vcR,fun cs=>zVg (P:=c.P) (T:=T) (cs:=cs) (l:=parts.toList) (fun x hx=>hv x (by simpa[Op.operands] using hx))]
 | buildSlice T n parts=>simp only[vcR,yGx (l:=parts.toList.map (·.2)) (fun x hx=>hv x (by simpa[Op.operands] using hx))]
 | load T x =>
  have hbx:=hb rfl x (by simp[Op.operands])
  simp only[vcR,← ha x (by simp[Op.operands])]
  cases hp:evA c.gl ad fr x with
  | none=>rfl
  | some p=>simp only[yVd,fun (i:Bool×Nat)=>xGa (dr:=ldr c.dr c.esc dst) (ag:=i.1) (n:=i.2) (p:=p) (fr:=fr) (fr':=fr') (R:=R) (st:=st) (ds:=ds) (fun t off hq=>hbx t off (by rw[hp,hq]))]
 | store T x y =>
  have hbx:=hb rfl x (by simp[Op.operands])
  simp only[vcR,← ha x (by simp[Op.operands]),← hv y (by simp[Op.operands])]
  cases hp:evA c.gl ad fr x with
  | none=>rfl
  | some p=>simp only[yVd,fun (i:List IV)=>xXt (y:=i) (p:=p) (fr:=fr) (fr':=fr') (R:=R) (st:=st) (ds:=ds) (fun t off hq=>hbx t off (by rw[hp,hq]))]
 | nilCheck x=>simp only[vcR,hv x (by simp[Op.operands]),ha x (by simp[Op.operands])]
 | binOp o T x y T'=>simp only[vcR,hv x (by simp[Op.operands]),hv y (by simp[Op.operands])]
 | unOp o T x=>simp only[vcR,hv x (by simp[Op.operands])]
 | convert T T' x=>simp only[vcR,hv x (by simp[Op.operands])]
 | makeFunc f a b=>simp only[vcR,yGx (l:=a.toList) (fun x hx=>hv x (by simp[Op.operands]; exact .inl (by simpa using hx))),yGx (l:=b.toList) (fun x hx=>hv x (by simp[Op.operands]; exact .inr (by simpa using hx)))]
 | slice T x lo hi mx=>simp only[vcR,hv x (by simp[Op.operands]),zZw (o:=lo) (fun y hy=>hv y (by simp[Op.operands,hy])),zZw (o:=hi) (fun y hy=>hv y (by simp[Op.operands,hy])),
   zZw (o:=mx) (fun y hy=>hv y (by simp[Op.operands,hy]))]
 | fieldAddr T x i=>simp only[vcR,ha x (by simp[Op.operands])]
 | field T x i=>simp only[vcR,hv x (by simp[Op.operands])]
 | indexAddr T x y=>simp only[vcR,hv x (by simp[Op.operands]),ha x (by simp[Op.operands]),hv y (by simp[Op.operands])]
 | index T x y=>simp only[vcR,hv x (by simp[Op.operands]),hv y (by simp[Op.operands])]
 | lookup T x y ok=>simp only[vcR,hv x (by simp[Op.operands]),hv y (by simp[Op.operands])]
 | mapUpdate T x y z=>simp only[vcR,hv x (by simp[Op.operands]),hv y (by simp[Op.operands]),hv z (by simp[Op.operands])]
 | extract x i=>simp only[vcR,hv x (by simp[Op.operands])]
 | call cc =>
  obtain⟨f,args,ts⟩:=cc
  cases f with
  | value f=>simp only[vcR,hv f (by simp[Op.operands,Call.operands]),yGx (l:=args.toList) (fun x hx=>hv x (by simp[Op.operands,Call.operands]; exact .inr (by simpa using hx)))]
  | invoke r nm=>rfl
  | builtin b =>
   obtain⟨args⟩:=args
   obtain⟨ts⟩:=ts
   have hv':∀ x∈args,evV c.gl fr x=evV c.gl fr' x:=fun x hx=>hv x (by simp[Op.operands,Call.operands]; exact hx)
   cases b with
   | len =>
    match args,ts,hv' with
    | [x],[T],hv'=>simp only[vcR,hv' x (by simp)]
    | [],_,_=>rfl
    | _::_::_,_,_=>rfl
    | [_],[],_=>rfl
    | [_],_::_::_,_=>rfl
   | append =>
    match args,ts,hv' with
    | [x,y],[T,T'],hv'=>simp only[vcR,hv' x (by simp),hv' y (by simp)]
    | [],_,_=>rfl
    | [_],_,_=>rfl
    | _::_::_::_,_,_=>rfl
    | [_,_],[],_=>rfl
    | [_,_],[_],_=>rfl
    | [_,_],_::_::_::_,_=>rfl
   | cap =>
    match args,ts,hv' with
    | [x],[T],hv'=>simp only[vcR,hv' x (by simp)]
    | [],_,_=>rfl
    | _::_::_,_,_=>rfl
    | [_],[],_=>rfl
    | [_],_::_::_,_=>rfl
   | clear =>
    match args,ts,hv' with
    | [x],[T],hv'=>simp only[vcR,hv' x (by simp)]
    | [],_,_=>rfl
    | _::_::_,_,_=>rfl
    | [_],[],_=>rfl
    | [_],_::_::_,_=>rfl
   | max =>
    match args,hv' with
    | [x,y],hv'=>simp only[vcR,hv' x (by simp),hv' y (by simp)]
    | [],_=>rfl
    | [_],_=>rfl
    | _::_::_::_,_=>rfl
   | min =>
    match args,hv' with
    | [x,y],hv'=>simp only[vcR,hv' x (by simp),hv' y (by simp)]
    | [],_=>rfl
    | [_],_=>rfl
    | _::_::_::_,_=>rfl
   | _=>rfl
 | defer cc =>
  obtain⟨f,args,ts⟩:=cc
  cases f with
  | value f=>simp only[vcR,hv f (by simp[Op.operands,Call.operands]),yGx (l:=args.toList) (fun x hx=>hv x (by simp[Op.operands,Call.operands]; exact .inr (by simpa using hx)))]
  | _=>rfl
 | makeMap T r=>cases r<;>rfl
 | insert T x y z=>simp only[vcR,hv x (by simp[Op.operands]),hv y (by simp[Op.operands]),hv z (by simp[Op.operands])]
 | makeSlice T x y=>simp only[vcR,hv x (by simp[Op.operands]),hv y (by simp[Op.operands])]
 | _=>rfl
def yXu (c:Cf)(ops:List Oper)(o:Oper)(R:Rt)(ad:Ad)(fr:Fr)(st:ISt)(ds:List Dfd):Prop :=
 match o.guard with
 | none=>vcR c o.dst o.op R ad fr st ds
 | some (j,want)=>match yVw ops j with
  | some d=>match fr d with
   | .iv (.raw (.bool b))=>if b=want then vcR c o.dst o.op R ad fr st ds else R (.val (.raw undef)) st ds
   | .iv (.raw (.tuple _))=>R (.val (.raw undef)) st ds
   | _=>False
  | none=>False
def yZv (c:Cf)(ops:List Oper)(o:Oper)(K:Kt):Kt:=fun ad fr st ds=>yXu c ops o (finK o.dst K ad fr) ad fr st ds
def vcK (c:Cf)(ops:List Oper):List Oper→Kt→Kt
 | [],K=>K
 | o::l,K=>yZv c ops o (vcK c ops l K)
theorem zWh {c:Cf}{ops l l':List Oper}{K:Kt}:vcK c ops (l++l') K=vcK c ops l (vcK c ops l' K):=by
 induction l with
 | nil=>rfl
 | cons o l ih=>rw[List.cons_append,vcK,vcK,ih]
theorem zUy {c:Cf}{ops:List Oper}{Q:Fr→ISt→List Dfd→Prop}:∀ {l:List Oper} {ad:Ad} {fr:Fr} {st:ISt} {ds:List Dfd},yJk c ops l Q ad fr st ds→vcK c ops l (fun _ fr st ds=>Q fr st ds) ad fr st ds
 | [],_,_,_,_,h=>h
 | o::l,ad,fr,st,ds,h=>by
  have hk:∀ ad fr st ds,yJk c ops l Q ad fr st ds→vcK c ops l (fun _ fr st ds=>Q fr st ds) ad fr st ds:=fun _ _ _ _=>zUy
  have hfin:∀ pr st ds,finK o.dst (yJk c ops l Q) ad fr pr st ds→finK o.dst (vcK c ops l (fun _ fr st ds=>Q fr st ds)) ad fr pr st ds:=by
   intro pr st ds
   cases pr<;>cases o.dst<;>simp only[finK]<;>first | exact hk _ _ _ _ | exact id | (split<;>first | exact id | exact hk _ _ _ _)
  unfold yJk at h
  change yXu c ops o (finK o.dst (vcK c ops l (fun _ fr st ds=>Q fr st ds)) ad fr) ad fr st ds
  unfold yXu
  split at h
  ·rename_i hg
   rw[hg]
   exact yGh hfin h
  ·rename_i j want hg
   rw[hg]
   simp only[yVw]
   cases hd:(ops[j]?).bind (·.dst) with
   | none=>rw[hd] at h; exact h.elim
   | some d =>
    rw[hd] at h
    simp only at h ⊢
    cases hs:fr d with
    | box cs=>rw[hs] at h; exact h.elim
    | iv x =>
     cases x with
     | raw v =>
      cases v with
      | bool b =>
       rw[hs,xZp fr d want b _ _ _ _ hs] at h
       simp only
       split
       ·exact yGh hfin (h.1 ‹_›)
       ·have hb:b=!want:=by cases b<;>cases want<;>simp_all
        exact hfin _ _ _ (h.2 hb)
      | tuple t =>
       rw[hs] at h
       exact hfin _ _ _ h
      | _=>rw[hs] at h; exact h.elim
     | _=>rw[hs] at h; exact h.elim
theorem zWl {c:Cf}{ops:List Oper}{o:Oper}{R R':Rt}(h:∀ pr st ds,R pr st ds→R' pr st ds){ad:Ad}{fr:Fr}{st:ISt}{ds:List Dfd}:yXu c ops o R ad fr st ds→yXu c ops o R' ad fr st ds:=by
 unfold yXu
 split
 ·exact yGh h
 ·split
  ·split
   ·split
    ·exact yGh h
    ·exact h _ _ _
   ·exact h _ _ _
   ·exact id
  ·exact id
theorem wZb {c:Cf}(hdr:c.dr=true){ops:List Oper}{o:Oper}{ad:Ad}{fr:Fr}(hp:zW5 c.esc o.dst o.op=true):Lin (fun R st ds=>yXu c ops o R ad fr st ds):=by
 cases hg:o.guard with
 | none=>simp only[yXu,hg]; exact xJw hdr hp
 | some p =>
  obtain⟨j,want⟩:=p
  cases hd:yVw ops j with
  | none=>simp only[yXu,hg,hd]; exact yZr
  | some d =>
   cases hs:fr d with
   | box cs=>simp only[yXu,hg,hd,hs]; exact yZr
   | iv x =>
    cases x with
    | raw v =>
     cases v with
     | bool b=>simp only[yXu,hg,hd,hs]; exact yK2 (xJw hdr hp) (yXh _)
     | tuple t=>simp only[yXu,hg,hd,hs]; exact yXh _
     | _=>simp only[yXu,hg,hd,hs]; exact yZr
    | _=>simp only[yXu,hg,hd,hs]; exact yZr
def LinS (st:ISt)(F:Rt→ISt→List Dfd→Prop):Prop:=(∃ pr,∀ R ds,F R st ds↔R pr st ds)∨(∀ R ds,¬ F R st ds)
theorem yKy {F:Rt→ISt→List Dfd→Prop}(h:Lin F)(st:ISt):LinS st F:=by
 rcases h with⟨pr,h⟩ | h
 ·exact .inl ⟨pr,fun R ds=>h R st ds⟩
 ·exact .inr fun R ds=>h R st ds
theorem wZi {c:Cf}{dst:Option Nat}{T:TypeId}{x:Operand}{ad:Ad}{fr:Fr}(st:ISt):LinS st (fun R st ds=>vcR c dst (.load T x) R ad fr st ds):=by
 simp only[vcR]
 cases tyI c.P T with
 | none=>exact yKy yZr st
 | some i =>
  cases evA c.gl ad fr x with
  | none=>exact yKy yZr st
  | some p =>
   simp only[yVd]
   cases p with
   | box t off=>exact yKy (xW8 fun _=>yQe fun _=>yXh _) st
   | cp y=>exact yKy (yK2 (yXh _) yZr) st
   | ptr b off =>
    simp only[zQq]
    cases hl:ldr c.dr c.esc dst with
    | true=>simp only[if_true]; exact yKy yZr st
    | false =>
     simp only[bFt,if_false]
     cases hb:st b with
     | none=>exact .inr fun R ds h=>by simp only[hb] at h; exact h
     | some o =>
      cases o with
      | box cs =>
       cases hp:yKo i.1 i.2 cs off with
       | none=>exact .inr fun R ds h=>by simp only[hb,yVd,obV,hp] at h; exact h
       | some y=>exact .inl ⟨.val y,fun R ds=>by simp only[hb,yVd,obV,hp]⟩
      | _=>exact .inr fun R ds h=>by simp only[hb,yVd,obV] at h
theorem xW9 {c:Cf}(hdr:c.dr=true){dst:Option Nat}{op:Op}{ad:Ad}{fr:Fr}(hp:yJy c.esc dst op=true)(st:ISt):LinS st (fun R st ds=>vcR c dst op R ad fr st ds):=by
 unfold yJy at hp
 rw[Bool.or_eq_true] at hp
 rcases hp with hp | hp
 ·exact yKy (xJw hdr hp) st
 ·cases op<;>first | exact wZi st | cases hp
theorem zY9 {c:Cf}(hdr:c.dr=true){ops:List Oper}{o:Oper}{ad:Ad}{fr:Fr}(hp:yJy c.esc o.dst o.op=true)(st:ISt):LinS st (fun R st ds=>yXu c ops o R ad fr st ds):=by
 cases hg:o.guard with
 | none=>simp only[yXu,hg]; exact xW9 hdr hp st
 | some p =>
  obtain⟨j,want⟩:=p
  cases hd:yVw ops j with
  | none=>simp only[yXu,hg,hd]; exact yKy yZr st
  | some d =>
   cases hs:fr d with
   | box cs=>simp only[yXu,hg,hd,hs]; exact yKy yZr st
   | iv x =>
    cases x with
    | raw v =>
     cases v with
     | bool b =>
      simp only[yXu,hg,hd,hs]
      by_cases hb:b=want
      ·simp only[if_pos hb]; exact xW9 hdr hp st
      ·simp only[if_neg hb]; exact yKy (yXh _) st
     | tuple t=>simp only[yXu,hg,hd,hs]; exact yKy (yXh _) st
     | _=>simp only[yXu,hg,hd,hs]; exact yKy yZr st
    | _=>simp only[yXu,hg,hd,hs]; exact yKy yZr st
def yVt (ops:List Oper)(o:Oper)(fr fr':Fr):Prop:=∀ j want d,o.guard=some (j,want)→yVw ops j=some d→fr d=fr' d∨(∃ cs cs',fr d=.box cs∧fr' d=.box cs')
theorem yWv {c:Cf}{ops:List Oper}{o:Oper}{R:Rt}{ad ad':Ad}{fr fr':Fr}{st:ISt}{ds:List Dfd}(h:SameAt c o.op ad ad' fr fr')(hg:yVt ops o fr fr'):yXu c ops o R ad fr st ds=yXu c ops o R ad' fr' st ds:=by
 unfold yXu
 rw[xUi h]
 cases hgo:o.guard with
 | none=>rfl
 | some p =>
  obtain⟨j,want⟩:=p
  cases hd:yVw ops j with
  | none=>simp only[hd]
  | some d =>
   simp only[hd]
   rcases hg j want d hgo hd with he | ⟨cs,cs',h1,h2⟩
   ·rw[he]
   ·rw[h1,h2]
def wV8:Op→Bool
 | .fieldAddr ..=>true
 | .indexAddr ..=>true
 | _=>false
structure Fine (c:Cf)(op:Op)(ad:Ad)(fr:Fr)(pr:PR):Prop where
 isA:∀ t off,pr=.adr t off→c.dr=true→wV8 op=true
 adr:∀ t off,pr=.adr t off→∃ x∈op.operands,∃ off',evA c.gl ad fr x=some (.box t off')
 sto:∀ t cs,pr=.sto t cs→yW7 op=true∧(∃ cs0,fr t=.box cs0)∧∃ x∈op.operands,∃ off',evA c.gl ad fr x=some (.box t off')
theorem yJ3 {c:Cf}{op:Op}{ad:Ad}{fr:Fr}{x:IV}:Fine c op ad fr (.val x):=⟨(fun _ _ h=>by cases h),(fun _ _ h=>by cases h),(fun _ _ h=>by cases h)⟩
theorem wVf {c:Cf}{op:Op}{ad:Ad}{fr:Fr}{x:List IV}:Fine c op ad fr (.box x):=⟨(fun _ _ h=>by cases h),(fun _ _ h=>by cases h),(fun _ _ h=>by cases h)⟩
theorem xWw {c:Cf}{op:Op}{ad:Ad}{fr:Fr}:Fine c op ad fr .nop:=⟨(fun _ _ h=>by cases h),(fun _ _ h=>by cases h),(fun _ _ h=>by cases h)⟩
theorem xWv {c:Cf}{op:Op}{R:Rt}{ad:Ad}{fr:Fr}{st:ISt}{ds:List Dfd}{x:Operand}{p:Pl}(hdr:¬ c.dr=true)(hx:x∈op.operands)(hp:evA c.gl ad fr x=some p):plR p R st ds→plR p (fun pr st ds=>R pr st ds∧Fine c op ad fr pr) st ds:=by
 cases p with
 | box t off=>exact fun h=>⟨h,⟨(fun _ _ _ h0=>(hdr h0).elim),fun t' off' he=>by cases he; exact⟨x,hx,off,hp⟩,fun _ _ h=>by cases h⟩⟩
 | ptr b off=>exact fun h=>⟨h,yJ3⟩
 | cp y=>exact fun h=>⟨h,yJ3⟩
theorem zYi {c:Cf}{op:Op}{R:Rt}{ad:Ad}{fr:Fr}{st:ISt}{ds:List Dfd}{x:Operand}(hx:x∈op.operands)(o:Option IV) :
  zZq c.dr o (evA c.gl ad fr x) R st ds→zZq c.dr o (evA c.gl ad fr x) (fun pr st ds=>R pr st ds∧Fine c op ad fr pr) st ds:=by
 unfold zZq
 split
 ·exact fun h=>⟨h,yJ3⟩
 ·split
  ·exact id
  ·intro h
   obtain⟨p,hp,h⟩:=yQ5.1 h
   exact yQ5.2 ⟨p,hp,xWv ‹_› hx hp h⟩
set_option maxHeartbeats 1000000 in
theorem xV1 {c:Cf}{dst:Option Nat}{op:Op}{R:Rt}{ad:Ad}{fr:Fr}{st:ISt}{ds:List Dfd}:vcR c dst op R ad fr st ds→vcR c dst op (fun pr st ds=>R pr st ds∧Fine c op ad fr pr) ad fr st ds:=by
 by_cases h1:∃ x,op=.move x∨op=.assign x
 ·obtain⟨x,rfl | rfl⟩:=h1
  ·exact zYi (by simp[Op.operands]) _
  ·exact zYi (by simp[Op.operands]) _
 by_cases h2:∃ x,op=.nilCheck x
 ·obtain⟨x,rfl⟩:=h2
  simp only[vcR,nilV]
  split
  ·exact yK4 (fun h=>⟨h,yJ3⟩) id
  ·exact fun h=>⟨h,yJ3⟩
  ·split
   ·exact id
   ·intro h
    obtain⟨p,hp,h⟩:=yQ5.1 h
    exact yQ5.2 ⟨p,hp,xWv ‹_› (by simp[Op.operands]) hp h⟩
 by_cases h3:∃ T x i,op=.fieldAddr T x i
 ·obtain⟨T,x,i,rfl⟩:=h3
  simp only[vcR]
  refine yZu fun f=>fun h=>?_
  obtain⟨p,hp,h⟩:=yQ5.1 h
  refine yQ5.2 ⟨p,hp,?_⟩
  cases p with
  | box t off=>exact⟨h,⟨(fun _ _ _ _=>rfl),fun t' off' he=>by cases he; exact⟨x,by simp[Op.operands],off,hp⟩,fun _ _ h=>by cases h⟩⟩
  | ptr b off=>exact⟨h,yJ3⟩
  | cp y=>exact zJb (fun _=>yZu fun _=>yK4 (fun h=>⟨h,yJ3⟩) id) h
 by_cases h4:∃ T x y,op=.indexAddr T x y
 ·obtain⟨T,x,y,rfl⟩:=h4
  simp only[vcR]
  refine yZu fun _=>zU5 fun _ j=>yZu fun k=>?_
  cases k with
  | sl=>exact yZu fun _=>yZu fun _=>xK3 (fun _ _=>yK4 (yK4 (yZu fun _=>fun h=>⟨h,yJ3⟩) id) id) (fun _ _ _=>yK4 (fun h=>⟨h,yJ3⟩) id)
  | arr n =>
   refine yZu fun _=>fun h=>?_
   obtain⟨p,hp,h⟩:=yQ5.1 h
   refine yQ5.2 ⟨p,hp,yK4 (yK4 ?_ id) id h⟩
   cases p with
   | box t off=>exact fun h=>⟨h,⟨(fun _ _ _ _=>rfl),fun t' off' he=>by cases he; exact⟨x,by simp[Op.operands],off,hp⟩,fun _ _ h=>by cases h⟩⟩
   | ptr b off=>exact fun h=>⟨h,yJ3⟩
   | cp y=>exact zJb (fun _=>yZu fun _=>yK4 (fun h=>⟨h,yJ3⟩) id)
  | str=>exact id
  | map=>exact id
 by_cases h5:∃ T x y,op=.store T x y
 ·obtain⟨T,x,y,rfl⟩:=h5
  simp only[vcR]
  refine yZu fun _=>yZu fun _=>xK6 fun h=>?_
  obtain⟨p,hp,h⟩:=yQ5.1 h
  refine yQ5.2 ⟨p,hp,?_⟩
  revert h
  cases p with
  | box t off =>
   simp only[yYn]
   cases hf:fr t with
   | box cs=>exact yK4 (fun h=>⟨h,⟨(fun _ _ h=>by cases h),(fun _ _ h=>by cases h),fun t' cs' he=>by cases he; exact⟨rfl,⟨cs,hf⟩,x,by simp[Op.operands],off,hp⟩⟩⟩) id
   | iv x=>exact id
  | ptr b off=>exact yZu fun _=>xK4 fun _=>yK4 (fun h=>⟨h,xWw⟩) id
  | cp y=>exact id
 have hv:∀ x st ds,R (.val x) st ds→R (.val x) st ds∧Fine c op ad fr (.val x):=fun x st ds h=>⟨h,yJ3⟩
 have hb:∀ x st ds,R (.box x) st ds→R (.box x) st ds∧Fine c op ad fr (.box x):=fun x st ds h=>⟨h,wVf⟩
 have hn:∀ st ds,R .nop st ds→R .nop st ds∧Fine c op ad fr .nop:=fun st ds h=>⟨h,xWw⟩
 generalize Fine c op ad fr=F at hv hb hn ⊢
 unfold vcR
 split
 all_goals first
  | exact absurd ⟨_,.inl rfl⟩ h1 | exact absurd ⟨_,.inr rfl⟩ h1 | exact absurd ⟨_,rfl⟩ h2 | exact absurd ⟨_,_,_,rfl⟩ h3 | exact absurd ⟨_,_,_,rfl⟩ h4 | exact absurd ⟨_,_,_,rfl⟩ h5
  | repeat (first
   | exact hv _ _ _ | exact hb _ _ _ | exact hn _ _ | exact id
   | refine yZu fun _=>?_ | refine xK6 ?_ | refine wZy ?_ | refine wZz ?_ | refine wX0 fun _=>?_ | refine zKo ?_ ?_ | refine yK4 ?_ ?_
   | refine xWj fun _=>?_ | refine xK4 fun _=>?_ | refine wZx fun _ _=>?_ | refine zU5 fun _ _=>?_ | refine zKp fun _=>?_ | refine wZw fun _ _=>?_ | refine xK3 (fun _ _=>?_) (fun _ _ _=>?_) | refine wZv (fun _ _=>?_) (fun _ _ _ _=>?_) | refine xWk ?_ ?_
   | refine zJb fun _=>?_ | refine xWg fun _=>?_ | refine xK5 fun _ _ _=>?_ | refine xWi fun _=>?_ | refine xWh fun _=>?_
   | (refine fun hh=>callV.mono hh fun _ _=>?_; unfold zVf)
   | unfold yY4 | unfold yYf | unfold zGw | unfold zQq | unfold yYq | unfold zKm | unfold zZs | unfold yYm | unfold lenV | unfold appV | unfold appO | unfold appZ | unfold capV | unfold zYl | unfold xJt | unfold zUn
   | split)
def yWr (ad:Ad)(d:Nat):Prop:=∀ x t off,ad x=some (t,off)→t≠d
theorem xK0 {ad:Ad}{d:Nat}(h:yWr ad d)(s:Nat):Ad.keep d (ad s)=ad s:=by
 cases ha:ad s with
 | none=>rfl
 | some p =>
  obtain⟨t,off⟩:=p
  simp only[Ad.keep,if_neg (h s t off ha)]
theorem xWy {c:Cf}{ad:Ad}{fr:Fr}{x:Operand}{t off d:Nat}(h:evA c.gl ad fr x=some (.box t off))(hb:yWr ad d)(hx:x≠.tmp d):t≠d:=by
 cases x with
 | tmp y =>
  simp only[evA] at h
  cases ha:ad y with
  | some p =>
   obtain⟨t',off'⟩:=p
   rw[ha] at h
   simp only[plAd,Option.some.injEq,Pl.box.injEq] at h
   exact h.1▸hb y t' off' ha
  | none =>
   rw[ha] at h
   simp only[plAd] at h
   cases hf:fr y with
   | box cs =>
    rw[hf] at h
    simp only[plOf,Option.some.injEq,Pl.box.injEq] at h
    rintro rfl
    exact hx (by rw[h.1])
   | iv z =>
    rw[hf] at h
    exfalso
    cases z with
    | raw u =>
     cases u with
     | pointer p =>
      cases p with
      | none=>cases h
      | some p =>
       obtain⟨pb,po,ps⟩:=p
       cases ps<;>cases h
     | _=>cases h
    | _=>cases h
 | global g=>simp only[evA] at h; cases hg:c.gl g<;>rw[hg] at h<;>cases h
 | const v=>cases h
 | func f=>cases h
theorem xYo {c:Cf}{op:Op}{ad:Ad}{fr:Fr}{d:Nat}{a:Option (Nat×Nat)}{s:SV}(hd:∀ x∈op.operands,x≠.tmp d)(hb:yWr ad d):SameAt c op ad (ad.put d a) fr (fr.put d s):=by
 refine⟨fun x hx=>?_,fun x hx=>?_,fun _ x hx t off he=>?_⟩
 ·cases x with
  | tmp y=>rw[zUg,zUg,Fr.put_apply,if_neg (fun h=>hd _ hx (by rw[h]))]
  | _=>rfl
 ·cases x with
  | tmp y =>
   have hy:y≠d:=fun h=>hd _ hx (by rw[h])
   simp only[evA,Ad.put_apply,if_neg hy,xK0 hb]
   cases ad y with
   | none=>simp only[plAd,Fr.put_apply,if_neg hy]
   | some p=>rfl
  | _=>rfl
 ·rw[Fr.put_apply,if_neg (xWy he hb (hd x hx))]
theorem xYn {c:Cf}{op:Op}{ad:Ad}{fr:Fr}{t:Nat}{cs cs':List IV}(ht:fr t=.box cs)(h:(zQy op || yW7 op)=false):SameAt c op ad ad fr (fr.put t (.box cs')):=by
 refine⟨fun x _=>?_,fun x _=>?_,fun h'=>by rw[h] at h'; cases h'⟩
 ·cases x with
  | tmp y =>
   rw[zUg,zUg,Fr.put_apply]
   split
   ·rename_i hy; rw[hy,ht]; rfl
   ·rfl
  | _=>rfl
 ·cases x with
  | tmp y =>
   simp only[evA]
   cases ad y with
   | none =>
    simp only[plAd,Fr.put_apply]
    split
    ·rename_i hy; rw[hy,ht]; rfl
    ·rfl
   | some p=>rfl
  | _=>rfl
theorem zGg {ops:List Oper}{o:Oper}{fr:Fr}{d:Nat}{s:SV}(h:d ∉ looks ops o):yVt ops o fr (fr.put d s):=by
 intro j want e hg he
 refine .inl ?_
 rw[Fr.put_apply,if_neg]
 rintro rfl
 exact h (List.mem_append_right _ (by rw[hg]; simp[he]))
theorem zGf {ops:List Oper}{o:Oper}{fr:Fr}{t:Nat}{cs cs':List IV}(ht:fr t=.box cs):yVt ops o fr (fr.put t (.box cs')):=by
 intro j want e _ _
 rw[Fr.put_apply]
 by_cases he:e=t
 ·rw[if_pos he,he]; exact .inr ⟨cs,cs',ht,rfl⟩
 ·rw[if_neg he]; exact .inl rfl
theorem xZ8 {ops:List Oper}{o:Oper}{d:Nat}(h:d ∉ looks ops o):∀ x∈o.op.operands,x≠.tmp d:=by
 rintro x hx rfl
 exact h (List.mem_append_left _ (List.mem_filterMap.2 ⟨.tmp d,by simpa using hx,rfl⟩))
def after (dst:Option Nat)(pr:PR)(ad:Ad)(fr:Fr):Option (Ad×Fr) :=
 match pr,dst with
 | .val x,some d=>some (ad.put d none,fr.put d (.iv x))
 | .val _,none=>some (ad,fr)
 | .adr t off,some d=>if d=t then none else some (ad.put d (some (t,off)),fr.put d (.iv .junk))
 | .adr _ _,none=>some (ad,fr)
 | .box cs,some d=>some (ad.put d none,fr.put d (.box cs))
 | .box _,none=>none
 | .sto _ _,some _=>none
 | .sto t cs,none=>some (ad,fr.put t (.box cs))
 | .nop,some _=>none
 | .nop,none=>some (ad,fr)
theorem yXx {dst:Option Nat}{K:Kt}{ad:Ad}{fr:Fr}{pr:PR}{st:ISt}{ds:List Dfd}:finK dst K ad fr pr st ds↔∃ p,after dst pr ad fr=some p∧K p.1 p.2 st ds:=by
 cases pr<;>cases dst<;>simp only[finK,after,Option.some.injEq,exists_eq_left',reduceCtorEq,false_and,exists_false]
 split<;>simp
theorem yGk {c:Cf}{ops:List Oper}{o:Oper}{R:Rt}{ad:Ad}{fr:Fr}{st:ISt}{ds:List Dfd}(h:yXu c ops o R ad fr st ds):yXu c ops o (fun pr st ds=>R pr st ds∧Fine c o.op ad fr pr) ad fr st ds:=by
 unfold yXu at *
 split
 ·exact xV1 (by simpa[*] using h)
 ·rename_i j want hg
  rw[hg] at h
  simp only at h
  split at h
  ·rename_i d hd
   cases hs:fr d with
   | box cs=>rw[hs] at h; exact h.elim
   | iv x =>
    cases x with
    | raw v =>
     cases v with
     | bool b =>
      rw[hs] at h
      simp only at h ⊢
      split
      ·rename_i hw; rw[if_pos hw] at h; exact xV1 h
      ·rename_i hw; rw[if_neg hw] at h; exact⟨h,yJ3⟩
     | tuple t=>rw[hs] at h; exact⟨h,yJ3⟩
     | _=>rw[hs] at h; exact h.elim
    | _=>rw[hs] at h; exact h.elim
  ·exact h.elim
structure Ap (c:Cf)(ops:List Oper)(x y:Oper):Prop where
 pure:yJy c.esc x.dst x.op=true∨yJy c.esc y.dst y.op=true
 ls:zQy x.op=true→yW7 y.op=true→False
 sl:yW7 x.op=true→zQy y.op=true→False
 d:∀ d,x.dst=some d→d ∉ looks ops y∧y.dst≠some d
 e:∀ d,y.dst=some d→d ∉ looks ops x
theorem Ap.symm {c:Cf}{ops:List Oper}{x y:Oper}(h:Ap c ops x y):Ap c ops y x :=
 ⟨h.pure.symm,fun a b=>h.sl b a,fun a b=>h.ls b a,fun d hd=>⟨h.e d hd,fun hx=>(h.d d hx).2 hd⟩,fun d hd=>(h.d d hd).1⟩
theorem xQu {esc:List Nat}{dst:Option Nat}{op:Op}(h:zW5 esc dst op=true):yW7 op=false:=by
 cases op<;>first | rfl | simp[zW5] at h
theorem yV2 {esc:List Nat}{dst:Option Nat}{op:Op}(h:yJy esc dst op=true):yW7 op=false:=by
 unfold yJy at h
 rw[Bool.or_eq_true] at h
 rcases h with h | h
 ·exact xQu h
 ·cases op<;>first | rfl | cases h
theorem uG1 {c:Cf}{ops:List Oper}{x y:Oper}(h:wXw c.esc ops x y=true):Ap c ops x y:=by
 unfold wXw at h
 simp only[bAt,Bool.or_eq_true,Bool.not_eq_true',Bool.and_eq_false_iff] at h
 obtain⟨⟨⟨⟨h1,h2⟩,h3⟩,h4⟩,h5⟩:=h
 refine⟨h1,fun a b=>by rcases h2 with h2 | h2<;>simp_all,fun a b=>by rcases h3 with h3 | h3<;>simp_all,fun d hd=>?_,fun d hd=>?_⟩
 ·rw[hd] at h4
  simp only[bAt,Bool.not_eq_true'] at h4
  exact⟨by simpa using h4.1,by simpa using h4.2⟩
 ·rw[hd] at h5
  simpa using h5
theorem yGn {c:Cf}{ops:List Oper}{x y:Oper}(h:Ap c ops x y){ad:Ad}{fr:Fr}{pr:PR}{p:Ad×Fr}(hb:∀ d,x.dst=some d→yWr ad d)(hf:Fine c x.op ad fr pr)(ha:after x.dst pr ad fr=some p) :
  SameAt c y.op ad p.1 fr p.2∧yVt ops y fr p.2:=by
 have refl:SameAt c y.op ad ad fr fr∧yVt ops y fr fr:=⟨⟨fun _ _=>rfl,fun _ _=>rfl,fun _ _ _ _ _ _=>rfl⟩,fun _ _ _ _ _=>.inl rfl⟩
 cases hx:x.dst with
 | none =>
  rw[hx] at ha
  cases pr with
  | sto t cs =>
   simp only[after,Option.some.injEq] at ha
   subst ha
   obtain⟨hs,⟨cs0,ht⟩,_⟩:=hf.sto t cs rfl
   have hl:zQy y.op=false:=by
    cases hq:zQy y.op with
    | false=>rfl
    | true=>exact (h.sl hs hq).elim
   have hst:yW7 y.op=false:=by
    rcases h.pure with hp | hp
    ·rw[yV2 hp] at hs; cases hs
    ·exact yV2 hp
   exact⟨xYn ht (by rw[hl,hst]; rfl),zGf ht⟩
  | _=>simp only[after,Option.some.injEq,reduceCtorEq] at ha<;>subst ha<;>exact refl
 | some d =>
  rw[hx] at ha
  have hd:=h.d d hx
  have key:∀ a s,SameAt c y.op ad (ad.put d a) fr (fr.put d s)∧yVt ops y fr (fr.put d s):=fun a s=>⟨xYo (xZ8 hd.1) (hb d hx),zGg hd.1⟩
  cases pr with
  | adr t off =>
   simp only[after] at ha
   split at ha
   ·cases ha
   ·cases ha; exact key _ _
  | _=>simp only[after,Option.some.injEq,reduceCtorEq] at ha<;>subst ha<;>exact key _ _
theorem zGj {fr:Fr}{d e:Nat}{s t:SV}(h:d≠e):(fr.put d s).put e t=(fr.put e t).put d s:=by
 funext x
 simp only[Fr.put_apply]
 by_cases h1:x=e
 ·rw[if_pos h1,if_neg (fun h2=>h (by rw[← h2,h1])),if_pos h1]
 ·rw[if_neg h1,if_neg h1]
theorem wZp {d e:Nat}(o:Option (Nat×Nat)):Ad.keep d (Ad.keep e o)=Ad.keep e (Ad.keep d o):=by
 cases o with
 | none=>rfl
 | some p =>
  obtain⟨t,off⟩:=p
  by_cases h1:t=e
  ·by_cases h2:t=d
   ·simp only[Ad.keep,if_pos h1,if_pos h2]
   ·simp only[Ad.keep,if_pos h1,if_neg h2]
  ·by_cases h2:t=d
   ·simp only[Ad.keep,if_neg h1,if_pos h2]
   ·simp only[Ad.keep,if_neg h1,if_neg h2]
theorem xU3 {ad:Ad}{d e:Nat}{a b:Option (Nat×Nat)}(h:d≠e)(ha:Ad.keep e a=a)(hb:Ad.keep d b=b):(ad.put d a).put e b=(ad.put e b).put d a:=by
 funext x
 simp only[Ad.put_apply]
 by_cases h1:x=e
 ·have h2:x≠d:=fun h2=>h (by rw[← h2,h1])
  rw[if_pos h1,if_neg h2,if_pos h1,hb]
 ·by_cases h2:x=d
  ·rw[if_neg h1,if_pos h2,if_pos h2,ha]
  ·rw[if_neg h1,if_neg h2,if_neg h2,if_neg h1,wZp]
theorem zZ3 {c:Cf}{ops:List Oper}{y:Oper}{d:Nat}{ad:Ad}{fr:Fr}(hd:d ∉ looks ops y)(hb:yWr ad d){t:Nat}(h:∃ x∈y.op.operands,∃ off',evA c.gl ad fr x=some (.box t off')):t≠d:=by
 obtain⟨x,hx,off',he⟩:=h
 exact xWy he hb (xZ8 hd x hx)
theorem yU3 {d:Nat}{pr:PR}{ad:Ad}{fr:Fr}{p:Ad×Fr}(h:after (some d) pr ad fr=some p):∃ a s,p=(ad.put d a,fr.put d s)∧(∀ ad' fr',after (some d) pr ad' fr'=some (ad'.put d a,fr'.put d s)) ∧
  (a=none∨∃ t off,pr=.adr t off∧a=some (t,off)):=by
 cases pr with
 | val x=>cases h; exact⟨_,_,rfl,fun _ _=>rfl,.inl rfl⟩
 | box x=>cases h; exact⟨_,_,rfl,fun _ _=>rfl,.inl rfl⟩
 | adr t off =>
  simp only[after] at h
  split at h
  ·cases h
  ·rename_i hne
   cases h
   exact⟨_,_,rfl,fun _ _=>if_neg hne,.inr ⟨t,off,rfl,rfl⟩⟩
 | sto t cs=>cases h
 | nop=>cases h
theorem zYs {c:Cf}{ops:List Oper}{x y:Oper}(h:Ap c ops x y){ad:Ad}{fr:Fr}{px py:PR}{p q:Ad×Fr}(hbx:∀ d,x.dst=some d→yWr ad d)(hby:∀ d,y.dst=some d→yWr ad d)
  (hfx:Fine c x.op ad fr px) (hfy:Fine c y.op ad fr py) (hp:after x.dst px ad fr=some p) (hq:after y.dst py ad fr=some q) :
  ∃ r,after y.dst py p.1 p.2=some r∧after x.dst px q.1 q.2=some r:=by
 have hkx:∀ d t off,x.dst=some d→py=.adr t off→Ad.keep d (some (t,off))=some (t,off):=fun d t off hd he=>by
  simp only[Ad.keep,if_neg (zZ3 (h.d d hd).1 (hbx d hd) (hfy.adr t off he))]
 have hky:∀ d t off,y.dst=some d→px=.adr t off→Ad.keep d (some (t,off))=some (t,off):=fun d t off hd he=>by
  simp only[Ad.keep,if_neg (zZ3 (h.e d hd) (hby d hd) (hfx.adr t off he))]
 have hsx:∀ d t cs,x.dst=some d→py=.sto t cs→t≠d:=fun d t cs hd he=>zZ3 (h.d d hd).1 (hbx d hd) (hfy.sto t cs he).2.2
 have hsy:∀ d t cs,y.dst=some d→px=.sto t cs→t≠d:=fun d t cs hd he=>zZ3 (h.e d hd) (hby d hd) (hfx.sto t cs he).2.2
 have hss:∀ t cs t' cs',px=.sto t cs→py=.sto t' cs'→False:=fun t cs t' cs' h1 h2=>by
  have a:=(hfx.sto t cs h1).1
  have b:=(hfy.sto t' cs' h2).1
  rcases h.pure with hq | hq
  ·rw[yV2 hq] at a; cases a
  ·rw[yV2 hq] at b; cases b
 cases hx:x.dst with
 | none =>
  cases hy:y.dst with
  | none =>
   rw[hx] at hp; rw[hy] at hq
   cases px<;>cases py<;>simp only[after,Option.some.injEq,reduceCtorEq] at hp hq<;>subst hp hq<;>first | exact⟨_,rfl,rfl⟩ | exact (hss _ _ _ _ rfl rfl).elim
  | some e =>
   rw[hx] at hp; rw[hy] at hq
   cases px with
   | sto t cs =>
    have ht:=hsy e t cs hy rfl
    simp only[after,Option.some.injEq] at hp
    subst hp
    cases py with
    | adr t' off =>
     simp only[after] at hq
     split at hq
     ·cases hq
     ·rename_i hne
      cases hq
      exact⟨_,if_neg hne,by simp only[after]; rw[zGj (fun h=>ht h.symm)]⟩
    | _=>simp only[after,Option.some.injEq,reduceCtorEq] at hq<;>subst hq<;>exact⟨_,rfl,by simp only[after]; rw[zGj (fun h=>ht h.symm)]⟩
   | _=>simp only[after,Option.some.injEq,reduceCtorEq] at hp<;>subst hp<;>exact⟨_,hq,rfl⟩
 | some d =>
  rw[hx] at hp
  obtain⟨a,s,rfl,hall,ha⟩:=yU3 hp
  cases hy:y.dst with
  | none =>
   rw[hy] at hq
   cases py with
   | sto t cs =>
    have ht:=hsx d t cs hx rfl
    cases hq
    exact⟨_,rfl,by rw[hall,zGj ht]⟩
   | box cs=>cases hq
   | _=>cases hq; exact⟨_,rfl,hall _ _⟩
  | some e =>
   rw[hy] at hq
   obtain⟨b,s',rfl,hall',hb⟩:=yU3 hq
   have hde:d≠e:=fun h0=>(h.d d hx).2 (by rw[hy,h0])
   have hka:Ad.keep e a=a:=by
    rcases ha with rfl | ⟨t,off,h1,rfl⟩
    ·rfl
    ·exact hky e t off hy h1
   have hkb:Ad.keep d b=b:=by
    rcases hb with rfl | ⟨t,off,h1,rfl⟩
    ·rfl
    ·exact hkx d t off hx h1
   exact⟨_,hall' _ _,by rw[hall,zGj hde,xU3 hde hka hkb]⟩
end Go.Iv
