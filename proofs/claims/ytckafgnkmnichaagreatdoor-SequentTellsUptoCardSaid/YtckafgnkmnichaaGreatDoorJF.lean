/- The layer of ideal values, part O: regio -/
import Derived.Test.YtckafgnkmnichaaGreatDoorJE
set_option linter.all false
namespace Go.Iv
open Go
section
variable {α:Type} {p q p' q':Prop}
theorem yZx {o:Option α} {f g:α → Prop} (h:∀ x,f x → g x):yQ6 o f → yQ6 o g:=by
 cases o <;> simp only [yQ6] <;> first | exact h _ | exact id
theorem xXr {c:Prop} (h:p → q):chk c p → chk c q:=fun x => ⟨x.1,h x.2⟩
theorem wQl {c:Prop} (h:p → q):giv c p → giv c q:=fun x y => h (x y)
theorem wQm {c:Prop} (h:p → q):(c → p) → (c → q):=fun x y => h (x y)
theorem wQn {f g:α → Prop} (h:∀ x,f x → g x):(∀ x,f x) → (∀ x,g x):=fun hf x => h x (hf x)
theorem zJs {b:Bool} {k:Lock p} {l:Lock q} {k':Lock p'} {l':Lock q'} (h:p → p') (h':q → q'):yGp b p q k l → yGp b p' q' k' l':=fun x => ⟨fun hb => h (x.1 hb),fun hb => h' (x.2 hb)⟩
theorem yK7 {c:Prop} [Decidable c] (h:p → p') (h':q → q'):(if c then p else q) → (if c then p' else q'):=by split <;> assumption
theorem xKz {s:SV} {f g:List IV → Prop} (h:∀ x,f x → g x):boxV s f → boxV s g:=by unfold boxV; split <;> first | exact h _ | exact id
theorem xXp {s:IObj} {f g:List IV → Prop} (h:∀ x,f x → g x):obV s f → obV s g:=by unfold obV; split <;> first | exact h _ | exact id
theorem wQk {s:IObj} {f g:KeyK → List (Value × IV) → Prop} (h:∀ x y,f x y → g x y):omV s f → omV s g:=by unfold omV; split <;> first | exact h _ _ | exact id
theorem zYt {s:IV} {f g:IntKind → Int → Prop} (h:∀ x y,f x y → g x y):intV s f → intV s g:=by unfold intV; split <;> first | exact h _ _ | exact id
theorem zJt {s:IV} {f g:Bool → Prop} (h:∀ x,f x → g x):zZz s f → zZz s g:=by unfold zZz; split <;> first | exact h _ | exact id
theorem wQj {s:IV} {f g:Tag → List IV → Prop} (h:∀ x y,f x y → g x y):slV s f → slV s g:=by unfold slV; split <;> first | exact h _ _ | exact id
theorem xXo {s:IV} {f f':Tag → List IV → Prop} {g g':Nat → Nat → Nat → Prop} (h:∀ x y,f x y → f' x y) (h':∀ x y z,g x y z → g' x y z):slX s f g → slX s f' g':=by unfold slX; split <;> first | exact h _ _ | exact h' _ _ _ | exact id
theorem wQi {s:IV} {f f':Tag → List IV → Prop} {g g':Nat → Nat → Nat → Nat → Prop} (h:∀ x y,f x y → f' x y) (h':∀ x y z u,g x y z u → g' x y z u):slY s f g → slY s f' g':=by unfold slY; split <;> first | exact h _ _ | exact h' _ _ _ _ | exact id
theorem xV0 {k:Option LenK} {i:Option IntKind} {f f' g g':Prop} (h:f → f') (h':g → g'):appK k i f g → appK k i f' g':=by unfold appK; split <;> first | exact h | exact h' | exact id
theorem zXe {s:IV} {f g:List IV → Prop} (h:∀ x,f x → g x):aggV s f → aggV s g:=by unfold aggV; split <;> first | exact h _ | exact id
theorem xKw {s:IV} {f g:List IV → Prop} (h:∀ x,f x → g x):tupV s f → tupV s g:=by unfold tupV; split <;> first | exact h _ | exact id
theorem xXq {s:IV} {f g:Fn → List IV → List IV → Prop} (h:∀ x y z,f x y z → g x y z):fnV s f → fnV s g:=by unfold fnV; split <;> first | exact h _ _ _ | exact id
theorem xKy {s:IV} {f g:Option Nat → Prop} (h:∀ x,f x → g x):mapV s f → mapV s g:=by unfold mapV; split <;> first | exact h _ | exact id
theorem xKx {s:IV} {f g:Value → Prop} (h:∀ x,f x → g x):rawV s f → rawV s g:=by unfold rawV; split <;> first | exact h _ | exact id
end
section
variable {R R':Rt} (h:∀ pr st ds,R pr st ds → R' pr st ds)
include h
set_option maxHeartbeats 1000000 in
theorem yG3 {c:Cf} {dst:Option Nat} {op:Op} {ad:Ad} {fr:Fr} {st:ISt} {ds:List Dfd}:vcR c dst op R ad fr st ds → vcR c dst op R' ad fr st ds:=by
 unfold vcR
 split
 all_goals try unfold zZ0
 all_goals try unfold nilV
 all_goals repeat (first
  | exact h _ _ _ | exact id
  | refine yZx fun _ => ?_ | refine xXr ?_ | refine wQl ?_ | refine wQm ?_ | refine wQn fun _ => ?_ | refine zJs ?_ ?_ | refine yK7 ?_ ?_
  | refine xKz fun _ => ?_ | refine xXp fun _ => ?_ | refine wQk fun _ _ => ?_ | refine zYt fun _ _ => ?_ | refine zJt fun _ => ?_ | refine wQj fun _ _ => ?_ | refine xXo (fun _ _ => ?_) (fun _ _ _ => ?_) | refine wQi (fun _ _ => ?_) (fun _ _ _ _ => ?_) | refine xV0 ?_ ?_
  | refine zXe fun _ => ?_ | refine xKw fun _ => ?_ | refine xXq fun _ _ _ => ?_ | refine xKy fun _ => ?_ | refine xKx fun _ => ?_
  | (refine fun hh => callV.mono hh fun _ _ => ?_; unfold xQw)
  | unfold yWx | unfold yY7 | unfold zYm | unfold zQ6 | unfold yYg | unfold zZs | unfold xYh | unfold idxV | unfold yYi | unfold zJq | unfold zZ1 | unfold yYf | unfold lenV | unfold appV | unfold appO | unfold appZ | unfold capV | unfold zWh | unfold xWu | unfold plR
  | split)
end
def zV2 (esc:List Nat) (dst:Option Nat):Op → Bool
 | .move _ | .assign _ | .pick .. | .build .. => true
 | .buildSlice .. => !yGo esc dst
 | .load .. => !yGo esc dst
 | .nilCheck _ | .binOp .. | .unOp .. | .convert .. | .makeFunc .. | .slice .. | .fieldAddr .. | .field .. | .indexAddr .. | .index .. | .extract .. => true
 | .alloc _ | .box .. => match dst with | some d => !esc.contains d | none => false
 | .call ⟨.builtin .len,_,_⟩ | .call ⟨.builtin .max,_,_⟩ => true
 | _ => false
def zQe:Op → Bool
 | .load .. => true
 | _ => false
def yW6:Op → Bool
 | .store .. => true
 | _ => false
def yK1 (esc:List Nat) (dst:Option Nat) (op:Op):Bool:=zV2 esc dst op || zQe op
def vQc (l:List Operand):List Nat:=l.filterMap fun | .tmp t => some t | _ => none
def looks (ops:List Oper) (o:Oper):List Nat:=vQc o.op.operands.toList ++ (match o.guard with | some (j,_) => (yVv ops j).toList | none => [])
def wZh (esc:List Nat) (ops:List Oper) (x y:Oper):Bool :=
 (yK1 esc x.dst x.op || yK1 esc y.dst y.op) && !(zQe x.op && yW6 y.op) && !(zQe y.op && yW6 x.op) &&
 (match x.dst with | some d => !(looks ops y).contains d && !(y.dst == some d) | none => true) && (match y.dst with | some d => !(looks ops x).contains d | none => true)
def Lin (F:Rt → ISt → List Dfd → Prop):Prop:=(∃ pr,∀ R st ds,F R st ds ↔ R pr st ds) ∨ (∀ R st ds,¬ F R st ds)
theorem yXk (pr:PR):Lin (fun R st ds => R pr st ds):=.inl ⟨pr,fun _ _ _ => Iff.rfl⟩
theorem yZt:Lin (fun _ _ _ => False):=.inr fun _ _ _ h => h
theorem yQe {α:Type} {o:Option α} {F:α → Rt → ISt → List Dfd → Prop} (h:∀ x,Lin (F x)):Lin (fun R st ds => yQ6 o fun x => F x R st ds):=by
 cases o with
 | none => exact yZt
 | some x => exact h x
theorem yYr {c:Prop} {F:Rt → ISt → List Dfd → Prop} (h:Lin F):Lin (fun R st ds => chk c (F R st ds)):=by
 by_cases hc:c
 ·rcases h with ⟨pr,h⟩ | h
  ·exact .inl ⟨pr,fun R st ds => ⟨fun x => (h R st ds).1 x.2,fun x => ⟨hc,(h R st ds).2 x⟩⟩⟩
  ·exact .inr fun R st ds x => h R st ds x.2
 ·exact .inr fun R st ds x => hc x.1
theorem yK4 {c:Prop} [Decidable c] {F G:Rt → ISt → List Dfd → Prop} (h:Lin F) (h':Lin G):Lin (fun R st ds => if c then F R st ds else G R st ds):=by
 by_cases hc:c
 ·simpa only [if_pos hc] using h
 ·simpa only [if_neg hc] using h'
theorem wQ3 {c:Prop} {F:Rt → ISt → List Dfd → Prop} (hc:c) (h:Lin F):Lin (fun R st ds => c → F R st ds):=by
 rcases h with ⟨pr,h⟩ | h
 ·exact .inl ⟨pr,fun R st ds => ⟨fun x => (h R st ds).1 (x hc),fun x _ => (h R st ds).2 x⟩⟩
 ·exact .inr fun R st ds x => h R st ds (x hc)
theorem wQ5 {b:Bool} {F G:Rt → ISt → List Dfd → Prop} (h:Lin F) (h':Lin G):Lin (fun R st ds => yGp b (F R st ds) (G R st ds) .mk .mk):=by
 cases b
 ·simpa only [xJ3] using h'
 ·simpa only [xYk] using h
theorem xKo {s:SV} {F:List IV → Rt → ISt → List Dfd → Prop} (h:∀ x,Lin (F x)):Lin (fun R st ds => boxV s fun x => F x R st ds):=by
 cases s <;> first | exact h _ | exact yZt
theorem zXa {s:IV} {F:IntKind → Int → Rt → ISt → List Dfd → Prop} (h:∀ x y,Lin (F x y)):Lin (fun R st ds => intV s fun x y => F x y R st ds):=by
 cases s with
 | raw v => cases v <;> first | exact h _ _ | exact yZt
 | _ => exact yZt
theorem wQ6 {s:IV} {F:Bool → Rt → ISt → List Dfd → Prop} (h:∀ x,Lin (F x)):Lin (fun R st ds => zZz s fun x => F x R st ds):=by
 cases s with
 | raw v => cases v <;> first | exact h _ | exact yZt
 | _ => exact yZt
theorem wQ1 {s:IV} {F:Tag → List IV → Rt → ISt → List Dfd → Prop} {G:Nat → Nat → Nat → Rt → ISt → List Dfd → Prop} (h:∀ x y,Lin (F x y)) (h':∀ x y z,Lin (G x y z)):Lin (fun R st ds => slX s (fun x y => F x y R st ds) (fun x y z => G x y z R st ds)):=by
 by_cases hs:∃ t xs,s = .sl t xs
 ·obtain ⟨t,xs,rfl⟩:=hs; exact h _ _
 ·by_cases hr:∃ b off n cap,s = .raw (.slice (some ⟨b,off,none⟩) n cap)
  ·obtain ⟨b,off,n,cap,rfl⟩:=hr; exact h' _ _ _
  ·refine .inr fun R st ds hh => ?_
   simp only at hh
   unfold slX at hh
   split at hh
   ·exact hs ⟨_,_,rfl⟩
   ·exact hr ⟨_,_,_,_,rfl⟩
   ·exact hh
theorem wYn {s:IV} {F:Tag → List IV → Rt → ISt → List Dfd → Prop} {G:Nat → Nat → Nat → Nat → Rt → ISt → List Dfd → Prop} (h:∀ x y,Lin (F x y)) (h':∀ x y z u,Lin (G x y z u)):Lin (fun R st ds => slY s (fun x y => F x y R st ds) (fun x y z u => G x y z u R st ds)):=by
 by_cases hs:∃ t xs,s = .sl t xs
 ·obtain ⟨t,xs,rfl⟩:=hs; exact h _ _
 ·by_cases hr:∃ b off n cap,s = .raw (.slice (some ⟨b,off,none⟩) n cap)
  ·obtain ⟨b,off,n,cap,rfl⟩:=hr; exact h' _ _ _ _
  ·refine .inr fun R st ds hh => ?_
   simp only at hh
   unfold slY at hh
   split at hh
   ·exact hs ⟨_,_,rfl⟩
   ·exact hr ⟨_,_,_,_,rfl⟩
   ·exact hh
theorem zXb {s:IV} {F:List IV → Rt → ISt → List Dfd → Prop} (h:∀ x,Lin (F x)):Lin (fun R st ds => aggV s fun x => F x R st ds):=by
 cases s <;> first | exact h _ | exact yZt
theorem wJh {s:IV} {F:List IV → Rt → ISt → List Dfd → Prop} (h:∀ x,Lin (F x)):Lin (fun R st ds => tupV s fun x => F x R st ds):=by
 cases s <;> first | exact h _ | exact yZt
theorem zYq {s:IV} {F:Value → Rt → ISt → List Dfd → Prop} (h:∀ x,Lin (F x)):Lin (fun R st ds => rawV s fun x => F x R st ds):=by
 cases s <;> first | exact h _ | exact yZt
theorem wQ2 {ag:Bool} {n:Nat} {p:Pl} {fr:Fr}:Lin (fun R st ds => zQ6 true ag n p fr R st ds):=by
 cases p with
 | box t off => exact xKo fun _ => yQe fun _ => yXk _
 | ptr b off => exact yZt
 | cp y => exact yK4 (yXk _) yZt
theorem xY3 {f:Nat × Bool × Nat} {p:Pl}:Lin (fun R st ds => zZs f p R st ds):=by
 cases p with
 | box t off => exact yXk _
 | ptr b off => exact yXk _
 | cp y => exact zXb fun _ => yQe fun _ => yK4 (yXk _) yZt
theorem wQ4 {len n j:Nat} {ag:Bool} {p:Pl}:Lin (fun R st ds => xYh len ag n j p R st ds):=by
 unfold xYh
 refine yK4 ?_ yZt
 cases p with
 | box t off => exact yXk _
 | ptr b off => exact yXk _
 | cp y => exact zXb fun _ => yQe fun _ => yK4 (yXk _) yZt
theorem wJk {k:LenK} {s:Option (TypeId × Bool × Nat × Nat)} {xs:Option IV} {p:Option Pl} {e:Option (Nat × Bool × Nat)} {j:Int}:Lin (fun R st ds => idxV k s xs p e j R st ds):=by
 cases k with
 | sl => exact yQe fun _ => yQe fun _ => wQ1 (fun _ _ => yK4 (yK4 (yQe fun _ => yXk _) yZt) yZt) (fun _ _ _ => yK4 (yXk _) yZt)
 | arr n => exact yQe fun _ => yQe fun _ => yK4 wQ4 yZt
 | _ => exact yZt
theorem xY2 {k:LenK} {e:Option (Nat × Bool × Nat)} {x:IV} {j:Int}:Lin (fun R st ds => zJq k e x j R st ds):=by
 cases k with
 | str =>
  refine zYq fun v => ?_
  cases v with
  | string s => exact yQe fun _ => yXk _
  | _ => exact yZt
 | arr n => exact zXb fun _ => yQe fun _ => yK4 (yQe fun _ => yXk _) yZt
 | _ => exact yZt
theorem wJj {k:LenK} {x:IV}:Lin (fun R st ds => lenV true k x R st ds):=by
 cases k with
 | str =>
  refine zYq fun v => ?_
  cases v with
  | string s => exact wQ3 (fun h => by cases h) (yXk _)
  | _ => exact yZt
 | sl => exact wQ1 (fun _ _ => wQ3 (fun h => by cases h) (yXk _)) (fun _ _ _ => yXk _)
 | map => exact yZt
 | arr n => exact yXk _
theorem xY1 {k:LenK} {s:Option (TypeId × Bool × Nat × Nat)} {x:IV} {lo hi mx:Option Int}:Lin (fun R st ds => yYi k s x lo hi mx R st ds):=by
 cases k with
 | str =>
  refine zYq fun v => ?_
  cases v with
  | string s =>
   cases mx with
   | none => exact yQe fun _ => yXk _
   | some m => exact yZt
  | _ => exact yZt
 | sl =>
  refine yQe fun _ => wYn (fun _ _ => yYr ?_) (fun _ _ _ _ => ?_)
  ·cases hi with
   | none =>
    cases mx with
    | none => exact yQe fun _ => yYr (yXk _)
    | some m => exact yZt
   | some h => exact yQe fun _ => yYr (yXk _)
  ·cases mx with
   | none => exact yYr (yQe fun _ => yXk _)
   | some m => exact yZt
 | _ => exact yZt
theorem zUv {o:Option IV} {p:Option Pl}:Lin (fun R st ds => zZ0 true o p R st ds):=by
 cases o with
 | some x => exact yXk _
 | none => exact yZt
theorem wJi {o:Option IV} {p:Option Pl}:Lin (fun R st ds => nilV o p true R st ds):=by
 cases o with
 | none => exact yZt
 | some x =>
  cases x with
  | fn f a b => exact yK4 (yXk _) yZt
  | cptr y => exact yXk _
  | _ => exact yZt
theorem zW3 {esc:List Nat} {d:Nat} (h:esc.contains d = false) {cs:List IV}:Lin (fun R st ds => yY7 esc (some d) cs R st ds):=by
 have:¬ d ∈ esc:=by simpa using h
 simp only [yY7,if_neg this]
 exact yXk _
theorem xXh {frz esc:List Nat} {d:Nat} (h:esc.contains d = false) {y:IV}:Lin (fun R st ds => yWx frz esc (some d) y R st ds):=yK4 (yXk _) (zW3 h)
theorem xXg {c:Cf} (hdr:c.dr = true) {dst:Option Nat} {op:Op} {ad:Ad} {fr:Fr} (hp:zV2 c.esc dst op = true):Lin (fun R st ds => vcR c dst op R ad fr st ds):=by
 unfold zV2 at hp
 split at hp
 case h_1 => simp only [vcR,hdr]; exact zUv
 case h_2 => simp only [vcR,hdr]; exact zUv
 case h_3 => exact yQe fun _ => wQ6 fun _ => wQ5 (yQe fun _ => yXk _) (yQe fun _ => yXk _)
 case h_4 => exact yYr (yQe fun _ => yQe fun _ => yXk _)
 case h_5 =>
  have hl:yGo c.esc dst = false:=by simpa using hp
  simp only [vcR,zYm,hl,bFt,if_false]; exact yQe fun _ => yYr (yQe fun _ => yYr (yXk _))
 case h_6 =>
  have hl:ldr c.dr c.esc dst = true:=by unfold ldr; rw [hdr,hp]; rfl
  simp only [vcR,hl]; exact yQe fun _ => yQe fun _ => wQ2
 case h_7 => simp only [vcR,hdr]; exact wJi
 case h_8 => exact yQe fun _ => yQe fun _ => yQe fun _ => yXk _
 case h_9 => exact yQe fun _ => yQe fun _ => yXk _
 case h_10 => exact yQe fun _ => yQe fun _ => yXk _
 case h_11 => exact yQe fun _ => yQe fun _ => yXk _
 case h_12 => exact yQe fun _ => yQe fun _ => yQe fun _ => yQe fun _ => yQe fun _ => xY1
 case h_13 => exact yQe fun _ => yQe fun _ => xY3
 case h_14 => exact yQe fun _ => yQe fun _ => zXb fun _ => yQe fun _ => yXk _
 case h_15 => exact yQe fun _ => zXa fun _ _ => yQe fun _ => wJk
 case h_16 => exact yQe fun _ => zXa fun _ _ => yQe fun _ => yQe fun _ => xY2
 case h_17 => exact yQe fun _ => wJh fun _ => yQe fun _ => yXk _
 case h_18 =>
  split at hp
  ·exact yQe fun _ => zW3 (by simpa using hp)
  ·cases hp
 case h_19 =>
  split at hp
  ·exact yQe fun _ => yQe fun _ => yYr (xXh (by simpa using hp))
  ·cases hp
 case h_20 =>
  rename_i args ts
  obtain ⟨args⟩:=args
  obtain ⟨ts⟩:=ts
  match args,ts with
  | [x],[T] => simp only [vcR,hdr]; exact yQe fun _ => yQe fun _ => wJj
  | [],_ => exact yZt
  | _ :: _ :: _,_ => exact yZt
  | [_],[] => exact yZt
  | [_],_ :: _ :: _ => exact yZt
 case h_21 =>
  rename_i args ts
  obtain ⟨args⟩:=args
  match args with
  | [x,y] => exact yQe fun _ => yQe fun _ => zXa fun _ _ => zXa fun _ _ => yK4 (yXk _) yZt
  | [] => exact yZt
  | [_] => exact yZt
  | _ :: _ :: _ :: _ => exact yZt
 case h_22 => cases hp
structure SameAt (c:Cf) (op:Op) (ad ad':Ad) (fr fr':Fr):Prop where
 v:∀ x ∈ op.operands,evV c.gl fr x = evV c.gl fr' x
 a:∀ x ∈ op.operands,evA c.gl ad fr x = evA c.gl ad' fr' x
 box:(zQe op || yW6 op) = true → ∀ x ∈ op.operands,∀ t off,evA c.gl ad fr x = some (.box t off) → fr t = fr' t
theorem yGh {gl:Nat → Option IV} {fr fr':Fr}:∀ {l:List Operand},(∀ x ∈ l,evV gl fr x = evV gl fr' x) → evL gl fr l = evL gl fr' l
 | [],_ => rfl
 | x :: l,h => by rw [xVe,xVe,h x (by simp),yGh fun y hy => h y (by simp [hy])]
theorem zZ6 {gl:Nat → Option IV} {fr fr':Fr} {o:Option Operand} (h:∀ x,o = some x → evV gl fr x = evV gl fr' x):yY1 gl fr o = yY1 gl fr' o:=by
 cases o with
 | none => rfl
 | some x => simp only [xY7,h x rfl]
theorem zKh {P:Program} {gl:Nat → Option IV} {fr fr':Fr} {T:TypeId}:∀ {l:List (Nat × Operand)} {cs:List IV},(∀ x ∈ l.map (·.2),evV gl fr x = evV gl fr' x) → yWj P gl fr T cs l = yWj P gl fr' T cs l
 | [],cs,_ => rfl
 | (i,x) :: l,cs,h => by
  rw [yUl,yUl,h x (by simp)]
  cases fldI P T i with
  | none => rfl
  | some f =>
   cases evV gl fr' x with
   | none => rfl
   | some y => simp only [zWl]; split <;> first | exact zKh fun y hy => h y (by simp [hy]) | rfl
theorem xY0 {dr ag:Bool} {n:Nat} {p:Pl} {fr fr':Fr} {R:Rt} {st:ISt} {ds:List Dfd} (h:∀ t off,p = .box t off → fr t = fr' t):zQ6 dr ag n p fr R st ds = zQ6 dr ag n p fr' R st ds:=by
 cases p with
 | box t off => simp only [zQ6,h t off rfl]
 | _ => rfl
theorem xZe {y:List IV} {p:Pl} {fr fr':Fr} {R:Rt} {st:ISt} {ds:List Dfd} (h:∀ t off,p = .box t off → fr t = fr' t):yYg y p fr R st ds = yYg y p fr' R st ds:=by
 cases p with
 | box t off => simp only [yYg,h t off rfl]
 | _ => rfl
theorem xG5 {c:Cf} {dst:Option Nat} {op:Op} {R:Rt} {ad ad':Ad} {fr fr':Fr} {st:ISt} {ds:List Dfd} (h:SameAt c op ad ad' fr fr'):vcR c dst op R ad fr st ds = vcR c dst op R ad' fr' st ds:=by
 obtain ⟨hv,ha,hb⟩:=h
 cases op with
 | move x => simp only [vcR,hv x (by simp [Op.operands]),ha x (by simp [Op.operands])]
 | assign x => simp only [vcR,hv x (by simp [Op.operands]),ha x (by simp [Op.operands])]
 | pick x y z => simp only [vcR]; rw [hv x (by simp [Op.operands]),hv y (by simp [Op.operands]),hv z (by simp [Op.operands])]
 | alloc T => rfl
 | box T x => simp only [vcR,hv x (by simp [Op.operands])]
 | build T parts => simp only [vcR,fun cs => zKh (P:=c.P) (T:=T) (cs:=cs) (l:=parts.toList) (fun x hx => hv x (by simpa [Op.operands] using hx))]
 | buildSlice T n parts => simp only [vcR,yGh (l:=parts.toList.map (·.2)) (fun x hx => hv x (by simpa [Op.operands] using hx))]
 | load T x =>
  have hbx:=hb rfl x (by simp [Op.operands])
  simp only [vcR,← ha x (by simp [Op.operands])]
  cases hp:evA c.gl ad fr x with
  | none => rfl
  | some p => simp only [yVf,fun (i:Bool × Nat) => xY0 (dr:=ldr c.dr c.esc dst) (ag:=i.1) (n:=i.2) (p:=p) (fr:=fr) (fr':=fr') (R:=R) (st:=st) (ds:=ds) (fun t off hq => hbx t off (by rw [hp,hq]))]
 | store T x y =>
  have hbx:=hb rfl x (by simp [Op.operands])
  simp only [vcR,← ha x (by simp [Op.operands]),← hv y (by simp [Op.operands])]
  cases hp:evA c.gl ad fr x with
  | none => rfl
  | some p => simp only [yVf,fun (i:List IV) => xZe (y:=i) (p:=p) (fr:=fr) (fr':=fr') (R:=R) (st:=st) (ds:=ds) (fun t off hq => hbx t off (by rw [hp,hq]))]
 | nilCheck x => simp only [vcR,hv x (by simp [Op.operands]),ha x (by simp [Op.operands])]
 | binOp o T x y T' => simp only [vcR,hv x (by simp [Op.operands]),hv y (by simp [Op.operands])]
 | unOp o T x => simp only [vcR,hv x (by simp [Op.operands])]
 | convert T T' x => simp only [vcR,hv x (by simp [Op.operands])]
 | makeFunc f a b => simp only [vcR,yGh (l:=a.toList) (fun x hx => hv x (by simp [Op.operands]; exact .inl (by simpa using hx))),yGh (l:=b.toList) (fun x hx => hv x (by simp [Op.operands]; exact .inr (by simpa using hx)))]
 | slice T x lo hi mx => simp only [vcR,hv x (by simp [Op.operands]),zZ6 (o:=lo) (fun y hy => hv y (by simp [Op.operands,hy])),zZ6 (o:=hi) (fun y hy => hv y (by simp [Op.operands,hy])),
   zZ6 (o:=mx) (fun y hy => hv y (by simp [Op.operands,hy]))]
 | fieldAddr T x i => simp only [vcR,ha x (by simp [Op.operands])]
 | field T x i => simp only [vcR,hv x (by simp [Op.operands])]
 | indexAddr T x y => simp only [vcR,hv x (by simp [Op.operands]),ha x (by simp [Op.operands]),hv y (by simp [Op.operands])]
 | index T x y => simp only [vcR,hv x (by simp [Op.operands]),hv y (by simp [Op.operands])]
 | lookup T x y ok => simp only [vcR,hv x (by simp [Op.operands]),hv y (by simp [Op.operands])]
 | mapUpdate T x y z => simp only [vcR,hv x (by simp [Op.operands]),hv y (by simp [Op.operands]),hv z (by simp [Op.operands])]
 | extract x i => simp only [vcR,hv x (by simp [Op.operands])]
 | call cc =>
  obtain ⟨f,args,ts⟩:=cc
  cases f with
  | value f => simp only [vcR,hv f (by simp [Op.operands,Call.operands]),yGh (l:=args.toList) (fun x hx => hv x (by simp [Op.operands,Call.operands]; exact .inr (by simpa using hx)))]
  | invoke r nm => rfl
  | builtin b =>
   obtain ⟨args⟩:=args
   obtain ⟨ts⟩:=ts
   have hv':∀ x ∈ args,evV c.gl fr x = evV c.gl fr' x:=fun x hx => hv x (by simp [Op.operands,Call.operands]; exact hx)
   cases b with
   | len =>
    match args,ts,hv' with
    | [x],[T],hv' => simp only [vcR,hv' x (by simp)]
    | [],_,_ => rfl
    | _ :: _ :: _,_,_ => rfl
    | [_],[],_ => rfl
    | [_],_ :: _ :: _,_ => rfl
   | append =>
    match args,ts,hv' with
    | [x,y],[T,T'],hv' => simp only [vcR,hv' x (by simp),hv' y (by simp)]
    | [],_,_ => rfl
    | [_],_,_ => rfl
    | _ :: _ :: _ :: _,_,_ => rfl
    | [_,_],[],_ => rfl
    | [_,_],[_],_ => rfl
    | [_,_],_ :: _ :: _ :: _,_ => rfl
   | cap =>
    match args,ts,hv' with
    | [x],[T],hv' => simp only [vcR,hv' x (by simp)]
    | [],_,_ => rfl
    | _ :: _ :: _,_,_ => rfl
    | [_],[],_ => rfl
    | [_],_ :: _ :: _,_ => rfl
   | clear =>
    match args,ts,hv' with
    | [x],[T],hv' => simp only [vcR,hv' x (by simp)]
    | [],_,_ => rfl
    | _ :: _ :: _,_,_ => rfl
    | [_],[],_ => rfl
    | [_],_ :: _ :: _,_ => rfl
   | max =>
    match args,hv' with
    | [x,y],hv' => simp only [vcR,hv' x (by simp),hv' y (by simp)]
    | [],_ => rfl
    | [_],_ => rfl
    | _ :: _ :: _ :: _,_ => rfl
   | _ => rfl
 | defer cc =>
  obtain ⟨f,args,ts⟩:=cc
  cases f with
  | value f => simp only [vcR,hv f (by simp [Op.operands,Call.operands]),yGh (l:=args.toList) (fun x hx => hv x (by simp [Op.operands,Call.operands]; exact .inr (by simpa using hx)))]
  | _ => rfl
 | makeMap T r => cases r <;> rfl
 | insert T x y z => simp only [vcR,hv x (by simp [Op.operands]),hv y (by simp [Op.operands]),hv z (by simp [Op.operands])]
 | makeSlice T x y => simp only [vcR,hv x (by simp [Op.operands]),hv y (by simp [Op.operands])]
 | _ => rfl
def yXw (c:Cf) (ops:List Oper) (o:Oper) (R:Rt) (ad:Ad) (fr:Fr) (st:ISt) (ds:List Dfd):Prop :=
 match o.guard with
 | none => vcR c o.dst o.op R ad fr st ds
 | some (j,want) => match yVv ops j with
  | some d => match fr d with
   | .iv (.raw (.bool b)) => if b = want then vcR c o.dst o.op R ad fr st ds else R (.val (.raw undef)) st ds
   | .iv (.raw (.tuple _)) => R (.val (.raw undef)) st ds
   | _ => False
  | none => False
def yZy (c:Cf) (ops:List Oper) (o:Oper) (K:Kt):Kt:=fun ad fr st ds => yXw c ops o (finK o.dst K ad fr) ad fr st ds
def vcK (c:Cf) (ops:List Oper):List Oper → Kt → Kt
 | [],K => K
 | o :: l,K => yZy c ops o (vcK c ops l K)
theorem zVe {c:Cf} {ops l l':List Oper} {K:Kt}:vcK c ops (l ++ l') K = vcK c ops l (vcK c ops l' K):=by
 induction l with
 | nil => rfl
 | cons o l ih => rw [List.cons_append,vcK,vcK,ih]
theorem zGf {c:Cf} {ops:List Oper} {Q:Fr → ISt → List Dfd → Prop}:∀ {l:List Oper} {ad:Ad} {fr:Fr} {st:ISt} {ds:List Dfd},yJn c ops l Q ad fr st ds → vcK c ops l (fun _ fr st ds => Q fr st ds) ad fr st ds
 | [],_,_,_,_,h => h
 | o :: l,ad,fr,st,ds,h => by
  have hk:∀ ad fr st ds,yJn c ops l Q ad fr st ds → vcK c ops l (fun _ fr st ds => Q fr st ds) ad fr st ds:=fun _ _ _ _ => zGf
  have hfin:∀ pr st ds,finK o.dst (yJn c ops l Q) ad fr pr st ds → finK o.dst (vcK c ops l (fun _ fr st ds => Q fr st ds)) ad fr pr st ds:=by
   intro pr st ds
   cases pr <;> cases o.dst <;> simp only [finK] <;> first | exact hk _ _ _ _ | exact id | (split <;> first | exact id | exact hk _ _ _ _)
  unfold yJn at h
  change yXw c ops o (finK o.dst (vcK c ops l (fun _ fr st ds => Q fr st ds)) ad fr) ad fr st ds
  unfold yXw
  split at h
  ·rename_i hg
   rw [hg]
   exact yG3 hfin h
  ·rename_i j want hg
   rw [hg]
   simp only [yVv]
   cases hd:(ops[j]?).bind (·.dst) with
   | none => rw [hd] at h; exact h.elim
   | some d =>
    rw [hd] at h
    simp only at h ⊢
    cases hs:fr d with
    | box cs => rw [hs] at h; exact h.elim
    | iv x =>
     cases x with
     | raw v =>
      cases v with
      | bool b =>
       rw [hs,xQ8 fr d want b _ _ _ _ hs] at h
       simp only
       split
       ·exact yG3 hfin (h.1 ‹_›)
       ·have hb:b = !want:=by cases b <;> cases want <;> simp_all
        exact hfin _ _ _ (h.2 hb)
      | tuple t =>
       rw [hs] at h
       exact hfin _ _ _ h
      | _ => rw [hs] at h; exact h.elim
     | _ => rw [hs] at h; exact h.elim
theorem zVi {c:Cf} {ops:List Oper} {o:Oper} {R R':Rt} (h:∀ pr st ds,R pr st ds → R' pr st ds) {ad:Ad} {fr:Fr} {st:ISt} {ds:List Dfd}:yXw c ops o R ad fr st ds → yXw c ops o R' ad fr st ds:=by
 unfold yXw
 split
 ·exact yG3 h
 ·split
  ·split
   ·split
    ·exact yG3 h
    ·exact h _ _ _
   ·exact h _ _ _
   ·exact id
  ·exact id
theorem wQ0 {c:Cf} (hdr:c.dr = true) {ops:List Oper} {o:Oper} {ad:Ad} {fr:Fr} (hp:zV2 c.esc o.dst o.op = true):Lin (fun R st ds => yXw c ops o R ad fr st ds):=by
 cases hg:o.guard with
 | none => simp only [yXw,hg]; exact xXg hdr hp
 | some p =>
  obtain ⟨j,want⟩:=p
  cases hd:yVv ops j with
  | none => simp only [yXw,hg,hd]; exact yZt
  | some d =>
   cases hs:fr d with
   | box cs => simp only [yXw,hg,hd,hs]; exact yZt
   | iv x =>
    cases x with
    | raw v =>
     cases v with
     | bool b => simp only [yXw,hg,hd,hs]; exact yK4 (xXg hdr hp) (yXk _)
     | tuple t => simp only [yXw,hg,hd,hs]; exact yXk _
     | _ => simp only [yXw,hg,hd,hs]; exact yZt
    | _ => simp only [yXw,hg,hd,hs]; exact yZt
def LinS (st:ISt) (F:Rt → ISt → List Dfd → Prop):Prop:=(∃ pr,∀ R ds,F R st ds ↔ R pr st ds) ∨ (∀ R ds,¬ F R st ds)
theorem yKz {F:Rt → ISt → List Dfd → Prop} (h:Lin F) (st:ISt):LinS st F:=by
 rcases h with ⟨pr,h⟩ | h
 ·exact .inl ⟨pr,fun R ds => h R st ds⟩
 ·exact .inr fun R ds => h R st ds
theorem wQ7 {c:Cf} {dst:Option Nat} {T:TypeId} {x:Operand} {ad:Ad} {fr:Fr} (st:ISt):LinS st (fun R st ds => vcR c dst (.load T x) R ad fr st ds):=by
 simp only [vcR]
 cases tyI c.P T with
 | none => exact yKz yZt st
 | some i =>
  cases evA c.gl ad fr x with
  | none => exact yKz yZt st
  | some p =>
   simp only [yVf]
   cases p with
   | box t off => exact yKz (xKo fun _ => yQe fun _ => yXk _) st
   | cp y => exact yKz (yK4 (yXk _) yZt) st
   | ptr b off =>
    simp only [zQ6]
    cases hl:ldr c.dr c.esc dst with
    | true => simp only [if_true]; exact yKz yZt st
    | false =>
     simp only [bFt,if_false]
     cases hb:st b with
     | none => exact .inr fun R ds h => by simp only [hb] at h; exact h
     | some o =>
      cases o with
      | box cs =>
       cases hp:yKq i.1 i.2 cs off with
       | none => exact .inr fun R ds h => by simp only [hb,yVf,obV,hp] at h; exact h
       | some y => exact .inl ⟨.val y,fun R ds => by simp only [hb,yVf,obV,hp]⟩
      | _ => exact .inr fun R ds h => by simp only [hb,yVf,obV] at h
theorem xKp {c:Cf} (hdr:c.dr = true) {dst:Option Nat} {op:Op} {ad:Ad} {fr:Fr} (hp:yK1 c.esc dst op = true) (st:ISt):LinS st (fun R st ds => vcR c dst op R ad fr st ds):=by
 unfold yK1 at hp
 rw [Bool.or_eq_true] at hp
 rcases hp with hp | hp
 ·exact yKz (xXg hdr hp) st
 ·cases op <;> first | exact wQ7 st | cases hp
theorem zW4 {c:Cf} (hdr:c.dr = true) {ops:List Oper} {o:Oper} {ad:Ad} {fr:Fr} (hp:yK1 c.esc o.dst o.op = true) (st:ISt):LinS st (fun R st ds => yXw c ops o R ad fr st ds):=by
 cases hg:o.guard with
 | none => simp only [yXw,hg]; exact xKp hdr hp st
 | some p =>
  obtain ⟨j,want⟩:=p
  cases hd:yVv ops j with
  | none => simp only [yXw,hg,hd]; exact yKz yZt st
  | some d =>
   cases hs:fr d with
   | box cs => simp only [yXw,hg,hd,hs]; exact yKz yZt st
   | iv x =>
    cases x with
    | raw v =>
     cases v with
     | bool b =>
      simp only [yXw,hg,hd,hs]
      by_cases hb:b = want
      ·simp only [if_pos hb]; exact xKp hdr hp st
      ·simp only [if_neg hb]; exact yKz (yXk _) st
     | tuple t => simp only [yXw,hg,hd,hs]; exact yKz (yXk _) st
     | _ => simp only [yXw,hg,hd,hs]; exact yKz yZt st
    | _ => simp only [yXw,hg,hd,hs]; exact yKz yZt st
def yVs (ops:List Oper) (o:Oper) (fr fr':Fr):Prop:=∀ j want d,o.guard = some (j,want) → yVv ops j = some d → fr d = fr' d ∨ (∃ cs cs',fr d = .box cs ∧ fr' d = .box cs')
theorem yWp {c:Cf} {ops:List Oper} {o:Oper} {R:Rt} {ad ad':Ad} {fr fr':Fr} {st:ISt} {ds:List Dfd} (h:SameAt c o.op ad ad' fr fr') (hg:yVs ops o fr fr'):yXw c ops o R ad fr st ds = yXw c ops o R ad' fr' st ds:=by
 unfold yXw
 rw [xG5 h]
 cases hgo:o.guard with
 | none => rfl
 | some p =>
  obtain ⟨j,want⟩:=p
  cases hd:yVv ops j with
  | none => simp only [hd]
  | some d =>
   simp only [hd]
   rcases hg j want d hgo hd with he | ⟨cs,cs',h1,h2⟩
   ·rw [he]
   ·rw [h1,h2]
def wJq:Op → Bool
 | .fieldAddr .. => true
 | .indexAddr .. => true
 | _ => false
structure Fine (c:Cf) (op:Op) (ad:Ad) (fr:Fr) (pr:PR):Prop where
 isA:∀ t off,pr = .adr t off → c.dr = true → wJq op = true
 adr:∀ t off,pr = .adr t off → ∃ x ∈ op.operands,∃ off',evA c.gl ad fr x = some (.box t off')
 sto:∀ t cs,pr = .sto t cs → yW6 op = true ∧ (∃ cs0,fr t = .box cs0) ∧ ∃ x ∈ op.operands,∃ off',evA c.gl ad fr x = some (.box t off')
theorem yJ6 {c:Cf} {op:Op} {ad:Ad} {fr:Fr} {x:IV}:Fine c op ad fr (.val x):=⟨(fun _ _ h => by cases h),(fun _ _ h => by cases h),(fun _ _ h => by cases h)⟩
theorem wJw {c:Cf} {op:Op} {ad:Ad} {fr:Fr} {x:List IV}:Fine c op ad fr (.box x):=⟨(fun _ _ h => by cases h),(fun _ _ h => by cases h),(fun _ _ h => by cases h)⟩
theorem xVc {c:Cf} {op:Op} {ad:Ad} {fr:Fr}:Fine c op ad fr .nop:=⟨(fun _ _ h => by cases h),(fun _ _ h => by cases h),(fun _ _ h => by cases h)⟩
theorem xVb {c:Cf} {op:Op} {R:Rt} {ad:Ad} {fr:Fr} {st:ISt} {ds:List Dfd} {x:Operand} {p:Pl} (hdr:¬ c.dr = true) (hx:x ∈ op.operands) (hp:evA c.gl ad fr x = some p):plR p R st ds → plR p (fun pr st ds => R pr st ds ∧ Fine c op ad fr pr) st ds:=by
 cases p with
 | box t off => exact fun h => ⟨h,⟨(fun _ _ _ h0 => (hdr h0).elim),fun t' off' he => by cases he; exact ⟨x,hx,off,hp⟩,fun _ _ h => by cases h⟩⟩
 | ptr b off => exact fun h => ⟨h,yJ6⟩
 | cp y => exact fun h => ⟨h,yJ6⟩
theorem zWe {c:Cf} {op:Op} {R:Rt} {ad:Ad} {fr:Fr} {st:ISt} {ds:List Dfd} {x:Operand} (hx:x ∈ op.operands) (o:Option IV) :
  zZ0 c.dr o (evA c.gl ad fr x) R st ds → zZ0 c.dr o (evA c.gl ad fr x) (fun pr st ds => R pr st ds ∧ Fine c op ad fr pr) st ds:=by
 unfold zZ0
 split
 ·exact fun h => ⟨h,yJ6⟩
 ·split
  ·exact id
  ·intro h
   obtain ⟨p,hp,h⟩:=yQ5.1 h
   exact yQ5.2 ⟨p,hp,xVb ‹_› hx hp h⟩
set_option maxHeartbeats 1000000 in
theorem xJm {c:Cf} {dst:Option Nat} {op:Op} {R:Rt} {ad:Ad} {fr:Fr} {st:ISt} {ds:List Dfd}:vcR c dst op R ad fr st ds → vcR c dst op (fun pr st ds => R pr st ds ∧ Fine c op ad fr pr) ad fr st ds:=by
 by_cases h1:∃ x,op = .move x ∨ op = .assign x
 ·obtain ⟨x,rfl | rfl⟩:=h1
  ·exact zWe (by simp [Op.operands]) _
  ·exact zWe (by simp [Op.operands]) _
 by_cases h2:∃ x,op = .nilCheck x
 ·obtain ⟨x,rfl⟩:=h2
  simp only [vcR,nilV]
  split
  ·exact yK7 (fun h => ⟨h,yJ6⟩) id
  ·exact fun h => ⟨h,yJ6⟩
  ·split
   ·exact id
   ·intro h
    obtain ⟨p,hp,h⟩:=yQ5.1 h
    exact yQ5.2 ⟨p,hp,xVb ‹_› (by simp [Op.operands]) hp h⟩
 by_cases h3:∃ T x i,op = .fieldAddr T x i
 ·obtain ⟨T,x,i,rfl⟩:=h3
  simp only [vcR]
  refine yZx fun f => fun h => ?_
  obtain ⟨p,hp,h⟩:=yQ5.1 h
  refine yQ5.2 ⟨p,hp,?_⟩
  cases p with
  | box t off => exact ⟨h,⟨(fun _ _ _ _ => rfl),fun t' off' he => by cases he; exact ⟨x,by simp [Op.operands],off,hp⟩,fun _ _ h => by cases h⟩⟩
  | ptr b off => exact ⟨h,yJ6⟩
  | cp y => exact zXe (fun _ => yZx fun _ => yK7 (fun h => ⟨h,yJ6⟩) id) h
 by_cases h4:∃ T x y,op = .indexAddr T x y
 ·obtain ⟨T,x,y,rfl⟩:=h4
  simp only [vcR]
  refine yZx fun _ => zYt fun _ j => yZx fun k => ?_
  cases k with
  | sl => exact yZx fun _ => yZx fun _ => xXo (fun _ _ => yK7 (yK7 (yZx fun _ => fun h => ⟨h,yJ6⟩) id) id) (fun _ _ _ => yK7 (fun h => ⟨h,yJ6⟩) id)
  | arr n =>
   refine yZx fun _ => fun h => ?_
   obtain ⟨p,hp,h⟩:=yQ5.1 h
   refine yQ5.2 ⟨p,hp,yK7 (yK7 ?_ id) id h⟩
   cases p with
   | box t off => exact fun h => ⟨h,⟨(fun _ _ _ _ => rfl),fun t' off' he => by cases he; exact ⟨x,by simp [Op.operands],off,hp⟩,fun _ _ h => by cases h⟩⟩
   | ptr b off => exact fun h => ⟨h,yJ6⟩
   | cp y => exact zXe (fun _ => yZx fun _ => yK7 (fun h => ⟨h,yJ6⟩) id)
  | str => exact id
  | map => exact id
 by_cases h5:∃ T x y,op = .store T x y
 ·obtain ⟨T,x,y,rfl⟩:=h5
  simp only [vcR]
  refine yZx fun _ => yZx fun _ => xXr fun h => ?_
  obtain ⟨p,hp,h⟩:=yQ5.1 h
  refine yQ5.2 ⟨p,hp,?_⟩
  revert h
  cases p with
  | box t off =>
   simp only [yYg]
   cases hf:fr t with
   | box cs => exact yK7 (fun h => ⟨h,⟨(fun _ _ h => by cases h),(fun _ _ h => by cases h),fun t' cs' he => by cases he; exact ⟨rfl,⟨cs,hf⟩,x,by simp [Op.operands],off,hp⟩⟩⟩) id
   | iv x => exact id
  | ptr b off => exact yZx fun _ => xXp fun _ => yK7 (fun h => ⟨h,xVc⟩) id
  | cp y => exact id
 have hv:∀ x st ds,R (.val x) st ds → R (.val x) st ds ∧ Fine c op ad fr (.val x):=fun x st ds h => ⟨h,yJ6⟩
 have hb:∀ x st ds,R (.box x) st ds → R (.box x) st ds ∧ Fine c op ad fr (.box x):=fun x st ds h => ⟨h,wJw⟩
 have hn:∀ st ds,R .nop st ds → R .nop st ds ∧ Fine c op ad fr .nop:=fun st ds h => ⟨h,xVc⟩
 generalize Fine c op ad fr = F at hv hb hn ⊢
 unfold vcR
 split
 all_goals first
  | exact absurd ⟨_,.inl rfl⟩ h1 | exact absurd ⟨_,.inr rfl⟩ h1 | exact absurd ⟨_,rfl⟩ h2 | exact absurd ⟨_,_,_,rfl⟩ h3 | exact absurd ⟨_,_,_,rfl⟩ h4 | exact absurd ⟨_,_,_,rfl⟩ h5
  | repeat (first
   | exact hv _ _ _ | exact hb _ _ _ | exact hn _ _ | exact id
   | refine yZx fun _ => ?_ | refine xXr ?_ | refine wQl ?_ | refine wQm ?_ | refine wQn fun _ => ?_ | refine zJs ?_ ?_ | refine yK7 ?_ ?_
   | refine xKz fun _ => ?_ | refine xXp fun _ => ?_ | refine wQk fun _ _ => ?_ | refine zYt fun _ _ => ?_ | refine zJt fun _ => ?_ | refine wQj fun _ _ => ?_ | refine xXo (fun _ _ => ?_) (fun _ _ _ => ?_) | refine wQi (fun _ _ => ?_) (fun _ _ _ _ => ?_) | refine xV0 ?_ ?_
   | refine zXe fun _ => ?_ | refine xKw fun _ => ?_ | refine xXq fun _ _ _ => ?_ | refine xKy fun _ => ?_ | refine xKx fun _ => ?_
   | (refine fun hh => callV.mono hh fun _ _ => ?_; unfold xQw)
   | unfold yWx | unfold yY7 | unfold zYm | unfold zQ6 | unfold yYi | unfold zJq | unfold zZ1 | unfold yYf | unfold lenV | unfold appV | unfold appO | unfold appZ | unfold capV | unfold zWh | unfold xWu
   | split)
def yWm (ad:Ad) (d:Nat):Prop:=∀ x t off,ad x = some (t,off) → t ≠ d
theorem xXl {ad:Ad} {d:Nat} (h:yWm ad d) (s:Nat):Ad.keep d (ad s) = ad s:=by
 cases ha:ad s with
 | none => rfl
 | some p =>
  obtain ⟨t,off⟩:=p
  simp only [Ad.keep,if_neg (h s t off ha)]
theorem xVf {c:Cf} {ad:Ad} {fr:Fr} {x:Operand} {t off d:Nat} (h:evA c.gl ad fr x = some (.box t off)) (hb:yWm ad d) (hx:x ≠ .tmp d):t ≠ d:=by
 cases x with
 | tmp y =>
  simp only [evA] at h
  cases ha:ad y with
  | some p =>
   obtain ⟨t',off'⟩:=p
   rw [ha] at h
   simp only [plAd,Option.some.injEq,Pl.box.injEq] at h
   exact h.1 ▸ hb y t' off' ha
  | none =>
   rw [ha] at h
   simp only [plAd] at h
   cases hf:fr y with
   | box cs =>
    rw [hf] at h
    simp only [plOf,Option.some.injEq,Pl.box.injEq] at h
    rintro rfl
    exact hx (by rw [h.1])
   | iv z =>
    rw [hf] at h
    exfalso
    cases z with
    | raw u =>
     cases u with
     | pointer p =>
      cases p with
      | none => cases h
      | some p =>
       obtain ⟨pb,po,ps⟩:=p
       cases ps <;> cases h
     | _ => cases h
    | _ => cases h
 | global g => simp only [evA] at h; cases hg:c.gl g <;> rw [hg] at h <;> cases h
 | const v => cases h
 | func f => cases h
theorem xWa {c:Cf} {op:Op} {ad:Ad} {fr:Fr} {d:Nat} {a:Option (Nat × Nat)} {s:SV} (hd:∀ x ∈ op.operands,x ≠ .tmp d) (hb:yWm ad d):SameAt c op ad (ad.put d a) fr (fr.put d s):=by
 refine ⟨fun x hx => ?_,fun x hx => ?_,fun _ x hx t off he => ?_⟩
 ·cases x with
  | tmp y => rw [zG3,zG3,Fr.put_apply,if_neg (fun h => hd _ hx (by rw [h]))]
  | _ => rfl
 ·cases x with
  | tmp y =>
   have hy:y ≠ d:=fun h => hd _ hx (by rw [h])
   simp only [evA,Ad.put_apply,if_neg hy,xXl hb]
   cases ad y with
   | none => simp only [plAd,Fr.put_apply,if_neg hy]
   | some p => rfl
  | _ => rfl
 ·rw [Fr.put_apply,if_neg (xVf he hb (hd x hx))]
theorem xW9 {c:Cf} {op:Op} {ad:Ad} {fr:Fr} {t:Nat} {cs cs':List IV} (ht:fr t = .box cs) (h:(zQe op || yW6 op) = false):SameAt c op ad ad fr (fr.put t (.box cs')):=by
 refine ⟨fun x _ => ?_,fun x _ => ?_,fun h' => by rw [h] at h'; cases h'⟩
 ·cases x with
  | tmp y =>
   rw [zG3,zG3,Fr.put_apply]
   split
   ·rename_i hy; rw [hy,ht]; rfl
   ·rfl
  | _ => rfl
 ·cases x with
  | tmp y =>
   simp only [evA]
   cases ad y with
   | none =>
    simp only [plAd,Fr.put_apply]
    split
    ·rename_i hy; rw [hy,ht]; rfl
    ·rfl
   | some p => rfl
  | _ => rfl
theorem zY8 {ops:List Oper} {o:Oper} {fr:Fr} {d:Nat} {s:SV} (h:d ∉ looks ops o):yVs ops o fr (fr.put d s):=by
 intro j want e hg he
 refine .inl ?_
 rw [Fr.put_apply,if_neg]
 rintro rfl
 exact h (List.mem_append_right _ (by rw [hg]; simp [he]))
theorem zY7 {ops:List Oper} {o:Oper} {fr:Fr} {t:Nat} {cs cs':List IV} (ht:fr t = .box cs):yVs ops o fr (fr.put t (.box cs')):=by
 intro j want e _ _
 rw [Fr.put_apply]
 by_cases he:e = t
 ·rw [if_pos he,he]; exact .inr ⟨cs,cs',ht,rfl⟩
 ·rw [if_neg he]; exact .inl rfl
theorem zUr {ops:List Oper} {o:Oper} {d:Nat} (h:d ∉ looks ops o):∀ x ∈ o.op.operands,x ≠ .tmp d:=by
 rintro x hx rfl
 exact h (List.mem_append_left _ (List.mem_filterMap.2 ⟨.tmp d,by simpa using hx,rfl⟩))
def after (dst:Option Nat) (pr:PR) (ad:Ad) (fr:Fr):Option (Ad × Fr) :=
 match pr,dst with
 | .val x,some d => some (ad.put d none,fr.put d (.iv x))
 | .val _,none => some (ad,fr)
 | .adr t off,some d => if d = t then none else some (ad.put d (some (t,off)),fr.put d (.iv .junk))
 | .adr _ _,none => some (ad,fr)
 | .box cs,some d => some (ad.put d none,fr.put d (.box cs))
 | .box _,none => none
 | .sto _ _,some _ => none
 | .sto t cs,none => some (ad,fr.put t (.box cs))
 | .nop,some _ => none
 | .nop,none => some (ad,fr)
theorem yJ0 {dst:Option Nat} {K:Kt} {ad:Ad} {fr:Fr} {pr:PR} {st:ISt} {ds:List Dfd}:finK dst K ad fr pr st ds ↔ ∃ p,after dst pr ad fr = some p ∧ K p.1 p.2 st ds:=by
 cases pr <;> cases dst <;> simp only [finK,after,Option.some.injEq,exists_eq_left',reduceCtorEq,false_and,exists_false]
 split <;> simp
theorem yG7 {c:Cf} {ops:List Oper} {o:Oper} {R:Rt} {ad:Ad} {fr:Fr} {st:ISt} {ds:List Dfd} (h:yXw c ops o R ad fr st ds):yXw c ops o (fun pr st ds => R pr st ds ∧ Fine c o.op ad fr pr) ad fr st ds:=by
 unfold yXw at *
 split
 ·exact xJm (by simpa [*] using h)
 ·rename_i j want hg
  rw [hg] at h
  simp only at h
  split at h
  ·rename_i d hd
   cases hs:fr d with
   | box cs => rw [hs] at h; exact h.elim
   | iv x =>
    cases x with
    | raw v =>
     cases v with
     | bool b =>
      rw [hs] at h
      simp only at h ⊢
      split
      ·rename_i hw; rw [if_pos hw] at h; exact xJm h
      ·rename_i hw; rw [if_neg hw] at h; exact ⟨h,yJ6⟩
     | tuple t => rw [hs] at h; exact ⟨h,yJ6⟩
     | _ => rw [hs] at h; exact h.elim
    | _ => rw [hs] at h; exact h.elim
  ·exact h.elim
structure Ap (c:Cf) (ops:List Oper) (x y:Oper):Prop where
 pure:yK1 c.esc x.dst x.op = true ∨ yK1 c.esc y.dst y.op = true
 ls:zQe x.op = true → yW6 y.op = true → False
 sl:yW6 x.op = true → zQe y.op = true → False
 d:∀ d,x.dst = some d → d ∉ looks ops y ∧ y.dst ≠ some d
 e:∀ d,y.dst = some d → d ∉ looks ops x
theorem Ap.symm {c:Cf} {ops:List Oper} {x y:Oper} (h:Ap c ops x y):Ap c ops y x :=
 ⟨h.pure.symm,fun a b => h.sl b a,fun a b => h.ls b a,fun d hd => ⟨h.e d hd,fun hx => (h.d d hx).2 hd⟩,fun d hd => (h.d d hd).1⟩
theorem zUd {esc:List Nat} {dst:Option Nat} {op:Op} (h:zV2 esc dst op = true):yW6 op = false:=by
 cases op <;> first | rfl | simp [zV2] at h
theorem yV4 {esc:List Nat} {dst:Option Nat} {op:Op} (h:yK1 esc dst op = true):yW6 op = false:=by
 unfold yK1 at h
 rw [Bool.or_eq_true] at h
 rcases h with h | h
 ·exact zUd h
 ·cases op <;> first | rfl | cases h
theorem uVt {c:Cf} {ops:List Oper} {x y:Oper} (h:wZh c.esc ops x y = true):Ap c ops x y:=by
 unfold wZh at h
 simp only [bAt,Bool.or_eq_true,Bool.not_eq_true',Bool.and_eq_false_iff] at h
 obtain ⟨⟨⟨⟨h1,h2⟩,h3⟩,h4⟩,h5⟩:=h
 refine ⟨h1,fun a b => by rcases h2 with h2 | h2 <;> simp_all,fun a b => by rcases h3 with h3 | h3 <;> simp_all,fun d hd => ?_,fun d hd => ?_⟩
 ·rw [hd] at h4
  simp only [bAt,Bool.not_eq_true'] at h4
  exact ⟨by simpa using h4.1,by simpa using h4.2⟩
 ·rw [hd] at h5
  simpa using h5
theorem yGa {c:Cf} {ops:List Oper} {x y:Oper} (h:Ap c ops x y) {ad:Ad} {fr:Fr} {pr:PR} {p:Ad × Fr} (hb:∀ d,x.dst = some d → yWm ad d) (hf:Fine c x.op ad fr pr) (ha:after x.dst pr ad fr = some p) :
  SameAt c y.op ad p.1 fr p.2 ∧ yVs ops y fr p.2:=by
 have refl:SameAt c y.op ad ad fr fr ∧ yVs ops y fr fr:=⟨⟨fun _ _ => rfl,fun _ _ => rfl,fun _ _ _ _ _ _ => rfl⟩,fun _ _ _ _ _ => .inl rfl⟩
 cases hx:x.dst with
 | none =>
  rw [hx] at ha
  cases pr with
  | sto t cs =>
   simp only [after,Option.some.injEq] at ha
   subst ha
   obtain ⟨hs,⟨cs0,ht⟩,_⟩:=hf.sto t cs rfl
   have hl:zQe y.op = false:=by
    cases hq:zQe y.op with
    | false => rfl
    | true => exact (h.sl hs hq).elim
   have hst:yW6 y.op = false:=by
    rcases h.pure with hp | hp
    ·rw [yV4 hp] at hs; cases hs
    ·exact yV4 hp
   exact ⟨xW9 ht (by rw [hl,hst]; rfl),zY7 ht⟩
  | _ => simp only [after,Option.some.injEq,reduceCtorEq] at ha <;> subst ha <;> exact refl
 | some d =>
  rw [hx] at ha
  have hd:=h.d d hx
  have key:∀ a s,SameAt c y.op ad (ad.put d a) fr (fr.put d s) ∧ yVs ops y fr (fr.put d s):=fun a s => ⟨xWa (zUr hd.1) (hb d hx),zY8 hd.1⟩
  cases pr with
  | adr t off =>
   simp only [after] at ha
   split at ha
   ·cases ha
   ·cases ha; exact key _ _
  | _ => simp only [after,Option.some.injEq,reduceCtorEq] at ha <;> subst ha <;> exact key _ _
theorem zYc {fr:Fr} {d e:Nat} {s t:SV} (h:d ≠ e):(fr.put d s).put e t = (fr.put e t).put d s:=by
 funext x
 simp only [Fr.put_apply]
 by_cases h1:x = e
 ·rw [if_pos h1,if_neg (fun h2 => h (by rw [← h2,h1])),if_pos h1]
 ·rw [if_neg h1,if_neg h1]
theorem wQd {d e:Nat} (o:Option (Nat × Nat)):Ad.keep d (Ad.keep e o) = Ad.keep e (Ad.keep d o):=by
 cases o with
 | none => rfl
 | some p =>
  obtain ⟨t,off⟩:=p
  by_cases h1:t = e
  ·by_cases h2:t = d
   ·simp only [Ad.keep,if_pos h1,if_pos h2]
   ·simp only [Ad.keep,if_pos h1,if_neg h2]
  ·by_cases h2:t = d
   ·simp only [Ad.keep,if_neg h1,if_pos h2]
   ·simp only [Ad.keep,if_neg h1,if_neg h2]
theorem xYq {ad:Ad} {d e:Nat} {a b:Option (Nat × Nat)} (h:d ≠ e) (ha:Ad.keep e a = a) (hb:Ad.keep d b = b):(ad.put d a).put e b = (ad.put e b).put d a:=by
 funext x
 simp only [Ad.put_apply]
 by_cases h1:x = e
 ·have h2:x ≠ d:=fun h2 => h (by rw [← h2,h1])
  rw [if_pos h1,if_neg h2,if_pos h1,hb]
 ·by_cases h2:x = d
  ·rw [if_neg h1,if_pos h2,if_pos h2,ha]
  ·rw [if_neg h1,if_neg h2,if_neg h2,if_neg h1,wQd]
theorem zQk {c:Cf} {ops:List Oper} {y:Oper} {d:Nat} {ad:Ad} {fr:Fr} (hd:d ∉ looks ops y) (hb:yWm ad d) {t:Nat} (h:∃ x ∈ y.op.operands,∃ off',evA c.gl ad fr x = some (.box t off')):t ≠ d:=by
 obtain ⟨x,hx,off',he⟩:=h
 exact xVf he hb (zUr hd x hx)
theorem yGm {d:Nat} {pr:PR} {ad:Ad} {fr:Fr} {p:Ad × Fr} (h:after (some d) pr ad fr = some p):∃ a s,p = (ad.put d a,fr.put d s) ∧ (∀ ad' fr',after (some d) pr ad' fr' = some (ad'.put d a,fr'.put d s)) ∧
  (a = none ∨ ∃ t off,pr = .adr t off ∧ a = some (t,off)):=by
 cases pr with
 | val x => cases h; exact ⟨_,_,rfl,fun _ _ => rfl,.inl rfl⟩
 | box x => cases h; exact ⟨_,_,rfl,fun _ _ => rfl,.inl rfl⟩
 | adr t off =>
  simp only [after] at h
  split at h
  ·cases h
  ·rename_i hne
   cases h
   exact ⟨_,_,rfl,fun _ _ => if_neg hne,.inr ⟨t,off,rfl,rfl⟩⟩
 | sto t cs => cases h
 | nop => cases h
theorem zWo {c:Cf} {ops:List Oper} {x y:Oper} (h:Ap c ops x y) {ad:Ad} {fr:Fr} {px py:PR} {p q:Ad × Fr} (hbx:∀ d,x.dst = some d → yWm ad d) (hby:∀ d,y.dst = some d → yWm ad d)
  (hfx:Fine c x.op ad fr px) (hfy:Fine c y.op ad fr py) (hp:after x.dst px ad fr = some p) (hq:after y.dst py ad fr = some q) :
  ∃ r,after y.dst py p.1 p.2 = some r ∧ after x.dst px q.1 q.2 = some r:=by
 have hkx:∀ d t off,x.dst = some d → py = .adr t off → Ad.keep d (some (t,off)) = some (t,off):=fun d t off hd he => by
  simp only [Ad.keep,if_neg (zQk (h.d d hd).1 (hbx d hd) (hfy.adr t off he))]
 have hky:∀ d t off,y.dst = some d → px = .adr t off → Ad.keep d (some (t,off)) = some (t,off):=fun d t off hd he => by
  simp only [Ad.keep,if_neg (zQk (h.e d hd) (hby d hd) (hfx.adr t off he))]
 have hsx:∀ d t cs,x.dst = some d → py = .sto t cs → t ≠ d:=fun d t cs hd he => zQk (h.d d hd).1 (hbx d hd) (hfy.sto t cs he).2.2
 have hsy:∀ d t cs,y.dst = some d → px = .sto t cs → t ≠ d:=fun d t cs hd he => zQk (h.e d hd) (hby d hd) (hfx.sto t cs he).2.2
 have hss:∀ t cs t' cs',px = .sto t cs → py = .sto t' cs' → False:=fun t cs t' cs' h1 h2 => by
  have a:=(hfx.sto t cs h1).1
  have b:=(hfy.sto t' cs' h2).1
  rcases h.pure with hq | hq
  ·rw [yV4 hq] at a; cases a
  ·rw [yV4 hq] at b; cases b
 cases hx:x.dst with
 | none =>
  cases hy:y.dst with
  | none =>
   rw [hx] at hp; rw [hy] at hq
   cases px <;> cases py <;> simp only [after,Option.some.injEq,reduceCtorEq] at hp hq <;> subst hp hq <;> first | exact ⟨_,rfl,rfl⟩ | exact (hss _ _ _ _ rfl rfl).elim
  | some e =>
   rw [hx] at hp; rw [hy] at hq
   cases px with
   | sto t cs =>
    have ht:=hsy e t cs hy rfl
    simp only [after,Option.some.injEq] at hp
    subst hp
    cases py with
    | adr t' off =>
     simp only [after] at hq
     split at hq
     ·cases hq
     ·rename_i hne
      cases hq
      exact ⟨_,if_neg hne,by simp only [after]; rw [zYc (fun h => ht h.symm)]⟩
    | _ => simp only [after,Option.some.injEq,reduceCtorEq] at hq <;> subst hq <;> exact ⟨_,rfl,by simp only [after]; rw [zYc (fun h => ht h.symm)]⟩
   | _ => simp only [after,Option.some.injEq,reduceCtorEq] at hp <;> subst hp <;> exact ⟨_,hq,rfl⟩
 | some d =>
  rw [hx] at hp
  obtain ⟨a,s,rfl,hall,ha⟩:=yGm hp
  cases hy:y.dst with
  | none =>
   rw [hy] at hq
   cases py with
   | sto t cs =>
    have ht:=hsx d t cs hx rfl
    cases hq
    exact ⟨_,rfl,by rw [hall,zYc ht]⟩
   | box cs => cases hq
   | _ => cases hq; exact ⟨_,rfl,hall _ _⟩
  | some e =>
   rw [hy] at hq
   obtain ⟨b,s',rfl,hall',hb⟩:=yGm hq
   have hde:d ≠ e:=fun h0 => (h.d d hx).2 (by rw [hy,h0])
   have hka:Ad.keep e a = a:=by
    rcases ha with rfl | ⟨t,off,h1,rfl⟩
    ·rfl
    ·exact hky e t off hy h1
   have hkb:Ad.keep d b = b:=by
    rcases hb with rfl | ⟨t,off,h1,rfl⟩
    ·rfl
    ·exact hkx d t off hx h1
   exact ⟨_,hall' _ _,by rw [hall,zYc hde,xYq hde hka hkb]⟩
end Go.Iv
