/- The layer of ideal values, part O: regio -/
import Derived.Test.YtjbhofcbleepiaaGreatDoorJE
set_option linter.all false
namespace Go.Iv
open Go
section
variable {α:Type} {p q p' q':Prop}
theorem yZn {o:Option α} {f g:α → Prop} (h:∀ x,f x → g x):yQ6 o f → yQ6 o g:=by
 cases o <;> simp only [yQ6] <;> first | exact h _ | exact id
theorem xXv {c:Prop} (h:p → q):chk c p → chk c q:=fun x => ⟨x.1,h x.2⟩
theorem wQ8 {c:Prop} (h:p → q):giv c p → giv c q:=fun x y => h (x y)
theorem wQ9 {c:Prop} (h:p → q):(c → p) → (c → q):=fun x y => h (x y)
theorem wQa {f g:α → Prop} (h:∀ x,f x → g x):(∀ x,f x) → (∀ x,g x):=fun hf x => h x (hf x)
theorem zJs {b:Bool} {k:Lock p} {l:Lock q} {k':Lock p'} {l':Lock q'} (h:p → p') (h':q → q'):yGq b p q k l → yGq b p' q' k' l':=fun x => ⟨fun hb => h (x.1 hb),fun hb => h' (x.2 hb)⟩
theorem yJw {c:Prop} [Decidable c] (h:p → p') (h':q → q'):(if c then p else q) → (if c then p' else q'):=by split <;> assumption
theorem xV0 {s:SV} {f g:List IV → Prop} (h:∀ x,f x → g x):boxV s f → boxV s g:=by unfold boxV; split <;> first | exact h _ | exact id
theorem xXt {s:IObj} {f g:List IV → Prop} (h:∀ x,f x → g x):obV s f → obV s g:=by unfold obV; split <;> first | exact h _ | exact id
theorem wQ7 {s:IObj} {f g:KeyK → List (Value × IV) → Prop} (h:∀ x y,f x y → g x y):omV s f → omV s g:=by unfold omV; split <;> first | exact h _ _ | exact id
theorem zYv {s:IV} {f g:IntKind → Int → Prop} (h:∀ x y,f x y → g x y):intV s f → intV s g:=by unfold intV; split <;> first | exact h _ _ | exact id
theorem zJt {s:IV} {f g:Bool → Prop} (h:∀ x,f x → g x):zX6 s f → zX6 s g:=by unfold zX6; split <;> first | exact h _ | exact id
theorem wQ6 {s:IV} {f g:Tag → List IV → Prop} (h:∀ x y,f x y → g x y):slV s f → slV s g:=by unfold slV; split <;> first | exact h _ _ | exact id
theorem xXs {s:IV} {f f':Tag → List IV → Prop} {g g':Nat → Nat → Nat → Prop} (h:∀ x y,f x y → f' x y) (h':∀ x y z,g x y z → g' x y z):slX s f g → slX s f' g':=by unfold slX; split <;> first | exact h _ _ | exact h' _ _ _ | exact id
theorem wQ5 {s:IV} {f f':Tag → List IV → Prop} {g g':Nat → Nat → Nat → Nat → Prop} (h:∀ x y,f x y → f' x y) (h':∀ x y z u,g x y z u → g' x y z u):slY s f g → slY s f' g':=by unfold slY; split <;> first | exact h _ _ | exact h' _ _ _ _ | exact id
theorem xV1 {k:Option LenK} {i:Option IntKind} {f f' g g':Prop} (h:f → f') (h':g → g'):appK k i f g → appK k i f' g':=by unfold appK; split <;> first | exact h | exact h' | exact id
theorem zXh {s:IV} {f g:List IV → Prop} (h:∀ x,f x → g x):aggV s f → aggV s g:=by unfold aggV; split <;> first | exact h _ | exact id
theorem xKx {s:IV} {f g:List IV → Prop} (h:∀ x,f x → g x):tupV s f → tupV s g:=by unfold tupV; split <;> first | exact h _ | exact id
theorem xXu {s:IV} {f g:Fn → List IV → List IV → Prop} (h:∀ x y z,f x y z → g x y z):fnV s f → fnV s g:=by unfold fnV; split <;> first | exact h _ _ _ | exact id
theorem xKz {s:IV} {f g:Option Nat → Prop} (h:∀ x,f x → g x):mapV s f → mapV s g:=by unfold mapV; split <;> first | exact h _ | exact id
theorem xKy {s:IV} {f g:Value → Prop} (h:∀ x,f x → g x):rawV s f → rawV s g:=by unfold rawV; split <;> first | exact h _ | exact id
end
section
variable {R R':Rt} (h:∀ pr st ds,R pr st ds → R' pr st ds)
include h
set_option maxHeartbeats 1000000 in
theorem yG3 {c:Cf} {dst:Option Nat} {op:Op} {ad:Ad} {fr:Fr} {st:ISt} {ds:List Dfd}:vcR c dst op R ad fr st ds → vcR c dst op R' ad fr st ds:=by
 unfold vcR
 split
 all_goals try unfold zQy
 all_goals try unfold nilV
 all_goals repeat (first
  | exact h _ _ _ | exact id
  | refine yZn fun _ => ?_ | refine xXv ?_ | refine wQ8 ?_ | refine wQ9 ?_ | refine wQa fun _ => ?_ | refine zJs ?_ ?_ | refine yJw ?_ ?_
  | refine xV0 fun _ => ?_ | refine xXt fun _ => ?_ | refine wQ7 fun _ _ => ?_ | refine zYv fun _ _ => ?_ | refine zJt fun _ => ?_ | refine wQ6 fun _ _ => ?_ | refine xXs (fun _ _ => ?_) (fun _ _ _ => ?_) | refine wQ5 (fun _ _ => ?_) (fun _ _ _ _ => ?_) | refine xV1 ?_ ?_
  | refine zXh fun _ => ?_ | refine xKx fun _ => ?_ | refine xXu fun _ _ _ => ?_ | refine xKz fun _ => ?_ | refine xKy fun _ => ?_
  | (refine fun hh => callV.mono hh fun _ _ => ?_; unfold zKf)
  | unfold yWn | unfold yWz | unfold zYl | unfold zQ3 | unfold yY8 | unfold zZx | unfold xY4 | unfold idxV | unfold yYa | unfold zJq | unfold zZ1 | unfold yY7 | unfold lenV | unfold appV | unfold appO | unfold appZ | unfold capV | unfold zWh | unfold xXi | unfold zGb | unfold plR
  | split)
end
def zV2 (esc:List Nat) (dst:Option Nat):Op → Bool
 | .move _ | .assign _ | .pick .. | .build .. => true
 | .buildSlice .. => !yY4 esc dst
 | .load .. => !yY4 esc dst
 | .nilCheck _ | .binOp .. | .unOp .. | .convert .. | .makeFunc .. | .slice .. | .fieldAddr .. | .field .. | .indexAddr .. | .index .. | .extract .. => true
 | .alloc _ | .box .. => match dst with | some d => !esc.contains d | none => false
 | .call ⟨.builtin .len,_,_⟩ | .call ⟨.builtin .max,_,_⟩ => true
 | .call ⟨.value (.func g),_,_⟩ => esc.contains (g + 1000000)
 | _ => false
def zQ8:Op → Bool
 | .load .. => true
 | _ => false
def yVv:Op → Bool
 | .store .. => true
 | _ => false
def yJn (esc:List Nat) (dst:Option Nat) (op:Op):Bool:=zV2 esc dst op || zQ8 op
def vQ0 (l:List Operand):List Nat:=l.filterMap fun | .tmp t => some t | _ => none
def looks (ops:List Oper) (o:Oper):List Nat:=vQ0 o.op.operands.toList ++ (match o.guard with | some (j,_) => (yVk ops j).toList | none => [])
def wZ2 (esc:List Nat) (ops:List Oper) (x y:Oper):Bool :=
 (yJn esc x.dst x.op || yJn esc y.dst y.op) && !(zQ8 x.op && yVv y.op) && !(zQ8 y.op && yVv x.op) &&
 (match x.dst with | some d => !(looks ops y).contains d && !(y.dst == some d) | none => true) && (match y.dst with | some d => !(looks ops x).contains d | none => true)
def Lin (F:Rt → ISt → List Dfd → Prop):Prop:=(∃ pr,∀ R st ds,F R st ds ↔ R pr st ds) ∨ (∀ R st ds,¬ F R st ds)
theorem yX2 (pr:PR):Lin (fun R st ds => R pr st ds):=.inl ⟨pr,fun _ _ _ => Iff.rfl⟩
theorem yZh:Lin (fun _ _ _ => False):=.inr fun _ _ _ h => h
theorem yQc {α:Type} {o:Option α} {F:α → Rt → ISt → List Dfd → Prop} (h:∀ x,Lin (F x)):Lin (fun R st ds => yQ6 o fun x => F x R st ds):=by
 cases o with
 | none => exact yZh
 | some x => exact h x
theorem yYm {c:Prop} {F:Rt → ISt → List Dfd → Prop} (h:Lin F):Lin (fun R st ds => chk c (F R st ds)):=by
 by_cases hc:c
 ·rcases h with ⟨pr,h⟩ | h
  ·exact .inl ⟨pr,fun R st ds => ⟨fun x => (h R st ds).1 x.2,fun x => ⟨hc,(h R st ds).2 x⟩⟩⟩
  ·exact .inr fun R st ds x => h R st ds x.2
 ·exact .inr fun R st ds x => hc x.1
theorem yJt {c:Prop} [Decidable c] {F G:Rt → ISt → List Dfd → Prop} (h:Lin F) (h':Lin G):Lin (fun R st ds => if c then F R st ds else G R st ds):=by
 by_cases hc:c
 ·simpa only [if_pos hc] using h
 ·simpa only [if_neg hc] using h'
theorem xUn {c:Prop} {F:Rt → ISt → List Dfd → Prop} (hc:c) (h:Lin F):Lin (fun R st ds => c → F R st ds):=by
 rcases h with ⟨pr,h⟩ | h
 ·exact .inl ⟨pr,fun R st ds => ⟨fun x => (h R st ds).1 (x hc),fun x _ => (h R st ds).2 x⟩⟩
 ·exact .inr fun R st ds x => h R st ds (x hc)
theorem xUp {b:Bool} {F G:Rt → ISt → List Dfd → Prop} (h:Lin F) (h':Lin G):Lin (fun R st ds => yGq b (F R st ds) (G R st ds) .mk .mk):=by
 cases b
 ·simpa only [xJ8] using h'
 ·simpa only [xY7] using h
theorem xKp {s:SV} {F:List IV → Rt → ISt → List Dfd → Prop} (h:∀ x,Lin (F x)):Lin (fun R st ds => boxV s fun x => F x R st ds):=by
 cases s <;> first | exact h _ | exact yZh
theorem zXe {s:IV} {F:IntKind → Int → Rt → ISt → List Dfd → Prop} (h:∀ x y,Lin (F x y)):Lin (fun R st ds => intV s fun x y => F x y R st ds):=by
 cases s with
 | raw v => cases v <;> first | exact h _ _ | exact yZh
 | _ => exact yZh
theorem xUq {s:IV} {F:Bool → Rt → ISt → List Dfd → Prop} (h:∀ x,Lin (F x)):Lin (fun R st ds => zX6 s fun x => F x R st ds):=by
 cases s with
 | raw v => cases v <;> first | exact h _ | exact yZh
 | _ => exact yZh
theorem xUl {s:IV} {F:Tag → List IV → Rt → ISt → List Dfd → Prop} {G:Nat → Nat → Nat → Rt → ISt → List Dfd → Prop} (h:∀ x y,Lin (F x y)) (h':∀ x y z,Lin (G x y z)):Lin (fun R st ds => slX s (fun x y => F x y R st ds) (fun x y z => G x y z R st ds)):=by
 by_cases hs:∃ t xs,s = .sl t xs
 ·obtain ⟨t,xs,rfl⟩:=hs; exact h _ _
 ·by_cases hr:∃ b off n cap,s = .raw (.slice (some ⟨b,off,none⟩) n cap)
  ·obtain ⟨b,off,n,cap,rfl⟩:=hr; exact h' _ _ _
  ·refine .inr fun R st ds hh => ?_
   simp only at hh
   unfold slX at hh
   split at hh
   ·exact hs ⟨_,_,rfl⟩
   ·exact hr ⟨_,_,_,_,rfl⟩
   ·exact hh
theorem wYb {s:IV} {F:Tag → List IV → Rt → ISt → List Dfd → Prop} {G:Nat → Nat → Nat → Nat → Rt → ISt → List Dfd → Prop} (h:∀ x y,Lin (F x y)) (h':∀ x y z u,Lin (G x y z u)):Lin (fun R st ds => slY s (fun x y => F x y R st ds) (fun x y z u => G x y z u R st ds)):=by
 by_cases hs:∃ t xs,s = .sl t xs
 ·obtain ⟨t,xs,rfl⟩:=hs; exact h _ _
 ·by_cases hr:∃ b off n cap,s = .raw (.slice (some ⟨b,off,none⟩) n cap)
  ·obtain ⟨b,off,n,cap,rfl⟩:=hr; exact h' _ _ _ _
  ·refine .inr fun R st ds hh => ?_
   simp only at hh
   unfold slY at hh
   split at hh
   ·exact hs ⟨_,_,rfl⟩
   ·exact hr ⟨_,_,_,_,rfl⟩
   ·exact hh
theorem zXf {s:IV} {F:List IV → Rt → ISt → List Dfd → Prop} (h:∀ x,Lin (F x)):Lin (fun R st ds => aggV s fun x => F x R st ds):=by
 cases s <;> first | exact h _ | exact yZh
theorem wJ2 {s:IV} {F:List IV → Rt → ISt → List Dfd → Prop} (h:∀ x,Lin (F x)):Lin (fun R st ds => tupV s fun x => F x R st ds):=by
 cases s <;> first | exact h _ | exact yZh
theorem zYo {s:IV} {F:Value → Rt → ISt → List Dfd → Prop} (h:∀ x,Lin (F x)):Lin (fun R st ds => rawV s fun x => F x R st ds):=by
 cases s <;> first | exact h _ | exact yZh
theorem xUm {ag:Bool} {n:Nat} {p:Pl} {fr:Fr}:Lin (fun R st ds => zQ3 true ag n p fr R st ds):=by
 cases p with
 | box t off => exact xKp fun _ => yQc fun _ => yX2 _
 | ptr b off => exact yZh
 | cp y => exact yJt (yX2 _) yZh
theorem xWs {f:Nat × Bool × Nat} {p:Pl}:Lin (fun R st ds => zZx f p R st ds):=by
 cases p with
 | box t off => exact yX2 _
 | ptr b off => exact yX2 _
 | cp y => exact zXf fun _ => yQc fun _ => yJt (yX2 _) yZh
theorem xUo {len n j:Nat} {ag:Bool} {p:Pl}:Lin (fun R st ds => xY4 len ag n j p R st ds):=by
 unfold xY4
 refine yJt ?_ yZh
 cases p with
 | box t off => exact yX2 _
 | ptr b off => exact yX2 _
 | cp y => exact zXf fun _ => yQc fun _ => yJt (yX2 _) yZh
theorem wJ5 {k:LenK} {s:Option (TypeId × Bool × Nat × Nat)} {xs:Option IV} {p:Option Pl} {e:Option (Nat × Bool × Nat)} {j:Int}:Lin (fun R st ds => idxV k s xs p e j R st ds):=by
 cases k with
 | sl => exact yQc fun _ => yQc fun _ => xUl (fun _ _ => yJt (yJt (yQc fun _ => yX2 _) yZh) yZh) (fun _ _ _ => yJt (yX2 _) yZh)
 | arr n => exact yQc fun _ => yQc fun _ => yJt xUo yZh
 | _ => exact yZh
theorem xWr {k:LenK} {e:Option (Nat × Bool × Nat)} {x:IV} {j:Int}:Lin (fun R st ds => zJq k e x j R st ds):=by
 cases k with
 | str =>
  refine zYo fun v => ?_
  cases v with
  | string s => exact yQc fun _ => yX2 _
  | _ => exact yZh
 | arr n => exact zXf fun _ => yQc fun _ => yJt (yQc fun _ => yX2 _) yZh
 | _ => exact yZh
theorem wJ4 {k:LenK} {x:IV}:Lin (fun R st ds => lenV true k x R st ds):=by
 cases k with
 | str =>
  refine zYo fun v => ?_
  cases v with
  | string s => exact xUn (fun h => by cases h) (yX2 _)
  | _ => exact yZh
 | sl => exact xUl (fun _ _ => xUn (fun h => by cases h) (yX2 _)) (fun _ _ _ => yX2 _)
 | map => exact yZh
 | arr n => exact yX2 _
theorem xWq {k:LenK} {s:Option (TypeId × Bool × Nat × Nat)} {x:IV} {lo hi mx:Option Int}:Lin (fun R st ds => yYa k s x lo hi mx R st ds):=by
 cases k with
 | str =>
  refine zYo fun v => ?_
  cases v with
  | string s =>
   cases mx with
   | none => exact yQc fun _ => yX2 _
   | some m => exact yZh
  | _ => exact yZh
 | sl =>
  refine yQc fun _ => wYb (fun _ _ => yYm ?_) (fun _ _ _ _ => ?_)
  ·cases hi with
   | none =>
    cases mx with
    | none => exact yQc fun _ => yYm (yX2 _)
    | some m => exact yZh
   | some h => exact yQc fun _ => yYm (yX2 _)
  ·cases mx with
   | none => exact yYm (yQc fun _ => yX2 _)
   | some m => exact yZh
 | _ => exact yZh
theorem xQ5 {o:Option IV} {p:Option Pl}:Lin (fun R st ds => zQy true o p R st ds):=by
 cases o with
 | some x => exact yX2 _
 | none => exact yZh
theorem wJ3 {o:Option IV} {p:Option Pl}:Lin (fun R st ds => nilV o p true R st ds):=by
 cases o with
 | none => exact yZh
 | some x =>
  cases x with
  | fn f a b => exact yJt (yX2 _) yZh
  | cptr y => exact yX2 _
  | _ => exact yZh
theorem zW5 {esc:List Nat} {d:Nat} (h:esc.contains d = false) {cs:List IV}:Lin (fun R st ds => yWz esc (some d) cs R st ds):=by
 have:¬ d ∈ esc:=by simpa using h
 simp only [yWz,if_neg this]
 exact yX2 _
theorem xXm {frz esc:List Nat} {d:Nat} (h:esc.contains d = false) {y:IV}:Lin (fun R st ds => yWn frz esc (some d) y R st ds):=yJt (yX2 _) (zW5 h)
theorem xXl {c:Cf} (hdr:c.dr = true) {dst:Option Nat} {op:Op} {ad:Ad} {fr:Fr} (hp:zV2 c.esc dst op = true):Lin (fun R st ds => vcR c dst op R ad fr st ds):=by
 unfold zV2 at hp
 split at hp
 case h_1 => simp only [vcR,hdr]; exact xQ5
 case h_2 => simp only [vcR,hdr]; exact xQ5
 case h_3 => exact yQc fun _ => xUq fun _ => xUp (yQc fun _ => yX2 _) (yQc fun _ => yX2 _)
 case h_4 => exact yYm (yQc fun _ => yQc fun _ => yX2 _)
 case h_5 =>
  have hl:yY4 c.esc dst = false:=by simpa using hp
  simp only [vcR,zYl,hl,bFt,if_false]; exact yQc fun _ => yYm (yQc fun _ => yYm (yX2 _))
 case h_6 =>
  have hl:ldr c.dr c.esc dst = true:=by unfold ldr; rw [hdr,hp]; rfl
  simp only [vcR,hl]; exact yQc fun _ => yQc fun _ => xUm
 case h_7 => simp only [vcR,hdr]; exact wJ3
 case h_8 => exact yQc fun _ => yQc fun _ => yQc fun _ => yX2 _
 case h_9 => exact yQc fun _ => yQc fun _ => yX2 _
 case h_10 => exact yQc fun _ => yQc fun _ => yX2 _
 case h_11 => exact yQc fun _ => yQc fun _ => yX2 _
 case h_12 => exact yQc fun _ => yQc fun _ => yQc fun _ => yQc fun _ => yQc fun _ => xWq
 case h_13 => exact yQc fun _ => yQc fun _ => xWs
 case h_14 => exact yQc fun _ => yQc fun _ => zXf fun _ => yQc fun _ => yX2 _
 case h_15 => exact yQc fun _ => zXe fun _ _ => yQc fun _ => wJ5
 case h_16 => exact yQc fun _ => zXe fun _ _ => yQc fun _ => yQc fun _ => xWr
 case h_17 => exact yQc fun _ => wJ2 fun _ => yQc fun _ => yX2 _
 case h_18 =>
  split at hp
  ·exact yQc fun _ => zW5 (by simpa using hp)
  ·cases hp
 case h_19 =>
  split at hp
  ·exact yQc fun _ => yQc fun _ => yYm (xXm (by simpa using hp))
  ·cases hp
 case h_20 =>
  rename_i args ts
  obtain ⟨args⟩:=args
  obtain ⟨ts⟩:=ts
  match args,ts with
  | [x],[T] => simp only [vcR,hdr]; exact yQc fun _ => yQc fun _ => wJ4
  | [],_ => exact yZh
  | _ :: _ :: _,_ => exact yZh
  | [_],[] => exact yZh
  | [_],_ :: _ :: _ => exact yZh
 case h_21 =>
  rename_i args ts
  obtain ⟨args⟩:=args
  match args with
  | [x,y] => exact yQc fun _ => yQc fun _ => zXe fun _ _ => zXe fun _ _ => yJt (yX2 _) yZh
  | [] => exact yZh
  | [_] => exact yZh
  | _ :: _ :: _ :: _ => exact yZh
 case h_22 =>
  rename_i g _ _
  have hm:g + 1000000 ∈ c.esc:=by simpa using hp
  simp only [vcR,zGb,if_pos hm]
  exact yQc fun _ => yQc fun _ => yX2 _
 case h_23 => cases hp
structure SameAt (c:Cf) (op:Op) (ad ad':Ad) (fr fr':Fr):Prop where
 v:∀ x ∈ op.operands,evV c.gl fr x = evV c.gl fr' x
 a:∀ x ∈ op.operands,evA c.gl ad fr x = evA c.gl ad' fr' x
 box:(zQ8 op || yVv op) = true → ∀ x ∈ op.operands,∀ t off,evA c.gl ad fr x = some (.box t off) → fr t = fr' t
theorem yGi {gl:Nat → Option IV} {fr fr':Fr}:∀ {l:List Operand},(∀ x ∈ l,evV gl fr x = evV gl fr' x) → evL gl fr l = evL gl fr' l
 | [],_ => rfl
 | x :: l,h => by rw [xVc,xVc,h x (by simp),yGi fun y hy => h y (by simp [hy])]
theorem zZ5 {gl:Nat → Option IV} {fr fr':Fr} {o:Option Operand} (h:∀ x,o = some x → evV gl fr x = evV gl fr' x):yWs gl fr o = yWs gl fr' o:=by
 cases o with
 | none => rfl
 | some x => simp only [xWx,h x rfl]
theorem zKg {P:Program} {gl:Nat → Option IV} {fr fr':Fr} {T:TypeId}:∀ {l:List (Nat × Operand)} {cs:List IV},(∀ x ∈ l.map (·.2),evV gl fr x = evV gl fr' x) → yWa P gl fr T cs l = yWa P gl fr' T cs l
 | [],cs,_ => rfl
 | (i,x) :: l,cs,h => by
  rw [yUh,yUh,h x (by simp)]
  cases fldI P T i with
  | none => rfl
  | some f =>
   cases evV gl fr' x with
   | none => rfl
   | some y => simp only [zWk]; split <;> first | exact zKg fun y hy => h y (by simp [hy]) | rfl
theorem xWp {dr ag:Bool} {n:Nat} {p:Pl} {fr fr':Fr} {R:Rt} {st:ISt} {ds:List Dfd} (h:∀ t off,p = .box t off → fr t = fr' t):zQ3 dr ag n p fr R st ds = zQ3 dr ag n p fr' R st ds:=by
 cases p with
 | box t off => simp only [zQ3,h t off rfl]
 | _ => rfl
theorem xZl {y:List IV} {p:Pl} {fr fr':Fr} {R:Rt} {st:ISt} {ds:List Dfd} (h:∀ t off,p = .box t off → fr t = fr' t):yY8 y p fr R st ds = yY8 y p fr' R st ds:=by
 cases p with
 | box t off => simp only [yY8,h t off rfl]
 | _ => rfl
theorem xYr {c:Cf} {dst:Option Nat} {op:Op} {R:Rt} {ad ad':Ad} {fr fr':Fr} {st:ISt} {ds:List Dfd} (h:SameAt c op ad ad' fr fr'):vcR c dst op R ad fr st ds = vcR c dst op R ad' fr' st ds:=by
 obtain ⟨hv,ha,hb⟩:=h
 cases op with
 | move x => simp only [vcR,hv x (by simp [Op.operands]),ha x (by simp [Op.operands])]
 | assign x => simp only [vcR,hv x (by simp [Op.operands]),ha x (by simp [Op.operands])]
 | pick x y z => simp only [vcR]; rw [hv x (by simp [Op.operands]),hv y (by simp [Op.operands]),hv z (by simp [Op.operands])]
 | alloc T => rfl
 | box T x => simp only [vcR,hv x (by simp [Op.operands])]
 | build T parts => simp only [vcR,fun cs => zKg (P:=c.P) (T:=T) (cs:=cs) (l:=parts.toList) (fun x hx => hv x (by simpa [Op.operands] using hx))]
 | buildSlice T n parts => simp only [vcR,yGi (l:=parts.toList.map (·.2)) (fun x hx => hv x (by simpa [Op.operands] using hx))]
 | load T x =>
  have hbx:=hb rfl x (by simp [Op.operands])
  simp only [vcR,← ha x (by simp [Op.operands])]
  cases hp:evA c.gl ad fr x with
  | none => rfl
  | some p => simp only [yV2,fun (i:Bool × Nat) => xWp (dr:=ldr c.dr c.esc dst) (ag:=i.1) (n:=i.2) (p:=p) (fr:=fr) (fr':=fr') (R:=R) (st:=st) (ds:=ds) (fun t off hq => hbx t off (by rw [hp,hq]))]
 | store T x y =>
  have hbx:=hb rfl x (by simp [Op.operands])
  simp only [vcR,← ha x (by simp [Op.operands]),← hv y (by simp [Op.operands])]
  cases hp:evA c.gl ad fr x with
  | none => rfl
  | some p => simp only [yV2,fun (i:List IV) => xZl (y:=i) (p:=p) (fr:=fr) (fr':=fr') (R:=R) (st:=st) (ds:=ds) (fun t off hq => hbx t off (by rw [hp,hq]))]
 | nilCheck x => simp only [vcR,hv x (by simp [Op.operands]),ha x (by simp [Op.operands])]
 | binOp o T x y T' => simp only [vcR,hv x (by simp [Op.operands]),hv y (by simp [Op.operands])]
 | unOp o T x => simp only [vcR,hv x (by simp [Op.operands])]
 | convert T T' x => simp only [vcR,hv x (by simp [Op.operands])]
 | makeFunc f a b => simp only [vcR,yGi (l:=a.toList) (fun x hx => hv x (by simp [Op.operands]; exact .inl (by simpa using hx))),yGi (l:=b.toList) (fun x hx => hv x (by simp [Op.operands]; exact .inr (by simpa using hx)))]
 | slice T x lo hi mx => simp only [vcR,hv x (by simp [Op.operands]),zZ5 (o:=lo) (fun y hy => hv y (by simp [Op.operands,hy])),zZ5 (o:=hi) (fun y hy => hv y (by simp [Op.operands,hy])),
   zZ5 (o:=mx) (fun y hy => hv y (by simp [Op.operands,hy]))]
 | fieldAddr T x i => simp only [vcR,ha x (by simp [Op.operands])]
 | field T x i => simp only [vcR,hv x (by simp [Op.operands])]
 | indexAddr T x y => simp only [vcR,hv x (by simp [Op.operands]),ha x (by simp [Op.operands]),hv y (by simp [Op.operands])]
 | index T x y => simp only [vcR,hv x (by simp [Op.operands]),hv y (by simp [Op.operands])]
 | lookup T x y ok => simp only [vcR,hv x (by simp [Op.operands]),hv y (by simp [Op.operands])]
 | mapUpdate T x y z => simp only [vcR,hv x (by simp [Op.operands]),hv y (by simp [Op.operands]),hv z (by simp [Op.operands])]
 | extract x i => simp only [vcR,hv x (by simp [Op.operands])]
 | call cc =>
  obtain ⟨f,args,ts⟩:=cc
  cases f with
  | value f => simp only [vcR,hv f (by simp [Op.operands,Call.operands]),yGi (l:=args.toList) (fun x hx => hv x (by simp [Op.operands,Call.operands]; exact .inr (by simpa using hx)))]
  | invoke r nm => rfl
  | builtin b =>
   obtain ⟨args⟩:=args
   obtain ⟨ts⟩:=ts
   have hv':∀ x ∈ args,evV c.gl fr x = evV c.gl fr' x:=fun x hx => hv x (by simp [Op.operands,Call.operands]; exact hx)
   cases b with
   | len =>
    match args,ts,hv' with
    | [x],[T],hv' => simp only [vcR,hv' x (by simp)]
    | [],_,_ => rfl
    | _ :: _ :: _,_,_ => rfl
    | [_],[],_ => rfl
    | [_],_ :: _ :: _,_ => rfl
   | append =>
    match args,ts,hv' with
    | [x,y],[T,T'],hv' => simp only [vcR,hv' x (by simp),hv' y (by simp)]
    | [],_,_ => rfl
    | [_],_,_ => rfl
    | _ :: _ :: _ :: _,_,_ => rfl
    | [_,_],[],_ => rfl
    | [_,_],[_],_ => rfl
    | [_,_],_ :: _ :: _ :: _,_ => rfl
   | cap =>
    match args,ts,hv' with
    | [x],[T],hv' => simp only [vcR,hv' x (by simp)]
    | [],_,_ => rfl
    | _ :: _ :: _,_,_ => rfl
    | [_],[],_ => rfl
    | [_],_ :: _ :: _,_ => rfl
   | clear =>
    match args,ts,hv' with
    | [x],[T],hv' => simp only [vcR,hv' x (by simp)]
    | [],_,_ => rfl
    | _ :: _ :: _,_,_ => rfl
    | [_],[],_ => rfl
    | [_],_ :: _ :: _,_ => rfl
   | max =>
    match args,hv' with
    | [x,y],hv' => simp only [vcR,hv' x (by simp),hv' y (by simp)]
    | [],_ => rfl
    | [_],_ => rfl
    | _ :: _ :: _ :: _,_ => rfl
   | min =>
    match args,hv' with
    | [x,y],hv' => simp only [vcR,hv' x (by simp),hv' y (by simp)]
    | [],_ => rfl
    | [_],_ => rfl
    | _ :: _ :: _ :: _,_ => rfl
   | _ => rfl
 | defer cc =>
  obtain ⟨f,args,ts⟩:=cc
  cases f with
  | value f => simp only [vcR,hv f (by simp [Op.operands,Call.operands]),yGi (l:=args.toList) (fun x hx => hv x (by simp [Op.operands,Call.operands]; exact .inr (by simpa using hx)))]
  | _ => rfl
 | makeMap T r => cases r <;> rfl
 | insert T x y z => simp only [vcR,hv x (by simp [Op.operands]),hv y (by simp [Op.operands]),hv z (by simp [Op.operands])]
 | makeSlice T x y => simp only [vcR,hv x (by simp [Op.operands]),hv y (by simp [Op.operands])]
 | _ => rfl
def yXe (c:Cf) (ops:List Oper) (o:Oper) (R:Rt) (ad:Ad) (fr:Fr) (st:ISt) (ds:List Dfd):Prop :=
 match o.guard with
 | none => vcR c o.dst o.op R ad fr st ds
 | some (j,want) => match yVk ops j with
  | some d => match fr d with
   | .iv (.raw (.bool b)) => if b = want then vcR c o.dst o.op R ad fr st ds else R (.val (.raw undef)) st ds
   | .iv (.raw (.tuple _)) => R (.val (.raw undef)) st ds
   | _ => False
  | none => False
def zWy (c:Cf) (ops:List Oper) (o:Oper) (K:Kt):Kt:=fun ad fr st ds => yXe c ops o (finK o.dst K ad fr) ad fr st ds
def vcK (c:Cf) (ops:List Oper):List Oper → Kt → Kt
 | [],K => K
 | o :: l,K => zWy c ops o (vcK c ops l K)
theorem zVd {c:Cf} {ops l l':List Oper} {K:Kt}:vcK c ops (l ++ l') K = vcK c ops l (vcK c ops l' K):=by
 induction l with
 | nil => rfl
 | cons o l ih => rw [List.cons_append,vcK,vcK,ih]
theorem zGp {c:Cf} {ops:List Oper} {Q:Fr → ISt → List Dfd → Prop}:∀ {l:List Oper} {ad:Ad} {fr:Fr} {st:ISt} {ds:List Dfd},yJ8 c ops l Q ad fr st ds → vcK c ops l (fun _ fr st ds => Q fr st ds) ad fr st ds
 | [],_,_,_,_,h => h
 | o :: l,ad,fr,st,ds,h => by
  have hk:∀ ad fr st ds,yJ8 c ops l Q ad fr st ds → vcK c ops l (fun _ fr st ds => Q fr st ds) ad fr st ds:=fun _ _ _ _ => zGp
  have hfin:∀ pr st ds,finK o.dst (yJ8 c ops l Q) ad fr pr st ds → finK o.dst (vcK c ops l (fun _ fr st ds => Q fr st ds)) ad fr pr st ds:=by
   intro pr st ds
   cases pr <;> cases o.dst <;> simp only [finK] <;> first | exact hk _ _ _ _ | exact id | (split <;> first | exact id | exact hk _ _ _ _)
  unfold yJ8 at h
  change yXe c ops o (finK o.dst (vcK c ops l (fun _ fr st ds => Q fr st ds)) ad fr) ad fr st ds
  unfold yXe
  split at h
  ·rename_i hg
   rw [hg]
   exact yG3 hfin h
  ·rename_i j want hg
   rw [hg]
   simp only [yVk]
   cases hd:(ops[j]?).bind (·.dst) with
   | none => rw [hd] at h; exact h.elim
   | some d =>
    rw [hd] at h
    simp only at h ⊢
    cases hs:fr d with
    | box cs => rw [hs] at h; exact h.elim
    | iv x =>
     cases x with
     | raw v =>
      cases v with
      | bool b =>
       rw [hs,xQi fr d want b _ _ _ _ hs] at h
       simp only
       split
       ·exact yG3 hfin (h.1 ‹_›)
       ·have hb:b = !want:=by cases b <;> cases want <;> simp_all
        exact hfin _ _ _ (h.2 hb)
      | tuple t =>
       rw [hs] at h
       exact hfin _ _ _ h
      | _ => rw [hs] at h; exact h.elim
     | _ => rw [hs] at h; exact h.elim
theorem zVi {c:Cf} {ops:List Oper} {o:Oper} {R R':Rt} (h:∀ pr st ds,R pr st ds → R' pr st ds) {ad:Ad} {fr:Fr} {st:ISt} {ds:List Dfd}:yXe c ops o R ad fr st ds → yXe c ops o R' ad fr st ds:=by
 unfold yXe
 split
 ·exact yG3 h
 ·split
  ·split
   ·split
    ·exact yG3 h
    ·exact h _ _ _
   ·exact h _ _ _
   ·exact id
  ·exact id
theorem xUk {c:Cf} (hdr:c.dr = true) {ops:List Oper} {o:Oper} {ad:Ad} {fr:Fr} (hp:zV2 c.esc o.dst o.op = true):Lin (fun R st ds => yXe c ops o R ad fr st ds):=by
 cases hg:o.guard with
 | none => simp only [yXe,hg]; exact xXl hdr hp
 | some p =>
  obtain ⟨j,want⟩:=p
  cases hd:yVk ops j with
  | none => simp only [yXe,hg,hd]; exact yZh
  | some d =>
   cases hs:fr d with
   | box cs => simp only [yXe,hg,hd,hs]; exact yZh
   | iv x =>
    cases x with
    | raw v =>
     cases v with
     | bool b => simp only [yXe,hg,hd,hs]; exact yJt (xXl hdr hp) (yX2 _)
     | tuple t => simp only [yXe,hg,hd,hs]; exact yX2 _
     | _ => simp only [yXe,hg,hd,hs]; exact yZh
    | _ => simp only [yXe,hg,hd,hs]; exact yZh
def LinS (st:ISt) (F:Rt → ISt → List Dfd → Prop):Prop:=(∃ pr,∀ R ds,F R st ds ↔ R pr st ds) ∨ (∀ R ds,¬ F R st ds)
theorem yKl {F:Rt → ISt → List Dfd → Prop} (h:Lin F) (st:ISt):LinS st F:=by
 rcases h with ⟨pr,h⟩ | h
 ·exact .inl ⟨pr,fun R ds => h R st ds⟩
 ·exact .inr fun R ds => h R st ds
theorem xUr {c:Cf} {dst:Option Nat} {T:TypeId} {x:Operand} {ad:Ad} {fr:Fr} (st:ISt):LinS st (fun R st ds => vcR c dst (.load T x) R ad fr st ds):=by
 simp only [vcR]
 cases tyI c.P T with
 | none => exact yKl yZh st
 | some i =>
  cases evA c.gl ad fr x with
  | none => exact yKl yZh st
  | some p =>
   simp only [yV2]
   cases p with
   | box t off => exact yKl (xKp fun _ => yQc fun _ => yX2 _) st
   | cp y => exact yKl (yJt (yX2 _) yZh) st
   | ptr b off =>
    simp only [zQ3]
    cases hl:ldr c.dr c.esc dst with
    | true => simp only [if_true]; exact yKl yZh st
    | false =>
     simp only [bFt,if_false]
     cases hb:st b with
     | none => exact .inr fun R ds h => by simp only [hb] at h; exact h
     | some o =>
      cases o with
      | box cs =>
       cases hp:yKc i.1 i.2 cs off with
       | none => exact .inr fun R ds h => by simp only [hb,yV2,obV,hp] at h; exact h
       | some y => exact .inl ⟨.val y,fun R ds => by simp only [hb,yV2,obV,hp]⟩
      | _ => exact .inr fun R ds h => by simp only [hb,yV2,obV] at h
theorem xKq {c:Cf} (hdr:c.dr = true) {dst:Option Nat} {op:Op} {ad:Ad} {fr:Fr} (hp:yJn c.esc dst op = true) (st:ISt):LinS st (fun R st ds => vcR c dst op R ad fr st ds):=by
 unfold yJn at hp
 rw [Bool.or_eq_true] at hp
 rcases hp with hp | hp
 ·exact yKl (xXl hdr hp) st
 ·cases op <;> first | exact xUr st | cases hp
theorem zW6 {c:Cf} (hdr:c.dr = true) {ops:List Oper} {o:Oper} {ad:Ad} {fr:Fr} (hp:yJn c.esc o.dst o.op = true) (st:ISt):LinS st (fun R st ds => yXe c ops o R ad fr st ds):=by
 cases hg:o.guard with
 | none => simp only [yXe,hg]; exact xKq hdr hp st
 | some p =>
  obtain ⟨j,want⟩:=p
  cases hd:yVk ops j with
  | none => simp only [yXe,hg,hd]; exact yKl yZh st
  | some d =>
   cases hs:fr d with
   | box cs => simp only [yXe,hg,hd,hs]; exact yKl yZh st
   | iv x =>
    cases x with
    | raw v =>
     cases v with
     | bool b =>
      simp only [yXe,hg,hd,hs]
      by_cases hb:b = want
      ·simp only [if_pos hb]; exact xKq hdr hp st
      ·simp only [if_neg hb]; exact yKl (yX2 _) st
     | tuple t => simp only [yXe,hg,hd,hs]; exact yKl (yX2 _) st
     | _ => simp only [yXe,hg,hd,hs]; exact yKl yZh st
    | _ => simp only [yXe,hg,hd,hs]; exact yKl yZh st
def yVj (ops:List Oper) (o:Oper) (fr fr':Fr):Prop:=∀ j want d,o.guard = some (j,want) → yVk ops j = some d → fr d = fr' d ∨ (∃ cs cs',fr d = .box cs ∧ fr' d = .box cs')
theorem yWg {c:Cf} {ops:List Oper} {o:Oper} {R:Rt} {ad ad':Ad} {fr fr':Fr} {st:ISt} {ds:List Dfd} (h:SameAt c o.op ad ad' fr fr') (hg:yVj ops o fr fr'):yXe c ops o R ad fr st ds = yXe c ops o R ad' fr' st ds:=by
 unfold yXe
 rw [xYr h]
 cases hgo:o.guard with
 | none => rfl
 | some p =>
  obtain ⟨j,want⟩:=p
  cases hd:yVk ops j with
  | none => simp only [hd]
  | some d =>
   simp only [hd]
   rcases hg j want d hgo hd with he | ⟨cs,cs',h1,h2⟩
   ·rw [he]
   ·rw [h1,h2]
def wJa:Op → Bool
 | .fieldAddr .. => true
 | .indexAddr .. => true
 | _ => false
structure Fine (c:Cf) (op:Op) (ad:Ad) (fr:Fr) (pr:PR):Prop where
 isA:∀ t off,pr = .adr t off → c.dr = true → wJa op = true
 adr:∀ t off,pr = .adr t off → ∃ x ∈ op.operands,∃ off',evA c.gl ad fr x = some (.box t off')
 sto:∀ t cs,pr = .sto t cs → yVv op = true ∧ (∃ cs0,fr t = .box cs0) ∧ ∃ x ∈ op.operands,∃ off',evA c.gl ad fr x = some (.box t off')
theorem yXp {c:Cf} {op:Op} {ad:Ad} {fr:Fr} {x:IV}:Fine c op ad fr (.val x):=⟨(fun _ _ h => by cases h),(fun _ _ h => by cases h),(fun _ _ h => by cases h)⟩
theorem wJi {c:Cf} {op:Op} {ad:Ad} {fr:Fr} {x:List IV}:Fine c op ad fr (.box x):=⟨(fun _ _ h => by cases h),(fun _ _ h => by cases h),(fun _ _ h => by cases h)⟩
theorem xVb {c:Cf} {op:Op} {ad:Ad} {fr:Fr}:Fine c op ad fr .nop:=⟨(fun _ _ h => by cases h),(fun _ _ h => by cases h),(fun _ _ h => by cases h)⟩
theorem xVa {c:Cf} {op:Op} {R:Rt} {ad:Ad} {fr:Fr} {st:ISt} {ds:List Dfd} {x:Operand} {p:Pl} (hdr:¬ c.dr = true) (hx:x ∈ op.operands) (hp:evA c.gl ad fr x = some p):plR p R st ds → plR p (fun pr st ds => R pr st ds ∧ Fine c op ad fr pr) st ds:=by
 cases p with
 | box t off => exact fun h => ⟨h,⟨(fun _ _ _ h0 => (hdr h0).elim),fun t' off' he => by cases he; exact ⟨x,hx,off,hp⟩,fun _ _ h => by cases h⟩⟩
 | ptr b off => exact fun h => ⟨h,yXp⟩
 | cp y => exact fun h => ⟨h,yXp⟩
theorem zWe {c:Cf} {op:Op} {R:Rt} {ad:Ad} {fr:Fr} {st:ISt} {ds:List Dfd} {x:Operand} (hx:x ∈ op.operands) (o:Option IV) :
  zQy c.dr o (evA c.gl ad fr x) R st ds → zQy c.dr o (evA c.gl ad fr x) (fun pr st ds => R pr st ds ∧ Fine c op ad fr pr) st ds:=by
 unfold zQy
 split
 ·exact fun h => ⟨h,yXp⟩
 ·split
  ·exact id
  ·intro h
   obtain ⟨p,hp,h⟩:=yQ4.1 h
   exact yQ4.2 ⟨p,hp,xVa ‹_› hx hp h⟩
set_option maxHeartbeats 1000000 in
theorem xJr {c:Cf} {dst:Option Nat} {op:Op} {R:Rt} {ad:Ad} {fr:Fr} {st:ISt} {ds:List Dfd}:vcR c dst op R ad fr st ds → vcR c dst op (fun pr st ds => R pr st ds ∧ Fine c op ad fr pr) ad fr st ds:=by
 by_cases h1:∃ x,op = .move x ∨ op = .assign x
 ·obtain ⟨x,rfl | rfl⟩:=h1
  ·exact zWe (by simp [Op.operands]) _
  ·exact zWe (by simp [Op.operands]) _
 by_cases h2:∃ x,op = .nilCheck x
 ·obtain ⟨x,rfl⟩:=h2
  simp only [vcR,nilV]
  split
  ·exact yJw (fun h => ⟨h,yXp⟩) id
  ·exact fun h => ⟨h,yXp⟩
  ·split
   ·exact id
   ·intro h
    obtain ⟨p,hp,h⟩:=yQ4.1 h
    exact yQ4.2 ⟨p,hp,xVa ‹_› (by simp [Op.operands]) hp h⟩
 by_cases h3:∃ T x i,op = .fieldAddr T x i
 ·obtain ⟨T,x,i,rfl⟩:=h3
  simp only [vcR]
  refine yZn fun f => fun h => ?_
  obtain ⟨p,hp,h⟩:=yQ4.1 h
  refine yQ4.2 ⟨p,hp,?_⟩
  cases p with
  | box t off => exact ⟨h,⟨(fun _ _ _ _ => rfl),fun t' off' he => by cases he; exact ⟨x,by simp [Op.operands],off,hp⟩,fun _ _ h => by cases h⟩⟩
  | ptr b off => exact ⟨h,yXp⟩
  | cp y => exact zXh (fun _ => yZn fun _ => yJw (fun h => ⟨h,yXp⟩) id) h
 by_cases h4:∃ T x y,op = .indexAddr T x y
 ·obtain ⟨T,x,y,rfl⟩:=h4
  simp only [vcR]
  refine yZn fun _ => zYv fun _ j => yZn fun k => ?_
  cases k with
  | sl => exact yZn fun _ => yZn fun _ => xXs (fun _ _ => yJw (yJw (yZn fun _ => fun h => ⟨h,yXp⟩) id) id) (fun _ _ _ => yJw (fun h => ⟨h,yXp⟩) id)
  | arr n =>
   refine yZn fun _ => fun h => ?_
   obtain ⟨p,hp,h⟩:=yQ4.1 h
   refine yQ4.2 ⟨p,hp,yJw (yJw ?_ id) id h⟩
   cases p with
   | box t off => exact fun h => ⟨h,⟨(fun _ _ _ _ => rfl),fun t' off' he => by cases he; exact ⟨x,by simp [Op.operands],off,hp⟩,fun _ _ h => by cases h⟩⟩
   | ptr b off => exact fun h => ⟨h,yXp⟩
   | cp y => exact zXh (fun _ => yZn fun _ => yJw (fun h => ⟨h,yXp⟩) id)
  | str => exact id
  | map => exact id
 by_cases h5:∃ T x y,op = .store T x y
 ·obtain ⟨T,x,y,rfl⟩:=h5
  simp only [vcR]
  refine yZn fun _ => yZn fun _ => xXv fun h => ?_
  obtain ⟨p,hp,h⟩:=yQ4.1 h
  refine yQ4.2 ⟨p,hp,?_⟩
  revert h
  cases p with
  | box t off =>
   simp only [yY8]
   cases hf:fr t with
   | box cs => exact yJw (fun h => ⟨h,⟨(fun _ _ h => by cases h),(fun _ _ h => by cases h),fun t' cs' he => by cases he; exact ⟨rfl,⟨cs,hf⟩,x,by simp [Op.operands],off,hp⟩⟩⟩) id
   | iv x => exact id
  | ptr b off => exact yZn fun _ => xXt fun _ => yJw (fun h => ⟨h,xVb⟩) id
  | cp y => exact id
 have hv:∀ x st ds,R (.val x) st ds → R (.val x) st ds ∧ Fine c op ad fr (.val x):=fun x st ds h => ⟨h,yXp⟩
 have hb:∀ x st ds,R (.box x) st ds → R (.box x) st ds ∧ Fine c op ad fr (.box x):=fun x st ds h => ⟨h,wJi⟩
 have hn:∀ st ds,R .nop st ds → R .nop st ds ∧ Fine c op ad fr .nop:=fun st ds h => ⟨h,xVb⟩
 generalize Fine c op ad fr = F at hv hb hn ⊢
 unfold vcR
 split
 all_goals first
  | exact absurd ⟨_,.inl rfl⟩ h1 | exact absurd ⟨_,.inr rfl⟩ h1 | exact absurd ⟨_,rfl⟩ h2 | exact absurd ⟨_,_,_,rfl⟩ h3 | exact absurd ⟨_,_,_,rfl⟩ h4 | exact absurd ⟨_,_,_,rfl⟩ h5
  | repeat (first
   | exact hv _ _ _ | exact hb _ _ _ | exact hn _ _ | exact id
   | refine yZn fun _ => ?_ | refine xXv ?_ | refine wQ8 ?_ | refine wQ9 ?_ | refine wQa fun _ => ?_ | refine zJs ?_ ?_ | refine yJw ?_ ?_
   | refine xV0 fun _ => ?_ | refine xXt fun _ => ?_ | refine wQ7 fun _ _ => ?_ | refine zYv fun _ _ => ?_ | refine zJt fun _ => ?_ | refine wQ6 fun _ _ => ?_ | refine xXs (fun _ _ => ?_) (fun _ _ _ => ?_) | refine wQ5 (fun _ _ => ?_) (fun _ _ _ _ => ?_) | refine xV1 ?_ ?_
   | refine zXh fun _ => ?_ | refine xKx fun _ => ?_ | refine xXu fun _ _ _ => ?_ | refine xKz fun _ => ?_ | refine xKy fun _ => ?_
   | (refine fun hh => callV.mono hh fun _ _ => ?_; unfold zKf)
   | unfold yWn | unfold yWz | unfold zYl | unfold zQ3 | unfold yYa | unfold zJq | unfold zZ1 | unfold yY7 | unfold lenV | unfold appV | unfold appO | unfold appZ | unfold capV | unfold zWh | unfold xXi | unfold zGb
   | split)
def yWd (ad:Ad) (d:Nat):Prop:=∀ x t off,ad x = some (t,off) → t ≠ d
theorem xXq {ad:Ad} {d:Nat} (h:yWd ad d) (s:Nat):Ad.keep d (ad s) = ad s:=by
 cases ha:ad s with
 | none => rfl
 | some p =>
  obtain ⟨t,off⟩:=p
  simp only [Ad.keep,if_neg (h s t off ha)]
theorem xVd {c:Cf} {ad:Ad} {fr:Fr} {x:Operand} {t off d:Nat} (h:evA c.gl ad fr x = some (.box t off)) (hb:yWd ad d) (hx:x ≠ .tmp d):t ≠ d:=by
 cases x with
 | tmp y =>
  simp only [evA] at h
  cases ha:ad y with
  | some p =>
   obtain ⟨t',off'⟩:=p
   rw [ha] at h
   simp only [plAd,Option.some.injEq,Pl.box.injEq] at h
   exact h.1 ▸ hb y t' off' ha
  | none =>
   rw [ha] at h
   simp only [plAd] at h
   cases hf:fr y with
   | box cs =>
    rw [hf] at h
    simp only [plOf,Option.some.injEq,Pl.box.injEq] at h
    rintro rfl
    exact hx (by rw [h.1])
   | iv z =>
    rw [hf] at h
    exfalso
    cases z with
    | raw u =>
     cases u with
     | pointer p =>
      cases p with
      | none => cases h
      | some p =>
       obtain ⟨pb,po,ps⟩:=p
       cases ps <;> cases h
     | _ => cases h
    | _ => cases h
 | global g => simp only [evA] at h; cases hg:c.gl g <;> rw [hg] at h <;> cases h
 | const v => cases h
 | func f => cases h
theorem xW1 {c:Cf} {op:Op} {ad:Ad} {fr:Fr} {d:Nat} {a:Option (Nat × Nat)} {s:SV} (hd:∀ x ∈ op.operands,x ≠ .tmp d) (hb:yWd ad d):SameAt c op ad (ad.put d a) fr (fr.put d s):=by
 refine ⟨fun x hx => ?_,fun x hx => ?_,fun _ x hx t off he => ?_⟩
 ·cases x with
  | tmp y => rw [zG5,zG5,Fr.put_apply,if_neg (fun h => hd _ hx (by rw [h]))]
  | _ => rfl
 ·cases x with
  | tmp y =>
   have hy:y ≠ d:=fun h => hd _ hx (by rw [h])
   simp only [evA,Ad.put_apply,if_neg hy,xXq hb]
   cases ad y with
   | none => simp only [plAd,Fr.put_apply,if_neg hy]
   | some p => rfl
  | _ => rfl
 ·rw [Fr.put_apply,if_neg (xVd he hb (hd x hx))]
theorem xW0 {c:Cf} {op:Op} {ad:Ad} {fr:Fr} {t:Nat} {cs cs':List IV} (ht:fr t = .box cs) (h:(zQ8 op || yVv op) = false):SameAt c op ad ad fr (fr.put t (.box cs')):=by
 refine ⟨fun x _ => ?_,fun x _ => ?_,fun h' => by rw [h] at h'; cases h'⟩
 ·cases x with
  | tmp y =>
   rw [zG5,zG5,Fr.put_apply]
   split
   ·rename_i hy; rw [hy,ht]; rfl
   ·rfl
  | _ => rfl
 ·cases x with
  | tmp y =>
   simp only [evA]
   cases ad y with
   | none =>
    simp only [plAd,Fr.put_apply]
    split
    ·rename_i hy; rw [hy,ht]; rfl
    ·rfl
   | some p => rfl
  | _ => rfl
theorem zY7 {ops:List Oper} {o:Oper} {fr:Fr} {d:Nat} {s:SV} (h:d ∉ looks ops o):yVj ops o fr (fr.put d s):=by
 intro j want e hg he
 refine .inl ?_
 rw [Fr.put_apply,if_neg]
 rintro rfl
 exact h (List.mem_append_right _ (by rw [hg]; simp [he]))
theorem zY6 {ops:List Oper} {o:Oper} {fr:Fr} {t:Nat} {cs cs':List IV} (ht:fr t = .box cs):yVj ops o fr (fr.put t (.box cs')):=by
 intro j want e _ _
 rw [Fr.put_apply]
 by_cases he:e = t
 ·rw [if_pos he,he]; exact .inr ⟨cs,cs',ht,rfl⟩
 ·rw [if_neg he]; exact .inl rfl
theorem xQ1 {ops:List Oper} {o:Oper} {d:Nat} (h:d ∉ looks ops o):∀ x ∈ o.op.operands,x ≠ .tmp d:=by
 rintro x hx rfl
 exact h (List.mem_append_left _ (List.mem_filterMap.2 ⟨.tmp d,by simpa using hx,rfl⟩))
def after (dst:Option Nat) (pr:PR) (ad:Ad) (fr:Fr):Option (Ad × Fr) :=
 match pr,dst with
 | .val x,some d => some (ad.put d none,fr.put d (.iv x))
 | .val _,none => some (ad,fr)
 | .adr t off,some d => if d = t then none else some (ad.put d (some (t,off)),fr.put d (.iv .junk))
 | .adr _ _,none => some (ad,fr)
 | .box cs,some d => some (ad.put d none,fr.put d (.box cs))
 | .box _,none => none
 | .sto _ _,some _ => none
 | .sto t cs,none => some (ad,fr.put t (.box cs))
 | .nop,some _ => none
 | .nop,none => some (ad,fr)
theorem yXj {dst:Option Nat} {K:Kt} {ad:Ad} {fr:Fr} {pr:PR} {st:ISt} {ds:List Dfd}:finK dst K ad fr pr st ds ↔ ∃ p,after dst pr ad fr = some p ∧ K p.1 p.2 st ds:=by
 cases pr <;> cases dst <;> simp only [finK,after,Option.some.injEq,exists_eq_left',reduceCtorEq,false_and,exists_false]
 split <;> simp
theorem yG6 {c:Cf} {ops:List Oper} {o:Oper} {R:Rt} {ad:Ad} {fr:Fr} {st:ISt} {ds:List Dfd} (h:yXe c ops o R ad fr st ds):yXe c ops o (fun pr st ds => R pr st ds ∧ Fine c o.op ad fr pr) ad fr st ds:=by
 unfold yXe at *
 split
 ·exact xJr (by simpa [*] using h)
 ·rename_i j want hg
  rw [hg] at h
  simp only at h
  split at h
  ·rename_i d hd
   cases hs:fr d with
   | box cs => rw [hs] at h; exact h.elim
   | iv x =>
    cases x with
    | raw v =>
     cases v with
     | bool b =>
      rw [hs] at h
      simp only at h ⊢
      split
      ·rename_i hw; rw [if_pos hw] at h; exact xJr h
      ·rename_i hw; rw [if_neg hw] at h; exact ⟨h,yXp⟩
     | tuple t => rw [hs] at h; exact ⟨h,yXp⟩
     | _ => rw [hs] at h; exact h.elim
    | _ => rw [hs] at h; exact h.elim
  ·exact h.elim
structure Ap (c:Cf) (ops:List Oper) (x y:Oper):Prop where
 pure:yJn c.esc x.dst x.op = true ∨ yJn c.esc y.dst y.op = true
 ls:zQ8 x.op = true → yVv y.op = true → False
 sl:yVv x.op = true → zQ8 y.op = true → False
 d:∀ d,x.dst = some d → d ∉ looks ops y ∧ y.dst ≠ some d
 e:∀ d,y.dst = some d → d ∉ looks ops x
theorem Ap.symm {c:Cf} {ops:List Oper} {x y:Oper} (h:Ap c ops x y):Ap c ops y x :=
 ⟨h.pure.symm,fun a b => h.sl b a,fun a b => h.ls b a,fun d hd => ⟨h.e d hd,fun hx => (h.d d hx).2 hd⟩,fun d hd => (h.d d hd).1⟩
theorem zUn {esc:List Nat} {dst:Option Nat} {op:Op} (h:zV2 esc dst op = true):yVv op = false:=by
 cases op <;> first | rfl | simp [zV2] at h
theorem yKr {esc:List Nat} {dst:Option Nat} {op:Op} (h:yJn esc dst op = true):yVv op = false:=by
 unfold yJn at h
 rw [Bool.or_eq_true] at h
 rcases h with h | h
 ·exact zUn h
 ·cases op <;> first | rfl | cases h
theorem uVn {c:Cf} {ops:List Oper} {x y:Oper} (h:wZ2 c.esc ops x y = true):Ap c ops x y:=by
 unfold wZ2 at h
 simp only [bAt,Bool.or_eq_true,Bool.not_eq_true',Bool.and_eq_false_iff] at h
 obtain ⟨⟨⟨⟨h1,h2⟩,h3⟩,h4⟩,h5⟩:=h
 refine ⟨h1,fun a b => by rcases h2 with h2 | h2 <;> simp_all,fun a b => by rcases h3 with h3 | h3 <;> simp_all,fun d hd => ?_,fun d hd => ?_⟩
 ·rw [hd] at h4
  simp only [bAt,Bool.not_eq_true'] at h4
  exact ⟨by simpa using h4.1,by simpa using h4.2⟩
 ·rw [hd] at h5
  simpa using h5
theorem yG9 {c:Cf} {ops:List Oper} {x y:Oper} (h:Ap c ops x y) {ad:Ad} {fr:Fr} {pr:PR} {p:Ad × Fr} (hb:∀ d,x.dst = some d → yWd ad d) (hf:Fine c x.op ad fr pr) (ha:after x.dst pr ad fr = some p) :
  SameAt c y.op ad p.1 fr p.2 ∧ yVj ops y fr p.2:=by
 have refl:SameAt c y.op ad ad fr fr ∧ yVj ops y fr fr:=⟨⟨fun _ _ => rfl,fun _ _ => rfl,fun _ _ _ _ _ _ => rfl⟩,fun _ _ _ _ _ => .inl rfl⟩
 cases hx:x.dst with
 | none =>
  rw [hx] at ha
  cases pr with
  | sto t cs =>
   simp only [after,Option.some.injEq] at ha
   subst ha
   obtain ⟨hs,⟨cs0,ht⟩,_⟩:=hf.sto t cs rfl
   have hl:zQ8 y.op = false:=by
    cases hq:zQ8 y.op with
    | false => rfl
    | true => exact (h.sl hs hq).elim
   have hst:yVv y.op = false:=by
    rcases h.pure with hp | hp
    ·rw [yKr hp] at hs; cases hs
    ·exact yKr hp
   exact ⟨xW0 ht (by rw [hl,hst]; rfl),zY6 ht⟩
  | _ => simp only [after,Option.some.injEq,reduceCtorEq] at ha <;> subst ha <;> exact refl
 | some d =>
  rw [hx] at ha
  have hd:=h.d d hx
  have key:∀ a s,SameAt c y.op ad (ad.put d a) fr (fr.put d s) ∧ yVj ops y fr (fr.put d s):=fun a s => ⟨xW1 (xQ1 hd.1) (hb d hx),zY7 hd.1⟩
  cases pr with
  | adr t off =>
   simp only [after] at ha
   split at ha
   ·cases ha
   ·cases ha; exact key _ _
  | _ => simp only [after,Option.some.injEq,reduceCtorEq] at ha <;> subst ha <;> exact key _ _
theorem zYc {fr:Fr} {d e:Nat} {s t:SV} (h:d ≠ e):(fr.put d s).put e t = (fr.put e t).put d s:=by
 funext x
 simp only [Fr.put_apply]
 by_cases h1:x = e
 ·rw [if_pos h1,if_neg (fun h2 => h (by rw [← h2,h1])),if_pos h1]
 ·rw [if_neg h1,if_neg h1]
theorem xUy {d e:Nat} (o:Option (Nat × Nat)):Ad.keep d (Ad.keep e o) = Ad.keep e (Ad.keep d o):=by
 cases o with
 | none => rfl
 | some p =>
  obtain ⟨t,off⟩:=p
  by_cases h1:t = e
  ·by_cases h2:t = d
   ·simp only [Ad.keep,if_pos h1,if_pos h2]
   ·simp only [Ad.keep,if_pos h1,if_neg h2]
  ·by_cases h2:t = d
   ·simp only [Ad.keep,if_neg h1,if_pos h2]
   ·simp only [Ad.keep,if_neg h1,if_neg h2]
theorem xYd {ad:Ad} {d e:Nat} {a b:Option (Nat × Nat)} (h:d ≠ e) (ha:Ad.keep e a = a) (hb:Ad.keep d b = b):(ad.put d a).put e b = (ad.put e b).put d a:=by
 funext x
 simp only [Ad.put_apply]
 by_cases h1:x = e
 ·have h2:x ≠ d:=fun h2 => h (by rw [← h2,h1])
  rw [if_pos h1,if_neg h2,if_pos h1,hb]
 ·by_cases h2:x = d
  ·rw [if_neg h1,if_pos h2,if_pos h2,ha]
  ·rw [if_neg h1,if_neg h2,if_neg h2,if_neg h1,xUy]
theorem zQd {c:Cf} {ops:List Oper} {y:Oper} {d:Nat} {ad:Ad} {fr:Fr} (hd:d ∉ looks ops y) (hb:yWd ad d) {t:Nat} (h:∃ x ∈ y.op.operands,∃ off',evA c.gl ad fr x = some (.box t off')):t ≠ d:=by
 obtain ⟨x,hx,off',he⟩:=h
 exact xVd he hb (xQ1 hd x hx)
theorem yGn {d:Nat} {pr:PR} {ad:Ad} {fr:Fr} {p:Ad × Fr} (h:after (some d) pr ad fr = some p):∃ a s,p = (ad.put d a,fr.put d s) ∧ (∀ ad' fr',after (some d) pr ad' fr' = some (ad'.put d a,fr'.put d s)) ∧
  (a = none ∨ ∃ t off,pr = .adr t off ∧ a = some (t,off)):=by
 cases pr with
 | val x => cases h; exact ⟨_,_,rfl,fun _ _ => rfl,.inl rfl⟩
 | box x => cases h; exact ⟨_,_,rfl,fun _ _ => rfl,.inl rfl⟩
 | adr t off =>
  simp only [after] at h
  split at h
  ·cases h
  ·rename_i hne
   cases h
   exact ⟨_,_,rfl,fun _ _ => if_neg hne,.inr ⟨t,off,rfl,rfl⟩⟩
 | sto t cs => cases h
 | nop => cases h
theorem zWn {c:Cf} {ops:List Oper} {x y:Oper} (h:Ap c ops x y) {ad:Ad} {fr:Fr} {px py:PR} {p q:Ad × Fr} (hbx:∀ d,x.dst = some d → yWd ad d) (hby:∀ d,y.dst = some d → yWd ad d)
  (hfx:Fine c x.op ad fr px) (hfy:Fine c y.op ad fr py) (hp:after x.dst px ad fr = some p) (hq:after y.dst py ad fr = some q) :
  ∃ r,after y.dst py p.1 p.2 = some r ∧ after x.dst px q.1 q.2 = some r:=by
 have hkx:∀ d t off,x.dst = some d → py = .adr t off → Ad.keep d (some (t,off)) = some (t,off):=fun d t off hd he => by
  simp only [Ad.keep,if_neg (zQd (h.d d hd).1 (hbx d hd) (hfy.adr t off he))]
 have hky:∀ d t off,y.dst = some d → px = .adr t off → Ad.keep d (some (t,off)) = some (t,off):=fun d t off hd he => by
  simp only [Ad.keep,if_neg (zQd (h.e d hd) (hby d hd) (hfx.adr t off he))]
 have hsx:∀ d t cs,x.dst = some d → py = .sto t cs → t ≠ d:=fun d t cs hd he => zQd (h.d d hd).1 (hbx d hd) (hfy.sto t cs he).2.2
 have hsy:∀ d t cs,y.dst = some d → px = .sto t cs → t ≠ d:=fun d t cs hd he => zQd (h.e d hd) (hby d hd) (hfx.sto t cs he).2.2
 have hss:∀ t cs t' cs',px = .sto t cs → py = .sto t' cs' → False:=fun t cs t' cs' h1 h2 => by
  have a:=(hfx.sto t cs h1).1
  have b:=(hfy.sto t' cs' h2).1
  rcases h.pure with hq | hq
  ·rw [yKr hq] at a; cases a
  ·rw [yKr hq] at b; cases b
 cases hx:x.dst with
 | none =>
  cases hy:y.dst with
  | none =>
   rw [hx] at hp; rw [hy] at hq
   cases px <;> cases py <;> simp only [after,Option.some.injEq,reduceCtorEq] at hp hq <;> subst hp hq <;> first | exact ⟨_,rfl,rfl⟩ | exact (hss _ _ _ _ rfl rfl).elim
  | some e =>
   rw [hx] at hp; rw [hy] at hq
   cases px with
   | sto t cs =>
    have ht:=hsy e t cs hy rfl
    simp only [after,Option.some.injEq] at hp
    subst hp
    cases py with
    | adr t' off =>
     simp only [after] at hq
     split at hq
     ·cases hq
     ·rename_i hne
      cases hq
      exact ⟨_,if_neg hne,by simp only [after]; rw [zYc (fun h => ht h.symm)]⟩
    | _ => simp only [after,Option.some.injEq,reduceCtorEq] at hq <;> subst hq <;> exact ⟨_,rfl,by simp only [after]; rw [zYc (fun h => ht h.symm)]⟩
   | _ => simp only [after,Option.some.injEq,reduceCtorEq] at hp <;> subst hp <;> exact ⟨_,hq,rfl⟩
 | some d =>
  rw [hx] at hp
  obtain ⟨a,s,rfl,hall,ha⟩:=yGn hp
  cases hy:y.dst with
  | none =>
   rw [hy] at hq
   cases py with
   | sto t cs =>
    have ht:=hsx d t cs hx rfl
    cases hq
    exact ⟨_,rfl,by rw [hall,zYc ht]⟩
   | box cs => cases hq
   | _ => cases hq; exact ⟨_,rfl,hall _ _⟩
  | some e =>
   rw [hy] at hq
   obtain ⟨b,s',rfl,hall',hb⟩:=yGn hq
   have hde:d ≠ e:=fun h0 => (h.d d hx).2 (by rw [hy,h0])
   have hka:Ad.keep e a = a:=by
    rcases ha with rfl | ⟨t,off,h1,rfl⟩
    ·rfl
    ·exact hky e t off hy h1
   have hkb:Ad.keep d b = b:=by
    rcases hb with rfl | ⟨t,off,h1,rfl⟩
    ·rfl
    ·exact hkx d t off hx h1
   exact ⟨_,hall' _ _,by rw [hall,zYc hde,xYd hde hka hkb]⟩
end Go.Iv
