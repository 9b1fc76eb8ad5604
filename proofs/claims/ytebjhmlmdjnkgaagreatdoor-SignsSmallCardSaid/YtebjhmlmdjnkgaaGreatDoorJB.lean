/- The layer of ideal values, part D: the c -/
import Derived.Test.YtebjhmlmdjnkgaaGreatDoorJA
set_option linter.all false
namespace Go.Iv
open Go
def ends (C:Cx)(X:WS)(K:IV->ISt->Prop)(v:Value)(w':World):Prop :=
 ∃X' x,X'.w=w'/\Good C X'/\Ext X X'/\C.v X' v x/\K x X'.st
def ICall (P:Program)(gl:Nat->Option IV)(f:FuncId)(args:List IV)(st:ISt)(K:IV->ISt->Prop):Prop :=
 ∀(B:Nat) (X:WS) (rs:List Value),Good ⟨P,gl,B⟩ X->X.st=st->Cx.vl ⟨P,gl,B⟩ X rs args →
  Calls P f ⟨rs⟩ X.w λe w'=>∃v,e=.returned v/\ends ⟨P,gl,B⟩ X K v w'
@[congr] theorem vZ2 {args args':List IV}(P:Program)(gl:Nat->Option IV)(f:FuncId)(st:ISt)(K:IV->ISt->Prop)(h:args=args') :
  ICall P gl f args st K=ICall P gl f args' st K:=by rw[h]
def CallsVal (P:Program)(fv:Value)(rs:Array Value)(w:World)(R:Value->World->Prop):Prop :=
 match (do let d <- Deferred.ofValue fv rs;invoke d.target d.args:Sem Next).run P w with
 | .ok (.enter f args) w'=>w'=w/\Calls P f args w λe w''=>∃v,e=.returned v/\R v w''
 | .ok (.round l f tmps assign body) w'=>w'=w/\RoundIn Fence.wide 0 P l f tmps assign body w λe w''=>∃v,e=.returned v/\R v w''
 | _=>False
def ICallV (P:Program)(gl:Nat->Option IV)(f:IV)(args:List IV)(st:ISt)(K:IV->ISt->Prop):Prop :=
 ∀(B:Nat) (X:WS) (fv:Value) (rs:List Value),Good ⟨P,gl,B⟩ X->X.st=st->Cx.v ⟨P,gl,B⟩ X fv f->Cx.vl ⟨P,gl,B⟩ X rs args →
  CallsVal P fv ⟨rs⟩ X.w (ends ⟨P,gl,B⟩ X K)
theorem xQ4 {C:Cx}{X:WS}{K K':IV->ISt->Prop}{v:Value}{w':World}(h:ends C X K v w')(hk:∀x st,K x st->K' x st):ends C X K' v w':=by
 obtain⟨X',x,h1,h2,h3,h4,h5⟩:=h;exact⟨X',x,h1,h2,h3,h4,hk _ _ h5⟩
theorem ICall.mono {P:Program}{gl:Nat->Option IV}{f:FuncId}{args:List IV}{st:ISt}{K K':IV->ISt->Prop}(h:ICall P gl f args st K)(hk:∀x st,K x st->K' x st) :
  ICall P gl f args st K':=λB X rs hg hst hv=>(h B X rs hg hst hv).mono λe w' he=>by
 obtain⟨v,he,h⟩:=he;exact⟨v,he,xQ4 h hk⟩
theorem CallsVal.mono {P:Program}{fv:Value}{rs:Array Value}{w:World}{R R':Value->World->Prop}(h:CallsVal P fv rs w R)(hr:∀v w',R v w'->R' v w'):CallsVal P fv rs w R':=by
 unfold CallsVal at *;generalize (do let d <- Deferred.ofValue fv rs;invoke d.target d.args:Sem Next).run P w=r at *;cases r with
 | halt x w'=>exact h
 | ok n w' =>
  cases n<;>first
   | exact h
   | exact⟨h.1,h.2.mono λe w'' he=>by obtain⟨v,he,hR⟩:=he;exact⟨v,he,hr _ _ hR⟩⟩
theorem ICallV.mono {P:Program}{gl:Nat->Option IV}{f:IV}{args:List IV}{st:ISt}{K K':IV->ISt->Prop}(h:ICallV P gl f args st K)(hk:∀x st,K x st->K' x st) :
  ICallV P gl f args st K':=λB X fv rs hg hst hf hv=>(h B X fv rs hg hst hf hv).mono λ_ _ he=>xQ4 he hk
def callV (P:Program)(gl:Nat->Option IV)(f:Fn)(first caps args:List IV)(st:ISt)(K:IV->ISt->Prop):Prop :=
 match f with
 | .func g=>if entI P g=true then ICall P gl g (first++args++caps) st K else False
 | f=>ICallV P gl (.fn f first caps) args st K
@[congr] theorem vQn {args args':List IV}(P:Program)(gl:Nat->Option IV)(f:Fn)(first caps:List IV)(st:ISt)(K:IV->ISt->Prop)(h:args=args') :
  callV P gl f first caps args st K=callV P gl f first caps args' st K:=by rw[h]
@[go_sem] theorem vX3 (P:Program)(gl:Nat->Option IV)(g:FuncId)(first caps args:List IV)(st:ISt)(K:IV->ISt->Prop) :
  callV P gl (.func g) first caps args st K=if entI P g=true then ICall P gl g (first++args++caps) st K else False:=(rfl)
theorem callV.mono {P:Program}{gl:Nat->Option IV}{f:Fn}{first caps args:List IV}{st:ISt}{K K':IV->ISt->Prop}(h:callV P gl f first caps args st K)
  (hk:∀x st,K x st->K' x st):callV P gl f first caps args st K':=by
 unfold callV at *;split at h
 ·split at h
  ·rename_i he;rw[if_pos he];exact h.mono hk
  ·exact h.elim
 ·exact h.mono hk
structure Cf where
 P:Program
 gl:Nat->Option IV
 esc:List Nat
 /-- in a round of a range over a function -/
 rd:Bool
 /-- in a region that draws its order -/
 dr:Bool
 /-- regions that are gone through in another order than the text's -/
 ord:List (Nat×List Nat):=[]
 /-- slots of boxes that are never written again -/
 frz:List Nat:=[]
 /-- functions whose number, and a million, is among 'esc': what they hand back, whatever is owned -/
 pf:FuncId->List IV->Option IV:=λ_ _=>none
 pok:∀g aL v,pf g aL=some v->entI P g=true/\∀st,ICall P gl g aL st (λr st'=>r=v/\st'=st):=by intro _ _ _ h;exact nomatch h
abbrev Cf.cx (c:Cf)(B:Nat):Cx:={ P:=c.P,gl:=c.gl,B:=B }
def boxV:SV->(List IV->Prop)->Prop
 | .box cs,f=>f cs
 | _,_=>False
@[congr] theorem vX6 {s s':SV}(f:List IV->Prop)(h:s=s'):boxV s f=boxV s' f:=by rw[h]
@[go_sem] theorem vUx (cs:List IV)(f:List IV->Prop):boxV (.box cs) f=f cs:=(rfl)
def obV:IObj->(List IV->Prop)->Prop
 | .box cs,f=>f cs
 | _,_=>False
@[go_sem] theorem uVu (cs:List IV)(f:List IV->Prop):obV (.box cs) f=f cs:=(rfl)
def omV:IObj->(KeyK->List (Value×IV)->Prop)->Prop
 | .map k es,f=>f k es
 | _,_=>False
@[go_sem] theorem uVt (k:KeyK)(cs:List (Value×IV))(f:KeyK->List (Value×IV)->Prop):omV (.map k cs) f=f k cs:=(rfl)
def intV:IV->(IntKind->Int->Prop)->Prop
 | .raw (.int k n),f=>f k n
 | _,_=>False
@[go_sem] theorem vYx (k:IntKind)(n:Int)(f:IntKind->Int->Prop):intV (.raw (.int k n)) f=f k n:=(rfl)
def zZm:IV->(Bool->Prop)->Prop
 | .raw (.bool b),f=>f b
 | _,_=>False
@[go_sem] theorem vX7 (b:Bool)(f:Bool->Prop):zZm (.raw (.bool b)) f=f b:=(rfl)
def slV:IV->(Tag->List IV->Prop)->Prop
 | .sl t xs,f=>f t xs
 | _,_=>False
@[go_sem] theorem kX4 (t:Tag)(xs:List IV)(f:Tag->List IV->Prop):slV (.sl t xs) f=f t xs:=(rfl)
def slX:IV->(Tag->List IV->Prop)->(Nat->Nat->Nat->Prop)->Prop
 | .sl t xs,f,_=>f t xs
 | .raw (.slice (some ⟨b,off,none⟩) n _),_,g=>g b off n
 | _,_,_=>False
@[go_sem] theorem kX3 (t:Tag)(xs:List IV)(f:Tag->List IV->Prop)(g:Nat->Nat->Nat->Prop):slX (.sl t xs) f g=f t xs:=(rfl)
@[go_sem] theorem uZb (b off n cap:Nat)(f:Tag->List IV->Prop)(g:Nat->Nat->Nat->Prop):slX (.raw (.slice (some ⟨b,off,none⟩) n cap)) f g=g b off n:=(rfl)
def slY:IV->(Tag->List IV->Prop)->(Nat->Nat->Nat->Nat->Prop)->Prop
 | .sl t xs,f,_=>f t xs
 | .raw (.slice (some ⟨b,off,none⟩) n cap),_,g=>g b off n cap
 | _,_,_=>False
@[go_sem] theorem kX2 (t:Tag)(xs:List IV)(f:Tag->List IV->Prop)(g:Nat->Nat->Nat->Nat->Prop):slY (.sl t xs) f g=f t xs:=(rfl)
@[go_sem] theorem uZa (b off n cap:Nat)(f:Tag->List IV->Prop)(g:Nat->Nat->Nat->Nat->Prop):slY (.raw (.slice (some ⟨b,off,none⟩) n cap)) f g=g b off n cap:=(rfl)
def aggV:IV->(List IV->Prop)->Prop
 | .agg xs,f=>f xs
 | _,_=>False
@[go_sem] theorem uQe (xs:List IV)(f:List IV->Prop):aggV (.agg xs) f=f xs:=(rfl)
def tupV:IV->(List IV->Prop)->Prop
 | .tup xs,f=>f xs
 | _,_=>False
@[go_sem] theorem vY8 (xs:List IV)(f:List IV->Prop):tupV (.tup xs) f=f xs:=(rfl)
def fnV:IV->(Fn->List IV->List IV->Prop)->Prop
 | .fn g a b,f=>f g a b
 | _,_=>False
@[go_sem] theorem kKx (g:Fn)(a b:List IV)(f:Fn->List IV->List IV->Prop):fnV (.fn g a b) f=f g a b:=(rfl)
def mapV:IV->(Option Nat->Prop)->Prop
 | .raw (.map m),f=>f m
 | _,_=>False
@[go_sem] theorem vYn (m:Option Nat)(f:Option Nat->Prop):mapV (.raw (.map m)) f=f m:=(rfl)
def rawV:IV->(Value->Prop)->Prop
 | .raw v,f=>f v
 | _,_=>False
def keyV:IV->(Value->Prop)->Prop
 | .raw v,f=>f v
 | .agg [.raw (.string s),.raw (.int k n)],f=>giv (s.size<=281474976710656) (f (.agg #[.string s,.int k n]))
 | .agg [.raw (.bool b),.raw (.int k n)],f=>f (.agg #[.bool b,.int k n])
 | .agg [.raw (.int k n),.raw (.bool b)],f=>f (.agg #[.int k n,.bool b])
 | _,_=>False
@[go_sem] theorem vYs (v:Value)(f:Value->Prop):keyV (.raw v) f=f v:=(rfl)
@[go_sem] theorem uWe (b:Bool)(k:IntKind)(n:Int)(f:Value->Prop):keyV (.agg [.raw (.bool b),.raw (.int k n)]) f=f (.agg #[.bool b,.int k n]):=(rfl)
def adrV:IV->(Nat->Prop)->Prop
 | .raw (.pointer (some ⟨b,0,none⟩)),f=>f b
 | _,_=>False
@[go_sem] theorem uQf (b:Nat)(f:Nat->Prop):adrV (.raw (.pointer (some ⟨b,0,none⟩))) f=f b:=(rfl)
def itO:IObj->(Nat->Nat->Array Nat->Nat->Prop)->Prop
 | .iter m s e c,f=>f m s e c
 | _,_=>False
@[go_sem] theorem vYw (m s:Nat)(e:Array Nat)(c:Nat)(f:Nat->Nat->Array Nat->Nat->Prop):itO (.iter m s e c) f=f m s e c:=(rfl)
def mxO:IObj->(Array MapEntry->Nat->Prop)->Prop
 | .mapx e c,f=>f e c
 | _,_=>False
@[go_sem] theorem vYm (e:Array MapEntry)(c:Nat)(f:Array MapEntry->Nat->Prop):mxO (.mapx e c) f=f e c:=(rfl)
def nxR (ents:Array MapEntry)(seen:Array Nat)(p:Prop)(q:MapEntry->IV->Prop)(_:Lock p)(_:Lock q):Prop:=(yY9 ents seen=[]->p)/\∀e∈yY9 ents seen,∀k,keyI e.key=some k->q e k
inductive PR where
 | val (x:IV)
 | adr (t off:Nat)
 | box (cs:List IV)
 | sto (t:Nat) (cs:List IV)
 | nop
abbrev Rt:=PR->ISt->List Dfd->Prop
abbrev Kt:=Ad->Fr->ISt->List Dfd->Prop
def finK (dst:Option Nat)(K:Kt)(ad:Ad)(fr:Fr):Rt
 | .val x,st,ds=>match dst with
  | some d=>K (ad.put d none) (fr.put d (.iv x)) st ds
  | none=>K ad fr st ds
 | .adr t off,st,ds=>match dst with
  | some d=>if d=t then False else K (ad.put d (some (t,off))) (fr.put d (.iv .junk)) st ds
  | none=>K ad fr st ds
 | .box cs,st,ds=>match dst with
  | some d=>K (ad.put d none) (fr.put d (.box cs)) st ds
  | none=>False
 | .sto t cs,st,ds=>match dst with
  | some _=>False
  | none=>K ad (fr.put t (.box cs)) st ds
 | .nop,st,ds=>match dst with
  | some _=>False
  | none=>K ad fr st ds
def plR (p:Pl)(R:Rt)(st:ISt)(ds:List Dfd):Prop :=
 match p with
 | .box t off=>R (.adr t off) st ds
 | .ptr b off=>R (.val (.raw (.pointer (some ⟨b,off,none⟩)))) st ds
 | .cp x=>R (.val (.cptr x)) st ds
def yY1 (esc:List Nat)(dst:Option Nat)(cs:List IV)(R:Rt)(st:ISt)(ds:List Dfd):Prop :=
 match dst with
 | some d=>if d∈esc then ∀b,giv (st b=none) (R (.val (.raw (.pointer (some ⟨b,0,none⟩)))) (st.put b (some (.box cs))) ds) else R (.box cs) st ds
 | none=>False
def yWk (frz esc:List Nat)(dst:Option Nat)(y:IV)(R:Rt)(st:ISt)(ds:List Dfd):Prop :=
 match dst with
 | some d=>if d∈frz then R (.val (.cptr y)) st ds else yY1 esc (some d) y.cells R st ds
 | none=>False
def yKm (esc:List Nat):Option Nat->Bool
 | some d=>esc.contains d
 | none=>false
def zY2 (esc:List Nat)(dst:Option Nat)(es:Nat)(ys:List IV)(R:Rt)(st:ISt)(ds:List Dfd):Prop :=
 if yKm esc dst=true then ∀b,giv (st b=none) (R (.val (.raw (.slice (some ⟨b,0,none⟩) ys.length ys.length))) (st.put b (some (.box (ys.flatMap IV.cells)))) ds)
 else R (.val (.sl ⟨true,.full,es⟩ ys)) st ds
def zQ8 (dr:Bool)(o:Option IV)(p:Option Pl)(R:Rt)(st:ISt)(ds:List Dfd):Prop :=
 match o with
 | some x=>R (.val x) st ds
 | none=>if dr=true then False else yQ6 p λp=>plR p R st ds
@[congr] theorem wUc {o o':Option IV}(dr:Bool)(p:Option Pl)(R:Rt)(st:ISt)(ds:List Dfd)(h:o=o'):zQ8 dr o p R st ds=zQ8 dr o' p R st ds:=by rw[h]
def ldr (dr:Bool)(esc:List Nat)(dst:Option Nat):Bool:=dr&&!yKm esc dst
@[go_sem] theorem vYr (dr:Bool)(esc:List Nat)(d:Nat):ldr dr esc (some d)=if d∈esc then false else dr:=by
 unfold ldr yKm;by_cases h:d∈esc<;>simp[h]
def yUg (dr ag:Bool)(n:Nat)(p:Pl)(fr:Fr)(R:Rt)(st:ISt)(ds:List Dfd):Prop :=
 match p with
 | .box t off=>boxV (fr t) λcs=>yQ6 (yK4 ag n cs off) λy=>R (.val y) st ds
 | .ptr b off=>if dr=true then False else yQ6 (st b) λo=>obV o λcs=>yQ6 (yK4 ag n cs off) λy=>R (.val y) st ds
 | .cp y=>if fits ag n y=true then R (.val y) st ds else False
def yYb (y:List IV)(p:Pl)(fr:Fr)(R:Rt)(st:ISt)(ds:List Dfd):Prop :=
 match p with
 | .box t off=>boxV (fr t) λcs=>if off+y.length<=cs.length then R (.sto t (yX8 cs off y)) st ds else False
 | .ptr b off=>yQ6 (st b) λo=>obV o λcs=>if off+y.length<=cs.length then R .nop (st.put b (some (.box (yX8 cs off y)))) ds else False
 | .cp _=>False
def zZd (f:Nat×Bool×Nat)(p:Pl)(R:Rt)(st:ISt)(ds:List Dfd):Prop :=
 match p with
 | .box t off=>R (.adr t (off+f.1)) st ds
 | .ptr b off=>R (.val (.raw (.pointer (some ⟨b,off+f.1,none⟩)))) st ds
 | .cp x=>aggV x λcs=>yQ6 (yK4 f.2.1 f.2.2 cs f.1) λy=>if fits f.2.1 f.2.2 y=true then R (.val (.cptr y)) st ds else False
def xWy (len:Nat)(ag:Bool)(n j:Nat)(p:Pl)(R:Rt)(st:ISt)(ds:List Dfd):Prop :=
 if j<len then match p with
  | .box t off=>R (.adr t (off+j*n)) st ds
  | .ptr b off=>R (.val (.raw (.pointer (some ⟨b,off+j*n,none⟩)))) st ds
  | .cp x=>aggV x λcs=>yQ6 (yK4 ag n cs (j*n)) λy=>if fits ag n y=true then R (.val (.cptr y)) st ds else False
 else False
def yZ9 (P:Program)(T:TypeId):Bool :=
 match P.underlying T with
 | some (.struct fs)=>fs.toList.all λf=>(P.info? f.type).isSome
 | some (.array _ e)=>(P.info? e).isSome
 | _=>false
def orO {α:Type}:Option α->Option α->Option α
 | some a,_=>some a
 | none,b=>b
def bfI (P:Program)(T:TypeId)(i:Nat):Option (Nat×Bool×Nat):=orO (fldI P T i) ((arrI P T).map λe=>(i*e.2.2,e.2))
def yZk:Nat->List (Nat×Operand)->Bool
 | n,l=>(l.map (·.1)) == List.range n
def yW6 (P:Program)(gl:Nat->Option IV)(fr:Fr)(T:TypeId):List IV->List (Nat×Operand)->Option (List IV)
 | cs,[]=>some cs
 | cs,(i,x)::l=>match bfI P T i,evV gl fr x with
  | some f,some y=>if y.cells.length=f.2.2/\f.1+y.cells.length<=cs.length/\fits f.2.1 f.2.2 y=true then yW6 P gl fr T (yX8 cs f.1 y.cells) l else none
  | _,_=>none
def zVz (P:Program)(gl:Nat->Option IV)(fr:Fr)(T:TypeId)(cs:List IV)(l:List (Nat×Operand)):Option (Nat×Bool×Nat)->Option IV->Option (List IV)
 | some f,some y=>if y.cells.length=f.2.2/\f.1+y.cells.length<=cs.length/\fits f.2.1 f.2.2 y=true then yW6 P gl fr T (yX8 cs f.1 y.cells) l else none
 | _,_=>none
inductive LenK where
 | str|sl|map|arr (n:Nat)
def lenI (P:Program)(T:TypeId):Option LenK :=
 match P.underlying T with
 | some .string=>some .str
 | some (.slice _)=>some .sl
 | some (.map _ _)=>some .map
 | some (.array n _)=>some (.arr n)
 | _=>none
def lenV (dr:Bool)(k:LenK)(x:IV)(R:Rt)(st:ISt)(ds:List Dfd):Prop :=
 match k with
 | .str=>rawV x λv=>match v with
  | .string s=>(dr=false->s.size<=281474976710656)->R (.val (.raw (.int .i64 s.size))) st ds
  | _=>False
 | .sl=>slX x (λ_ xs=>(dr=false->xs.length<=140737488355328)->R (.val (.raw (.int .i64 xs.length))) st ds) (λ_ _ n=>R (.val (.raw (.int .i64 n))) st ds)
 | .map=>if dr=true then False else mapV x λm=>match m with
  | none=>R (.val (.raw (.int .i64 0))) st ds
  | some b=>yQ6 (st b) λo=>omV o λ_ es=>R (.val (.raw (.int .i64 es.length))) st ds
 | .arr n=>R (.val (.raw (.int .i64 n))) st ds
def appV (esc:List Nat)(dst:Option Nat)(e:TypeId×Bool×Nat×Nat)(tg:Tag)(xs ys:List IV)(R:Rt)(st:ISt)(ds:List Dfd):Prop :=
 chk (ys.all (fits e.2.1 e.2.2.1)=true) <| chk ((xs.length+ys.length)*e.2.2.2<=140737488355328/\xs.length+ys.length<=140737488355328) <|
  match tg.cap with
  | .nil=>match ys with
   | []=>R (.val (.sl tg xs)) st ds
   | _=>if yKm esc dst=true then ∀g cap,giv (st g=none/\ys.length<=cap) (R (.val (.raw (.slice (some ⟨g,0,none⟩) ys.length cap))) (st.put g (some (.box (ys.flatMap IV.cells++List.replicate ((cap-ys.length)*e.2.2.1) .junk)))) ds)
    else ∀g,giv (st g=none) (R (.val (.sl ⟨true,.app g,e.2.2.1⟩ ys)) (st.put g (some (.front ys.length e.2.2.1))) ds)
  | .full=>chk (tg.es=e.2.2.1) <| match ys with
   | []=>R (.val (.sl tg xs)) st ds
   | _=>∀g,giv (st g=none) (R (.val (.sl ⟨true,.app g,e.2.2.1⟩ (xs++ys))) (st.put g (some (.front (xs.length+ys.length) e.2.2.1))) ds)
  | .app g₀=>chk (tg.es=e.2.2.1) <| chk (st g₀=some (.front xs.length e.2.2.1)) <|
   ∀g,giv (g=g₀\/st g=none) (R (.val (.sl ⟨tg.fresh,.app g,e.2.2.1⟩ (xs++ys))) ((st.put g₀ none).put g (some (.front (xs.length+ys.length) e.2.2.1))) ds)
  | .none=>match ys with
   | []=>R (.val (.sl tg xs)) st ds
   | _=>False
def appO (e:TypeId×Bool×Nat×Nat)(b off n cap:Nat)(ys:List IV)(R:Rt)(st:ISt)(ds:List Dfd):Prop :=
 chk (off=0/\ys.all (fits e.2.1 e.2.2.1)=true) <| chk ((n+ys.length)*e.2.2.2<=140737488355328/\n+ys.length<=140737488355328) <| yQ6 (st b) λo=>obV o λcs=>chk (n<=cap/\cap*e.2.2.1<=cs.length) <|
  yGf (decide (n+ys.length<=cap)) (R (.val (.raw (.slice (some ⟨b,0,none⟩) (n+ys.length) cap))) (st.put b (some (.box (yX8 cs (n*e.2.2.1) (ys.flatMap IV.cells))))) ds)
   ((∀g cap',giv (st g=none/\n+ys.length<=cap') (R (.val (.raw (.slice (some ⟨g,0,none⟩) (n+ys.length) cap')))
    ((st.put b none).put g (some (.box (cs.take (n*e.2.2.1)++ys.flatMap IV.cells++List.replicate ((cap' - (n+ys.length))*e.2.2.1) .junk)))) ds)) \/
    ∀g cap',giv (st g=none/\n+ys.length<=cap') (R (.val (.raw (.slice (some ⟨g,0,none⟩) (n+ys.length) cap')))
    (st.put g (some (.box (cs.take (n*e.2.2.1)++ys.flatMap IV.cells++List.replicate ((cap' - (n+ys.length))*e.2.2.1) .junk)))) ds)) .mk .mk
def zJ0 (esc:List Nat):Option Nat->Bool
 | some d=>esc.contains (d+2000000)
 | none=>false
def qO (esc:List Nat)(dst:Option Nat)(p:Prop):Prop:=if zJ0 esc dst=true then False else p
@[go_sem ↓] theorem uVq (esc:List Nat)(d:Nat)(p:Prop):qO esc (some d) p=if d+2000000∈esc then False else p:=by
 unfold qO zJ0;by_cases h:d+2000000∈esc<;>simp[h]
def appR (e:TypeId×Bool×Nat×Nat)(b off n cap b2 off2 m2:Nat)(R:Rt)(st:ISt)(ds:List Dfd):Prop :=
 chk (off=0/\b2=b) <| yQ6 (st b) λo=>obV o λcs=>chk (n<=cap/\cap*e.2.2.1<=cs.length/\n+m2<=cap/\off2+m2*e.2.2.1<=cs.length/\((cs.drop off2).take (m2*e.2.2.1)).all IV.one=true) <|
  R (.val (.raw (.slice (some ⟨b,0,none⟩) (n+m2) cap))) (st.put b (some (.box (yX8 cs (n*e.2.2.1) ((cs.drop off2).take (m2*e.2.2.1)))))) ds
def appZ (e:TypeId×Bool×Nat×Nat)(tg:Tag)(m:Int)(R:Rt)(st:ISt)(ds:List Dfd):Prop :=
 chk (tg.cap=.nil/\0<m/\m*e.2.2.2<=140737488355328/\m<=140737488355328/\1<=e.2.2.1) <|
  ∀g cap,giv (st g=none/\m.toNat<=cap) (R (.val (.raw (.slice (some ⟨g,0,none⟩) m.toNat cap))) (st.put g (some (.box (List.replicate (cap*e.2.2.1) .junk)))) ds)
def capV (x:IV)(R:Rt)(st:ISt)(ds:List Dfd):Prop :=
 slY x (λtg xs=>match tg.cap with
  | .nil=>R (.val (.raw (.int .i64 0))) st ds
  | .full=>R (.val (.raw (.int .i64 xs.length))) st ds
  | _=>False) (λ_ _ _ cap=>R (.val (.raw (.int .i64 cap))) st ds)
def xVb (e:TypeId×Bool×Nat×Nat)(x:IV)(R:Rt)(st:ISt)(ds:List Dfd):Prop :=
 slY x (λ_ _=>False) λb off n _=>if n=0 then R (.val (.tup [])) st ds else
  yQ6 (st b) λo=>obV o λcs=>if off+n*e.2.2.1<=cs.length then R (.val (.tup [])) (st.put b (some (.box (yX8 cs off (List.replicate (n*e.2.2.1) .junk))))) ds else False
def lenZ (p:Int):Nat:=p.toNat
@[go_sem] theorem vK0:lenZ 0=0:=(rfl)
@[go_sem] theorem vYp (n:Nat):lenZ (n:Int)=n:=(rfl)
def wVh (esc:List Nat):Option Nat->Bool
 | some d=>esc.contains (d+3000000)
 | none=>false
def xZr (z:Option IV)(esc:List Nat)(dst:Option Nat)(e:TypeId×Bool×Nat×Nat)(p q:Int)(R:Rt)(st:ISt)(ds:List Dfd):Prop :=
 chk ((p=0\/p=q)/\0<=q/\q*e.2.2.2<=140737488355328/\q<=140737488355328) <|
 if wVh esc dst=true then chk (e.2.2.1=1) (yQ6 z λy=>chk (y.one=true) (∀g,giv (st g=none) (R (.val (.raw (.slice (some ⟨g,0,none⟩) (lenZ p) q.toNat))) (st.put g (some (.box (List.replicate q.toNat y)))) ds)))
 else if yKm esc dst=true then ∀g,giv (st g=none) (R (.val (.raw (.slice (some ⟨g,0,none⟩) (lenZ p) q.toNat))) (st.put g (some (.box (List.replicate (q.toNat*e.2.2.1) .junk)))) ds)
 else if e.2.2.1=0 then R (.val (.sl ⟨false,.none,0⟩ (List.replicate (lenZ p) (.agg [])))) st ds
 else chk (p=0) (∀g,giv (st g=none) (R (.val (.sl ⟨true,.app g,e.2.2.1⟩ [])) (st.put g (some (.front 0 e.2.2.1))) ds))
def yXu (low high:Option Int)(len:Nat):Option (Nat×Nat) :=
 if 0<=low.getD 0/\low.getD 0<=high.getD len/\high.getD len<=len then some ((low.getD 0).toNat,(high.getD len).toNat) else none
def intI:Option IV->Option (Option Int)
 | some (.raw (.int _ n))=>some (some n)
 | _=>none
def yWr (gl:Nat->Option IV)(fr:Fr):Option Operand->Option (Option Int)
 | none=>some none
 | some x=>intI (evV gl fr x)
@[go_sem ↓] theorem vZq (gl:Nat->Option IV)(fr:Fr):yWr gl fr none=some none:=(rfl)
@[go_sem ↓] theorem xWu (gl:Nat->Option IV)(fr:Fr)(x:Operand):yWr gl fr (some x)=intI (evV gl fr x):=(rfl)
@[go_sem] theorem vYy (k:IntKind)(n:Int):intI (some (.raw (.int k n)))=some (some n):=(rfl)
def reTag (es:Nat)(t:Tag):Tag:=match t.cap with|.nil=>⟨t.fresh,.nil,es⟩|_=>t
def okEs (t:Tag)(es:Nat):Prop:=t.cap=.nil\/t.es=es
theorem yQ2 {t:Tag}{es:Nat}(h:okEs t es):(reTag es t).es=es:=by
 unfold reTag;split
 ·rfl
 ·rename_i hn;exact h.resolve_left hn
@[go_sem] theorem vJ2 (f:Bool)(e es:Nat):reTag es ⟨f,.nil,e⟩=⟨f,.nil,es⟩:=(rfl)
@[go_sem] theorem vZf (f:Bool)(e es:Nat):reTag es ⟨f,.none,e⟩=⟨f,.none,e⟩:=(rfl)
@[go_sem] theorem vZg (f:Bool)(e es:Nat):reTag es ⟨f,.full,e⟩=⟨f,.full,e⟩:=(rfl)
def yVz (tg:Tag)(len h:Nat)(l:Nat)(max:Option Int):Tag :=
 if tg.cap=.nil then tg else match max with
 | some m=>if m=h then ⟨tg.fresh,.full,tg.es⟩ else ⟨tg.fresh,.none,tg.es⟩
 | none=>if l=0/\h=len then tg else ⟨tg.fresh,.none,tg.es⟩
def arrV (ar:Option (Nat×Bool×Nat))(x:IV)(low high max:Option Int)(len:Nat)(R:Rt)(st:ISt)(ds:List Dfd):Prop :=
 match x,low,max with
 | .cptr (.agg cs),none,none=>yQ6 ar λ_=>chk (cs.length=len/\len<=140737488355328/\cs.all IV.one=true) (yQ6 (yXu none high len) λp=>R (.val (.sl ⟨false,.none,1⟩ (cs.take p.2))) st ds)
 | _,_,_=>False
def yGg (k:LenK)(s:Option (TypeId×Bool×Nat×Nat))(ar:Option (Nat×Bool×Nat))(x:IV)(low high max:Option Int)(R:Rt)(st:ISt)(ds:List Dfd):Prop :=
 match k with
 | .str=>rawV x λv=>match v with
  | .string s=>match max with
   | none=>yQ6 (yXu low high s.size) λp=>R (.val (.raw (.string (s.extract p.1 p.2)))) st ds
   | some _=>False
  | _=>False
 | .sl=>yQ6 s λs=>slY x (λtg xs=>chk ((reTag s.2.2.1 tg).es=s.2.2.1) <| match high,max with
  | none,some _=>False
  | high,max=>yQ6 (yXu low high xs.length) λp=>chk (∀m,max=some m->m=p.2) (R (.val (.sl (yVz (reTag s.2.2.1 tg) xs.length p.2 p.1 max) ((xs.drop p.1).take (p.2-p.1)))) st ds))
  (λb off n cap=>match max with
  | some _=>False
  | none=>chk (n<=cap) <| yQ6 (yXu low high (if high=none then n else cap)) λp=>R (.val (.raw (.slice (some ⟨b,if cap=p.1 then off else off+p.1*s.2.2.1,none⟩) (p.2-p.1) (cap-p.1)))) st ds)
 | .arr len=>arrV ar x low high max len R st ds
 | .map=>False
def zGi (s:ByteArray)(j:Int):Option UInt8:=if 0<=j then s[j.toNat]? else none
def zZc (k:LenK)(e:Option (Nat×Bool×Nat))(x:IV)(j:Int)(R:Rt)(st:ISt)(ds:List Dfd):Prop :=
 match k with
 | .str=>rawV x λv=>match v with
  | .string s=>yQ6 (zGi s j) λb=>R (.val (.raw (.int .u8 b.toNat))) st ds
  | _=>False
 | .arr len=>aggV x λcs=>yQ6 e λe=>if 0<=j/\j<len then yQ6 (yK4 e.2.1 e.2.2 cs (j.toNat*e.2.2)) λy=>R (.val y) st ds else False
 | _=>False
def zKi (ok:Bool)(r:Option IV)(z:IV):Option IV:=some (if ok then .tup [r.getD z,.raw (.bool r.isSome)] else r.getD z)
theorem yG8 (ok:Bool)(v z:IV):zKi ok (some v) z=some (if ok then .tup [v,.raw (.bool true)] else v):=rfl
theorem zQb (ok:Bool)(z:IV):zKi ok none z=some (if ok then .tup [z,.raw (.bool false)] else z):=rfl
def zQa (kz:KeyK×IV)(m:Option Nat)(key:Value)(ok:Bool)(R:Rt)(st:ISt)(ds:List Dfd):Prop :=
 chk (yZ1 kz.1 key=true) <| match m with
  | none=>yQ6 (zKi ok none kz.2) λy=>R (.val y) st ds
  | some b=>yQ6 (st b) λo=>omV o λkk es=>chk (kk=kz.1) (yQ6 (zKi ok (yXl key es) kz.2) λy=>R (.val y) st ds)
def yYa (kz:KeyK×IV)(m:Option Nat)(key:Value)(y:IV)(R:Rt)(st:ISt)(ds:List Dfd):Prop :=
 chk (yZ1 kz.1 key=true) <| match m with
  | some b=>yQ6 (st b) λo=>omV o λkk es=>chk (kk=kz.1) (R .nop (st.put b (some (.map kk (updI key y es)))) ds)
  | none=>False
def wWu (kk:KeyK)(es:List (Value×IV))(ents:Array MapEntry)(clock:Nat):Prop :=
 ents.toList.map (·.key)=es.map (·.1)/\(∀p∈es,yZ1 kk p.1=true)/\(∀e∈ents.toList,e.born<clock)/\ents.toList.Pairwise (λe e'=>e.born<e'.born) /\
  ∀(i:Nat) (e:MapEntry) (p:Value×IV),ents.toList[i]?=some e->es[i]?=some p->∀v,p.2=.raw v->e.val=v
def zV9 (m:Option Nat)(R:Rt)(st:ISt)(ds:List Dfd):Prop :=
 match m with
 | none=>False
 | some b=>yQ6 (st b) λo=>mxO o λ_ clock=>∀r,giv (st r=none) (R (.val (.raw (.pointer (some ⟨r,0,none⟩)))) (st.put r (some (.iter b clock #[] clock))) ds)
def xWg (r:Nat)(R:Rt)(st:ISt)(ds:List Dfd):Prop :=
 yQ6 (st r) λo=>itO o λm since seen c0=>yQ6 (st m) λo'=>mxO o' λents clock=>chk ((∀e∈ents.toList,e.born<since/\(keyI e.key).isSome=true)/\since<=c0)
  (nxR ents seen (R (.val (.tup [.raw (.bool false)])) st ds) (λe k=>R (.val (.tup [.raw (.bool true),k,.junk])) (st.put r (some (.iter m since (seen.push e.born) clock))) ds) .mk .mk)
def zVw (r:Nat)(R:Rt)(st:ISt)(ds:List Dfd):Prop :=
 yQ6 (st r) λo=>itO o λm _ seen c0=>yQ6 (st m) λo'=>mxO o' λents clock=>chk (c0=clock/\(ents.toList.map (·.born)).Nodup) (yQ6 (wQ7 ents seen) λk=>R (.val (.tup [k,xWp ents seen])) st ds)
def zK1 (R:Rt)(ds:List Dfd):IV->ISt->Prop:=λx st=>R (.val x) st ds
def zYn (esc:List Nat)(pf:FuncId->List IV->Option IV)(f:Operand)(aL:Option (List IV))(R:Rt)(st:ISt)(ds:List Dfd)(old:Prop):Prop :=
 match f with
 | .func g=>if g+1000000∈esc then yQ6 aL λaL=>yQ6 (pf g aL) λv=>R (.val v) st ds else old
 | _=>old
def fnOk:Fn->Bool
 | .func _=>true
 | .yield _=>true
 | _=>false
def nilV (o:Option IV)(p:Option Pl)(dr:Bool)(R:Rt)(st:ISt)(ds:List Dfd):Prop :=
 match o with
 | some (.fn f first caps)=>if fnOk f=true then R (.val (.fn f first caps)) st ds else False
 | some (.cptr x)=>R (.val (.cptr x)) st ds
 | some (.raw (.pointer (some q)))=>if dr=true then R (.val (.raw (.pointer (some q)))) st ds else yQ6 p λp=>plR p R st ds
 | _=>if dr=true then False else yQ6 p λp=>plR p R st ds
@[congr] theorem vZi {o o':Option IV}(p:Option Pl)(dr:Bool)(R:Rt)(st:ISt)(ds:List Dfd)(h:o=o'):nilV o p dr R st ds=nilV o' p dr R st ds:=by rw[h]
def idxV (k:LenK)(s:Option (TypeId×Bool×Nat×Nat))(xs:Option IV)(p:Option Pl)(e:Option (Nat×Bool×Nat))(j:Int)(R:Rt)(st:ISt)(ds:List Dfd):Prop :=
 match k with
 | .sl=>yQ6 s λs=>yQ6 xs λx=>slX x (λt xs=>if (reTag s.2.2.1 t).es=s.2.2.1 then if 0<=j then yQ6 (xs[j.toNat]?) λy=>R (.val (.cptr y)) st ds else False else False)
  (λb off n=>if 0<=j/\j.toNat<n then R (.val (.raw (.pointer (some ⟨b,off+j.toNat*s.2.2.1,none⟩)))) st ds else False)
 | .arr _=>yQ6 e λe=>yQ6 p λp=>if 0<=j then xWy e.1 e.2.1 e.2.2 j.toNat p R st ds else False
 | _=>False
def appK (k:Option LenK)(i:Option IntKind)(f g:Prop):Prop :=
 match k,i with
 | some .sl,_=>f
 | none,some _=>g
 | _,_=>False
def vcR (c:Cf)(dst:Option Nat)(op:Op)(R:Rt)(ad:Ad)(fr:Fr)(st:ISt)(ds:List Dfd):Prop :=
 match op with
 | .move x|.assign x=>zQ8 c.dr (evV c.gl fr x) (evA c.gl ad fr x) R st ds
 | .pick b x y=>yQ6 (evV c.gl fr b) λb=>zZm b λb=>yGf b (yQ6 (evV c.gl fr x) λx=>R (.val x) st ds) (yQ6 (evV c.gl fr y) λy=>R (.val y) st ds) .mk .mk
 | .alloc T=>yQ6 (yX3 c.P T) λz=>yY1 c.esc dst z.cells R st ds
 | .box T x=>yQ6 (tyI c.P T) λ_=>yQ6 (evV c.gl fr x) λy=>chk (y.cells.all IV.one=true) (yWk c.frz c.esc dst y R st ds)
 | .build T parts=>chk (yZ9 c.P T=true) <| yQ6 (yX3 c.P T) λz=>yQ6 (yW6 c.P c.gl fr T z.cells parts.toList) λcs=>R (.val (.agg cs)) st ds
 | .buildSlice T len parts=>yQ6 (slI c.P T) λe=>chk (yZk len parts.toList=true/\len*e.2.2.1<=16777216/\1<=e.2.2.1) <|
   yQ6 (evL c.gl fr (parts.toList.map (·.2))) λys=>chk (ys.all (fits e.2.1 e.2.2.1)=true) (zY2 c.esc dst e.2.2.1 ys R st ds)
 | .load T a=>yQ6 (tyI c.P T) λi=>yQ6 (evA c.gl ad fr a) λp=>yUg (ldr c.dr c.esc dst) i.1 i.2 p fr R st ds
 | .store T a x=>yQ6 (tyI c.P T) λi=>yQ6 (evV c.gl fr x) λy=>chk (y.cells.length=i.2/\y.cells.all IV.one=true) <| yQ6 (evA c.gl ad fr a) λp =>
   yYb y.cells p fr R st ds
 | .nilCheck x=>nilV (evV c.gl fr x) (evA c.gl ad fr x) c.dr R st ds
 | .binOp o T x y _=>yQ6 (evV c.gl fr x) λx=>yQ6 (evV c.gl fr y) λy=>yQ6 (binV c.P T o x y) λz=>R (.val z) st ds
 | .unOp o _ x=>yQ6 (evV c.gl fr x) λx=>yQ6 (unI o x) λz=>R (.val z) st ds
 | .convert s d x=>yQ6 (evV c.gl fr x) λx=>yQ6 (xQ7 c.P s d x) λz=>R (.val z) st ds
 | .makeFunc f first caps=>yQ6 (evL c.gl fr first.toList) λa=>yQ6 (evL c.gl fr caps.toList) λb=>R (.val (.fn f a b)) st ds
 | .makeMap T none=>yQ6 (mapI c.P T) λkz=>∀b,giv (st b=none) (R (.val (.raw (.map (some b)))) (st.put b (some (.map kz.1 []))) ds)
 | .slice T x lo hi mx=>yQ6 (lenI c.P T) λk=>yQ6 (evV c.gl fr x) λx=>yQ6 (yWr c.gl fr lo) λlo=>yQ6 (yWr c.gl fr hi) λhi=>yQ6 (yWr c.gl fr mx) λmx =>
   yGg k (slI c.P T) (arrI c.P T) x lo hi mx R st ds
 | .fieldAddr T x i=>yQ6 (fldI c.P T i) λf=>yQ6 (evA c.gl ad fr x) λp=>zZd f p R st ds
 | .field T x i=>yQ6 (fldI c.P T i) λf=>yQ6 (evV c.gl fr x) λx=>aggV x λcs=>yQ6 (yK4 f.2.1 f.2.2 cs f.1) λy=>R (.val y) st ds
 | .indexAddr T x i=>yQ6 (evV c.gl fr i) λi=>intV i λ_ j=>yQ6 (lenI c.P T) λk=>idxV k (slI c.P T) (evV c.gl fr x) (evA c.gl ad fr x) (arrI c.P T) j R st ds
 | .index T x i=>yQ6 (evV c.gl fr i) λi=>intV i λ_ j=>yQ6 (lenI c.P T) λk=>yQ6 (evV c.gl fr x) λx=>zZc k (arrI c.P T) x j R st ds
 | .lookup T x i ok=>yQ6 (mapI c.P T) λkz=>yQ6 (evV c.gl fr x) λx=>mapV x λm=>yQ6 (evV c.gl fr i) λi=>keyV i λkey=>zQa kz m key ok R st ds
 | .mapUpdate T m i x=>yQ6 (mapI c.P T) λkz=>yQ6 (evV c.gl fr m) λm=>mapV m λm=>yQ6 (evV c.gl fr i) λi=>keyV i λkey=>yQ6 (evV c.gl fr x) λy =>
   yYa kz m key y R st ds
 | .extract x i=>yQ6 (evV c.gl fr x) λx=>tupV x λvs=>yQ6 (vs[i]?) λy=>R (.val y) st ds
 | .call ⟨.value f,args,_⟩=>zYn c.esc c.pf f (evL c.gl fr args.toList) R st ds (yQ6 (evV c.gl fr f) λf=>fnV f λf first caps=>yQ6 (evL c.gl fr args.toList) λaL =>
   callV c.P c.gl f first caps aL st (zK1 R ds))
 | .call ⟨.builtin .len,⟨[x]⟩,⟨[T]⟩⟩=>yQ6 (lenI c.P T) λk=>yQ6 (evV c.gl fr x) λx=>lenV c.dr k x R st ds
 | .call ⟨.builtin .append,⟨[s,y]⟩,⟨[T,T']⟩⟩=>yQ6 (slI c.P T) λe=>appK (lenI c.P T') (intK c.P T')
   (yQ6 (evV c.gl fr s) λs=>slY s (λtg xs=>yQ6 (evV c.gl fr y) λy=>slV y λ_ ys=>appV c.esc dst e tg xs ys R st ds) (λb off n cap=>yQ6 (evV c.gl fr y) λy=>slY y (λ_ ys=>qO c.esc dst (appO e b off n cap ys R st ds)) (λb2 off2 m2 _=>qO c.esc dst (appR e b off n cap b2 off2 m2 R st ds))))
   (yQ6 (evV c.gl fr s) λs=>slV s λtg _=>yQ6 (evV c.gl fr y) λy=>intV y λ_ m=>appZ e tg m R st ds)
 | .call ⟨.builtin .max,⟨[x,y]⟩,_⟩=>yQ6 (evV c.gl fr x) λx=>yQ6 (evV c.gl fr y) λy=>intV x λk a=>intV y λk' b=>if k=k' then R (.val (.raw (.int k (max a b)))) st ds else False
 | .defer ⟨.value f,args,_⟩=>if c.rd=true then False else yQ6 (evV c.gl fr f) λf=>fnV f λf first caps=>yQ6 (evL c.gl fr args.toList) λaL =>
   R .nop st (.call f caps (first++aL)::ds)
 | .call ⟨.builtin .cap,⟨[x]⟩,⟨[T]⟩⟩=>yQ6 (slI c.P T) λ_=>yQ6 (evV c.gl fr x) λx=>capV x R st ds
 | .call ⟨.builtin .clear,⟨[x]⟩,⟨[T]⟩⟩=>yQ6 (slI c.P T) λe=>yQ6 (yX3 c.P e.1) λ_=>yQ6 (evV c.gl fr x) λx=>xVb e x R st ds
 | .makeSlice T l m=>yQ6 (slI c.P T) λe=>yQ6 (evV c.gl fr l) λl=>intV l λ_ p=>yQ6 (evV c.gl fr m) λm=>intV m λ_ q=>xZr (yX3 c.P e.1) c.esc dst e p q R st ds
 | .insert T m i x=>yQ6 (mapI c.P T) λkz=>yQ6 (evV c.gl fr m) λm=>mapV m λm=>yQ6 (evV c.gl fr i) λi=>keyV i λkey=>yQ6 (evV c.gl fr x) λy =>
   yYa kz m key y R st ds
 | .call ⟨.builtin .min,⟨[x,y]⟩,_⟩=>yQ6 (evV c.gl fr x) λx=>yQ6 (evV c.gl fr y) λy=>intV x λk a=>intV y λk' b=>if k=k' then R (.val (.raw (.int k (min a b)))) st ds else False
 | .range T x=>if c.dr=true then False else yQ6 (mapI c.P T) λ_=>yQ6 (evV c.gl fr x) λx=>mapV x λm=>zV9 m R st ds
 | .next x false=>if c.dr=true then False else yQ6 (evV c.gl fr x) λx=>adrV x λr=>xWg r R st ds
 | .entry x=>if c.dr=true then False else yQ6 (evV c.gl fr x) λx=>adrV x λr=>zVw r R st ds
 | _=>False
def vcOp (c:Cf)(dst:Option Nat)(op:Op)(K:Kt)(ad:Ad)(fr:Fr)(st:ISt)(ds:List Dfd):Prop:=vcR c dst op (finK dst K ad fr) ad fr st ds
section
variable (c:Cf)(dst:Option Nat)(d t off b n i j len:Nat)(T T':TypeId)(x y z:Operand)(K:Kt)(R:Rt)(ad:Ad)(fr:Fr)(st:ISt)(ds:List Dfd)(v:IV)(dr ag:Bool)
@[go_sem ↓] theorem vUk:finK (some d) K ad fr (.val v) st ds=K (ad.put d none) (fr.put d (.iv v)) st ds:=(rfl)
@[go_sem ↓] theorem vUo:finK (some d) K ad fr (.adr t off) st ds=if d=t then False else K (ad.put d (some (t,off))) (fr.put d (.iv .junk)) st ds:=(rfl)
@[go_sem ↓] theorem vUn (cs:List IV):finK (some d) K ad fr (.box cs) st ds=K (ad.put d none) (fr.put d (.box cs)) st ds:=(rfl)
@[go_sem ↓] theorem vUl (cs:List IV):finK none K ad fr (.sto t cs) st ds=K ad (fr.put t (.box cs)) st ds:=(rfl)
@[go_sem ↓] theorem vUm:finK none K ad fr .nop st ds=K ad fr st ds:=(rfl)
theorem xXe:zK1 R ds v st=R (.val v) st ds:=(rfl)
@[go_sem ↓] theorem uVr:plR (.ptr b off) R st ds=R (.val (.raw (.pointer (some ⟨b,off,none⟩)))) st ds:=(rfl)
@[go_sem] theorem vZk (p:Option Pl):zQ8 dr (some v) p R st ds=R (.val v) st ds:=(rfl)
@[go_sem ↓] theorem wWo (frz esc:List Nat)(y:IV):yWk frz esc (some d) y R st ds=if d∈frz then R (.val (.cptr y)) st ds else yY1 esc (some d) y.cells R st ds:=(rfl)
@[go_sem ↓] theorem wU7 (esc:List Nat)(cs:List IV):yY1 esc (some d) cs R st ds =
 if d∈esc then ∀b,giv (st b=none) (R (.val (.raw (.pointer (some ⟨b,0,none⟩)))) (st.put b (some (.box cs))) ds) else R (.box cs) st ds:=(rfl)
@[go_sem ↓] theorem vJx:yUg dr ag n (.box t off) fr R st ds=boxV (fr t) λcs=>yQ6 (yK4 ag n cs off) λy=>R (.val y) st ds:=(rfl)
@[go_sem ↓] theorem vJw:yUg false ag n (.ptr b off) fr R st ds=yQ6 (st b) λo=>obV o λcs=>yQ6 (yK4 ag n cs off) λy=>R (.val y) st ds:=(rfl)
@[go_sem ↓] theorem vYo:yUg dr ag n (.cp v) fr R st ds=if fits ag n v=true then R (.val v) st ds else False:=(rfl)
@[go_sem ↓] theorem vZb (l:List IV):yYb l (.box t off) fr R st ds=boxV (fr t) λcs=>if off+l.length<=cs.length then R (.sto t (yX8 cs off l)) st ds else False:=(rfl)
@[go_sem ↓] theorem vZa (l:List IV):yYb l (.ptr b off) fr R st ds =
 yQ6 (st b) λo=>obV o λcs=>if off+l.length<=cs.length then R .nop (st.put b (some (.box (yX8 cs off l)))) ds else False:=(rfl)
@[go_sem ↓] theorem vZv (f:Nat×Bool×Nat):zZd f (.box t off) R st ds=R (.adr t (off+f.1)) st ds:=(rfl)
@[go_sem ↓] theorem vZu (f:Nat×Bool×Nat):zZd f (.ptr b off) R st ds=R (.val (.raw (.pointer (some ⟨b,off+f.1,none⟩)))) st ds:=(rfl)
@[go_sem ↓] theorem vVb (f:Nat×Bool×Nat):zZd f (.cp v) R st ds=aggV v λcs=>yQ6 (yK4 f.2.1 f.2.2 cs f.1) λy=>if fits f.2.1 f.2.2 y=true then R (.val (.cptr y)) st ds else False:=(rfl)
@[go_sem ↓] theorem vUr:xWy len ag n j (.cp v) R st ds=if j<len then aggV v λcs=>yQ6 (yK4 ag n cs (j*n)) λy=>if fits ag n y=true then R (.val (.cptr y)) st ds else False else False:=(rfl)
@[go_sem ↓] theorem vX5 (P:Program)(gl:Nat->Option IV)(cs:List IV):yW6 P gl fr T cs []=some cs:=(rfl)
@[go_sem ↓] theorem yU1 (P:Program)(gl:Nat->Option IV)(cs:List IV)(l:List (Nat×Operand)) :
 yW6 P gl fr T cs ((i,x)::l)=zVz P gl fr T cs l (bfI P T i) (evV gl fr x):=by
 rw[yW6];cases bfI P T i<;>cases evV gl fr x<;>rfl
@[go_sem ↓] theorem kQt (P:Program)(i:Nat):bfI P T i=orO (fldI P T i) ((arrI P T).map λe=>(i*e.2.2,e.2)):=(rfl)
@[go_sem] theorem vYj {α:Type}(a:α)(b:Option α):orO (some a) b=some a:=(rfl)
@[congr] theorem vJf {α:Type}{a a':Option α}(b:Option α)(h:a=a'):orO a b=orO a' b:=by rw[h]
@[congr] theorem wYb (P:Program)(gl:Nat->Option IV)(cs:List IV)(l:List (Nat×Operand)){f f':Option (Nat×Bool×Nat)}{v v':Option IV}(h:f=f')(h':v=v') :
 zVz P gl fr T cs l f v=zVz P gl fr T cs l f' v':=by rw[h,h']
@[go_sem] theorem vQo (P:Program)(gl:Nat->Option IV)(cs:List IV)(l:List (Nat×Operand))(f:Nat×Bool×Nat) :
 zVz P gl fr T cs l (some f) (some v)=if v.cells.length=f.2.2/\f.1+v.cells.length<=cs.length/\fits f.2.1 f.2.2 v=true then yW6 P gl fr T (yX8 cs f.1 v.cells) l else none:=(rfl)
@[go_sem ↓] theorem vZj (esc:List Nat)(es:Nat)(ys:List IV):zY2 esc (some d) es ys R st ds =
 if d∈esc then ∀b,giv (st b=none) (R (.val (.raw (.slice (some ⟨b,0,none⟩) ys.length ys.length))) (st.put b (some (.box (ys.flatMap IV.cells)))) ds) else R (.val (.sl ⟨true,.full,es⟩ ys)) st ds:=by
 simp[zY2,yKm]
@[go_sem ↓] theorem uWc:lenV false .sl v R st ds=slX v (λ_ xs=>xs.length<=140737488355328->R (.val (.raw (.int .i64 xs.length))) st ds) (λ_ _ n=>R (.val (.raw (.int .i64 n))) st ds):=by simp[lenV]
@[go_sem ↓] theorem vYq (s:ByteArray):lenV false .str (.raw (.string s)) R st ds=(s.size<=281474976710656->R (.val (.raw (.int .i64 s.size))) st ds):=by simp[lenV,rawV]
@[go_sem ↓] theorem vZn:lenV true .sl v R st ds=slX v (λ_ xs=>R (.val (.raw (.int .i64 xs.length))) st ds) (λ_ _ n=>R (.val (.raw (.int .i64 n))) st ds):=by simp[lenV]
@[go_sem ↓] theorem wUn (s:ByteArray):lenV true .str (.raw (.string s)) R st ds=R (.val (.raw (.int .i64 s.size))) st ds:=by simp[lenV,rawV]
@[go_sem ↓] theorem uQc (esc:List Nat)(e:TypeId×Bool×Nat×Nat)(fs:Bool)(es:Nat)(xs ys:List IV)(y1:IV):appV esc (some d) e ⟨fs,.nil,es⟩ xs (y1::ys) R st ds =
 chk ((y1::ys).all (fits e.2.1 e.2.2.1)=true) (chk ((xs.length+(y1::ys).length)*e.2.2.2<=140737488355328/\xs.length+(y1::ys).length<=140737488355328)
  (if d∈esc then ∀g cap,giv (st g=none/\(y1::ys).length<=cap) (R (.val (.raw (.slice (some ⟨g,0,none⟩) (y1::ys).length cap))) (st.put g (some (.box ((y1::ys).flatMap IV.cells++List.replicate ((cap-(y1::ys).length)*e.2.2.1) .junk)))) ds)
   else ∀g,giv (st g=none) (R (.val (.sl ⟨true,.app g,e.2.2.1⟩ (y1::ys))) (st.put g (some (.front (y1::ys).length e.2.2.1))) ds))):=by simp[appV,yKm]
@[go_sem ↓] theorem vW2 (esc:List Nat)(dst:Option Nat)(e:TypeId×Bool×Nat×Nat)(fs:Bool)(es:Nat)(xs ys:List IV)(y1:IV):appV esc dst e ⟨fs,.full,es⟩ xs (y1::ys) R st ds =
 chk ((y1::ys).all (fits e.2.1 e.2.2.1)=true) (chk ((xs.length+(y1::ys).length)*e.2.2.2<=140737488355328/\xs.length+(y1::ys).length<=140737488355328)
  (chk (es=e.2.2.1) (∀g,giv (st g=none) (R (.val (.sl ⟨true,.app g,e.2.2.1⟩ (xs++(y1::ys)))) (st.put g (some (.front (xs.length+(y1::ys).length) e.2.2.1))) ds)))):=(rfl)
@[go_sem ↓] theorem vX9 (esc:List Nat)(dst:Option Nat)(e:TypeId×Bool×Nat×Nat)(fs:Bool)(es:Nat)(xs:List IV):appV esc dst e ⟨fs,.nil,es⟩ xs [] R st ds =
 chk (([]:List IV).all (fits e.2.1 e.2.2.1)=true) (chk ((xs.length+0)*e.2.2.2<=140737488355328/\xs.length+0<=140737488355328) (R (.val (.sl ⟨fs,.nil,es⟩ xs)) st ds)):=(rfl)
theorem yKy {e:TypeId×Bool×Nat×Nat}{b n cap:Nat}{ys cs:List IV}(hb:st b=some (.box cs))(hf:ys.all (fits e.2.1 e.2.2.1)=true)(h1:(n+ys.length)*e.2.2.2<=140737488355328/\n+ys.length<=140737488355328)(h2:n<=cap/\cap*e.2.2.1<=cs.length)
  (hl:(ys.flatMap IV.cells).length=ys.length*e.2.2.1)
  (h:∀g cap' cs',g=b\/st g=none->n+ys.length<=cap'->cap'*e.2.2.1<=cs'.length->cs'.take ((n+ys.length)*e.2.2.1)=cs.take (n*e.2.2.1)++ys.flatMap IV.cells →
   R (.val (.raw (.slice (some ⟨g,0,none⟩) (n+ys.length) cap'))) ((st.put b none).put g (some (.box cs'))) ds):appO e b 0 n cap ys R st ds:=by
 have hn:n*e.2.2.1<=cs.length:=Nat.le_trans (Nat.mul_le_mul_right _ h2.1) h2.2;have htk:(cs.take (n*e.2.2.1)).length=n*e.2.2.1:=by rw[List.length_take];omega
 refine⟨⟨rfl,hf⟩,h1,yQ4.2 ⟨_,hb,h2,λhc=>?_,λhc=>.inl λg cap' hg=>?_⟩⟩
 ·have hc:=of_decide_eq_true hc;have hle:(n+ys.length)*e.2.2.1<=cs.length:=Nat.le_trans (Nat.mul_le_mul_right _ hc) h2.2;have hle':n*e.2.2.1+(ys.flatMap IV.cells).length<=cs.length:=by rw[hl,<- Nat.add_mul];exact hle
  have hs:st.put b (some (.box (yX8 cs (n*e.2.2.1) (ys.flatMap IV.cells))))=(st.put b none).put b (some (.box (yX8 cs (n*e.2.2.1) (ys.flatMap IV.cells)))):=by
   funext c;simp only[ISt.put_apply];split<;>rfl
  rw[hs];refine h b cap _ (.inl rfl) hc ?_ ?_
  ·unfold yX8;simp only[lLa,List.length_take,List.length_drop];have:=h2.2;omega
  ·unfold yX8;rw[List.take_append_of_le_length (by rw[lLa,htk,hl,Nat.add_mul];exact Nat.le_refl _),List.take_of_length_le (by rw[lLa,htk,hl,Nat.add_mul];exact Nat.le_refl _)]
 ·refine h g cap' _ (.inr hg.1) hg.2 ?_ ?_
  ·simp only[lLa,htk,hl,List.length_replicate];rw[<- Nat.add_mul,<- Nat.add_mul];exact Nat.mul_le_mul_right _ (by have:=hg.2;omega)
  ·rw[List.take_append_of_le_length (by rw[lLa,htk,hl,Nat.add_mul];exact Nat.le_refl _),List.take_of_length_le (by rw[lLa,htk,hl,Nat.add_mul];exact Nat.le_refl _)]
theorem wZi {e:TypeId×Bool×Nat×Nat}{b n cap:Nat}{ys cs:List IV}(hb:st b=some (.box cs))(hf:ys.all (fits e.2.1 e.2.2.1)=true)(h1:(n+ys.length)*e.2.2.2<=140737488355328/\n+ys.length<=140737488355328)(h2:n<=cap/\cap*e.2.2.1<=cs.length)
  (hl:(ys.flatMap IV.cells).length=ys.length*e.2.2.1)
  (h:∀g cap' cs',(g=b/\cap'=cap)\/st g=none->n+ys.length<=cap'->cap'*e.2.2.1<=cs'.length->cs'.take ((n+ys.length)*e.2.2.1)=cs.take (n*e.2.2.1)++ys.flatMap IV.cells →
   R (.val (.raw (.slice (some ⟨g,0,none⟩) (n+ys.length) cap'))) (st.put g (some (.box cs'))) ds):appO e b 0 n cap ys R st ds:=by
 have hn:n*e.2.2.1<=cs.length:=Nat.le_trans (Nat.mul_le_mul_right _ h2.1) h2.2;have htk:(cs.take (n*e.2.2.1)).length=n*e.2.2.1:=by rw[List.length_take];omega
 refine⟨⟨rfl,hf⟩,h1,yQ4.2 ⟨_,hb,h2,λhc=>?_,λhc=>.inr λg cap' hg=>?_⟩⟩
 ·have hc:=of_decide_eq_true hc;have hle:(n+ys.length)*e.2.2.1<=cs.length:=Nat.le_trans (Nat.mul_le_mul_right _ hc) h2.2;have hle':n*e.2.2.1+(ys.flatMap IV.cells).length<=cs.length:=by rw[hl,<- Nat.add_mul];exact hle
  refine h b cap _ (.inl ⟨rfl,rfl⟩) hc ?_ ?_
  ·unfold yX8;simp only[lLa,List.length_take,List.length_drop];have:=h2.2;omega
  ·unfold yX8;rw[List.take_append_of_le_length (by rw[lLa,htk,hl,Nat.add_mul];exact Nat.le_refl _),List.take_of_length_le (by rw[lLa,htk,hl,Nat.add_mul];exact Nat.le_refl _)]
 ·refine h g cap' _ (.inr hg.1) hg.2 ?_ ?_
  ·simp only[lLa,htk,hl,List.length_replicate];rw[<- Nat.add_mul,<- Nat.add_mul];exact Nat.mul_le_mul_right _ (by have:=hg.2;omega)
  ·rw[List.take_append_of_le_length (by rw[lLa,htk,hl,Nat.add_mul];exact Nat.le_refl _),List.take_of_length_le (by rw[lLa,htk,hl,Nat.add_mul];exact Nat.le_refl _)]
@[go_sem ↓] theorem vUv (b off n cap:Nat):capV (.raw (.slice (some ⟨b,off,none⟩) n cap)) R st ds=R (.val (.raw (.int .i64 cap))) st ds:=(rfl)
@[go_sem ↓] theorem vUw (fs:Bool)(es:Nat)(xs:List IV):capV (.sl ⟨fs,.nil,es⟩ xs) R st ds=R (.val (.raw (.int .i64 0))) st ds:=(rfl)
@[go_sem ↓] theorem vZl (z:Option IV)(esc:List Nat)(e:TypeId×Bool×Nat×Nat)(p q:Int):xZr z esc (some d) e p q R st ds=chk ((p=0\/p=q)/\0<=q/\q*e.2.2.2<=140737488355328/\q<=140737488355328)
 (if d+3000000∈esc then chk (e.2.2.1=1) (yQ6 z λy=>chk (y.one=true) (∀g,giv (st g=none) (R (.val (.raw (.slice (some ⟨g,0,none⟩) (lenZ p) q.toNat))) (st.put g (some (.box (List.replicate q.toNat y)))) ds)))
 else if d∈esc then ∀g,giv (st g=none) (R (.val (.raw (.slice (some ⟨g,0,none⟩) (lenZ p) q.toNat))) (st.put g (some (.box (List.replicate (q.toNat*e.2.2.1) .junk)))) ds)
 else if e.2.2.1=0 then R (.val (.sl ⟨false,.none,0⟩ (List.replicate (lenZ p) (.agg [])))) st ds
 else chk (p=0) (∀g,giv (st g=none) (R (.val (.sl ⟨true,.app g,e.2.2.1⟩ [])) (st.put g (some (.front 0 e.2.2.1))) ds))):=by
 simp[xZr,yKm,wVh]
@[go_sem ↓] theorem vZd (e:TypeId×Bool×Nat×Nat)(b off n cap:Nat)(lo hi:Option Int)(ar:Option (Nat×Bool×Nat)):yGg .sl (some e) ar (.raw (.slice (some ⟨b,off,none⟩) n cap)) lo hi none R st ds =
 chk (n<=cap) (yQ6 (yXu lo hi (if hi=none then n else cap)) λp=>R (.val (.raw (.slice (some ⟨b,if cap=p.1 then off else off+p.1*e.2.2.1,none⟩) (p.2-p.1) (cap-p.1)))) st ds):=(rfl)
@[go_sem ↓] theorem vXw (e:TypeId×Bool×Nat×Nat)(tg:Tag)(xs:List IV)(lo hi:Option Int)(ar:Option (Nat×Bool×Nat)):yGg .sl (some e) ar (.sl tg xs) lo hi none R st ds =
 chk ((reTag e.2.2.1 tg).es=e.2.2.1) (yQ6 (yXu lo hi xs.length) λp=>R (.val (.sl (yVz (reTag e.2.2.1 tg) xs.length p.2 p.1 none) ((xs.drop p.1).take (p.2-p.1)))) st ds):=by
 cases hi<;>simp[yGg,slY,chk,yQ6]
@[go_sem ↓] theorem vZr (s:ByteArray)(j:Int)(e:Option (Nat×Bool×Nat)):zZc .str e (.raw (.string s)) j R st ds =
 yQ6 (zGi s j) λb=>R (.val (.raw (.int .u8 b.toNat))) st ds:=(rfl)
@[go_sem ↓] theorem vZs (cs:List IV)(j:Int)(e:Option (Nat×Bool×Nat)):zZc (.arr len) e (.agg cs) j R st ds =
 yQ6 e λe=>if 0<=j/\j<len then yQ6 (yK4 e.2.1 e.2.2 cs (j.toNat*e.2.2)) λy=>R (.val y) st ds else False:=(rfl)
@[go_sem ↓] theorem wWw (kz:KeyK×IV)(m:Nat)(key:Value)(ok:Bool):zQa kz (some m) key ok R st ds =
 chk (yZ1 kz.1 key=true) (yQ6 (st m) λo=>omV o λkk es=>chk (kk=kz.1) (yQ6 (zKi ok (yXl key es) kz.2) λy=>R (.val y) st ds)):=(rfl)
@[go_sem ↓] theorem wVo (kz:KeyK×IV)(m:Nat)(key:Value):yYa kz (some m) key v R st ds =
 chk (yZ1 kz.1 key=true) (yQ6 (st m) λo=>omV o λkk es=>chk (kk=kz.1) (R .nop (st.put m (some (.map kk (updI key v es)))) ds)):=(rfl)
@[go_sem] theorem vZp (b:Bool)(n:Int):yZ1 .sg (.agg #[.bool b,.int .u8 n])=(decide (0<=n)&&decide (n<=255)):=(rfl)
@[go_sem] theorem wUq (k:IntKind)(n:Int):yZ1 (.int k) (.int k n)=true:=by simp[yZ1]
@[go_sem] theorem vYk (p:Option Pl)(u:Value):nilV (some (.raw u)) p false R st ds=yQ6 p λp=>plR p R st ds:=by
 cases u with
 | pointer o=>cases o<;>rfl
 | _=>rfl
@[go_sem] theorem vYl (p:Option Pl)(q:Addr):nilV (some (.raw (.pointer (some q)))) p true R st ds=R (.val (.raw (.pointer (some q)))) st ds:=(rfl)
@[go_sem] theorem vJq (p:Option Pl)(dr:Bool)(u:IV):nilV (some (.cptr u)) p dr R st ds=R (.val (.cptr u)) st ds:=(rfl)
@[go_sem ↓] theorem uWj (s:Option (TypeId×Bool×Nat×Nat))(xs:Option IV)(p:Option Pl)(e:Option (Nat×Bool×Nat))(j:Int):idxV .sl s xs p e j R st ds =
 yQ6 s λs=>yQ6 xs λx=>slX x (λt xs=>if (reTag s.2.2.1 t).es=s.2.2.1 then if 0<=j then yQ6 (xs[j.toNat]?) λy=>R (.val (.cptr y)) st ds else False else False)
  (λb off n=>if 0<=j/\j.toNat<n then R (.val (.raw (.pointer (some ⟨b,off+j.toNat*s.2.2.1,none⟩)))) st ds else False):=(rfl)
@[go_sem ↓] theorem vYz (s:Option (TypeId×Bool×Nat×Nat))(xs:Option IV)(p:Option Pl)(e:Option (Nat×Bool×Nat))(j:Int):idxV (.arr n) s xs p e j R st ds =
 yQ6 e λe=>yQ6 p λp=>if 0<=j then xWy e.1 e.2.1 e.2.2 j.toNat p R st ds else False:=(rfl)
@[go_sem] theorem kQw (i:Option IntKind)(f g:Prop):appK (some .sl) i f g=f:=by cases i<;>rfl
@[go_sem] theorem uQd (i:IntKind)(f g:Prop):appK none (some i) f g=g:=(rfl)
@[congr] theorem vXa {k k':Option LenK}{i i':Option IntKind}(f g:Prop)(h:k=k')(h':i=i'):appK k i f g=appK k' i' f g:=by rw[h,h']
@[go_sem] theorem tgEs (f:Bool)(cp:Cap)(s:Nat):Tag.es ⟨f,cp,s⟩=s:=(rfl)
@[go_sem ↓] theorem uZ0:vcOp c dst (.move x) K ad fr st ds=zQ8 c.dr (evV c.gl fr x) (evA c.gl ad fr x) (finK dst K ad fr) st ds:=(rfl)
@[go_sem ↓] theorem vXe:vcOp c dst (.assign x) K ad fr st ds=zQ8 c.dr (evV c.gl fr x) (evA c.gl ad fr x) (finK dst K ad fr) st ds:=(rfl)
@[go_sem ↓] theorem uQy:vcOp c dst (.pick x y z) K ad fr st ds=yQ6 (evV c.gl fr x) λb=>zZm b λb =>
 yGf b (yQ6 (evV c.gl fr y) λx=>finK dst K ad fr (.val x) st ds) (yQ6 (evV c.gl fr z) λy=>finK dst K ad fr (.val y) st ds) .mk .mk:=(rfl)
@[go_sem ↓] theorem vY2:vcOp c dst (.alloc T) K ad fr st ds=yQ6 (yX3 c.P T) λz=>yY1 c.esc dst z.cells (finK dst K ad fr) st ds:=(rfl)
@[go_sem ↓] theorem kZ7:vcOp c dst (.box T x) K ad fr st ds=yQ6 (tyI c.P T) λ_=>yQ6 (evV c.gl fr x) λy=>chk (y.cells.all IV.one=true) (yWk c.frz c.esc dst y (finK dst K ad fr) st ds):=(rfl)
@[go_sem ↓] theorem vY0 (parts:Array (Nat×Operand)):vcOp c dst (.build T parts) K ad fr st ds =
 chk (yZ9 c.P T=true) (yQ6 (yX3 c.P T) λz=>yQ6 (yW6 c.P c.gl fr T z.cells parts.toList) λcs=>finK dst K ad fr (.val (.agg cs)) st ds):=(rfl)
@[go_sem ↓] theorem wXk (parts:Array (Nat×Operand)):vcOp c dst (.buildSlice T len parts) K ad fr st ds =
 yQ6 (slI c.P T) λe=>chk (yZk len parts.toList=true/\len*e.2.2.1<=16777216/\1<=e.2.2.1) (yQ6 (evL c.gl fr (parts.toList.map (·.2))) λys =>
  chk (ys.all (fits e.2.1 e.2.2.1)=true) (zY2 c.esc dst e.2.2.1 ys (finK dst K ad fr) st ds)):=(rfl)
@[go_sem ↓] theorem uZ1:vcOp c dst (.load T x) K ad fr st ds=yQ6 (tyI c.P T) λi=>yQ6 (evA c.gl ad fr x) λp=>yUg (ldr c.dr c.esc dst) i.1 i.2 p fr (finK dst K ad fr) st ds:=(rfl)
@[go_sem ↓] theorem vWu:vcOp c dst (.store T x y) K ad fr st ds=yQ6 (tyI c.P T) λi=>yQ6 (evV c.gl fr y) λy =>
 chk (y.cells.length=i.2/\y.cells.all IV.one=true) (yQ6 (evA c.gl ad fr x) λp=>yYb y.cells p fr (finK dst K ad fr) st ds):=(rfl)
@[go_sem ↓] theorem vY1 (o:BinOp):vcOp c dst (.binOp o T x y T') K ad fr st ds=yQ6 (evV c.gl fr x) λx=>yQ6 (evV c.gl fr y) λy=>yQ6 (binV c.P T o x y) λz=>finK dst K ad fr (.val z) st ds:=(rfl)
@[go_sem ↓] theorem uQx (o:UnOp):vcOp c dst (.unOp o T x) K ad fr st ds=yQ6 (evV c.gl fr x) λx=>yQ6 (unI o x) λz=>finK dst K ad fr (.val z) st ds:=(rfl)
@[go_sem ↓] theorem vZ7:vcOp c dst (.convert T T' x) K ad fr st ds=yQ6 (evV c.gl fr x) λx=>yQ6 (xQ7 c.P T T' x) λz=>finK dst K ad fr (.val z) st ds:=(rfl)
@[go_sem ↓] theorem wYu (f:Fn)(first caps:Array Operand):vcOp c dst (.makeFunc f first caps) K ad fr st ds =
 yQ6 (evL c.gl fr first.toList) λa=>yQ6 (evL c.gl fr caps.toList) λb=>finK dst K ad fr (.val (.fn f a b)) st ds:=(rfl)
@[go_sem ↓] theorem vZ5:vcOp c dst (.makeMap T none) K ad fr st ds=yQ6 (mapI c.P T) λkz=>∀b,giv (st b=none) (finK dst K ad fr (.val (.raw (.map (some b)))) (st.put b (some (.map kz.1 []))) ds):=(rfl)
@[go_sem ↓] theorem vWv (lo hi mx:Option Operand):vcOp c dst (.slice T x lo hi mx) K ad fr st ds=yQ6 (lenI c.P T) λk=>yQ6 (evV c.gl fr x) λx =>
 yQ6 (yWr c.gl fr lo) λlo=>yQ6 (yWr c.gl fr hi) λhi=>yQ6 (yWr c.gl fr mx) λmx=>yGg k (slI c.P T) (arrI c.P T) x lo hi mx (finK dst K ad fr) st ds:=(rfl)
@[go_sem ↓] theorem wVn:vcOp c dst (.fieldAddr T x i) K ad fr st ds=yQ6 (fldI c.P T i) λf=>yQ6 (evA c.gl ad fr x) λp=>zZd f p (finK dst K ad fr) st ds:=(rfl)
@[go_sem ↓] theorem vWy:vcOp c dst (.field T x i) K ad fr st ds=yQ6 (fldI c.P T i) λf=>yQ6 (evV c.gl fr x) λx=>aggV x λcs=>yQ6 (yK4 f.2.1 f.2.2 cs f.1) λy=>finK dst K ad fr (.val y) st ds:=(rfl)
@[go_sem ↓] theorem wVm:vcOp c dst (.indexAddr T x y) K ad fr st ds=yQ6 (evV c.gl fr y) λi=>intV i λ_ j=>yQ6 (lenI c.P T) λk =>
 idxV k (slI c.P T) (evV c.gl fr x) (evA c.gl ad fr x) (arrI c.P T) j (finK dst K ad fr) st ds:=(rfl)
@[go_sem ↓] theorem vWx:vcOp c dst (.index T x y) K ad fr st ds=yQ6 (evV c.gl fr y) λi=>intV i λ_ j=>yQ6 (lenI c.P T) λk=>yQ6 (evV c.gl fr x) λx=>zZc k (arrI c.P T) x j (finK dst K ad fr) st ds:=(rfl)
@[go_sem ↓] theorem vXc (ok:Bool):vcOp c dst (.lookup T x y ok) K ad fr st ds=yQ6 (mapI c.P T) λkz=>yQ6 (evV c.gl fr x) λx=>mapV x λm=>yQ6 (evV c.gl fr y) λi=>keyV i λkey =>
 zQa kz m key ok (finK dst K ad fr) st ds:=(rfl)
@[go_sem ↓] theorem wVk:vcOp c dst (.mapUpdate T x y z) K ad fr st ds=yQ6 (mapI c.P T) λkz=>yQ6 (evV c.gl fr x) λm=>mapV m λm=>yQ6 (evV c.gl fr y) λi=>keyV i λkey =>
 yQ6 (evV c.gl fr z) λy=>yYa kz m key y (finK dst K ad fr) st ds:=(rfl)
@[go_sem ↓] theorem vXd:vcOp c dst (.insert T x y z) K ad fr st ds=yQ6 (mapI c.P T) λkz=>yQ6 (evV c.gl fr x) λm=>mapV m λm=>yQ6 (evV c.gl fr y) λi=>keyV i λkey =>
   yQ6 (evV c.gl fr z) λy=>yYa kz m key y (finK dst K ad fr) st ds:=(rfl)
@[go_sem ↓] theorem vWw:vcOp c dst (.range T x) K ad fr st ds=if c.dr=true then False else yQ6 (mapI c.P T) λ_=>yQ6 (evV c.gl fr x) λx=>mapV x λm=>zV9 m (finK dst K ad fr) st ds:=(rfl)
@[go_sem ↓] theorem uQz:vcOp c dst (.next x false) K ad fr st ds=if c.dr=true then False else yQ6 (evV c.gl fr x) λx=>adrV x λr=>xWg r (finK dst K ad fr) st ds:=(rfl)
@[go_sem ↓] theorem vWz:vcOp c dst (.entry x) K ad fr st ds=if c.dr=true then False else yQ6 (evV c.gl fr x) λx=>adrV x λr=>zVw r (finK dst K ad fr) st ds:=(rfl)
@[go_sem ↓] theorem wGt (m:Nat):zV9 (some m) R st ds=yQ6 (st m) λo=>mxO o λ_ clock=>∀r,giv (st r=none) (R (.val (.raw (.pointer (some ⟨r,0,none⟩)))) (st.put r (some (.iter m clock #[] clock))) ds):=(rfl)
@[go_sem ↓] theorem vJs (r:Nat):xWg r R st ds=yQ6 (st r) λo=>itO o λm since seen c0=>yQ6 (st m) λo'=>mxO o' λents clock=>chk ((∀e∈ents.toList,e.born<since/\(keyI e.key).isSome=true)/\since<=c0)
  (nxR ents seen (R (.val (.tup [.raw (.bool false)])) st ds) (λe k=>R (.val (.tup [.raw (.bool true),k,.junk])) (st.put r (some (.iter m since (seen.push e.born) clock))) ds) .mk .mk):=(rfl)
@[go_sem ↓] theorem vZy (r:Nat):zVw r R st ds=yQ6 (st r) λo=>itO o λm _ seen c0=>yQ6 (st m) λo'=>mxO o' λents clock=>chk (c0=clock/\(ents.toList.map (·.born)).Nodup) (yQ6 (wQ7 ents seen) λk=>R (.val (.tup [k,xWp ents seen])) st ds):=(rfl)
@[go_sem ↓] theorem vZ6:vcOp c dst (.extract x i) K ad fr st ds=yQ6 (evV c.gl fr x) λx=>tupV x λvs=>yQ6 (vs[i]?) λy=>finK dst K ad fr (.val y) st ds:=(rfl)
@[go_sem ↓] theorem uZ2 (aL:Array Operand)(ts:Array TypeId):vcOp c dst (.call ⟨.value x,aL,ts⟩) K ad fr st ds=zYn c.esc c.pf x (evL c.gl fr aL.toList) (finK dst K ad fr) st ds (yQ6 (evV c.gl fr x) λf=>fnV f λf first caps=>yQ6 (evL c.gl fr aL.toList) λaL =>
 callV c.P c.gl f first caps aL st (zK1 (finK dst K ad fr) ds)):=(rfl)
@[go_sem ↓] theorem vX4 (esc:List Nat)(pf:FuncId->List IV->Option IV)(g:FuncId)(aL:Option (List IV))(old:Prop):zYn esc pf (.func g) aL R st ds old=if g+1000000∈esc then yQ6 aL λaL=>yQ6 (pf g aL) λv=>R (.val v) st ds else old:=(rfl)
@[go_sem ↓] theorem vVg (esc:List Nat)(pf:FuncId->List IV->Option IV)(t:Nat)(aL:Option (List IV))(old:Prop):zYn esc pf (.tmp t) aL R st ds old=old:=(rfl)
@[go_sem ↓] theorem kZ5:vcOp c dst (.call ⟨.builtin .len,⟨[x]⟩,⟨[T]⟩⟩) K ad fr st ds=yQ6 (lenI c.P T) λk=>yQ6 (evV c.gl fr x) λx=>lenV c.dr k x (finK dst K ad fr) st ds:=(rfl)
@[go_sem ↓] theorem vXf:vcOp c dst (.call ⟨.builtin .append,⟨[x,y]⟩,⟨[T,T']⟩⟩) K ad fr st ds=yQ6 (slI c.P T) λe=>appK (lenI c.P T') (intK c.P T')
   (yQ6 (evV c.gl fr x) λs=>slY s (λtg xs=>yQ6 (evV c.gl fr y) λy=>slV y λ_ ys=>appV c.esc dst e tg xs ys (finK dst K ad fr) st ds) (λb off n cap=>yQ6 (evV c.gl fr y) λy=>slY y (λ_ ys=>qO c.esc dst (appO e b off n cap ys (finK dst K ad fr) st ds)) (λb2 off2 m2 _=>qO c.esc dst (appR e b off n cap b2 off2 m2 (finK dst K ad fr) st ds))))
   (yQ6 (evV c.gl fr x) λs=>slV s λtg _=>yQ6 (evV c.gl fr y) λy=>intV y λ_ m=>appZ e tg m (finK dst K ad fr) st ds):=(rfl)
@[go_sem ↓] theorem kZ6:vcOp c dst (.call ⟨.builtin .cap,⟨[x]⟩,⟨[T]⟩⟩) K ad fr st ds=yQ6 (slI c.P T) λ_=>yQ6 (evV c.gl fr x) λx=>capV x (finK dst K ad fr) st ds:=(rfl)
@[go_sem ↓] theorem wVl:vcOp c dst (.makeSlice T x y) K ad fr st ds=yQ6 (slI c.P T) λe=>yQ6 (evV c.gl fr x) λl=>intV l λ_ p=>yQ6 (evV c.gl fr y) λm=>intV m λ_ q=>xZr (yX3 c.P e.1) c.esc dst e p q (finK dst K ad fr) st ds:=(rfl)
@[go_sem ↓] theorem kZ4 (ts:Array TypeId):vcOp c dst (.call ⟨.builtin .min,⟨[x,y]⟩,ts⟩) K ad fr st ds=yQ6 (evV c.gl fr x) λx=>yQ6 (evV c.gl fr y) λy=>intV x λk a=>intV y λk' b =>
 if k=k' then finK dst K ad fr (.val (.raw (.int k (min a b)))) st ds else False:=(rfl)
@[go_sem ↓] theorem wYt:vcOp c dst (.nilCheck x) K ad fr st ds=nilV (evV c.gl fr x) (evA c.gl ad fr x) c.dr (finK dst K ad fr) st ds:=(rfl)
end
def yVa (fr:Fr)(d:Nat)(want:Bool)(s:SV)(run:Fr->Prop)(skip:Fr->Prop)(_:Lock run)(_:Lock skip):Prop :=
 match s with
 | .iv (.raw (.bool b))=>(b=want->Hold true (run (fr.put d (.iv (.raw (.bool want))))))/\(b=!want->Hold true (skip (fr.put d (.iv (.raw (.bool !want))))))
 | .iv (.raw (.tuple _))=>Hold true (skip fr)
 | _=>False
@[go_sem] theorem vK6 (fr:Fr)(d:Nat)(want:Bool)(run skip:Fr->Prop)(k:Lock run)(l:Lock skip):yVa fr d want (.iv (.raw undef)) run skip k l=Hold true (skip fr):=(rfl)
@[congr] theorem wY3 (fr:Fr)(d:Nat)(want:Bool){s s':SV}(run skip:Fr->Prop)(k:Lock run)(l:Lock skip)(h:s=s'):yVa fr d want s run skip k l=yVa fr d want s' run skip k l:=by rw[h]
theorem zUv (fr:Fr)(d:Nat)(want b:Bool)(run skip:Fr->Prop)(k:Lock run)(l:Lock skip)(hs:fr d=.iv (.raw (.bool b))) :
  yVa fr d want (.iv (.raw (.bool b))) run skip k l=((b=want->run fr)/\(b=!want->skip fr)):=by
 have hput:fr.put d (.iv (.raw (.bool b)))=fr:=by
  funext s;rw[Fr.put_apply];split
  ·rename_i h;rw[h,hs]
  ·rfl
 unfold yVa Hold;by_cases h:b=want
 ·subst h;simp[hput]
 ·have:b=!want:=by cases b<;>cases want<;>simp_all
  subst this;simp[hput]
def yJb (c:Cf)(ops:List Oper):List Oper->(Fr->ISt->List Dfd->Prop)->Kt
 | [],Q,_,fr,st,ds=>Q fr st ds
 | o::rest,Q,ad,fr,st,ds =>
  match o.guard with
  | none=>vcOp c o.dst o.op (yJb c ops rest Q) ad fr st ds
  | some (j,want)=>match (ops[j]?).bind (·.dst) with
   | some d=>yVa fr d want (fr d) (λfr=>vcOp c o.dst o.op (yJb c ops rest Q) ad fr st ds) (λfr=>finK o.dst (yJb c ops rest Q) ad fr (.val (.raw undef)) st ds) .mk .mk
   | none=>False
@[go_sem ↓] theorem vXg (c:Cf)(ops:List Oper)(Q:Fr->ISt->List Dfd->Prop)(ad:Ad)(fr:Fr)(st:ISt)(ds:List Dfd):yJb c ops [] Q ad fr st ds=Q fr st ds:=(rfl)
@[go_sem ↓] theorem vZ8 (c:Cf)(ops rest:List Oper)(dst:Option Nat)(op:Op)(ty:TypeId)(pos:String)(aft:Array Edge)(Q:Fr->ISt->List Dfd->Prop)(ad:Ad)(fr:Fr)(st:ISt)
  (ds:List Dfd):yJb c ops (⟨dst,op,ty,pos,aft,none⟩::rest) Q ad fr st ds=vcOp c dst op (yJb c ops rest Q) ad fr st ds:=(rfl)
def yVb (ops:List Oper)(j:Nat):Option Nat:=(ops[j]?).bind (·.dst)
@[go_sem ↓] theorem vZz (o:Oper)(ops:List Oper):yVb (o::ops) 0=o.dst:=(rfl)
@[go_sem ↓] theorem vX0 (o:Oper)(ops:List Oper)(j:Nat):yVb (o::ops) (j+1)=yVb ops j:=by simp[yVb]
@[go_sem ↓] theorem wYv (c:Cf)(ops rest:List Oper)(dst:Option Nat)(op:Op)(ty:TypeId)(pos:String)(aft:Array Edge)(j:Nat)(want:Bool)(Q:Fr->ISt->List Dfd->Prop)(ad:Ad)
  (fr:Fr) (st:ISt) (ds:List Dfd):yJb c ops (⟨dst,op,ty,pos,aft,some (j,want)⟩::rest) Q ad fr st ds =
   yQ6 (yVb ops j) λd=>yVa fr d want (fr d) (λfr=>vcOp c dst op (yJb c ops rest Q) ad fr st ds) (λfr=>finK dst (yJb c ops rest Q) ad fr (.val (.raw undef)) st ds) .mk .mk:=by
 simp only[yJb,yVb];cases (ops[j]?).bind (·.dst)<;>rfl
@[go_sem] theorem wUw (fr:Fr)(d:Nat)(want:Bool)(run skip:Fr->Prop)(k:Lock run)(l:Lock skip):yVa fr d want (.iv (.raw (.bool want))) run skip k l=Hold true (run (fr.put d (.iv (.raw (.bool want))))):=by
 unfold yVa;cases want<;>simp[Hold]
abbrev Kc:=Exit->Fr->ISt->List Dfd->Prop
def xUs (J:Nat->Fr->ISt->List Dfd->Prop)(m:Nat)(Q:Kc):Kc
 | .normal,fr,st,ds=>∃m',m'<m/\J m' fr st ds
 | e,fr,st,ds=>Q e fr st ds
def LoopV (body:Fr->ISt->List Dfd->(Kc)->Prop)(Q:Kc)(fr:Fr)(st:ISt)(ds:List Dfd)(_:Lock body)(_:Lock Q):Prop :=
 ∃J:Nat->Fr->ISt->List Dfd->Prop,(∃m,J m fr st ds)/\∀m fr' st' ds',J m fr' st' ds'->body fr' st' ds' (xUs J m Q)
def seqK (k:Fr->ISt->List Dfd->Prop)(Q:Kc):Kc
 | .normal,fr,st,ds=>k fr st ds
 | e,fr,st,ds=>Q e fr st ds
def zK4 (id:Nat)(Q:Kc):Kc
 | .exit id',fr,st,ds=>if id'=id then Q .normal fr st ds else Q (.exit id') fr st ds
 | e,fr,st,ds=>Q e fr st ds
def wW2 (Q:Kc):Kc
 | .goto _,_,_,_=>False
 | e,fr,st,ds=>Q e fr st ds
