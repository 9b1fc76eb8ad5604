/- The layer of ideal values, part D: the c -/
import Derived.Test.YtabhgbojkjcfjaaGreatDoorJA
set_option linter.all false
namespace Go.Iv
open Go
def ends (C:Cx)(X:WS)(K:IV->ISt->Prop)(v:Value)(w':World):Prop :=
 ∃X' x,X'.w=w'/\Good C X'/\Ext X X'/\C.v X' v x/\K x X'.st
def ICall (P:Program)(gl:Nat->Option IV)(f:FuncId)(args:List IV)(st:ISt)(K:IV->ISt->Prop):Prop :=
 ∀(B:Nat) (X:WS) (rs:List Value),Good ⟨P,gl,B⟩ X->X.st=st->Cx.vl ⟨P,gl,B⟩ X rs args →
  Calls P f ⟨rs⟩ X.w λe w'=>∃v,e=.returned v/\ends ⟨P,gl,B⟩ X K v w'
@[congr] theorem vXq {args args':List IV}(P:Program)(gl:Nat->Option IV)(f:FuncId)(st:ISt)(K:IV->ISt->Prop)(h:args=args') :
  ICall P gl f args st K=ICall P gl f args' st K:=by rw[h]
def CallsVal (P:Program)(fv:Value)(rs:Array Value)(w:World)(R:Value->World->Prop):Prop :=
 match (do let d <- Deferred.ofValue fv rs;invoke d.target d.args:Sem Next).run P w with
 | .ok (.enter f args) w'=>w'=w/\Calls P f args w λe A=>∃v,e=.returned v/\R v A
 | .ok (.round l f tmps assign body) w'=>w'=w/\RoundIn Fence.wide 0 P l f tmps assign body w λe A=>∃v,e=.returned v/\R v A
 | _=>False
def ICallV (P:Program)(gl:Nat->Option IV)(f:IV)(args:List IV)(st:ISt)(K:IV->ISt->Prop):Prop :=
 ∀(B:Nat) (X:WS) (fv:Value) (rs:List Value),Good ⟨P,gl,B⟩ X->X.st=st->Cx.v ⟨P,gl,B⟩ X fv f->Cx.vl ⟨P,gl,B⟩ X rs args →
  CallsVal P fv ⟨rs⟩ X.w (ends ⟨P,gl,B⟩ X K)
theorem zW3 {C:Cx}{X:WS}{K K':IV->ISt->Prop}{v:Value}{w':World}(h:ends C X K v w')(A:∀x st,K x st->K' x st):ends C X K' v w':=by
 obtain⟨X',x,h1,h2,F,E,D⟩:=h;exact⟨X',x,h1,h2,F,E,A _ _ D⟩
theorem ICall.mono {P:Program}{gl:Nat->Option IV}{f:FuncId}{args:List IV}{st:ISt}{K K':IV->ISt->Prop}(h:ICall P gl f args st K)(F:∀x st,K x st->K' x st) :
  ICall P gl f args st K':=λB X rs G A E=>(h B X rs G A E).mono λe w' D=>by
 obtain⟨v,D,h⟩:=D;exact⟨v,D,zW3 h F⟩
theorem CallsVal.mono {P:Program}{fv:Value}{rs:Array Value}{w:World}{R R':Value->World->Prop}(h:CallsVal P fv rs w R)(E:∀v w',R v w'->R' v w'):CallsVal P fv rs w R':=by
 unfold CallsVal at *;generalize (do let d <- Deferred.ofValue fv rs;invoke d.target d.args:Sem Next).run P w=r at *;cases r with
 | halt x w'=>exact h
 | ok n w' =>
  cases n<;>first
   | exact h
   | exact⟨h.1,h.2.mono λe D A=>by obtain⟨v,A,F⟩:=A;exact⟨v,A,E _ _ F⟩⟩
theorem ICallV.mono {P:Program}{gl:Nat->Option IV}{f:IV}{args:List IV}{st:ISt}{K K':IV->ISt->Prop}(h:ICallV P gl f args st K)(E:∀x st,K x st->K' x st) :
  ICallV P gl f args st K':=λB X fv rs F A G D=>(h B X fv rs F A G D).mono λ_ _ J=>zW3 J E
def callV (P:Program)(gl:Nat->Option IV)(f:Fn)(first A args:List IV)(st:ISt)(K:IV->ISt->Prop):Prop :=
 match f with
 | .func g=>if entI P g=true then ICall P gl g (first++args++A) st K else False
 | f=>ICallV P gl (.fn f first A) args st K
@[congr] theorem vXi {args args':List IV}(P:Program)(gl:Nat->Option IV)(f:Fn)(first A:List IV)(st:ISt)(K:IV->ISt->Prop)(h:args=args') :
  callV P gl f first A args st K=callV P gl f first A args' st K:=by rw[h]
@[go_sem] theorem vJr (P:Program)(gl:Nat->Option IV)(g:FuncId)(first A args:List IV)(st:ISt)(K:IV->ISt->Prop) :
  callV P gl (.func g) first A args st K=if entI P g=true then ICall P gl g (first++args++A) st K else False:=(rfl)
theorem callV.mono {P:Program}{gl:Nat->Option IV}{f:Fn}{first A args:List IV}{st:ISt}{K K':IV->ISt->Prop}(h:callV P gl f first A args st K)
  (D:∀x st,K x st->K' x st):callV P gl f first A args st K':=by
 unfold callV at *;split at h
 ·split at h
  ·rename_i E;rw[if_pos E];exact h.mono D
  ·exact h.elim
 ·exact h.mono D
structure Cf where
 P:Program
 gl:Nat->Option IV
 esc:List Nat
 /-- in a round of a range over a function -/
 rd:Bool
 /-- in a region that draws its order -/
 dr:Bool
 /-- regions that are gone through in another order than the text's -/
 ord:List (Nat×List Nat):=[]
 /-- slots of boxes that are never written again -/
 frz:List Nat:=[]
 /-- functions whose number, and a million, is among 'esc': what they hand back, whatever is owned -/
 pf:FuncId->List IV->Option IV:=λ_ _=>none
 pok:∀g aL v,pf g aL=some v->entI P g=true/\∀st,ICall P gl g aL st (λr st'=>r=v/\st'=st):=by intro _ _ _ h;exact nomatch h
abbrev Cf.cx (c:Cf)(B:Nat):Cx:={ P:=c.P,gl:=c.gl,B:=B }
def boxV:SV->(List IV->Prop)->Prop
 | .box cs,f=>f cs
 | _,_=>False
@[congr] theorem vJu {s s':SV}(f:List IV->Prop)(h:s=s'):boxV s f=boxV s' f:=by rw[h]
@[go_sem] theorem uQ1 (cs:List IV)(f:List IV->Prop):boxV (.box cs) f=f cs:=(rfl)
def obV:IObj->(List IV->Prop)->Prop
 | .box cs,f=>f cs
 | _,_=>False
@[go_sem] theorem uVu (cs:List IV)(f:List IV->Prop):obV (.box cs) f=f cs:=(rfl)
def omV:IObj->(KeyK->List (Value×IV)->Prop)->Prop
 | .map k es,f=>f k es
 | _,_=>False
@[go_sem] theorem uVs (k:KeyK)(cs:List (Value×IV))(f:KeyK->List (Value×IV)->Prop):omV (.map k cs) f=f k cs:=(rfl)
def intV:IV->(IntKind->Int->Prop)->Prop
 | .raw (.int k n),f=>f k n
 | _,_=>False
@[go_sem] theorem vGt (k:IntKind)(n:Int)(f:IntKind->Int->Prop):intV (.raw (.int k n)) f=f k n:=(rfl)
def zJu:IV->(Bool->Prop)->Prop
 | .raw (.bool b),f=>f b
 | _,_=>False
@[go_sem] theorem vJv (b:Bool)(f:Bool->Prop):zJu (.raw (.bool b)) f=f b:=(rfl)
def slV:IV->(Tag->List IV->Prop)->Prop
 | .sl t A,f=>f t A
 | _,_=>False
@[go_sem] theorem kZv (t:Tag)(A:List IV)(f:Tag->List IV->Prop):slV (.sl t A) f=f t A:=(rfl)
def slX:IV->(Tag->List IV->Prop)->(Nat->Nat->Nat->Prop)->Prop
 | .sl t A,f,_=>f t A
 | .raw (.slice (some ⟨b,off,none⟩) n _),_,g=>g b off n
 | _,_,_=>False
@[go_sem] theorem kZu (t:Tag)(A:List IV)(f:Tag->List IV->Prop)(g:Nat->Nat->Nat->Prop):slX (.sl t A) f g=f t A:=(rfl)
@[go_sem] theorem uZ4 (b off n cap:Nat)(f:Tag->List IV->Prop)(g:Nat->Nat->Nat->Prop):slX (.raw (.slice (some ⟨b,off,none⟩) n cap)) f g=g b off n:=(rfl)
def slY:IV->(Tag->List IV->Prop)->(Nat->Nat->Nat->Nat->Prop)->Prop
 | .sl t A,f,_=>f t A
 | .raw (.slice (some ⟨b,off,none⟩) n cap),_,g=>g b off n cap
 | _,_,_=>False
@[go_sem] theorem kZt (t:Tag)(A:List IV)(f:Tag->List IV->Prop)(g:Nat->Nat->Nat->Nat->Prop):slY (.sl t A) f g=f t A:=(rfl)
@[go_sem] theorem uZ3 (b off n cap:Nat)(f:Tag->List IV->Prop)(g:Nat->Nat->Nat->Nat->Prop):slY (.raw (.slice (some ⟨b,off,none⟩) n cap)) f g=g b off n cap:=(rfl)
def aggV:IV->(List IV->Prop)->Prop
 | .agg A,f=>f A
 | _,_=>False
@[go_sem] theorem uQj (A:List IV)(f:List IV->Prop):aggV (.agg A) f=f A:=(rfl)
def tupV:IV->(List IV->Prop)->Prop
 | .tup A,f=>f A
 | _,_=>False
@[go_sem] theorem vG8 (A:List IV)(f:List IV->Prop):tupV (.tup A) f=f A:=(rfl)
def fnV:IV->(Fn->List IV->List IV->Prop)->Prop
 | .fn g a b,f=>f g a b
 | _,_=>False
@[go_sem] theorem kKb (g:Fn)(a b:List IV)(f:Fn->List IV->List IV->Prop):fnV (.fn g a b) f=f g a b:=(rfl)
def mapV:IV->(Option Nat->Prop)->Prop
 | .raw (.map m),f=>f m
 | _,_=>False
@[go_sem] theorem vGl (m:Option Nat)(f:Option Nat->Prop):mapV (.raw (.map m)) f=f m:=(rfl)
def rawV:IV->(Value->Prop)->Prop
 | .raw v,f=>f v
 | _,_=>False
def keyV:IV->(Value->Prop)->Prop
 | .raw v,f=>f v
 | .agg [.raw (.string s),.raw (.int k n)],f=>giv (s.size<=281474976710656) (f (.agg #[.string s,.int k n]))
 | _,_=>False
@[go_sem] theorem vGp (v:Value)(f:Value->Prop):keyV (.raw v) f=f v:=(rfl)
def adrV:IV->(Nat->Prop)->Prop
 | .raw (.pointer (some ⟨b,0,none⟩)),f=>f b
 | _,_=>False
def itO:IObj->(Nat->Nat->Array Nat->Nat->Prop)->Prop
 | .iter m s e c,f=>f m s e c
 | _,_=>False
def mxO:IObj->(Array MapEntry->Nat->Prop)->Prop
 | .mapx e c,f=>f e c
 | _,_=>False
def nxR (A:Array MapEntry)(seen:Array Nat)(p:Prop)(q:MapEntry->IV->Prop)(_:Lock p)(_:Lock q):Prop:=(wYc A seen=[]->p)/\∀e∈wYc A seen,∀k,keyI e.key=some k->q e k
inductive PR where
 | val (x:IV)
 | adr (t off:Nat)
 | box (cs:List IV)
 | sto (t:Nat) (cs:List IV)
 | nop
abbrev Rt:=PR->ISt->List Dfd->Prop
abbrev Kt:=Ad->Fr->ISt->List Dfd->Prop
def finK (dst:Option Nat)(K:Kt)(ad:Ad)(fr:Fr):Rt
 | .val x,st,ds=>match dst with
  | some d=>K (ad.put d none) (fr.put d (.iv x)) st ds
  | none=>K ad fr st ds
 | .adr t off,st,ds=>match dst with
  | some d=>if d=t then False else K (ad.put d (some (t,off))) (fr.put d (.iv .junk)) st ds
  | none=>K ad fr st ds
 | .box cs,st,ds=>match dst with
  | some d=>K (ad.put d none) (fr.put d (.box cs)) st ds
  | none=>False
 | .sto t cs,st,ds=>match dst with
  | some _=>False
  | none=>K ad (fr.put t (.box cs)) st ds
 | .nop,st,ds=>match dst with
  | some _=>False
  | none=>K ad fr st ds
def plR (p:Pl)(R:Rt)(st:ISt)(ds:List Dfd):Prop :=
 match p with
 | .box t off=>R (.adr t off) st ds
 | .ptr b off=>R (.val (.raw (.pointer (some ⟨b,off,none⟩)))) st ds
 | .cp x=>R (.val (.cptr x)) st ds
def yG6 (esc:List Nat)(dst:Option Nat)(cs:List IV)(R:Rt)(st:ISt)(ds:List Dfd):Prop :=
 match dst with
 | some d=>if d∈esc then ∀b,giv (st b=none) (R (.val (.raw (.pointer (some ⟨b,0,none⟩)))) (st.put b (some (.box cs))) ds) else R (.box cs) st ds
 | none=>False
def yYt (frz esc:List Nat)(dst:Option Nat)(y:IV)(R:Rt)(st:ISt)(ds:List Dfd):Prop :=
 match dst with
 | some d=>if d∈frz then R (.val (.cptr y)) st ds else yG6 esc (some d) y.cells R st ds
 | none=>False
def yWe (esc:List Nat):Option Nat->Bool
 | some d=>esc.contains d
 | none=>false
def xQ8 (esc:List Nat)(dst:Option Nat)(es:Nat)(ys:List IV)(R:Rt)(st:ISt)(ds:List Dfd):Prop :=
 if yWe esc dst=true then ∀b,giv (st b=none) (R (.val (.raw (.slice (some ⟨b,0,none⟩) ys.length ys.length))) (st.put b (some (.box (ys.flatMap IV.cells)))) ds)
 else R (.val (.sl ⟨true,.full,es⟩ ys)) st ds
def zXf (dr:Bool)(o:Option IV)(p:Option Pl)(R:Rt)(st:ISt)(ds:List Dfd):Prop :=
 match o with
 | some x=>R (.val x) st ds
 | none=>if dr=true then False else yQ8 p λp=>plR p R st ds
@[congr] theorem vZj {o o':Option IV}(dr:Bool)(p:Option Pl)(R:Rt)(st:ISt)(ds:List Dfd)(h:o=o'):zXf dr o p R st ds=zXf dr o' p R st ds:=by rw[h]
def ldr (dr:Bool)(esc:List Nat)(dst:Option Nat):Bool:=dr&&!yWe esc dst
@[go_sem] theorem vGo (dr:Bool)(esc:List Nat)(d:Nat):ldr dr esc (some d)=if d∈esc then false else dr:=by
 unfold ldr yWe;by_cases h:d∈esc<;>simp[h]
def zZe (dr ag:Bool)(n:Nat)(p:Pl)(fr:Fr)(R:Rt)(st:ISt)(ds:List Dfd):Prop :=
 match p with
 | .box t off=>boxV (fr t) λcs=>yQ8 (yVd ag n cs off) λy=>R (.val y) st ds
 | .ptr b off=>if dr=true then False else yQ8 (st b) λo=>obV o λcs=>yQ8 (yVd ag n cs off) λy=>R (.val y) st ds
 | .cp y=>if fits ag n y=true then R (.val y) st ds else False
def yGh (y:List IV)(p:Pl)(fr:Fr)(R:Rt)(st:ISt)(ds:List Dfd):Prop :=
 match p with
 | .box t off=>boxV (fr t) λcs=>if off+y.length<=cs.length then R (.sto t (yXb cs off y)) st ds else False
 | .ptr b off=>yQ8 (st b) λo=>obV o λcs=>if off+y.length<=cs.length then R .nop (st.put b (some (.box (yXb cs off y)))) ds else False
 | .cp _=>False
def zJl (f:Nat×Bool×Nat)(p:Pl)(R:Rt)(st:ISt)(ds:List Dfd):Prop :=
 match p with
 | .box t off=>R (.adr t (off+f.1)) st ds
 | .ptr b off=>R (.val (.raw (.pointer (some ⟨b,off+f.1,none⟩)))) st ds
 | .cp x=>aggV x λcs=>yQ8 (yVd f.2.1 f.2.2 cs f.1) λy=>if fits f.2.1 f.2.2 y=true then R (.val (.cptr y)) st ds else False
def wQp (len:Nat)(ag:Bool)(n j:Nat)(p:Pl)(R:Rt)(st:ISt)(ds:List Dfd):Prop :=
 if j<len then match p with
  | .box t off=>R (.adr t (off+j*n)) st ds
  | .ptr b off=>R (.val (.raw (.pointer (some ⟨b,off+j*n,none⟩)))) st ds
  | .cp x=>aggV x λcs=>yQ8 (yVd ag n cs (j*n)) λy=>if fits ag n y=true then R (.val (.cptr y)) st ds else False
 else False
def yJa (P:Program)(T:TypeId):Bool :=
 match P.underlying T with
 | some (.struct A)=>A.toList.all λf=>(P.info? f.type).isSome
 | _=>false
def yJx:Nat->List (Nat×Operand)->Bool
 | n,l=>(l.map (·.1)) == List.range n
def yYi (P:Program)(gl:Nat->Option IV)(fr:Fr)(T:TypeId):List IV->List (Nat×Operand)->Option (List IV)
 | cs,[]=>some cs
 | cs,(i,x)::l=>match fldI P T i,evV gl fr x with
  | some f,some y=>if y.cells.length=f.2.2/\f.1+y.cells.length<=cs.length/\fits f.2.1 f.2.2 y=true then yYi P gl fr T (yXb cs f.1 y.cells) l else none
  | _,_=>none
def zGx (P:Program)(gl:Nat->Option IV)(fr:Fr)(T:TypeId)(cs:List IV)(l:List (Nat×Operand)):Option (Nat×Bool×Nat)->Option IV->Option (List IV)
 | some f,some y=>if y.cells.length=f.2.2/\f.1+y.cells.length<=cs.length/\fits f.2.1 f.2.2 y=true then yYi P gl fr T (yXb cs f.1 y.cells) l else none
 | _,_=>none
inductive LenK where
 | str|sl|map|arr (n:Nat)
def lenI (P:Program)(T:TypeId):Option LenK :=
 match P.underlying T with
 | some .string=>some .str
 | some (.slice _)=>some .sl
 | some (.map _ _)=>some .map
 | some (.array n _)=>some (.arr n)
 | _=>none
def lenV (dr:Bool)(k:LenK)(x:IV)(R:Rt)(st:ISt)(ds:List Dfd):Prop :=
 match k with
 | .str=>rawV x λv=>match v with
  | .string s=>(dr=false->s.size<=281474976710656)->R (.val (.raw (.int .i64 s.size))) st ds
  | _=>False
 | .sl=>slX x (λ_ A=>(dr=false->A.length<=140737488355328)->R (.val (.raw (.int .i64 A.length))) st ds) (λ_ _ n=>R (.val (.raw (.int .i64 n))) st ds)
 | .map=>if dr=true then False else mapV x λm=>match m with
  | none=>R (.val (.raw (.int .i64 0))) st ds
  | some b=>yQ8 (st b) λo=>omV o λ_ es=>R (.val (.raw (.int .i64 es.length))) st ds
 | .arr n=>R (.val (.raw (.int .i64 n))) st ds
def appV (esc:List Nat)(dst:Option Nat)(e:TypeId×Bool×Nat×Nat)(D:Tag)(A ys:List IV)(R:Rt)(st:ISt)(ds:List Dfd):Prop :=
 chk (ys.all (fits e.2.1 e.2.2.1)=true) <| chk ((A.length+ys.length)*e.2.2.2<=140737488355328/\A.length+ys.length<=140737488355328) <|
  match D.cap with
  | .nil=>match ys with
   | []=>R (.val (.sl D A)) st ds
   | _=>if yWe esc dst=true then ∀g cap,giv (st g=none/\ys.length<=cap) (R (.val (.raw (.slice (some ⟨g,0,none⟩) ys.length cap))) (st.put g (some (.box (ys.flatMap IV.cells++List.replicate ((cap-ys.length)*e.2.2.1) .junk)))) ds)
    else ∀g,giv (st g=none) (R (.val (.sl ⟨true,.app g,e.2.2.1⟩ ys)) (st.put g (some (.front ys.length e.2.2.1))) ds)
  | .full=>chk (D.es=e.2.2.1) <| match ys with
   | []=>R (.val (.sl D A)) st ds
   | _=>∀g,giv (st g=none) (R (.val (.sl ⟨true,.app g,e.2.2.1⟩ (A++ys))) (st.put g (some (.front (A.length+ys.length) e.2.2.1))) ds)
  | .app g₀=>chk (D.es=e.2.2.1) <| chk (st g₀=some (.front A.length e.2.2.1)) <|
   ∀g,giv (g=g₀\/st g=none) (R (.val (.sl ⟨D.fresh,.app g,e.2.2.1⟩ (A++ys))) ((st.put g₀ none).put g (some (.front (A.length+ys.length) e.2.2.1))) ds)
  | .none=>match ys with
   | []=>R (.val (.sl D A)) st ds
   | _=>False
def appO (e:TypeId×Bool×Nat×Nat)(b off n cap:Nat)(ys:List IV)(R:Rt)(st:ISt)(ds:List Dfd):Prop :=
 chk (off=0/\ys.all (fits e.2.1 e.2.2.1)=true) <| chk ((n+ys.length)*e.2.2.2<=140737488355328/\n+ys.length<=140737488355328) <| yQ8 (st b) λo=>obV o λcs=>chk (n<=cap/\cap*e.2.2.1<=cs.length) <|
  yU6 (decide (n+ys.length<=cap)) (R (.val (.raw (.slice (some ⟨b,0,none⟩) (n+ys.length) cap))) (st.put b (some (.box (yXb cs (n*e.2.2.1) (ys.flatMap IV.cells))))) ds)
   (∀g A,giv (st g=none/\n+ys.length<=A) (R (.val (.raw (.slice (some ⟨g,0,none⟩) (n+ys.length) A)))
    ((st.put b none).put g (some (.box (cs.take (n*e.2.2.1)++ys.flatMap IV.cells++List.replicate ((A-(n+ys.length))*e.2.2.1) .junk)))) ds)) .mk .mk
def zUw (esc:List Nat):Option Nat->Bool
 | some d=>esc.contains (d+2000000)
 | none=>false
def qO (esc:List Nat)(dst:Option Nat)(p:Prop):Prop:=if zUw esc dst=true then False else p
@[go_sem ↓] theorem uVn (esc:List Nat)(d:Nat)(p:Prop):qO esc (some d) p=if d+2000000∈esc then False else p:=by
 unfold qO zUw;by_cases h:d+2000000∈esc<;>simp[h]
def appZ (e:TypeId×Bool×Nat×Nat)(A:Tag)(m:Int)(R:Rt)(st:ISt)(ds:List Dfd):Prop :=
 chk (A.cap=.nil/\0<m/\m*e.2.2.2<=140737488355328/\m<=140737488355328) <|
  ∀g cap,giv (st g=none/\m.toNat<=cap) (R (.val (.raw (.slice (some ⟨g,0,none⟩) m.toNat cap))) (st.put g (some (.box (List.replicate (cap*e.2.2.1) .junk)))) ds)
def capV (x:IV)(R:Rt)(st:ISt)(ds:List Dfd):Prop :=
 slY x (λD A=>match D.cap with
  | .nil=>R (.val (.raw (.int .i64 0))) st ds
  | .full=>R (.val (.raw (.int .i64 A.length))) st ds
  | _=>False) (λ_ _ _ cap=>R (.val (.raw (.int .i64 cap))) st ds)
def zGv (e:TypeId×Bool×Nat×Nat)(x:IV)(R:Rt)(st:ISt)(ds:List Dfd):Prop :=
 slY x (λ_ _=>False) λb off n _=>if n=0 then R (.val (.tup [])) st ds else
  yQ8 (st b) λo=>obV o λcs=>if off+n*e.2.2.1<=cs.length then R (.val (.tup [])) (st.put b (some (.box (yXb cs off (List.replicate (n*e.2.2.1) .junk))))) ds else False
def xVf (esc:List Nat)(dst:Option Nat)(e:TypeId×Bool×Nat×Nat)(p q:Int)(R:Rt)(st:ISt)(ds:List Dfd):Prop :=
 chk (p=0/\0<=q/\q*e.2.2.2<=140737488355328/\q<=140737488355328) <|
 if yWe esc dst=true then ∀g,giv (st g=none) (R (.val (.raw (.slice (some ⟨g,0,none⟩) 0 q.toNat))) (st.put g (some (.box (List.replicate (q.toNat*e.2.2.1) .junk)))) ds) else ∀g,giv (st g=none) (R (.val (.sl ⟨true,.app g,e.2.2.1⟩ [])) (st.put g (some (.front 0 e.2.2.1))) ds)
def yXm (D A:Option Int)(len:Nat):Option (Nat×Nat) :=
 if 0<=D.getD 0/\D.getD 0<=A.getD len/\A.getD len<=len then some ((D.getD 0).toNat,(A.getD len).toNat) else none
def intI:Option IV->Option (Option Int)
 | some (.raw (.int _ n))=>some (some n)
 | _=>none
def yG1 (gl:Nat->Option IV)(fr:Fr):Option Operand->Option (Option Int)
 | none=>some none
 | some x=>intI (evV gl fr x)
@[go_sem ↓] theorem vJf (gl:Nat->Option IV)(fr:Fr):yG1 gl fr none=some none:=(rfl)
@[go_sem ↓] theorem wQf (gl:Nat->Option IV)(fr:Fr)(x:Operand):yG1 gl fr (some x)=intI (evV gl fr x):=(rfl)
@[go_sem] theorem vGu (k:IntKind)(n:Int):intI (some (.raw (.int k n)))=some (some n):=(rfl)
def reTag (es:Nat)(t:Tag):Tag:=match t.cap with|.nil=>⟨t.fresh,.nil,es⟩|_=>t
def okEs (t:Tag)(es:Nat):Prop:=t.cap=.nil\/t.es=es
@[go_sem] theorem uVt (f:Bool)(c:Cap)(es:Nat):okEs ⟨f,c,es⟩ es=True:=by simp[okEs]
@[go_sem] theorem vGj (f:Bool)(e es:Nat):okEs ⟨f,.nil,e⟩ es=True:=by simp[okEs]
theorem yQ2 {t:Tag}{es:Nat}(h:okEs t es):(reTag es t).es=es:=by
 unfold reTag;split
 ·rfl
 ·rename_i A;exact h.resolve_left A
@[go_sem] theorem vKt (f:Bool)(e es:Nat):reTag es ⟨f,.nil,e⟩=⟨f,.nil,es⟩:=(rfl)
@[go_sem] theorem vJ7 (f:Bool)(e es:Nat):reTag es ⟨f,.full,e⟩=⟨f,.full,e⟩:=(rfl)
@[go_sem] theorem vKu (f:Bool)(e es g:Nat):reTag es ⟨f,.app g,e⟩=⟨f,.app g,e⟩:=(rfl)
def yXn (A:Tag)(len h:Nat)(l:Nat)(max:Option Int):Tag :=
 if A.cap=.nil then A else match max with
 | some m=>if m=h then ⟨A.fresh,.full,A.es⟩ else ⟨A.fresh,.none,A.es⟩
 | none=>if l=0/\h=len then A else ⟨A.fresh,.none,A.es⟩
def yGj (k:LenK)(s:Option (TypeId×Bool×Nat×Nat))(x:IV)(A high max:Option Int)(R:Rt)(st:ISt)(ds:List Dfd):Prop :=
 match k with
 | .str=>rawV x λv=>match v with
  | .string s=>match max with
   | none=>yQ8 (yXm A high s.size) λp=>R (.val (.raw (.string (s.extract p.1 p.2)))) st ds
   | some _=>False
  | _=>False
 | .sl=>yQ8 s λs=>slY x (λE D=>chk ((reTag s.2.2.1 E).es=s.2.2.1) <| match high,max with
  | none,some _=>False
  | high,max=>yQ8 (yXm A high D.length) λp=>chk (∀m,max=some m->m=p.2) (R (.val (.sl (yXn (reTag s.2.2.1 E) D.length p.2 p.1 max) ((D.drop p.1).take (p.2-p.1)))) st ds))
  (λb off n cap=>match max with
  | some _=>False
  | none=>chk (n<=cap) <| yQ8 (yXm A high (if high=none then n else cap)) λp=>R (.val (.raw (.slice (some ⟨b,if cap=p.1 then off else off+p.1*s.2.2.1,none⟩) (p.2-p.1) (cap-p.1)))) st ds)
 | _=>False
def xZn (s:ByteArray)(j:Int):Option UInt8:=if 0<=j then s[j.toNat]? else none
def zVl (k:LenK)(e:Option (Nat×Bool×Nat))(x:IV)(j:Int)(R:Rt)(st:ISt)(ds:List Dfd):Prop :=
 match k with
 | .str=>rawV x λv=>match v with
  | .string s=>yQ8 (xZn s j) λb=>R (.val (.raw (.int .u8 b.toNat))) st ds
  | _=>False
 | .arr len=>aggV x λcs=>yQ8 e λe=>if 0<=j/\j<len then yQ8 (yVd e.2.1 e.2.2 cs (j.toNat*e.2.2)) λy=>R (.val y) st ds else False
 | _=>False
def zYa (ok:Bool)(r:Option IV)(z:IV):Option IV:=some (if ok then .tup [r.getD z,.raw (.bool r.isSome)] else r.getD z)
theorem zGe (ok:Bool)(v z:IV):zYa ok (some v) z=some (if ok then .tup [v,.raw (.bool true)] else v):=rfl
theorem zGf (ok:Bool)(z:IV):zYa ok none z=some (if ok then .tup [z,.raw (.bool false)] else z):=rfl
def zXh (A:KeyK×IV)(m:Option Nat)(key:Value)(ok:Bool)(R:Rt)(st:ISt)(ds:List Dfd):Prop :=
 chk (yZr A.1 key=true) <| match m with
  | none=>yQ8 (zYa ok none A.2) λy=>R (.val y) st ds
  | some b=>yQ8 (st b) λo=>omV o λD es=>chk (D=A.1) (yQ8 (zYa ok (yVj key es) A.2) λy=>R (.val y) st ds)
def yGg (A:KeyK×IV)(m:Option Nat)(key:Value)(y:IV)(R:Rt)(st:ISt)(ds:List Dfd):Prop :=
 chk (yZr A.1 key=true) <| match m with
  | some b=>yQ8 (st b) λo=>omV o λD es=>chk (D=A.1) (R .nop (st.put b (some (.map D (updI key y es)))) ds)
  | none=>False
def xY0 (m:Option Nat)(R:Rt)(st:ISt)(ds:List Dfd):Prop :=
 match m with
 | none=>False
 | some b=>yQ8 (st b) λo=>mxO o λ_ A=>∀r,giv (st r=none) (R (.val (.raw (.pointer (some ⟨r,0,none⟩)))) (st.put r (some (.iter b A #[] A))) ds)
def wWy (r:Nat)(R:Rt)(st:ISt)(ds:List Dfd):Prop :=
 yQ8 (st r) λo=>itO o λm A seen F=>yQ8 (st m) λo'=>mxO o' λD E=>chk ((∀e∈D.toList,e.born<A/\(keyI e.key).isSome=true)/\A<=F)
  (nxR D seen (R (.val (.tup [.raw (.bool false)])) st ds) (λe k=>R (.val (.tup [.raw (.bool true),k,.junk])) (st.put r (some (.iter m A (seen.push e.born) E))) ds) .mk .mk)
def xGn (r:Nat)(R:Rt)(st:ISt)(ds:List Dfd):Prop :=
 yQ8 (st r) λo=>itO o λm _ seen E=>yQ8 (st m) λo'=>mxO o' λA D=>chk (E=D/\(A.toList.map (·.born)).Nodup) (yQ8 (vVk A seen) λk=>R (.val (.tup [k,.junk])) st ds)
def zWe (R:Rt)(ds:List Dfd):IV->ISt->Prop:=λx st=>R (.val x) st ds
def xZ2 (esc:List Nat)(pf:FuncId->List IV->Option IV)(f:Operand)(D:Option (List IV))(R:Rt)(st:ISt)(ds:List Dfd)(A:Prop):Prop :=
 match f with
 | .func g=>if g+1000000∈esc then yQ8 D λD=>yQ8 (pf g D) λv=>R (.val v) st ds else A
 | _=>A
def fnOk:Fn->Bool
 | .func _=>true
 | .yield _=>true
 | _=>false
def nilV (o:Option IV)(p:Option Pl)(dr:Bool)(R:Rt)(st:ISt)(ds:List Dfd):Prop :=
 match o with
 | some (.fn f first A)=>if fnOk f=true then R (.val (.fn f first A)) st ds else False
 | some (.cptr x)=>R (.val (.cptr x)) st ds
 | some (.raw (.pointer (some q)))=>if dr=true then R (.val (.raw (.pointer (some q)))) st ds else yQ8 p λp=>plR p R st ds
 | _=>if dr=true then False else yQ8 p λp=>plR p R st ds
@[congr] theorem vJ9 {o o':Option IV}(p:Option Pl)(dr:Bool)(R:Rt)(st:ISt)(ds:List Dfd)(h:o=o'):nilV o p dr R st ds=nilV o' p dr R st ds:=by rw[h]
def idxV (k:LenK)(s:Option (TypeId×Bool×Nat×Nat))(A:Option IV)(p:Option Pl)(e:Option (Nat×Bool×Nat))(j:Int)(R:Rt)(st:ISt)(ds:List Dfd):Prop :=
 match k with
 | .sl=>yQ8 s λs=>yQ8 A λx=>slX x (λt A=>if (reTag s.2.2.1 t).es=s.2.2.1 then if 0<=j then yQ8 (A[j.toNat]?) λy=>R (.val (.cptr y)) st ds else False else False)
  (λb off n=>if 0<=j/\j.toNat<n then R (.val (.raw (.pointer (some ⟨b,off+j.toNat*s.2.2.1,none⟩)))) st ds else False)
 | .arr _=>yQ8 e λe=>yQ8 p λp=>if 0<=j then wQp e.1 e.2.1 e.2.2 j.toNat p R st ds else False
 | _=>False
def appK (k:Option LenK)(i:Option IntKind)(f g:Prop):Prop :=
 match k,i with
 | some .sl,_=>f
 | none,some _=>g
 | _,_=>False
def vcR (c:Cf)(dst:Option Nat)(op:Op)(R:Rt)(ad:Ad)(fr:Fr)(st:ISt)(ds:List Dfd):Prop :=
 match op with
 | .move x|.assign x=>zXf c.dr (evV c.gl fr x) (evA c.gl ad fr x) R st ds
 | .pick b x y=>yQ8 (evV c.gl fr b) λb=>zJu b λb=>yU6 b (yQ8 (evV c.gl fr x) λx=>R (.val x) st ds) (yQ8 (evV c.gl fr y) λy=>R (.val y) st ds) .mk .mk
 | .alloc T=>yQ8 (yKl c.P T) λz=>yG6 c.esc dst z.cells R st ds
 | .box T x=>yQ8 (tyI c.P T) λ_=>yQ8 (evV c.gl fr x) λy=>chk (y.cells.all IV.one=true) (yYt c.frz c.esc dst y R st ds)
 | .build T parts=>chk (yJa c.P T=true) <| yQ8 (yKl c.P T) λz=>yQ8 (yYi c.P c.gl fr T z.cells parts.toList) λcs=>R (.val (.agg cs)) st ds
 | .buildSlice T len parts=>yQ8 (slI c.P T) λe=>chk (yJx len parts.toList=true/\len*e.2.2.1<=16777216) <|
   yQ8 (evL c.gl fr (parts.toList.map (·.2))) λys=>chk (ys.all (fits e.2.1 e.2.2.1)=true) (xQ8 c.esc dst e.2.2.1 ys R st ds)
 | .load T a=>yQ8 (tyI c.P T) λi=>yQ8 (evA c.gl ad fr a) λp=>zZe (ldr c.dr c.esc dst) i.1 i.2 p fr R st ds
 | .store T a x=>yQ8 (tyI c.P T) λi=>yQ8 (evV c.gl fr x) λy=>chk (y.cells.length=i.2/\y.cells.all IV.one=true) <| yQ8 (evA c.gl ad fr a) λp =>
   yGh y.cells p fr R st ds
 | .nilCheck x=>nilV (evV c.gl fr x) (evA c.gl ad fr x) c.dr R st ds
 | .binOp o T x y _=>yQ8 (evV c.gl fr x) λx=>yQ8 (evV c.gl fr y) λy=>yQ8 (binV c.P T o x y) λz=>R (.val z) st ds
 | .unOp o _ x=>yQ8 (evV c.gl fr x) λx=>yQ8 (unI o x) λz=>R (.val z) st ds
 | .convert s d x=>yQ8 (evV c.gl fr x) λx=>yQ8 (xJu c.P s d x) λz=>R (.val z) st ds
 | .makeFunc f first A=>yQ8 (evL c.gl fr first.toList) λa=>yQ8 (evL c.gl fr A.toList) λb=>R (.val (.fn f a b)) st ds
 | .makeMap T none=>yQ8 (mapI c.P T) λD=>∀b,giv (st b=none) (R (.val (.raw (.map (some b)))) (st.put b (some (.map D.1 []))) ds)
 | .slice T x G O F=>yQ8 (lenI c.P T) λk=>yQ8 (evV c.gl fr x) λx=>yQ8 (yG1 c.gl fr G) λG=>yQ8 (yG1 c.gl fr O) λO=>yQ8 (yG1 c.gl fr F) λF =>
   yGj k (slI c.P T) x G O F R st ds
 | .fieldAddr T x i=>yQ8 (fldI c.P T i) λf=>yQ8 (evA c.gl ad fr x) λp=>zJl f p R st ds
 | .field T x i=>yQ8 (fldI c.P T i) λf=>yQ8 (evV c.gl fr x) λx=>aggV x λcs=>yQ8 (yVd f.2.1 f.2.2 cs f.1) λy=>R (.val y) st ds
 | .indexAddr T x i=>yQ8 (evV c.gl fr i) λi=>intV i λ_ j=>yQ8 (lenI c.P T) λk=>idxV k (slI c.P T) (evV c.gl fr x) (evA c.gl ad fr x) (arrI c.P T) j R st ds
 | .index T x i=>yQ8 (evV c.gl fr i) λi=>intV i λ_ j=>yQ8 (lenI c.P T) λk=>yQ8 (evV c.gl fr x) λx=>zVl k (arrI c.P T) x j R st ds
 | .lookup T x i ok=>yQ8 (mapI c.P T) λD=>yQ8 (evV c.gl fr x) λx=>mapV x λm=>yQ8 (evV c.gl fr i) λi=>keyV i λkey=>zXh D m key ok R st ds
 | .mapUpdate T m i x=>yQ8 (mapI c.P T) λD=>yQ8 (evV c.gl fr m) λm=>mapV m λm=>yQ8 (evV c.gl fr i) λi=>keyV i λkey=>yQ8 (evV c.gl fr x) λy =>
   yGg D m key y R st ds
 | .extract x i=>yQ8 (evV c.gl fr x) λx=>tupV x λvs=>yQ8 (vs[i]?) λy=>R (.val y) st ds
 | .call ⟨.value f,args,_⟩=>xZ2 c.esc c.pf f (evL c.gl fr args.toList) R st ds (yQ8 (evV c.gl fr f) λf=>fnV f λf first A=>yQ8 (evL c.gl fr args.toList) λU =>
   callV c.P c.gl f first A U st (zWe R ds))
 | .call ⟨.builtin .len,⟨[x]⟩,⟨[T]⟩⟩=>yQ8 (lenI c.P T) λk=>yQ8 (evV c.gl fr x) λx=>lenV c.dr k x R st ds
 | .call ⟨.builtin .append,⟨[s,y]⟩,⟨[T,T']⟩⟩=>yQ8 (slI c.P T) λe=>appK (lenI c.P T') (intK c.P T')
   (yQ8 (evV c.gl fr s) λs=>slY s (λE W=>yQ8 (evV c.gl fr y) λy=>slV y λ_ ys=>appV c.esc dst e E W ys R st ds) (λb off n cap=>yQ8 (evV c.gl fr y) λy=>slV y λ_ ys=>qO c.esc dst (appO e b off n cap ys R st ds)))
   (yQ8 (evV c.gl fr s) λs=>slV s λE _=>yQ8 (evV c.gl fr y) λy=>intV y λ_ m=>appZ e E m R st ds)
 | .call ⟨.builtin .max,⟨[x,y]⟩,_⟩=>yQ8 (evV c.gl fr x) λx=>yQ8 (evV c.gl fr y) λy=>intV x λk a=>intV y λJ b=>if k=J then R (.val (.raw (.int k (max a b)))) st ds else False
 | .defer ⟨.value f,args,_⟩=>if c.rd=true then False else yQ8 (evV c.gl fr f) λf=>fnV f λf first A=>yQ8 (evL c.gl fr args.toList) λU =>
   R .nop st (.call f A (first++U)::ds)
 | .call ⟨.builtin .cap,⟨[x]⟩,⟨[T]⟩⟩=>yQ8 (slI c.P T) λ_=>yQ8 (evV c.gl fr x) λx=>capV x R st ds
 | .call ⟨.builtin .clear,⟨[x]⟩,⟨[T]⟩⟩=>yQ8 (slI c.P T) λe=>yQ8 (yKl c.P e.1) λ_=>yQ8 (evV c.gl fr x) λx=>zGv e x R st ds
 | .makeSlice T l m=>yQ8 (slI c.P T) λe=>yQ8 (evV c.gl fr l) λl=>intV l λ_ p=>yQ8 (evV c.gl fr m) λm=>intV m λ_ q=>xVf c.esc dst e p q R st ds
 | .insert T m i x=>yQ8 (mapI c.P T) λD=>yQ8 (evV c.gl fr m) λm=>mapV m λm=>yQ8 (evV c.gl fr i) λi=>keyV i λkey=>yQ8 (evV c.gl fr x) λy =>
   yGg D m key y R st ds
 | .call ⟨.builtin .min,⟨[x,y]⟩,_⟩=>yQ8 (evV c.gl fr x) λx=>yQ8 (evV c.gl fr y) λy=>intV x λk a=>intV y λJ b=>if k=J then R (.val (.raw (.int k (min a b)))) st ds else False
 | .range T x=>if c.dr=true then False else yQ8 (mapI c.P T) λ_=>yQ8 (evV c.gl fr x) λx=>mapV x λm=>xY0 m R st ds
 | .next x false=>if c.dr=true then False else yQ8 (evV c.gl fr x) λx=>adrV x λr=>wWy r R st ds
 | .entry x=>if c.dr=true then False else yQ8 (evV c.gl fr x) λx=>adrV x λr=>xGn r R st ds
 | _=>False
def vcOp (c:Cf)(dst:Option Nat)(op:Op)(K:Kt)(ad:Ad)(fr:Fr)(st:ISt)(ds:List Dfd):Prop:=vcR c dst op (finK dst K ad fr) ad fr st ds
section
variable (c:Cf)(dst:Option Nat)(d t off b n i j len:Nat)(T T':TypeId)(x y z:Operand)(K:Kt)(R:Rt)(ad:Ad)(fr:Fr)(st:ISt)(ds:List Dfd)(v:IV)(dr ag:Bool)
@[go_sem ↓] theorem vUo:finK (some d) K ad fr (.val v) st ds=K (ad.put d none) (fr.put d (.iv v)) st ds:=(rfl)
@[go_sem ↓] theorem wYn:finK none K ad fr (.val v) st ds=K ad fr st ds:=(rfl)
@[go_sem ↓] theorem vUs:finK (some d) K ad fr (.adr t off) st ds=if d=t then False else K (ad.put d (some (t,off))) (fr.put d (.iv .junk)) st ds:=(rfl)
@[go_sem ↓] theorem vUr (cs:List IV):finK (some d) K ad fr (.box cs) st ds=K (ad.put d none) (fr.put d (.box cs)) st ds:=(rfl)
@[go_sem ↓] theorem vUp (cs:List IV):finK none K ad fr (.sto t cs) st ds=K ad (fr.put t (.box cs)) st ds:=(rfl)
@[go_sem ↓] theorem vUq:finK none K ad fr .nop st ds=K ad fr st ds:=(rfl)
theorem xW5:zWe R ds v st=R (.val v) st ds:=(rfl)
@[go_sem ↓] theorem uVp:plR (.ptr b off) R st ds=R (.val (.raw (.pointer (some ⟨b,off,none⟩)))) st ds:=(rfl)
@[go_sem] theorem vJb (p:Option Pl):zXf dr (some v) p R st ds=R (.val v) st ds:=(rfl)
@[go_sem ↓] theorem wUc (frz esc:List Nat)(y:IV):yYt frz esc (some d) y R st ds=if d∈frz then R (.val (.cptr y)) st ds else yG6 esc (some d) y.cells R st ds:=(rfl)
@[go_sem ↓] theorem vZg (esc:List Nat)(cs:List IV):yG6 esc (some d) cs R st ds =
 if d∈esc then ∀b,giv (st b=none) (R (.val (.raw (.pointer (some ⟨b,0,none⟩)))) (st.put b (some (.box cs))) ds) else R (.box cs) st ds:=(rfl)
@[go_sem ↓] theorem vVh:zZe dr ag n (.box t off) fr R st ds=boxV (fr t) λcs=>yQ8 (yVd ag n cs off) λy=>R (.val y) st ds:=(rfl)
@[go_sem ↓] theorem vVg:zZe false ag n (.ptr b off) fr R st ds=yQ8 (st b) λo=>obV o λcs=>yQ8 (yVd ag n cs off) λy=>R (.val y) st ds:=(rfl)
@[go_sem ↓] theorem vGm:zZe dr ag n (.cp v) fr R st ds=if fits ag n v=true then R (.val v) st ds else False:=(rfl)
@[go_sem ↓] theorem vJ1 (l:List IV):yGh l (.box t off) fr R st ds=boxV (fr t) λcs=>if off+l.length<=cs.length then R (.sto t (yXb cs off l)) st ds else False:=(rfl)
@[go_sem ↓] theorem vJ0 (l:List IV):yGh l (.ptr b off) fr R st ds =
 yQ8 (st b) λo=>obV o λcs=>if off+l.length<=cs.length then R .nop (st.put b (some (.box (yXb cs off l)))) ds else False:=(rfl)
@[go_sem ↓] theorem vJj (f:Nat×Bool×Nat):zJl f (.box t off) R st ds=R (.adr t (off+f.1)) st ds:=(rfl)
@[go_sem ↓] theorem vJi (f:Nat×Bool×Nat):zJl f (.ptr b off) R st ds=R (.val (.raw (.pointer (some ⟨b,off+f.1,none⟩)))) st ds:=(rfl)
@[go_sem ↓] theorem vWq (f:Nat×Bool×Nat):zJl f (.cp v) R st ds=aggV v λcs=>yQ8 (yVd f.2.1 f.2.2 cs f.1) λy=>if fits f.2.1 f.2.2 y=true then R (.val (.cptr y)) st ds else False:=(rfl)
@[go_sem ↓] theorem vUv:wQp len ag n j (.cp v) R st ds=if j<len then aggV v λcs=>yQ8 (yVd ag n cs (j*n)) λy=>if fits ag n y=true then R (.val (.cptr y)) st ds else False else False:=(rfl)
@[go_sem ↓] theorem vJt (P:Program)(gl:Nat->Option IV)(cs:List IV):yYi P gl fr T cs []=some cs:=(rfl)
@[go_sem ↓] theorem zQq (P:Program)(gl:Nat->Option IV)(cs:List IV)(l:List (Nat×Operand)) :
 yYi P gl fr T cs ((i,x)::l)=zGx P gl fr T cs l (fldI P T i) (evV gl fr x):=by
 rw[yYi];cases fldI P T i<;>cases evV gl fr x<;>rfl
@[congr] theorem wUs (P:Program)(gl:Nat->Option IV)(cs:List IV)(l:List (Nat×Operand)){f D:Option (Nat×Bool×Nat)}{v A:Option IV}(h:f=D)(E:v=A) :
 zGx P gl fr T cs l f v=zGx P gl fr T cs l D A:=by rw[h,E]
@[go_sem] theorem vXj (P:Program)(gl:Nat->Option IV)(cs:List IV)(l:List (Nat×Operand))(f:Nat×Bool×Nat) :
 zGx P gl fr T cs l (some f) (some v)=if v.cells.length=f.2.2/\f.1+v.cells.length<=cs.length/\fits f.2.1 f.2.2 v=true then yYi P gl fr T (yXb cs f.1 v.cells) l else none:=(rfl)
@[go_sem ↓] theorem vJa (esc:List Nat)(es:Nat)(ys:List IV):xQ8 esc (some d) es ys R st ds =
 if d∈esc then ∀b,giv (st b=none) (R (.val (.raw (.slice (some ⟨b,0,none⟩) ys.length ys.length))) (st.put b (some (.box (ys.flatMap IV.cells)))) ds) else R (.val (.sl ⟨true,.full,es⟩ ys)) st ds:=by
 simp[xQ8,yWe]
@[go_sem ↓] theorem uW8:lenV false .sl v R st ds=slX v (λ_ A=>A.length<=140737488355328->R (.val (.raw (.int .i64 A.length))) st ds) (λ_ _ n=>R (.val (.raw (.int .i64 n))) st ds):=by simp[lenV]
@[go_sem ↓] theorem vGn (s:ByteArray):lenV false .str (.raw (.string s)) R st ds=(s.size<=281474976710656->R (.val (.raw (.int .i64 s.size))) st ds):=by simp[lenV,rawV]
@[go_sem ↓] theorem vJd:lenV true .sl v R st ds=slX v (λ_ A=>R (.val (.raw (.int .i64 A.length))) st ds) (λ_ _ n=>R (.val (.raw (.int .i64 n))) st ds):=by simp[lenV]
@[go_sem ↓] theorem vZp (s:ByteArray):lenV true .str (.raw (.string s)) R st ds=R (.val (.raw (.int .i64 s.size))) st ds:=by simp[lenV,rawV]
@[go_sem ↓] theorem uQg (esc:List Nat)(e:TypeId×Bool×Nat×Nat)(E:Bool)(es:Nat)(D ys:List IV)(A:IV):appV esc (some d) e ⟨E,.nil,es⟩ D (A::ys) R st ds =
 chk ((A::ys).all (fits e.2.1 e.2.2.1)=true) (chk ((D.length+(A::ys).length)*e.2.2.2<=140737488355328/\D.length+(A::ys).length<=140737488355328)
  (if d∈esc then ∀g cap,giv (st g=none/\(A::ys).length<=cap) (R (.val (.raw (.slice (some ⟨g,0,none⟩) (A::ys).length cap))) (st.put g (some (.box ((A::ys).flatMap IV.cells++List.replicate ((cap-(A::ys).length)*e.2.2.1) .junk)))) ds)
   else ∀g,giv (st g=none) (R (.val (.sl ⟨true,.app g,e.2.2.1⟩ (A::ys))) (st.put g (some (.front (A::ys).length e.2.2.1))) ds))):=by simp[appV,yWe]
@[go_sem ↓] theorem vY6 (esc:List Nat)(dst:Option Nat)(e:TypeId×Bool×Nat×Nat)(E:Bool)(es:Nat)(D ys:List IV)(A:IV):appV esc dst e ⟨E,.full,es⟩ D (A::ys) R st ds =
 chk ((A::ys).all (fits e.2.1 e.2.2.1)=true) (chk ((D.length+(A::ys).length)*e.2.2.2<=140737488355328/\D.length+(A::ys).length<=140737488355328)
  (chk (es=e.2.2.1) (∀g,giv (st g=none) (R (.val (.sl ⟨true,.app g,e.2.2.1⟩ (D++(A::ys)))) (st.put g (some (.front (D.length+(A::ys).length) e.2.2.1))) ds)))):=(rfl)
@[go_sem ↓] theorem uQh (esc:List Nat)(dst:Option Nat)(e:TypeId×Bool×Nat×Nat)(D:Bool)(es g₀:Nat)(A ys:List IV):appV esc dst e ⟨D,.app g₀,es⟩ A ys R st ds =
 chk (ys.all (fits e.2.1 e.2.2.1)=true) (chk ((A.length+ys.length)*e.2.2.2<=140737488355328/\A.length+ys.length<=140737488355328)
  (chk (es=e.2.2.1) (chk (st g₀=some (.front A.length e.2.2.1))
   (∀g,giv (g=g₀\/st g=none) (R (.val (.sl ⟨D,.app g,e.2.2.1⟩ (A++ys))) ((st.put g₀ none).put g (some (.front (A.length+ys.length) e.2.2.1))) ds))))):=(rfl)
@[go_sem ↓] theorem vJx (esc:List Nat)(dst:Option Nat)(e:TypeId×Bool×Nat×Nat)(D:Bool)(es:Nat)(A:List IV):appV esc dst e ⟨D,.nil,es⟩ A [] R st ds =
 chk (([]:List IV).all (fits e.2.1 e.2.2.1)=true) (chk ((A.length+0)*e.2.2.2<=140737488355328/\A.length+0<=140737488355328) (R (.val (.sl ⟨D,.nil,es⟩ A)) st ds)):=(rfl)
theorem zXv {e:TypeId×Bool×Nat×Nat}{b n cap:Nat}{ys cs:List IV}(W:st b=some (.box cs))(U:ys.all (fits e.2.1 e.2.2.1)=true)(h1:(n+ys.length)*e.2.2.2<=140737488355328/\n+ys.length<=140737488355328)(h2:n<=cap/\cap*e.2.2.1<=cs.length)
  (E:(ys.flatMap IV.cells).length=ys.length*e.2.2.1)
  (h:∀g A cs',g=b\/st g=none->n+ys.length<=A->A*e.2.2.1<=cs'.length->cs'.take ((n+ys.length)*e.2.2.1)=cs.take (n*e.2.2.1)++ys.flatMap IV.cells →
   R (.val (.raw (.slice (some ⟨g,0,none⟩) (n+ys.length) A))) ((st.put b none).put g (some (.box cs'))) ds):appO e b 0 n cap ys R st ds:=by
 have hn:n*e.2.2.1<=cs.length:=Nat.le_trans (Nat.mul_le_mul_right _ h2.1) h2.2;have D:(cs.take (n*e.2.2.1)).length=n*e.2.2.1:=by rw[List.length_take];omega
 refine⟨⟨rfl,U⟩,h1,yQ5.2 ⟨_,W,h2,λhc=>?_,λhc g A G=>?_⟩⟩
 ·have hc:=of_decide_eq_true hc;have F:(n+ys.length)*e.2.2.1<=cs.length:=Nat.le_trans (Nat.mul_le_mul_right _ hc) h2.2;have J:n*e.2.2.1+(ys.flatMap IV.cells).length<=cs.length:=by rw[E,<- Nat.add_mul];exact F
  have O:st.put b (some (.box (yXb cs (n*e.2.2.1) (ys.flatMap IV.cells))))=(st.put b none).put b (some (.box (yXb cs (n*e.2.2.1) (ys.flatMap IV.cells)))):=by
   funext c;simp only[ISt.put_apply];split<;>rfl
  rw[O];refine h b cap _ (.inl rfl) hc ?_ ?_
  ·unfold yXb;simp only[lLa,List.length_take,List.length_drop];have:=h2.2;omega
  ·unfold yXb;rw[List.take_append_of_le_length (by rw[lLa,D,E,Nat.add_mul];exact Nat.le_refl _),List.take_of_length_le (by rw[lLa,D,E,Nat.add_mul];exact Nat.le_refl _)]
 ·refine h g A _ (.inr G.1) G.2 ?_ ?_
  ·simp only[lLa,D,E,List.length_replicate];rw[<- Nat.add_mul,<- Nat.add_mul];exact Nat.mul_le_mul_right _ (by have:=G.2;omega)
  ·rw[List.take_append_of_le_length (by rw[lLa,D,E,Nat.add_mul];exact Nat.le_refl _),List.take_of_length_le (by rw[lLa,D,E,Nat.add_mul];exact Nat.le_refl _)]
@[go_sem ↓] theorem vUz (b off n cap:Nat):capV (.raw (.slice (some ⟨b,off,none⟩) n cap)) R st ds=R (.val (.raw (.int .i64 cap))) st ds:=(rfl)
@[go_sem ↓] theorem uQ0 (D:Bool)(es:Nat)(A:List IV):capV (.sl ⟨D,.nil,es⟩ A) R st ds=R (.val (.raw (.int .i64 0))) st ds:=(rfl)
@[go_sem ↓] theorem vJq (e:TypeId×Bool×Nat×Nat)(b off n cap:Nat):zGv e (.raw (.slice (some ⟨b,off,none⟩) n cap)) R st ds=if n=0 then R (.val (.tup [])) st ds else
  yQ8 (st b) λo=>obV o λcs=>if off+n*e.2.2.1<=cs.length then R (.val (.tup [])) (st.put b (some (.box (yXb cs off (List.replicate (n*e.2.2.1) .junk))))) ds else False:=(rfl)
@[go_sem ↓] theorem vJc (esc:List Nat)(e:TypeId×Bool×Nat×Nat)(p q:Int):xVf esc (some d) e p q R st ds=chk (p=0/\0<=q/\q*e.2.2.2<=140737488355328/\q<=140737488355328)
 (if d∈esc then ∀g,giv (st g=none) (R (.val (.raw (.slice (some ⟨g,0,none⟩) 0 q.toNat))) (st.put g (some (.box (List.replicate (q.toNat*e.2.2.1) .junk)))) ds) else
 ∀g,giv (st g=none) (R (.val (.sl ⟨true,.app g,e.2.2.1⟩ [])) (st.put g (some (.front 0 e.2.2.1))) ds)):=by
 simp[xVf,yWe]
@[go_sem ↓] theorem vJ4 (e:TypeId×Bool×Nat×Nat)(b off n cap:Nat)(D A:Option Int):yGj .sl (some e) (.raw (.slice (some ⟨b,off,none⟩) n cap)) D A none R st ds =
 chk (n<=cap) (yQ8 (yXm D A (if A=none then n else cap)) λp=>R (.val (.raw (.slice (some ⟨b,if cap=p.1 then off else off+p.1*e.2.2.1,none⟩) (p.2-p.1) (cap-p.1)))) st ds):=(rfl)
@[go_sem ↓] theorem vKl (e:TypeId×Bool×Nat×Nat)(D:Tag)(A:List IV)(F E:Option Int):yGj .sl (some e) (.sl D A) F E none R st ds =
 chk ((reTag e.2.2.1 D).es=e.2.2.1) (yQ8 (yXm F E A.length) λp=>R (.val (.sl (yXn (reTag e.2.2.1 D) A.length p.2 p.1 none) ((A.drop p.1).take (p.2-p.1)))) st ds):=by
 cases E<;>simp[yGj,slY,chk,yQ8]
@[go_sem ↓] theorem vJ3 (e:TypeId×Bool×Nat×Nat)(D:Tag)(A:List IV)(F:Option Int)(G E:Int):yGj .sl (some e) (.sl D A) F (some G) (some E) R st ds =
 chk ((reTag e.2.2.1 D).es=e.2.2.1) (yQ8 (yXm F (some G) A.length) λp=>chk (E=p.2) (R (.val (.sl (yXn (reTag e.2.2.1 D) A.length p.2 p.1 (some E)) ((A.drop p.1).take (p.2-p.1)))) st ds)):=by
 simp[yGj,slY,yQ8]
@[go_sem ↓] theorem vJg (s:ByteArray)(j:Int)(e:Option (Nat×Bool×Nat)):zVl .str e (.raw (.string s)) j R st ds =
 yQ8 (xZn s j) λb=>R (.val (.raw (.int .u8 b.toNat))) st ds:=(rfl)
@[go_sem ↓] theorem wUf (A:KeyK×IV)(m:Nat)(key:Value)(ok:Bool):zXh A (some m) key ok R st ds =
 chk (yZr A.1 key=true) (yQ8 (st m) λo=>omV o λD es=>chk (D=A.1) (yQ8 (zYa ok (yVj key es) A.2) λy=>R (.val y) st ds)):=(rfl)
@[go_sem ↓] theorem wGv (A:KeyK×IV)(m:Nat)(key:Value):yGg A (some m) key v R st ds =
 chk (yZr A.1 key=true) (yQ8 (st m) λo=>omV o λD es=>chk (D=A.1) (R .nop (st.put m (some (.map D (updI key v es)))) ds)):=(rfl)
@[go_sem] theorem vZt (s:ByteArray):yZr .str (.string s)=true:=(rfl)
@[go_sem] theorem vZu (k:IntKind)(n:Int):yZr (.int k) (.int k n)=true:=by simp[yZr]
@[go_sem] theorem vGk (p:Option Pl)(u:Value):nilV (some (.raw u)) p false R st ds=yQ8 p λp=>plR p R st ds:=by
 cases u with
 | pointer o=>cases o<;>rfl
 | _=>rfl
@[go_sem] theorem vVc (p:Option Pl)(dr:Bool)(u:IV):nilV (some (.cptr u)) p dr R st ds=R (.val (.cptr u)) st ds:=(rfl)
@[go_sem ↓] theorem uWb (s:Option (TypeId×Bool×Nat×Nat))(A:Option IV)(p:Option Pl)(e:Option (Nat×Bool×Nat))(j:Int):idxV .sl s A p e j R st ds =
 yQ8 s λs=>yQ8 A λx=>slX x (λt A=>if (reTag s.2.2.1 t).es=s.2.2.1 then if 0<=j then yQ8 (A[j.toNat]?) λy=>R (.val (.cptr y)) st ds else False else False)
  (λb off n=>if 0<=j/\j.toNat<n then R (.val (.raw (.pointer (some ⟨b,off+j.toNat*s.2.2.1,none⟩)))) st ds else False):=(rfl)
@[go_sem ↓] theorem vGv (s:Option (TypeId×Bool×Nat×Nat))(A:Option IV)(p:Option Pl)(e:Option (Nat×Bool×Nat))(j:Int):idxV (.arr n) s A p e j R st ds =
 yQ8 e λe=>yQ8 p λp=>if 0<=j then wQp e.1 e.2.1 e.2.2 j.toNat p R st ds else False:=(rfl)
@[go_sem] theorem kQw (i:Option IntKind)(f g:Prop):appK (some .sl) i f g=f:=by cases i<;>rfl
@[go_sem] theorem uQi (i:IntKind)(f g:Prop):appK none (some i) f g=g:=(rfl)
@[congr] theorem vJy {k A:Option LenK}{i D:Option IntKind}(f g:Prop)(h:k=A)(E:i=D):appK k i f g=appK A D f g:=by rw[h,E]
@[go_sem] theorem tgEs (f:Bool)(cp:Cap)(s:Nat):Tag.es ⟨f,cp,s⟩=s:=(rfl)
@[go_sem ↓] theorem uQv:vcOp c dst (.move x) K ad fr st ds=zXf c.dr (evV c.gl fr x) (evA c.gl ad fr x) (finK dst K ad fr) st ds:=(rfl)
@[go_sem ↓] theorem vK4:vcOp c dst (.assign x) K ad fr st ds=zXf c.dr (evV c.gl fr x) (evA c.gl ad fr x) (finK dst K ad fr) st ds:=(rfl)
@[go_sem ↓] theorem uQu:vcOp c dst (.pick x y z) K ad fr st ds=yQ8 (evV c.gl fr x) λb=>zJu b λb =>
 yU6 b (yQ8 (evV c.gl fr y) λx=>finK dst K ad fr (.val x) st ds) (yQ8 (evV c.gl fr z) λy=>finK dst K ad fr (.val y) st ds) .mk .mk:=(rfl)
@[go_sem ↓] theorem vG2:vcOp c dst (.alloc T) K ad fr st ds=yQ8 (yKl c.P T) λz=>yG6 c.esc dst z.cells (finK dst K ad fr) st ds:=(rfl)
@[go_sem ↓] theorem kZ7:vcOp c dst (.box T x) K ad fr st ds=yQ8 (tyI c.P T) λ_=>yQ8 (evV c.gl fr x) λy=>chk (y.cells.all IV.one=true) (yYt c.frz c.esc dst y (finK dst K ad fr) st ds):=(rfl)
@[go_sem ↓] theorem vG0 (parts:Array (Nat×Operand)):vcOp c dst (.build T parts) K ad fr st ds =
 chk (yJa c.P T=true) (yQ8 (yKl c.P T) λz=>yQ8 (yYi c.P c.gl fr T z.cells parts.toList) λcs=>finK dst K ad fr (.val (.agg cs)) st ds):=(rfl)
@[go_sem ↓] theorem wVr (parts:Array (Nat×Operand)):vcOp c dst (.buildSlice T len parts) K ad fr st ds =
 yQ8 (slI c.P T) λe=>chk (yJx len parts.toList=true/\len*e.2.2.1<=16777216) (yQ8 (evL c.gl fr (parts.toList.map (·.2))) λys =>
  chk (ys.all (fits e.2.1 e.2.2.1)=true) (xQ8 c.esc dst e.2.2.1 ys (finK dst K ad fr) st ds)):=(rfl)
@[go_sem ↓] theorem uQw:vcOp c dst (.load T x) K ad fr st ds=yQ8 (tyI c.P T) λi=>yQ8 (evA c.gl ad fr x) λp=>zZe (ldr c.dr c.esc dst) i.1 i.2 p fr (finK dst K ad fr) st ds:=(rfl)
@[go_sem ↓] theorem vYv:vcOp c dst (.store T x y) K ad fr st ds=yQ8 (tyI c.P T) λi=>yQ8 (evV c.gl fr y) λy =>
 chk (y.cells.length=i.2/\y.cells.all IV.one=true) (yQ8 (evA c.gl ad fr x) λp=>yGh y.cells p fr (finK dst K ad fr) st ds):=(rfl)
@[go_sem ↓] theorem vG1 (o:BinOp):vcOp c dst (.binOp o T x y T') K ad fr st ds=yQ8 (evV c.gl fr x) λx=>yQ8 (evV c.gl fr y) λy=>yQ8 (binV c.P T o x y) λz=>finK dst K ad fr (.val z) st ds:=(rfl)
@[go_sem ↓] theorem uQt (o:UnOp):vcOp c dst (.unOp o T x) K ad fr st ds=yQ8 (evV c.gl fr x) λx=>yQ8 (unI o x) λz=>finK dst K ad fr (.val z) st ds:=(rfl)
@[go_sem ↓] theorem vXx:vcOp c dst (.convert T T' x) K ad fr st ds=yQ8 (evV c.gl fr x) λx=>yQ8 (xJu c.P T T' x) λz=>finK dst K ad fr (.val z) st ds:=(rfl)
@[go_sem ↓] theorem vQ6 (f:Fn)(first A:Array Operand):vcOp c dst (.makeFunc f first A) K ad fr st ds =
 yQ8 (evL c.gl fr first.toList) λa=>yQ8 (evL c.gl fr A.toList) λb=>finK dst K ad fr (.val (.fn f a b)) st ds:=(rfl)
@[go_sem ↓] theorem vXv:vcOp c dst (.makeMap T none) K ad fr st ds=yQ8 (mapI c.P T) λA=>∀b,giv (st b=none) (finK dst K ad fr (.val (.raw (.map (some b)))) (st.put b (some (.map A.1 []))) ds):=(rfl)
@[go_sem ↓] theorem vYw (D E A:Option Operand):vcOp c dst (.slice T x D E A) K ad fr st ds=yQ8 (lenI c.P T) λk=>yQ8 (evV c.gl fr x) λx =>
 yQ8 (yG1 c.gl fr D) λD=>yQ8 (yG1 c.gl fr E) λE=>yQ8 (yG1 c.gl fr A) λA=>yGj k (slI c.P T) x D E A (finK dst K ad fr) st ds:=(rfl)
@[go_sem ↓] theorem wGu:vcOp c dst (.fieldAddr T x i) K ad fr st ds=yQ8 (fldI c.P T i) λf=>yQ8 (evA c.gl ad fr x) λp=>zJl f p (finK dst K ad fr) st ds:=(rfl)
@[go_sem ↓] theorem wGt:vcOp c dst (.indexAddr T x y) K ad fr st ds=yQ8 (evV c.gl fr y) λi=>intV i λ_ j=>yQ8 (lenI c.P T) λk =>
 idxV k (slI c.P T) (evV c.gl fr x) (evA c.gl ad fr x) (arrI c.P T) j (finK dst K ad fr) st ds:=(rfl)
@[go_sem ↓] theorem vYx:vcOp c dst (.index T x y) K ad fr st ds=yQ8 (evV c.gl fr y) λi=>intV i λ_ j=>yQ8 (lenI c.P T) λk=>yQ8 (evV c.gl fr x) λx=>zVl k (arrI c.P T) x j (finK dst K ad fr) st ds:=(rfl)
@[go_sem ↓] theorem vK2 (ok:Bool):vcOp c dst (.lookup T x y ok) K ad fr st ds=yQ8 (mapI c.P T) λA=>yQ8 (evV c.gl fr x) λx=>mapV x λm=>yQ8 (evV c.gl fr y) λi=>keyV i λkey =>
 zXh A m key ok (finK dst K ad fr) st ds:=(rfl)
@[go_sem ↓] theorem wGr:vcOp c dst (.mapUpdate T x y z) K ad fr st ds=yQ8 (mapI c.P T) λA=>yQ8 (evV c.gl fr x) λm=>mapV m λm=>yQ8 (evV c.gl fr y) λi=>keyV i λkey =>
 yQ8 (evV c.gl fr z) λy=>yGg A m key y (finK dst K ad fr) st ds:=(rfl)
@[go_sem ↓] theorem vK3:vcOp c dst (.insert T x y z) K ad fr st ds=yQ8 (mapI c.P T) λA=>yQ8 (evV c.gl fr x) λm=>mapV m λm=>yQ8 (evV c.gl fr y) λi=>keyV i λkey =>
   yQ8 (evV c.gl fr z) λy=>yGg A m key y (finK dst K ad fr) st ds:=(rfl)
@[go_sem ↓] theorem vXw:vcOp c dst (.extract x i) K ad fr st ds=yQ8 (evV c.gl fr x) λx=>tupV x λvs=>yQ8 (vs[i]?) λy=>finK dst K ad fr (.val y) st ds:=(rfl)
@[go_sem ↓] theorem uQx (D:Array Operand)(E:Array TypeId):vcOp c dst (.call ⟨.value x,D,E⟩) K ad fr st ds=xZ2 c.esc c.pf x (evL c.gl fr D.toList) (finK dst K ad fr) st ds (yQ8 (evV c.gl fr x) λf=>fnV f λf first A=>yQ8 (evL c.gl fr D.toList) λD =>
 callV c.P c.gl f first A D st (zWe (finK dst K ad fr) ds)):=(rfl)
@[go_sem ↓] theorem vJs (esc:List Nat)(pf:FuncId->List IV->Option IV)(g:FuncId)(D:Option (List IV))(A:Prop):xZ2 esc pf (.func g) D R st ds A=if g+1000000∈esc then yQ8 D λD=>yQ8 (pf g D) λv=>R (.val v) st ds else A:=(rfl)
@[go_sem ↓] theorem vWw (esc:List Nat)(pf:FuncId->List IV->Option IV)(t:Nat)(D:Option (List IV))(A:Prop):xZ2 esc pf (.tmp t) D R st ds A=A:=(rfl)
@[go_sem ↓] theorem kZ5:vcOp c dst (.call ⟨.builtin .len,⟨[x]⟩,⟨[T]⟩⟩) K ad fr st ds=yQ8 (lenI c.P T) λk=>yQ8 (evV c.gl fr x) λx=>lenV c.dr k x (finK dst K ad fr) st ds:=(rfl)
@[go_sem ↓] theorem vK5:vcOp c dst (.call ⟨.builtin .append,⟨[x,y]⟩,⟨[T,T']⟩⟩) K ad fr st ds=yQ8 (slI c.P T) λe=>appK (lenI c.P T') (intK c.P T')
   (yQ8 (evV c.gl fr x) λs=>slY s (λA D=>yQ8 (evV c.gl fr y) λy=>slV y λ_ ys=>appV c.esc dst e A D ys (finK dst K ad fr) st ds) (λb off n cap=>yQ8 (evV c.gl fr y) λy=>slV y λ_ ys=>qO c.esc dst (appO e b off n cap ys (finK dst K ad fr) st ds)))
   (yQ8 (evV c.gl fr x) λs=>slV s λA _=>yQ8 (evV c.gl fr y) λy=>intV y λ_ m=>appZ e A m (finK dst K ad fr) st ds):=(rfl)
@[go_sem ↓] theorem kZ6:vcOp c dst (.call ⟨.builtin .cap,⟨[x]⟩,⟨[T]⟩⟩) K ad fr st ds=yQ8 (slI c.P T) λ_=>yQ8 (evV c.gl fr x) λx=>capV x (finK dst K ad fr) st ds:=(rfl)
@[go_sem ↓] theorem vYz:vcOp c dst (.call ⟨.builtin .clear,⟨[x]⟩,⟨[T]⟩⟩) K ad fr st ds=yQ8 (slI c.P T) λe=>yQ8 (yKl c.P e.1) λ_=>yQ8 (evV c.gl fr x) λx=>zGv e x (finK dst K ad fr) st ds:=(rfl)
@[go_sem ↓] theorem wGs:vcOp c dst (.makeSlice T x y) K ad fr st ds=yQ8 (slI c.P T) λe=>yQ8 (evV c.gl fr x) λl=>intV l λ_ p=>yQ8 (evV c.gl fr y) λm=>intV m λ_ q=>xVf c.esc dst e p q (finK dst K ad fr) st ds:=(rfl)
@[go_sem ↓] theorem kZ4 (A:Array TypeId):vcOp c dst (.call ⟨.builtin .max,⟨[x,y]⟩,A⟩) K ad fr st ds=yQ8 (evV c.gl fr x) λx=>yQ8 (evV c.gl fr y) λy=>intV x λk a=>intV y λD b =>
 if k=D then finK dst K ad fr (.val (.raw (.int k (max a b)))) st ds else False:=(rfl)
@[go_sem ↓] theorem kZ3 (A:Array TypeId):vcOp c dst (.call ⟨.builtin .min,⟨[x,y]⟩,A⟩) K ad fr st ds=yQ8 (evV c.gl fr x) λx=>yQ8 (evV c.gl fr y) λy=>intV x λk a=>intV y λD b =>
 if k=D then finK dst K ad fr (.val (.raw (.int k (min a b)))) st ds else False:=(rfl)
@[go_sem ↓] theorem vYy (D:Array Operand)(E:Array TypeId):vcOp c dst (.defer ⟨.value x,D,E⟩) K ad fr st ds=if c.rd=true then False else yQ8 (evV c.gl fr x) λf=>fnV f λf first A =>
 yQ8 (evL c.gl fr D.toList) λD=>finK dst K ad fr .nop st (.call f A (first++D)::ds):=(rfl)
@[go_sem ↓] theorem vQ5:vcOp c dst (.nilCheck x) K ad fr st ds=nilV (evV c.gl fr x) (evA c.gl ad fr x) c.dr (finK dst K ad fr) st ds:=(rfl)
end
def yWc (fr:Fr)(d:Nat)(A:Bool)(s:SV)(D:Fr->Prop)(skip:Fr->Prop)(_:Lock D)(_:Lock skip):Prop :=
 match s with
 | .iv (.raw (.bool b))=>(b=A->Hold true (D (fr.put d (.iv (.raw (.bool A))))))/\(b=!A->Hold true (skip (fr.put d (.iv (.raw (.bool !A))))))
 | .iv (.raw (.tuple _))=>Hold true (skip fr)
 | _=>False
@[go_sem] theorem vVq (fr:Fr)(d:Nat)(A:Bool)(D skip:Fr->Prop)(k:Lock D)(l:Lock skip):yWc fr d A (.iv (.raw undef)) D skip k l=Hold true (skip fr):=(rfl)
@[congr] theorem wUl (fr:Fr)(d:Nat)(A:Bool){s s':SV}(D skip:Fr->Prop)(k:Lock D)(l:Lock skip)(h:s=s'):yWc fr d A s D skip k l=yWc fr d A s' D skip k l:=by rw[h]
theorem xJe (fr:Fr)(d:Nat)(A b:Bool)(E skip:Fr->Prop)(k:Lock E)(l:Lock skip)(F:fr d=.iv (.raw (.bool b))) :
  yWc fr d A (.iv (.raw (.bool b))) E skip k l=((b=A->E fr)/\(b=!A->skip fr)):=by
 have D:fr.put d (.iv (.raw (.bool b)))=fr:=by
  funext s;rw[Fr.put_apply];split
  ·rename_i h;rw[h,F]
  ·rfl
 unfold yWc Hold;by_cases h:b=A
 ·subst h;simp[D]
 ·have:b=!A:=by cases b<;>cases A<;>simp_all
  subst this;simp[D]
def yK5 (c:Cf)(ops:List Oper):List Oper->(Fr->ISt->List Dfd->Prop)->Kt
 | [],Q,_,fr,st,ds=>Q fr st ds
 | o::rest,Q,ad,fr,st,ds =>
  match o.guard with
  | none=>vcOp c o.dst o.op (yK5 c ops rest Q) ad fr st ds
  | some (j,A)=>match (ops[j]?).bind (·.dst) with
   | some d=>yWc fr d A (fr d) (λfr=>vcOp c o.dst o.op (yK5 c ops rest Q) ad fr st ds) (λfr=>finK o.dst (yK5 c ops rest Q) ad fr (.val (.raw undef)) st ds) .mk .mk
   | none=>False
@[go_sem ↓] theorem vK6 (c:Cf)(ops:List Oper)(Q:Fr->ISt->List Dfd->Prop)(ad:Ad)(fr:Fr)(st:ISt)(ds:List Dfd):yK5 c ops [] Q ad fr st ds=Q fr st ds:=(rfl)
@[go_sem ↓] theorem vXy (c:Cf)(ops rest:List Oper)(dst:Option Nat)(op:Op)(D:TypeId)(pos:String)(A:Array Edge)(Q:Fr->ISt->List Dfd->Prop)(ad:Ad)(fr:Fr)(st:ISt)
  (ds:List Dfd):yK5 c ops (⟨dst,op,D,pos,A,none⟩::rest) Q ad fr st ds=vcOp c dst op (yK5 c ops rest Q) ad fr st ds:=(rfl)
def yWk (ops:List Oper)(j:Nat):Option Nat:=(ops[j]?).bind (·.dst)
@[go_sem ↓] theorem vJm (o:Oper)(ops:List Oper):yWk (o::ops) 0=o.dst:=(rfl)
@[go_sem ↓] theorem vJn (o:Oper)(ops:List Oper)(j:Nat):yWk (o::ops) (j+1)=yWk ops j:=by simp[yWk]
@[go_sem ↓] theorem vQ7 (c:Cf)(ops rest:List Oper)(dst:Option Nat)(op:Op)(E:TypeId)(pos:String)(D:Array Edge)(j:Nat)(A:Bool)(Q:Fr->ISt->List Dfd->Prop)(ad:Ad)
  (fr:Fr) (st:ISt) (ds:List Dfd):yK5 c ops (⟨dst,op,E,pos,D,some (j,A)⟩::rest) Q ad fr st ds =
   yQ8 (yWk ops j) λd=>yWc fr d A (fr d) (λfr=>vcOp c dst op (yK5 c ops rest Q) ad fr st ds) (λfr=>finK dst (yK5 c ops rest Q) ad fr (.val (.raw undef)) st ds) .mk .mk:=by
 simp only[yK5,yWk];cases (ops[j]?).bind (·.dst)<;>rfl
@[go_sem] theorem vZy (fr:Fr)(d:Nat)(A:Bool)(D skip:Fr->Prop)(k:Lock D)(l:Lock skip):yWc fr d A (.iv (.raw (.bool A))) D skip k l=Hold true (D (fr.put d (.iv (.raw (.bool A))))):=by
 unfold yWc;cases A<;>simp[Hold]
abbrev Kc:=Exit->Fr->ISt->List Dfd->Prop
def vVf (J:Nat->Fr->ISt->List Dfd->Prop)(m:Nat)(Q:Kc):Kc
 | .normal,fr,st,ds=>∃A,A<m/\J A fr st ds
 | e,fr,st,ds=>Q e fr st ds
def LoopV (body:Fr->ISt->List Dfd->(Kc)->Prop)(Q:Kc)(fr:Fr)(st:ISt)(ds:List Dfd)(_:Lock body)(_:Lock Q):Prop :=
 ∃J:Nat->Fr->ISt->List Dfd->Prop,(∃m,J m fr st ds)/\∀m fr' st' A,J m fr' st' A->body fr' st' A (vVf J m Q)
def seqK (k:Fr->ISt->List Dfd->Prop)(Q:Kc):Kc
 | .normal,fr,st,ds=>k fr st ds
 | e,fr,st,ds=>Q e fr st ds
def zWg (id:Nat)(Q:Kc):Kc
 | .exit id',fr,st,ds=>if id'=id then Q .normal fr st ds else Q (.exit id') fr st ds
 | e,fr,st,ds=>Q e fr st ds
def wX0 (Q:Kc):Kc
 | .goto _,_,_,_=>False
 | e,fr,st,ds=>Q e fr st ds
