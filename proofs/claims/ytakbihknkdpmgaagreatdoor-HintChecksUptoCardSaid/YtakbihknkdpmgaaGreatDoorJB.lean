/- The layer of ideal values, part D: the c -/
import Derived.Test.YtakbihknkdpmgaaGreatDoorJA
set_option linter.all false
namespace Go.Iv
open Go
def ends (C:Cx)(X:WS)(K:IV->ISt->Prop)(v:Value)(w':World):Prop :=
 ∃X' x,X'.w=w'/\Good C X'/\Ext X X'/\C.v X' v x/\K x X'.st
def ICall (P:Program)(gl:Nat->Option IV)(f:FuncId)(args:List IV)(st:ISt)(K:IV->ISt->Prop):Prop :=
 ∀(B:Nat) (X:WS) (rs:List Value),Good ⟨P,gl,B⟩ X->X.st=st->Cx.vl ⟨P,gl,B⟩ X rs args →
  Calls P f ⟨rs⟩ X.w λe w'=>∃v,e=.returned v/\ends ⟨P,gl,B⟩ X K v w'
@[congr] def Sc {args args':List IV}(P:Program)(gl:Nat->Option IV)(f:FuncId)(st:ISt)(K:IV->ISt->Prop)(h:args=args') :
  ICall P gl f args st K=ICall P gl f args' st K:=by rw[h]
def CallsVal (P:Program)(fv:Value)(rs:Array Value)(w:World)(R:Value->World->Prop):Prop :=
 match (do let d <- Deferred.ofValue fv rs;invoke d.target d.args:Sem Next).run P w with
 | .ok (.enter f args) w'=>w'=w/\Calls P f args w λe A=>∃v,e=.returned v/\R v A
 | .ok (.round l f tmps assign body) w'=>w'=w/\RoundIn Fence.wide 0 P l f tmps assign body w λe A=>∃v,e=.returned v/\R v A
 | _=>False
def ICallV (P:Program)(gl:Nat->Option IV)(f:IV)(args:List IV)(st:ISt)(K:IV->ISt->Prop):Prop :=
 ∀(B:Nat) (X:WS) (fv:Value) (rs:List Value),Good ⟨P,gl,B⟩ X->X.st=st->Cx.v ⟨P,gl,B⟩ X fv f->Cx.vl ⟨P,gl,B⟩ X rs args →
  CallsVal P fv ⟨rs⟩ X.w (ends ⟨P,gl,B⟩ X K)
def vI {C:Cx}{X:WS}{K K':IV->ISt->Prop}{v:Value}{w':World}(h:ends C X K v w')(A:∀x st,K x st->K' x st):ends C X K' v w':=by
 obtain⟨X',x,h1,h2,G,E,D⟩:=h;exact⟨X',x,h1,h2,G,E,A _ _ D⟩
def ICall.mono {P:Program}{gl:Nat->Option IV}{f:FuncId}{args:List IV}{st:ISt}{K K':IV->ISt->Prop}(h:ICall P gl f args st K)(D:∀x st,K x st->K' x st) :
  ICall P gl f args st K':=λB X rs E hst hv=>(h B X rs E hst hv).mono λe w' A=>by
 obtain⟨v,A,h⟩:=A;exact⟨v,A,vI h D⟩
def ICall.q{P:Program}{gl:Nat→Option IV}{f:FuncId}{args:List IV}{st s:ISt}{r:IV}{K:IV→ISt→Prop}(h:ICall P gl f args st (λx y=>x=r/\y=s))(k:K r s):ICall P gl f args st K:=h.mono (by rintro _ _ ⟨rfl,rfl⟩;exact k)
def CallsVal.mono {P:Program}{fv:Value}{rs:Array Value}{w:World}{R R':Value->World->Prop}(h:CallsVal P fv rs w R)(E:∀v w',R v w'->R' v w'):CallsVal P fv rs w R':=by
 unfold CallsVal at *;generalize (do let d <- Deferred.ofValue fv rs;invoke d.target d.args:Sem Next).run P w=r at *;cases r with
 | halt x w'=>exact h
 | ok n w' =>
  cases n<;>first
   | exact h
   | exact⟨h.1,h.2.mono λe D A=>by obtain⟨v,A,G⟩:=A;exact⟨v,A,E _ _ G⟩⟩
def ICallV.mono {P:Program}{gl:Nat->Option IV}{f:IV}{args:List IV}{st:ISt}{K K':IV->ISt->Prop}(h:ICallV P gl f args st K)(A:∀x st,K x st->K' x st) :
  ICallV P gl f args st K':=λB X fv rs D hst E hv=>(h B X fv rs D hst E hv).mono λ_ _ G=>vI G A
def callV (P:Program)(gl:Nat->Option IV)(f:Fn)(first A args:List IV)(st:ISt)(K:IV->ISt->Prop):Prop :=
 match f with
 | .func g=>if entI P g=true then ICall P gl g (first++args++A) st K else False
 | f=>ICallV P gl (.fn f first A) args st K
@[congr] def Sd {args args':List IV}(P:Program)(gl:Nat->Option IV)(f:Fn)(first A:List IV)(st:ISt)(K:IV->ISt->Prop)(h:args=args') :
  callV P gl f first A args st K=callV P gl f first A args' st K:=by rw[h]
@[go_sem] def Se (P:Program)(gl:Nat->Option IV)(g:FuncId)(first A args:List IV)(st:ISt)(K:IV->ISt->Prop) :
  callV P gl (.func g) first A args st K=if entI P g=true then ICall P gl g (first++args++A) st K else False:=(rfl)
def callV.mono {P:Program}{gl:Nat->Option IV}{f:Fn}{first A args:List IV}{st:ISt}{K K':IV->ISt->Prop}(h:callV P gl f first A args st K)
  (D:∀x st,K x st->K' x st):callV P gl f first A args st K':=by
 unfold callV at *;split at h
 ·split at h
  ·rename_i E;rw[cV E];exact h.mono D
  ·exact h.elim
 ·exact h.mono D
structure Cf where
 P:Program
 gl:Nat->Option IV
 esc:List Nat
 /-- in a round of a range over a function -/
 rd:Bool
 /-- in a region that draws its order -/
 dr:Bool
 /-- regions that are gone through in another order than the text's -/
 ord:List (Nat×List Nat):=[]
 /-- slots of boxes that are never written again -/
 frz:List Nat:=[]
 /-- functions whose number, and a million, is among 'esc': what they hand back, whatever is owned -/
 pf:FuncId->List IV->Option IV:=λ_ _=>none
 pok:∀g aL v,pf g aL=some v->entI P g=true/\∀st,ICall P gl g aL st (λr st'=>r=v/\st'=st):=by intro _ _ _ h;exact nomatch h
abbrev Cf.cx (c:Cf)(B:Nat):Cx:={ P:=c.P,gl:=c.gl,B:=B }
def boxV:SV->(List IV->Prop)->Prop
 | .box cs,f=>f cs
 | _,_=>False
@[congr] def Sf {s s':SV}(f:List IV->Prop)(h:s=s'):boxV s f=boxV s' f:=by rw[h]
@[go_sem] def Sg (cs:List IV)(f:List IV->Prop):boxV (.box cs) f=f cs:=(rfl)
def obV:IObj->(List IV->Prop)->Prop
 | .box cs,f=>f cs
 | _,_=>False
@[go_sem] def Sh (cs:List IV)(f:List IV->Prop):obV (.box cs) f=f cs:=(rfl)
def omV:IObj->(KeyK->List (Value×IV)->Prop)->Prop
 | .map k es,f=>f k es
 | _,_=>False
@[go_sem] def Si (k:KeyK)(cs:List (Value×IV))(f:KeyK->List (Value×IV)->Prop):omV (.map k cs) f=f k cs:=(rfl)
def intV:IV->(IntKind->Int->Prop)->Prop
 | .raw (.int k n),f=>f k n
 | _,_=>False
@[go_sem] def Sj (k:IntKind)(n:Int)(f:IntKind->Int->Prop):intV (.raw (.int k n)) f=f k n:=(rfl)
def kR:IV->(Bool->Prop)->Prop
 | .raw (.bool b),f=>f b
 | _,_=>False
@[go_sem] def Sk (b:Bool)(f:Bool->Prop):kR (.raw (.bool b)) f=f b:=(rfl)
def slV:IV->(Tag->List IV->Prop)->Prop
 | .sl t A,f=>f t A
 | _,_=>False
@[go_sem] def Sl (t:Tag)(A:List IV)(f:Tag->List IV->Prop):slV (.sl t A) f=f t A:=(rfl)
def slX:IV->(Tag->List IV->Prop)->(Nat->Nat->Nat->Prop)->Prop
 | .sl t A,f,_=>f t A
 | .raw (.slice (some ⟨b,off,none⟩) n _),_,g=>g b off n
 | _,_,_=>False
@[go_sem] def Sr (t:Tag)(A:List IV)(f:Tag->List IV->Prop)(g:Nat->Nat->Nat->Prop):slX (.sl t A) f g=f t A:=(rfl)
@[go_sem] def St (b off n cap:Nat)(f:Tag->List IV->Prop)(g:Nat->Nat->Nat->Prop):slX (.raw (.slice (some ⟨b,off,none⟩) n cap)) f g=g b off n:=(rfl)
def slY:IV->(Tag->List IV->Prop)->(Nat->Nat->Nat->Nat->Prop)->Prop
 | .sl t A,f,_=>f t A
 | .raw (.slice (some ⟨b,off,none⟩) n cap),_,g=>g b off n cap
 | _,_,_=>False
@[go_sem] def Su (t:Tag)(A:List IV)(f:Tag->List IV->Prop)(g:Nat->Nat->Nat->Nat->Prop):slY (.sl t A) f g=f t A:=(rfl)
@[go_sem] def Sv (b off n cap:Nat)(f:Tag->List IV->Prop)(g:Nat->Nat->Nat->Nat->Prop):slY (.raw (.slice (some ⟨b,off,none⟩) n cap)) f g=g b off n cap:=(rfl)
def aggV:IV->(List IV->Prop)->Prop
 | .agg A,f=>f A
 | _,_=>False
@[go_sem] def Sw (A:List IV)(f:List IV->Prop):aggV (.agg A) f=f A:=(rfl)
def tupV:IV->(List IV->Prop)->Prop
 | .tup A,f=>f A
 | _,_=>False
@[go_sem] def Sx (A:List IV)(f:List IV->Prop):tupV (.tup A) f=f A:=(rfl)
def fnV:IV->(Fn->List IV->List IV->Prop)->Prop
 | .fn g a b,f=>f g a b
 | _,_=>False
@[go_sem] def Sy (g:Fn)(a b:List IV)(f:Fn->List IV->List IV->Prop):fnV (.fn g a b) f=f g a b:=(rfl)
def mapV:IV->(Option Nat->Prop)->Prop
 | .raw (.map m),f=>f m
 | _,_=>False
@[go_sem] def Sz (m:Option Nat)(f:Option Nat->Prop):mapV (.raw (.map m)) f=f m:=(rfl)
def rawV:IV->(Value->Prop)->Prop
 | .raw v,f=>f v
 | _,_=>False
def keyV:IV->(Value->Prop)->Prop
 | .raw v,f=>f v
 | .agg [.raw (.string s),.raw (.int k n)],f=>giv (s.size<=281474976710656) (f (.agg #[.string s,.int k n]))
 | .agg [.raw (.bool b),.raw (.int k n)],f=>f (.agg #[.bool b,.int k n])
 | .agg [.raw (.int k n),.raw (.bool b)],f=>f (.agg #[.int k n,.bool b])
 | _,_=>False
@[go_sem] def SA (v:Value)(f:Value->Prop):keyV (.raw v) f=f v:=(rfl)
@[go_sem] def SB (b:Bool)(k:IntKind)(n:Int)(f:Value->Prop):keyV (.agg [.raw (.int k n),.raw (.bool b)]) f=f (.agg #[.int k n,.bool b]):=(rfl)
def adrV:IV->(Nat->Prop)->Prop
 | .raw (.pointer (some ⟨b,0,none⟩)),f=>f b
 | _,_=>False
def itO:IObj->(Nat->Nat->Array Nat->Nat->Prop)->Prop
 | .iter m s e c,f=>f m s e c
 | _,_=>False
def mxO:IObj->(Array MapEntry->Nat->Prop)->Prop
 | .mapx e c,f=>f e c
 | _,_=>False
def nxR (A:Array MapEntry)(seen:Array Nat)(p:Prop)(q:MapEntry->IV->Prop)(_:Lock p)(_:Lock q):Prop:=(sK A seen=[]->p)/\∀e∈sK A seen,∀k,keyI e.key=some k->q e k
inductive PR where
 | val (x:IV)
 | adr (t off:Nat)
 | box (cs:List IV)
 | sto (t:Nat) (cs:List IV)
 | nop
abbrev Rt:=PR->ISt->List Dfd->Prop
abbrev Kt:=Ad->Fr->ISt->List Dfd->Prop
def finK (dst:Option Nat)(K:Kt)(ad:Ad)(fr:Fr):Rt
 | .val x,st,ds=>match dst with
  | some d=>K (ad.put d none) (fr.put d (.iv x)) st ds
  | none=>K ad fr st ds
 | .adr t off,st,ds=>match dst with
  | some d=>if d=t then False else K (ad.put d (some (t,off))) (fr.put d (.iv .junk)) st ds
  | none=>K ad fr st ds
 | .box cs,st,ds=>match dst with
  | some d=>K (ad.put d none) (fr.put d (.box cs)) st ds
  | none=>False
 | .sto t cs,st,ds=>match dst with
  | some _=>False
  | none=>K ad (fr.put t (.box cs)) st ds
 | .nop,st,ds=>match dst with
  | some _=>False
  | none=>K ad fr st ds
def plR (p:Pl)(R:Rt)(st:ISt)(ds:List Dfd):Prop :=
 match p with
 | .box t off=>R (.adr t off) st ds
 | .ptr b off=>R (.val (.raw (.pointer (some ⟨b,off,none⟩)))) st ds
 | .cp x=>R (.val (.cptr x)) st ds
def kS (esc:List Nat)(dst:Option Nat)(cs:List IV)(R:Rt)(st:ISt)(ds:List Dfd):Prop :=
 match dst with
 | some d=>if d∈esc then ∀b,giv (st b=none) (R (.val (.raw (.pointer (some ⟨b,0,none⟩)))) (st.put b (some (.box cs))) ds) else R (.box cs) st ds
 | none=>False
def mA (frz esc:List Nat)(dst:Option Nat)(y:IV)(R:Rt)(st:ISt)(ds:List Dfd):Prop :=
 match dst with
 | some d=>if d∈frz then R (.val (.cptr y)) st ds else kS esc (some d) y.cells R st ds
 | none=>False
def gO (esc:List Nat):Option Nat->Bool
 | some d=>esc.contains d
 | none=>false
def mB (esc:List Nat)(dst:Option Nat)(es:Nat)(ys:List IV)(R:Rt)(st:ISt)(ds:List Dfd):Prop :=
 if gO esc dst=true then ∀b,giv (st b=none) (R (.val (.raw (.slice (some ⟨b,0,none⟩) ys.length ys.length))) (st.put b (some (.box (ys.flatMap IV.cells)))) ds)
 else R (.val (.sl ⟨true,.full,es⟩ ys)) st ds
def kA (dr:Bool)(o:Option IV)(p:Option Pl)(R:Rt)(st:ISt)(ds:List Dfd):Prop :=
 match o with
 | some x=>R (.val x) st ds
 | none=>if dr=true then False else dp p λp=>plR p R st ds
@[congr] def SC {o o':Option IV}(dr:Bool)(p:Option Pl)(R:Rt)(st:ISt)(ds:List Dfd)(h:o=o'):kA dr o p R st ds=kA dr o' p R st ds:=by rw[h]
def ldr (dr:Bool)(esc:List Nat)(dst:Option Nat):Bool:=dr&&!gO esc dst
@[go_sem] def SD (dr:Bool)(esc:List Nat)(d:Nat):ldr dr esc (some d)=if d∈esc then false else dr:=by
 unfold ldr gO;by_cases h:d∈esc<;>simp[h]
def jT (dr ag:Bool)(n:Nat)(p:Pl)(fr:Fr)(R:Rt)(st:ISt)(ds:List Dfd):Prop :=
 match p with
 | .box t off=>boxV (fr t) λcs=>dp (gr ag n cs off) λy=>R (.val y) st ds
 | .ptr b off=>if dr=true then False else dp (st b) λo=>obV o λcs=>dp (gr ag n cs off) λy=>R (.val y) st ds
 | .cp y=>if fits ag n y=true then R (.val y) st ds else False
def lx (y:List IV)(p:Pl)(fr:Fr)(R:Rt)(st:ISt)(ds:List Dfd):Prop :=
 match p with
 | .box t off=>boxV (fr t) λcs=>if off+y.length<=cs.length then R (.sto t (fB cs off y)) st ds else False
 | .ptr b off=>dp (st b) λo=>obV o λcs=>if off+y.length<=cs.length then R .nop (st.put b (some (.box (fB cs off y)))) ds else False
 | .cp _=>False
def ns (f:Nat×Bool×Nat)(p:Pl)(R:Rt)(st:ISt)(ds:List Dfd):Prop :=
 match p with
 | .box t off=>R (.adr t (off+f.1)) st ds
 | .ptr b off=>R (.val (.raw (.pointer (some ⟨b,off+f.1,none⟩)))) st ds
 | .cp x=>aggV x λcs=>dp (gr f.2.1 f.2.2 cs f.1) λy=>if fits f.2.1 f.2.2 y=true then R (.val (.cptr y)) st ds else False
def ou (len:Nat)(ag:Bool)(n j:Nat)(p:Pl)(R:Rt)(st:ISt)(ds:List Dfd):Prop :=
 if j<len then match p with
  | .box t off=>R (.adr t (off+j*n)) st ds
  | .ptr b off=>R (.val (.raw (.pointer (some ⟨b,off+j*n,none⟩)))) st ds
  | .cp x=>aggV x λcs=>dp (gr ag n cs (j*n)) λy=>if fits ag n y=true then R (.val (.cptr y)) st ds else False
 else False
def gz (P:Program)(T:TypeId):Bool :=
 match P.underlying T with
 | some (.struct A)=>A.toList.all λf=>(P.info? f.type).isSome
 | some (.array _ e)=>(P.info? e).isSome
 | _=>false
def orO {α:Type}:Option α->Option α->Option α
 | some a,_=>some a
 | none,b=>b
def bfI (P:Program)(T:TypeId)(i:Nat):Option (Nat×Bool×Nat):=orO (fldI P T i) ((arrI P T).map λe=>(i*e.2.2,e.2))
def kB:Nat->List (Nat×Operand)->Bool
 | n,l=>(l.map (·.1)) == List.range n
def kC (P:Program)(gl:Nat->Option IV)(fr:Fr)(T:TypeId):List IV->List (Nat×Operand)->Option (List IV)
 | cs,[]=>some cs
 | cs,(i,x)::l=>match bfI P T i,evV gl fr x with
  | some f,some y=>if y.cells.length=f.2.2/\f.1+y.cells.length<=cs.length/\fits f.2.1 f.2.2 y=true then kC P gl fr T (fB cs f.1 y.cells) l else none
  | _,_=>none
def oZ (P:Program)(gl:Nat->Option IV)(fr:Fr)(T:TypeId)(cs:List IV)(l:List (Nat×Operand)):Option (Nat×Bool×Nat)->Option IV->Option (List IV)
 | some f,some y=>if y.cells.length=f.2.2/\f.1+y.cells.length<=cs.length/\fits f.2.1 f.2.2 y=true then kC P gl fr T (fB cs f.1 y.cells) l else none
 | _,_=>none
inductive LenK where
 | str|sl|map|arr (n:Nat)
def lenI (P:Program)(T:TypeId):Option LenK :=
 match P.underlying T with
 | some .string=>some .str
 | some (.slice _)=>some .sl
 | some (.map _ _)=>some .map
 | some (.array n _)=>some (.arr n)
 | _=>none
def lenV (dr:Bool)(k:LenK)(x:IV)(R:Rt)(st:ISt)(ds:List Dfd):Prop :=
 match k with
 | .str=>rawV x λv=>match v with
  | .string s=>(dr=false->s.size<=281474976710656)->R (.val (.raw (.int .i64 s.size))) st ds
  | _=>False
 | .sl=>slX x (λ_ A=>(dr=false->A.length<=140737488355328)->R (.val (.raw (.int .i64 A.length))) st ds) (λ_ _ n=>R (.val (.raw (.int .i64 n))) st ds)
 | .map=>if dr=true then False else mapV x λm=>match m with
  | none=>R (.val (.raw (.int .i64 0))) st ds
  | some b=>dp (st b) λo=>omV o λ_ es=>R (.val (.raw (.int .i64 es.length))) st ds
 | .arr n=>R (.val (.raw (.int .i64 n))) st ds
def appV (esc:List Nat)(dst:Option Nat)(e:TypeId×Bool×Nat×Nat)(D:Tag)(A ys:List IV)(R:Rt)(st:ISt)(ds:List Dfd):Prop :=
 chk (ys.all (fits e.2.1 e.2.2.1)=true) <| chk ((A.length+ys.length)*e.2.2.2<=140737488355328/\A.length+ys.length<=140737488355328) <|
  match D.cap with
  | .nil=>match ys with
   | []=>R (.val (.sl D A)) st ds
   | _=>if gO esc dst=true then ∀g cap,giv (st g=none/\ys.length<=cap) (R (.val (.raw (.slice (some ⟨g,0,none⟩) ys.length cap))) (st.put g (some (.box (ys.flatMap IV.cells++List.replicate ((cap-ys.length)*e.2.2.1) .junk)))) ds)
    else ∀g,giv (st g=none) (R (.val (.sl ⟨true,.app g,e.2.2.1⟩ ys)) (st.put g (some (.front ys.length e.2.2.1))) ds)
  | .full=>chk (D.es=e.2.2.1) <| match ys with
   | []=>R (.val (.sl D A)) st ds
   | _=>∀g,giv (st g=none) (R (.val (.sl ⟨true,.app g,e.2.2.1⟩ (A++ys))) (st.put g (some (.front (A.length+ys.length) e.2.2.1))) ds)
  | .app g₀=>chk (D.es=e.2.2.1) <| chk (st g₀=some (.front A.length e.2.2.1)) <|
   ∀g,giv (g=g₀\/st g=none) (R (.val (.sl ⟨D.fresh,.app g,e.2.2.1⟩ (A++ys))) ((st.put g₀ none).put g (some (.front (A.length+ys.length) e.2.2.1))) ds)
  | .none=>match ys with
   | []=>R (.val (.sl D A)) st ds
   | _=>False
def appO (e:TypeId×Bool×Nat×Nat)(b off n cap:Nat)(ys:List IV)(R:Rt)(st:ISt)(ds:List Dfd):Prop :=
 chk (off=0/\ys.all (fits e.2.1 e.2.2.1)=true) <| chk ((n+ys.length)*e.2.2.2<=140737488355328/\n+ys.length<=140737488355328) <| dp (st b) λo=>obV o λcs=>chk (n<=cap/\cap*e.2.2.1<=cs.length) <|
  jb (decide (n+ys.length<=cap)) (R (.val (.raw (.slice (some ⟨b,0,none⟩) (n+ys.length) cap))) (st.put b (some (.box (fB cs (n*e.2.2.1) (ys.flatMap IV.cells))))) ds)
   ((∀g A,giv (st g=none/\n+ys.length<=A) (R (.val (.raw (.slice (some ⟨g,0,none⟩) (n+ys.length) A)))
    ((st.put b none).put g (some (.box (cs.take (n*e.2.2.1)++ys.flatMap IV.cells++List.replicate ((A-(n+ys.length))*e.2.2.1) .junk)))) ds)) \/
    ∀g A,giv (st g=none/\n+ys.length<=A) (R (.val (.raw (.slice (some ⟨g,0,none⟩) (n+ys.length) A)))
    (st.put g (some (.box (cs.take (n*e.2.2.1)++ys.flatMap IV.cells++List.replicate ((A-(n+ys.length))*e.2.2.1) .junk)))) ds)) .mk .mk
def qJ (esc:List Nat):Option Nat->Bool
 | some d=>esc.contains (d+2000000)
 | none=>false
def qO (esc:List Nat)(dst:Option Nat)(p:Prop):Prop:=if qJ esc dst=true then False else p
@[go_sem ↓] def SE (esc:List Nat)(d:Nat)(p:Prop):qO esc (some d) p=if d+2000000∈esc then False else p:=by
 unfold qO qJ;by_cases h:d+2000000∈esc<;>simp[h]
def appR (e:TypeId×Bool×Nat×Nat)(b off n cap b2 A D:Nat)(R:Rt)(st:ISt)(ds:List Dfd):Prop :=
 chk (off=0/\b2=b) <| dp (st b) λo=>obV o λcs=>chk (n<=cap/\cap*e.2.2.1<=cs.length/\n+D<=cap/\A+D*e.2.2.1<=cs.length/\((cs.drop A).take (D*e.2.2.1)).all IV.one=true) <|
  R (.val (.raw (.slice (some ⟨b,0,none⟩) (n+D) cap))) (st.put b (some (.box (fB cs (n*e.2.2.1) ((cs.drop A).take (D*e.2.2.1)))))) ds
def appZ (e:TypeId×Bool×Nat×Nat)(A:Tag)(m:Int)(R:Rt)(st:ISt)(ds:List Dfd):Prop :=
 chk (A.cap=.nil/\0<m/\m*e.2.2.2<=140737488355328/\m<=140737488355328/\1<=e.2.2.1) <|
  ∀g cap,giv (st g=none/\m.toNat<=cap) (R (.val (.raw (.slice (some ⟨g,0,none⟩) m.toNat cap))) (st.put g (some (.box (List.replicate (cap*e.2.2.1) .junk)))) ds)
def capV (x:IV)(R:Rt)(st:ISt)(ds:List Dfd):Prop :=
 slY x (λD A=>match D.cap with
  | .nil=>R (.val (.raw (.int .i64 0))) st ds
  | .full=>R (.val (.raw (.int .i64 A.length))) st ds
  | _=>False) (λ_ _ _ cap=>R (.val (.raw (.int .i64 cap))) st ds)
def o_ (e:TypeId×Bool×Nat×Nat)(x:IV)(R:Rt)(st:ISt)(ds:List Dfd):Prop :=
 slY x (λ_ _=>False) λb off n _=>if n=0 then R (.val (.tup [])) st ds else
  dp (st b) λo=>obV o λcs=>if off+n*e.2.2.1<=cs.length then R (.val (.tup [])) (st.put b (some (.box (fB cs off (List.replicate (n*e.2.2.1) .junk))))) ds else False
def lenZ (p:Int):Nat:=p.toNat
@[go_sem] def SF (n:Nat):lenZ (n:Int)=n:=(rfl)
def AS (esc:List Nat):Option Nat->Bool
 | some d=>esc.contains (d+3000000)
 | none=>false
def ov (z:Option IV)(esc:List Nat)(dst:Option Nat)(e:TypeId×Bool×Nat×Nat)(p q:Int)(R:Rt)(st:ISt)(ds:List Dfd):Prop :=
 chk ((p=0\/p=q)/\0<=q/\q*e.2.2.2<=140737488355328/\q<=140737488355328) <|
 if AS esc dst=true then chk (e.2.2.1=1) (dp z λy=>chk (y.one=true) (∀g,giv (st g=none) (R (.val (.raw (.slice (some ⟨g,0,none⟩) (lenZ p) q.toNat))) (st.put g (some (.box (List.replicate q.toNat y)))) ds)))
 else if gO esc dst=true then ∀g,giv (st g=none) (R (.val (.raw (.slice (some ⟨g,0,none⟩) (lenZ p) q.toNat))) (st.put g (some (.box (List.replicate (q.toNat*e.2.2.1) .junk)))) ds)
 else if e.2.2.1=0 then R (.val (.sl ⟨false,.none,0⟩ (List.replicate (lenZ p) (.agg [])))) st ds
 else chk (p=0) (∀g,giv (st g=none) (R (.val (.sl ⟨true,.app g,e.2.2.1⟩ [])) (st.put g (some (.front 0 e.2.2.1))) ds))
def fT (D A:Option Int)(len:Nat):Option (Nat×Nat) :=
 if 0<=D.getD 0/\D.getD 0<=A.getD len/\A.getD len<=len then some ((D.getD 0).toNat,(A.getD len).toNat) else none
def intI:Option IV->Option (Option Int)
 | some (.raw (.int _ n))=>some (some n)
 | _=>none
def iJ (gl:Nat->Option IV)(fr:Fr):Option Operand->Option (Option Int)
 | none=>some none
 | some x=>intI (evV gl fr x)
@[go_sem ↓] def SG (gl:Nat->Option IV)(fr:Fr):iJ gl fr none=some none:=(rfl)
@[go_sem ↓] def Ic (gl:Nat->Option IV)(fr:Fr)(x:Operand):iJ gl fr (some x)=intI (evV gl fr x):=(rfl)
@[go_sem] def SH (k:IntKind)(n:Int):intI (some (.raw (.int k n)))=some (some n):=(rfl)
def reTag (es:Nat)(t:Tag):Tag:=match t.cap with|.nil=>⟨t.fresh,.nil,es⟩|_=>t
def okEs (t:Tag)(es:Nat):Prop:=t.cap=.nil\/t.es=es
@[go_sem] def SI (f:Bool)(c:Cap)(es:Nat):okEs ⟨f,c,es⟩ es=True:=by simp[okEs]
@[go_sem] def SJ (f:Bool)(e es:Nat):okEs ⟨f,.nil,e⟩ es=True:=by simp[okEs]
def dz {t:Tag}{es:Nat}(h:okEs t es):(reTag es t).es=es:=by
 unfold reTag;split
 ·rfl
 ·rename_i A;exact h.resolve_left A
@[go_sem] def SK (f:Bool)(e es:Nat):reTag es ⟨f,.nil,e⟩=⟨f,.nil,es⟩:=(rfl)
@[go_sem] def SL (f:Bool)(e es g:Nat):reTag es ⟨f,.app g,e⟩=⟨f,.app g,e⟩:=(rfl)
def jm (A:Tag)(len h:Nat)(l:Nat)(max:Option Int):Tag :=
 if A.cap=.nil then A else match max with
 | some m=>if m=h then ⟨A.fresh,.full,A.es⟩ else ⟨A.fresh,.none,A.es⟩
 | none=>if l=0/\h=len then A else ⟨A.fresh,.none,A.es⟩
def arrV (ar:Option (Nat×Bool×Nat))(x:IV)(D A max:Option Int)(len:Nat)(R:Rt)(st:ISt)(ds:List Dfd):Prop :=
 match x,D,max with
 | .cptr (.agg cs),none,none=>dp ar λ_=>chk (cs.length=len/\len<=140737488355328/\cs.all IV.one=true) (dp (fT none A len) λp=>R (.val (.sl ⟨false,.none,1⟩ (cs.take p.2))) st ds)
 | _,_,_=>False
def kD (k:LenK)(s:Option (TypeId×Bool×Nat×Nat))(ar:Option (Nat×Bool×Nat))(x:IV)(A high max:Option Int)(R:Rt)(st:ISt)(ds:List Dfd):Prop :=
 match k with
 | .str=>rawV x λv=>match v with
  | .string s=>match max with
   | none=>dp (fT A high s.size) λp=>R (.val (.raw (.string (s.extract p.1 p.2)))) st ds
   | some _=>False
  | _=>False
 | .sl=>dp s λs=>slY x (λE D=>chk ((reTag s.2.2.1 E).es=s.2.2.1) <| match high,max with
  | none,some _=>False
  | high,max=>dp (fT A high D.length) λp=>chk (∀m,max=some m->m=p.2) (R (.val (.sl (jm (reTag s.2.2.1 E) D.length p.2 p.1 max) ((D.drop p.1).take (p.2-p.1)))) st ds))
  (λb off n cap=>match max with
  | some _=>False
  | none=>chk (n<=cap) <| dp (fT A high (if high=none then n else cap)) λp=>R (.val (.raw (.slice (some ⟨b,if cap=p.1 then off else off+p.1*s.2.2.1,none⟩) (p.2-p.1) (cap-p.1)))) st ds)
 | .arr len=>arrV ar x A high max len R st ds
 | .map=>False
def nt (s:ByteArray)(j:Int):Option UInt8:=if 0<=j then s[j.toNat]? else none
def nu (k:LenK)(e:Option (Nat×Bool×Nat))(x:IV)(j:Int)(R:Rt)(st:ISt)(ds:List Dfd):Prop :=
 match k with
 | .str=>rawV x λv=>match v with
  | .string s=>dp (nt s j) λb=>R (.val (.raw (.int .u8 b.toNat))) st ds
  | _=>False
 | .arr len=>aggV x λcs=>dp e λe=>if 0<=j/\j<len then dp (gr e.2.1 e.2.2 cs (j.toNat*e.2.2)) λy=>R (.val y) st ds else False
 | _=>False
def kT (ok:Bool)(r:Option IV)(z:IV):Option IV:=some (if ok then .tup [r.getD z,.raw (.bool r.isSome)] else r.getD z)
def vJ (ok:Bool)(v z:IV):kT ok (some v) z=some (if ok then .tup [v,.raw (.bool true)] else v):=rfl
def sL (ok:Bool)(z:IV):kT ok none z=some (if ok then .tup [z,.raw (.bool false)] else z):=rfl
def pc (A:KeyK×IV)(m:Option Nat)(key:Value)(ok:Bool)(R:Rt)(st:ISt)(ds:List Dfd):Prop :=
 chk (fF A.1 key=true) <| match m with
  | none=>dp (kT ok none A.2) λy=>R (.val y) st ds
  | some b=>dp (st b) λo=>omV o λkk es=>chk (kk=A.1) (dp (kT ok (fZ key es) A.2) λy=>R (.val y) st ds)
def nv (A:KeyK×IV)(m:Option Nat)(key:Value)(y:IV)(R:Rt)(st:ISt)(ds:List Dfd):Prop :=
 chk (fF A.1 key=true) <| match m with
  | some b=>dp (st b) λo=>omV o λkk es=>chk (kk=A.1) (R .nop (st.put b (some (.map kk (updI key y es)))) ds)
  | none=>False
def sN (m:Option Nat)(R:Rt)(st:ISt)(ds:List Dfd):Prop :=
 match m with
 | none=>False
 | some b=>dp (st b) λo=>mxO o λ_ A=>∀r,giv (st r=none) (R (.val (.raw (.pointer (some ⟨r,0,none⟩)))) (st.put r (some (.iter b A #[] A))) ds)
def sR (r:Nat)(R:Rt)(st:ISt)(ds:List Dfd):Prop :=
 dp (st r) λo=>itO o λm A seen c0=>dp (st m) λo'=>mxO o' λD E=>chk ((∀e∈D.toList,e.born<A/\(keyI e.key).isSome=true)/\A<=c0)
  (nxR D seen (R (.val (.tup [.raw (.bool false)])) st ds) (λe k=>R (.val (.tup [.raw (.bool true),k,.junk])) (st.put r (some (.iter m A (seen.push e.born) E))) ds) .mk .mk)
def sS (r:Nat)(R:Rt)(st:ISt)(ds:List Dfd):Prop :=
 dp (st r) λo=>itO o λm _ seen c0=>dp (st m) λo'=>mxO o' λA D=>chk (c0=D/\(A.toList.map (·.born)).Nodup) (dp (AR A seen) λk=>R (.val (.tup [k,vH A seen])) st ds)
def ly (R:Rt)(ds:List Dfd):IV->ISt->Prop:=λx st=>R (.val x) st ds
def mC (esc:List Nat)(pf:FuncId->List IV->Option IV)(f:Operand)(A:Option (List IV))(R:Rt)(st:ISt)(ds:List Dfd)(old:Prop):Prop :=
 match f with
 | .func g=>if g+1000000∈esc then dp A λA=>dp (pf g A) λv=>R (.val v) st ds else old
 | _=>old
def fnOk:Fn->Bool
 | .func _=>true
 | .yield _=>true
 | _=>false
def nilV (o:Option IV)(p:Option Pl)(dr:Bool)(R:Rt)(st:ISt)(ds:List Dfd):Prop :=
 match o with
 | some (.fn f first A)=>if fnOk f=true then R (.val (.fn f first A)) st ds else False
 | some (.cptr x)=>R (.val (.cptr x)) st ds
 | some (.raw (.pointer (some q)))=>if dr=true then R (.val (.raw (.pointer (some q)))) st ds else dp p λp=>plR p R st ds
 | _=>if dr=true then False else dp p λp=>plR p R st ds
@[congr] def SM {o o':Option IV}(p:Option Pl)(dr:Bool)(R:Rt)(st:ISt)(ds:List Dfd)(h:o=o'):nilV o p dr R st ds=nilV o' p dr R st ds:=by rw[h]
def idxV (k:LenK)(s:Option (TypeId×Bool×Nat×Nat))(A:Option IV)(p:Option Pl)(e:Option (Nat×Bool×Nat))(j:Int)(R:Rt)(st:ISt)(ds:List Dfd):Prop :=
 match k with
 | .sl=>dp s λs=>dp A λx=>slX x (λt A=>if (reTag s.2.2.1 t).es=s.2.2.1 then if 0<=j then dp (A[j.toNat]?) λy=>R (.val (.cptr y)) st ds else False else False)
  (λb off n=>if 0<=j/\j.toNat<n then R (.val (.raw (.pointer (some ⟨b,off+j.toNat*s.2.2.1,none⟩)))) st ds else False)
 | .arr _=>dp e λe=>dp p λp=>if 0<=j then ou e.1 e.2.1 e.2.2 j.toNat p R st ds else False
 | _=>False
def appK (k:Option LenK)(i:Option IntKind)(f g:Prop):Prop :=
 match k,i with
 | some .sl,_=>f
 | none,some _=>g
 | _,_=>False
def vcR (c:Cf)(dst:Option Nat)(op:Op)(R:Rt)(ad:Ad)(fr:Fr)(st:ISt)(ds:List Dfd):Prop :=
 match op with
 | .move x|.assign x=>kA c.dr (evV c.gl fr x) (evA c.gl ad fr x) R st ds
 | .pick b x y=>dp (evV c.gl fr b) λb=>kR b λb=>jb b (dp (evV c.gl fr x) λx=>R (.val x) st ds) (dp (evV c.gl fr y) λy=>R (.val y) st ds) .mk .mk
 | .alloc T=>dp (eO c.P T) λz=>kS c.esc dst z.cells R st ds
 | .box T x=>dp (tyI c.P T) λ_=>dp (evV c.gl fr x) λy=>chk (y.cells.all IV.one=true) (mA c.frz c.esc dst y R st ds)
 | .build T parts=>chk (gz c.P T=true) <| dp (eO c.P T) λz=>dp (kC c.P c.gl fr T z.cells parts.toList) λcs=>R (.val (.agg cs)) st ds
 | .buildSlice T len parts=>dp (slI c.P T) λe=>chk (kB len parts.toList=true/\len*e.2.2.1<=16777216/\1<=e.2.2.1) <|
   dp (evL c.gl fr (parts.toList.map (·.2))) λys=>chk (ys.all (fits e.2.1 e.2.2.1)=true) (mB c.esc dst e.2.2.1 ys R st ds)
 | .load T a=>dp (tyI c.P T) λi=>dp (evA c.gl ad fr a) λp=>jT (ldr c.dr c.esc dst) i.1 i.2 p fr R st ds
 | .store T a x=>dp (tyI c.P T) λi=>dp (evV c.gl fr x) λy=>chk (y.cells.length=i.2/\y.cells.all IV.one=true) <| dp (evA c.gl ad fr a) λp =>
   lx y.cells p fr R st ds
 | .nilCheck x=>nilV (evV c.gl fr x) (evA c.gl ad fr x) c.dr R st ds
 | .binOp o T x y _=>dp (evV c.gl fr x) λx=>dp (evV c.gl fr y) λy=>dp (binV c.P T o x y) λz=>R (.val z) st ds
 | .unOp o _ x=>dp (evV c.gl fr x) λx=>dp (unI o x) λz=>R (.val z) st ds
 | .convert s d x=>dp (evV c.gl fr x) λx=>dp (nr c.P s d x) λz=>R (.val z) st ds
 | .makeFunc f first A=>dp (evL c.gl fr first.toList) λa=>dp (evL c.gl fr A.toList) λb=>R (.val (.fn f a b)) st ds
 | .makeMap T none=>dp (mapI c.P T) λD=>∀b,giv (st b=none) (R (.val (.raw (.map (some b)))) (st.put b (some (.map D.1 []))) ds)
 | .slice T x lo U J=>dp (lenI c.P T) λk=>dp (evV c.gl fr x) λx=>dp (iJ c.gl fr lo) λlo=>dp (iJ c.gl fr U) λU=>dp (iJ c.gl fr J) λJ =>
   kD k (slI c.P T) (arrI c.P T) x lo U J R st ds
 | .fieldAddr T x i=>dp (fldI c.P T i) λf=>dp (evA c.gl ad fr x) λp=>ns f p R st ds
 | .field T x i=>dp (fldI c.P T i) λf=>dp (evV c.gl fr x) λx=>aggV x λcs=>dp (gr f.2.1 f.2.2 cs f.1) λy=>R (.val y) st ds
 | .indexAddr T x i=>dp (evV c.gl fr i) λi=>intV i λ_ j=>dp (lenI c.P T) λk=>idxV k (slI c.P T) (evV c.gl fr x) (evA c.gl ad fr x) (arrI c.P T) j R st ds
 | .index T x i=>dp (evV c.gl fr i) λi=>intV i λ_ j=>dp (lenI c.P T) λk=>dp (evV c.gl fr x) λx=>nu k (arrI c.P T) x j R st ds
 | .lookup T x i ok=>dp (mapI c.P T) λD=>dp (evV c.gl fr x) λx=>mapV x λm=>dp (evV c.gl fr i) λi=>keyV i λkey=>pc D m key ok R st ds
 | .mapUpdate T m i x=>dp (mapI c.P T) λD=>dp (evV c.gl fr m) λm=>mapV m λm=>dp (evV c.gl fr i) λi=>keyV i λkey=>dp (evV c.gl fr x) λy =>
   nv D m key y R st ds
 | .extract x i=>dp (evV c.gl fr x) λx=>tupV x λvs=>dp (vs[i]?) λy=>R (.val y) st ds
 | .call ⟨.value f,args,_⟩=>mC c.esc c.pf f (evL c.gl fr args.toList) R st ds (dp (evV c.gl fr f) λf=>fnV f λf first A=>dp (evL c.gl fr args.toList) λaL =>
   callV c.P c.gl f first A aL st (ly R ds))
 | .call ⟨.builtin .len,⟨[x]⟩,⟨[T]⟩⟩=>dp (lenI c.P T) λk=>dp (evV c.gl fr x) λx=>lenV c.dr k x R st ds
 | .call ⟨.builtin .append,⟨[s,y]⟩,⟨[T,T']⟩⟩=>dp (slI c.P T) λe=>appK (lenI c.P T') (intK c.P T')
   (dp (evV c.gl fr s) λs=>slY s (λG xs=>dp (evV c.gl fr y) λy=>slV y λ_ ys=>appV c.esc dst e G xs ys R st ds) (λb off n cap=>dp (evV c.gl fr y) λy=>slY y (λ_ ys=>qO c.esc dst (appO e b off n cap ys R st ds)) (λb2 E m2 _=>qO c.esc dst (appR e b off n cap b2 E m2 R st ds))))
   (dp (evV c.gl fr s) λs=>slV s λG _=>dp (evV c.gl fr y) λy=>intV y λ_ m=>appZ e G m R st ds)
 | .call ⟨.builtin .max,⟨[x,y]⟩,_⟩=>dp (evV c.gl fr x) λx=>dp (evV c.gl fr y) λy=>intV x λk a=>intV y λO b=>if k=O then R (.val (.raw (.int k (max a b)))) st ds else False
 | .defer ⟨.value f,args,_⟩=>if c.rd=true then False else dp (evV c.gl fr f) λf=>fnV f λf first A=>dp (evL c.gl fr args.toList) λaL =>
   R .nop st (.call f A (first++aL)::ds)
 | .call ⟨.builtin .cap,⟨[x]⟩,⟨[T]⟩⟩=>dp (slI c.P T) λ_=>dp (evV c.gl fr x) λx=>capV x R st ds
 | .call ⟨.builtin .clear,⟨[x]⟩,⟨[T]⟩⟩=>dp (slI c.P T) λe=>dp (eO c.P e.1) λ_=>dp (evV c.gl fr x) λx=>o_ e x R st ds
 | .makeSlice T l m=>dp (slI c.P T) λe=>dp (evV c.gl fr l) λl=>intV l λ_ p=>dp (evV c.gl fr m) λm=>intV m λ_ q=>ov (eO c.P e.1) c.esc dst e p q R st ds
 | .insert T m i x=>dp (mapI c.P T) λD=>dp (evV c.gl fr m) λm=>mapV m λm=>dp (evV c.gl fr i) λi=>keyV i λkey=>dp (evV c.gl fr x) λy =>
   nv D m key y R st ds
 | .call ⟨.builtin .min,⟨[x,y]⟩,_⟩=>dp (evV c.gl fr x) λx=>dp (evV c.gl fr y) λy=>intV x λk a=>intV y λO b=>if k=O then R (.val (.raw (.int k (min a b)))) st ds else False
 | .range T x=>if c.dr=true then False else dp (mapI c.P T) λ_=>dp (evV c.gl fr x) λx=>mapV x λm=>sN m R st ds
 | .next x false=>if c.dr=true then False else dp (evV c.gl fr x) λx=>adrV x λr=>sR r R st ds
 | .entry x=>if c.dr=true then False else dp (evV c.gl fr x) λx=>adrV x λr=>sS r R st ds
 | _=>False
def vcOp (c:Cf)(dst:Option Nat)(op:Op)(K:Kt)(ad:Ad)(fr:Fr)(st:ISt)(ds:List Dfd):Prop:=vcR c dst op (finK dst K ad fr) ad fr st ds
section
variable (c:Cf)(dst:Option Nat)(d t off b n i j len:Nat)(T T':TypeId)(x y z:Operand)(K:Kt)(R:Rt)(ad:Ad)(fr:Fr)(st:ISt)(ds:List Dfd)(v:IV)(dr ag:Bool)
@[go_sem ↓] def SN:finK (some d) K ad fr (.val v) st ds=K (ad.put d none) (fr.put d (.iv v)) st ds:=(rfl)
@[go_sem ↓] def SO:finK none K ad fr (.val v) st ds=K ad fr st ds:=(rfl)
@[go_sem ↓] def SP:finK (some d) K ad fr (.adr t off) st ds=if d=t then False else K (ad.put d (some (t,off))) (fr.put d (.iv .junk)) st ds:=(rfl)
@[go_sem ↓] def SQ (cs:List IV):finK (some d) K ad fr (.box cs) st ds=K (ad.put d none) (fr.put d (.box cs)) st ds:=(rfl)
@[go_sem ↓] def SR (cs:List IV):finK none K ad fr (.sto t cs) st ds=K ad (fr.put t (.box cs)) st ds:=(rfl)
@[go_sem ↓] def SS:finK none K ad fr .nop st ds=K ad fr st ds:=(rfl)
def Ie:ly R ds v st=R (.val v) st ds:=(rfl)
@[go_sem ↓] def SU:plR (.ptr b off) R st ds=R (.val (.raw (.pointer (some ⟨b,off,none⟩)))) st ds:=(rfl)
@[go_sem] def SX (p:Option Pl):kA dr (some v) p R st ds=R (.val v) st ds:=(rfl)
@[go_sem ↓] def SY (frz esc:List Nat)(y:IV):mA frz esc (some d) y R st ds=if d∈frz then R (.val (.cptr y)) st ds else kS esc (some d) y.cells R st ds:=(rfl)
@[go_sem ↓] def SZ (esc:List Nat)(cs:List IV):kS esc (some d) cs R st ds =
 if d∈esc then ∀b,giv (st b=none) (R (.val (.raw (.pointer (some ⟨b,0,none⟩)))) (st.put b (some (.box cs))) ds) else R (.box cs) st ds:=(rfl)
@[go_sem ↓] def S1:jT dr ag n (.box t off) fr R st ds=boxV (fr t) λcs=>dp (gr ag n cs off) λy=>R (.val y) st ds:=(rfl)
@[go_sem ↓] def S2:jT false ag n (.ptr b off) fr R st ds=dp (st b) λo=>obV o λcs=>dp (gr ag n cs off) λy=>R (.val y) st ds:=(rfl)
@[go_sem ↓] def S3:jT dr ag n (.cp v) fr R st ds=if fits ag n v=true then R (.val v) st ds else False:=(rfl)
@[go_sem ↓] def S4 (l:List IV):lx l (.box t off) fr R st ds=boxV (fr t) λcs=>if off+l.length<=cs.length then R (.sto t (fB cs off l)) st ds else False:=(rfl)
@[go_sem ↓] def S5 (l:List IV):lx l (.ptr b off) fr R st ds =
 dp (st b) λo=>obV o λcs=>if off+l.length<=cs.length then R .nop (st.put b (some (.box (fB cs off l)))) ds else False:=(rfl)
@[go_sem ↓] def S6 (f:Nat×Bool×Nat):ns f (.box t off) R st ds=R (.adr t (off+f.1)) st ds:=(rfl)
@[go_sem ↓] def S7 (f:Nat×Bool×Nat):ns f (.ptr b off) R st ds=R (.val (.raw (.pointer (some ⟨b,off+f.1,none⟩)))) st ds:=(rfl)
@[go_sem ↓] def S8 (f:Nat×Bool×Nat):ns f (.cp v) R st ds=aggV v λcs=>dp (gr f.2.1 f.2.2 cs f.1) λy=>if fits f.2.1 f.2.2 y=true then R (.val (.cptr y)) st ds else False:=(rfl)
@[go_sem ↓] def S9:ou len ag n j (.box t off) R st ds=if j<len then R (.adr t (off+j*n)) st ds else False:=(rfl)
@[go_sem ↓] def S_:ou len ag n j (.cp v) R st ds=if j<len then aggV v λcs=>dp (gr ag n cs (j*n)) λy=>if fits ag n y=true then R (.val (.cptr y)) st ds else False else False:=(rfl)
@[go_sem ↓] def Ta (P:Program)(gl:Nat->Option IV)(cs:List IV):kC P gl fr T cs []=some cs:=(rfl)
@[go_sem ↓] def vK (P:Program)(gl:Nat->Option IV)(cs:List IV)(l:List (Nat×Operand)) :
 kC P gl fr T cs ((i,x)::l)=oZ P gl fr T cs l (bfI P T i) (evV gl fr x):=by
 rw[kC];cases bfI P T i<;>cases evV gl fr x<;>rfl
@[go_sem ↓] def Tc (P:Program)(i:Nat):bfI P T i=orO (fldI P T i) ((arrI P T).map λe=>(i*e.2.2,e.2)):=(rfl)
@[go_sem] def Td {α:Type}(a:α)(b:Option α):orO (some a) b=some a:=(rfl)
@[congr] def Te {α:Type}{a a':Option α}(b:Option α)(h:a=a'):orO a b=orO a' b:=by rw[h]
@[congr] def Tf (P:Program)(gl:Nat->Option IV)(cs:List IV)(l:List (Nat×Operand)){f D:Option (Nat×Bool×Nat)}{v A:Option IV}(h:f=D)(E:v=A) :
 oZ P gl fr T cs l f v=oZ P gl fr T cs l D A:=by rw[h,E]
@[go_sem] def Tg (P:Program)(gl:Nat->Option IV)(cs:List IV)(l:List (Nat×Operand))(f:Nat×Bool×Nat) :
 oZ P gl fr T cs l (some f) (some v)=if v.cells.length=f.2.2/\f.1+v.cells.length<=cs.length/\fits f.2.1 f.2.2 v=true then kC P gl fr T (fB cs f.1 v.cells) l else none:=(rfl)
@[go_sem ↓] def Th (esc:List Nat)(es:Nat)(ys:List IV):mB esc (some d) es ys R st ds =
 if d∈esc then ∀b,giv (st b=none) (R (.val (.raw (.slice (some ⟨b,0,none⟩) ys.length ys.length))) (st.put b (some (.box (ys.flatMap IV.cells)))) ds) else R (.val (.sl ⟨true,.full,es⟩ ys)) st ds:=by
 simp[mB,gO]
@[go_sem ↓] def Ti:lenV false .sl v R st ds=slX v (λ_ A=>A.length<=140737488355328->R (.val (.raw (.int .i64 A.length))) st ds) (λ_ _ n=>R (.val (.raw (.int .i64 n))) st ds):=by simp[lenV]
@[go_sem ↓] def Tj (s:ByteArray):lenV false .str (.raw (.string s)) R st ds=(s.size<=281474976710656->R (.val (.raw (.int .i64 s.size))) st ds):=by simp[lenV,rawV]
@[go_sem ↓] def Tk:lenV true .sl v R st ds=slX v (λ_ A=>R (.val (.raw (.int .i64 A.length))) st ds) (λ_ _ n=>R (.val (.raw (.int .i64 n))) st ds):=by simp[lenV]
@[go_sem ↓] def Tl (s:ByteArray):lenV true .str (.raw (.string s)) R st ds=R (.val (.raw (.int .i64 s.size))) st ds:=by simp[lenV,rawV]
@[go_sem ↓] def To (esc:List Nat)(e:TypeId×Bool×Nat×Nat)(E:Bool)(es:Nat)(D ys:List IV)(A:IV):appV esc (some d) e ⟨E,.nil,es⟩ D (A::ys) R st ds =
 chk ((A::ys).all (fits e.2.1 e.2.2.1)=true) (chk ((D.length+(A::ys).length)*e.2.2.2<=140737488355328/\D.length+(A::ys).length<=140737488355328)
  (if d∈esc then ∀g cap,giv (st g=none/\(A::ys).length<=cap) (R (.val (.raw (.slice (some ⟨g,0,none⟩) (A::ys).length cap))) (st.put g (some (.box ((A::ys).flatMap IV.cells++List.replicate ((cap-(A::ys).length)*e.2.2.1) .junk)))) ds)
   else ∀g,giv (st g=none) (R (.val (.sl ⟨true,.app g,e.2.2.1⟩ (A::ys))) (st.put g (some (.front (A::ys).length e.2.2.1))) ds))):=by simp[appV,gO]
@[go_sem ↓] def Tp (esc:List Nat)(dst:Option Nat)(e:TypeId×Bool×Nat×Nat)(E:Bool)(es:Nat)(D ys:List IV)(A:IV):appV esc dst e ⟨E,.full,es⟩ D (A::ys) R st ds =
 chk ((A::ys).all (fits e.2.1 e.2.2.1)=true) (chk ((D.length+(A::ys).length)*e.2.2.2<=140737488355328/\D.length+(A::ys).length<=140737488355328)
  (chk (es=e.2.2.1) (∀g,giv (st g=none) (R (.val (.sl ⟨true,.app g,e.2.2.1⟩ (D++(A::ys)))) (st.put g (some (.front (D.length+(A::ys).length) e.2.2.1))) ds)))):=(rfl)
@[go_sem ↓] def Tq (esc:List Nat)(dst:Option Nat)(e:TypeId×Bool×Nat×Nat)(D:Bool)(es g₀:Nat)(A ys:List IV):appV esc dst e ⟨D,.app g₀,es⟩ A ys R st ds =
 chk (ys.all (fits e.2.1 e.2.2.1)=true) (chk ((A.length+ys.length)*e.2.2.2<=140737488355328/\A.length+ys.length<=140737488355328)
  (chk (es=e.2.2.1) (chk (st g₀=some (.front A.length e.2.2.1))
   (∀g,giv (g=g₀\/st g=none) (R (.val (.sl ⟨D,.app g,e.2.2.1⟩ (A++ys))) ((st.put g₀ none).put g (some (.front (A.length+ys.length) e.2.2.1))) ds))))):=(rfl)
@[go_sem ↓] def Ts (esc:List Nat)(dst:Option Nat)(e:TypeId×Bool×Nat×Nat)(D:Bool)(es:Nat)(A:List IV):appV esc dst e ⟨D,.nil,es⟩ A [] R st ds =
 chk (([]:List IV).all (fits e.2.1 e.2.2.1)=true) (chk ((A.length+0)*e.2.2.2<=140737488355328/\A.length+0<=140737488355328) (R (.val (.sl ⟨D,.nil,es⟩ A)) st ds)):=(rfl)
def kU {e:TypeId×Bool×Nat×Nat}{b n cap:Nat}{ys cs:List IV}(U:st b=some (.box cs))(O:ys.all (fits e.2.1 e.2.2.1)=true)(h1:(n+ys.length)*e.2.2.2<=140737488355328/\n+ys.length<=140737488355328)(h2:n<=cap/\cap*e.2.2.1<=cs.length)
  (hl:(ys.flatMap IV.cells).length=ys.length*e.2.2.1)
  (h:∀g A cs',g=b\/st g=none->n+ys.length<=A->A*e.2.2.1<=cs'.length->cs'.take ((n+ys.length)*e.2.2.1)=cs.take (n*e.2.2.1)++ys.flatMap IV.cells →
   R (.val (.raw (.slice (some ⟨g,0,none⟩) (n+ys.length) A))) ((st.put b none).put g (some (.box cs'))) ds):appO e b 0 n cap ys R st ds:=by
 have hn:n*e.2.2.1<=cs.length:=dT (fz _ h2.1) h2.2;have D:(cs.take (n*e.2.2.1)).length=n*e.2.2.1:=by rw[dQ];omega
 refine⟨⟨rfl,O⟩,h1,yQ3.2 ⟨_,U,h2,λhc=>?_,λhc=>.inl λg A G=>?_⟩⟩
 ·have hc:=fc hc;have E:(n+ys.length)*e.2.2.1<=cs.length:=dT (fz _ hc) h2.2;have J:n*e.2.2.1+(ys.flatMap IV.cells).length<=cs.length:=by rw[hl,<- fp];exact E
  have hs:st.put b (some (.box (fB cs (n*e.2.2.1) (ys.flatMap IV.cells))))=(st.put b none).put b (some (.box (fB cs (n*e.2.2.1) (ys.flatMap IV.cells)))):=by
   funext c;simp only[ISt.put_apply];split<;>rfl
  rw[hs];refine h b cap _ (.inl rfl) hc ?_ ?_
  ·unfold fB;simp only[lLa,dQ,iT];have:=h2.2;omega
  ·unfold fB;rw[List.take_append_of_le_length (by rw[lLa,D,hl,fp];exact dJ _),List.take_of_length_le (by rw[lLa,D,hl,fp];exact dJ _)]
 ·refine h g A _ (.inr G.1) G.2 ?_ ?_
  ·simp only[lLa,D,hl,gK];rw[<- fp,<- fp];exact fz _ (by have:=G.2;omega)
  ·rw[List.take_append_of_le_length (by rw[lLa,D,hl,fp];exact dJ _),List.take_of_length_le (by rw[lLa,D,hl,fp];exact dJ _)]
@[go_sem ↓] def Tt (D:Bool)(es:Nat)(A:List IV):capV (.sl ⟨D,.nil,es⟩ A) R st ds=R (.val (.raw (.int .i64 0))) st ds:=(rfl)
@[go_sem ↓] def Tu (e:TypeId×Bool×Nat×Nat)(b off n cap:Nat):o_ e (.raw (.slice (some ⟨b,off,none⟩) n cap)) R st ds=if n=0 then R (.val (.tup [])) st ds else
  dp (st b) λo=>obV o λcs=>if off+n*e.2.2.1<=cs.length then R (.val (.tup [])) (st.put b (some (.box (fB cs off (List.replicate (n*e.2.2.1) .junk))))) ds else False:=(rfl)
@[go_sem ↓] def Tv (z:Option IV)(esc:List Nat)(e:TypeId×Bool×Nat×Nat)(p q:Int):ov z esc (some d) e p q R st ds=chk ((p=0\/p=q)/\0<=q/\q*e.2.2.2<=140737488355328/\q<=140737488355328)
 (if d+3000000∈esc then chk (e.2.2.1=1) (dp z λy=>chk (y.one=true) (∀g,giv (st g=none) (R (.val (.raw (.slice (some ⟨g,0,none⟩) (lenZ p) q.toNat))) (st.put g (some (.box (List.replicate q.toNat y)))) ds)))
 else if d∈esc then ∀g,giv (st g=none) (R (.val (.raw (.slice (some ⟨g,0,none⟩) (lenZ p) q.toNat))) (st.put g (some (.box (List.replicate (q.toNat*e.2.2.1) .junk)))) ds)
 else if e.2.2.1=0 then R (.val (.sl ⟨false,.none,0⟩ (List.replicate (lenZ p) (.agg [])))) st ds
 else chk (p=0) (∀g,giv (st g=none) (R (.val (.sl ⟨true,.app g,e.2.2.1⟩ [])) (st.put g (some (.front 0 e.2.2.1))) ds))):=by
 simp[ov,gO,AS]
@[go_sem ↓] def Tw (e:Option (TypeId×Bool×Nat×Nat))(a:Nat×Bool×Nat)(len:Nat)(cs:List IV)(A:Option Int):kD (.arr len) e (some a) (.cptr (.agg cs)) none A none R st ds =
 chk (cs.length=len/\len<=140737488355328/\cs.all IV.one=true) (dp (fT none A len) λp=>R (.val (.sl ⟨false,.none,1⟩ (cs.take p.2))) st ds):=(rfl)
@[go_sem ↓] def Tx (e:TypeId×Bool×Nat×Nat)(b off n cap:Nat)(lo A:Option Int)(ar:Option (Nat×Bool×Nat)):kD .sl (some e) ar (.raw (.slice (some ⟨b,off,none⟩) n cap)) lo A none R st ds =
 chk (n<=cap) (dp (fT lo A (if A=none then n else cap)) λp=>R (.val (.raw (.slice (some ⟨b,if cap=p.1 then off else off+p.1*e.2.2.1,none⟩) (p.2-p.1) (cap-p.1)))) st ds):=(rfl)
@[go_sem ↓] def Tz (e:TypeId×Bool×Nat×Nat)(D:Tag)(A:List IV)(lo E:Option Int)(ar:Option (Nat×Bool×Nat)):kD .sl (some e) ar (.sl D A) lo E none R st ds =
 chk ((reTag e.2.2.1 D).es=e.2.2.1) (dp (fT lo E A.length) λp=>R (.val (.sl (jm (reTag e.2.2.1 D) A.length p.2 p.1 none) ((A.drop p.1).take (p.2-p.1)))) st ds):=by
 cases E<;>simp[kD,slY,chk,dp]
@[go_sem ↓] def TA (e:TypeId×Bool×Nat×Nat)(D:Tag)(A:List IV)(lo:Option Int)(G E:Int)(ar:Option (Nat×Bool×Nat)):kD .sl (some e) ar (.sl D A) lo (some G) (some E) R st ds =
 chk ((reTag e.2.2.1 D).es=e.2.2.1) (dp (fT lo (some G) A.length) λp=>chk (E=p.2) (R (.val (.sl (jm (reTag e.2.2.1 D) A.length p.2 p.1 (some E)) ((A.drop p.1).take (p.2-p.1)))) st ds)):=by
 simp[kD,slY,dp]
@[go_sem ↓] def TB (s:ByteArray)(j:Int)(e:Option (Nat×Bool×Nat)):nu .str e (.raw (.string s)) j R st ds =
 dp (nt s j) λb=>R (.val (.raw (.int .u8 b.toNat))) st ds:=(rfl)
@[go_sem ↓] def TC (cs:List IV)(j:Int)(e:Option (Nat×Bool×Nat)):nu (.arr len) e (.agg cs) j R st ds =
 dp e λe=>if 0<=j/\j<len then dp (gr e.2.1 e.2.2 cs (j.toNat*e.2.2)) λy=>R (.val y) st ds else False:=(rfl)
@[go_sem ↓] def TE (A:KeyK×IV)(m:Nat)(key:Value)(ok:Bool):pc A (some m) key ok R st ds =
 chk (fF A.1 key=true) (dp (st m) λo=>omV o λkk es=>chk (kk=A.1) (dp (kT ok (fZ key es) A.2) λy=>R (.val y) st ds)):=(rfl)
@[go_sem ↓] def TF (A:KeyK×IV)(m:Nat)(key:Value):nv A (some m) key v R st ds =
 chk (fF A.1 key=true) (dp (st m) λo=>omV o λkk es=>chk (kk=A.1) (R .nop (st.put m (some (.map kk (updI key v es)))) ds)):=(rfl)
@[go_sem] def TG (s:ByteArray):fF .str (.string s)=true:=(rfl)
@[go_sem] def TH (k:IntKind)(n:Int):fF (.int k) (.int k n)=true:=by simp[fF]
@[go_sem] def TI (p:Option Pl)(u:Value):nilV (some (.raw u)) p false R st ds=dp p λp=>plR p R st ds:=by
 cases u with
 | pointer o=>cases o<;>rfl
 | _=>rfl
@[go_sem] def TJ (p:Option Pl)(q:Addr):nilV (some (.raw (.pointer (some q)))) p true R st ds=R (.val (.raw (.pointer (some q)))) st ds:=(rfl)
@[go_sem] def TK (p:Option Pl)(dr:Bool)(u:IV):nilV (some (.cptr u)) p dr R st ds=R (.val (.cptr u)) st ds:=(rfl)
@[go_sem ↓] def TL (s:Option (TypeId×Bool×Nat×Nat))(A:Option IV)(p:Option Pl)(e:Option (Nat×Bool×Nat))(j:Int):idxV .sl s A p e j R st ds =
 dp s λs=>dp A λx=>slX x (λt A=>if (reTag s.2.2.1 t).es=s.2.2.1 then if 0<=j then dp (A[j.toNat]?) λy=>R (.val (.cptr y)) st ds else False else False)
  (λb off n=>if 0<=j/\j.toNat<n then R (.val (.raw (.pointer (some ⟨b,off+j.toNat*s.2.2.1,none⟩)))) st ds else False):=(rfl)
@[go_sem ↓] def TM (s:Option (TypeId×Bool×Nat×Nat))(A:Option IV)(p:Option Pl)(e:Option (Nat×Bool×Nat))(j:Int):idxV (.arr n) s A p e j R st ds =
 dp e λe=>dp p λp=>if 0<=j then ou e.1 e.2.1 e.2.2 j.toNat p R st ds else False:=(rfl)
@[go_sem] def TN (i:Option IntKind)(f g:Prop):appK (some .sl) i f g=f:=by cases i<;>rfl
@[go_sem] def TO (i:IntKind)(f g:Prop):appK none (some i) f g=g:=(rfl)
@[congr] def TP {k A:Option LenK}{i D:Option IntKind}(f g:Prop)(h:k=A)(E:i=D):appK k i f g=appK A D f g:=by rw[h,E]
@[go_sem] def tgEs (f:Bool)(cp:Cap)(s:Nat):Tag.es ⟨f,cp,s⟩=s:=(rfl)
@[go_sem ↓] def TQ:vcOp c dst (.move x) K ad fr st ds=kA c.dr (evV c.gl fr x) (evA c.gl ad fr x) (finK dst K ad fr) st ds:=(rfl)
@[go_sem ↓] def TR:vcOp c dst (.assign x) K ad fr st ds=kA c.dr (evV c.gl fr x) (evA c.gl ad fr x) (finK dst K ad fr) st ds:=(rfl)
@[go_sem ↓] def TT:vcOp c dst (.pick x y z) K ad fr st ds=dp (evV c.gl fr x) λb=>kR b λb =>
 jb b (dp (evV c.gl fr y) λx=>finK dst K ad fr (.val x) st ds) (dp (evV c.gl fr z) λy=>finK dst K ad fr (.val y) st ds) .mk .mk:=(rfl)
@[go_sem ↓] def TU:vcOp c dst (.alloc T) K ad fr st ds=dp (eO c.P T) λz=>kS c.esc dst z.cells (finK dst K ad fr) st ds:=(rfl)
@[go_sem ↓] def TV:vcOp c dst (.box T x) K ad fr st ds=dp (tyI c.P T) λ_=>dp (evV c.gl fr x) λy=>chk (y.cells.all IV.one=true) (mA c.frz c.esc dst y (finK dst K ad fr) st ds):=(rfl)
@[go_sem ↓] def TW (parts:Array (Nat×Operand)):vcOp c dst (.build T parts) K ad fr st ds =
 chk (gz c.P T=true) (dp (eO c.P T) λz=>dp (kC c.P c.gl fr T z.cells parts.toList) λcs=>finK dst K ad fr (.val (.agg cs)) st ds):=(rfl)
@[go_sem ↓] def TX (parts:Array (Nat×Operand)):vcOp c dst (.buildSlice T len parts) K ad fr st ds =
 dp (slI c.P T) λe=>chk (kB len parts.toList=true/\len*e.2.2.1<=16777216/\1<=e.2.2.1) (dp (evL c.gl fr (parts.toList.map (·.2))) λys =>
  chk (ys.all (fits e.2.1 e.2.2.1)=true) (mB c.esc dst e.2.2.1 ys (finK dst K ad fr) st ds)):=(rfl)
@[go_sem ↓] def TY:vcOp c dst (.load T x) K ad fr st ds=dp (tyI c.P T) λi=>dp (evA c.gl ad fr x) λp=>jT (ldr c.dr c.esc dst) i.1 i.2 p fr (finK dst K ad fr) st ds:=(rfl)
@[go_sem ↓] def TZ:vcOp c dst (.store T x y) K ad fr st ds=dp (tyI c.P T) λi=>dp (evV c.gl fr y) λy =>
 chk (y.cells.length=i.2/\y.cells.all IV.one=true) (dp (evA c.gl ad fr x) λp=>lx y.cells p fr (finK dst K ad fr) st ds):=(rfl)
@[go_sem ↓] def T3 (o:BinOp):vcOp c dst (.binOp o T x y T') K ad fr st ds=dp (evV c.gl fr x) λx=>dp (evV c.gl fr y) λy=>dp (binV c.P T o x y) λz=>finK dst K ad fr (.val z) st ds:=(rfl)
@[go_sem ↓] def T4 (o:UnOp):vcOp c dst (.unOp o T x) K ad fr st ds=dp (evV c.gl fr x) λx=>dp (unI o x) λz=>finK dst K ad fr (.val z) st ds:=(rfl)
@[go_sem ↓] def T5:vcOp c dst (.convert T T' x) K ad fr st ds=dp (evV c.gl fr x) λx=>dp (nr c.P T T' x) λz=>finK dst K ad fr (.val z) st ds:=(rfl)
@[go_sem ↓] def T6 (f:Fn)(first A:Array Operand):vcOp c dst (.makeFunc f first A) K ad fr st ds =
 dp (evL c.gl fr first.toList) λa=>dp (evL c.gl fr A.toList) λb=>finK dst K ad fr (.val (.fn f a b)) st ds:=(rfl)
@[go_sem ↓] def T7:vcOp c dst (.makeMap T none) K ad fr st ds=dp (mapI c.P T) λA=>∀b,giv (st b=none) (finK dst K ad fr (.val (.raw (.map (some b)))) (st.put b (some (.map A.1 []))) ds):=(rfl)
@[go_sem ↓] def T8 (lo D A:Option Operand):vcOp c dst (.slice T x lo D A) K ad fr st ds=dp (lenI c.P T) λk=>dp (evV c.gl fr x) λx =>
 dp (iJ c.gl fr lo) λlo=>dp (iJ c.gl fr D) λD=>dp (iJ c.gl fr A) λA=>kD k (slI c.P T) (arrI c.P T) x lo D A (finK dst K ad fr) st ds:=(rfl)
@[go_sem ↓] def T9:vcOp c dst (.fieldAddr T x i) K ad fr st ds=dp (fldI c.P T i) λf=>dp (evA c.gl ad fr x) λp=>ns f p (finK dst K ad fr) st ds:=(rfl)
@[go_sem ↓] def T_:vcOp c dst (.field T x i) K ad fr st ds=dp (fldI c.P T i) λf=>dp (evV c.gl fr x) λx=>aggV x λcs=>dp (gr f.2.1 f.2.2 cs f.1) λy=>finK dst K ad fr (.val y) st ds:=(rfl)
@[go_sem ↓] def Ua:vcOp c dst (.indexAddr T x y) K ad fr st ds=dp (evV c.gl fr y) λi=>intV i λ_ j=>dp (lenI c.P T) λk =>
 idxV k (slI c.P T) (evV c.gl fr x) (evA c.gl ad fr x) (arrI c.P T) j (finK dst K ad fr) st ds:=(rfl)
@[go_sem ↓] def Ub:vcOp c dst (.index T x y) K ad fr st ds=dp (evV c.gl fr y) λi=>intV i λ_ j=>dp (lenI c.P T) λk=>dp (evV c.gl fr x) λx=>nu k (arrI c.P T) x j (finK dst K ad fr) st ds:=(rfl)
@[go_sem ↓] def Uc (ok:Bool):vcOp c dst (.lookup T x y ok) K ad fr st ds=dp (mapI c.P T) λA=>dp (evV c.gl fr x) λx=>mapV x λm=>dp (evV c.gl fr y) λi=>keyV i λkey =>
 pc A m key ok (finK dst K ad fr) st ds:=(rfl)
@[go_sem ↓] def Ud:vcOp c dst (.mapUpdate T x y z) K ad fr st ds=dp (mapI c.P T) λA=>dp (evV c.gl fr x) λm=>mapV m λm=>dp (evV c.gl fr y) λi=>keyV i λkey =>
 dp (evV c.gl fr z) λy=>nv A m key y (finK dst K ad fr) st ds:=(rfl)
@[go_sem ↓] def Ue:vcOp c dst (.insert T x y z) K ad fr st ds=dp (mapI c.P T) λA=>dp (evV c.gl fr x) λm=>mapV m λm=>dp (evV c.gl fr y) λi=>keyV i λkey =>
   dp (evV c.gl fr z) λy=>nv A m key y (finK dst K ad fr) st ds:=(rfl)
@[go_sem ↓] def Uf:vcOp c dst (.extract x i) K ad fr st ds=dp (evV c.gl fr x) λx=>tupV x λvs=>dp (vs[i]?) λy=>finK dst K ad fr (.val y) st ds:=(rfl)
@[go_sem ↓] def Ug (D:Array Operand)(ts:Array TypeId):vcOp c dst (.call ⟨.value x,D,ts⟩) K ad fr st ds=mC c.esc c.pf x (evL c.gl fr D.toList) (finK dst K ad fr) st ds (dp (evV c.gl fr x) λf=>fnV f λf first A=>dp (evL c.gl fr D.toList) λD =>
 callV c.P c.gl f first A D st (ly (finK dst K ad fr) ds)):=(rfl)
@[go_sem ↓] def Uh (esc:List Nat)(pf:FuncId->List IV->Option IV)(g:FuncId)(A:Option (List IV))(old:Prop):mC esc pf (.func g) A R st ds old=if g+1000000∈esc then dp A λA=>dp (pf g A) λv=>R (.val v) st ds else old:=(rfl)
@[go_sem ↓] def Ui (esc:List Nat)(pf:FuncId->List IV->Option IV)(t:Nat)(A:Option (List IV))(old:Prop):mC esc pf (.tmp t) A R st ds old=old:=(rfl)
@[go_sem ↓] def Uj:vcOp c dst (.call ⟨.builtin .len,⟨[x]⟩,⟨[T]⟩⟩) K ad fr st ds=dp (lenI c.P T) λk=>dp (evV c.gl fr x) λx=>lenV c.dr k x (finK dst K ad fr) st ds:=(rfl)
@[go_sem ↓] def Uk:vcOp c dst (.call ⟨.builtin .append,⟨[x,y]⟩,⟨[T,T']⟩⟩) K ad fr st ds=dp (slI c.P T) λe=>appK (lenI c.P T') (intK c.P T')
   (dp (evV c.gl fr x) λs=>slY s (λD E=>dp (evV c.gl fr y) λy=>slV y λ_ ys=>appV c.esc dst e D E ys (finK dst K ad fr) st ds) (λb off n cap=>dp (evV c.gl fr y) λy=>slY y (λ_ ys=>qO c.esc dst (appO e b off n cap ys (finK dst K ad fr) st ds)) (λb2 A G _=>qO c.esc dst (appR e b off n cap b2 A G (finK dst K ad fr) st ds))))
   (dp (evV c.gl fr x) λs=>slV s λD _=>dp (evV c.gl fr y) λy=>intV y λ_ m=>appZ e D m (finK dst K ad fr) st ds):=(rfl)
@[go_sem ↓] def Ul:vcOp c dst (.call ⟨.builtin .cap,⟨[x]⟩,⟨[T]⟩⟩) K ad fr st ds=dp (slI c.P T) λ_=>dp (evV c.gl fr x) λx=>capV x (finK dst K ad fr) st ds:=(rfl)
@[go_sem ↓] def Um:vcOp c dst (.call ⟨.builtin .clear,⟨[x]⟩,⟨[T]⟩⟩) K ad fr st ds=dp (slI c.P T) λe=>dp (eO c.P e.1) λ_=>dp (evV c.gl fr x) λx=>o_ e x (finK dst K ad fr) st ds:=(rfl)
@[go_sem ↓] def Un:vcOp c dst (.makeSlice T x y) K ad fr st ds=dp (slI c.P T) λe=>dp (evV c.gl fr x) λl=>intV l λ_ p=>dp (evV c.gl fr y) λm=>intV m λ_ q=>ov (eO c.P e.1) c.esc dst e p q (finK dst K ad fr) st ds:=(rfl)
@[go_sem ↓] def Uo (ts:Array TypeId):vcOp c dst (.call ⟨.builtin .max,⟨[x,y]⟩,ts⟩) K ad fr st ds=dp (evV c.gl fr x) λx=>dp (evV c.gl fr y) λy=>intV x λk a=>intV y λA b =>
 if k=A then finK dst K ad fr (.val (.raw (.int k (max a b)))) st ds else False:=(rfl)
@[go_sem ↓] def Up (D:Array Operand)(ts:Array TypeId):vcOp c dst (.defer ⟨.value x,D,ts⟩) K ad fr st ds=if c.rd=true then False else dp (evV c.gl fr x) λf=>fnV f λf first A =>
 dp (evL c.gl fr D.toList) λD=>finK dst K ad fr .nop st (.call f A (first++D)::ds):=(rfl)
@[go_sem ↓] def Uq:vcOp c dst (.nilCheck x) K ad fr st ds=nilV (evV c.gl fr x) (evA c.gl ad fr x) c.dr (finK dst K ad fr) st ds:=(rfl)
end
def jI (fr:Fr)(d:Nat)(A:Bool)(s:SV)(D:Fr->Prop)(skip:Fr->Prop)(_:Lock D)(_:Lock skip):Prop :=
 match s with
 | .iv (.raw (.bool b))=>(b=A->Hold true (D (fr.put d (.iv (.raw (.bool A))))))/\(b=!A->Hold true (skip (fr.put d (.iv (.raw (.bool !A))))))
 | .iv (.raw (.tuple _))=>Hold true (skip fr)
 | _=>False
@[go_sem] def Ur (fr:Fr)(d:Nat)(A:Bool)(D skip:Fr->Prop)(k:Lock D)(l:Lock skip):jI fr d A (.iv (.raw undef)) D skip k l=Hold true (skip fr):=(rfl)
@[congr] def Ut (fr:Fr)(d:Nat)(A:Bool){s s':SV}(D skip:Fr->Prop)(k:Lock D)(l:Lock skip)(h:s=s'):jI fr d A s D skip k l=jI fr d A s' D skip k l:=by rw[h]
def AU (fr:Fr)(d:Nat)(A b:Bool)(E skip:Fr->Prop)(k:Lock E)(l:Lock skip)(hs:fr d=.iv (.raw (.bool b))) :
  jI fr d A (.iv (.raw (.bool b))) E skip k l=((b=A->E fr)/\(b=!A->skip fr)):=by
 have D:fr.put d (.iv (.raw (.bool b)))=fr:=by
  funext s;rw[Fr.put_apply];split
  ·rename_i h;rw[h,hs]
  ·rfl
 unfold jI Hold;by_cases h:b=A
 ·subst h;simp[D]
 ·have:b=!A:=by cases b<;>cases A<;>simp_all
  subst this;simp[D]
def fU (c:Cf)(ops:List Oper):List Oper->(Fr->ISt->List Dfd->Prop)->Kt
 | [],Q,_,fr,st,ds=>Q fr st ds
 | o::rest,Q,ad,fr,st,ds =>
  match o.guard with
  | none=>vcOp c o.dst o.op (fU c ops rest Q) ad fr st ds
  | some (j,A)=>match (ops[j]?).bind (·.dst) with
   | some d=>jI fr d A (fr d) (λfr=>vcOp c o.dst o.op (fU c ops rest Q) ad fr st ds) (λfr=>finK o.dst (fU c ops rest Q) ad fr (.val (.raw undef)) st ds) .mk .mk
   | none=>False
@[go_sem ↓] def Uu (c:Cf)(ops:List Oper)(Q:Fr->ISt->List Dfd->Prop)(ad:Ad)(fr:Fr)(st:ISt)(ds:List Dfd):fU c ops [] Q ad fr st ds=Q fr st ds:=(rfl)
@[go_sem ↓] def Uv (c:Cf)(ops rest:List Oper)(dst:Option Nat)(op:Op)(D:TypeId)(pos:String)(A:Array Edge)(Q:Fr->ISt->List Dfd->Prop)(ad:Ad)(fr:Fr)(st:ISt)
  (ds:List Dfd):fU c ops (⟨dst,op,D,pos,A,none⟩::rest) Q ad fr st ds=vcOp c dst op (fU c ops rest Q) ad fr st ds:=(rfl)
def gV (ops:List Oper)(j:Nat):Option Nat:=(ops[j]?).bind (·.dst)
@[go_sem ↓] def Uw (o:Oper)(ops:List Oper):gV (o::ops) 0=o.dst:=(rfl)
@[go_sem ↓] def Ux (o:Oper)(ops:List Oper)(j:Nat):gV (o::ops) (j+1)=gV ops j:=by simp[gV]
@[go_sem ↓] def Uy (c:Cf)(ops rest:List Oper)(dst:Option Nat)(op:Op)(E:TypeId)(pos:String)(D:Array Edge)(j:Nat)(A:Bool)(Q:Fr->ISt->List Dfd->Prop)(ad:Ad)
  (fr:Fr) (st:ISt) (ds:List Dfd):fU c ops (⟨dst,op,E,pos,D,some (j,A)⟩::rest) Q ad fr st ds =
   dp (gV ops j) λd=>jI fr d A (fr d) (λfr=>vcOp c dst op (fU c ops rest Q) ad fr st ds) (λfr=>finK dst (fU c ops rest Q) ad fr (.val (.raw undef)) st ds) .mk .mk:=by
 simp only[fU,gV];cases (ops[j]?).bind (·.dst)<;>rfl
@[go_sem] def Uz (fr:Fr)(d:Nat)(A:Bool)(D skip:Fr->Prop)(k:Lock D)(l:Lock skip):jI fr d A (.iv (.raw (.bool A))) D skip k l=Hold true (D (fr.put d (.iv (.raw (.bool A))))):=by
 unfold jI;cases A<;>simp[Hold]
abbrev Kc:=Exit->Fr->ISt->List Dfd->Prop
def pd (J:Nat->Fr->ISt->List Dfd->Prop)(m:Nat)(Q:Kc):Kc
 | .normal,fr,st,ds=>∃A,A<m/\J A fr st ds
 | e,fr,st,ds=>Q e fr st ds
def LoopV (body:Fr->ISt->List Dfd->(Kc)->Prop)(Q:Kc)(fr:Fr)(st:ISt)(ds:List Dfd)(_:Lock body)(_:Lock Q):Prop :=
 ∃J:Nat->Fr->ISt->List Dfd->Prop,(∃m,J m fr st ds)/\∀m fr' st' A,J m fr' st' A->body fr' st' A (pd J m Q)
def seqK (k:Fr->ISt->List Dfd->Prop)(Q:Kc):Kc
 | .normal,fr,st,ds=>k fr st ds
 | e,fr,st,ds=>Q e fr st ds
def ow (id:Nat)(Q:Kc):Kc
 | .exit id',fr,st,ds=>if id'=id then Q .normal fr st ds else Q (.exit id') fr st ds
 | e,fr,st,ds=>Q e fr st ds
def vL (Q:Kc):Kc
 | .goto _,_,_,_=>False
 | e,fr,st,ds=>Q e fr st ds
