/- The layer of ideal values, part D: the c -/
import Derived.Test.YtigeiecfkoimpaaGreatDoorJA
set_option linter.all false
namespace Go.Iv
open Go
def ends (C:Cx)(X:WS)(K:IV->ISt->Prop)(v:Value)(w':World):Prop :=
 ∃X' x,X'.w=w'/\Good C X'/\Ext X X'/\C.v X' v x/\K x X'.st
def ICall (P:Program)(gl:Nat->Option IV)(f:FuncId)(args:List IV)(st:ISt)(K:IV->ISt->Prop):Prop :=
 ∀(B:Nat) (X:WS) (rs:List Value),Good ⟨P,gl,B⟩ X->X.st=st->Cx.vl ⟨P,gl,B⟩ X rs args →
  Calls P f ⟨rs⟩ X.w λe w'=>∃v,e=.returned v/\ends ⟨P,gl,B⟩ X K v w'
@[congr] def Se {args args':List IV}(P:Program)(gl:Nat->Option IV)(f:FuncId)(st:ISt)(K:IV->ISt->Prop)(h:args=args') :
  ICall P gl f args st K=ICall P gl f args' st K:=by rw[h]
def CallsVal (P:Program)(fv:Value)(rs:Array Value)(w:World)(R:Value->World->Prop):Prop :=
 match (do let d <- Deferred.ofValue fv rs;invoke d.target d.args:Sem Next).run P w with
 | .ok (.enter f args) w'=>w'=w/\Calls P f args w λe D=>∃v,e=.returned v/\R v D
 | .ok (.round l f tmps assign body) w'=>w'=w/\RoundIn Fence.wide 0 P l f tmps assign body w λe D=>∃v,e=.returned v/\R v D
 | _=>False
def ICallV (P:Program)(gl:Nat->Option IV)(f:IV)(args:List IV)(st:ISt)(K:IV->ISt->Prop):Prop :=
 ∀(B:Nat) (X:WS) (fv:Value) (rs:List Value),Good ⟨P,gl,B⟩ X->X.st=st->Cx.v ⟨P,gl,B⟩ X fv f->Cx.vl ⟨P,gl,B⟩ X rs args →
  CallsVal P fv ⟨rs⟩ X.w (ends ⟨P,gl,B⟩ X K)
def vR {C:Cx}{X:WS}{K K':IV->ISt->Prop}{v:Value}{w':World}(h:ends C X K v w')(D:∀x st,K x st->K' x st):ends C X K' v w':=by
 obtain⟨X',x,h1,h2,J,G,E⟩:=h;exact⟨X',x,h1,h2,J,G,D _ _ E⟩
def ICall.mono {P:Program}{gl:Nat->Option IV}{f:FuncId}{args:List IV}{st:ISt}{K K':IV->ISt->Prop}(h:ICall P gl f args st K)(E:∀x st,K x st->K' x st) :
  ICall P gl f args st K':=λB X rs G hst hv=>(h B X rs G hst hv).mono λe w' D=>by
 obtain⟨v,D,h⟩:=D;exact⟨v,D,vR h E⟩
def ICall.q{P:Program}{gl:Nat→Option IV}{f:FuncId}{args:List IV}{st s:ISt}{r:IV}{K:IV→ISt→Prop}(h:ICall P gl f args st (λx y=>x=r/\y=s))(k:K r s):ICall P gl f args st K:=h.mono (by rintro _ _ ⟨rfl,rfl⟩;exact k)
def CallsVal.mono {P:Program}{fv:Value}{rs:Array Value}{w:World}{R R':Value->World->Prop}(h:CallsVal P fv rs w R)(G:∀v w',R v w'->R' v w'):CallsVal P fv rs w R':=by
 unfold CallsVal at *;generalize (do let d <- Deferred.ofValue fv rs;invoke d.target d.args:Sem Next).run P w=r at *;cases r with
 | halt x w'=>exact h
 | ok n w' =>
  cases n<;>first
   | exact h
   | exact⟨h.1,h.2.mono λe E D=>by obtain⟨v,D,J⟩:=D;exact⟨v,D,G _ _ J⟩⟩
def ICallV.mono {P:Program}{gl:Nat->Option IV}{f:IV}{args:List IV}{st:ISt}{K K':IV->ISt->Prop}(h:ICallV P gl f args st K)(D:∀x st,K x st->K' x st) :
  ICallV P gl f args st K':=λB X fv rs E hst G hv=>(h B X fv rs E hst G hv).mono λ_ _ J=>vR J D
def callV (P:Program)(gl:Nat->Option IV)(f:Fn)(first D args:List IV)(st:ISt)(K:IV->ISt->Prop):Prop :=
 match f with
 | .func g=>if entI P g=true then ICall P gl g (first++args++D) st K else False
 | f=>ICallV P gl (.fn f first D) args st K
@[congr] def Sf {args args':List IV}(P:Program)(gl:Nat->Option IV)(f:Fn)(first D:List IV)(st:ISt)(K:IV->ISt->Prop)(h:args=args') :
  callV P gl f first D args st K=callV P gl f first D args' st K:=by rw[h]
@[go_sem] def Sg (P:Program)(gl:Nat->Option IV)(g:FuncId)(first D args:List IV)(st:ISt)(K:IV->ISt->Prop) :
  callV P gl (.func g) first D args st K=if entI P g=true then ICall P gl g (first++args++D) st K else False:=(rfl)
def callV.mono {P:Program}{gl:Nat->Option IV}{f:Fn}{first D args:List IV}{st:ISt}{K K':IV->ISt->Prop}(h:callV P gl f first D args st K)
  (E:∀x st,K x st->K' x st):callV P gl f first D args st K':=by
 unfold callV at *;split at h
 ·split at h
  ·rename_i G;rw[cX G];exact h.mono E
  ·exact h.elim
 ·exact h.mono E
structure Cf where
 P:Program
 gl:Nat->Option IV
 esc:List Nat
 /-- in a round of a range over a function -/
 rd:Bool
 /-- in a region that draws its order -/
 dr:Bool
 /-- regions that are gone through in another order than the text's -/
 ord:List (Nat×List Nat):=[]
 /-- slots of boxes that are never written again -/
 frz:List Nat:=[]
 /-- functions whose number, and a million, is among 'esc': what they hand back, whatever is owned -/
 pf:FuncId->List IV->Option IV:=λ_ _=>none
 pok:∀g aL v,pf g aL=some v->entI P g=true/\∀st,ICall P gl g aL st (λr st'=>r=v/\st'=st):=by intro _ _ _ h;exact nomatch h
abbrev Cf.cx (c:Cf)(B:Nat):Cx:={ P:=c.P,gl:=c.gl,B:=B }
def boxV:SV->(List IV->Prop)->Prop
 | .box cs,f=>f cs
 | _,_=>False
@[congr] def Sh {s s':SV}(f:List IV->Prop)(h:s=s'):boxV s f=boxV s' f:=by rw[h]
@[go_sem] def Si (cs:List IV)(f:List IV->Prop):boxV (.box cs) f=f cs:=(rfl)
def obV:IObj->(List IV->Prop)->Prop
 | .box cs,f=>f cs
 | _,_=>False
@[go_sem] def Sj (cs:List IV)(f:List IV->Prop):obV (.box cs) f=f cs:=(rfl)
def omV:IObj->(KeyK->List (Value×IV)->Prop)->Prop
 | .map k es,f=>f k es
 | _,_=>False
@[go_sem] def Sk (k:KeyK)(cs:List (Value×IV))(f:KeyK->List (Value×IV)->Prop):omV (.map k cs) f=f k cs:=(rfl)
def intV:IV->(IntKind->Int->Prop)->Prop
 | .raw (.int k n),f=>f k n
 | _,_=>False
@[go_sem] def Sl (k:IntKind)(n:Int)(f:IntKind->Int->Prop):intV (.raw (.int k n)) f=f k n:=(rfl)
def k9:IV->(Bool->Prop)->Prop
 | .raw (.bool b),f=>f b
 | _,_=>False
@[go_sem] def Sr (b:Bool)(f:Bool->Prop):k9 (.raw (.bool b)) f=f b:=(rfl)
def slV:IV->(Tag->List IV->Prop)->Prop
 | .sl t xs,f=>f t xs
 | _,_=>False
@[go_sem] def St (t:Tag)(xs:List IV)(f:Tag->List IV->Prop):slV (.sl t xs) f=f t xs:=(rfl)
def slX:IV->(Tag->List IV->Prop)->(Nat->Nat->Nat->Prop)->Prop
 | .sl t xs,f,_=>f t xs
 | .raw (.slice (some ⟨b,off,none⟩) n _),_,g=>g b off n
 | _,_,_=>False
@[go_sem] def Su (t:Tag)(xs:List IV)(f:Tag->List IV->Prop)(g:Nat->Nat->Nat->Prop):slX (.sl t xs) f g=f t xs:=(rfl)
@[go_sem] def Sv (b off n cap:Nat)(f:Tag->List IV->Prop)(g:Nat->Nat->Nat->Prop):slX (.raw (.slice (some ⟨b,off,none⟩) n cap)) f g=g b off n:=(rfl)
def slY:IV->(Tag->List IV->Prop)->(Nat->Nat->Nat->Nat->Prop)->Prop
 | .sl t xs,f,_=>f t xs
 | .raw (.slice (some ⟨b,off,none⟩) n cap),_,g=>g b off n cap
 | _,_,_=>False
@[go_sem] def Sw (t:Tag)(xs:List IV)(f:Tag->List IV->Prop)(g:Nat->Nat->Nat->Nat->Prop):slY (.sl t xs) f g=f t xs:=(rfl)
@[go_sem] def Sx (b off n cap:Nat)(f:Tag->List IV->Prop)(g:Nat->Nat->Nat->Nat->Prop):slY (.raw (.slice (some ⟨b,off,none⟩) n cap)) f g=g b off n cap:=(rfl)
def aggV:IV->(List IV->Prop)->Prop
 | .agg xs,f=>f xs
 | _,_=>False
@[go_sem] def Sy (xs:List IV)(f:List IV->Prop):aggV (.agg xs) f=f xs:=(rfl)
def tupV:IV->(List IV->Prop)->Prop
 | .tup xs,f=>f xs
 | _,_=>False
@[go_sem] def Sz (xs:List IV)(f:List IV->Prop):tupV (.tup xs) f=f xs:=(rfl)
def fnV:IV->(Fn->List IV->List IV->Prop)->Prop
 | .fn g a b,f=>f g a b
 | _,_=>False
@[go_sem] def SA (g:Fn)(a b:List IV)(f:Fn->List IV->List IV->Prop):fnV (.fn g a b) f=f g a b:=(rfl)
def mapV:IV->(Option Nat->Prop)->Prop
 | .raw (.map m),f=>f m
 | _,_=>False
@[go_sem] def SB (m:Option Nat)(f:Option Nat->Prop):mapV (.raw (.map m)) f=f m:=(rfl)
def rawV:IV->(Value->Prop)->Prop
 | .raw v,f=>f v
 | _,_=>False
def keyV:IV->(Value->Prop)->Prop
 | .raw v,f=>f v
 | .agg [.raw (.string s),.raw (.int k n)],f=>giv (s.size<=281474976710656) (f (.agg #[.string s,.int k n]))
 | .agg [.raw (.bool b),.raw (.int k n)],f=>f (.agg #[.bool b,.int k n])
 | .agg [.raw (.int k n),.raw (.bool b)],f=>f (.agg #[.int k n,.bool b])
 | _,_=>False
@[go_sem] def SC (v:Value)(f:Value->Prop):keyV (.raw v) f=f v:=(rfl)
@[go_sem] def SD (b:Bool)(k:IntKind)(n:Int)(f:Value->Prop):keyV (.agg [.raw (.int k n),.raw (.bool b)]) f=f (.agg #[.int k n,.bool b]):=(rfl)
def adrV:IV->(Nat->Prop)->Prop
 | .raw (.pointer (some ⟨b,0,none⟩)),f=>f b
 | _,_=>False
def itO:IObj->(Nat->Nat->Array Nat->Nat->Prop)->Prop
 | .iter m s e c,f=>f m s e c
 | _,_=>False
def mxO:IObj->(Array MapEntry->Nat->Prop)->Prop
 | .mapx e c,f=>f e c
 | _,_=>False
def nxR (D:Array MapEntry)(seen:Array Nat)(p:Prop)(q:MapEntry->IV->Prop)(_:Lock p)(_:Lock q):Prop:=(sY D seen=[]->p)/\∀e∈sY D seen,∀k,keyI e.key=some k->q e k
inductive PR where
 | val (x:IV)
 | adr (t off:Nat)
 | box (cs:List IV)
 | sto (t:Nat) (cs:List IV)
 | nop
abbrev Rt:=PR->ISt->List Dfd->Prop
abbrev Kt:=Ad->Fr->ISt->List Dfd->Prop
def finK (dst:Option Nat)(K:Kt)(ad:Ad)(fr:Fr):Rt
 | .val x,st,ds=>match dst with
  | some d=>K (ad.put d none) (fr.put d (.iv x)) st ds
  | none=>K ad fr st ds
 | .adr t off,st,ds=>match dst with
  | some d=>if d=t then False else K (ad.put d (some (t,off))) (fr.put d (.iv .junk)) st ds
  | none=>K ad fr st ds
 | .box cs,st,ds=>match dst with
  | some d=>K (ad.put d none) (fr.put d (.box cs)) st ds
  | none=>False
 | .sto t cs,st,ds=>match dst with
  | some _=>False
  | none=>K ad (fr.put t (.box cs)) st ds
 | .nop,st,ds=>match dst with
  | some _=>False
  | none=>K ad fr st ds
def plR (p:Pl)(R:Rt)(st:ISt)(ds:List Dfd):Prop :=
 match p with
 | .box t off=>R (.adr t off) st ds
 | .ptr b off=>R (.val (.raw (.pointer (some ⟨b,off,none⟩)))) st ds
 | .cp x=>R (.val (.cptr x)) st ds
def k_ (esc:List Nat)(dst:Option Nat)(cs:List IV)(R:Rt)(st:ISt)(ds:List Dfd):Prop :=
 match dst with
 | some d=>if d∈esc then ∀b,giv (st b=none) (R (.val (.raw (.pointer (some ⟨b,0,none⟩)))) (st.put b (some (.box cs))) ds) else R (.box cs) st ds
 | none=>False
def mE (frz esc:List Nat)(dst:Option Nat)(y:IV)(R:Rt)(st:ISt)(ds:List Dfd):Prop :=
 match dst with
 | some d=>if d∈frz then R (.val (.cptr y)) st ds else k_ esc (some d) y.cells R st ds
 | none=>False
def ic (esc:List Nat):Option Nat->Bool
 | some d=>esc.contains d
 | none=>false
def mF (esc:List Nat)(dst:Option Nat)(es:Nat)(ys:List IV)(R:Rt)(st:ISt)(ds:List Dfd):Prop :=
 if ic esc dst=true then ∀b,giv (st b=none) (R (.val (.raw (.slice (some ⟨b,0,none⟩) ys.length ys.length))) (st.put b (some (.box (ys.flatMap IV.cells)))) ds)
 else R (.val (.sl ⟨true,.full,es⟩ ys)) st ds
def kJ (dr:Bool)(o:Option IV)(p:Option Pl)(R:Rt)(st:ISt)(ds:List Dfd):Prop :=
 match o with
 | some x=>R (.val x) st ds
 | none=>if dr=true then False else du p λp=>plR p R st ds
@[congr] def SE {o o':Option IV}(dr:Bool)(p:Option Pl)(R:Rt)(st:ISt)(ds:List Dfd)(h:o=o'):kJ dr o p R st ds=kJ dr o' p R st ds:=by rw[h]
def ldr (dr:Bool)(esc:List Nat)(dst:Option Nat):Bool:=dr&&!ic esc dst
@[go_sem] def SF (dr:Bool)(esc:List Nat)(d:Nat):ldr dr esc (some d)=if d∈esc then false else dr:=by
 unfold ldr ic;by_cases h:d∈esc<;>simp[h]
def jZ (dr ag:Bool)(n:Nat)(p:Pl)(fr:Fr)(R:Rt)(st:ISt)(ds:List Dfd):Prop :=
 match p with
 | .box t off=>boxV (fr t) λcs=>du (gw ag n cs off) λy=>R (.val y) st ds
 | .ptr b off=>if dr=true then False else du (st b) λo=>obV o λcs=>du (gw ag n cs off) λy=>R (.val y) st ds
 | .cp y=>if fits ag n y=true then R (.val y) st ds else False
def lG (y:List IV)(p:Pl)(fr:Fr)(R:Rt)(st:ISt)(ds:List Dfd):Prop :=
 match p with
 | .box t off=>boxV (fr t) λcs=>if off+y.length<=cs.length then R (.sto t (fu cs off y)) st ds else False
 | .ptr b off=>du (st b) λo=>obV o λcs=>if off+y.length<=cs.length then R .nop (st.put b (some (.box (fu cs off y)))) ds else False
 | .cp _=>False
def nB (f:Nat×Bool×Nat)(p:Pl)(R:Rt)(st:ISt)(ds:List Dfd):Prop :=
 match p with
 | .box t off=>R (.adr t (off+f.1)) st ds
 | .ptr b off=>R (.val (.raw (.pointer (some ⟨b,off+f.1,none⟩)))) st ds
 | .cp x=>aggV x λcs=>du (gw f.2.1 f.2.2 cs f.1) λy=>if fits f.2.1 f.2.2 y=true then R (.val (.cptr y)) st ds else False
def oz (len:Nat)(ag:Bool)(n j:Nat)(p:Pl)(R:Rt)(st:ISt)(ds:List Dfd):Prop :=
 if j<len then match p with
  | .box t off=>R (.adr t (off+j*n)) st ds
  | .ptr b off=>R (.val (.raw (.pointer (some ⟨b,off+j*n,none⟩)))) st ds
  | .cp x=>aggV x λcs=>du (gw ag n cs (j*n)) λy=>if fits ag n y=true then R (.val (.cptr y)) st ds else False
 else False
def gP (P:Program)(T:TypeId):Bool :=
 match P.underlying T with
 | some (.struct D)=>D.toList.all λf=>(P.info? f.type).isSome
 | some (.array _ e)=>(P.info? e).isSome
 | _=>false
def orO {α:Type}:Option α->Option α->Option α
 | some a,_=>some a
 | none,b=>b
def bfI (P:Program)(T:TypeId)(i:Nat):Option (Nat×Bool×Nat):=orO (fldI P T i) ((arrI P T).map λe=>(i*e.2.2,e.2))
def la:Nat->List (Nat×Operand)->Bool
 | n,l=>(l.map (·.1)) == List.range n
def kK (P:Program)(gl:Nat->Option IV)(fr:Fr)(T:TypeId):List IV->List (Nat×Operand)->Option (List IV)
 | cs,[]=>some cs
 | cs,(i,x)::l=>match bfI P T i,evV gl fr x with
  | some f,some y=>if y.cells.length=f.2.2/\f.1+y.cells.length<=cs.length/\fits f.2.1 f.2.2 y=true then kK P gl fr T (fu cs f.1 y.cells) l else none
  | _,_=>none
def pg (P:Program)(gl:Nat->Option IV)(fr:Fr)(T:TypeId)(cs:List IV)(l:List (Nat×Operand)):Option (Nat×Bool×Nat)->Option IV->Option (List IV)
 | some f,some y=>if y.cells.length=f.2.2/\f.1+y.cells.length<=cs.length/\fits f.2.1 f.2.2 y=true then kK P gl fr T (fu cs f.1 y.cells) l else none
 | _,_=>none
inductive LenK where
 | str|sl|map|arr (n:Nat)
def lenI (P:Program)(T:TypeId):Option LenK :=
 match P.underlying T with
 | some .string=>some .str
 | some (.slice _)=>some .sl
 | some (.map _ _)=>some .map
 | some (.array n _)=>some (.arr n)
 | _=>none
def lenV (dr:Bool)(k:LenK)(x:IV)(R:Rt)(st:ISt)(ds:List Dfd):Prop :=
 match k with
 | .str=>rawV x λv=>match v with
  | .string s=>(dr=false->s.size<=281474976710656)->R (.val (.raw (.int .i64 s.size))) st ds
  | _=>False
 | .sl=>slX x (λ_ xs=>(dr=false->xs.length<=140737488355328)->R (.val (.raw (.int .i64 xs.length))) st ds) (λ_ _ n=>R (.val (.raw (.int .i64 n))) st ds)
 | .map=>if dr=true then False else mapV x λm=>match m with
  | none=>R (.val (.raw (.int .i64 0))) st ds
  | some b=>du (st b) λo=>omV o λ_ es=>R (.val (.raw (.int .i64 es.length))) st ds
 | .arr n=>R (.val (.raw (.int .i64 n))) st ds
def appV (esc:List Nat)(dst:Option Nat)(e:TypeId×Bool×Nat×Nat)(D:Tag)(xs ys:List IV)(R:Rt)(st:ISt)(ds:List Dfd):Prop :=
 chk (ys.all (fits e.2.1 e.2.2.1)=true) <| chk ((xs.length+ys.length)*e.2.2.2<=140737488355328/\xs.length+ys.length<=140737488355328) <|
  match D.cap with
  | .nil=>match ys with
   | []=>R (.val (.sl D xs)) st ds
   | _=>if ic esc dst=true then ∀g cap,giv (st g=none/\ys.length<=cap) (R (.val (.raw (.slice (some ⟨g,0,none⟩) ys.length cap))) (st.put g (some (.box (ys.flatMap IV.cells++List.replicate ((cap-ys.length)*e.2.2.1) .junk)))) ds)
    else ∀g,giv (st g=none) (R (.val (.sl ⟨true,.app g,e.2.2.1⟩ ys)) (st.put g (some (.front ys.length e.2.2.1))) ds)
  | .full=>chk (D.es=e.2.2.1) <| match ys with
   | []=>R (.val (.sl D xs)) st ds
   | _=>∀g,giv (st g=none) (R (.val (.sl ⟨true,.app g,e.2.2.1⟩ (xs++ys))) (st.put g (some (.front (xs.length+ys.length) e.2.2.1))) ds)
  | .app g₀=>chk (D.es=e.2.2.1) <| chk (st g₀=some (.front xs.length e.2.2.1)) <|
   ∀g,giv (g=g₀\/st g=none) (R (.val (.sl ⟨D.fresh,.app g,e.2.2.1⟩ (xs++ys))) ((st.put g₀ none).put g (some (.front (xs.length+ys.length) e.2.2.1))) ds)
  | .none=>match ys with
   | []=>R (.val (.sl D xs)) st ds
   | _=>False
def appO (e:TypeId×Bool×Nat×Nat)(b off n cap:Nat)(ys:List IV)(R:Rt)(st:ISt)(ds:List Dfd):Prop :=
 chk (off=0/\ys.all (fits e.2.1 e.2.2.1)=true) <| chk ((n+ys.length)*e.2.2.2<=140737488355328/\n+ys.length<=140737488355328) <| du (st b) λo=>obV o λcs=>chk (n<=cap/\cap*e.2.2.1<=cs.length) <|
  jl (decide (n+ys.length<=cap)) (R (.val (.raw (.slice (some ⟨b,0,none⟩) (n+ys.length) cap))) (st.put b (some (.box (fu cs (n*e.2.2.1) (ys.flatMap IV.cells))))) ds)
   ((∀g D,giv (st g=none/\n+ys.length<=D) (R (.val (.raw (.slice (some ⟨g,0,none⟩) (n+ys.length) D)))
    ((st.put b none).put g (some (.box (cs.take (n*e.2.2.1)++ys.flatMap IV.cells++List.replicate ((D-(n+ys.length))*e.2.2.1) .junk)))) ds)) \/
    ∀g D,giv (st g=none/\n+ys.length<=D) (R (.val (.raw (.slice (some ⟨g,0,none⟩) (n+ys.length) D)))
    (st.put g (some (.box (cs.take (n*e.2.2.1)++ys.flatMap IV.cells++List.replicate ((D-(n+ys.length))*e.2.2.1) .junk)))) ds)) .mk .mk
def qX (esc:List Nat):Option Nat->Bool
 | some d=>esc.contains (d+2000000)
 | none=>false
def qO (esc:List Nat)(dst:Option Nat)(p:Prop):Prop:=if qX esc dst=true then False else p
@[go_sem ↓] def SG (esc:List Nat)(d:Nat)(p:Prop):qO esc (some d) p=if d+2000000∈esc then False else p:=by
 unfold qO qX;by_cases h:d+2000000∈esc<;>simp[h]
def appR (e:TypeId×Bool×Nat×Nat)(b off n cap b2 D E:Nat)(R:Rt)(st:ISt)(ds:List Dfd):Prop :=
 chk (off=0/\b2=b) <| du (st b) λo=>obV o λcs=>chk (n<=cap/\cap*e.2.2.1<=cs.length/\n+E<=cap/\D+E*e.2.2.1<=cs.length/\((cs.drop D).take (E*e.2.2.1)).all IV.one=true) <|
  R (.val (.raw (.slice (some ⟨b,0,none⟩) (n+E) cap))) (st.put b (some (.box (fu cs (n*e.2.2.1) ((cs.drop D).take (E*e.2.2.1)))))) ds
def appZ (e:TypeId×Bool×Nat×Nat)(D:Tag)(m:Int)(R:Rt)(st:ISt)(ds:List Dfd):Prop :=
 chk (D.cap=.nil/\0<m/\m*e.2.2.2<=140737488355328/\m<=140737488355328/\1<=e.2.2.1) <|
  ∀g cap,giv (st g=none/\m.toNat<=cap) (R (.val (.raw (.slice (some ⟨g,0,none⟩) m.toNat cap))) (st.put g (some (.box (List.replicate (cap*e.2.2.1) .junk)))) ds)
def capV (x:IV)(R:Rt)(st:ISt)(ds:List Dfd):Prop :=
 slY x (λD xs=>match D.cap with
  | .nil=>R (.val (.raw (.int .i64 0))) st ds
  | .full=>R (.val (.raw (.int .i64 xs.length))) st ds
  | _=>False) (λ_ _ _ cap=>R (.val (.raw (.int .i64 cap))) st ds)
def ph (e:TypeId×Bool×Nat×Nat)(x:IV)(R:Rt)(st:ISt)(ds:List Dfd):Prop :=
 slY x (λ_ _=>False) λb off n _=>if n=0 then R (.val (.tup [])) st ds else
  du (st b) λo=>obV o λcs=>if off+n*e.2.2.1<=cs.length then R (.val (.tup [])) (st.put b (some (.box (fu cs off (List.replicate (n*e.2.2.1) .junk))))) ds else False
def lenZ (p:Int):Nat:=p.toNat
@[go_sem] def SH (n:Nat):lenZ (n:Int)=n:=(rfl)
def A4 (esc:List Nat):Option Nat->Bool
 | some d=>esc.contains (d+3000000)
 | none=>false
def oA (z:Option IV)(esc:List Nat)(dst:Option Nat)(e:TypeId×Bool×Nat×Nat)(p q:Int)(R:Rt)(st:ISt)(ds:List Dfd):Prop :=
 chk ((p=0\/p=q)/\0<=q/\q*e.2.2.2<=140737488355328/\q<=140737488355328) <|
 if A4 esc dst=true then chk (e.2.2.1=1) (du z λy=>chk (y.one=true) (∀g,giv (st g=none) (R (.val (.raw (.slice (some ⟨g,0,none⟩) (lenZ p) q.toNat))) (st.put g (some (.box (List.replicate q.toNat y)))) ds)))
 else if ic esc dst=true then ∀g,giv (st g=none) (R (.val (.raw (.slice (some ⟨g,0,none⟩) (lenZ p) q.toNat))) (st.put g (some (.box (List.replicate (q.toNat*e.2.2.1) .junk)))) ds)
 else if e.2.2.1=0 then R (.val (.sl ⟨false,.none,0⟩ (List.replicate (lenZ p) (.agg [])))) st ds
 else chk (p=0) (∀g,giv (st g=none) (R (.val (.sl ⟨true,.app g,e.2.2.1⟩ [])) (st.put g (some (.front 0 e.2.2.1))) ds))
def gq (E D:Option Int)(len:Nat):Option (Nat×Nat) :=
 if 0<=E.getD 0/\E.getD 0<=D.getD len/\D.getD len<=len then some ((E.getD 0).toNat,(D.getD len).toNat) else none
def intI:Option IV->Option (Option Int)
 | some (.raw (.int _ n))=>some (some n)
 | _=>none
def iP (gl:Nat->Option IV)(fr:Fr):Option Operand->Option (Option Int)
 | none=>some none
 | some x=>intI (evV gl fr x)
@[go_sem ↓] def SI (gl:Nat->Option IV)(fr:Fr):iP gl fr none=some none:=(rfl)
@[go_sem ↓] def Io (gl:Nat->Option IV)(fr:Fr)(x:Operand):iP gl fr (some x)=intI (evV gl fr x):=(rfl)
@[go_sem] def SJ (k:IntKind)(n:Int):intI (some (.raw (.int k n)))=some (some n):=(rfl)
def reTag (es:Nat)(t:Tag):Tag:=match t.cap with|.nil=>⟨t.fresh,.nil,es⟩|_=>t
def okEs (t:Tag)(es:Nat):Prop:=t.cap=.nil\/t.es=es
@[go_sem] def SK (f:Bool)(c:Cap)(es:Nat):okEs ⟨f,c,es⟩ es=True:=by simp[okEs]
@[go_sem] def SL (f:Bool)(e es:Nat):okEs ⟨f,.nil,e⟩ es=True:=by simp[okEs]
def dB {t:Tag}{es:Nat}(h:okEs t es):(reTag es t).es=es:=by
 unfold reTag;split
 ·rfl
 ·rename_i D;exact h.resolve_left D
@[go_sem] def SM (f:Bool)(e es:Nat):reTag es ⟨f,.nil,e⟩=⟨f,.nil,es⟩:=(rfl)
@[go_sem] def SN (f:Bool)(e es g:Nat):reTag es ⟨f,.app g,e⟩=⟨f,.app g,e⟩:=(rfl)
def kL (D:Tag)(len h:Nat)(l:Nat)(max:Option Int):Tag :=
 if D.cap=.nil then D else match max with
 | some m=>if m=h then ⟨D.fresh,.full,D.es⟩ else ⟨D.fresh,.none,D.es⟩
 | none=>if l=0/\h=len then D else ⟨D.fresh,.none,D.es⟩
def arrV (ar:Option (Nat×Bool×Nat))(x:IV)(E D max:Option Int)(len:Nat)(R:Rt)(st:ISt)(ds:List Dfd):Prop :=
 match x,E,max with
 | .cptr (.agg cs),none,none=>du ar λ_=>chk (cs.length=len/\len<=140737488355328/\cs.all IV.one=true) (du (gq none D len) λp=>R (.val (.sl ⟨false,.none,1⟩ (cs.take p.2))) st ds)
 | _,_,_=>False
def kM (k:LenK)(s:Option (TypeId×Bool×Nat×Nat))(ar:Option (Nat×Bool×Nat))(x:IV)(D high max:Option Int)(R:Rt)(st:ISt)(ds:List Dfd):Prop :=
 match k with
 | .str=>rawV x λv=>match v with
  | .string s=>match max with
   | none=>du (gq D high s.size) λp=>R (.val (.raw (.string (s.extract p.1 p.2)))) st ds
   | some _=>False
  | _=>False
 | .sl=>du s λs=>slY x (λE xs=>chk ((reTag s.2.2.1 E).es=s.2.2.1) <| match high,max with
  | none,some _=>False
  | high,max=>du (gq D high xs.length) λp=>chk (∀m,max=some m->m=p.2) (R (.val (.sl (kL (reTag s.2.2.1 E) xs.length p.2 p.1 max) ((xs.drop p.1).take (p.2-p.1)))) st ds))
  (λb off n cap=>match max with
  | some _=>False
  | none=>chk (n<=cap) <| du (gq D high (if high=none then n else cap)) λp=>R (.val (.raw (.slice (some ⟨b,if cap=p.1 then off else off+p.1*s.2.2.1,none⟩) (p.2-p.1) (cap-p.1)))) st ds)
 | .arr len=>arrV ar x D high max len R st ds
 | .map=>False
def oB (s:ByteArray)(j:Int):Option UInt8:=if 0<=j then s[j.toNat]? else none
def nC (k:LenK)(e:Option (Nat×Bool×Nat))(x:IV)(j:Int)(R:Rt)(st:ISt)(ds:List Dfd):Prop :=
 match k with
 | .str=>rawV x λv=>match v with
  | .string s=>du (oB s j) λb=>R (.val (.raw (.int .u8 b.toNat))) st ds
  | _=>False
 | .arr len=>aggV x λcs=>du e λe=>if 0<=j/\j<len then du (gw e.2.1 e.2.2 cs (j.toNat*e.2.2)) λy=>R (.val y) st ds else False
 | _=>False
def lb (ok:Bool)(r:Option IV)(z:IV):Option IV:=some (if ok then .tup [r.getD z,.raw (.bool r.isSome)] else r.getD z)
def vS (ok:Bool)(v z:IV):lb ok (some v) z=some (if ok then .tup [v,.raw (.bool true)] else v):=rfl
def sZ (ok:Bool)(z:IV):lb ok none z=some (if ok then .tup [z,.raw (.bool false)] else z):=rfl
def pk (D:KeyK×IV)(m:Option Nat)(key:Value)(ok:Bool)(R:Rt)(st:ISt)(ds:List Dfd):Prop :=
 chk (fK D.1 key=true) <| match m with
  | none=>du (lb ok none D.2) λy=>R (.val y) st ds
  | some b=>du (st b) λo=>omV o λkk es=>chk (kk=D.1) (du (lb ok (f_ key es) D.2) λy=>R (.val y) st ds)
def nD (D:KeyK×IV)(m:Option Nat)(key:Value)(y:IV)(R:Rt)(st:ISt)(ds:List Dfd):Prop :=
 chk (fK D.1 key=true) <| match m with
  | some b=>du (st b) λo=>omV o λkk es=>chk (kk=D.1) (R .nop (st.put b (some (.map kk (updI key y es)))) ds)
  | none=>False
def s7 (m:Option Nat)(R:Rt)(st:ISt)(ds:List Dfd):Prop :=
 match m with
 | none=>False
 | some b=>du (st b) λo=>mxO o λ_ D=>∀r,giv (st r=none) (R (.val (.raw (.pointer (some ⟨r,0,none⟩)))) (st.put r (some (.iter b D #[] D))) ds)
def s8 (r:Nat)(R:Rt)(st:ISt)(ds:List Dfd):Prop :=
 du (st r) λo=>itO o λm D seen c0=>du (st m) λo'=>mxO o' λE G=>chk ((∀e∈E.toList,e.born<D/\(keyI e.key).isSome=true)/\D<=c0)
  (nxR E seen (R (.val (.tup [.raw (.bool false)])) st ds) (λe k=>R (.val (.tup [.raw (.bool true),k,.junk])) (st.put r (some (.iter m D (seen.push e.born) G))) ds) .mk .mk)
def s9 (r:Nat)(R:Rt)(st:ISt)(ds:List Dfd):Prop :=
 du (st r) λo=>itO o λm _ seen c0=>du (st m) λo'=>mxO o' λD E=>chk (c0=E/\(D.toList.map (·.born)).Nodup) (du (A3 D seen) λk=>R (.val (.tup [k,vQ D seen])) st ds)
def lH (R:Rt)(ds:List Dfd):IV->ISt->Prop:=λx st=>R (.val x) st ds
def mG (esc:List Nat)(pf:FuncId->List IV->Option IV)(f:Operand)(D:Option (List IV))(R:Rt)(st:ISt)(ds:List Dfd)(old:Prop):Prop :=
 match f with
 | .func g=>if g+1000000∈esc then du D λD=>du (pf g D) λv=>R (.val v) st ds else old
 | _=>old
def fnOk:Fn->Bool
 | .func _=>true
 | .yield _=>true
 | _=>false
def nilV (o:Option IV)(p:Option Pl)(dr:Bool)(R:Rt)(st:ISt)(ds:List Dfd):Prop :=
 match o with
 | some (.fn f first D)=>if fnOk f=true then R (.val (.fn f first D)) st ds else False
 | some (.cptr x)=>R (.val (.cptr x)) st ds
 | some (.raw (.pointer (some q)))=>if dr=true then R (.val (.raw (.pointer (some q)))) st ds else du p λp=>plR p R st ds
 | _=>if dr=true then False else du p λp=>plR p R st ds
@[congr] def SO {o o':Option IV}(p:Option Pl)(dr:Bool)(R:Rt)(st:ISt)(ds:List Dfd)(h:o=o'):nilV o p dr R st ds=nilV o' p dr R st ds:=by rw[h]
def idxV (k:LenK)(s:Option (TypeId×Bool×Nat×Nat))(xs:Option IV)(p:Option Pl)(e:Option (Nat×Bool×Nat))(j:Int)(R:Rt)(st:ISt)(ds:List Dfd):Prop :=
 match k with
 | .sl=>du s λs=>du xs λx=>slX x (λt xs=>if (reTag s.2.2.1 t).es=s.2.2.1 then if 0<=j then du (xs[j.toNat]?) λy=>R (.val (.cptr y)) st ds else False else False)
  (λb off n=>if 0<=j/\j.toNat<n then R (.val (.raw (.pointer (some ⟨b,off+j.toNat*s.2.2.1,none⟩)))) st ds else False)
 | .arr _=>du e λe=>du p λp=>if 0<=j then oz e.1 e.2.1 e.2.2 j.toNat p R st ds else False
 | _=>False
def appK (k:Option LenK)(i:Option IntKind)(f g:Prop):Prop :=
 match k,i with
 | some .sl,_=>f
 | none,some _=>g
 | _,_=>False
def vcR (c:Cf)(dst:Option Nat)(op:Op)(R:Rt)(ad:Ad)(fr:Fr)(st:ISt)(ds:List Dfd):Prop :=
 match op with
 | .move x|.assign x=>kJ c.dr (evV c.gl fr x) (evA c.gl ad fr x) R st ds
 | .pick b x y=>du (evV c.gl fr b) λb=>k9 b λb=>jl b (du (evV c.gl fr x) λx=>R (.val x) st ds) (du (evV c.gl fr y) λy=>R (.val y) st ds) .mk .mk
 | .alloc T=>du (eX c.P T) λz=>k_ c.esc dst z.cells R st ds
 | .box T x=>du (tyI c.P T) λ_=>du (evV c.gl fr x) λy=>chk (y.cells.all IV.one=true) (mE c.frz c.esc dst y R st ds)
 | .build T parts=>chk (gP c.P T=true) <| du (eX c.P T) λz=>du (kK c.P c.gl fr T z.cells parts.toList) λcs=>R (.val (.agg cs)) st ds
 | .buildSlice T len parts=>du (slI c.P T) λe=>chk (la len parts.toList=true/\len*e.2.2.1<=16777216/\1<=e.2.2.1) <|
   du (evL c.gl fr (parts.toList.map (·.2))) λys=>chk (ys.all (fits e.2.1 e.2.2.1)=true) (mF c.esc dst e.2.2.1 ys R st ds)
 | .load T a=>du (tyI c.P T) λi=>du (evA c.gl ad fr a) λp=>jZ (ldr c.dr c.esc dst) i.1 i.2 p fr R st ds
 | .store T a x=>du (tyI c.P T) λi=>du (evV c.gl fr x) λy=>chk (y.cells.length=i.2/\y.cells.all IV.one=true) <| du (evA c.gl ad fr a) λp =>
   lG y.cells p fr R st ds
 | .nilCheck x=>nilV (evV c.gl fr x) (evA c.gl ad fr x) c.dr R st ds
 | .binOp o T x y _=>du (evV c.gl fr x) λx=>du (evV c.gl fr y) λy=>du (binV c.P T o x y) λz=>R (.val z) st ds
 | .unOp o _ x=>du (evV c.gl fr x) λx=>du (unI o x) λz=>R (.val z) st ds
 | .convert s d x=>du (evV c.gl fr x) λx=>du (nA c.P s d x) λz=>R (.val z) st ds
 | .makeFunc f first D=>du (evL c.gl fr first.toList) λa=>du (evL c.gl fr D.toList) λb=>R (.val (.fn f a b)) st ds
 | .makeMap T none=>du (mapI c.P T) λE=>∀b,giv (st b=none) (R (.val (.raw (.map (some b)))) (st.put b (some (.map E.1 []))) ds)
 | .slice T x lo hi O=>du (lenI c.P T) λk=>du (evV c.gl fr x) λx=>du (iP c.gl fr lo) λlo=>du (iP c.gl fr hi) λhi=>du (iP c.gl fr O) λO =>
   kM k (slI c.P T) (arrI c.P T) x lo hi O R st ds
 | .fieldAddr T x i=>du (fldI c.P T i) λf=>du (evA c.gl ad fr x) λp=>nB f p R st ds
 | .field T x i=>du (fldI c.P T i) λf=>du (evV c.gl fr x) λx=>aggV x λcs=>du (gw f.2.1 f.2.2 cs f.1) λy=>R (.val y) st ds
 | .indexAddr T x i=>du (evV c.gl fr i) λi=>intV i λ_ j=>du (lenI c.P T) λk=>idxV k (slI c.P T) (evV c.gl fr x) (evA c.gl ad fr x) (arrI c.P T) j R st ds
 | .index T x i=>du (evV c.gl fr i) λi=>intV i λ_ j=>du (lenI c.P T) λk=>du (evV c.gl fr x) λx=>nC k (arrI c.P T) x j R st ds
 | .lookup T x i ok=>du (mapI c.P T) λE=>du (evV c.gl fr x) λx=>mapV x λm=>du (evV c.gl fr i) λi=>keyV i λkey=>pk E m key ok R st ds
 | .mapUpdate T m i x=>du (mapI c.P T) λE=>du (evV c.gl fr m) λm=>mapV m λm=>du (evV c.gl fr i) λi=>keyV i λkey=>du (evV c.gl fr x) λy =>
   nD E m key y R st ds
 | .extract x i=>du (evV c.gl fr x) λx=>tupV x λvs=>du (vs[i]?) λy=>R (.val y) st ds
 | .call ⟨.value f,args,_⟩=>mG c.esc c.pf f (evL c.gl fr args.toList) R st ds (du (evV c.gl fr f) λf=>fnV f λf first D=>du (evL c.gl fr args.toList) λaL =>
   callV c.P c.gl f first D aL st (lH R ds))
 | .call ⟨.builtin .len,⟨[x]⟩,⟨[T]⟩⟩=>du (lenI c.P T) λk=>du (evV c.gl fr x) λx=>lenV c.dr k x R st ds
 | .call ⟨.builtin .append,⟨[s,y]⟩,⟨[T,T']⟩⟩=>du (slI c.P T) λe=>appK (lenI c.P T') (intK c.P T')
   (du (evV c.gl fr s) λs=>slY s (λJ xs=>du (evV c.gl fr y) λy=>slV y λ_ ys=>appV c.esc dst e J xs ys R st ds) (λb off n cap=>du (evV c.gl fr y) λy=>slY y (λ_ ys=>qO c.esc dst (appO e b off n cap ys R st ds)) (λb2 G m2 _=>qO c.esc dst (appR e b off n cap b2 G m2 R st ds))))
   (du (evV c.gl fr s) λs=>slV s λJ _=>du (evV c.gl fr y) λy=>intV y λ_ m=>appZ e J m R st ds)
 | .call ⟨.builtin .max,⟨[x,y]⟩,_⟩=>du (evV c.gl fr x) λx=>du (evV c.gl fr y) λy=>intV x λk a=>intV y λk' b=>if k=k' then R (.val (.raw (.int k (max a b)))) st ds else False
 | .defer ⟨.value f,args,_⟩=>if c.rd=true then False else du (evV c.gl fr f) λf=>fnV f λf first D=>du (evL c.gl fr args.toList) λaL =>
   R .nop st (.call f D (first++aL)::ds)
 | .call ⟨.builtin .cap,⟨[x]⟩,⟨[T]⟩⟩=>du (slI c.P T) λ_=>du (evV c.gl fr x) λx=>capV x R st ds
 | .call ⟨.builtin .clear,⟨[x]⟩,⟨[T]⟩⟩=>du (slI c.P T) λe=>du (eX c.P e.1) λ_=>du (evV c.gl fr x) λx=>ph e x R st ds
 | .makeSlice T l m=>du (slI c.P T) λe=>du (evV c.gl fr l) λl=>intV l λ_ p=>du (evV c.gl fr m) λm=>intV m λ_ q=>oA (eX c.P e.1) c.esc dst e p q R st ds
 | .insert T m i x=>du (mapI c.P T) λE=>du (evV c.gl fr m) λm=>mapV m λm=>du (evV c.gl fr i) λi=>keyV i λkey=>du (evV c.gl fr x) λy =>
   nD E m key y R st ds
 | .call ⟨.builtin .min,⟨[x,y]⟩,_⟩=>du (evV c.gl fr x) λx=>du (evV c.gl fr y) λy=>intV x λk a=>intV y λk' b=>if k=k' then R (.val (.raw (.int k (min a b)))) st ds else False
 | .range T x=>if c.dr=true then False else du (mapI c.P T) λ_=>du (evV c.gl fr x) λx=>mapV x λm=>s7 m R st ds
 | .next x false=>if c.dr=true then False else du (evV c.gl fr x) λx=>adrV x λr=>s8 r R st ds
 | .entry x=>if c.dr=true then False else du (evV c.gl fr x) λx=>adrV x λr=>s9 r R st ds
 | _=>False
def vcOp (c:Cf)(dst:Option Nat)(op:Op)(K:Kt)(ad:Ad)(fr:Fr)(st:ISt)(ds:List Dfd):Prop:=vcR c dst op (finK dst K ad fr) ad fr st ds
section
variable (c:Cf)(dst:Option Nat)(d t off b n i j len:Nat)(T T':TypeId)(x y z:Operand)(K:Kt)(R:Rt)(ad:Ad)(fr:Fr)(st:ISt)(ds:List Dfd)(v:IV)(dr ag:Bool)
@[go_sem ↓] def SP:finK (some d) K ad fr (.val v) st ds=K (ad.put d none) (fr.put d (.iv v)) st ds:=(rfl)
@[go_sem ↓] def SQ:finK none K ad fr (.val v) st ds=K ad fr st ds:=(rfl)
@[go_sem ↓] def SR:finK (some d) K ad fr (.adr t off) st ds=if d=t then False else K (ad.put d (some (t,off))) (fr.put d (.iv .junk)) st ds:=(rfl)
@[go_sem ↓] def SS (cs:List IV):finK (some d) K ad fr (.box cs) st ds=K (ad.put d none) (fr.put d (.box cs)) st ds:=(rfl)
@[go_sem ↓] def SU (cs:List IV):finK none K ad fr (.sto t cs) st ds=K ad (fr.put t (.box cs)) st ds:=(rfl)
@[go_sem ↓] def SX:finK none K ad fr .nop st ds=K ad fr st ds:=(rfl)
def Ip:lH R ds v st=R (.val v) st ds:=(rfl)
@[go_sem ↓] def SY:plR (.ptr b off) R st ds=R (.val (.raw (.pointer (some ⟨b,off,none⟩)))) st ds:=(rfl)
@[go_sem] def SZ (p:Option Pl):kJ dr (some v) p R st ds=R (.val v) st ds:=(rfl)
@[go_sem ↓] def S1 (frz esc:List Nat)(y:IV):mE frz esc (some d) y R st ds=if d∈frz then R (.val (.cptr y)) st ds else k_ esc (some d) y.cells R st ds:=(rfl)
@[go_sem ↓] def S2 (esc:List Nat)(cs:List IV):k_ esc (some d) cs R st ds =
 if d∈esc then ∀b,giv (st b=none) (R (.val (.raw (.pointer (some ⟨b,0,none⟩)))) (st.put b (some (.box cs))) ds) else R (.box cs) st ds:=(rfl)
@[go_sem ↓] def S3:jZ dr ag n (.box t off) fr R st ds=boxV (fr t) λcs=>du (gw ag n cs off) λy=>R (.val y) st ds:=(rfl)
@[go_sem ↓] def S4:jZ false ag n (.ptr b off) fr R st ds=du (st b) λo=>obV o λcs=>du (gw ag n cs off) λy=>R (.val y) st ds:=(rfl)
@[go_sem ↓] def S5:jZ dr ag n (.cp v) fr R st ds=if fits ag n v=true then R (.val v) st ds else False:=(rfl)
@[go_sem ↓] def S6 (l:List IV):lG l (.box t off) fr R st ds=boxV (fr t) λcs=>if off+l.length<=cs.length then R (.sto t (fu cs off l)) st ds else False:=(rfl)
@[go_sem ↓] def S7 (l:List IV):lG l (.ptr b off) fr R st ds =
 du (st b) λo=>obV o λcs=>if off+l.length<=cs.length then R .nop (st.put b (some (.box (fu cs off l)))) ds else False:=(rfl)
@[go_sem ↓] def S8 (f:Nat×Bool×Nat):nB f (.box t off) R st ds=R (.adr t (off+f.1)) st ds:=(rfl)
@[go_sem ↓] def S9 (f:Nat×Bool×Nat):nB f (.ptr b off) R st ds=R (.val (.raw (.pointer (some ⟨b,off+f.1,none⟩)))) st ds:=(rfl)
@[go_sem ↓] def S_ (f:Nat×Bool×Nat):nB f (.cp v) R st ds=aggV v λcs=>du (gw f.2.1 f.2.2 cs f.1) λy=>if fits f.2.1 f.2.2 y=true then R (.val (.cptr y)) st ds else False:=(rfl)
@[go_sem ↓] def Ta:oz len ag n j (.box t off) R st ds=if j<len then R (.adr t (off+j*n)) st ds else False:=(rfl)
@[go_sem ↓] def Tc:oz len ag n j (.cp v) R st ds=if j<len then aggV v λcs=>du (gw ag n cs (j*n)) λy=>if fits ag n y=true then R (.val (.cptr y)) st ds else False else False:=(rfl)
@[go_sem ↓] def Td (P:Program)(gl:Nat->Option IV)(cs:List IV):kK P gl fr T cs []=some cs:=(rfl)
@[go_sem ↓] def vU (P:Program)(gl:Nat->Option IV)(cs:List IV)(l:List (Nat×Operand)) :
 kK P gl fr T cs ((i,x)::l)=pg P gl fr T cs l (bfI P T i) (evV gl fr x):=by
 rw[kK];cases bfI P T i<;>cases evV gl fr x<;>rfl
@[go_sem ↓] def Te (P:Program)(i:Nat):bfI P T i=orO (fldI P T i) ((arrI P T).map λe=>(i*e.2.2,e.2)):=(rfl)
@[go_sem] def Tf {α:Type}(a:α)(b:Option α):orO (some a) b=some a:=(rfl)
@[congr] def Tg {α:Type}{a a':Option α}(b:Option α)(h:a=a'):orO a b=orO a' b:=by rw[h]
@[congr] def Th (P:Program)(gl:Nat->Option IV)(cs:List IV)(l:List (Nat×Operand)){f E:Option (Nat×Bool×Nat)}{v D:Option IV}(h:f=E)(G:v=D) :
 pg P gl fr T cs l f v=pg P gl fr T cs l E D:=by rw[h,G]
@[go_sem] def Ti (P:Program)(gl:Nat->Option IV)(cs:List IV)(l:List (Nat×Operand))(f:Nat×Bool×Nat) :
 pg P gl fr T cs l (some f) (some v)=if v.cells.length=f.2.2/\f.1+v.cells.length<=cs.length/\fits f.2.1 f.2.2 v=true then kK P gl fr T (fu cs f.1 v.cells) l else none:=(rfl)
@[go_sem ↓] def Tj (esc:List Nat)(es:Nat)(ys:List IV):mF esc (some d) es ys R st ds =
 if d∈esc then ∀b,giv (st b=none) (R (.val (.raw (.slice (some ⟨b,0,none⟩) ys.length ys.length))) (st.put b (some (.box (ys.flatMap IV.cells)))) ds) else R (.val (.sl ⟨true,.full,es⟩ ys)) st ds:=by
 simp[mF,ic]
@[go_sem ↓] def Tk:lenV false .sl v R st ds=slX v (λ_ xs=>xs.length<=140737488355328->R (.val (.raw (.int .i64 xs.length))) st ds) (λ_ _ n=>R (.val (.raw (.int .i64 n))) st ds):=by simp[lenV]
@[go_sem ↓] def Tl (s:ByteArray):lenV false .str (.raw (.string s)) R st ds=(s.size<=281474976710656->R (.val (.raw (.int .i64 s.size))) st ds):=by simp[lenV,rawV]
@[go_sem ↓] def To:lenV true .sl v R st ds=slX v (λ_ xs=>R (.val (.raw (.int .i64 xs.length))) st ds) (λ_ _ n=>R (.val (.raw (.int .i64 n))) st ds):=by simp[lenV]
@[go_sem ↓] def Tp (s:ByteArray):lenV true .str (.raw (.string s)) R st ds=R (.val (.raw (.int .i64 s.size))) st ds:=by simp[lenV,rawV]
@[go_sem ↓] def Tq (esc:List Nat)(e:TypeId×Bool×Nat×Nat)(E:Bool)(es:Nat)(xs ys:List IV)(D:IV):appV esc (some d) e ⟨E,.nil,es⟩ xs (D::ys) R st ds =
 chk ((D::ys).all (fits e.2.1 e.2.2.1)=true) (chk ((xs.length+(D::ys).length)*e.2.2.2<=140737488355328/\xs.length+(D::ys).length<=140737488355328)
  (if d∈esc then ∀g cap,giv (st g=none/\(D::ys).length<=cap) (R (.val (.raw (.slice (some ⟨g,0,none⟩) (D::ys).length cap))) (st.put g (some (.box ((D::ys).flatMap IV.cells++List.replicate ((cap-(D::ys).length)*e.2.2.1) .junk)))) ds)
   else ∀g,giv (st g=none) (R (.val (.sl ⟨true,.app g,e.2.2.1⟩ (D::ys))) (st.put g (some (.front (D::ys).length e.2.2.1))) ds))):=by simp[appV,ic]
@[go_sem ↓] def Ts (esc:List Nat)(dst:Option Nat)(e:TypeId×Bool×Nat×Nat)(E:Bool)(es:Nat)(xs ys:List IV)(D:IV):appV esc dst e ⟨E,.full,es⟩ xs (D::ys) R st ds =
 chk ((D::ys).all (fits e.2.1 e.2.2.1)=true) (chk ((xs.length+(D::ys).length)*e.2.2.2<=140737488355328/\xs.length+(D::ys).length<=140737488355328)
  (chk (es=e.2.2.1) (∀g,giv (st g=none) (R (.val (.sl ⟨true,.app g,e.2.2.1⟩ (xs++(D::ys)))) (st.put g (some (.front (xs.length+(D::ys).length) e.2.2.1))) ds)))):=(rfl)
@[go_sem ↓] def Tt (esc:List Nat)(dst:Option Nat)(e:TypeId×Bool×Nat×Nat)(D:Bool)(es g₀:Nat)(xs ys:List IV):appV esc dst e ⟨D,.app g₀,es⟩ xs ys R st ds =
 chk (ys.all (fits e.2.1 e.2.2.1)=true) (chk ((xs.length+ys.length)*e.2.2.2<=140737488355328/\xs.length+ys.length<=140737488355328)
  (chk (es=e.2.2.1) (chk (st g₀=some (.front xs.length e.2.2.1))
   (∀g,giv (g=g₀\/st g=none) (R (.val (.sl ⟨D,.app g,e.2.2.1⟩ (xs++ys))) ((st.put g₀ none).put g (some (.front (xs.length+ys.length) e.2.2.1))) ds))))):=(rfl)
@[go_sem ↓] def Tu (esc:List Nat)(dst:Option Nat)(e:TypeId×Bool×Nat×Nat)(D:Bool)(es:Nat)(xs:List IV):appV esc dst e ⟨D,.nil,es⟩ xs [] R st ds =
 chk (([]:List IV).all (fits e.2.1 e.2.2.1)=true) (chk ((xs.length+0)*e.2.2.2<=140737488355328/\xs.length+0<=140737488355328) (R (.val (.sl ⟨D,.nil,es⟩ xs)) st ds)):=(rfl)
def kN {e:TypeId×Bool×Nat×Nat}{b n cap:Nat}{ys cs:List IV}(hb:st b=some (.box cs))(hf:ys.all (fits e.2.1 e.2.2.1)=true)(h1:(n+ys.length)*e.2.2.2<=140737488355328/\n+ys.length<=140737488355328)(h2:n<=cap/\cap*e.2.2.1<=cs.length)
  (hl:(ys.flatMap IV.cells).length=ys.length*e.2.2.1)
  (h:∀g D cs',g=b\/st g=none->n+ys.length<=D->D*e.2.2.1<=cs'.length->cs'.take ((n+ys.length)*e.2.2.1)=cs.take (n*e.2.2.1)++ys.flatMap IV.cells →
   R (.val (.raw (.slice (some ⟨g,0,none⟩) (n+ys.length) D))) ((st.put b none).put g (some (.box cs'))) ds):appO e b 0 n cap ys R st ds:=by
 have hn:n*e.2.2.1<=cs.length:=dN (fE _ h2.1) h2.2;have E:(cs.take (n*e.2.2.1)).length=n*e.2.2.1:=by rw[dU];omega
 refine⟨⟨rfl,hf⟩,h1,yQ2.2 ⟨_,hb,h2,λhc=>?_,λhc=>.inl λg D J=>?_⟩⟩
 ·have hc:=fe hc;have G:(n+ys.length)*e.2.2.1<=cs.length:=dN (fE _ hc) h2.2;have O:n*e.2.2.1+(ys.flatMap IV.cells).length<=cs.length:=by rw[hl,<- ff];exact G
  have hs:st.put b (some (.box (fu cs (n*e.2.2.1) (ys.flatMap IV.cells))))=(st.put b none).put b (some (.box (fu cs (n*e.2.2.1) (ys.flatMap IV.cells)))):=by
   funext c;simp only[ISt.put_apply];split<;>rfl
  rw[hs];refine h b cap _ (.inl rfl) hc ?_ ?_
  ·unfold fu;simp only[lLa,dU,gz];have:=h2.2;omega
  ·unfold fu;rw[List.take_append_of_le_length (by rw[lLa,E,hl,ff];exact dG _),List.take_of_length_le (by rw[lLa,E,hl,ff];exact dG _)]
 ·refine h g D _ (.inr J.1) J.2 ?_ ?_
  ·simp only[lLa,E,hl,gA];rw[<- ff,<- ff];exact fE _ (by have:=J.2;omega)
  ·rw[List.take_append_of_le_length (by rw[lLa,E,hl,ff];exact dG _),List.take_of_length_le (by rw[lLa,E,hl,ff];exact dG _)]
@[go_sem ↓] def Tv (D:Bool)(es:Nat)(xs:List IV):capV (.sl ⟨D,.nil,es⟩ xs) R st ds=R (.val (.raw (.int .i64 0))) st ds:=(rfl)
@[go_sem ↓] def Tw (e:TypeId×Bool×Nat×Nat)(b off n cap:Nat):ph e (.raw (.slice (some ⟨b,off,none⟩) n cap)) R st ds=if n=0 then R (.val (.tup [])) st ds else
  du (st b) λo=>obV o λcs=>if off+n*e.2.2.1<=cs.length then R (.val (.tup [])) (st.put b (some (.box (fu cs off (List.replicate (n*e.2.2.1) .junk))))) ds else False:=(rfl)
@[go_sem ↓] def Tx (z:Option IV)(esc:List Nat)(e:TypeId×Bool×Nat×Nat)(p q:Int):oA z esc (some d) e p q R st ds=chk ((p=0\/p=q)/\0<=q/\q*e.2.2.2<=140737488355328/\q<=140737488355328)
 (if d+3000000∈esc then chk (e.2.2.1=1) (du z λy=>chk (y.one=true) (∀g,giv (st g=none) (R (.val (.raw (.slice (some ⟨g,0,none⟩) (lenZ p) q.toNat))) (st.put g (some (.box (List.replicate q.toNat y)))) ds)))
 else if d∈esc then ∀g,giv (st g=none) (R (.val (.raw (.slice (some ⟨g,0,none⟩) (lenZ p) q.toNat))) (st.put g (some (.box (List.replicate (q.toNat*e.2.2.1) .junk)))) ds)
 else if e.2.2.1=0 then R (.val (.sl ⟨false,.none,0⟩ (List.replicate (lenZ p) (.agg [])))) st ds
 else chk (p=0) (∀g,giv (st g=none) (R (.val (.sl ⟨true,.app g,e.2.2.1⟩ [])) (st.put g (some (.front 0 e.2.2.1))) ds))):=by
 simp[oA,ic,A4]
@[go_sem ↓] def Tz (e:Option (TypeId×Bool×Nat×Nat))(a:Nat×Bool×Nat)(len:Nat)(cs:List IV)(D:Option Int):kM (.arr len) e (some a) (.cptr (.agg cs)) none D none R st ds =
 chk (cs.length=len/\len<=140737488355328/\cs.all IV.one=true) (du (gq none D len) λp=>R (.val (.sl ⟨false,.none,1⟩ (cs.take p.2))) st ds):=(rfl)
@[go_sem ↓] def TA (e:TypeId×Bool×Nat×Nat)(b off n cap:Nat)(lo D:Option Int)(ar:Option (Nat×Bool×Nat)):kM .sl (some e) ar (.raw (.slice (some ⟨b,off,none⟩) n cap)) lo D none R st ds =
 chk (n<=cap) (du (gq lo D (if D=none then n else cap)) λp=>R (.val (.raw (.slice (some ⟨b,if cap=p.1 then off else off+p.1*e.2.2.1,none⟩) (p.2-p.1) (cap-p.1)))) st ds):=(rfl)
@[go_sem ↓] def TB (e:TypeId×Bool×Nat×Nat)(D:Tag)(xs:List IV)(lo E:Option Int)(ar:Option (Nat×Bool×Nat)):kM .sl (some e) ar (.sl D xs) lo E none R st ds =
 chk ((reTag e.2.2.1 D).es=e.2.2.1) (du (gq lo E xs.length) λp=>R (.val (.sl (kL (reTag e.2.2.1 D) xs.length p.2 p.1 none) ((xs.drop p.1).take (p.2-p.1)))) st ds):=by
 cases E<;>simp[kM,slY,chk,du]
@[go_sem ↓] def TC (e:TypeId×Bool×Nat×Nat)(D:Tag)(xs:List IV)(lo:Option Int)(G E:Int)(ar:Option (Nat×Bool×Nat)):kM .sl (some e) ar (.sl D xs) lo (some G) (some E) R st ds =
 chk ((reTag e.2.2.1 D).es=e.2.2.1) (du (gq lo (some G) xs.length) λp=>chk (E=p.2) (R (.val (.sl (kL (reTag e.2.2.1 D) xs.length p.2 p.1 (some E)) ((xs.drop p.1).take (p.2-p.1)))) st ds)):=by
 simp[kM,slY,du]
@[go_sem ↓] def TE (s:ByteArray)(j:Int)(e:Option (Nat×Bool×Nat)):nC .str e (.raw (.string s)) j R st ds =
 du (oB s j) λb=>R (.val (.raw (.int .u8 b.toNat))) st ds:=(rfl)
@[go_sem ↓] def TF (cs:List IV)(j:Int)(e:Option (Nat×Bool×Nat)):nC (.arr len) e (.agg cs) j R st ds =
 du e λe=>if 0<=j/\j<len then du (gw e.2.1 e.2.2 cs (j.toNat*e.2.2)) λy=>R (.val y) st ds else False:=(rfl)
@[go_sem ↓] def TG (D:KeyK×IV)(m:Nat)(key:Value)(ok:Bool):pk D (some m) key ok R st ds =
 chk (fK D.1 key=true) (du (st m) λo=>omV o λkk es=>chk (kk=D.1) (du (lb ok (f_ key es) D.2) λy=>R (.val y) st ds)):=(rfl)
@[go_sem ↓] def TH (D:KeyK×IV)(m:Nat)(key:Value):nD D (some m) key v R st ds =
 chk (fK D.1 key=true) (du (st m) λo=>omV o λkk es=>chk (kk=D.1) (R .nop (st.put m (some (.map kk (updI key v es)))) ds)):=(rfl)
@[go_sem] def TI (s:ByteArray):fK .str (.string s)=true:=(rfl)
@[go_sem] def TJ (k:IntKind)(n:Int):fK (.int k) (.int k n)=true:=by simp[fK]
@[go_sem] def TK (p:Option Pl)(u:Value):nilV (some (.raw u)) p false R st ds=du p λp=>plR p R st ds:=by
 cases u with
 | pointer o=>cases o<;>rfl
 | _=>rfl
@[go_sem] def TL (p:Option Pl)(q:Addr):nilV (some (.raw (.pointer (some q)))) p true R st ds=R (.val (.raw (.pointer (some q)))) st ds:=(rfl)
@[go_sem] def TM (p:Option Pl)(dr:Bool)(u:IV):nilV (some (.cptr u)) p dr R st ds=R (.val (.cptr u)) st ds:=(rfl)
@[go_sem ↓] def TN (s:Option (TypeId×Bool×Nat×Nat))(xs:Option IV)(p:Option Pl)(e:Option (Nat×Bool×Nat))(j:Int):idxV .sl s xs p e j R st ds =
 du s λs=>du xs λx=>slX x (λt xs=>if (reTag s.2.2.1 t).es=s.2.2.1 then if 0<=j then du (xs[j.toNat]?) λy=>R (.val (.cptr y)) st ds else False else False)
  (λb off n=>if 0<=j/\j.toNat<n then R (.val (.raw (.pointer (some ⟨b,off+j.toNat*s.2.2.1,none⟩)))) st ds else False):=(rfl)
@[go_sem ↓] def TO (s:Option (TypeId×Bool×Nat×Nat))(xs:Option IV)(p:Option Pl)(e:Option (Nat×Bool×Nat))(j:Int):idxV (.arr n) s xs p e j R st ds =
 du e λe=>du p λp=>if 0<=j then oz e.1 e.2.1 e.2.2 j.toNat p R st ds else False:=(rfl)
@[go_sem] def TP (i:Option IntKind)(f g:Prop):appK (some .sl) i f g=f:=by cases i<;>rfl
@[go_sem] def TQ (i:IntKind)(f g:Prop):appK none (some i) f g=g:=(rfl)
@[congr] def TR {k D:Option LenK}{i E:Option IntKind}(f g:Prop)(h:k=D)(G:i=E):appK k i f g=appK D E f g:=by rw[h,G]
@[go_sem] def tgEs (f:Bool)(cp:Cap)(s:Nat):Tag.es ⟨f,cp,s⟩=s:=(rfl)
@[go_sem ↓] def TT:vcOp c dst (.move x) K ad fr st ds=kJ c.dr (evV c.gl fr x) (evA c.gl ad fr x) (finK dst K ad fr) st ds:=(rfl)
@[go_sem ↓] def TU:vcOp c dst (.assign x) K ad fr st ds=kJ c.dr (evV c.gl fr x) (evA c.gl ad fr x) (finK dst K ad fr) st ds:=(rfl)
@[go_sem ↓] def TV:vcOp c dst (.pick x y z) K ad fr st ds=du (evV c.gl fr x) λb=>k9 b λb =>
 jl b (du (evV c.gl fr y) λx=>finK dst K ad fr (.val x) st ds) (du (evV c.gl fr z) λy=>finK dst K ad fr (.val y) st ds) .mk .mk:=(rfl)
@[go_sem ↓] def TW:vcOp c dst (.alloc T) K ad fr st ds=du (eX c.P T) λz=>k_ c.esc dst z.cells (finK dst K ad fr) st ds:=(rfl)
@[go_sem ↓] def TX:vcOp c dst (.box T x) K ad fr st ds=du (tyI c.P T) λ_=>du (evV c.gl fr x) λy=>chk (y.cells.all IV.one=true) (mE c.frz c.esc dst y (finK dst K ad fr) st ds):=(rfl)
@[go_sem ↓] def TY (parts:Array (Nat×Operand)):vcOp c dst (.build T parts) K ad fr st ds =
 chk (gP c.P T=true) (du (eX c.P T) λz=>du (kK c.P c.gl fr T z.cells parts.toList) λcs=>finK dst K ad fr (.val (.agg cs)) st ds):=(rfl)
@[go_sem ↓] def TZ (parts:Array (Nat×Operand)):vcOp c dst (.buildSlice T len parts) K ad fr st ds =
 du (slI c.P T) λe=>chk (la len parts.toList=true/\len*e.2.2.1<=16777216/\1<=e.2.2.1) (du (evL c.gl fr (parts.toList.map (·.2))) λys =>
  chk (ys.all (fits e.2.1 e.2.2.1)=true) (mF c.esc dst e.2.2.1 ys (finK dst K ad fr) st ds)):=(rfl)
@[go_sem ↓] def T3:vcOp c dst (.load T x) K ad fr st ds=du (tyI c.P T) λi=>du (evA c.gl ad fr x) λp=>jZ (ldr c.dr c.esc dst) i.1 i.2 p fr (finK dst K ad fr) st ds:=(rfl)
@[go_sem ↓] def T4:vcOp c dst (.store T x y) K ad fr st ds=du (tyI c.P T) λi=>du (evV c.gl fr y) λy =>
 chk (y.cells.length=i.2/\y.cells.all IV.one=true) (du (evA c.gl ad fr x) λp=>lG y.cells p fr (finK dst K ad fr) st ds):=(rfl)
@[go_sem ↓] def T5 (o:BinOp):vcOp c dst (.binOp o T x y T') K ad fr st ds=du (evV c.gl fr x) λx=>du (evV c.gl fr y) λy=>du (binV c.P T o x y) λz=>finK dst K ad fr (.val z) st ds:=(rfl)
@[go_sem ↓] def T6 (o:UnOp):vcOp c dst (.unOp o T x) K ad fr st ds=du (evV c.gl fr x) λx=>du (unI o x) λz=>finK dst K ad fr (.val z) st ds:=(rfl)
@[go_sem ↓] def T7:vcOp c dst (.convert T T' x) K ad fr st ds=du (evV c.gl fr x) λx=>du (nA c.P T T' x) λz=>finK dst K ad fr (.val z) st ds:=(rfl)
@[go_sem ↓] def T8 (f:Fn)(first D:Array Operand):vcOp c dst (.makeFunc f first D) K ad fr st ds =
 du (evL c.gl fr first.toList) λa=>du (evL c.gl fr D.toList) λb=>finK dst K ad fr (.val (.fn f a b)) st ds:=(rfl)
@[go_sem ↓] def T9:vcOp c dst (.makeMap T none) K ad fr st ds=du (mapI c.P T) λD=>∀b,giv (st b=none) (finK dst K ad fr (.val (.raw (.map (some b)))) (st.put b (some (.map D.1 []))) ds):=(rfl)
@[go_sem ↓] def T_ (lo E D:Option Operand):vcOp c dst (.slice T x lo E D) K ad fr st ds=du (lenI c.P T) λk=>du (evV c.gl fr x) λx =>
 du (iP c.gl fr lo) λlo=>du (iP c.gl fr E) λE=>du (iP c.gl fr D) λD=>kM k (slI c.P T) (arrI c.P T) x lo E D (finK dst K ad fr) st ds:=(rfl)
@[go_sem ↓] def Ua:vcOp c dst (.fieldAddr T x i) K ad fr st ds=du (fldI c.P T i) λf=>du (evA c.gl ad fr x) λp=>nB f p (finK dst K ad fr) st ds:=(rfl)
@[go_sem ↓] def Ub:vcOp c dst (.field T x i) K ad fr st ds=du (fldI c.P T i) λf=>du (evV c.gl fr x) λx=>aggV x λcs=>du (gw f.2.1 f.2.2 cs f.1) λy=>finK dst K ad fr (.val y) st ds:=(rfl)
@[go_sem ↓] def Uc:vcOp c dst (.indexAddr T x y) K ad fr st ds=du (evV c.gl fr y) λi=>intV i λ_ j=>du (lenI c.P T) λk =>
 idxV k (slI c.P T) (evV c.gl fr x) (evA c.gl ad fr x) (arrI c.P T) j (finK dst K ad fr) st ds:=(rfl)
@[go_sem ↓] def Ud:vcOp c dst (.index T x y) K ad fr st ds=du (evV c.gl fr y) λi=>intV i λ_ j=>du (lenI c.P T) λk=>du (evV c.gl fr x) λx=>nC k (arrI c.P T) x j (finK dst K ad fr) st ds:=(rfl)
@[go_sem ↓] def Ue (ok:Bool):vcOp c dst (.lookup T x y ok) K ad fr st ds=du (mapI c.P T) λD=>du (evV c.gl fr x) λx=>mapV x λm=>du (evV c.gl fr y) λi=>keyV i λkey =>
 pk D m key ok (finK dst K ad fr) st ds:=(rfl)
@[go_sem ↓] def Uf:vcOp c dst (.mapUpdate T x y z) K ad fr st ds=du (mapI c.P T) λD=>du (evV c.gl fr x) λm=>mapV m λm=>du (evV c.gl fr y) λi=>keyV i λkey =>
 du (evV c.gl fr z) λy=>nD D m key y (finK dst K ad fr) st ds:=(rfl)
@[go_sem ↓] def Ug:vcOp c dst (.insert T x y z) K ad fr st ds=du (mapI c.P T) λD=>du (evV c.gl fr x) λm=>mapV m λm=>du (evV c.gl fr y) λi=>keyV i λkey =>
   du (evV c.gl fr z) λy=>nD D m key y (finK dst K ad fr) st ds:=(rfl)
@[go_sem ↓] def Uh:vcOp c dst (.extract x i) K ad fr st ds=du (evV c.gl fr x) λx=>tupV x λvs=>du (vs[i]?) λy=>finK dst K ad fr (.val y) st ds:=(rfl)
@[go_sem ↓] def Ui (E:Array Operand)(ts:Array TypeId):vcOp c dst (.call ⟨.value x,E,ts⟩) K ad fr st ds=mG c.esc c.pf x (evL c.gl fr E.toList) (finK dst K ad fr) st ds (du (evV c.gl fr x) λf=>fnV f λf first D=>du (evL c.gl fr E.toList) λE =>
 callV c.P c.gl f first D E st (lH (finK dst K ad fr) ds)):=(rfl)
@[go_sem ↓] def Uj (esc:List Nat)(pf:FuncId->List IV->Option IV)(g:FuncId)(D:Option (List IV))(old:Prop):mG esc pf (.func g) D R st ds old=if g+1000000∈esc then du D λD=>du (pf g D) λv=>R (.val v) st ds else old:=(rfl)
@[go_sem ↓] def Uk (esc:List Nat)(pf:FuncId->List IV->Option IV)(t:Nat)(D:Option (List IV))(old:Prop):mG esc pf (.tmp t) D R st ds old=old:=(rfl)
@[go_sem ↓] def Ul:vcOp c dst (.call ⟨.builtin .len,⟨[x]⟩,⟨[T]⟩⟩) K ad fr st ds=du (lenI c.P T) λk=>du (evV c.gl fr x) λx=>lenV c.dr k x (finK dst K ad fr) st ds:=(rfl)
@[go_sem ↓] def Um:vcOp c dst (.call ⟨.builtin .append,⟨[x,y]⟩,⟨[T,T']⟩⟩) K ad fr st ds=du (slI c.P T) λe=>appK (lenI c.P T') (intK c.P T')
   (du (evV c.gl fr x) λs=>slY s (λE xs=>du (evV c.gl fr y) λy=>slV y λ_ ys=>appV c.esc dst e E xs ys (finK dst K ad fr) st ds) (λb off n cap=>du (evV c.gl fr y) λy=>slY y (λ_ ys=>qO c.esc dst (appO e b off n cap ys (finK dst K ad fr) st ds)) (λb2 D G _=>qO c.esc dst (appR e b off n cap b2 D G (finK dst K ad fr) st ds))))
   (du (evV c.gl fr x) λs=>slV s λE _=>du (evV c.gl fr y) λy=>intV y λ_ m=>appZ e E m (finK dst K ad fr) st ds):=(rfl)
@[go_sem ↓] def Un:vcOp c dst (.call ⟨.builtin .cap,⟨[x]⟩,⟨[T]⟩⟩) K ad fr st ds=du (slI c.P T) λ_=>du (evV c.gl fr x) λx=>capV x (finK dst K ad fr) st ds:=(rfl)
@[go_sem ↓] def Uo:vcOp c dst (.call ⟨.builtin .clear,⟨[x]⟩,⟨[T]⟩⟩) K ad fr st ds=du (slI c.P T) λe=>du (eX c.P e.1) λ_=>du (evV c.gl fr x) λx=>ph e x (finK dst K ad fr) st ds:=(rfl)
@[go_sem ↓] def Up:vcOp c dst (.makeSlice T x y) K ad fr st ds=du (slI c.P T) λe=>du (evV c.gl fr x) λl=>intV l λ_ p=>du (evV c.gl fr y) λm=>intV m λ_ q=>oA (eX c.P e.1) c.esc dst e p q (finK dst K ad fr) st ds:=(rfl)
@[go_sem ↓] def Uq (ts:Array TypeId):vcOp c dst (.call ⟨.builtin .max,⟨[x,y]⟩,ts⟩) K ad fr st ds=du (evV c.gl fr x) λx=>du (evV c.gl fr y) λy=>intV x λk a=>intV y λD b =>
 if k=D then finK dst K ad fr (.val (.raw (.int k (max a b)))) st ds else False:=(rfl)
@[go_sem ↓] def Ur (E:Array Operand)(ts:Array TypeId):vcOp c dst (.defer ⟨.value x,E,ts⟩) K ad fr st ds=if c.rd=true then False else du (evV c.gl fr x) λf=>fnV f λf first D =>
 du (evL c.gl fr E.toList) λE=>finK dst K ad fr .nop st (.call f D (first++E)::ds):=(rfl)
@[go_sem ↓] def Ut:vcOp c dst (.nilCheck x) K ad fr st ds=nilV (evV c.gl fr x) (evA c.gl ad fr x) c.dr (finK dst K ad fr) st ds:=(rfl)
end
def jN (fr:Fr)(d:Nat)(D:Bool)(s:SV)(E:Fr->Prop)(skip:Fr->Prop)(_:Lock E)(_:Lock skip):Prop :=
 match s with
 | .iv (.raw (.bool b))=>(b=D->Hold true (E (fr.put d (.iv (.raw (.bool D))))))/\(b=!D->Hold true (skip (fr.put d (.iv (.raw (.bool !D))))))
 | .iv (.raw (.tuple _))=>Hold true (skip fr)
 | _=>False
@[go_sem] def Uu (fr:Fr)(d:Nat)(D:Bool)(E skip:Fr->Prop)(k:Lock E)(l:Lock skip):jN fr d D (.iv (.raw undef)) E skip k l=Hold true (skip fr):=(rfl)
@[congr] def Uv (fr:Fr)(d:Nat)(D:Bool){s s':SV}(E skip:Fr->Prop)(k:Lock E)(l:Lock skip)(h:s=s'):jN fr d D s E skip k l=jN fr d D s' E skip k l:=by rw[h]
def A5 (fr:Fr)(d:Nat)(D b:Bool)(G skip:Fr->Prop)(k:Lock G)(l:Lock skip)(hs:fr d=.iv (.raw (.bool b))) :
  jN fr d D (.iv (.raw (.bool b))) G skip k l=((b=D->G fr)/\(b=!D->skip fr)):=by
 have E:fr.put d (.iv (.raw (.bool b)))=fr:=by
  funext s;rw[Fr.put_apply];split
  ·rename_i h;rw[h,hs]
  ·rfl
 unfold jN Hold;by_cases h:b=D
 ·subst h;simp[E]
 ·have:b=!D:=by cases b<;>cases D<;>simp_all
  subst this;simp[E]
def fW (c:Cf)(ops:List Oper):List Oper->(Fr->ISt->List Dfd->Prop)->Kt
 | [],Q,_,fr,st,ds=>Q fr st ds
 | o::rest,Q,ad,fr,st,ds =>
  match o.guard with
  | none=>vcOp c o.dst o.op (fW c ops rest Q) ad fr st ds
  | some (j,D)=>match (ops[j]?).bind (·.dst) with
   | some d=>jN fr d D (fr d) (λfr=>vcOp c o.dst o.op (fW c ops rest Q) ad fr st ds) (λfr=>finK o.dst (fW c ops rest Q) ad fr (.val (.raw undef)) st ds) .mk .mk
   | none=>False
@[go_sem ↓] def Uw (c:Cf)(ops:List Oper)(Q:Fr->ISt->List Dfd->Prop)(ad:Ad)(fr:Fr)(st:ISt)(ds:List Dfd):fW c ops [] Q ad fr st ds=Q fr st ds:=(rfl)
@[go_sem ↓] def Ux (c:Cf)(ops rest:List Oper)(dst:Option Nat)(op:Op)(E:TypeId)(pos:String)(D:Array Edge)(Q:Fr->ISt->List Dfd->Prop)(ad:Ad)(fr:Fr)(st:ISt)
  (ds:List Dfd):fW c ops (⟨dst,op,E,pos,D,none⟩::rest) Q ad fr st ds=vcOp c dst op (fW c ops rest Q) ad fr st ds:=(rfl)
def iq (ops:List Oper)(j:Nat):Option Nat:=(ops[j]?).bind (·.dst)
@[go_sem ↓] def Uy (o:Oper)(ops:List Oper):iq (o::ops) 0=o.dst:=(rfl)
@[go_sem ↓] def Uz (o:Oper)(ops:List Oper)(j:Nat):iq (o::ops) (j+1)=iq ops j:=by simp[iq]
@[go_sem ↓] def UA (c:Cf)(ops rest:List Oper)(dst:Option Nat)(op:Op)(G:TypeId)(pos:String)(E:Array Edge)(j:Nat)(D:Bool)(Q:Fr->ISt->List Dfd->Prop)(ad:Ad)
  (fr:Fr) (st:ISt) (ds:List Dfd):fW c ops (⟨dst,op,G,pos,E,some (j,D)⟩::rest) Q ad fr st ds =
   du (iq ops j) λd=>jN fr d D (fr d) (λfr=>vcOp c dst op (fW c ops rest Q) ad fr st ds) (λfr=>finK dst (fW c ops rest Q) ad fr (.val (.raw undef)) st ds) .mk .mk:=by
 simp only[fW,iq];cases (ops[j]?).bind (·.dst)<;>rfl
@[go_sem] def UB (fr:Fr)(d:Nat)(D:Bool)(E skip:Fr->Prop)(k:Lock E)(l:Lock skip):jN fr d D (.iv (.raw (.bool D))) E skip k l=Hold true (E (fr.put d (.iv (.raw (.bool D))))):=by
 unfold jN;cases D<;>simp[Hold]
abbrev Kc:=Exit->Fr->ISt->List Dfd->Prop
def pn (J:Nat->Fr->ISt->List Dfd->Prop)(m:Nat)(Q:Kc):Kc
 | .normal,fr,st,ds=>∃D,D<m/\J D fr st ds
 | e,fr,st,ds=>Q e fr st ds
def LoopV (body:Fr->ISt->List Dfd->(Kc)->Prop)(Q:Kc)(fr:Fr)(st:ISt)(ds:List Dfd)(_:Lock body)(_:Lock Q):Prop :=
 ∃J:Nat->Fr->ISt->List Dfd->Prop,(∃m,J m fr st ds)/\∀m fr' st' D,J m fr' st' D->body fr' st' D (pn J m Q)
def seqK (k:Fr->ISt->List Dfd->Prop)(Q:Kc):Kc
 | .normal,fr,st,ds=>k fr st ds
 | e,fr,st,ds=>Q e fr st ds
def oC (id:Nat)(Q:Kc):Kc
 | .exit id',fr,st,ds=>if id'=id then Q .normal fr st ds else Q (.exit id') fr st ds
 | e,fr,st,ds=>Q e fr st ds
def vV (Q:Kc):Kc
 | .goto _,_,_,_=>False
 | e,fr,st,ds=>Q e fr st ds
