/- The layer of ideal values, part E: opera -/
import Derived.Test.YtigeiecfkoimpaaGreatDoorJB
import Derived.Laws.Slices
import Derived.Laws.IdiomStrings
import Derived.Laws.Cover3
set_option linter.all false
namespace Go.Iv
open Go
section
variable {C:Cx}{X:WS}
def vW {B:Nat}{L:Nat->Nat}{w:World}{v:Value}{y:IV}(h:oy v=some y):V B L w v y/\y.def_/\y.one=true:=by
 unfold oy at h;split at h
 ·cases h
 ·cases h
 ·cases h;exact⟨.sl none 0 ⟨true,.nil,0⟩ [] 0 [] ⟨rfl,rfl,rfl⟩ (by simp) (by simp) (by simp) rfl (λ_ G=>by cases G) (λ_ ad J=>by cases J) (λE=>absurd rfl E) (λi r c D=>by simp at D),by simp[IV.def_],rfl⟩
 ·cases h
 ·split at h
  ·rename_i hs;cases h;exact⟨.raw _ hs,by simp[IV.def_],rfl⟩
  ·cases h
 ·cases h;exact⟨.fn _ [] [] rfl (λi r c D=>by simp at D) [] [] rfl (λi r c D=>by simp at D),by simp[IV.def_],rfl⟩
 ·cases h
 ·rename_i h1 h2 h3 h4 h5 h6 O;cases h;refine⟨.raw _ ?_,by simp[IV.def_],?_⟩
  ·cases v<;>simp_all [mD]
  ·cases v<;>simp_all [IV.one]
def V.reTag {B:Nat}{L:Nat->Nat}{w:World}{r:Value}{t:Tag}{xs:List IV}{es:Nat}(h:V B L w r (.sl t xs)):V B L w r (.sl (reTag es t) xs):=by
 by_cases hn:t.cap=.nil
 ·have e:Iv.reTag es t=⟨t.fresh,.nil,es⟩:=by simp only[Iv.reTag,hn]
  rw[e];cases h with
  | sl a cap _ _ T vs D E ac hs O aa J G hc =>
   rw[hn] at D;obtain⟨rfl,h0,rfl⟩:=D;obtain rfl:=ev h0;refine .sl none 0 ⟨t.fresh,.nil,es⟩ [] T vs ⟨rfl,rfl,rfl⟩ E ac (by simp) (by simpa using O) (λ_ hg=>by cases hg) (λ_ ad ha=>by cases ha) (λab=>absurd rfl ab) (λi r c hr hx=>by simp at hx)
 ·have e:Iv.reTag es t=t:=by
   unfold Iv.reTag;grind
  rw[e];exact h
def vX {α β:Type}{f:α->Option β}:∀ {l:List α} {D:List β},allI f l=some D->l.length=D.length/\∀(i:Nat) (a:α) (b:β),l[i]?=some a->D[i]?=some b->f a=some b
 | [],D,h=>by simp only[allI,dI] at h;subst h;exact⟨rfl,λi a b E=>by simp at E⟩
 | a::l,D,h=>by
  unfold allI at h;split at h
  ·rename_i b G h1 h2;cases h;obtain⟨O,J⟩:=vX h2;grind
  ·cases h
def pq {B:Nat}{L:Nat->Nat}{w:World}{v:Value}{y:IV}(h:qU v=some y):V B L w v y/\y.def_/\y.cells.all IV.one=true:=by
 unfold qU at h;split at h
 ·rename_i cs;cases hl:allI oy cs.toList with
  | none=>simp[hl] at h
  | some l =>
   simp only[hl,eJ,dI] at h;subst h;obtain⟨O,J⟩:=vX hl;have G:cs=⟨cs.toList⟩:=rfl;refine⟨by rw[G];exact .agg _ _ O (λi r c hr hc=>(vW (J i r c hr hc)).1),by simp[IV.def_],?_⟩;rw[jY,eF];intro x hx;obtain⟨i,hi,D⟩:=fR.1 hx;have E:cs.toList[i]?=some (cs.toList[i]'(by omega)):=dT _;exact (vW (B:=0) (L:=λ_=>0) (w:=w) (J i _ x E (by rw[dT hi,D]))).2.2
 ·rename_i ac;have:=vW (B:=B) (L:=L) (w:=w) h;exact⟨this.1,this.2.1,by rw[lF this.2.2];simp[this.2.2]⟩
def A6 {n0:Nat}{r:Value}{s:SV}{y:IV}(h:ivOf s=some y)(hs:SlotOk C X n0 r s):C.v X r y/\y.def_:=by
 cases s with
 | box cs=>cases h
 | iv x=>cases x<;>simp only[ivOf,reduceCtorEq,dI] at h<;>subst h<;>exact⟨hs,by simp[IV.def_]⟩
def pv {n0:Nat}{fr:Fr}{a:Act}{x:Operand}{y:IV}(G:Good C X)(J:FrOk C X n0 fr a.tmps)(h:evV C.gl fr x=some y):C.v X (a.eval x) y/\y.def_:=by
 cases x with
 | tmp t=>exact A6 h (J.slot t)
 | const v=>exact⟨(pq h).1,(pq (B:=0) (L:=λ_=>0) (w:=X.w) h).2.1⟩
 | global g =>
  simp only[evV] at h;cases E:C.gl g with
  | none=>simp[E] at h
  | some z =>
   simp only[E,eJ,dI] at h;subst h;exact⟨G.gl g z E,by simp[IV.def_]⟩
 | func f =>
  simp only[evV,dI] at h;subst h;exact⟨.fn _ [] [] rfl (λi r c D=>by simp at D) [] [] rfl (λi r c D=>by simp at D),by simp[IV.def_]⟩
def qY {n0:Nat}{fr:Fr}{a:Act}{l:List Operand}{ys:List IV}(J:Good C X)(O:FrOk C X n0 fr a.tmps)(h:evL C.gl fr l=some ys):C.vl X (l.map a.eval) ys:=by
 obtain⟨G,E⟩:=vX h;refine⟨by simpa using G,λi r c D hc=>?_⟩;rw[eB] at D;cases hl:l[i]? with
 | none=>simp[hl] at D
 | some x =>
  simp only[hl,eJ,dI] at D;subst D;exact (pv J O (E i x c hl hc)).1
def PlOk (C:Cx)(X:WS)(fr:Fr)(a:Act)(v:Value):Pl->Prop
 | .box t off=>∃cs b,fr t=.box cs/\tm a.tmps t=.pointer (some ⟨b,0,none⟩)/\v=.pointer (some ⟨b,off,none⟩)
 | .ptr b off=>v=.pointer (some ⟨b,off,none⟩)
 | .cp x=>C.v X v (.cptr x)
def Iq {n0:Nat}{fr:Fr}{ad:Ad}{a:Act}{x:Operand}{p:Pl}(O:Good C X)(hf:FrOk C X n0 fr a.tmps)(G:AdOk fr a.tmps ad)(h:evA C.gl ad fr x=some p):PlOk C X fr a (a.eval x) p:=by
 cases x with
 | tmp t =>
  simp only[evA] at h;cases E:ad t with
  | some e =>
   obtain⟨s,off⟩:=e;simp only[E,plAd,dI] at h;subst h;obtain⟨cs,b,h1,h2,h3⟩:=G t s off E;exact⟨cs,b,h1,h2,h3⟩
  | none =>
   simp only[E,plAd] at h;have hs:=hf.slot t;unfold plOf at h;split at h
   ·rename_i cs D;cases h;rw[D] at hs;obtain⟨b,c,T,J,_⟩:=hs;exact⟨_,b,D,J,J⟩
   ·rename_i b off D;cases h;rw[D] at hs;exact dK hs
   ·rename_i y D;cases h;rw[D] at hs;exact hs
   ·cases h
 | global g =>
  simp only[evA] at h;cases E:C.gl g with
  | none=>simp[E] at h
  | some z =>
   simp only[E,eJ,dI] at h;subst h;exact O.gl g z E
 | const v=>cases h
 | func f=>cases h
def j0 {P:Program}{T:TypeId}{ag:Bool}{n:Nat}(h:tyI P T=some (ag,n))(w:World):(isAgg T).run P w=.ok ag w/\(sizeOf T).run P w=.ok n w:=by
 unfold tyI at h;split at h
 ·rename_i d i hd D;cases h;refine⟨?_,?_⟩
  ·simp only[isAgg,dw,dW hd,dv];cases d<;>rfl
  ·simp only[sizeOf,dw,run_typeInfo w D,dv,dA]
 ·cases h
def s_ {P:Program}{T:TypeId}{ag:Bool}{n:Nat}(h:tyI P T=some (ag,n)):(P.info? T).map (·.size)=some n:=by
 unfold tyI at h;grind
def qZ {P:Program}{T:TypeId}{z:IV}(h:eX P T=some z)(w:World):∃v,(zeroValue T).run P w=.ok v w/\(∀B L w',V B L w' v z)/\z.def_/\z.cells.all IV.one=true:=by
 unfold eX at h;cases E:P.info? T with
 | none=>simp[E] at h
 | some i =>
  simp only[E,Option.bind_some] at h;cases D:i.zero with
  | none=>simp[D] at h
  | some v =>
   simp only[D,Option.bind_some] at h;refine⟨v,?_,λB L w'=>(pq h).1,(pq (B:=0) (L:=λ_=>0) (w:=w) h).2.1,(pq (B:=0) (L:=λ_=>0) (w:=w) h).2.2⟩;simp only[zeroValue,dw,run_typeInfo w E,dv,D,dA]
def lI (b o i:Nat):(⟨b,o,none⟩:Addr).add i=⟨b,o+i,none⟩:=by unfold Addr.add;split<;>simp_all
def mH (ad:Addr)(h:ad.spot=none)(i:Nat):ad.add i=⟨ad.block,ad.off+i,none⟩:=by
 obtain⟨b,o,s⟩:=ad;simp only at h;subst h;exact lI b o i
def jx {w:World}{b:Nat}{c:Array Value}{T:TypeId}{f:Nat×Nat}(h:w.heap[b]?=some (.cells c T f))(i:Nat):w.cell? ⟨b,i,none⟩=c.toList[i]?:=by
 simp[World.cell?,h]
def vY {P:Program}{T:TypeId}{ag:Bool}{n:Nat}(ht:tyI P T=some (ag,n))(w:World)(a:Addr)(rs:List Value)
  (hc:∀(i:Nat) (v:Value),rs[i]?=some v->w.cell? (a.add i)=some v) :
  (ag=true->rs.length=n->(loadVar T a).run P w=.ok (.agg ⟨rs⟩) w)/\(ag=false->∀v,rs[0]?=some v->(loadVar T a).run P w=.ok v w):=by
 obtain⟨h1,h2⟩:=j0 ht w;refine⟨λD E=>?_,λD v hv=>?_⟩
 ·subst D;subst E;have hl:=run_loadCells_list (P:=P) w a rs hc;simp only[loadVar,dw,h1,dv,dJ,h2,hl,dA]
 ·subst D;have h0:=hc 0 v hv;have G:a.add 0=a:=by simp[Addr.add]
  rw[G] at h0;simp only[loadVar,dw,h1,dv,bFt,dE,run_load,h0]
def td {T:TypeId}{ag:Bool}{n b off:Nat}{c:Array Value}{E:TypeId}{f:Nat×Nat}{cs:List IV}{y:IV}(ht:tyI C.P T=some (ag,n))(hh:X.w.heap[b]?=some (.cells c E f))(hv:C.vl X c.toList cs)
  (hp:gw ag n cs off=some y):∃v,(loadVar T ⟨b,off,none⟩).run C.P X.w=.ok v X.w/\C.v X v y:=by
 unfold gw at hp;have J:=hv.drop off;split at hp
 ·rename_i D;split at hp
  ·rename_i ac;cases hp;have G:=J.take n;refine⟨_,(vY ht X.w ⟨b,off,none⟩ ((c.toList.drop off).take n) (λi v hi=>?_)).1 D (by rw[G.1,dU,gz];omega),G.agg⟩;rw[lI,jx hh];grind
  ·cases hp
 ·rename_i D;obtain⟨r,hr,O⟩:=hv.get hp;refine⟨r,(vY ht X.w ⟨b,off,none⟩ (c.toList.drop off) (λi v hi=>?_)).2 (by simpa using D) r (by rw[kv];simpa using hr),O⟩;rw[lI,jx hh];grind
def Ir {T:TypeId}{ag:Bool}{n:Nat}{ad:Addr}{y:IV}(ht:tyI C.P T=some (ag,n))(hv:C.v X (.pointer (some ad)) (.cptr y))(E:fits ag n y=true) :
  ∃v,(loadVar T ad).run C.P X.w=.ok v X.w/\C.v X v y:=by
 cases hv with
 | cptr _ _ vs O J hL hc h =>
  have G:∀(i:Nat) (v:Value),vs[i]?=some v->X.w.cell? (ad.add i)=some v:=λi v hi=>by rw[mH ad O];exact hc i v hi
  obtain⟨k1,k2⟩:=vY ht X.w ad vs G;have D:C.vl X vs y.cells:=⟨J,h⟩
  unfold fits at E;split at E
  ·rename_i cs;simp only[bAt,beq_iff_eq] at E;exact⟨_,k1 E.1.1 (by rw[J];exact E.1.2),D.agg⟩
  ·rename_i ae;simp only[bAt,mc,beq_iff_eq] at E;have aa:=lF E.1.2;rw[aa] at D;obtain⟨r,hr,ac⟩:=D.get (i:=0) (c:=y) rfl;grind
def jm {B:Nat}{L:Nat->Nat}{w:World}{r:Value}{x:IV}(h:V B L w r (.cptr x)):∃ad,r=.pointer (some ad)/\ad.spot=none:=by
 cases h with
 | cptr ad _ _ D=>exact⟨ad,rfl,D⟩
def pw {rs:List Value}{cs:List IV}(hv:C.vl X rs cs)(h:cs.all IV.one=true):∀v∈rs,v.oneCell'=true:=by
 intro v J;obtain⟨i,E,D⟩:=fR.1 J;have G:rs[i]?=some v:=by rw[dT E,D]
 have hc:cs[i]?=some (cs[i]'(by rw[<- hv.1];exact E)):=dT _;have h1:=V.flat (hv.2 i _ _ G hc) (eF.1 h _ (jI _));cases v<;>first|rfl|simp[Value.flat] at h1
def A7 {T:TypeId}{ag:Bool}{b off:Nat}{c:Array Value}{E:TypeId}{v:Value}{y:IV}(ht:tyI C.P T=some (ag,y.cells.length))(hh:X.w.heap[b]?=some (.cells c E (0,0)))
  (hv:C.v X v y) (hd:y.def_) (h1:y.cells.all IV.one=true) (O:off+y.cells.length<=c.size) :
  (storeVar T ⟨b,off,none⟩ v).run C.P X.w=.ok () (X.w.setRow b (c.toList.take off++v.cells.toList++c.toList.drop (off+v.cells.toList.length)).toArray)/\C.vl X v.cells.toList y.cells:=by
 have J:∀u,y≠.raw (.agg u):=by
  rintro u rfl;simp[IV.cells,IV.one] at h1
 have D:=V.cells hv J hd;refine⟨?_,D⟩;have h2:=(j0 ht X.w).2;have G:v.cells.size=y.cells.length:=by rw[<- D.1];simp
 have hst:=run_storeCells_at (P:=C.P) b off E v.cells.toList 0 c X.w hh (by rw[D.1];omega) (pw D h1);simp only[storeVar,dw,h2,dv,G,ne_eq,nTf,dE,hst];simp
def px {rs:List Value}{cs:List IV}{off:Nat}{vs:List Value}{ys:List IV}(h:C.vl X rs cs)(D:C.vl X vs ys) :
  C.vl X (rs.take off++vs++rs.drop (off+vs.length)) (fu cs off ys):=by
 unfold fu;rw[D.1];exact ((h.take off).append D).append (h.drop _)
end
def PK (C:Cx)(X0:WS)(N:Nat)(K:Kt)(a:Act)(w:World):Prop :=
 ∃X ad fr ds,X.w=w/\Inv C X0 N X fr ds a/\AdOk fr a.tmps ad/\K ad fr X.st ds
section
variable {C:Cx}{X0 X:WS}{N:Nat}{fr:Fr}{ds:List Dfd}{a:Act}{ad:Ad}{dst:Option Nat}{K:Kt}
def gF {x:IV}{v:Value}(E:Inv C X0 N X fr ds a)(D:AdOk fr a.tmps ad)(hd:∀d,dst=some d->d<N)(hv:C.v X v x)
  (h:finK dst K ad fr (.val x) X.st ds):PK C X0 N K (a.put dst v) X.w:=by
 cases dst with
 | none=>exact⟨X,ad,fr,ds,rfl,E,D,h⟩
 | some d=>exact⟨X,_,_,ds,rfl,E.put (hd d rfl) hv,D.put d v _,h⟩
def vZ {t off b:Nat}{cs:List IV}(G:Inv C X0 N X fr ds a)(D:AdOk fr a.tmps ad)(hd:∀d,dst=some d->d<N)(ht:fr t=.box cs)
  (J:tm a.tmps t=.pointer (some ⟨b,0,none⟩)) (h:finK dst K ad fr (.adr t off) X.st ds):PK C X0 N K (a.put dst (.pointer (some ⟨b,off,none⟩))) X.w:=by
 cases dst with
 | none=>exact⟨X,ad,fr,ds,rfl,G,D,h⟩
 | some d =>
  simp only[finK] at h;split at h
  ·exact h.elim
  ·rename_i E;exact⟨X,_,_,ds,rfl,G.put (hd d rfl) (.junk _),D.adr (by rw[G.size];exact hd d rfl) E ht J _,h⟩
def Is {c:Array Value}{T:TypeId}{cs:List IV}(E:Inv C X0 N X fr ds a)(D:AdOk fr a.tmps ad)(hd:∀d,dst=some d->d<N)(hv:C.vl X c.toList cs)
  (h:finK dst K ad fr (.box cs) X.st ds):PK C X0 N K (a.put dst (.pointer (some ⟨X.w.heap.size,0,none⟩))) (X.w.alloc (.cells c T)):=by
 cases dst with
 | none=>exact h.elim
 | some d=>exact⟨{ X with w:=X.w.alloc (.cells c T) },_,_,ds,rfl,E.box (hd d rfl) c T hv,D.put d _ _,h⟩
def It (E:Inv C X0 N X fr ds a)(D:AdOk fr a.tmps ad)(h:finK dst K ad fr .nop X.st ds):PK C X0 N K (a.put dst undef) X.w:=by
 cases dst with
 | some _=>exact h.elim
 | none=>exact⟨X,ad,fr,ds,rfl,E,D,h⟩
def A8 {p:Pl}{v:Value}(E:Inv C X0 N X fr ds a)(D:AdOk fr a.tmps ad)(hd:∀d,dst=some d->d<N)(hp:PlOk C X fr a v p)
  (h:plR p (finK dst K ad fr) X.st ds):PK C X0 N K (a.put dst v) X.w:=by
 cases p with
 | box t off =>
  obtain⟨cs,b,h1,h2,rfl⟩:=hp;exact vZ E D hd h1 h2 h
 | ptr b off =>
  obtain rfl:=hp;exact gF E D hd (.raw _ trivial) h
 | cp x=>exact gF E D hd hp h
end
def eP (ro:Option Nat):Fence:={ Fence.wide with round:=ro }
section
variable {C:Cx}{X0 X:WS}{N:Nat}{fr:Fr}{ds:List Dfd}{a:Act}{ad:Ad}{K:Kt}{ro:Option Nat}{n:Nat}{Q:Exit->Act->World->Prop}{o:Oper}
def eD {v:Value}{w':World}(D:(execOp a.eval o).run C.P X.w=.ok (.value v) w')(hnd:∀c,o.op≠.defer c)(h:PK C X0 N K (a.put o.dst v) w') :
  o.wpIn (eP ro) n C.P a X.w (PK C X0 N K) Q:=by
 refine⟨λ_ _=>trivial,?_⟩;rw[Oper.semAt_eq _ _ _ hnd,D];exact h
def v7 {w':World}(D:(execOp a.eval o).run C.P X.w=.ok .skip w')(hnd:∀c,o.op≠.defer c)(h:PK C X0 N K (a.put o.dst undef) w') :
  o.wpIn (eP ro) n C.P a X.w (PK C X0 N K) Q:=by
 refine⟨λ_ _=>trivial,?_⟩;rw[Oper.semAt_eq _ _ _ hnd,D];exact h
structure At (C:Cx)(X0:WS)(N:Nat)(X:WS)(fr:Fr)(ds:List Dfd)(a:Act)(ad:Ad)(dst:Option Nat):Prop where
 inv:Inv C X0 N X fr ds a
 ad:AdOk fr a.tmps ad
 hd:∀d,dst=some d->d<N
variable (hA:At C X0 N X fr ds a ad o.dst)
include hA
def At.v {x:Operand}{y:IV}(h:evV C.gl fr x=some y):C.v X (a.eval x) y/\y.def_:=pv hA.inv.good hA.inv.fr h
def At.p {x:Operand}{p:Pl}(h:evA C.gl ad fr x=some p):PlOk C X fr a (a.eval x) p:=Iq hA.inv.good hA.inv.fr hA.ad h
def At.val {x:IV}{v:Value}(hv:C.v X v x)(h:finK o.dst K ad fr (.val x) X.st ds):PK C X0 N K (a.put o.dst v) X.w:=gF hA.inv hA.ad hA.hd hv h
def A9 {x:Operand}{dr:Bool}(D:o.op=.move x\/o.op=.assign x)(h:kJ dr (evV C.gl fr x) (evA C.gl ad fr x) (finK o.dst K ad fr) X.st ds) :
  o.wpIn (eP ro) n C.P a X.w (PK C X0 N K) Q:=by
 refine eD (v:=a.eval x) (w':=X.w) (by unfold execOp;rcases D with D|D<;>rw[D]<;>rfl) (by rcases D with D|D<;>rw[D]<;>intro c hc<;>cases hc) ?_;unfold kJ at h;split at h
 ·rename_i y E;exact hA.val (hA.v E).1 h
 ·split at h
  ·exact h.elim
  ·obtain⟨p,hp,h⟩:=yQ2.1 h;exact A8 hA.inv hA.ad hA.hd (hA.p hp) h
end
section
def nE {y:IV}(h1:y.cells.all IV.one=true):∀u,y≠.raw (.agg u):=by
 rintro u rfl;simp[IV.cells,IV.one] at h1
def mI {s:IV}{f:IntKind->Int->Prop}(h:intV s f):∃k n,s=.raw (.int k n)/\f k n:=by
 unfold intV at h;split at h
 ·grind
 ·exact h.elim
def A_ {s:IV}{f:Bool->Prop}(h:k9 s f):∃b,s=.raw (.bool b)/\f b:=by
 unfold k9 at h;split at h
 ·grind
 ·exact h.elim
def Ba {s:IV}{f:Tag->List IV->Prop}(h:slV s f):∃t xs,s=.sl t xs/\f t xs:=by
 unfold slV at h;split at h
 ·grind
 ·exact h.elim
def Bb {s:IV}{f:Tag->List IV->Prop}{g:Nat->Nat->Nat->Prop}(h:slX s f g):(∃t xs,s=.sl t xs/\f t xs)\/∃b off n cap,s=.raw (.slice (some ⟨b,off,none⟩) n cap)/\g b off n:=by
 unfold slX at h;split at h
 ·grind
 ·grind
 ·exact h.elim
def q_ {s:IV}{f:Tag->List IV->Prop}{g:Nat->Nat->Nat->Nat->Prop}(h:slY s f g):(∃t xs,s=.sl t xs/\f t xs)\/∃b off n cap,s=.raw (.slice (some ⟨b,off,none⟩) n cap)/\g b off n cap:=by
 unfold slY at h;split at h
 ·grind
 ·grind
 ·exact h.elim
def th {s:IV}{f:List IV->Prop}(h:aggV s f):∃xs,s=.agg xs/\f xs:=by
 unfold aggV at h;split at h
 ·grind
 ·exact h.elim
def Iu {s:IV}{f:List IV->Prop}(h:tupV s f):∃xs,s=.tup xs/\f xs:=by
 unfold tupV at h;split at h
 ·grind
 ·exact h.elim
def v8 {s:IV}{f:Fn->List IV->List IV->Prop}(h:fnV s f):∃g x y,s=.fn g x y/\f g x y:=by
 unfold fnV at h;split at h
 ·grind
 ·exact h.elim
def ti {s:IV}{f:Option Nat->Prop}(h:mapV s f):∃m,s=.raw (.map m)/\f m:=by
 unfold mapV at h;split at h
 ·grind
 ·exact h.elim
def v_ {s:IV}{f:Value->Prop}(h:rawV s f):∃v,s=.raw v/\f v:=by
 unfold rawV at h;split at h
 ·grind
 ·exact h.elim
def Bc {B:Nat}{L:Nat->Nat}{w:World}{r:Value}{x:IV}{f:Value->Prop}(hv:V B L w r x)(h:keyV x f):f r:=by
 unfold keyV at h;split at h
 ·rw[dK hv];exact h
 ·rename_i s k n;cases hv with
  | agg rs cs hl D =>
   match rs,hl with
   | [a,b],_ =>
    have h1:=D 0 a _ rfl rfl;have h2:=dK (D 1 b _ rfl rfl);have E:=dK h1;subst h2;subst E;cases h1 with
    | raw _ G=>exact h G
 iterate 2
  ·cases hv with
   | agg rs cs hl D =>
    match rs,hl with
    | [a,b],_ =>
     have h2:=dK (D 1 b _ rfl rfl);have E:=dK (D 0 a _ rfl rfl);subst h2;subst E;exact h
 ·exact h.elim
def Bd {s:IV}{f:Nat->Prop}(h:adrV s f):∃b,s=.raw (.pointer (some ⟨b,0,none⟩))/\f b:=by
 unfold adrV at h;split at h
 ·grind
 ·exact h.elim
def Be {s:IObj}{f:Nat->Nat->Array Nat->Nat->Prop}(h:itO s f):∃m e n c,s=.iter m e n c/\f m e n c:=by
 unfold itO at h;split at h
 ·grind
 ·exact h.elim
def wb {s:IObj}{f:Array MapEntry->Nat->Prop}(h:mxO s f):∃e c,s=.mapx e c/\f e c:=by
 unfold mxO at h;split at h
 ·grind
 ·exact h.elim
def ra {s:IObj}{f:List IV->Prop}(h:obV s f):∃cs,s=.box cs/\f cs:=by
 unfold obV at h;split at h
 ·grind
 ·exact h.elim
def wc {s:IObj}{f:KeyK->List (Value×IV)->Prop}(h:omV s f):∃k cs,s=.map k cs/\f k cs:=by
 unfold omV at h;split at h
 ·grind
 ·exact h.elim
def jO {c q:Prop} [Decidable c](h:if c then q else False):c/\q:=by
 grind
def tj {c q:Prop} [Decidable c](h:if c then False else q):¬ c/\q:=by
 grind
end
section
variable {C:Cx}{X0 X:WS}{N:Nat}{fr:Fr}{ds:List Dfd}{a:Act}{ad:Ad}{K:Kt}{ro:Option Nat}{n:Nat}{Q:Exit->Act->World->Prop}{o:Oper}
variable (hA:At C X0 N X fr ds a ad o.dst)
include hA
def Iw {b x y:Operand}(E:o.op=.pick b x y)
  (h:du (evV C.gl fr b) λb=>k9 b λb=>jl b (du (evV C.gl fr x) λx=>finK o.dst K ad fr (.val x) X.st ds) (du (evV C.gl fr y) λy=>finK o.dst K ad fr (.val y) X.st ds) .mk .mk) :
  o.wpIn (eP ro) n C.P a X.w (PK C X0 N K) Q:=by
 obtain⟨vb,O,h⟩:=yQ2.1 h;obtain⟨t,rfl,h⟩:=A_ h;have J:=dK (hA.v O).1;have G:(execOp a.eval o).run C.P X.w=.ok (.value (if t=true then a.eval x else a.eval y)) X.w:=by
  unfold execOp;rw[E];simp[J,asBool]
 refine eD G (by rw[E];intro c hc;cases hc) ?_;cases t with
 | true =>
  obtain⟨z,D,h⟩:=yQ2.1 (h.1 rfl);exact hA.val (hA.v D).1 h
 | false =>
  obtain⟨z,D,h⟩:=yQ2.1 (h.2 rfl);exact hA.val (hA.v D).1 h
def Bf {esc:List Nat}{v:Value}{T:TypeId}{y:List IV}(hv:C.vl X v.cells.toList y)(h:k_ esc o.dst y (finK o.dst K ad fr) X.st ds) :
  PK C X0 N K (a.put o.dst (.pointer (some ⟨X.w.heap.size,0,none⟩))) (X.w.alloc (.cells v.cells T)):=by
 unfold k_ at h;cases hd:o.dst with
 | none=>rw[hd] at h;exact h.elim
 | some d =>
  rw[hd] at h;simp only at h;split at h
  ·have D:X.st X.w.heap.size=none:=by
    cases hs:X.st X.w.heap.size with
    | none=>rfl
    | some o=>have:=hA.inv.good.lt hs;omega
   have h:=h X.w.heap.size D;have J:=hA.inv.new (.cells v.cells T) 0 (some (.box y)) (λi G=>by
    cases G;exact⟨by simp[WS.new],v.cells,T,iR _ _,(hA.inv.good.new_ext _ 0 _).vl hv⟩)
   have:=gF (dst:=some d) (K:=K) (x:=.raw (.pointer (some ⟨X.w.heap.size,0,none⟩))) (v:=.pointer (some ⟨X.w.heap.size,0,none⟩)) J hA.ad (λe E=>hA.hd e (by rw[hd];exact E)) (.raw _ trivial) h;exact this
  ·exact Is (dst:=some d) hA.inv hA.ad (λe E=>hA.hd e (by rw[hd];exact E)) hv h
def Iy {esc:List Nat}{T:TypeId}(E:o.op=.alloc T)(h:du (eX C.P T) λz=>k_ esc o.dst z.cells (finK o.dst K ad fr) X.st ds) :
  o.wpIn (eP ro) n C.P a X.w (PK C X0 N K) Q:=by
 obtain⟨z,G,h⟩:=yQ2.1 h;obtain⟨v,D,hv,hd,h1⟩:=qZ G X.w;have J:(execOp a.eval o).run C.P X.w=.ok (.value (.pointer (some ⟨X.w.heap.size,0,none⟩))) (X.w.alloc (.cells v.cells T)):=by
  unfold execOp;rw[E];simp[Instr.alloc,D,newVar,newRow]
 exact eD J (by rw[E];intro c hc;cases hc) (Bf hA (V.cells (hv _ _ _) (nE h1) hd) h)
def Iz {frz esc:List Nat}{v:Value}{T:TypeId}{y:IV}(hv:C.vl X v.cells.toList y.cells)(h:mE frz esc o.dst y (finK o.dst K ad fr) X.st ds) :
  PK C X0 N K (a.put o.dst (.pointer (some ⟨X.w.heap.size,0,none⟩))) (X.w.alloc (.cells v.cells T)):=by
 unfold mE at h;cases hd:o.dst with
 | none=>rw[hd] at h;exact h.elim
 | some d =>
  rw[hd] at h;simp only at h;split at h
  ·have J:X.st X.w.heap.size=none:=by
    cases hs:X.st X.w.heap.size with
    | none=>rfl
    | some o=>have:=hA.inv.good.lt hs;omega
   have hI:=hA.inv.new (.cells v.cells T) v.cells.size none (λi hi=>by cases hi);have hst:(X.new (.cells v.cells T) v.cells.size none).st=X.st:=by
    funext b;simp only[WS.new];split
    ·grind
    ·rfl
   rw[<- hst] at h;have E:=hA.inv.good.new_ext (.cells v.cells T) v.cells.size none;have D:=E.vl hv;have O:C.v (X.new (.cells v.cells T) v.cells.size none) (.pointer (some ⟨X.w.heap.size,0,none⟩)) (.cptr y):=by
    refine .cptr _ y v.cells.toList rfl D.1 ?_ (λi r G=>?_) (λi r c G hc=>D.2 i r c G hc)
    ·simp[WS.new]
    ·have h1:=iR X.w (.cells v.cells T);have h2:(X.new (.cells v.cells T) v.cells.size none).w=X.w.alloc (.cells v.cells T):=rfl;rw[h2];simp only[World.cell?,h1,dY,gn,bFt,dE];simpa using G
   have:=gF (dst:=some d) (K:=K) (x:=.cptr y) (v:=.pointer (some ⟨X.w.heap.size,0,none⟩)) hI hA.ad (λe he=>hA.hd e (by rw[hd];exact he)) O h;exact this
  ·have:=Bf (v:=v) (T:=T) (esc:=esc) hA hv (by rw[hd];exact h);grind
def IA {frz esc:List Nat}{T:TypeId}{x:Operand}(E:o.op=.box T x)
  (h:du (tyI C.P T) λ_=>du (evV C.gl fr x) λy=>chk (y.cells.all IV.one=true) (mE frz esc o.dst y (finK o.dst K ad fr) X.st ds)) :
  o.wpIn (eP ro) n C.P a X.w (PK C X0 N K) Q:=by
 obtain⟨i,_,h⟩:=yQ2.1 h;obtain⟨y,D,h1,h⟩:=yQ2.1 h;have G:(execOp a.eval o).run C.P X.w=.ok (.value (.pointer (some ⟨X.w.heap.size,0,none⟩))) (X.w.alloc (.cells (a.eval x).cells T)):=by
  unfold execOp;rw[E];simp[Instr.box,newVar,newRow]
 exact eD G (by rw[E];intro c hc;cases hc) (Iz hA (V.cells (hA.v D).1 (nE h1) (hA.v D).2) h)
def IB {dr:Bool}{T:TypeId}{x:Operand}(ho:o.op=.load T x)
  (h:du (tyI C.P T) λi=>du (evA C.gl ad fr x) λp=>jZ dr i.1 i.2 p fr (finK o.dst K ad fr) X.st ds) :
  o.wpIn (eP ro) n C.P a X.w (PK C X0 N K) Q:=by
 obtain⟨⟨ag,sz⟩,ht,h⟩:=yQ2.1 h;obtain⟨p,hp,h⟩:=yQ2.1 h;have G:=hA.p hp;have key:∀(D:Addr) (v:Value),a.eval x=.pointer (some D)->(loadVar T D).run C.P X.w=.ok v X.w->(execOp a.eval o).run C.P X.w=.ok (.value v) X.w:=by
  intro D v O hl;unfold execOp;rw[ho];simp only[Instr.loadAt,O,Instr.sureAddr,dw,dA,dv,hl]
 have hnd:∀c,o.op≠.defer c:=by rw[ho];intro c hc;cases hc
 cases p with
 | box t off =>
  obtain⟨cs,b,ab,hb,O⟩:=G;simp only[jZ,ab] at h;obtain⟨y,hy,h⟩:=yQ2.1 h;have hs:=hA.inv.fr.slot t;rw[ab] at hs;obtain⟨b',c,E,hr,hh,J,_⟩:=hs;rw[hb] at hr;cases hr;obtain⟨v,hl,hv⟩:=td ht hh J hy;exact eD (key _ v O hl) hnd (hA.val hv h)
 | ptr b off =>
  obtain⟨_,h⟩:=tj h;obtain⟨ob,ae,h⟩:=yQ2.1 h;obtain⟨cs,rfl,h⟩:=ra h;obtain⟨y,hy,h⟩:=yQ2.1 h;obtain⟨_,c,E,hh,J⟩:=hA.inv.good.ok b _ ae;obtain⟨v,hl,hv⟩:=td ht hh J hy;exact eD (key _ v G hl) hnd (hA.val hv h)
 | cp y =>
  obtain⟨hf,h⟩:=jO h;obtain⟨D,O,_⟩:=jm G;have aa:C.v X (.pointer (some D)) (.cptr y):=O▸G;obtain⟨v,hl,hv⟩:=Ir ht aa hf;exact eD (key _ v O hl) hnd (hA.val hv h)
def IC {T:TypeId}{x v:Operand}(ho:o.op=.store T x v)
  (h:du (tyI C.P T) λi=>du (evV C.gl fr v) λy=>chk (y.cells.length=i.2/\y.cells.all IV.one=true) (du (evA C.gl ad fr x) λp=>lG y.cells p fr (finK o.dst K ad fr) X.st ds)) :
  o.wpIn (eP ro) n C.P a X.w (PK C X0 N K) Q:=by
 obtain⟨⟨ag,sz⟩,ht,h⟩:=yQ2.1 h;obtain⟨y,hy,⟨ai,h1⟩,h⟩:=yQ2.1 h;obtain⟨p,hp,h⟩:=yQ2.1 h;simp only at ai;subst ai;have aj:=hA.p hp;obtain⟨hv,aa⟩:=hA.v hy;have key:∀(ah:Addr) (w':World),a.eval x=.pointer (some ah)->(storeVar T ah (a.eval v)).run C.P X.w=.ok () w'->(execOp a.eval o).run C.P X.w=.ok .skip w':=by
  intro ah w' he hl;unfold execOp;rw[ho];simp only[Instr.storeAt,he,Instr.sureAddr,dw,dA,dv,hl]
 have hnd:∀c,o.op≠.defer c:=by rw[ho];intro c hc;cases hc
 cases p with
 | box t off =>
  obtain⟨cs,b,ae,hb,he⟩:=aj;simp only[lG,ae] at h;obtain⟨ab,h⟩:=jO h;have hs:=hA.inv.fr.slot t;rw[ae] at hs;obtain⟨b',c,E,hr,hh,D,_⟩:=hs;rw[hb] at hr;cases hr;have af:c.size=cs.length:=by rw[<- D.1];simp
  obtain⟨hst,G⟩:=A7 ht hh hv aa h1 (off:=off) (by rw[af];exact ab);refine v7 (key _ _ he hst) hnd ?_;cases hd:o.dst with
  | some d=>rw[hd] at h;exact h.elim
  | none =>
   rw[hd] at h;have hI:=hA.inv.own ae hb hh (cs':=(c.toList.take off++(a.eval v).cells.toList++c.toList.drop (off+(a.eval v).cells.toList.length)).toArray) (new:=fu cs off y.cells) (by simp;have:=G.1;simp at this;omega)
    (by simpa using px D G)
   exact⟨_,ad,_,ds,rfl,hI,hA.ad.own _,h⟩
 | ptr b off =>
  obtain⟨ob,ak,h⟩:=yQ2.1 h;obtain⟨cs,rfl,h⟩:=ra h;obtain⟨ab,h⟩:=jO h;obtain⟨hL,c,E,hh,D⟩:=hA.inv.good.ok b _ ak;have af:c.size=cs.length:=by rw[<- D.1];simp
  obtain⟨hst,G⟩:=A7 ht hh hv aa h1 (off:=off) (by rw[af];exact ab);refine v7 (key _ _ aj hst) hnd ?_;have O:∀c':Array Value,c'=c->(c.toList.take off++(a.eval v).cells.toList++c.toList.drop (off+(a.eval v).cells.toList.length)).toArray.size=c'.size:=by
   rintro _ rfl;simp;have:=G.1;simp at this;omega
  have J:∀i,i<X.L b->((c.toList.take off++(a.eval v).cells.toList++c.toList.drop (off+(a.eval v).cells.toList.length)).toArray)[i]?=c[i]?:=λi hi=>by rw[hL] at hi;omega
  have hI:=hA.inv.row hh (O c rfl) (n:=0) (so:=some (.box (fu cs off y.cells))) (by omega) J (by rw[ak];simp) (λi hi=>by
   cases hi;refine⟨by simp[WS.row],_,E,fZ X.w b c _ E (0,0) hh,?_⟩;have:=px D G (off:=off);exact⟨by simpa using this.1,λi r z hr hz=>kH hh (O c rfl) (by omega) J (this.2 i r z (by simpa using hr) hz)⟩)
  cases hd:o.dst with
  | some d=>rw[hd] at h;exact h.elim
  | none =>
   rw[hd] at h;exact⟨_,ad,_,ds,rfl,hI,hA.ad,h⟩
 | cp y=>exact h.elim
def ID {dr:Bool}{x:Operand}(ho:o.op=.nilCheck x)(h:nilV (evV C.gl fr x) (evA C.gl ad fr x) dr (finK o.dst K ad fr) X.st ds) :
  o.wpIn (eP ro) n C.P a X.w (PK C X0 N K) Q:=by
 have hnd:∀c,o.op≠.defer c:=by rw[ho];intro c hc;cases hc
 have ae:(du (evA C.gl ad fr x) λp=>plR p (finK o.dst K ad fr) X.st ds)->o.wpIn (eP ro) n C.P a X.w (PK C X0 N K) Q:=λh=>by
  obtain⟨p,hp,h⟩:=yQ2.1 h;have E:=hA.p hp;have aa:∃G,a.eval x=.pointer (some G):=by
   cases p with
   | box t off=>obtain⟨_,_,_,_,D⟩:=E;exact⟨_,D⟩
   | ptr b off=>exact⟨_,E⟩
   | cp y=>obtain⟨G,D,_⟩:=jm E;exact⟨_,D⟩
  obtain⟨G,D⟩:=aa;have J:(execOp a.eval o).run C.P X.w=.ok (.value (a.eval x)) X.w:=by
   unfold execOp;rw[ho];simp only[D];rfl
  exact eD J hnd (A8 hA.inv hA.ad hA.hd E h)
 unfold nilV at h;split at h
 ·rename_i f first af O
  obtain⟨hf,h⟩:=jO h;have hv:=(hA.v O).1;obtain⟨rs,ag,D,_⟩:=jk hv;have J:(execOp a.eval o).run C.P X.w=.ok (.value (a.eval x)) X.w:=by
   unfold execOp;rw[ho];simp only[D];cases f<;>first|rfl|simp[fnOk] at hf
  exact eD J hnd (hA.val hv h)
 ·rename_i y O;have hv:=(hA.v O).1;obtain⟨G,D,_⟩:=jm hv;have J:(execOp a.eval o).run C.P X.w=.ok (.value (a.eval x)) X.w:=by
   unfold execOp;rw[ho];simp only[D];rfl
  exact eD J hnd (hA.val hv h)
 ·rename_i q O;by_cases ac:dr=true
  ·rw[cX ac] at h;have D:=dK (hA.v O).1;have J:(execOp a.eval o).run C.P X.w=.ok (.value (a.eval x)) X.w:=by
    unfold execOp;rw[ho];simp only[D];rfl
   exact eD J hnd (hA.val (hA.v O).1 h)
  ·grind
 ·grind
def IE {f:Fn}{first D:Array Operand}(E:o.op=.makeFunc f first D)
  (h:du (evL C.gl fr first.toList) λx=>du (evL C.gl fr D.toList) λy=>finK o.dst K ad fr (.val (.fn f x y)) X.st ds) :
  o.wpIn (eP ro) n C.P a X.w (PK C X0 N K) Q:=by
 obtain⟨x,J,h⟩:=yQ2.1 h;obtain⟨y,G,h⟩:=yQ2.1 h;have h1:=qY hA.inv.good hA.inv.fr J;have h2:=qY hA.inv.good hA.inv.fr G;have O:(execOp a.eval o).run C.P X.w=.ok (.value (.func f ⟨first.toList.map a.eval⟩ ⟨D.toList.map a.eval⟩)) X.w:=by
  unfold execOp;rw[E];have e1:first.map a.eval=⟨first.toList.map a.eval⟩:=by apply Array.ext';simp
  have e2:D.map a.eval=⟨D.toList.map a.eval⟩:=by apply Array.ext';simp
  simp only[Instr.makeFunc,e1,e2,dw,dA,dv]
 exact eD O (by rw[E];intro c hc;cases hc) (hA.val (.fn f _ _ h1.1 h1.2 _ _ h2.1 h2.2) h)
def IF {x:Operand}{i:Nat}(G:o.op=.extract x i)(h:du (evV C.gl fr x) λx=>tupV x λvs=>du (vs[i]?) λy=>finK o.dst K ad fr (.val y) X.st ds) :
  o.wpIn (eP ro) n C.P a X.w (PK C X0 N K) Q:=by
 obtain⟨y,O,h⟩:=yQ2.1 h;obtain⟨vs,rfl,h⟩:=Iu h;obtain⟨z,J,h⟩:=yQ2.1 h;obtain⟨rs,he,E⟩:=ou (hA.v O).1;obtain⟨r,hr,hv⟩:=E.get J;have D:(execOp a.eval o).run C.P X.w=.ok (.value r) X.w:=by
  unfold execOp;rw[G];have:(⟨rs⟩:Array Value)[i]?=some r:=by simpa using hr
  simp[Instr.extract,he,this]
 exact eD D (by rw[G];intro c hc;cases hc) (hA.val hv h)
end
def Bg:∀ {xs:List IV}{l:List UInt8},k8 xs=some l->xs=l.map λb=>.raw (.int .u8 (b.toNat:Int))
 | [],l,h=>by simp only[k8,dI] at h;subst h;rfl
 | x::xs,l,h=>by
  unfold k8 at h;split at h
  ·grind
  ·rename_i m G D;cases D;split at h
   ·rename_i J;rw[fp] at h;obtain⟨E,h2,rfl⟩:=h;rw[Bg h2,ec];congr 3;rw[ji];omega
   ·cases h
  ·cases h
def IG {C:Cx}{X:WS}{P:Program}{S D:TypeId}{v:Value}{t:Tag}{l:List UInt8}(hv:C.v X v (.sl t (l.map λb=>.raw (.int .u8 (b.toNat:Int)))))(hl:l≠[])(hS:qW P S=true)(hD:strT P D=true) :
  (convert S D v).run P X.w=.ok (.string ⟨l.toArray⟩) X.w/\l.length<=140737488355328:=by
 unfold qW at hS;split at hS
 ·rename_i e he;split at hS
  ·rename_i ah;unfold strT at hD;split at hD
   ·rename_i hd;cases hv with
    | sl ao cap _ _ T vs aj G an hs O ac aa E hc =>
     have af:∀(m:List UInt8),(m.map λb=>IV.raw (.int .u8 (b.toNat:Int))).flatMap IV.cells=m.map λb=>IV.raw (.int .u8 (b.toNat:Int)):=λm=>by
      induction m with
      | nil=>rfl
      | cons a m ih=>simp only[ec,eo,ih];rfl
     rw[af] at hc;have ag:t.es=1:=by
      match l,hl with
      | b::l,_=>exact (hs (.raw (.int .u8 (b.toNat:Int))) (by simp)).symm
     obtain⟨ad,rfl,ab,_,J⟩:=E (by simpa using hl);rw[dP] at G O ⊢;refine⟨run_convert_bytes_back X.w S D e ad cap l he ah hd (λj hj=>?_),G⟩;rw[mH ad ab];have ae:j<vs.length:=by rw[O,ag];omega
     have h1:=dT ae;rw[J j _ h1];have h2:=dK (hc j _ _ h1 (by rw[eB,dT hj];rfl));rw[h2]
   ·cases hD
  ·cases hS
 ·cases hS
def we {P:Program}{op:BinOp}{T:TypeId}{x y:Operand}{a b:Value}(h1:a≠.nilIface)(h2:∀u,a≠.agg u)(w:World) :
  (eqGuard op T x y a b).run P w=.ok () w:=by
 cases a<;>first
  | (exact absurd rfl h1)
  | (exact absurd rfl (h2 _))
  | (cases op<;>rfl)
def II (a b:ByteArray):(a.toList == b.toList)=decide (a=b):=by
 rw[ByteArray.toList_eq,ByteArray.toList_eq];by_cases h:a=b
 ·subst h;simp
 ·have:¬ a.data=b.data:=λD=>h (by cases a;cases b;simp at D;subst D;rfl);simp[h,this]
def IJ {P:Program}{op:BinOp}{T:TypeId}{a b z:Value}(h:binI P T op a b=some z)(w:World):(binOp op T a b).run P w=.ok z w/\mD z/\a≠.nilIface/\(∀u,a≠.agg u):=by
 unfold binI at h;split at h
 ·rename_i k x O y;split at h
  ·rename_i E;subst E;split at h
   ·rename_i D;cases h;exact⟨by simp[binOp,Op.shift,show ¬ y<0 by omega],trivial,by simp,by simp⟩
   ·cases h
  split at h
  ·rename_i E;subst E;split at h
   ·rename_i D;cases h;exact⟨by simp[binOp,Op.shift,show ¬ y<0 by omega],trivial,by simp,by simp⟩
   ·cases h
  split at h
  ·rename_i G;subst G;refine⟨?_,?_,by simp,by simp⟩
   ·cases op<;>simp only[cmpI,dI,reduceCtorEq] at h
    case add=>subst h;simp[binOp,Op.intArith]
    case sub=>subst h;simp[binOp,Op.intArith]
    case and=>subst h;simp[binOp,Op.intBits]
    case andNot=>subst h;simp[binOp,Op.intBits]
    case mul=>subst h;simp[binOp,Op.intArith]
    case quo =>
     split at h
     ·cases h
     ·rename_i D;cases h;simp[binOp,Op.intDiv,D]
    case rem =>
     split at h
     ·cases h
     ·rename_i D;cases h;simp[binOp,Op.intDiv,D]
    case eql=>subst h;simp[binOp,Op.intCmp,BEq.beq]
    case neq=>subst h;simp[binOp,Op.intCmp,bne,BEq.beq]
    case lss=>subst h;simp[binOp,Op.intCmp]
    case leq=>subst h;simp[binOp,Op.intCmp]
    case gtr=>subst h;simp[binOp,Op.intCmp]
    case geq=>subst h;simp[binOp,Op.intCmp]
   ·cases op<;>simp only[cmpI,dI,reduceCtorEq] at h<;>first
     | (subst h;trivial)
     | (split at h
        ·cases h
        ·cases h;trivial)
  ·cases h
 ·rename_i a b;refine⟨?_,?_,by simp,by simp⟩
  ·cases op<;>simp only[dI,reduceCtorEq] at h
   case add =>
    split at h
    ·rename_i hs;cases h;have:¬ ((a.size+b.size:Nat):Int) > IntKind.i64.max:=by
      have:IntKind.i64.max=9223372036854775807:=by decide
      omega
     simp only[binOp,Op.stringOp,a_ this,dA]
    ·cases h
   all_goals (subst h;simp only[binOp,Op.stringOp,II,dA])
   all_goals simp only[ByteArray.toList_eq]
  ·cases op<;>simp only[dI,reduceCtorEq] at h
   case add =>
    split at h
    ·rename_i hs;cases h;simp only[mD,ByteArray.size_append];omega
    ·cases h
   all_goals (subst h;trivial)
 ·rename_i a b;split at h
  ·rename_i ht;have J:∀x y:Bool,(Op.equal T (.bool x) (.bool y)).run P w=.ok (x == y) w:=by
    exact λx y=>run_equalIn_bool w 9999 T x y ht
   refine⟨?_,?_,by simp,by simp⟩
   ·cases op<;>simp only[dI,reduceCtorEq] at h<;>(subst h;simp only[binOp,dw,J,dv,dA])
   ·cases op<;>simp only[dI,reduceCtorEq] at h<;>(subst h;trivial)
  ·cases h
 ·cases h
section
variable {C:Cx}{X0 X:WS}{N:Nat}{fr:Fr}{ds:List Dfd}{a:Act}{ad:Ad}{K:Kt}{ro:Option Nat}{n:Nat}{Q:Exit->Act->World->Prop}{o:Oper}
def IK {B:Nat}{L:Nat->Nat}{w:World}{r:Value}{t:Tag}{xs:List IV}{b:Bool}(hv:V B L w r (.sl t xs))(h:kI (.sl t xs)=some b):∃ad len cap,r=.slice ad len cap/\ad.isNone=b:=by
 cases hv with
 | sl ad cap _ _ T vs D aa ac hs ab J G E _ =>
  refine⟨ad,_,_,rfl,?_⟩;obtain⟨f,cp,es⟩:=t;unfold kI at h;split at h
  ·rename_i O;cases O;cases h;simp only[kY] at D;rw[D.1];rfl
  ·rename_i O;cases O;cases h;simp only[kY] at D;rw[D];rfl
  ·grind
  ·cases h
variable (hA:At C X0 N X fr ds a ad o.dst)
include hA
def IL {op:BinOp}{T T':TypeId}{x y:Operand}(ho:o.op=.binOp op T x y T')
  (h:du (evV C.gl fr x) λx=>du (evV C.gl fr y) λy=>du (binV C.P T op x y) λz=>finK o.dst K ad fr (.val z) X.st ds) :
  o.wpIn (eP ro) n C.P a X.w (PK C X0 N K) Q:=by
 obtain⟨vx,hx,h2⟩:=yQ2.1 h;clear h;obtain⟨vy,hy,h3⟩:=yQ2.1 h2;clear h2;obtain⟨vz,G,h⟩:=yQ2.1 h3;clear h3;have hnd:∀c,o.op≠.defer c:=by rw[ho];intro c hc;cases hc
 have ai:=(hA.v hx).1;have af:=(hA.v hy).1;unfold binV at G;split at G
 ·rename_i u v;cases hq:binI C.P T op u v with
  | none=>simp[hq] at G
  | some q =>
   simp only[hq,eJ,dI] at G;subst G;obtain⟨aj,an,h1,h2⟩:=IJ hq X.w;have e1:=dK ai;have e2:=dK af;have hr:(execOp a.eval o).run C.P X.w=.ok (.value q) X.w:=by
    unfold execOp;rw[ho];simp only[e1,e2,dw,we h1 h2,dv,aj,dA]
   exact eD hr hnd (hA.val (.raw _ an) h)
 ·rename_i t xs f es l;split at G
  ·rename_i am;have J:∃e,C.P.underlying T=some (.slice e):=by
    unfold nz at am;grind
   obtain⟨e,J⟩:=J;have e2:a.eval y=.slice none 0 0:=by
    generalize a.eval y=r at af;cases af with
    | sl ad cap _ _ T vs O=>rw[O.1,O.2.1,O.2.2]
   have key:∀b,kI (.sl t xs)=some b->(Op.equal T (a.eval x) (a.eval y)).run C.P X.w=.ok b X.w/\(∃ad len cap,a.eval x=.slice ad len cap):=by
    intro b hb;obtain⟨aa,D,E,e1,ag⟩:=IK ai hb;refine⟨?_,_,_,_,e1⟩;rw[e1,e2];subst ag;exact run_equal_slice_nil X.w T e aa D E J
   cases op<;>simp only[reduceCtorEq] at G
   ·cases hb:kI (.sl t xs) with
    | none=>simp[hb] at G
    | some b =>
     simp only[hb,eJ,dI] at G;subst G;obtain⟨hq,aa,D,E,e1⟩:=key b hb;have hr:(execOp a.eval o).run C.P X.w=.ok (.value (.bool b)) X.w:=by
      unfold execOp;rw[ho];rw[e1,e2] at hq;simp only[e1,e2,dw,we (a:=.slice aa D E) (by simp) (by simp),dv,binOp,hq,dA]
     exact eD hr hnd (hA.val (.raw _ trivial) h)
   ·cases hb:kI (.sl t xs) with
    | none=>simp[hb] at G
    | some b =>
     simp only[hb,eJ,dI] at G;subst G;obtain⟨hq,aa,D,E,e1⟩:=key b hb;have hr:(execOp a.eval o).run C.P X.w=.ok (.value (.bool !b)) X.w:=by
      unfold execOp;rw[ho];rw[e1,e2] at hq;simp only[e1,e2,dw,we (a:=.slice aa D E) (by simp) (by simp),dv,binOp,hq,dA]
     exact eD hr hnd (hA.val (.raw _ trivial) h)
  ·cases G
 ·cases G
def IM {op:UnOp}{T:TypeId}{x:Operand}(J:o.op=.unOp op T x)
  (h:du (evV C.gl fr x) λx=>du (unI op x) λz=>finK o.dst K ad fr (.val z) X.st ds):o.wpIn (eP ro) n C.P a X.w (PK C X0 N K) Q:=by
 obtain⟨vx,O,h2⟩:=yQ2.1 h;clear h;obtain⟨vz,D,h⟩:=yQ2.1 h2;clear h2;have hnd:∀c,o.op≠.defer c:=by rw[J];intro c hc;cases hc
 have E:=(hA.v O).1;unfold unI at D;split at D
 ·rename_i b;cases op<;>simp only[reduceCtorEq,dI] at D;subst D;have e:=dK E;have G:(execOp a.eval o).run C.P X.w=.ok (.value (.bool !b)) X.w:=by
   unfold execOp;rw[J];simp[e,Op.unary]
  exact eD G hnd (hA.val (.raw _ trivial) h)
 ·rename_i k m;cases op<;>simp only[reduceCtorEq,dI] at D;subst D;have e:=dK E;have G:(execOp a.eval o).run C.P X.w=.ok (.value (.int k (k.wrap (0-m)))) X.w:=by
   unfold execOp;rw[J];simp[e,Op.unary,Op.intArith]
  exact eD G hnd (hA.val (.raw _ trivial) h)
 ·cases D
def IN {S D:TypeId}{x:Operand}(ho:o.op=.convert S D x)
  (h:du (evV C.gl fr x) λx=>du (nA C.P S D x) λz=>finK o.dst K ad fr (.val z) X.st ds):o.wpIn (eP ro) n C.P a X.w (PK C X0 N K) Q:=by
 obtain⟨vx,hx,h2⟩:=yQ2.1 h;clear h;obtain⟨vz,E,h⟩:=yQ2.1 h2;clear h2;have hnd:∀c,o.op≠.defer c:=by rw[ho];intro c hc;cases hc
 have G:=(hA.v hx).1;unfold nA at E;split at E
 ·rename_i t xs;split at E
  ·rename_i J;rw[Option.bind_eq_some_iff] at E;obtain⟨l,hb,E⟩:=E;split at E
   ·cases E
   ·rename_i ac;cases E;have e:=Bg hb;subst e;obtain⟨hc,ae⟩:=IG G ac J.1 J.2;have hr:(execOp a.eval o).run C.P X.w=.ok (.value (.string ⟨l.toArray⟩)) X.w:=by
     unfold execOp;rw[ho];simp only[dw,hc,dv,dA]
    exact eD hr hnd (hA.val (.raw _ (by show ByteArray.size ⟨l.toArray⟩<=_;simp[ByteArray.size];omega)) h)
  ·cases E
 ·rename_i k m;split at E
  ·rename_i k1 O h1 h2;cases E;have e:=dK G;have hr:(execOp a.eval o).run C.P X.w=.ok (.value (.int O (O.wrap m))) X.w:=by
    unfold execOp;rw[ho];have hc:(convert S D (.int k m)).run C.P X.w=.ok (.int O (O.wrap m)) X.w:=by
     simp only[convert,dw,dW h1,dW h2,dv];rfl
    simp only[e,dw,hc,dv,dA]
   exact eD hr hnd (hA.val (.raw _ trivial) h)
  ·cases E
 ·cases E
end
def nF {B:Nat}{L:Nat->Nat}{w:World}{D:Addr}{cs:List IV}{ag:Bool}{sz off:Nat}{y:IV}(h:V B L w (.pointer (some D)) (.cptr (.agg cs)))(hp:gw ag sz cs off=some y)
  (hy:ag=false->y.cells=[y]):V B L w (.pointer (some (D.add off))) (.cptr y):=by
 cases h with
 | cptr _ _ vs aa O hL hc h =>
  rw[mH D aa];simp only[jY] at O h;unfold gw at hp;split at hp
  ·rename_i J;split at hp
   ·rename_i ai;cases hp;refine .cptr _ _ ((vs.drop off).take sz) rfl (by simp[jY];omega) (by simp;omega) (λi r hr=>?_) (λi r c hr E=>?_)
    ·grind
    ·rw[jY] at E;grind
   ·cases hp
  ·rename_i J;have G:ag=false:=by simpa using J
   have ah:=(lGs hp).1;have af:vs[off]?=some (vs[off]'(by omega)):=dT _;refine .cptr _ _ [vs[off]'(by omega)] rfl (by rw[hy G];rfl) (by simp;omega) (λi r hr=>?_) (λi r c hr E=>?_)
   ·grind
   ·grind
def tA {P:Program}{T:TypeId}{i fo n:Nat}{ag:Bool}(h:fldI P T i=some (fo,ag,n)):∃(D:Array Field) (f:Field),P.underlying T=some (.struct D)/\D[i]?=some f/\f.offset=fo/\tyI P f.type=some (ag,n)/\0<n:=by
 unfold fldI at h;grind
def tB {P:Program}{T:TypeId}{len n:Nat}{ag:Bool}(h:arrI P T=some (len,ag,n)):∃e,P.underlying T=some (.array len e)/\tyI P e=some (ag,n):=by
 unfold arrI at h;split at h
 ·rename_i m e D;cases ht:tyI P e with
  | none=>simp[ht] at h
  | some p =>
   grind
 ·cases h
def mJ {P:Program}{T e:TypeId}{ag:Bool}{s b:Nat}(h:slI P T=some (e,ag,s,b)):P.underlying T=some (.slice e)/\tyI P e=some (ag,s)/\∃i,P.info? e=some i/\i.zero.isSome=true/\i.bytes=b:=by
 unfold slI at h;split at h
 ·rename_i J G;split at h
  ·rename_i a s' i ht E;split at h
   ·rename_i hs;cases h;exact⟨G,ht,i,E,by cases D:i.zero<;>simp[D] at hs ⊢,rfl⟩
   ·cases h
  ·cases h
 ·cases h
def wg {P:Program}{T e:TypeId}{ag:Bool}{s b:Nat}{i:TypeInfo}(h:slI P T=some (e,ag,s,b))(G:P.info? e=some i):∃z,i.zero=some z/\z.cells.size=s:=by
 unfold slI at h;split at h
 ·split at h
  ·rename_i a s' J ht D;split at h
   ·rename_i hs;cases h;rw[G] at D;cases D;cases E:i.zero with
    | none=>simp[E] at hs
    | some z=>exact⟨z,rfl,by simpa[E] using hs⟩
   ·cases h
  ·cases h
 ·cases h
def IP {P:Program}{f:Field}{ag:Bool}{n:Nat}(ht:tyI P f.type=some (ag,n))(D:0<n)(ad:Addr)(w:World):(fieldPlace ad f).run P w=.ok (ad.add f.offset) w:=by
 have h2:=(j0 ht w).2;have:¬ n=0:=by omega
 simp only[fieldPlace,dw,h2,dv,a_ this,dA]
def re {P:Program}{T:TypeId}{k:LenK}(h:lenI P T=some k):(k=.str/\P.underlying T=some .string)\/(k=.sl/\∃e,P.underlying T=some (.slice e))\/(k=.map/\∃a b,P.underlying T=some (.map a b)) \/
  (∃n e,k=.arr n/\P.underlying T=some (.array n e)):=by
 unfold lenI at h;grind
def Bh {B:Nat}{L:Nat->Nat}{w:World}{rs:List Value}{cs:List IV}(hv:VL B L w rs cs){ag:Bool}{n off:Nat}{y:IV}(h:gw ag n cs off=some y) :
  ∃r,(ag=true->off+n<=rs.length/\r=.agg ⟨(rs.drop off).take n⟩)/\((ag=false->rs[off]?=some r)/\V B L w r y):=by
 unfold gw at h;split at h
 ·rename_i E;split at h
  ·rename_i D;cases h;refine⟨_,λ_=>⟨by rw[hv.1];exact D,rfl⟩,?_,((hv.drop off).take n).agg⟩;grind
  ·cases h
 ·rename_i E;obtain⟨r,J,G⟩:=hv.get h;grind
def Bi {P:Program}{T:TypeId}{ag:Bool}{n:Nat}(ht:tyI P T=some (ag,n))(w:World)(rs:List Value)(off:Nat)(r:Value)
  (h1:ag=true->off+n<=rs.length/\r=.agg ⟨(rs.drop off).take n⟩) (h2:ag=false->rs[off]?=some r):(part T ⟨rs⟩ off).run P w=.ok r w:=by
 obtain⟨D,E⟩:=j0 ht w;cases ag with
 | true =>
  obtain⟨G,rfl⟩:=h1 rfl;have:(⟨rs⟩:Array Value).extract off (off+n)=⟨(rs.drop off).take n⟩:=by
   grind
  simp only[part,dw,D,dv,dJ,E,dA,this]
 | false =>
  have:(⟨rs⟩:Array Value)[off]?=some r:=by simpa using h2 rfl
  simp only[part,dw,D,dv,bFt,dE,this,dA]
def lJ {ag:Bool}{n:Nat}{y:IV}(h:fits ag n y=true):(ag=false->y.cells=[y])/\y.cells.length=n/\y.cells.all IV.one=true/\y.def_:=by
 unfold fits at h;split at h
 ·rename_i cs;simp only[bAt,beq_iff_eq] at h;exact⟨λE=>(by rw[E] at h;simp at h),h.1.2,h.2,by simp[IV.def_]⟩
 ·rename_i D;simp only[bAt,mc,beq_iff_eq] at h;have hc:=lF h.1.2;refine⟨λ_=>hc,by rw[hc];exact h.2.symm,by rw[hc];simp[h.1.2],?_⟩;rintro rfl;simp[IV.one] at h
section
variable {C:Cx}{X0 X:WS}{N:Nat}{fr:Fr}{ds:List Dfd}{a:Act}{ad:Ad}{K:Kt}{ro:Option Nat}{n:Nat}{Q:Exit->Act->World->Prop}{o:Oper}
def IQ {r:Value}{G:Tag}{xs:List IV}{j:Nat}{y:IV}(hv:C.v X r (.sl G xs))(hy:xs[j]?=some y):∃(D:Addr) (cap:Nat),r=.slice (some D) xs.length cap/\C.v X (.pointer (some (D.add (j*G.es)))) (.cptr y):=by
 cases hv with
 | sl au cap _ _ T vs ak aj ao hs ab ae J E hc =>
  have hj:=(lGs hy).1;have O:=lMg hy;obtain⟨D,rfl,ac,hL,ah⟩:=E (by intro h0;rw[h0] at hj;simp at hj);refine⟨D,cap,rfl,?_⟩;rw[mH D ac];have ag:∀(l:List IV) (j:Nat) (y:IV),(∀x∈l,x.cells.length=G.es)->l[j]?=some y->∀(i:Nat) (c:IV),y.cells[i]?=some c->(l.flatMap IV.cells)[j*G.es+i]?=some c:=by
   intro l
   induction l with
   | nil=>intro j y _ h;simp at h
   | cons x l ih =>
    intro j y hs h i c an;have hx:=hs x (by simp);rw[eo];cases j with
    | zero =>
     grind
    | succ j =>
     grind
  have aa:=hs y O;have am:j*G.es+G.es<=vs.length:=by rw[ab,<- hY];exact fE _ hj
  refine .cptr _ _ ((vs.drop (j*G.es)).take G.es) rfl (by rw[aa];simp;omega) (by simp;omega) (λi r hr=>?_) (λi r c hr aq=>?_)
  ·grind
  ·grind
variable (hA:At C X0 N X fr ds a ad o.dst)
include hA
def IS {T:TypeId}{x:Operand}{i:Nat}(ho:o.op=.fieldAddr T x i)
  (h:du (fldI C.P T i) λf=>du (evA C.gl ad fr x) λp=>nB f p (finK o.dst K ad fr) X.st ds):o.wpIn (eP ro) n C.P a X.w (PK C X0 N K) Q:=by
 obtain⟨⟨fo,ag,sz⟩,hf,h2⟩:=yQ2.1 h;clear h;obtain⟨p,hp,h⟩:=yQ2.1 h2;clear h2;have hnd:∀c,o.op≠.defer c:=by rw[ho];intro c hc;cases hc
 obtain⟨fs,f,hT,ab,rfl,aa,hn⟩:=tA hf;have D:=hA.p hp;have key:∀E:Addr,a.eval x=.pointer (some E)->(execOp a.eval o).run C.P X.w=.ok (.value (.pointer (some (E.add f.offset)))) X.w:=by
  intro E G;unfold execOp;rw[ho];simp only[Instr.fieldAt,dw,dW hT,dv,ab,G,Instr.sureAddr,dA,IP aa hn]
 cases p with
 | box t off =>
  obtain⟨cs,b,h1,h2,G⟩:=D;have J:=key _ G;rw[lI] at J;exact eD J hnd (vZ hA.inv hA.ad hA.hd h1 h2 h)
 | ptr b off =>
  have J:=key _ D;rw[lI] at J;exact eD J hnd (hA.val (.raw _ trivial) h)
 | cp z =>
  obtain⟨cs,rfl,h2⟩:=th h;clear h;obtain⟨y,hy,h3⟩:=yQ2.1 h2;clear h2;obtain⟨O,h⟩:=jO h3;clear h3;obtain⟨E,G,_⟩:=jm D;exact eD (key _ G) hnd (hA.val (nF (G▸D) hy (lJ O).1) h)
def IT {T:TypeId}{x:Operand}{i:Nat}(J:o.op=.field T x i)
  (h:du (fldI C.P T i) λf=>du (evV C.gl fr x) λx=>aggV x λcs=>du (gw f.2.1 f.2.2 cs f.1) λy=>finK o.dst K ad fr (.val y) X.st ds):o.wpIn (eP ro) n C.P a X.w (PK C X0 N K) Q:=by
 obtain⟨⟨fo,ag,sz⟩,hf,h2⟩:=yQ2.1 h;clear h;obtain⟨z,hz,h3⟩:=yQ2.1 h2;clear h2;obtain⟨cs,rfl,O⟩:=th h3;clear h3;obtain⟨y,hy,h⟩:=yQ2.1 O;clear O;have hnd:∀c,o.op≠.defer c:=by rw[J];intro c hc;cases hc
 obtain⟨fs,f,hT,G,rfl,E,hn⟩:=tA hf;obtain⟨rs,he,D⟩:=ot (hA.v hz).1;obtain⟨r,h1,h2,hv⟩:=Bh D hy;have hr:(execOp a.eval o).run C.P X.w=.ok (.value r) X.w:=by
  unfold execOp;rw[J];simp only[Instr.field,dw,dW hT,dv,G,he,asAgg,dA,Bi E X.w rs f.offset r h1 h2]
 exact eD hr hnd (hA.val hv h)
def IU {T:TypeId}{x i:Operand}(ho:o.op=.indexAddr T x i)
  (h:du (evV C.gl fr i) λi=>intV i λ_ j=>du (lenI C.P T) λk=>idxV k (slI C.P T) (evV C.gl fr x) (evA C.gl ad fr x) (arrI C.P T) j (finK o.dst K ad fr) X.st ds) :
  o.wpIn (eP ro) n C.P a X.w (PK C X0 N K) Q:=by
 obtain⟨vi,hi,h2⟩:=yQ2.1 h;clear h;obtain⟨k,j,rfl,D⟩:=mI h2;clear h2;obtain⟨lk,au,h⟩:=yQ2.1 D;clear D;have hnd:∀c,o.op≠.defer c:=by rw[ho];intro c hc;cases hc
 have ei:=dK (hA.v hi).1;rcases re au with⟨rfl,_⟩|⟨rfl,e,hT⟩|⟨rfl,_⟩|⟨len,e,rfl,hT⟩
 ·exact h.elim
 ·obtain⟨⟨e',ag,sz,by_⟩,hs,h0⟩:=yQ2.1 h;clear h;obtain⟨vx,hx,h2⟩:=yQ2.1 h0;clear h0;rcases Bb h2 with⟨aq,xs,rfl,D⟩|⟨b,off,m,cap,rfl,D⟩
  case inr =>
   clear h2;obtain⟨hj,h⟩:=jO D;clear D;have ex:=dK (hA.v hx).1;obtain⟨E,J,_⟩:=mJ hs;rw[hT] at E;cases E;have hr:(execOp a.eval o).run C.P X.w=.ok (.value (.pointer (some (Addr.add ⟨b,off,none⟩ (j.toNat*sz))))) X.w:=by
    unfold execOp;rw[ho];have h2:=(j0 J X.w).2;have O:0<=j/\j<(m:Int):=⟨hj.1,by omega⟩
    simp only[Instr.indexAt,ei,asIntOf,dw,dA,dv,dW hT,ex,O,and_self,dJ,h2]
   rw[lI] at hr;exact eD hr hnd (hA.val (.raw _ trivial) h)
  clear h2;obtain⟨ae,D⟩:=jO D;obtain⟨hj,h4⟩:=jO D;clear D;obtain⟨y,hy,h⟩:=yQ2.1 h4;clear h4;have ai:=V.reTag (es:=sz) (hA.v hx).1;simp only at ae;generalize reTag sz aq=tg at ae ai;have aj:=(lGs hy).1;obtain⟨G,cap,he,hv⟩:=IQ ai hy;obtain⟨E,J,_⟩:=mJ hs;rw[hT] at E;cases E;rw[ae] at hv;have hr:(execOp a.eval o).run C.P X.w=.ok (.value (.pointer (some (G.add (j.toNat*sz))))) X.w:=by
   unfold execOp;rw[ho];have h2:=(j0 J X.w).2;have O:0<=j/\j<(xs.length:Int):=⟨hj,by omega⟩
   simp only[Instr.indexAt,ei,asIntOf,dw,dA,dv,dW hT,he,O,and_self,dJ,h2]
  exact eD hr hnd (hA.val hv h)
 ·exact h.elim
 ·obtain⟨⟨ax,ag,sz⟩,av,h2⟩:=yQ2.1 h;clear h;obtain⟨p,hp,D⟩:=yQ2.1 h2;clear h2;obtain⟨hj,h⟩:=jO D;clear D;obtain⟨e',E,J⟩:=tB av;rw[hT] at E;cases E;obtain⟨aj,h2⟩:=jO h;clear h;simp only at aj;have ab:=hA.p hp;have key:∀G:Addr,a.eval x=.pointer (some G)->(execOp a.eval o).run C.P X.w=.ok (.value (.pointer (some (G.add (j.toNat*sz))))) X.w:=by
   intro G he;unfold execOp;rw[ho];have h2:=(j0 J X.w).2;have O:0<=j/\j<(len:Int):=⟨hj,by omega⟩
   simp only[Instr.indexAt,ei,asIntOf,dw,dA,dv,dW hT,he,Instr.sureAddr,O,and_self,dJ,h2]
  cases p with
  | box t off =>
   obtain⟨cs,b,h1,D,he⟩:=ab;have hr:=key _ he;rw[lI] at hr;exact eD hr hnd (vZ hA.inv hA.ad hA.hd h1 D h2)
  | ptr b off =>
   have hr:=key _ ab;rw[lI] at hr;exact eD hr hnd (hA.val (.raw _ trivial) h2)
  | cp z =>
   obtain⟨cs,rfl,D⟩:=th h2;clear h2;obtain⟨y,hy,h4⟩:=yQ2.1 D;clear D;obtain⟨al,h⟩:=jO h4;clear h4;obtain⟨G,he,_⟩:=jm ab;exact eD (key _ he) hnd (hA.val (nF (he▸ab) hy (lJ al).1) h)
def IW {T:TypeId}{x i:Operand}(ho:o.op=.index T x i)
  (h:du (evV C.gl fr i) λi=>intV i λ_ j=>du (lenI C.P T) λk=>du (evV C.gl fr x) λx=>nC k (arrI C.P T) x j (finK o.dst K ad fr) X.st ds) :
  o.wpIn (eP ro) n C.P a X.w (PK C X0 N K) Q:=by
 obtain⟨vi,hi,h2⟩:=yQ2.1 h;clear h;obtain⟨k,j,rfl,D⟩:=mI h2;clear h2;obtain⟨lk,af,h4⟩:=yQ2.1 D;clear D;obtain⟨vx,hx,h⟩:=yQ2.1 h4;clear h4;have hnd:∀c,o.op≠.defer c:=by rw[ho];intro c hc;cases hc
 have ei:=dK (hA.v hi).1;have E:=(hA.v hx).1;rcases re af with⟨rfl,O⟩|⟨rfl,e,O⟩|⟨rfl,_⟩|⟨len,e,rfl,O⟩
 ·obtain⟨v,rfl,h2⟩:=v_ h;clear h;cases v with
  | string s =>
   obtain⟨b,hb,h⟩:=yQ2.1 h2;clear h2;have ex:=dK E;have hr:(execOp a.eval o).run C.P X.w=.ok (.value (.int .u8 b.toNat)) X.w:=by
    unfold execOp;rw[ho];unfold oB at hb;simp only[Instr.index,ei,ex,asIntOf,dw,dA,dv,dW O,hb]
   exact eD hr hnd (hA.val (.raw _ trivial) h)
  | _=>exact h2.elim
 ·exact h.elim
 ·exact h.elim
 ·obtain⟨cs,rfl,h2⟩:=th h;clear h;obtain⟨⟨ai,ag,sz⟩,ah,D⟩:=yQ2.1 h2;clear h2;obtain⟨hj,h4⟩:=jO D;clear D;obtain⟨y,hy,h⟩:=yQ2.1 h4;clear h4;obtain⟨e',J,G⟩:=tB ah;rw[O] at J;cases J;obtain⟨rs,ex,ab⟩:=ot E;obtain⟨r,h1,h2,hv⟩:=Bh ab hy;have hr:(execOp a.eval o).run C.P X.w=.ok (.value r) X.w:=by
   unfold execOp;rw[ho];have D:=(j0 G X.w).2;simp only[Instr.index,ei,ex,asIntOf,dw,dA,dv,dW O,hj,and_self,dJ,D,Bi G X.w rs _ r h1 h2]
  exact eD hr hnd (hA.val hv h)
end
