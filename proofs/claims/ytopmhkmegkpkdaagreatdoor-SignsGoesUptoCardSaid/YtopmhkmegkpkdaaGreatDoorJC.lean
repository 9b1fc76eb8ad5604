/- The layer of ideal values, part E: opera -/
import Derived.Test.YtopmhkmegkpkdaaGreatDoorJB
import Derived.Laws.Slices
import Derived.Laws.IdiomStrings
import Derived.Laws.Cover3
set_option linter.all false
namespace Go.Iv
open Go
section
variable {C:Cx}{X:WS}
def uY {B:Nat}{L:Nat->Nat}{w:World}{v:Value}{y:IV}(h:nB v=some y):V B L w v y/\y.def_/\y.one=true:=by
 unfold nB at h;split at h
 ·cases h
 ·cases h
 ·cases h;exact⟨.sl none 0 ⟨true,.nil,0⟩ [] 0 [] ⟨rfl,rfl,rfl⟩ (by simp) (by simp) (by simp) rfl (λ_ O=>by cases O) (λ_ ad U=>by cases U) (λD=>absurd rfl D) (λi r c A=>by simp at A),by simp[IV.def_],rfl⟩
 ·cases h
 ·split at h
  ·rename_i E;cases h;exact⟨.raw _ E,by simp[IV.def_],rfl⟩
  ·cases h
 ·cases h;exact⟨.fn _ [] [] rfl (λi r c A=>by simp at A) [] [] rfl (λi r c A=>by simp at A),by simp[IV.def_],rfl⟩
 ·cases h
 ·rename_i h1 h2 h3 h4 h5 h6 W;cases h;refine⟨.raw _ ?_,by simp[IV.def_],?_⟩
  ·cases v<;>simp_all [kI]
  ·cases v<;>simp_all [IV.one]
def V.reTag {B:Nat}{L:Nat->Nat}{w:World}{r:Value}{t:Tag}{xs:List IV}{es:Nat}(h:V B L w r (.sl t xs)):V B L w r (.sl (reTag es t) xs):=by
 by_cases hn:t.cap=.nil
 ·have e:Iv.reTag es t=⟨t.fresh,.nil,es⟩:=by simp only[Iv.reTag,hn]
  rw[e];cases h with
  | sl a cap _ _ T vs A D ab hs U W O E hc =>
   rw[hn] at A;obtain⟨rfl,h0,rfl⟩:=A;obtain rfl:=eN h0;refine .sl none 0 ⟨t.fresh,.nil,es⟩ [] T vs ⟨rfl,rfl,rfl⟩ D ab (by simp) (by simpa using U) (λ_ hg=>by cases hg) (λ_ ad ha=>by cases ha) (λaa=>absurd rfl aa) (λi r c hr hx=>by simp at hx)
 ·have e:Iv.reTag es t=t:=by
   unfold Iv.reTag;grind
  rw[e];exact h
def uZ {α β:Type}{f:α->Option β}:∀ {l:List α} {A:List β},allI f l=some A->l.length=A.length/\∀(i:Nat) (a:α) (b:β),l[i]?=some a->A[i]?=some b->f a=some b
 | [],A,h=>by simp only[allI,dL] at h;subst h;exact⟨rfl,λi a b D=>by simp at D⟩
 | a::l,A,h=>by
  unfold allI at h;split at h
  ·rename_i b E h1 h2;cases h;obtain⟨U,O⟩:=uZ h2;grind
  ·cases h
def pH {B:Nat}{L:Nat->Nat}{w:World}{v:Value}{y:IV}(h:qI v=some y):V B L w v y/\y.def_/\y.cells.all IV.one=true:=by
 unfold qI at h;split at h
 ·rename_i cs;cases E:allI nB cs.toList with
  | none=>simp[E] at h
  | some l =>
   simp only[E,fg,dL] at h;subst h;obtain⟨W,U⟩:=uZ E;have O:cs=⟨cs.toList⟩:=rfl;refine⟨by rw[O];exact .agg _ _ W (λi r c hr hc=>(uY (U i r c hr hc)).1),by simp[IV.def_],?_⟩;rw[ke,ed];intro x hx;obtain⟨i,hi,A⟩:=List.mem_iff_getElem.1 hx;have D:cs.toList[i]?=some (cs.toList[i]'(by omega)):=ee _;exact (uY (B:=0) (L:=λ_=>0) (w:=w) (U i _ x D (by rw[ee hi,A]))).2.2
 ·rename_i ab;have:=uY (B:=B) (L:=L) (w:=w) h;exact⟨this.1,this.2.1,by rw[lI this.2.2];simp[this.2.2]⟩
def Ae {n0:Nat}{r:Value}{s:SV}{y:IV}(h:ivOf s=some y)(A:SlotOk C X n0 r s):C.v X r y/\y.def_:=by
 cases s with
 | box cs=>cases h
 | iv x=>cases x<;>simp only[ivOf,reduceCtorEq,dL] at h<;>subst h<;>exact⟨A,by simp[IV.def_]⟩
def pI {n0:Nat}{fr:Fr}{a:Act}{x:Operand}{y:IV}(E:Good C X)(O:FrOk C X n0 fr a.tmps)(h:evV C.gl fr x=some y):C.v X (a.eval x) y/\y.def_:=by
 cases x with
 | tmp t=>exact Ae h (O.slot t)
 | const v=>exact⟨(pH h).1,(pH (B:=0) (L:=λ_=>0) (w:=X.w) h).2.1⟩
 | global g =>
  simp only[evV] at h;cases D:C.gl g with
  | none=>simp[D] at h
  | some z =>
   simp only[D,fg,dL] at h;subst h;exact⟨E.gl g z D,by simp[IV.def_]⟩
 | func f =>
  simp only[evV,dL] at h;subst h;exact⟨.fn _ [] [] rfl (λi r c A=>by simp at A) [] [] rfl (λi r c A=>by simp at A),by simp[IV.def_]⟩
def qR {n0:Nat}{fr:Fr}{a:Act}{l:List Operand}{ys:List IV}(U:Good C X)(W:FrOk C X n0 fr a.tmps)(h:evL C.gl fr l=some ys):C.vl X (l.map a.eval) ys:=by
 obtain⟨O,E⟩:=uZ h;refine⟨by simpa using O,λi r c A hc=>?_⟩;rw[en] at A;cases D:l[i]? with
 | none=>simp[D] at A
 | some x =>
  simp only[D,fg,dL] at A;subst A;exact (pI U W (E i x c D hc)).1
def PlOk (C:Cx)(X:WS)(fr:Fr)(a:Act)(v:Value):Pl->Prop
 | .box t off=>∃cs b,fr t=.box cs/\tm a.tmps t=.pointer (some ⟨b,0,none⟩)/\v=.pointer (some ⟨b,off,none⟩)
 | .ptr b off=>v=.pointer (some ⟨b,off,none⟩)
 | .cp x=>C.v X v (.cptr x)
def HQ {n0:Nat}{fr:Fr}{ad:Ad}{a:Act}{x:Operand}{p:Pl}(W:Good C X)(hf:FrOk C X n0 fr a.tmps)(O:AdOk fr a.tmps ad)(h:evA C.gl ad fr x=some p):PlOk C X fr a (a.eval x) p:=by
 cases x with
 | tmp t =>
  simp only[evA] at h;cases D:ad t with
  | some e =>
   obtain⟨s,off⟩:=e;simp only[D,plAd,dL] at h;subst h;obtain⟨cs,b,h1,h2,h3⟩:=O t s off D;exact⟨cs,b,h1,h2,h3⟩
  | none =>
   simp only[D,plAd] at h;have E:=hf.slot t;unfold plOf at h;split at h
   ·rename_i cs A;cases h;rw[A] at E;obtain⟨b,c,T,U,_⟩:=E;exact⟨_,b,A,U,U⟩
   ·rename_i b off A;cases h;rw[A] at E;exact dQ E
   ·rename_i y A;cases h;rw[A] at E;exact E
   ·cases h
 | global g =>
  simp only[evA] at h;cases D:C.gl g with
  | none=>simp[D] at h
  | some z =>
   simp only[D,fg,dL] at h;subst h;exact W.gl g z D
 | const v=>cases h
 | func f=>cases h
def lb {P:Program}{T:TypeId}{ag:Bool}{n:Nat}(h:tyI P T=some (ag,n))(w:World):(isAgg T).run P w=.ok ag w/\(sizeOf T).run P w=.ok n w:=by
 unfold tyI at h;split at h
 ·rename_i d i hd A;cases h;refine⟨?_,?_⟩
  ·simp only[isAgg,cX,dS hd,cW];cases d<;>rfl
  ·simp only[sizeOf,cX,run_typeInfo w A,cW,c_]
 ·cases h
def u0 {P:Program}{T:TypeId}{ag:Bool}{n:Nat}(h:tyI P T=some (ag,n)):(P.info? T).map (·.size)=some n:=by
 unfold tyI at h;grind
def sB {P:Program}{T:TypeId}{z:IV}(h:eY P T=some z)(w:World):∃v,(zeroValue T).run P w=.ok v w/\(∀B L w',V B L w' v z)/\z.def_/\z.cells.all IV.one=true:=by
 unfold eY at h;cases D:P.info? T with
 | none=>simp[D] at h
 | some i =>
  simp only[D,kG] at h;cases A:i.zero with
  | none=>simp[A] at h
  | some v =>
   simp only[A,kG] at h;refine⟨v,?_,λB L w'=>(pH h).1,(pH (B:=0) (L:=λ_=>0) (w:=w) h).2.1,(pH (B:=0) (L:=λ_=>0) (w:=w) h).2.2⟩;simp only[zeroValue,cX,run_typeInfo w D,cW,A,c_]
def lM (b o i:Nat):(⟨b,o,none⟩:Addr).add i=⟨b,o+i,none⟩:=by unfold Addr.add;split<;>simp_all
def mN (ad:Addr)(h:ad.spot=none)(i:Nat):ad.add i=⟨ad.block,ad.off+i,none⟩:=by
 obtain⟨b,o,s⟩:=ad;simp only at h;subst h;exact lM b o i
def jX {w:World}{b:Nat}{c:Array Value}{T:TypeId}{f:Nat×Nat}(h:w.heap[b]?=some (.cells c T f))(i:Nat):w.cell? ⟨b,i,none⟩=c.toList[i]?:=by
 simp[World.cell?,h]
def u7 {P:Program}{T:TypeId}{ag:Bool}{n:Nat}(O:tyI P T=some (ag,n))(w:World)(a:Addr)(rs:List Value)
  (hc:∀(i:Nat) (v:Value),rs[i]?=some v->w.cell? (a.add i)=some v) :
  (ag=true->rs.length=n->(loadVar T a).run P w=.ok (.agg ⟨rs⟩) w)/\(ag=false->∀v,rs[0]?=some v->(loadVar T a).run P w=.ok v w):=by
 obtain⟨h1,h2⟩:=lb O w;refine⟨λA U=>?_,λA v E=>?_⟩
 ·subst A;subst U;have W:=run_loadCells_list (P:=P) w a rs hc;simp only[loadVar,cX,h1,cW,dB,h2,W,c_]
 ·subst A;have D:=hc 0 v E;have ha:a.add 0=a:=by simp[Addr.add]
  rw[ha] at D;simp only[loadVar,cX,h1,cW,bFt,dJ,run_load,D]
def sC {T:TypeId}{ag:Bool}{n b off:Nat}{c:Array Value}{E:TypeId}{f:Nat×Nat}{cs:List IV}{y:IV}(ht:tyI C.P T=some (ag,n))(hh:X.w.heap[b]?=some (.cells c E f))(W:C.vl X c.toList cs)
  (hp:gB ag n cs off=some y):∃v,(loadVar T ⟨b,off,none⟩).run C.P X.w=.ok v X.w/\C.v X v y:=by
 unfold gB at hp;have O:=W.drop off;split at hp
 ·rename_i A;split at hp
  ·rename_i ae;cases hp;have D:=O.take n;refine⟨_,(u7 ht X.w ⟨b,off,none⟩ ((c.toList.drop off).take n) (λi v hi=>?_)).1 A (by rw[D.1,dO,fp];omega),D.agg⟩;rw[lM,jX hh];grind
  ·cases hp
 ·rename_i A;obtain⟨r,hr,U⟩:=W.get hp;refine⟨r,(u7 ht X.w ⟨b,off,none⟩ (c.toList.drop off) (λi v hi=>?_)).2 (by simpa using A) r (by rw[ix];simpa using hr),U⟩;rw[lM,jX hh];grind
def HR {T:TypeId}{ag:Bool}{n:Nat}{ad:Addr}{y:IV}(ht:tyI C.P T=some (ag,n))(hv:C.v X (.pointer (some ad)) (.cptr y))(D:fits ag n y=true) :
  ∃v,(loadVar T ad).run C.P X.w=.ok v X.w/\C.v X v y:=by
 cases hv with
 | cptr _ _ vs U O hL hc h =>
  have E:∀(i:Nat) (v:Value),vs[i]?=some v->X.w.cell? (ad.add i)=some v:=λi v hi=>by rw[mN ad U];exact hc i v hi
  obtain⟨k1,k2⟩:=u7 ht X.w ad vs E;have A:C.vl X vs y.cells:=⟨O,h⟩
  unfold fits at D;split at D
  ·rename_i cs;simp only[bAt,beq_iff_eq] at D;exact⟨_,k1 D.1.1 (by rw[O];exact D.1.2),A.agg⟩
  ·rename_i af;simp only[bAt,fV,beq_iff_eq] at D;have W:=lI D.1.2;rw[W] at A;obtain⟨r,hr,ae⟩:=A.get (i:=0) (c:=y) rfl;grind
def jw {B:Nat}{L:Nat->Nat}{w:World}{r:Value}{x:IV}(h:V B L w r (.cptr x)):∃ad,r=.pointer (some ad)/\ad.spot=none:=by
 cases h with
 | cptr ad _ _ A=>exact⟨ad,rfl,A⟩
def qS {rs:List Value}{cs:List IV}(D:C.vl X rs cs)(h:cs.all IV.one=true):∀v∈rs,v.oneCell'=true:=by
 intro v U;obtain⟨i,E,A⟩:=List.mem_iff_getElem.1 U;have O:rs[i]?=some v:=by rw[ee E,A]
 have hc:cs[i]?=some (cs[i]'(by rw[<- D.1];exact E)):=ee _;have h1:=V.flat (D.2 i _ _ O hc) (ed.1 h _ (List.getElem_mem _));cases v<;>first|rfl|simp[Value.flat] at h1
def Af {T:TypeId}{ag:Bool}{b off:Nat}{c:Array Value}{E:TypeId}{v:Value}{y:IV}(ht:tyI C.P T=some (ag,y.cells.length))(hh:X.w.heap[b]?=some (.cells c E (0,0)))
  (W:C.v X v y) (hd:y.def_) (h1:y.cells.all IV.one=true) (ab:off+y.cells.length<=c.size) :
  (storeVar T ⟨b,off,none⟩ v).run C.P X.w=.ok () (X.w.setRow b (c.toList.take off++v.cells.toList++c.toList.drop (off+v.cells.toList.length)).toArray)/\C.vl X v.cells.toList y.cells:=by
 have U:∀u,y≠.raw (.agg u):=by
  rintro u rfl;simp[IV.cells,IV.one] at h1
 have A:=V.cells W U hd;refine⟨?_,A⟩;have h2:=(lb ht X.w).2;have D:v.cells.size=y.cells.length:=by rw[<- A.1];simp
 have O:=run_storeCells_at (P:=C.P) b off E v.cells.toList 0 c X.w hh (by rw[A.1];omega) (qS A h1);simp only[storeVar,cX,h2,cW,D,ne_eq,nTf,dJ,O];simp
def pJ {rs:List Value}{cs:List IV}{off:Nat}{vs:List Value}{ys:List IV}(h:C.vl X rs cs)(A:C.vl X vs ys) :
  C.vl X (rs.take off++vs++rs.drop (off+vs.length)) (eV cs off ys):=by
 unfold eV;rw[A.1];exact ((h.take off).append A).append (h.drop _)
end
def PK (C:Cx)(X0:WS)(N:Nat)(K:Kt)(a:Act)(w:World):Prop :=
 ∃X ad fr ds,X.w=w/\Inv C X0 N X fr ds a/\AdOk fr a.tmps ad/\K ad fr X.st ds
section
variable {C:Cx}{X0 X:WS}{N:Nat}{fr:Fr}{ds:List Dfd}{a:Act}{ad:Ad}{dst:Option Nat}{K:Kt}
def gD {x:IV}{v:Value}(D:Inv C X0 N X fr ds a)(A:AdOk fr a.tmps ad)(hd:∀d,dst=some d->d<N)(E:C.v X v x)
  (h:finK dst K ad fr (.val x) X.st ds):PK C X0 N K (a.put dst v) X.w:=by
 cases dst with
 | none=>exact⟨X,ad,fr,ds,rfl,D,A,h⟩
 | some d=>exact⟨X,_,_,ds,rfl,D.put (hd d rfl) E,A.put d v _,h⟩
def u9 {t off b:Nat}{cs:List IV}(E:Inv C X0 N X fr ds a)(A:AdOk fr a.tmps ad)(hd:∀d,dst=some d->d<N)(O:fr t=.box cs)
  (U:tm a.tmps t=.pointer (some ⟨b,0,none⟩)) (h:finK dst K ad fr (.adr t off) X.st ds):PK C X0 N K (a.put dst (.pointer (some ⟨b,off,none⟩))) X.w:=by
 cases dst with
 | none=>exact⟨X,ad,fr,ds,rfl,E,A,h⟩
 | some d =>
  simp only[finK] at h;split at h
  ·exact h.elim
  ·rename_i D;exact⟨X,_,_,ds,rfl,E.put (hd d rfl) (.junk _),A.adr (by rw[E.size];exact hd d rfl) D O U _,h⟩
def HS {c:Array Value}{T:TypeId}{cs:List IV}(E:Inv C X0 N X fr ds a)(A:AdOk fr a.tmps ad)(hd:∀d,dst=some d->d<N)(D:C.vl X c.toList cs)
  (h:finK dst K ad fr (.box cs) X.st ds):PK C X0 N K (a.put dst (.pointer (some ⟨X.w.heap.size,0,none⟩))) (X.w.alloc (.cells c T)):=by
 cases dst with
 | none=>exact h.elim
 | some d=>exact⟨{ X with w:=X.w.alloc (.cells c T) },_,_,ds,rfl,E.box (hd d rfl) c T D,A.put d _ _,h⟩
def HT (D:Inv C X0 N X fr ds a)(A:AdOk fr a.tmps ad)(h:finK dst K ad fr .nop X.st ds):PK C X0 N K (a.put dst undef) X.w:=by
 cases dst with
 | some _=>exact h.elim
 | none=>exact⟨X,ad,fr,ds,rfl,D,A,h⟩
def Ag {p:Pl}{v:Value}(D:Inv C X0 N X fr ds a)(A:AdOk fr a.tmps ad)(hd:∀d,dst=some d->d<N)(hp:PlOk C X fr a v p)
  (h:plR p (finK dst K ad fr) X.st ds):PK C X0 N K (a.put dst v) X.w:=by
 cases p with
 | box t off =>
  obtain⟨cs,b,h1,h2,rfl⟩:=hp;exact u9 D A hd h1 h2 h
 | ptr b off =>
  obtain rfl:=hp;exact gD D A hd (.raw _ trivial) h
 | cp x=>exact gD D A hd hp h
end
def ev (ro:Option Nat):Fence:={ Fence.wide with round:=ro }
section
variable {C:Cx}{X0 X:WS}{N:Nat}{fr:Fr}{ds:List Dfd}{a:Act}{ad:Ad}{K:Kt}{ro:Option Nat}{n:Nat}{Q:Exit->Act->World->Prop}{o:Oper}
def eD {v:Value}{w':World}(D:(execOp a.eval o).run C.P X.w=.ok (.value v) w')(A:∀c,o.op≠.defer c)(h:PK C X0 N K (a.put o.dst v) w') :
  o.wpIn (ev ro) n C.P a X.w (PK C X0 N K) Q:=by
 refine⟨λ_ _=>trivial,?_⟩;rw[Oper.semAt_eq _ _ _ A,D];exact h
def u_ {w':World}(D:(execOp a.eval o).run C.P X.w=.ok .skip w')(A:∀c,o.op≠.defer c)(h:PK C X0 N K (a.put o.dst undef) w') :
  o.wpIn (ev ro) n C.P a X.w (PK C X0 N K) Q:=by
 refine⟨λ_ _=>trivial,?_⟩;rw[Oper.semAt_eq _ _ _ A,D];exact h
structure At (C:Cx)(X0:WS)(N:Nat)(X:WS)(fr:Fr)(ds:List Dfd)(a:Act)(ad:Ad)(dst:Option Nat):Prop where
 inv:Inv C X0 N X fr ds a
 ad:AdOk fr a.tmps ad
 hd:∀d,dst=some d->d<N
variable (hA:At C X0 N X fr ds a ad o.dst)
include hA
def At.v {x:Operand}{y:IV}(h:evV C.gl fr x=some y):C.v X (a.eval x) y/\y.def_:=pI hA.inv.good hA.inv.fr h
def At.p {x:Operand}{p:Pl}(h:evA C.gl ad fr x=some p):PlOk C X fr a (a.eval x) p:=HQ hA.inv.good hA.inv.fr hA.ad h
def At.val {x:IV}{v:Value}(A:C.v X v x)(h:finK o.dst K ad fr (.val x) X.st ds):PK C X0 N K (a.put o.dst v) X.w:=gD hA.inv hA.ad hA.hd A h
def Ah {x:Operand}{dr:Bool}(A:o.op=.move x\/o.op=.assign x)(h:kL dr (evV C.gl fr x) (evA C.gl ad fr x) (finK o.dst K ad fr) X.st ds) :
  o.wpIn (ev ro) n C.P a X.w (PK C X0 N K) Q:=by
 refine eD (v:=a.eval x) (w':=X.w) (by unfold execOp;rcases A with A|A<;>rw[A]<;>rfl) (by rcases A with A|A<;>rw[A]<;>intro c hc<;>cases hc) ?_;unfold kL at h;split at h
 ·rename_i y D;exact hA.val (hA.v D).1 h
 ·split at h
  ·exact h.elim
  ·obtain⟨p,hp,h⟩:=yQ4.1 h;exact Ag hA.inv hA.ad hA.hd (hA.p hp) h
end
section
def oJ {y:IV}(h1:y.cells.all IV.one=true):∀u,y≠.raw (.agg u):=by
 rintro u rfl;simp[IV.cells,IV.one] at h1
def mO {s:IV}{f:IntKind->Int->Prop}(h:intV s f):∃k n,s=.raw (.int k n)/\f k n:=by
 unfold intV at h;split at h
 ·grind
 ·exact h.elim
def Ai {s:IV}{f:Bool->Prop}(h:kZ s f):∃b,s=.raw (.bool b)/\f b:=by
 unfold kZ at h;split at h
 ·grind
 ·exact h.elim
def Aj {s:IV}{f:Tag->List IV->Prop}(h:slV s f):∃t A,s=.sl t A/\f t A:=by
 unfold slV at h;split at h
 ·grind
 ·exact h.elim
def Ak {s:IV}{f:Tag->List IV->Prop}{g:Nat->Nat->Nat->Prop}(h:slX s f g):(∃t A,s=.sl t A/\f t A)\/∃b off n cap,s=.raw (.slice (some ⟨b,off,none⟩) n cap)/\g b off n:=by
 unfold slX at h;split at h
 ·grind
 ·grind
 ·exact h.elim
def qT {s:IV}{f:Tag->List IV->Prop}{g:Nat->Nat->Nat->Nat->Prop}(h:slY s f g):(∃t A,s=.sl t A/\f t A)\/∃b off n cap,s=.raw (.slice (some ⟨b,off,none⟩) n cap)/\g b off n cap:=by
 unfold slY at h;split at h
 ·grind
 ·grind
 ·exact h.elim
def sD {s:IV}{f:List IV->Prop}(h:aggV s f):∃A,s=.agg A/\f A:=by
 unfold aggV at h;split at h
 ·grind
 ·exact h.elim
def HU {s:IV}{f:List IV->Prop}(h:tupV s f):∃A,s=.tup A/\f A:=by
 unfold tupV at h;split at h
 ·grind
 ·exact h.elim
def va {s:IV}{f:Fn->List IV->List IV->Prop}(h:fnV s f):∃g x y,s=.fn g x y/\f g x y:=by
 unfold fnV at h;split at h
 ·grind
 ·exact h.elim
def sE {s:IV}{f:Option Nat->Prop}(h:mapV s f):∃m,s=.raw (.map m)/\f m:=by
 unfold mapV at h;split at h
 ·grind
 ·exact h.elim
def vc {s:IV}{f:Value->Prop}(h:rawV s f):∃v,s=.raw v/\f v:=by
 unfold rawV at h;split at h
 ·grind
 ·exact h.elim
def Al {B:Nat}{L:Nat->Nat}{w:World}{r:Value}{x:IV}{f:Value->Prop}(D:V B L w r x)(h:keyV x f):f r:=by
 unfold keyV at h;split at h
 ·rw[dQ D];exact h
 ·rename_i s k n;cases D with
  | agg rs cs E A =>
   match rs,E with
   | [a,b],_ =>
    have h1:=A 0 a _ rfl rfl;have h2:=dQ (A 1 b _ rfl rfl);have O:=dQ h1;subst h2;subst O;cases h1 with
    | raw _ U=>exact h U
 iterate 2
  ·cases D with
   | agg rs cs E A =>
    match rs,E with
    | [a,b],_ =>
     have h2:=dQ (A 1 b _ rfl rfl);have O:=dQ (A 0 a _ rfl rfl);subst h2;subst O;exact h
 ·exact h.elim
def Am {s:IV}{f:Nat->Prop}(h:adrV s f):∃b,s=.raw (.pointer (some ⟨b,0,none⟩))/\f b:=by
 unfold adrV at h;split at h
 ·grind
 ·exact h.elim
def An {s:IObj}{f:Nat->Nat->Array Nat->Nat->Prop}(h:itO s f):∃m e n c,s=.iter m e n c/\f m e n c:=by
 unfold itO at h;split at h
 ·grind
 ·exact h.elim
def vd {s:IObj}{f:Array MapEntry->Nat->Prop}(h:mxO s f):∃e c,s=.mapx e c/\f e c:=by
 unfold mxO at h;split at h
 ·grind
 ·exact h.elim
def qU {s:IObj}{f:List IV->Prop}(h:obV s f):∃cs,s=.box cs/\f cs:=by
 unfold obV at h;split at h
 ·grind
 ·exact h.elim
def ve {s:IObj}{f:KeyK->List (Value×IV)->Prop}(h:omV s f):∃k cs,s=.map k cs/\f k cs:=by
 unfold omV at h;split at h
 ·grind
 ·exact h.elim
def jY {c q:Prop} [Decidable c](h:if c then q else False):c/\q:=by
 grind
def sF {c q:Prop} [Decidable c](h:if c then False else q):¬ c/\q:=by
 grind
end
section
variable {C:Cx}{X0 X:WS}{N:Nat}{fr:Fr}{ds:List Dfd}{a:Act}{ad:Ad}{K:Kt}{ro:Option Nat}{n:Nat}{Q:Exit->Act->World->Prop}{o:Oper}
variable (hA:At C X0 N X fr ds a ad o.dst)
include hA
def HV {b x y:Operand}(D:o.op=.pick b x y)
  (h:cU (evV C.gl fr b) λb=>kZ b λb=>jG b (cU (evV C.gl fr x) λx=>finK o.dst K ad fr (.val x) X.st ds) (cU (evV C.gl fr y) λy=>finK o.dst K ad fr (.val y) X.st ds) .mk .mk) :
  o.wpIn (ev ro) n C.P a X.w (PK C X0 N K) Q:=by
 obtain⟨W,U,h⟩:=yQ4.1 h;obtain⟨t,rfl,h⟩:=Ai h;have O:=dQ (hA.v U).1;have E:(execOp a.eval o).run C.P X.w=.ok (.value (if t=true then a.eval x else a.eval y)) X.w:=by
  unfold execOp;rw[D];simp[O,asBool]
 refine eD E (by rw[D];intro c hc;cases hc) ?_;cases t with
 | true =>
  obtain⟨z,A,h⟩:=yQ4.1 (h.1 rfl);exact hA.val (hA.v A).1 h
 | false =>
  obtain⟨z,A,h⟩:=yQ4.1 (h.2 rfl);exact hA.val (hA.v A).1 h
def Ao {esc:List Nat}{v:Value}{T:TypeId}{y:List IV}(E:C.vl X v.cells.toList y)(h:k9 esc o.dst y (finK o.dst K ad fr) X.st ds) :
  PK C X0 N K (a.put o.dst (.pointer (some ⟨X.w.heap.size,0,none⟩))) (X.w.alloc (.cells v.cells T)):=by
 unfold k9 at h;cases hd:o.dst with
 | none=>rw[hd] at h;exact h.elim
 | some d =>
  rw[hd] at h;simp only at h;split at h
  ·have A:X.st X.w.heap.size=none:=by
    cases O:X.st X.w.heap.size with
    | none=>rfl
    | some o=>have:=hA.inv.good.lt O;omega
   have h:=h X.w.heap.size A;have W:=hA.inv.new (.cells v.cells T) 0 (some (.box y)) (λi U=>by
    cases U;exact⟨by simp[WS.new],v.cells,T,ja _ _,(hA.inv.good.new_ext _ 0 _).vl E⟩)
   have:=gD (dst:=some d) (K:=K) (x:=.raw (.pointer (some ⟨X.w.heap.size,0,none⟩))) (v:=.pointer (some ⟨X.w.heap.size,0,none⟩)) W hA.ad (λe D=>hA.hd e (by rw[hd];exact D)) (.raw _ trivial) h;exact this
  ·exact HS (dst:=some d) hA.inv hA.ad (λe D=>hA.hd e (by rw[hd];exact D)) E h
def HW {esc:List Nat}{T:TypeId}(D:o.op=.alloc T)(h:cU (eY C.P T) λz=>k9 esc o.dst z.cells (finK o.dst K ad fr) X.st ds) :
  o.wpIn (ev ro) n C.P a X.w (PK C X0 N K) Q:=by
 obtain⟨z,E,h⟩:=yQ4.1 h;obtain⟨v,A,O,hd,h1⟩:=sB E X.w;have U:(execOp a.eval o).run C.P X.w=.ok (.value (.pointer (some ⟨X.w.heap.size,0,none⟩))) (X.w.alloc (.cells v.cells T)):=by
  unfold execOp;rw[D];simp[Instr.alloc,A,newVar,newRow]
 exact eD U (by rw[D];intro c hc;cases hc) (Ao hA (V.cells (O _ _ _) (oJ h1) hd) h)
def HX {frz esc:List Nat}{v:Value}{T:TypeId}{y:IV}(hv:C.vl X v.cells.toList y.cells)(h:mK frz esc o.dst y (finK o.dst K ad fr) X.st ds) :
  PK C X0 N K (a.put o.dst (.pointer (some ⟨X.w.heap.size,0,none⟩))) (X.w.alloc (.cells v.cells T)):=by
 unfold mK at h;cases hd:o.dst with
 | none=>rw[hd] at h;exact h.elim
 | some d =>
  rw[hd] at h;simp only at h;split at h
  ·have U:X.st X.w.heap.size=none:=by
    cases hs:X.st X.w.heap.size with
    | none=>rfl
    | some o=>have:=hA.inv.good.lt hs;omega
   have hI:=hA.inv.new (.cells v.cells T) v.cells.size none (λi hi=>by cases hi);have E:(X.new (.cells v.cells T) v.cells.size none).st=X.st:=by
    funext b;simp only[WS.new];split
    ·grind
    ·rfl
   rw[<- E] at h;have D:=hA.inv.good.new_ext (.cells v.cells T) v.cells.size none;have A:=D.vl hv;have W:C.v (X.new (.cells v.cells T) v.cells.size none) (.pointer (some ⟨X.w.heap.size,0,none⟩)) (.cptr y):=by
    refine .cptr _ y v.cells.toList rfl A.1 ?_ (λi r O=>?_) (λi r c O hc=>A.2 i r c O hc)
    ·simp[WS.new]
    ·have h1:=ja X.w (.cells v.cells T);have h2:(X.new (.cells v.cells T) v.cells.size none).w=X.w.alloc (.cells v.cells T):=rfl;rw[h2];simp only[World.cell?,h1,eQ,ju,bFt,dJ];simpa using O
   have:=gD (dst:=some d) (K:=K) (x:=.cptr y) (v:=.pointer (some ⟨X.w.heap.size,0,none⟩)) hI hA.ad (λe he=>hA.hd e (by rw[hd];exact he)) W h;exact this
  ·have:=Ao (v:=v) (T:=T) (esc:=esc) hA hv (by rw[hd];exact h);grind
def HY {frz esc:List Nat}{T:TypeId}{x:Operand}(D:o.op=.box T x)
  (h:cU (tyI C.P T) λ_=>cU (evV C.gl fr x) λy=>chk (y.cells.all IV.one=true) (mK frz esc o.dst y (finK o.dst K ad fr) X.st ds)) :
  o.wpIn (ev ro) n C.P a X.w (PK C X0 N K) Q:=by
 obtain⟨i,_,h⟩:=yQ4.1 h;obtain⟨y,A,h1,h⟩:=yQ4.1 h;have E:(execOp a.eval o).run C.P X.w=.ok (.value (.pointer (some ⟨X.w.heap.size,0,none⟩))) (X.w.alloc (.cells (a.eval x).cells T)):=by
  unfold execOp;rw[D];simp[Instr.box,newVar,newRow]
 exact eD E (by rw[D];intro c hc;cases hc) (HX hA (V.cells (hA.v A).1 (oJ h1) (hA.v A).2) h)
def HZ {dr:Bool}{T:TypeId}{x:Operand}(ho:o.op=.load T x)
  (h:cU (tyI C.P T) λi=>cU (evA C.gl ad fr x) λp=>kg dr i.1 i.2 p fr (finK o.dst K ad fr) X.st ds) :
  o.wpIn (ev ro) n C.P a X.w (PK C X0 N K) Q:=by
 obtain⟨⟨ag,sz⟩,ht,h⟩:=yQ4.1 h;obtain⟨p,hp,h⟩:=yQ4.1 h;have D:=hA.p hp;have key:∀(A:Addr) (v:Value),a.eval x=.pointer (some A)->(loadVar T A).run C.P X.w=.ok v X.w->(execOp a.eval o).run C.P X.w=.ok (.value v) X.w:=by
  intro A v he W;unfold execOp;rw[ho];simp only[Instr.loadAt,he,Instr.sureAddr,cX,c_,cW,W]
 have U:∀c,o.op≠.defer c:=by rw[ho];intro c hc;cases hc
 cases p with
 | box t off =>
  obtain⟨cs,b,ae,hb,he⟩:=D;simp only[kg,ae] at h;obtain⟨y,hy,h⟩:=yQ4.1 h;have hs:=hA.inv.fr.slot t;rw[ae] at hs;obtain⟨b',c,E,hr,hh,O,_⟩:=hs;rw[hb] at hr;cases hr;obtain⟨v,W,hv⟩:=sC ht hh O hy;exact eD (key _ v he W) U (hA.val hv h)
 | ptr b off =>
  obtain⟨_,h⟩:=sF h;obtain⟨ob,ai,h⟩:=yQ4.1 h;obtain⟨cs,rfl,h⟩:=qU h;obtain⟨y,hy,h⟩:=yQ4.1 h;obtain⟨_,c,E,hh,O⟩:=hA.inv.good.ok b _ ai;obtain⟨v,W,hv⟩:=sC ht hh O hy;exact eD (key _ v D W) U (hA.val hv h)
 | cp y =>
  obtain⟨hf,h⟩:=jY h;obtain⟨A,he,_⟩:=jw D;have ac:C.v X (.pointer (some A)) (.cptr y):=he▸D;obtain⟨v,W,hv⟩:=HR ht ac hf;exact eD (key _ v he W) U (hA.val hv h)
def H0 {T:TypeId}{x v:Operand}(ho:o.op=.store T x v)
  (h:cU (tyI C.P T) λi=>cU (evV C.gl fr v) λy=>chk (y.cells.length=i.2/\y.cells.all IV.one=true) (cU (evA C.gl ad fr x) λp=>lK y.cells p fr (finK o.dst K ad fr) X.st ds)) :
  o.wpIn (ev ro) n C.P a X.w (PK C X0 N K) Q:=by
 obtain⟨⟨ag,sz⟩,ht,h⟩:=yQ4.1 h;obtain⟨y,hy,⟨ai,h1⟩,h⟩:=yQ4.1 h;obtain⟨p,hp,h⟩:=yQ4.1 h;simp only at ai;subst ai;have aj:=hA.p hp;obtain⟨hv,W⟩:=hA.v hy;have key:∀(ah:Addr) (w':World),a.eval x=.pointer (some ah)->(storeVar T ah (a.eval v)).run C.P X.w=.ok () w'->(execOp a.eval o).run C.P X.w=.ok .skip w':=by
  intro ah w' he hl;unfold execOp;rw[ho];simp only[Instr.storeAt,he,Instr.sureAddr,cX,c_,cW,hl]
 have am:∀c,o.op≠.defer c:=by rw[ho];intro c hc;cases hc
 cases p with
 | box t off =>
  obtain⟨cs,b,ae,hb,he⟩:=aj;simp only[lK,ae] at h;obtain⟨ab,h⟩:=jY h;have hs:=hA.inv.fr.slot t;rw[ae] at hs;obtain⟨b',c,E,hr,hh,A,_⟩:=hs;rw[hb] at hr;cases hr;have af:c.size=cs.length:=by rw[<- A.1];simp
  obtain⟨aa,D⟩:=Af ht hh hv W h1 (off:=off) (by rw[af];exact ab);refine u_ (key _ _ he aa) am ?_;cases hd:o.dst with
  | some d=>rw[hd] at h;exact h.elim
  | none =>
   rw[hd] at h;have hI:=hA.inv.own ae hb hh (cs':=(c.toList.take off++(a.eval v).cells.toList++c.toList.drop (off+(a.eval v).cells.toList.length)).toArray) (new:=eV cs off y.cells) (by simp;have:=D.1;simp at this;omega)
    (by simpa using pJ A D)
   exact⟨_,ad,_,ds,rfl,hI,hA.ad.own _,h⟩
 | ptr b off =>
  obtain⟨ob,ak,h⟩:=yQ4.1 h;obtain⟨cs,rfl,h⟩:=qU h;obtain⟨ab,h⟩:=jY h;obtain⟨hL,c,E,hh,A⟩:=hA.inv.good.ok b _ ak;have af:c.size=cs.length:=by rw[<- A.1];simp
  obtain⟨aa,D⟩:=Af ht hh hv W h1 (off:=off) (by rw[af];exact ab);refine u_ (key _ _ aj aa) am ?_;have U:∀c':Array Value,c'=c->(c.toList.take off++(a.eval v).cells.toList++c.toList.drop (off+(a.eval v).cells.toList.length)).toArray.size=c'.size:=by
   rintro _ rfl;simp;have:=D.1;simp at this;omega
  have O:∀i,i<X.L b->((c.toList.take off++(a.eval v).cells.toList++c.toList.drop (off+(a.eval v).cells.toList.length)).toArray)[i]?=c[i]?:=λi hi=>by rw[hL] at hi;omega
  have hI:=hA.inv.row hh (U c rfl) (n:=0) (so:=some (.box (eV cs off y.cells))) (by omega) O (by rw[ak];simp) (λi hi=>by
   cases hi;refine⟨by simp[WS.row],_,E,fU X.w b c _ E (0,0) hh,?_⟩;have:=pJ A D (off:=off);exact⟨by simpa using this.1,λi r z hr hz=>kY hh (U c rfl) (by omega) O (this.2 i r z (by simpa using hr) hz)⟩)
  cases hd:o.dst with
  | some d=>rw[hd] at h;exact h.elim
  | none =>
   rw[hd] at h;exact⟨_,ad,_,ds,rfl,hI,hA.ad,h⟩
 | cp y=>exact h.elim
def H2 {dr:Bool}{x:Operand}(ho:o.op=.nilCheck x)(h:nilV (evV C.gl fr x) (evA C.gl ad fr x) dr (finK o.dst K ad fr) X.st ds) :
  o.wpIn (ev ro) n C.P a X.w (PK C X0 N K) Q:=by
 have E:∀c,o.op≠.defer c:=by rw[ho];intro c hc;cases hc
 have last:(cU (evA C.gl ad fr x) λp=>plR p (finK o.dst K ad fr) X.st ds)->o.wpIn (ev ro) n C.P a X.w (PK C X0 N K) Q:=λh=>by
  obtain⟨p,hp,h⟩:=yQ4.1 h;have D:=hA.p hp;have ab:∃O,a.eval x=.pointer (some O):=by
   cases p with
   | box t off=>obtain⟨_,_,_,_,A⟩:=D;exact⟨_,A⟩
   | ptr b off=>exact⟨_,D⟩
   | cp y=>obtain⟨O,A,_⟩:=jw D;exact⟨_,A⟩
  obtain⟨O,A⟩:=ab;have U:(execOp a.eval o).run C.P X.w=.ok (.value (a.eval x)) X.w:=by
   unfold execOp;rw[ho];simp only[A];rfl
  exact eD U E (Ag hA.inv hA.ad hA.hd D h)
 unfold nilV at h;split at h
 ·rename_i f first af W
  obtain⟨hf,h⟩:=jY h;have hv:=(hA.v W).1;obtain⟨rs,ag,A,_⟩:=kJ hv;have U:(execOp a.eval o).run C.P X.w=.ok (.value (a.eval x)) X.w:=by
   unfold execOp;rw[ho];simp only[A];cases f<;>first|rfl|simp[fnOk] at hf
  exact eD U E (hA.val hv h)
 ·rename_i y W;have hv:=(hA.v W).1;obtain⟨O,A,_⟩:=jw hv;have U:(execOp a.eval o).run C.P X.w=.ok (.value (a.eval x)) X.w:=by
   unfold execOp;rw[ho];simp only[A];rfl
  exact eD U E (hA.val hv h)
 ·rename_i q W;by_cases ae:dr=true
  ·rw[b_ ae] at h;have A:=dQ (hA.v W).1;have U:(execOp a.eval o).run C.P X.w=.ok (.value (a.eval x)) X.w:=by
    unfold execOp;rw[ho];simp only[A];rfl
   exact eD U E (hA.val (hA.v W).1 h)
  ·grind
 ·grind
def H3 {f:Fn}{first A:Array Operand}(D:o.op=.makeFunc f first A)
  (h:cU (evL C.gl fr first.toList) λx=>cU (evL C.gl fr A.toList) λy=>finK o.dst K ad fr (.val (.fn f x y)) X.st ds) :
  o.wpIn (ev ro) n C.P a X.w (PK C X0 N K) Q:=by
 obtain⟨x,hx,h⟩:=yQ4.1 h;obtain⟨y,E,h⟩:=yQ4.1 h;have h1:=qR hA.inv.good hA.inv.fr hx;have h2:=qR hA.inv.good hA.inv.fr E;have O:(execOp a.eval o).run C.P X.w=.ok (.value (.func f ⟨first.toList.map a.eval⟩ ⟨A.toList.map a.eval⟩)) X.w:=by
  unfold execOp;rw[D];have W:first.map a.eval=⟨first.toList.map a.eval⟩:=by apply Array.ext';simp
  have U:A.map a.eval=⟨A.toList.map a.eval⟩:=by apply Array.ext';simp
  simp only[Instr.makeFunc,W,U,cX,c_,cW]
 exact eD O (by rw[D];intro c hc;cases hc) (hA.val (.fn f _ _ h1.1 h1.2 _ _ h2.1 h2.2) h)
def H4 {x:Operand}{i:Nat}(E:o.op=.extract x i)(h:cU (evV C.gl fr x) λx=>tupV x λvs=>cU (vs[i]?) λy=>finK o.dst K ad fr (.val y) X.st ds) :
  o.wpIn (ev ro) n C.P a X.w (PK C X0 N K) Q:=by
 obtain⟨y,U,h⟩:=yQ4.1 h;obtain⟨vs,rfl,h⟩:=HU h;obtain⟨z,O,h⟩:=yQ4.1 h;obtain⟨rs,he,D⟩:=qC (hA.v U).1;obtain⟨r,hr,W⟩:=D.get O;have A:(execOp a.eval o).run C.P X.w=.ok (.value r) X.w:=by
  unfold execOp;rw[E];have:(⟨rs⟩:Array Value)[i]?=some r:=by simpa using hr
  simp[Instr.extract,he,this]
 exact eD A (by rw[E];intro c hc;cases hc) (hA.val W h)
end
def Aq:∀ {A:List IV}{l:List UInt8},lJ A=some l->A=l.map λb=>.raw (.int .u8 (b.toNat:Int))
 | [],l,h=>by simp only[lJ,dL] at h;subst h;rfl
 | x::A,l,h=>by
  unfold lJ at h;split at h
  ·grind
  ·rename_i m O D;cases D;split at h
   ·rename_i U;rw[gI] at h;obtain⟨E,h2,rfl⟩:=h;rw[Aq h2,eo];congr 3;rw[UInt8.toNat_ofNat'];omega
   ·cases h
  ·cases h
def H5 {C:Cx}{X:WS}{P:Program}{S D:TypeId}{v:Value}{t:Tag}{l:List UInt8}(hv:C.v X v (.sl t (l.map λb=>.raw (.int .u8 (b.toNat:Int)))))(hl:l≠[])(W:qL P S=true)(hD:strT P D=true) :
  (convert S D v).run P X.w=.ok (.string ⟨l.toArray⟩) X.w/\l.length<=140737488355328:=by
 unfold qL at W;split at W
 ·rename_i e he;split at W
  ·rename_i ah;unfold strT at hD;split at hD
   ·rename_i hd;cases hv with
    | sl av cap _ _ T vs ak E au hs U ac aa A hc =>
     have af:∀(m:List UInt8),(m.map λb=>IV.raw (.int .u8 (b.toNat:Int))).flatMap IV.cells=m.map λb=>IV.raw (.int .u8 (b.toNat:Int)):=λm=>by
      induction m with
      | nil=>rfl
      | cons a m ih=>simp only[eo,ff,ih];rfl
     rw[af] at hc;have ag:t.es=1:=by
      match l,hl with
      | b::l,_=>exact (hs (.raw (.int .u8 (b.toNat:Int))) (by simp)).symm
     obtain⟨ad,rfl,ab,_,O⟩:=A (by simpa using hl);rw[gj] at E U ⊢;refine⟨run_convert_bytes_back X.w S D e ad cap l he ah hd (λj hj=>?_),E⟩;rw[mN ad ab];have ae:j<vs.length:=by rw[U,ag];omega
     have h1:=ee ae;rw[O j _ h1];have h2:=dQ (hc j _ _ h1 (by rw[en,ee hj];rfl));rw[h2]
   ·cases hD
  ·cases W
 ·cases W
def vf {P:Program}{op:BinOp}{T:TypeId}{x y:Operand}{a b:Value}(h1:a≠.nilIface)(h2:∀u,a≠.agg u)(w:World) :
  (eqGuard op T x y a b).run P w=.ok () w:=by
 cases a<;>first
  | (exact absurd rfl h1)
  | (exact absurd rfl (h2 _))
  | (cases op<;>rfl)
def H6 (a b:ByteArray):(a.toList == b.toList)=decide (a=b):=by
 rw[ByteArray.toList_eq,ByteArray.toList_eq];by_cases h:a=b
 ·subst h;simp
 ·have:¬ a.data=b.data:=λA=>h (by cases a;cases b;simp at A;subst A;rfl);simp[h,this]
def H7 {P:Program}{op:BinOp}{T:TypeId}{a b z:Value}(h:binI P T op a b=some z)(w:World):(binOp op T a b).run P w=.ok z w/\kI z/\a≠.nilIface/\(∀u,a≠.agg u):=by
 unfold binI at h;split at h
 ·rename_i k x k' y;split at h
  ·rename_i D;subst D;split at h
   ·rename_i A;cases h;exact⟨by simp[binOp,Op.shift,show ¬ y<0 by omega],trivial,by simp,by simp⟩
   ·cases h
  split at h
  ·rename_i D;subst D;split at h
   ·rename_i A;cases h;exact⟨by simp[binOp,Op.shift,show ¬ y<0 by omega],trivial,by simp,by simp⟩
   ·cases h
  split at h
  ·rename_i U;subst U;refine⟨?_,?_,by simp,by simp⟩
   ·cases op<;>simp only[cmpI,dL,reduceCtorEq] at h
    case add=>subst h;simp[binOp,Op.intArith]
    case sub=>subst h;simp[binOp,Op.intArith]
    case and=>subst h;simp[binOp,Op.intBits]
    case andNot=>subst h;simp[binOp,Op.intBits]
    case mul=>subst h;simp[binOp,Op.intArith]
    case quo =>
     split at h
     ·cases h
     ·rename_i A;cases h;simp[binOp,Op.intDiv,A]
    case rem =>
     split at h
     ·cases h
     ·rename_i A;cases h;simp[binOp,Op.intDiv,A]
    case eql=>subst h;simp[binOp,Op.intCmp,BEq.beq]
    case neq=>subst h;simp[binOp,Op.intCmp,bne,BEq.beq]
    case lss=>subst h;simp[binOp,Op.intCmp]
    case leq=>subst h;simp[binOp,Op.intCmp]
    case gtr=>subst h;simp[binOp,Op.intCmp]
    case geq=>subst h;simp[binOp,Op.intCmp]
   ·cases op<;>simp only[cmpI,dL,reduceCtorEq] at h<;>first
     | (subst h;trivial)
     | (split at h
        ·cases h
        ·cases h;trivial)
  ·cases h
 ·rename_i a b;refine⟨?_,?_,by simp,by simp⟩
  ·cases op<;>simp only[dL,reduceCtorEq] at h
   case add =>
    split at h
    ·rename_i O;cases h;have:¬ ((a.size+b.size:Nat):Int) > IntKind.i64.max:=by
      have:IntKind.i64.max=9223372036854775807:=by decide
      omega
     simp only[binOp,Op.stringOp,a_ this,c_]
    ·cases h
   all_goals (subst h;simp only[binOp,Op.stringOp,H6,c_])
   all_goals simp only[ByteArray.toList_eq]
  ·cases op<;>simp only[dL,reduceCtorEq] at h
   case add =>
    split at h
    ·rename_i O;cases h;simp only[kI,ByteArray.size_append];omega
    ·cases h
   all_goals (subst h;trivial)
 ·rename_i a b;split at h
  ·rename_i E;have W:∀x y:Bool,(Op.equal T (.bool x) (.bool y)).run P w=.ok (x == y) w:=by
    exact λx y=>run_equalIn_bool w 9999 T x y E
   refine⟨?_,?_,by simp,by simp⟩
   ·cases op<;>simp only[dL,reduceCtorEq] at h<;>(subst h;simp only[binOp,cX,W,cW,c_])
   ·cases op<;>simp only[dL,reduceCtorEq] at h<;>(subst h;trivial)
  ·cases h
 ·cases h
section
variable {C:Cx}{X0 X:WS}{N:Nat}{fr:Fr}{ds:List Dfd}{a:Act}{ad:Ad}{K:Kt}{ro:Option Nat}{n:Nat}{Q:Exit->Act->World->Prop}{o:Oper}
def H8 {B:Nat}{L:Nat->Nat}{w:World}{r:Value}{t:Tag}{W:List IV}{b:Bool}(hv:V B L w r (.sl t W))(h:kK (.sl t W)=some b):∃ad len cap,r=.slice ad len cap/\ad.isNone=b:=by
 cases hv with
 | sl ad cap _ _ T vs A aa ae hs ab O E D _ =>
  refine⟨ad,_,_,rfl,?_⟩;obtain⟨f,cp,es⟩:=t;unfold kK at h;split at h
  ·rename_i U;cases U;cases h;simp only[kH] at A;rw[A.1];rfl
  ·rename_i U;cases U;cases h;simp only[kH] at A;rw[A];rfl
  ·grind
  ·cases h
variable (hA:At C X0 N X fr ds a ad o.dst)
include hA
def H9 {op:BinOp}{T T':TypeId}{x y:Operand}(ho:o.op=.binOp op T x y T')
  (h:cU (evV C.gl fr x) λx=>cU (evV C.gl fr y) λy=>cU (binV C.P T op x y) λz=>finK o.dst K ad fr (.val z) X.st ds) :
  o.wpIn (ev ro) n C.P a X.w (PK C X0 N K) Q:=by
 obtain⟨vx,hx,h2⟩:=yQ4.1 h;clear h;obtain⟨vy,hy,h3⟩:=yQ4.1 h2;clear h2;obtain⟨vz,D,h⟩:=yQ4.1 h3;clear h3;have af:∀c,o.op≠.defer c:=by rw[ho];intro c hc;cases hc
 have ah:=(hA.v hx).1;have ac:=(hA.v hy).1;unfold binV at D;split at D
 ·rename_i u v;cases hq:binI C.P T op u v with
  | none=>simp[hq] at D
  | some q =>
   simp only[hq,fg,dL] at D;subst D;obtain⟨ai,ao,h1,h2⟩:=H7 hq X.w;have W:=dQ ah;have e2:=dQ ac;have hr:(execOp a.eval o).run C.P X.w=.ok (.value q) X.w:=by
    unfold execOp;rw[ho];simp only[W,e2,cX,vf h1 h2,cW,ai,c_]
   exact eD hr af (hA.val (.raw _ ao) h)
 ·rename_i t xs f es l;split at D
  ·rename_i an;have E:∃e,C.P.underlying T=some (.slice e):=by
    unfold nC at an;grind
   obtain⟨e,E⟩:=E;have e2:a.eval y=.slice none 0 0:=by
    generalize a.eval y=r at ac;cases ac with
    | sl ad cap _ _ T vs O=>rw[O.1,O.2.1,O.2.2]
   have key:∀b,kK (.sl t xs)=some b->(Op.equal T (a.eval x) (a.eval y)).run C.P X.w=.ok b X.w/\(∃ad len cap,a.eval x=.slice ad len cap):=by
    intro b hb;obtain⟨U,A,cap',W,ae⟩:=H8 ah hb;refine⟨?_,_,_,_,W⟩;rw[W,e2];subst ae;exact run_equal_slice_nil X.w T e U A cap' E
   cases op<;>simp only[reduceCtorEq] at D
   ·cases hb:kK (.sl t xs) with
    | none=>simp[hb] at D
    | some b =>
     simp only[hb,fg,dL] at D;subst D;obtain⟨hq,U,A,cap',W⟩:=key b hb;have hr:(execOp a.eval o).run C.P X.w=.ok (.value (.bool b)) X.w:=by
      unfold execOp;rw[ho];rw[W,e2] at hq;simp only[W,e2,cX,vf (a:=.slice U A cap') (by simp) (by simp),cW,binOp,hq,c_]
     exact eD hr af (hA.val (.raw _ trivial) h)
   ·cases hb:kK (.sl t xs) with
    | none=>simp[hb] at D
    | some b =>
     simp only[hb,fg,dL] at D;subst D;obtain⟨hq,U,A,cap',W⟩:=key b hb;have hr:(execOp a.eval o).run C.P X.w=.ok (.value (.bool !b)) X.w:=by
      unfold execOp;rw[ho];rw[W,e2] at hq;simp only[W,e2,cX,vf (a:=.slice U A cap') (by simp) (by simp),cW,binOp,hq,c_]
     exact eD hr af (hA.val (.raw _ trivial) h)
  ·cases D
 ·cases D
def H_ {op:UnOp}{T:TypeId}{x:Operand}(U:o.op=.unOp op T x)
  (h:cU (evV C.gl fr x) λx=>cU (unI op x) λz=>finK o.dst K ad fr (.val z) X.st ds):o.wpIn (ev ro) n C.P a X.w (PK C X0 N K) Q:=by
 obtain⟨vx,hx,h2⟩:=yQ4.1 h;clear h;obtain⟨W,A,h⟩:=yQ4.1 h2;clear h2;have E:∀c,o.op≠.defer c:=by rw[U];intro c hc;cases hc
 have D:=(hA.v hx).1;unfold unI at A;split at A
 ·rename_i b;cases op<;>simp only[reduceCtorEq,dL] at A;subst A;have e:=dQ D;have O:(execOp a.eval o).run C.P X.w=.ok (.value (.bool !b)) X.w:=by
   unfold execOp;rw[U];simp[e,Op.unary]
  exact eD O E (hA.val (.raw _ trivial) h)
 ·rename_i k m;cases op<;>simp only[reduceCtorEq,dL] at A;subst A;have e:=dQ D;have O:(execOp a.eval o).run C.P X.w=.ok (.value (.int k (k.wrap (0-m)))) X.w:=by
   unfold execOp;rw[U];simp[e,Op.unary,Op.intArith]
  exact eD O E (hA.val (.raw _ trivial) h)
 ·cases A
def Ia {S D:TypeId}{x:Operand}(ho:o.op=.convert S D x)
  (h:cU (evV C.gl fr x) λx=>cU (nD C.P S D x) λz=>finK o.dst K ad fr (.val z) X.st ds):o.wpIn (ev ro) n C.P a X.w (PK C X0 N K) Q:=by
 obtain⟨vx,hx,h2⟩:=yQ4.1 h;clear h;obtain⟨vz,A,h⟩:=yQ4.1 h2;clear h2;have O:∀c,o.op≠.defer c:=by rw[ho];intro c hc;cases hc
 have E:=(hA.v hx).1;unfold nD at A;split at A
 ·rename_i t xs;split at A
  ·rename_i U;rw[Option.bind_eq_some_iff] at A;obtain⟨l,hb,A⟩:=A;split at A
   ·cases A
   ·rename_i ac;cases A;have e:=Aq hb;subst e;obtain⟨hc,ae⟩:=H5 E ac U.1 U.2;have hr:(execOp a.eval o).run C.P X.w=.ok (.value (.string ⟨l.toArray⟩)) X.w:=by
     unfold execOp;rw[ho];simp only[cX,hc,cW,c_]
    exact eD hr O (hA.val (.raw _ (by show ByteArray.size ⟨l.toArray⟩<=_;simp[ByteArray.size];omega)) h)
  ·cases A
 ·rename_i k m;split at A
  ·rename_i k1 W h1 h2;cases A;have e:=dQ E;have hr:(execOp a.eval o).run C.P X.w=.ok (.value (.int W (W.wrap m))) X.w:=by
    unfold execOp;rw[ho];have hc:(convert S D (.int k m)).run C.P X.w=.ok (.int W (W.wrap m)) X.w:=by
     simp only[convert,cX,dS h1,dS h2,cW];rfl
    simp only[e,cX,hc,cW,c_]
   exact eD hr O (hA.val (.raw _ trivial) h)
  ·cases A
 ·cases A
end
def nH {B:Nat}{L:Nat->Nat}{w:World}{A:Addr}{cs:List IV}{ag:Bool}{sz off:Nat}{y:IV}(h:V B L w (.pointer (some A)) (.cptr (.agg cs)))(hp:gB ag sz cs off=some y)
  (hy:ag=false->y.cells=[y]):V B L w (.pointer (some (A.add off))) (.cptr y):=by
 cases h with
 | cptr _ _ vs W U hL hc h =>
  rw[mN A W];simp only[ke] at U h;unfold gB at hp;split at hp
  ·rename_i O;split at hp
   ·rename_i ah;cases hp;refine .cptr _ _ ((vs.drop off).take sz) rfl (by simp[ke];omega) (by simp;omega) (λi r hr=>?_) (λi r c hr D=>?_)
    ·grind
    ·rw[ke] at D;grind
   ·cases hp
  ·rename_i O;have E:ag=false:=by simpa using O
   have af:=(lGs hp).1;have ae:vs[off]?=some (vs[off]'(by omega)):=ee _;refine .cptr _ _ [vs[off]'(by omega)] rfl (by rw[hy E];rfl) (by simp;omega) (λi r hr=>?_) (λi r c hr D=>?_)
   ·grind
   ·grind
def vg {P:Program}{T:TypeId}{i D n:Nat}{ag:Bool}(h:fldI P T i=some (D,ag,n)):∃(A:Array Field) (f:Field),P.underlying T=some (.struct A)/\A[i]?=some f/\f.offset=D/\tyI P f.type=some (ag,n)/\0<n:=by
 unfold fldI at h;grind
def vh {P:Program}{T:TypeId}{len n:Nat}{ag:Bool}(h:arrI P T=some (len,ag,n)):∃e,P.underlying T=some (.array len e)/\tyI P e=some (ag,n):=by
 unfold arrI at h;split at h
 ·rename_i m e D;cases A:tyI P e with
  | none=>simp[A] at h
  | some p =>
   grind
 ·cases h
def mP {P:Program}{T e:TypeId}{ag:Bool}{s b:Nat}(h:slI P T=some (e,ag,s,b)):P.underlying T=some (.slice e)/\tyI P e=some (ag,s)/\∃i,P.info? e=some i/\i.zero.isSome=true/\i.bytes=b:=by
 unfold slI at h;split at h
 ·rename_i W U;split at h
  ·rename_i a s' i D O;split at h
   ·rename_i E;cases h;exact⟨U,D,i,O,by cases A:i.zero<;>simp[A] at E ⊢,rfl⟩
   ·cases h
  ·cases h
 ·cases h
def vj {P:Program}{T e:TypeId}{ag:Bool}{s b:Nat}{i:TypeInfo}(h:slI P T=some (e,ag,s,b))(O:P.info? e=some i):∃z,i.zero=some z/\z.cells.size=s:=by
 unfold slI at h;split at h
 ·split at h
  ·rename_i a s' U W A;split at h
   ·rename_i E;cases h;rw[O] at A;cases A;cases D:i.zero with
    | none=>simp[D] at E
    | some z=>exact⟨z,rfl,by simpa[D] using E⟩
   ·cases h
  ·cases h
 ·cases h
def Ib {P:Program}{f:Field}{ag:Bool}{n:Nat}(A:tyI P f.type=some (ag,n))(D:0<n)(ad:Addr)(w:World):(fieldPlace ad f).run P w=.ok (ad.add f.offset) w:=by
 have h2:=(lb A w).2;have:¬ n=0:=by omega
 simp only[fieldPlace,cX,h2,cW,a_ this,c_]
def qV {P:Program}{T:TypeId}{k:LenK}(h:lenI P T=some k):(k=.str/\P.underlying T=some .string)\/(k=.sl/\∃e,P.underlying T=some (.slice e))\/(k=.map/\∃a b,P.underlying T=some (.map a b)) \/
  (∃n e,k=.arr n/\P.underlying T=some (.array n e)):=by
 unfold lenI at h;grind
def As {B:Nat}{L:Nat->Nat}{w:World}{rs:List Value}{cs:List IV}(A:VL B L w rs cs){ag:Bool}{n off:Nat}{y:IV}(h:gB ag n cs off=some y) :
  ∃r,(ag=true->off+n<=rs.length/\r=.agg ⟨(rs.drop off).take n⟩)/\((ag=false->rs[off]?=some r)/\V B L w r y):=by
 unfold gB at h;split at h
 ·rename_i E;split at h
  ·rename_i D;cases h;refine⟨_,λ_=>⟨by rw[A.1];exact D,rfl⟩,?_,((A.drop off).take n).agg⟩;grind
  ·cases h
 ·rename_i E;obtain⟨r,U,O⟩:=A.get h;grind
def Au {P:Program}{T:TypeId}{ag:Bool}{n:Nat}(E:tyI P T=some (ag,n))(w:World)(rs:List Value)(off:Nat)(r:Value)
  (h1:ag=true->off+n<=rs.length/\r=.agg ⟨(rs.drop off).take n⟩) (h2:ag=false->rs[off]?=some r):(part T ⟨rs⟩ off).run P w=.ok r w:=by
 obtain⟨A,D⟩:=lb E w;cases ag with
 | true =>
  obtain⟨O,rfl⟩:=h1 rfl;have:(⟨rs⟩:Array Value).extract off (off+n)=⟨(rs.drop off).take n⟩:=by
   grind
  simp only[part,cX,A,cW,dB,D,c_,this]
 | false =>
  have:(⟨rs⟩:Array Value)[off]?=some r:=by simpa using h2 rfl
  simp only[part,cX,A,cW,bFt,dJ,this,c_]
def mQ {ag:Bool}{n:Nat}{y:IV}(h:fits ag n y=true):(ag=false->y.cells=[y])/\y.cells.length=n/\y.cells.all IV.one=true/\y.def_:=by
 unfold fits at h;split at h
 ·rename_i cs;simp only[bAt,beq_iff_eq] at h;exact⟨λD=>(by rw[D] at h;simp at h),h.1.2,h.2,by simp[IV.def_]⟩
 ·rename_i A;simp only[bAt,fV,beq_iff_eq] at h;have hc:=lI h.1.2;refine⟨λ_=>hc,by rw[hc];exact h.2.symm,by rw[hc];simp[h.1.2],?_⟩;rintro rfl;simp[IV.one] at h
section
variable {C:Cx}{X0 X:WS}{N:Nat}{fr:Fr}{ds:List Dfd}{a:Act}{ad:Ad}{K:Kt}{ro:Option Nat}{n:Nat}{Q:Exit->Act->World->Prop}{o:Oper}
def Ic {r:Value}{E:Tag}{U:List IV}{j:Nat}{y:IV}(hv:C.v X r (.sl E U))(hy:U[j]?=some y):∃(A:Addr) (cap:Nat),r=.slice (some A) U.length cap/\C.v X (.pointer (some (A.add (j*E.es)))) (.cptr y):=by
 cases hv with
 | sl ax cap _ _ T vs am ak au hs ab af O D hc =>
  have hj:=(lGs hy).1;have W:=lMg hy;obtain⟨A,rfl,ac,hL,ai⟩:=D (by intro h0;rw[h0] at hj;simp at hj);refine⟨A,cap,rfl,?_⟩;rw[mN A ac];have ah:∀(l:List IV) (j:Nat) (y:IV),(∀x∈l,x.cells.length=E.es)->l[j]?=some y->∀(i:Nat) (c:IV),y.cells[i]?=some c->(l.flatMap IV.cells)[j*E.es+i]?=some c:=by
   intro l
   induction l with
   | nil=>intro j y _ h;simp at h
   | cons x l ih =>
    intro j y hs h i c ar;have hx:=hs x (by simp);rw[ff];cases j with
    | zero =>
     grind
    | succ j =>
     grind
  have aa:=hs y W;have aq:j*E.es+E.es<=vs.length:=by rw[ab,<- Nat.succ_mul];exact ec _ hj
  refine .cptr _ _ ((vs.drop (j*E.es)).take E.es) rfl (by rw[aa];simp;omega) (by simp;omega) (λi r hr=>?_) (λi r c hr av=>?_)
  ·grind
  ·grind
variable (hA:At C X0 N X fr ds a ad o.dst)
include hA
def Ie {T:TypeId}{x:Operand}{i:Nat}(ho:o.op=.fieldAddr T x i)
  (h:cU (fldI C.P T i) λf=>cU (evA C.gl ad fr x) λp=>nE f p (finK o.dst K ad fr) X.st ds):o.wpIn (ev ro) n C.P a X.w (PK C X0 N K) Q:=by
 obtain⟨⟨fo,ag,sz⟩,hf,h2⟩:=yQ4.1 h;clear h;obtain⟨p,hp,h⟩:=yQ4.1 h2;clear h2;have E:∀c,o.op≠.defer c:=by rw[ho];intro c hc;cases hc
 obtain⟨fs,f,hT,ab,rfl,aa,hn⟩:=vg hf;have A:=hA.p hp;have key:∀D:Addr,a.eval x=.pointer (some D)->(execOp a.eval o).run C.P X.w=.ok (.value (.pointer (some (D.add f.offset)))) X.w:=by
  intro D O;unfold execOp;rw[ho];simp only[Instr.fieldAt,cX,dS hT,cW,ab,O,Instr.sureAddr,c_,Ib aa hn]
 cases p with
 | box t off =>
  obtain⟨cs,b,h1,h2,O⟩:=A;have U:=key _ O;rw[lM] at U;exact eD U E (u9 hA.inv hA.ad hA.hd h1 h2 h)
 | ptr b off =>
  have U:=key _ A;rw[lM] at U;exact eD U E (hA.val (.raw _ trivial) h)
 | cp z =>
  obtain⟨cs,rfl,h2⟩:=sD h;clear h;obtain⟨y,hy,h3⟩:=yQ4.1 h2;clear h2;obtain⟨W,h⟩:=jY h3;clear h3;obtain⟨D,O,_⟩:=jw A;exact eD (key _ O) E (hA.val (nH (O▸A) hy (mQ W).1) h)
def Ig {T:TypeId}{x:Operand}{i:Nat}(U:o.op=.field T x i)
  (h:cU (fldI C.P T i) λf=>cU (evV C.gl fr x) λx=>aggV x λcs=>cU (gB f.2.1 f.2.2 cs f.1) λy=>finK o.dst K ad fr (.val y) X.st ds):o.wpIn (ev ro) n C.P a X.w (PK C X0 N K) Q:=by
 obtain⟨⟨fo,ag,sz⟩,hf,h2⟩:=yQ4.1 h;clear h;obtain⟨z,hz,h3⟩:=yQ4.1 h2;clear h2;obtain⟨cs,rfl,W⟩:=sD h3;clear h3;obtain⟨y,hy,h⟩:=yQ4.1 W;clear W;have E:∀c,o.op≠.defer c:=by rw[U];intro c hc;cases hc
 obtain⟨fs,f,hT,O,rfl,D,hn⟩:=vg hf;obtain⟨rs,he,A⟩:=lH (hA.v hz).1;obtain⟨r,h1,h2,hv⟩:=As A hy;have hr:(execOp a.eval o).run C.P X.w=.ok (.value r) X.w:=by
  unfold execOp;rw[U];simp only[Instr.field,cX,dS hT,cW,O,he,asAgg,c_,Au D X.w rs f.offset r h1 h2]
 exact eD hr E (hA.val hv h)
def Ih {T:TypeId}{x i:Operand}(ho:o.op=.indexAddr T x i)
  (h:cU (evV C.gl fr i) λi=>intV i λ_ j=>cU (lenI C.P T) λk=>idxV k (slI C.P T) (evV C.gl fr x) (evA C.gl ad fr x) (arrI C.P T) j (finK o.dst K ad fr) X.st ds) :
  o.wpIn (ev ro) n C.P a X.w (PK C X0 N K) Q:=by
 obtain⟨vi,hi,h2⟩:=yQ4.1 h;clear h;obtain⟨k,j,rfl,A⟩:=mO h2;clear h2;obtain⟨lk,au,h⟩:=yQ4.1 A;clear A;have U:∀c,o.op≠.defer c:=by rw[ho];intro c hc;cases hc
 have ei:=dQ (hA.v hi).1;rcases qV au with⟨rfl,_⟩|⟨rfl,e,hT⟩|⟨rfl,_⟩|⟨len,e,rfl,hT⟩
 ·exact h.elim
 ·obtain⟨⟨e',ag,sz,by_⟩,hs,h0⟩:=yQ4.1 h;clear h;obtain⟨vx,hx,h2⟩:=yQ4.1 h0;clear h0;rcases Ak h2 with⟨ar,xs,rfl,A⟩|⟨b,off,m,cap,rfl,A⟩
  case inr =>
   clear h2;obtain⟨hj,h⟩:=jY A;clear A;have ex:=dQ (hA.v hx).1;obtain⟨D,O,_⟩:=mP hs;rw[hT] at D;cases D;have hr:(execOp a.eval o).run C.P X.w=.ok (.value (.pointer (some (Addr.add ⟨b,off,none⟩ (j.toNat*sz))))) X.w:=by
    unfold execOp;rw[ho];have h2:=(lb O X.w).2;have W:0<=j/\j<(m:Int):=⟨hj.1,by omega⟩
    simp only[Instr.indexAt,ei,asIntOf,cX,c_,cW,dS hT,ex,W,and_self,dB,h2]
   rw[lM] at hr;exact eD hr U (hA.val (.raw _ trivial) h)
  clear h2;obtain⟨ae,A⟩:=jY A;obtain⟨hj,h4⟩:=jY A;clear A;obtain⟨y,hy,h⟩:=yQ4.1 h4;clear h4;have ai:=V.reTag (es:=sz) (hA.v hx).1;simp only at ae;generalize reTag sz ar=tg at ae ai;have aj:=(lGs hy).1;obtain⟨E,cap,he,hv⟩:=Ic ai hy;obtain⟨D,O,_⟩:=mP hs;rw[hT] at D;cases D;rw[ae] at hv;have hr:(execOp a.eval o).run C.P X.w=.ok (.value (.pointer (some (E.add (j.toNat*sz))))) X.w:=by
   unfold execOp;rw[ho];have h2:=(lb O X.w).2;have W:0<=j/\j<(xs.length:Int):=⟨hj,by omega⟩
   simp only[Instr.indexAt,ei,asIntOf,cX,c_,cW,dS hT,he,W,and_self,dB,h2]
  exact eD hr U (hA.val hv h)
 ·exact h.elim
 ·obtain⟨⟨ax,ag,sz⟩,av,h2⟩:=yQ4.1 h;clear h;obtain⟨p,hp,A⟩:=yQ4.1 h2;clear h2;obtain⟨hj,h⟩:=jY A;clear A;obtain⟨e',D,O⟩:=vh av;rw[hT] at D;cases D;obtain⟨aj,h2⟩:=jY h;clear h;simp only at aj;have ab:=hA.p hp;have key:∀E:Addr,a.eval x=.pointer (some E)->(execOp a.eval o).run C.P X.w=.ok (.value (.pointer (some (E.add (j.toNat*sz))))) X.w:=by
   intro E he;unfold execOp;rw[ho];have h2:=(lb O X.w).2;have W:0<=j/\j<(len:Int):=⟨hj,by omega⟩
   simp only[Instr.indexAt,ei,asIntOf,cX,c_,cW,dS hT,he,Instr.sureAddr,W,and_self,dB,h2]
  cases p with
  | box t off =>
   obtain⟨cs,b,h1,A,he⟩:=ab;have hr:=key _ he;rw[lM] at hr;exact eD hr U (u9 hA.inv hA.ad hA.hd h1 A h2)
  | ptr b off =>
   have hr:=key _ ab;rw[lM] at hr;exact eD hr U (hA.val (.raw _ trivial) h2)
  | cp z =>
   obtain⟨cs,rfl,A⟩:=sD h2;clear h2;obtain⟨y,hy,h4⟩:=yQ4.1 A;clear A;obtain⟨am,h⟩:=jY h4;clear h4;obtain⟨E,he,_⟩:=jw ab;exact eD (key _ he) U (hA.val (nH (he▸ab) hy (mQ am).1) h)
def Ii {T:TypeId}{x i:Operand}(ho:o.op=.index T x i)
  (h:cU (evV C.gl fr i) λi=>intV i λ_ j=>cU (lenI C.P T) λk=>cU (evV C.gl fr x) λx=>oH k (arrI C.P T) x j (finK o.dst K ad fr) X.st ds) :
  o.wpIn (ev ro) n C.P a X.w (PK C X0 N K) Q:=by
 obtain⟨vi,hi,h2⟩:=yQ4.1 h;clear h;obtain⟨k,j,rfl,A⟩:=mO h2;clear h2;obtain⟨lk,af,h4⟩:=yQ4.1 A;clear A;obtain⟨vx,hx,h⟩:=yQ4.1 h4;clear h4;have O:∀c,o.op≠.defer c:=by rw[ho];intro c hc;cases hc
 have ei:=dQ (hA.v hi).1;have D:=(hA.v hx).1;rcases qV af with⟨rfl,W⟩|⟨rfl,e,W⟩|⟨rfl,_⟩|⟨len,e,rfl,W⟩
 ·obtain⟨v,rfl,h2⟩:=vc h;clear h;cases v with
  | string s =>
   obtain⟨b,hb,h⟩:=yQ4.1 h2;clear h2;have ex:=dQ D;have hr:(execOp a.eval o).run C.P X.w=.ok (.value (.int .u8 b.toNat)) X.w:=by
    unfold execOp;rw[ho];unfold nF at hb;simp only[Instr.index,ei,ex,asIntOf,cX,c_,cW,dS W,hb]
   exact eD hr O (hA.val (.raw _ trivial) h)
  | _=>exact h2.elim
 ·exact h.elim
 ·exact h.elim
 ·obtain⟨cs,rfl,h2⟩:=sD h;clear h;obtain⟨⟨aj,ag,sz⟩,ah,A⟩:=yQ4.1 h2;clear h2;obtain⟨hj,h4⟩:=jY A;clear A;obtain⟨y,hy,h⟩:=yQ4.1 h4;clear h4;obtain⟨e',U,E⟩:=vh ah;rw[W] at U;cases U;obtain⟨rs,ex,ab⟩:=lH D;obtain⟨r,h1,h2,hv⟩:=As ab hy;have hr:(execOp a.eval o).run C.P X.w=.ok (.value r) X.w:=by
   unfold execOp;rw[ho];have A:=(lb E X.w).2;simp only[Instr.index,ei,ex,asIntOf,cX,c_,cW,dS W,hj,and_self,dB,A,Au E X.w rs _ r h1 h2]
  exact eD hr O (hA.val hv h)
end
