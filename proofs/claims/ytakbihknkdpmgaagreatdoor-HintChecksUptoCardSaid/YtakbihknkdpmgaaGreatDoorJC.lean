/- The layer of ideal values, part E: opera -/
import Derived.Test.YtakbihknkdpmgaaGreatDoorJB
import Derived.Laws.Slices
import Derived.Laws.IdiomStrings
import Derived.Laws.Cover3
set_option linter.all false
namespace Go.Iv
open Go
section
variable {C:Cx}{X:WS}
def vM {B:Nat}{L:Nat->Nat}{w:World}{v:Value}{y:IV}(h:ot v=some y):V B L w v y/\y.def_/\y.one=true:=by
 unfold ot at h;split at h
 ·cases h
 ·cases h
 ·cases h;exact⟨.sl none 0 ⟨true,.nil,0⟩ [] 0 [] ⟨rfl,rfl,rfl⟩ (by simp) (by simp) (by simp) rfl (λ_ E=>by cases E) (λ_ ad G=>by cases G) (λD=>absurd rfl D) (λi r c A=>by simp at A),by simp[IV.def_],rfl⟩
 ·cases h
 ·split at h
  ·rename_i hs;cases h;exact⟨.raw _ hs,by simp[IV.def_],rfl⟩
  ·cases h
 ·cases h;exact⟨.fn _ [] [] rfl (λi r c A=>by simp at A) [] [] rfl (λi r c A=>by simp at A),by simp[IV.def_],rfl⟩
 ·cases h
 ·rename_i h1 h2 h3 h4 U O J;cases h;refine⟨.raw _ ?_,by simp[IV.def_],?_⟩
  ·cases v<;>simp_all [mz]
  ·cases v<;>simp_all [IV.one]
def V.reTag {B:Nat}{L:Nat->Nat}{w:World}{r:Value}{t:Tag}{xs:List IV}{es:Nat}(h:V B L w r (.sl t xs)):V B L w r (.sl (reTag es t) xs):=by
 by_cases hn:t.cap=.nil
 ·have e:Iv.reTag es t=⟨t.fresh,.nil,es⟩:=by simp only[Iv.reTag,hn]
  rw[e];cases h with
  | sl a cap _ _ T vs A D aa hs J O G E hc =>
   rw[hn] at A;obtain⟨rfl,h0,rfl⟩:=A;obtain rfl:=eG h0;refine .sl none 0 ⟨t.fresh,.nil,es⟩ [] T vs ⟨rfl,rfl,rfl⟩ D aa (by simp) (by simpa using J) (λ_ hg=>by cases hg) (λ_ ad ha=>by cases ha) (λU=>absurd rfl U) (λi r c hr hx=>by simp at hx)
 ·have e:Iv.reTag es t=t:=by
   unfold Iv.reTag;grind
  rw[e];exact h
def vN {α β:Type}{f:α->Option β}:∀ {l:List α} {A:List β},allI f l=some A->l.length=A.length/\∀(i:Nat) (a:α) (b:β),l[i]?=some a->A[i]?=some b->f a=some b
 | [],A,h=>by simp only[allI,dG] at h;subst h;exact⟨rfl,λi a b D=>by simp at D⟩
 | a::l,A,h=>by
  unfold allI at h;split at h
  ·rename_i b E h1 h2;cases h;obtain⟨J,G⟩:=vN h2;grind
  ·cases h
def pe {B:Nat}{L:Nat->Nat}{w:World}{v:Value}{y:IV}(h:qG v=some y):V B L w v y/\y.def_/\y.cells.all IV.one=true:=by
 unfold qG at h;split at h
 ·rename_i cs;cases hl:allI ot cs.toList with
  | none=>simp[hl] at h
  | some l =>
   simp only[hl,eK,dG] at h;subst h;obtain⟨J,G⟩:=vN hl;have E:cs=⟨cs.toList⟩:=rfl;refine⟨by rw[E];exact .agg _ _ J (λi r c U hc=>(vM (G i r c U hc)).1),by simp[IV.def_],?_⟩;rw[jS,eP];intro x O;obtain⟨i,hi,A⟩:=fL.1 O;have D:cs.toList[i]?=some (cs.toList[i]'(by omega)):=dO _;exact (vM (B:=0) (L:=λ_=>0) (w:=w) (G i _ x D (by rw[dO hi,A]))).2.2
 ·rename_i aa;have:=vM (B:=B) (L:=L) (w:=w) h;exact⟨this.1,this.2.1,by rw[lv this.2.2];simp[this.2.2]⟩
def AV {n0:Nat}{r:Value}{s:SV}{y:IV}(h:ivOf s=some y)(hs:SlotOk C X n0 r s):C.v X r y/\y.def_:=by
 cases s with
 | box cs=>cases h
 | iv x=>cases x<;>simp only[ivOf,reduceCtorEq,dG] at h<;>subst h<;>exact⟨hs,by simp[IV.def_]⟩
def pg {n0:Nat}{fr:Fr}{a:Act}{x:Operand}{y:IV}(E:Good C X)(G:FrOk C X n0 fr a.tmps)(h:evV C.gl fr x=some y):C.v X (a.eval x) y/\y.def_:=by
 cases x with
 | tmp t=>exact AV h (G.slot t)
 | const v=>exact⟨(pe h).1,(pe (B:=0) (L:=λ_=>0) (w:=X.w) h).2.1⟩
 | global g =>
  simp only[evV] at h;cases D:C.gl g with
  | none=>simp[D] at h
  | some z =>
   simp only[D,eK,dG] at h;subst h;exact⟨E.gl g z D,by simp[IV.def_]⟩
 | func f =>
  simp only[evV,dG] at h;subst h;exact⟨.fn _ [] [] rfl (λi r c A=>by simp at A) [] [] rfl (λi r c A=>by simp at A),by simp[IV.def_]⟩
def qK {n0:Nat}{fr:Fr}{a:Act}{l:List Operand}{ys:List IV}(G:Good C X)(J:FrOk C X n0 fr a.tmps)(h:evL C.gl fr l=some ys):C.vl X (l.map a.eval) ys:=by
 obtain⟨E,D⟩:=vN h;refine⟨by simpa using E,λi r c A hc=>?_⟩;rw[eI] at A;cases hl:l[i]? with
 | none=>simp[hl] at A
 | some x =>
  simp only[hl,eK,dG] at A;subst A;exact (pg G J (D i x c hl hc)).1
def PlOk (C:Cx)(X:WS)(fr:Fr)(a:Act)(v:Value):Pl->Prop
 | .box t off=>∃cs b,fr t=.box cs/\tm a.tmps t=.pointer (some ⟨b,0,none⟩)/\v=.pointer (some ⟨b,off,none⟩)
 | .ptr b off=>v=.pointer (some ⟨b,off,none⟩)
 | .cp x=>C.v X v (.cptr x)
def Ig {n0:Nat}{fr:Fr}{ad:Ad}{a:Act}{x:Operand}{p:Pl}(J:Good C X)(O:FrOk C X n0 fr a.tmps)(E:AdOk fr a.tmps ad)(h:evA C.gl ad fr x=some p):PlOk C X fr a (a.eval x) p:=by
 cases x with
 | tmp t =>
  simp only[evA] at h;cases D:ad t with
  | some e =>
   obtain⟨s,off⟩:=e;simp only[D,plAd,dG] at h;subst h;obtain⟨cs,b,h1,h2,U⟩:=E t s off D;exact⟨cs,b,h1,h2,U⟩
  | none =>
   simp only[D,plAd] at h;have hs:=O.slot t;unfold plOf at h;split at h
   ·rename_i cs A;cases h;rw[A] at hs;obtain⟨b,c,T,G,_⟩:=hs;exact⟨_,b,A,G,G⟩
   ·rename_i b off A;cases h;rw[A] at hs;exact dK hs
   ·rename_i y A;cases h;rw[A] at hs;exact hs
   ·cases h
 | global g =>
  simp only[evA] at h;cases D:C.gl g with
  | none=>simp[D] at h
  | some z =>
   simp only[D,eK,dG] at h;subst h;exact J.gl g z D
 | const v=>cases h
 | func f=>cases h
def jU {P:Program}{T:TypeId}{ag:Bool}{n:Nat}(h:tyI P T=some (ag,n))(w:World):(isAgg T).run P w=.ok ag w/\(sizeOf T).run P w=.ok n w:=by
 unfold tyI at h;split at h
 ·rename_i d i hd A;cases h;refine⟨?_,?_⟩
  ·simp only[isAgg,dt,dS hd,dq];cases d<;>rfl
  ·simp only[sizeOf,dt,run_typeInfo w A,dq,dv]
 ·cases h
def sT {P:Program}{T:TypeId}{ag:Bool}{n:Nat}(h:tyI P T=some (ag,n)):(P.info? T).map (·.size)=some n:=by
 unfold tyI at h;grind
def qL {P:Program}{T:TypeId}{z:IV}(h:eO P T=some z)(w:World):∃v,(zeroValue T).run P w=.ok v w/\(∀B L w',V B L w' v z)/\z.def_/\z.cells.all IV.one=true:=by
 unfold eO at h;cases D:P.info? T with
 | none=>simp[D] at h
 | some i =>
  simp only[D,Option.bind_some] at h;cases A:i.zero with
  | none=>simp[A] at h
  | some v =>
   simp only[A,Option.bind_some] at h;refine⟨v,?_,λB L w'=>(pe h).1,(pe (B:=0) (L:=λ_=>0) (w:=w) h).2.1,(pe (B:=0) (L:=λ_=>0) (w:=w) h).2.2⟩;simp only[zeroValue,dt,run_typeInfo w D,dq,A,dv]
def lz (b o i:Nat):(⟨b,o,none⟩:Addr).add i=⟨b,o+i,none⟩:=by unfold Addr.add;split<;>simp_all
def mD (ad:Addr)(h:ad.spot=none)(i:Nat):ad.add i=⟨ad.block,ad.off+i,none⟩:=by
 obtain⟨b,o,s⟩:=ad;simp only at h;subst h;exact lz b o i
def jn {w:World}{b:Nat}{c:Array Value}{T:TypeId}{f:Nat×Nat}(h:w.heap[b]?=some (.cells c T f))(i:Nat):w.cell? ⟨b,i,none⟩=c.toList[i]?:=by
 simp[World.cell?,h]
def vO {P:Program}{T:TypeId}{ag:Bool}{n:Nat}(ht:tyI P T=some (ag,n))(w:World)(a:Addr)(rs:List Value)
  (hc:∀(i:Nat) (v:Value),rs[i]?=some v->w.cell? (a.add i)=some v) :
  (ag=true->rs.length=n->(loadVar T a).run P w=.ok (.agg ⟨rs⟩) w)/\(ag=false->∀v,rs[0]?=some v->(loadVar T a).run P w=.ok v w):=by
 obtain⟨h1,h2⟩:=jU ht w;refine⟨λA D=>?_,λA v hv=>?_⟩
 ·subst A;subst D;have hl:=run_loadCells_list (P:=P) w a rs hc;simp only[loadVar,dt,h1,dq,dD,h2,hl,dv]
 ·subst A;have h0:=hc 0 v hv;have E:a.add 0=a:=by simp[Addr.add]
  rw[E] at h0;simp only[loadVar,dt,h1,dq,bFt,dI,run_load,h0]
def sU {T:TypeId}{ag:Bool}{n b off:Nat}{c:Array Value}{E:TypeId}{f:Nat×Nat}{cs:List IV}{y:IV}(ht:tyI C.P T=some (ag,n))(O:X.w.heap[b]?=some (.cells c E f))(hv:C.vl X c.toList cs)
  (hp:gr ag n cs off=some y):∃v,(loadVar T ⟨b,off,none⟩).run C.P X.w=.ok v X.w/\C.v X v y:=by
 unfold gr at hp;have G:=hv.drop off;split at hp
 ·rename_i A;split at hp
  ·rename_i aa;cases hp;have D:=G.take n;refine⟨_,(vO ht X.w ⟨b,off,none⟩ ((c.toList.drop off).take n) (λi v hi=>?_)).1 A (by rw[D.1,dQ,iT];omega),D.agg⟩;rw[lz,jn O];grind
  ·cases hp
 ·rename_i A;obtain⟨r,U,J⟩:=hv.get hp;refine⟨r,(vO ht X.w ⟨b,off,none⟩ (c.toList.drop off) (λi v hi=>?_)).2 (by simpa using A) r (by rw[lh];simpa using U),J⟩;rw[lz,jn O];grind
def Ih {T:TypeId}{ag:Bool}{n:Nat}{ad:Addr}{y:IV}(ht:tyI C.P T=some (ag,n))(hv:C.v X (.pointer (some ad)) (.cptr y))(D:fits ag n y=true) :
  ∃v,(loadVar T ad).run C.P X.w=.ok v X.w/\C.v X v y:=by
 cases hv with
 | cptr _ _ vs J G hL hc h =>
  have E:∀(i:Nat) (v:Value),vs[i]?=some v->X.w.cell? (ad.add i)=some v:=λi v hi=>by rw[mD ad J];exact hc i v hi
  obtain⟨U,k2⟩:=vO ht X.w ad vs E;have A:C.vl X vs y.cells:=⟨G,h⟩
  unfold fits at D;split at D
  ·rename_i cs;simp only[bAt,beq_iff_eq] at D;exact⟨_,U D.1.1 (by rw[G];exact D.1.2),A.agg⟩
  ·rename_i ab;simp only[bAt,lZ,beq_iff_eq] at D;have O:=lv D.1.2;rw[O] at A;obtain⟨r,hr,aa⟩:=A.get (i:=0) (c:=y) rfl;grind
def jc {B:Nat}{L:Nat->Nat}{w:World}{r:Value}{x:IV}(h:V B L w r (.cptr x)):∃ad,r=.pointer (some ad)/\ad.spot=none:=by
 cases h with
 | cptr ad _ _ A=>exact⟨ad,rfl,A⟩
def ph {rs:List Value}{cs:List IV}(hv:C.vl X rs cs)(h:cs.all IV.one=true):∀v∈rs,v.oneCell'=true:=by
 intro v G;obtain⟨i,D,A⟩:=fL.1 G;have E:rs[i]?=some v:=by rw[dO D,A]
 have hc:cs[i]?=some (cs[i]'(by rw[<- hv.1];exact D)):=dO _;have h1:=V.flat (hv.2 i _ _ E hc) (eP.1 h _ (List.getElem_mem _));cases v<;>first|rfl|simp[Value.flat] at h1
def AW {T:TypeId}{ag:Bool}{b off:Nat}{c:Array Value}{E:TypeId}{v:Value}{y:IV}(ht:tyI C.P T=some (ag,y.cells.length))(O:X.w.heap[b]?=some (.cells c E (0,0)))
  (hv:C.v X v y) (hd:y.def_) (h1:y.cells.all IV.one=true) (J:off+y.cells.length<=c.size) :
  (storeVar T ⟨b,off,none⟩ v).run C.P X.w=.ok () (X.w.setRow b (c.toList.take off++v.cells.toList++c.toList.drop (off+v.cells.toList.length)).toArray)/\C.vl X v.cells.toList y.cells:=by
 have G:∀u,y≠.raw (.agg u):=by
  rintro u rfl;simp[IV.cells,IV.one] at h1
 have A:=V.cells hv G hd;refine⟨?_,A⟩;have h2:=(jU ht X.w).2;have D:v.cells.size=y.cells.length:=by rw[<- A.1];simp
 have hst:=run_storeCells_at (P:=C.P) b off E v.cells.toList 0 c X.w O (by rw[A.1];omega) (ph A h1);simp only[storeVar,dt,h2,dq,D,ne_eq,nTf,dI,hst];simp
def pk {rs:List Value}{cs:List IV}{off:Nat}{vs:List Value}{ys:List IV}(h:C.vl X rs cs)(A:C.vl X vs ys) :
  C.vl X (rs.take off++vs++rs.drop (off+vs.length)) (fB cs off ys):=by
 unfold fB;rw[A.1];exact ((h.take off).append A).append (h.drop _)
end
def PK (C:Cx)(X0:WS)(N:Nat)(K:Kt)(a:Act)(w:World):Prop :=
 ∃X ad fr ds,X.w=w/\Inv C X0 N X fr ds a/\AdOk fr a.tmps ad/\K ad fr X.st ds
section
variable {C:Cx}{X0 X:WS}{N:Nat}{fr:Fr}{ds:List Dfd}{a:Act}{ad:Ad}{dst:Option Nat}{K:Kt}
def gA {x:IV}{v:Value}(D:Inv C X0 N X fr ds a)(A:AdOk fr a.tmps ad)(hd:∀d,dst=some d->d<N)(hv:C.v X v x)
  (h:finK dst K ad fr (.val x) X.st ds):PK C X0 N K (a.put dst v) X.w:=by
 cases dst with
 | none=>exact⟨X,ad,fr,ds,rfl,D,A,h⟩
 | some d=>exact⟨X,_,_,ds,rfl,D.put (hd d rfl) hv,A.put d v _,h⟩
def vP {t off b:Nat}{cs:List IV}(E:Inv C X0 N X fr ds a)(A:AdOk fr a.tmps ad)(hd:∀d,dst=some d->d<N)(ht:fr t=.box cs)
  (G:tm a.tmps t=.pointer (some ⟨b,0,none⟩)) (h:finK dst K ad fr (.adr t off) X.st ds):PK C X0 N K (a.put dst (.pointer (some ⟨b,off,none⟩))) X.w:=by
 cases dst with
 | none=>exact⟨X,ad,fr,ds,rfl,E,A,h⟩
 | some d =>
  simp only[finK] at h;split at h
  ·exact h.elim
  ·rename_i D;exact⟨X,_,_,ds,rfl,E.put (hd d rfl) (.junk _),A.adr (by rw[E.size];exact hd d rfl) D ht G _,h⟩
def Ii {c:Array Value}{T:TypeId}{cs:List IV}(D:Inv C X0 N X fr ds a)(A:AdOk fr a.tmps ad)(hd:∀d,dst=some d->d<N)(hv:C.vl X c.toList cs)
  (h:finK dst K ad fr (.box cs) X.st ds):PK C X0 N K (a.put dst (.pointer (some ⟨X.w.heap.size,0,none⟩))) (X.w.alloc (.cells c T)):=by
 cases dst with
 | none=>exact h.elim
 | some d=>exact⟨{ X with w:=X.w.alloc (.cells c T) },_,_,ds,rfl,D.box (hd d rfl) c T hv,A.put d _ _,h⟩
def Ij (D:Inv C X0 N X fr ds a)(A:AdOk fr a.tmps ad)(h:finK dst K ad fr .nop X.st ds):PK C X0 N K (a.put dst undef) X.w:=by
 cases dst with
 | some _=>exact h.elim
 | none=>exact⟨X,ad,fr,ds,rfl,D,A,h⟩
def AX {p:Pl}{v:Value}(D:Inv C X0 N X fr ds a)(A:AdOk fr a.tmps ad)(hd:∀d,dst=some d->d<N)(hp:PlOk C X fr a v p)
  (h:plR p (finK dst K ad fr) X.st ds):PK C X0 N K (a.put dst v) X.w:=by
 cases p with
 | box t off =>
  obtain⟨cs,b,h1,h2,rfl⟩:=hp;exact vP D A hd h1 h2 h
 | ptr b off =>
  obtain rfl:=hp;exact gA D A hd (.raw _ trivial) h
 | cp x=>exact gA D A hd hp h
end
def eF (ro:Option Nat):Fence:={ Fence.wide with round:=ro }
section
variable {C:Cx}{X0 X:WS}{N:Nat}{fr:Fr}{ds:List Dfd}{a:Act}{ad:Ad}{K:Kt}{ro:Option Nat}{n:Nat}{Q:Exit->Act->World->Prop}{o:Oper}
def et {v:Value}{w':World}(A:(execOp a.eval o).run C.P X.w=.ok (.value v) w')(hnd:∀c,o.op≠.defer c)(h:PK C X0 N K (a.put o.dst v) w') :
  o.wpIn (eF ro) n C.P a X.w (PK C X0 N K) Q:=by
 refine⟨λ_ _=>trivial,?_⟩;rw[Oper.semAt_eq _ _ _ hnd,A];exact h
def vQ {w':World}(A:(execOp a.eval o).run C.P X.w=.ok .skip w')(hnd:∀c,o.op≠.defer c)(h:PK C X0 N K (a.put o.dst undef) w') :
  o.wpIn (eF ro) n C.P a X.w (PK C X0 N K) Q:=by
 refine⟨λ_ _=>trivial,?_⟩;rw[Oper.semAt_eq _ _ _ hnd,A];exact h
structure At (C:Cx)(X0:WS)(N:Nat)(X:WS)(fr:Fr)(ds:List Dfd)(a:Act)(ad:Ad)(dst:Option Nat):Prop where
 inv:Inv C X0 N X fr ds a
 ad:AdOk fr a.tmps ad
 hd:∀d,dst=some d->d<N
variable (hA:At C X0 N X fr ds a ad o.dst)
include hA
def At.v {x:Operand}{y:IV}(h:evV C.gl fr x=some y):C.v X (a.eval x) y/\y.def_:=pg hA.inv.good hA.inv.fr h
def At.p {x:Operand}{p:Pl}(h:evA C.gl ad fr x=some p):PlOk C X fr a (a.eval x) p:=Ig hA.inv.good hA.inv.fr hA.ad h
def At.val {x:IV}{v:Value}(hv:C.v X v x)(h:finK o.dst K ad fr (.val x) X.st ds):PK C X0 N K (a.put o.dst v) X.w:=gA hA.inv hA.ad hA.hd hv h
def AY {x:Operand}{dr:Bool}(A:o.op=.move x\/o.op=.assign x)(h:kA dr (evV C.gl fr x) (evA C.gl ad fr x) (finK o.dst K ad fr) X.st ds) :
  o.wpIn (eF ro) n C.P a X.w (PK C X0 N K) Q:=by
 refine et (v:=a.eval x) (w':=X.w) (by unfold execOp;rcases A with A|A<;>rw[A]<;>rfl) (by rcases A with A|A<;>rw[A]<;>intro c hc<;>cases hc) ?_;unfold kA at h;split at h
 ·rename_i y D;exact hA.val (hA.v D).1 h
 ·split at h
  ·exact h.elim
  ·obtain⟨p,hp,h⟩:=yQ3.1 h;exact AX hA.inv hA.ad hA.hd (hA.p hp) h
end
section
def ny {y:IV}(h1:y.cells.all IV.one=true):∀u,y≠.raw (.agg u):=by
 rintro u rfl;simp[IV.cells,IV.one] at h1
def mE {s:IV}{f:IntKind->Int->Prop}(h:intV s f):∃k n,s=.raw (.int k n)/\f k n:=by
 unfold intV at h;split at h
 ·grind
 ·exact h.elim
def AZ {s:IV}{f:Bool->Prop}(h:kR s f):∃b,s=.raw (.bool b)/\f b:=by
 unfold kR at h;split at h
 ·grind
 ·exact h.elim
def A0 {s:IV}{f:Tag->List IV->Prop}(h:slV s f):∃t A,s=.sl t A/\f t A:=by
 unfold slV at h;split at h
 ·grind
 ·exact h.elim
def A1 {s:IV}{f:Tag->List IV->Prop}{g:Nat->Nat->Nat->Prop}(h:slX s f g):(∃t A,s=.sl t A/\f t A)\/∃b off n cap,s=.raw (.slice (some ⟨b,off,none⟩) n cap)/\g b off n:=by
 unfold slX at h;split at h
 ·grind
 ·grind
 ·exact h.elim
def qM {s:IV}{f:Tag->List IV->Prop}{g:Nat->Nat->Nat->Nat->Prop}(h:slY s f g):(∃t A,s=.sl t A/\f t A)\/∃b off n cap,s=.raw (.slice (some ⟨b,off,none⟩) n cap)/\g b off n cap:=by
 unfold slY at h;split at h
 ·grind
 ·grind
 ·exact h.elim
def sV {s:IV}{f:List IV->Prop}(h:aggV s f):∃A,s=.agg A/\f A:=by
 unfold aggV at h;split at h
 ·grind
 ·exact h.elim
def Ik {s:IV}{f:List IV->Prop}(h:tupV s f):∃A,s=.tup A/\f A:=by
 unfold tupV at h;split at h
 ·grind
 ·exact h.elim
def vR {s:IV}{f:Fn->List IV->List IV->Prop}(h:fnV s f):∃g x y,s=.fn g x y/\f g x y:=by
 unfold fnV at h;split at h
 ·grind
 ·exact h.elim
def sW {s:IV}{f:Option Nat->Prop}(h:mapV s f):∃m,s=.raw (.map m)/\f m:=by
 unfold mapV at h;split at h
 ·grind
 ·exact h.elim
def vS {s:IV}{f:Value->Prop}(h:rawV s f):∃v,s=.raw v/\f v:=by
 unfold rawV at h;split at h
 ·grind
 ·exact h.elim
def A2 {B:Nat}{L:Nat->Nat}{w:World}{r:Value}{x:IV}{f:Value->Prop}(hv:V B L w r x)(h:keyV x f):f r:=by
 unfold keyV at h;split at h
 ·rw[dK hv];exact h
 ·rename_i s k n;cases hv with
  | agg rs cs hl A =>
   match rs,hl with
   | [a,b],_ =>
    have h1:=A 0 a _ rfl rfl;have h2:=dK (A 1 b _ rfl rfl);have D:=dK h1;subst h2;subst D;cases h1 with
    | raw _ E=>exact h E
 iterate 2
  ·cases hv with
   | agg rs cs hl A =>
    match rs,hl with
    | [a,b],_ =>
     have h2:=dK (A 1 b _ rfl rfl);have D:=dK (A 0 a _ rfl rfl);subst h2;subst D;exact h
 ·exact h.elim
def A3 {s:IV}{f:Nat->Prop}(h:adrV s f):∃b,s=.raw (.pointer (some ⟨b,0,none⟩))/\f b:=by
 unfold adrV at h;split at h
 ·grind
 ·exact h.elim
def A4 {s:IObj}{f:Nat->Nat->Array Nat->Nat->Prop}(h:itO s f):∃m e n c,s=.iter m e n c/\f m e n c:=by
 unfold itO at h;split at h
 ·grind
 ·exact h.elim
def vU {s:IObj}{f:Array MapEntry->Nat->Prop}(h:mxO s f):∃e c,s=.mapx e c/\f e c:=by
 unfold mxO at h;split at h
 ·grind
 ·exact h.elim
def qN {s:IObj}{f:List IV->Prop}(h:obV s f):∃cs,s=.box cs/\f cs:=by
 unfold obV at h;split at h
 ·grind
 ·exact h.elim
def vV {s:IObj}{f:KeyK->List (Value×IV)->Prop}(h:omV s f):∃k cs,s=.map k cs/\f k cs:=by
 unfold omV at h;split at h
 ·grind
 ·exact h.elim
def jJ {c q:Prop} [Decidable c](h:if c then q else False):c/\q:=by
 grind
def sX {c q:Prop} [Decidable c](h:if c then False else q):¬ c/\q:=by
 grind
end
section
variable {C:Cx}{X0 X:WS}{N:Nat}{fr:Fr}{ds:List Dfd}{a:Act}{ad:Ad}{K:Kt}{ro:Option Nat}{n:Nat}{Q:Exit->Act->World->Prop}{o:Oper}
variable (hA:At C X0 N X fr ds a ad o.dst)
include hA
def Il {b x y:Operand}(D:o.op=.pick b x y)
  (h:dp (evV C.gl fr b) λb=>kR b λb=>jb b (dp (evV C.gl fr x) λx=>finK o.dst K ad fr (.val x) X.st ds) (dp (evV C.gl fr y) λy=>finK o.dst K ad fr (.val y) X.st ds) .mk .mk) :
  o.wpIn (eF ro) n C.P a X.w (PK C X0 N K) Q:=by
 obtain⟨O,J,h⟩:=yQ3.1 h;obtain⟨t,rfl,h⟩:=AZ h;have G:=dK (hA.v J).1;have E:(execOp a.eval o).run C.P X.w=.ok (.value (if t=true then a.eval x else a.eval y)) X.w:=by
  unfold execOp;rw[D];simp[G,asBool]
 refine et E (by rw[D];intro c hc;cases hc) ?_;cases t with
 | true =>
  obtain⟨z,A,h⟩:=yQ3.1 (h.1 rfl);exact hA.val (hA.v A).1 h
 | false =>
  obtain⟨z,A,h⟩:=yQ3.1 (h.2 rfl);exact hA.val (hA.v A).1 h
def A5 {esc:List Nat}{v:Value}{T:TypeId}{y:List IV}(hv:C.vl X v.cells.toList y)(h:kS esc o.dst y (finK o.dst K ad fr) X.st ds) :
  PK C X0 N K (a.put o.dst (.pointer (some ⟨X.w.heap.size,0,none⟩))) (X.w.alloc (.cells v.cells T)):=by
 unfold kS at h;cases hd:o.dst with
 | none=>rw[hd] at h;exact h.elim
 | some d =>
  rw[hd] at h;simp only at h;split at h
  ·have A:X.st X.w.heap.size=none:=by
    cases hs:X.st X.w.heap.size with
    | none=>rfl
    | some o=>have:=hA.inv.good.lt hs;omega
   have h:=h X.w.heap.size A;have G:=hA.inv.new (.cells v.cells T) 0 (some (.box y)) (λi E=>by
    cases E;exact⟨by simp[WS.new],v.cells,T,iL _ _,(hA.inv.good.new_ext _ 0 _).vl hv⟩)
   have:=gA (dst:=some d) (K:=K) (x:=.raw (.pointer (some ⟨X.w.heap.size,0,none⟩))) (v:=.pointer (some ⟨X.w.heap.size,0,none⟩)) G hA.ad (λe D=>hA.hd e (by rw[hd];exact D)) (.raw _ trivial) h;exact this
  ·exact Ii (dst:=some d) hA.inv hA.ad (λe D=>hA.hd e (by rw[hd];exact D)) hv h
def Im {esc:List Nat}{T:TypeId}(D:o.op=.alloc T)(h:dp (eO C.P T) λz=>kS esc o.dst z.cells (finK o.dst K ad fr) X.st ds) :
  o.wpIn (eF ro) n C.P a X.w (PK C X0 N K) Q:=by
 obtain⟨z,E,h⟩:=yQ3.1 h;obtain⟨v,A,hv,hd,h1⟩:=qL E X.w;have G:(execOp a.eval o).run C.P X.w=.ok (.value (.pointer (some ⟨X.w.heap.size,0,none⟩))) (X.w.alloc (.cells v.cells T)):=by
  unfold execOp;rw[D];simp[Instr.alloc,A,newVar,newRow]
 exact et G (by rw[D];intro c hc;cases hc) (A5 hA (V.cells (hv _ _ _) (ny h1) hd) h)
def Io {frz esc:List Nat}{v:Value}{T:TypeId}{y:IV}(hv:C.vl X v.cells.toList y.cells)(h:mA frz esc o.dst y (finK o.dst K ad fr) X.st ds) :
  PK C X0 N K (a.put o.dst (.pointer (some ⟨X.w.heap.size,0,none⟩))) (X.w.alloc (.cells v.cells T)):=by
 unfold mA at h;cases hd:o.dst with
 | none=>rw[hd] at h;exact h.elim
 | some d =>
  rw[hd] at h;simp only at h;split at h
  ·have G:X.st X.w.heap.size=none:=by
    cases hs:X.st X.w.heap.size with
    | none=>rfl
    | some o=>have:=hA.inv.good.lt hs;omega
   have hI:=hA.inv.new (.cells v.cells T) v.cells.size none (λi O=>by cases O);have hst:(X.new (.cells v.cells T) v.cells.size none).st=X.st:=by
    funext b;simp only[WS.new];split
    ·grind
    ·rfl
   rw[<- hst] at h;have D:=hA.inv.good.new_ext (.cells v.cells T) v.cells.size none;have A:=D.vl hv;have J:C.v (X.new (.cells v.cells T) v.cells.size none) (.pointer (some ⟨X.w.heap.size,0,none⟩)) (.cptr y):=by
    refine .cptr _ y v.cells.toList rfl A.1 ?_ (λi r E=>?_) (λi r c E hc=>A.2 i r c E hc)
    ·simp[WS.new]
    ·have h1:=iL X.w (.cells v.cells T);have h2:(X.new (.cells v.cells T) v.cells.size none).w=X.w.alloc (.cells v.cells T):=rfl;rw[h2];simp only[World.cell?,h1,ee,gy,bFt,dI];simpa using E
   have:=gA (dst:=some d) (K:=K) (x:=.cptr y) (v:=.pointer (some ⟨X.w.heap.size,0,none⟩)) hI hA.ad (λe U=>hA.hd e (by rw[hd];exact U)) J h;exact this
  ·have:=A5 (v:=v) (T:=T) (esc:=esc) hA hv (by rw[hd];exact h);grind
def Ip {frz esc:List Nat}{T:TypeId}{x:Operand}(D:o.op=.box T x)
  (h:dp (tyI C.P T) λ_=>dp (evV C.gl fr x) λy=>chk (y.cells.all IV.one=true) (mA frz esc o.dst y (finK o.dst K ad fr) X.st ds)) :
  o.wpIn (eF ro) n C.P a X.w (PK C X0 N K) Q:=by
 obtain⟨i,_,h⟩:=yQ3.1 h;obtain⟨y,A,h1,h⟩:=yQ3.1 h;have E:(execOp a.eval o).run C.P X.w=.ok (.value (.pointer (some ⟨X.w.heap.size,0,none⟩))) (X.w.alloc (.cells (a.eval x).cells T)):=by
  unfold execOp;rw[D];simp[Instr.box,newVar,newRow]
 exact et E (by rw[D];intro c hc;cases hc) (Io hA (V.cells (hA.v A).1 (ny h1) (hA.v A).2) h)
def Iq {dr:Bool}{T:TypeId}{x:Operand}(ho:o.op=.load T x)
  (h:dp (tyI C.P T) λi=>dp (evA C.gl ad fr x) λp=>jT dr i.1 i.2 p fr (finK o.dst K ad fr) X.st ds) :
  o.wpIn (eF ro) n C.P a X.w (PK C X0 N K) Q:=by
 obtain⟨⟨ag,sz⟩,ht,h⟩:=yQ3.1 h;obtain⟨p,hp,h⟩:=yQ3.1 h;have D:=hA.p hp;have key:∀(A:Addr) (v:Value),a.eval x=.pointer (some A)->(loadVar T A).run C.P X.w=.ok v X.w->(execOp a.eval o).run C.P X.w=.ok (.value v) X.w:=by
  intro A v J hl;unfold execOp;rw[ho];simp only[Instr.loadAt,J,Instr.sureAddr,dt,dv,dq,hl]
 have hnd:∀c,o.op≠.defer c:=by rw[ho];intro c hc;cases hc
 cases p with
 | box t off =>
  obtain⟨cs,b,U,hb,J⟩:=D;simp only[jT,U] at h;obtain⟨y,hy,h⟩:=yQ3.1 h;have hs:=hA.inv.fr.slot t;rw[U] at hs;obtain⟨b',c,E,hr,hh,G,_⟩:=hs;rw[hb] at hr;cases hr;obtain⟨v,hl,hv⟩:=sU ht hh G hy;exact et (key _ v J hl) hnd (hA.val hv h)
 | ptr b off =>
  obtain⟨_,h⟩:=sX h;obtain⟨ob,ab,h⟩:=yQ3.1 h;obtain⟨cs,rfl,h⟩:=qN h;obtain⟨y,hy,h⟩:=yQ3.1 h;obtain⟨_,c,E,hh,G⟩:=hA.inv.good.ok b _ ab;obtain⟨v,hl,hv⟩:=sU ht hh G hy;exact et (key _ v D hl) hnd (hA.val hv h)
 | cp y =>
  obtain⟨hf,h⟩:=jJ h;obtain⟨A,J,_⟩:=jc D;have O:C.v X (.pointer (some A)) (.cptr y):=J▸D;obtain⟨v,hl,hv⟩:=Ih ht O hf;exact et (key _ v J hl) hnd (hA.val hv h)
def Ir {T:TypeId}{x v:Operand}(ho:o.op=.store T x v)
  (h:dp (tyI C.P T) λi=>dp (evV C.gl fr v) λy=>chk (y.cells.length=i.2/\y.cells.all IV.one=true) (dp (evA C.gl ad fr x) λp=>lx y.cells p fr (finK o.dst K ad fr) X.st ds)) :
  o.wpIn (eF ro) n C.P a X.w (PK C X0 N K) Q:=by
 obtain⟨⟨ag,sz⟩,ht,h⟩:=yQ3.1 h;obtain⟨y,hy,⟨af,h1⟩,h⟩:=yQ3.1 h;obtain⟨p,hp,h⟩:=yQ3.1 h;simp only at af;subst af;have ah:=hA.p hp;obtain⟨hv,O⟩:=hA.v hy;have key:∀(ae:Addr) (w':World),a.eval x=.pointer (some ae)->(storeVar T ae (a.eval v)).run C.P X.w=.ok () w'->(execOp a.eval o).run C.P X.w=.ok .skip w':=by
  intro ae w' he hl;unfold execOp;rw[ho];simp only[Instr.storeAt,he,Instr.sureAddr,dt,dv,dq,hl]
 have hnd:∀c,o.op≠.defer c:=by rw[ho];intro c hc;cases hc
 cases p with
 | box t off =>
  obtain⟨cs,b,ab,hb,he⟩:=ah;simp only[lx,ab] at h;obtain⟨U,h⟩:=jJ h;have hs:=hA.inv.fr.slot t;rw[ab] at hs;obtain⟨b',c,E,hr,hh,A,_⟩:=hs;rw[hb] at hr;cases hr;have ac:c.size=cs.length:=by rw[<- A.1];simp
  obtain⟨hst,D⟩:=AW ht hh hv O h1 (off:=off) (by rw[ac];exact U);refine vQ (key _ _ he hst) hnd ?_;cases hd:o.dst with
  | some d=>rw[hd] at h;exact h.elim
  | none =>
   rw[hd] at h;have hI:=hA.inv.own ab hb hh (cs':=(c.toList.take off++(a.eval v).cells.toList++c.toList.drop (off+(a.eval v).cells.toList.length)).toArray) (new:=fB cs off y.cells) (by simp;have:=D.1;simp at this;omega)
    (by simpa using pk A D)
   exact⟨_,ad,_,ds,rfl,hI,hA.ad.own _,h⟩
 | ptr b off =>
  obtain⟨ob,ai,h⟩:=yQ3.1 h;obtain⟨cs,rfl,h⟩:=qN h;obtain⟨U,h⟩:=jJ h;obtain⟨hL,c,E,hh,A⟩:=hA.inv.good.ok b _ ai;have ac:c.size=cs.length:=by rw[<- A.1];simp
  obtain⟨hst,D⟩:=AW ht hh hv O h1 (off:=off) (by rw[ac];exact U);refine vQ (key _ _ ah hst) hnd ?_;have J:∀c':Array Value,c'=c->(c.toList.take off++(a.eval v).cells.toList++c.toList.drop (off+(a.eval v).cells.toList.length)).toArray.size=c'.size:=by
   rintro _ rfl;simp;have:=D.1;simp at this;omega
  have G:∀i,i<X.L b->((c.toList.take off++(a.eval v).cells.toList++c.toList.drop (off+(a.eval v).cells.toList.length)).toArray)[i]?=c[i]?:=λi hi=>by rw[hL] at hi;omega
  have hI:=hA.inv.row hh (J c rfl) (n:=0) (so:=some (.box (fB cs off y.cells))) (by omega) G (by rw[ai];simp) (λi hi=>by
   cases hi;refine⟨by simp[WS.row],_,E,fY X.w b c _ E (0,0) hh,?_⟩;have:=pk A D (off:=off);exact⟨by simpa using this.1,λi r z hr hz=>kv hh (J c rfl) (by omega) G (this.2 i r z (by simpa using hr) hz)⟩)
  cases hd:o.dst with
  | some d=>rw[hd] at h;exact h.elim
  | none =>
   rw[hd] at h;exact⟨_,ad,_,ds,rfl,hI,hA.ad,h⟩
 | cp y=>exact h.elim
def Is {dr:Bool}{x:Operand}(U:o.op=.nilCheck x)(h:nilV (evV C.gl fr x) (evA C.gl ad fr x) dr (finK o.dst K ad fr) X.st ds) :
  o.wpIn (eF ro) n C.P a X.w (PK C X0 N K) Q:=by
 have hnd:∀c,o.op≠.defer c:=by rw[U];intro c hc;cases hc
 have ab:(dp (evA C.gl ad fr x) λp=>plR p (finK o.dst K ad fr) X.st ds)->o.wpIn (eF ro) n C.P a X.w (PK C X0 N K) Q:=λh=>by
  obtain⟨p,hp,h⟩:=yQ3.1 h;have D:=hA.p hp;have O:∃E,a.eval x=.pointer (some E):=by
   cases p with
   | box t off=>obtain⟨_,_,_,_,A⟩:=D;exact⟨_,A⟩
   | ptr b off=>exact⟨_,D⟩
   | cp y=>obtain⟨E,A,_⟩:=jc D;exact⟨_,A⟩
  obtain⟨E,A⟩:=O;have G:(execOp a.eval o).run C.P X.w=.ok (.value (a.eval x)) X.w:=by
   unfold execOp;rw[U];simp only[A];rfl
  exact et G hnd (AX hA.inv hA.ad hA.hd D h)
 unfold nilV at h;split at h
 ·rename_i f first ac J
  obtain⟨hf,h⟩:=jJ h;have hv:=(hA.v J).1;obtain⟨rs,ae,A,_⟩:=ja hv;have G:(execOp a.eval o).run C.P X.w=.ok (.value (a.eval x)) X.w:=by
   unfold execOp;rw[U];simp only[A];cases f<;>first|rfl|simp[fnOk] at hf
  exact et G hnd (hA.val hv h)
 ·rename_i y J;have hv:=(hA.v J).1;obtain⟨E,A,_⟩:=jc hv;have G:(execOp a.eval o).run C.P X.w=.ok (.value (a.eval x)) X.w:=by
   unfold execOp;rw[U];simp only[A];rfl
  exact et G hnd (hA.val hv h)
 ·rename_i q J;by_cases aa:dr=true
  ·rw[cV aa] at h;have A:=dK (hA.v J).1;have G:(execOp a.eval o).run C.P X.w=.ok (.value (a.eval x)) X.w:=by
    unfold execOp;rw[U];simp only[A];rfl
   exact et G hnd (hA.val (hA.v J).1 h)
  ·grind
 ·grind
def It {f:Fn}{first A:Array Operand}(D:o.op=.makeFunc f first A)
  (h:dp (evL C.gl fr first.toList) λx=>dp (evL C.gl fr A.toList) λy=>finK o.dst K ad fr (.val (.fn f x y)) X.st ds) :
  o.wpIn (eF ro) n C.P a X.w (PK C X0 N K) Q:=by
 obtain⟨x,G,h⟩:=yQ3.1 h;obtain⟨y,E,h⟩:=yQ3.1 h;have h1:=qK hA.inv.good hA.inv.fr G;have h2:=qK hA.inv.good hA.inv.fr E;have J:(execOp a.eval o).run C.P X.w=.ok (.value (.func f ⟨first.toList.map a.eval⟩ ⟨A.toList.map a.eval⟩)) X.w:=by
  unfold execOp;rw[D];have U:first.map a.eval=⟨first.toList.map a.eval⟩:=by apply Array.ext';simp
  have O:A.map a.eval=⟨A.toList.map a.eval⟩:=by apply Array.ext';simp
  simp only[Instr.makeFunc,U,O,dt,dv,dq]
 exact et J (by rw[D];intro c hc;cases hc) (hA.val (.fn f _ _ h1.1 h1.2 _ _ h2.1 h2.2) h)
def Iu {x:Operand}{i:Nat}(E:o.op=.extract x i)(h:dp (evV C.gl fr x) λx=>tupV x λvs=>dp (vs[i]?) λy=>finK o.dst K ad fr (.val y) X.st ds) :
  o.wpIn (eF ro) n C.P a X.w (PK C X0 N K) Q:=by
 obtain⟨y,J,h⟩:=yQ3.1 h;obtain⟨vs,rfl,h⟩:=Ik h;obtain⟨z,G,h⟩:=yQ3.1 h;obtain⟨rs,U,D⟩:=oi (hA.v J).1;obtain⟨r,O,hv⟩:=D.get G;have A:(execOp a.eval o).run C.P X.w=.ok (.value r) X.w:=by
  unfold execOp;rw[E];have:(⟨rs⟩:Array Value)[i]?=some r:=by simpa using O
  simp[Instr.extract,U,this]
 exact et A (by rw[E];intro c hc;cases hc) (hA.val hv h)
end
def A6:∀ {A:List IV}{l:List UInt8},kQ A=some l->A=l.map λb=>.raw (.int .u8 (b.toNat:Int))
 | [],l,h=>by simp only[kQ,dG] at h;subst h;rfl
 | x::A,l,h=>by
  unfold kQ at h;split at h
  ·grind
  ·rename_i m G D;cases D;split at h
   ·rename_i J;rw[fb] at h;obtain⟨E,h2,rfl⟩:=h;rw[A6 h2,ec];congr 3;rw[i_];omega
   ·cases h
  ·cases h
def Iw {C:Cx}{X:WS}{P:Program}{S D:TypeId}{v:Value}{t:Tag}{l:List UInt8}(hv:C.v X v (.sl t (l.map λb=>.raw (.int .u8 (b.toNat:Int)))))(hl:l≠[])(hS:qI P S=true)(hD:strT P D=true) :
  (convert S D v).run P X.w=.ok (.string ⟨l.toArray⟩) X.w/\l.length<=140737488355328:=by
 unfold qI at hS;split at hS
 ·rename_i e he;split at hS
  ·rename_i af;unfold strT at hD;split at hD
   ·rename_i hd;cases hv with
    | sl am cap _ _ T vs ah E al hs J aa O A hc =>
     have ac:∀(m:List UInt8),(m.map λb=>IV.raw (.int .u8 (b.toNat:Int))).flatMap IV.cells=m.map λb=>IV.raw (.int .u8 (b.toNat:Int)):=λm=>by
      induction m with
      | nil=>rfl
      | cons a m ih=>simp only[ec,eC,ih];rfl
     rw[ac] at hc;have ae:t.es=1:=by
      match l,hl with
      | b::l,_=>exact (hs (.raw (.int .u8 (b.toNat:Int))) (by simp)).symm
     obtain⟨ad,rfl,U,_,G⟩:=A (by simpa using hl);rw[dY] at E J ⊢;refine⟨run_convert_bytes_back X.w S D e ad cap l he af hd (λj hj=>?_),E⟩;rw[mD ad U];have ab:j<vs.length:=by rw[J,ae];omega
     have h1:=dO ab;rw[G j _ h1];have h2:=dK (hc j _ _ h1 (by rw[eI,dO hj];rfl));rw[h2]
   ·cases hD
  ·cases hS
 ·cases hS
def vW {P:Program}{op:BinOp}{T:TypeId}{x y:Operand}{a b:Value}(h1:a≠.nilIface)(h2:∀u,a≠.agg u)(w:World) :
  (eqGuard op T x y a b).run P w=.ok () w:=by
 cases a<;>first
  | (exact absurd rfl h1)
  | (exact absurd rfl (h2 _))
  | (cases op<;>rfl)
def Iy (a b:ByteArray):(a.toList == b.toList)=decide (a=b):=by
 rw[ByteArray.toList_eq,ByteArray.toList_eq];by_cases h:a=b
 ·subst h;simp
 ·have:¬ a.data=b.data:=λA=>h (by cases a;cases b;simp at A;subst A;rfl);simp[h,this]
def Iz {P:Program}{op:BinOp}{T:TypeId}{a b z:Value}(h:binI P T op a b=some z)(w:World):(binOp op T a b).run P w=.ok z w/\mz z/\a≠.nilIface/\(∀u,a≠.agg u):=by
 unfold binI at h;split at h
 ·rename_i k x J y;split at h
  ·rename_i D;subst D;split at h
   ·rename_i A;cases h;exact⟨by simp[binOp,Op.shift,show ¬ y<0 by omega],trivial,by simp,by simp⟩
   ·cases h
  split at h
  ·rename_i D;subst D;split at h
   ·rename_i A;cases h;exact⟨by simp[binOp,Op.shift,show ¬ y<0 by omega],trivial,by simp,by simp⟩
   ·cases h
  split at h
  ·rename_i E;subst E;refine⟨?_,?_,by simp,by simp⟩
   ·cases op<;>simp only[cmpI,dG,reduceCtorEq] at h
    case add=>subst h;simp[binOp,Op.intArith]
    case sub=>subst h;simp[binOp,Op.intArith]
    case and=>subst h;simp[binOp,Op.intBits]
    case andNot=>subst h;simp[binOp,Op.intBits]
    case mul=>subst h;simp[binOp,Op.intArith]
    case quo =>
     split at h
     ·cases h
     ·rename_i A;cases h;simp[binOp,Op.intDiv,A]
    case rem =>
     split at h
     ·cases h
     ·rename_i A;cases h;simp[binOp,Op.intDiv,A]
    case eql=>subst h;simp[binOp,Op.intCmp,BEq.beq]
    case neq=>subst h;simp[binOp,Op.intCmp,bne,BEq.beq]
    case lss=>subst h;simp[binOp,Op.intCmp]
    case leq=>subst h;simp[binOp,Op.intCmp]
    case gtr=>subst h;simp[binOp,Op.intCmp]
    case geq=>subst h;simp[binOp,Op.intCmp]
   ·cases op<;>simp only[cmpI,dG,reduceCtorEq] at h<;>first
     | (subst h;trivial)
     | (split at h
        ·cases h
        ·cases h;trivial)
  ·cases h
 ·rename_i a b;refine⟨?_,?_,by simp,by simp⟩
  ·cases op<;>simp only[dG,reduceCtorEq] at h
   case add =>
    split at h
    ·rename_i hs;cases h;have:¬ ((a.size+b.size:Nat):Int) > IntKind.i64.max:=by
      have:IntKind.i64.max=9223372036854775807:=by decide
      omega
     simp only[binOp,Op.stringOp,a_ this,dv]
    ·cases h
   all_goals (subst h;simp only[binOp,Op.stringOp,Iy,dv])
   all_goals simp only[ByteArray.toList_eq]
  ·cases op<;>simp only[dG,reduceCtorEq] at h
   case add =>
    split at h
    ·rename_i hs;cases h;simp only[mz,ByteArray.size_append];omega
    ·cases h
   all_goals (subst h;trivial)
 ·rename_i a b;split at h
  ·rename_i ht;have G:∀x y:Bool,(Op.equal T (.bool x) (.bool y)).run P w=.ok (x == y) w:=by
    exact λx y=>run_equalIn_bool w 9999 T x y ht
   refine⟨?_,?_,by simp,by simp⟩
   ·cases op<;>simp only[dG,reduceCtorEq] at h<;>(subst h;simp only[binOp,dt,G,dq,dv])
   ·cases op<;>simp only[dG,reduceCtorEq] at h<;>(subst h;trivial)
  ·cases h
 ·cases h
section
variable {C:Cx}{X0 X:WS}{N:Nat}{fr:Fr}{ds:List Dfd}{a:Act}{ad:Ad}{K:Kt}{ro:Option Nat}{n:Nat}{Q:Exit->Act->World->Prop}{o:Oper}
def IA {B:Nat}{L:Nat->Nat}{w:World}{r:Value}{t:Tag}{O:List IV}{b:Bool}(hv:V B L w r (.sl t O))(h:kx (.sl t O)=some b):∃ad len cap,r=.slice ad len cap/\ad.isNone=b:=by
 cases hv with
 | sl ad cap _ _ T vs A U ab hs aa G E D _ =>
  refine⟨ad,_,_,rfl,?_⟩;obtain⟨f,cp,es⟩:=t;unfold kx at h;split at h
  ·rename_i J;cases J;cases h;simp only[kO] at A;rw[A.1];rfl
  ·rename_i J;cases J;cases h;simp only[kO] at A;rw[A];rfl
  ·grind
  ·cases h
variable (hA:At C X0 N X fr ds a ad o.dst)
include hA
def IB {op:BinOp}{T T':TypeId}{x y:Operand}(ho:o.op=.binOp op T x y T')
  (h:dp (evV C.gl fr x) λx=>dp (evV C.gl fr y) λy=>dp (binV C.P T op x y) λz=>finK o.dst K ad fr (.val z) X.st ds) :
  o.wpIn (eF ro) n C.P a X.w (PK C X0 N K) Q:=by
 obtain⟨vx,hx,h2⟩:=yQ3.1 h;clear h;obtain⟨vy,hy,h3⟩:=yQ3.1 h2;clear h2;obtain⟨vz,E,h⟩:=yQ3.1 h3;clear h3;have hnd:∀c,o.op≠.defer c:=by rw[ho];intro c hc;cases hc
 have ag:=(hA.v hx).1;have ac:=(hA.v hy).1;unfold binV at E;split at E
 ·rename_i u v;cases hq:binI C.P T op u v with
  | none=>simp[hq] at E
  | some q =>
   simp only[hq,eK,dG] at E;subst E;obtain⟨ah,am,h1,h2⟩:=Iz hq X.w;have U:=dK ag;have e2:=dK ac;have hr:(execOp a.eval o).run C.P X.w=.ok (.value q) X.w:=by
    unfold execOp;rw[ho];simp only[U,e2,dt,vW h1 h2,dq,ah,dv]
   exact et hr hnd (hA.val (.raw _ am) h)
 ·rename_i t xs f es l;split at E
  ·rename_i al;have G:∃e,C.P.underlying T=some (.slice e):=by
    unfold nq at al;grind
   obtain⟨e,G⟩:=G;have e2:a.eval y=.slice none 0 0:=by
    generalize a.eval y=r at ac;cases ac with
    | sl ad cap _ _ T vs J=>rw[J.1,J.2.1,J.2.2]
   have key:∀b,kx (.sl t xs)=some b->(Op.equal T (a.eval x) (a.eval y)).run C.P X.w=.ok b X.w/\(∃ad len cap,a.eval x=.slice ad len cap):=by
    intro b hb;obtain⟨O,A,D,U,ae⟩:=IA ag hb;refine⟨?_,_,_,_,U⟩;rw[U,e2];subst ae;exact run_equal_slice_nil X.w T e O A D G
   cases op<;>simp only[reduceCtorEq] at E
   ·cases hb:kx (.sl t xs) with
    | none=>simp[hb] at E
    | some b =>
     simp only[hb,eK,dG] at E;subst E;obtain⟨hq,O,A,D,U⟩:=key b hb;have hr:(execOp a.eval o).run C.P X.w=.ok (.value (.bool b)) X.w:=by
      unfold execOp;rw[ho];rw[U,e2] at hq;simp only[U,e2,dt,vW (a:=.slice O A D) (by simp) (by simp),dq,binOp,hq,dv]
     exact et hr hnd (hA.val (.raw _ trivial) h)
   ·cases hb:kx (.sl t xs) with
    | none=>simp[hb] at E
    | some b =>
     simp only[hb,eK,dG] at E;subst E;obtain⟨hq,O,A,D,U⟩:=key b hb;have hr:(execOp a.eval o).run C.P X.w=.ok (.value (.bool !b)) X.w:=by
      unfold execOp;rw[ho];rw[U,e2] at hq;simp only[U,e2,dt,vW (a:=.slice O A D) (by simp) (by simp),dq,binOp,hq,dv]
     exact et hr hnd (hA.val (.raw _ trivial) h)
  ·cases E
 ·cases E
def IC {op:UnOp}{T:TypeId}{x:Operand}(G:o.op=.unOp op T x)
  (h:dp (evV C.gl fr x) λx=>dp (unI op x) λz=>finK o.dst K ad fr (.val z) X.st ds):o.wpIn (eF ro) n C.P a X.w (PK C X0 N K) Q:=by
 obtain⟨U,J,h2⟩:=yQ3.1 h;clear h;obtain⟨O,A,h⟩:=yQ3.1 h2;clear h2;have hnd:∀c,o.op≠.defer c:=by rw[G];intro c hc;cases hc
 have D:=(hA.v J).1;unfold unI at A;split at A
 ·rename_i b;cases op<;>simp only[reduceCtorEq,dG] at A;subst A;have e:=dK D;have E:(execOp a.eval o).run C.P X.w=.ok (.value (.bool !b)) X.w:=by
   unfold execOp;rw[G];simp[e,Op.unary]
  exact et E hnd (hA.val (.raw _ trivial) h)
 ·rename_i k m;cases op<;>simp only[reduceCtorEq,dG] at A;subst A;have e:=dK D;have E:(execOp a.eval o).run C.P X.w=.ok (.value (.int k (k.wrap (0-m)))) X.w:=by
   unfold execOp;rw[G];simp[e,Op.unary,Op.intArith]
  exact et E hnd (hA.val (.raw _ trivial) h)
 ·cases A
def ID {S D:TypeId}{x:Operand}(U:o.op=.convert S D x)
  (h:dp (evV C.gl fr x) λx=>dp (nr C.P S D x) λz=>finK o.dst K ad fr (.val z) X.st ds):o.wpIn (eF ro) n C.P a X.w (PK C X0 N K) Q:=by
 obtain⟨vx,hx,h2⟩:=yQ3.1 h;clear h;obtain⟨vz,A,h⟩:=yQ3.1 h2;clear h2;have hnd:∀c,o.op≠.defer c:=by rw[U];intro c hc;cases hc
 have E:=(hA.v hx).1;unfold nr at A;split at A
 ·rename_i t xs;split at A
  ·rename_i G;rw[Option.bind_eq_some_iff] at A;obtain⟨l,hb,A⟩:=A;split at A
   ·cases A
   ·rename_i aa;cases A;have e:=A6 hb;subst e;obtain⟨hc,ab⟩:=Iw E aa G.1 G.2;have O:(execOp a.eval o).run C.P X.w=.ok (.value (.string ⟨l.toArray⟩)) X.w:=by
     unfold execOp;rw[U];simp only[dt,hc,dq,dv]
    exact et O hnd (hA.val (.raw _ (by show ByteArray.size ⟨l.toArray⟩<=_;simp[ByteArray.size];omega)) h)
  ·cases A
 ·rename_i k m;split at A
  ·rename_i k1 J h1 h2;cases A;have e:=dK E;have O:(execOp a.eval o).run C.P X.w=.ok (.value (.int J (J.wrap m))) X.w:=by
    unfold execOp;rw[U];have hc:(convert S D (.int k m)).run C.P X.w=.ok (.int J (J.wrap m)) X.w:=by
     simp only[convert,dt,dS h1,dS h2,dq];rfl
    simp only[e,dt,hc,dq,dv]
   exact et O hnd (hA.val (.raw _ trivial) h)
  ·cases A
 ·cases A
end
def nz {B:Nat}{L:Nat->Nat}{w:World}{A:Addr}{cs:List IV}{ag:Bool}{sz off:Nat}{y:IV}(h:V B L w (.pointer (some A)) (.cptr (.agg cs)))(hp:gr ag sz cs off=some y)
  (hy:ag=false->y.cells=[y]):V B L w (.pointer (some (A.add off))) (.cptr y):=by
 cases h with
 | cptr _ _ vs O J hL hc h =>
  rw[mD A O];simp only[jS] at J h;unfold gr at hp;split at hp
  ·rename_i G;split at hp
   ·rename_i af;cases hp;refine .cptr _ _ ((vs.drop off).take sz) rfl (by simp[jS];omega) (by simp;omega) (λi r U=>?_) (λi r c U D=>?_)
    ·grind
    ·rw[jS] at D;grind
   ·cases hp
  ·rename_i G;have E:ag=false:=by simpa using G
   have ae:=(lGs hp).1;have ac:vs[off]?=some (vs[off]'(by omega)):=dO _;refine .cptr _ _ [vs[off]'(by omega)] rfl (by rw[hy E];rfl) (by simp;omega) (λi r U=>?_) (λi r c U D=>?_)
   ·grind
   ·grind
def sY {P:Program}{T:TypeId}{i fo n:Nat}{ag:Bool}(h:fldI P T i=some (fo,ag,n)):∃(A:Array Field) (f:Field),P.underlying T=some (.struct A)/\A[i]?=some f/\f.offset=fo/\tyI P f.type=some (ag,n)/\0<n:=by
 unfold fldI at h;grind
def sZ {P:Program}{T:TypeId}{len n:Nat}{ag:Bool}(h:arrI P T=some (len,ag,n)):∃e,P.underlying T=some (.array len e)/\tyI P e=some (ag,n):=by
 unfold arrI at h;split at h
 ·rename_i m e A;cases ht:tyI P e with
  | none=>simp[ht] at h
  | some p =>
   grind
 ·cases h
def mF {P:Program}{T e:TypeId}{ag:Bool}{s b:Nat}(h:slI P T=some (e,ag,s,b)):P.underlying T=some (.slice e)/\tyI P e=some (ag,s)/\∃i,P.info? e=some i/\i.zero.isSome=true/\i.bytes=b:=by
 unfold slI at h;split at h
 ·rename_i G E;split at h
  ·rename_i a s' i ht D;split at h
   ·rename_i hs;cases h;exact⟨E,ht,i,D,by cases A:i.zero<;>simp[A] at hs ⊢,rfl⟩
   ·cases h
  ·cases h
 ·cases h
def vX {P:Program}{T e:TypeId}{ag:Bool}{s b:Nat}{i:TypeInfo}(h:slI P T=some (e,ag,s,b))(E:P.info? e=some i):∃z,i.zero=some z/\z.cells.size=s:=by
 unfold slI at h;split at h
 ·split at h
  ·rename_i a s' G ht A;split at h
   ·rename_i hs;cases h;rw[E] at A;cases A;cases D:i.zero with
    | none=>simp[D] at hs
    | some z=>exact⟨z,rfl,by simpa[D] using hs⟩
   ·cases h
  ·cases h
 ·cases h
def IE {P:Program}{f:Field}{ag:Bool}{n:Nat}(ht:tyI P f.type=some (ag,n))(A:0<n)(ad:Addr)(w:World):(fieldPlace ad f).run P w=.ok (ad.add f.offset) w:=by
 have h2:=(jU ht w).2;have:¬ n=0:=by omega
 simp only[fieldPlace,dt,h2,dq,a_ this,dv]
def qP {P:Program}{T:TypeId}{k:LenK}(h:lenI P T=some k):(k=.str/\P.underlying T=some .string)\/(k=.sl/\∃e,P.underlying T=some (.slice e))\/(k=.map/\∃a b,P.underlying T=some (.map a b)) \/
  (∃n e,k=.arr n/\P.underlying T=some (.array n e)):=by
 unfold lenI at h;grind
def A7 {B:Nat}{L:Nat->Nat}{w:World}{rs:List Value}{cs:List IV}(hv:VL B L w rs cs){ag:Bool}{n off:Nat}{y:IV}(h:gr ag n cs off=some y) :
  ∃r,(ag=true->off+n<=rs.length/\r=.agg ⟨(rs.drop off).take n⟩)/\((ag=false->rs[off]?=some r)/\V B L w r y):=by
 unfold gr at h;split at h
 ·rename_i D;split at h
  ·rename_i A;cases h;refine⟨_,λ_=>⟨by rw[hv.1];exact A,rfl⟩,?_,((hv.drop off).take n).agg⟩;grind
  ·cases h
 ·rename_i D;obtain⟨r,G,E⟩:=hv.get h;grind
def A8 {P:Program}{T:TypeId}{ag:Bool}{n:Nat}(ht:tyI P T=some (ag,n))(w:World)(rs:List Value)(off:Nat)(r:Value)
  (h1:ag=true->off+n<=rs.length/\r=.agg ⟨(rs.drop off).take n⟩) (h2:ag=false->rs[off]?=some r):(part T ⟨rs⟩ off).run P w=.ok r w:=by
 obtain⟨A,D⟩:=jU ht w;cases ag with
 | true =>
  obtain⟨E,rfl⟩:=h1 rfl;have:(⟨rs⟩:Array Value).extract off (off+n)=⟨(rs.drop off).take n⟩:=by
   grind
  simp only[part,dt,A,dq,dD,D,dv,this]
 | false =>
  have:(⟨rs⟩:Array Value)[off]?=some r:=by simpa using h2 rfl
  simp only[part,dt,A,dq,bFt,dI,this,dv]
def lA {ag:Bool}{n:Nat}{y:IV}(h:fits ag n y=true):(ag=false->y.cells=[y])/\y.cells.length=n/\y.cells.all IV.one=true/\y.def_:=by
 unfold fits at h;split at h
 ·rename_i cs;simp only[bAt,beq_iff_eq] at h;exact⟨λD=>(by rw[D] at h;simp at h),h.1.2,h.2,by simp[IV.def_]⟩
 ·rename_i A;simp only[bAt,lZ,beq_iff_eq] at h;have hc:=lv h.1.2;refine⟨λ_=>hc,by rw[hc];exact h.2.symm,by rw[hc];simp[h.1.2],?_⟩;rintro rfl;simp[IV.one] at h
section
variable {C:Cx}{X0 X:WS}{N:Nat}{fr:Fr}{ds:List Dfd}{a:Act}{ad:Ad}{K:Kt}{ro:Option Nat}{n:Nat}{Q:Exit->Act->World->Prop}{o:Oper}
def IF {r:Value}{E:Tag}{J:List IV}{j:Nat}{y:IV}(hv:C.v X r (.sl E J))(hy:J[j]?=some y):∃(A:Addr) (cap:Nat),r=.slice (some A) J.length cap/\C.v X (.pointer (some (A.add (j*E.es)))) (.cptr y):=by
 cases hv with
 | sl aq cap _ _ T vs aj ai an hs aa ac G D hc =>
  have hj:=(lGs hy).1;have O:=lMg hy;obtain⟨A,rfl,ab,hL,ag⟩:=D (by intro h0;rw[h0] at hj;simp at hj);refine⟨A,cap,rfl,?_⟩;rw[mD A ab];have af:∀(l:List IV) (j:Nat) (y:IV),(∀x∈l,x.cells.length=E.es)->l[j]?=some y->∀(i:Nat) (c:IV),y.cells[i]?=some c->(l.flatMap IV.cells)[j*E.es+i]?=some c:=by
   intro l
   induction l with
   | nil=>intro j y _ h;simp at h
   | cons x l ih =>
    intro j y hs h i c am;have hx:=hs x (by simp);rw[eC];cases j with
    | zero =>
     grind
    | succ j =>
     grind
  have U:=hs y O;have al:j*E.es+E.es<=vs.length:=by rw[aa,<- Nat.succ_mul];exact fz _ hj
  refine .cptr _ _ ((vs.drop (j*E.es)).take E.es) rfl (by rw[U];simp;omega) (by simp;omega) (λi r hr=>?_) (λi r c hr ao=>?_)
  ·grind
  ·grind
variable (hA:At C X0 N X fr ds a ad o.dst)
include hA
def IG {T:TypeId}{x:Operand}{i:Nat}(ho:o.op=.fieldAddr T x i)
  (h:dp (fldI C.P T i) λf=>dp (evA C.gl ad fr x) λp=>ns f p (finK o.dst K ad fr) X.st ds):o.wpIn (eF ro) n C.P a X.w (PK C X0 N K) Q:=by
 obtain⟨⟨fo,ag,sz⟩,hf,h2⟩:=yQ3.1 h;clear h;obtain⟨p,hp,h⟩:=yQ3.1 h2;clear h2;have hnd:∀c,o.op≠.defer c:=by rw[ho];intro c hc;cases hc
 obtain⟨fs,f,hT,U,rfl,O,hn⟩:=sY hf;have A:=hA.p hp;have key:∀D:Addr,a.eval x=.pointer (some D)->(execOp a.eval o).run C.P X.w=.ok (.value (.pointer (some (D.add f.offset)))) X.w:=by
  intro D E;unfold execOp;rw[ho];simp only[Instr.fieldAt,dt,dS hT,dq,U,E,Instr.sureAddr,dv,IE O hn]
 cases p with
 | box t off =>
  obtain⟨cs,b,h1,h2,E⟩:=A;have G:=key _ E;rw[lz] at G;exact et G hnd (vP hA.inv hA.ad hA.hd h1 h2 h)
 | ptr b off =>
  have G:=key _ A;rw[lz] at G;exact et G hnd (hA.val (.raw _ trivial) h)
 | cp z =>
  obtain⟨cs,rfl,h2⟩:=sV h;clear h;obtain⟨y,hy,h3⟩:=yQ3.1 h2;clear h2;obtain⟨J,h⟩:=jJ h3;clear h3;obtain⟨D,E,_⟩:=jc A;exact et (key _ E) hnd (hA.val (nz (E▸A) hy (lA J).1) h)
def II {T:TypeId}{x:Operand}{i:Nat}(G:o.op=.field T x i)
  (h:dp (fldI C.P T i) λf=>dp (evV C.gl fr x) λx=>aggV x λcs=>dp (gr f.2.1 f.2.2 cs f.1) λy=>finK o.dst K ad fr (.val y) X.st ds):o.wpIn (eF ro) n C.P a X.w (PK C X0 N K) Q:=by
 obtain⟨⟨fo,ag,sz⟩,hf,h2⟩:=yQ3.1 h;clear h;obtain⟨z,U,O⟩:=yQ3.1 h2;clear h2;obtain⟨cs,rfl,J⟩:=sV O;clear O;obtain⟨y,hy,h⟩:=yQ3.1 J;clear J;have hnd:∀c,o.op≠.defer c:=by rw[G];intro c hc;cases hc
 obtain⟨fs,f,hT,E,rfl,D,hn⟩:=sY hf;obtain⟨rs,he,A⟩:=oh (hA.v U).1;obtain⟨r,h1,h2,hv⟩:=A7 A hy;have hr:(execOp a.eval o).run C.P X.w=.ok (.value r) X.w:=by
  unfold execOp;rw[G];simp only[Instr.field,dt,dS hT,dq,E,he,asAgg,dv,A8 D X.w rs f.offset r h1 h2]
 exact et hr hnd (hA.val hv h)
def IJ {T:TypeId}{x i:Operand}(ho:o.op=.indexAddr T x i)
  (h:dp (evV C.gl fr i) λi=>intV i λ_ j=>dp (lenI C.P T) λk=>idxV k (slI C.P T) (evV C.gl fr x) (evA C.gl ad fr x) (arrI C.P T) j (finK o.dst K ad fr) X.st ds) :
  o.wpIn (eF ro) n C.P a X.w (PK C X0 N K) Q:=by
 obtain⟨vi,hi,h2⟩:=yQ3.1 h;clear h;obtain⟨k,j,rfl,A⟩:=mE h2;clear h2;obtain⟨lk,ao,h⟩:=yQ3.1 A;clear A;have hnd:∀c,o.op≠.defer c:=by rw[ho];intro c hc;cases hc
 have ei:=dK (hA.v hi).1;rcases qP ao with⟨rfl,_⟩|⟨rfl,e,hT⟩|⟨rfl,_⟩|⟨len,e,rfl,hT⟩
 ·exact h.elim
 ·obtain⟨⟨e',ag,sz,by_⟩,hs,h0⟩:=yQ3.1 h;clear h;obtain⟨vx,hx,h2⟩:=yQ3.1 h0;clear h0;rcases A1 h2 with⟨an,xs,rfl,A⟩|⟨b,off,m,cap,rfl,A⟩
  case inr =>
   clear h2;obtain⟨hj,h⟩:=jJ A;clear A;have ex:=dK (hA.v hx).1;obtain⟨D,G,_⟩:=mF hs;rw[hT] at D;cases D;have O:(execOp a.eval o).run C.P X.w=.ok (.value (.pointer (some (Addr.add ⟨b,off,none⟩ (j.toNat*sz))))) X.w:=by
    unfold execOp;rw[ho];have h2:=(jU G X.w).2;have J:0<=j/\j<(m:Int):=⟨hj.1,by omega⟩
    simp only[Instr.indexAt,ei,asIntOf,dt,dv,dq,dS hT,ex,J,and_self,dD,h2]
   rw[lz] at O;exact et O hnd (hA.val (.raw _ trivial) h)
  clear h2;obtain⟨ab,A⟩:=jJ A;obtain⟨hj,h4⟩:=jJ A;clear A;obtain⟨y,hy,h⟩:=yQ3.1 h4;clear h4;have af:=V.reTag (es:=sz) (hA.v hx).1;simp only at ab;generalize reTag sz an=tg at ab af;have ah:=(lGs hy).1;obtain⟨E,cap,he,hv⟩:=IF af hy;obtain⟨D,G,_⟩:=mF hs;rw[hT] at D;cases D;rw[ab] at hv;have O:(execOp a.eval o).run C.P X.w=.ok (.value (.pointer (some (E.add (j.toNat*sz))))) X.w:=by
   unfold execOp;rw[ho];have h2:=(jU G X.w).2;have J:0<=j/\j<(xs.length:Int):=⟨hj,by omega⟩
   simp only[Instr.indexAt,ei,asIntOf,dt,dv,dq,dS hT,he,J,and_self,dD,h2]
  exact et O hnd (hA.val hv h)
 ·exact h.elim
 ·obtain⟨⟨av,ag,sz⟩,aq,h2⟩:=yQ3.1 h;clear h;obtain⟨p,hp,A⟩:=yQ3.1 h2;clear h2;obtain⟨hj,h⟩:=jJ A;clear A;obtain⟨e',D,G⟩:=sZ aq;rw[hT] at D;cases D;obtain⟨ah,h2⟩:=jJ h;clear h;simp only at ah;have U:=hA.p hp;have key:∀E:Addr,a.eval x=.pointer (some E)->(execOp a.eval o).run C.P X.w=.ok (.value (.pointer (some (E.add (j.toNat*sz))))) X.w:=by
   intro E he;unfold execOp;rw[ho];have h2:=(jU G X.w).2;have J:0<=j/\j<(len:Int):=⟨hj,by omega⟩
   simp only[Instr.indexAt,ei,asIntOf,dt,dv,dq,dS hT,he,Instr.sureAddr,J,and_self,dD,h2]
  cases p with
  | box t off =>
   obtain⟨cs,b,h1,A,he⟩:=U;have O:=key _ he;rw[lz] at O;exact et O hnd (vP hA.inv hA.ad hA.hd h1 A h2)
  | ptr b off =>
   have O:=key _ U;rw[lz] at O;exact et O hnd (hA.val (.raw _ trivial) h2)
  | cp z =>
   obtain⟨cs,rfl,A⟩:=sV h2;clear h2;obtain⟨y,hy,h4⟩:=yQ3.1 A;clear A;obtain⟨aj,h⟩:=jJ h4;clear h4;obtain⟨E,he,_⟩:=jc U;exact et (key _ he) hnd (hA.val (nz (he▸U) hy (lA aj).1) h)
def IK {T:TypeId}{x i:Operand}(ho:o.op=.index T x i)
  (h:dp (evV C.gl fr i) λi=>intV i λ_ j=>dp (lenI C.P T) λk=>dp (evV C.gl fr x) λx=>nu k (arrI C.P T) x j (finK o.dst K ad fr) X.st ds) :
  o.wpIn (eF ro) n C.P a X.w (PK C X0 N K) Q:=by
 obtain⟨vi,hi,h2⟩:=yQ3.1 h;clear h;obtain⟨k,j,rfl,A⟩:=mE h2;clear h2;obtain⟨lk,ac,O⟩:=yQ3.1 A;clear A;obtain⟨vx,hx,h⟩:=yQ3.1 O;clear O;have hnd:∀c,o.op≠.defer c:=by rw[ho];intro c hc;cases hc
 have ei:=dK (hA.v hi).1;have D:=(hA.v hx).1;rcases qP ac with⟨rfl,J⟩|⟨rfl,e,J⟩|⟨rfl,_⟩|⟨len,e,rfl,J⟩
 ·obtain⟨v,rfl,h2⟩:=vS h;clear h;cases v with
  | string s =>
   obtain⟨b,hb,h⟩:=yQ3.1 h2;clear h2;have ex:=dK D;have hr:(execOp a.eval o).run C.P X.w=.ok (.value (.int .u8 b.toNat)) X.w:=by
    unfold execOp;rw[ho];unfold nt at hb;simp only[Instr.index,ei,ex,asIntOf,dt,dv,dq,dS J,hb]
   exact et hr hnd (hA.val (.raw _ trivial) h)
  | _=>exact h2.elim
 ·exact h.elim
 ·exact h.elim
 ·obtain⟨cs,rfl,h2⟩:=sV h;clear h;obtain⟨⟨af,ag,sz⟩,ae,A⟩:=yQ3.1 h2;clear h2;obtain⟨hj,O⟩:=jJ A;clear A;obtain⟨y,hy,h⟩:=yQ3.1 O;clear O;obtain⟨e',G,E⟩:=sZ ae;rw[J] at G;cases G;obtain⟨rs,ex,U⟩:=oh D;obtain⟨r,h1,h2,hv⟩:=A7 U hy;have hr:(execOp a.eval o).run C.P X.w=.ok (.value r) X.w:=by
   unfold execOp;rw[ho];have A:=(jU E X.w).2;simp only[Instr.index,ei,ex,asIntOf,dt,dv,dq,dS J,hj,and_self,dD,A,A8 E X.w rs _ r h1 h2]
  exact et hr hnd (hA.val hv h)
end
