/- The layer of ideal values, part E: opera -/
import Derived.Test.YtclkffdkahljeaaGreatDoorJB
import Derived.Laws.Slices
import Derived.Laws.IdiomStrings
import Derived.Laws.Cover3
set_option linter.all false
namespace Go.Iv
open Go
section
variable {C:Cx}{X:WS}
theorem zGz {B:Nat}{L:Nat->Nat}{w:World}{v:Value}{y:IV}(h:zKm v=some y):V B L w v y/\y.def_/\y.one=true:=by
 unfold zKm at h;split at h
 ·cases h
 ·cases h
 ·cases h;exact⟨.sl none 0 ⟨true,.nil,0⟩ [] 0 [] ⟨rfl,rfl,rfl⟩ (by simp) (by simp) (by simp) rfl (λ_ E=>by cases E) (λ_ ad J=>by cases J) (λD=>absurd rfl D) (λi r c A=>by simp at A),by simp[IV.def_],rfl⟩
 ·cases h
 ·split at h
  ·rename_i hs;cases h;exact⟨.raw _ hs,by simp[IV.def_],rfl⟩
  ·cases h
 ·cases h;exact⟨.fn _ [] [] rfl (λi r c A=>by simp at A) [] [] rfl (λi r c A=>by simp at A),by simp[IV.def_],rfl⟩
 ·cases h
 ·rename_i h1 h2 h3 h4 h5 U O;cases h;refine⟨.raw _ ?_,by simp[IV.def_],?_⟩
  ·cases v<;>simp_all [zYt]
  ·cases v<;>simp_all [IV.one]
theorem V.reTag {B:Nat}{L:Nat->Nat}{w:World}{r:Value}{t:Tag}{xs:List IV}{es:Nat}(h:V B L w r (.sl t xs)):V B L w r (.sl (reTag es t) xs):=by
 by_cases hn:t.cap=.nil
 ·have e:Iv.reTag es t=⟨t.fresh,.nil,es⟩:=by simp only[Iv.reTag,hn]
  rw[e];cases h with
  | sl a cap _ _ T vs A D ab hs O U J E hc =>
   rw[hn] at A;obtain⟨rfl,h0,rfl⟩:=A;obtain rfl:=List.eq_nil_of_length_eq_zero h0;refine .sl none 0 ⟨t.fresh,.nil,es⟩ [] T vs ⟨rfl,rfl,rfl⟩ D ab (by simp) (by simpa using O) (λ_ hg=>by cases hg) (λ_ ad ha=>by cases ha) (λaa=>absurd rfl aa) (λi r c hr hx=>by simp at hx)
 ·have e:Iv.reTag es t=t:=by
   unfold Iv.reTag;grind
  rw[e];exact h
theorem wJt {α β:Type}{f:α->Option β}:∀ {l:List α} {A:List β},allI f l=some A->l.length=A.length/\∀(i:Nat) (a:α) (b:β),l[i]?=some a->A[i]?=some b->f a=some b
 | [],A,h=>by simp only[allI,Option.some.injEq] at h;subst h;exact⟨rfl,λi a b D=>by simp at D⟩
 | a::l,A,h=>by
  unfold allI at h;split at h
  ·rename_i b E h1 h2;cases h;obtain⟨O,J⟩:=wJt h2;grind
  ·cases h
theorem yW9 {B:Nat}{L:Nat->Nat}{w:World}{v:Value}{y:IV}(h:zKl v=some y):V B L w v y/\y.def_/\y.cells.all IV.one=true:=by
 unfold zKl at h;split at h
 ·rename_i cs;cases hl:allI zKm cs.toList with
  | none=>simp[hl] at h
  | some l =>
   simp only[hl,Option.map_some,Option.some.injEq] at h;subst h;obtain⟨O,J⟩:=wJt hl;have E:cs=⟨cs.toList⟩:=rfl;refine⟨by rw[E];exact .agg _ _ O (λi r c U hc=>(zGz (J i r c U hc)).1),by simp[IV.def_],?_⟩;rw[IV.cells_agg,List.all_eq_true];intro x hx;obtain⟨i,hi,A⟩:=List.mem_iff_getElem.1 hx;have D:cs.toList[i]?=some (cs.toList[i]'(by omega)):=List.getElem?_eq_getElem _;exact (zGz (B:=0) (L:=λ_=>0) (w:=w) (J i _ x D (by rw[List.getElem?_eq_getElem hi,A]))).2.2
 ·rename_i aa;have:=zGz (B:=B) (L:=L) (w:=w) h;exact⟨this.1,this.2.1,by rw[IV.one_cells this.2.2];simp[this.2.2]⟩
theorem wGa {n0:Nat}{r:Value}{s:SV}{y:IV}(h:ivOf s=some y)(hs:SlotOk C X n0 r s):C.v X r y/\y.def_:=by
 cases s with
 | box cs=>cases h
 | iv x=>cases x<;>simp only[ivOf,reduceCtorEq,Option.some.injEq] at h<;>subst h<;>exact⟨hs,by simp[IV.def_]⟩
theorem xGr {n0:Nat}{fr:Fr}{a:Act}{x:Operand}{y:IV}(E:Good C X)(J:FrOk C X n0 fr a.tmps)(h:evV C.gl fr x=some y):C.v X (a.eval x) y/\y.def_:=by
 cases x with
 | tmp t=>exact wGa h (J.slot t)
 | const v=>exact⟨(yW9 h).1,(yW9 (B:=0) (L:=λ_=>0) (w:=X.w) h).2.1⟩
 | global g =>
  simp only[evV] at h;cases D:C.gl g with
  | none=>simp[D] at h
  | some z =>
   simp only[D,Option.map_some,Option.some.injEq] at h;subst h;exact⟨E.gl g z D,by simp[IV.def_]⟩
 | func f =>
  simp only[evV,Option.some.injEq] at h;subst h;exact⟨.fn _ [] [] rfl (λi r c A=>by simp at A) [] [] rfl (λi r c A=>by simp at A),by simp[IV.def_]⟩
theorem wJ2 {n0:Nat}{fr:Fr}{a:Act}{l:List Operand}{ys:List IV}(J:Good C X)(O:FrOk C X n0 fr a.tmps)(h:evL C.gl fr l=some ys):C.vl X (l.map a.eval) ys:=by
 obtain⟨E,D⟩:=wJt h;refine⟨by simpa using E,λi r c A hc=>?_⟩;rw[List.getElem?_map] at A;cases hl:l[i]? with
 | none=>simp[hl] at A
 | some x =>
  simp only[hl,Option.map_some,Option.some.injEq] at A;subst A;exact (xGr J O (D i x c hl hc)).1
def PlOk (C:Cx)(X:WS)(fr:Fr)(a:Act)(v:Value):Pl->Prop
 | .box t off=>∃cs b,fr t=.box cs/\tm a.tmps t=.pointer (some ⟨b,0,none⟩)/\v=.pointer (some ⟨b,off,none⟩)
 | .ptr b off=>v=.pointer (some ⟨b,off,none⟩)
 | .cp x=>C.v X v (.cptr x)
theorem uY4 {n0:Nat}{fr:Fr}{ad:Ad}{a:Act}{x:Operand}{p:Pl}(O:Good C X)(U:FrOk C X n0 fr a.tmps)(E:AdOk fr a.tmps ad)(h:evA C.gl ad fr x=some p):PlOk C X fr a (a.eval x) p:=by
 cases x with
 | tmp t =>
  simp only[evA] at h;cases D:ad t with
  | some e =>
   obtain⟨s,off⟩:=e;simp only[D,plAd,Option.some.injEq] at h;subst h;obtain⟨cs,b,h1,h2,h3⟩:=E t s off D;exact⟨cs,b,h1,h2,h3⟩
  | none =>
   simp only[D,plAd] at h;have hs:=U.slot t;unfold plOf at h;split at h
   ·rename_i cs A;cases h;rw[A] at hs;obtain⟨b,c,T,J,_⟩:=hs;exact⟨_,b,A,J,J⟩
   ·rename_i b off A;cases h;rw[A] at hs;exact V.raw_inv hs
   ·rename_i y A;cases h;rw[A] at hs;exact hs
   ·cases h
 | global g =>
  simp only[evA] at h;cases D:C.gl g with
  | none=>simp[D] at h
  | some z =>
   simp only[D,Option.map_some,Option.some.injEq] at h;subst h;exact O.gl g z D
 | const v=>cases h
 | func f=>cases h
theorem yZp {P:Program}{T:TypeId}{ag:Bool}{n:Nat}(h:tyI P T=some (ag,n))(w:World):(isAgg T).run P w=.ok ag w/\(sizeOf T).run P w=.ok n w:=by
 unfold tyI at h;split at h
 ·rename_i d i hd A;cases h;refine⟨?_,?_⟩
  ·simp only[isAgg,Sem.run_bind,run_underlying hd,Result.andThen_ok];cases d<;>rfl
  ·simp only[sizeOf,Sem.run_bind,run_typeInfo w A,Result.andThen_ok,Sem.run_pure]
 ·cases h
theorem zYd {P:Program}{T:TypeId}{ag:Bool}{n:Nat}(h:tyI P T=some (ag,n)):(P.info? T).map (·.size)=some n:=by
 unfold tyI at h;grind
theorem zY4 {P:Program}{T:TypeId}{z:IV}(h:yZh P T=some z)(w:World):∃v,(zeroValue T).run P w=.ok v w/\(∀B L w',V B L w' v z)/\z.def_/\z.cells.all IV.one=true:=by
 unfold yZh at h;cases D:P.info? T with
 | none=>simp[D] at h
 | some i =>
  simp only[D,Option.bind_some] at h;cases A:i.zero with
  | none=>simp[A] at h
  | some v =>
   simp only[A,Option.bind_some] at h;refine⟨v,?_,λB L w'=>(yW9 h).1,(yW9 (B:=0) (L:=λ_=>0) (w:=w) h).2.1,(yW9 (B:=0) (L:=λ_=>0) (w:=w) h).2.2⟩;simp only[zeroValue,Sem.run_bind,run_typeInfo w D,Result.andThen_ok,A,Sem.run_pure]
theorem yJo (b o i:Nat):(⟨b,o,none⟩:Addr).add i=⟨b,o+i,none⟩:=by unfold Addr.add;split<;>simp_all
theorem yJn (ad:Addr)(h:ad.spot=none)(i:Nat):ad.add i=⟨ad.block,ad.off+i,none⟩:=by
 obtain⟨b,o,s⟩:=ad;simp only at h;subst h;exact yJo b o i
theorem yQw {w:World}{b:Nat}{c:Array Value}{T:TypeId}{f:Nat×Nat}(h:w.heap[b]?=some (.cells c T f))(i:Nat):w.cell? ⟨b,i,none⟩=c.toList[i]?:=by
 simp[World.cell?,h]
theorem yU0 {P:Program}{T:TypeId}{ag:Bool}{n:Nat}(ht:tyI P T=some (ag,n))(w:World)(a:Addr)(rs:List Value)
  (hc:∀(i:Nat) (v:Value),rs[i]?=some v->w.cell? (a.add i)=some v) :
  (ag=true->rs.length=n->(loadVar T a).run P w=.ok (.agg ⟨rs⟩) w)/\(ag=false->∀v,rs[0]?=some v->(loadVar T a).run P w=.ok v w):=by
 obtain⟨h1,h2⟩:=yZp ht w;refine⟨λA D=>?_,λA v hv=>?_⟩
 ·subst A;subst D;have hl:=run_loadCells_list (P:=P) w a rs hc;simp only[loadVar,Sem.run_bind,h1,Result.andThen_ok,if_true,h2,hl,Sem.run_pure]
 ·subst A;have h0:=hc 0 v hv;have E:a.add 0=a:=by simp[Addr.add]
  rw[E] at h0;simp only[loadVar,Sem.run_bind,h1,Result.andThen_ok,bFt,if_false,run_load,h0]
theorem zXq {T:TypeId}{ag:Bool}{n b off:Nat}{c:Array Value}{E:TypeId}{f:Nat×Nat}{cs:List IV}{y:IV}(ht:tyI C.P T=some (ag,n))(U:X.w.heap[b]?=some (.cells c E f))(hv:C.vl X c.toList cs)
  (hp:yK4 ag n cs off=some y):∃v,(loadVar T ⟨b,off,none⟩).run C.P X.w=.ok v X.w/\C.v X v y:=by
 unfold yK4 at hp;have J:=hv.drop off;split at hp
 ·rename_i A;split at hp
  ·rename_i ab;cases hp;have D:=J.take n;refine⟨_,(yU0 ht X.w ⟨b,off,none⟩ ((c.toList.drop off).take n) (λi v hi=>?_)).1 A (by rw[D.1,List.length_take,List.length_drop];omega),D.agg⟩;rw[yJo,yQw U];grind
  ·cases hp
 ·rename_i A;obtain⟨r,hr,O⟩:=hv.get hp;refine⟨r,(yU0 ht X.w ⟨b,off,none⟩ (c.toList.drop off) (λi v hi=>?_)).2 (by simpa using A) r (by rw[List.getElem?_drop];simpa using hr),O⟩;rw[yJo,yQw U];grind
theorem wZq {T:TypeId}{ag:Bool}{n:Nat}{ad:Addr}{y:IV}(ht:tyI C.P T=some (ag,n))(hv:C.v X (.pointer (some ad)) (.cptr y))(D:fits ag n y=true) :
  ∃v,(loadVar T ad).run C.P X.w=.ok v X.w/\C.v X v y:=by
 cases hv with
 | cptr _ _ vs O J hL hc h =>
  have E:∀(i:Nat) (v:Value),vs[i]?=some v->X.w.cell? (ad.add i)=some v:=λi v hi=>by rw[yJn ad O];exact hc i v hi
  obtain⟨k1,k2⟩:=yU0 ht X.w ad vs E;have A:C.vl X vs y.cells:=⟨J,h⟩
  unfold fits at D;split at D
  ·rename_i cs;simp only[bAt,beq_iff_eq] at D;exact⟨_,k1 D.1.1 (by rw[J];exact D.1.2),A.agg⟩
  ·rename_i ac;simp only[bAt,Bool.not_eq_true',beq_iff_eq] at D;have U:=IV.one_cells D.1.2;rw[U] at A;obtain⟨r,hr,ab⟩:=A.get (i:=0) (c:=y) rfl;grind
theorem V.cptr_ptr {B:Nat}{L:Nat->Nat}{w:World}{r:Value}{x:IV}(h:V B L w r (.cptr x)):∃ad,r=.pointer (some ad)/\ad.spot=none:=by
 cases h with
 | cptr ad _ _ A=>exact⟨ad,rfl,A⟩
theorem yWz {rs:List Value}{cs:List IV}(hv:C.vl X rs cs)(h:cs.all IV.one=true):∀v∈rs,v.oneCell'=true:=by
 intro v J;obtain⟨i,D,A⟩:=List.mem_iff_getElem.1 J;have E:rs[i]?=some v:=by rw[List.getElem?_eq_getElem D,A]
 have hc:cs[i]?=some (cs[i]'(by rw[<- hv.1];exact D)):=List.getElem?_eq_getElem _;have h1:=V.flat (hv.2 i _ _ E hc) (List.all_eq_true.1 h _ (List.getElem_mem _));cases v<;>first|rfl|simp[Value.flat] at h1
theorem zZx {T:TypeId}{ag:Bool}{b off:Nat}{c:Array Value}{E:TypeId}{v:Value}{y:IV}(ht:tyI C.P T=some (ag,y.cells.length))(hh:X.w.heap[b]?=some (.cells c E (0,0)))
  (hv:C.v X v y) (hd:y.def_) (h1:y.cells.all IV.one=true) (U:off+y.cells.length<=c.size) :
  (storeVar T ⟨b,off,none⟩ v).run C.P X.w=.ok () (X.w.setRow b (c.toList.take off++v.cells.toList++c.toList.drop (off+v.cells.toList.length)).toArray)/\C.vl X v.cells.toList y.cells:=by
 have O:∀u,y≠.raw (.agg u):=by
  rintro u rfl;simp[IV.cells,IV.one] at h1
 have A:=V.cells hv O hd;refine⟨?_,A⟩;have h2:=(yZp ht X.w).2;have D:v.cells.size=y.cells.length:=by rw[<- A.1];simp
 have J:=run_storeCells_at (P:=C.P) b off E v.cells.toList 0 c X.w hh (by rw[A.1];omega) (yWz A h1);simp only[storeVar,Sem.run_bind,h2,Result.andThen_ok,D,ne_eq,nTf,if_false,J];simp
theorem yG5 {rs:List Value}{cs:List IV}{off:Nat}{vs:List Value}{ys:List IV}(h:C.vl X rs cs)(A:C.vl X vs ys) :
  C.vl X (rs.take off++vs++rs.drop (off+vs.length)) (yXe cs off ys):=by
 unfold yXe;rw[A.1];exact ((h.take off).append A).append (h.drop _)
end
def PK (C:Cx)(X0:WS)(N:Nat)(K:Kt)(a:Act)(w:World):Prop :=
 ∃X ad fr ds,X.w=w/\Inv C X0 N X fr ds a/\AdOk fr a.tmps ad/\K ad fr X.st ds
section
variable {C:Cx}{X0 X:WS}{N:Nat}{fr:Fr}{ds:List Dfd}{a:Act}{ad:Ad}{dst:Option Nat}{K:Kt}
theorem yZl {x:IV}{v:Value}(D:Inv C X0 N X fr ds a)(A:AdOk fr a.tmps ad)(hd:∀d,dst=some d->d<N)(hv:C.v X v x)
  (h:finK dst K ad fr (.val x) X.st ds):PK C X0 N K (a.put dst v) X.w:=by
 cases dst with
 | none=>exact⟨X,ad,fr,ds,rfl,D,A,h⟩
 | some d=>exact⟨X,_,_,ds,rfl,D.put (hd d rfl) hv,A.put d v _,h⟩
theorem xJr {t off b:Nat}{cs:List IV}(E:Inv C X0 N X fr ds a)(A:AdOk fr a.tmps ad)(hd:∀d,dst=some d->d<N)(ht:fr t=.box cs)
  (J:tm a.tmps t=.pointer (some ⟨b,0,none⟩)) (h:finK dst K ad fr (.adr t off) X.st ds):PK C X0 N K (a.put dst (.pointer (some ⟨b,off,none⟩))) X.w:=by
 cases dst with
 | none=>exact⟨X,ad,fr,ds,rfl,E,A,h⟩
 | some d =>
  simp only[finK] at h;split at h
  ·exact h.elim
  ·rename_i D;exact⟨X,_,_,ds,rfl,E.put (hd d rfl) (.junk _),A.adr (by rw[E.size];exact hd d rfl) D ht J _,h⟩
theorem vQv {c:Array Value}{T:TypeId}{cs:List IV}(D:Inv C X0 N X fr ds a)(A:AdOk fr a.tmps ad)(hd:∀d,dst=some d->d<N)(hv:C.vl X c.toList cs)
  (h:finK dst K ad fr (.box cs) X.st ds):PK C X0 N K (a.put dst (.pointer (some ⟨X.w.heap.size,0,none⟩))) (X.w.alloc (.cells c T)):=by
 cases dst with
 | none=>exact h.elim
 | some d=>exact⟨{ X with w:=X.w.alloc (.cells c T) },_,_,ds,rfl,D.box (hd d rfl) c T hv,A.put d _ _,h⟩
theorem vQu (D:Inv C X0 N X fr ds a)(A:AdOk fr a.tmps ad)(h:finK dst K ad fr .nop X.st ds):PK C X0 N K (a.put dst undef) X.w:=by
 cases dst with
 | some _=>exact h.elim
 | none=>exact⟨X,ad,fr,ds,rfl,D,A,h⟩
theorem wGk {p:Pl}{v:Value}(D:Inv C X0 N X fr ds a)(A:AdOk fr a.tmps ad)(hd:∀d,dst=some d->d<N)(hp:PlOk C X fr a v p)
  (h:plR p (finK dst K ad fr) X.st ds):PK C X0 N K (a.put dst v) X.w:=by
 cases p with
 | box t off =>
  obtain⟨cs,b,h1,h2,rfl⟩:=hp;exact xJr D A hd h1 h2 h
 | ptr b off =>
  obtain rfl:=hp;exact yZl D A hd (.raw _ trivial) h
 | cp x=>exact yZl D A hd hp h
end
end Go.Iv
namespace Go.Iv
open Go
def yZ7 (ro:Option Nat):Fence:={ Fence.wide with round:=ro }
section
variable {C:Cx}{X0 X:WS}{N:Nat}{fr:Fr}{ds:List Dfd}{a:Act}{ad:Ad}{K:Kt}{ro:Option Nat}{n:Nat}{Q:Exit->Act->World->Prop}{o:Oper}
theorem yQg {v:Value}{w':World}(A:(execOp a.eval o).run C.P X.w=.ok (.value v) w')(hnd:∀c,o.op≠.defer c)(h:PK C X0 N K (a.put o.dst v) w') :
  o.wpIn (yZ7 ro) n C.P a X.w (PK C X0 N K) Q:=by
 refine⟨λ_ _=>trivial,?_⟩;rw[Oper.semAt_eq _ _ _ hnd,A];exact h
theorem xXx {w':World}(A:(execOp a.eval o).run C.P X.w=.ok .skip w')(hnd:∀c,o.op≠.defer c)(h:PK C X0 N K (a.put o.dst undef) w') :
  o.wpIn (yZ7 ro) n C.P a X.w (PK C X0 N K) Q:=by
 refine⟨λ_ _=>trivial,?_⟩;rw[Oper.semAt_eq _ _ _ hnd,A];exact h
structure At (C:Cx)(X0:WS)(N:Nat)(X:WS)(fr:Fr)(ds:List Dfd)(a:Act)(ad:Ad)(dst:Option Nat):Prop where
 inv:Inv C X0 N X fr ds a
 ad:AdOk fr a.tmps ad
 hd:∀d,dst=some d->d<N
variable (hA:At C X0 N X fr ds a ad o.dst)
include hA
theorem At.v {x:Operand}{y:IV}(h:evV C.gl fr x=some y):C.v X (a.eval x) y/\y.def_:=xGr hA.inv.good hA.inv.fr h
theorem At.p {x:Operand}{p:Pl}(h:evA C.gl ad fr x=some p):PlOk C X fr a (a.eval x) p:=uY4 hA.inv.good hA.inv.fr hA.ad h
theorem At.val {x:IV}{v:Value}(hv:C.v X v x)(h:finK o.dst K ad fr (.val x) X.st ds):PK C X0 N K (a.put o.dst v) X.w:=yZl hA.inv hA.ad hA.hd hv h
theorem zVt {x:Operand}{dr:Bool}(A:o.op=.move x\/o.op=.assign x)(h:zZ6 dr (evV C.gl fr x) (evA C.gl ad fr x) (finK o.dst K ad fr) X.st ds) :
  o.wpIn (yZ7 ro) n C.P a X.w (PK C X0 N K) Q:=by
 refine yQg (v:=a.eval x) (w':=X.w) (by unfold execOp;rcases A with A|A<;>rw[A]<;>rfl) (by rcases A with A|A<;>rw[A]<;>intro c hc<;>cases hc) ?_;unfold zZ6 at h;split at h
 ·rename_i y D;exact hA.val (hA.v D).1 h
 ·split at h
  ·exact h.elim
  ·obtain⟨p,hp,h⟩:=yQ2.1 h;exact wGk hA.inv hA.ad hA.hd (hA.p hp) h
end
section
theorem yU9 {y:IV}(h1:y.cells.all IV.one=true):∀u,y≠.raw (.agg u):=by
 rintro u rfl;simp[IV.cells,IV.one] at h1
theorem yKl {s:IV}{f:IntKind->Int->Prop}(h:intV s f):∃k n,s=.raw (.int k n)/\f k n:=by
 unfold intV at h;split at h
 ·grind
 ·exact h.elim
theorem zY0 {s:IV}{f:Bool->Prop}(h:zXg s f):∃b,s=.raw (.bool b)/\f b:=by
 unfold zXg at h;split at h
 ·grind
 ·exact h.elim
theorem wQc {s:IV}{f:Tag->List IV->Prop}(h:slV s f):∃t A,s=.sl t A/\f t A:=by
 unfold slV at h;split at h
 ·grind
 ·exact h.elim
theorem wQb {s:IV}{f:Tag->List IV->Prop}{g:Nat->Nat->Nat->Prop}(h:slX s f g):(∃t A,s=.sl t A/\f t A)\/∃b off n cap,s=.raw (.slice (some ⟨b,off,none⟩) n cap)/\g b off n:=by
 unfold slX at h;split at h
 ·grind
 ·grind
 ·exact h.elim
theorem zJe {s:IV}{f:Tag->List IV->Prop}{g:Nat->Nat->Nat->Nat->Prop}(h:slY s f g):(∃t A,s=.sl t A/\f t A)\/∃b off n cap,s=.raw (.slice (some ⟨b,off,none⟩) n cap)/\g b off n cap:=by
 unfold slY at h;split at h
 ·grind
 ·grind
 ·exact h.elim
theorem zJ0 {s:IV}{f:List IV->Prop}(h:aggV s f):∃A,s=.agg A/\f A:=by
 unfold aggV at h;split at h
 ·grind
 ·exact h.elim
theorem wKq {s:IV}{f:List IV->Prop}(h:tupV s f):∃A,s=.tup A/\f A:=by
 unfold tupV at h;split at h
 ·grind
 ·exact h.elim
theorem xJo {s:IV}{f:Fn->List IV->List IV->Prop}(h:fnV s f):∃g x y,s=.fn g x y/\f g x y:=by
 unfold fnV at h;split at h
 ·grind
 ·exact h.elim
theorem zXp {s:IV}{f:Option Nat->Prop}(h:mapV s f):∃m,s=.raw (.map m)/\f m:=by
 unfold mapV at h;split at h
 ·grind
 ·exact h.elim
theorem zYs {s:IV}{f:Value->Prop}(h:rawV s f):∃v,s=.raw v/\f v:=by
 unfold rawV at h;split at h
 ·grind
 ·exact h.elim
theorem xVt {B:Nat}{L:Nat->Nat}{w:World}{r:Value}{x:IV}{f:Value->Prop}(hv:V B L w r x)(h:keyV x f):f r:=by
 unfold keyV at h;split at h
 ·rw[V.raw_inv hv];exact h
 ·rename_i s k n;cases hv with
  | agg rs cs hl A =>
   match rs,hl with
   | [a,b],_ =>
    have h1:=A 0 a _ rfl rfl;have h2:=V.raw_inv (A 1 b _ rfl rfl);have D:=V.raw_inv h1;subst h2;subst D;cases h1 with
    | raw _ E=>exact h E
 iterate 2
  ·cases hv with
   | agg rs cs hl A =>
    match rs,hl with
    | [a,b],_ =>
     have h2:=V.raw_inv (A 1 b _ rfl rfl);have D:=V.raw_inv (A 0 a _ rfl rfl);subst h2;subst D;exact h
 ·exact h.elim
theorem xY2 {s:IV}{f:Nat->Prop}(h:adrV s f):∃b,s=.raw (.pointer (some ⟨b,0,none⟩))/\f b:=by
 unfold adrV at h;split at h
 ·grind
 ·exact h.elim
theorem wXb {s:IObj}{f:Nat->Nat->Array Nat->Nat->Prop}(h:itO s f):∃m e n c,s=.iter m e n c/\f m e n c:=by
 unfold itO at h;split at h
 ·grind
 ·exact h.elim
theorem xJ2 {s:IObj}{f:Array MapEntry->Nat->Prop}(h:mxO s f):∃e c,s=.mapx e c/\f e c:=by
 unfold mxO at h;split at h
 ·grind
 ·exact h.elim
theorem zJs {s:IObj}{f:List IV->Prop}(h:obV s f):∃cs,s=.box cs/\f cs:=by
 unfold obV at h;split at h
 ·grind
 ·exact h.elim
theorem xXy {s:IObj}{f:KeyK->List (Value×IV)->Prop}(h:omV s f):∃k cs,s=.map k cs/\f k cs:=by
 unfold omV at h;split at h
 ·grind
 ·exact h.elim
theorem yQx {c q:Prop} [Decidable c](h:if c then q else False):c/\q:=by
 grind
theorem yK0 {c q:Prop} [Decidable c](h:if c then False else q):¬ c/\q:=by
 grind
end
section
variable {C:Cx}{X0 X:WS}{N:Nat}{fr:Fr}{ds:List Dfd}{a:Act}{ad:Ad}{K:Kt}{ro:Option Nat}{n:Nat}{Q:Exit->Act->World->Prop}{o:Oper}
variable (hA:At C X0 N X fr ds a ad o.dst)
include hA
theorem xYh {b x y:Operand}(D:o.op=.pick b x y)
  (h:yQ6 (evV C.gl fr b) λb=>zXg b λb=>yYv b (yQ6 (evV C.gl fr x) λx=>finK o.dst K ad fr (.val x) X.st ds) (yQ6 (evV C.gl fr y) λy=>finK o.dst K ad fr (.val y) X.st ds) .mk .mk) :
  o.wpIn (yZ7 ro) n C.P a X.w (PK C X0 N K) Q:=by
 obtain⟨U,O,h⟩:=yQ2.1 h;obtain⟨t,rfl,h⟩:=zY0 h;have J:=V.raw_inv (hA.v O).1;have E:(execOp a.eval o).run C.P X.w=.ok (.value (if t=true then a.eval x else a.eval y)) X.w:=by
  unfold execOp;rw[D];simp[J,asBool]
 refine yQg E (by rw[D];intro c hc;cases hc) ?_;cases t with
 | true =>
  obtain⟨z,A,h⟩:=yQ2.1 (h.1 rfl);exact hA.val (hA.v A).1 h
 | false =>
  obtain⟨z,A,h⟩:=yQ2.1 (h.2 rfl);exact hA.val (hA.v A).1 h
theorem zZw {esc:List Nat}{v:Value}{T:TypeId}{y:List IV}(hv:C.vl X v.cells.toList y)(h:yY1 esc o.dst y (finK o.dst K ad fr) X.st ds) :
  PK C X0 N K (a.put o.dst (.pointer (some ⟨X.w.heap.size,0,none⟩))) (X.w.alloc (.cells v.cells T)):=by
 unfold yY1 at h;cases hd:o.dst with
 | none=>rw[hd] at h;exact h.elim
 | some d =>
  rw[hd] at h;simp only at h;split at h
  ·have A:X.st X.w.heap.size=none:=by
    cases hs:X.st X.w.heap.size with
    | none=>rfl
    | some o=>have:=hA.inv.good.lt hs;omega
   have h:=h X.w.heap.size A;have J:=hA.inv.new (.cells v.cells T) 0 (some (.box y)) (λi E=>by
    cases E;exact⟨by simp[WS.new],v.cells,T,yQm _ _,(hA.inv.good.new_ext _ 0 _).vl hv⟩)
   have:=yZl (dst:=some d) (K:=K) (x:=.raw (.pointer (some ⟨X.w.heap.size,0,none⟩))) (v:=.pointer (some ⟨X.w.heap.size,0,none⟩)) J hA.ad (λe D=>hA.hd e (by rw[hd];exact D)) (.raw _ trivial) h;exact this
  ·exact vQv (dst:=some d) hA.inv hA.ad (λe D=>hA.hd e (by rw[hd];exact D)) hv h
theorem xXj {esc:List Nat}{T:TypeId}(D:o.op=.alloc T)(h:yQ6 (yZh C.P T) λz=>yY1 esc o.dst z.cells (finK o.dst K ad fr) X.st ds) :
  o.wpIn (yZ7 ro) n C.P a X.w (PK C X0 N K) Q:=by
 obtain⟨z,E,h⟩:=yQ2.1 h;obtain⟨v,A,hv,hd,h1⟩:=zY4 E X.w;have J:(execOp a.eval o).run C.P X.w=.ok (.value (.pointer (some ⟨X.w.heap.size,0,none⟩))) (X.w.alloc (.cells v.cells T)):=by
  unfold execOp;rw[D];simp[Instr.alloc,A,newVar,newRow]
 exact yQg J (by rw[D];intro c hc;cases hc) (zZw hA (V.cells (hv _ _ _) (yU9 h1) hd) h)
theorem zYi {frz esc:List Nat}{v:Value}{T:TypeId}{y:IV}(hv:C.vl X v.cells.toList y.cells)(h:yWp frz esc o.dst y (finK o.dst K ad fr) X.st ds) :
  PK C X0 N K (a.put o.dst (.pointer (some ⟨X.w.heap.size,0,none⟩))) (X.w.alloc (.cells v.cells T)):=by
 unfold yWp at h;cases hd:o.dst with
 | none=>rw[hd] at h;exact h.elim
 | some d =>
  rw[hd] at h;simp only at h;split at h
  ·have O:X.st X.w.heap.size=none:=by
    cases hs:X.st X.w.heap.size with
    | none=>rfl
    | some o=>have:=hA.inv.good.lt hs;omega
   have hI:=hA.inv.new (.cells v.cells T) v.cells.size none (λi hi=>by cases hi);have E:(X.new (.cells v.cells T) v.cells.size none).st=X.st:=by
    funext b;simp only[WS.new];split
    ·grind
    ·rfl
   rw[<- E] at h;have D:=hA.inv.good.new_ext (.cells v.cells T) v.cells.size none;have A:=D.vl hv;have U:C.v (X.new (.cells v.cells T) v.cells.size none) (.pointer (some ⟨X.w.heap.size,0,none⟩)) (.cptr y):=by
    refine .cptr _ y v.cells.toList rfl A.1 ?_ (λi r J=>?_) (λi r c J hc=>A.2 i r c J hc)
    ·simp[WS.new]
    ·have h1:=yQm X.w (.cells v.cells T);have h2:(X.new (.cells v.cells T) v.cells.size none).w=X.w.alloc (.cells v.cells T):=rfl;rw[h2];simp only[World.cell?,h1,Nat.zero_add,Option.isSome_none,bFt,if_false];simpa using J
   have:=yZl (dst:=some d) (K:=K) (x:=.cptr y) (v:=.pointer (some ⟨X.w.heap.size,0,none⟩)) hI hA.ad (λe he=>hA.hd e (by rw[hd];exact he)) U h;exact this
  ·have:=zZw (v:=v) (T:=T) (esc:=esc) hA hv (by rw[hd];exact h);grind
theorem wQ5 {frz esc:List Nat}{T:TypeId}{x:Operand}(D:o.op=.box T x)
  (h:yQ6 (tyI C.P T) λ_=>yQ6 (evV C.gl fr x) λy=>chk (y.cells.all IV.one=true) (yWp frz esc o.dst y (finK o.dst K ad fr) X.st ds)) :
  o.wpIn (yZ7 ro) n C.P a X.w (PK C X0 N K) Q:=by
 obtain⟨i,_,h⟩:=yQ2.1 h;obtain⟨y,A,h1,h⟩:=yQ2.1 h;have E:(execOp a.eval o).run C.P X.w=.ok (.value (.pointer (some ⟨X.w.heap.size,0,none⟩))) (X.w.alloc (.cells (a.eval x).cells T)):=by
  unfold execOp;rw[D];simp[Instr.box,newVar,newRow]
 exact yQg E (by rw[D];intro c hc;cases hc) (zYi hA (V.cells (hA.v A).1 (yU9 h1) (hA.v A).2) h)
theorem xYj {dr:Bool}{T:TypeId}{x:Operand}(ho:o.op=.load T x)
  (h:yQ6 (tyI C.P T) λi=>yQ6 (evA C.gl ad fr x) λp=>yUz dr i.1 i.2 p fr (finK o.dst K ad fr) X.st ds) :
  o.wpIn (yZ7 ro) n C.P a X.w (PK C X0 N K) Q:=by
 obtain⟨⟨ag,sz⟩,ht,h⟩:=yQ2.1 h;obtain⟨p,hp,h⟩:=yQ2.1 h;have D:=hA.p hp;have key:∀(A:Addr) (v:Value),a.eval x=.pointer (some A)->(loadVar T A).run C.P X.w=.ok v X.w->(execOp a.eval o).run C.P X.w=.ok (.value v) X.w:=by
  intro A v O hl;unfold execOp;rw[ho];simp only[Instr.loadAt,O,Instr.sureAddr,Sem.run_bind,Sem.run_pure,Result.andThen_ok,hl]
 have hnd:∀c,o.op≠.defer c:=by rw[ho];intro c hc;cases hc
 cases p with
 | box t off =>
  obtain⟨cs,b,aa,hb,O⟩:=D;simp only[yUz,aa] at h;obtain⟨y,hy,h⟩:=yQ2.1 h;have hs:=hA.inv.fr.slot t;rw[aa] at hs;obtain⟨b',c,E,hr,hh,J,_⟩:=hs;rw[hb] at hr;cases hr;obtain⟨v,hl,hv⟩:=zXq ht hh J hy;exact yQg (key _ v O hl) hnd (hA.val hv h)
 | ptr b off =>
  obtain⟨_,h⟩:=yK0 h;obtain⟨ob,ac,h⟩:=yQ2.1 h;obtain⟨cs,rfl,h⟩:=zJs h;obtain⟨y,hy,h⟩:=yQ2.1 h;obtain⟨_,c,E,hh,J⟩:=hA.inv.good.ok b _ ac;obtain⟨v,hl,hv⟩:=zXq ht hh J hy;exact yQg (key _ v D hl) hnd (hA.val hv h)
 | cp y =>
  obtain⟨hf,h⟩:=yQx h;obtain⟨A,O,_⟩:=V.cptr_ptr D;have U:C.v X (.pointer (some A)) (.cptr y):=O▸D;obtain⟨v,hl,hv⟩:=wZq ht U hf;exact yQg (key _ v O hl) hnd (hA.val hv h)
theorem xX9 {T:TypeId}{x v:Operand}(ho:o.op=.store T x v)
  (h:yQ6 (tyI C.P T) λi=>yQ6 (evV C.gl fr v) λy=>chk (y.cells.length=i.2/\y.cells.all IV.one=true) (yQ6 (evA C.gl ad fr x) λp=>yYa y.cells p fr (finK o.dst K ad fr) X.st ds)) :
  o.wpIn (yZ7 ro) n C.P a X.w (PK C X0 N K) Q:=by
 obtain⟨⟨ag,sz⟩,ht,h⟩:=yQ2.1 h;obtain⟨y,hy,⟨ai,h1⟩,h⟩:=yQ2.1 h;obtain⟨p,hp,h⟩:=yQ2.1 h;simp only at ai;subst ai;have aj:=hA.p hp;obtain⟨hv,U⟩:=hA.v hy;have key:∀(ah:Addr) (w':World),a.eval x=.pointer (some ah)->(storeVar T ah (a.eval v)).run C.P X.w=.ok () w'->(execOp a.eval o).run C.P X.w=.ok .skip w':=by
  intro ah w' he hl;unfold execOp;rw[ho];simp only[Instr.storeAt,he,Instr.sureAddr,Sem.run_bind,Sem.run_pure,Result.andThen_ok,hl]
 have hnd:∀c,o.op≠.defer c:=by rw[ho];intro c hc;cases hc
 cases p with
 | box t off =>
  obtain⟨cs,b,ae,hb,he⟩:=aj;simp only[yYa,ae] at h;obtain⟨ab,h⟩:=yQx h;have hs:=hA.inv.fr.slot t;rw[ae] at hs;obtain⟨b',c,E,hr,hh,A,_⟩:=hs;rw[hb] at hr;cases hr;have af:c.size=cs.length:=by rw[<- A.1];simp
  obtain⟨aa,D⟩:=zZx ht hh hv U h1 (off:=off) (by rw[af];exact ab);refine xXx (key _ _ he aa) hnd ?_;cases hd:o.dst with
  | some d=>rw[hd] at h;exact h.elim
  | none =>
   rw[hd] at h;have hI:=hA.inv.own ae hb hh (cs':=(c.toList.take off++(a.eval v).cells.toList++c.toList.drop (off+(a.eval v).cells.toList.length)).toArray) (new:=yXe cs off y.cells) (by simp;have:=D.1;simp at this;omega)
    (by simpa using yG5 A D)
   exact⟨_,ad,_,ds,rfl,hI,hA.ad.own _,h⟩
 | ptr b off =>
  obtain⟨ob,ak,h⟩:=yQ2.1 h;obtain⟨cs,rfl,h⟩:=zJs h;obtain⟨ab,h⟩:=yQx h;obtain⟨hL,c,E,hh,A⟩:=hA.inv.good.ok b _ ak;have af:c.size=cs.length:=by rw[<- A.1];simp
  obtain⟨aa,D⟩:=zZx ht hh hv U h1 (off:=off) (by rw[af];exact ab);refine xXx (key _ _ aj aa) hnd ?_;have O:∀c':Array Value,c'=c->(c.toList.take off++(a.eval v).cells.toList++c.toList.drop (off+(a.eval v).cells.toList.length)).toArray.size=c'.size:=by
   rintro _ rfl;simp;have:=D.1;simp at this;omega
  have J:∀i,i<X.L b->((c.toList.take off++(a.eval v).cells.toList++c.toList.drop (off+(a.eval v).cells.toList.length)).toArray)[i]?=c[i]?:=λi hi=>by rw[hL] at hi;omega
  have hI:=hA.inv.row hh (O c rfl) (n:=0) (so:=some (.box (yXe cs off y.cells))) (by omega) J (by rw[ak];simp) (λi hi=>by
   cases hi;refine⟨by simp[WS.row],_,E,setRow_heap X.w b c _ E (0,0) hh,?_⟩;have:=yG5 A D (off:=off);exact⟨by simpa using this.1,λi r z hr hz=>zQy hh (O c rfl) (by omega) J (this.2 i r z (by simpa using hr) hz)⟩)
  cases hd:o.dst with
  | some d=>rw[hd] at h;exact h.elim
  | none =>
   rw[hd] at h;exact⟨_,ad,_,ds,rfl,hI,hA.ad,h⟩
 | cp y=>exact h.elim
theorem zV9 {dr:Bool}{x:Operand}(ho:o.op=.nilCheck x)(h:nilV (evV C.gl fr x) (evA C.gl ad fr x) dr (finK o.dst K ad fr) X.st ds) :
  o.wpIn (yZ7 ro) n C.P a X.w (PK C X0 N K) Q:=by
 have hnd:∀c,o.op≠.defer c:=by rw[ho];intro c hc;cases hc
 have ac:(yQ6 (evA C.gl ad fr x) λp=>plR p (finK o.dst K ad fr) X.st ds)->o.wpIn (yZ7 ro) n C.P a X.w (PK C X0 N K) Q:=λh=>by
  obtain⟨p,hp,h⟩:=yQ2.1 h;have D:=hA.p hp;have U:∃E,a.eval x=.pointer (some E):=by
   cases p with
   | box t off=>obtain⟨_,_,_,_,A⟩:=D;exact⟨_,A⟩
   | ptr b off=>exact⟨_,D⟩
   | cp y=>obtain⟨E,A,_⟩:=V.cptr_ptr D;exact⟨_,A⟩
  obtain⟨E,A⟩:=U;have J:(execOp a.eval o).run C.P X.w=.ok (.value (a.eval x)) X.w:=by
   unfold execOp;rw[ho];simp only[A];rfl
  exact yQg J hnd (wGk hA.inv hA.ad hA.hd D h)
 unfold nilV at h;split at h
 ·rename_i f first ae O
  obtain⟨hf,h⟩:=yQx h;have hv:=(hA.v O).1;obtain⟨rs,af,A,_⟩:=V.fn_inv hv;have J:(execOp a.eval o).run C.P X.w=.ok (.value (a.eval x)) X.w:=by
   unfold execOp;rw[ho];simp only[A];cases f<;>first|rfl|simp[fnOk] at hf
  exact yQg J hnd (hA.val hv h)
 ·rename_i y O;have hv:=(hA.v O).1;obtain⟨E,A,_⟩:=V.cptr_ptr hv;have J:(execOp a.eval o).run C.P X.w=.ok (.value (a.eval x)) X.w:=by
   unfold execOp;rw[ho];simp only[A];rfl
  exact yQg J hnd (hA.val hv h)
 ·rename_i q O;by_cases ab:dr=true
  ·rw[if_pos ab] at h;have A:=V.raw_inv (hA.v O).1;have J:(execOp a.eval o).run C.P X.w=.ok (.value (a.eval x)) X.w:=by
    unfold execOp;rw[ho];simp only[A];rfl
   exact yQg J hnd (hA.val (hA.v O).1 h)
  ·grind
 ·grind
theorem zVa {f:Fn}{first A:Array Operand}(D:o.op=.makeFunc f first A)
  (h:yQ6 (evL C.gl fr first.toList) λx=>yQ6 (evL C.gl fr A.toList) λy=>finK o.dst K ad fr (.val (.fn f x y)) X.st ds) :
  o.wpIn (yZ7 ro) n C.P a X.w (PK C X0 N K) Q:=by
 obtain⟨x,hx,h⟩:=yQ2.1 h;obtain⟨y,E,h⟩:=yQ2.1 h;have h1:=wJ2 hA.inv.good hA.inv.fr hx;have h2:=wJ2 hA.inv.good hA.inv.fr E;have J:(execOp a.eval o).run C.P X.w=.ok (.value (.func f ⟨first.toList.map a.eval⟩ ⟨A.toList.map a.eval⟩)) X.w:=by
  unfold execOp;rw[D];have U:first.map a.eval=⟨first.toList.map a.eval⟩:=by apply Array.ext';simp
  have O:A.map a.eval=⟨A.toList.map a.eval⟩:=by apply Array.ext';simp
  simp only[Instr.makeFunc,U,O,Sem.run_bind,Sem.run_pure,Result.andThen_ok]
 exact yQg J (by rw[D];intro c hc;cases hc) (hA.val (.fn f _ _ h1.1 h1.2 _ _ h2.1 h2.2) h)
theorem zYk {x:Operand}{i:Nat}(E:o.op=.extract x i)(h:yQ6 (evV C.gl fr x) λx=>tupV x λvs=>yQ6 (vs[i]?) λy=>finK o.dst K ad fr (.val y) X.st ds) :
  o.wpIn (yZ7 ro) n C.P a X.w (PK C X0 N K) Q:=by
 obtain⟨y,O,h⟩:=yQ2.1 h;obtain⟨vs,rfl,h⟩:=wKq h;obtain⟨z,J,h⟩:=yQ2.1 h;obtain⟨rs,he,D⟩:=V.tup_inv (hA.v O).1;obtain⟨r,U,hv⟩:=D.get J;have A:(execOp a.eval o).run C.P X.w=.ok (.value r) X.w:=by
  unfold execOp;rw[E];have:(⟨rs⟩:Array Value)[i]?=some r:=by simpa using U
  simp[Instr.extract,he,this]
 exact yQg A (by rw[E];intro c hc;cases hc) (hA.val hv h)
end
end Go.Iv
namespace Go.Iv
open Go
theorem xZd:∀ {A:List IV}{l:List UInt8},yY3 A=some l->A=l.map λb=>.raw (.int .u8 (b.toNat:Int))
 | [],l,h=>by simp only[yY3,Option.some.injEq] at h;subst h;rfl
 | x::A,l,h=>by
  unfold yY3 at h;split at h
  ·grind
  ·rename_i m J D;cases D;split at h
   ·rename_i O;rw[Option.map_eq_some_iff] at h;obtain⟨E,h2,rfl⟩:=h;rw[xZd h2,List.map_cons];congr 3;rw[UInt8.toNat_ofNat'];omega
   ·cases h
  ·cases h
theorem wKy {C:Cx}{X:WS}{P:Program}{S D:TypeId}{v:Value}{t:Tag}{l:List UInt8}(hv:C.v X v (.sl t (l.map λb=>.raw (.int .u8 (b.toNat:Int)))))(hl:l≠[])(hS:xZe P S=true)(hD:strT P D=true) :
  (convert S D v).run P X.w=.ok (.string ⟨l.toArray⟩) X.w/\l.length<=140737488355328:=by
 unfold xZe at hS;split at hS
 ·rename_i e he;split at hS
  ·rename_i ag;unfold strT at hD;split at hD
   ·rename_i hd;cases hv with
    | sl an cap _ _ T vs ai E am hs O ab U A hc =>
     have ae:∀(m:List UInt8),(m.map λb=>IV.raw (.int .u8 (b.toNat:Int))).flatMap IV.cells=m.map λb=>IV.raw (.int .u8 (b.toNat:Int)):=λm=>by
      induction m with
      | nil=>rfl
      | cons a m ih=>simp only[List.map_cons,List.flatMap_cons,ih];rfl
     rw[ae] at hc;have af:t.es=1:=by
      match l,hl with
      | b::l,_=>exact (hs (.raw (.int .u8 (b.toNat:Int))) (by simp)).symm
     obtain⟨ad,rfl,aa,_,J⟩:=A (by simpa using hl);rw[List.length_map] at E O ⊢;refine⟨run_convert_bytes_back X.w S D e ad cap l he ag hd (λj hj=>?_),E⟩;rw[yJn ad aa];have ac:j<vs.length:=by rw[O,af];omega
     have h1:=List.getElem?_eq_getElem ac;rw[J j _ h1];have h2:=V.raw_inv (hc j _ _ h1 (by rw[List.getElem?_map,List.getElem?_eq_getElem hj];rfl));rw[h2]
   ·cases hD
  ·cases hS
 ·cases hS
theorem yKu {P:Program}{op:BinOp}{T:TypeId}{x y:Operand}{a b:Value}(h1:a≠.nilIface)(h2:∀u,a≠.agg u)(w:World) :
  (eqGuard op T x y a b).run P w=.ok () w:=by
 cases a<;>first
  | (exact absurd rfl h1)
  | (exact absurd rfl (h2 _))
  | (cases op<;>rfl)
theorem xZ5 (a b:ByteArray):(a.toList == b.toList)=decide (a=b):=by
 rw[ByteArray.toList_eq,ByteArray.toList_eq];by_cases h:a=b
 ·subst h;simp
 ·have:¬ a.data=b.data:=λA=>h (by cases a;cases b;simp at A;subst A;rfl);simp[h,this]
theorem wV6 {P:Program}{op:BinOp}{T:TypeId}{a b z:Value}(h:binI P T op a b=some z)(w:World):(binOp op T a b).run P w=.ok z w/\zYt z/\a≠.nilIface/\(∀u,a≠.agg u):=by
 unfold binI at h;split at h
 ·rename_i k x O y;split at h
  ·rename_i D;subst D;split at h
   ·rename_i A;cases h;exact⟨by simp[binOp,Op.shift,show ¬ y<0 by omega],trivial,by simp,by simp⟩
   ·cases h
  split at h
  ·rename_i D;subst D;split at h
   ·rename_i A;cases h;exact⟨by simp[binOp,Op.shift,show ¬ y<0 by omega],trivial,by simp,by simp⟩
   ·cases h
  split at h
  ·rename_i E;subst E;refine⟨?_,?_,by simp,by simp⟩
   ·cases op<;>simp only[cmpI,Option.some.injEq,reduceCtorEq] at h
    case add=>subst h;simp[binOp,Op.intArith]
    case sub=>subst h;simp[binOp,Op.intArith]
    case and=>subst h;simp[binOp,Op.intBits]
    case andNot=>subst h;simp[binOp,Op.intBits]
    case mul=>subst h;simp[binOp,Op.intArith]
    case quo =>
     split at h
     ·cases h
     ·rename_i A;cases h;simp[binOp,Op.intDiv,A]
    case rem =>
     split at h
     ·cases h
     ·rename_i A;cases h;simp[binOp,Op.intDiv,A]
    case eql=>subst h;simp[binOp,Op.intCmp,BEq.beq]
    case neq=>subst h;simp[binOp,Op.intCmp,bne,BEq.beq]
    case lss=>subst h;simp[binOp,Op.intCmp]
    case leq=>subst h;simp[binOp,Op.intCmp]
    case gtr=>subst h;simp[binOp,Op.intCmp]
    case geq=>subst h;simp[binOp,Op.intCmp]
   ·cases op<;>simp only[cmpI,Option.some.injEq,reduceCtorEq] at h<;>first
     | (subst h;trivial)
     | (split at h
        ·cases h
        ·cases h;trivial)
  ·cases h
 ·rename_i a b;refine⟨?_,?_,by simp,by simp⟩
  ·cases op<;>simp only[Option.some.injEq,reduceCtorEq] at h
   case add =>
    split at h
    ·rename_i hs;cases h;have:¬ ((a.size+b.size:Nat):Int) > IntKind.i64.max:=by
      have:IntKind.i64.max=9223372036854775807:=by decide
      omega
     simp only[binOp,Op.stringOp,if_neg this,Sem.run_pure]
    ·cases h
   all_goals (subst h;simp only[binOp,Op.stringOp,xZ5,Sem.run_pure])
   all_goals simp only[ByteArray.toList_eq]
  ·cases op<;>simp only[Option.some.injEq,reduceCtorEq] at h
   case add =>
    split at h
    ·rename_i hs;cases h;simp only[zYt,ByteArray.size_append];omega
    ·cases h
   all_goals (subst h;trivial)
 ·rename_i a b;split at h
  ·rename_i ht;have J:∀x y:Bool,(Op.equal T (.bool x) (.bool y)).run P w=.ok (x == y) w:=by
    exact λx y=>run_equalIn_bool w 9999 T x y ht
   refine⟨?_,?_,by simp,by simp⟩
   ·cases op<;>simp only[Option.some.injEq,reduceCtorEq] at h<;>(subst h;simp only[binOp,Sem.run_bind,J,Result.andThen_ok,Sem.run_pure])
   ·cases op<;>simp only[Option.some.injEq,reduceCtorEq] at h<;>(subst h;trivial)
  ·cases h
 ·cases h
section
variable {C:Cx}{X0 X:WS}{N:Nat}{fr:Fr}{ds:List Dfd}{a:Act}{ad:Ad}{K:Kt}{ro:Option Nat}{n:Nat}{Q:Exit->Act->World->Prop}{o:Oper}
theorem wUk {B:Nat}{L:Nat->Nat}{w:World}{r:Value}{t:Tag}{U:List IV}{b:Bool}(hv:V B L w r (.sl t U))(h:zVb (.sl t U)=some b):∃ad len cap,r=.slice ad len cap/\ad.isNone=b:=by
 cases hv with
 | sl ad cap _ _ T vs A aa ac hs ab J E D _ =>
  refine⟨ad,_,_,rfl,?_⟩;obtain⟨f,cp,es⟩:=t;unfold zVb at h;split at h
  ·rename_i O;cases O;cases h;simp only[zXf] at A;rw[A.1];rfl
  ·rename_i O;cases O;cases h;simp only[zXf] at A;rw[A];rfl
  ·grind
  ·cases h
variable (hA:At C X0 N X fr ds a ad o.dst)
include hA
theorem xXi {op:BinOp}{T T':TypeId}{x y:Operand}(ho:o.op=.binOp op T x y T')
  (h:yQ6 (evV C.gl fr x) λx=>yQ6 (evV C.gl fr y) λy=>yQ6 (binV C.P T op x y) λz=>finK o.dst K ad fr (.val z) X.st ds) :
  o.wpIn (yZ7 ro) n C.P a X.w (PK C X0 N K) Q:=by
 obtain⟨vx,hx,h2⟩:=yQ2.1 h;clear h;obtain⟨vy,hy,h3⟩:=yQ2.1 h2;clear h2;obtain⟨vz,E,h⟩:=yQ2.1 h3;clear h3;have hnd:∀c,o.op≠.defer c:=by rw[ho];intro c hc;cases hc
 have ah:=(hA.v hx).1;have ae:=(hA.v hy).1;unfold binV at E;split at E
 ·rename_i u v;cases hq:binI C.P T op u v with
  | none=>simp[hq] at E
  | some q =>
   simp only[hq,Option.map_some,Option.some.injEq] at E;subst E;obtain⟨ai,an,h1,h2⟩:=wV6 hq X.w;have e1:=V.raw_inv ah;have e2:=V.raw_inv ae;have hr:(execOp a.eval o).run C.P X.w=.ok (.value q) X.w:=by
    unfold execOp;rw[ho];simp only[e1,e2,Sem.run_bind,yKu h1 h2,Result.andThen_ok,ai,Sem.run_pure]
   exact yQg hr hnd (hA.val (.raw _ an) h)
 ·rename_i t xs f es l;split at E
  ·rename_i am;have J:∃e,C.P.underlying T=some (.slice e):=by
    unfold zQ4 at am;grind
   obtain⟨e,J⟩:=J;have e2:a.eval y=.slice none 0 0:=by
    generalize a.eval y=r at ae;cases ae with
    | sl ad cap _ _ T vs O=>rw[O.1,O.2.1,O.2.2]
   have key:∀b,zVb (.sl t xs)=some b->(Op.equal T (a.eval x) (a.eval y)).run C.P X.w=.ok b X.w/\(∃ad len cap,a.eval x=.slice ad len cap):=by
    intro b hb;obtain⟨U,A,D,e1,af⟩:=wUk ah hb;refine⟨?_,_,_,_,e1⟩;rw[e1,e2];subst af;exact run_equal_slice_nil X.w T e U A D J
   cases op<;>simp only[reduceCtorEq] at E
   ·cases hb:zVb (.sl t xs) with
    | none=>simp[hb] at E
    | some b =>
     simp only[hb,Option.map_some,Option.some.injEq] at E;subst E;obtain⟨hq,U,A,D,e1⟩:=key b hb;have hr:(execOp a.eval o).run C.P X.w=.ok (.value (.bool b)) X.w:=by
      unfold execOp;rw[ho];rw[e1,e2] at hq;simp only[e1,e2,Sem.run_bind,yKu (a:=.slice U A D) (by simp) (by simp),Result.andThen_ok,binOp,hq,Sem.run_pure]
     exact yQg hr hnd (hA.val (.raw _ trivial) h)
   ·cases hb:zVb (.sl t xs) with
    | none=>simp[hb] at E
    | some b =>
     simp only[hb,Option.map_some,Option.some.injEq] at E;subst E;obtain⟨hq,U,A,D,e1⟩:=key b hb;have hr:(execOp a.eval o).run C.P X.w=.ok (.value (.bool !b)) X.w:=by
      unfold execOp;rw[ho];rw[e1,e2] at hq;simp only[e1,e2,Sem.run_bind,yKu (a:=.slice U A D) (by simp) (by simp),Result.andThen_ok,binOp,hq,Sem.run_pure]
     exact yQg hr hnd (hA.val (.raw _ trivial) h)
  ·cases E
 ·cases E
theorem xYg {op:UnOp}{T:TypeId}{x:Operand}(J:o.op=.unOp op T x)
  (h:yQ6 (evV C.gl fr x) λx=>yQ6 (unI op x) λz=>finK o.dst K ad fr (.val z) X.st ds):o.wpIn (yZ7 ro) n C.P a X.w (PK C X0 N K) Q:=by
 obtain⟨U,hx,h2⟩:=yQ2.1 h;clear h;obtain⟨O,A,h⟩:=yQ2.1 h2;clear h2;have hnd:∀c,o.op≠.defer c:=by rw[J];intro c hc;cases hc
 have D:=(hA.v hx).1;unfold unI at A;split at A
 ·rename_i b;cases op<;>simp only[reduceCtorEq,Option.some.injEq] at A;subst A;have e:=V.raw_inv D;have E:(execOp a.eval o).run C.P X.w=.ok (.value (.bool !b)) X.w:=by
   unfold execOp;rw[J];simp[e,Op.unary]
  exact yQg E hnd (hA.val (.raw _ trivial) h)
 ·rename_i k m;cases op<;>simp only[reduceCtorEq,Option.some.injEq] at A;subst A;have e:=V.raw_inv D;have E:(execOp a.eval o).run C.P X.w=.ok (.value (.int k (k.wrap (0-m)))) X.w:=by
   unfold execOp;rw[J];simp[e,Op.unary,Op.intArith]
  exact yQg E hnd (hA.val (.raw _ trivial) h)
 ·cases A
theorem zYl {S D:TypeId}{x:Operand}(ho:o.op=.convert S D x)
  (h:yQ6 (evV C.gl fr x) λx=>yQ6 (xZ6 C.P S D x) λz=>finK o.dst K ad fr (.val z) X.st ds):o.wpIn (yZ7 ro) n C.P a X.w (PK C X0 N K) Q:=by
 obtain⟨vx,hx,h2⟩:=yQ2.1 h;clear h;obtain⟨vz,A,h⟩:=yQ2.1 h2;clear h2;have hnd:∀c,o.op≠.defer c:=by rw[ho];intro c hc;cases hc
 have E:=(hA.v hx).1;unfold xZ6 at A;split at A
 ·rename_i t xs;split at A
  ·rename_i J;rw[Option.bind_eq_some_iff] at A;obtain⟨l,hb,A⟩:=A;split at A
   ·cases A
   ·rename_i ab;cases A;have e:=xZd hb;subst e;obtain⟨hc,ac⟩:=wKy E ab J.1 J.2;have U:(execOp a.eval o).run C.P X.w=.ok (.value (.string ⟨l.toArray⟩)) X.w:=by
     unfold execOp;rw[ho];simp only[Sem.run_bind,hc,Result.andThen_ok,Sem.run_pure]
    exact yQg U hnd (hA.val (.raw _ (by show ByteArray.size ⟨l.toArray⟩<=_;simp[ByteArray.size];omega)) h)
  ·cases A
 ·rename_i k m;split at A
  ·rename_i k1 O h1 h2;cases A;have e:=V.raw_inv E;have U:(execOp a.eval o).run C.P X.w=.ok (.value (.int O (O.wrap m))) X.w:=by
    unfold execOp;rw[ho];have hc:(convert S D (.int k m)).run C.P X.w=.ok (.int O (O.wrap m)) X.w:=by
     simp only[convert,Sem.run_bind,run_underlying h1,run_underlying h2,Result.andThen_ok];rfl
    simp only[e,Sem.run_bind,hc,Result.andThen_ok,Sem.run_pure]
   exact yQg U hnd (hA.val (.raw _ trivial) h)
  ·cases A
 ·cases A
end
theorem V.cptr_part {B:Nat}{L:Nat->Nat}{w:World}{A:Addr}{cs:List IV}{ag:Bool}{sz off:Nat}{y:IV}(h:V B L w (.pointer (some A)) (.cptr (.agg cs)))(hp:yK4 ag sz cs off=some y)
  (hy:ag=false->y.cells=[y]):V B L w (.pointer (some (A.add off))) (.cptr y):=by
 cases h with
 | cptr _ _ vs U O hL hc h =>
  rw[yJn A U];simp only[IV.cells_agg] at O h;unfold yK4 at hp;split at hp
  ·rename_i J;split at hp
   ·rename_i ah;cases hp;refine .cptr _ _ ((vs.drop off).take sz) rfl (by simp[IV.cells_agg];omega) (by simp;omega) (λi r hr=>?_) (λi r c hr D=>?_)
    ·grind
    ·rw[IV.cells_agg] at D;grind
   ·cases hp
  ·rename_i J;have E:ag=false:=by simpa using J
   have af:=(lGs hp).1;have ae:vs[off]?=some (vs[off]'(by omega)):=List.getElem?_eq_getElem _;refine .cptr _ _ [vs[off]'(by omega)] rfl (by rw[hy E];rfl) (by simp;omega) (λi r hr=>?_) (λi r c hr D=>?_)
   ·grind
   ·grind
end Go.Iv
namespace Go.Iv
open Go
theorem zGs {P:Program}{T:TypeId}{i D n:Nat}{ag:Bool}(h:fldI P T i=some (D,ag,n)):∃(A:Array Field) (f:Field),P.underlying T=some (.struct A)/\A[i]?=some f/\f.offset=D/\tyI P f.type=some (ag,n)/\0<n:=by
 unfold fldI at h;grind
theorem zU4 {P:Program}{T:TypeId}{len n:Nat}{ag:Bool}(h:arrI P T=some (len,ag,n)):∃e,P.underlying T=some (.array len e)/\tyI P e=some (ag,n):=by
 unfold arrI at h;split at h
 ·rename_i m e A;cases ht:tyI P e with
  | none=>simp[ht] at h
  | some p =>
   grind
 ·cases h
theorem yWj {P:Program}{T e:TypeId}{ag:Bool}{s b:Nat}(h:slI P T=some (e,ag,s,b)):P.underlying T=some (.slice e)/\tyI P e=some (ag,s)/\∃i,P.info? e=some i/\i.zero.isSome=true/\i.bytes=b:=by
 unfold slI at h;split at h
 ·rename_i J E;split at h
  ·rename_i a s' i ht D;split at h
   ·rename_i hs;cases h;exact⟨E,ht,i,D,by cases A:i.zero<;>simp[A] at hs ⊢,rfl⟩
   ·cases h
  ·cases h
 ·cases h
theorem zYn {P:Program}{T e:TypeId}{ag:Bool}{s b:Nat}{i:TypeInfo}(h:slI P T=some (e,ag,s,b))(E:P.info? e=some i):∃z,i.zero=some z/\z.cells.size=s:=by
 unfold slI at h;split at h
 ·split at h
  ·rename_i a s' J ht A;split at h
   ·rename_i hs;cases h;rw[E] at A;cases A;cases D:i.zero with
    | none=>simp[D] at hs
    | some z=>exact⟨z,rfl,by simpa[D] using hs⟩
   ·cases h
  ·cases h
 ·cases h
theorem zVd {P:Program}{f:Field}{ag:Bool}{n:Nat}(ht:tyI P f.type=some (ag,n))(A:0<n)(ad:Addr)(w:World):(fieldPlace ad f).run P w=.ok (ad.add f.offset) w:=by
 have h2:=(yZp ht w).2;have:¬ n=0:=by omega
 simp only[fieldPlace,Sem.run_bind,h2,Result.andThen_ok,if_neg this,Sem.run_pure]
theorem zQ2 {P:Program}{T:TypeId}{k:LenK}(h:lenI P T=some k):(k=.str/\P.underlying T=some .string)\/(k=.sl/\∃e,P.underlying T=some (.slice e))\/(k=.map/\∃a b,P.underlying T=some (.map a b)) \/
  (∃n e,k=.arr n/\P.underlying T=some (.array n e)):=by
 unfold lenI at h;grind
theorem zW3 {B:Nat}{L:Nat->Nat}{w:World}{rs:List Value}{cs:List IV}(hv:VL B L w rs cs){ag:Bool}{n off:Nat}{y:IV}(h:yK4 ag n cs off=some y) :
  ∃r,(ag=true->off+n<=rs.length/\r=.agg ⟨(rs.drop off).take n⟩)/\((ag=false->rs[off]?=some r)/\V B L w r y):=by
 unfold yK4 at h;split at h
 ·rename_i D;split at h
  ·rename_i A;cases h;refine⟨_,λ_=>⟨by rw[hv.1];exact A,rfl⟩,?_,((hv.drop off).take n).agg⟩;grind
  ·cases h
 ·rename_i D;obtain⟨r,J,E⟩:=hv.get h;grind
theorem xV0 {P:Program}{T:TypeId}{ag:Bool}{n:Nat}(ht:tyI P T=some (ag,n))(w:World)(rs:List Value)(off:Nat)(r:Value)
  (h1:ag=true->off+n<=rs.length/\r=.agg ⟨(rs.drop off).take n⟩) (h2:ag=false->rs[off]?=some r):(part T ⟨rs⟩ off).run P w=.ok r w:=by
 obtain⟨A,D⟩:=yZp ht w;cases ag with
 | true =>
  obtain⟨E,rfl⟩:=h1 rfl;have:(⟨rs⟩:Array Value).extract off (off+n)=⟨(rs.drop off).take n⟩:=by
   grind
  simp only[part,Sem.run_bind,A,Result.andThen_ok,if_true,D,Sem.run_pure,this]
 | false =>
  have:(⟨rs⟩:Array Value)[off]?=some r:=by simpa using h2 rfl
  simp only[part,Sem.run_bind,A,Result.andThen_ok,bFt,if_false,this,Sem.run_pure]
theorem yZt {ag:Bool}{n:Nat}{y:IV}(h:fits ag n y=true):(ag=false->y.cells=[y])/\y.cells.length=n/\y.cells.all IV.one=true/\y.def_:=by
 unfold fits at h;split at h
 ·rename_i cs;simp only[bAt,beq_iff_eq] at h;exact⟨λD=>(by rw[D] at h;simp at h),h.1.2,h.2,by simp[IV.def_]⟩
 ·rename_i A;simp only[bAt,Bool.not_eq_true',beq_iff_eq] at h;have hc:=IV.one_cells h.1.2;refine⟨λ_=>hc,by rw[hc];exact h.2.symm,by rw[hc];simp[h.1.2],?_⟩;rintro rfl;simp[IV.one] at h
section
variable {C:Cx}{X0 X:WS}{N:Nat}{fr:Fr}{ds:List Dfd}{a:Act}{ad:Ad}{K:Kt}{ro:Option Nat}{n:Nat}{Q:Exit->Act->World->Prop}{o:Oper}
theorem wKz {r:Value}{E:Tag}{O:List IV}{j:Nat}{y:IV}(hv:C.v X r (.sl E O))(hy:O[j]?=some y):∃(A:Addr) (cap:Nat),r=.slice (some A) O.length cap/\C.v X (.pointer (some (A.add (j*E.es)))) (.cptr y):=by
 cases hv with
 | sl au cap _ _ T vs ak aj ao hs ab ae J D hc =>
  have hj:=(lGs hy).1;have U:=lMg hy;obtain⟨A,rfl,ac,hL,ah⟩:=D (by intro h0;rw[h0] at hj;simp at hj);refine⟨A,cap,rfl,?_⟩;rw[yJn A ac];have ag:∀(l:List IV) (j:Nat) (y:IV),(∀x∈l,x.cells.length=E.es)->l[j]?=some y->∀(i:Nat) (c:IV),y.cells[i]?=some c->(l.flatMap IV.cells)[j*E.es+i]?=some c:=by
   intro l
   induction l with
   | nil=>intro j y _ h;simp at h
   | cons x l ih =>
    intro j y hs h i c an;have hx:=hs x (by simp);rw[List.flatMap_cons];cases j with
    | zero =>
     grind
    | succ j =>
     grind
  have aa:=hs y U;have am:j*E.es+E.es<=vs.length:=by rw[ab,<- Nat.succ_mul];exact Nat.mul_le_mul_right _ hj
  refine .cptr _ _ ((vs.drop (j*E.es)).take E.es) rfl (by rw[aa];simp;omega) (by simp;omega) (λi r hr=>?_) (λi r c hr aq=>?_)
  ·grind
  ·grind
variable (hA:At C X0 N X fr ds a ad o.dst)
include hA
theorem zJc {T:TypeId}{x:Operand}{i:Nat}(ho:o.op=.fieldAddr T x i)
  (h:yQ6 (fldI C.P T i) λf=>yQ6 (evA C.gl ad fr x) λp=>zX6 f p (finK o.dst K ad fr) X.st ds):o.wpIn (yZ7 ro) n C.P a X.w (PK C X0 N K) Q:=by
 obtain⟨⟨fo,ag,sz⟩,hf,h2⟩:=yQ2.1 h;clear h;obtain⟨p,hp,h⟩:=yQ2.1 h2;clear h2;have hnd:∀c,o.op≠.defer c:=by rw[ho];intro c hc;cases hc
 obtain⟨fs,f,hT,aa,rfl,U,hn⟩:=zGs hf;have A:=hA.p hp;have key:∀D:Addr,a.eval x=.pointer (some D)->(execOp a.eval o).run C.P X.w=.ok (.value (.pointer (some (D.add f.offset)))) X.w:=by
  intro D E;unfold execOp;rw[ho];simp only[Instr.fieldAt,Sem.run_bind,run_underlying hT,Result.andThen_ok,aa,E,Instr.sureAddr,Sem.run_pure,zVd U hn]
 cases p with
 | box t off =>
  obtain⟨cs,b,h1,h2,E⟩:=A;have J:=key _ E;rw[yJo] at J;exact yQg J hnd (xJr hA.inv hA.ad hA.hd h1 h2 h)
 | ptr b off =>
  have J:=key _ A;rw[yJo] at J;exact yQg J hnd (hA.val (.raw _ trivial) h)
 | cp z =>
  obtain⟨cs,rfl,h2⟩:=zJ0 h;clear h;obtain⟨y,hy,h3⟩:=yQ2.1 h2;clear h2;obtain⟨O,h⟩:=yQx h3;clear h3;obtain⟨D,E,_⟩:=V.cptr_ptr A;exact yQg (key _ E) hnd (hA.val (V.cptr_part (E▸A) hy (yZt O).1) h)
theorem xXd {T:TypeId}{x:Operand}{i:Nat}(J:o.op=.field T x i)
  (h:yQ6 (fldI C.P T i) λf=>yQ6 (evV C.gl fr x) λx=>aggV x λcs=>yQ6 (yK4 f.2.1 f.2.2 cs f.1) λy=>finK o.dst K ad fr (.val y) X.st ds):o.wpIn (yZ7 ro) n C.P a X.w (PK C X0 N K) Q:=by
 obtain⟨⟨fo,ag,sz⟩,hf,h2⟩:=yQ2.1 h;clear h;obtain⟨z,hz,U⟩:=yQ2.1 h2;clear h2;obtain⟨cs,rfl,O⟩:=zJ0 U;clear U;obtain⟨y,hy,h⟩:=yQ2.1 O;clear O;have hnd:∀c,o.op≠.defer c:=by rw[J];intro c hc;cases hc
 obtain⟨fs,f,hT,E,rfl,D,hn⟩:=zGs hf;obtain⟨rs,he,A⟩:=V.agg_inv (hA.v hz).1;obtain⟨r,h1,h2,hv⟩:=zW3 A hy;have hr:(execOp a.eval o).run C.P X.w=.ok (.value r) X.w:=by
  unfold execOp;rw[J];simp only[Instr.field,Sem.run_bind,run_underlying hT,Result.andThen_ok,E,he,asAgg,Sem.run_pure,xV0 D X.w rs f.offset r h1 h2]
 exact yQg hr hnd (hA.val hv h)
theorem zJb {T:TypeId}{x i:Operand}(ho:o.op=.indexAddr T x i)
  (h:yQ6 (evV C.gl fr i) λi=>intV i λ_ j=>yQ6 (lenI C.P T) λk=>idxV k (slI C.P T) (evV C.gl fr x) (evA C.gl ad fr x) (arrI C.P T) j (finK o.dst K ad fr) X.st ds) :
  o.wpIn (yZ7 ro) n C.P a X.w (PK C X0 N K) Q:=by
 obtain⟨vi,hi,h2⟩:=yQ2.1 h;clear h;obtain⟨k,j,rfl,A⟩:=yKl h2;clear h2;obtain⟨lk,aq,h⟩:=yQ2.1 A;clear A;have hnd:∀c,o.op≠.defer c:=by rw[ho];intro c hc;cases hc
 have ei:=V.raw_inv (hA.v hi).1;rcases zQ2 aq with⟨rfl,_⟩|⟨rfl,e,hT⟩|⟨rfl,_⟩|⟨len,e,rfl,hT⟩
 ·exact h.elim
 ·obtain⟨⟨e',ag,sz,by_⟩,hs,h0⟩:=yQ2.1 h;clear h;obtain⟨vx,hx,h2⟩:=yQ2.1 h0;clear h0;rcases wQb h2 with⟨ao,xs,rfl,A⟩|⟨b,off,m,cap,rfl,A⟩
  case inr =>
   clear h2;obtain⟨hj,h⟩:=yQx A;clear A;have ex:=V.raw_inv (hA.v hx).1;obtain⟨D,J,_⟩:=yWj hs;rw[hT] at D;cases D;have U:(execOp a.eval o).run C.P X.w=.ok (.value (.pointer (some (Addr.add ⟨b,off,none⟩ (j.toNat*sz))))) X.w:=by
    unfold execOp;rw[ho];have h2:=(yZp J X.w).2;have O:0<=j/\j<(m:Int):=⟨hj.1,by omega⟩
    simp only[Instr.indexAt,ei,asIntOf,Sem.run_bind,Sem.run_pure,Result.andThen_ok,run_underlying hT,ex,O,and_self,if_true,h2]
   rw[yJo] at U;exact yQg U hnd (hA.val (.raw _ trivial) h)
  clear h2;obtain⟨ac,A⟩:=yQx A;obtain⟨hj,h4⟩:=yQx A;clear A;obtain⟨y,hy,h⟩:=yQ2.1 h4;clear h4;have ah:=V.reTag (es:=sz) (hA.v hx).1;simp only at ac;generalize reTag sz ao=tg at ac ah;have ai:=(lGs hy).1;obtain⟨E,cap,he,hv⟩:=wKz ah hy;obtain⟨D,J,_⟩:=yWj hs;rw[hT] at D;cases D;rw[ac] at hv;have U:(execOp a.eval o).run C.P X.w=.ok (.value (.pointer (some (E.add (j.toNat*sz))))) X.w:=by
   unfold execOp;rw[ho];have h2:=(yZp J X.w).2;have O:0<=j/\j<(xs.length:Int):=⟨hj,by omega⟩
   simp only[Instr.indexAt,ei,asIntOf,Sem.run_bind,Sem.run_pure,Result.andThen_ok,run_underlying hT,he,O,and_self,if_true,h2]
  exact yQg U hnd (hA.val hv h)
 ·exact h.elim
 ·obtain⟨⟨aw,ag,sz⟩,au,h2⟩:=yQ2.1 h;clear h;obtain⟨p,hp,A⟩:=yQ2.1 h2;clear h2;obtain⟨hj,h⟩:=yQx A;clear A;obtain⟨e',D,J⟩:=zU4 au;rw[hT] at D;cases D;obtain⟨ai,h2⟩:=yQx h;clear h;simp only at ai;have aa:=hA.p hp;have key:∀E:Addr,a.eval x=.pointer (some E)->(execOp a.eval o).run C.P X.w=.ok (.value (.pointer (some (E.add (j.toNat*sz))))) X.w:=by
   intro E he;unfold execOp;rw[ho];have h2:=(yZp J X.w).2;have O:0<=j/\j<(len:Int):=⟨hj,by omega⟩
   simp only[Instr.indexAt,ei,asIntOf,Sem.run_bind,Sem.run_pure,Result.andThen_ok,run_underlying hT,he,Instr.sureAddr,O,and_self,if_true,h2]
  cases p with
  | box t off =>
   obtain⟨cs,b,h1,A,he⟩:=aa;have U:=key _ he;rw[yJo] at U;exact yQg U hnd (xJr hA.inv hA.ad hA.hd h1 A h2)
  | ptr b off =>
   have U:=key _ aa;rw[yJo] at U;exact yQg U hnd (hA.val (.raw _ trivial) h2)
  | cp z =>
   obtain⟨cs,rfl,A⟩:=zJ0 h2;clear h2;obtain⟨y,hy,h4⟩:=yQ2.1 A;clear A;obtain⟨ak,h⟩:=yQx h4;clear h4;obtain⟨E,he,_⟩:=V.cptr_ptr aa;exact yQg (key _ he) hnd (hA.val (V.cptr_part (he▸aa) hy (yZt ak).1) h)
theorem xXc {T:TypeId}{x i:Operand}(ho:o.op=.index T x i)
  (h:yQ6 (evV C.gl fr i) λi=>intV i λ_ j=>yQ6 (lenI C.P T) λk=>yQ6 (evV C.gl fr x) λx=>zK5 k (arrI C.P T) x j (finK o.dst K ad fr) X.st ds) :
  o.wpIn (yZ7 ro) n C.P a X.w (PK C X0 N K) Q:=by
 obtain⟨vi,hi,h2⟩:=yQ2.1 h;clear h;obtain⟨k,j,rfl,A⟩:=yKl h2;clear h2;obtain⟨lk,ae,U⟩:=yQ2.1 A;clear A;obtain⟨vx,hx,h⟩:=yQ2.1 U;clear U;have hnd:∀c,o.op≠.defer c:=by rw[ho];intro c hc;cases hc
 have ei:=V.raw_inv (hA.v hi).1;have D:=(hA.v hx).1;rcases zQ2 ae with⟨rfl,O⟩|⟨rfl,e,O⟩|⟨rfl,_⟩|⟨len,e,rfl,O⟩
 ·obtain⟨v,rfl,h2⟩:=zYs h;clear h;cases v with
  | string s =>
   obtain⟨b,hb,h⟩:=yQ2.1 h2;clear h2;have ex:=V.raw_inv D;have hr:(execOp a.eval o).run C.P X.w=.ok (.value (.int .u8 b.toNat)) X.w:=by
    unfold execOp;rw[ho];unfold xX7 at hb;simp only[Instr.index,ei,ex,asIntOf,Sem.run_bind,Sem.run_pure,Result.andThen_ok,run_underlying O,hb]
   exact yQg hr hnd (hA.val (.raw _ trivial) h)
  | _=>exact h2.elim
 ·exact h.elim
 ·exact h.elim
 ·obtain⟨cs,rfl,h2⟩:=zJ0 h;clear h;obtain⟨⟨ah,ag,sz⟩,af,A⟩:=yQ2.1 h2;clear h2;obtain⟨hj,U⟩:=yQx A;clear A;obtain⟨y,hy,h⟩:=yQ2.1 U;clear U;obtain⟨e',J,E⟩:=zU4 af;rw[O] at J;cases J;obtain⟨rs,ex,aa⟩:=V.agg_inv D;obtain⟨r,h1,h2,hv⟩:=zW3 aa hy;have hr:(execOp a.eval o).run C.P X.w=.ok (.value r) X.w:=by
   unfold execOp;rw[ho];have A:=(yZp E X.w).2;simp only[Instr.index,ei,ex,asIntOf,Sem.run_bind,Sem.run_pure,Result.andThen_ok,run_underlying O,hj,and_self,if_true,A,xV0 E X.w rs _ r h1 h2]
  exact yQg hr hnd (hA.val hv h)
end
