/- The layer of ideal values, part E: opera -/
import Derived.Test.YtabhgbojkjcfjaaGreatDoorJB
import Derived.Laws.Slices
import Derived.Laws.IdiomStrings
import Derived.Laws.Cover3
set_option linter.all false
namespace Go.Iv
open Go
section
variable {C:Cx}{X:WS}
theorem xQx {B:Nat}{L:Nat->Nat}{w:World}{v:Value}{y:IV}(h:xJv v=some y):V B L w v y/\y.def_/\y.one=true:=by
 unfold xJv at h;split at h
 ·cases h
 ·cases h
 ·cases h;exact⟨.sl none 0 ⟨true,.nil,0⟩ [] 0 [] ⟨rfl,rfl,rfl⟩ (by simp) (by simp) (by simp) rfl (λ_ F=>by cases F) (λ_ ad G=>by cases G) (λD=>absurd rfl D) (λi r c A=>by simp at A),by simp[IV.def_],rfl⟩
 ·cases h
 ·split at h
  ·rename_i E;cases h;exact⟨.raw _ E,by simp[IV.def_],rfl⟩
  ·cases h
 ·cases h;exact⟨.fn _ [] [] rfl (λi r c A=>by simp at A) [] [] rfl (λi r c A=>by simp at A),by simp[IV.def_],rfl⟩
 ·cases h
 ·rename_i h1 h2 h3 W U O J;cases h;refine⟨.raw _ ?_,by simp[IV.def_],?_⟩
  ·cases v<;>simp_all [zXc]
  ·cases v<;>simp_all [IV.one]
theorem V.reTag {B:Nat}{L:Nat->Nat}{w:World}{r:Value}{t:Tag}{xs:List IV}{es:Nat}(h:V B L w r (.sl t xs)):V B L w r (.sl (reTag es t) xs):=by
 by_cases U:t.cap=.nil
 ·have e:Iv.reTag es t=⟨t.fresh,.nil,es⟩:=by simp only[Iv.reTag,U]
  rw[e];cases h with
  | sl a cap _ _ T vs A D W hs G J F E hc =>
   rw[U] at A;obtain⟨rfl,h0,rfl⟩:=A;obtain rfl:=List.eq_nil_of_length_eq_zero h0;refine .sl none 0 ⟨t.fresh,.nil,es⟩ [] T vs ⟨rfl,rfl,rfl⟩ D W (by simp) (by simpa using G) (λ_ hg=>by cases hg) (λ_ ad ha=>by cases ha) (λO=>absurd rfl O) (λi r c hr hx=>by simp at hx)
 ·have e:Iv.reTag es t=t:=by
   unfold Iv.reTag;split
   ·exact absurd ‹_› U
   ·rfl
  rw[e];exact h
theorem wV1 {α β:Type}{f:α->Option β}:∀ {l:List α} {A:List β},allI f l=some A->l.length=A.length/\∀(i:Nat) (a:α) (b:β),l[i]?=some a->A[i]?=some b->f a=some b
 | [],A,h=>by simp only[allI,Option.some.injEq] at h;subst h;exact⟨rfl,λi a b J=>by simp at J⟩
 | a::l,A,h=>by
  unfold allI at h;split at h
  ·rename_i b O h1 h2;cases h;obtain⟨G,F⟩:=wV1 h2;refine⟨by simp[G],λi x y E D=>?_⟩;cases i with
   | zero=>simp at E D;subst E;subst D;exact h1
   | succ i=>exact F i x y (by simpa using E) (by simpa using D)
  ·cases h
theorem yU5 {B:Nat}{L:Nat->Nat}{w:World}{v:Value}{y:IV}(h:xQy v=some y):V B L w v y/\y.def_/\y.cells.all IV.one=true:=by
 unfold xQy at h;split at h
 ·rename_i cs;cases E:allI xJv cs.toList with
  | none=>simp[E] at h
  | some l =>
   simp only[E,Option.map_some,Option.some.injEq] at h;subst h;obtain⟨J,G⟩:=wV1 E;have F:cs=⟨cs.toList⟩:=rfl;refine⟨by rw[F];exact .agg _ _ J (λi r c U hc=>(xQx (G i r c U hc)).1),by simp[IV.def_],?_⟩;rw[IV.cells_agg,List.all_eq_true];intro x O;obtain⟨i,hi,A⟩:=List.mem_iff_getElem.1 O;have D:cs.toList[i]?=some (cs.toList[i]'(by omega)):=List.getElem?_eq_getElem _;exact (xQx (B:=0) (L:=λ_=>0) (w:=w) (G i _ x D (by rw[List.getElem?_eq_getElem hi,A]))).2.2
 ·rename_i W;have:=xQx (B:=B) (L:=L) (w:=w) h;exact⟨this.1,this.2.1,by rw[IV.one_cells this.2.2];simp[this.2.2]⟩
theorem wUi {n0:Nat}{r:Value}{s:SV}{y:IV}(h:ivOf s=some y)(A:SlotOk C X n0 r s):C.v X r y/\y.def_:=by
 cases s with
 | box cs=>cases h
 | iv x=>cases x<;>simp only[ivOf,reduceCtorEq,Option.some.injEq] at h<;>subst h<;>exact⟨A,by simp[IV.def_]⟩
theorem wQo {n0:Nat}{fr:Fr}{a:Act}{x:Operand}{y:IV}(E:Good C X)(F:FrOk C X n0 fr a.tmps)(h:evV C.gl fr x=some y):C.v X (a.eval x) y/\y.def_:=by
 cases x with
 | tmp t=>exact wUi h (F.slot t)
 | const v=>exact⟨(yU5 h).1,(yU5 (B:=0) (L:=λ_=>0) (w:=X.w) h).2.1⟩
 | global g =>
  simp only[evV] at h;cases D:C.gl g with
  | none=>simp[D] at h
  | some z =>
   simp only[D,Option.map_some,Option.some.injEq] at h;subst h;exact⟨E.gl g z D,by simp[IV.def_]⟩
 | func f =>
  simp only[evV,Option.some.injEq] at h;subst h;exact⟨.fn _ [] [] rfl (λi r c A=>by simp at A) [] [] rfl (λi r c A=>by simp at A),by simp[IV.def_]⟩
theorem wKi {n0:Nat}{fr:Fr}{a:Act}{l:List Operand}{ys:List IV}(G:Good C X)(J:FrOk C X n0 fr a.tmps)(h:evL C.gl fr l=some ys):C.vl X (l.map a.eval) ys:=by
 obtain⟨F,E⟩:=wV1 h;refine⟨by simpa using F,λi r c A hc=>?_⟩;rw[List.getElem?_map] at A;cases D:l[i]? with
 | none=>simp[D] at A
 | some x =>
  simp only[D,Option.map_some,Option.some.injEq] at A;subst A;exact (wQo G J (E i x c D hc)).1
def PlOk (C:Cx)(X:WS)(fr:Fr)(a:Act)(v:Value):Pl->Prop
 | .box t off=>∃cs b,fr t=.box cs/\tm a.tmps t=.pointer (some ⟨b,0,none⟩)/\v=.pointer (some ⟨b,off,none⟩)
 | .ptr b off=>v=.pointer (some ⟨b,off,none⟩)
 | .cp x=>C.v X v (.cptr x)
theorem uWq {n0:Nat}{fr:Fr}{ad:Ad}{a:Act}{x:Operand}{p:Pl}(J:Good C X)(O:FrOk C X n0 fr a.tmps)(F:AdOk fr a.tmps ad)(h:evA C.gl ad fr x=some p):PlOk C X fr a (a.eval x) p:=by
 cases x with
 | tmp t =>
  simp only[evA] at h;cases D:ad t with
  | some e =>
   obtain⟨s,off⟩:=e;simp only[D,plAd,Option.some.injEq] at h;subst h;obtain⟨cs,b,h1,h2,U⟩:=F t s off D;exact⟨cs,b,h1,h2,U⟩
  | none =>
   simp only[D,plAd] at h;have E:=O.slot t;unfold plOf at h;split at h
   ·rename_i cs A;cases h;rw[A] at E;obtain⟨b,c,T,G,_⟩:=E;exact⟨_,b,A,G,G⟩
   ·rename_i b off A;cases h;rw[A] at E;exact V.raw_inv E
   ·rename_i y A;cases h;rw[A] at E;exact E
   ·cases h
 | global g =>
  simp only[evA] at h;cases D:C.gl g with
  | none=>simp[D] at h
  | some z =>
   simp only[D,Option.map_some,Option.some.injEq] at h;subst h;exact J.gl g z D
 | const v=>cases h
 | func f=>cases h
theorem yJ0 {P:Program}{T:TypeId}{ag:Bool}{n:Nat}(h:tyI P T=some (ag,n))(w:World):(isAgg T).run P w=.ok ag w/\(sizeOf T).run P w=.ok n w:=by
 unfold tyI at h;split at h
 ·rename_i d i hd A;cases h;refine⟨?_,?_⟩
  ·simp only[isAgg,Sem.run_bind,run_underlying hd,Result.andThen_ok];cases d<;>rfl
  ·simp only[sizeOf,Sem.run_bind,run_typeInfo w A,Result.andThen_ok,Sem.run_pure]
 ·cases h
theorem zUb {P:Program}{T:TypeId}{ag:Bool}{n:Nat}(h:tyI P T=some (ag,n)):(P.info? T).map (·.size)=some n:=by
 unfold tyI at h;split at h
 ·rename_i d i hd A;cases h;rw[A];rfl
 ·cases h
theorem zU5 {P:Program}{T:TypeId}{z:IV}(h:yKl P T=some z)(w:World):∃v,(zeroValue T).run P w=.ok v w/\(∀B L w',V B L w' v z)/\z.def_/\z.cells.all IV.one=true:=by
 unfold yKl at h;cases D:P.info? T with
 | none=>simp[D] at h
 | some i =>
  simp only[D,Option.bind_some] at h;cases A:i.zero with
  | none=>simp[A] at h
  | some v =>
   simp only[A,Option.bind_some] at h;refine⟨v,?_,λB L w'=>(yU5 h).1,(yU5 (B:=0) (L:=λ_=>0) (w:=w) h).2.1,(yU5 (B:=0) (L:=λ_=>0) (w:=w) h).2.2⟩;simp only[zeroValue,Sem.run_bind,run_typeInfo w D,Result.andThen_ok,A,Sem.run_pure]
theorem yVx (b o i:Nat):(⟨b,o,none⟩:Addr).add i=⟨b,o+i,none⟩:=by unfold Addr.add;split<;>simp_all
theorem yVk (ad:Addr)(h:ad.spot=none)(i:Nat):ad.add i=⟨ad.block,ad.off+i,none⟩:=by
 obtain⟨b,o,s⟩:=ad;simp only at h;subst h;exact yVx b o i
theorem yZh {w:World}{b:Nat}{c:Array Value}{T:TypeId}{f:Nat×Nat}(h:w.heap[b]?=some (.cells c T f))(i:Nat):w.cell? ⟨b,i,none⟩=c.toList[i]?:=by
 simp[World.cell?,h]
theorem zQg {P:Program}{T:TypeId}{ag:Bool}{n:Nat}(F:tyI P T=some (ag,n))(w:World)(a:Addr)(rs:List Value)
  (hc:∀(i:Nat) (v:Value),rs[i]?=some v->w.cell? (a.add i)=some v) :
  (ag=true->rs.length=n->(loadVar T a).run P w=.ok (.agg ⟨rs⟩) w)/\(ag=false->∀v,rs[0]?=some v->(loadVar T a).run P w=.ok v w):=by
 obtain⟨h1,h2⟩:=yJ0 F w;refine⟨λA G=>?_,λA v E=>?_⟩
 ·subst A;subst G;have J:=run_loadCells_list (P:=P) w a rs hc;simp only[loadVar,Sem.run_bind,h1,Result.andThen_ok,if_true,h2,J,Sem.run_pure]
 ·subst A;have D:=hc 0 v E;have O:a.add 0=a:=by simp[Addr.add]
  rw[O] at D;simp only[loadVar,Sem.run_bind,h1,Result.andThen_ok,bFt,if_false,run_load,D]
theorem zK1 {T:TypeId}{ag:Bool}{n b off:Nat}{c:Array Value}{E:TypeId}{f:Nat×Nat}{cs:List IV}{y:IV}(U:tyI C.P T=some (ag,n))(W:X.w.heap[b]?=some (.cells c E f))(O:C.vl X c.toList cs)
  (hp:yVd ag n cs off=some y):∃v,(loadVar T ⟨b,off,none⟩).run C.P X.w=.ok v X.w/\C.v X v y:=by
 unfold yVd at hp;have G:=O.drop off;split at hp
 ·rename_i D;split at hp
  ·rename_i ab;cases hp;have F:=G.take n;refine⟨_,(zQg U X.w ⟨b,off,none⟩ ((c.toList.drop off).take n) (λi v A=>?_)).1 D (by rw[F.1,List.length_take,List.length_drop];omega),F.agg⟩;rw[yVx,yZh W];rw[List.getElem?_take] at A;split at A
   ·rw[List.getElem?_drop] at A;exact A
   ·cases A
  ·cases hp
 ·rename_i D;obtain⟨r,hr,J⟩:=O.get hp;refine⟨r,(zQg U X.w ⟨b,off,none⟩ (c.toList.drop off) (λi v A=>?_)).2 (by simpa using D) r (by rw[List.getElem?_drop];simpa using hr),J⟩;rw[yVx,yZh W];rw[List.getElem?_drop] at A;exact A
theorem wJ4 {T:TypeId}{ag:Bool}{n:Nat}{ad:Addr}{y:IV}(ht:tyI C.P T=some (ag,n))(hv:C.v X (.pointer (some ad)) (.cptr y))(A:fits ag n y=true) :
  ∃v,(loadVar T ad).run C.P X.w=.ok v X.w/\C.v X v y:=by
 cases hv with
 | cptr _ _ vs G F hL hc h =>
  have E:∀(i:Nat) (v:Value),vs[i]?=some v->X.w.cell? (ad.add i)=some v:=λi v hi=>by rw[yVk ad G];exact hc i v hi
  obtain⟨W,U⟩:=zQg ht X.w ad vs E;have D:C.vl X vs y.cells:=⟨F,h⟩
  unfold fits at A;split at A
  ·rename_i cs;simp only[bAt,beq_iff_eq] at A;exact⟨_,W A.1.1 (by rw[F];exact A.1.2),D.agg⟩
  ·rename_i ae;simp only[bAt,Bool.not_eq_true',beq_iff_eq] at A;have O:=IV.one_cells A.1.2;rw[O] at D;obtain⟨r,hr,J⟩:=D.get (i:=0) (c:=y) rfl;exact⟨r,U A.1.1 r hr,J⟩
theorem V.cptr_ptr {B:Nat}{L:Nat->Nat}{w:World}{r:Value}{x:IV}(h:V B L w r (.cptr x)):∃ad,r=.pointer (some ad)/\ad.spot=none:=by
 cases h with
 | cptr ad _ _ A=>exact⟨ad,rfl,A⟩
theorem zZy {rs:List Value}{cs:List IV}(D:C.vl X rs cs)(h:cs.all IV.one=true):∀v∈rs,v.oneCell'=true:=by
 intro v G;obtain⟨i,E,A⟩:=List.mem_iff_getElem.1 G;have F:rs[i]?=some v:=by rw[List.getElem?_eq_getElem E,A]
 have hc:cs[i]?=some (cs[i]'(by rw[<- D.1];exact E)):=List.getElem?_eq_getElem _;have h1:=V.flat (D.2 i _ _ F hc) (List.all_eq_true.1 h _ (List.getElem_mem _));cases v<;>first|rfl|simp[Value.flat] at h1
theorem zJ4 {T:TypeId}{ag:Bool}{b off:Nat}{c:Array Value}{E:TypeId}{v:Value}{y:IV}(O:tyI C.P T=some (ag,y.cells.length))(W:X.w.heap[b]?=some (.cells c E (0,0)))
  (J:C.v X v y) (hd:y.def_) (h1:y.cells.all IV.one=true) (U:off+y.cells.length<=c.size) :
  (storeVar T ⟨b,off,none⟩ v).run C.P X.w=.ok () (X.w.setRow b (c.toList.take off++v.cells.toList++c.toList.drop (off+v.cells.toList.length)).toArray)/\C.vl X v.cells.toList y.cells:=by
 have G:∀u,y≠.raw (.agg u):=by
  rintro u rfl;simp[IV.cells,IV.one] at h1
 have A:=V.cells J G hd;refine⟨?_,A⟩;have h2:=(yJ0 O X.w).2;have D:v.cells.size=y.cells.length:=by rw[<- A.1];simp
 have F:=run_storeCells_at (P:=C.P) b off E v.cells.toList 0 c X.w W (by rw[A.1];omega) (zZy A h1);simp only[storeVar,Sem.run_bind,h2,Result.andThen_ok,D,ne_eq,nTf,if_false,F];simp
theorem zZ2 {rs:List Value}{cs:List IV}{off:Nat}{vs:List Value}{ys:List IV}(h:C.vl X rs cs)(A:C.vl X vs ys) :
  C.vl X (rs.take off++vs++rs.drop (off+vs.length)) (yXb cs off ys):=by
 unfold yXb;rw[A.1];exact ((h.take off).append A).append (h.drop _)
end
def PK (C:Cx)(X0:WS)(N:Nat)(K:Kt)(a:Act)(w:World):Prop :=
 ∃X ad fr ds,X.w=w/\Inv C X0 N X fr ds a/\AdOk fr a.tmps ad/\K ad fr X.st ds
section
variable {C:Cx}{X0 X:WS}{N:Nat}{fr:Fr}{ds:List Dfd}{a:Act}{ad:Ad}{dst:Option Nat}{K:Kt}
theorem yXi {x:IV}{v:Value}(D:Inv C X0 N X fr ds a)(A:AdOk fr a.tmps ad)(hd:∀d,dst=some d->d<N)(E:C.v X v x)
  (h:finK dst K ad fr (.val x) X.st ds):PK C X0 N K (a.put dst v) X.w:=by
 cases dst with
 | none=>exact⟨X,ad,fr,ds,rfl,D,A,h⟩
 | some d=>exact⟨X,_,_,ds,rfl,D.put (hd d rfl) E,A.put d v _,h⟩
theorem xW0 {t off b:Nat}{cs:List IV}(E:Inv C X0 N X fr ds a)(A:AdOk fr a.tmps ad)(hd:∀d,dst=some d->d<N)(F:fr t=.box cs)
  (G:tm a.tmps t=.pointer (some ⟨b,0,none⟩)) (h:finK dst K ad fr (.adr t off) X.st ds):PK C X0 N K (a.put dst (.pointer (some ⟨b,off,none⟩))) X.w:=by
 cases dst with
 | none=>exact⟨X,ad,fr,ds,rfl,E,A,h⟩
 | some d =>
  simp only[finK] at h;split at h
  ·exact h.elim
  ·rename_i D;exact⟨X,_,_,ds,rfl,E.put (hd d rfl) (.junk _),A.adr (by rw[E.size];exact hd d rfl) D F G _,h⟩
theorem vX3 {c:Array Value}{T:TypeId}{cs:List IV}(E:Inv C X0 N X fr ds a)(A:AdOk fr a.tmps ad)(hd:∀d,dst=some d->d<N)(D:C.vl X c.toList cs)
  (h:finK dst K ad fr (.box cs) X.st ds):PK C X0 N K (a.put dst (.pointer (some ⟨X.w.heap.size,0,none⟩))) (X.w.alloc (.cells c T)):=by
 cases dst with
 | none=>exact h.elim
 | some d=>exact⟨{ X with w:=X.w.alloc (.cells c T) },_,_,ds,rfl,E.box (hd d rfl) c T D,A.put d _ _,h⟩
theorem vX2 (D:Inv C X0 N X fr ds a)(A:AdOk fr a.tmps ad)(h:finK dst K ad fr .nop X.st ds):PK C X0 N K (a.put dst undef) X.w:=by
 cases dst with
 | some _=>exact h.elim
 | none=>exact⟨X,ad,fr,ds,rfl,D,A,h⟩
theorem wUq {p:Pl}{v:Value}(D:Inv C X0 N X fr ds a)(A:AdOk fr a.tmps ad)(hd:∀d,dst=some d->d<N)(hp:PlOk C X fr a v p)
  (h:plR p (finK dst K ad fr) X.st ds):PK C X0 N K (a.put dst v) X.w:=by
 cases p with
 | box t off =>
  obtain⟨cs,b,h1,h2,rfl⟩:=hp;exact xW0 D A hd h1 h2 h
 | ptr b off =>
  obtain rfl:=hp;exact yXi D A hd (.raw _ trivial) h
 | cp x=>exact yXi D A hd hp h
end
end Go.Iv
namespace Go.Iv
open Go
def yZo (ro:Option Nat):Fence:={ Fence.wide with round:=ro }
section
variable {C:Cx}{X0 X:WS}{N:Nat}{fr:Fr}{ds:List Dfd}{a:Act}{ad:Ad}{K:Kt}{ro:Option Nat}{n:Nat}{Q:Exit->Act->World->Prop}{o:Oper}
theorem yQh {v:Value}{w':World}(D:(execOp a.eval o).run C.P X.w=.ok (.value v) w')(A:∀c,o.op≠.defer c)(h:PK C X0 N K (a.put o.dst v) w') :
  o.wpIn (yZo ro) n C.P a X.w (PK C X0 N K) Q:=by
 refine⟨λ_ _=>trivial,?_⟩;rw[Oper.semAt_eq _ _ _ A,D];exact h
theorem xV9 {w':World}(D:(execOp a.eval o).run C.P X.w=.ok .skip w')(A:∀c,o.op≠.defer c)(h:PK C X0 N K (a.put o.dst undef) w') :
  o.wpIn (yZo ro) n C.P a X.w (PK C X0 N K) Q:=by
 refine⟨λ_ _=>trivial,?_⟩;rw[Oper.semAt_eq _ _ _ A,D];exact h
structure At (C:Cx)(X0:WS)(N:Nat)(X:WS)(fr:Fr)(ds:List Dfd)(a:Act)(ad:Ad)(dst:Option Nat):Prop where
 inv:Inv C X0 N X fr ds a
 ad:AdOk fr a.tmps ad
 hd:∀d,dst=some d->d<N
variable (hA:At C X0 N X fr ds a ad o.dst)
include hA
theorem At.v {x:Operand}{y:IV}(h:evV C.gl fr x=some y):C.v X (a.eval x) y/\y.def_:=wQo hA.inv.good hA.inv.fr h
theorem At.p {x:Operand}{p:Pl}(h:evA C.gl ad fr x=some p):PlOk C X fr a (a.eval x) p:=uWq hA.inv.good hA.inv.fr hA.ad h
theorem At.val {x:IV}{v:Value}(A:C.v X v x)(h:finK o.dst K ad fr (.val x) X.st ds):PK C X0 N K (a.put o.dst v) X.w:=yXi hA.inv hA.ad hA.hd A h
theorem zYp {x:Operand}{dr:Bool}(A:o.op=.move x\/o.op=.assign x)(h:zXf dr (evV C.gl fr x) (evA C.gl ad fr x) (finK o.dst K ad fr) X.st ds) :
  o.wpIn (yZo ro) n C.P a X.w (PK C X0 N K) Q:=by
 refine yQh (v:=a.eval x) (w':=X.w) (by unfold execOp;rcases A with A|A<;>rw[A]<;>rfl) (by rcases A with A|A<;>rw[A]<;>intro c hc<;>cases hc) ?_;unfold zXf at h;split at h
 ·rename_i y D;exact hA.val (hA.v D).1 h
 ·split at h
  ·exact h.elim
  ·obtain⟨p,hp,h⟩:=yQ5.1 h;exact wUq hA.inv hA.ad hA.hd (hA.p hp) h
end
section
theorem zXq {y:IV}(h1:y.cells.all IV.one=true):∀u,y≠.raw (.agg u):=by
 rintro u rfl;simp[IV.cells,IV.one] at h1
theorem yVv {s:IV}{f:IntKind->Int->Prop}(h:intV s f):∃k n,s=.raw (.int k n)/\f k n:=by
 unfold intV at h;split at h
 ·exact⟨_,_,rfl,h⟩
 ·exact h.elim
theorem zGy {s:IV}{f:Bool->Prop}(h:zJu s f):∃b,s=.raw (.bool b)/\f b:=by
 unfold zJu at h;split at h
 ·exact⟨_,rfl,h⟩
 ·exact h.elim
theorem xKx {s:IV}{f:Tag->List IV->Prop}(h:slV s f):∃t A,s=.sl t A/\f t A:=by
 unfold slV at h;split at h
 ·exact⟨_,_,rfl,h⟩
 ·exact h.elim
theorem wZw {s:IV}{f:Tag->List IV->Prop}{g:Nat->Nat->Nat->Prop}(h:slX s f g):(∃t A,s=.sl t A/\f t A)\/∃b off n cap,s=.raw (.slice (some ⟨b,off,none⟩) n cap)/\g b off n:=by
 unfold slX at h;split at h
 ·exact .inl ⟨_,_,rfl,h⟩
 ·exact .inr ⟨_,_,_,_,rfl,h⟩
 ·exact h.elim
theorem zUn {s:IV}{f:Tag->List IV->Prop}{g:Nat->Nat->Nat->Nat->Prop}(h:slY s f g):(∃t A,s=.sl t A/\f t A)\/∃b off n cap,s=.raw (.slice (some ⟨b,off,none⟩) n cap)/\g b off n cap:=by
 unfold slY at h;split at h
 ·exact .inl ⟨_,_,rfl,h⟩
 ·exact .inr ⟨_,_,_,_,rfl,h⟩
 ·exact h.elim
theorem zKd {s:IV}{f:List IV->Prop}(h:aggV s f):∃A,s=.agg A/\f A:=by
 unfold aggV at h;split at h
 ·exact⟨_,rfl,h⟩
 ·exact h.elim
theorem wVu {s:IV}{f:List IV->Prop}(h:tupV s f):∃A,s=.tup A/\f A:=by
 unfold tupV at h;split at h
 ·exact⟨_,rfl,h⟩
 ·exact h.elim
theorem xVx {s:IV}{f:Fn->List IV->List IV->Prop}(h:fnV s f):∃g x y,s=.fn g x y/\f g x y:=by
 unfold fnV at h;split at h
 ·exact⟨_,_,_,rfl,h⟩
 ·exact h.elim
theorem zJz {s:IV}{f:Option Nat->Prop}(h:mapV s f):∃m,s=.raw (.map m)/\f m:=by
 unfold mapV at h;split at h
 ·exact⟨_,rfl,h⟩
 ·exact h.elim
theorem zUr {s:IV}{f:Value->Prop}(h:rawV s f):∃v,s=.raw v/\f v:=by
 unfold rawV at h;split at h
 ·exact⟨_,rfl,h⟩
 ·exact h.elim
theorem xYz {B:Nat}{L:Nat->Nat}{w:World}{r:Value}{x:IV}{f:Value->Prop}(A:V B L w r x)(h:keyV x f):f r:=by
 unfold keyV at h;split at h
 ·rw[V.raw_inv A];exact h
 ·rename_i s k n;cases A with
  | agg rs cs F D =>
   match rs,F with
   | [a,b],_ =>
    have h1:=D 0 a _ rfl rfl;have h2:=V.raw_inv (D 1 b _ rfl rfl);have G:=V.raw_inv h1;subst h2;subst G;cases h1 with
    | raw _ E=>exact h E
 ·exact h.elim
theorem xGu {s:IV}{f:Nat->Prop}(h:adrV s f):∃b,s=.raw (.pointer (some ⟨b,0,none⟩))/\f b:=by
 unfold adrV at h;split at h
 ·exact⟨_,rfl,h⟩
 ·exact h.elim
theorem wJp {s:IObj}{f:Nat->Nat->Array Nat->Nat->Prop}(h:itO s f):∃m e n c,s=.iter m e n c/\f m e n c:=by
 unfold itO at h;split at h
 ·exact⟨_,_,_,_,rfl,h⟩
 ·exact h.elim
theorem xVc {s:IObj}{f:Array MapEntry->Nat->Prop}(h:mxO s f):∃e c,s=.mapx e c/\f e c:=by
 unfold mxO at h;split at h
 ·exact⟨_,_,rfl,h⟩
 ·exact h.elim
theorem xQ5 {s:IObj}{f:List IV->Prop}(h:obV s f):∃cs,s=.box cs/\f cs:=by
 unfold obV at h;split at h
 ·exact⟨_,rfl,h⟩
 ·exact h.elim
theorem xVa {s:IObj}{f:KeyK->List (Value×IV)->Prop}(h:omV s f):∃k cs,s=.map k cs/\f k cs:=by
 unfold omV at h;split at h
 ·exact⟨_,_,rfl,h⟩
 ·exact h.elim
theorem yZ6 {c q:Prop} [Decidable c](h:if c then q else False):c/\q:=by
 split at h
 ·exact⟨‹_›,h⟩
 ·exact h.elim
theorem yKa {c q:Prop} [Decidable c](h:if c then False else q):¬ c/\q:=by
 split at h
 ·exact h.elim
 ·exact⟨‹_›,h⟩
end
section
variable {C:Cx}{X0 X:WS}{N:Nat}{fr:Fr}{ds:List Dfd}{a:Act}{ad:Ad}{K:Kt}{ro:Option Nat}{n:Nat}{Q:Exit->Act->World->Prop}{o:Oper}
variable (hA:At C X0 N X fr ds a ad o.dst)
include hA
theorem xUd {b x y:Operand}(D:o.op=.pick b x y)
  (h:yQ8 (evV C.gl fr b) λb=>zJu b λb=>yU6 b (yQ8 (evV C.gl fr x) λx=>finK o.dst K ad fr (.val x) X.st ds) (yQ8 (evV C.gl fr y) λy=>finK o.dst K ad fr (.val y) X.st ds) .mk .mk) :
  o.wpIn (yZo ro) n C.P a X.w (PK C X0 N K) Q:=by
 obtain⟨J,G,h⟩:=yQ5.1 h;obtain⟨t,rfl,h⟩:=zGy h;have F:=V.raw_inv (hA.v G).1;have E:(execOp a.eval o).run C.P X.w=.ok (.value (if t=true then a.eval x else a.eval y)) X.w:=by
  unfold execOp;rw[D];simp[F,asBool]
 refine yQh E (by rw[D];intro c hc;cases hc) ?_;cases t with
 | true =>
  obtain⟨z,A,h⟩:=yQ5.1 (h.1 rfl);exact hA.val (hA.v A).1 h
 | false =>
  obtain⟨z,A,h⟩:=yQ5.1 (h.2 rfl);exact hA.val (hA.v A).1 h
theorem zJ3 {esc:List Nat}{v:Value}{T:TypeId}{y:List IV}(E:C.vl X v.cells.toList y)(h:yG6 esc o.dst y (finK o.dst K ad fr) X.st ds) :
  PK C X0 N K (a.put o.dst (.pointer (some ⟨X.w.heap.size,0,none⟩))) (X.w.alloc (.cells v.cells T)):=by
 unfold yG6 at h;cases hd:o.dst with
 | none=>rw[hd] at h;exact h.elim
 | some d =>
  rw[hd] at h;simp only at h;split at h
  ·have A:X.st X.w.heap.size=none:=by
    cases F:X.st X.w.heap.size with
    | none=>rfl
    | some o=>have:=hA.inv.good.lt F;omega
   have h:=h X.w.heap.size A;have J:=hA.inv.new (.cells v.cells T) 0 (some (.box y)) (λi G=>by
    cases G;exact⟨by simp[WS.new],v.cells,T,yQr _ _,(hA.inv.good.new_ext _ 0 _).vl E⟩)
   have:=yXi (dst:=some d) (K:=K) (x:=.raw (.pointer (some ⟨X.w.heap.size,0,none⟩))) (v:=.pointer (some ⟨X.w.heap.size,0,none⟩)) J hA.ad (λe D=>hA.hd e (by rw[hd];exact D)) (.raw _ trivial) h;exact this
  ·exact vX3 (dst:=some d) hA.inv hA.ad (λe D=>hA.hd e (by rw[hd];exact D)) E h
theorem xKu {esc:List Nat}{T:TypeId}(D:o.op=.alloc T)(h:yQ8 (yKl C.P T) λz=>yG6 esc o.dst z.cells (finK o.dst K ad fr) X.st ds) :
  o.wpIn (yZo ro) n C.P a X.w (PK C X0 N K) Q:=by
 obtain⟨z,E,h⟩:=yQ5.1 h;obtain⟨v,A,F,hd,h1⟩:=zU5 E X.w;have G:(execOp a.eval o).run C.P X.w=.ok (.value (.pointer (some ⟨X.w.heap.size,0,none⟩))) (X.w.alloc (.cells v.cells T)):=by
  unfold execOp;rw[D];simp[Instr.alloc,A,newVar,newRow]
 exact yQh G (by rw[D];intro c hc;cases hc) (zJ3 hA (V.cells (F _ _ _) (zXq h1) hd) h)
theorem zUi {frz esc:List Nat}{v:Value}{T:TypeId}{y:IV}(O:C.vl X v.cells.toList y.cells)(h:yYt frz esc o.dst y (finK o.dst K ad fr) X.st ds) :
  PK C X0 N K (a.put o.dst (.pointer (some ⟨X.w.heap.size,0,none⟩))) (X.w.alloc (.cells v.cells T)):=by
 unfold yYt at h;cases hd:o.dst with
 | none=>rw[hd] at h;exact h.elim
 | some d =>
  rw[hd] at h;simp only at h;split at h
  ·have A:X.st X.w.heap.size=none:=by
    cases U:X.st X.w.heap.size with
    | none=>rfl
    | some o=>have:=hA.inv.good.lt U;omega
   have hI:=hA.inv.new (.cells v.cells T) v.cells.size none (λi W=>by cases W);have F:(X.new (.cells v.cells T) v.cells.size none).st=X.st:=by
    funext b;simp only[WS.new];split
    ·rename_i hb;rw[hb,A]
    ·rfl
   rw[<- F] at h;have E:=hA.inv.good.new_ext (.cells v.cells T) v.cells.size none;have D:=E.vl O;have J:C.v (X.new (.cells v.cells T) v.cells.size none) (.pointer (some ⟨X.w.heap.size,0,none⟩)) (.cptr y):=by
    refine .cptr _ y v.cells.toList rfl D.1 ?_ (λi r G=>?_) (λi r c G hc=>D.2 i r c G hc)
    ·simp[WS.new]
    ·have h1:=yQr X.w (.cells v.cells T);have h2:(X.new (.cells v.cells T) v.cells.size none).w=X.w.alloc (.cells v.cells T):=rfl;rw[h2];simp only[World.cell?,h1,Nat.zero_add,Option.isSome_none,bFt,if_false];simpa using G
   have:=yXi (dst:=some d) (K:=K) (x:=.cptr y) (v:=.pointer (some ⟨X.w.heap.size,0,none⟩)) hI hA.ad (λe he=>hA.hd e (by rw[hd];exact he)) J h;exact this
  ·have:=zJ3 (v:=v) (T:=T) (esc:=esc) hA O (by rw[hd];exact h);rw[hd] at this;exact this
theorem wZs {frz esc:List Nat}{T:TypeId}{x:Operand}(D:o.op=.box T x)
  (h:yQ8 (tyI C.P T) λ_=>yQ8 (evV C.gl fr x) λy=>chk (y.cells.all IV.one=true) (yYt frz esc o.dst y (finK o.dst K ad fr) X.st ds)) :
  o.wpIn (yZo ro) n C.P a X.w (PK C X0 N K) Q:=by
 obtain⟨i,_,h⟩:=yQ5.1 h;obtain⟨y,A,h1,h⟩:=yQ5.1 h;have E:(execOp a.eval o).run C.P X.w=.ok (.value (.pointer (some ⟨X.w.heap.size,0,none⟩))) (X.w.alloc (.cells (a.eval x).cells T)):=by
  unfold execOp;rw[D];simp[Instr.box,newVar,newRow]
 exact yQh E (by rw[D];intro c hc;cases hc) (zUi hA (V.cells (hA.v A).1 (zXq h1) (hA.v A).2) h)
theorem xUf {dr:Bool}{T:TypeId}{x:Operand}(ho:o.op=.load T x)
  (h:yQ8 (tyI C.P T) λi=>yQ8 (evA C.gl ad fr x) λp=>zZe dr i.1 i.2 p fr (finK o.dst K ad fr) X.st ds) :
  o.wpIn (yZo ro) n C.P a X.w (PK C X0 N K) Q:=by
 obtain⟨⟨ag,sz⟩,ht,h⟩:=yQ5.1 h;obtain⟨p,hp,h⟩:=yQ5.1 h;have D:=hA.p hp;have key:∀(A:Addr) (v:Value),a.eval x=.pointer (some A)->(loadVar T A).run C.P X.w=.ok v X.w->(execOp a.eval o).run C.P X.w=.ok (.value v) X.w:=by
  intro A v O J;unfold execOp;rw[ho];simp only[Instr.loadAt,O,Instr.sureAddr,Sem.run_bind,Sem.run_pure,Result.andThen_ok,J]
 have G:∀c,o.op≠.defer c:=by rw[ho];intro c hc;cases hc
 cases p with
 | box t off =>
  obtain⟨cs,b,aa,hb,O⟩:=D;simp only[zZe,aa] at h;obtain⟨y,hy,h⟩:=yQ5.1 h;have hs:=hA.inv.fr.slot t;rw[aa] at hs;obtain⟨b',c,E,hr,hh,F,_⟩:=hs;rw[hb] at hr;cases hr;obtain⟨v,J,U⟩:=zK1 ht hh F hy;exact yQh (key _ v O J) G (hA.val U h)
 | ptr b off =>
  obtain⟨_,h⟩:=yKa h;obtain⟨ob,ae,h⟩:=yQ5.1 h;obtain⟨cs,rfl,h⟩:=xQ5 h;obtain⟨y,hy,h⟩:=yQ5.1 h;obtain⟨_,c,E,hh,F⟩:=hA.inv.good.ok b _ ae;obtain⟨v,J,U⟩:=zK1 ht hh F hy;exact yQh (key _ v D J) G (hA.val U h)
 | cp y =>
  obtain⟨hf,h⟩:=yZ6 h;obtain⟨A,O,_⟩:=V.cptr_ptr D;have W:C.v X (.pointer (some A)) (.cptr y):=O▸D;obtain⟨v,J,U⟩:=wJ4 ht W hf;exact yQh (key _ v O J) G (hA.val U h)
theorem xKk {T:TypeId}{x v:Operand}(ho:o.op=.store T x v)
  (h:yQ8 (tyI C.P T) λi=>yQ8 (evV C.gl fr v) λy=>chk (y.cells.length=i.2/\y.cells.all IV.one=true) (yQ8 (evA C.gl ad fr x) λp=>yGh y.cells p fr (finK o.dst K ad fr) X.st ds)) :
  o.wpIn (yZo ro) n C.P a X.w (PK C X0 N K) Q:=by
 obtain⟨⟨ag,sz⟩,ht,h⟩:=yQ5.1 h;obtain⟨y,hy,⟨ae,h1⟩,h⟩:=yQ5.1 h;obtain⟨p,hp,h⟩:=yQ5.1 h;simp only at ae;subst ae;have af:=hA.p hp;obtain⟨hv,J⟩:=hA.v hy;have key:∀(ac:Addr) (w':World),a.eval x=.pointer (some ac)->(storeVar T ac (a.eval v)).run C.P X.w=.ok () w'->(execOp a.eval o).run C.P X.w=.ok .skip w':=by
  intro ac w' he hl;unfold execOp;rw[ho];simp only[Instr.storeAt,he,Instr.sureAddr,Sem.run_bind,Sem.run_pure,Result.andThen_ok,hl]
 have ai:∀c,o.op≠.defer c:=by rw[ho];intro c hc;cases hc
 cases p with
 | box t off =>
  obtain⟨cs,b,aa,hb,he⟩:=af;simp only[yGh,aa] at h;obtain⟨U,h⟩:=yZ6 h;have hs:=hA.inv.fr.slot t;rw[aa] at hs;obtain⟨b',c,E,hr,W,A,_⟩:=hs;rw[hb] at hr;cases hr;have ab:c.size=cs.length:=by rw[<- A.1];simp
  obtain⟨O,D⟩:=zJ4 ht W hv J h1 (off:=off) (by rw[ab];exact U);refine xV9 (key _ _ he O) ai ?_;cases hd:o.dst with
  | some d=>rw[hd] at h;exact h.elim
  | none =>
   rw[hd] at h;have hI:=hA.inv.own aa hb W (cs':=(c.toList.take off++(a.eval v).cells.toList++c.toList.drop (off+(a.eval v).cells.toList.length)).toArray) (new:=yXb cs off y.cells) (by simp;have:=D.1;simp at this;omega)
    (by simpa using zZ2 A D)
   exact⟨_,ad,_,ds,rfl,hI,hA.ad.own _,h⟩
 | ptr b off =>
  obtain⟨ob,ah,h⟩:=yQ5.1 h;obtain⟨cs,rfl,h⟩:=xQ5 h;obtain⟨U,h⟩:=yZ6 h;obtain⟨hL,c,E,W,A⟩:=hA.inv.good.ok b _ ah;have ab:c.size=cs.length:=by rw[<- A.1];simp
  obtain⟨O,D⟩:=zJ4 ht W hv J h1 (off:=off) (by rw[ab];exact U);refine xV9 (key _ _ af O) ai ?_;have G:∀c':Array Value,c'=c->(c.toList.take off++(a.eval v).cells.toList++c.toList.drop (off+(a.eval v).cells.toList.length)).toArray.size=c'.size:=by
   rintro _ rfl;simp;have:=D.1;simp at this;omega
  have F:∀i,i<X.L b->((c.toList.take off++(a.eval v).cells.toList++c.toList.drop (off+(a.eval v).cells.toList.length)).toArray)[i]?=c[i]?:=λi hi=>by rw[hL] at hi;omega
  have hI:=hA.inv.row W (G c rfl) (n:=0) (so:=some (.box (yXb cs off y.cells))) (by omega) F (by rw[ah];simp) (λi hi=>by
   cases hi;refine⟨by simp[WS.row],_,E,setRow_heap X.w b c _ E (0,0) W,?_⟩;have:=zZ2 A D (off:=off);exact⟨by simpa using this.1,λi r z hr hz=>zKz W (G c rfl) (by omega) F (this.2 i r z (by simpa using hr) hz)⟩)
  cases hd:o.dst with
  | some d=>rw[hd] at h;exact h.elim
  | none =>
   rw[hd] at h;exact⟨_,ad,_,ds,rfl,hI,hA.ad,h⟩
 | cp y=>exact h.elim
theorem zY2 {dr:Bool}{x:Operand}(ho:o.op=.nilCheck x)(h:nilV (evV C.gl fr x) (evA C.gl ad fr x) dr (finK o.dst K ad fr) X.st ds) :
  o.wpIn (yZo ro) n C.P a X.w (PK C X0 N K) Q:=by
 have E:∀c,o.op≠.defer c:=by rw[ho];intro c hc;cases hc
 have G:(yQ8 (evA C.gl ad fr x) λp=>plR p (finK o.dst K ad fr) X.st ds)->o.wpIn (yZo ro) n C.P a X.w (PK C X0 N K) Q:=λh=>by
  obtain⟨p,hp,h⟩:=yQ5.1 h;have D:=hA.p hp;have W:∃F,a.eval x=.pointer (some F):=by
   cases p with
   | box t off=>obtain⟨_,_,_,_,A⟩:=D;exact⟨_,A⟩
   | ptr b off=>exact⟨_,D⟩
   | cp y=>obtain⟨F,A,_⟩:=V.cptr_ptr D;exact⟨_,A⟩
  obtain⟨F,A⟩:=W;have J:(execOp a.eval o).run C.P X.w=.ok (.value (a.eval x)) X.w:=by
   unfold execOp;rw[ho];simp only[A];rfl
  exact yQh J E (wUq hA.inv hA.ad hA.hd D h)
 unfold nilV at h;split at h
 ·rename_i f first ac O
  obtain⟨hf,h⟩:=yZ6 h;have U:=(hA.v O).1;obtain⟨rs,ae,A,_⟩:=V.fn_inv U;have J:(execOp a.eval o).run C.P X.w=.ok (.value (a.eval x)) X.w:=by
   unfold execOp;rw[ho];simp only[A];cases f<;>first|rfl|simp[fnOk] at hf
  exact yQh J E (hA.val U h)
 ·rename_i y O;have U:=(hA.v O).1;obtain⟨F,A,_⟩:=V.cptr_ptr U;have J:(execOp a.eval o).run C.P X.w=.ok (.value (a.eval x)) X.w:=by
   unfold execOp;rw[ho];simp only[A];rfl
  exact yQh J E (hA.val U h)
 ·rename_i q O;by_cases ab:dr=true
  ·rw[if_pos ab] at h;have A:=V.raw_inv (hA.v O).1;have J:(execOp a.eval o).run C.P X.w=.ok (.value (a.eval x)) X.w:=by
    unfold execOp;rw[ho];simp only[A];rfl
   exact yQh J E (hA.val (hA.v O).1 h)
  ·rw[if_neg ab] at h;exact G h
 ·exact G (yKa h).2
theorem zY3 {f:Fn}{first A:Array Operand}(D:o.op=.makeFunc f first A)
  (h:yQ8 (evL C.gl fr first.toList) λx=>yQ8 (evL C.gl fr A.toList) λy=>finK o.dst K ad fr (.val (.fn f x y)) X.st ds) :
  o.wpIn (yZo ro) n C.P a X.w (PK C X0 N K) Q:=by
 obtain⟨x,F,h⟩:=yQ5.1 h;obtain⟨y,E,h⟩:=yQ5.1 h;have h1:=wKi hA.inv.good hA.inv.fr F;have h2:=wKi hA.inv.good hA.inv.fr E;have G:(execOp a.eval o).run C.P X.w=.ok (.value (.func f ⟨first.toList.map a.eval⟩ ⟨A.toList.map a.eval⟩)) X.w:=by
  unfold execOp;rw[D];have O:first.map a.eval=⟨first.toList.map a.eval⟩:=by apply Array.ext';simp
  have J:A.map a.eval=⟨A.toList.map a.eval⟩:=by apply Array.ext';simp
  simp only[Instr.makeFunc,O,J,Sem.run_bind,Sem.run_pure,Result.andThen_ok]
 exact yQh G (by rw[D];intro c hc;cases hc) (hA.val (.fn f _ _ h1.1 h1.2 _ _ h2.1 h2.2) h)
theorem zUk {x:Operand}{i:Nat}(E:o.op=.extract x i)(h:yQ8 (evV C.gl fr x) λx=>tupV x λvs=>yQ8 (vs[i]?) λy=>finK o.dst K ad fr (.val y) X.st ds) :
  o.wpIn (yZo ro) n C.P a X.w (PK C X0 N K) Q:=by
 obtain⟨y,G,h⟩:=yQ5.1 h;obtain⟨vs,rfl,h⟩:=wVu h;obtain⟨z,F,h⟩:=yQ5.1 h;obtain⟨rs,U,D⟩:=V.tup_inv (hA.v G).1;obtain⟨r,O,J⟩:=D.get F;have A:(execOp a.eval o).run C.P X.w=.ok (.value r) X.w:=by
  unfold execOp;rw[E];have:(⟨rs⟩:Array Value)[i]?=some r:=by simpa using O
  simp[Instr.extract,U,this]
 exact yQh A (by rw[E];intro c hc;cases hc) (hA.val J h)
end
end Go.Iv
namespace Go.Iv
open Go
theorem xK0:∀ {D:List IV}{l:List UInt8},yU8 D=some l->D=l.map λb=>.raw (.int .u8 (b.toNat:Int))
 | [],l,h=>by simp only[yU8,Option.some.injEq] at h;subst h;rfl
 | x::D,l,h=>by
  unfold yU8 at h;split at h
  ·rename_i A;cases A
  ·rename_i m F A;cases A;split at h
   ·rename_i G;rw[Option.map_eq_some_iff] at h;obtain⟨E,h2,rfl⟩:=h;rw[xK0 h2,List.map_cons];congr 3;rw[UInt8.toNat_ofNat'];omega
   ·cases h
  ·cases h
theorem wVz {C:Cx}{X:WS}{P:Program}{S D:TypeId}{v:Value}{t:Tag}{l:List UInt8}(hv:C.v X v (.sl t (l.map λb=>.raw (.int .u8 (b.toNat:Int)))))(hl:l≠[])(J:xK1 P S=true)(hD:strT P D=true) :
  (convert S D v).run P X.w=.ok (.string ⟨l.toArray⟩) X.w/\l.length<=140737488355328:=by
 unfold xK1 at J;split at J
 ·rename_i e he;split at J
  ·rename_i ae;unfold strT at hD;split at hD
   ·rename_i hd;cases hv with
    | sl ao cap _ _ T vs ah E an hs G W O A hc =>
     have ab:∀(m:List UInt8),(m.map λb=>IV.raw (.int .u8 (b.toNat:Int))).flatMap IV.cells=m.map λb=>IV.raw (.int .u8 (b.toNat:Int)):=λm=>by
      induction m with
      | nil=>rfl
      | cons a m ih=>simp only[List.map_cons,List.flatMap_cons,ih];rfl
     rw[ab] at hc;have ac:t.es=1:=by
      match l,hl with
      | b::l,_=>exact (hs (.raw (.int .u8 (b.toNat:Int))) (by simp)).symm
     obtain⟨ad,rfl,U,_,F⟩:=A (by simpa using hl);rw[List.length_map] at E G ⊢;refine⟨run_convert_bytes_back X.w S D e ad cap l he ae hd (λj hj=>?_),E⟩;rw[yVk ad U];have aa:j<vs.length:=by rw[G,ac];omega
     have h1:=List.getElem?_eq_getElem aa;rw[F j _ h1];have h2:=V.raw_inv (hc j _ _ h1 (by rw[List.getElem?_map,List.getElem?_eq_getElem hj];rfl));rw[h2]
   ·cases hD
  ·cases J
 ·cases J
theorem yW8 {P:Program}{op:BinOp}{T:TypeId}{x y:Operand}{a b:Value}(h1:a≠.nilIface)(h2:∀u,a≠.agg u)(w:World) :
  (eqGuard op T x y a b).run P w=.ok () w:=by
 cases a<;>first
  | (exact absurd rfl h1)
  | (exact absurd rfl (h2 _))
  | (cases op<;>rfl)
theorem xJt (a b:ByteArray):(a.toList == b.toList)=decide (a=b):=by
 rw[ByteArray.toList_eq,ByteArray.toList_eq];by_cases h:a=b
 ·subst h;simp
 ·have:¬ a.data=b.data:=λA=>h (by cases a;cases b;simp at A;subst A;rfl);simp[h,this]
theorem wW7 {P:Program}{op:BinOp}{T:TypeId}{a b z:Value}(h:binI P T op a b=some z)(w:World):(binOp op T a b).run P w=.ok z w/\zXc z/\a≠.nilIface/\(∀u,a≠.agg u):=by
 unfold binI at h;split at h
 ·rename_i k x O y;split at h
  ·rename_i D;subst D;split at h
   ·rename_i A;cases h;exact⟨by simp[binOp,Op.shift,show ¬ y<0 by omega],trivial,by simp,by simp⟩
   ·cases h
  split at h
  ·rename_i D;subst D;split at h
   ·rename_i A;cases h;exact⟨by simp[binOp,Op.shift,show ¬ y<0 by omega],trivial,by simp,by simp⟩
   ·cases h
  split at h
  ·rename_i G;subst G;refine⟨?_,?_,by simp,by simp⟩
   ·cases op<;>simp only[cmpI,Option.some.injEq,reduceCtorEq] at h
    case add=>subst h;simp[binOp,Op.intArith]
    case sub=>subst h;simp[binOp,Op.intArith]
    case and=>subst h;simp[binOp,Op.intBits]
    case mul=>subst h;simp[binOp,Op.intArith]
    case quo =>
     split at h
     ·cases h
     ·rename_i A;cases h;simp[binOp,Op.intDiv,A]
    case rem =>
     split at h
     ·cases h
     ·rename_i A;cases h;simp[binOp,Op.intDiv,A]
    case eql=>subst h;simp[binOp,Op.intCmp,BEq.beq]
    case neq=>subst h;simp[binOp,Op.intCmp,bne,BEq.beq]
    case lss=>subst h;simp[binOp,Op.intCmp]
    case leq=>subst h;simp[binOp,Op.intCmp]
    case gtr=>subst h;simp[binOp,Op.intCmp]
    case geq=>subst h;simp[binOp,Op.intCmp]
   ·cases op<;>simp only[cmpI,Option.some.injEq,reduceCtorEq] at h<;>first
     | (subst h;trivial)
     | (split at h
        ·cases h
        ·cases h;trivial)
  ·cases h
 ·rename_i a b;refine⟨?_,?_,by simp,by simp⟩
  ·cases op<;>simp only[Option.some.injEq,reduceCtorEq] at h
   case add =>
    split at h
    ·rename_i F;cases h;have:¬ ((a.size+b.size:Nat):Int) > IntKind.i64.max:=by
      have:IntKind.i64.max=9223372036854775807:=by decide
      omega
     simp only[binOp,Op.stringOp,if_neg this,Sem.run_pure]
    ·cases h
   all_goals (subst h;simp only[binOp,Op.stringOp,xJt,Sem.run_pure])
   all_goals simp only[ByteArray.toList_eq]
  ·cases op<;>simp only[Option.some.injEq,reduceCtorEq] at h
   case add =>
    split at h
    ·rename_i F;cases h;simp only[zXc,ByteArray.size_append];omega
    ·cases h
   all_goals (subst h;trivial)
 ·rename_i a b;split at h
  ·rename_i E;have J:∀x y:Bool,(Op.equal T (.bool x) (.bool y)).run P w=.ok (x == y) w:=by
    exact λx y=>run_equalIn_bool w 9999 T x y E
   refine⟨?_,?_,by simp,by simp⟩
   ·cases op<;>simp only[Option.some.injEq,reduceCtorEq] at h<;>(subst h;simp only[binOp,Sem.run_bind,J,Result.andThen_ok,Sem.run_pure])
   ·cases op<;>simp only[Option.some.injEq,reduceCtorEq] at h<;>(subst h;trivial)
  ·cases h
 ·cases h
section
variable {C:Cx}{X0 X:WS}{N:Nat}{fr:Fr}{ds:List Dfd}{a:Act}{ad:Ad}{K:Kt}{ro:Option Nat}{n:Nat}{Q:Exit->Act->World->Prop}{o:Oper}
theorem vQt {B:Nat}{L:Nat->Nat}{w:World}{r:Value}{t:Tag}{J:List IV}{b:Bool}(W:V B L w r (.sl t J))(h:zY4 (.sl t J)=some b):∃ad len cap,r=.slice ad len cap/\ad.isNone=b:=by
 cases W with
 | sl ad cap _ _ T vs A O aa hs U G F D _ =>
  refine⟨ad,_,_,rfl,?_⟩;obtain⟨f,cp,es⟩:=t;unfold zY4 at h;split at h
  ·rename_i E;cases E;cases h;simp only[zXu] at A;rw[A.1];rfl
  ·rename_i E;cases E;cases h;simp only[zXu] at A;rw[A];rfl
  ·rename_i E;cases E;cases h;obtain⟨ac,ha,_⟩:=D (by simp);rw[ha];rfl
  ·cases h
variable (hA:At C X0 N X fr ds a ad o.dst)
include hA
theorem xKt {op:BinOp}{T T':TypeId}{x y:Operand}(ho:o.op=.binOp op T x y T')
  (h:yQ8 (evV C.gl fr x) λx=>yQ8 (evV C.gl fr y) λy=>yQ8 (binV C.P T op x y) λz=>finK o.dst K ad fr (.val z) X.st ds) :
  o.wpIn (yZo ro) n C.P a X.w (PK C X0 N K) Q:=by
 obtain⟨vx,hx,h2⟩:=yQ5.1 h;clear h;obtain⟨vy,hy,h3⟩:=yQ5.1 h2;clear h2;obtain⟨vz,E,h⟩:=yQ5.1 h3;clear h3;have ae:∀c,o.op≠.defer c:=by rw[ho];intro c hc;cases hc
 have ag:=(hA.v hx).1;have aa:=(hA.v hy).1;unfold binV at E;split at E
 ·rename_i u v;cases U:binI C.P T op u v with
  | none=>simp[U] at E
  | some q =>
   simp only[U,Option.map_some,Option.some.injEq] at E;subst E;obtain⟨ah,al,h1,h2⟩:=wW7 U X.w;have O:=V.raw_inv ag;have e2:=V.raw_inv aa;have hr:(execOp a.eval o).run C.P X.w=.ok (.value q) X.w:=by
    unfold execOp;rw[ho];simp only[O,e2,Sem.run_bind,yW8 h1 h2,Result.andThen_ok,ah,Sem.run_pure]
   exact yQh hr ae (hA.val (.raw _ al) h)
 ·rename_i t xs f es l;split at E
  ·rename_i ab;have F:∃e,C.P.underlying T=some (.slice e):=by
    unfold zZj at ab;split at ab
    ·rename_i e he;exact⟨e,he⟩
    ·cases ab
   obtain⟨e,F⟩:=F;have e2:a.eval y=.slice none 0 0:=by
    generalize a.eval y=r at aa;cases aa with
    | sl ad cap _ _ T vs G=>rw[G.1,G.2.1,G.2.2]
   have key:∀b,zY4 (.sl t xs)=some b->(Op.equal T (a.eval x) (a.eval y)).run C.P X.w=.ok b X.w/\(∃ad len cap,a.eval x=.slice ad len cap):=by
    intro b W;obtain⟨J,A,D,O,ac⟩:=vQt ag W;refine⟨?_,_,_,_,O⟩;rw[O,e2];subst ac;exact run_equal_slice_nil X.w T e J A D F
   cases op<;>simp only[reduceCtorEq] at E
   ·cases W:zY4 (.sl t xs) with
    | none=>simp[W] at E
    | some b =>
     simp only[W,Option.map_some,Option.some.injEq] at E;subst E;obtain⟨U,J,A,D,O⟩:=key b W;have hr:(execOp a.eval o).run C.P X.w=.ok (.value (.bool b)) X.w:=by
      unfold execOp;rw[ho];rw[O,e2] at U;simp only[O,e2,Sem.run_bind,yW8 (a:=.slice J A D) (by simp) (by simp),Result.andThen_ok,binOp,U,Sem.run_pure]
     exact yQh hr ae (hA.val (.raw _ trivial) h)
   ·cases W:zY4 (.sl t xs) with
    | none=>simp[W] at E
    | some b =>
     simp only[W,Option.map_some,Option.some.injEq] at E;subst E;obtain⟨U,J,A,D,O⟩:=key b W;have hr:(execOp a.eval o).run C.P X.w=.ok (.value (.bool !b)) X.w:=by
      unfold execOp;rw[ho];rw[O,e2] at U;simp only[O,e2,Sem.run_bind,yW8 (a:=.slice J A D) (by simp) (by simp),Result.andThen_ok,binOp,U,Sem.run_pure]
     exact yQh hr ae (hA.val (.raw _ trivial) h)
  ·cases E
 ·cases E
theorem xUb {op:UnOp}{T:TypeId}{x:Operand}(G:o.op=.unOp op T x)
  (h:yQ8 (evV C.gl fr x) λx=>yQ8 (unI op x) λz=>finK o.dst K ad fr (.val z) X.st ds):o.wpIn (yZo ro) n C.P a X.w (PK C X0 N K) Q:=by
 obtain⟨U,J,h2⟩:=yQ5.1 h;clear h;obtain⟨O,A,h⟩:=yQ5.1 h2;clear h2;have E:∀c,o.op≠.defer c:=by rw[G];intro c hc;cases hc
 have D:=(hA.v J).1;unfold unI at A;split at A
 ·rename_i b;cases op<;>simp only[reduceCtorEq,Option.some.injEq] at A;subst A;have e:=V.raw_inv D;have F:(execOp a.eval o).run C.P X.w=.ok (.value (.bool !b)) X.w:=by
   unfold execOp;rw[G];simp[e,Op.unary]
  exact yQh F E (hA.val (.raw _ trivial) h)
 ·rename_i k m;cases op<;>simp only[reduceCtorEq,Option.some.injEq] at A;subst A;have e:=V.raw_inv D;have F:(execOp a.eval o).run C.P X.w=.ok (.value (.int k (k.wrap (0-m)))) X.w:=by
   unfold execOp;rw[G];simp[e,Op.unary,Op.intArith]
  exact yQh F E (hA.val (.raw _ trivial) h)
 ·cases A
theorem zUl {S D:TypeId}{x:Operand}(U:o.op=.convert S D x)
  (h:yQ8 (evV C.gl fr x) λx=>yQ8 (xJu C.P S D x) λz=>finK o.dst K ad fr (.val z) X.st ds):o.wpIn (yZo ro) n C.P a X.w (PK C X0 N K) Q:=by
 obtain⟨vx,hx,h2⟩:=yQ5.1 h;clear h;obtain⟨vz,A,h⟩:=yQ5.1 h2;clear h2;have F:∀c,o.op≠.defer c:=by rw[U];intro c hc;cases hc
 have E:=(hA.v hx).1;unfold xJu at A;split at A
 ·rename_i t xs;split at A
  ·rename_i G;rw[Option.bind_eq_some_iff] at A;obtain⟨l,hb,A⟩:=A;split at A
   ·cases A
   ·rename_i W;cases A;have e:=xK0 hb;subst e;obtain⟨hc,aa⟩:=wVz E W G.1 G.2;have O:(execOp a.eval o).run C.P X.w=.ok (.value (.string ⟨l.toArray⟩)) X.w:=by
     unfold execOp;rw[U];simp only[Sem.run_bind,hc,Result.andThen_ok,Sem.run_pure]
    exact yQh O F (hA.val (.raw _ (by show ByteArray.size ⟨l.toArray⟩<=_;simp[ByteArray.size];omega)) h)
  ·cases A
 ·rename_i k m;split at A
  ·rename_i k1 J h1 h2;cases A;have e:=V.raw_inv E;have O:(execOp a.eval o).run C.P X.w=.ok (.value (.int J (J.wrap m))) X.w:=by
    unfold execOp;rw[U];have hc:(convert S D (.int k m)).run C.P X.w=.ok (.int J (J.wrap m)) X.w:=by
     simp only[convert,Sem.run_bind,run_underlying h1,run_underlying h2,Result.andThen_ok];rfl
    simp only[e,Sem.run_bind,hc,Result.andThen_ok,Sem.run_pure]
   exact yQh O F (hA.val (.raw _ trivial) h)
  ·cases A
 ·cases A
end
theorem V.cptr_part {B:Nat}{L:Nat->Nat}{w:World}{F:Addr}{cs:List IV}{ag:Bool}{W off:Nat}{y:IV}(h:V B L w (.pointer (some F)) (.cptr (.agg cs)))(hp:yVd ag W cs off=some y)
  (hy:ag=false->y.cells=[y]):V B L w (.pointer (some (F.add off))) (.cptr y):=by
 cases h with
 | cptr _ _ vs U O hL hc h =>
  rw[yVk F U];simp only[IV.cells_agg] at O h;unfold yVd at hp;split at hp
  ·rename_i J;split at hp
   ·rename_i ac;cases hp;refine .cptr _ _ ((vs.drop off).take W) rfl (by simp[IV.cells_agg];omega) (by simp;omega) (λi r A=>?_) (λi r c A D=>?_)
    ·rw[List.getElem?_take] at A;split at A
     ·rw[List.getElem?_drop] at A;have:=hc _ r A;rw[<- Nat.add_assoc] at this;exact this
     ·cases A
    ·rw[IV.cells_agg] at D;rw[List.getElem?_take] at A D;split at A
     ·rename_i hi;rw[if_pos hi,List.getElem?_drop] at D;rw[List.getElem?_drop] at A;exact h _ r c A D
     ·cases A
   ·cases hp
  ·rename_i J;have E:ag=false:=by simpa using J
   have ab:=(lGs hp).1;have G:vs[off]?=some (vs[off]'(by omega)):=List.getElem?_eq_getElem _;refine .cptr _ _ [vs[off]'(by omega)] rfl (by rw[hy E];rfl) (by simp;omega) (λi r A=>?_) (λi r c A D=>?_)
   ·cases i with
    | zero=>simp at A;subst A;exact hc off _ G
    | succ i=>simp at A
   ·rw[hy E] at D;cases i with
    | zero=>simp at A D;subst A;subst D;exact h off _ _ G hp
    | succ i=>simp at A
end Go.Iv
namespace Go.Iv
open Go
theorem xQp {P:Program}{T:TypeId}{i E n:Nat}{ag:Bool}(h:fldI P T i=some (E,ag,n)):∃(A:Array Field) (f:Field),P.underlying T=some (.struct A)/\A[i]?=some f/\f.offset=E/\tyI P f.type=some (ag,n)/\0<n:=by
 unfold fldI at h;split at h
 ·rename_i A D;split at h
  ·rename_i f J;split at h
   ·rename_i a m F;split at h
    ·rename_i G;cases h;exact⟨A,f,D,J,rfl,F,G⟩
    ·cases h
   ·cases h
  ·cases h
 ·cases h
theorem xGq {P:Program}{T:TypeId}{len n:Nat}{ag:Bool}(h:arrI P T=some (len,ag,n)):∃e,P.underlying T=some (.array len e)/\tyI P e=some (ag,n):=by
 unfold arrI at h;split at h
 ·rename_i m e D;cases A:tyI P e with
  | none=>simp[A] at h
  | some p =>
   obtain⟨a,s⟩:=p;simp only[A,Option.map_some,Option.some.injEq,Prod.mk.injEq] at h;obtain⟨rfl,rfl,rfl⟩:=h;exact⟨e,D,A⟩
 ·cases h
theorem yYo {P:Program}{T e:TypeId}{ag:Bool}{s b:Nat}(h:slI P T=some (e,ag,s,b)):P.underlying T=some (.slice e)/\tyI P e=some (ag,s)/\∃i,P.info? e=some i/\0<s/\i.zero.isSome=true/\i.bytes=b:=by
 unfold slI at h;split at h
 ·rename_i J G;split at h
  ·rename_i a s' i E F;split at h
   ·rename_i A;cases h;exact⟨G,E,i,F,A.1,by cases D:i.zero<;>simp[D] at A ⊢,rfl⟩
   ·cases h
  ·cases h
 ·cases h
theorem zUo {P:Program}{T e:TypeId}{ag:Bool}{s b:Nat}{i:TypeInfo}(h:slI P T=some (e,ag,s,b))(F:P.info? e=some i):∃z,i.zero=some z/\z.cells.size=s:=by
 unfold slI at h;split at h
 ·split at h
  ·rename_i a s' G J A;split at h
   ·rename_i E;cases h;rw[F] at A;cases A;cases D:i.zero with
    | none=>simp[D] at E
    | some z=>exact⟨z,rfl,by simpa[D] using E.2⟩
   ·cases h
  ·cases h
 ·cases h
theorem zY6 {P:Program}{f:Field}{ag:Bool}{n:Nat}(A:tyI P f.type=some (ag,n))(D:0<n)(ad:Addr)(w:World):(fieldPlace ad f).run P w=.ok (ad.add f.offset) w:=by
 have h2:=(yJ0 A w).2;have:¬ n=0:=by omega
 simp only[fieldPlace,Sem.run_bind,h2,Result.andThen_ok,if_neg this,Sem.run_pure]
theorem zZf {P:Program}{T:TypeId}{k:LenK}(h:lenI P T=some k):(k=.str/\P.underlying T=some .string)\/(k=.sl/\∃e,P.underlying T=some (.slice e))\/(k=.map/\∃a b,P.underlying T=some (.map a b)) \/
  (∃n e,k=.arr n/\P.underlying T=some (.array n e)):=by
 unfold lenI at h;split at h<;>simp only[Option.some.injEq,reduceCtorEq] at h<;>subst h
 ·exact .inl ⟨rfl,‹_›⟩
 ·exact .inr (.inl ⟨rfl,_,‹_›⟩)
 ·exact .inr (.inr (.inl ⟨rfl,_,_,‹_›⟩))
 ·exact .inr (.inr (.inr ⟨_,_,rfl,‹_›⟩))
theorem zG4 {B:Nat}{L:Nat->Nat}{w:World}{rs:List Value}{cs:List IV}(D:VL B L w rs cs){ag:Bool}{n off:Nat}{y:IV}(h:yVd ag n cs off=some y) :
  ∃r,(ag=true->off+n<=rs.length/\r=.agg ⟨(rs.drop off).take n⟩)/\((ag=false->rs[off]?=some r)/\V B L w r y):=by
 unfold yVd at h;split at h
 ·rename_i A;split at h
  ·rename_i F;cases h;refine⟨_,λ_=>⟨by rw[D.1];exact F,rfl⟩,?_,((D.drop off).take n).agg⟩;intro G;rw[G] at A;cases A
  ·cases h
 ·rename_i A;obtain⟨r,J,E⟩:=D.get h;exact⟨r,λG=>absurd G A,λ_=>J,E⟩
theorem xWw {P:Program}{T:TypeId}{ag:Bool}{n:Nat}(E:tyI P T=some (ag,n))(w:World)(rs:List Value)(off:Nat)(r:Value)
  (h1:ag=true->off+n<=rs.length/\r=.agg ⟨(rs.drop off).take n⟩) (h2:ag=false->rs[off]?=some r):(part T ⟨rs⟩ off).run P w=.ok r w:=by
 obtain⟨A,D⟩:=yJ0 E w;cases ag with
 | true =>
  obtain⟨F,rfl⟩:=h1 rfl;have:(⟨rs⟩:Array Value).extract off (off+n)=⟨(rs.drop off).take n⟩:=by
   apply Array.ext';simp
  simp only[part,Sem.run_bind,A,Result.andThen_ok,if_true,D,Sem.run_pure,this]
 | false =>
  have:(⟨rs⟩:Array Value)[off]?=some r:=by simpa using h2 rfl
  simp only[part,Sem.run_bind,A,Result.andThen_ok,bFt,if_false,this,Sem.run_pure]
theorem yJf {ag:Bool}{n:Nat}{y:IV}(h:fits ag n y=true):(ag=false->y.cells=[y])/\y.cells.length=n/\y.cells.all IV.one=true/\y.def_:=by
 unfold fits at h;split at h
 ·rename_i cs;simp only[bAt,beq_iff_eq] at h;exact⟨λD=>(by rw[D] at h;simp at h),h.1.2,h.2,by simp[IV.def_]⟩
 ·rename_i A;simp only[bAt,Bool.not_eq_true',beq_iff_eq] at h;have hc:=IV.one_cells h.1.2;refine⟨λ_=>hc,by rw[hc];exact h.2.symm,by rw[hc];simp[h.1.2],?_⟩;rintro rfl;simp[IV.one] at h
section
variable {C:Cx}{X0 X:WS}{N:Nat}{fr:Fr}{ds:List Dfd}{a:Act}{ad:Ad}{K:Kt}{ro:Option Nat}{n:Nat}{Q:Exit->Act->World->Prop}{o:Oper}
theorem wW0 {r:Value}{F:Tag}{W:List IV}{j:Nat}{y:IV}(hv:C.v X r (.sl F W))(hy:W[j]?=some y):∃(D:Addr) (cap:Nat),r=.slice (some D) W.length cap/\C.v X (.pointer (some (D.add (j*F.es)))) (.cptr y):=by
 cases hv with
 | sl ay cap _ _ T vs am al aw U af ah aa E hc =>
  have hj:=(lGs hy).1;have ab:=lMg hy;obtain⟨D,rfl,ag,hL,O⟩:=E (by intro h0;rw[h0] at hj;simp at hj);refine⟨D,cap,rfl,?_⟩;rw[yVk D ag];have J:∀(l:List IV) (j:Nat) (y:IV),(∀x∈l,x.cells.length=F.es)->l[j]?=some y->∀(i:Nat) (c:IV),y.cells[i]?=some c->(l.flatMap IV.cells)[j*F.es+i]?=some c:=by
   intro l
   induction l with
   | nil=>intro j y _ h;simp at h
   | cons x l ih =>
    intro j y U h i c G;have hx:=U x (by simp);rw[List.flatMap_cons];cases j with
    | zero =>
     simp at h;subst h;have hi:=(lGs G).1;rw[Nat.zero_mul,Nat.zero_add,List.getElem?_append_left hi];exact G
    | succ j =>
     have:=ih j y (λz hz=>U z (by simp[hz])) (by simpa using h) i c G;rw[List.getElem?_append_right (by rw[hx,Nat.succ_mul];omega),hx];rw[<- this];congr 1;rw[Nat.succ_mul];omega
  have ac:=U y ab;have au:j*F.es+F.es<=vs.length:=by rw[af,<- Nat.succ_mul];exact Nat.mul_le_mul_right _ hj
  refine .cptr _ _ ((vs.drop (j*F.es)).take F.es) rfl (by rw[ac];simp;omega) (by simp;omega) (λi r A=>?_) (λi r c A aj=>?_)
  ·rw[List.getElem?_take] at A;split at A
   ·rw[List.getElem?_drop] at A;have:=O _ r A;rw[<- Nat.add_assoc] at this;exact this
   ·cases A
  ·rw[List.getElem?_take] at A;split at A
   ·rw[List.getElem?_drop] at A;exact hc _ r c A (J W j y U hy i c aj)
   ·cases A
variable (hA:At C X0 N X fr ds a ad o.dst)
include hA
theorem zKt {T:TypeId}{x:Operand}{i:Nat}(W:o.op=.fieldAddr T x i)
  (h:yQ8 (fldI C.P T i) λf=>yQ8 (evA C.gl ad fr x) λp=>zJl f p (finK o.dst K ad fr) X.st ds):o.wpIn (yZo ro) n C.P a X.w (PK C X0 N K) Q:=by
 obtain⟨⟨fo,ag,sz⟩,hf,h2⟩:=yQ5.1 h;clear h;obtain⟨p,hp,h⟩:=yQ5.1 h2;clear h2;have E:∀c,o.op≠.defer c:=by rw[W];intro c hc;cases hc
 obtain⟨fs,f,hT,U,rfl,O,hn⟩:=xQp hf;have A:=hA.p hp;have key:∀D:Addr,a.eval x=.pointer (some D)->(execOp a.eval o).run C.P X.w=.ok (.value (.pointer (some (D.add f.offset)))) X.w:=by
  intro D F;unfold execOp;rw[W];simp only[Instr.fieldAt,Sem.run_bind,run_underlying hT,Result.andThen_ok,U,F,Instr.sureAddr,Sem.run_pure,zY6 O hn]
 cases p with
 | box t off =>
  obtain⟨cs,b,h1,h2,F⟩:=A;have G:=key _ F;rw[yVx] at G;exact yQh G E (xW0 hA.inv hA.ad hA.hd h1 h2 h)
 | ptr b off =>
  have G:=key _ A;rw[yVx] at G;exact yQh G E (hA.val (.raw _ trivial) h)
 | cp z =>
  obtain⟨cs,rfl,h2⟩:=zKd h;clear h;obtain⟨y,hy,h3⟩:=yQ5.1 h2;clear h2;obtain⟨J,h⟩:=yZ6 h3;clear h3;obtain⟨D,F,_⟩:=V.cptr_ptr A;exact yQh (key _ F) E (hA.val (V.cptr_part (F▸A) hy (yJf J).1) h)
theorem xKo {T:TypeId}{x:Operand}{i:Nat}(G:o.op=.field T x i)
  (h:yQ8 (fldI C.P T i) λf=>yQ8 (evV C.gl fr x) λx=>aggV x λcs=>yQ8 (yVd f.2.1 f.2.2 cs f.1) λy=>finK o.dst K ad fr (.val y) X.st ds):o.wpIn (yZo ro) n C.P a X.w (PK C X0 N K) Q:=by
 obtain⟨⟨fo,ag,sz⟩,hf,h2⟩:=yQ5.1 h;clear h;obtain⟨z,U,O⟩:=yQ5.1 h2;clear h2;obtain⟨cs,rfl,J⟩:=zKd O;clear O;obtain⟨y,W,h⟩:=yQ5.1 J;clear J;have E:∀c,o.op≠.defer c:=by rw[G];intro c hc;cases hc
 obtain⟨fs,f,hT,F,rfl,D,hn⟩:=xQp hf;obtain⟨rs,he,A⟩:=V.agg_inv (hA.v U).1;obtain⟨r,h1,h2,hv⟩:=zG4 A W;have hr:(execOp a.eval o).run C.P X.w=.ok (.value r) X.w:=by
  unfold execOp;rw[G];simp only[Instr.field,Sem.run_bind,run_underlying hT,Result.andThen_ok,F,he,asAgg,Sem.run_pure,xWw D X.w rs f.offset r h1 h2]
 exact yQh hr E (hA.val hv h)
theorem zKs {T:TypeId}{x i:Operand}(ho:o.op=.indexAddr T x i)
  (h:yQ8 (evV C.gl fr i) λi=>intV i λ_ j=>yQ8 (lenI C.P T) λk=>idxV k (slI C.P T) (evV C.gl fr x) (evA C.gl ad fr x) (arrI C.P T) j (finK o.dst K ad fr) X.st ds) :
  o.wpIn (yZo ro) n C.P a X.w (PK C X0 N K) Q:=by
 obtain⟨vi,hi,h2⟩:=yQ5.1 h;clear h;obtain⟨k,j,rfl,A⟩:=yVv h2;clear h2;obtain⟨lk,an,h⟩:=yQ5.1 A;clear A;have G:∀c,o.op≠.defer c:=by rw[ho];intro c hc;cases hc
 have ei:=V.raw_inv (hA.v hi).1;rcases zZf an with⟨rfl,_⟩|⟨rfl,e,hT⟩|⟨rfl,_⟩|⟨len,e,rfl,hT⟩
 ·exact h.elim
 ·obtain⟨⟨e',ag,sz,by_⟩,hs,h0⟩:=yQ5.1 h;clear h;obtain⟨vx,hx,h2⟩:=yQ5.1 h0;clear h0;rcases wZw h2 with⟨am,xs,rfl,A⟩|⟨b,off,m,cap,rfl,A⟩
  case inr =>
   clear h2;obtain⟨hj,h⟩:=yZ6 A;clear A;have ex:=V.raw_inv (hA.v hx).1;obtain⟨D,F,_⟩:=yYo hs;rw[hT] at D;cases D;have O:(execOp a.eval o).run C.P X.w=.ok (.value (.pointer (some (Addr.add ⟨b,off,none⟩ (j.toNat*sz))))) X.w:=by
    unfold execOp;rw[ho];have h2:=(yJ0 F X.w).2;have J:0<=j/\j<(m:Int):=⟨hj.1,by omega⟩
    simp only[Instr.indexAt,ei,asIntOf,Sem.run_bind,Sem.run_pure,Result.andThen_ok,run_underlying hT,ex,J,and_self,if_true,h2]
   rw[yVx] at O;exact yQh O G (hA.val (.raw _ trivial) h)
  clear h2;obtain⟨aa,A⟩:=yZ6 A;obtain⟨hj,h4⟩:=yZ6 A;clear A;obtain⟨y,hy,h⟩:=yQ5.1 h4;clear h4;have ae:=V.reTag (es:=sz) (hA.v hx).1;simp only at aa;generalize reTag sz am=tg at aa ae;have af:=(lGs hy).1;obtain⟨E,cap,W,hv⟩:=wW0 ae hy;obtain⟨D,F,_⟩:=yYo hs;rw[hT] at D;cases D;rw[aa] at hv;have O:(execOp a.eval o).run C.P X.w=.ok (.value (.pointer (some (E.add (j.toNat*sz))))) X.w:=by
   unfold execOp;rw[ho];have h2:=(yJ0 F X.w).2;have J:0<=j/\j<(xs.length:Int):=⟨hj,by omega⟩
   simp only[Instr.indexAt,ei,asIntOf,Sem.run_bind,Sem.run_pure,Result.andThen_ok,run_underlying hT,W,J,and_self,if_true,h2]
  exact yQh O G (hA.val hv h)
 ·exact h.elim
 ·obtain⟨⟨au,ag,sz⟩,ao,h2⟩:=yQ5.1 h;clear h;obtain⟨p,hp,A⟩:=yQ5.1 h2;clear h2;obtain⟨hj,h⟩:=yZ6 A;clear A;obtain⟨e',D,F⟩:=xGq ao;rw[hT] at D;cases D;obtain⟨af,h2⟩:=yZ6 h;clear h;simp only at af;have U:=hA.p hp;have key:∀E:Addr,a.eval x=.pointer (some E)->(execOp a.eval o).run C.P X.w=.ok (.value (.pointer (some (E.add (j.toNat*sz))))) X.w:=by
   intro E W;unfold execOp;rw[ho];have h2:=(yJ0 F X.w).2;have J:0<=j/\j<(len:Int):=⟨hj,by omega⟩
   simp only[Instr.indexAt,ei,asIntOf,Sem.run_bind,Sem.run_pure,Result.andThen_ok,run_underlying hT,W,Instr.sureAddr,J,and_self,if_true,h2]
  cases p with
  | box t off =>
   obtain⟨cs,b,h1,A,W⟩:=U;have O:=key _ W;rw[yVx] at O;exact yQh O G (xW0 hA.inv hA.ad hA.hd h1 A h2)
  | ptr b off =>
   have O:=key _ U;rw[yVx] at O;exact yQh O G (hA.val (.raw _ trivial) h2)
  | cp z =>
   obtain⟨cs,rfl,A⟩:=zKd h2;clear h2;obtain⟨y,hy,h4⟩:=yQ5.1 A;clear A;obtain⟨ai,h⟩:=yZ6 h4;clear h4;obtain⟨E,W,_⟩:=V.cptr_ptr U;exact yQh (key _ W) G (hA.val (V.cptr_part (W▸U) hy (yJf ai).1) h)
theorem xKn {T:TypeId}{x i:Operand}(ho:o.op=.index T x i)
  (h:yQ8 (evV C.gl fr i) λi=>intV i λ_ j=>yQ8 (lenI C.P T) λk=>yQ8 (evV C.gl fr x) λx=>zVl k (arrI C.P T) x j (finK o.dst K ad fr) X.st ds) :
  o.wpIn (yZo ro) n C.P a X.w (PK C X0 N K) Q:=by
 obtain⟨vi,hi,h2⟩:=yQ5.1 h;clear h;obtain⟨k,j,rfl,A⟩:=yVv h2;clear h2;obtain⟨lk,ab,O⟩:=yQ5.1 A;clear A;obtain⟨vx,hx,h⟩:=yQ5.1 O;clear O;have F:∀c,o.op≠.defer c:=by rw[ho];intro c hc;cases hc
 have ei:=V.raw_inv (hA.v hi).1;have D:=(hA.v hx).1;rcases zZf ab with⟨rfl,J⟩|⟨rfl,e,J⟩|⟨rfl,_⟩|⟨len,e,rfl,J⟩
 ·obtain⟨v,rfl,h2⟩:=zUr h;clear h;cases v with
  | string s =>
   obtain⟨b,hb,h⟩:=yQ5.1 h2;clear h2;have ex:=V.raw_inv D;have W:(execOp a.eval o).run C.P X.w=.ok (.value (.int .u8 b.toNat)) X.w:=by
    unfold execOp;rw[ho];unfold xZn at hb;simp only[Instr.index,ei,ex,asIntOf,Sem.run_bind,Sem.run_pure,Result.andThen_ok,run_underlying J,hb]
   exact yQh W F (hA.val (.raw _ trivial) h)
  | _=>exact h2.elim
 ·exact h.elim
 ·exact h.elim
 ·obtain⟨cs,rfl,h2⟩:=zKd h;clear h;obtain⟨⟨af,ag,sz⟩,ac,A⟩:=yQ5.1 h2;clear h2;obtain⟨hj,O⟩:=yZ6 A;clear A;obtain⟨y,hy,h⟩:=yQ5.1 O;clear O;obtain⟨e',G,E⟩:=xGq ac;rw[J] at G;cases G;obtain⟨rs,ex,U⟩:=V.agg_inv D;obtain⟨r,h1,h2,hv⟩:=zG4 U hy;have W:(execOp a.eval o).run C.P X.w=.ok (.value r) X.w:=by
   unfold execOp;rw[ho];have A:=(yJ0 E X.w).2;simp only[Instr.index,ei,ex,asIntOf,Sem.run_bind,Sem.run_pure,Result.andThen_ok,run_underlying J,hj,and_self,if_true,A,xWw E X.w rs _ r h1 h2]
  exact yQh W F (hA.val hv h)
end
