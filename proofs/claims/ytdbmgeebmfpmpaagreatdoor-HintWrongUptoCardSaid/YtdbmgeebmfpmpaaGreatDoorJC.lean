/- The layer of ideal values, part E: opera -/
import Derived.Test.YtdbmgeebmfpmpaaGreatDoorJB
import Derived.Laws.Slices
import Derived.Laws.IdiomStrings
import Derived.Laws.Cover3
set_option linter.all false
namespace Go.Iv
open Go
section
variable {C:Cx}{X:WS}
theorem zGx {B:Nat}{L:Nat->Nat}{w:World}{v:Value}{y:IV}(h:zKn v=some y):V B L w v y/\y.def_/\y.one=true:=by
 unfold zKn at h;split at h
 ·cases h
 ·cases h
 ·cases h;exact⟨.sl none 0 ⟨true,.nil,0⟩ [] 0 [] ⟨rfl,rfl,rfl⟩ (by simp) (by simp) (by simp) rfl (λ_ hg=>by cases hg) (λ_ ad ha=>by cases ha) (λhne=>absurd rfl hne) (λi r c hr=>by simp at hr),by simp[IV.def_],rfl⟩
 ·cases h
 ·split at h
  ·rename_i hs;cases h;exact⟨.raw _ hs,by simp[IV.def_],rfl⟩
  ·cases h
 ·cases h;exact⟨.fn _ [] [] rfl (λi r c hr=>by simp at hr) [] [] rfl (λi r c hr=>by simp at hr),by simp[IV.def_],rfl⟩
 ·cases h
 ·rename_i h1 h2 h3 h4 h5 h6 h7;cases h;refine⟨.raw _ ?_,by simp[IV.def_],?_⟩
  ·cases v<;>simp_all [zYn]
  ·cases v<;>simp_all [IV.one]
theorem V.reTag {B:Nat}{L:Nat->Nat}{w:World}{r:Value}{t:Tag}{xs:List IV}{es:Nat}(h:V B L w r (.sl t xs)):V B L w r (.sl (reTag es t) xs):=by
 by_cases hn:t.cap=.nil
 ·have e:Iv.reTag es t=⟨t.fresh,.nil,es⟩:=by simp only[Iv.reTag,hn]
  rw[e];cases h with
  | sl a cap _ _ T vs hcap hlen hcl hs hvl hroom hfresh hplace hc =>
   rw[hn] at hcap;obtain⟨rfl,h0,rfl⟩:=hcap;obtain rfl:=List.eq_nil_of_length_eq_zero h0;refine .sl none 0 ⟨t.fresh,.nil,es⟩ [] T vs ⟨rfl,rfl,rfl⟩ hlen hcl (by simp) (by simpa using hvl) (λ_ hg=>by cases hg) (λ_ ad ha=>by cases ha) (λhne=>absurd rfl hne) (λi r c hr hx=>by simp at hx)
 ·have e:Iv.reTag es t=t:=by
   unfold Iv.reTag;grind
  rw[e];exact h
theorem wJx {α β:Type}{f:α->Option β}:∀ {l:List α} {bs:List β},allI f l=some bs->l.length=bs.length/\∀(i:Nat) (a:α) (b:β),l[i]?=some a->bs[i]?=some b->f a=some b
 | [],bs,h=>by simp only[allI,Option.some.injEq] at h;subst h;exact⟨rfl,λi a b ha=>by simp at ha⟩
 | a::l,bs,h=>by
  unfold allI at h;split at h
  ·rename_i b bs' h1 h2;cases h;obtain⟨k1,k2⟩:=wJx h2;grind
  ·cases h
theorem yW5 {B:Nat}{L:Nat->Nat}{w:World}{v:Value}{y:IV}(h:zKm v=some y):V B L w v y/\y.def_/\y.cells.all IV.one=true:=by
 unfold zKm at h;split at h
 ·rename_i cs;cases hl:allI zKn cs.toList with
  | none=>simp[hl] at h
  | some l =>
   simp only[hl,Option.map_some,Option.some.injEq] at h;subst h;obtain⟨k1,k2⟩:=wJx hl;have hcs:cs=⟨cs.toList⟩:=rfl;refine⟨by rw[hcs];exact .agg _ _ k1 (λi r c hr hc=>(zGx (k2 i r c hr hc)).1),by simp[IV.def_],?_⟩;rw[IV.cells_agg,List.all_eq_true];intro x hx;obtain⟨i,hi,hxi⟩:=List.mem_iff_getElem.1 hx;have hl':cs.toList[i]?=some (cs.toList[i]'(by omega)):=List.getElem?_eq_getElem _;exact (zGx (B:=0) (L:=λ_=>0) (w:=w) (k2 i _ x hl' (by rw[List.getElem?_eq_getElem hi,hxi]))).2.2
 ·rename_i hna;have:=zGx (B:=B) (L:=L) (w:=w) h;exact⟨this.1,this.2.1,by rw[IV.one_cells this.2.2];simp[this.2.2]⟩
theorem wG1 {n0:Nat}{r:Value}{s:SV}{y:IV}(h:ivOf s=some y)(hs:SlotOk C X n0 r s):C.v X r y/\y.def_:=by
 cases s with
 | box cs=>cases h
 | iv x=>cases x<;>simp only[ivOf,reduceCtorEq,Option.some.injEq] at h<;>subst h<;>exact⟨hs,by simp[IV.def_]⟩
theorem xU1 {n0:Nat}{fr:Fr}{a:Act}{x:Operand}{y:IV}(hg:Good C X)(hf:FrOk C X n0 fr a.tmps)(h:evV C.gl fr x=some y):C.v X (a.eval x) y/\y.def_:=by
 cases x with
 | tmp t=>exact wG1 h (hf.slot t)
 | const v=>exact⟨(yW5 h).1,(yW5 (B:=0) (L:=λ_=>0) (w:=X.w) h).2.1⟩
 | global g =>
  simp only[evV] at h;cases hq:C.gl g with
  | none=>simp[hq] at h
  | some z =>
   simp only[hq,Option.map_some,Option.some.injEq] at h;subst h;exact⟨hg.gl g z hq,by simp[IV.def_]⟩
 | func f =>
  simp only[evV,Option.some.injEq] at h;subst h;exact⟨.fn _ [] [] rfl (λi r c hr=>by simp at hr) [] [] rfl (λi r c hr=>by simp at hr),by simp[IV.def_]⟩
theorem wJ8 {n0:Nat}{fr:Fr}{a:Act}{l:List Operand}{ys:List IV}(hg:Good C X)(hf:FrOk C X n0 fr a.tmps)(h:evL C.gl fr l=some ys):C.vl X (l.map a.eval) ys:=by
 obtain⟨k1,k2⟩:=wJx h;refine⟨by simpa using k1,λi r c hr hc=>?_⟩;rw[List.getElem?_map] at hr;cases hl:l[i]? with
 | none=>simp[hl] at hr
 | some x =>
  simp only[hl,Option.map_some,Option.some.injEq] at hr;subst hr;exact (xU1 hg hf (k2 i x c hl hc)).1
def PlOk (C:Cx)(X:WS)(fr:Fr)(a:Act)(v:Value):Pl->Prop
 | .box t off=>∃cs b,fr t=.box cs/\tm a.tmps t=.pointer (some ⟨b,0,none⟩)/\v=.pointer (some ⟨b,off,none⟩)
 | .ptr b off=>v=.pointer (some ⟨b,off,none⟩)
 | .cp x=>C.v X v (.cptr x)
theorem uWv {n0:Nat}{fr:Fr}{ad:Ad}{a:Act}{x:Operand}{p:Pl}(hg:Good C X)(hf:FrOk C X n0 fr a.tmps)(had:AdOk fr a.tmps ad)(h:evA C.gl ad fr x=some p):PlOk C X fr a (a.eval x) p:=by
 cases x with
 | tmp t =>
  simp only[evA] at h;cases hq:ad t with
  | some e =>
   obtain⟨s,off⟩:=e;simp only[hq,plAd,Option.some.injEq] at h;subst h;obtain⟨cs,b,h1,h2,h3⟩:=had t s off hq;exact⟨cs,b,h1,h2,h3⟩
  | none =>
   simp only[hq,plAd] at h;have hs:=hf.slot t;unfold plOf at h;split at h
   ·rename_i cs hfr;cases h;rw[hfr] at hs;obtain⟨b,c,T,hr,_⟩:=hs;exact⟨_,b,hfr,hr,hr⟩
   ·rename_i b off hfr;cases h;rw[hfr] at hs;exact V.raw_inv hs
   ·rename_i y hfr;cases h;rw[hfr] at hs;exact hs
   ·cases h
 | global g =>
  simp only[evA] at h;cases hq:C.gl g with
  | none=>simp[hq] at h
  | some z =>
   simp only[hq,Option.map_some,Option.some.injEq] at h;subst h;exact hg.gl g z hq
 | const v=>cases h
 | func f=>cases h
theorem yZw {P:Program}{T:TypeId}{ag:Bool}{n:Nat}(h:tyI P T=some (ag,n))(w:World):(isAgg T).run P w=.ok ag w/\(sizeOf T).run P w=.ok n w:=by
 unfold tyI at h;split at h
 ·rename_i d i hd hi;cases h;refine⟨?_,?_⟩
  ·simp only[isAgg,Sem.run_bind,run_underlying hd,Result.andThen_ok];cases d<;>rfl
  ·simp only[sizeOf,Sem.run_bind,run_typeInfo w hi,Result.andThen_ok,Sem.run_pure]
 ·cases h
theorem zX8 {P:Program}{T:TypeId}{ag:Bool}{n:Nat}(h:tyI P T=some (ag,n)):(P.info? T).map (·.size)=some n:=by
 unfold tyI at h;grind
theorem zXv {P:Program}{T:TypeId}{z:IV}(h:yZe P T=some z)(w:World):∃v,(zeroValue T).run P w=.ok v w/\(∀B L w',V B L w' v z)/\z.def_/\z.cells.all IV.one=true:=by
 unfold yZe at h;cases hi:P.info? T with
 | none=>simp[hi] at h
 | some i =>
  simp only[hi,Option.bind_some] at h;cases hz:i.zero with
  | none=>simp[hz] at h
  | some v =>
   simp only[hz,Option.bind_some] at h;refine⟨v,?_,λB L w'=>(yW5 h).1,(yW5 (B:=0) (L:=λ_=>0) (w:=w) h).2.1,(yW5 (B:=0) (L:=λ_=>0) (w:=w) h).2.2⟩;simp only[zeroValue,Sem.run_bind,run_typeInfo w hi,Result.andThen_ok,hz,Sem.run_pure]
theorem yJk (b o i:Nat):(⟨b,o,none⟩:Addr).add i=⟨b,o+i,none⟩:=by unfold Addr.add;split<;>simp_all
theorem yJj (ad:Addr)(h:ad.spot=none)(i:Nat):ad.add i=⟨ad.block,ad.off+i,none⟩:=by
 obtain⟨b,o,s⟩:=ad;simp only at h;subst h;exact yJk b o i
theorem yZ0 {w:World}{b:Nat}{c:Array Value}{T:TypeId}{f:Nat×Nat}(h:w.heap[b]?=some (.cells c T f))(i:Nat):w.cell? ⟨b,i,none⟩=c.toList[i]?:=by
 simp[World.cell?,h]
theorem yGz {P:Program}{T:TypeId}{ag:Bool}{n:Nat}(ht:tyI P T=some (ag,n))(w:World)(a:Addr)(rs:List Value)
  (hc:∀(i:Nat) (v:Value),rs[i]?=some v->w.cell? (a.add i)=some v) :
  (ag=true->rs.length=n->(loadVar T a).run P w=.ok (.agg ⟨rs⟩) w)/\(ag=false->∀v,rs[0]?=some v->(loadVar T a).run P w=.ok v w):=by
 obtain⟨h1,h2⟩:=yZw ht w;refine⟨λhag hn=>?_,λhag v hv=>?_⟩
 ·subst hag;subst hn;have hl:=run_loadCells_list (P:=P) w a rs hc;simp only[loadVar,Sem.run_bind,h1,Result.andThen_ok,if_true,h2,hl,Sem.run_pure]
 ·subst hag;have h0:=hc 0 v hv;have ha:a.add 0=a:=by simp[Addr.add]
  rw[ha] at h0;simp only[loadVar,Sem.run_bind,h1,Result.andThen_ok,bFt,if_false,run_load,h0]
theorem zXg {T:TypeId}{ag:Bool}{n b off:Nat}{c:Array Value}{E:TypeId}{f:Nat×Nat}{cs:List IV}{y:IV}(ht:tyI C.P T=some (ag,n))(hh:X.w.heap[b]?=some (.cells c E f))(hv:C.vl X c.toList cs)
  (hp:yJl ag n cs off=some y):∃v,(loadVar T ⟨b,off,none⟩).run C.P X.w=.ok v X.w/\C.v X v y:=by
 unfold yJl at hp;have hvd:=hv.drop off;split at hp
 ·rename_i hag;split at hp
  ·rename_i hle;cases hp;have hvt:=hvd.take n;refine⟨_,(yGz ht X.w ⟨b,off,none⟩ ((c.toList.drop off).take n) (λi v hi=>?_)).1 hag (by rw[hvt.1,List.length_take,List.length_drop];omega),hvt.agg⟩;rw[yJk,yZ0 hh];grind
  ·cases hp
 ·rename_i hag;obtain⟨r,hr,hry⟩:=hv.get hp;refine⟨r,(yGz ht X.w ⟨b,off,none⟩ (c.toList.drop off) (λi v hi=>?_)).2 (by simpa using hag) r (by rw[List.getElem?_drop];simpa using hr),hry⟩;rw[yJk,yZ0 hh];grind
theorem wZv {T:TypeId}{ag:Bool}{n:Nat}{ad:Addr}{y:IV}(ht:tyI C.P T=some (ag,n))(hv:C.v X (.pointer (some ad)) (.cptr y))(hf:fits ag n y=true) :
  ∃v,(loadVar T ad).run C.P X.w=.ok v X.w/\C.v X v y:=by
 cases hv with
 | cptr _ _ vs hsp hvl hL hc h =>
  have hcell:∀(i:Nat) (v:Value),vs[i]?=some v->X.w.cell? (ad.add i)=some v:=λi v hi=>by rw[yJj ad hsp];exact hc i v hi
  obtain⟨k1,k2⟩:=yGz ht X.w ad vs hcell;have hvs:C.vl X vs y.cells:=⟨hvl,h⟩
  unfold fits at hf;split at hf
  ·rename_i cs;simp only[bAt,beq_iff_eq] at hf;exact⟨_,k1 hf.1.1 (by rw[hvl];exact hf.1.2),hvs.agg⟩
  ·rename_i hna;simp only[bAt,Bool.not_eq_true',beq_iff_eq] at hf;have hc1:=IV.one_cells hf.1.2;rw[hc1] at hvs;obtain⟨r,hr,hry⟩:=hvs.get (i:=0) (c:=y) rfl;grind
theorem V.cptr_ptr {B:Nat}{L:Nat->Nat}{w:World}{r:Value}{x:IV}(h:V B L w r (.cptr x)):∃ad,r=.pointer (some ad)/\ad.spot=none:=by
 cases h with
 | cptr ad _ _ hsp=>exact⟨ad,rfl,hsp⟩
theorem yGk {rs:List Value}{cs:List IV}(hv:C.vl X rs cs)(h:cs.all IV.one=true):∀v∈rs,v.oneCell'=true:=by
 intro v hm;obtain⟨i,hi,hvi⟩:=List.mem_iff_getElem.1 hm;have hr:rs[i]?=some v:=by rw[List.getElem?_eq_getElem hi,hvi]
 have hc:cs[i]?=some (cs[i]'(by rw[<- hv.1];exact hi)):=List.getElem?_eq_getElem _;have h1:=V.flat (hv.2 i _ _ hr hc) (List.all_eq_true.1 h _ (List.getElem_mem _));cases v<;>first|rfl|simp[Value.flat] at h1
theorem zZp {T:TypeId}{ag:Bool}{b off:Nat}{c:Array Value}{E:TypeId}{v:Value}{y:IV}(ht:tyI C.P T=some (ag,y.cells.length))(hh:X.w.heap[b]?=some (.cells c E (0,0)))
  (hv:C.v X v y) (hd:y.def_) (h1:y.cells.all IV.one=true) (hle:off+y.cells.length<=c.size) :
  (storeVar T ⟨b,off,none⟩ v).run C.P X.w=.ok () (X.w.setRow b (c.toList.take off++v.cells.toList++c.toList.drop (off+v.cells.toList.length)).toArray)/\C.vl X v.cells.toList y.cells:=by
 have hna:∀u,y≠.raw (.agg u):=by
  rintro u rfl;simp[IV.cells,IV.one] at h1
 have hvl:=V.cells hv hna hd;refine⟨?_,hvl⟩;have h2:=(yZw ht X.w).2;have hsz:v.cells.size=y.cells.length:=by rw[<- hvl.1];simp
 have hst:=run_storeCells_at (P:=C.P) b off E v.cells.toList 0 c X.w hh (by rw[hvl.1];omega) (yGk hvl h1);simp only[storeVar,Sem.run_bind,h2,Result.andThen_ok,hsz,ne_eq,nTf,if_false,hst];simp
theorem yG4 {rs:List Value}{cs:List IV}{off:Nat}{vs:List Value}{ys:List IV}(h:C.vl X rs cs)(hy:C.vl X vs ys) :
  C.vl X (rs.take off++vs++rs.drop (off+vs.length)) (yXc cs off ys):=by
 unfold yXc;rw[hy.1];exact ((h.take off).append hy).append (h.drop _)
end
def PK (C:Cx)(X0:WS)(N:Nat)(K:Kt)(a:Act)(w:World):Prop :=
 ∃X ad fr ds,X.w=w/\Inv C X0 N X fr ds a/\AdOk fr a.tmps ad/\K ad fr X.st ds
section
variable {C:Cx}{X0 X:WS}{N:Nat}{fr:Fr}{ds:List Dfd}{a:Act}{ad:Ad}{dst:Option Nat}{K:Kt}
theorem yZm {x:IV}{v:Value}(hI:Inv C X0 N X fr ds a)(had:AdOk fr a.tmps ad)(hd:∀d,dst=some d->d<N)(hv:C.v X v x)
  (h:finK dst K ad fr (.val x) X.st ds):PK C X0 N K (a.put dst v) X.w:=by
 cases dst with
 | none=>exact⟨X,ad,fr,ds,rfl,hI,had,h⟩
 | some d=>exact⟨X,_,_,ds,rfl,hI.put (hd d rfl) hv,had.put d v _,h⟩
theorem xJq {t off b:Nat}{cs:List IV}(hI:Inv C X0 N X fr ds a)(had:AdOk fr a.tmps ad)(hd:∀d,dst=some d->d<N)(ht:fr t=.box cs)
  (hb:tm a.tmps t=.pointer (some ⟨b,0,none⟩)) (h:finK dst K ad fr (.adr t off) X.st ds):PK C X0 N K (a.put dst (.pointer (some ⟨b,off,none⟩))) X.w:=by
 cases dst with
 | none=>exact⟨X,ad,fr,ds,rfl,hI,had,h⟩
 | some d =>
  simp only[finK] at h;split at h
  ·exact h.elim
  ·rename_i hne;exact⟨X,_,_,ds,rfl,hI.put (hd d rfl) (.junk _),had.adr (by rw[hI.size];exact hd d rfl) hne ht hb _,h⟩
theorem vQq {c:Array Value}{T:TypeId}{cs:List IV}(hI:Inv C X0 N X fr ds a)(had:AdOk fr a.tmps ad)(hd:∀d,dst=some d->d<N)(hv:C.vl X c.toList cs)
  (h:finK dst K ad fr (.box cs) X.st ds):PK C X0 N K (a.put dst (.pointer (some ⟨X.w.heap.size,0,none⟩))) (X.w.alloc (.cells c T)):=by
 cases dst with
 | none=>exact h.elim
 | some d=>exact⟨{ X with w:=X.w.alloc (.cells c T) },_,_,ds,rfl,hI.box (hd d rfl) c T hv,had.put d _ _,h⟩
theorem vQp (hI:Inv C X0 N X fr ds a)(had:AdOk fr a.tmps ad)(h:finK dst K ad fr .nop X.st ds):PK C X0 N K (a.put dst undef) X.w:=by
 cases dst with
 | some _=>exact h.elim
 | none=>exact⟨X,ad,fr,ds,rfl,hI,had,h⟩
theorem wGb {p:Pl}{v:Value}(hI:Inv C X0 N X fr ds a)(had:AdOk fr a.tmps ad)(hd:∀d,dst=some d->d<N)(hp:PlOk C X fr a v p)
  (h:plR p (finK dst K ad fr) X.st ds):PK C X0 N K (a.put dst v) X.w:=by
 cases p with
 | box t off =>
  obtain⟨cs,b,h1,h2,rfl⟩:=hp;exact xJq hI had hd h1 h2 h
 | ptr b off =>
  obtain rfl:=hp;exact yZm hI had hd (.raw _ trivial) h
 | cp x=>exact yZm hI had hd hp h
end
def yZb (ro:Option Nat):Fence:={ Fence.wide with round:=ro }
section
variable {C:Cx}{X0 X:WS}{N:Nat}{fr:Fr}{ds:List Dfd}{a:Act}{ad:Ad}{K:Kt}{ro:Option Nat}{n:Nat}{Q:Exit->Act->World->Prop}{o:Oper}
theorem yQe {v:Value}{w':World}(hr:(execOp a.eval o).run C.P X.w=.ok (.value v) w')(hnd:∀c,o.op≠.defer c)(h:PK C X0 N K (a.put o.dst v) w') :
  o.wpIn (yZb ro) n C.P a X.w (PK C X0 N K) Q:=by
 refine⟨λ_ _=>trivial,?_⟩;rw[Oper.semAt_eq _ _ _ hnd,hr];exact h
theorem xXr {w':World}(hr:(execOp a.eval o).run C.P X.w=.ok .skip w')(hnd:∀c,o.op≠.defer c)(h:PK C X0 N K (a.put o.dst undef) w') :
  o.wpIn (yZb ro) n C.P a X.w (PK C X0 N K) Q:=by
 refine⟨λ_ _=>trivial,?_⟩;rw[Oper.semAt_eq _ _ _ hnd,hr];exact h
structure At (C:Cx)(X0:WS)(N:Nat)(X:WS)(fr:Fr)(ds:List Dfd)(a:Act)(ad:Ad)(dst:Option Nat):Prop where
 inv:Inv C X0 N X fr ds a
 ad:AdOk fr a.tmps ad
 hd:∀d,dst=some d->d<N
variable (hA:At C X0 N X fr ds a ad o.dst)
include hA
theorem At.v {x:Operand}{y:IV}(h:evV C.gl fr x=some y):C.v X (a.eval x) y/\y.def_:=xU1 hA.inv.good hA.inv.fr h
theorem At.p {x:Operand}{p:Pl}(h:evA C.gl ad fr x=some p):PlOk C X fr a (a.eval x) p:=uWv hA.inv.good hA.inv.fr hA.ad h
theorem At.val {x:IV}{v:Value}(hv:C.v X v x)(h:finK o.dst K ad fr (.val x) X.st ds):PK C X0 N K (a.put o.dst v) X.w:=yZm hA.inv hA.ad hA.hd hv h
theorem zVw {x:Operand}{dr:Bool}(ho:o.op=.move x\/o.op=.assign x)(h:zZ0 dr (evV C.gl fr x) (evA C.gl ad fr x) (finK o.dst K ad fr) X.st ds) :
  o.wpIn (yZb ro) n C.P a X.w (PK C X0 N K) Q:=by
 refine yQe (v:=a.eval x) (w':=X.w) (by unfold execOp;rcases ho with ho|ho<;>rw[ho]<;>rfl) (by rcases ho with ho|ho<;>rw[ho]<;>intro c hc<;>cases hc) ?_;unfold zZ0 at h;split at h
 ·rename_i y hy;exact hA.val (hA.v hy).1 h
 ·split at h
  ·exact h.elim
  ·obtain⟨p,hp,h⟩:=yQ2.1 h;exact wGb hA.inv hA.ad hA.hd (hA.p hp) h
end
section
theorem yYt {y:IV}(h1:y.cells.all IV.one=true):∀u,y≠.raw (.agg u):=by
 rintro u rfl;simp[IV.cells,IV.one] at h1
theorem yKc {s:IV}{f:IntKind->Int->Prop}(h:intV s f):∃k n,s=.raw (.int k n)/\f k n:=by
 unfold intV at h;split at h
 ·grind
 ·exact h.elim
theorem zY0 {s:IV}{f:Bool->Prop}(h:zX6 s f):∃b,s=.raw (.bool b)/\f b:=by
 unfold zX6 at h;split at h
 ·grind
 ·exact h.elim
theorem wQl {s:IV}{f:Tag->List IV->Prop}(h:slV s f):∃t xs,s=.sl t xs/\f t xs:=by
 unfold slV at h;split at h
 ·grind
 ·exact h.elim
theorem wQk {s:IV}{f:Tag->List IV->Prop}{g:Nat->Nat->Nat->Prop}(h:slX s f g):(∃t xs,s=.sl t xs/\f t xs)\/∃b off n cap,s=.raw (.slice (some ⟨b,off,none⟩) n cap)/\g b off n:=by
 unfold slX at h;split at h
 ·grind
 ·grind
 ·exact h.elim
theorem zJb {s:IV}{f:Tag->List IV->Prop}{g:Nat->Nat->Nat->Nat->Prop}(h:slY s f g):(∃t xs,s=.sl t xs/\f t xs)\/∃b off n cap,s=.raw (.slice (some ⟨b,off,none⟩) n cap)/\g b off n cap:=by
 unfold slY at h;split at h
 ·grind
 ·grind
 ·exact h.elim
theorem zXt {s:IV}{f:List IV->Prop}(h:aggV s f):∃xs,s=.agg xs/\f xs:=by
 unfold aggV at h;split at h
 ·grind
 ·exact h.elim
theorem wKr {s:IV}{f:List IV->Prop}(h:tupV s f):∃xs,s=.tup xs/\f xs:=by
 unfold tupV at h;split at h
 ·grind
 ·exact h.elim
theorem xJl {s:IV}{f:Fn->List IV->List IV->Prop}(h:fnV s f):∃g x y,s=.fn g x y/\f g x y:=by
 unfold fnV at h;split at h
 ·grind
 ·exact h.elim
theorem zXf {s:IV}{f:Option Nat->Prop}(h:mapV s f):∃m,s=.raw (.map m)/\f m:=by
 unfold mapV at h;split at h
 ·grind
 ·exact h.elim
theorem zYm {s:IV}{f:Value->Prop}(h:rawV s f):∃v,s=.raw v/\f v:=by
 unfold rawV at h;split at h
 ·grind
 ·exact h.elim
theorem xW2 {B:Nat}{L:Nat->Nat}{w:World}{r:Value}{x:IV}{f:Value->Prop}(hv:V B L w r x)(h:keyV x f):f r:=by
 unfold keyV at h;split at h
 ·rw[V.raw_inv hv];exact h
 ·rename_i s k n;cases hv with
  | agg rs cs hl h' =>
   match rs,hl with
   | [a,b],_ =>
    have h1:=h' 0 a _ rfl rfl;have h2:=V.raw_inv (h' 1 b _ rfl rfl);have h3:=V.raw_inv h1;subst h2;subst h3;cases h1 with
    | raw _ hr=>exact h hr
 iterate 2
  ·cases hv with
   | agg rs cs hl h' =>
    match rs,hl with
    | [a,b],_ =>
     have h2:=V.raw_inv (h' 1 b _ rfl rfl);have h3:=V.raw_inv (h' 0 a _ rfl rfl);subst h2;subst h3;exact h
 ·exact h.elim
theorem xYd {s:IV}{f:Nat->Prop}(h:adrV s f):∃b,s=.raw (.pointer (some ⟨b,0,none⟩))/\f b:=by
 unfold adrV at h;split at h
 ·grind
 ·exact h.elim
theorem wXd {s:IObj}{f:Nat->Nat->Array Nat->Nat->Prop}(h:itO s f):∃m e n c,s=.iter m e n c/\f m e n c:=by
 unfold itO at h;split at h
 ·grind
 ·exact h.elim
theorem xXw {s:IObj}{f:Array MapEntry->Nat->Prop}(h:mxO s f):∃e c,s=.mapx e c/\f e c:=by
 unfold mxO at h;split at h
 ·grind
 ·exact h.elim
theorem zJr {s:IObj}{f:List IV->Prop}(h:obV s f):∃cs,s=.box cs/\f cs:=by
 unfold obV at h;split at h
 ·grind
 ·exact h.elim
theorem xXs {s:IObj}{f:KeyK->List (Value×IV)->Prop}(h:omV s f):∃k cs,s=.map k cs/\f k cs:=by
 unfold omV at h;split at h
 ·grind
 ·exact h.elim
theorem yQz {c q:Prop} [Decidable c](h:if c then q else False):c/\q:=by
 grind
theorem yJv {c q:Prop} [Decidable c](h:if c then False else q):¬ c/\q:=by
 grind
end
section
variable {C:Cx}{X0 X:WS}{N:Nat}{fr:Fr}{ds:List Dfd}{a:Act}{ad:Ad}{K:Kt}{ro:Option Nat}{n:Nat}{Q:Exit->Act->World->Prop}{o:Oper}
variable (hA:At C X0 N X fr ds a ad o.dst)
include hA
theorem xYr {b x y:Operand}(ho:o.op=.pick b x y)
  (h:yQ5 (evV C.gl fr b) λb=>zX6 b λb=>yYv b (yQ5 (evV C.gl fr x) λx=>finK o.dst K ad fr (.val x) X.st ds) (yQ5 (evV C.gl fr y) λy=>finK o.dst K ad fr (.val y) X.st ds) .mk .mk) :
  o.wpIn (yZb ro) n C.P a X.w (PK C X0 N K) Q:=by
 obtain⟨vb,hb,h⟩:=yQ2.1 h;obtain⟨t,rfl,h⟩:=zY0 h;have he:=V.raw_inv (hA.v hb).1;have hr:(execOp a.eval o).run C.P X.w=.ok (.value (if t=true then a.eval x else a.eval y)) X.w:=by
  unfold execOp;rw[ho];simp[he,asBool]
 refine yQe hr (by rw[ho];intro c hc;cases hc) ?_;cases t with
 | true =>
  obtain⟨z,hz,h⟩:=yQ2.1 (h.1 rfl);exact hA.val (hA.v hz).1 h
 | false =>
  obtain⟨z,hz,h⟩:=yQ2.1 (h.2 rfl);exact hA.val (hA.v hz).1 h
theorem zZo {esc:List Nat}{v:Value}{T:TypeId}{y:List IV}(hv:C.vl X v.cells.toList y)(h:yWw esc o.dst y (finK o.dst K ad fr) X.st ds) :
  PK C X0 N K (a.put o.dst (.pointer (some ⟨X.w.heap.size,0,none⟩))) (X.w.alloc (.cells v.cells T)):=by
 unfold yWw at h;cases hd:o.dst with
 | none=>rw[hd] at h;exact h.elim
 | some d =>
  rw[hd] at h;simp only at h;split at h
  ·have hnone:X.st X.w.heap.size=none:=by
    cases hs:X.st X.w.heap.size with
    | none=>rfl
    | some o=>have:=hA.inv.good.lt hs;omega
   have h:=h X.w.heap.size hnone;have hI:=hA.inv.new (.cells v.cells T) 0 (some (.box y)) (λi hi=>by
    cases hi;exact⟨by simp[WS.new],v.cells,T,yQk _ _,(hA.inv.good.new_ext _ 0 _).vl hv⟩)
   have:=yZm (dst:=some d) (K:=K) (x:=.raw (.pointer (some ⟨X.w.heap.size,0,none⟩))) (v:=.pointer (some ⟨X.w.heap.size,0,none⟩)) hI hA.ad (λe he=>hA.hd e (by rw[hd];exact he)) (.raw _ trivial) h;exact this
  ·exact vQq (dst:=some d) hA.inv hA.ad (λe he=>hA.hd e (by rw[hd];exact he)) hv h
theorem xXd {esc:List Nat}{T:TypeId}(ho:o.op=.alloc T)(h:yQ5 (yZe C.P T) λz=>yWw esc o.dst z.cells (finK o.dst K ad fr) X.st ds) :
  o.wpIn (yZb ro) n C.P a X.w (PK C X0 N K) Q:=by
 obtain⟨z,hz,h⟩:=yQ2.1 h;obtain⟨v,hrun,hv,hd,h1⟩:=zXv hz X.w;have hr:(execOp a.eval o).run C.P X.w=.ok (.value (.pointer (some ⟨X.w.heap.size,0,none⟩))) (X.w.alloc (.cells v.cells T)):=by
  unfold execOp;rw[ho];simp[Instr.alloc,hrun,newVar,newRow]
 exact yQe hr (by rw[ho];intro c hc;cases hc) (zZo hA (V.cells (hv _ _ _) (yYt h1) hd) h)
theorem zYd {frz esc:List Nat}{v:Value}{T:TypeId}{y:IV}(hv:C.vl X v.cells.toList y.cells)(h:yWn frz esc o.dst y (finK o.dst K ad fr) X.st ds) :
  PK C X0 N K (a.put o.dst (.pointer (some ⟨X.w.heap.size,0,none⟩))) (X.w.alloc (.cells v.cells T)):=by
 unfold yWn at h;cases hd:o.dst with
 | none=>rw[hd] at h;exact h.elim
 | some d =>
  rw[hd] at h;simp only at h;split at h
  ·have hnone:X.st X.w.heap.size=none:=by
    cases hs:X.st X.w.heap.size with
    | none=>rfl
    | some o=>have:=hA.inv.good.lt hs;omega
   have hI:=hA.inv.new (.cells v.cells T) v.cells.size none (λi hi=>by cases hi);have hst:(X.new (.cells v.cells T) v.cells.size none).st=X.st:=by
    funext b;simp only[WS.new];split
    ·grind
    ·rfl
   rw[<- hst] at h;have hext:=hA.inv.good.new_ext (.cells v.cells T) v.cells.size none;have hvl:=hext.vl hv;have hcp:C.v (X.new (.cells v.cells T) v.cells.size none) (.pointer (some ⟨X.w.heap.size,0,none⟩)) (.cptr y):=by
    refine .cptr _ y v.cells.toList rfl hvl.1 ?_ (λi r hr=>?_) (λi r c hr hc=>hvl.2 i r c hr hc)
    ·simp[WS.new]
    ·have h1:=yQk X.w (.cells v.cells T);have h2:(X.new (.cells v.cells T) v.cells.size none).w=X.w.alloc (.cells v.cells T):=rfl;rw[h2];simp only[World.cell?,h1,Nat.zero_add,Option.isSome_none,bFt,if_false];simpa using hr
   have:=yZm (dst:=some d) (K:=K) (x:=.cptr y) (v:=.pointer (some ⟨X.w.heap.size,0,none⟩)) hI hA.ad (λe he=>hA.hd e (by rw[hd];exact he)) hcp h;exact this
  ·have:=zZo (v:=v) (T:=T) (esc:=esc) hA hv (by rw[hd];exact h);grind
theorem wQg {frz esc:List Nat}{T:TypeId}{x:Operand}(ho:o.op=.box T x)
  (h:yQ5 (tyI C.P T) λ_=>yQ5 (evV C.gl fr x) λy=>chk (y.cells.all IV.one=true) (yWn frz esc o.dst y (finK o.dst K ad fr) X.st ds)) :
  o.wpIn (yZb ro) n C.P a X.w (PK C X0 N K) Q:=by
 obtain⟨i,_,h⟩:=yQ2.1 h;obtain⟨y,hy,h1,h⟩:=yQ2.1 h;have hr:(execOp a.eval o).run C.P X.w=.ok (.value (.pointer (some ⟨X.w.heap.size,0,none⟩))) (X.w.alloc (.cells (a.eval x).cells T)):=by
  unfold execOp;rw[ho];simp[Instr.box,newVar,newRow]
 exact yQe hr (by rw[ho];intro c hc;cases hc) (zYd hA (V.cells (hA.v hy).1 (yYt h1) (hA.v hy).2) h)
theorem xYt {dr:Bool}{T:TypeId}{x:Operand}(ho:o.op=.load T x)
  (h:yQ5 (tyI C.P T) λi=>yQ5 (evA C.gl ad fr x) λp=>zQ3 dr i.1 i.2 p fr (finK o.dst K ad fr) X.st ds) :
  o.wpIn (yZb ro) n C.P a X.w (PK C X0 N K) Q:=by
 obtain⟨⟨ag,sz⟩,ht,h⟩:=yQ2.1 h;obtain⟨p,hp,h⟩:=yQ2.1 h;have hpl:=hA.p hp;have key:∀(ad':Addr) (v:Value),a.eval x=.pointer (some ad')->(loadVar T ad').run C.P X.w=.ok v X.w->(execOp a.eval o).run C.P X.w=.ok (.value v) X.w:=by
  intro ad' v he hl;unfold execOp;rw[ho];simp only[Instr.loadAt,he,Instr.sureAddr,Sem.run_bind,Sem.run_pure,Result.andThen_ok,hl]
 have hnd:∀c,o.op≠.defer c:=by rw[ho];intro c hc;cases hc
 cases p with
 | box t off =>
  obtain⟨cs,b,hfr,hb,he⟩:=hpl;simp only[zQ3,hfr] at h;obtain⟨y,hy,h⟩:=yQ2.1 h;have hs:=hA.inv.fr.slot t;rw[hfr] at hs;obtain⟨b',c,E,hr,hh,hvl,_⟩:=hs;rw[hb] at hr;cases hr;obtain⟨v,hl,hv⟩:=zXg ht hh hvl hy;exact yQe (key _ v he hl) hnd (hA.val hv h)
 | ptr b off =>
  obtain⟨_,h⟩:=yJv h;obtain⟨ob,hob,h⟩:=yQ2.1 h;obtain⟨cs,rfl,h⟩:=zJr h;obtain⟨y,hy,h⟩:=yQ2.1 h;obtain⟨_,c,E,hh,hvl⟩:=hA.inv.good.ok b _ hob;obtain⟨v,hl,hv⟩:=zXg ht hh hvl hy;exact yQe (key _ v hpl hl) hnd (hA.val hv h)
 | cp y =>
  obtain⟨hf,h⟩:=yQz h;obtain⟨ad',he,_⟩:=V.cptr_ptr hpl;have hpl':C.v X (.pointer (some ad')) (.cptr y):=he▸hpl;obtain⟨v,hl,hv⟩:=wZv ht hpl' hf;exact yQe (key _ v he hl) hnd (hA.val hv h)
theorem xX3 {T:TypeId}{x v:Operand}(ho:o.op=.store T x v)
  (h:yQ5 (tyI C.P T) λi=>yQ5 (evV C.gl fr v) λy=>chk (y.cells.length=i.2/\y.cells.all IV.one=true) (yQ5 (evA C.gl ad fr x) λp=>yY6 y.cells p fr (finK o.dst K ad fr) X.st ds)) :
  o.wpIn (yZb ro) n C.P a X.w (PK C X0 N K) Q:=by
 obtain⟨⟨ag,sz⟩,ht,h⟩:=yQ2.1 h;obtain⟨y,hy,⟨hsz,h1⟩,h⟩:=yQ2.1 h;obtain⟨p,hp,h⟩:=yQ2.1 h;simp only at hsz;subst hsz;have hpl:=hA.p hp;obtain⟨hv,hdef⟩:=hA.v hy;have key:∀(ad':Addr) (w':World),a.eval x=.pointer (some ad')->(storeVar T ad' (a.eval v)).run C.P X.w=.ok () w'->(execOp a.eval o).run C.P X.w=.ok .skip w':=by
  intro ad' w' he hl;unfold execOp;rw[ho];simp only[Instr.storeAt,he,Instr.sureAddr,Sem.run_bind,Sem.run_pure,Result.andThen_ok,hl]
 have hnd:∀c,o.op≠.defer c:=by rw[ho];intro c hc;cases hc
 cases p with
 | box t off =>
  obtain⟨cs,b,hfr,hb,he⟩:=hpl;simp only[yY6,hfr] at h;obtain⟨hle,h⟩:=yQz h;have hs:=hA.inv.fr.slot t;rw[hfr] at hs;obtain⟨b',c,E,hr,hh,hvl,_⟩:=hs;rw[hb] at hr;cases hr;have hcl:c.size=cs.length:=by rw[<- hvl.1];simp
  obtain⟨hst,hvc⟩:=zZp ht hh hv hdef h1 (off:=off) (by rw[hcl];exact hle);refine xXr (key _ _ he hst) hnd ?_;cases hd:o.dst with
  | some d=>rw[hd] at h;exact h.elim
  | none =>
   rw[hd] at h;have hI:=hA.inv.own hfr hb hh (cs':=(c.toList.take off++(a.eval v).cells.toList++c.toList.drop (off+(a.eval v).cells.toList.length)).toArray) (new:=yXc cs off y.cells) (by simp;have:=hvc.1;simp at this;omega)
    (by simpa using yG4 hvl hvc)
   exact⟨_,ad,_,ds,rfl,hI,hA.ad.own _,h⟩
 | ptr b off =>
  obtain⟨ob,hob,h⟩:=yQ2.1 h;obtain⟨cs,rfl,h⟩:=zJr h;obtain⟨hle,h⟩:=yQz h;obtain⟨hL,c,E,hh,hvl⟩:=hA.inv.good.ok b _ hob;have hcl:c.size=cs.length:=by rw[<- hvl.1];simp
  obtain⟨hst,hvc⟩:=zZp ht hh hv hdef h1 (off:=off) (by rw[hcl];exact hle);refine xXr (key _ _ hpl hst) hnd ?_;have hsz':∀c':Array Value,c'=c->(c.toList.take off++(a.eval v).cells.toList++c.toList.drop (off+(a.eval v).cells.toList.length)).toArray.size=c'.size:=by
   rintro _ rfl;simp;have:=hvc.1;simp at this;omega
  have hkeep:∀i,i<X.L b->((c.toList.take off++(a.eval v).cells.toList++c.toList.drop (off+(a.eval v).cells.toList.length)).toArray)[i]?=c[i]?:=λi hi=>by rw[hL] at hi;omega
  have hI:=hA.inv.row hh (hsz' c rfl) (n:=0) (so:=some (.box (yXc cs off y.cells))) (by omega) hkeep (by rw[hob];simp) (λi hi=>by
   cases hi;refine⟨by simp[WS.row],_,E,setRow_heap X.w b c _ E (0,0) hh,?_⟩;have:=yG4 hvl hvc (off:=off);exact⟨by simpa using this.1,λi r z hr hz=>zQu hh (hsz' c rfl) (by omega) hkeep (this.2 i r z (by simpa using hr) hz)⟩)
  cases hd:o.dst with
  | some d=>rw[hd] at h;exact h.elim
  | none =>
   rw[hd] at h;exact⟨_,ad,_,ds,rfl,hI,hA.ad,h⟩
 | cp y=>exact h.elim
theorem zVc {dr:Bool}{x:Operand}(ho:o.op=.nilCheck x)(h:nilV (evV C.gl fr x) (evA C.gl ad fr x) dr (finK o.dst K ad fr) X.st ds) :
  o.wpIn (yZb ro) n C.P a X.w (PK C X0 N K) Q:=by
 have hnd:∀c,o.op≠.defer c:=by rw[ho];intro c hc;cases hc
 have last:(yQ5 (evA C.gl ad fr x) λp=>plR p (finK o.dst K ad fr) X.st ds)->o.wpIn (yZb ro) n C.P a X.w (PK C X0 N K) Q:=λh=>by
  obtain⟨p,hp,h⟩:=yQ2.1 h;have hpl:=hA.p hp;have hptr:∃ad',a.eval x=.pointer (some ad'):=by
   cases p with
   | box t off=>obtain⟨_,_,_,_,he⟩:=hpl;exact⟨_,he⟩
   | ptr b off=>exact⟨_,hpl⟩
   | cp y=>obtain⟨ad',he,_⟩:=V.cptr_ptr hpl;exact⟨_,he⟩
  obtain⟨ad',he⟩:=hptr;have hr:(execOp a.eval o).run C.P X.w=.ok (.value (a.eval x)) X.w:=by
   unfold execOp;rw[ho];simp only[he];rfl
  exact yQe hr hnd (wGb hA.inv hA.ad hA.hd hpl h)
 unfold nilV at h;split at h
 ·rename_i f first caps hy
  obtain⟨hf,h⟩:=yQz h;have hv:=(hA.v hy).1;obtain⟨rs,rs',he,_⟩:=V.fn_inv hv;have hr:(execOp a.eval o).run C.P X.w=.ok (.value (a.eval x)) X.w:=by
   unfold execOp;rw[ho];simp only[he];cases f<;>first|rfl|simp[fnOk] at hf
  exact yQe hr hnd (hA.val hv h)
 ·rename_i y hy;have hv:=(hA.v hy).1;obtain⟨ad',he,_⟩:=V.cptr_ptr hv;have hr:(execOp a.eval o).run C.P X.w=.ok (.value (a.eval x)) X.w:=by
   unfold execOp;rw[ho];simp only[he];rfl
  exact yQe hr hnd (hA.val hv h)
 ·rename_i q hy;by_cases hdr:dr=true
  ·rw[if_pos hdr] at h;have he:=V.raw_inv (hA.v hy).1;have hr:(execOp a.eval o).run C.P X.w=.ok (.value (a.eval x)) X.w:=by
    unfold execOp;rw[ho];simp only[he];rfl
   exact yQe hr hnd (hA.val (hA.v hy).1 h)
  ·grind
 ·grind
theorem zVd {f:Fn}{first caps:Array Operand}(ho:o.op=.makeFunc f first caps)
  (h:yQ5 (evL C.gl fr first.toList) λx=>yQ5 (evL C.gl fr caps.toList) λy=>finK o.dst K ad fr (.val (.fn f x y)) X.st ds) :
  o.wpIn (yZb ro) n C.P a X.w (PK C X0 N K) Q:=by
 obtain⟨x,hx,h⟩:=yQ2.1 h;obtain⟨y,hy,h⟩:=yQ2.1 h;have h1:=wJ8 hA.inv.good hA.inv.fr hx;have h2:=wJ8 hA.inv.good hA.inv.fr hy;have hr:(execOp a.eval o).run C.P X.w=.ok (.value (.func f ⟨first.toList.map a.eval⟩ ⟨caps.toList.map a.eval⟩)) X.w:=by
  unfold execOp;rw[ho];have e1:first.map a.eval=⟨first.toList.map a.eval⟩:=by apply Array.ext';simp
  have e2:caps.map a.eval=⟨caps.toList.map a.eval⟩:=by apply Array.ext';simp
  simp only[Instr.makeFunc,e1,e2,Sem.run_bind,Sem.run_pure,Result.andThen_ok]
 exact yQe hr (by rw[ho];intro c hc;cases hc) (hA.val (.fn f _ _ h1.1 h1.2 _ _ h2.1 h2.2) h)
theorem zYf {x:Operand}{i:Nat}(ho:o.op=.extract x i)(h:yQ5 (evV C.gl fr x) λx=>tupV x λvs=>yQ5 (vs[i]?) λy=>finK o.dst K ad fr (.val y) X.st ds) :
  o.wpIn (yZb ro) n C.P a X.w (PK C X0 N K) Q:=by
 obtain⟨y,hy,h⟩:=yQ2.1 h;obtain⟨vs,rfl,h⟩:=wKr h;obtain⟨z,hz,h⟩:=yQ2.1 h;obtain⟨rs,he,hvl⟩:=V.tup_inv (hA.v hy).1;obtain⟨r,hr,hv⟩:=hvl.get hz;have hrun:(execOp a.eval o).run C.P X.w=.ok (.value r) X.w:=by
  unfold execOp;rw[ho];have:(⟨rs⟩:Array Value)[i]?=some r:=by simpa using hr
  simp[Instr.extract,he,this]
 exact yQe hrun (by rw[ho];intro c hc;cases hc) (hA.val hv h)
end
theorem xZa:∀ {xs:List IV}{l:List UInt8},yWy xs=some l->xs=l.map λb=>.raw (.int .u8 (b.toNat:Int))
 | [],l,h=>by simp only[yWy,Option.some.injEq] at h;subst h;rfl
 | x::xs,l,h=>by
  unfold yWy at h;split at h
  ·grind
  ·rename_i m l' heq;cases heq;split at h
   ·rename_i hm;rw[Option.map_eq_some_iff] at h;obtain⟨l2,h2,rfl⟩:=h;rw[xZa h2,List.map_cons];congr 3;rw[UInt8.toNat_ofNat'];omega
   ·cases h
  ·cases h
theorem wV1 {C:Cx}{X:WS}{P:Program}{S D:TypeId}{v:Value}{t:Tag}{l:List UInt8}(hv:C.v X v (.sl t (l.map λb=>.raw (.int .u8 (b.toNat:Int)))))(hl:l≠[])(hS:xZb P S=true)(hD:strT P D=true) :
  (convert S D v).run P X.w=.ok (.string ⟨l.toArray⟩) X.w/\l.length<=140737488355328:=by
 unfold xZb at hS;split at hS
 ·rename_i e he;split at hS
  ·rename_i he2;unfold strT at hD;split at hD
   ·rename_i hd;cases hv with
    | sl ad0 cap _ _ T vs hcap hlen hcl hs hvl hroom hfresh hplace hc =>
     have hfl:∀(m:List UInt8),(m.map λb=>IV.raw (.int .u8 (b.toNat:Int))).flatMap IV.cells=m.map λb=>IV.raw (.int .u8 (b.toNat:Int)):=λm=>by
      induction m with
      | nil=>rfl
      | cons a m ih=>simp only[List.map_cons,List.flatMap_cons,ih];rfl
     rw[hfl] at hc;have hes:t.es=1:=by
      match l,hl with
      | b::l,_=>exact (hs (.raw (.int .u8 (b.toNat:Int))) (by simp)).symm
     obtain⟨ad,rfl,hsp,_,hcell⟩:=hplace (by simpa using hl);rw[List.length_map] at hlen hvl ⊢;refine⟨run_convert_bytes_back X.w S D e ad cap l he he2 hd (λj hj=>?_),hlen⟩;rw[yJj ad hsp];have hjv:j<vs.length:=by rw[hvl,hes];omega
     have h1:=List.getElem?_eq_getElem hjv;rw[hcell j _ h1];have h2:=V.raw_inv (hc j _ _ h1 (by rw[List.getElem?_map,List.getElem?_eq_getElem hj];rfl));rw[h2]
   ·cases hD
  ·cases hS
 ·cases hS
theorem yKo {P:Program}{op:BinOp}{T:TypeId}{x y:Operand}{a b:Value}(h1:a≠.nilIface)(h2:∀u,a≠.agg u)(w:World) :
  (eqGuard op T x y a b).run P w=.ok () w:=by
 cases a<;>first
  | (exact absurd rfl h1)
  | (exact absurd rfl (h2 _))
  | (cases op<;>rfl)
theorem xZ4 (a b:ByteArray):(a.toList == b.toList)=decide (a=b):=by
 rw[ByteArray.toList_eq,ByteArray.toList_eq];by_cases h:a=b
 ·subst h;simp
 ·have:¬ a.data=b.data:=λhe=>h (by cases a;cases b;simp at he;subst he;rfl);simp[h,this]
theorem wVc {P:Program}{op:BinOp}{T:TypeId}{a b z:Value}(h:binI P T op a b=some z)(w:World):(binOp op T a b).run P w=.ok z w/\zYn z/\a≠.nilIface/\(∀u,a≠.agg u):=by
 unfold binI at h;split at h
 ·rename_i k x k' y;split at h
  ·rename_i ho;subst ho;split at h
   ·rename_i hy;cases h;exact⟨by simp[binOp,Op.shift,show ¬ y<0 by omega],trivial,by simp,by simp⟩
   ·cases h
  split at h
  ·rename_i ho;subst ho;split at h
   ·rename_i hy;cases h;exact⟨by simp[binOp,Op.shift,show ¬ y<0 by omega],trivial,by simp,by simp⟩
   ·cases h
  split at h
  ·rename_i hk;subst hk;refine⟨?_,?_,by simp,by simp⟩
   ·cases op<;>simp only[cmpI,Option.some.injEq,reduceCtorEq] at h
    case add=>subst h;simp[binOp,Op.intArith]
    case sub=>subst h;simp[binOp,Op.intArith]
    case and=>subst h;simp[binOp,Op.intBits]
    case andNot=>subst h;simp[binOp,Op.intBits]
    case mul=>subst h;simp[binOp,Op.intArith]
    case quo =>
     split at h
     ·cases h
     ·rename_i hy;cases h;simp[binOp,Op.intDiv,hy]
    case rem =>
     split at h
     ·cases h
     ·rename_i hy;cases h;simp[binOp,Op.intDiv,hy]
    case eql=>subst h;simp[binOp,Op.intCmp,BEq.beq]
    case neq=>subst h;simp[binOp,Op.intCmp,bne,BEq.beq]
    case lss=>subst h;simp[binOp,Op.intCmp]
    case leq=>subst h;simp[binOp,Op.intCmp]
    case gtr=>subst h;simp[binOp,Op.intCmp]
    case geq=>subst h;simp[binOp,Op.intCmp]
   ·cases op<;>simp only[cmpI,Option.some.injEq,reduceCtorEq] at h<;>first
     | (subst h;trivial)
     | (split at h
        ·cases h
        ·cases h;trivial)
  ·cases h
 ·rename_i a b;refine⟨?_,?_,by simp,by simp⟩
  ·cases op<;>simp only[Option.some.injEq,reduceCtorEq] at h
   case add =>
    split at h
    ·rename_i hs;cases h;have:¬ ((a.size+b.size:Nat):Int) > IntKind.i64.max:=by
      have:IntKind.i64.max=9223372036854775807:=by decide
      omega
     simp only[binOp,Op.stringOp,if_neg this,Sem.run_pure]
    ·cases h
   all_goals (subst h;simp only[binOp,Op.stringOp,xZ4,Sem.run_pure])
   all_goals simp only[ByteArray.toList_eq]
  ·cases op<;>simp only[Option.some.injEq,reduceCtorEq] at h
   case add =>
    split at h
    ·rename_i hs;cases h;simp only[zYn,ByteArray.size_append];omega
    ·cases h
   all_goals (subst h;trivial)
 ·rename_i a b;split at h
  ·rename_i ht;have he:∀x y:Bool,(Op.equal T (.bool x) (.bool y)).run P w=.ok (x == y) w:=by
    exact λx y=>run_equalIn_bool w 9999 T x y ht
   refine⟨?_,?_,by simp,by simp⟩
   ·cases op<;>simp only[Option.some.injEq,reduceCtorEq] at h<;>(subst h;simp only[binOp,Sem.run_bind,he,Result.andThen_ok,Sem.run_pure])
   ·cases op<;>simp only[Option.some.injEq,reduceCtorEq] at h<;>(subst h;trivial)
  ·cases h
 ·cases h
section
variable {C:Cx}{X0 X:WS}{N:Nat}{fr:Fr}{ds:List Dfd}{a:Act}{ad:Ad}{K:Kt}{ro:Option Nat}{n:Nat}{Q:Exit->Act->World->Prop}{o:Oper}
theorem wUb {B:Nat}{L:Nat->Nat}{w:World}{r:Value}{t:Tag}{xs:List IV}{b:Bool}(hv:V B L w r (.sl t xs))(h:zQt (.sl t xs)=some b):∃ad len cap,r=.slice ad len cap/\ad.isNone=b:=by
 cases hv with
 | sl ad cap _ _ T vs hcap hlen hcl hs hvl hroom hfresh hplace _ =>
  refine⟨ad,_,_,rfl,?_⟩;obtain⟨f,cp,es⟩:=t;unfold zQt at h;split at h
  ·rename_i he;cases he;cases h;simp only[zX5] at hcap;rw[hcap.1];rfl
  ·rename_i he;cases he;cases h;simp only[zX5] at hcap;rw[hcap];rfl
  ·grind
  ·cases h
variable (hA:At C X0 N X fr ds a ad o.dst)
include hA
theorem xXc {op:BinOp}{T T':TypeId}{x y:Operand}(ho:o.op=.binOp op T x y T')
  (h:yQ5 (evV C.gl fr x) λx=>yQ5 (evV C.gl fr y) λy=>yQ5 (binV C.P T op x y) λz=>finK o.dst K ad fr (.val z) X.st ds) :
  o.wpIn (yZb ro) n C.P a X.w (PK C X0 N K) Q:=by
 obtain⟨vx,hx,h2⟩:=yQ2.1 h;clear h;obtain⟨vy,hy,h3⟩:=yQ2.1 h2;clear h2;obtain⟨vz,hz,h⟩:=yQ2.1 h3;clear h3;have hnd:∀c,o.op≠.defer c:=by rw[ho];intro c hc;cases hc
 have hxv:=(hA.v hx).1;have hyv:=(hA.v hy).1;unfold binV at hz;split at hz
 ·rename_i u v;cases hq:binI C.P T op u v with
  | none=>simp[hq] at hz
  | some q =>
   simp only[hq,Option.map_some,Option.some.injEq] at hz;subst hz;obtain⟨hrun,hok,h1,h2⟩:=wVc hq X.w;have e1:=V.raw_inv hxv;have e2:=V.raw_inv hyv;have hr:(execOp a.eval o).run C.P X.w=.ok (.value q) X.w:=by
    unfold execOp;rw[ho];simp only[e1,e2,Sem.run_bind,yKo h1 h2,Result.andThen_ok,hrun,Sem.run_pure]
   exact yQe hr hnd (hA.val (.raw _ hok) h)
 ·rename_i t xs f es l;split at hz
  ·rename_i hsl;have hund:∃e,C.P.underlying T=some (.slice e):=by
    unfold yVb at hsl;grind
   obtain⟨e,hund⟩:=hund;have e2:a.eval y=.slice none 0 0:=by
    generalize a.eval y=r at hyv;cases hyv with
    | sl ad cap _ _ T vs hcap=>rw[hcap.1,hcap.2.1,hcap.2.2]
   have key:∀b,zQt (.sl t xs)=some b->(Op.equal T (a.eval x) (a.eval y)).run C.P X.w=.ok b X.w/\(∃ad len cap,a.eval x=.slice ad len cap):=by
    intro b hb;obtain⟨ad',len',cap',e1,hnone⟩:=wUb hxv hb;refine⟨?_,_,_,_,e1⟩;rw[e1,e2];subst hnone;exact run_equal_slice_nil X.w T e ad' len' cap' hund
   cases op<;>simp only[reduceCtorEq] at hz
   ·cases hb:zQt (.sl t xs) with
    | none=>simp[hb] at hz
    | some b =>
     simp only[hb,Option.map_some,Option.some.injEq] at hz;subst hz;obtain⟨hq,ad',len',cap',e1⟩:=key b hb;have hr:(execOp a.eval o).run C.P X.w=.ok (.value (.bool b)) X.w:=by
      unfold execOp;rw[ho];rw[e1,e2] at hq;simp only[e1,e2,Sem.run_bind,yKo (a:=.slice ad' len' cap') (by simp) (by simp),Result.andThen_ok,binOp,hq,Sem.run_pure]
     exact yQe hr hnd (hA.val (.raw _ trivial) h)
   ·cases hb:zQt (.sl t xs) with
    | none=>simp[hb] at hz
    | some b =>
     simp only[hb,Option.map_some,Option.some.injEq] at hz;subst hz;obtain⟨hq,ad',len',cap',e1⟩:=key b hb;have hr:(execOp a.eval o).run C.P X.w=.ok (.value (.bool !b)) X.w:=by
      unfold execOp;rw[ho];rw[e1,e2] at hq;simp only[e1,e2,Sem.run_bind,yKo (a:=.slice ad' len' cap') (by simp) (by simp),Result.andThen_ok,binOp,hq,Sem.run_pure]
     exact yQe hr hnd (hA.val (.raw _ trivial) h)
  ·cases hz
 ·cases hz
theorem xYq {op:UnOp}{T:TypeId}{x:Operand}(ho:o.op=.unOp op T x)
  (h:yQ5 (evV C.gl fr x) λx=>yQ5 (unI op x) λz=>finK o.dst K ad fr (.val z) X.st ds):o.wpIn (yZb ro) n C.P a X.w (PK C X0 N K) Q:=by
 obtain⟨vx,hx,h2⟩:=yQ2.1 h;clear h;obtain⟨vz,hz,h⟩:=yQ2.1 h2;clear h2;have hnd:∀c,o.op≠.defer c:=by rw[ho];intro c hc;cases hc
 have hxv:=(hA.v hx).1;unfold unI at hz;split at hz
 ·rename_i b;cases op<;>simp only[reduceCtorEq,Option.some.injEq] at hz;subst hz;have e:=V.raw_inv hxv;have hr:(execOp a.eval o).run C.P X.w=.ok (.value (.bool !b)) X.w:=by
   unfold execOp;rw[ho];simp[e,Op.unary]
  exact yQe hr hnd (hA.val (.raw _ trivial) h)
 ·rename_i k m;cases op<;>simp only[reduceCtorEq,Option.some.injEq] at hz;subst hz;have e:=V.raw_inv hxv;have hr:(execOp a.eval o).run C.P X.w=.ok (.value (.int k (k.wrap (0-m)))) X.w:=by
   unfold execOp;rw[ho];simp[e,Op.unary,Op.intArith]
  exact yQe hr hnd (hA.val (.raw _ trivial) h)
 ·cases hz
theorem zYg {S D:TypeId}{x:Operand}(ho:o.op=.convert S D x)
  (h:yQ5 (evV C.gl fr x) λx=>yQ5 (xZ5 C.P S D x) λz=>finK o.dst K ad fr (.val z) X.st ds):o.wpIn (yZb ro) n C.P a X.w (PK C X0 N K) Q:=by
 obtain⟨vx,hx,h2⟩:=yQ2.1 h;clear h;obtain⟨vz,hz,h⟩:=yQ2.1 h2;clear h2;have hnd:∀c,o.op≠.defer c:=by rw[ho];intro c hc;cases hc
 have hxv:=(hA.v hx).1;unfold xZ5 at hz;split at hz
 ·rename_i t xs;split at hz
  ·rename_i hSD;rw[Option.bind_eq_some_iff] at hz;obtain⟨l,hb,hz⟩:=hz;split at hz
   ·cases hz
   ·rename_i hne;cases hz;have e:=xZa hb;subst e;obtain⟨hc,hlen⟩:=wV1 hxv hne hSD.1 hSD.2;have hr:(execOp a.eval o).run C.P X.w=.ok (.value (.string ⟨l.toArray⟩)) X.w:=by
     unfold execOp;rw[ho];simp only[Sem.run_bind,hc,Result.andThen_ok,Sem.run_pure]
    exact yQe hr hnd (hA.val (.raw _ (by show ByteArray.size ⟨l.toArray⟩<=_;simp[ByteArray.size];omega)) h)
  ·cases hz
 ·rename_i k m;split at hz
  ·rename_i k1 k2 h1 h2;cases hz;have e:=V.raw_inv hxv;have hr:(execOp a.eval o).run C.P X.w=.ok (.value (.int k2 (k2.wrap m))) X.w:=by
    unfold execOp;rw[ho];have hc:(convert S D (.int k m)).run C.P X.w=.ok (.int k2 (k2.wrap m)) X.w:=by
     simp only[convert,Sem.run_bind,run_underlying h1,run_underlying h2,Result.andThen_ok];rfl
    simp only[e,Sem.run_bind,hc,Result.andThen_ok,Sem.run_pure]
   exact yQe hr hnd (hA.val (.raw _ trivial) h)
  ·cases hz
 ·cases hz
end
theorem V.cptr_part {B:Nat}{L:Nat->Nat}{w:World}{ad':Addr}{cs:List IV}{ag:Bool}{sz off:Nat}{y:IV}(h:V B L w (.pointer (some ad')) (.cptr (.agg cs)))(hp:yJl ag sz cs off=some y)
  (hy:ag=false->y.cells=[y]):V B L w (.pointer (some (ad'.add off))) (.cptr y):=by
 cases h with
 | cptr _ _ vs hsp hvl hL hc h =>
  rw[yJj ad' hsp];simp only[IV.cells_agg] at hvl h;unfold yJl at hp;split at hp
  ·rename_i hag;split at hp
   ·rename_i hle;cases hp;refine .cptr _ _ ((vs.drop off).take sz) rfl (by simp[IV.cells_agg];omega) (by simp;omega) (λi r hr=>?_) (λi r c hr hcc=>?_)
    ·grind
    ·rw[IV.cells_agg] at hcc;grind
   ·cases hp
  ·rename_i hag;have hag':ag=false:=by simpa using hag
   have hlt:=(lGs hp).1;have hv0:vs[off]?=some (vs[off]'(by omega)):=List.getElem?_eq_getElem _;refine .cptr _ _ [vs[off]'(by omega)] rfl (by rw[hy hag'];rfl) (by simp;omega) (λi r hr=>?_) (λi r c hr hcc=>?_)
   ·grind
   ·grind
theorem zXq {P:Program}{T:TypeId}{i fo n:Nat}{ag:Bool}(h:fldI P T i=some (fo,ag,n)):∃(fs:Array Field) (f:Field),P.underlying T=some (.struct fs)/\fs[i]?=some f/\f.offset=fo/\tyI P f.type=some (ag,n)/\0<n:=by
 unfold fldI at h;grind
theorem zXs {P:Program}{T:TypeId}{len n:Nat}{ag:Bool}(h:arrI P T=some (len,ag,n)):∃e,P.underlying T=some (.array len e)/\tyI P e=some (ag,n):=by
 unfold arrI at h;split at h
 ·rename_i m e he;cases ht:tyI P e with
  | none=>simp[ht] at h
  | some p =>
   grind
 ·cases h
theorem yWe {P:Program}{T e:TypeId}{ag:Bool}{s b:Nat}(h:slI P T=some (e,ag,s,b)):P.underlying T=some (.slice e)/\tyI P e=some (ag,s)/\∃i,P.info? e=some i/\i.zero.isSome=true/\i.bytes=b:=by
 unfold slI at h;split at h
 ·rename_i e' he;split at h
  ·rename_i a s' i ht hi;split at h
   ·rename_i hs;cases h;exact⟨he,ht,i,hi,by cases hz:i.zero<;>simp[hz] at hs ⊢,rfl⟩
   ·cases h
  ·cases h
 ·cases h
theorem zYi {P:Program}{T e:TypeId}{ag:Bool}{s b:Nat}{i:TypeInfo}(h:slI P T=some (e,ag,s,b))(hi:P.info? e=some i):∃z,i.zero=some z/\z.cells.size=s:=by
 unfold slI at h;split at h
 ·split at h
  ·rename_i a s' i' ht hi';split at h
   ·rename_i hs;cases h;rw[hi] at hi';cases hi';cases hz:i.zero with
    | none=>simp[hz] at hs
    | some z=>exact⟨z,rfl,by simpa[hz] using hs⟩
   ·cases h
  ·cases h
 ·cases h
theorem zVf {P:Program}{f:Field}{ag:Bool}{n:Nat}(ht:tyI P f.type=some (ag,n))(hn:0<n)(ad:Addr)(w:World):(fieldPlace ad f).run P w=.ok (ad.add f.offset) w:=by
 have h2:=(yZw ht w).2;have:¬ n=0:=by omega
 simp only[fieldPlace,Sem.run_bind,h2,Result.andThen_ok,if_neg this,Sem.run_pure]
theorem zQ6 {P:Program}{T:TypeId}{k:LenK}(h:lenI P T=some k):(k=.str/\P.underlying T=some .string)\/(k=.sl/\∃e,P.underlying T=some (.slice e))\/(k=.map/\∃a b,P.underlying T=some (.map a b)) \/
  (∃n e,k=.arr n/\P.underlying T=some (.array n e)):=by
 unfold lenI at h;grind
theorem zW6 {B:Nat}{L:Nat->Nat}{w:World}{rs:List Value}{cs:List IV}(hv:VL B L w rs cs){ag:Bool}{n off:Nat}{y:IV}(h:yJl ag n cs off=some y) :
  ∃r,(ag=true->off+n<=rs.length/\r=.agg ⟨(rs.drop off).take n⟩)/\((ag=false->rs[off]?=some r)/\V B L w r y):=by
 unfold yJl at h;split at h
 ·rename_i hag;split at h
  ·rename_i hle;cases h;refine⟨_,λ_=>⟨by rw[hv.1];exact hle,rfl⟩,?_,((hv.drop off).take n).agg⟩;grind
  ·cases h
 ·rename_i hag;obtain⟨r,hr,hry⟩:=hv.get h;grind
theorem xV5 {P:Program}{T:TypeId}{ag:Bool}{n:Nat}(ht:tyI P T=some (ag,n))(w:World)(rs:List Value)(off:Nat)(r:Value)
  (h1:ag=true->off+n<=rs.length/\r=.agg ⟨(rs.drop off).take n⟩) (h2:ag=false->rs[off]?=some r):(part T ⟨rs⟩ off).run P w=.ok r w:=by
 obtain⟨k1,k2⟩:=yZw ht w;cases ag with
 | true =>
  obtain⟨hle,rfl⟩:=h1 rfl;have:(⟨rs⟩:Array Value).extract off (off+n)=⟨(rs.drop off).take n⟩:=by
   grind
  simp only[part,Sem.run_bind,k1,Result.andThen_ok,if_true,k2,Sem.run_pure,this]
 | false =>
  have:(⟨rs⟩:Array Value)[off]?=some r:=by simpa using h2 rfl
  simp only[part,Sem.run_bind,k1,Result.andThen_ok,bFt,if_false,this,Sem.run_pure]
theorem yXa {ag:Bool}{n:Nat}{y:IV}(h:fits ag n y=true):(ag=false->y.cells=[y])/\y.cells.length=n/\y.cells.all IV.one=true/\y.def_:=by
 unfold fits at h;split at h
 ·rename_i cs;simp only[bAt,beq_iff_eq] at h;exact⟨λhf=>(by rw[hf] at h;simp at h),h.1.2,h.2,by simp[IV.def_]⟩
 ·rename_i hna;simp only[bAt,Bool.not_eq_true',beq_iff_eq] at h;have hc:=IV.one_cells h.1.2;refine⟨λ_=>hc,by rw[hc];exact h.2.symm,by rw[hc];simp[h.1.2],?_⟩;rintro rfl;simp[IV.one] at h
section
variable {C:Cx}{X0 X:WS}{N:Nat}{fr:Fr}{ds:List Dfd}{a:Act}{ad:Ad}{K:Kt}{ro:Option Nat}{n:Nat}{Q:Exit->Act->World->Prop}{o:Oper}
theorem wV2 {r:Value}{tg:Tag}{xs:List IV}{j:Nat}{y:IV}(hv:C.v X r (.sl tg xs))(hy:xs[j]?=some y):∃(ad':Addr) (cap:Nat),r=.slice (some ad') xs.length cap/\C.v X (.pointer (some (ad'.add (j*tg.es)))) (.cptr y):=by
 cases hv with
 | sl ad0 cap _ _ T vs hcap hlen hcl hs hvl hroom hfresh hplace hc =>
  have hj:=(lGs hy).1;have hym:=lMg hy;obtain⟨ad',rfl,hsp,hL,hcell⟩:=hplace (by intro h0;rw[h0] at hj;simp at hj);refine⟨ad',cap,rfl,?_⟩;rw[yJj ad' hsp];have hflat:∀(l:List IV) (j:Nat) (y:IV),(∀x∈l,x.cells.length=tg.es)->l[j]?=some y->∀(i:Nat) (c:IV),y.cells[i]?=some c->(l.flatMap IV.cells)[j*tg.es+i]?=some c:=by
   intro l
   induction l with
   | nil=>intro j y _ h;simp at h
   | cons x l ih =>
    intro j y hs h i c hic;have hx:=hs x (by simp);rw[List.flatMap_cons];cases j with
    | zero =>
     grind
    | succ j =>
     grind
  have hyl:=hs y hym;have hjs:j*tg.es+tg.es<=vs.length:=by rw[hvl,<- Nat.succ_mul];exact Nat.mul_le_mul_right _ hj
  refine .cptr _ _ ((vs.drop (j*tg.es)).take tg.es) rfl (by rw[hyl];simp;omega) (by simp;omega) (λi r hr=>?_) (λi r c hr hcc=>?_)
  ·grind
  ·grind
variable (hA:At C X0 N X fr ds a ad o.dst)
include hA
theorem zJ9 {T:TypeId}{x:Operand}{i:Nat}(ho:o.op=.fieldAddr T x i)
  (h:yQ5 (fldI C.P T i) λf=>yQ5 (evA C.gl ad fr x) λp=>zZv f p (finK o.dst K ad fr) X.st ds):o.wpIn (yZb ro) n C.P a X.w (PK C X0 N K) Q:=by
 obtain⟨⟨fo,ag,sz⟩,hf,h2⟩:=yQ2.1 h;clear h;obtain⟨p,hp,h⟩:=yQ2.1 h2;clear h2;have hnd:∀c,o.op≠.defer c:=by rw[ho];intro c hc;cases hc
 obtain⟨fs,f,hT,hfi,rfl,hty,hn⟩:=zXq hf;have hpl:=hA.p hp;have key:∀ad':Addr,a.eval x=.pointer (some ad')->(execOp a.eval o).run C.P X.w=.ok (.value (.pointer (some (ad'.add f.offset)))) X.w:=by
  intro ad' he;unfold execOp;rw[ho];simp only[Instr.fieldAt,Sem.run_bind,run_underlying hT,Result.andThen_ok,hfi,he,Instr.sureAddr,Sem.run_pure,zVf hty hn]
 cases p with
 | box t off =>
  obtain⟨cs,b,h1,h2,he⟩:=hpl;have hr:=key _ he;rw[yJk] at hr;exact yQe hr hnd (xJq hA.inv hA.ad hA.hd h1 h2 h)
 | ptr b off =>
  have hr:=key _ hpl;rw[yJk] at hr;exact yQe hr hnd (hA.val (.raw _ trivial) h)
 | cp z =>
  obtain⟨cs,rfl,h2⟩:=zXt h;clear h;obtain⟨y,hy,h3⟩:=yQ2.1 h2;clear h2;obtain⟨hfit,h⟩:=yQz h3;clear h3;obtain⟨ad',he,_⟩:=V.cptr_ptr hpl;exact yQe (key _ he) hnd (hA.val (V.cptr_part (he▸hpl) hy (yXa hfit).1) h)
theorem xX7 {T:TypeId}{x:Operand}{i:Nat}(ho:o.op=.field T x i)
  (h:yQ5 (fldI C.P T i) λf=>yQ5 (evV C.gl fr x) λx=>aggV x λcs=>yQ5 (yJl f.2.1 f.2.2 cs f.1) λy=>finK o.dst K ad fr (.val y) X.st ds):o.wpIn (yZb ro) n C.P a X.w (PK C X0 N K) Q:=by
 obtain⟨⟨fo,ag,sz⟩,hf,h2⟩:=yQ2.1 h;clear h;obtain⟨z,hz,h3⟩:=yQ2.1 h2;clear h2;obtain⟨cs,rfl,h4⟩:=zXt h3;clear h3;obtain⟨y,hy,h⟩:=yQ2.1 h4;clear h4;have hnd:∀c,o.op≠.defer c:=by rw[ho];intro c hc;cases hc
 obtain⟨fs,f,hT,hfi,rfl,hty,hn⟩:=zXq hf;obtain⟨rs,he,hvl⟩:=V.agg_inv (hA.v hz).1;obtain⟨r,h1,h2,hv⟩:=zW6 hvl hy;have hr:(execOp a.eval o).run C.P X.w=.ok (.value r) X.w:=by
  unfold execOp;rw[ho];simp only[Instr.field,Sem.run_bind,run_underlying hT,Result.andThen_ok,hfi,he,asAgg,Sem.run_pure,xV5 hty X.w rs f.offset r h1 h2]
 exact yQe hr hnd (hA.val hv h)
theorem zJ8 {T:TypeId}{x i:Operand}(ho:o.op=.indexAddr T x i)
  (h:yQ5 (evV C.gl fr i) λi=>intV i λ_ j=>yQ5 (lenI C.P T) λk=>idxV k (slI C.P T) (evV C.gl fr x) (evA C.gl ad fr x) (arrI C.P T) j (finK o.dst K ad fr) X.st ds) :
  o.wpIn (yZb ro) n C.P a X.w (PK C X0 N K) Q:=by
 obtain⟨vi,hi,h2⟩:=yQ2.1 h;clear h;obtain⟨k,j,rfl,h3⟩:=yKc h2;clear h2;obtain⟨lk,hlk,h⟩:=yQ2.1 h3;clear h3;have hnd:∀c,o.op≠.defer c:=by rw[ho];intro c hc;cases hc
 have ei:=V.raw_inv (hA.v hi).1;rcases zQ6 hlk with⟨rfl,_⟩|⟨rfl,e,hT⟩|⟨rfl,_⟩|⟨len,e,rfl,hT⟩
 ·exact h.elim
 ·obtain⟨⟨e',ag,sz,by_⟩,hs,h0⟩:=yQ2.1 h;clear h;obtain⟨vx,hx,h2⟩:=yQ2.1 h0;clear h0;rcases wQk h2 with⟨tg0,xs,rfl,h3⟩|⟨b,off,m,cap,rfl,h3⟩
  case inr =>
   clear h2;obtain⟨hj,h⟩:=yQz h3;clear h3;have ex:=V.raw_inv (hA.v hx).1;obtain⟨hT',hty,_⟩:=yWe hs;rw[hT] at hT';cases hT';have hr:(execOp a.eval o).run C.P X.w=.ok (.value (.pointer (some (Addr.add ⟨b,off,none⟩ (j.toNat*sz))))) X.w:=by
    unfold execOp;rw[ho];have h2:=(yZw hty X.w).2;have hlt:0<=j/\j<(m:Int):=⟨hj.1,by omega⟩
    simp only[Instr.indexAt,ei,asIntOf,Sem.run_bind,Sem.run_pure,Result.andThen_ok,run_underlying hT,ex,hlt,and_self,if_true,h2]
   rw[yJk] at hr;exact yQe hr hnd (hA.val (.raw _ trivial) h)
  clear h2;obtain⟨hes,h3⟩:=yQz h3;obtain⟨hj,h4⟩:=yQz h3;clear h3;obtain⟨y,hy,h⟩:=yQ2.1 h4;clear h4;have hxv:=V.reTag (es:=sz) (hA.v hx).1;simp only at hes;generalize reTag sz tg0=tg at hes hxv;have hjl:=(lGs hy).1;obtain⟨ad',cap,he,hv⟩:=wV2 hxv hy;obtain⟨hT',hty,_⟩:=yWe hs;rw[hT] at hT';cases hT';rw[hes] at hv;have hr:(execOp a.eval o).run C.P X.w=.ok (.value (.pointer (some (ad'.add (j.toNat*sz))))) X.w:=by
   unfold execOp;rw[ho];have h2:=(yZw hty X.w).2;have hlt:0<=j/\j<(xs.length:Int):=⟨hj,by omega⟩
   simp only[Instr.indexAt,ei,asIntOf,Sem.run_bind,Sem.run_pure,Result.andThen_ok,run_underlying hT,he,hlt,and_self,if_true,h2]
  exact yQe hr hnd (hA.val hv h)
 ·exact h.elim
 ·obtain⟨⟨len',ag,sz⟩,hae,h2⟩:=yQ2.1 h;clear h;obtain⟨p,hp,h3⟩:=yQ2.1 h2;clear h2;obtain⟨hj,h⟩:=yQz h3;clear h3;obtain⟨e',hT',hty⟩:=zXs hae;rw[hT] at hT';cases hT';obtain⟨hjl,h2⟩:=yQz h;clear h;simp only at hjl;have hpl:=hA.p hp;have key:∀ad':Addr,a.eval x=.pointer (some ad')->(execOp a.eval o).run C.P X.w=.ok (.value (.pointer (some (ad'.add (j.toNat*sz))))) X.w:=by
   intro ad' he;unfold execOp;rw[ho];have h2:=(yZw hty X.w).2;have hlt:0<=j/\j<(len:Int):=⟨hj,by omega⟩
   simp only[Instr.indexAt,ei,asIntOf,Sem.run_bind,Sem.run_pure,Result.andThen_ok,run_underlying hT,he,Instr.sureAddr,hlt,and_self,if_true,h2]
  cases p with
  | box t off =>
   obtain⟨cs,b,h1,h3,he⟩:=hpl;have hr:=key _ he;rw[yJk] at hr;exact yQe hr hnd (xJq hA.inv hA.ad hA.hd h1 h3 h2)
  | ptr b off =>
   have hr:=key _ hpl;rw[yJk] at hr;exact yQe hr hnd (hA.val (.raw _ trivial) h2)
  | cp z =>
   obtain⟨cs,rfl,h3⟩:=zXt h2;clear h2;obtain⟨y,hy,h4⟩:=yQ2.1 h3;clear h3;obtain⟨hfit,h⟩:=yQz h4;clear h4;obtain⟨ad',he,_⟩:=V.cptr_ptr hpl;exact yQe (key _ he) hnd (hA.val (V.cptr_part (he▸hpl) hy (yXa hfit).1) h)
theorem xX6 {T:TypeId}{x i:Operand}(ho:o.op=.index T x i)
  (h:yQ5 (evV C.gl fr i) λi=>intV i λ_ j=>yQ5 (lenI C.P T) λk=>yQ5 (evV C.gl fr x) λx=>zZu k (arrI C.P T) x j (finK o.dst K ad fr) X.st ds) :
  o.wpIn (yZb ro) n C.P a X.w (PK C X0 N K) Q:=by
 obtain⟨vi,hi,h2⟩:=yQ2.1 h;clear h;obtain⟨k,j,rfl,h3⟩:=yKc h2;clear h2;obtain⟨lk,hlk,h4⟩:=yQ2.1 h3;clear h3;obtain⟨vx,hx,h⟩:=yQ2.1 h4;clear h4;have hnd:∀c,o.op≠.defer c:=by rw[ho];intro c hc;cases hc
 have ei:=V.raw_inv (hA.v hi).1;have hxv:=(hA.v hx).1;rcases zQ6 hlk with⟨rfl,hT⟩|⟨rfl,e,hT⟩|⟨rfl,_⟩|⟨len,e,rfl,hT⟩
 ·obtain⟨v,rfl,h2⟩:=zYm h;clear h;cases v with
  | string s =>
   obtain⟨b,hb,h⟩:=yQ2.1 h2;clear h2;have ex:=V.raw_inv hxv;have hr:(execOp a.eval o).run C.P X.w=.ok (.value (.int .u8 b.toNat)) X.w:=by
    unfold execOp;rw[ho];unfold xZz at hb;simp only[Instr.index,ei,ex,asIntOf,Sem.run_bind,Sem.run_pure,Result.andThen_ok,run_underlying hT,hb]
   exact yQe hr hnd (hA.val (.raw _ trivial) h)
  | _=>exact h2.elim
 ·exact h.elim
 ·exact h.elim
 ·obtain⟨cs,rfl,h2⟩:=zXt h;clear h;obtain⟨⟨len',ag,sz⟩,hae,h3⟩:=yQ2.1 h2;clear h2;obtain⟨hj,h4⟩:=yQz h3;clear h3;obtain⟨y,hy,h⟩:=yQ2.1 h4;clear h4;obtain⟨e',hT',hty⟩:=zXs hae;rw[hT] at hT';cases hT';obtain⟨rs,ex,hvl⟩:=V.agg_inv hxv;obtain⟨r,h1,h2,hv⟩:=zW6 hvl hy;have hr:(execOp a.eval o).run C.P X.w=.ok (.value r) X.w:=by
   unfold execOp;rw[ho];have h3:=(yZw hty X.w).2;simp only[Instr.index,ei,ex,asIntOf,Sem.run_bind,Sem.run_pure,Result.andThen_ok,run_underlying hT,hj,and_self,if_true,h3,xV5 hty X.w rs _ r h1 h2]
  exact yQe hr hnd (hA.val hv h)
end
