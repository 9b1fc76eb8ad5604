/- The layer of ideal values, part E: opera -/
import Derived.Test.YtebjhmlmdjnkgaaGreatDoorJB
import Derived.Laws.Slices
import Derived.Laws.IdiomStrings
import Derived.Laws.Cover3
set_option linter.all false
namespace Go.Iv
open Go
section
variable {C:Cx}{X:WS}
theorem zYi {B:Nat}{L:Nat->Nat}{w:World}{v:Value}{y:IV}(h:zZe v=some y):V B L w v y/\y.def_/\y.one=true:=by
 unfold zZe at h;split at h
 ·cases h
 ·cases h
 ·cases h;exact⟨.sl none 0 ⟨true,.nil,0⟩ [] 0 [] ⟨rfl,rfl,rfl⟩ (by simp) (by simp) (by simp) rfl (λ_ hg=>by cases hg) (λ_ ad ha=>by cases ha) (λhne=>absurd rfl hne) (λi r c hr=>by simp at hr),by simp[IV.def_],rfl⟩
 ·cases h
 ·split at h
  ·rename_i hs;cases h;exact⟨.raw _ hs,by simp[IV.def_],rfl⟩
  ·cases h
 ·cases h;exact⟨.fn _ [] [] rfl (λi r c hr=>by simp at hr) [] [] rfl (λi r c hr=>by simp at hr),by simp[IV.def_],rfl⟩
 ·cases h
 ·rename_i h1 h2 h3 h4 h5 h6 h7;cases h;refine⟨.raw _ ?_,by simp[IV.def_],?_⟩
  ·cases v<;>simp_all [zZk]
  ·cases v<;>simp_all [IV.one]
theorem V.reTag {B:Nat}{L:Nat->Nat}{w:World}{r:Value}{t:Tag}{xs:List IV}{es:Nat}(h:V B L w r (.sl t xs)):V B L w r (.sl (reTag es t) xs):=by
 by_cases hn:t.cap=.nil
 ·have e:Iv.reTag es t=⟨t.fresh,.nil,es⟩:=by simp only[Iv.reTag,hn]
  rw[e];cases h with
  | sl a cap _ _ T vs hcap hlen hcl hs hvl hroom hfresh hplace hc =>
   rw[hn] at hcap;obtain⟨rfl,h0,rfl⟩:=hcap;obtain rfl:=List.eq_nil_of_length_eq_zero h0;refine .sl none 0 ⟨t.fresh,.nil,es⟩ [] T vs ⟨rfl,rfl,rfl⟩ hlen hcl (by simp) (by simpa using hvl) (λ_ hg=>by cases hg) (λ_ ad ha=>by cases ha) (λhne=>absurd rfl hne) (λi r c hr hx=>by simp at hx)
 ·have e:Iv.reTag es t=t:=by
   unfold Iv.reTag;grind
  rw[e];exact h
theorem wZl {α β:Type}{f:α->Option β}:∀ {l:List α} {bs:List β},allI f l=some bs->l.length=bs.length/\∀(i:Nat) (a:α) (b:β),l[i]?=some a->bs[i]?=some b->f a=some b
 | [],bs,h=>by simp only[allI,Option.some.injEq] at h;subst h;exact⟨rfl,λi a b ha=>by simp at ha⟩
 | a::l,bs,h=>by
  unfold allI at h;split at h
  ·rename_i b bs' h1 h2;cases h;obtain⟨k1,k2⟩:=wZl h2;grind
  ·cases h
theorem yW5 {B:Nat}{L:Nat->Nat}{w:World}{v:Value}{y:IV}(h:zJx v=some y):V B L w v y/\y.def_/\y.cells.all IV.one=true:=by
 unfold zJx at h;split at h
 ·rename_i cs;cases hl:allI zZe cs.toList with
  | none=>simp[hl] at h
  | some l =>
   simp only[hl,Option.map_some,Option.some.injEq] at h;subst h;obtain⟨k1,k2⟩:=wZl hl;have hcs:cs=⟨cs.toList⟩:=rfl;refine⟨by rw[hcs];exact .agg _ _ k1 (λi r c hr hc=>(zYi (k2 i r c hr hc)).1),by simp[IV.def_],?_⟩;rw[IV.cells_agg,List.all_eq_true];intro x hx;obtain⟨i,hi,hxi⟩:=List.mem_iff_getElem.1 hx;have hl':cs.toList[i]?=some (cs.toList[i]'(by omega)):=List.getElem?_eq_getElem _;exact (zYi (B:=0) (L:=λ_=>0) (w:=w) (k2 i _ x hl' (by rw[List.getElem?_eq_getElem hi,hxi]))).2.2
 ·rename_i hna;have:=zYi (B:=B) (L:=L) (w:=w) h;exact⟨this.1,this.2.1,by rw[IV.one_cells this.2.2];simp[this.2.2]⟩
theorem wY1 {n0:Nat}{r:Value}{s:SV}{y:IV}(h:ivOf s=some y)(hs:SlotOk C X n0 r s):C.v X r y/\y.def_:=by
 cases s with
 | box cs=>cases h
 | iv x=>cases x<;>simp only[ivOf,reduceCtorEq,Option.some.injEq] at h<;>subst h<;>exact⟨hs,by simp[IV.def_]⟩
theorem xWx {n0:Nat}{fr:Fr}{a:Act}{x:Operand}{y:IV}(hg:Good C X)(hf:FrOk C X n0 fr a.tmps)(h:evV C.gl fr x=some y):C.v X (a.eval x) y/\y.def_:=by
 cases x with
 | tmp t=>exact wY1 h (hf.slot t)
 | const v=>exact⟨(yW5 h).1,(yW5 (B:=0) (L:=λ_=>0) (w:=X.w) h).2.1⟩
 | global g =>
  simp only[evV] at h;cases hq:C.gl g with
  | none=>simp[hq] at h
  | some z =>
   simp only[hq,Option.map_some,Option.some.injEq] at h;subst h;exact⟨hg.gl g z hq,by simp[IV.def_]⟩
 | func f =>
  simp only[evV,Option.some.injEq] at h;subst h;exact⟨.fn _ [] [] rfl (λi r c hr=>by simp at hr) [] [] rfl (λi r c hr=>by simp at hr),by simp[IV.def_]⟩
theorem wQx {n0:Nat}{fr:Fr}{a:Act}{l:List Operand}{ys:List IV}(hg:Good C X)(hf:FrOk C X n0 fr a.tmps)(h:evL C.gl fr l=some ys):C.vl X (l.map a.eval) ys:=by
 obtain⟨k1,k2⟩:=wZl h;refine⟨by simpa using k1,λi r c hr hc=>?_⟩;rw[List.getElem?_map] at hr;cases hl:l[i]? with
 | none=>simp[hl] at hr
 | some x =>
  simp only[hl,Option.map_some,Option.some.injEq] at hr;subst hr;exact (xWx hg hf (k2 i x c hl hc)).1
def PlOk (C:Cx)(X:WS)(fr:Fr)(a:Act)(v:Value):Pl->Prop
 | .box t off=>∃cs b,fr t=.box cs/\tm a.tmps t=.pointer (some ⟨b,0,none⟩)/\v=.pointer (some ⟨b,off,none⟩)
 | .ptr b off=>v=.pointer (some ⟨b,off,none⟩)
 | .cp x=>C.v X v (.cptr x)
theorem uY4 {n0:Nat}{fr:Fr}{ad:Ad}{a:Act}{x:Operand}{p:Pl}(hg:Good C X)(hf:FrOk C X n0 fr a.tmps)(had:AdOk fr a.tmps ad)(h:evA C.gl ad fr x=some p):PlOk C X fr a (a.eval x) p:=by
 cases x with
 | tmp t =>
  simp only[evA] at h;cases hq:ad t with
  | some e =>
   obtain⟨s,off⟩:=e;simp only[hq,plAd,Option.some.injEq] at h;subst h;obtain⟨cs,b,h1,h2,h3⟩:=had t s off hq;exact⟨cs,b,h1,h2,h3⟩
  | none =>
   simp only[hq,plAd] at h;have hs:=hf.slot t;unfold plOf at h;split at h
   ·rename_i cs hfr;cases h;rw[hfr] at hs;obtain⟨b,c,T,hr,_⟩:=hs;exact⟨_,b,hfr,hr,hr⟩
   ·rename_i b off hfr;cases h;rw[hfr] at hs;exact V.raw_inv hs
   ·rename_i y hfr;cases h;rw[hfr] at hs;exact hs
   ·cases h
 | global g =>
  simp only[evA] at h;cases hq:C.gl g with
  | none=>simp[hq] at h
  | some z =>
   simp only[hq,Option.map_some,Option.some.injEq] at h;subst h;exact hg.gl g z hq
 | const v=>cases h
 | func f=>cases h
theorem yXv {P:Program}{T:TypeId}{ag:Bool}{n:Nat}(h:tyI P T=some (ag,n))(w:World):(isAgg T).run P w=.ok ag w/\(sizeOf T).run P w=.ok n w:=by
 unfold tyI at h;split at h
 ·rename_i d i hd hi;cases h;refine⟨?_,?_⟩
  ·simp only[isAgg,Sem.run_bind,run_underlying hd,Result.andThen_ok];cases d<;>rfl
  ·simp only[sizeOf,Sem.run_bind,run_typeInfo w hi,Result.andThen_ok,Sem.run_pure]
 ·cases h
theorem zZo {P:Program}{T:TypeId}{ag:Bool}{n:Nat}(h:tyI P T=some (ag,n)):(P.info? T).map (·.size)=some n:=by
 unfold tyI at h;grind
theorem zXd {P:Program}{T:TypeId}{z:IV}(h:yX3 P T=some z)(w:World):∃v,(zeroValue T).run P w=.ok v w/\(∀B L w',V B L w' v z)/\z.def_/\z.cells.all IV.one=true:=by
 unfold yX3 at h;cases hi:P.info? T with
 | none=>simp[hi] at h
 | some i =>
  simp only[hi,Option.bind_some] at h;cases hz:i.zero with
  | none=>simp[hz] at h
  | some v =>
   simp only[hz,Option.bind_some] at h;refine⟨v,?_,λB L w'=>(yW5 h).1,(yW5 (B:=0) (L:=λ_=>0) (w:=w) h).2.1,(yW5 (B:=0) (L:=λ_=>0) (w:=w) h).2.2⟩;simp only[zeroValue,Sem.run_bind,run_typeInfo w hi,Result.andThen_ok,hz,Sem.run_pure]
theorem yK1 (b o i:Nat):(⟨b,o,none⟩:Addr).add i=⟨b,o+i,none⟩:=by unfold Addr.add;split<;>simp_all
theorem yK0 (ad:Addr)(h:ad.spot=none)(i:Nat):ad.add i=⟨ad.block,ad.off+i,none⟩:=by
 obtain⟨b,o,s⟩:=ad;simp only at h;subst h;exact yK1 b o i
theorem yZm {w:World}{b:Nat}{c:Array Value}{T:TypeId}{f:Nat×Nat}(h:w.heap[b]?=some (.cells c T f))(i:Nat):w.cell? ⟨b,i,none⟩=c.toList[i]?:=by
 simp[World.cell?,h]
theorem yGt {P:Program}{T:TypeId}{ag:Bool}{n:Nat}(ht:tyI P T=some (ag,n))(w:World)(a:Addr)(rs:List Value)
  (hc:∀(i:Nat) (v:Value),rs[i]?=some v->w.cell? (a.add i)=some v) :
  (ag=true->rs.length=n->(loadVar T a).run P w=.ok (.agg ⟨rs⟩) w)/\(ag=false->∀v,rs[0]?=some v->(loadVar T a).run P w=.ok v w):=by
 obtain⟨h1,h2⟩:=yXv ht w;refine⟨λhag hn=>?_,λhag v hv=>?_⟩
 ·subst hag;subst hn;have hl:=run_loadCells_list (P:=P) w a rs hc;simp only[loadVar,Sem.run_bind,h1,Result.andThen_ok,if_true,h2,hl,Sem.run_pure]
 ·subst hag;have h0:=hc 0 v hv;have ha:a.add 0=a:=by simp[Addr.add]
  rw[ha] at h0;simp only[loadVar,Sem.run_bind,h1,Result.andThen_ok,bFt,if_false,run_load,h0]
theorem zZz {T:TypeId}{ag:Bool}{n b off:Nat}{c:Array Value}{E:TypeId}{f:Nat×Nat}{cs:List IV}{y:IV}(ht:tyI C.P T=some (ag,n))(hh:X.w.heap[b]?=some (.cells c E f))(hv:C.vl X c.toList cs)
  (hp:yK4 ag n cs off=some y):∃v,(loadVar T ⟨b,off,none⟩).run C.P X.w=.ok v X.w/\C.v X v y:=by
 unfold yK4 at hp;have hvd:=hv.drop off;split at hp
 ·rename_i hag;split at hp
  ·rename_i hle;cases hp;have hvt:=hvd.take n;refine⟨_,(yGt ht X.w ⟨b,off,none⟩ ((c.toList.drop off).take n) (λi v hi=>?_)).1 hag (by rw[hvt.1,List.length_take,List.length_drop];omega),hvt.agg⟩;rw[yK1,yZm hh];grind
  ·cases hp
 ·rename_i hag;obtain⟨r,hr,hry⟩:=hv.get hp;refine⟨r,(yGt ht X.w ⟨b,off,none⟩ (c.toList.drop off) (λi v hi=>?_)).2 (by simpa using hag) r (by rw[List.getElem?_drop];simpa using hr),hry⟩;rw[yK1,yZm hh];grind
theorem xUt {T:TypeId}{ag:Bool}{n:Nat}{ad:Addr}{y:IV}(ht:tyI C.P T=some (ag,n))(hv:C.v X (.pointer (some ad)) (.cptr y))(hf:fits ag n y=true) :
  ∃v,(loadVar T ad).run C.P X.w=.ok v X.w/\C.v X v y:=by
 cases hv with
 | cptr _ _ vs hsp hvl hL hc h =>
  have hcell:∀(i:Nat) (v:Value),vs[i]?=some v->X.w.cell? (ad.add i)=some v:=λi v hi=>by rw[yK0 ad hsp];exact hc i v hi
  obtain⟨k1,k2⟩:=yGt ht X.w ad vs hcell;have hvs:C.vl X vs y.cells:=⟨hvl,h⟩
  unfold fits at hf;split at hf
  ·rename_i cs;simp only[bAt,beq_iff_eq] at hf;exact⟨_,k1 hf.1.1 (by rw[hvl];exact hf.1.2),hvs.agg⟩
  ·rename_i hna;simp only[bAt,Bool.not_eq_true',beq_iff_eq] at hf;have hc1:=IV.one_cells hf.1.2;rw[hc1] at hvs;obtain⟨r,hr,hry⟩:=hvs.get (i:=0) (c:=y) rfl;grind
theorem V.cptr_ptr {B:Nat}{L:Nat->Nat}{w:World}{r:Value}{x:IV}(h:V B L w r (.cptr x)):∃ad,r=.pointer (some ad)/\ad.spot=none:=by
 cases h with
 | cptr ad _ _ hsp=>exact⟨ad,rfl,hsp⟩
theorem yUw {rs:List Value}{cs:List IV}(hv:C.vl X rs cs)(h:cs.all IV.one=true):∀v∈rs,v.oneCell'=true:=by
 intro v hm;obtain⟨i,hi,hvi⟩:=List.mem_iff_getElem.1 hm;have hr:rs[i]?=some v:=by rw[List.getElem?_eq_getElem hi,hvi]
 have hc:cs[i]?=some (cs[i]'(by rw[<- hv.1];exact hi)):=List.getElem?_eq_getElem _;have h1:=V.flat (hv.2 i _ _ hr hc) (List.all_eq_true.1 h _ (List.getElem_mem _));cases v<;>first|rfl|simp[Value.flat] at h1
theorem zQy {T:TypeId}{ag:Bool}{b off:Nat}{c:Array Value}{E:TypeId}{v:Value}{y:IV}(ht:tyI C.P T=some (ag,y.cells.length))(hh:X.w.heap[b]?=some (.cells c E (0,0)))
  (hv:C.v X v y) (hd:y.def_) (h1:y.cells.all IV.one=true) (hle:off+y.cells.length<=c.size) :
  (storeVar T ⟨b,off,none⟩ v).run C.P X.w=.ok () (X.w.setRow b (c.toList.take off++v.cells.toList++c.toList.drop (off+v.cells.toList.length)).toArray)/\C.vl X v.cells.toList y.cells:=by
 have hna:∀u,y≠.raw (.agg u):=by
  rintro u rfl;simp[IV.cells,IV.one] at h1
 have hvl:=V.cells hv hna hd;refine⟨?_,hvl⟩;have h2:=(yXv ht X.w).2;have hsz:v.cells.size=y.cells.length:=by rw[<- hvl.1];simp
 have hst:=run_storeCells_at (P:=C.P) b off E v.cells.toList 0 c X.w hh (by rw[hvl.1];omega) (yUw hvl h1);simp only[storeVar,Sem.run_bind,h2,Result.andThen_ok,hsz,ne_eq,nTf,if_false,hst];simp
theorem yG5 {rs:List Value}{cs:List IV}{off:Nat}{vs:List Value}{ys:List IV}(h:C.vl X rs cs)(hy:C.vl X vs ys) :
  C.vl X (rs.take off++vs++rs.drop (off+vs.length)) (yX8 cs off ys):=by
 unfold yX8;rw[hy.1];exact ((h.take off).append hy).append (h.drop _)
end
def PK (C:Cx)(X0:WS)(N:Nat)(K:Kt)(a:Act)(w:World):Prop :=
 ∃X ad fr ds,X.w=w/\Inv C X0 N X fr ds a/\AdOk fr a.tmps ad/\K ad fr X.st ds
section
variable {C:Cx}{X0 X:WS}{N:Nat}{fr:Fr}{ds:List Dfd}{a:Act}{ad:Ad}{dst:Option Nat}{K:Kt}
theorem yZx {x:IV}{v:Value}(hI:Inv C X0 N X fr ds a)(had:AdOk fr a.tmps ad)(hd:∀d,dst=some d->d<N)(hv:C.v X v x)
  (h:finK dst K ad fr (.val x) X.st ds):PK C X0 N K (a.put dst v) X.w:=by
 cases dst with
 | none=>exact⟨X,ad,fr,ds,rfl,hI,had,h⟩
 | some d=>exact⟨X,_,_,ds,rfl,hI.put (hd d rfl) hv,had.put d v _,h⟩
theorem xXa {t off b:Nat}{cs:List IV}(hI:Inv C X0 N X fr ds a)(had:AdOk fr a.tmps ad)(hd:∀d,dst=some d->d<N)(ht:fr t=.box cs)
  (hb:tm a.tmps t=.pointer (some ⟨b,0,none⟩)) (h:finK dst K ad fr (.adr t off) X.st ds):PK C X0 N K (a.put dst (.pointer (some ⟨b,off,none⟩))) X.w:=by
 cases dst with
 | none=>exact⟨X,ad,fr,ds,rfl,hI,had,h⟩
 | some d =>
  simp only[finK] at h;split at h
  ·exact h.elim
  ·rename_i hne;exact⟨X,_,_,ds,rfl,hI.put (hd d rfl) (.junk _),had.adr (by rw[hI.size];exact hd d rfl) hne ht hb _,h⟩
theorem vQ7 {c:Array Value}{T:TypeId}{cs:List IV}(hI:Inv C X0 N X fr ds a)(had:AdOk fr a.tmps ad)(hd:∀d,dst=some d->d<N)(hv:C.vl X c.toList cs)
  (h:finK dst K ad fr (.box cs) X.st ds):PK C X0 N K (a.put dst (.pointer (some ⟨X.w.heap.size,0,none⟩))) (X.w.alloc (.cells c T)):=by
 cases dst with
 | none=>exact h.elim
 | some d=>exact⟨{ X with w:=X.w.alloc (.cells c T) },_,_,ds,rfl,hI.box (hd d rfl) c T hv,had.put d _ _,h⟩
theorem vQ6 (hI:Inv C X0 N X fr ds a)(had:AdOk fr a.tmps ad)(h:finK dst K ad fr .nop X.st ds):PK C X0 N K (a.put dst undef) X.w:=by
 cases dst with
 | some _=>exact h.elim
 | none=>exact⟨X,ad,fr,ds,rfl,hI,had,h⟩
theorem wY8 {p:Pl}{v:Value}(hI:Inv C X0 N X fr ds a)(had:AdOk fr a.tmps ad)(hd:∀d,dst=some d->d<N)(hp:PlOk C X fr a v p)
  (h:plR p (finK dst K ad fr) X.st ds):PK C X0 N K (a.put dst v) X.w:=by
 cases p with
 | box t off =>
  obtain⟨cs,b,h1,h2,rfl⟩:=hp;exact xXa hI had hd h1 h2 h
 | ptr b off =>
  obtain rfl:=hp;exact yZx hI had hd (.raw _ trivial) h
 | cp x=>exact yZx hI had hd hp h
end
def yZ3 (ro:Option Nat):Fence:={ Fence.wide with round:=ro }
section
variable {C:Cx}{X0 X:WS}{N:Nat}{fr:Fr}{ds:List Dfd}{a:Act}{ad:Ad}{K:Kt}{ro:Option Nat}{n:Nat}{Q:Exit->Act->World->Prop}{o:Oper}
theorem yQd {v:Value}{w':World}(hr:(execOp a.eval o).run C.P X.w=.ok (.value v) w')(hnd:∀c,o.op≠.defer c)(h:PK C X0 N K (a.put o.dst v) w') :
  o.wpIn (yZ3 ro) n C.P a X.w (PK C X0 N K) Q:=by
 refine⟨λ_ _=>trivial,?_⟩;rw[Oper.semAt_eq _ _ _ hnd,hr];exact h
theorem xZk {w':World}(hr:(execOp a.eval o).run C.P X.w=.ok .skip w')(hnd:∀c,o.op≠.defer c)(h:PK C X0 N K (a.put o.dst undef) w') :
  o.wpIn (yZ3 ro) n C.P a X.w (PK C X0 N K) Q:=by
 refine⟨λ_ _=>trivial,?_⟩;rw[Oper.semAt_eq _ _ _ hnd,hr];exact h
structure At (C:Cx)(X0:WS)(N:Nat)(X:WS)(fr:Fr)(ds:List Dfd)(a:Act)(ad:Ad)(dst:Option Nat):Prop where
 inv:Inv C X0 N X fr ds a
 ad:AdOk fr a.tmps ad
 hd:∀d,dst=some d->d<N
variable (hA:At C X0 N X fr ds a ad o.dst)
include hA
theorem At.v {x:Operand}{y:IV}(h:evV C.gl fr x=some y):C.v X (a.eval x) y/\y.def_:=xWx hA.inv.good hA.inv.fr h
theorem At.p {x:Operand}{p:Pl}(h:evA C.gl ad fr x=some p):PlOk C X fr a (a.eval x) p:=uY4 hA.inv.good hA.inv.fr hA.ad h
theorem At.val {x:IV}{v:Value}(hv:C.v X v x)(h:finK o.dst K ad fr (.val x) X.st ds):PK C X0 N K (a.put o.dst v) X.w:=yZx hA.inv hA.ad hA.hd hv h
theorem zV0 {x:Operand}{dr:Bool}(ho:o.op=.move x\/o.op=.assign x)(h:zQ8 dr (evV C.gl fr x) (evA C.gl ad fr x) (finK o.dst K ad fr) X.st ds) :
  o.wpIn (yZ3 ro) n C.P a X.w (PK C X0 N K) Q:=by
 refine yQd (v:=a.eval x) (w':=X.w) (by unfold execOp;rcases ho with ho|ho<;>rw[ho]<;>rfl) (by rcases ho with ho|ho<;>rw[ho]<;>intro c hc<;>cases hc) ?_;unfold zQ8 at h;split at h
 ·rename_i y hy;exact hA.val (hA.v hy).1 h
 ·split at h
  ·exact h.elim
  ·obtain⟨p,hp,h⟩:=yQ4.1 h;exact wY8 hA.inv hA.ad hA.hd (hA.p hp) h
end
section
theorem yYs {y:IV}(h1:y.cells.all IV.one=true):∀u,y≠.raw (.agg u):=by
 rintro u rfl;simp[IV.cells,IV.one] at h1
theorem yKt {s:IV}{f:IntKind->Int->Prop}(h:intV s f):∃k n,s=.raw (.int k n)/\f k n:=by
 unfold intV at h;split at h
 ·grind
 ·exact h.elim
theorem zW0 {s:IV}{f:Bool->Prop}(h:zZm s f):∃b,s=.raw (.bool b)/\f b:=by
 unfold zZm at h;split at h
 ·grind
 ·exact h.elim
theorem xGf {s:IV}{f:Tag->List IV->Prop}(h:slV s f):∃t xs,s=.sl t xs/\f t xs:=by
 unfold slV at h;split at h
 ·grind
 ·exact h.elim
theorem xGe {s:IV}{f:Tag->List IV->Prop}{g:Nat->Nat->Nat->Prop}(h:slX s f g):(∃t xs,s=.sl t xs/\f t xs)\/∃b off n cap,s=.raw (.slice (some ⟨b,off,none⟩) n cap)/\g b off n:=by
 unfold slX at h;split at h
 ·grind
 ·grind
 ·exact h.elim
theorem zXs {s:IV}{f:Tag->List IV->Prop}{g:Nat->Nat->Nat->Nat->Prop}(h:slY s f g):(∃t xs,s=.sl t xs/\f t xs)\/∃b off n cap,s=.raw (.slice (some ⟨b,off,none⟩) n cap)/\g b off n cap:=by
 unfold slY at h;split at h
 ·grind
 ·grind
 ·exact h.elim
theorem zXc {s:IV}{f:List IV->Prop}(h:aggV s f):∃xs,s=.agg xs/\f xs:=by
 unfold aggV at h;split at h
 ·grind
 ·exact h.elim
theorem wXn {s:IV}{f:List IV->Prop}(h:tupV s f):∃xs,s=.tup xs/\f xs:=by
 unfold tupV at h;split at h
 ·grind
 ·exact h.elim
theorem xX7 {s:IV}{f:Fn->List IV->List IV->Prop}(h:fnV s f):∃g x y,s=.fn g x y/\f g x y:=by
 unfold fnV at h;split at h
 ·grind
 ·exact h.elim
theorem zZy {s:IV}{f:Option Nat->Prop}(h:mapV s f):∃m,s=.raw (.map m)/\f m:=by
 unfold mapV at h;split at h
 ·grind
 ·exact h.elim
theorem zWn {s:IV}{f:Value->Prop}(h:rawV s f):∃v,s=.raw v/\f v:=by
 unfold rawV at h;split at h
 ·grind
 ·exact h.elim
theorem xKs {B:Nat}{L:Nat->Nat}{w:World}{r:Value}{x:IV}{f:Value->Prop}(hv:V B L w r x)(h:keyV x f):f r:=by
 unfold keyV at h;split at h
 ·rw[V.raw_inv hv];exact h
 ·rename_i s k n;cases hv with
  | agg rs cs hl h' =>
   match rs,hl with
   | [a,b],_ =>
    have h1:=h' 0 a _ rfl rfl;have h2:=V.raw_inv (h' 1 b _ rfl rfl);have h3:=V.raw_inv h1;subst h2;subst h3;cases h1 with
    | raw _ hr=>exact h hr
 iterate 2
  ·cases hv with
   | agg rs cs hl h' =>
    match rs,hl with
    | [a,b],_ =>
     have h2:=V.raw_inv (h' 1 b _ rfl rfl);have h3:=V.raw_inv (h' 0 a _ rfl rfl);subst h2;subst h3;exact h
 ·exact h.elim
theorem xVg {s:IV}{f:Nat->Prop}(h:adrV s f):∃b,s=.raw (.pointer (some ⟨b,0,none⟩))/\f b:=by
 unfold adrV at h;split at h
 ·grind
 ·exact h.elim
theorem wQb {s:IObj}{f:Nat->Nat->Array Nat->Nat->Prop}(h:itO s f):∃m e n c,s=.iter m e n c/\f m e n c:=by
 unfold itO at h;split at h
 ·grind
 ·exact h.elim
theorem xZp {s:IObj}{f:Array MapEntry->Nat->Prop}(h:mxO s f):∃e c,s=.mapx e c/\f e c:=by
 unfold mxO at h;split at h
 ·grind
 ·exact h.elim
theorem zJ6 {s:IObj}{f:List IV->Prop}(h:obV s f):∃cs,s=.box cs/\f cs:=by
 unfold obV at h;split at h
 ·grind
 ·exact h.elim
theorem xZl {s:IObj}{f:KeyK->List (Value×IV)->Prop}(h:omV s f):∃k cs,s=.map k cs/\f k cs:=by
 unfold omV at h;split at h
 ·grind
 ·exact h.elim
theorem yQx {c q:Prop} [Decidable c](h:if c then q else False):c/\q:=by
 grind
theorem yK9 {c q:Prop} [Decidable c](h:if c then False else q):¬ c/\q:=by
 grind
end
section
variable {C:Cx}{X0 X:WS}{N:Nat}{fr:Fr}{ds:List Dfd}{a:Act}{ad:Ad}{K:Kt}{ro:Option Nat}{n:Nat}{Q:Exit->Act->World->Prop}{o:Oper}
variable (hA:At C X0 N X fr ds a ad o.dst)
include hA
theorem xVv {b x y:Operand}(ho:o.op=.pick b x y)
  (h:yQ6 (evV C.gl fr b) λb=>zZm b λb=>yGf b (yQ6 (evV C.gl fr x) λx=>finK o.dst K ad fr (.val x) X.st ds) (yQ6 (evV C.gl fr y) λy=>finK o.dst K ad fr (.val y) X.st ds) .mk .mk) :
  o.wpIn (yZ3 ro) n C.P a X.w (PK C X0 N K) Q:=by
 obtain⟨vb,hb,h⟩:=yQ4.1 h;obtain⟨t,rfl,h⟩:=zW0 h;have he:=V.raw_inv (hA.v hb).1;have hr:(execOp a.eval o).run C.P X.w=.ok (.value (if t=true then a.eval x else a.eval y)) X.w:=by
  unfold execOp;rw[ho];simp[he,asBool]
 refine yQd hr (by rw[ho];intro c hc;cases hc) ?_;cases t with
 | true =>
  obtain⟨z,hz,h⟩:=yQ4.1 (h.1 rfl);exact hA.val (hA.v hz).1 h
 | false =>
  obtain⟨z,hz,h⟩:=yQ4.1 (h.2 rfl);exact hA.val (hA.v hz).1 h
theorem zQw {esc:List Nat}{v:Value}{T:TypeId}{y:List IV}(hv:C.vl X v.cells.toList y)(h:yY1 esc o.dst y (finK o.dst K ad fr) X.st ds) :
  PK C X0 N K (a.put o.dst (.pointer (some ⟨X.w.heap.size,0,none⟩))) (X.w.alloc (.cells v.cells T)):=by
 unfold yY1 at h;cases hd:o.dst with
 | none=>rw[hd] at h;exact h.elim
 | some d =>
  rw[hd] at h;simp only at h;split at h
  ·have hnone:X.st X.w.heap.size=none:=by
    cases hs:X.st X.w.heap.size with
    | none=>rfl
    | some o=>have:=hA.inv.good.lt hs;omega
   have h:=h X.w.heap.size hnone;have hI:=hA.inv.new (.cells v.cells T) 0 (some (.box y)) (λi hi=>by
    cases hi;exact⟨by simp[WS.new],v.cells,T,yQn _ _,(hA.inv.good.new_ext _ 0 _).vl hv⟩)
   have:=yZx (dst:=some d) (K:=K) (x:=.raw (.pointer (some ⟨X.w.heap.size,0,none⟩))) (v:=.pointer (some ⟨X.w.heap.size,0,none⟩)) hI hA.ad (λe he=>hA.hd e (by rw[hd];exact he)) (.raw _ trivial) h;exact this
  ·exact vQ7 (dst:=some d) hA.inv hA.ad (λe he=>hA.hd e (by rw[hd];exact he)) hv h
theorem xZ8 {esc:List Nat}{T:TypeId}(ho:o.op=.alloc T)(h:yQ6 (yX3 C.P T) λz=>yY1 esc o.dst z.cells (finK o.dst K ad fr) X.st ds) :
  o.wpIn (yZ3 ro) n C.P a X.w (PK C X0 N K) Q:=by
 obtain⟨z,hz,h⟩:=yQ4.1 h;obtain⟨v,hrun,hv,hd,h1⟩:=zXd hz X.w;have hr:(execOp a.eval o).run C.P X.w=.ok (.value (.pointer (some ⟨X.w.heap.size,0,none⟩))) (X.w.alloc (.cells v.cells T)):=by
  unfold execOp;rw[ho];simp[Instr.alloc,hrun,newVar,newRow]
 exact yQd hr (by rw[ho];intro c hc;cases hc) (zQw hA (V.cells (hv _ _ _) (yYs h1) hd) h)
theorem zWd {frz esc:List Nat}{v:Value}{T:TypeId}{y:IV}(hv:C.vl X v.cells.toList y.cells)(h:yWk frz esc o.dst y (finK o.dst K ad fr) X.st ds) :
  PK C X0 N K (a.put o.dst (.pointer (some ⟨X.w.heap.size,0,none⟩))) (X.w.alloc (.cells v.cells T)):=by
 unfold yWk at h;cases hd:o.dst with
 | none=>rw[hd] at h;exact h.elim
 | some d =>
  rw[hd] at h;simp only at h;split at h
  ·have hnone:X.st X.w.heap.size=none:=by
    cases hs:X.st X.w.heap.size with
    | none=>rfl
    | some o=>have:=hA.inv.good.lt hs;omega
   have hI:=hA.inv.new (.cells v.cells T) v.cells.size none (λi hi=>by cases hi);have hst:(X.new (.cells v.cells T) v.cells.size none).st=X.st:=by
    funext b;simp only[WS.new];split
    ·grind
    ·rfl
   rw[<- hst] at h;have hext:=hA.inv.good.new_ext (.cells v.cells T) v.cells.size none;have hvl:=hext.vl hv;have hcp:C.v (X.new (.cells v.cells T) v.cells.size none) (.pointer (some ⟨X.w.heap.size,0,none⟩)) (.cptr y):=by
    refine .cptr _ y v.cells.toList rfl hvl.1 ?_ (λi r hr=>?_) (λi r c hr hc=>hvl.2 i r c hr hc)
    ·simp[WS.new]
    ·have h1:=yQn X.w (.cells v.cells T);have h2:(X.new (.cells v.cells T) v.cells.size none).w=X.w.alloc (.cells v.cells T):=rfl;rw[h2];simp only[World.cell?,h1,Nat.zero_add,Option.isSome_none,bFt,if_false];simpa using hr
   have:=yZx (dst:=some d) (K:=K) (x:=.cptr y) (v:=.pointer (some ⟨X.w.heap.size,0,none⟩)) hI hA.ad (λe he=>hA.hd e (by rw[hd];exact he)) hcp h;exact this
  ·have:=zQw (v:=v) (T:=T) (esc:=esc) hA hv (by rw[hd];exact h);grind
theorem xG8 {frz esc:List Nat}{T:TypeId}{x:Operand}(ho:o.op=.box T x)
  (h:yQ6 (tyI C.P T) λ_=>yQ6 (evV C.gl fr x) λy=>chk (y.cells.all IV.one=true) (yWk frz esc o.dst y (finK o.dst K ad fr) X.st ds)) :
  o.wpIn (yZ3 ro) n C.P a X.w (PK C X0 N K) Q:=by
 obtain⟨i,_,h⟩:=yQ4.1 h;obtain⟨y,hy,h1,h⟩:=yQ4.1 h;have hr:(execOp a.eval o).run C.P X.w=.ok (.value (.pointer (some ⟨X.w.heap.size,0,none⟩))) (X.w.alloc (.cells (a.eval x).cells T)):=by
  unfold execOp;rw[ho];simp[Instr.box,newVar,newRow]
 exact yQd hr (by rw[ho];intro c hc;cases hc) (zWd hA (V.cells (hA.v hy).1 (yYs h1) (hA.v hy).2) h)
theorem xVx {dr:Bool}{T:TypeId}{x:Operand}(ho:o.op=.load T x)
  (h:yQ6 (tyI C.P T) λi=>yQ6 (evA C.gl ad fr x) λp=>yUg dr i.1 i.2 p fr (finK o.dst K ad fr) X.st ds) :
  o.wpIn (yZ3 ro) n C.P a X.w (PK C X0 N K) Q:=by
 obtain⟨⟨ag,sz⟩,ht,h⟩:=yQ4.1 h;obtain⟨p,hp,h⟩:=yQ4.1 h;have hpl:=hA.p hp;have key:∀(ad':Addr) (v:Value),a.eval x=.pointer (some ad')->(loadVar T ad').run C.P X.w=.ok v X.w->(execOp a.eval o).run C.P X.w=.ok (.value v) X.w:=by
  intro ad' v he hl;unfold execOp;rw[ho];simp only[Instr.loadAt,he,Instr.sureAddr,Sem.run_bind,Sem.run_pure,Result.andThen_ok,hl]
 have hnd:∀c,o.op≠.defer c:=by rw[ho];intro c hc;cases hc
 cases p with
 | box t off =>
  obtain⟨cs,b,hfr,hb,he⟩:=hpl;simp only[yUg,hfr] at h;obtain⟨y,hy,h⟩:=yQ4.1 h;have hs:=hA.inv.fr.slot t;rw[hfr] at hs;obtain⟨b',c,E,hr,hh,hvl,_⟩:=hs;rw[hb] at hr;cases hr;obtain⟨v,hl,hv⟩:=zZz ht hh hvl hy;exact yQd (key _ v he hl) hnd (hA.val hv h)
 | ptr b off =>
  obtain⟨_,h⟩:=yK9 h;obtain⟨ob,hob,h⟩:=yQ4.1 h;obtain⟨cs,rfl,h⟩:=zJ6 h;obtain⟨y,hy,h⟩:=yQ4.1 h;obtain⟨_,c,E,hh,hvl⟩:=hA.inv.good.ok b _ hob;obtain⟨v,hl,hv⟩:=zZz ht hh hvl hy;exact yQd (key _ v hpl hl) hnd (hA.val hv h)
 | cp y =>
  obtain⟨hf,h⟩:=yQx h;obtain⟨ad',he,_⟩:=V.cptr_ptr hpl;have hpl':C.v X (.pointer (some ad')) (.cptr y):=he▸hpl;obtain⟨v,hl,hv⟩:=xUt ht hpl' hf;exact yQd (key _ v he hl) hnd (hA.val hv h)
theorem xQy {T:TypeId}{x v:Operand}(ho:o.op=.store T x v)
  (h:yQ6 (tyI C.P T) λi=>yQ6 (evV C.gl fr v) λy=>chk (y.cells.length=i.2/\y.cells.all IV.one=true) (yQ6 (evA C.gl ad fr x) λp=>yYb y.cells p fr (finK o.dst K ad fr) X.st ds)) :
  o.wpIn (yZ3 ro) n C.P a X.w (PK C X0 N K) Q:=by
 obtain⟨⟨ag,sz⟩,ht,h⟩:=yQ4.1 h;obtain⟨y,hy,⟨hsz,h1⟩,h⟩:=yQ4.1 h;obtain⟨p,hp,h⟩:=yQ4.1 h;simp only at hsz;subst hsz;have hpl:=hA.p hp;obtain⟨hv,hdef⟩:=hA.v hy;have key:∀(ad':Addr) (w':World),a.eval x=.pointer (some ad')->(storeVar T ad' (a.eval v)).run C.P X.w=.ok () w'->(execOp a.eval o).run C.P X.w=.ok .skip w':=by
  intro ad' w' he hl;unfold execOp;rw[ho];simp only[Instr.storeAt,he,Instr.sureAddr,Sem.run_bind,Sem.run_pure,Result.andThen_ok,hl]
 have hnd:∀c,o.op≠.defer c:=by rw[ho];intro c hc;cases hc
 cases p with
 | box t off =>
  obtain⟨cs,b,hfr,hb,he⟩:=hpl;simp only[yYb,hfr] at h;obtain⟨hle,h⟩:=yQx h;have hs:=hA.inv.fr.slot t;rw[hfr] at hs;obtain⟨b',c,E,hr,hh,hvl,_⟩:=hs;rw[hb] at hr;cases hr;have hcl:c.size=cs.length:=by rw[<- hvl.1];simp
  obtain⟨hst,hvc⟩:=zQy ht hh hv hdef h1 (off:=off) (by rw[hcl];exact hle);refine xZk (key _ _ he hst) hnd ?_;cases hd:o.dst with
  | some d=>rw[hd] at h;exact h.elim
  | none =>
   rw[hd] at h;have hI:=hA.inv.own hfr hb hh (cs':=(c.toList.take off++(a.eval v).cells.toList++c.toList.drop (off+(a.eval v).cells.toList.length)).toArray) (new:=yX8 cs off y.cells) (by simp;have:=hvc.1;simp at this;omega)
    (by simpa using yG5 hvl hvc)
   exact⟨_,ad,_,ds,rfl,hI,hA.ad.own _,h⟩
 | ptr b off =>
  obtain⟨ob,hob,h⟩:=yQ4.1 h;obtain⟨cs,rfl,h⟩:=zJ6 h;obtain⟨hle,h⟩:=yQx h;obtain⟨hL,c,E,hh,hvl⟩:=hA.inv.good.ok b _ hob;have hcl:c.size=cs.length:=by rw[<- hvl.1];simp
  obtain⟨hst,hvc⟩:=zQy ht hh hv hdef h1 (off:=off) (by rw[hcl];exact hle);refine xZk (key _ _ hpl hst) hnd ?_;have hsz':∀c':Array Value,c'=c->(c.toList.take off++(a.eval v).cells.toList++c.toList.drop (off+(a.eval v).cells.toList.length)).toArray.size=c'.size:=by
   rintro _ rfl;simp;have:=hvc.1;simp at this;omega
  have hkeep:∀i,i<X.L b->((c.toList.take off++(a.eval v).cells.toList++c.toList.drop (off+(a.eval v).cells.toList.length)).toArray)[i]?=c[i]?:=λi hi=>by rw[hL] at hi;omega
  have hI:=hA.inv.row hh (hsz' c rfl) (n:=0) (so:=some (.box (yX8 cs off y.cells))) (by omega) hkeep (by rw[hob];simp) (λi hi=>by
   cases hi;refine⟨by simp[WS.row],_,E,setRow_heap X.w b c _ E (0,0) hh,?_⟩;have:=yG5 hvl hvc (off:=off);exact⟨by simpa using this.1,λi r z hr hz=>zZj hh (hsz' c rfl) (by omega) hkeep (this.2 i r z (by simpa using hr) hz)⟩)
  cases hd:o.dst with
  | some d=>rw[hd] at h;exact h.elim
  | none =>
   rw[hd] at h;exact⟨_,ad,_,ds,rfl,hI,hA.ad,h⟩
 | cp y=>exact h.elim
theorem zKc {dr:Bool}{x:Operand}(ho:o.op=.nilCheck x)(h:nilV (evV C.gl fr x) (evA C.gl ad fr x) dr (finK o.dst K ad fr) X.st ds) :
  o.wpIn (yZ3 ro) n C.P a X.w (PK C X0 N K) Q:=by
 have hnd:∀c,o.op≠.defer c:=by rw[ho];intro c hc;cases hc
 have last:(yQ6 (evA C.gl ad fr x) λp=>plR p (finK o.dst K ad fr) X.st ds)->o.wpIn (yZ3 ro) n C.P a X.w (PK C X0 N K) Q:=λh=>by
  obtain⟨p,hp,h⟩:=yQ4.1 h;have hpl:=hA.p hp;have hptr:∃ad',a.eval x=.pointer (some ad'):=by
   cases p with
   | box t off=>obtain⟨_,_,_,_,he⟩:=hpl;exact⟨_,he⟩
   | ptr b off=>exact⟨_,hpl⟩
   | cp y=>obtain⟨ad',he,_⟩:=V.cptr_ptr hpl;exact⟨_,he⟩
  obtain⟨ad',he⟩:=hptr;have hr:(execOp a.eval o).run C.P X.w=.ok (.value (a.eval x)) X.w:=by
   unfold execOp;rw[ho];simp only[he];rfl
  exact yQd hr hnd (wY8 hA.inv hA.ad hA.hd hpl h)
 unfold nilV at h;split at h
 ·rename_i f first caps hy
  obtain⟨hf,h⟩:=yQx h;have hv:=(hA.v hy).1;obtain⟨rs,rs',he,_⟩:=V.fn_inv hv;have hr:(execOp a.eval o).run C.P X.w=.ok (.value (a.eval x)) X.w:=by
   unfold execOp;rw[ho];simp only[he];cases f<;>first|rfl|simp[fnOk] at hf
  exact yQd hr hnd (hA.val hv h)
 ·rename_i y hy;have hv:=(hA.v hy).1;obtain⟨ad',he,_⟩:=V.cptr_ptr hv;have hr:(execOp a.eval o).run C.P X.w=.ok (.value (a.eval x)) X.w:=by
   unfold execOp;rw[ho];simp only[he];rfl
  exact yQd hr hnd (hA.val hv h)
 ·rename_i q hy;by_cases hdr:dr=true
  ·rw[if_pos hdr] at h;have he:=V.raw_inv (hA.v hy).1;have hr:(execOp a.eval o).run C.P X.w=.ok (.value (a.eval x)) X.w:=by
    unfold execOp;rw[ho];simp only[he];rfl
   exact yQd hr hnd (hA.val (hA.v hy).1 h)
  ·grind
 ·grind
theorem zKd {f:Fn}{first caps:Array Operand}(ho:o.op=.makeFunc f first caps)
  (h:yQ6 (evL C.gl fr first.toList) λx=>yQ6 (evL C.gl fr caps.toList) λy=>finK o.dst K ad fr (.val (.fn f x y)) X.st ds) :
  o.wpIn (yZ3 ro) n C.P a X.w (PK C X0 N K) Q:=by
 obtain⟨x,hx,h⟩:=yQ4.1 h;obtain⟨y,hy,h⟩:=yQ4.1 h;have h1:=wQx hA.inv.good hA.inv.fr hx;have h2:=wQx hA.inv.good hA.inv.fr hy;have hr:(execOp a.eval o).run C.P X.w=.ok (.value (.func f ⟨first.toList.map a.eval⟩ ⟨caps.toList.map a.eval⟩)) X.w:=by
  unfold execOp;rw[ho];have e1:first.map a.eval=⟨first.toList.map a.eval⟩:=by apply Array.ext';simp
  have e2:caps.map a.eval=⟨caps.toList.map a.eval⟩:=by apply Array.ext';simp
  simp only[Instr.makeFunc,e1,e2,Sem.run_bind,Sem.run_pure,Result.andThen_ok]
 exact yQd hr (by rw[ho];intro c hc;cases hc) (hA.val (.fn f _ _ h1.1 h1.2 _ _ h2.1 h2.2) h)
theorem zWf {x:Operand}{i:Nat}(ho:o.op=.extract x i)(h:yQ6 (evV C.gl fr x) λx=>tupV x λvs=>yQ6 (vs[i]?) λy=>finK o.dst K ad fr (.val y) X.st ds) :
  o.wpIn (yZ3 ro) n C.P a X.w (PK C X0 N K) Q:=by
 obtain⟨y,hy,h⟩:=yQ4.1 h;obtain⟨vs,rfl,h⟩:=wXn h;obtain⟨z,hz,h⟩:=yQ4.1 h;obtain⟨rs,he,hvl⟩:=V.tup_inv (hA.v hy).1;obtain⟨r,hr,hv⟩:=hvl.get hz;have hrun:(execOp a.eval o).run C.P X.w=.ok (.value r) X.w:=by
  unfold execOp;rw[ho];have:(⟨rs⟩:Array Value)[i]?=some r:=by simpa using hr
  simp[Instr.extract,he,this]
 exact yQd hrun (by rw[ho];intro c hc;cases hc) (hA.val hv h)
end
theorem xQd:∀ {xs:List IV}{l:List UInt8},yY5 xs=some l->xs=l.map λb=>.raw (.int .u8 (b.toNat:Int))
 | [],l,h=>by simp only[yY5,Option.some.injEq] at h;subst h;rfl
 | x::xs,l,h=>by
  unfold yY5 at h;split at h
  ·grind
  ·rename_i m l' heq;cases heq;split at h
   ·rename_i hm;rw[Option.map_eq_some_iff] at h;obtain⟨l2,h2,rfl⟩:=h;rw[xQd h2,List.map_cons];congr 3;rw[UInt8.toNat_ofNat'];omega
   ·cases h
  ·cases h
theorem wXx {C:Cx}{X:WS}{P:Program}{S D:TypeId}{v:Value}{t:Tag}{l:List UInt8}(hv:C.v X v (.sl t (l.map λb=>.raw (.int .u8 (b.toNat:Int)))))(hl:l≠[])(hS:xQe P S=true)(hD:strT P D=true) :
  (convert S D v).run P X.w=.ok (.string ⟨l.toArray⟩) X.w/\l.length<=140737488355328:=by
 unfold xQe at hS;split at hS
 ·rename_i e he;split at hS
  ·rename_i he2;unfold strT at hD;split at hD
   ·rename_i hd;cases hv with
    | sl ad0 cap _ _ T vs hcap hlen hcl hs hvl hroom hfresh hplace hc =>
     have hfl:∀(m:List UInt8),(m.map λb=>IV.raw (.int .u8 (b.toNat:Int))).flatMap IV.cells=m.map λb=>IV.raw (.int .u8 (b.toNat:Int)):=λm=>by
      induction m with
      | nil=>rfl
      | cons a m ih=>simp only[List.map_cons,List.flatMap_cons,ih];rfl
     rw[hfl] at hc;have hes:t.es=1:=by
      match l,hl with
      | b::l,_=>exact (hs (.raw (.int .u8 (b.toNat:Int))) (by simp)).symm
     obtain⟨ad,rfl,hsp,_,hcell⟩:=hplace (by simpa using hl);rw[List.length_map] at hlen hvl ⊢;refine⟨run_convert_bytes_back X.w S D e ad cap l he he2 hd (λj hj=>?_),hlen⟩;rw[yK0 ad hsp];have hjv:j<vs.length:=by rw[hvl,hes];omega
     have h1:=List.getElem?_eq_getElem hjv;rw[hcell j _ h1];have h2:=V.raw_inv (hc j _ _ h1 (by rw[List.getElem?_map,List.getElem?_eq_getElem hj];rfl));rw[h2]
   ·cases hD
  ·cases hS
 ·cases hS
theorem yV4 {P:Program}{op:BinOp}{T:TypeId}{x y:Operand}{a b:Value}(h1:a≠.nilIface)(h2:∀u,a≠.agg u)(w:World) :
  (eqGuard op T x y a b).run P w=.ok () w:=by
 cases a<;>first
  | (exact absurd rfl h1)
  | (exact absurd rfl (h2 _))
  | (cases op<;>rfl)
theorem xQ6 (a b:ByteArray):(a.toList == b.toList)=decide (a=b):=by
 rw[ByteArray.toList_eq,ByteArray.toList_eq];by_cases h:a=b
 ·subst h;simp
 ·have:¬ a.data=b.data:=λhe=>h (by cases a;cases b;simp at he;subst he;rfl);simp[h,this]
theorem wJ5 {P:Program}{op:BinOp}{T:TypeId}{a b z:Value}(h:binI P T op a b=some z)(w:World):(binOp op T a b).run P w=.ok z w/\zZk z/\a≠.nilIface/\(∀u,a≠.agg u):=by
 unfold binI at h;split at h
 ·rename_i k x k' y;split at h
  ·rename_i ho;subst ho;split at h
   ·rename_i hy;cases h;exact⟨by simp[binOp,Op.shift,show ¬ y<0 by omega],trivial,by simp,by simp⟩
   ·cases h
  split at h
  ·rename_i ho;subst ho;split at h
   ·rename_i hy;cases h;exact⟨by simp[binOp,Op.shift,show ¬ y<0 by omega],trivial,by simp,by simp⟩
   ·cases h
  split at h
  ·rename_i hk;subst hk;refine⟨?_,?_,by simp,by simp⟩
   ·cases op<;>simp only[cmpI,Option.some.injEq,reduceCtorEq] at h
    case add=>subst h;simp[binOp,Op.intArith]
    case sub=>subst h;simp[binOp,Op.intArith]
    case and=>subst h;simp[binOp,Op.intBits]
    case andNot=>subst h;simp[binOp,Op.intBits]
    case mul=>subst h;simp[binOp,Op.intArith]
    case quo =>
     split at h
     ·cases h
     ·rename_i hy;cases h;simp[binOp,Op.intDiv,hy]
    case rem =>
     split at h
     ·cases h
     ·rename_i hy;cases h;simp[binOp,Op.intDiv,hy]
    case eql=>subst h;simp[binOp,Op.intCmp,BEq.beq]
    case neq=>subst h;simp[binOp,Op.intCmp,bne,BEq.beq]
    case lss=>subst h;simp[binOp,Op.intCmp]
    case leq=>subst h;simp[binOp,Op.intCmp]
    case gtr=>subst h;simp[binOp,Op.intCmp]
    case geq=>subst h;simp[binOp,Op.intCmp]
   ·cases op<;>simp only[cmpI,Option.some.injEq,reduceCtorEq] at h<;>first
     | (subst h;trivial)
     | (split at h
        ·cases h
        ·cases h;trivial)
  ·cases h
 ·rename_i a b;refine⟨?_,?_,by simp,by simp⟩
  ·cases op<;>simp only[Option.some.injEq,reduceCtorEq] at h
   case add =>
    split at h
    ·rename_i hs;cases h;have:¬ ((a.size+b.size:Nat):Int) > IntKind.i64.max:=by
      have:IntKind.i64.max=9223372036854775807:=by decide
      omega
     simp only[binOp,Op.stringOp,if_neg this,Sem.run_pure]
    ·cases h
   all_goals (subst h;simp only[binOp,Op.stringOp,xQ6,Sem.run_pure])
   all_goals simp only[ByteArray.toList_eq]
  ·cases op<;>simp only[Option.some.injEq,reduceCtorEq] at h
   case add =>
    split at h
    ·rename_i hs;cases h;simp only[zZk,ByteArray.size_append];omega
    ·cases h
   all_goals (subst h;trivial)
 ·rename_i a b;split at h
  ·rename_i ht;have he:∀x y:Bool,(Op.equal T (.bool x) (.bool y)).run P w=.ok (x == y) w:=by
    exact λx y=>run_equalIn_bool w 9999 T x y ht
   refine⟨?_,?_,by simp,by simp⟩
   ·cases op<;>simp only[Option.some.injEq,reduceCtorEq] at h<;>(subst h;simp only[binOp,Sem.run_bind,he,Result.andThen_ok,Sem.run_pure])
   ·cases op<;>simp only[Option.some.injEq,reduceCtorEq] at h<;>(subst h;trivial)
  ·cases h
 ·cases h
section
variable {C:Cx}{X0 X:WS}{N:Nat}{fr:Fr}{ds:List Dfd}{a:Act}{ad:Ad}{K:Kt}{ro:Option Nat}{n:Nat}{Q:Exit->Act->World->Prop}{o:Oper}
theorem wGb {B:Nat}{L:Nat->Nat}{w:World}{r:Value}{t:Tag}{xs:List IV}{b:Bool}(hv:V B L w r (.sl t xs))(h:zQ0 (.sl t xs)=some b):∃ad len cap,r=.slice ad len cap/\ad.isNone=b:=by
 cases hv with
 | sl ad cap _ _ T vs hcap hlen hcl hs hvl hroom hfresh hplace _ =>
  refine⟨ad,_,_,rfl,?_⟩;obtain⟨f,cp,es⟩:=t;unfold zQ0 at h;split at h
  ·rename_i he;cases he;cases h;simp only[zQm] at hcap;rw[hcap.1];rfl
  ·rename_i he;cases he;cases h;simp only[zQm] at hcap;rw[hcap];rfl
  ·grind
  ·cases h
variable (hA:At C X0 N X fr ds a ad o.dst)
include hA
theorem xZ7 {op:BinOp}{T T':TypeId}{x y:Operand}(ho:o.op=.binOp op T x y T')
  (h:yQ6 (evV C.gl fr x) λx=>yQ6 (evV C.gl fr y) λy=>yQ6 (binV C.P T op x y) λz=>finK o.dst K ad fr (.val z) X.st ds) :
  o.wpIn (yZ3 ro) n C.P a X.w (PK C X0 N K) Q:=by
 obtain⟨vx,hx,h2⟩:=yQ4.1 h;clear h;obtain⟨vy,hy,h3⟩:=yQ4.1 h2;clear h2;obtain⟨vz,hz,h⟩:=yQ4.1 h3;clear h3;have hnd:∀c,o.op≠.defer c:=by rw[ho];intro c hc;cases hc
 have hxv:=(hA.v hx).1;have hyv:=(hA.v hy).1;unfold binV at hz;split at hz
 ·rename_i u v;cases hq:binI C.P T op u v with
  | none=>simp[hq] at hz
  | some q =>
   simp only[hq,Option.map_some,Option.some.injEq] at hz;subst hz;obtain⟨hrun,hok,h1,h2⟩:=wJ5 hq X.w;have e1:=V.raw_inv hxv;have e2:=V.raw_inv hyv;have hr:(execOp a.eval o).run C.P X.w=.ok (.value q) X.w:=by
    unfold execOp;rw[ho];simp only[e1,e2,Sem.run_bind,yV4 h1 h2,Result.andThen_ok,hrun,Sem.run_pure]
   exact yQd hr hnd (hA.val (.raw _ hok) h)
 ·rename_i t xs f es l;split at hz
  ·rename_i hsl;have hund:∃e,C.P.underlying T=some (.slice e):=by
    unfold yVj at hsl;grind
   obtain⟨e,hund⟩:=hund;have e2:a.eval y=.slice none 0 0:=by
    generalize a.eval y=r at hyv;cases hyv with
    | sl ad cap _ _ T vs hcap=>rw[hcap.1,hcap.2.1,hcap.2.2]
   have key:∀b,zQ0 (.sl t xs)=some b->(Op.equal T (a.eval x) (a.eval y)).run C.P X.w=.ok b X.w/\(∃ad len cap,a.eval x=.slice ad len cap):=by
    intro b hb;obtain⟨ad',len',cap',e1,hnone⟩:=wGb hxv hb;refine⟨?_,_,_,_,e1⟩;rw[e1,e2];subst hnone;exact run_equal_slice_nil X.w T e ad' len' cap' hund
   cases op<;>simp only[reduceCtorEq] at hz
   ·cases hb:zQ0 (.sl t xs) with
    | none=>simp[hb] at hz
    | some b =>
     simp only[hb,Option.map_some,Option.some.injEq] at hz;subst hz;obtain⟨hq,ad',len',cap',e1⟩:=key b hb;have hr:(execOp a.eval o).run C.P X.w=.ok (.value (.bool b)) X.w:=by
      unfold execOp;rw[ho];rw[e1,e2] at hq;simp only[e1,e2,Sem.run_bind,yV4 (a:=.slice ad' len' cap') (by simp) (by simp),Result.andThen_ok,binOp,hq,Sem.run_pure]
     exact yQd hr hnd (hA.val (.raw _ trivial) h)
   ·cases hb:zQ0 (.sl t xs) with
    | none=>simp[hb] at hz
    | some b =>
     simp only[hb,Option.map_some,Option.some.injEq] at hz;subst hz;obtain⟨hq,ad',len',cap',e1⟩:=key b hb;have hr:(execOp a.eval o).run C.P X.w=.ok (.value (.bool !b)) X.w:=by
      unfold execOp;rw[ho];rw[e1,e2] at hq;simp only[e1,e2,Sem.run_bind,yV4 (a:=.slice ad' len' cap') (by simp) (by simp),Result.andThen_ok,binOp,hq,Sem.run_pure]
     exact yQd hr hnd (hA.val (.raw _ trivial) h)
  ·cases hz
 ·cases hz
theorem xVu {op:UnOp}{T:TypeId}{x:Operand}(ho:o.op=.unOp op T x)
  (h:yQ6 (evV C.gl fr x) λx=>yQ6 (unI op x) λz=>finK o.dst K ad fr (.val z) X.st ds):o.wpIn (yZ3 ro) n C.P a X.w (PK C X0 N K) Q:=by
 obtain⟨vx,hx,h2⟩:=yQ4.1 h;clear h;obtain⟨vz,hz,h⟩:=yQ4.1 h2;clear h2;have hnd:∀c,o.op≠.defer c:=by rw[ho];intro c hc;cases hc
 have hxv:=(hA.v hx).1;unfold unI at hz;split at hz
 ·rename_i b;cases op<;>simp only[reduceCtorEq,Option.some.injEq] at hz;subst hz;have e:=V.raw_inv hxv;have hr:(execOp a.eval o).run C.P X.w=.ok (.value (.bool !b)) X.w:=by
   unfold execOp;rw[ho];simp[e,Op.unary]
  exact yQd hr hnd (hA.val (.raw _ trivial) h)
 ·rename_i k m;cases op<;>simp only[reduceCtorEq,Option.some.injEq] at hz;subst hz;have e:=V.raw_inv hxv;have hr:(execOp a.eval o).run C.P X.w=.ok (.value (.int k (k.wrap (0-m)))) X.w:=by
   unfold execOp;rw[ho];simp[e,Op.unary,Op.intArith]
  exact yQd hr hnd (hA.val (.raw _ trivial) h)
 ·cases hz
theorem zWg {S D:TypeId}{x:Operand}(ho:o.op=.convert S D x)
  (h:yQ6 (evV C.gl fr x) λx=>yQ6 (xQ7 C.P S D x) λz=>finK o.dst K ad fr (.val z) X.st ds):o.wpIn (yZ3 ro) n C.P a X.w (PK C X0 N K) Q:=by
 obtain⟨vx,hx,h2⟩:=yQ4.1 h;clear h;obtain⟨vz,hz,h⟩:=yQ4.1 h2;clear h2;have hnd:∀c,o.op≠.defer c:=by rw[ho];intro c hc;cases hc
 have hxv:=(hA.v hx).1;unfold xQ7 at hz;split at hz
 ·rename_i t xs;split at hz
  ·rename_i hSD;rw[Option.bind_eq_some_iff] at hz;obtain⟨l,hb,hz⟩:=hz;split at hz
   ·cases hz
   ·rename_i hne;cases hz;have e:=xQd hb;subst e;obtain⟨hc,hlen⟩:=wXx hxv hne hSD.1 hSD.2;have hr:(execOp a.eval o).run C.P X.w=.ok (.value (.string ⟨l.toArray⟩)) X.w:=by
     unfold execOp;rw[ho];simp only[Sem.run_bind,hc,Result.andThen_ok,Sem.run_pure]
    exact yQd hr hnd (hA.val (.raw _ (by show ByteArray.size ⟨l.toArray⟩<=_;simp[ByteArray.size];omega)) h)
  ·cases hz
 ·rename_i k m;split at hz
  ·rename_i k1 k2 h1 h2;cases hz;have e:=V.raw_inv hxv;have hr:(execOp a.eval o).run C.P X.w=.ok (.value (.int k2 (k2.wrap m))) X.w:=by
    unfold execOp;rw[ho];have hc:(convert S D (.int k m)).run C.P X.w=.ok (.int k2 (k2.wrap m)) X.w:=by
     simp only[convert,Sem.run_bind,run_underlying h1,run_underlying h2,Result.andThen_ok];rfl
    simp only[e,Sem.run_bind,hc,Result.andThen_ok,Sem.run_pure]
   exact yQd hr hnd (hA.val (.raw _ trivial) h)
  ·cases hz
 ·cases hz
end
theorem V.cptr_part {B:Nat}{L:Nat->Nat}{w:World}{ad':Addr}{cs:List IV}{ag:Bool}{sz off:Nat}{y:IV}(h:V B L w (.pointer (some ad')) (.cptr (.agg cs)))(hp:yK4 ag sz cs off=some y)
  (hy:ag=false->y.cells=[y]):V B L w (.pointer (some (ad'.add off))) (.cptr y):=by
 cases h with
 | cptr _ _ vs hsp hvl hL hc h =>
  rw[yK0 ad' hsp];simp only[IV.cells_agg] at hvl h;unfold yK4 at hp;split at hp
  ·rename_i hag;split at hp
   ·rename_i hle;cases hp;refine .cptr _ _ ((vs.drop off).take sz) rfl (by simp[IV.cells_agg];omega) (by simp;omega) (λi r hr=>?_) (λi r c hr hcc=>?_)
    ·grind
    ·rw[IV.cells_agg] at hcc;grind
   ·cases hp
  ·rename_i hag;have hag':ag=false:=by simpa using hag
   have hlt:=(lGs hp).1;have hv0:vs[off]?=some (vs[off]'(by omega)):=List.getElem?_eq_getElem _;refine .cptr _ _ [vs[off]'(by omega)] rfl (by rw[hy hag'];rfl) (by simp;omega) (λi r hr=>?_) (λi r c hr hcc=>?_)
   ·grind
   ·grind
theorem zX6 {P:Program}{T:TypeId}{i fo n:Nat}{ag:Bool}(h:fldI P T i=some (fo,ag,n)):∃(fs:Array Field) (f:Field),P.underlying T=some (.struct fs)/\fs[i]?=some f/\f.offset=fo/\tyI P f.type=some (ag,n)/\0<n:=by
 unfold fldI at h;grind
theorem zXb {P:Program}{T:TypeId}{len n:Nat}{ag:Bool}(h:arrI P T=some (len,ag,n)):∃e,P.underlying T=some (.array len e)/\tyI P e=some (ag,n):=by
 unfold arrI at h;split at h
 ·rename_i m e he;cases ht:tyI P e with
  | none=>simp[ht] at h
  | some p =>
   grind
 ·cases h
theorem yWb {P:Program}{T e:TypeId}{ag:Bool}{s b:Nat}(h:slI P T=some (e,ag,s,b)):P.underlying T=some (.slice e)/\tyI P e=some (ag,s)/\∃i,P.info? e=some i/\i.zero.isSome=true/\i.bytes=b:=by
 unfold slI at h;split at h
 ·rename_i e' he;split at h
  ·rename_i a s' i ht hi;split at h
   ·rename_i hs;cases h;exact⟨he,ht,i,hi,by cases hz:i.zero<;>simp[hz] at hs ⊢,rfl⟩
   ·cases h
  ·cases h
 ·cases h
theorem zWi {P:Program}{T e:TypeId}{ag:Bool}{s b:Nat}{i:TypeInfo}(h:slI P T=some (e,ag,s,b))(hi:P.info? e=some i):∃z,i.zero=some z/\z.cells.size=s:=by
 unfold slI at h;split at h
 ·split at h
  ·rename_i a s' i' ht hi';split at h
   ·rename_i hs;cases h;rw[hi] at hi';cases hi';cases hz:i.zero with
    | none=>simp[hz] at hs
    | some z=>exact⟨z,rfl,by simpa[hz] using hs⟩
   ·cases h
  ·cases h
 ·cases h
theorem zKf {P:Program}{f:Field}{ag:Bool}{n:Nat}(ht:tyI P f.type=some (ag,n))(hn:0<n)(ad:Addr)(w:World):(fieldPlace ad f).run P w=.ok (ad.add f.offset) w:=by
 have h2:=(yXv ht w).2;have:¬ n=0:=by omega
 simp only[fieldPlace,Sem.run_bind,h2,Result.andThen_ok,if_neg this,Sem.run_pure]
theorem yUj {P:Program}{T:TypeId}{k:LenK}(h:lenI P T=some k):(k=.str/\P.underlying T=some .string)\/(k=.sl/\∃e,P.underlying T=some (.slice e))\/(k=.map/\∃a b,P.underlying T=some (.map a b)) \/
  (∃n e,k=.arr n/\P.underlying T=some (.array n e)):=by
 unfold lenI at h;grind
theorem zVd {B:Nat}{L:Nat->Nat}{w:World}{rs:List Value}{cs:List IV}(hv:VL B L w rs cs){ag:Bool}{n off:Nat}{y:IV}(h:yK4 ag n cs off=some y) :
  ∃r,(ag=true->off+n<=rs.length/\r=.agg ⟨(rs.drop off).take n⟩)/\((ag=false->rs[off]?=some r)/\V B L w r y):=by
 unfold yK4 at h;split at h
 ·rename_i hag;split at h
  ·rename_i hle;cases h;refine⟨_,λ_=>⟨by rw[hv.1];exact hle,rfl⟩,?_,((hv.drop off).take n).agg⟩;grind
  ·cases h
 ·rename_i hag;obtain⟨r,hr,hry⟩:=hv.get h;grind
theorem xJs {P:Program}{T:TypeId}{ag:Bool}{n:Nat}(ht:tyI P T=some (ag,n))(w:World)(rs:List Value)(off:Nat)(r:Value)
  (h1:ag=true->off+n<=rs.length/\r=.agg ⟨(rs.drop off).take n⟩) (h2:ag=false->rs[off]?=some r):(part T ⟨rs⟩ off).run P w=.ok r w:=by
 obtain⟨k1,k2⟩:=yXv ht w;cases ag with
 | true =>
  obtain⟨hle,rfl⟩:=h1 rfl;have:(⟨rs⟩:Array Value).extract off (off+n)=⟨(rs.drop off).take n⟩:=by
   grind
  simp only[part,Sem.run_bind,k1,Result.andThen_ok,if_true,k2,Sem.run_pure,this]
 | false =>
  have:(⟨rs⟩:Array Value)[off]?=some r:=by simpa using h2 rfl
  simp only[part,Sem.run_bind,k1,Result.andThen_ok,bFt,if_false,this,Sem.run_pure]
theorem yJ8 {ag:Bool}{n:Nat}{y:IV}(h:fits ag n y=true):(ag=false->y.cells=[y])/\y.cells.length=n/\y.cells.all IV.one=true/\y.def_:=by
 unfold fits at h;split at h
 ·rename_i cs;simp only[bAt,beq_iff_eq] at h;exact⟨λhf=>(by rw[hf] at h;simp at h),h.1.2,h.2,by simp[IV.def_]⟩
 ·rename_i hna;simp only[bAt,Bool.not_eq_true',beq_iff_eq] at h;have hc:=IV.one_cells h.1.2;refine⟨λ_=>hc,by rw[hc];exact h.2.symm,by rw[hc];simp[h.1.2],?_⟩;rintro rfl;simp[IV.one] at h
section
variable {C:Cx}{X0 X:WS}{N:Nat}{fr:Fr}{ds:List Dfd}{a:Act}{ad:Ad}{K:Kt}{ro:Option Nat}{n:Nat}{Q:Exit->Act->World->Prop}{o:Oper}
theorem wXy {r:Value}{tg:Tag}{xs:List IV}{j:Nat}{y:IV}(hv:C.v X r (.sl tg xs))(hy:xs[j]?=some y):∃(ad':Addr) (cap:Nat),r=.slice (some ad') xs.length cap/\C.v X (.pointer (some (ad'.add (j*tg.es)))) (.cptr y):=by
 cases hv with
 | sl ad0 cap _ _ T vs hcap hlen hcl hs hvl hroom hfresh hplace hc =>
  have hj:=(lGs hy).1;have hym:=lMg hy;obtain⟨ad',rfl,hsp,hL,hcell⟩:=hplace (by intro h0;rw[h0] at hj;simp at hj);refine⟨ad',cap,rfl,?_⟩;rw[yK0 ad' hsp];have hflat:∀(l:List IV) (j:Nat) (y:IV),(∀x∈l,x.cells.length=tg.es)->l[j]?=some y->∀(i:Nat) (c:IV),y.cells[i]?=some c->(l.flatMap IV.cells)[j*tg.es+i]?=some c:=by
   intro l
   induction l with
   | nil=>intro j y _ h;simp at h
   | cons x l ih =>
    intro j y hs h i c hic;have hx:=hs x (by simp);rw[List.flatMap_cons];cases j with
    | zero =>
     grind
    | succ j =>
     grind
  have hyl:=hs y hym;have hjs:j*tg.es+tg.es<=vs.length:=by rw[hvl,<- Nat.succ_mul];exact Nat.mul_le_mul_right _ hj
  refine .cptr _ _ ((vs.drop (j*tg.es)).take tg.es) rfl (by rw[hyl];simp;omega) (by simp;omega) (λi r hr=>?_) (λi r c hr hcc=>?_)
  ·grind
  ·grind
variable (hA:At C X0 N X fr ds a ad o.dst)
include hA
theorem zXr {T:TypeId}{x:Operand}{i:Nat}(ho:o.op=.fieldAddr T x i)
  (h:yQ6 (fldI C.P T i) λf=>yQ6 (evA C.gl ad fr x) λp=>zZd f p (finK o.dst K ad fr) X.st ds):o.wpIn (yZ3 ro) n C.P a X.w (PK C X0 N K) Q:=by
 obtain⟨⟨fo,ag,sz⟩,hf,h2⟩:=yQ4.1 h;clear h;obtain⟨p,hp,h⟩:=yQ4.1 h2;clear h2;have hnd:∀c,o.op≠.defer c:=by rw[ho];intro c hc;cases hc
 obtain⟨fs,f,hT,hfi,rfl,hty,hn⟩:=zX6 hf;have hpl:=hA.p hp;have key:∀ad':Addr,a.eval x=.pointer (some ad')->(execOp a.eval o).run C.P X.w=.ok (.value (.pointer (some (ad'.add f.offset)))) X.w:=by
  intro ad' he;unfold execOp;rw[ho];simp only[Instr.fieldAt,Sem.run_bind,run_underlying hT,Result.andThen_ok,hfi,he,Instr.sureAddr,Sem.run_pure,zKf hty hn]
 cases p with
 | box t off =>
  obtain⟨cs,b,h1,h2,he⟩:=hpl;have hr:=key _ he;rw[yK1] at hr;exact yQd hr hnd (xXa hA.inv hA.ad hA.hd h1 h2 h)
 | ptr b off =>
  have hr:=key _ hpl;rw[yK1] at hr;exact yQd hr hnd (hA.val (.raw _ trivial) h)
 | cp z =>
  obtain⟨cs,rfl,h2⟩:=zXc h;clear h;obtain⟨y,hy,h3⟩:=yQ4.1 h2;clear h2;obtain⟨hfit,h⟩:=yQx h3;clear h3;obtain⟨ad',he,_⟩:=V.cptr_ptr hpl;exact yQd (key _ he) hnd (hA.val (V.cptr_part (he▸hpl) hy (yJ8 hfit).1) h)
theorem xZ2 {T:TypeId}{x:Operand}{i:Nat}(ho:o.op=.field T x i)
  (h:yQ6 (fldI C.P T i) λf=>yQ6 (evV C.gl fr x) λx=>aggV x λcs=>yQ6 (yK4 f.2.1 f.2.2 cs f.1) λy=>finK o.dst K ad fr (.val y) X.st ds):o.wpIn (yZ3 ro) n C.P a X.w (PK C X0 N K) Q:=by
 obtain⟨⟨fo,ag,sz⟩,hf,h2⟩:=yQ4.1 h;clear h;obtain⟨z,hz,h3⟩:=yQ4.1 h2;clear h2;obtain⟨cs,rfl,h4⟩:=zXc h3;clear h3;obtain⟨y,hy,h⟩:=yQ4.1 h4;clear h4;have hnd:∀c,o.op≠.defer c:=by rw[ho];intro c hc;cases hc
 obtain⟨fs,f,hT,hfi,rfl,hty,hn⟩:=zX6 hf;obtain⟨rs,he,hvl⟩:=V.agg_inv (hA.v hz).1;obtain⟨r,h1,h2,hv⟩:=zVd hvl hy;have hr:(execOp a.eval o).run C.P X.w=.ok (.value r) X.w:=by
  unfold execOp;rw[ho];simp only[Instr.field,Sem.run_bind,run_underlying hT,Result.andThen_ok,hfi,he,asAgg,Sem.run_pure,xJs hty X.w rs f.offset r h1 h2]
 exact yQd hr hnd (hA.val hv h)
theorem zXq {T:TypeId}{x i:Operand}(ho:o.op=.indexAddr T x i)
  (h:yQ6 (evV C.gl fr i) λi=>intV i λ_ j=>yQ6 (lenI C.P T) λk=>idxV k (slI C.P T) (evV C.gl fr x) (evA C.gl ad fr x) (arrI C.P T) j (finK o.dst K ad fr) X.st ds) :
  o.wpIn (yZ3 ro) n C.P a X.w (PK C X0 N K) Q:=by
 obtain⟨vi,hi,h2⟩:=yQ4.1 h;clear h;obtain⟨k,j,rfl,h3⟩:=yKt h2;clear h2;obtain⟨lk,hlk,h⟩:=yQ4.1 h3;clear h3;have hnd:∀c,o.op≠.defer c:=by rw[ho];intro c hc;cases hc
 have ei:=V.raw_inv (hA.v hi).1;rcases yUj hlk with⟨rfl,_⟩|⟨rfl,e,hT⟩|⟨rfl,_⟩|⟨len,e,rfl,hT⟩
 ·exact h.elim
 ·obtain⟨⟨e',ag,sz,by_⟩,hs,h0⟩:=yQ4.1 h;clear h;obtain⟨vx,hx,h2⟩:=yQ4.1 h0;clear h0;rcases xGe h2 with⟨tg0,xs,rfl,h3⟩|⟨b,off,m,cap,rfl,h3⟩
  case inr =>
   clear h2;obtain⟨hj,h⟩:=yQx h3;clear h3;have ex:=V.raw_inv (hA.v hx).1;obtain⟨hT',hty,_⟩:=yWb hs;rw[hT] at hT';cases hT';have hr:(execOp a.eval o).run C.P X.w=.ok (.value (.pointer (some (Addr.add ⟨b,off,none⟩ (j.toNat*sz))))) X.w:=by
    unfold execOp;rw[ho];have h2:=(yXv hty X.w).2;have hlt:0<=j/\j<(m:Int):=⟨hj.1,by omega⟩
    simp only[Instr.indexAt,ei,asIntOf,Sem.run_bind,Sem.run_pure,Result.andThen_ok,run_underlying hT,ex,hlt,and_self,if_true,h2]
   rw[yK1] at hr;exact yQd hr hnd (hA.val (.raw _ trivial) h)
  clear h2;obtain⟨hes,h3⟩:=yQx h3;obtain⟨hj,h4⟩:=yQx h3;clear h3;obtain⟨y,hy,h⟩:=yQ4.1 h4;clear h4;have hxv:=V.reTag (es:=sz) (hA.v hx).1;simp only at hes;generalize reTag sz tg0=tg at hes hxv;have hjl:=(lGs hy).1;obtain⟨ad',cap,he,hv⟩:=wXy hxv hy;obtain⟨hT',hty,_⟩:=yWb hs;rw[hT] at hT';cases hT';rw[hes] at hv;have hr:(execOp a.eval o).run C.P X.w=.ok (.value (.pointer (some (ad'.add (j.toNat*sz))))) X.w:=by
   unfold execOp;rw[ho];have h2:=(yXv hty X.w).2;have hlt:0<=j/\j<(xs.length:Int):=⟨hj,by omega⟩
   simp only[Instr.indexAt,ei,asIntOf,Sem.run_bind,Sem.run_pure,Result.andThen_ok,run_underlying hT,he,hlt,and_self,if_true,h2]
  exact yQd hr hnd (hA.val hv h)
 ·exact h.elim
 ·obtain⟨⟨len',ag,sz⟩,hae,h2⟩:=yQ4.1 h;clear h;obtain⟨p,hp,h3⟩:=yQ4.1 h2;clear h2;obtain⟨hj,h⟩:=yQx h3;clear h3;obtain⟨e',hT',hty⟩:=zXb hae;rw[hT] at hT';cases hT';obtain⟨hjl,h2⟩:=yQx h;clear h;simp only at hjl;have hpl:=hA.p hp;have key:∀ad':Addr,a.eval x=.pointer (some ad')->(execOp a.eval o).run C.P X.w=.ok (.value (.pointer (some (ad'.add (j.toNat*sz))))) X.w:=by
   intro ad' he;unfold execOp;rw[ho];have h2:=(yXv hty X.w).2;have hlt:0<=j/\j<(len:Int):=⟨hj,by omega⟩
   simp only[Instr.indexAt,ei,asIntOf,Sem.run_bind,Sem.run_pure,Result.andThen_ok,run_underlying hT,he,Instr.sureAddr,hlt,and_self,if_true,h2]
  cases p with
  | box t off =>
   obtain⟨cs,b,h1,h3,he⟩:=hpl;have hr:=key _ he;rw[yK1] at hr;exact yQd hr hnd (xXa hA.inv hA.ad hA.hd h1 h3 h2)
  | ptr b off =>
   have hr:=key _ hpl;rw[yK1] at hr;exact yQd hr hnd (hA.val (.raw _ trivial) h2)
  | cp z =>
   obtain⟨cs,rfl,h3⟩:=zXc h2;clear h2;obtain⟨y,hy,h4⟩:=yQ4.1 h3;clear h3;obtain⟨hfit,h⟩:=yQx h4;clear h4;obtain⟨ad',he,_⟩:=V.cptr_ptr hpl;exact yQd (key _ he) hnd (hA.val (V.cptr_part (he▸hpl) hy (yJ8 hfit).1) h)
theorem xZ1 {T:TypeId}{x i:Operand}(ho:o.op=.index T x i)
  (h:yQ6 (evV C.gl fr i) λi=>intV i λ_ j=>yQ6 (lenI C.P T) λk=>yQ6 (evV C.gl fr x) λx=>zZc k (arrI C.P T) x j (finK o.dst K ad fr) X.st ds) :
  o.wpIn (yZ3 ro) n C.P a X.w (PK C X0 N K) Q:=by
 obtain⟨vi,hi,h2⟩:=yQ4.1 h;clear h;obtain⟨k,j,rfl,h3⟩:=yKt h2;clear h2;obtain⟨lk,hlk,h4⟩:=yQ4.1 h3;clear h3;obtain⟨vx,hx,h⟩:=yQ4.1 h4;clear h4;have hnd:∀c,o.op≠.defer c:=by rw[ho];intro c hc;cases hc
 have ei:=V.raw_inv (hA.v hi).1;have hxv:=(hA.v hx).1;rcases yUj hlk with⟨rfl,hT⟩|⟨rfl,e,hT⟩|⟨rfl,_⟩|⟨len,e,rfl,hT⟩
 ·obtain⟨v,rfl,h2⟩:=zWn h;clear h;cases v with
  | string s =>
   obtain⟨b,hb,h⟩:=yQ4.1 h2;clear h2;have ex:=V.raw_inv hxv;have hr:(execOp a.eval o).run C.P X.w=.ok (.value (.int .u8 b.toNat)) X.w:=by
    unfold execOp;rw[ho];unfold zGi at hb;simp only[Instr.index,ei,ex,asIntOf,Sem.run_bind,Sem.run_pure,Result.andThen_ok,run_underlying hT,hb]
   exact yQd hr hnd (hA.val (.raw _ trivial) h)
  | _=>exact h2.elim
 ·exact h.elim
 ·exact h.elim
 ·obtain⟨cs,rfl,h2⟩:=zXc h;clear h;obtain⟨⟨len',ag,sz⟩,hae,h3⟩:=yQ4.1 h2;clear h2;obtain⟨hj,h4⟩:=yQx h3;clear h3;obtain⟨y,hy,h⟩:=yQ4.1 h4;clear h4;obtain⟨e',hT',hty⟩:=zXb hae;rw[hT] at hT';cases hT';obtain⟨rs,ex,hvl⟩:=V.agg_inv hxv;obtain⟨r,h1,h2,hv⟩:=zVd hvl hy;have hr:(execOp a.eval o).run C.P X.w=.ok (.value r) X.w:=by
   unfold execOp;rw[ho];have h3:=(yXv hty X.w).2;simp only[Instr.index,ei,ex,asIntOf,Sem.run_bind,Sem.run_pure,Result.andThen_ok,run_underlying hT,hj,and_self,if_true,h3,xJs hty X.w rs _ r h1 h2]
  exact yQd hr hnd (hA.val hv h)
end
