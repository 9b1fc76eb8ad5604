/-  -/
import Derived.Test.YtebjhmlmdjnkgaaGreatDoorKE
import Derived.Test.YtebjhmlmdjnkgaaGreatDoorRows
import Derived.Deep.DeepHandedRow
import Derived.Test.YtebjhmlmdjnkgaaGreatDoorKC
set_option linter.all false
open Nat renaming reduceEqDiff → zE,reduceBEq → zB,reduceAdd → zA,reduceMul → zM,reduceSub → zS,reduceLeDiff → zL
namespace Go.Proofs.Tryz
open Go Go.Iv Go.ChangeShapes Go.RowKit
open Go.Proofs.YtebjhmlmdjnkgaaGreatDoor
set_option maxRecDepth 8000
theorem wXm:prog.underlying 4=some .bool:=by kernel_rfl
theorem uU8:prog.underlying 5=some (.int .u8):=by kernel_rfl
theorem uRow:prog.underlying 273=some (.struct #[⟨ "right",4,0,false, "", "lyceum/syntax",0⟩,⟨ "schema",4,1,false, "", "lyceum/syntax",1⟩,⟨ "name",5,2,false, "", "lyceum/syntax",2⟩,⟨ "args",3,3,false, "", "lyceum/syntax",8⟩,⟨ "subs",3,4,false, "", "lyceum/syntax",16⟩]):=by kernel_rfl
theorem uZ6:prog.underlying 274=some (.array 17 273):=by kernel_rfl
theorem uInt:prog.underlying 3=some (.int .i64):=by kernel_rfl
theorem nRow:prog.cellsOf 273=5:=by kernel_rfl
theorem uVw:prog.cellsOf 274=85:=by kernel_rfl
theorem gRows:prog.globalNamed "lyceum/syntax.rows" = some 0:=by kernel_rfl
theorem gRowsT:(prog.globals[0]?).map (·.type)=some 274:=by kernel_rfl
section
variable {H:Type}{enc:TypeId×Value->H}{w:World}{spare:Nat->Bool}{held:Bool}
def rowD (op:Nat):DataW H:=.agg [.lit (.bool (yG6 op)),.lit (.bool (zXx op)),.lit (.int .u8 (yGu op)),.lit (.int .i64 (zWl op)),.lit (.int .i64 (yYg op))]
def rowV (op:Nat):List Value:=[.bool (yG6 op),.bool (zXx op),.int .u8 (yGu op),.int .i64 (zWl op),.int .i64 (yYg op)]
theorem xGq {fuel:Nat}{cs:List Value}{op:Nat}{p:List MemPlace}(h:DataW.trod enc prog w 0 spare held fuel 273 cs=some (rowD op,p)):cs=rowV op:=by
 obtain⟨ys,n,rfl,he,hl,hlen,hf⟩:=DataW.trod_struct uRow h
 match ys,hlen with
 | [y0,y1,y2,y3,y4],_ =>
  rw[nRow] at hl
  match cs,hl with
  | [c0,c1,c2,c3,c4],_ =>
   have h0:=hf 0 _ rfl;have h1:=hf 1 _ rfl;have h2:=hf 2 _ rfl;have h3:=hf 3 _ rfl;have h4:=hf 4 _ rfl;simp only[List.getElem?_cons_zero,List.getElem?_cons_succ] at h0 h1 h2 h3 h4;obtain⟨b0,e0,rfl⟩:=DataW.trod_bool wXm h0;obtain⟨b1,e1,rfl⟩:=DataW.trod_bool wXm h1;obtain⟨b2,e2,rfl,_⟩:=DataW.trod_int uU8 h2;obtain⟨b3,e3,rfl,_⟩:=DataW.trod_int uInt h3;obtain⟨b4,e4,rfl,_⟩:=DataW.trod_int uInt h4;cases e0;cases e1;cases e2;cases e3;cases e4;have he1:=congrArg Prod.fst he;simp only[rowD,List.map_cons,List.map_nil,DataW.agg.injEq,List.cons.injEq,DataW.lit.injEq,Lit.bool.injEq,Lit.int.injEq,true_and,and_true] at he1;obtain⟨rfl,rfl,rfl,rfl,rfl⟩:=he1;rfl
theorem xGo:(Rows.laid_lyceum_syntax_rows:DataW H)=.agg ((List.range 17).map rowD):=by rfl
theorem xW8 {fuel:Nat}{cs:List Value}{p:List MemPlace}(h:DataW.trod enc prog w 0 spare held fuel 274 cs=some (Rows.laid_lyceum_syntax_rows,p)) :
  cs.length=85/\∀op,op<17->(cs.drop (op*5)).take 5=rowV op:=by
 obtain⟨ys,n,rfl,he,hl,hlen,hf⟩:=DataW.trod_array uZ6 h;rw[uVw] at hl;refine⟨hl,λop hop=>?_⟩;have h1:=hf op hop;rw[nRow] at h1;have he1:=congrArg Prod.fst he;rw[xGo] at he1;simp only[DataW.agg.injEq] at he1;have h2:(ys.map (·.1))[op]?=some (rowD op):=by
  rw[<- he1,List.getElem?_map,List.getElem?_range hop];rfl
 rw[List.getElem?_map] at h2;obtain⟨y,hy,hy2⟩:=Option.map_eq_some_iff.1 h2;rw[hy] at h1;obtain⟨y1,y2⟩:=y;simp only at hy2;subst hy2;exact xGq h1
end
def gl0:Nat->Option IV
 | 0=>some (.agg rowsL)
 | _=>none
theorem G0:Gl gl0:=⟨rfl⟩
def X0 (w:World):WS:={ w:=w,L:=L0 w,st:=λ_=>none,d:=0 }
theorem xGp:∀op:Nat,op<17->(rowsL.drop (op*5)).take 5=rowI op
 | 0,_|1,_|2,_|3,_|4,_|5,_|6,_|7,_|8,_|9,_|10,_|11,_|12,_|13,_|14,_|15,_|16,_=>rfl
 | k+17,h=>by omega
theorem xZc {cs:List Value}(hl:cs.length=85)(h:∀op,op<17->(cs.drop (op*5)).take 5=rowV op)(i:Nat)(r:Value)(c:IV)(hr:cs[i]?=some r)(hc:rowsL[i]?=some c):c=.raw r/\zZk r:=by
 have hi:i<85:=by have:=(lGs hr).1;omega
 have hop:i / 5<17:=by omega
 have e:i=i / 5*5+i%5:=by omega
 have hm:i%5<5:=Nat.mod_lt _ (by decide);have h1:(rowV (i / 5))[i%5]?=some r:=by
  rw[<- h _ hop,List.getElem?_take,if_pos hm,List.getElem?_drop,<- e];exact hr
 have h2:(rowI (i / 5))[i%5]?=some c:=by
  rw[<- xGp _ hop,List.getElem?_take,if_pos hm,List.getElem?_drop,<- e];exact hc
 generalize i%5=k at h1 h2 hm
 match k,hm with
 | 0,_=>cases h1;cases h2;exact⟨rfl,trivial⟩
 | 1,_=>cases h1;cases h2;exact⟨rfl,trivial⟩
 | 2,_=>cases h1;cases h2;exact⟨rfl,trivial⟩
 | 3,_=>cases h1;cases h2;exact⟨rfl,trivial⟩
 | 4,_=>cases h1;cases h2;exact⟨rfl,trivial⟩
theorem uWk {W:World}(hL:laidMetH prog Rows.signsSmallRow.laid W):Go.Iv.Good ⟨prog,gl0,0⟩ (X0 W):=by
 obtain⟨ps,hlv,_⟩:=(show laidMet prog _ W from hL)
 obtain⟨_,_,_,_,_,_,_,_,_,_,hlv,_⟩:=hlv;obtain⟨_,_,_,_,_,_,_,_,_,_,hlv,_⟩:=hlv;obtain⟨g1,t1,cs1,f1,p1,q1,hg1,ht1,hv1,hd1,hlv,_⟩:=hlv;obtain⟨g2,t2,cs2,f2,p2,q2,hg2,ht2,hv2,hd2,_,_⟩:=hlv;obtain rfl:=Option.some.inj (gRows.symm.trans hg2);obtain rfl:=Option.some.inj (gRowsT.symm.trans ht2);have hc2:=xW8 hd2;have hb:∀(n:String) (g:Nat) (cs:Array Value),prog.globalNamed n=some g->W.var? prog n=some cs->∃T f,W.heap[g]?=some (.cells cs T f):=by
  intro n g cs hn hv;unfold World.var? at hv;rw[hn,Option.bind_some] at hv;split at hv
  ·rename_i c t f hh;cases hv;exact⟨_,_,hh⟩
  ·cases hv
 obtain⟨T2,fr2,hh2⟩:=hb _ _ _ gRows hv2;have row:∀(g:Nat) (cs:Array Value) (T:TypeId) (f:Nat×Nat) (xs:List IV),W.heap[g]?=some (.cells cs T f)->cs.size=xs.length->(∀(i:Nat) (r:Value) (c:IV),cs.toList[i]?=some r->xs[i]?=some c->c=.raw r/\zZk r) →
   V 0 (L0 W) W (.pointer (some ⟨g,0,none⟩)) (.cptr (.agg xs)):=by
  intro g cs T f xs hh hl h;refine .cptr _ _ cs.toList rfl (by simpa[IV.cells] using hl) ?_ (λi r hr=>?_) (λi r c hr hc=>?_)
  ·show 0+cs.toList.length<=L0 W g;simp[L0,hh]
  ·show W.cell? ⟨g,0+i,none⟩=some r;simp only[World.cell?,hh,Nat.zero_add];simpa using hr
  ·obtain⟨rfl,hk⟩:=h i r c hr hc;exact .raw _ hk
 have hs2:cs2.size=rowsL.length:=by
  rw[<- Array.length_toList,hc2.1];rfl
 refine⟨λb o h=>(by cases h),λg x hx=>?_,Nat.zero_le _,λb hb=>?_,λg x hx=>?_,λ_=>Nat.zero_le _⟩
 ·match g,hx with
  | 0,hx=>cases hx;exact row 0 cs2 T2 fr2 _ hh2 hs2 (λi r c hr hc=>xZc hc2.1 hc2.2 i r c hr hc)
 ·show L0 W b=0;unfold L0;rw[Array.getElem?_eq_none (show W.heap.size<=b from hb)]
 ·match g,hx with
  | 0,hx=>cases hx;exact⟨T2,fr2 == (0,0),by show shq W 0=_;simp[shq,hh2,hs2,IV.cells]⟩
theorem xQg {W:World}{X':WS}(h:Ext (X0 W) X'):Below W.heap.size W X'.w :=
 ⟨h.os,h.tape,h.output,h.size,λk hk=>(h.keep k hk rfl).1⟩
theorem wUp:laidOutB prog=true:=by kernel_rfl
theorem yU6 {H:Type}{enc:TypeId×Value->H}{W W':World}(hb:Below W.heap.size W W')(sp:Nat->Bool):∀ {ts:List TypeId} {vs:List Value} {ds:List (DataW H)} {ps:List MemPlace},
  (∀t∈ts,prog.readableRec t=true/\t<prog.types.size)->DataW.TrodAll enc prog W 0 (λ_=>true) true ts vs ds ps->(∀p∈ps,p.block<W.heap.size)->(∀p∈ps,sp p.block=true) →
  DataW.TrodAll enc prog W' 0 sp true ts vs ds ps
 | [],vs,ds,ps,_,h,_,_=>by
  obtain⟨rfl,rfl,rfl⟩:=trodAll_nil h;rfl
 | t::ts,vs,ds,ps,ht,h,hlt,hsp=>by
  obtain⟨v,vs1,d,ds1,a,b,rfl,rfl,rfl,h1,h2⟩:=trodAll_cons h;refine⟨a,b,WideElems.Trod_stays wUp (ht t (by simp)).1 (ht t (by simp)).2 h1 (λp hp=>hb.same (hlt p (by simp[hp]))) (λp hp=>hsp p (by simp[hp])),?_,rfl⟩;exact yU6 hb sp (λt h=>ht t (by simp[h])) h2 (λp hp=>hlt p (by simp[hp])) (λp hp=>hsp p (by simp[hp]))
theorem wK4 {H:Type}{enc:TypeId×Value->H}{f:Func}{s:ChangeSpec}{fid:FuncId}{W:World}{args:Array Value}{ds gs:List (DataW H)}{before:List MemPlace}{ivs:List IV}
  (hvars:s.vars=[]) (hW:DataW.Whole enc prog f.params.toList s.vars false W args.toList ds gs before) (hfn:s.fn H (ds++gs)={ results:=[.lit (.bool true)],args:=ds })
  (hres:f.resultTypes=#[4]) (hread:∀t∈f.params.toList,prog.readableRec t=true/\t<prog.types.size) (hg:Go.Iv.Good ⟨prog,gl0,0⟩ (X0 W)) (hv:VL 0 (L0 W) W args.toList ivs)
  (hc:ICall prog gl0 fid ivs (λ_=>none) (λr st'=>r=.raw (.bool true)/\st'=λ_=>none)) :
  Calls prog fid args W λe W'=>∃v,e=.returned v/\s.post enc prog f false true false false W args v W':=by
 refine (hc 0 (X0 W) args.toList hg rfl hv).mono ?_;rintro e W' ⟨v,rfl,X',x,rfl,hg',he,hx,rfl,_⟩;obtain rfl:=V.raw_inv hx;have hb:=xQg he;refine⟨_,rfl,?_⟩;have hW':=hW;obtain⟨p,q,hA,hV,rfl,hz,_⟩:=hW;rw[hvars] at hV;have hgs:gs=[]/\q=[]:=by
  cases gs with
  | nil=>exact⟨rfl,hV⟩
  | cons _ _=>exact absurd hV (by simp[DataW.TrodVars])
 obtain⟨rfl,rfl⟩:=hgs;have hlt:∀x∈p,x.block<W.heap.size:=λx hx=>by simpa using hW'.lt x (by simpa using hx)
 have hargs:∀sp:Nat->Bool,(∀x∈p,sp x.block=true)->DataW.TrodAll enc prog X'.w 0 sp true f.params.toList args.toList (s.fn H (ds++[])).args p:=λsp hsp=>by
  rw[hfn];exact yU6 hb sp hread hA hlt hsp
 have hr:∀(b:Nat) (sp:Nat->Bool) (hd:Bool),DataW.TrodAll enc prog X'.w b sp hd f.resultTypes.toList ((Value.bool true).resultList f.resultTypes.size) (s.fn H (ds++[])).results []:=λ_ _ _=>by
  rw[hfn,hres];exact trodAll_cons_mk (shut_bool wXm _) trodAll_mk0
 have hvs:∀sp:Nat->Bool,DataW.TrodVars enc prog X'.w sp s.vars (s.fn H (ds++[])).vars []:=λ_=>by
  rw[hvars,hfn];rfl
 have hsz:∀x∈p,(λb=>decide (b<W.heap.size)) x.block=true:=λx hx=>by simpa using hlt x hx
 refine⟨ds,[],p++[],[],p,[],hW',hr _ _ _,hargs _ hsz,hvs _,World.keptBut_mono (λx hx=>⟨hx,Or.inr (by simpa using hx)⟩) (hb.frame (·∈p++[])),λ_=>⟨ok_one hres rfl (okWide_bool_mk wXm _),_,_,([]++p)++[],
  ⟨[]++p,[],trodAll_append (hargs _ (λ_ _=>rfl)) (hr _ _ _),hvs _,rfl,?_,λh=>by cases h⟩,λx hx _=>by simpa using hx⟩⟩
 intro b off hp;rw[hb.frozen (p:=⟨b,off,none⟩) (hlt (.cell b off) (by simpa using hp))];exact hz b off (by simpa using hp)
def tab32:List Int:=[0,1,28,2,29,14,24,3,30,22,20,15,25,17,4,8,31,27,13,23,21,19,16,7,26,12,18,6,11,5,10,9]
def tab64:List Int:=[0,1,56,2,57,49,28,3,61,58,42,50,38,29,17,4,62,47,59,36,45,43,51,22,53,39,33,30,24,18,12,5,63,55,48,27,60,41,37,16,46,35,44,21,52,32,23,11,54,26,40,15,34,20,31,10,25,14,19,9,13,8,7,6]
def lay (cs:List Value):Obj->Obj
 | .cells _ t frozen=>.cells cs.toArray t frozen
 | o=>o
noncomputable def zJg (os:Os):World :=
 { World.holding prog os ⟨#[],#[],[]⟩ with heap:=((((World.holding prog os ⟨#[],#[],[]⟩).heap.modify 0 (lay ((List.range 17).flatMap rowV))).modify 2 (lay ((List.range 20).map λi=>.int .u64 ((10 ^ i:Nat):Int)))).modify 3 (lay (tab32.map λz=>.int .u8 z))).modify 4 (lay (tab64.map λz=>.int .u8 z)) }
theorem wK5 (os:Os)(args:Array Value):laidMet prog Rows.signsSmallRow.laid ((zJg os).forCall (λ_ _=>0) ⟨#[],args,[]⟩).memory :=
 laidMet_of_run' 8 (by kernel_rfl) (by kernel_rfl)
end Go.Proofs.Tryz
namespace Go.Proofs.Tryz
open Go Go.Iv
set_option maxRecDepth 4000
theorem xQn:∀l:List IV,(∀x∈l,∃v,x=.raw v)->ages l=l
 | [],_=>rfl
 | x::l,h=>by
  obtain⟨v,rfl⟩:=h x (by simp);simp only[ages,age,xQn l λy hy=>h y (by simp[hy])]
theorem wKz:∀g x,gl0 g=some x->age x=x:=by
 intro g x hx
 match g,hx with
 | 0,hx =>
  cases hx;simp only[age];rw[xQn _ λy hy=>?_];obtain⟨op,_,hy⟩:=List.mem_flatMap.1 hy;unfold rowI at hy;simp only[List.mem_cons,List.not_mem_nil,or_false] at hy;rcases hy with rfl|rfl|rfl|rfl|rfl<;>exact⟨_,rfl⟩
end Go.Proofs.Tryz
namespace Go.Iv
open Go
section
variable {P:Program}{gl:Nat->Option IV}{f:FuncId}{args args':List IV}{st:ISt}
theorem ICall.lentOwn {K:IV->Prop}(hf:flatSt st)(hgl:∀g x,gl g=some x->age x=x)(hl:Lents st args args')(h:ICall P gl f (ages args') (yKk st) (λr st'=>st'=yKk st/\dfr r/\K r)) :
  ICall P gl f args st (λy st'=>subSt st st'/\flatSt st'/\∃x N,K x/\OI N y x/\rawY y/\zQ4 N/\subSt N st'/\∀b,N b≠none->st b=none):=by
 intro B X rs hg hst hv;subst hst;have hgl':=hg.lend;have hg1:Good ⟨P,gl,X.w.heap.size⟩ X.lend:=⟨λb o hb=>(hgl'.ok b o hb).flat (hf b o (zUm X.st b o hb)) rfl rfl,λg x hx=>by
   have h1:=hgl g x hx;have h2:=(hgl'.gl g x hx).aged (B':=X.w.heap.size);simp only[age,h1] at h2;exact h2,Nat.le_refl _,hgl'.Lnew,hgl'.gsh,hgl'.dr⟩
 have hva:Cx.vl ⟨P,gl,X.w.heap.size⟩ X.lend rs (ages args'):=VL.aged (hl.v hg hv);refine (h X.w.heap.size X.lend rs hg1 rfl hva).mono ?_;rintro e w' ⟨v,rfl,X',x,rfl,h2,h3,h4,h5,h6,h7⟩;obtain⟨y,hy1,hy2,_,hy4⟩:=vJd (st:=λ_=>none) h4 h6;have hlt:∀ {b o},X.st b=some o->b<X.w.heap.size:=λhb=>hg.lt hb;have hsz:X.w.heap.size<=X'.w.heap.size:=h3.size
 let Y:WS:={ w:=X'.w,L:=λb=>if b<X.w.heap.size then (match X.st b with|some (.box _)=>0|_=>X'.L b) else 0,st:=yKq X'.w X.w.heap.size X.st,d:=X'.d }
 have hYn:∀ {b},¬ b<X.w.heap.size->Y.L b=0:=λhb=>by simp only[Y];rw[if_neg hb]
 have hYb:∀ {b cs},X.st b=some (.box cs)->Y.L b=0:=λhb=>by simp only[Y,hb];split<;>rfl
 have hYk:∀ {b},b<X.w.heap.size->(∀cs,X.st b≠some (.box cs))->Y.L b=X'.L b:=λ{b} h0 hb=>by
  grind
 have he:Ext X Y:=by
  refine⟨h3.os,h3.tape,h3.output,h3.size,λb=>?_,λb i hi=>?_,λb hb hs=>?_,λb hb hs=>?_,h3.shape,h3.d⟩
  ·by_cases h0:b<X.w.heap.size
   ·by_cases hb:∃cs,X.st b=some (.box cs)
    ·obtain⟨cs,hb⟩:=hb;rw[(hg.ok b _ hb).1];exact Nat.zero_le _
    ·rw[hYk h0 λcs hc=>hb ⟨cs,hc⟩];exact Nat.le_trans (hg.lend_ext.lmono b) (h3.lmono b)
   ·rw[hg.Lnew b (by omega)];exact Nat.zero_le _
  ·exact h3.cells b i (Nat.lt_of_lt_of_le hi (hg.lend_ext.lmono b))
  ·have hne:∀cs,X.st b≠some (.box cs):=λcs hc=>by rw[hs] at hc;cases hc
   obtain⟨k1,k2⟩:=h3.keep b hb ((yW2 hne).trans hs);exact⟨k1,by rw[hYk hb hne,k2,yW4 hne]⟩
  ·simp only[Y,yKq];rw[if_pos hb];exact hs
 have hso:∀b o,Y.st b=some o->(b<X.w.heap.size/\X.st b=some o)\/(X.w.heap.size<=b/\∃c T,X'.w.heap[b]?=some (.cells c T (0,0))/\o=.box (c.toList.map rdI)):=λb o hb=>by
  simp only[Y,yKq] at hb;grind
 refine⟨v,rfl,Y,y,rfl,⟨λb o hb=>?_,λg x hgx=>he.v (hg.gl g x hgx),Nat.le_trans hg.B h3.size,λb hb=>?_,h2.gsh,h2.dr⟩,he,hy1 _ _ _,λb o hb=>?_,λb o hb=>?_,x,_,h7,hy2,hy4,λb cs hb=>?_,λb o hb=>?_,λb hb=>?_⟩
 ·rcases hso b o hb with⟨h8,h9⟩|⟨h8,c,T,hh,rfl⟩
  ·by_cases hbx:∃cs,X.st b=some (.box cs)
   ·obtain⟨cs,hbx⟩:=hbx;rw[hbx] at h9;cases h9;exact (hg.ok b _ hbx).flat (hf b _ hbx) (h3.keep b h8 (yUe hbx)).1 (by rw[hYb hbx,(hg.ok b _ hbx).1])
   ·have hne:∀cs,X.st b≠some (.box cs):=λcs hc=>hbx ⟨cs,hc⟩;have h10:X'.st b=some o:=by rw[h5];exact (yW2 hne).trans h9
    exact (h2.ok b o h10).flat (hf b o h9) rfl (hYk h8 hne)
  ·refine⟨hYn (by omega),c,T,hh,by simp,λi r z hr hz=>?_⟩;rw[List.getElem?_map,hr] at hz;cases hz;exact vJ3 r
 ·grind
 ·simp only[Y,yKq];rw[if_pos (hlt hb)];exact hb
 ·rcases hso b o hb with⟨_,h9⟩|⟨_,c,T,_,rfl⟩
  ·exact hf b o h9
  ·intro z hz;obtain⟨v,_,rfl⟩:=List.mem_map.1 hz;exact xJx v
 ·unfold yKq at hb;split at hb
  ·cases hb
  ·split at hb
   ·split at hb
    ·cases hb;intro z hz;obtain⟨v,_,rfl⟩:=List.mem_map.1 hz;exact xJw v
    ·cases hb
   ·cases hb
 ·simp only[Y,yKq] at hb ⊢;grind
 ·simp only[yKq] at hb;split at hb
  ·grind
  ·cases hq:X.st b with
   | none=>rfl
   | some o=>exact absurd (hlt hq) ‹_›
theorem wWn {X X':WS}{g:Nat}{o:IObj}(h:Ext X X')(h0:X.st g=none)(h1:X'.st g=some o):X.w.heap.size<=g:=by
 by_cases hlt:g<X.w.heap.size
 ·have:=h.dom g hlt h0;grind
 ·omega
theorem zY1 {X':WS}{S:ISt}{g:Nat}{cs:List IV}(h0:S g=none)(hst':X'.st=S.put g (some (.box cs))):LendOk X'.st (ISt.put (λ_=>none) g (some (.box cs))) S:=by
 refine⟨λb o hb=>?_,λb o hb=>?_,λb cs' hb=>?_⟩
 ·rw[ISt.put_apply] at hb;split at hb
  ·rename_i hbg;subst hbg;cases hb;rw[hst'];exact ISt.put_same ..
  ·cases hb
 ·rw[hst',ISt.put_apply];grind
 ·rw[ISt.put_apply] at hb;grind
theorem wWm {C:Cx}{X':WS}{S:ISt}{g cap es:Nat}{cs zs:List IV}(h2:Good C X')(h0:S g=none)(hst':X'.st=S.put g (some (.box cs)))(hB:C.B<=g)(hn:zs.length<=140737488355328)(hcap:zs.length<=cap)(hroom:cap*es<=cs.length)
  (htk:cs.take (zs.length*es)=zs.flatMap IV.cells) (hz:∀z∈zs,z.cells.length=es):C.v (X'.lendS (ISt.put (λ_=>none) g (some (.box cs))) S) (.slice (some ⟨g,0,none⟩) zs.length cap) (.sl ⟨true,.app g,es⟩ zs):=by
 have hgs:X'.st g=some (.box cs):=by rw[hst'];exact ISt.put_same ..
 have hex:=h2.lendS_ext (zY1 h0 hst');have hs1:(ISt.put (λ_=>none) g (some (.box cs))) g=some (.box cs):=ISt.put_same ..;obtain⟨hL0,c,T,hh,hvl⟩:=h2.ok g _ hgs;have hcl:c.toList.length=cs.length:=hvl.1;have hflat:(zs.flatMap IV.cells).length=zs.length*es:=yZp zs hz;have hle:zs.length*es<=cs.length:=Nat.le_trans (Nat.mul_le_mul_right _ hcap) hroom;refine V.sl (some ⟨g,0,none⟩) cap ⟨true,.app g,es⟩ zs T (c.toList.take (zs.length*es)) rfl hn hcap hz ?_ (λg' hg'=>?_) (λ_ ad had=>?_) (λ_=>⟨_,rfl,rfl,?_,λi r hr=>?_⟩) λi r z hr hz=>?_
 ·grind
 ·cases hg';refine⟨T,c.size,?_,?_⟩
  ·simp[shq,WS.lendS,hh]
  ·grind
 ·cases had;refine⟨hB,by simp,?_⟩;simp[ety,shq,WS.lendS,hh]
 ·show 0+(c.toList.take (zs.length*es)).length<=(X'.lendS _ S).L g;rw[zY5 hs1,List.length_take];omega
 ·show X'.w.cell? _=_;rw[Nat.zero_add,yZm hh];grind
 ·rw[<- htk,List.getElem?_take] at hz;rw[List.getElem?_take] at hr;split at hr
  ·rename_i hi;rw[if_pos hi] at hz;exact hex.v (hvl.2 i r z hr hz)
  ·cases hr
theorem ICall.fixL {K:IV->ISt->Prop}(h:ICall P gl f args st (λy st'=>K y st'\/∃g es zs,st g=none/\y=.raw (.slice (some ⟨g,0,none⟩) zs.length zs.length)/\st'=st.put g (some (.box (zs.flatMap IV.cells))) /\
   zs.length<=140737488355328/\(∀z∈zs,z.cells.length=es)/\K (.sl ⟨true,.app g,es⟩ zs) st)):ICall P gl f args st K:=by
 intro B X rs hg hst hv;subst hst;refine (h B X rs hg rfl hv).mono ?_;rintro e w' ⟨v,rfl,X',y,rfl,h2,h3,h4,hK|⟨g,es,zs,h0,rfl,hst',hn,hz,hK⟩⟩
 ·exact⟨v,rfl,X',y,rfl,h2,h3,h4,hK⟩
 have hgn:=wWn h3 h0 (by rw[hst'];exact ISt.put_same ..);have hk:=zY1 h0 hst';have hfl:=yZp zs hz;obtain rfl:=V.raw_inv h4;exact⟨_,rfl,X'.lendS _ X.st,_,rfl,h2.lendS hk,h3.trans (h2.lendS_ext hk),wWm h2 h0 hst' (Nat.le_trans hg.B hgn) hn (Nat.le_refl _) (by rw[hfl];exact Nat.le_refl _) (by rw[<- hfl,lTl]) hz,hK⟩
end
end Go.Iv
namespace Go.Proofs.Tryz
open Go Go.Iv
set_option maxRecDepth 4000
theorem yXb {st:ISt}{y:IV}{v:Value}(h:OI st y (.raw v)):y=.raw v:=by cases h;rfl
theorem zWt {st:ISt}{y zi:IV}{v:Value}(h:OI st y (.tup [zi,.raw v]))(hy:rawY y):∃z,y=.tup [z,.raw v]/\OI st z zi/\rawY z:=by
 cases h with
 | refl =>
  simp only[rawY] at hy;exact⟨zi,rfl,.refl _,yYh hy (by simp)⟩
 | tup rs _ hl h =>
  match rs,hl with
  | [a,b],_ =>
   obtain rfl:=yXb (h 1 _ _ rfl rfl);simp only[rawY] at hy;exact⟨a,rfl,h 0 _ _ rfl rfl,yYh hy (by simp)⟩
theorem zVh {N:ISt}{g:Nat}{cs cs':List IV}(hg:N g=some (.box cs))(hl:cs'.length=cs.length){y:IV}{t:Tag}(h:OI N y (.sl t [])):OI (N.put g (some (.box cs'))) y (.sl t []):=by
 cases h with
 | refl=>exact .refl _
 | nil _ h=>exact .nil _ h
 | sl g1 cap _ _ cs1 hcap hlen hcl hs hst hroom h =>
  by_cases hgg:g1=g
  ·subst hgg;rw[hg] at hst;cases hst;exact .sl g1 cap t [] cs' hcap hlen hcl hs (ISt.put_same ..) (by omega) λi r c _ hc=>by simp at hc
  ·exact .sl g1 cap t [] cs1 hcap hlen hcl hs (by rw[yQ9 hgg];exact hst) hroom λi r c _ hc=>by simp at hc
mutual
def noA:Fm->Bool
 | .mk _ _ us sub=>us.isEmpty&&noAs sub
def noAs:List Fm->Bool
 | []=>true
 | a::l=>noA a&&noAs l
end
theorem xKh:∀ {l:List Fm}{a:Fm},noAs l=true->a∈l->noA a=true
 | b::l,a,h,ha=>by
  simp only[noAs,bAt] at h;rcases List.mem_cons.1 ha with rfl|ha
  ·exact h.1
  ·exact xKh h.2 ha
theorem wWj:∀ {l:List Fm}{xs:List IV}{x:IV},IsFms l xs->x∈xs->∃f,f∈l/\IsFm f x
 | [],xs,x,h,hx=>by simp only[IsFms] at h;subst h;cases hx
 | a::l,xs,x,h,hx=>by
  simp only[IsFms] at h;obtain⟨y,ys,rfl,hy,h⟩:=h;rcases List.mem_cons.1 hx with rfl|hx
  ·exact⟨a,by simp,hy⟩
  ·obtain⟨f,hf,hx⟩:=wWj h hx;exact⟨f,List.mem_cons_of_mem _ hf,hx⟩
theorem zX5 {N:ISt}{g:Nat}{cs cs':List IV}(hg:N g=some (.box cs))(hb:∃b,cs[0]?=some (.raw (.bool b)))(hl:cs'.length=cs.length) :
  ∀(k:Nat) (l:List Fm),SizeOf.sizeOf l<k->noAs l=true->∀(t:Tag) (xs:List IV) (y:IV),IsFms l xs->OI N y (.sl t xs)->OI (N.put g (some (.box cs'))) y (.sl t xs)
 | 0,l,h,_,_,_,_,_,_=>absurd h (by omega)
 | k+1,l,hk,hno,t,xs,y,hx,h=>by
  cases h with
  | refl=>exact .refl _
  | nil _ h=>exact .nil _ h
  | sl g1 cap _ _ cs1 hcap hlen hcl hs hst hroom h =>
   by_cases hgg:g1=g
   ·subst hgg;cases l with
    | nil =>
     obtain rfl:xs=[]:=hx;exact zVh hg hl (.sl g1 cap t [] cs1 hcap hlen hcl hs hst hroom h)
    | cons a l =>
     simp only[IsFms] at hx;obtain⟨z,ys,rfl,hz,_⟩:=hx;obtain⟨o,n,us,sub⟩:=a;obtain⟨t1,x1,t2,x2,rfl,_⟩:=hz.mk;obtain⟨b,hb⟩:=hb;rw[hg] at hst;cases hst;have:=yXb (h 0 _ (.raw (.int .u8 o)) hb (by simp[IV.cells]));cases this
   ·refine .sl g1 cap t xs cs1 hcap hlen hcl hs (by rw[yQ9 hgg];exact hst) hroom λi r c hr hc=>?_;have hrc:=h i r c hr hc;obtain⟨x,hxm,hcx⟩:=List.mem_flatMap.1 (lMg hc);obtain⟨f,hfl,hf⟩:=wWj hx hxm;have hna:=xKh hno hfl;obtain⟨op,nm,us,sub⟩:=f;obtain⟨t1,x1,t2,x2,rfl,ho,e1,i1,e2,i2⟩:=hf.mk;simp only[noA,bAt,List.isEmpty_iff] at hna;obtain⟨rfl,hna⟩:=hna;obtain rfl:x1=[]:=i1;simp only[IV.cells,List.mem_cons,List.not_mem_nil,or_false] at hcx;rcases hcx with rfl|rfl|rfl|rfl
    ·rw[yXb hrc];exact .refl _
    ·rw[yXb hrc];exact .refl _
    ·exact zVh hg hl hrc
    ·refine zX5 hg hb hl k sub ?_ hna t2 x2 r i2 hrc;have:=lSm hfl;simp only[Fm.mk.sizeOf_spec] at this;omega
end Go.Proofs.Tryz
namespace Go.Iv
open Go
theorem ICall.nilA {P:Program}{gl:Nat->Option IV}{f:FuncId}{st:ISt}{K:IV->ISt->Prop}{pre:List IV}(h:ICall P gl f [.agg (pre++[.sl ⟨true,.nil,0⟩ []])] st K):ICall P gl f [.agg (pre++[.raw (.slice none 0 0)])] st K:=by
 intro B X rs hg hst hv;refine h B X rs hg hst ⟨hv.1,λi r c hr hc=>?_⟩;cases i with
 | zero =>
  simp only[List.getElem?_cons_zero,Option.some.injEq] at hc;subst hc;obtain⟨vs,rfl,hl,h2⟩:=V.agg_inv (hv.2 0 r _ hr rfl);refine .agg vs _ (by rw[hl];simp) λj r c hr hc=>?_;by_cases hj:j<pre.length
  ·rw[List.getElem?_append_left hj] at hc;exact h2 j r c hr (by rw[List.getElem?_append_left hj];exact hc)
  ·have hj2:=(lGs hc).1;simp only[lLa,List.length_singleton] at hj2;obtain rfl:j=pre.length:=by omega
   rw[List.getElem?_append_right (Nat.le_refl _),Nat.sub_self] at hc;simp only[List.getElem?_cons_zero,Option.some.injEq] at hc;subst hc;have h3:=h2 _ r (.raw (.slice none 0 0)) hr (by rw[List.getElem?_append_right (Nat.le_refl _),Nat.sub_self];rfl);obtain rfl:=V.raw_inv h3;exact .sl none 0 ⟨true,.nil,0⟩ [] 0 [] ⟨rfl,rfl,rfl⟩ (by simp) (by simp) (by simp) (by simp) (λg hg=>by cases hg) (λ_ ad had=>by cases had) (λhne=>absurd rfl hne) (λi r c hr=>by simp at hr)
 | succ i=>simp at hc
def apart (t u:Tag):Prop:=∀g,t.cap=.app g->u.cap≠.app g
theorem apart.symm {t u:Tag}(h:apart t u):apart u t:=λg h1 h2=>h g h2 h1
theorem xVd {esc:List Nat}{dst:Option Nat}{e:TypeId×Bool×Nat×Nat}{tg tg2:Tag}{zs:List IV}{y:IV}{R:Rt}{st S0:ISt}{ds:List Dfd}{n n2 s:Nat}(h:own st tg n s S0)(h2:own st tg2 n2 s S0)(hd:apart tg tg2)(hlen:zs.length=n)(hsub:subSt S0 st)(he:e.2.2.1=s)
  (hf:fits e.2.1 e.2.2.1 y=true) (hcap:(n+1)*e.2.2.2<=140737488355328) (hcap2:n+1<=140737488355328)
  (k:∀tg' st',own st' tg' (n+1) s S0->own st' tg2 n2 s S0->apart tg' tg2->subSt S0 st'->R (.val (.sl tg' (zs++[y]))) st' ds)
  (hesc:yKm esc dst=false:=by first|rfl|simp[yKm]):appV esc dst e tg zs [y] R st ds:=by
 subst hlen he;unfold appV;refine⟨by simp[hf],⟨hcap,hcap2⟩,?_⟩;have h2n:∀g,st g=none->tg2.cap≠.app g:=λg hg hc=>by
  rcases h2 with⟨_,h⟩|rfl|⟨g2,rfl,h,_⟩
  ·rw[h] at hc;cases hc
  ·cases hc
  ·cases hc;rw[hg] at h;cases h
 have hk:∀st',(∀g,tg2.cap=.app g->st' g=st g)->own st' tg2 n2 e.2.2.1 S0:=λst' hs=>by
  rcases h2 with h|h|⟨g2,rfl,h,h'⟩
  ·exact .inl h
  ·exact .inr (.inl h)
  ·exact .inr (.inr ⟨g2,rfl,by rw[hs g2 rfl];exact h,h'⟩)
 have hap:∀g,tg2.cap≠.app g->apart ⟨true,.app g,e.2.2.1⟩ tg2:=λg hg g' h=>by cases h;exact hg
 have hnew:∀g,st g=none->∀m,own (st.put g (some (.front m e.2.2.1))) tg2 n2 e.2.2.1 S0/\apart ⟨true,.app g,e.2.2.1⟩ tg2/\subSt S0 (st.put g (some (.front m e.2.2.1)))/\S0 g=none:=λg hg m =>
  have h0:=yXx hsub hg
  ⟨hk _ λg' hg'=>yQ9 (λh=>h2n g hg (h▸hg')),hap g (h2n g hg),yQq hsub h0,h0⟩
 rcases h with⟨h0,hc⟩|rfl|⟨g0,rfl,h1,hg0⟩
 ·have hz:zs=[]:=List.eq_nil_of_length_eq_zero h0;subst hz;rw[hc];simp only[hesc,bFt,if_false];intro g hg;obtain⟨a1,a2,a3,a4⟩:=hnew g hg 1;exact k _ _ (.inr (.inr ⟨g,rfl,ISt.put_same _ _ _,a4⟩)) a1 a2 a3
 ·refine⟨rfl,λg hg=>?_⟩;obtain⟨a1,a2,a3,a4⟩:=hnew g hg (zs.length+1);exact k _ _ (.inr (.inr ⟨g,rfl,ISt.put_same _ _ _,a4⟩)) a1 a2 a3
 ·refine⟨rfl,h1,λg hg=>?_⟩;have hgn:S0 g=none/\tg2.cap≠.app g:=by
   rcases hg with rfl|hg
   ·exact⟨hg0,hd g rfl⟩
   ·exact⟨yXx hsub hg,h2n g hg⟩
  refine k _ _ (.inr (.inr ⟨g,rfl,ISt.put_same _ _ _,hgn.1⟩)) (hk _ λg' hg'=>?_) (hap g hgn.2) (yQq (yQq hsub hg0) hgn.1);have n1:g'≠g:=λh=>hgn.2 (h▸hg');have n2:g'≠g0:=λh=>hd g0 rfl (h▸hg');rw[yQ9 n1,yQ9 n2]
end Go.Iv
namespace Go.Proofs.Tryz
open Go Go.Iv
def cmpN (a b:Nat):Int:=if a<b then -1 else if b<a then 1 else 0
noncomputable def cmpB (a b:ByteArray):Int:=if Op.bytesLess a.data.toList b.data.toList=true then -1 else if Op.bytesLess b.data.toList a.data.toList=true then 1 else 0
def lexI (x y:Int):Int:=if x=0 then y else x
mutual
noncomputable def xY1:Tm->Tm->Int
 | .mk v n us,.mk v' n' us'=>if v=v' then lexI (cmpB n n') (lexI (cmpN us.length us'.length) (yGk us us')) else if v=true then -1 else 1
noncomputable def yGk:List Tm->List Tm->Int
 | a::l,b::m=>lexI (xY1 a b) (yGk l m)
 | _,_=>0
end
mutual
noncomputable def yVc:Fm->Fm->Int
 | .mk o n us sub,.mk o' n' us' sub'=>lexI (cmpN o o') (lexI (cmpB n n') (lexI (lexI (cmpN us.length us'.length) (yGk us us')) (lexI (cmpN sub.length sub'.length) (yKh sub sub'))))
noncomputable def yKh:List Fm->List Fm->Int
 | a::l,b::m=>lexI (yVc a b) (yKh l m)
 | _,_=>0
end
structure Cp {α:Type}(f:α->α->Int)(a:α):Prop where
 eq:∀b,f a b=0↔a=b
 neg:∀b,f b a = - f a b
 tr:∀b c,f a b<0->f b c<0->f a c<0
theorem yW3 {x y:Int}:lexI x y=0↔x=0/\y=0:=by
 unfold lexI;split
 ·rename_i h;simp[h]
 ·rename_i h;simp[h]
theorem vQj (a:Nat):Cp cmpN a:=by
 refine⟨λb=>?_,λb=>?_,λb c=>?_⟩<;>unfold cmpN<;>repeat' split
 all_goals grind
open Classical in
theorem zQl {a b:ByteArray}:cmpB a b=if ltN a b then -1 else if ltN b a then 1 else 0:=by
 unfold cmpB;congr 1
 ·exact propext xKp
 ·congr 1;exact propext xKp
open Classical in
theorem zK0 (a:ByteArray):Cp cmpB a:=by
 refine⟨λb=>?_,λb=>?_,λb c=>?_⟩
 ·rw[zQl];by_cases h1:ltN a b
  ·rw[if_pos h1];exact⟨λh=>by omega,λh=>absurd h1 (by rw[h];exact wUh b)⟩
  ·rw[if_neg h1];by_cases h2:ltN b a
   ·grind
   ·rw[if_neg h2];exact⟨λ_=>Classical.byContradiction λhne=>h2 (xUq h1 hne),λ_=>rfl⟩
 ·rw[zQl,zQl];by_cases h1:ltN a b
  ·rw[if_pos h1,if_neg (xUr h1),if_pos h1];rfl
  ·grind
 ·rw[zQl,zQl,zQl];have key:∀x y:ByteArray,(if ltN x y then (-1:Int) else if ltN y x then 1 else 0)<0↔ltN x y:=λx y=>by
   grind
  rw[key,key,key];exact xUp
section
variable {α:Type}{f:α->α->Int}{g:List α->List α->Int}(g0:g [] []=0)(g1:∀a b l m,g (a::l) (b::m)=lexI (f a b) (g l m))
include g0 g1
theorem xZs:∀(l:List α),(∀a∈l,∀b,f a b=0↔a=b)->∀m,l.length=m.length->(g l m=0↔l=m)
 | [],_,m,hm=>by
  grind
 | a::l,hc,b::m,hm=>by
  rw[g1,yW3,hc a (by simp),xZs l (λb hb=>hc b (by simp[hb])) m (by simpa using hm),List.cons.injEq]
end
def lenL {α:Type}(g:List α->List α->Int)(l m:List α):Int:=lexI (cmpN l.length m.length) (g l m)
theorem zJy {a b:Nat}:cmpN a b=0↔a=b:=(vQj a).eq b
section
variable {α:Type}{f:α->α->Int}{g:List α->List α->Int}(g0:g [] []=0)(g1:∀a b l m,g (a::l) (b::m)=lexI (f a b) (g l m))
include g0 g1
theorem xZw {l:List α}(h:∀a∈l,∀b,f a b=0↔a=b)(m:List α):lenL g l m=0↔l=m:=by
 unfold lenL;rw[yW3,zJy];constructor
 ·rintro⟨h1,h2⟩;exact (xZs g0 g1 l h m h1).1 h2
 ·rintro rfl;exact⟨rfl,(xZs g0 g1 l h l rfl).2 rfl⟩
end
theorem xXd:yGk [] []=0:=by simp only[yGk]
theorem wZ3 (a b:Tm)(l m:List Tm):yGk (a::l) (b::m)=lexI (xY1 a b) (yGk l m):=by simp only[yGk]
theorem yWw:yKh [] []=0:=by simp only[yKh]
theorem yWv (a b:Fm)(l m:List Fm):yKh (a::l) (b::m)=lexI (yVc a b) (yKh l m):=by simp only[yKh]
theorem wKm (v v':Bool)(n n':ByteArray)(us us':List Tm):xY1 (.mk v n us) (.mk v' n' us')=if v=v' then lexI (cmpB n n') (lenL yGk us us') else if v=true then -1 else 1:=by simp only[xY1,lenL]
theorem wKp (o o':Nat)(n n':ByteArray)(us us':List Tm)(sub sub':List Fm):yVc (.mk o n us sub) (.mk o' n' us' sub')=lexI (cmpN o o') (lexI (cmpB n n') (lexI (lenL yGk us us') (lenL yKh sub sub'))):=by simp only[yVc,lenL]
theorem vXo {p:Tm->Prop}(h:∀v n us,(∀a∈us,p a)->p (.mk v n us))(t:Tm):p t:=by
 have key:∀(k:Nat) (t:Tm),SizeOf.sizeOf t<k->p t:=λk=>by
  induction k with
  | zero=>intro t ht;omega
  | succ k ih =>
   rintro⟨v,n,us⟩ ht;refine h v n us λa ha=>ih a ?_;have:=lSm ha;grind
 exact key _ t (Nat.lt_succ_self _)
theorem wY6 {p:Fm->Prop}(h:∀o n us sub,(∀a∈sub,p a)->p (.mk o n us sub))(t:Fm):p t:=by
 have key:∀(k:Nat) (t:Fm),SizeOf.sizeOf t<k->p t:=λk=>by
  induction k with
  | zero=>intro t ht;omega
  | succ k ih =>
   rintro⟨o,n,us,sub⟩ ht;refine h o n us sub λa ha=>ih a ?_;have:=lSm ha;grind
 exact key _ t (Nat.lt_succ_self _)
theorem wKn (a b:Tm):xY1 a b=0↔a=b:=by
 revert b;refine vXo (p:=λa=>∀b,xY1 a b=0↔a=b) (λv n us ih b=>?_) a;obtain⟨v',n',us'⟩:=b;rw[wKm,Tm.mk.injEq];by_cases hv:v=v'
 ·rw[if_pos hv,yW3,(zK0 n).eq,xZw xXd wZ3 ih];simp[hv]
 ·grind
theorem zYj (a b:Fm):yVc a b=0↔a=b:=by
 revert b;refine wY6 (p:=λa=>∀b,yVc a b=0↔a=b) (λo n us sub ih b=>?_) a;obtain⟨o',n',us',sub'⟩:=b;rw[wKp,Fm.mk.injEq,yW3,yW3,yW3,zJy,(zK0 n).eq,xZw xXd wZ3 (λa _=>wKn a),xZw yWw yWv ih]
end Go.Proofs.Tryz
namespace Go.Iv
open Go
structure Sq where
 l:List Fm
 r:List Fm
inductive Tr where
 | mk (rule:Nat) (s:Sq) (main:Fm) (term:Tm) (name:ByteArray) (sub:List Tr)
def IsSq (s:Sq)(x:IV):Prop:=∃t xs t' ys,x=.agg [.sl t xs,.sl t' ys]/\okEs t 4/\IsFms s.l xs/\okEs t' 4/\IsFms s.r ys
def IsSqs:List Sq->List IV->Prop
 | [],xs=>xs=[]
 | a::aL,xs=>∃y ys,xs=y::ys/\IsSq a y/\IsSqs aL ys
mutual
def IsTr:Tr->IV->Prop
 | .mk rule s f u n sub,x=>∃tl xl tr xr op fn ta xa tb xb v un tu xu ts xs,x=.agg [.raw (.int .u8 rule),.sl tl xl,.sl tr xr,.raw (.int .u8 op),.raw (.string fn),.sl ta xa,.sl tb xb,.raw (.bool v),.raw (.string un),.sl tu xu,.raw (.string n),.sl ts xs] /\
  rule<256/\okEs tl 4/\IsFms s.l xl/\okEs tr 4/\IsFms s.r xr/\IsFm f (.agg [.raw (.int .u8 op),.raw (.string fn),.sl ta xa,.sl tb xb])/\IsTm u (.agg [.raw (.bool v),.raw (.string un),.sl tu xu])/\okEs ts 12/\IsTrs sub xs
def IsTrs:List Tr->List IV->Prop
 | [],xs=>xs=[]
 | a::aL,xs=>∃y ys,xs=y::ys/\IsTr a y/\IsTrs aL ys
end
theorem IsTr.mk {rule:Nat}{s:Sq}{f:Fm}{u:Tm}{n:ByteArray}{sub:List Tr}{x:IV}(h:IsTr (.mk rule s f u n sub) x):∃tl xl tr xr op fn ta xa tb xb v un tu xu ts xs,x=.agg [.raw (.int .u8 rule),.sl tl xl,.sl tr xr,.raw (.int .u8 op),.raw (.string fn),.sl ta xa,.sl tb xb,.raw (.bool v),.raw (.string un),.sl tu xu,.raw (.string n),.sl ts xs] /\
  rule<256/\okEs tl 4/\IsFms s.l xl/\okEs tr 4/\IsFms s.r xr/\IsFm f (.agg [.raw (.int .u8 op),.raw (.string fn),.sl ta xa,.sl tb xb])/\IsTm u (.agg [.raw (.bool v),.raw (.string un),.sl tu xu])/\okEs ts 12/\IsTrs sub xs:=by
 simpa only[IsTr] using h
theorem IsSqs.len:∀ {aL:List Sq}{xs:List IV},IsSqs aL xs->xs.length=aL.length
 | [],xs,h=>by simp only[IsSqs] at h;subst h;rfl
 | a::aL,xs,h=>by
  simp only[IsSqs] at h;obtain⟨y,ys,rfl,_,h⟩:=h;simp[IsSqs.len h]
theorem IsSqs.get:∀ {aL:List Sq}{xs:List IV}{k:Nat}{a:Sq},IsSqs aL xs->aL[k]?=some a->∃x,xs[k]?=some x/\IsSq a x
 | [],xs,k,a,h,hk=>by simp at hk
 | b::aL,xs,k,a,h,hk=>by
  simp only[IsSqs] at h;obtain⟨y,ys,rfl,hy,h⟩:=h;cases k with
  | zero=>simp at hk;subst hk;exact⟨y,rfl,hy⟩
  | succ k=>simpa using IsSqs.get h (by simpa using hk)
theorem IsTrs.len:∀ {aL:List Tr}{xs:List IV},IsTrs aL xs->xs.length=aL.length
 | [],xs,h=>by simp only[IsTrs] at h;subst h;rfl
 | a::aL,xs,h=>by
  simp only[IsTrs] at h;obtain⟨y,ys,rfl,_,h⟩:=h;simp[IsTrs.len h]
theorem IsTrs.get:∀ {aL:List Tr}{xs:List IV}{k:Nat}{a:Tr},IsTrs aL xs->aL[k]?=some a->∃x,xs[k]?=some x/\IsTr a x
 | [],xs,k,a,h,hk=>by simp at hk
 | b::aL,xs,k,a,h,hk=>by
  simp only[IsTrs] at h;obtain⟨y,ys,rfl,hy,h⟩:=h;cases k with
  | zero=>simp at hk;subst hk;exact⟨y,rfl,hy⟩
  | succ k=>simpa using IsTrs.get h (by simpa using hk)
theorem IsTrs.append:∀ {aL bs:List Tr}{xs ys:List IV},IsTrs aL xs->IsTrs bs ys->IsTrs (aL++bs) (xs++ys)
 | [],bs,xs,ys,h,k=>by simp only[IsTrs] at h;subst h;exact k
 | a::aL,bs,xs,ys,h,k=>by
  simp only[IsTrs] at h;obtain⟨y,zs,rfl,hy,h⟩:=h;exact⟨y,zs++ys,rfl,hy,IsTrs.append h k⟩
mutual
def Tr.steps:Tr->Nat
 | .mk _ _ _ _ _ sub=>1+yQm sub
def yQm:List Tr->Nat
 | []=>0
 | a::l=>a.steps+yQm l
end
mutual
def Tr.height:Tr->Nat
 | .mk _ _ _ _ _ sub=>1+yJv sub
def yJv:List Tr->Nat
 | []=>0
 | a::l=>max a.height (yJv l)
end
mutual
def Tr.cuts:Tr->Nat
 | .mk rule _ _ _ _ sub=>(if rule=17 then 1 else 0)+yZ8 sub
def yZ8:List Tr->Nat
 | []=>0
 | a::l=>a.cuts+yZ8 l
end
theorem yV2:∀l m:List Tr,yQm (l++m)=yQm l+yQm m
 | [],m=>by simp[yQm]
 | a::l,m=>by simp only[List.cons_append,yQm,yV2 l m];omega
theorem yVu:∀l m:List Tr,yZ8 (l++m)=yZ8 l+yZ8 m
 | [],m=>by simp[yZ8]
 | a::l,m=>by simp only[List.cons_append,yZ8,yVu l m];omega
theorem Tr.height_le_steps:∀t:Tr,t.height<=t.steps:=by
 have key:∀k:Nat,(∀t:Tr,SizeOf.sizeOf t<k->t.height<=t.steps):=λk=>by
  induction k with
  | zero=>intro t h;omega
  | succ k ih =>
   rintro⟨rule,s,f,u,n,sub⟩ h;have:∀l:List Tr,SizeOf.sizeOf l<k+1->yJv l<=yQm l:=λl=>by
    induction l with
    | nil=>intro _;simp[yJv,yQm]
    | cons a l ihl =>
     intro hl;simp only[List.cons.sizeOf_spec] at hl;have h1:=ih a (by omega);have h2:=ihl (by omega);simp only[yJv,yQm];omega
   simp only[Tr.mk.sizeOf_spec] at h;have:=this sub (by omega);simp only[Tr.height,Tr.steps];omega
 exact λt=>key _ t (Nat.lt_succ_self _)
mutual
def Tr.walk:List Nat->Tr->List (List Nat×Tr)
 | p,t@(.mk _ _ _ _ _ sub)=>(p,t)::yQs p 0 sub
def yQs:List Nat->Nat->List Tr->List (List Nat×Tr)
 | _,_,[]=>[]
 | p,i,a::l=>a.walk (p++[i])++yQs p (i+1) l
end
def yQr (e:Tr->Nat):List (List Nat×Tr)->List Nat×Nat
 | []=>([],0)
 | (p,t)::l=>if e t=0 then yQr e l else (p,e t)
theorem yX7 (e:Tr->Nat):∀l m,yQr e (l++m)=if (yQr e l).2=0 then yQr e m else yQr e l
 | [],m=>by simp[yQr]
 | (p,t)::l,m=>by
  have ih:=yX7 e l m;by_cases h:e t=0
  ·simp only[List.cons_append,yQr,h,if_true,ih]
  ·simp[yQr,h]
theorem yWt (e:Tr->Nat):∀l,(yQr e l).2=0->yQr e l=([],0)
 | [],_=>rfl
 | (p,t)::l,h=>by
  simp only[yQr] at h ⊢;by_cases h':e t=0
  ·rw[if_pos h'] at h ⊢;exact yWt e l h
  ·grind
def Fm.op:Fm->Nat
 | .mk op _ _ _=>op
def Fm.subs:Fm->List Fm
 | .mk _ _ _ sub=>sub
def Tr.sq:Tr->Sq
 | .mk _ s _ _ _ _=>s
def Sq.plus (s m:Sq):Sq:=⟨s.l++m.l,s.r++m.r⟩
end Go.Iv
namespace Go.Proofs.Tryz
open Go Go.Iv
def fm0:Fm:=.mk 0 ⟨#[]⟩ [] []
theorem vKi (t t':Tag)(h:okEs t 3)(h':okEs t' 4):IsFm fm0 (.agg [.raw (.int .u8 0),.raw (.string ⟨#[]⟩),.sl t [],.sl t' []]):=⟨t,[],t',[],rfl,by omega,h,rfl,h',rfl⟩
mutual
def opsB (ca:Nat):Fm->Bool
 | .mk op _ us sub=>decide (1<=op)&&decide (op<=if ca=3 then 9 else 7)&&(decide (ca=3) || us.isEmpty)&&yJn ca sub
def yJn (ca:Nat):List Fm->Bool
 | []=>true
 | a::l=>opsB ca a&&yJn ca l
end
def fmB (ca:Nat)(f:Fm):Bool:=f.right&&opsB ca f
mutual
theorem xU9 {ca:Nat}:∀ {f:Fm} {x:IV},IsFm f x->f.ok=true->opsB ca f=true
 | .mk o n us sub,_,h,hk=>by
  obtain⟨_,_,_,_,_,ho,_,hu,_,hs⟩:=h.mk;obtain⟨rfl,_⟩:=hu.z;simp only[Fm.ok,bAt] at hk;have:1<=o:=by
   match o,hk.1.1 with
   | 0,h=>cases h
   | o+1,_=>omega
  have:o<=if ca=3 then 9 else 7:=by split<;>omega
  simp only[opsB,xK7 hs hk.2,List.isEmpty_nil,Bool.or_true,Bool.and_true,bAt,dTe];exact⟨by assumption,by assumption⟩
theorem xK7 {ca:Nat}:∀ {l:List Fm} {xs:List IV},IsFms l xs->yKc l=true->yJn ca l=true
 | [],_,_,_=>rfl
 | a::l,_,h,hk=>by
  simp only[IsFms] at h;obtain⟨y,ys,_,h1,h2⟩:=h;simp only[yKc,bAt] at hk;simp only[yJn,xU9 h1 hk.1,xK7 h2 hk.2,Bool.and_self]
end
theorem _root_.Go.Iv.IsFm.fmB {ca:Nat}{f:Fm}{x:IV}(h:IsFm f x):fmB ca f=f.right:=by
 unfold Go.Proofs.Tryz.fmB;cases hr:f.right
 ·rfl
 ·rw[xU9 h (xJv hr).1];rfl
def yXo (ca:Nat):Bool:=decide (1<=ca)&&decide (ca<=3)
noncomputable def eqF (a b:Fm):Bool:=decide (a.op=b.op)&&yJf a b
noncomputable def hasF (l:List Fm)(f:Fm):Bool:=l.any (eqF f)
noncomputable def allF (l m:List Fm):Bool:=l.all (hasF m)
noncomputable def yXj (a b:Sq):Bool:=allF a.l b.l&&allF a.r b.r
noncomputable def xX8:List Fm->Bool
 | []=>true
 | a::l=>(a::l).all λf=>eqF f a
noncomputable def yXs (ca:Nat)(s:Sq):Bool :=
 yXo ca&&decide (s.l.length<=64)&&decide (s.r.length<=64)&&s.l.all (fmB ca)&&s.r.all (fmB ca)&&(decide (ca≠2) || xX8 s.r)
structure Rw where
 left:Bool
 right:Bool
 op:Nat
 asks:Nat
def rowK (rule:Nat):Option Rw :=
 if rule=1 then some ⟨true,true,0,0⟩ else if rule=2 then some ⟨true,false,2,0⟩ else if rule=3 then some ⟨true,false,3,0⟩ else if rule=4 then some ⟨false,true,3,0⟩
 else if rule=5 then some ⟨true,false,4,0⟩ else if rule=6 then some ⟨false,true,4,0⟩ else if rule=7 then some ⟨true,false,5,0⟩ else if rule=8 then some ⟨false,true,5,0⟩
 else if rule=9 then some ⟨true,false,6,0⟩ else if rule=10 then some ⟨false,true,6,0⟩ else if rule=11 then some ⟨true,false,7,0⟩ else if rule=12 then some ⟨false,true,7,0⟩
 else if rule=17 then some ⟨false,false,0,0⟩ else none
def rowS (ca rule:Nat):Option Rw :=
 if ca=2/\rule=18 then some ⟨false,true,5,0⟩
 else if ca=3/\rule=13 then some ⟨true,false,8,1⟩ else if ca=3/\rule=14 then some ⟨false,true,8,2⟩
 else if ca=3/\rule=15 then some ⟨true,false,9,2⟩ else if ca=3/\rule=16 then some ⟨false,true,9,1⟩ else rowK rule
def bE:ByteArray:=⟨#[]⟩
def impF (a b:Fm):Fm:=.mk 6 bE [] [a,b]
def addS (ca rule:Nat)(main a b:Fm):List Sq :=
 if rule=3 then [⟨[],[a]⟩] else if rule=4 then [⟨[a],[]⟩] else if rule=5 then [⟨[a,b],[]⟩] else if rule=6 then [⟨[],[a]⟩,⟨[],[b]⟩]
 else if rule=7 then [⟨[a],[]⟩,⟨[b],[]⟩] else if rule=8 then (if ca=2 then [⟨[],[a]⟩] else [⟨[],[a,b]⟩]) else if rule=9 then [⟨[],[a]⟩,⟨[b],[]⟩]
 else if rule=10 then [⟨[a],[b]⟩] else if rule=11 then [⟨[impF a b,impF b a],[]⟩] else if rule=12 then [⟨[a],[b]⟩,⟨[b],[a]⟩]
 else if rule=13 then [⟨[a],[]⟩] else if rule=14 then [⟨[],[a]⟩] else if rule=15 then [⟨[a],[]⟩] else if rule=16 then [⟨[],[a]⟩]
 else if rule=17 then [⟨[],[main]⟩,⟨[main],[]⟩] else if rule=18 then [⟨[],[b]⟩] else []
def yJ6 (ca rule:Nat)(r:Rw)(main:Fm)(_:Tm)(_:ByteArray):List Sq×Nat :=
 if !fmB ca main || (decide (r.op≠0)&&decide (main.op≠r.op)) then ([],192)
 else (addS ca rule main ((main.subs[0]?).getD fm0) ((main.subs[1]?).getD fm0),0)
noncomputable def yXt (ca:Nat)(s:Sq)(rule:Nat)(main:Fm)(term:Tm)(name:ByteArray):List Sq×Nat :=
 if !yXs ca s then ([],190)
 else match rowS ca rule with
  | none=>([],191)
  | some r =>
   if decide ((yJ6 ca rule r main term name).2=192) || (r.left&&!hasF s.l main) || (r.right&&!hasF s.r main) then ([],192)
   else if (yJ6 ca rule r main term name).2≠0 then ([],(yJ6 ca rule r main term name).2)
   else ((yJ6 ca rule r main term name).1,0)
noncomputable def yXm (s:Sq):List Sq->List Tr->Bool
 | m::l,t::ts=>yXj t.sq (s.plus m)&&yXm s l ts
 | _,_=>true
noncomputable def yZh (ca:Nat):Tr->Nat
 | .mk rule s main term name sub =>
  if (yXt ca s rule main term name).2≠0 then (yXt ca s rule main term name).2
  else if sub.length≠(yXt ca s rule main term name).1.length then 194
  else if yXm s (yXt ca s rule main term name).1 sub then 0 else 195
noncomputable def yXc (ca:Nat)(t:Tr):List Nat×Nat :=
 if !yXo ca then ([],2) else if 300<t.steps then ([],5) else yQr (yZh ca) (t.walk [])
structure Mk where
 is:Bool
 w:Int
 f:Fm
inductive Nd where
 | mk (m:Mk) (c:Bool) (w:Int) (sub:List Nd)
def IsMk (m:Mk)(x:IV):Prop:=∃(o:Int) (n:ByteArray) (t:Tag) (xs:List IV) (t':Tag) (ys:List IV),x=.agg [.raw (.bool m.is),.raw (.int .i64 m.w),.raw (.int .u8 o),.raw (.string n),.sl t xs,.sl t' ys]/\IsFm m.f (.agg [.raw (.int .u8 o),.raw (.string n),.sl t xs,.sl t' ys])
def IsMks:List Mk->List IV->Prop
 | [],xs=>xs=[]
 | a::aL,xs=>∃y ys,xs=y::ys/\IsMk a y/\IsMks aL ys
theorem IsMks.len:∀ {aL:List Mk}{xs:List IV},IsMks aL xs->xs.length=aL.length
 | [],xs,h=>by simp only[IsMks] at h;subst h;rfl
 | a::aL,xs,h=>by
  simp only[IsMks] at h;obtain⟨y,ys,rfl,_,h⟩:=h;simp[IsMks.len h]
theorem IsMks.get:∀ {aL:List Mk}{xs:List IV}{k:Nat}{a:Mk},IsMks aL xs->aL[k]?=some a->∃x,xs[k]?=some x/\IsMk a x
 | [],xs,k,a,h,hk=>by simp at hk
 | b::aL,xs,k,a,h,hk=>by
  simp only[IsMks] at h;obtain⟨y,ys,rfl,hy,h⟩:=h;cases k with
  | zero=>simp at hk;subst hk;exact⟨y,rfl,hy⟩
  | succ k=>simpa using IsMks.get h (by simpa using hk)
theorem IsMks.append:∀ {aL bL:List Mk}{xs ys:List IV},IsMks aL xs->IsMks bL ys->IsMks (aL++bL) (xs++ys)
 | [],bL,xs,ys,h,k=>by simp only[IsMks] at h;subst h;exact k
 | a::aL,bL,xs,ys,h,k=>by
  simp only[IsMks] at h;obtain⟨y,zs,rfl,hy,h⟩:=h;exact⟨y,zs++ys,rfl,hy,IsMks.append h k⟩
theorem IsMks.one {a:Mk}{x:IV}(h:IsMk a x):IsMks [a] [x]:=⟨x,[],rfl,h,rfl⟩
def IsMkss:List (List Mk)->List IV->Prop
 | [],xs=>xs=[]
 | a::aL,xs=>∃t zs ys,xs=.sl t zs::ys/\okEs t 6/\IsMks a zs/\IsMkss aL ys
theorem IsMkss.len:∀ {aL:List (List Mk)}{xs:List IV},IsMkss aL xs->xs.length=aL.length
 | [],xs,h=>by simp only[IsMkss] at h;subst h;rfl
 | a::aL,xs,h=>by
  simp only[IsMkss] at h;obtain⟨t,zs,ys,rfl,_,_,h⟩:=h;simp[IsMkss.len h]
theorem IsMkss.get:∀ {aL:List (List Mk)}{xs:List IV}{k:Nat}{a:List Mk},IsMkss aL xs->aL[k]?=some a->∃t zs,xs[k]?=some (.sl t zs)/\okEs t 6/\IsMks a zs
 | [],xs,k,a,h,hk=>by simp at hk
 | b::aL,xs,k,a,h,hk=>by
  simp only[IsMkss] at h;obtain⟨t,zs,ys,rfl,ht,hz,h⟩:=h;cases k with
  | zero=>simp at hk;subst hk;exact⟨t,zs,rfl,ht,hz⟩
  | succ k=>simpa using IsMkss.get h (by simpa using hk)
theorem IsMkss.append:∀ {aL bL:List (List Mk)}{xs ys:List IV},IsMkss aL xs->IsMkss bL ys->IsMkss (aL++bL) (xs++ys)
 | [],bL,xs,ys,h,k=>by simp only[IsMkss] at h;subst h;exact k
 | a::aL,bL,xs,ys,h,k=>by
  simp only[IsMkss] at h;obtain⟨t,zs,zz,rfl,ht,hz,h⟩:=h;exact⟨t,zs,zz++ys,rfl,ht,hz,IsMkss.append h k⟩
theorem IsMkss.one {a:List Mk}{t:Tag}{zs:List IV}(ht:okEs t 6)(h:IsMks a zs):IsMkss [a] [.sl t zs]:=⟨t,zs,[],rfl,ht,h,rfl⟩
mutual
def IsNd:Nd->IV->Prop
 | .mk m c w sub,x=>∃o n t xs t' ys ts zs,x=.agg [.raw (.bool m.is),.raw (.int .i64 m.w),.raw (.int .u8 o),.raw (.string n),.sl t xs,.sl t' ys,.raw (.bool c),.raw (.int .i64 w),.sl ts zs] /\
  IsFm m.f (.agg [.raw (.int .u8 o),.raw (.string n),.sl t xs,.sl t' ys])/\okEs ts 9/\IsNds sub zs
def IsNds:List Nd->List IV->Prop
 | [],xs=>xs=[]
 | a::aL,xs=>∃y ys,xs=y::ys/\IsNd a y/\IsNds aL ys
end
theorem IsNd.mk {m:Mk}{c:Bool}{w:Int}{sub:List Nd}{x:IV}(h:IsNd (.mk m c w sub) x):∃(o:Int) (n:ByteArray) (t:Tag) (xs:List IV) (t':Tag) (ys:List IV) (ts:Tag) (zs:List IV),x=.agg [.raw (.bool m.is),.raw (.int .i64 m.w),.raw (.int .u8 o),.raw (.string n),.sl t xs,.sl t' ys,.raw (.bool c),.raw (.int .i64 w),.sl ts zs] /\
  IsFm m.f (.agg [.raw (.int .u8 o),.raw (.string n),.sl t xs,.sl t' ys])/\okEs ts 9/\IsNds sub zs:=by
 simpa only[IsNd] using h
theorem IsNds.len:∀ {aL:List Nd}{xs:List IV},IsNds aL xs->xs.length=aL.length
 | [],xs,h=>by simp only[IsNds] at h;subst h;rfl
 | a::aL,xs,h=>by
  simp only[IsNds] at h;obtain⟨y,ys,rfl,_,h⟩:=h;simp[IsNds.len h]
theorem IsNds.get:∀ {aL:List Nd}{xs:List IV}{k:Nat}{a:Nd},IsNds aL xs->aL[k]?=some a->∃x,xs[k]?=some x/\IsNd a x
 | [],xs,k,a,h,hk=>by simp at hk
 | b::aL,xs,k,a,h,hk=>by
  simp only[IsNds] at h;obtain⟨y,ys,rfl,hy,h⟩:=h;cases k with
  | zero=>simp at hk;subst hk;exact⟨y,rfl,hy⟩
  | succ k=>simpa using IsNds.get h (by simpa using hk)
theorem IsNds.append:∀ {aL bL:List Nd}{xs ys:List IV},IsNds aL xs->IsNds bL ys->IsNds (aL++bL) (xs++ys)
 | [],bL,xs,ys,h,k=>by simp only[IsNds] at h;subst h;exact k
 | a::aL,bL,xs,ys,h,k=>by
  simp only[IsNds] at h;obtain⟨y,zs,rfl,hy,h⟩:=h;exact⟨y,zs++ys,rfl,hy,IsNds.append h k⟩
def rowT (b:Bool)(o:Int):Option (Nat×Nat) :=
 if o=3 then some (1,1) else if o=4 then some (if b then 1 else 2,2) else if o=5 then some (if b then 2 else 1,2) else if o=6 then some (if b then 2 else 1,2) else if o=7 then some (if b then 1 else 2,2)
 else if o=10 then some (if b then 3 else 4,1) else if o=11 then some (if b then 4 else 3,1) else none
def askT (b:Bool)(o:Int)(x y:Fm):List (List (Bool×Fm)) :=
 if o=3 then [[(!b,x)]]
 else if o=4 then (if b then [[(true,x),(true,y)]] else [[(false,x)],[(false,y)]])
 else if o=5 then (if b then [[(true,x)],[(true,y)]] else [[(false,x),(false,y)]])
 else if o=6 then (if b then [[(false,x)],[(true,y)]] else [[(true,x),(false,y)]])
 else if o=7 then (if b then [[(true,impF x y),(true,impF y x)]] else [[(true,x),(false,y)],[(true,y),(false,x)]])
 else [[(b,x)]]
def yZd (m:Mk):Nat×Nat :=
 match rowT m.is m.f.op with
 | some r=>if m.f.subs.length=r.2 then r else (0,0)
 | none=>(0,0)
def yQi (m:Mk)(w:Int):List (List Mk) :=
 if (yZd m).1=0 then []
 else (askT m.is m.f.op ((m.f.subs[0]?).getD fm0) (if (yZd m).2=2 then (m.f.subs[1]?).getD fm0 else fm0)).map λl=>l.map λh=>⟨h.1,if (yZd m).1=1\/(yZd m).1=2 then m.w else w,h.2⟩
noncomputable def mkB (a b:Mk):Bool:=a.is == b.is&&decide (a.w=b.w)&&decide (yVc a.f b.f=0)
noncomputable def hasT (l:List Mk)(m:Mk):Bool:=l.any λn=>mkB n m
noncomputable def addT (l:List Mk)(m:Mk):List Mk:=if hasT l m then l else l++[m]
noncomputable def yQu (l q:List Mk):List Mk:=q.foldl addT l
def yJe (s:Sq):List Mk:=s.l.map (⟨true,0,·⟩)++s.r.map (⟨false,0,·⟩)
noncomputable def yQp (s:Sq):List Mk:=yQu [] (yJe s)
noncomputable def yKn (l:List Mk)(m:Mk):Bool:=(m.is&&decide (m.f.op=2)) || hasT l ⟨!m.is,m.w,m.f⟩
noncomputable def yV0 (l:List Mk)(m:Mk)(c:Bool)(w:Int)(k:Nat):Nat :=
 if !hasT l m || (c&&!yKn l m) || (!c&&decide ((yZd m).1=0)) then 201
 else if w≠0 then 202
 else if k≠(if c then 0 else (yQi m w).length) then 203 else 0
mutual
noncomputable def yZi (l:List Mk)(p:List Nat):Nd->List Nat×Nat
 | .mk m c w sub=>if yV0 l m c w sub.length≠0 then (p,yV0 l m c w sub.length) else if c then ([],0) else yX2 l p 0 (yQi m w) sub
noncomputable def yX2 (l:List Mk)(p:List Nat):Nat->List (List Mk)->List Nd->List Nat×Nat
 | i,q::qs,n::ns=>if (yZi (yQu l q) (p++[i]) n).2≠0 then yZi (yQu l q) (p++[i]) n else yX2 l p (i+1) qs ns
 | _,_,_=>([],0)
end
mutual
def Nd.nodes:Nd->Nat
 | .mk _ _ _ sub=>1+yQg sub
def yQg:List Nd->Nat
 | []=>0
 | a::l=>a.nodes+yQg l
end
def yX9 (s:Sq):Bool:=decide (s.l.length<=16)&&decide (s.r.length<=16)&&(s.l++s.r).all (fmB 1)
noncomputable def yK3 (s:Sq)(n:Nd):List Nat×Nat:=if !yX9 s then ([],200) else if 300<n.nodes then ([],5) else yZi (yQp s) [] n
theorem zXo {ca:Nat}{s:Sq}{rule:Nat}{main:Fm}{term:Tm}{name:ByteArray}(h:(yXt ca s rule main term name).2=0):yXs ca s=true:=by
 unfold yXt at h;grind
theorem yZ4:∀ {l:List Tr}{a:Tr},a∈l->a.steps<=yQm l
 | b::l,a,h=>by
  simp only[yQm];rcases List.mem_cons.1 h with rfl|h
  ·omega
  ·have:=yZ4 h;omega
theorem wKi {a b:Fm}:eqF a b=true↔a.op=b.op/\a.right=true/\b.right=true/\dbF [] a=dbF [] b:=by
 unfold eqF yJf;simp only[bAt,dTe,yZ2,and_assoc]
theorem zX9 {a:Fm}(h:a.right=true):eqF a a=true:=wKi.2 ⟨rfl,h,h,rfl⟩
theorem yYq {l:List Fm}{f:Fm}:hasF l f=true↔∃g∈l,eqF f g=true:=by simp[hasF]
theorem xQl {l m:List Fm}:allF l m=true↔∀f∈l,hasF m f=true:=by simp[allF]
theorem yWc:∀ {l:List Fm}{g:Fm},g∈l->g.size<=yQ7 l
 | a::l,g,hg=>by
  simp only[yQ7];rcases List.mem_cons.1 hg with rfl|hg
  ·omega
  ·have:=yWc hg;omega
theorem zJv:∀ {l:List Fm}{g:Fm},g∈l->g.deep<=yZe l
 | a::l,g,hg=>by
  simp only[yZe];rcases List.mem_cons.1 hg with rfl|hg
  ·omega
  ·have:=zJv hg;omega
theorem zUe {ca:Nat}:∀ {l:List Fm} {g:Fm},yJn ca l=true->g∈l->opsB ca g=true
 | a::l,g,h,hg=>by
  simp only[yJn,bAt] at h;rcases List.mem_cons.1 hg with rfl|hg
  ·exact h.1
  ·exact zUe h.2 hg
theorem yXi {ca:Nat}{f:Fm}:fmB ca f=true↔f.ok=true/\f.size<=400/\f.deep<=40/\opsB ca f=true:=by
 unfold fmB Fm.right;grind
theorem wKd {ca op:Nat}{n:ByteArray}{us:List Tm}{sub:List Fm}(h:fmB ca (.mk op n us sub)=true){g:Fm}(hg:g∈sub):fmB ca g=true:=by
 obtain⟨h1,h2,h3,h4⟩:=yXi.1 h;simp only[Fm.ok,bAt] at h1;simp only[Fm.size] at h2;simp only[Fm.deep] at h3;simp only[opsB,bAt] at h4;have:=yWc hg;have:=zJv hg;exact yXi.2 ⟨zUg h1.2 hg,by omega,by omega,zUe h4.2 hg⟩
theorem vQ2 {ca:Nat}{n:ByteArray}{us:List Tm}{a b:Fm}(h:fmB ca (.mk 7 n us [a,b])=true):fmB ca (impF a b)=true/\fmB ca (impF b a)=true:=by
 obtain⟨h1,h2,h3,h4⟩:=yXi.1 h;simp only[Fm.ok,yKc,bAt] at h1;simp only[Fm.size,yQ7] at h2;simp only[Fm.deep,yZe] at h3;simp only[opsB,yJn,bAt] at h4;have key:∀x y:Fm,x.ok=true->y.ok=true->opsB ca x=true->opsB ca y=true->x.size+y.size+1<=400->max x.deep y.deep+1<=40->fmB ca (impF x y)=true:=λx y q1 q2 q3 q4 q5 q6=>by
  refine yXi.2 ⟨?_,?_,?_,?_⟩
  ·simp[impF,Fm.ok,yKc,xZn,yUc,q1,q2,bE]
  ·simp only[impF,Fm.size,yQ7,yQy];omega
  ·simp only[impF,Fm.deep,yZe,yWu];omega
  ·simp only[impF,opsB,yJn,q3,q4,List.isEmpty_nil,Bool.or_true,Bool.and_true,bAt,dTe];grind
 grind
theorem yXp {α:Type}{c:Prop} [Decidable c]{a r:α}{x:Option α}(h:(if c then some a else x)=some r):(c/\r=a)\/(¬c/\x=some r):=by
 grind
theorem vJa {α:Type}{c:Prop} [Decidable c]{a b r:α}(h:(if c then a else b)=r):(c/\a=r)\/(¬c/\b=r):=by
 grind
theorem zU1 {ca rule:Nat}{r:Rw}(h:rowS ca rule=some r):(rule=1/\r=⟨true,true,0,0⟩)\/(rule=2/\r=⟨true,false,2,0⟩)\/(rule=3/\r=⟨true,false,3,0⟩)\/(rule=4/\r=⟨false,true,3,0⟩)\/(rule=5/\r=⟨true,false,4,0⟩)\/(rule=6/\r=⟨false,true,4,0⟩) \/
  (rule=7/\r=⟨true,false,5,0⟩)\/(rule=8/\r=⟨false,true,5,0⟩)\/(rule=9/\r=⟨true,false,6,0⟩)\/(rule=10/\r=⟨false,true,6,0⟩)\/(rule=11/\r=⟨true,false,7,0⟩)\/(rule=12/\r=⟨false,true,7,0⟩) \/
  (rule=13/\r=⟨true,false,8,1⟩)\/(rule=14/\r=⟨false,true,8,2⟩)\/(rule=15/\r=⟨true,false,9,2⟩)\/(rule=16/\r=⟨false,true,9,1⟩)\/(rule=17/\r=⟨false,false,0,0⟩)\/(rule=18/\r=⟨false,true,5,0⟩):=by
 unfold rowS rowK at h;rcases yXp h with⟨⟨hc,hr⟩,hq⟩|⟨_,h⟩
 ·subst hr;subst hq;simp
 rcases yXp h with⟨⟨hc,hr⟩,hq⟩|⟨_,h⟩
 ·subst hr;subst hq;simp
 rcases yXp h with⟨⟨hc,hr⟩,hq⟩|⟨_,h⟩
 ·subst hr;subst hq;simp
 rcases yXp h with⟨⟨hc,hr⟩,hq⟩|⟨_,h⟩
 ·subst hr;subst hq;simp
 rcases yXp h with⟨⟨hc,hr⟩,hq⟩|⟨_,h⟩
 ·subst hr;subst hq;simp
 rcases yXp h with⟨hr,hq⟩|⟨_,h⟩
 ·subst hr;subst hq;simp
 rcases yXp h with⟨hr,hq⟩|⟨_,h⟩
 ·subst hr;subst hq;simp
 rcases yXp h with⟨hr,hq⟩|⟨_,h⟩
 ·subst hr;subst hq;simp
 rcases yXp h with⟨hr,hq⟩|⟨_,h⟩
 ·subst hr;subst hq;simp
 rcases yXp h with⟨hr,hq⟩|⟨_,h⟩
 ·subst hr;subst hq;simp
 rcases yXp h with⟨hr,hq⟩|⟨_,h⟩
 ·subst hr;subst hq;simp
 rcases yXp h with⟨hr,hq⟩|⟨_,h⟩
 ·subst hr;subst hq;simp
 rcases yXp h with⟨hr,hq⟩|⟨_,h⟩
 ·subst hr;subst hq;simp
 rcases yXp h with⟨hr,hq⟩|⟨_,h⟩
 ·subst hr;subst hq;simp
 grind
theorem vJ0 {ca rule:Nat}{r:Rw}(h:rowS ca rule=some r):(rule=18->ca=2)/\(13<=rule->rule<=16->ca=3):=by
 unfold rowS rowK at h;rcases yXp h with⟨⟨hc,hr⟩,hq⟩|⟨_,h⟩
 ·omega
 rcases yXp h with⟨⟨hc,hr⟩,hq⟩|⟨_,h⟩
 ·omega
 rcases yXp h with⟨⟨hc,hr⟩,hq⟩|⟨_,h⟩
 ·omega
 rcases yXp h with⟨⟨hc,hr⟩,hq⟩|⟨_,h⟩
 ·omega
 rcases yXp h with⟨⟨hc,hr⟩,hq⟩|⟨_,h⟩
 ·omega
 rcases yXp h with⟨hr,hq⟩|⟨_,h⟩
 ·omega
 rcases yXp h with⟨hr,hq⟩|⟨_,h⟩
 ·omega
 rcases yXp h with⟨hr,hq⟩|⟨_,h⟩
 ·omega
 rcases yXp h with⟨hr,hq⟩|⟨_,h⟩
 ·omega
 rcases yXp h with⟨hr,hq⟩|⟨_,h⟩
 ·omega
 grind
section
variable (nm:ByteArray)(g:Fm)
end
section
variable {nm:ByteArray}{g:Fm}{ca:Nat}
theorem xGr {ca:Nat}(hc:ca≠3){rule:Nat}{r:Rw}(h:rowS ca rule=some r):r.asks=0:=by
 have hca:=vJ0 h;rcases zU1 h with⟨rfl,rfl⟩|⟨rfl,rfl⟩|⟨rfl,rfl⟩|⟨rfl,rfl⟩|⟨rfl,rfl⟩|⟨rfl,rfl⟩|⟨rfl,rfl⟩|⟨rfl,rfl⟩|⟨rfl,rfl⟩|⟨rfl,rfl⟩|⟨rfl,rfl⟩|⟨rfl,rfl⟩|⟨rfl,rfl⟩|⟨rfl,rfl⟩|⟨rfl,rfl⟩|⟨rfl,rfl⟩|⟨rfl,rfl⟩|⟨rfl,rfl⟩
 all_goals first
  | rfl
  | exact absurd (hca.2 (by decide) (by decide)) hc
end
section
variable {nm:ByteArray}{g:Fm}{ca:Nat}
theorem zUy {f:Fm}(h:fmB ca f=true):f.right=true:=by
 unfold fmB at h;grind
theorem yW7 {l:List Fm}(h:l.all (fmB ca)=true):l.all Fm.right=true:=List.all_eq_true.2 λf hf=>zUy (List.all_eq_true.1 h f hf)
mutual
noncomputable def zWz (ca:Nat):Tr->Bool
 | t@(.mk _ _ _ _ _ sub)=>decide (yZh ca t=0)&&yGi ca sub
noncomputable def yGi (ca:Nat):List Tr->Bool
 | []=>true
 | a::l=>zWz ca a&&yGi ca l
end
mutual
theorem zVg (ca:Nat):∀(p:List Nat) (t:Tr),(yQr (yZh ca) (t.walk p)).2=0↔zWz ca t=true
 | p,.mk rule s f u n sub=>by
  have ih:=zJ4 ca p 0 sub;simp only[Tr.walk,yQr,zWz,bAt,dTe];grind
theorem zJ4 (ca:Nat):∀(p:List Nat) (i:Nat) (l:List Tr),(yQr (yZh ca) (yQs p i l)).2=0↔yGi ca l=true
 | _,_,[]=>by simp[yQs,yQr,yGi]
 | p,i,a::l=>by
  have i1:=zVg ca (p++[i]) a;have i2:=zJ4 ca p (i+1) l;simp only[yQs,yX7,yGi,bAt];grind
end
theorem zQs {t:Tr}:(yXc ca t).2=0↔yXo ca=true/\t.steps<=300/\zWz ca t=true:=by
 unfold yXc;cases hk:yXo ca
 ·simp
 ·simp only[Bool.not_true,bFt,if_false,true_and];split
  ·simp;omega
  ·rename_i h;rw[zVg];grind
end
theorem zUb (s:Sq):∀(ad:List Sq) (ts:List Tr),yXm s ad ts=true->∀(i:Nat) (m:Sq) (t:Tr),ad[i]?=some m->ts[i]?=some t->yXj t.sq (s.plus m)=true
 | [],_,_,i,m,t,h,_=>by simp at h
 | _::_,[],_,i,m,t,_,h=>by simp at h
 | a::ad,b::ts,h,i,m,t,hm,ht=>by
  simp only[yXm,bAt] at h;cases i with
  | zero =>
   grind
  | succ i=>exact zUb s ad ts h.2 i m t (by simpa using hm) (by simpa using ht)
theorem wUe {a b:Mk}:mkB a b=true↔a=b:=by
 obtain⟨i,w,f⟩:=a;obtain⟨i',w',f'⟩:=b;simp only[mkB,bAt,beq_iff_eq,dTe,zYj,Mk.mk.injEq,and_assoc]
theorem yUn {l:List Mk}{m:Mk}:hasT l m=true↔m∈l:=by
 simp only[hasT,List.any_eq_true,wUe];constructor
 ·rintro⟨x,h,rfl⟩;exact h
 ·exact λh=>⟨m,h,rfl⟩
theorem wJt {l:List Mk}{m x:Mk}:x∈addT l m↔x∈l\/x=m:=by
 unfold addT;split
 ·rename_i h;rw[yUn] at h;constructor
  ·exact .inl
  ·rintro (h'|rfl)
   ·exact h'
   ·exact h
 ·simp
theorem yV7 {x:Mk}:∀ {q l:List Mk},x∈yQu l q↔x∈l\/x∈q
 | [],l=>by simp[yQu]
 | m::q,l=>by
  have:=yV7 (x:=x) (q:=q) (l:=addT l m);unfold yQu at this ⊢;rw[List.foldl_cons,this,wJt];simp[or_assoc]
theorem wV0 {l:List Mk}{m:Mk}:(addT l m).length<=l.length+1:=by
 unfold addT;split<;>simp
def yZ6 (b:Bool)(l:List Mk):List Fm:=(l.filter λm=>m.is == b).map (·.f)
theorem yJ7 {b:Bool}{l:List Mk}{f:Fm}:f∈yZ6 b l↔∃m∈l,m.is=b/\m.f=f:=by
 simp only[yZ6,List.mem_map,List.mem_filter,beq_iff_eq,and_assoc]
def sqT (l:List Mk):Sq:=⟨yZ6 true l,yZ6 false l⟩
def yJm (b:Bool)(o:Nat):Nat:=if o=3 then (if b then 3 else 4) else if o=4 then (if b then 5 else 6) else if o=5 then (if b then 7 else 8) else if o=6 then (if b then 9 else 10) else if o=7 then (if b then 11 else 12) else 0
noncomputable def yY7 (l:List Mk)(m:Mk)(c:Bool):Nat:=if !c then yJm m.is m.f.op else if hasT l ⟨!m.is,m.w,m.f⟩ then 1 else 2
def tm0:Tm:=.mk false bE []
mutual
noncomputable def yJc (l:List Mk):Nd->Tr
 | .mk m c w sub=>.mk (yY7 l m c) (sqT l) m.f tm0 bE (if c then [] else yXa l (yQi m 0) sub)
noncomputable def yXa (l:List Mk):List (List Mk)->List Nd->List Tr
 | q::qs,n::ns=>yJc (yQu l q) n::yXa l qs ns
 | _,_=>[]
end
mutual
noncomputable def bigT (l:List Mk):Nd->Bool
 | .mk m c w sub=>decide (64<(yZ6 true l).length) || decide (64<(yZ6 false l).length) || (!c&&yYv l (yQi m 0) sub)
noncomputable def yYv (l:List Mk):List (List Mk)->List Nd->Bool
 | q::qs,n::ns=>bigT (yQu l q) n || yYv l qs ns
 | _,_=>false
end
def GoodT (l:List Mk):Prop:=∀m∈l,fmB 1 m.f=true/\m.w=0
theorem GoodT.adds {l q:List Mk}(h:GoodT l)(h':GoodT q):GoodT (yQu l q):=λm hm=>(yV7.1 hm).elim (h m) (h' m)
theorem yJj {l:List Mk}{m:Mk}{c:Bool}{w:Int}{k:Nat}(h:yV0 l m c w k=0) :
  m∈l/\(c=true->yKn l m=true)/\(c=false->(yZd m).1≠0)/\w=0/\k=(if c then 0 else (yQi m w).length):=by
 unfold yV0 at h;rcases vJa h with⟨_,h⟩|⟨h1,h⟩
 ·cases h
 rcases vJa h with⟨_,h⟩|⟨h2,h⟩
 ·cases h
 have h3:k=(if c then 0 else (yQi m w).length):=Decidable.byContradiction λhc=>by rw[if_pos hc] at h;cases h
 rw[<- yUn];simp only[Bool.or_eq_true,bAt,Bool.not_eq_true',dTe,not_or,not_and,Bool.not_eq_false,Decidable.not_not] at h1 h2;exact⟨h1.1.1,h1.1.2,λhc=>h1.2 hc,h2,h3⟩
theorem yKf {m:Mk}(h:(yZd m).1≠0):∃r,rowT m.is m.f.op=some r/\m.f.subs.length=r.2/\yZd m=r:=by
 unfold yZd at h ⊢;cases hr:rowT m.is m.f.op with
 | none=>rw[hr] at h;exact absurd rfl h
 | some r =>
  rw[hr] at h;by_cases hl:m.f.subs.length=r.2
  ·exact⟨r,rfl,hl,by simp only[if_pos hl]⟩
  ·simp only[if_neg hl] at h;exact absurd rfl h
theorem zVj {m:Mk}(hf:fmB 1 m.f=true)(h:(yZd m).1≠0):(∃n a,m.f=.mk 3 n [] [a]/\fmB 1 a=true)\/∃o n a b,(o=4\/o=5\/o=6\/o=7)/\m.f=.mk o n [] [a,b]/\fmB 1 a=true/\fmB 1 b=true:=by
 obtain⟨r,hr,hl,_⟩:=yKf h;obtain⟨is,w,⟨o,n,us,sub⟩⟩:=m;simp only[Fm.op,Fm.subs] at hr hl hf;have hpart:∀g∈sub,fmB 1 g=true:=λg hg=>wKd hf hg;have h4:=(yXi.1 hf).2.2.2;simp only[opsB,bAt,dTe] at h4;have hus:us=[]:=by simpa using h4.1.2
 have ho:o<=7:=by have:=h4.1.1.2;simpa using this
 subst hus;unfold rowT at hr;have h2:∀n,sub.length=2->∃o' n' a b,(o'=4\/o'=5\/o'=6\/o'=7)->Fm.mk o n [] sub=.mk o' n' [] [a,b]/\fmB 1 a=true/\fmB 1 b=true:=λn hs=>by
  match sub,hs,hpart with
  | [a,b],_,hp=>exact⟨o,n,a,b,λ_=>⟨rfl,hp a (by simp),hp b (by simp)⟩⟩
 have h2':sub.length=2->(o=4\/o=5\/o=6\/o=7)->∃o' n' a b,(o'=4\/o'=5\/o'=6\/o'=7)/\Fm.mk o n [] sub=.mk o' n' [] [a,b]/\fmB 1 a=true/\fmB 1 b=true:=λhs hq=>by
  match sub,hs,hpart with
  | [a,b],_,hp=>exact⟨o,n,a,b,hq,rfl,hp a (by simp),hp b (by simp)⟩
 rcases yXp hr with⟨h3,rfl⟩|⟨_,hr⟩
 ·have:o=3:=by omega
  subst this
  match sub,hl,hpart with
  | [a],_,hp=>exact .inl ⟨n,a,rfl,hp a (by simp)⟩
 rcases yXp hr with⟨h3,rfl⟩|⟨_,hr⟩
 ·exact .inr (h2' hl (by omega))
 rcases yXp hr with⟨h3,rfl⟩|⟨_,hr⟩
 ·exact .inr (h2' hl (by omega))
 rcases yXp hr with⟨h3,rfl⟩|⟨_,hr⟩
 ·exact .inr (h2' hl (by omega))
 rcases yXp hr with⟨h3,rfl⟩|⟨_,hr⟩
 ·exact .inr (h2' hl (by omega))
 rcases yXp hr with⟨h3,rfl⟩|⟨_,hr⟩
 ·omega
 rcases yXp hr with⟨h3,rfl⟩|⟨_,hr⟩
 ·omega
 cases hr
theorem yWy {m:Mk}(hf:fmB 1 m.f=true)(h:(yZd m).1≠0)(w:Int) :
  (∃r,rowK (yJm m.is m.f.op)=some r/\r.asks=0/\r.op=m.f.op/\r.left=m.is/\r.right=!m.is) /\
  addS 1 (yJm m.is m.f.op) m.f ((m.f.subs[0]?).getD fm0) ((m.f.subs[1]?).getD fm0)=(yQi m w).map sqT /\
  (∀q∈yQi m w,∀x∈q,fmB 1 x.f=true/\x.w=m.w)/\3<=yJm m.is m.f.op/\yJm m.is m.f.op<=12/\0<(yQi m w).length:=by
 have hm:=hf;rcases zVj hf h with⟨n,a,he,ha⟩|⟨o,n,a,b,ho,he,ha,hb⟩
 ·obtain⟨is,w',f⟩:=m;simp only at he hm;subst he;cases is
  ·refine⟨⟨_,rfl,rfl,rfl,rfl,rfl⟩,rfl,?_,of_decide_eq_true rfl,of_decide_eq_true rfl,of_decide_eq_true rfl⟩;show ∀q∈[[(⟨true,w',a⟩:Mk)]],_;simp[ha]
  ·refine⟨⟨_,rfl,rfl,rfl,rfl,rfl⟩,rfl,?_,of_decide_eq_true rfl,of_decide_eq_true rfl,of_decide_eq_true rfl⟩;show ∀q∈[[(⟨false,w',a⟩:Mk)]],_;simp[ha]
 ·obtain⟨is,w',f⟩:=m;simp only at he hm;subst he;rcases ho with rfl|rfl|rfl|rfl
  ·cases is
   ·refine⟨⟨_,rfl,rfl,rfl,rfl,rfl⟩,rfl,?_,of_decide_eq_true rfl,of_decide_eq_true rfl,of_decide_eq_true rfl⟩;show ∀q∈[[(⟨false,w',a⟩:Mk)],[⟨false,w',b⟩]],_;simp[ha,hb]
   ·refine⟨⟨_,rfl,rfl,rfl,rfl,rfl⟩,rfl,?_,of_decide_eq_true rfl,of_decide_eq_true rfl,of_decide_eq_true rfl⟩;show ∀q∈[[(⟨true,w',a⟩:Mk),⟨true,w',b⟩]],_;simp[ha,hb]
  ·cases is
   ·refine⟨⟨_,rfl,rfl,rfl,rfl,rfl⟩,rfl,?_,of_decide_eq_true rfl,of_decide_eq_true rfl,of_decide_eq_true rfl⟩;show ∀q∈[[(⟨false,w',a⟩:Mk),⟨false,w',b⟩]],_;simp[ha,hb]
   ·refine⟨⟨_,rfl,rfl,rfl,rfl,rfl⟩,rfl,?_,of_decide_eq_true rfl,of_decide_eq_true rfl,of_decide_eq_true rfl⟩;show ∀q∈[[(⟨true,w',a⟩:Mk)],[⟨true,w',b⟩]],_;simp[ha,hb]
  ·cases is
   ·refine⟨⟨_,rfl,rfl,rfl,rfl,rfl⟩,rfl,?_,of_decide_eq_true rfl,of_decide_eq_true rfl,of_decide_eq_true rfl⟩;show ∀q∈[[(⟨true,w',a⟩:Mk),⟨false,w',b⟩]],_;simp[ha,hb]
   ·refine⟨⟨_,rfl,rfl,rfl,rfl,rfl⟩,rfl,?_,of_decide_eq_true rfl,of_decide_eq_true rfl,of_decide_eq_true rfl⟩;show ∀q∈[[(⟨false,w',a⟩:Mk)],[⟨true,w',b⟩]],_;simp[ha,hb]
  ·obtain⟨i1,i2⟩:=vQ2 hm;cases is
   ·refine⟨⟨_,rfl,rfl,rfl,rfl,rfl⟩,rfl,?_,of_decide_eq_true rfl,of_decide_eq_true rfl,of_decide_eq_true rfl⟩;show ∀q∈[[(⟨true,w',a⟩:Mk),⟨false,w',b⟩],[⟨true,w',b⟩,⟨false,w',a⟩]],_;simp[ha,hb]
   ·refine⟨⟨_,rfl,rfl,rfl,rfl,rfl⟩,rfl,?_,of_decide_eq_true rfl,of_decide_eq_true rfl,of_decide_eq_true rfl⟩;show ∀q∈[[(⟨true,w',impF a b⟩:Mk),⟨true,w',impF b a⟩]],_;simp[i1,i2]
theorem row1 (rule:Nat):rowS 1 rule=rowK rule:=by
 unfold rowS;rw[if_neg (by omega),if_neg (by omega),if_neg (by omega),if_neg (by omega),if_neg (by omega)]
theorem wQk {l:List Fm}{f:Fm}(hf:fmB 1 f=true)(h:f∈l):hasF l f=true:=yYq.2 ⟨f,h,zX9 (zUy hf)⟩
theorem wG8 {s:Sq}{rule:Nat}{r:Rw}{main:Fm}{u:Tm}{nm:ByteArray}(hv:yXs 1 s=true)(hr:rowK rule=some r)(ha:r.asks=0)(hm:fmB 1 main=true)(hop:r.op=0\/r.op=main.op)(hl:r.left=true->main∈s.l)(hrr:r.right=true->main∈s.r) :
  yXt 1 s rule main u nm=(addS 1 rule main ((main.subs[0]?).getD fm0) ((main.subs[1]?).getD fm0),0):=by
 have hadd:yJ6 1 rule r main u nm=(addS 1 rule main ((main.subs[0]?).getD fm0) ((main.subs[1]?).getD fm0),0):=by
  have e:(!fmB 1 main || (decide (r.op≠0)&&decide (main.op≠r.op)))=false:=by
   rw[hm];rcases hop with h|h<;>simp[h]
  simp only[yJ6,e,bFt,if_false,if_pos ha]
 unfold yXt;rw[hv,row1,hr];simp only[hadd,ha];have h1:(r.left&&!hasF s.l main)=false:=by
  cases hq:r.left
  ·rfl
  ·rw[wQk hm (hl hq)];rfl
 have h2:(r.right&&!hasF s.r main)=false:=by
  cases hq:r.right
  ·rfl
  ·rw[wQk hm (hrr hq)];rfl
 rw[h1,h2];rfl
theorem yG4 {l:List Mk}(h:GoodT l)(b:Bool):(yZ6 b l).all (fmB 1)=true:=List.all_eq_true.2 λf hf=>by
 obtain⟨m,hm,_,rfl⟩:=yJ7.1 hf;exact (h m hm).1
theorem wXu {l:List Mk}(h:GoodT l)(h1:(yZ6 true l).length<=64)(h2:(yZ6 false l).length<=64):yXs 1 (sqT l)=true:=by
 unfold yXs;rw[show (sqT l).l=yZ6 true l from rfl,show (sqT l).r=yZ6 false l from rfl,yG4 h,yG4 h,dEt h1,dEt h2];rfl
theorem xQs {a b:Sq}(h1:a.l.all Fm.right=true)(h2:a.r.all Fm.right=true)(h3:∀f∈a.l,f∈b.l)(h4:∀f∈a.r,f∈b.r):yXj a b=true:=by
 have key:∀l m:List Fm,l.all Fm.right=true->(∀f∈l,f∈m)->allF l m=true:=λl m h hm=>xQl.2 λf hf=>yYq.2 ⟨f,hm f hf,zX9 (List.all_eq_true.1 h f hf)⟩;unfold yXj;rw[key _ _ h1 h3,key _ _ h2 h4];rfl
theorem zGt {l q:List Mk}(hl:GoodT (yQu l q)):yXj (sqT (yQu l q)) ((sqT l).plus (sqT q))=true:=by
 have key:∀b,∀f∈yZ6 b (yQu l q),f∈yZ6 b l++yZ6 b q:=λb f hf=>by
  obtain⟨m,hm,hb,he⟩:=yJ7.1 hf;rcases yV7.1 hm with h|h
  ·exact List.mem_append_left _ (yJ7.2 ⟨m,h,hb,he⟩)
  ·exact List.mem_append_right _ (yJ7.2 ⟨m,h,hb,he⟩)
 exact xQs (yW7 (yG4 hl true)) (yW7 (yG4 hl false)) (key true) (key false)
theorem xJe (l:List Mk):∀n:Nd,(yJc l n).sq=sqT l
 | .mk ..=>rfl
theorem yVx (l:List Mk):∀(qs:List (List Mk)) (ns:List Nd),qs.length=ns.length->(yXa l qs ns).length=qs.length
 | [],[],_=>rfl
 | q::qs,n::ns,h=>by simp only[yXa,List.length_cons,yVx l qs ns (by simpa using h)]
 | [],_::_,h=>by simp at h
 | _::_,[],h=>by simp at h
theorem zVa {l:List Mk}(hl:GoodT l):∀(qs:List (List Mk)) (ns:List Nd),(∀q∈qs,GoodT q)->yXm (sqT l) (qs.map sqT) (yXa l qs ns)=true
 | [],ns,_=>by simp[yXm]
 | q::qs,[],_=>by simp[yXa,yXm]
 | q::qs,n::ns,h=>by
  simp only[List.map_cons,yXa,yXm,xJe,bAt];exact⟨zGt (hl.adds (h q (by simp))),zVa hl qs ns λq' hq=>h q' (by simp[hq])⟩
mutual
theorem xKu:∀(n:Nd)(l:List Mk)(p:List Nat),GoodT l->(yZi l p n).2=0->bigT l n=false->zWz 1 (yJc l n)=true
 | .mk m c w sub,l,p,hl,h,hb=>by
  unfold yZi at h;split at h
  ·rename_i h1;exact absurd h h1
  rename_i h1;obtain⟨hm,hcl,hfind,rfl,hk⟩:=yJj (Decidable.not_not.1 h1);unfold bigT at hb;simp only[Bool.or_eq_false_iff,decide_eq_false_iff_not,Nat.not_lt] at hb;obtain⟨⟨b1,b2⟩,b3⟩:=hb;have hv:=wXu hl b1 b2;have hf:=(hl m hm).1;have hml:m.is=true->m.f∈(sqT l).l:=λh=>yJ7.2 ⟨m,hm,h,rfl⟩;have hmr:m.is=false->m.f∈(sqT l).r:=λh=>yJ7.2 ⟨m,hm,h,rfl⟩;unfold yJc;cases c
  ·simp only[bFt,if_false] at h hk;rw[Bool.not_false,Bool.true_and] at b3;have hft:=hfind rfl;obtain⟨⟨r,hr,ha,hop,hrl,hrr⟩,hadd,hgood,_⟩:=yWy hf hft 0;have hg:∀q∈yQi m 0,GoodT q:=λq hq x hx=>⟨(hgood q hq x hx).1,((hgood q hq x hx).2).trans (hl m hm).2⟩
   have hrule:yY7 l m false=yJm m.is m.f.op:=rfl;simp only[bFt,if_false,zWz,hrule,bAt,dTe];have hst:=wG8 (u:=tm0) (nm:=bE) hv hr ha hf (.inr hop) (λh=>hml (hrl▸h)) (λh=>hmr (by rw[hrr] at h;simpa using h));rw[hadd] at hst;refine⟨?_,zUs sub (yQi m 0) l p 0 hl hg h b3⟩;simp only[yZh,hst,ne_eq,nTf,if_false,List.length_map,yVx l _ _ hk.symm,zVa hl _ _ hg,if_true]
  ·have hc:=hcl rfl;simp only[if_true,zWz,yGi,Bool.and_true,dTe];by_cases ho:hasT l ⟨!m.is,m.w,m.f⟩=true
   ·have hrule:yY7 l m true=1:=by unfold yY7;rw[ho];rfl
    have hop:=yUn.1 ho;have hst:=wG8 (u:=tm0) (nm:=bE) (rule:=1) (r:=⟨true,true,0,0⟩) hv rfl rfl hf (.inl rfl) (λ_=>by
     cases hi:m.is
     ·rw[hi] at hop;exact yJ7.2 ⟨_,hop,rfl,rfl⟩
     ·exact hml hi) (λ_=>by
     cases hi:m.is
     ·exact hmr hi
     ·rw[hi] at hop;exact yJ7.2 ⟨_,hop,rfl,rfl⟩)
    simp only[yZh,hrule,hst];rfl
   ·have ho':hasT l ⟨!m.is,m.w,m.f⟩=false:=by simpa using ho
    have hrule:yY7 l m true=2:=by unfold yY7;rw[ho'];rfl
    unfold yKn at hc;rw[ho',Bool.or_false,bAt,dTe] at hc;have hst:=wG8 (u:=tm0) (nm:=bE) (rule:=2) (r:=⟨true,false,2,0⟩) hv rfl rfl hf (.inr hc.2.symm) (λ_=>hml hc.1) (λh=>by cases h);simp only[yZh,hrule,hst];rfl
theorem zUs:∀(ns:List Nd)(qs:List (List Mk))(l:List Mk)(p:List Nat)(i:Nat),GoodT l->(∀q∈qs,GoodT q)->(yX2 l p i qs ns).2=0->yYv l qs ns=false->yGi 1 (yXa l qs ns)=true
 | [],qs,l,p,i,_,_,_,_=>by cases qs<;>rfl
 | n::ns,[],l,p,i,_,_,_,_=>rfl
 | n::ns,q::qs,l,p,i,hl,hg,h,hb=>by
  unfold yX2 at h;unfold yYv at hb;rw[Bool.or_eq_false_iff] at hb;split at h
  ·rename_i h1;exact absurd h h1
  rename_i h1;unfold yXa;simp only[yGi,bAt];exact⟨xKu n _ _ (hl.adds (hg q (by simp))) (Decidable.not_not.1 h1) hb.1,zUs ns qs l p _ hl (λq' hq=>hg q' (by simp[hq])) h hb.2⟩
end
theorem zYr (b:Bool)(o:Int)(x y:Fm):∀q∈askT b o x y,q.length<=2:=by
 unfold askT
 repeat' split
 all_goals simp
theorem zQn (b:Bool)(o:Int)(x y:Fm):(askT b o x y).length<=2:=by
 unfold askT
 repeat' split
 all_goals simp
theorem yJr (m:Mk)(w:Int):∀q∈yQi m w,q.length<=2:=by
 unfold yQi;split
 ·simp
 ·intro q hq;obtain⟨l,hl,rfl⟩:=List.mem_map.1 hq;rw[List.length_map];exact zYr _ _ _ _ l hl
theorem yXz (m:Mk)(w:Int):(yQi m w).length<=2:=by
 unfold yQi;split
 ·exact Nat.zero_le _
 ·rw[List.length_map];exact zQn ..
end Go.Proofs.Tryz
namespace Go.Proofs.Tryz
open Go Go.Iv
set_option maxRecDepth 4000
variable (gl:Nat->Option IV)
theorem zKj (v w:Bool)(n m:ByteArray)(us ws:List Tm)(x y:IV)(hx:IsTm (.mk v n us) x)(hy:IsTm (.mk w m ws) y)
  (IH:∀(t t':Tag) (xs ys:List IV),okEs t 3->okEs t' 3->IsTms us xs->IsTms ws ys->∀st,ICall prog gl 106 [.sl t xs,.sl t' ys] st (λx st'=>x=.raw (.bool (eqB us ws))/\st'=st)) (st:ISt) :
  ICall prog gl 55 [x,y] st (λr st'=>r=.raw (.bool (eqB (Tm.mk v n us) (.mk w m ws)))/\st'=st):=by
 obtain⟨tx,cx,rfl,htx,hcx⟩:=hx.mk;obtain⟨ty,cy,rfl,hty,hcy⟩:=hy.mk;refine iI func55 ?_;by_cases hv:v=w
 ·subst hv;by_cases hnm:n=m
  ·subst hnm;simp only[go_sem,zE,zA,decide_true];refine (IH tx ty cx cy htx hty hcx hcy _).mono ?_;rintro _ _ ⟨rfl,rfl⟩;simp only[go_sem,zE];refine yQ0 ⟨?_,rfl⟩;by_cases hc:us=ws
   ·subst hc;rw[yZ2.2 rfl,yZ2.2 rfl]
   ·rw[yZf.2 hc,yZf.2 (by rintro⟨⟩;exact hc rfl)]
  ·simp only[go_sem,zE,zA,dEf hnm];exact yQ0 ⟨by rw[yZf.2 (by rintro⟨⟩;exact hnm rfl)],rfl⟩
 ·simp only[go_sem,zE,zA,beq_eq_false_iff_ne.2 hv];exact yQ0 ⟨by rw[yZf.2 (by rintro⟨⟩;exact hv rfl)],rfl⟩
theorem zZ4 (t t':Tag)(us ws:List Tm)(xs ys:List IV)(ht:okEs t 3)(ht':okEs t' 3)(ha:IsTms us xs)(hb:IsTms ws ys)(st:ISt) :
  ICall prog gl 106 [.sl t xs,.sl t' ys] st (λx st'=>x=.raw (.bool (eqB us ws))/\st'=st):=by
 obtain⟨rfl,rfl⟩:=ha.z;obtain⟨rfl,rfl⟩:=hb.z;refine iI func106 ?_;simp only[go_sem,zE,zB,zA,zM,zS,zL,reduceCtorEq,List.length_nil,decide_true];intros;refine LoopC.ctr 0 (λk fr st' ds=>fr 0=.iv (.sl t [])/\fr 5=.iv (.raw (.int .i64 k))/\st'=st/\ds=[]) ?_ ?_ ?_
 ·simp only[go_sem,zE,zB,zA,zM,zS,zL,reduceCtorEq]
  first|rfl|exact⟨rfl,rfl⟩
 ·rintro k fr _ ds hlt;omega
 ·rintro fr _ ds ⟨h0,h5,rfl,rfl⟩;simp only[go_sem,zE,zB,zA,zM,zS,zL,reduceCtorEq,h0,h5,List.length_nil,yQk (nLi _)];intros;exact yQ0 ⟨by rw[yZ2.2 rfl],rfl⟩
theorem zJi (a b:Tm)(x y:IV)(hx:IsTm a x)(hy:IsTm b y)(st:ISt):ICall prog gl 55 [x,y] st (λr st'=>r=.raw (.bool (eqB a b))/\st'=st):=by
 obtain⟨v,n,us⟩:=a;obtain⟨w,m,ws⟩:=b;exact zKj gl v w n m us ws x y hx hy (λt t' xs ys h1 h2 h3 h4 st=>zZ4 gl t t' us ws xs ys h1 h2 h3 h4 st) st
def kSF (f:Fm):Prop:=∀(g:Fm) (x y:IV) (_:IsFm f x) (_:IsFm g y) (st:ISt),ICall prog gl 54 [x,y] st (λr st'=>r=.raw (.bool (eqB f g))/\st'=st)
theorem yYo (us ws:List Fm)(IH:∀a∈us,kSF gl a)(t t':Tag)(xs ys:List IV)(ht:okEs t 4)(ht':okEs t' 4)(ha:IsFms us xs)(hb:IsFms ws ys)(st:ISt) :
  ICall prog gl 105 [.sl t xs,.sl t' ys] st (λx st'=>x=.raw (.bool (eqB us ws))/\st'=st):=by
 refine iI func105 ?_;simp only[go_sem,zE,reduceCtorEq,ha.len,hb.len];intro hla hlb;refine yJ4 (λh=>?_) (λh=>?_)
 ·have hne:us≠ws:=by rintro rfl;simp at h
  simp only[go_sem];exact yQ0 ⟨by rw[yZf.2 hne],rfl⟩
 have hlen:us.length=ws.length:=by simp at h;omega
 refine LoopC.ctr us.length (λk fr st' ds=>us.take k=ws.take k/\fr 0=.iv (.sl t xs)/\fr 1=.iv (.sl t' ys)/\fr 5=.iv (.raw (.int .i64 k))/\st'=st/\ds=[]) ?_ ?_ ?_
 ·simp only[go_sem,zE,reduceCtorEq];rfl
 ·rintro k fr st' ds hlt ⟨hn,h0,h1,h5,rfl,rfl⟩;obtain⟨a,hka⟩:=yQ3 hlt;obtain⟨b,hkb⟩:=yQ3 (hlen▸hlt);obtain⟨x,hkx,hx⟩:=ha.get hka;obtain⟨y,hky,hy⟩:=hb.get hkb;have hcall:=IH a (lMg hka) b x y hx hy st';obtain⟨o,n,cs,sub⟩:=a;obtain⟨o',m,ds,sub'⟩:=b;obtain⟨tx,cx,sx,dx,rfl,_⟩:=hx.mk;obtain⟨ty,cy,sy,dy,rfl,_⟩:=hy.mk;simp only[go_sem,zE,zB,zA,reduceCtorEq,h0,h1,h5,ha.len,lt_i hlt,yQ2 ht,yQ2 ht',iNn,hkx,hky,fits];intro _;refine hcall.mono ?_;rintro _ _ ⟨rfl,rfl⟩;by_cases hc:Fm.mk o n cs sub=.mk o' m ds sub'
  ·simp only[go_sem,zE,reduceCtorEq,h0,h1,h5,yQa hlt (show us.length<=281474976710656 by omega),yZ2.2 hc];rw[yQ8 hka,yQ8 hkb,hn,hc]
  ·have hne:us≠ws:=by
    rintro rfl;rw[hka] at hkb;exact hc (Option.some.inj hkb)
   simp only[go_sem,yZf.2 hc];exact yQ0 ⟨by rw[yZf.2 hne],rfl⟩
 ·rintro fr st' ds ⟨hn,h0,h1,h5,rfl,rfl⟩;simp only[go_sem,zE,reduceCtorEq,h0,h5,ha.len,yQk (nLi _)];intro _;have he:us=ws:=by rw[lTl] at hn;rw[hn,hlen,lTl]
  exact yQ0 ⟨by rw[yZ2.2 he],rfl⟩
theorem zKk (o:Nat)(n:ByteArray)(us:List Tm)(sub:List Fm)(IH:∀a∈sub,kSF gl a):kSF gl (.mk o n us sub):=by
 intro g x y hx hy st;obtain⟨o',m,ws,sub'⟩:=g;obtain⟨tx,cx,sx,dx,rfl,ho,htx,hcx,hsx,hdx⟩:=hx.mk;obtain⟨ty,cy,sy,dy,rfl,ho',hty,hcy,hsy,hdy⟩:=hy.mk;have hcall:=yYo gl sub sub' IH sx sy dx dy hsx hsy hdx hdy;refine iI func54 ?_;by_cases hv:o=o'
 ·subst hv;by_cases hnm:n=m
  ·subst hnm;simp only[go_sem,zE,zA,decide_true];refine (zZ4 gl tx ty us ws cx cy htx hty hcx hcy _).mono ?_;rintro _ _ ⟨rfl,rfl⟩;by_cases hc:us=ws
   ·subst hc;simp only[go_sem,zE,zA,yZ2.2 rfl];refine (hcall _).mono ?_;rintro _ _ ⟨rfl,rfl⟩;simp only[go_sem,zE];refine yQ0 ⟨?_,rfl⟩;by_cases hd:sub=sub'
    ·subst hd;rw[yZ2.2 rfl,yZ2.2 rfl]
    ·rw[yZf.2 hd,yZf.2 (by rintro⟨⟩;exact hd rfl)]
   ·simp only[go_sem,zE,yZf.2 hc];exact yQ0 ⟨by rw[yZf.2 (by rintro⟨⟩;exact hc rfl)],rfl⟩
  ·simp only[go_sem,zE,zA,dEf hnm,decide_true];exact yQ0 ⟨by rw[yZf.2 (by rintro⟨⟩;exact hnm rfl)],rfl⟩
 ·have hv':decide ((o:Int)=(o':Int))=false:=dEf (by omega);simp only[go_sem,zE,zA,hv'];exact yQ0 ⟨by rw[yZf.2 (by rintro⟨⟩;exact hv rfl)],rfl⟩
theorem yUl:∀(k:Nat)(f:Fm),SizeOf.sizeOf f<k->kSF gl f
 | 0,f,h=>by omega
 | k+1,.mk o n us sub,h=>zKk gl o n us sub (λa ha=>yUl k a (by
   have:=lSm ha;simp only[Fm.mk.sizeOf_spec] at h;omega))
theorem yV9 (f:Fm):kSF gl f:=yUl gl _ f (Nat.lt_succ_self _)
theorem zZ5 (us ws:List Fm)(t t':Tag)(xs ys:List IV)(ht:okEs t 4)(ht':okEs t' 4)(ha:IsFms us xs)(hb:IsFms ws ys)(st:ISt) :
  ICall prog gl 105 [.sl t xs,.sl t' ys] st (λx st'=>x=.raw (.bool (eqB us ws))/\st'=st):=yYo gl us ws (λa _=>yV9 gl a) t t' xs ys ht ht' ha hb st
theorem zVo (a b:Sq)(x y:IV)(hx:IsSq a x)(hy:IsSq b y)(st:ISt):ICall prog gl 53 [x,y] st (λr st'=>r=.raw (.bool (eqB a b))/\st'=st):=by
 obtain⟨l,r⟩:=a;obtain⟨l',r'⟩:=b;obtain⟨t1,x1,t2,x2,rfl,h1,h2,h3,h4⟩:=hx;obtain⟨t3,x3,t4,x4,rfl,h5,h6,h7,h8⟩:=hy;refine iI func53 ?_;simp only[go_sem,zE,zA];refine (zZ5 gl l l' t1 t3 x1 x3 h1 h5 h2 h6 _).mono ?_;rintro _ _ ⟨rfl,rfl⟩;by_cases hc:l=l'
 ·subst hc;simp only[go_sem,zE,zA,yZ2.2 rfl];refine (zZ5 gl r r' t2 t4 x2 x4 h3 h7 h4 h8 _).mono ?_;rintro _ _ ⟨rfl,rfl⟩;simp only[go_sem,zE];refine yQ0 ⟨?_,rfl⟩;by_cases hd:r=r'
  ·subst hd;rw[yZ2.2 rfl,yZ2.2 rfl]
  ·rw[yZf.2 hd,yZf.2 (by rintro⟨⟩;exact hd rfl)]
 ·simp only[go_sem,zE,yZf.2 hc];exact yQ0 ⟨by rw[yZf.2 (by rintro⟨⟩;exact hc rfl)],rfl⟩
def kCT (us:List Tm):Prop:=∀(tg:Tag) (xs:List IV) (_:okEs tg 3) (_:IsTms us xs) (_:yQy us<=1099511627776) (st:ISt),
 ICall prog gl 108 [.sl tg xs] st (λr st'=>∃tg' ys,r=.sl tg' ys/\okEs tg' 3/\appT us.length tg'/\IsTmsD us ys/\st'=st)
theorem zKl (v:Bool)(n:ByteArray)(us:List Tm)(IH:kCT gl us)(x:IV)(hx:IsTm (.mk v n us) x)(hs:(Tm.mk v n us).size<=1099511627776)(st:ISt) :
  ICall prog gl 58 [x] st (λr st'=>IsTmD (.mk v n us) r/\st'=st):=by
 obtain⟨tx,cx,rfl,htx,hcx⟩:=hx.mk;simp only[Tm.size] at hs;have hcall:=IH tx cx htx hcx (by omega) st;refine iI func58 ?_;simp only[go_sem,zE,zA];refine hcall.mono ?_;rintro _ _ ⟨tg',ys,rfl,he,ha,hys,rfl⟩;simp only[go_sem,zE,zA,zL];exact yQ0 ⟨IsTmD.intro he ha hys,rfl⟩
theorem zZ9 (us:List Tm):kCT gl us:=by
 intro tg xs htg hxs hsz st;obtain⟨rfl,rfl⟩:=hxs.z;refine iI func108 ?_;simp only[go_sem,zE,zB,zA,zM,zS,zL,reduceCtorEq];refine LoopC.ctr 0 (λk fr st' ds=>(∃b e,fr 3=.iv (.sl ⟨b,.nil,e⟩ []))/\fr 0=.iv (.sl tg [])/\fr 4=.iv (.raw (.int .i64 k))/\st'=st/\ds=[]) ?_ ?_ ?_
 ·simp only[go_sem,zE,zB,zA,zM,zS,zL,reduceCtorEq];exact⟨⟨_,_,rfl⟩,rfl⟩
 ·rintro k fr _ ds hlt;omega
 ·rintro fr _ ds ⟨⟨b,e,f3⟩,f0,f4,rfl,rfl⟩;simp only[go_sem,zE,zB,zA,zM,zS,zL,reduceCtorEq,f0,f3,f4,List.length_nil,yQk (nLi _),fits];intros;exact yQ0 ⟨_,_,rfl,.inl rfl,.inl rfl,IsTmsD.nil,rfl⟩
theorem zJj (a:Tm)(x:IV)(hx:IsTm a x)(hs:a.size<=1099511627776)(st:ISt):ICall prog gl 58 [x] st (λr st'=>IsTmD a r/\st'=st):=by
 obtain⟨v,n,us⟩:=a;exact zKl gl v n us (zZ9 gl us) x hx hs st
def kCF (f:Fm):Prop:=∀(x:IV) (_:IsFm f x) (_:f.size<=1099511627776) (st:ISt),ICall prog gl 57 [x] st (λr st'=>IsFmD f r/\st'=st)
theorem IsFmD.aggs {f:Fm}{r:IV}(h:IsFmD f r):∃o n t x t' x',r=.agg [.raw (.int .u8 o),.raw (.string n),.sl t x,.sl t' x']:=by
 obtain⟨o,n,us,sub⟩:=f;obtain⟨t,xs,t',ys,rfl,_⟩:=h.mk;exact⟨_,_,_,_,_,_,rfl⟩
theorem yYp (us:List Fm)(IH:∀a∈us,kCF gl a)(tg:Tag)(xs:List IV)(htg:okEs tg 4)(hxs:IsFms us xs)(hsz:yQ7 us<=1099511627776)(st:ISt) :
  ICall prog gl 107 [.sl tg xs] st (λr st'=>∃tg' ys,r=.sl tg' ys/\okEs tg' 4/\appT us.length tg'/\IsFmsD us ys/\st'=st):=by
 have hlsz:=yQj us;refine iI func107 ?_;simp only[go_sem];refine LoopC.ctr us.length (λk fr st' ds=>(∃tg' ys,fr 3=.iv (.sl tg' ys)/\IsFmsD (us.take k) ys/\appT k tg'/\own st' tg' k 4 st/\subSt st st')/\fr 0=.iv (.sl tg xs)/\fr 4=.iv (.raw (.int .i64 k))/\ds=[]) ?_ ?_ ?_
 ·simp only[go_sem,zE,reduceCtorEq];exact⟨⟨_,_,rfl,IsFmsD.nil,.inl rfl,own.nil _ _ _ _ _,subSt.refl _⟩,rfl⟩
 ·rintro k fr st1 _ hlt ⟨⟨tg',ys,f3,hys,hap,hown,hsub⟩,f0,f4,rfl⟩;obtain⟨a,ha⟩:=yQ3 hlt;obtain⟨x,hkx,hx⟩:=hxs.get ha;obtain⟨h1,h2⟩:=yZ5 ha;have hlen2:ys.length=k:=by rw[hys.len,List.length_take];omega
  have hcall:=IH a (lMg ha) x hx (by omega) st1;obtain⟨o5,n5,t5,x5,t6,x6,rfl⟩:=hx.agg;simp only[go_sem,zE,zB,zA,reduceCtorEq,f0,f4,hxs.len,lt_i hlt,yQ2 htg,iNn,hkx,fits];intro _;refine hcall.mono ?_;rintro r _ ⟨hr,rfl⟩;have hn:IsFmsD (us.take (k+1)) (ys++[r]):=by
   rw[yQ8 ha];exact hys.append (IsFmsD.one hr)
  obtain⟨o7,n7,t7,x7,t8,x8,rfl⟩:=IsFmD.aggs hr;simp only[go_sem,zE,zA,zM,zL,f3,fits,yQ1];refine yZb hown hlen2 hsub rfl (by simp[fits,IV.one]) (by simp only;omega) (by omega) λtg2 st4 hown2 hsub4 _ hap2=>?_;simp only[go_sem,zE,reduceCtorEq,f0,f4,yQa hlt (show us.length<=281474976710656 by omega)];exact⟨tg2,_,rfl,hn,hap2,hown2,hsub4⟩
 ·rintro fr st1 _ ⟨⟨tg',ys,f3,hys,hap,hown,hsub⟩,f0,f4,rfl⟩;rw[lTl] at hys;simp only[go_sem,zE,reduceCtorEq,f0,f3,f4,hxs.len,yQk (nLi _)];intro _;exact yQb (st':=st) hsub ⟨tg',ys,rfl,hown.es,hap,hys,rfl⟩
theorem zKm (o:Nat)(n:ByteArray)(us:List Tm)(sub:List Fm)(IH:∀a∈sub,kCF gl a):kCF gl (.mk o n us sub):=by
 intro x hx hs st;obtain⟨t1,x1,t2,x2,rfl,ho,ht1,hx1,ht2,hx2⟩:=hx.mk;simp only[Fm.size] at hs;have hc1:=zZ9 gl us t1 x1 ht1 hx1 (by omega) st;have hc2:=yYp gl sub IH t2 x2 ht2 hx2 (by omega) st;refine iI func57 ?_;simp only[go_sem,zE,zA];refine hc1.mono ?_;rintro _ _ ⟨tg',ys,rfl,he,ha,hys,rfl⟩;simp only[go_sem,zE,zA,zL];refine hc2.mono ?_;rintro _ _ ⟨tg2,ys2,rfl,he2,ha2,hys2,rfl⟩;simp only[go_sem,zE,zA,zL];exact yQ0 ⟨IsFmD.intro ho he ha hys he2 ha2 hys2,rfl⟩
theorem yUm:∀(k:Nat)(f:Fm),SizeOf.sizeOf f<k->kCF gl f
 | 0,f,h=>by omega
 | k+1,.mk o n us sub,h=>zKm gl o n us sub (λa ha=>yUm k a (by
   have:=lSm ha;simp only[Fm.mk.sizeOf_spec] at h;omega))
theorem yWn (f:Fm):kCF gl f:=yUm gl _ f (Nat.lt_succ_self _)
theorem zZa (us:List Fm)(tg:Tag)(xs:List IV)(htg:okEs tg 4)(hxs:IsFms us xs)(hsz:yQ7 us<=1099511627776)(st:ISt) :
  ICall prog gl 107 [.sl tg xs] st (λr st'=>∃tg' ys,r=.sl tg' ys/\okEs tg' 4/\appT us.length tg'/\IsFmsD us ys/\st'=st):=yYp gl us (λa _=>yWn gl a) tg xs htg hxs hsz st
theorem zVq (s:Sq)(x:IV)(hx:IsSq s x)(h1:yQ7 s.l<=1099511627776)(h2:yQ7 s.r<=1099511627776)(st:ISt):ICall prog gl 56 [x] st (λr st' =>
  (∃t1 x1 t2 x2,r=.agg [.sl t1 x1,.sl t2 x2]/\okEs t1 4/\appT s.l.length t1/\IsFmsD s.l x1/\okEs t2 4/\appT s.r.length t2/\IsFmsD s.r x2)/\st'=st):=by
 obtain⟨t1,x1,t2,x2,rfl,e1,i1,e2,i2⟩:=hx;have hc1:=zZa gl s.l t1 x1 e1 i1 h1 st;have hc2:=zZa gl s.r t2 x2 e2 i2 h2 st;refine iI func56 ?_;simp only[go_sem,zE,zA];refine hc1.mono ?_;rintro _ _ ⟨tg',ys,rfl,he,ha,hys,rfl⟩;simp only[go_sem,zE,zA,zL];refine hc2.mono ?_;rintro _ _ ⟨tg2,ys2,rfl,he2,ha2,hys2,rfl⟩;simp only[go_sem,zE,zA,zL];exact yQ0 ⟨⟨_,_,_,_,rfl,he,ha,hys,he2,ha2,hys2⟩,rfl⟩
def sCT (us:List Tm):Prop:=∀(tg:Tag) (xs:List IV) (_:okEs tg 3) (_:IsTms us xs) (_:yQy us<=1099511627776) (st:ISt),
 ICall prog gl 115 [.sl tg xs,.fn (.func 116) [] []] st (λr st'=>∃tg' ys,r=.sl tg' ys/\okEs tg' 3/\appT us.length tg'/\IsTmsD us ys/\st'=st)
theorem zGy (us:List Tm):sCT gl us:=by
 intro tg xs htg hxs hsz st;obtain⟨rfl,rfl⟩:=hxs.z;refine iI func115 ?_;simp only[go_sem,zE,zB,zA,zM,zS,zL,reduceCtorEq,List.length_nil,show decide (((0:Nat):Int)=0)=true from rfl];intros;exact yQ0 ⟨_,_,rfl,.inl rfl,.inl rfl,IsTmsD.nil,rfl⟩
def sCF (f:Fm):Prop:=∀(x:IV) (_:IsFm f x) (_:f.size<=1099511627776) (st:ISt),ICall prog gl 72 [x] st (λr st'=>IsFmD f r/\st'=st)
theorem zXw (us:List Fm)(IH:∀a∈us,sCF gl a)(tg:Tag)(xs:List IV)(htg:okEs tg 4)(hxs:IsFms us xs)(hsz:yQ7 us<=1099511627776)(st:ISt) :
  ICall prog gl 117 [.sl tg xs,.fn (.func 72) [] []] st (λr st'=>∃tg' ys,r=.sl tg' ys/\okEs tg' 4/\appT us.length tg'/\IsFmsD us ys/\st'=st):=by
 have hlsz:=yQj us;refine iI func117 ?_;simp only[go_sem,reduceCtorEq,hxs.len];intro _;refine yJ4 (λh=>?_) (λh=>?_)
 ·obtain rfl:us=[]:=List.eq_nil_of_length_eq_zero (by simpa using h);simp only[go_sem];exact yQ0 ⟨_,_,rfl,.inl rfl,.inl rfl,IsFmsD.nil,rfl⟩
 have hpos:0<us.length:=Nat.pos_of_ne_zero λh0=>by simp[h0] at h
 simp only[go_sem,reduceCtorEq,hxs.len];intro _;refine yZg ⟨iNn _,by omega,by omega⟩ λg=>yQf λhg=>?_;intro _;refine LoopC.ctr us.length (λk fr st' ds=>(∃tg' ys,fr 5=.iv (.sl tg' ys)/\IsFmsD (us.take k) ys/\appT us.length tg'/\own st' tg' k 4 st/\subSt st st')/\fr 1=.iv (.fn (.func 72) [] []) /\
  fr 14=.iv (.sl tg xs)/\fr 15=.iv (.raw (.int .i64 us.length))/\fr 16=.iv (.raw (.int .i64 k))/\ds=[]) ?_ ?_ ?_
 ·simp only[go_sem,zE];exact⟨⟨_,_,rfl,IsFmsD.nil,.inr ⟨hpos,rfl,g,rfl⟩,.inr (.inr ⟨g,rfl,ISt.put_same _ _ _,hg⟩),yQq (subSt.refl _) hg⟩,rfl⟩
 ·rintro k fr st1 _ hlt ⟨⟨tg',ys,f5,hys,hap,hown,hsub⟩,f1,f14,f15,f16,rfl⟩;obtain⟨a,ha⟩:=yQ3 hlt;obtain⟨x,hkx,hx⟩:=hxs.get ha;obtain⟨h1,h2⟩:=yZ5 ha;have hlen2:ys.length=k:=by rw[hys.len,List.length_take];omega
  have hcall:=IH a (lMg ha) x hx (by omega) st1;obtain⟨o5,n5,t5,x5,t6,x6,rfl⟩:=hx.agg;simp only[go_sem,zE,zB,zA,zL,f1,f5,f14,f15,f16,lt_i hlt,yQ2 htg,iNn,hkx,fits];refine hcall.mono ?_;rintro r _ ⟨hr,rfl⟩;have hn:IsFmsD (us.take (k+1)) (ys++[r]):=by
   rw[yQ8 ha];exact hys.append (IsFmsD.one hr)
  obtain⟨o7,n7,t7,x7,t8,x8,rfl⟩:=IsFmD.aggs hr;simp only[go_sem,zE,zA,zM,zL,fits,yQ1];refine yZb hown hlen2 hsub rfl (by simp[fits,IV.one]) (by simp only;omega) (by omega) λtg2 st4 hown2 hsub4 _ hap2=>?_;simp only[go_sem,zE,f1,f14,f15,f16,yQa hlt (show us.length<=281474976710656 by omega)];exact⟨tg2,_,rfl,hn,hap2.pos hpos,hown2,hsub4⟩
 ·rintro fr st1 _ ⟨⟨tg',ys,f5,hys,hap,hown,hsub⟩,f1,f14,f15,f16,rfl⟩;rw[lTl] at hys;simp only[go_sem,zE,f5,f15,f16,yQk (nLi _)];exact yQb (st':=st) hsub ⟨tg',ys,rfl,hown.es,hap,hys,rfl⟩
theorem xW6 (o:Nat)(n:ByteArray)(us:List Tm)(sub:List Fm)(IH:∀a∈sub,sCF gl a):sCF gl (.mk o n us sub):=by
 intro x hx hs st;obtain⟨t1,x1,t2,x2,rfl,ho,ht1,hx1,ht2,hx2⟩:=hx.mk;simp only[Fm.size] at hs;have hc1:=zGy gl us t1 x1 ht1 hx1 (by omega) st;have hc2:=zXw gl sub IH t2 x2 ht2 hx2 (by omega) st;refine ICall.intro (c:=cf prog gl [] [(1,[0,1,2,3,4,5,7,8,6,9,10,11])]) func72 rfl (by show _<=14;simp) (by kernel_rfl) ?_;simp only[go_sem,zE,zA];refine hc1.mono ?_;rintro _ _ ⟨tg',ys,rfl,he,ha,hys,rfl⟩;simp only[go_sem,zE,zA];refine hc2.mono ?_;rintro _ _ ⟨tg2,ys2,rfl,he2,ha2,hys2,rfl⟩;simp only[go_sem,zE,zA,zL,fits];exact yQ0 ⟨IsFmD.intro ho he ha hys he2 ha2 hys2,rfl⟩
theorem zGx:∀(k:Nat)(f:Fm),SizeOf.sizeOf f<k->sCF gl f
 | 0,f,h=>by omega
 | k+1,.mk o n us sub,h=>xW6 gl o n us sub (λa ha=>zGx k a (by
   have:=lSm ha;simp only[Fm.mk.sizeOf_spec] at h;omega))
theorem zQ2 (f:Fm):sCF gl f:=zGx gl _ f (Nat.lt_succ_self _)
theorem wUz (us:List Fm)(tg:Tag)(xs:List IV)(htg:okEs tg 4)(hxs:IsFms us xs)(hsz:yQ7 us<=1099511627776)(st:ISt) :
  ICall prog gl 205 [.sl tg xs] st (λr st'=>∃tg' ys,r=.sl tg' ys/\okEs tg' 4/\(appT us.length tg'/\tg'.fresh=true)/\IsFmsD us ys/\own st' tg' us.length 4 st/\subSt st st'):=by
 have hlsz:=yQj us;refine iI func205 ?_;simp only[go_sem,reduceCtorEq,hxs.len];intro _;refine LoopC.ctr us.length (λk fr st' ds=>(∃tg' ys,fr 3=.iv (.sl tg' ys)/\IsFmsD (us.take k) ys/\(appT k tg'/\tg'.fresh=true)/\own st' tg' k 4 st/\subSt st st') /\
  fr 6=.iv (.sl tg xs)/\fr 7=.iv (.raw (.int .i64 us.length))/\fr 8=.iv (.raw (.int .i64 k))/\ds=[]) ?_ ?_ ?_
 ·simp only[go_sem,zE];exact⟨⟨_,_,rfl,IsFmsD.nil,⟨.inl rfl,rfl⟩,own.nil _ _ _ _ _,subSt.refl _⟩,rfl⟩
 ·rintro k fr st1 _ hlt ⟨⟨tg',ys,f3,hys,hap,hown,hsub⟩,f6,f7,f8,rfl⟩;obtain⟨a,ha⟩:=yQ3 hlt;obtain⟨x,hkx,hx⟩:=hxs.get ha;obtain⟨h1,h2⟩:=yZ5 ha;have hlen2:ys.length=k:=by rw[hys.len,List.length_take];omega
  have hcall:=zQ2 gl a x hx (by omega) st1;obtain⟨o5,n5,t5,x5,t6,x6,rfl⟩:=hx.agg;simp only[go_sem,zE,zB,zA,zL,f3,f6,f7,f8,lt_i hlt,yQ2 htg,iNn,hkx,fits];refine hcall.mono ?_;rintro r _ ⟨hr,rfl⟩;have hn:IsFmsD (us.take (k+1)) (ys++[r]):=by
   rw[yQ8 ha];exact hys.append (IsFmsD.one hr)
  obtain⟨o7,n7,t7,x7,t8,x8,rfl⟩:=IsFmD.aggs hr;simp only[go_sem,zE,zA,zM,zL,fits,yQ1];refine yZb hown hlen2 hsub rfl (by simp[fits,IV.one]) (by simp only;omega) (by omega) λtg2 st4 hown2 hsub4 _ hap2=>?_;simp only[go_sem,zE,f6,f7,f8,yQa hlt (show us.length<=281474976710656 by omega)];exact⟨tg2,_,rfl,hn,⟨hap2,by
   rcases hown2 with⟨h0,_⟩|rfl|⟨_,rfl,_⟩
   ·omega
   ·rfl
   ·rfl⟩,hown2,hsub4⟩
 ·rintro fr st1 _ ⟨⟨tg',ys,f3,hys,hap,hown,hsub⟩,f6,f7,f8,rfl⟩;rw[lTl] at hys;simp only[go_sem,zE,f3,f7,f8,yQk (nLi _)];exact yQ0 ⟨tg',ys,rfl,hown.es,hap,hys,hown,hsub⟩
end Go.Proofs.Tryz
namespace Go.Iv
open Go
theorem ICall.give {P:Program}{gl:Nat->Option IV}{f:FuncId}{args:List IV}{st:ISt}{K:IV->ISt->Prop}(h:ICall P gl f args st (λr st'=>∃st0,subSt st0 st'/\K r st0)):ICall P gl f args st K:=by
 intro B X rs hg hst hv;refine (h B X rs hg hst hv).mono ?_;rintro e w' ⟨v,rfl,X',x,rfl,h2,h3,h4,st0,hs,hK⟩;obtain⟨hg1,he1⟩:=h2.sub hs;exact⟨v,rfl,{ X' with st:=st0 },x,rfl,hg1,h3.trans he1,he1.v h4,hK⟩
end Go.Iv
namespace Go.Proofs.Tryz
open Go Go.Iv
set_option maxRecDepth 4000
variable (gl:Nat->Option IV)
theorem yVl (us:List Fm)(tg:Tag)(xs:List IV)(htg:okEs tg 4)(hxs:IsFms us xs)(hsz:yQ7 us<=1099511627776)(st:ISt) :
  ICall prog gl 205 [.sl tg xs] st (λr st'=>∃tg' ys,r=.sl tg' ys/\okEs tg' 4/\appT us.length tg'/\IsFmsD us ys/\st'=st) :=
 ICall.give ((wUz gl us tg xs htg hxs hsz st).mono λr st' h=>by
  obtain⟨tg',ys,rfl,he,ha,hys,_,hsub⟩:=h;exact⟨st,hsub,tg',ys,rfl,he,ha.1,hys,rfl⟩)
def IsSqD (s:Sq)(x:IV):Prop:=∃t1 x1 t2 x2,x=.agg [.sl t1 x1,.sl t2 x2]/\okEs t1 4/\appT s.l.length t1/\IsFmsD s.l x1/\okEs t2 4/\appT s.r.length t2/\IsFmsD s.r x2
theorem IsSqD.w {s:Sq}{x:IV}(h:IsSqD s x):IsSq s x:=by
 obtain⟨t1,x1,t2,x2,rfl,e1,_,i1,e2,_,i2⟩:=h;exact⟨_,_,_,_,rfl,e1,i1.1,e2,i2.1⟩
def IsSqsD:List Sq->List IV->Prop
 | [],xs=>xs=[]
 | a::l,xs=>∃y ys,xs=y::ys/\IsSqD a y/\IsSqsD l ys
theorem IsSqsD.w:∀ {l:List Sq}{xs:List IV},IsSqsD l xs->IsSqs l xs
 | [],_,h=>h
 | a::l,_,⟨y,ys,h1,h2,h3⟩=>⟨y,ys,h1,h2.w,h3.w⟩
theorem IsSqsD.mem:∀ {l:List Sq}{xs:List IV},IsSqsD l xs->∀ {k:Nat}{x:IV},xs[k]?=some x->∃s,l[k]?=some s/\IsSqD s x
 | [],_,rfl,k,x,h=>by simp at h
 | a::l,_,⟨y,ys,rfl,h2,h3⟩,0,x,h=>by cases h;exact⟨a,rfl,h2⟩
 | a::l,_,⟨y,ys,rfl,h2,h3⟩,k+1,x,h=>IsSqsD.mem h3 (by simpa using h)
theorem wVy {t:Tag}{xs:List IV}{l:List Fm}(ha:appT l.length t)(h:IsFmsD l xs):dfr (.sl t xs):=by
 simp only[dfr];exact⟨(ha.to h.1.len).up,h.2,h.1.cells_one⟩
theorem IsSqD.one {s:Sq}{x:IV}(h:IsSqD s x):x.cells.length=2/\∀c∈x.cells,c.one=true:=by
 obtain⟨t1,x1,t2,x2,rfl,_⟩:=h;refine⟨rfl,λc hc=>?_⟩;simp only[IV.cells,List.mem_cons,List.not_mem_nil,or_false] at hc;rcases hc with rfl|rfl<;>rfl
theorem yZo {l:List Sq}{xs:List IV}(h:IsSqsD l xs):∀z∈xs,z.cells.length=2:=λz hz=>by
 obtain⟨k,hk⟩:=List.mem_iff_getElem?.1 hz;obtain⟨s,_,hs⟩:=h.mem hk;exact hs.one.1
theorem IsSq.two {s:Sq}{x:IV}(h:IsSq s x):∃t xs t' ys,x=.agg [.sl t xs,.sl t' ys]:=by
 obtain⟨t,xs,t',ys,rfl,_⟩:=h;exact⟨_,_,_,_,rfl⟩
theorem zZ3 (us:List Fm)(tg:Tag)(xs:List IV)(htg:okEs tg 4)(hxs:IsFms us xs)(hsz:yQ7 us<=1099511627776)(st:ISt) :
  ICall prog gl 138 [.sl tg xs] st (λr st'=>IsSqD ⟨us,[]⟩ r/\st'=st):=by
 refine iI func138 ?_;simp only[go_sem,zA,reduceCtorEq];refine (yVl gl us tg xs htg hxs hsz _).mono ?_;rintro _ _ ⟨tg',ys,rfl,he,ha,hys,rfl⟩;simp only[go_sem,zE,zA,zL,fits];exact yQ0 ⟨⟨_,_,_,_,rfl,he,ha,hys,.inl rfl,.inl rfl,IsFmsD.nil⟩,rfl⟩
theorem yWg (us:List Fm)(tg:Tag)(xs:List IV)(htg:okEs tg 4)(hxs:IsFms us xs)(hsz:yQ7 us<=1099511627776)(st:ISt) :
  ICall prog gl 135 [.sl tg xs] st (λr st'=>IsSqD ⟨[],us⟩ r/\st'=st):=by
 refine iI func135 ?_;simp only[go_sem,zA,reduceCtorEq];refine (yVl gl us tg xs htg hxs hsz _).mono ?_;rintro _ _ ⟨tg',ys,rfl,he,ha,hys,rfl⟩;simp only[go_sem,zE,zA,zL,fits];exact yQ0 ⟨⟨_,_,_,_,rfl,.inl rfl,.inl rfl,IsFmsD.nil,he,ha,hys⟩,rfl⟩
theorem yQe (x y:Operand):yZk 2 [(0,x),(1,y)]=true:=rfl
theorem vK5 (a b:Fm)(x y:IV)(hx:IsFm a x)(hy:IsFm b y)(st:ISt):ICall prog gl 207 [x,y] st (λr st'=>IsFm (impF a b) r/\st'=st):=by
 have h1:IsFms [a,b] [x,y]:=⟨_,_,rfl,hx,_,_,rfl,hy,rfl⟩
 obtain⟨o5,n5,t5,x5,t6,x6,rfl⟩:=hx.agg;obtain⟨o7,n7,t7,x7,t8,x8,rfl⟩:=hy.agg;refine iI func207 ?_;simp only[go_sem,zE,zA,zM,zL,fits,yQe];exact yQ0 ⟨⟨_,_,_,_,rfl,by decide,.inl rfl,rfl,.inr rfl,h1⟩,rfl⟩
def AddOk (id:Nat)(F:Fm->Fm->Fm->List Sq):Prop:=∀(m a b:Fm) (x y z:IV) (_:IsFm m x) (_:IsFm a y) (_:IsFm b z) (_:m.size<=1000000) (_:a.size<=1000000) (_:b.size<=1000000) (st:ISt),
 ICall prog gl id [x,y,z] st (λr st'=>∃tg xs,r=.sl tg xs/\okEs tg 2/\appT (F m a b).length tg/\IsSqsD (F m a b) xs/\st'=st)
theorem sq1 {s:Sq}{x:IV}(h:IsSqD s x):IsSqsD [s] [x]:=⟨_,_,rfl,h,rfl⟩
theorem sq2 {s s':Sq}{x x':IV}(h:IsSqD s x)(h':IsSqD s' x'):IsSqsD [s,s'] [x,x']:=⟨_,_,rfl,h,_,_,rfl,h',rfl⟩
theorem AddOk.of {id:Nat}{F:Fm->Fm->Fm->List Sq}(h:∀ {o1 o2 o3:Nat}{n1 n2 n3:ByteArray}{t1 u1 t2 u2 t3 u3:Tag}{x1 y1 x2 y2 x3 y3:List IV}(m a b:Fm)(_:IsFm m (.agg [.raw (.int .u8 o1),.raw (.string n1),.sl t1 x1,.sl u1 y1]))(_:IsFm a (.agg [.raw (.int .u8 o2),.raw (.string n2),.sl t2 x2,.sl u2 y2]))(_:IsFm b (.agg [.raw (.int .u8 o3),.raw (.string n3),.sl t3 x3,.sl u3 y3]))(_:m.size<=1000000)(_:a.size<=1000000)(_:b.size<=1000000)
  (_:IsFms [a] [.agg [.raw (.int .u8 o2),.raw (.string n2),.sl t2 x2,.sl u2 y2]]) (_:IsFms [b] [.agg [.raw (.int .u8 o3),.raw (.string n3),.sl t3 x3,.sl u3 y3]]) (_:IsFms [m] [.agg [.raw (.int .u8 o1),.raw (.string n1),.sl t1 x1,.sl u1 y1]]) (_:IsFms [a,b] [.agg [.raw (.int .u8 o2),.raw (.string n2),.sl t2 x2,.sl u2 y2],.agg [.raw (.int .u8 o3),.raw (.string n3),.sl t3 x3,.sl u3 y3]]) (st:ISt),
  ICall prog gl id [.agg [.raw (.int .u8 o1),.raw (.string n1),.sl t1 x1,.sl u1 y1],.agg [.raw (.int .u8 o2),.raw (.string n2),.sl t2 x2,.sl u2 y2],.agg [.raw (.int .u8 o3),.raw (.string n3),.sl t3 x3,.sl u3 y3]] st (λr st'=>∃tg xs,r=.sl tg xs/\okEs tg 2/\appT (F m a b).length tg/\IsSqsD (F m a b) xs/\st'=st)):AddOk gl id F:=by
 intro m a b x y z hx hy hz hm ha hb st;have hx0:=hx;have hy0:=hy;have hz0:=hz;obtain⟨o1,n1,t1,x1,t2,x2,rfl⟩:=hx.agg;obtain⟨o3,n3,t3,x3,t4,x4,rfl⟩:=hy.agg;obtain⟨o5,n5,t5,x5,t6,x6,rfl⟩:=hz.agg;exact h m a b hx0 hy0 hz0 hm ha hb (IsFms.one hy0) (IsFms.one hz0) (IsFms.one hx0) ⟨_,_,rfl,hy0,IsFms.one hz0⟩ st
theorem wZy:AddOk gl 195 (λ_ _ _=>[]):=by
 refine AddOk.of gl λm a b hx0 hy0 hz0 hm ha hb ia ib im iab st=>?_;refine iI func195 ?_;simp only[go_sem,zE];exact yQ0 ⟨_,_,rfl,.inl rfl,.inl rfl,rfl,rfl⟩
theorem wZx:AddOk gl 196 (λ_ _ _=>[]):=by
 refine AddOk.of gl λm a b hx0 hy0 hz0 hm ha hb ia ib im iab st=>?_;refine iI func196 ?_;simp only[go_sem,zE];exact yQ0 ⟨_,_,rfl,.inl rfl,.inl rfl,rfl,rfl⟩
theorem wZw:AddOk gl 197 (λm a b=>[⟨[],[a]⟩]):=by
 refine AddOk.of gl λm a b hx0 hy0 hz0 hm ha hb ia ib im iab st=>?_;refine ICall.fixL ?_;refine ICall.intro (c:=cf prog gl [10] []) func197 rfl (by show _<=11;simp) (by kernel_rfl) ?_;simp only[go_sem,zE,zA,zM,zL,fits,yQ1];refine (yWg gl _ _ _ (.inr rfl) ia (by simp only[yQ7];omega) _).mono ?_;rintro r _ ⟨hr,rfl⟩;have h1:=sq1 hr;obtain⟨_,_,_,_,rfl⟩:=IsSq.two hr.w;simp only[go_sem,zA,zM,zL,fits,yQ1];refine λg=>yQf λhg=>?_;exact yQ0 (.inr ⟨g,2,_,hg,rfl,rfl,by simp,yZo h1,_,_,rfl,.inr rfl,.inr ⟨by simp,rfl,g,rfl⟩,h1⟩)
theorem wZv:AddOk gl 198 (λm a b=>[⟨[a],[]⟩]):=by
 refine AddOk.of gl λm a b hx0 hy0 hz0 hm ha hb ia ib im iab st=>?_;refine ICall.fixL ?_;refine ICall.intro (c:=cf prog gl [10] []) func198 rfl (by show _<=11;simp) (by kernel_rfl) ?_;simp only[go_sem,zE,zA,zM,zL,fits,yQ1];refine (zZ3 gl _ _ _ (.inr rfl) ia (by simp only[yQ7];omega) _).mono ?_;rintro r _ ⟨hr,rfl⟩;have h1:=sq1 hr;obtain⟨_,_,_,_,rfl⟩:=IsSq.two hr.w;simp only[go_sem,zA,zM,zL,fits,yQ1];refine λg=>yQf λhg=>?_;exact yQ0 (.inr ⟨g,2,_,hg,rfl,rfl,by simp,yZo h1,_,_,rfl,.inr rfl,.inr ⟨by simp,rfl,g,rfl⟩,h1⟩)
theorem wZu:AddOk gl 199 (λm a b=>[⟨[a,b],[]⟩]):=by
 refine AddOk.of gl λm a b hx0 hy0 hz0 hm ha hb ia ib im iab st=>?_;refine ICall.fixL ?_;refine ICall.intro (c:=cf prog gl [11] []) func199 rfl (by show _<=12;simp) (by kernel_rfl) ?_;simp only[go_sem,zE,zA,zM,zL,fits,yQe];refine (zZ3 gl _ _ _ (.inr rfl) iab (by simp only[yQ7];omega) _).mono ?_;rintro r _ ⟨hr,rfl⟩;have h1:=sq1 hr;obtain⟨_,_,_,_,rfl⟩:=IsSq.two hr.w;simp only[go_sem,zA,zM,zL,fits,yQ1];refine λg=>yQf λhg=>?_;exact yQ0 (.inr ⟨g,2,_,hg,rfl,rfl,by simp,yZo h1,_,_,rfl,.inr rfl,.inr ⟨by simp,rfl,g,rfl⟩,h1⟩)
theorem wZt:AddOk gl 200 (λm a b=>[⟨[],[a]⟩,⟨[],[b]⟩]):=by
 refine AddOk.of gl λm a b hx0 hy0 hz0 hm ha hb ia ib im iab st=>?_;refine ICall.fixL ?_;refine ICall.intro (c:=cf prog gl [13] [(1,[0,1,3,4,2,5,6,7])]) func200 rfl (by show _<=14;simp) (by kernel_rfl) ?_;simp only[go_sem,zE,zA,zM,zL,fits,yQ1];refine (yWg gl _ _ _ (.inr rfl) ia (by simp only[yQ7];omega) _).mono ?_;rintro r _ ⟨hr,rfl⟩;have hr0:=hr;obtain⟨_,_,_,_,rfl⟩:=IsSq.two hr.w;simp only[go_sem,zE,zA];refine (yWg gl _ _ _ (.inr rfl) ib (by simp only[yQ7];omega) _).mono ?_;rintro r _ ⟨hr,rfl⟩;have h1:=sq2 hr0 hr;obtain⟨_,_,_,_,rfl⟩:=IsSq.two hr.w;simp only[go_sem,zE,zA,zM,zL,fits,yQe];refine λg=>yQf λhg=>?_;exact yQ0 (.inr ⟨g,2,_,hg,rfl,rfl,by simp,yZo h1,_,_,rfl,.inr rfl,.inr ⟨by simp,rfl,g,rfl⟩,h1⟩)
theorem wZs:AddOk gl 201 (λm a b=>[⟨[a],[]⟩,⟨[b],[]⟩]):=by
 refine AddOk.of gl λm a b hx0 hy0 hz0 hm ha hb ia ib im iab st=>?_;refine ICall.fixL ?_;refine ICall.intro (c:=cf prog gl [13] [(1,[0,1,3,4,2,5,6,7])]) func201 rfl (by show _<=14;simp) (by kernel_rfl) ?_;simp only[go_sem,zE,zA,zM,zL,fits,yQ1];refine (zZ3 gl _ _ _ (.inr rfl) ia (by simp only[yQ7];omega) _).mono ?_;rintro r _ ⟨hr,rfl⟩;have hr0:=hr;obtain⟨_,_,_,_,rfl⟩:=IsSq.two hr.w;simp only[go_sem,zE,zA];refine (zZ3 gl _ _ _ (.inr rfl) ib (by simp only[yQ7];omega) _).mono ?_;rintro r _ ⟨hr,rfl⟩;have h1:=sq2 hr0 hr;obtain⟨_,_,_,_,rfl⟩:=IsSq.two hr.w;simp only[go_sem,zE,zA,zM,zL,fits,yQe];refine λg=>yQf λhg=>?_;exact yQ0 (.inr ⟨g,2,_,hg,rfl,rfl,by simp,yZo h1,_,_,rfl,.inr rfl,.inr ⟨by simp,rfl,g,rfl⟩,h1⟩)
theorem wZr:AddOk gl 202 (λm a b=>[⟨[],[a,b]⟩]):=by
 refine AddOk.of gl λm a b hx0 hy0 hz0 hm ha hb ia ib im iab st=>?_;refine ICall.fixL ?_;refine ICall.intro (c:=cf prog gl [11] []) func202 rfl (by show _<=12;simp) (by kernel_rfl) ?_;simp only[go_sem,zE,zA,zM,zL,fits,yQe];refine (yWg gl _ _ _ (.inr rfl) iab (by simp only[yQ7];omega) _).mono ?_;rintro r _ ⟨hr,rfl⟩;have h1:=sq1 hr;obtain⟨_,_,_,_,rfl⟩:=IsSq.two hr.w;simp only[go_sem,zA,zM,zL,fits,yQ1];refine λg=>yQf λhg=>?_;exact yQ0 (.inr ⟨g,2,_,hg,rfl,rfl,by simp,yZo h1,_,_,rfl,.inr rfl,.inr ⟨by simp,rfl,g,rfl⟩,h1⟩)
theorem wZq:AddOk gl 203 (λm a b=>[⟨[],[a]⟩,⟨[b],[]⟩]):=by
 refine AddOk.of gl λm a b hx0 hy0 hz0 hm ha hb ia ib im iab st=>?_;refine ICall.fixL ?_;refine ICall.intro (c:=cf prog gl [13] [(1,[0,1,3,4,2,5,6,7])]) func203 rfl (by show _<=14;simp) (by kernel_rfl) ?_;simp only[go_sem,zE,zA,zM,zL,fits,yQ1];refine (yWg gl _ _ _ (.inr rfl) ia (by simp only[yQ7];omega) _).mono ?_;rintro r _ ⟨hr,rfl⟩;have hr0:=hr;obtain⟨_,_,_,_,rfl⟩:=IsSq.two hr.w;simp only[go_sem,zE,zA];refine (zZ3 gl _ _ _ (.inr rfl) ib (by simp only[yQ7];omega) _).mono ?_;rintro r _ ⟨hr,rfl⟩;have h1:=sq2 hr0 hr;obtain⟨_,_,_,_,rfl⟩:=IsSq.two hr.w;simp only[go_sem,zE,zA,zM,zL,fits,yQe];refine λg=>yQf λhg=>?_;exact yQ0 (.inr ⟨g,2,_,hg,rfl,rfl,by simp,yZo h1,_,_,rfl,.inr rfl,.inr ⟨by simp,rfl,g,rfl⟩,h1⟩)
theorem xXk:AddOk gl 209 (λm a b=>[⟨[],[m]⟩,⟨[m],[]⟩]):=by
 refine AddOk.of gl λm a b hx0 hy0 hz0 hm ha hb ia ib im iab st=>?_;refine ICall.fixL ?_;refine ICall.intro (c:=cf prog gl [13] [(1,[0,1,3,4,2,5,6,7])]) func209 rfl (by show _<=14;simp) (by kernel_rfl) ?_;simp only[go_sem,zE,zA,zM,zL,fits,yQ1];refine (yWg gl _ _ _ (.inr rfl) im (by simp only[yQ7];omega) _).mono ?_;rintro r _ ⟨hr,rfl⟩;have hr0:=hr;obtain⟨_,_,_,_,rfl⟩:=IsSq.two hr.w;simp only[go_sem,zE,zA];refine (zZ3 gl _ _ _ (.inr rfl) im (by simp only[yQ7];omega) _).mono ?_;rintro r _ ⟨hr,rfl⟩;have h1:=sq2 hr0 hr;obtain⟨_,_,_,_,rfl⟩:=IsSq.two hr.w;simp only[go_sem,zE,zA,zM,zL,fits,yQe];refine λg=>yQf λhg=>?_;exact yQ0 (.inr ⟨g,2,_,hg,rfl,rfl,by simp,yZo h1,_,_,rfl,.inr rfl,.inr ⟨by simp,rfl,g,rfl⟩,h1⟩)
theorem xXi:AddOk gl 134 (λm a b=>[⟨[],[a]⟩]):=by
 refine AddOk.of gl λm a b hx0 hy0 hz0 hm ha hb ia ib im iab st=>?_;refine ICall.fixL ?_;refine ICall.intro (c:=cf prog gl [10] []) func134 rfl (by show _<=11;simp) (by kernel_rfl) ?_;simp only[go_sem,zE,zA,zM,zL,fits,yQ1];refine (yWg gl _ _ _ (.inr rfl) ia (by simp only[yQ7];omega) _).mono ?_;rintro r _ ⟨hr,rfl⟩;have h1:=sq1 hr;obtain⟨_,_,_,_,rfl⟩:=IsSq.two hr.w;simp only[go_sem,zA,zM,zL,fits,yQ1];refine λg=>yQf λhg=>?_;exact yQ0 (.inr ⟨g,2,_,hg,rfl,rfl,by simp,yZo h1,_,_,rfl,.inr rfl,.inr ⟨by simp,rfl,g,rfl⟩,h1⟩)
theorem xXj:AddOk gl 136 (λm a b=>[⟨[],[b]⟩]):=by
 refine AddOk.of gl λm a b hx0 hy0 hz0 hm ha hb ia ib im iab st=>?_;refine ICall.fixL ?_;refine ICall.intro (c:=cf prog gl [10] []) func136 rfl (by show _<=11;simp) (by kernel_rfl) ?_;simp only[go_sem,zE,zA,zM,zL,fits,yQ1];refine (yWg gl _ _ _ (.inr rfl) ib (by simp only[yQ7];omega) _).mono ?_;rintro r _ ⟨hr,rfl⟩;have h1:=sq1 hr;obtain⟨_,_,_,_,rfl⟩:=IsSq.two hr.w;simp only[go_sem,zA,zM,zL,fits,yQ1];refine λg=>yQf λhg=>?_;exact yQ0 (.inr ⟨g,2,_,hg,rfl,rfl,by simp,yZo h1,_,_,rfl,.inr rfl,.inr ⟨by simp,rfl,g,rfl⟩,h1⟩)
theorem wZp:AddOk gl 137 (λm a b=>[⟨[a],[]⟩]):=by
 refine AddOk.of gl λm a b hx0 hy0 hz0 hm ha hb ia ib im iab st=>?_;refine ICall.fixL ?_;refine ICall.intro (c:=cf prog gl [10] []) func137 rfl (by show _<=11;simp) (by kernel_rfl) ?_;simp only[go_sem,zE,zA,zM,zL,fits,yQ1];refine (zZ3 gl _ _ _ (.inr rfl) ia (by simp only[yQ7];omega) _).mono ?_;rintro r _ ⟨hr,rfl⟩;have h1:=sq1 hr;obtain⟨_,_,_,_,rfl⟩:=IsSq.two hr.w;simp only[go_sem,zA,zM,zL,fits,yQ1];refine λg=>yQf λhg=>?_;exact yQ0 (.inr ⟨g,2,_,hg,rfl,rfl,by simp,yZo h1,_,_,rfl,.inr rfl,.inr ⟨by simp,rfl,g,rfl⟩,h1⟩)
theorem wZo:AddOk gl 139 (λm a b=>[⟨[],[a]⟩]):=by
 refine AddOk.of gl λm a b hx0 hy0 hz0 hm ha hb ia ib im iab st=>?_;refine ICall.fixL ?_;refine ICall.intro (c:=cf prog gl [10] []) func139 rfl (by show _<=11;simp) (by kernel_rfl) ?_;simp only[go_sem,zE,zA,zM,zL,fits,yQ1];refine (yWg gl _ _ _ (.inr rfl) ia (by simp only[yQ7];omega) _).mono ?_;rintro r _ ⟨hr,rfl⟩;have h1:=sq1 hr;obtain⟨_,_,_,_,rfl⟩:=IsSq.two hr.w;simp only[go_sem,zA,zM,zL,fits,yQ1];refine λg=>yQf λhg=>?_;exact yQ0 (.inr ⟨g,2,_,hg,rfl,rfl,by simp,yZo h1,_,_,rfl,.inr rfl,.inr ⟨by simp,rfl,g,rfl⟩,h1⟩)
theorem xXn:AddOk gl 204 (λm a b=>[⟨[a],[b]⟩]):=by
 refine AddOk.of gl λm a b hx0 hy0 hz0 hm ha hb ia ib im iab st=>?_;refine ICall.fixL ?_;refine ICall.intro (c:=cf prog gl [14] [(1,[0,1,3,4,2,5,6,7,8])]) func204 rfl (by show _<=15;simp) (by kernel_rfl) ?_;simp only[go_sem,zE,zA,zM,zL,fits,yQ1];refine (yVl gl _ _ _ (.inr rfl) ia (by simp only[yQ7];omega) _).mono ?_;rintro _ _ ⟨tg1,ys1,rfl,he1,ha1,hys1,rfl⟩;simp only[go_sem,zE,zA];refine (yVl gl _ _ _ (.inr rfl) ib (by simp only[yQ7];omega) _).mono ?_;rintro _ _ ⟨tg2,ys2,rfl,he2,ha2,hys2,rfl⟩;simp only[go_sem,zE,zA,zM,zL,fits,yQ1];have h1:=sq1 (s:=⟨[a],[b]⟩) ⟨_,_,_,_,rfl,he1,ha1,hys1,he2,ha2,hys2⟩;refine λg=>yQf λhg=>?_;exact yQ0 (.inr ⟨g,2,_,hg,rfl,rfl,by simp,yZo h1,_,_,rfl,.inr rfl,.inr ⟨by simp,rfl,g,rfl⟩,h1⟩)
theorem xXl:AddOk gl 208 (λm a b=>[⟨[a],[b]⟩,⟨[b],[a]⟩]):=by
 refine AddOk.of gl λm a b hx0 hy0 hz0 hm ha hb ia ib im iab st=>?_;refine ICall.fixL ?_;refine ICall.intro (c:=cf prog gl [21] [(1,[0,1,3,4,7,8,10,11,2,5,6,9,12,13,14,15])]) func208 rfl (by show _<=22;simp) (by kernel_rfl) ?_;simp only[go_sem,zE,zA,zM,zL,fits,yQ1];refine (yVl gl _ _ _ (.inr rfl) ia (by simp only[yQ7];omega) _).mono ?_;rintro _ _ ⟨tg1,ys1,rfl,he1,ha1,hys1,rfl⟩;simp only[go_sem,zE,zA];refine (yVl gl _ _ _ (.inr rfl) ib (by simp only[yQ7];omega) _).mono ?_;rintro _ _ ⟨tg2,ys2,rfl,he2,ha2,hys2,rfl⟩;simp only[go_sem,zE,zA,zL,fits];refine (yVl gl _ _ _ (.inr rfl) ib (by simp only[yQ7];omega) _).mono ?_;rintro _ _ ⟨tg3,ys3,rfl,he3,ha3,hys3,rfl⟩;simp only[go_sem,zE,zA];refine (yVl gl _ _ _ (.inr rfl) ia (by simp only[yQ7];omega) _).mono ?_;rintro _ _ ⟨tg4,ys4,rfl,he4,ha4,hys4,rfl⟩;simp only[go_sem,zE,zA,zM,zL,fits,yQe];have h1:=sq2 (s:=⟨[a],[b]⟩) (s':=⟨[b],[a]⟩) ⟨_,_,_,_,rfl,he1,ha1,hys1,he2,ha2,hys2⟩ ⟨_,_,_,_,rfl,he3,ha3,hys3,he4,ha4,hys4⟩;refine λg=>yQf λhg=>?_;exact yQ0 (.inr ⟨g,2,_,hg,rfl,rfl,by simp,yZo h1,_,_,rfl,.inr rfl,.inr ⟨by simp,rfl,g,rfl⟩,h1⟩)
theorem xXm:AddOk gl 206 (λm a b=>[⟨[impF a b,impF b a],[]⟩]):=by
 refine AddOk.of gl λm a b hx0 hy0 hz0 hm ha hb ia ib im iab st=>?_;refine ICall.fixL ?_;refine ICall.intro (c:=cf prog gl [15] [(1,[0,1,3,4,2,5,6,7,8,9])]) func206 rfl (by show _<=16;simp) (by kernel_rfl) ?_;simp only[go_sem,zE,zA,zL];refine (vK5 gl a b _ _ hy0 hz0 _).mono ?_;rintro r _ ⟨hr,rfl⟩;have hr0:=hr;obtain⟨_,_,_,_,_,_,rfl⟩:=hr.agg;simp only[go_sem,zE,zA];refine (vK5 gl b a _ _ hz0 hy0 _).mono ?_;rintro r _ ⟨hr,rfl⟩;have hr1:IsFms [impF a b,impF b a] [_,_]:=⟨_,_,rfl,hr0,IsFms.one hr⟩
 obtain⟨_,_,_,_,_,_,rfl⟩:=hr.agg;simp only[go_sem,zE,zA,zM,zL,fits,yQe];refine (zZ3 gl _ _ _ (.inr rfl) hr1 (by simp only[yQ7,impF,Fm.size,yQy];omega) _).mono ?_;rintro r _ ⟨hr,rfl⟩;have h1:=sq1 hr;obtain⟨_,_,_,_,rfl⟩:=IsSq.two hr.w;simp only[go_sem,zA,zM,zL,fits,yQ1];refine λg=>yQf λhg=>?_;exact yQ0 (.inr ⟨g,2,_,hg,rfl,rfl,by simp,yZo h1,_,_,rfl,.inr rfl,.inr ⟨by simp,rfl,g,rfl⟩,h1⟩)
