/- Walks: SearchGlivenko. -/
import Derived.Test.YtclkffdkahljeaaGreatDoorQF
import Derived.Test.YtclkffdkahljeaaGreatDoorKE
import Derived.Deep.DeepHandedRow
set_option linter.all false
open Nat renaming reduceEqDiff → zE,reduceBEq → zB,reduceAdd → zA,reduceMul → zM,reduceSub → zS,reduceLeDiff → zL
namespace Go.Proofs.Tryz
open Go Go.Iv
set_option maxRecDepth 8000
variable (gl:Nat->Option IV)
set_option maxHeartbeats 4000000 in
theorem zQo (G:Gl gl)(T:Gt gl)(l:List Fm)(tg:Tag)(xs:List IV)(htg:okEs tg 4)(hxs:IsFms l xs)(hw:wFms l<=549755813888)(f:Fm)(y:IV)(hy:IsFm f y)(hf:wFm f<=549755813880)(b:Bool)(st:ISt) :
  ICall prog gl 5 [.sl tg xs,y,.raw (.bool b)] st (λr st'=>r=.raw (.bool true)/\st'=st):=by
 have hA:=λst=>wZj gl G T st;have hy0:=hy;obtain⟨o1,n1,q1,z1,q2,z2,rfl⟩:=hy.agg;refine ICall.intro (c:=cf prog gl [] [(3,[0,1,3,2,4,5,6,7,8,9])]) func5 rfl (by show _<=75;simp) (by kernel_rfl) ?_;simp only[go_sem,zE,zB,zA,zM,zS,zL,reduceCtorEq,fits];refine (hA _).mono ?_;rintro _ st ⟨rfl,rfl⟩;simp only[go_sem,zE,zB,zA,zM,zS,zL,reduceCtorEq,fits,yQ1];refine (h_fs gl _ _ _).mono ?_;rintro _ st ⟨rfl,rfl⟩;simp only[go_sem,zE,zB,zA,zM,zS,zL,reduceCtorEq,fits];refine (h_no gl _ _ _ _ _ _ _).mono ?_;rintro _ st ⟨rfl,rfl⟩;simp only[go_sem,zE,zB,zA,zM,zS,zL,reduceCtorEq,fits];refine (h_no gl _ _ _ _ _ _ _).mono ?_;rintro _ st ⟨rfl,rfl⟩;simp only[go_sem,zE,zB,zA,zM,zS,zL,reduceCtorEq,fits,yQ1];refine (h_fs gl _ _ _).mono ?_;rintro _ st ⟨rfl,rfl⟩;have w0:wFms [f]=wFm f:=Nat.add_zero _;have w1:wFms [fno (fno f)]=1+0 / 20+0+(1+0 / 20+0+(wFm f+0)+0)+0:=rfl;have w2:wFms []=0:=rfl;cases b
 ·have hq1:IsSq ⟨l,[f]⟩ (.agg [.sl tg xs,.sl ⟨true,.full,4⟩ [.agg [.raw (.int .u8 o1),.raw (.string n1),.sl q1 z1,.sl q2 z2]]]):=⟨_,_,_,_,rfl,htg,hxs,.inr rfl,.one hy0⟩
  have hq2:IsSq ⟨l,[fno (fno f)]⟩ (.agg [.sl tg xs,.sl ⟨true,.full,4⟩ [.agg [.raw (.int .u8 3),.raw (.string ⟨#[]⟩),.sl ⟨true,.nil,0⟩ [],.sl ⟨true,.full,4⟩ [.agg [.raw (.int .u8 3),.raw (.string ⟨#[]⟩),.sl ⟨true,.nil,0⟩ [],.sl ⟨true,.full,4⟩ [.agg [.raw (.int .u8 o1),.raw (.string n1),.sl q1 z1,.sl q2 z2]]]]]]]) :=
   ⟨_,_,_,_,rfl,htg,hxs,.inr rfl,.one ⟨_,_,_,_,rfl,by decide,.inl rfl,rfl,.inr rfl,.one ⟨_,_,_,_,rfl,by decide,.inl rfl,rfl,.inr rfl,.one hy0⟩⟩⟩
  simp only[go_sem,zE,zB,zA,zM,zS,zL,reduceCtorEq,fits];have hF1:=λst=>xX1 gl G 1 _ _ hq1 (by simp only[w0,w1];exact⟨by omega,by omega⟩) 8 st;have hF2:=λst=>xX1 gl G 2 _ _ hq2 (by simp only[w0,w1];exact⟨by omega,by omega⟩) 8 st;refine (h_sq gl _ _ _ _ _).mono ?_;rintro _ st ⟨rfl,rfl⟩;simp only[go_sem,zE,zB,zA,zM,zS,zL,reduceCtorEq,fits];refine (hF1 _).mono ?_;rintro _ st ⟨⟨p,rfl,hp⟩,rfl⟩;cases p
  ·simp only[go_sem,zE,zB,zA,zM,zS,zL,reduceCtorEq,fits];exact yQ0 ⟨rfl,rfl⟩
  simp only[go_sem,zE,zB,zA,zM,zS,zL,reduceCtorEq,fits];refine (h_sq gl _ _ _ _ _).mono ?_;rintro _ st ⟨rfl,rfl⟩;simp only[go_sem,zE,zB,zA,zM,zS,zL,reduceCtorEq,fits];refine (hF2 _).mono ?_;rintro _ st ⟨⟨q,rfl,hq⟩,rfl⟩;cases q
  ·simp only[go_sem,zE,zB,zA,zM,zS,zL,reduceCtorEq,fits];exact yQ0 ⟨rfl,rfl⟩
  have hfp:=hp rfl;have hfq:=hq rfl;have hL1:=λst=>zVu gl G T 1 _ _ hq1 (yUt hfp.w) st;have hL2:=λst=>zVu gl G T 2 _ _ hq2 (yUt hfq.w) st;simp only[go_sem,zE,zB,zA,zM,zS,zL,reduceCtorEq,fits];refine (h_sq gl _ _ _ _ _).mono ?_;rintro _ st ⟨rfl,rfl⟩;simp only[go_sem,zE,zB,zA,zM,zS,zL,reduceCtorEq,fits];refine (hL1 _).mono ?_;rintro _ st ⟨⟨h,e,rfl,hh⟩,rfl⟩;simp only[go_sem,zE,zB,zA,zM,zS,zL,reduceCtorEq,fits];refine (h_sq gl _ _ _ _ _).mono ?_;rintro _ st ⟨rfl,rfl⟩;simp only[go_sem,zE,zB,zA,zM,zS,zL,reduceCtorEq,fits];refine (hL2 _).mono ?_;rintro _ st ⟨⟨i,g,rfl,hi⟩,rfl⟩;have d0:decide (((0:Nat):Int)=0)=true:=rfl;have d4:decide (((4:Nat):Int)=0)=false:=rfl;have d5:decide (((4:Nat):Int)=4)=true:=rfl;have hpf:∀g∈l++[f],PF g:=λg hg=>zUs (by decide) (zZa hfp.2.2.1 g hg);rcases hh with⟨_,_,hb⟩|⟨rfl,rfl,_⟩
  ·obtain rfl:=hfp.short hb;rcases hi with⟨_,_,hb'⟩|⟨rfl,rfl,_⟩
   ·obtain rfl:=hfq.short hb';simp only[go_sem,zE,zB,zA,zM,zS,zL,reduceCtorEq,fits,d0,d4,d5];exact yQ0 ⟨rfl,rfl⟩
   ·simp only[go_sem,zE,zB,zA,zM,zS,zL,reduceCtorEq,fits,d0,d4,d5];exact yQ0 ⟨rfl,rfl⟩
  ·rcases hi with⟨_,_,hb'⟩|⟨rfl,rfl,_⟩
   ·obtain rfl:=hfq.short hb';simp only[go_sem,zE,zB,zA,zM,zS,zL,reduceCtorEq,fits,d0,d4,d5];exact yQ0 ⟨rfl,rfl⟩
   ·have hlaw:decide (((hF (calJ 1) (l,[f]):Nat):Int) > 0)=decide (((hF (calJ 2) (l,[fno (fno f)]):Nat):Int) > 0):=decide_eq_decide.2 (by
     have:0<hF false (l,[f])↔0<hF true (l,[fno (fno f)]):=wZk (λg hg=>hpf g (List.mem_append_left _ hg)) (hpf f (List.mem_append_right _ (.head _)));rw[show calJ 1=false from rfl,show calJ 2=true from rfl];omega)
    simp only[go_sem,zE,zB,zA,zM,zS,zL,reduceCtorEq,fits,d0,d4,d5,hlaw,decide_true];exact yQ0 ⟨rfl,rfl⟩
 ·have hq1:IsSq ⟨l,[]⟩ (.agg [.sl tg xs,.sl ⟨true,.nil,0⟩ []]):=⟨_,_,_,_,rfl,htg,hxs,.inl rfl,rfl⟩
  have hq2:=hq1;simp only[go_sem,zE,zB,zA,zM,zS,zL,reduceCtorEq,fits];have hF1:=λst=>xX1 gl G 1 _ _ hq1 (by simp only[w2];exact⟨by omega,by omega⟩) 8 st;have hF2:=λst=>xX1 gl G 2 _ _ hq2 (by simp only[w2];exact⟨by omega,by omega⟩) 8 st;refine (h_sq gl _ _ _ _ _).mono ?_;rintro _ st ⟨rfl,rfl⟩;simp only[go_sem,zE,zB,zA,zM,zS,zL,reduceCtorEq,fits];refine (hF1 _).mono ?_;rintro _ st ⟨⟨p,rfl,hp⟩,rfl⟩;cases p
  ·simp only[go_sem,zE,zB,zA,zM,zS,zL,reduceCtorEq,fits];exact yQ0 ⟨rfl,rfl⟩
  simp only[go_sem,zE,zB,zA,zM,zS,zL,reduceCtorEq,fits];refine (h_sq gl _ _ _ _ _).mono ?_;rintro _ st ⟨rfl,rfl⟩;simp only[go_sem,zE,zB,zA,zM,zS,zL,reduceCtorEq,fits];refine (hF2 _).mono ?_;rintro _ st ⟨⟨q,rfl,hq⟩,rfl⟩;cases q
  ·simp only[go_sem,zE,zB,zA,zM,zS,zL,reduceCtorEq,fits];exact yQ0 ⟨rfl,rfl⟩
  have hfp:=hp rfl;have hfq:=hq rfl;have hL1:=λst=>zVu gl G T 1 _ _ hq1 (yUt hfp.w) st;have hL2:=λst=>zVu gl G T 2 _ _ hq2 (yUt hfq.w) st;simp only[go_sem,zE,zB,zA,zM,zS,zL,reduceCtorEq,fits];refine (h_sq gl _ _ _ _ _).mono ?_;rintro _ st ⟨rfl,rfl⟩;simp only[go_sem,zE,zB,zA,zM,zS,zL,reduceCtorEq,fits];refine (hL1 _).mono ?_;rintro _ st ⟨⟨h,e,rfl,hh⟩,rfl⟩;simp only[go_sem,zE,zB,zA,zM,zS,zL,reduceCtorEq,fits];refine (h_sq gl _ _ _ _ _).mono ?_;rintro _ st ⟨rfl,rfl⟩;simp only[go_sem,zE,zB,zA,zM,zS,zL,reduceCtorEq,fits];refine (hL2 _).mono ?_;rintro _ st ⟨⟨i,g,rfl,hi⟩,rfl⟩;have d0:decide (((0:Nat):Int)=0)=true:=rfl;have d4:decide (((4:Nat):Int)=0)=false:=rfl;have d5:decide (((4:Nat):Int)=4)=true:=rfl;have hpf:∀g∈l++([]:List Fm),PF g:=λg hg=>zUs (by decide) (zZa hfp.2.2.1 g hg);rcases hh with⟨_,_,hb⟩|⟨rfl,rfl,_⟩
  ·obtain rfl:=hfp.short hb;rcases hi with⟨_,_,hb'⟩|⟨rfl,rfl,_⟩
   ·obtain rfl:=hfq.short hb';simp only[go_sem,zE,zB,zA,zM,zS,zL,reduceCtorEq,fits,d0,d4,d5];exact yQ0 ⟨rfl,rfl⟩
   ·simp only[go_sem,zE,zB,zA,zM,zS,zL,reduceCtorEq,fits,d0,d4,d5];exact yQ0 ⟨rfl,rfl⟩
  ·rcases hi with⟨_,_,hb'⟩|⟨rfl,rfl,_⟩
   ·obtain rfl:=hfq.short hb';simp only[go_sem,zE,zB,zA,zM,zS,zL,reduceCtorEq,fits,d0,d4,d5];exact yQ0 ⟨rfl,rfl⟩
   ·have hlaw:decide (((hF (calJ 1) (l,([]:List Fm)):Nat):Int) > 0)=decide (((hF (calJ 2) (l,([]:List Fm)):Nat):Int) > 0):=decide_eq_decide.2 (by
     have:0<hF false (l,([]:List Fm))↔0<hF true (l,([]:List Fm)):=xGk (λg hg=>hpf g (by simpa using hg));rw[show calJ 1=false from rfl,show calJ 2=true from rfl];omega)
    simp only[go_sem,zE,zB,zA,zM,zS,zL,reduceCtorEq,fits,d0,d4,d5,hlaw,decide_true];exact yQ0 ⟨rfl,rfl⟩
end Go.Proofs.Tryz
namespace Go.Proofs.Tryz
open Go Go.Iv
set_option maxRecDepth 4000
variable (gl:Nat->Option IV)
section
variable {b2 b3 b4:Nat}{fy a:IV}
end
section
variable {gl}{y:IV}{I:Nat->ISt->Prop}{S:ISt->Prop}{k0:Nat}
end
section
variable {b2 b3 b4:Nat}{fy a a':IV}{p:List Nat}{s:ISt}{g:Nat}
end
end Go.Proofs.Tryz
namespace Go.Proofs.Tryz
open Go Go.Iv
end Go.Proofs.Tryz
namespace Go.Proofs.Tryz
open Go Go.Iv Go.ChangeShapes
open Go.Proofs.YtclkffdkahljeaaGreatDoor.Rows (uptoBulk uptoBulkAll)
set_option maxRecDepth 4000
mutual
theorem wQ4:∀t:Tm,wTm t<=2*xVg t
 | .mk _ n us=>by have:=zZ6 us;simp only[wTm,xVg];omega
theorem zZ6:∀l:List Tm,wTms l<=2*yYp l
 | []=>Nat.le_refl _
 | a::l=>by have:=wQ4 a;have:=zZ6 l;simp only[wTms,yYp];omega
end
mutual
theorem xZf:∀f:Fm,wFm f<=2*xQz f
 | .mk _ n us sub=>by have:=zZ6 us;have:=zZ7 sub;simp only[wFm,xQz];omega
theorem zZ7:∀l:List Fm,wFms l<=2*yYq l
 | []=>Nat.le_refl _
 | a::l=>by have:=xZf a;have:=zZ7 l;simp only[wFms,yYq];omega
end
section
variable {H:Type}{enc:TypeId×Value->H}{w:World}{spare:Nat->Bool}{held:Bool}
end
end Go.Proofs.Tryz
namespace Go.Proofs.Tryz
open Go Go.Iv Go.ChangeShapes Go.RowKit
open Go.Proofs.YtclkffdkahljeaaGreatDoor
set_option maxRecDepth 8000
theorem uRow:prog.underlying 239=some (.struct #[⟨ "right",4,0,false, "", "lyceum/syntax",0⟩,⟨ "schema",4,1,false, "", "lyceum/syntax",1⟩,⟨ "name",5,2,false, "", "lyceum/syntax",2⟩,⟨ "args",3,3,false, "", "lyceum/syntax",8⟩,⟨ "subs",3,4,false, "", "lyceum/syntax",16⟩]):=by kernel_rfl
theorem vW2:prog.underlying 240=some (.array 17 239):=by kernel_rfl
theorem uInt:prog.underlying 3=some (.int .i64):=by kernel_rfl
theorem nRow:prog.cellsOf 239=5:=by kernel_rfl
theorem vUb:prog.cellsOf 240=85:=by kernel_rfl
theorem gRows:prog.globalNamed "lyceum/syntax.rows" = some 0:=by kernel_rfl
theorem gRowsT:(prog.globals[0]?).map (·.type)=some 240:=by kernel_rfl
theorem gPow:prog.globalNamed "internal/strconv.uint64pow10" = some 2:=by kernel_rfl
theorem gPowT:(prog.globals[2]?).map (·.type)=some 347:=by kernel_rfl
theorem uPow:prog.underlying 347=some (.array 20 264):=by kernel_rfl
theorem uU64:prog.underlying 264=some (.int .u64):=by kernel_rfl
theorem nPow:prog.cellsOf 347=20:=by kernel_rfl
theorem nU64:prog.cellsOf 264=1:=by kernel_rfl
section
variable {H:Type}{enc:TypeId×Value->H}{w:World}{spare:Nat->Bool}{held:Bool}
def rowD (op:Nat):DataW H:=.agg [.lit (.bool (yZ5 op)),.lit (.bool (zZq op)),.lit (.int .u8 (yX4 op)),.lit (.int .i64 (yX0 op)),.lit (.int .i64 (yZz op))]
def rowV (op:Nat):List Value:=[.bool (yZ5 op),.bool (zZq op),.int .u8 (yX4 op),.int .i64 (yX0 op),.int .i64 (yZz op)]
theorem xWy {fuel:Nat}{cs:List Value}{op:Nat}{p:List MemPlace}(h:DataW.trod enc prog w 0 spare held fuel 239 cs=some (rowD op,p)):cs=rowV op:=by
 obtain⟨ys,n,rfl,he,hl,hlen,hf⟩:=DataW.trod_struct uRow h
 match ys,hlen with
 | [y0,y1,y2,y3,y4],_ =>
  rw[nRow] at hl
  match cs,hl with
  | [c0,c1,c2,c3,c4],_ =>
   have h0:=hf 0 _ rfl;have h1:=hf 1 _ rfl;have h2:=hf 2 _ rfl;have h3:=hf 3 _ rfl;have h4:=hf 4 _ rfl;simp only[List.getElem?_cons_zero,List.getElem?_cons_succ] at h0 h1 h2 h3 h4;obtain⟨b0,e0,rfl⟩:=DataW.trod_bool xJv h0;obtain⟨b1,e1,rfl⟩:=DataW.trod_bool xJv h1;obtain⟨b2,e2,rfl,_⟩:=DataW.trod_int uU8 h2;obtain⟨b3,e3,rfl,_⟩:=DataW.trod_int uInt h3;obtain⟨b4,e4,rfl,_⟩:=DataW.trod_int uInt h4;cases e0;cases e1;cases e2;cases e3;cases e4;have he1:=congrArg Prod.fst he;simp only[rowD,List.map_cons,List.map_nil,DataW.agg.injEq,List.cons.injEq,DataW.lit.injEq,Lit.bool.injEq,Lit.int.injEq,true_and,and_true] at he1;obtain⟨rfl,rfl,rfl,rfl,rfl⟩:=he1;rfl
theorem xWx:(Rows.laid_lyceum_syntax_rows:DataW H)=.agg ((List.range 17).map rowD):=by rfl
theorem xKb {fuel:Nat}{cs:List Value}{p:List MemPlace}(h:DataW.trod enc prog w 0 spare held fuel 240 cs=some (Rows.laid_lyceum_syntax_rows,p)) :
  cs.length=85/\∀op,op<17->(cs.drop (op*5)).take 5=rowV op:=by
 obtain⟨ys,n,rfl,he,hl,hlen,hf⟩:=DataW.trod_array vW2 h;rw[vUb] at hl;refine⟨hl,λop hop=>?_⟩;have h1:=hf op hop;rw[nRow] at h1;have he1:=congrArg Prod.fst he;rw[xWx] at he1;simp only[DataW.agg.injEq] at he1;have h2:(ys.map (·.1))[op]?=some (rowD op):=by
  rw[<- he1,List.getElem?_map,List.getElem?_range hop];rfl
 rw[List.getElem?_map] at h2;obtain⟨y,hy,hy2⟩:=Option.map_eq_some_iff.1 h2;rw[hy] at h1;obtain⟨y1,y2⟩:=y;simp only at hy2;subst hy2;exact xWy h1
end
def gl0:Nat->Option IV
 | 0=>some (.agg rowsL)
 | 2=>some (.agg pow10L)
 | _=>none
theorem G0:Gl gl0:=⟨rfl⟩
theorem T0:Gt gl0:=⟨rfl⟩
def X0 (w:World):WS:={ w:=w,L:=L0 w,st:=λ_=>none,d:=0 }
theorem zUo {cs:List Value}(hl:cs.length=85)(h:∀op,op<17->(cs.drop (op*5)).take 5=rowV op)(i:Nat)(r:Value)(c:IV)(hr:cs[i]?=some r)(hc:rowsL[i]?=some c):c=.raw r/\zVe r:=by
 have hi:i<85:=by have:=(lGs hr).1;omega
 have hop:i / 5<17:=by omega
 have e:i=i / 5*5+i%5:=by omega
 have hm:i%5<5:=Nat.mod_lt _ (by decide);have h1:(rowV (i / 5))[i%5]?=some r:=by
  rw[<- h _ hop,List.getElem?_take,if_pos hm,List.getElem?_drop,<- e];exact hr
 have h2:(rowI (i / 5))[i%5]?=some c:=by
  rw[<- (zJu _ hop).2,List.getElem?_take,if_pos hm,List.getElem?_drop,<- e];exact hc
 generalize i%5=k at h1 h2 hm
 match k,hm with
 | 0,_=>cases h1;cases h2;exact⟨rfl,trivial⟩
 | 1,_=>cases h1;cases h2;exact⟨rfl,trivial⟩
 | 2,_=>cases h1;cases h2;exact⟨rfl,trivial⟩
 | 3,_=>cases h1;cases h2;exact⟨rfl,trivial⟩
 | 4,_=>cases h1;cases h2;exact⟨rfl,trivial⟩
theorem uQ5 {W:World}(hL:laidMetH prog Rows.searchWrongUptoRow.laid W):Go.Iv.Good ⟨prog,gl0,0⟩ (X0 W):=by
 obtain⟨ps,hlv,_⟩:=(show laidMet prog _ W from hL)
 obtain⟨_,_,_,_,_,_,_,_,_,_,hlv,_⟩:=hlv;obtain⟨_,_,_,_,_,_,_,_,_,_,hlv,_⟩:=hlv;obtain⟨g1,t1,cs1,f1,p1,q1,hg1,ht1,hv1,hd1,hlv,_⟩:=hlv;obtain⟨g2,t2,cs2,f2,p2,q2,hg2,ht2,hv2,hd2,_,_⟩:=hlv;obtain rfl:=Option.some.inj (gPow.symm.trans hg1);obtain rfl:=Option.some.inj (gPowT.symm.trans ht1);obtain rfl:=Option.some.inj (gRows.symm.trans hg2);obtain rfl:=Option.some.inj (gRowsT.symm.trans ht2);have hc1:=Lib.cells_of_tab (zs:=Lib.pow10Tab) uPow uU64 nU64 nPow hd1;have hc2:=xKb hd2;have hb:∀(n:String) (g:Nat) (cs:Array Value),prog.globalNamed n=some g->W.var? prog n=some cs->∃T f,W.heap[g]?=some (.cells cs T f):=by
  intro n g cs hn hv;unfold World.var? at hv;rw[hn,Option.bind_some] at hv;split at hv
  ·rename_i c t f hh;cases hv;exact⟨_,_,hh⟩
  ·cases hv
 obtain⟨T1,fr1,hh1⟩:=hb _ _ _ gPow hv1;obtain⟨T2,fr2,hh2⟩:=hb _ _ _ gRows hv2;have row:∀(g:Nat) (cs:Array Value) (T:TypeId) (f:Nat×Nat) (xs:List IV),W.heap[g]?=some (.cells cs T f)->cs.size=xs.length->(∀(i:Nat) (r:Value) (c:IV),cs.toList[i]?=some r->xs[i]?=some c->c=.raw r/\zVe r) →
   V 0 (L0 W) W (.pointer (some ⟨g,0,none⟩)) (.cptr (.agg xs)):=by
  intro g cs T f xs hh hl h;refine .cptr _ _ cs.toList rfl (by simpa[IV.cells] using hl) ?_ (λi r hr=>?_) (λi r c hr hc=>?_)
  ·show 0+cs.toList.length<=L0 W g;simp[L0,hh]
  ·show W.cell? ⟨g,0+i,none⟩=some r;simp only[World.cell?,hh,Nat.zero_add];simpa using hr
  ·obtain⟨rfl,hk⟩:=h i r c hr hc;exact .raw _ hk
 have hp:∀(i:Nat) (r:Value) (c:IV),cs1.toList[i]?=some r->pow10L[i]?=some c->c=.raw r/\zVe r:=by
  intro i r c hr hc;rw[hc1,List.getElem?_map] at hr;unfold pow10L at hc;rw[List.getElem?_map] at hc;obtain⟨z,hz,rfl⟩:=Option.map_eq_some_iff.1 hr;rw[hz] at hc;cases hc;exact⟨rfl,trivial⟩
 have hs1:cs1.size=pow10L.length:=by
  rw[<- Array.length_toList,hc1];simp[pow10L]
 have hs2:cs2.size=rowsL.length:=by
  rw[<- Array.length_toList,hc2.1];rfl
 refine⟨λb o h=>(by cases h),λg x hx=>?_,Nat.zero_le _,λb hb=>?_,λg x hx=>?_,λ_=>Nat.zero_le _⟩
 ·match g,hx with
  | 0,hx=>cases hx;exact row 0 cs2 T2 fr2 _ hh2 hs2 (λi r c hr hc=>zUo hc2.1 hc2.2 i r c hr hc)
  | 2,hx=>cases hx;exact row 2 cs1 T1 fr1 _ hh1 hs1 hp
 ·show L0 W b=0;unfold L0;rw[Array.getElem?_eq_none (show W.heap.size<=b from hb)]
 ·match g,hx with
  | 0,hx=>cases hx;exact⟨T2,fr2 == (0,0),by show shq W 0=_;simp[shq,hh2,hs2,IV.cells]⟩
  | 2,hx=>cases hx;exact⟨T1,fr1 == (0,0),by show shq W 2=_;simp[shq,hh1,hs1,IV.cells]⟩
theorem zGh {W:World}{X':WS}(h:Ext (X0 W) X'):Below W.heap.size W X'.w :=
 ⟨h.os,h.tape,h.output,h.size,λk hk=>(h.keep k hk rfl).1⟩
theorem wVe:laidOutB prog=true:=by kernel_rfl
theorem yG9 {H:Type}{enc:TypeId×Value->H}{W W':World}(hb:Below W.heap.size W W')(sp:Nat->Bool):∀ {ts:List TypeId} {vs:List Value} {ds:List (DataW H)} {ps:List MemPlace},
  (∀t∈ts,prog.readableRec t=true/\t<prog.types.size)->DataW.TrodAll enc prog W 0 (λ_=>true) true ts vs ds ps->(∀p∈ps,p.block<W.heap.size)->(∀p∈ps,sp p.block=true) →
  DataW.TrodAll enc prog W' 0 sp true ts vs ds ps
 | [],vs,ds,ps,_,h,_,_=>by
  obtain⟨rfl,rfl,rfl⟩:=trodAll_nil h;rfl
 | t::ts,vs,ds,ps,ht,h,hlt,hsp=>by
  obtain⟨v,vs1,d,ds1,a,b,rfl,rfl,rfl,h1,h2⟩:=trodAll_cons h;refine⟨a,b,WideElems.Trod_stays wVe (ht t (by simp)).1 (ht t (by simp)).2 h1 (λp hp=>hb.same (hlt p (by simp[hp]))) (λp hp=>hsp p (by simp[hp])),?_,rfl⟩;exact yG9 hb sp (λt h=>ht t (by simp[h])) h2 (λp hp=>hlt p (by simp[hp])) (λp hp=>hsp p (by simp[hp]))
theorem wZc {H:Type}{enc:TypeId×Value->H}{f:Func}{s:ChangeSpec}{fid:FuncId}{W:World}{args:Array Value}{ds gs:List (DataW H)}{before:List MemPlace}{ivs:List IV}
  (hvars:s.vars=[]) (hW:DataW.Whole enc prog f.params.toList s.vars false W args.toList ds gs before) (hfn:s.fn H (ds++gs)={ results:=[.lit (.bool true)],args:=ds })
  (hres:f.resultTypes=#[4]) (hread:∀t∈f.params.toList,prog.readableRec t=true/\t<prog.types.size) (hg:Go.Iv.Good ⟨prog,gl0,0⟩ (X0 W)) (hv:VL 0 (L0 W) W args.toList ivs)
  (hc:ICall prog gl0 fid ivs (λ_=>none) (λr st'=>r=.raw (.bool true)/\st'=λ_=>none)) :
  Calls prog fid args W λe W'=>∃v,e=.returned v/\s.post enc prog f false true false false W args v W':=by
 refine (hc 0 (X0 W) args.toList hg rfl hv).mono ?_;rintro e W' ⟨v,rfl,X',x,rfl,hg',he,hx,rfl,_⟩;obtain rfl:=V.raw_inv hx;have hb:=zGh he;refine⟨_,rfl,?_⟩;have hW':=hW;obtain⟨p,q,hA,hV,rfl,hz,_⟩:=hW;rw[hvars] at hV;have hgs:gs=[]/\q=[]:=by
  cases gs with
  | nil=>exact⟨rfl,hV⟩
  | cons _ _=>exact absurd hV (by simp[DataW.TrodVars])
 obtain⟨rfl,rfl⟩:=hgs;have hlt:∀x∈p,x.block<W.heap.size:=λx hx=>by simpa using hW'.lt x (by simpa using hx)
 have hargs:∀sp:Nat->Bool,(∀x∈p,sp x.block=true)->DataW.TrodAll enc prog X'.w 0 sp true f.params.toList args.toList (s.fn H (ds++[])).args p:=λsp hsp=>by
  rw[hfn];exact yG9 hb sp hread hA hlt hsp
 have hr:∀(b:Nat) (sp:Nat->Bool) (hd:Bool),DataW.TrodAll enc prog X'.w b sp hd f.resultTypes.toList ((Value.bool true).resultList f.resultTypes.size) (s.fn H (ds++[])).results []:=λ_ _ _=>by
  rw[hfn,hres];exact trodAll_cons_mk (shut_bool xJv _) trodAll_mk0
 have hvs:∀sp:Nat->Bool,DataW.TrodVars enc prog X'.w sp s.vars (s.fn H (ds++[])).vars []:=λ_=>by
  rw[hvars,hfn];rfl
 have hsz:∀x∈p,(λb=>decide (b<W.heap.size)) x.block=true:=λx hx=>by simpa using hlt x hx
 refine⟨ds,[],p++[],[],p,[],hW',hr _ _ _,hargs _ hsz,hvs _,World.keptBut_mono (λx hx=>⟨hx,Or.inr (by simpa using hx)⟩) (hb.frame (·∈p++[])),λ_=>⟨ok_one hres rfl (okWide_bool_mk xJv _),_,_,([]++p)++[],
  ⟨[]++p,[],trodAll_append (hargs _ (λ_ _=>rfl)) (hr _ _ _),hvs _,rfl,?_,λh=>by cases h⟩,λx hx _=>by simpa using hx⟩⟩
 intro b off hp;rw[hb.frozen (p:=⟨b,off,none⟩) (hlt (.cell b off) (by simpa using hp))];exact hz b off (by simpa using hp)
theorem wZm {W:World}{base:Nat}{v:Value}{f:Fm}{x:IV}(h:Value.okWide prog W .any base 31 v)(hx:VL 0 (L0 W) W v.cells.toList x.cells)(hf:IsFm f x):V 0 (L0 W) W v x:=by
 obtain⟨cs,rfl,_⟩:=WideShapes.okWide_struct wG8 h;cases f with
 | mk op n us sub =>
  obtain⟨tg,xs,tg',ys,rfl,_⟩:=IsFm.mk hf;cases cs;exact hx.agg
theorem xWl {W:World}{base:Nat}{t e:TypeId}{v w:Value}(ht:prog.underlying t=some (.slice e))(h:Value.okWide prog W .any base t v)(hs:v.cells.toList=[w]):v=w:=by
 obtain⟨a,len,cap,rfl⟩:=WideShapes.okWide_slice ht h;simpa[Value.cells] using hs
theorem wX6 {W:World}{base:Nat}{v:Value}(h:Value.okWide prog W .any base 4 v):∃b:Bool,v=.bool b/\V 0 (L0 W) W (.bool b) (.raw (.bool b)):=by
 simp only[Value.okWide,xJv,Cell.okWide] at h;cases v<;>simp_all [Cell.ok];exact .raw _ trivial
def tab32:List Int:=[0,1,28,2,29,14,24,3,30,22,20,15,25,17,4,8,31,27,13,23,21,19,16,7,26,12,18,6,11,5,10,9]
def tab64:List Int:=[0,1,56,2,57,49,28,3,61,58,42,50,38,29,17,4,62,47,59,36,45,43,51,22,53,39,33,30,24,18,12,5,63,55,48,27,60,41,37,16,46,35,44,21,52,32,23,11,54,26,40,15,34,20,31,10,25,14,19,9,13,8,7,6]
def lay (cs:List Value):Obj->Obj
 | .cells _ t frozen=>.cells cs.toArray t frozen
 | o=>o
noncomputable def zX1 (os:Os):World :=
 { World.holding prog os ⟨#[],#[],[]⟩ with heap:=((((World.holding prog os ⟨#[],#[],[]⟩).heap.modify 0 (lay ((List.range 17).flatMap rowV))).modify 2 (lay (Lib.pow10Tab.map λz=>.int .u64 z))).modify 3 (lay (tab32.map λz=>.int .u8 z))).modify 4 (lay (tab64.map λz=>.int .u8 z)) }
theorem wZe (os:Os)(args:Array Value):laidMet prog Rows.searchWrongUptoRow.laid ((zX1 os).forCall (λ_ _=>0) ⟨#[],args,[]⟩).memory :=
 laidMet_of_run' 8 (by kernel_rfl) (by kernel_rfl)
