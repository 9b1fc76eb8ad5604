/- Walks: slices.AppendSeq of symbols: all -/
import Derived.Test.YtclkffdkahljeaaGreatDoorQE
import Derived.Test.YtclkffdkahljeaaGreatDoorKE
import Derived.Deep.DeepHandedRow
set_option linter.all false
open Nat renaming reduceEqDiff → zE,reduceBEq → zB,reduceAdd → zA,reduceMul → zM,reduceSub → zS,reduceLeDiff → zL
namespace Go.Proofs.Tryz
open Go Go.Iv
set_option maxRecDepth 4000
variable (gl:Nat->Option IV)
def keyD (e:MapEntry):IV:=(keyI e.key).getD (.raw (.bool true))
def wZx (st:ISt)(h:List MapEntry)(r:IV)(st':ISt):Prop:=∃xs:List IV,xs.Perm (h.map keyD) /\
 ((h=[]/\∃f e,r=.sl ⟨f,.nil,e⟩ [])\/∃g cap cs,h≠[]/\st g=none/\r=.raw (.slice (some ⟨g,0,none⟩) h.length cap)/\st' g=some (.box cs)/\h.length<=cap/\cap*2<=cs.length/\cs.take (h.length*2)=xs.flatMap IV.cells)
theorem zGp (g:FuncId)(caps:List IV)(ents:Array MapEntry)(hE:∀e∈ents.toList,∃s n,keyI e.key=some (.agg [.raw (.string s),.raw (.int .i64 n)]))(hlen:ents.toList.length<=1000000000)(st:ISt)(he:entI prog g=true)(Base:ISt->Prop)(hB:Base st)
  (hi:xZ5 prog gl g [] caps (yUi (symH ents)) [] (finH ents) (λ_=>Base) noUp) (f:Bool) (es:Nat) :
  ICall prog gl 231 [.sl ⟨f,.nil,es⟩ [],.fn (.func g) [] caps] st (λr st'=>(∃h,finH ents h/\wZx st h r st')/\subSt st st'):=by
 refine ICall.intro (c:=cf prog gl [2,11] []) func231 rfl (by show _<=13;simp) (by kernel_rfl) ?_;simp only[go_sem,zE,zB,zA,zM,zS,zL,reduceCtorEq,fits];refine λb=>yQ9 λhb=>?_;refine RangeH.intro (symH ents) [] (finH ents) (λh st'=>h.length<=ents.toList.length/\∃cell s1,s1 b=none/\st'=s1.put b (some (.box [cell]))/\wZx st h cell s1/\subSt st s1) (λ_ _=>False) he ?_ ?_ ?_ ?_ ?_ (λ_ _ _ h=>h.elim)
 ·rintro h a h' ⟨_,e,_,x,_,rfl,_⟩;rfl
 ·exact⟨Nat.zero_le _,_,st,hb,rfl,⟨[],.nil,.inl ⟨rfl,f,es,rfl⟩⟩,subSt.refl _⟩
 ·rintro h a h' _ ⟨hkn,e,hem,x,hx,rfl,rfl⟩ ⟨_,cell,s1,hbn,rfl,⟨xs,hxl,hcell⟩,hsub⟩;obtain⟨s,n,hk⟩:=hE e hem;rw[hk] at hx;cases hx;have hke:keyD e=.agg [.raw (.string s),.raw (.int .i64 n)]:=by unfold keyD;rw[hk];rfl
  have hlen':(h++[e]).length=h.length+1:=by simp
  rcases hcell with⟨rfl,f,es,rfl⟩|⟨g2,cap,cs,hk0,hgn,rfl,hg,hkc,hcc,htk⟩
  ·simp only[go_sem,zE,zB,zA,zM,zS,zL,reduceCtorEq,ISt.put_same,fits,show yXz 1 [(0,Operand.tmp 9)]=true from rfl];refine λg cap=>yQ9 λ⟨hg,hc⟩=>?_;have hgb:g≠b:=by rintro rfl;rw[ISt.put_same] at hg;cases hg
   rw[yQ6 hgb] at hg;simp only[go_sem,zE,zB,zA,zM,zS,zL,reduceCtorEq,ISt.put_same,yQ6 hgb.symm,fits,one_sl];refine⟨by omega,_,_,?_,put3 ..,⟨[.agg [.raw (.string s),.raw (.int .i64 n)]],?_,.inr ⟨g,cap,_,by simp,?_,rfl,ISt.put_same ..,hc,?_,?_⟩⟩,hsub.trans (yQo hg)⟩
   ·rw[yQ6 hgb.symm];exact hbn
   ·simp[hke]
   ·cases hq:st g with
    | none=>rfl
    | some o=>have:=hsub _ _ hq;rw[hg] at this;cases this
   ·simp[IV.cells];omega
   ·simp[IV.cells]
  ·have hgb:g2≠b:=yKh hg hbn;simp only[go_sem,zE,zB,zA,zM,zS,zL,reduceCtorEq,ISt.put_same,yQ6 hgb,fits,show yXz 1 [(0,Operand.tmp 9)]=true from rfl];refine yXc _ _ _ (cs:=cs) (by rw[yQ6 hgb];exact hg) (by simp[fits,IV.one,IV.cells]) ⟨by show (h.length+1)*24<=_;omega,by show h.length+1<=_;omega⟩ ⟨hkc,by show cap*2<=_;omega⟩ (by simp[IV.cells]) ?_;rintro g cap' cs' hgn' hc1 hc2 htk';have hgb':g≠b:=by
    rcases hgn' with rfl|h
    ·exact hgb
    ·rintro rfl;rw[ISt.put_same] at h;cases h
   have hs1g:g=g2\/s1 g=none:=hgn'.imp id λh=>by rwa [yQ6 hgb'] at h
   have hstg:st g=none:=by
    rcases hs1g with rfl|h
    ·exact hgn
    ·cases hq:st g with
     | none=>rfl
     | some o=>have:=hsub _ _ hq;rw[h] at this;cases this
   simp only[go_sem,zE,zB,zA,zM,zS,zL,reduceCtorEq,ISt.put_same,yQ6 hgb.symm,yQ6 hgb'.symm,fits,one_sl];refine⟨by omega,_,_,?_,put4 ..,⟨xs++[.agg [.raw (.string s),.raw (.int .i64 n)]],?_,.inr ⟨g,cap',cs',by simp,hstg,by rw[hlen'],ISt.put_same ..,by rw[hlen'];exact hc1,hc2,?_⟩⟩,λc o hc=>?_⟩
   ·rw[yQ6 hgb'.symm,yQ6 hgb.symm];exact hbn
   ·rw[List.map_append,List.map_singleton,hke];exact hxl.append_right _
   ·have:cs'.take ((h++[e]).length*2)=cs.take (h.length*2)++[.raw (.string s),.raw (.int .i64 n)]:=by rw[hlen'];simpa[IV.cells] using htk'
    rw[this,htk];simp[IV.cells]
   ·rw[yQ6 (by rintro rfl;rw[hstg] at hc;cases hc),yQ6 (by rintro rfl;rw[hgn] at hc;cases hc)];exact hsub _ _ hc
 ·rintro y I' S' st' hfn hI hup hy h0;refine hi y I' S' st' hfn (λk stu hk=>?_) hup hy h0;obtain⟨stu0,hs,_,cell,s1,hbn,rfl,_,hsub⟩:=hI k stu hk;exact⟨st,λc o hc=>hs _ _ (yQo hbn _ _ (hsub _ _ hc)),hB⟩
 ·rintro h _ r hfin ⟨_,cell,s1,hbn,rfl,hsy,hsub⟩;have hci:ivOf (.iv cell)=some cell:=by
   obtain⟨xs,_,⟨_,f,e,rfl⟩|⟨g,cap,cs,_,_,rfl,_⟩⟩:=hsy<;>rfl
  have hc1:fits false 1 cell=true:=by
   obtain⟨xs,_,⟨_,f,e,rfl⟩|⟨g,cap,cs,_,_,rfl,_⟩⟩:=hsy<;>rfl
  simp only[go_sem,zE,zB,zA,zM,zS,zL,reduceCtorEq,ISt.put_same,fits,hci,hc1];refine yQj (st':=s1) (yQo hbn) ⟨⟨h,hfin,?_⟩,hsub⟩;exact hsy
end Go.Proofs.Tryz
namespace Go.Proofs
open Go.Shelf
def Tryz.sortSL_ren:Go.Shelf.Ren:=⟨λ| 6=>190|15=>121|14=>232|28=>162|29=>163|20=>250|21=>251|22=>252|23=>253|24=>254|25=>255|26=>256|27=>257|46=>273|47=>203|48=>204|49=>274|50=>275|57=>292|n=>n,λ| 22=>166|24=>169|25=>236|3=>3|39=>185|0=>0|53=>262|55=>264|4=>4|46=>256|45=>255|50=>125|5=>5|9=>9|66=>286|70=>290|76=>307|77=>308|n=>n,λ| n=>n⟩
theorem Tryz.sortSL:Go.Proofs.SlLaysF0.n6 Tryz.prog Tryz.sortSL_ren:={
 mixed:=by kernel_rfl
 f6:=⟨Tryz.f190.name,by decide,Tryz.func190.trans (congrArg some (by kernel_rfl))⟩
 f14:=⟨Tryz.f232.name,by decide,Tryz.func232.trans (congrArg some (by kernel_rfl))⟩
 f15:=Tryz.func121.trans (congrArg some (by kernel_rfl))
 f20:=⟨Tryz.f250.name,by decide,Tryz.func250.trans (congrArg some (by kernel_rfl))⟩
 f21:=⟨Tryz.f251.name,by decide,Tryz.func251.trans (congrArg some (by kernel_rfl))⟩
 f22:=⟨Tryz.f252.name,by decide,Tryz.func252.trans (congrArg some (by kernel_rfl))⟩
 f23:=⟨Tryz.f253.name,by decide,Tryz.func253.trans (congrArg some (by kernel_rfl))⟩
 f24:=⟨Tryz.f254.name,by decide,Tryz.func254.trans (congrArg some (by kernel_rfl))⟩
 f25:=⟨Tryz.f255.name,by decide,Tryz.func255.trans (congrArg some (by kernel_rfl))⟩
 f26:=⟨Tryz.f256.name,by decide,Tryz.func256.trans (congrArg some (by kernel_rfl))⟩
 f27:=⟨Tryz.f257.name,by decide,Tryz.func257.trans (congrArg some (by kernel_rfl))⟩
 f28:=Tryz.func162.trans (congrArg some (by kernel_rfl))
 f29:=Tryz.func163.trans (congrArg some (by kernel_rfl))
 f46:=⟨Tryz.f273.name,by decide,Tryz.func273.trans (congrArg some (by kernel_rfl))⟩
 f47:=Tryz.func203.trans (congrArg some (by kernel_rfl))
 f48:=Tryz.func204.trans (congrArg some (by kernel_rfl))
 f49:=⟨Tryz.f274.name,by decide,Tryz.func274.trans (congrArg some (by kernel_rfl))⟩
 f50:=⟨Tryz.f275.name,by decide,Tryz.func275.trans (congrArg some (by kernel_rfl))⟩
 f57:=⟨Tryz.f292.name,by decide,Tryz.func292.trans (congrArg some (by kernel_rfl))⟩
 t0:=Tryz.underlying0
 a0:=Tryz.isAgg0
 z0:=Tryz.sizeOf0
 v0:=Tryz.zeroValue0
 t3:=Tryz.underlying3
 a3:=Tryz.isAgg3
 z3:=Tryz.sizeOf3
 v3:=Tryz.zeroValue3
 t4:=Tryz.underlying4
 a4:=Tryz.isAgg4
 z4:=Tryz.sizeOf4
 v4:=Tryz.zeroValue4
 t5:=Tryz.underlying5
 a5:=Tryz.isAgg5
 z5:=Tryz.sizeOf5
 v5:=Tryz.zeroValue5
 t9:=Tryz.underlying9
 a9:=Tryz.isAgg9
 z9:=Tryz.sizeOf9
 v9:=Tryz.zeroValue9
 t22:=Tryz.underlying166
 a22:=Tryz.isAgg166
 z22:=Tryz.sizeOf166
 v22:=Tryz.zeroValue166
 t25:=Tryz.underlying236
 a25:=Tryz.isAgg236
 z25:=Tryz.sizeOf236
 v25:=Tryz.zeroValue236
 t39:=Tryz.underlying185
 a39:=Tryz.isAgg185
 z39:=Tryz.sizeOf185
 v39:=Tryz.zeroValue185
 t45:=Tryz.underlying255
 a45:=Tryz.isAgg255
 z45:=Tryz.sizeOf255
 v45:=Tryz.zeroValue255
 t46:=Tryz.underlying256
 a46:=Tryz.isAgg256
 z46:=Tryz.sizeOf256
 v46:=Tryz.zeroValue256
 t50:=Tryz.underlying125
 a50:=Tryz.isAgg125
 z50:=Tryz.sizeOf125
 v50:=Tryz.zeroValue125
 t53:=Tryz.underlying262
 a53:=Tryz.isAgg262
 z53:=Tryz.sizeOf262
 v53:=Tryz.zeroValue262
 t55:=Tryz.underlying264
 a55:=Tryz.isAgg264
 z55:=Tryz.sizeOf264
 v55:=Tryz.zeroValue264
 t66:=Tryz.underlying286
 a66:=Tryz.isAgg286
 z66:=Tryz.sizeOf286
 v66:=Tryz.zeroValue286
 t70:=Tryz.underlying290
 a70:=Tryz.isAgg290
 z70:=Tryz.sizeOf290
 v70:=Tryz.zeroValue290
 t76:=Tryz.underlying307
 a76:=Tryz.isAgg307
 z76:=Tryz.sizeOf307
 v76:=Tryz.zeroValue307
 t77:=Tryz.underlying308
 a77:=Tryz.isAgg308
 z77:=Tryz.sizeOf308
 v77:=Tryz.zeroValue308 }
namespace Tryz
open Go Go.Iv
theorem xZk:tyI Tryz.prog (Tryz.sortSL_ren.t 24)=some (true,2):=by kernel_rfl
theorem xW9 (w:World):(isAgg (Tryz.sortSL_ren.t 24)).run Tryz.prog w=.ok true w:=(yZl xZk w).1
theorem xJv (w:World):(Go.sizeOf (Tryz.sortSL_ren.t 24)).run Tryz.prog w=.ok 2 w:=(yZl xZk w).2
end Tryz
end Go.Proofs
namespace Go.Proofs.Tryz
set_option maxRecDepth 4000
open Go Go.Iv Go.Sort Go.Shelf Go.RowKit
variable (gl:Nat->Option IV)
theorem xZ3 (g:FuncId)(hent:∀args w,(callFunc g args).run prog w=.ok (.enter g args) w)(xs rest:List IV)(b cap:Nat)(st:ISt)(hne:xs≠[])(hlen:xs.length<=140737488355328)(hx:∀x∈xs,fits true 2 x=true)(hb:st b=some (.box (xs.flatMap IV.cells++rest)))(cf:IV->IV->Int)
  (h1:∀x∈xs,¬ cf x x<0) (h2:∀x∈xs,∀y∈xs,∀z∈xs,cf x y<0->cf y z<0->cf x z<0) (h3:∀x∈xs,∀y∈xs,∀z∈xs,¬ cf x y<0->¬ cf y z<0->¬ cf x z<0)
  (hcmp:∀x∈xs,∀y∈xs,ICall prog (λ_=>none) g [x,y] (λ_=>none) (λr _=>r=.raw (.int .i64 (cf x y)))) :
  ICall prog gl 190 [.raw (.slice (some ⟨b,0,none⟩) xs.length cap),.fn (.func g) [] []] st
   (λr st'=>r=.tup []/\∃ys:List IV,ys.Perm xs/\ys.Pairwise (λx y=>¬ cf y x<0)/\st'=st.put b (some (.box (ys.flatMap IV.cells++rest)))):=by
 intro B X rs hg hst hv;subst hst;obtain⟨r0,r1,rfl⟩:∃r0 r1,rs=[r0,r1]:=by
  match rs,hv with
  | [a,b],_=>exact⟨a,b,rfl⟩
  | [],hv=>cases hv.1
  | [_],hv=>cases hv.1
  | _::_::_::_,hv=>cases hv.1
 obtain rfl:=V.raw_inv (hv.2 0 r0 _ rfl rfl);obtain⟨f1,f2,rfl,hf1,hf2⟩:=V.fn_inv (hv.2 1 r1 _ rfl rfl);obtain rfl:f1=[]:=List.eq_nil_of_length_eq_zero hf1.1;obtain rfl:f2=[]:=List.eq_nil_of_length_eq_zero hf2.1;obtain⟨hL,c,T,hh,hvl⟩:=hg.ok b _ hb;have hblk:b<X.w.heap.size:=hg.lt hb;have hcells:∀x∈xs,x.cells.length=2:=λx hxm=>(yZp (hx x hxm)).2.1;have hcl:c.size=xs.length*2+rest.length:=by
  have:=hvl.1;rw[lLa,yQn xs hcells,Array.length_toList] at this;exact this
 -- the elements
 let α:={ p:IV×List Value // p.1∈xs/\VL B X.L X.w p.2 p.1.cells }
 have hel:∀(l:List IV) (vs:List Value),(∀x∈l,x∈xs)->VL B X.L X.w vs (l.flatMap IV.cells)->∃d:List α,d.map (λa=>a.1.1)=l/\d.flatMap (λa=>a.1.2)=vs:=by
  intro l
  induction l with
  | nil =>
   intro vs _ hvs;exact⟨[],rfl,(List.eq_nil_of_length_eq_zero hvs.1).symm⟩
  | cons x l ih =>
   intro vs hm hvs;have hx4:=hcells x (hm x (by simp));have hlv:vs.length=2+(l.flatMap IV.cells).length:=by rw[hvs.1,List.flatMap_cons,lLa,hx4]
   have ha:VL B X.L X.w (vs.take 2) x.cells:=by
    have:=hvs.take 2
    rwa [List.flatMap_cons,List.take_left' hx4] at this
   have hbv:VL B X.L X.w (vs.drop 2) (l.flatMap IV.cells):=by
    have:=hvs.drop 2
    rwa [List.flatMap_cons,List.drop_left' hx4] at this
   obtain⟨d,hd1,hd2⟩:=ih (vs.drop 2) (λy hy=>hm y (by simp[hy])) hbv;exact⟨⟨(x,vs.take 2),hm x (by simp),ha⟩::d,by simp[hd1],by simp[hd2]⟩
 obtain⟨d,hd1,hd2⟩:=hel xs (c.toList.take (xs.length*2)) (λ_ h=>h) (by
  have:=hvl.take (xs.length*2)
  rwa [List.take_left' (yQn xs hcells)] at this)
 have hdl:d.length=xs.length:=by rw[<- hd1,List.length_map]
 have hdn:d≠[]:=by rintro rfl;exact hne (List.eq_nil_of_length_eq_zero hdl.symm)
 letI:Inhabited α:=⟨d.head hdn⟩
 let enc:α->List Value:=λa=>a.1.2
 have hk:∀a:α,(enc a).length=2:=λa=>by rw[a.2.2.1];exact hcells _ a.2.1
 have hone:∀(a:α),∀v∈enc a,v.oneCell'=true:=λa v hv=>yVm (C:=⟨prog,gl,B⟩) a.2.2 (yZp (hx _ a.2.1)).2.2.1 v hv
 let cf':α->α->Int:=λa a'=>cf a.1.1 a'.1.1
 have hO:SWO (ltOf cf'):=⟨λa=>by simp only[ltOf,decide_eq_false_iff_not];exact h1 _ a.2.1,λa a' a'' p q=>by
   simp only[ltOf,dTe] at p q ⊢;exact h2 _ a.2.1 _ a'.2.1 _ a''.2.1 p q,λa a' a'' p q=>by
   simp only[ltOf,decide_eq_false_iff_not] at p q ⊢;exact h3 _ a.2.1 _ a'.2.1 _ a''.2.1 p q⟩
 have hfl:(flatK enc 2 d.toArray).toList=c.toList.take (xs.length*2):=by
  rw[yWx hk (by decide)];exact hd2
 have hH:HoldsK enc 2 X.w b 0 d.toArray:=by
  intro j hj;have hj':j<xs.length*2:=by rw[size_flatK] at hj;simpa[hdl] using hj
  have e1:(flatK enc 2 d.toArray)[j]?=c[j]?:=by
   rw[<- Array.getElem?_toList,hfl,List.getElem?_take,if_pos hj',Array.getElem?_toList]
  have hjc:j<c.size:=by omega
  rw[Array.getElem?_eq_getElem hj,Array.getElem?_eq_getElem hjc] at e1;refine⟨?_,?_⟩
  ·rw[Nat.zero_add,yQx hh,Array.getElem?_toList,Array.getElem?_eq_getElem hjc,<- e1,id,getElem!_pos _ j hj]
  ·simp only[World.frozen?,hh];simp
 have hmono:∀(n:Nat) (dk:Array α) (os:Array Obj) (X1:WS),X1.w=sortWorldK enc 2 X.w b 0 n dk os->X1.L=X.L->∀r x,V B X.L X.w r x->V B X1.L X1.w r x:=by
  intro n dk os X1 hw hXL r x hrx;refine V.mono hrx (λj=>by rw[hXL];exact Nat.le_refl _) (λj i hi=>?_) (λj p hp=>?_)
  ·have hjb:j≠b:=by rintro rfl;rw[hL] at hi;omega
   have hjl:j<X.w.heap.size:=by
    rcases Nat.lt_or_ge j X.w.heap.size with h|h
    ·exact h
    ·rw[hg.Lnew j h] at hi;omega
   exact yXm (by rw[hw];exact yXe hjb hjl) i
  ·by_cases hjb:j=b
   ·subst hjb;simp only[shq,hh] at hp;simp only[shq,hw,zQr hh];rw[<- hp];simp[putCells]
   ·rw[<- hp];exact yZq (by rw[hw];exact yXe hjb (yKd hp))
 have hcon:=AnyQ.slices_SortFunc Tryz.sortSL 2 xW9 xJv enc hk hone cf' hO g #[] b 0 cap d.toArray X.w hent (by
   intro n os dk hdk a a'
   let X1:WS:={ w:=sortWorldK enc 2 X.w b 0 n dk os,L:=X.L,st:=λ_=>none,d:=X.w.drawn+n }
   have hsz:=size_sortWorldK_c enc 2 X.w b 0 n dk os;have hg1:Go.Iv.Good ⟨prog,λ_=>none,B⟩ X1:=⟨λ_ _ h=>(by cases h),λ_ _ h=>(by cases h),Nat.le_trans hg.B hsz,λj hj=>hg.Lnew j (Nat.le_trans hsz hj),λ_ _ h=>(by cases h),λ_=>Nat.le_refl _⟩
   have hm1:=hmono n dk os X1 rfl rfl;have agg:∀a:α,V B X1.L X1.w (.agg (enc a).toArray) a.1.1:=λa=>by
    obtain⟨⟨x,vs⟩,hxm,hvx⟩:=a;obtain⟨cs,rfl⟩:∃cs,x=.agg cs:=by
     have:=hx x hxm;cases x<;>first|exact⟨_,rfl⟩|(simp[fits] at this)
    exact (show VL B X1.L X1.w vs cs from⟨hvx.1,λi r c hr hc=>hm1 r c (hvx.2 i r c hr hc)⟩).agg
   refine (hcmp a.1.1 a.2.1 a'.1.1 a'.2.1 B X1 [.agg (enc a).toArray,.agg (enc a').toArray] hg1 rfl (VL.cons (agg a) (VL.cons (agg a') VL.nil))).mono ?_;rintro e w' ⟨v,rfl,X',x,rfl,hg',he',hv',rfl⟩;obtain rfl:=V.raw_inv hv';refine⟨rfl,?_⟩;have hd:=hg'.dr (λ_=>rfl);rw[he'.d] at hd;exact zXu he' (λ_=>rfl) hd) hH hblk (by simp[hdl];omega)
 have harr:(⟨[.slice (some ⟨b,0,none⟩) xs.length cap,.func (.func g) ⟨[]⟩ ⟨[]⟩]⟩:Array Value)=#[.slice (some ⟨b,0,none⟩) d.toArray.size cap,.func (.func g) #[] #[]]:=by simp[hdl]
 rw[harr];refine hcon.mono ?_;rintro e w' ⟨rfl,d',n,os,hp,hs,rfl⟩;have hd'l:d'.size=xs.length:=by rw[hp.1];simp[hdl]
 have hperm:d'.toList.Perm d:=by
  have:=hp.2.2;rw[List.size_toArray,hdl,<- hd'l,Array.extract_size] at this
  rwa [hd'l,<- hdl,show d.toArray.extract 0 d.length=d.toArray by simp] at this
 have hys:∀y∈d'.toList.map (λa=>a.1.1),y∈xs:=λy hy=>by
  obtain⟨a,_,rfl⟩:=List.mem_map.1 hy;exact a.2.1
 have hblock:=zQr (enc:=enc) (k:=2) (m:=n) (dk:=d') (os:=os) hh;have hfs:(flatK enc 2 d').size=xs.length*2:=by rw[size_flatK,hd'l]
 have hpl:(putCells id 0 (flatK enc 2 d') c).toList=d'.toList.flatMap enc++c.toList.drop (xs.length*2):=by
  rw[yGe (by omega),yWx hk (by decide),hfs]
 let X':WS:={ w:=sortWorldK enc 2 X.w b 0 n d' os,L:=X.L,st:=X.st.put b (some (.box ((d'.toList.map (λa=>a.1.1)).flatMap IV.cells++rest))),d:=X.d }
 have hm:=hmono n d' os X' rfl rfl;have hsz:=size_sortWorldK_c enc 2 X.w b 0 n d' os;have hvlm:∀rs cs,VL B X.L X.w rs cs->VL B X'.L X'.w rs cs:=λrs cs h=>⟨h.1,λi r x hr hx=>hm r x (h.2 i r x hr hx)⟩
 have hgood:Go.Iv.Good ⟨prog,gl,B⟩ X':=by
  refine⟨λj o ho=>?_,λj x hj=>hm _ _ (hg.gl j x hj),Nat.le_trans hg.B hsz,λj hj=>hg.Lnew j (Nat.le_trans hsz hj),λj x hj=>?_,λhd=>Nat.le_trans (hg.dr hd) (Nat.le_add_right _ _)⟩
  ·by_cases hjb:j=b
   ·subst hjb;simp only[X',ISt.put_same,Option.some.injEq] at ho;subst ho;refine⟨hL,_,T,hblock,hvlm _ _ ?_⟩;rw[hpl];refine VL.append ?_ ?_
    ·have key:∀l:List α,VL B X.L X.w (l.flatMap enc) ((l.map λa=>a.1.1).flatMap IV.cells):=λl=>by
      induction l with
      | nil=>exact VL.nil
      | cons a l ih=>simp only[List.flatMap_cons,List.map_cons];exact a.2.2.append ih
     exact key _
    ·have:=hvl.drop (xs.length*2)
     rwa [List.drop_left' (yQn xs hcells)] at this
   ·have ho':X.st j=some o:=by simpa only[X',ISt.put_apply,if_neg hjb] using ho
    exact (hg.ok j o ho').mono (yXe hjb (hg.lt ho')) rfl hvlm
  ·obtain⟨T',z,hT⟩:=hg.gsh j x hj;refine⟨T',z,?_⟩;by_cases hjb:j=b
   ·subst hjb;simp only[shq,hh] at hT;simp only[shq,X',hblock];rw[<- hT];simp[putCells]
   ·rw[<- hT];exact yZq (yXe hjb (yKd hT))
 refine⟨_,rfl,X',.tup [],rfl,hgood,⟨rfl,rfl,rfl,hsz,λ_=>Nat.le_refl _,λj i hi=>?_,λj hj hs0=>?_,λj hj hs0=>?_,λj p hp=>?_,rfl⟩,.tup [] [] rfl (λi r c h=>by simp at h),rfl,_,?_,?_,rfl⟩
 ·have hjb:j≠b:=by rintro rfl;rw[hL] at hi;omega
  have hjl:j<X.w.heap.size:=by
   rcases Nat.lt_or_ge j X.w.heap.size with h|h
   ·exact h
   ·rw[hg.Lnew j h] at hi;omega
  exact yXm (yXe hjb hjl) i
 ·have hjb:j≠b:=by rintro rfl;rw[hb] at hs0;cases hs0
  exact⟨yXe hjb hj,rfl⟩
 ·have hjb:j≠b:=by rintro rfl;rw[hb] at hs0;cases hs0
  simp only[X',ISt.put_apply,if_neg hjb];exact hs0
 ·by_cases hjb:j=b
  ·subst hjb;simp only[shq,hh] at hp;simp only[shq,X',hblock];rw[<- hp];simp[putCells]
  ·rw[<- hp];exact yZq (yXe hjb (yKd hp))
 ·have:=hperm.map (λa:α=>a.1.1)
  rwa [hd1] at this
 ·rw[List.pairwise_map];refine List.pairwise_iff_getElem.2 λi j hi hj hij=>?_;have:=hs i j (Nat.zero_le _) hij (by simp at hj ⊢;omega);simp only[ltOf,decide_eq_false_iff_not] at this;rw[Array.length_toList] at hi hj;rw[getElem!_pos d' i hi,getElem!_pos d' j hj] at this;exact this
end Go.Proofs.Tryz
namespace Go.Proofs.Tryz
open Go Go.Iv Go.Sort Go.Shelf Go.RowKit
set_option maxRecDepth 4000
variable (gl:Nat->Option IV)
def rdS:IV->ByteArray×Nat
 | .agg [.raw (.string s),.raw (.int _ n)]=>(s,n.toNat)
 | _=>(⟨#[]⟩,0)
noncomputable def yGx (p q:ByteArray×Nat):Int:=lexI (cmpB p.1 q.1) (cmpN p.2 q.2)
def vZe (x:IV):Prop:=∃(s:ByteArray) (n:Nat),x=.agg [.raw (.string s),.raw (.int .i64 (n:Int))]
theorem xUw (s t:ByteArray)(n m:Nat)(st:ISt):ICall prog gl 141 [.agg [.raw (.string s),.raw (.int .i64 (n:Int))],.agg [.raw (.string t),.raw (.int .i64 (m:Int))]] st
  (λr st'=>r=.raw (.int .i64 (yGx (s,n) (t,m)))/\st'=st):=by
 have h1:=λst=>zJ1 gl s t st;have h2:=λst=>zVw gl n m st;refine iI func141 ?_;simp only[go_sem,zE,zA];refine (h1 _).mono ?_;rintro _ st ⟨rfl,rfl⟩;by_cases h0:cmpB s t=0
 ·simp only[go_sem,zE,zA,h0,decide_true,Bool.not_true];refine (h2 _).mono ?_;rintro _ st ⟨rfl,rfl⟩;simp only[go_sem];exact yQ0 ⟨by simp[yGx,lexI,h0],rfl⟩
 ·simp only[go_sem,zE,i1 _ h0];exact yQ0 ⟨by simp[yGx,lexI,h0],rfl⟩
theorem xVb (t:Tag)(ht:t.cap=.nil)(g:FuncId)(st:ISt):ICall prog gl 190 [.sl t [],.fn (.func g) [] []] st (λr st'=>r=.tup []/\st'=st):=by
 obtain⟨fs,c,es⟩:=t;obtain rfl:c=.nil:=ht;intro B X rs hg hst hv;obtain⟨r0,r1,rfl⟩:∃r0 r1,rs=[r0,r1]:=by
  match rs,hv with
  | [a,b],_=>exact⟨a,b,rfl⟩
  | [],hv=>cases hv.1
  | [_],hv=>cases hv.1
  | _::_::_::_,hv=>cases hv.1
 obtain⟨p,cap,rfl⟩:∃p cap,r0=.slice p 0 cap:=by
  have:=hv.2 0 r0 _ rfl rfl;obtain⟨a,cap,_,_,rfl,_⟩:=V.sl_inv this;exact⟨a,cap,rfl⟩
 refine Calls.mono (AnyF.slices_SortFunc_none Tryz.sortSL p cap r1 X.w) ?_;rintro e w' ⟨rfl,rfl⟩;exact⟨_,rfl,X,.tup [],rfl,hg,Ext.refl X,.tup [] [] rfl (λi r c h=>by simp at h),rfl,hst⟩
theorem zG9 (p q:ByteArray×Nat):yGx q p = - yGx p q:=by
 unfold yGx;rw[(yXt p.1).neg q.1,(yWg p.2).neg q.2,yVh]
theorem wZm {p q:ByteArray×Nat}(h:yGx p q=0):p=q:=by
 obtain⟨h1,h2⟩:=yK2.1 h;exact Prod.ext (((yXt p.1).eq q.1).1 h1) (((yWg p.2).eq q.2).1 h2)
theorem xGw (p:ByteArray×Nat):¬ yGx p p<0:=by
 have:=zG9 p p;omega
theorem xJd {p q r:ByteArray×Nat}(h:yGx p q<0)(k:yGx q r<0):yGx p r<0 :=
 zK7 ((yXt p.1).tr q.1 r.1) (λe=>by rw[((yXt p.1).eq q.1).1 e]) (λe=>by rw[((yXt q.1).eq r.1).1 e]) ((yWg p.2).tr q.2 r.2) h k
end Go.Proofs.Tryz
namespace Go.Proofs.Tryz
open Go Go.Iv Go.Sort Go.Shelf Go.RowKit
set_option maxRecDepth 4000
variable (gl:Nat->Option IV)
theorem xVg (g:FuncId)(caps:List IV)(ents:Array MapEntry)(hE:∀e∈ents.toList,∃s n,keyI e.key=some (.agg [.raw (.string s),.raw (.int .i64 n)]))(hlen:ents.toList.length<=1000000000)(st:ISt)(he:entI prog g=true)(Base:ISt->Prop)(hB:Base st)
  (hi:xZ5 prog gl g [] caps (yUi (symH ents)) [] (finH ents) (λ_=>Base) noUp) :
  ICall prog gl 189 [.fn (.func g) [] caps] st (λr st'=>(∃h,finH ents h/\wZx st h r st')/\subSt st st'):=by
 have hA:=λf es=>zGp gl g caps ents hE hlen st he Base hB hi f es;refine iI func189 ?_;simp only[go_sem,zE,zB,zA,zM,zS,zL,reduceCtorEq,fits];refine (hA _ _).mono ?_;rintro r st' h;have hci:ivOf (.iv r)=some r:=by
  obtain⟨⟨_,_,xs,_,⟨_,f,e,rfl⟩|⟨g,cap,cs,_,_,rfl,_⟩⟩,_⟩:=h<;>rfl
 simp only[go_sem,zE,zB,zA,zM,zS,zL,reduceCtorEq,fits,hci];exact yQ0 h
theorem xUk (g:FuncId)(caps:List IV)(ents:Array MapEntry)(hE:∀e∈ents.toList,∃s n,keyI e.key=some (.agg [.raw (.string s),.raw (.int .i64 n)]))(hN:∀e∈ents.toList,∀x,keyI e.key=some x->vZe x)(hlen:ents.toList.length<=1000000000)(st:ISt)(he:entI prog g=true)(Base:ISt->Prop)(hB:Base st)
  (hi:xZ5 prog gl g [] caps (yUi (symH ents)) [] (finH ents) (λ_=>Base) noUp) :
  ICall prog gl 139 [.fn (.func g) [] caps,.fn (.func 141) [] []] st (λr st'=>(∃h,finH ents h/\wZx st h r st')/\subSt st st'):=by
 have hA:=xVg gl g caps ents hE hlen st he Base hB hi;refine iI func139 ?_;simp only[go_sem,zE,zB,zA,zM,zS,zL,reduceCtorEq,fits];refine hA.mono ?_;rintro r st1 ⟨⟨hs,hfin,xs,hxl,h⟩,hsub⟩;rcases h with⟨h0,f,e,rfl⟩|⟨b,cap,cs,h0,hbn,rfl,hb,hkc,hcc,htk⟩
 ·simp only[go_sem,zE,zB,zA,zM,zS,zL,reduceCtorEq,fits];refine (xVb gl _ rfl _ _).mono ?_;rintro _ st1 ⟨rfl,rfl⟩;simp only[go_sem,zE,zB,zA,zM,zS,zL,reduceCtorEq,fits];exact yQ0 ⟨⟨hs,hfin,xs,hxl,.inl ⟨h0,f,e,rfl⟩⟩,hsub⟩
 ·have hg:∀x∈xs,vZe x:=λx hx=>by
   obtain⟨e,he,rfl⟩:=List.mem_map.1 (hxl.mem_iff.1 hx);have hem:=hfin.2.2 e he;obtain⟨s,n,hk⟩:=hE e hem;exact hN e hem _ (by unfold keyD;rw[hk];rfl)
  have hcs:cs=xs.flatMap IV.cells++cs.drop (hs.length*2):=by rw[<- htk,List.take_append_drop]
  have hS:=xZ3 gl 141 (enters_of func141 (by kernel_rfl) rfl) xs (cs.drop (hs.length*2)) b cap st1 (λh=>by subst h;exact h0 (by simpa using hxl.length_eq.symm)) (by have:=hxl.length_eq;rw[List.length_map,hfin.1] at this;omega) (λx hx=>by
    obtain⟨s,n,rfl⟩:=hg x hx;rfl) (by rw[<- hcs];exact hb) (λx y=>yGx (rdS x) (rdS y)) (λx _=>xGw _) (λx _ y _ z _=>xJd) (λx _ y _ z _ h1 h2 h3=>by
    rcases Int.lt_or_le (yGx (rdS y) (rdS x)) 0 with h|h
    ·exact h2 (xJd h h3)
    ·have hxy:yGx (rdS x) (rdS y)=0:=by
      have:=zG9 (rdS x) (rdS y);omega
     rw[wZm hxy] at h3;exact h2 h3) (λx hxm y hym=>by
    obtain⟨s,n,rfl⟩:=hg x hxm;obtain⟨t,m,rfl⟩:=hg y hym;exact (xUw (λ_=>none) s t n m _).mono λr st' h=>h.1)
  rw[show xs.length=hs.length by rw[hxl.length_eq,List.length_map]] at hS;simp only[go_sem,zE,zB,zA,zM,zS,zL,reduceCtorEq,fits];refine hS.mono ?_;rintro _ _ ⟨rfl,ys,hp,_,rfl⟩;simp only[go_sem,zE,zB,zA,zM,zS,zL,reduceCtorEq,fits];refine yQ0 ⟨⟨hs,hfin,ys,hp.trans hxl,.inr ⟨b,cap,_,h0,hbn,rfl,ISt.put_same ..,hkc,?_,?_⟩⟩,λc o hc=>?_⟩
  ·have hl:=congrArg List.length hcs;rw[lLa] at hl;rw[lLa,(hp.flatMap_right IV.cells).length_eq];omega
  ·rw[List.take_left'];rw[(hp.flatMap_right IV.cells).length_eq];have:=congrArg List.length htk;rw[List.length_take] at this;omega
  ·rw[yQ6 (by rintro rfl;rw[hbn] at hc;cases hc)];exact hsub _ _ hc
end Go.Proofs.Tryz
namespace Go.Proofs.Tryz
open Go Go.Iv
set_option maxRecDepth 4000
variable (gl:Nat->Option IV)
theorem xZe {key:Value}{y:IV}{p:Value×IV}:∀ {es:List (Value×IV)},p∈updI key y es->p.1=key\/p∈es
 | [],h=>by
  simp only[updI,List.mem_singleton] at h;subst h;exact .inl rfl
 | (k,x)::es,h=>by
  unfold updI at h;split at h
  ·rcases List.mem_cons.1 h with rfl|h
   ·exact .inl rfl
   ·exact .inr (List.mem_cons_of_mem _ h)
  ·rcases List.mem_cons.1 h with rfl|h
   ·exact .inr (List.mem_cons_self ..)
   ·exact (xZe h).imp id λh=>List.mem_cons_of_mem _ h
theorem xZf {key:Value}{y:IV}:∀ {es:List (Value×IV)},(updI key y es).length<=es.length+1
 | []=>by simp[updI]
 | (k,x)::es=>by
  have:=xZf (key:=key) (y:=y) (es:=es);unfold updI;split<;>simp<;>omega
def symIn (l:List Fm)(s:ByteArray)(n:Nat):Prop:=∃us sub,Fm.mk 1 s us sub∈l/\us.length=n
structure SymMapX (l:List Fm)(es:List (Value×IV)):Prop where
 len:es.length<=l.length
 key:∀p∈es,∃(s:ByteArray) (n:Nat),p.1=.agg #[.string s,.int .i64 (n:Int)]/\s.size<=1000000000/\symIn l s n
 cov:∀s n,symIn l s n->∃p∈es,p.1=.agg #[.string s,.int .i64 (n:Int)]
structure SymsX (l:List Fm)(ys:List IV):Prop where
 len:ys.length<=l.length
 key:∀y∈ys,∃(s:ByteArray) (n:Nat),y=.agg [.raw (.string s),.raw (.int .i64 (n:Int))]/\s.size<=1000000000/\symIn l s n
 cov:∀s n,symIn l s n->(.agg [.raw (.string s),.raw (.int .i64 (n:Int))]:IV)∈ys
theorem symIn.app {l m:List Fm}{s:ByteArray}{n:Nat}(h:symIn l s n):symIn (l++m) s n:=by
 obtain⟨us,sub,h1,h2⟩:=h;exact⟨us,sub,List.mem_append_left _ h1,h2⟩
def symV (s:ByteArray)(n:Nat):Value:=.agg #[.string s,.int .i64 (n:Int)]
theorem xZg {s:ByteArray}{n:Nat}{y:IV}:∀ {es:List (Value×IV)},(∀p∈es,∃s n,p.1=symV s n)->(∃p∈updI (symV s n) y es,p.1=symV s n)/\∀q∈es,∃p∈updI (symV s n) y es,p.1=q.1
 | [],_=>⟨⟨_,by simp only[updI];exact List.mem_singleton.2 rfl,rfl⟩,nofun⟩
 | (k,x)::es,h=>by
  have ih:=xZg (s:=s) (n:=n) (y:=y) (es:=es) λp hp=>h p (List.mem_cons_of_mem _ hp);obtain⟨s',n',hk'⟩:=h _ (List.mem_cons_self ..);simp only at hk';unfold updI;split
  ·rename_i hk;have hk:symV s n=k:=by
    rw[hk'] at hk ⊢;simp[yK9,xVz,symV] at hk;obtain⟨h1,h2⟩:=hk;subst h1;have h3:n=n':=by omega
    rw[h3]
   exact⟨⟨_,List.mem_cons_self ..,rfl⟩,λq hq=>by
    rcases List.mem_cons.1 hq with rfl|hq
    ·exact⟨_,List.mem_cons_self ..,hk⟩
    ·exact⟨q,List.mem_cons_of_mem _ hq,rfl⟩⟩
  ·obtain⟨⟨p,h1,h2⟩,h3⟩:=ih;exact⟨⟨p,List.mem_cons_of_mem _ h1,h2⟩,λq hq=>by
    rcases List.mem_cons.1 hq with rfl|hq
    ·exact⟨_,List.mem_cons_self ..,rfl⟩
    ·obtain⟨p,h4,h5⟩:=h3 q hq;exact⟨p,List.mem_cons_of_mem _ h4,h5⟩⟩
theorem SymMapX.upd {l:List Fm}{es:List (Value×IV)}(h:SymMapX l es){s:ByteArray}{us:List Tm}{sub:List Fm}(hs:s.size<=1000000000)(y:IV):SymMapX (l++[.mk 1 s us sub]) (updI (.agg #[.string s,.int .i64 (us.length:Int)]) y es) :=
 ⟨by have:=xZf (key:=.agg #[.string s,.int .i64 (us.length:Int)]) (y:=y) (es:=es);have:=h.len;rw[lLa,List.length_singleton];omega,λp hp=>by
  rcases xZe hp with h1|h1
  ·exact⟨s,us.length,h1,hs,us,sub,by simp,rfl⟩
  ·obtain⟨s',n,h2,h3,h4⟩:=h.key p h1;exact⟨s',n,h2,h3,h4.app⟩,λs' n hn=>by
  obtain⟨us',sub',h1,h2⟩:=hn;have hk:=xZg (s:=s) (n:=us.length) (y:=y) (es:=es) λp hp=>by obtain⟨s,n,h,_⟩:=h.key p hp;exact⟨s,n,h⟩
  rcases List.mem_append.1 h1 with h1|h1
  ·obtain⟨q,hq,hq1⟩:=h.cov s' n ⟨us',sub',h1,h2⟩;obtain⟨p,hp,hp1⟩:=hk.2 q hq;exact⟨p,hp,hp1.trans hq1⟩
  ·simp only[List.mem_singleton,Fm.mk.injEq,true_and] at h1;obtain⟨rfl,rfl,rfl⟩:=h1;rw[<- h2];exact hk.1⟩
theorem SymMapX.skip {l:List Fm}{es:List (Value×IV)}(h:SymMapX l es){o:Nat}{s:ByteArray}{us:List Tm}{sub:List Fm}(ho:¬ o=1):SymMapX (l++[.mk o s us sub]) es :=
 ⟨by have:=h.len;rw[lLa];omega,λp hp=>by
  obtain⟨s',n,h2,h3,h4⟩:=h.key p hp;exact⟨s',n,h2,h3,h4.app⟩,λs' n hn=>by
  obtain⟨us',sub',h1,h2⟩:=hn;rcases List.mem_append.1 h1 with h1|h1
  ·exact h.cov s' n ⟨us',sub',h1,h2⟩
  ·simp only[List.mem_singleton,Fm.mk.injEq] at h1;exact (ho h1.1.symm).elim⟩
theorem xW8 (l:List Fm)(hK:l.length<=1000000000)(m:Nat)(es:List (Value×IV))(hes:SymMapX l es)(st:ISt)(hm:st m=some (.map .sym es)) :
  ICall prog gl 114 [.raw (.map (some m))] st (λr st'=>∃t ys o,r=.sl t ys/\okEs t 2/\SymsX l ys/\st'=st.put m o):=by
 refine ICall.mapx hm λents clock ⟨g1,g2,g3,g4,_⟩=>?_;have hN:ents.toList.length=es.length:=by have:=congrArg List.length g1;simpa using this
 have hkey:∀e∈ents.toList,∃(s:ByteArray) (n:Nat),keyI e.key=some (.agg [.raw (.string s),.raw (.int .i64 (n:Int))])/\s.size<=1000000000/\symIn l s n/\e.key=.agg #[.string s,.int .i64 (n:Int)]:=λe he=>by
  have h1:e.key∈es.map (·.1):=g1▸List.mem_map_of_mem he;obtain⟨p,hp,hq⟩:=List.mem_map.1 h1;obtain⟨s,n,h2,h3,h4⟩:=hes.2 p hp;refine⟨s,n,?_,h3,h4,by rw[<- hq,h2]⟩;rw[<- hq,h2];simp[keyI,show s.size<=281474976710656 by omega]
 have hE:EntOk ents clock:=⟨λe he=>by obtain⟨s,n,h,_⟩:=hkey e he;exact⟨s,n,h⟩,g3,by
  have hp:(ents.toList.map (·.born)).Pairwise (·<·):=List.pairwise_map.2 g4;exact hp.imp λh=>Nat.ne_of_lt h⟩
 have hsyms:∀(h:List MapEntry) (xs:List IV),finH ents h->xs.Perm (h.map keyD)->SymsX l xs:=λh xs h1 h2=>⟨by rw[h2.length_eq,List.length_map,h1.1,hN];exact hes.1,λy hy=>by
  obtain⟨e,he,rfl⟩:=List.mem_map.1 (h2.mem_iff.1 hy);obtain⟨s,n,h3,h5,h4,_⟩:=hkey e (h1.2.2 e he);exact⟨s,n,by unfold keyD;rw[h3];rfl,h5,h4⟩,λs n hs=>by
  obtain⟨p,hp,hp1⟩:=hes.3 s n hs;have hm:p.1∈ents.toList.map (·.key):=g1▸List.mem_map_of_mem hp;obtain⟨e,he,hk⟩:=List.mem_map.1 hm;obtain⟨s',n',h3,_,_,h4⟩:=hkey e he;rw[hk,hp1] at h4;simp only[Value.agg.injEq] at h4;have h4':=congrArg Array.toList h4;simp at h4';refine h2.mem_iff.2 (List.mem_map.2 ⟨e,h1.2.1 e he,?_⟩);unfold keyD;rw[h3,<- h4'.1,<- h4'.2];rfl⟩
 refine ICall.fix1 ?_;generalize hS:st.put m (some (.mapx ents clock))=S;have hSm:S m=some (.mapx ents clock):=by rw[<- hS];exact ISt.put_same ..
 have hKk:=λst=>wW2 gl m st;have hSo:=λb st hB=>xUk gl 191 [.raw (.pointer (some ⟨b,0,none⟩))] ents hE.key (λe he x hx=>by
  obtain⟨s,n,h3,h4,_⟩:=hkey e he;rw[h3] at hx;exact⟨s,n,(Option.some.inj hx).symm⟩) (by rw[hN];have:=hes.1;omega) st (by simp only[go_sem]) (λst=>st b=some (.box [.raw (.map (some m))])/\st m=some (.mapx ents clock)) hB (wZy gl m b clock ents hE)
 refine iI func114 ?_;simp only[go_sem,zE,zB,zA,zM,zS,zL,reduceCtorEq,fits];refine (hKk _).mono ?_;rintro _ _ ⟨b,hb,rfl,rfl⟩;simp only[go_sem,zE,zB,zA,zM,zS,zL,reduceCtorEq,fits,wXt];refine (hSo b _ ⟨ISt.put_same ..,by rw[yQ6 (yKh hSm hb)];exact hSm⟩).mono ?_;rintro r st' ⟨⟨hs,hfin,xs,hxl,h⟩,hsub⟩;have hsub2:=(yQo (o:=some (.box [.raw (.map (some m))])) hb).trans hsub;rcases h with⟨h0,f,e,rfl⟩|⟨g,cap,cs,h0,hgn,rfl,hg,hkc,hcc,htk⟩
 ·simp only[go_sem,zE,zB,zA,zM,zS,zL,reduceCtorEq,fits];refine yQj hsub2 (.inl ⟨_,[],some (.mapx ents clock),rfl,.inl rfl,hsyms hs _ hfin (by rw[h0];exact .nil),hS.symm⟩)
 ·have hgb:g≠b:=by rintro rfl;rw[ISt.put_same] at hgn;cases hgn
  rw[yQ6 hgb] at hgn;simp only[go_sem,zE,zB,zA,zM,zS,zL,reduceCtorEq,fits];refine yQj (st':=S.put g (some (.box cs))) (λc o hc=>?_) (.inr ⟨g,_,cap,cs,2,xs,hgn,rfl,rfl,by rw[hxl.length_eq,List.length_map],by rw[hfin.1,hN];have:=hes.1;omega,hkc,hcc,htk,λz hz=>?_,_,xs,some (.mapx ents clock),rfl,.inr rfl,hsyms hs xs hfin hxl,hS.symm⟩)
  ·rw[ISt.put_apply] at hc;split at hc
   ·rename_i hcg;rw[hcg,hg];exact hc
   ·exact hsub2 _ _ hc
  ·obtain⟨_,h9,_⟩:=hsyms hs xs hfin hxl;obtain⟨s,n,rfl,_⟩:=h9 z hz;rfl
theorem zGm (f:Fm)(x:IV)(hx:IsFm f x)(hl:(yZt f).length<=1000000000)(hp:∀o n us sub,Fm.mk o n us sub∈yZt f->n.size<=1000000000/\us.length<=1000000)(st:ISt) :
  ICall prog gl 84 [x] st (λr st'=>∃t ys,r=.sl t ys/\okEs t 2/\SymsX (yZt f) ys/\st'=st):=by
 have hw:=λst=>wX5 gl x st f hx;have hw1:=λI=>xVl gl f x hx I;have hSo:=λm es hes st hm=>xW8 gl (yZt f) hl m es hes st hm;obtain⟨o1,n1,t1,x1,t2,x2,rfl⟩:=hx.agg;refine ICall.intro (c:=cf prog gl [3] []) func84 rfl (by show _<=21;simp) (by kernel_rfl) ?_;simp only[go_sem,zE,zB,zA,zM,zS,zL,reduceCtorEq,fits];refine λm=>yQ9 λhm=>λb=>yQ9 λhb=>?_;have hbm:b≠m:=by rintro rfl;rw[ISt.put_same] at hb;cases hb
 rw[yQ6 hbm] at hb;refine (hw _).mono ?_;rintro _ _ ⟨rfl,rfl⟩;simp only[go_sem,zE,zB,zA,zM,zS,zL,reduceCtorEq,fits];refine RangeC.intro (wQl f) (yZt f).length (λk st'=>∃es,SymMapX ((yZt f).take k) es/\st'=(st.put m (some (.map .sym es))).put b (some (.box [.raw (.map (some m))]))) (λ_ _=>False) (by simp only[go_sem]) ?_ ?_ ?_ (hw1 _) ?_ (λ_ _ _ h=>h.elim)
 ·rintro k a ⟨_,_,_,_,rfl⟩;rfl
 ·exact⟨[],⟨Nat.zero_le _,nofun,λs n h=>by obtain⟨us,sub,h,_⟩:=h;simp at h⟩,yQ8 ..⟩
 ·rintro k a _ ⟨z,x,hz,hzx,rfl⟩ ⟨es,hes,rfl⟩;obtain⟨o,nm,us,sub⟩:=z;have hpz:=hp o nm us sub (lMg hz);obtain⟨tg,xs,tg',ys,rfl,hop,htg,hxs,htg',hys⟩:=hzx.mk;have hmm:((st.put m (some (.map .sym es))).put b (some (.box [.raw (.map (some m))]))) m=some (.map .sym es):=by rw[yQ6 (λh=>hbm h.symm),ISt.put_same]
  by_cases h1:o=1
  ·subst h1;simp only[go_sem,zE,zB,zA,zM,zS,zL,reduceCtorEq,fits,ISt.put_same,hmm,hxs.len,decide_true,show decide (((1:Nat):Int)=1)=true from rfl];intro hl;refine yQ9 λhs=>?_;unfold chk;refine⟨by rw[dEt hs,dEt (show (-9223372036854775808:Int)<=us.length by omega),dEt (show ((us.length:Nat):Int)<=9223372036854775807 by omega)];rfl,_,by rw[yQ7 hz];exact hes.upd hpz.1 (.raw (.bool true)),?_⟩;funext c;simp only[ISt.put_apply];by_cases h1:c=m
   ·rw[if_pos h1,if_neg (λh=>hbm (by rw[<- h,h1])),if_pos h1]
   ·rw[if_neg h1,if_neg h1,if_neg h1]
  ·simp only[go_sem,zE,zB,zA,zM,zS,zL,reduceCtorEq,fits,ISt.put_same,hmm,show decide (((o:Nat):Int)=1)=false from dEf (by omega)];exact⟨es,by rw[yQ7 hz];exact hes.skip h1,rfl⟩
 ·rintro _ r ⟨es,hes,rfl⟩;rw[lTl] at hes;have hmm:((st.put m (some (.map .sym es))).put b (some (.box [.raw (.map (some m))]))) m=some (.map .sym es):=by rw[yQ6 (λh=>hbm h.symm),ISt.put_same]
  simp only[go_sem,zE,zB,zA,zM,zS,zL,reduceCtorEq,ISt.put_same,fits];refine (hSo m es hes _ hmm).mono ?_;rintro _ _ ⟨t,ys,o,rfl,ht,hys,rfl⟩;simp only[go_sem,zE,zB,zA,zM,zS,zL,reduceCtorEq,fits];refine yQj (st':=st) (λc o' hc=>?_) ⟨t,ys,rfl,ht,hys,rfl⟩;rw[yQ6 (by rintro rfl;rw[hm] at hc;cases hc),yQ6 (by rintro rfl;rw[hb] at hc;cases hc),yQ6 (by rintro rfl;rw[hm] at hc;cases hc)];exact hc
mutual
def wTm:Tm->Nat
 | .mk _ n us=>1+n.size / 20+wTms us
def wTms:List Tm->Nat
 | []=>0
 | a::l=>wTm a+wTms l
end
mutual
def wFm:Fm->Nat
 | .mk _ n us sub=>1+n.size / 20+wTms us+wFms sub
def wFms:List Fm->Nat
 | []=>0
 | a::l=>wFm a+wFms l
end
theorem yYn:∀l m:List Tm,wTms (l++m)=wTms l+wTms m
 | [],m=>by simp[wTms]
 | a::l,m=>by simp only[List.cons_append,wTms,yYn l m];omega
theorem xVn {l:List Tm}{k:Nat}{a:Tm}(h:l[k]?=some a):wTms (l.take (k+1))=wTms (l.take k)+wTm a:=by
 rw[yQ7 h,yYn];simp[wTms]
theorem xVo (l:List Tm)(k:Nat):wTms (l.take k)<=wTms l:=by
 conv=>rhs;rw[<- List.take_append_drop k l]
 rw[yYn];omega
theorem yJt:∀l m:List Fm,wFms (l++m)=wFms l+wFms m
 | [],m=>by simp[wFms]
 | a::l,m=>by simp only[List.cons_append,wFms,yJt l m];omega
theorem xVp {l:List Fm}{k:Nat}{a:Fm}(h:l[k]?=some a):wFms (l.take (k+1))=wFms (l.take k)+wFm a:=by
 rw[yQ7 h,yJt];simp[wFms]
theorem xVq (l:List Fm)(k:Nat):wFms (l.take k)<=wFms l:=by
 conv=>rhs;rw[<- List.take_append_drop k l]
 rw[yJt];omega
def Sum (w:Nat)(lim:Int)(r:IV):Prop:=∃n:Nat,r=.raw (.int .i64 n)/\n<=w/\((n:Int)<=lim->n=w)
def tC (us:List Tm):Prop:=∀(t:Tag) (xs:List IV) (_:okEs t 3) (_:IsTms us xs) (lim:Int) (_:-1<=lim/\lim<=1000) (_:wTms us<=1099511627776) (st:ISt),
 ICall prog gl 66 [.sl t xs,.raw (.int .i64 lim)] st (λr st'=>Sum (wTms us) lim r/\st'=st)
theorem zUm (us:List Tm)(IH:∀v n l,Tm.mk v n l∈us->tC gl l):tC gl us:=by
 intro t xs ht hx lim hlim hw st;refine iI func66 ?_;simp only[go_sem];refine LoopC.ctr us.length (λk fr st' ds=>(∃n:Nat,fr 5=.iv (.raw (.int .i64 n))/\n<=wTms (us.take k)/\((n:Int)<=lim->n=wTms (us.take k)))/\fr 0=.iv (.sl t xs)/\fr 1=.iv (.raw (.int .i64 lim))/\fr 6=.iv (.raw (.int .i64 k))/\st'=st/\ds=[]) ?_ ?_ ?_
 ·simp only[go_sem,zE,reduceCtorEq];exact⟨⟨0,rfl,Nat.le_refl _,λ_=>rfl⟩,rfl⟩
 ·rintro k fr st1 _ hlt ⟨⟨n,f5,hn1,hn2⟩,f0,f1,f6,rfl,rfl⟩;obtain⟨a,ha⟩:=yQ3 hlt;obtain⟨x,hkx,hxa⟩:=hx.get ha;obtain⟨v2,n2,l2⟩:=a;obtain⟨tx,cx,rfl,htx,hcx⟩:=hxa.mk;have hwt:=xVn ha;have hwl:=xVo us (k+1);have hwk:=xVo us k;simp only[wTm] at hwt;by_cases hle:(n:Int)<=lim
  ·have hnk:=hn2 hle;have hcall:=λst=>IH _ _ _ (lMg ha) tx cx htx hcx (lim-n-1) ⟨by omega,by omega⟩ (by omega) st;have hq:IntKind.i64.wrap (((n2.size:Nat):Int).tdiv 20)=((n2.size / 20:Nat):Int):=by
    have:((n2.size:Nat):Int).tdiv 20=((n2.size / 20:Nat):Int):=rfl;rw[this,w64 (by omega) (by omega)]
   have hz:¬ ((20:Int)=0):=by decide
   generalize n2.size / 20=q at hq hwt;have w1:IntKind.i64.wrap (1+((q:Nat):Int))=((1+q:Nat):Int):=by rw[w64]<;>omega
   have w2:IntKind.i64.wrap (IntKind.i64.wrap (lim-(n:Int))-1)=lim-n-1:=by rw[w64 (n:=lim-n) (by omega) (by omega),w64 (by omega) (by omega)]
   simp only[go_sem,zE,zA,reduceCtorEq,f0,f1,f5,f6,hx.len,lt_i hlt,dEt hle,yQ4 ht,iNn,hkx,fits,hq,hz,w1,w2];intro _;refine (hcall _).mono ?_;rintro _ st2 ⟨⟨m,rfl,hm1,hm2⟩,rfl⟩;have w3:IntKind.i64.wrap (((1+q:Nat):Int)+(m:Int))=((1+q+m:Nat):Int):=by rw[w64]<;>omega
   have w4:IntKind.i64.wrap ((n:Int)+((1+q+m:Nat):Int))=((n+(1+q+m):Nat):Int):=by rw[w64]<;>omega
   simp only[go_sem,zE,reduceCtorEq,f0,f1,f6,w3,w4,yQf hlt (show us.length<=281474976710656 by omega)];exact⟨n+(1+q+m),rfl,by omega,λh=>by have:=hm2 (by omega);omega⟩
  ·simp only[go_sem,zE,reduceCtorEq,f0,f1,f5,f6,hx.len,lt_i hlt,dEf hle];intro _;exact yQ0 ⟨⟨n,rfl,by omega,λh=>absurd h hle⟩,rfl⟩
 ·rintro fr st1 _ ⟨⟨n,f5,hn1,hn2⟩,f0,f1,f6,rfl,rfl⟩;rw[lTl] at hn1 hn2;simp only[go_sem,zE,reduceCtorEq,f0,f5,f6,hx.len,yQp (nLi _)];intro _;exact yQ0 ⟨⟨n,rfl,hn1,hn2⟩,rfl⟩
theorem zJv:∀(k:Nat)(us:List Tm),SizeOf.sizeOf us<k->tC gl us
 | 0,f,h=>by omega
 | k+1,us,h=>zUm gl us (λv n l ha=>zJv k l (by
   have:=lSm ha;simp at this;omega))
theorem wQd (us:List Tm):tC gl us:=zJv gl _ us (Nat.lt_succ_self _)
def zC (us:List Fm):Prop:=∀(t:Tag) (xs:List IV) (_:okEs t 4) (_:IsFms us xs) (lim:Int) (_:-1<=lim/\lim<=1000) (_:wFms us<=1099511627776) (st:ISt),
 ICall prog gl 35 [.sl t xs,.raw (.int .i64 lim)] st (λr st'=>Sum (wFms us) lim r/\st'=st)
theorem xK4 (us:List Fm)(IH:∀o n l m,Fm.mk o n l m∈us->zC gl m):zC gl us:=by
 intro t xs ht hx lim hlim hw st;refine ICall.intro (c:=cf prog gl [] [(5,[0,1,2,3,4,5,6,7,8,9,10,11,12,13,14,15,16,19,20,21,22,23,24,25,26,27,17,18,28,29,30,31])]) func35 rfl (by show _<=50;simp) (by kernel_rfl) ?_;simp only[go_sem];refine LoopC.ctr us.length (λk fr st' ds=>(∃n:Nat,fr 5=.iv (.raw (.int .i64 n))/\n<=wFms (us.take k)/\((n:Int)<=lim->n=wFms (us.take k)))/\fr 0=.iv (.sl t xs)/\fr 1=.iv (.raw (.int .i64 lim))/\fr 6=.iv (.raw (.int .i64 k))/\st'=st/\ds=[]) ?_ ?_ ?_
 ·simp only[go_sem,zE,reduceCtorEq];exact⟨⟨0,rfl,Nat.le_refl _,λ_=>rfl⟩,rfl⟩
 ·rintro k fr st1 _ hlt ⟨⟨n,f5,hn1,hn2⟩,f0,f1,f6,rfl,rfl⟩;obtain⟨a,ha⟩:=yQ3 hlt;obtain⟨x,hkx,hxa⟩:=hx.get ha;obtain⟨o2,n2,l2,m2⟩:=a;obtain⟨tx,cx,ty,cy,rfl,_,htx,hcx,hty,hcy⟩:=hxa.mk;have hwt:=xVp ha;have hwl:=xVq us (k+1);have hwk:=xVq us k;simp only[wFm] at hwt;by_cases hle:(n:Int)<=lim
  ·have hnk:=hn2 hle;have hcall:=λst=>IH _ _ _ _ (lMg ha) ty cy hty hcy (lim-n-1) ⟨by omega,by omega⟩ (by omega) st;have hterm:=λst=>wQd gl l2 tx cx htx hcx (lim-n) ⟨by omega,by omega⟩ (by omega) st;have hq:IntKind.i64.wrap (((n2.size:Nat):Int).tdiv 20)=((n2.size / 20:Nat):Int):=by
    have:((n2.size:Nat):Int).tdiv 20=((n2.size / 20:Nat):Int):=rfl;rw[this,w64 (by omega) (by omega)]
   have hz:¬ ((20:Int)=0):=by decide
   generalize n2.size / 20=q at hq hwt;have w1:IntKind.i64.wrap (1+((q:Nat):Int))=((1+q:Nat):Int):=by rw[w64]<;>omega
   have w0:IntKind.i64.wrap (lim-(n:Int))=lim-n:=w64 (by omega) (by omega);have w2:IntKind.i64.wrap (lim-(n:Int)-1)=lim-n-1:=w64 (by omega) (by omega);simp only[go_sem,zE,zA,reduceCtorEq,f0,f1,f5,f6,hx.len,lt_i hlt,dEt hle,yQ4 ht,iNn,hkx,fits,hq,hz,w1,w0,w2];intro _;refine (hterm _).mono ?_;rintro _ st2 ⟨⟨m1,rfl,hm1,hm1'⟩,rfl⟩;have w3:IntKind.i64.wrap (((1+q:Nat):Int)+(m1:Int))=((1+q+m1:Nat):Int):=by rw[w64]<;>omega
   simp only[go_sem,zE,zA,w3];refine (hcall _).mono ?_;rintro _ st2 ⟨⟨m,rfl,hm,hm'⟩,rfl⟩;have w4:IntKind.i64.wrap (((1+q+m1:Nat):Int)+(m:Int))=((1+q+m1+m:Nat):Int):=by rw[w64]<;>omega
   have w5:IntKind.i64.wrap ((n:Int)+((1+q+m1+m:Nat):Int))=((n+(1+q+m1+m):Nat):Int):=by rw[w64]<;>omega
   simp only[go_sem,zE,reduceCtorEq,f0,f1,f6,w4,w5,yQf hlt (show us.length<=281474976710656 by omega)];exact⟨n+(1+q+m1+m),rfl,by omega,λh=>by have:=hm1' (by omega);have:=hm' (by omega);omega⟩
  ·simp only[go_sem,zE,reduceCtorEq,f0,f1,f5,f6,hx.len,lt_i hlt,dEf hle];intro _;exact yQ0 ⟨⟨n,rfl,by omega,λh=>absurd h hle⟩,rfl⟩
 ·rintro fr st1 _ ⟨⟨n,f5,hn1,hn2⟩,f0,f1,f6,rfl,rfl⟩;rw[lTl] at hn1 hn2;simp only[go_sem,zE,reduceCtorEq,f0,f5,f6,hx.len,yQp (nLi _)];intro _;exact yQ0 ⟨⟨n,rfl,hn1,hn2⟩,rfl⟩
theorem zY8:∀(k:Nat)(us:List Fm),SizeOf.sizeOf us<k->zC gl us
 | 0,f,h=>by omega
 | k+1,us,h=>xK4 gl us (λo n l m ha=>zY8 k m (by
   have:=lSm ha;simp at this;omega))
theorem xWr (us:List Fm):zC gl us:=zY8 gl _ us (Nat.lt_succ_self _)
theorem uJ1 (s:Sq)(x:IV)(hx:IsSq s x)(hw:wFms s.l<=1099511627776/\wFms s.r<=1099511627776)(st:ISt):ICall prog gl 11 [x] st (λr st'=>(r=.raw (.bool (decide (wFms s.l+wFms s.r<=300))))/\st'=st):=by
 obtain⟨t1,x1,t2,x2,rfl,e1,i1,e2,i2⟩:=hx;have h1:=λst=>xWr gl s.l t1 x1 e1 i1 300 ⟨by omega,by omega⟩ hw.1 st;have h2:=λst=>xWr gl s.r t2 x2 e2 i2 300 ⟨by omega,by omega⟩ hw.2 st;refine ICall.intro (c:=cf prog gl [] [(1,[0,1,3,4,2,5,6,7,8])]) func11 rfl (by show _<=11;simp) (by kernel_rfl) ?_;simp only[go_sem,zE,zA];refine (h1 _).mono ?_;rintro _ st2 ⟨⟨n,rfl,hn1,hn2⟩,rfl⟩;simp only[go_sem,zE,zA];refine (h2 _).mono ?_;rintro _ st2 ⟨⟨m,rfl,hm1,hm2⟩,rfl⟩;have w:IntKind.i64.wrap ((n:Int)+(m:Int))=((n+m:Nat):Int):=by rw[w64]<;>omega
 have hd:decide (((n+m:Nat):Int)<=300)=decide (wFms s.l+wFms s.r<=300):=by
  rw[decide_eq_decide];constructor
  ·intro h;have:=hn2 (by omega);have:=hm2 (by omega);omega
  ·intro h;omega
 simp only[go_sem,zE,w,hd];exact yQ0 ⟨rfl,rfl⟩
mutual
theorem wYy:∀t:Tm,t.size<=wTm t
 | .mk _ n us=>by have:=zU2 us;simp only[wTm,Tm.size];omega
theorem zU2:∀l:List Tm,yQe l<=wTms l
 | []=>Nat.le_refl _
 | a::l=>by have:=wYy a;have:=zU2 l;simp only[wTms,yQe];omega
end
mutual
theorem wYz:∀f:Fm,f.size<=wFm f
 | .mk _ n us sub=>by have:=zU2 us;have:=yV8 sub;simp only[wFm,Fm.size];omega
theorem yV8:∀l:List Fm,yQb l<=wFms l
 | []=>Nat.le_refl _
 | a::l=>by have:=wYz a;have:=yV8 l;simp only[wFms,yQb];omega
end
theorem yUv {s:Sq}(h:wFms s.l+wFms s.r<=300):yYf s:=by
 have:=yV8 s.l;have:=yV8 s.r;exact⟨λf hf=>by have:=yWp hf;omega,λf hf=>by have:=yWp hf;omega⟩
theorem zGt:∀ {l:List Fm}{f:Fm},f∈l->wFm f<=wFms l
 | a::l,f,h=>by
  simp only[wFms];rcases List.mem_cons.1 h with rfl|h
  ·omega
  ·have:=zGt h;omega
theorem zJi:∀l:List Tm,l.length<=wTms l
 | []=>Nat.le_refl _
 | .mk _ n us::l=>by have:=zJi l;simp only[wTms,wTm,List.length_cons];omega
mutual
theorem xWu:∀(f:Fm),∀z∈yZt f,wFm z<=wFm f
 | .mk o n us sub=>λz hz=>by
  rw[yZt] at hz;rcases List.mem_cons.1 hz with rfl|hz
  ·exact Nat.le_refl _
  ·have:=xZz sub z hz;simp only[wFm];omega
theorem xZz:∀(l:List Fm),∀z∈yZ3 l,wFm z<=wFms l
 | []=>λz hz=>by rw[yZ3] at hz;cases hz
 | a::l=>λz hz=>by
  rw[yZ3] at hz;simp only[wFms];rcases List.mem_append.1 hz with hz|hz
  ·have:=xWu a z hz;omega
  ·have:=xZz l z hz;omega
end
mutual
theorem yUf:∀(f:Fm),(yZt f).length<=wFm f
 | .mk o n us sub=>by have:=yYp sub;rw[yZt,List.length_cons,wFm];omega
theorem yYp:∀(l:List Fm),(yZ3 l).length<=wFms l
 | []=>by rw[yZ3];exact Nat.zero_le _
 | a::l=>by have:=yUf a;have:=yYp l;rw[yZ3,lLa,wFms];omega
end
theorem wQk {f:Fm}(h:wFm f<=300){o:Nat}{n:ByteArray}{us:List Tm}{sub:List Fm}(hz:Fm.mk o n us sub∈yZt f):n.size<=1000000000/\us.length<=1000000:=by
 have h1:=xWu f _ hz;have h2:=zJi us;simp only[wFm] at h1;omega
mutual
def wtF:Fm->Nat
 | .mk o _ _ sub=>if o=1\/o=2 then 0 else if o=7 then 3+wtFs sub else 1+wtFs sub
def wtFs:List Fm->Nat
 | []=>0
 | a::l=>wtF a+wtFs l
end
theorem yYm:∀l m:List Fm,wtFs (l++m)=wtFs l+wtFs m
 | [],m=>by simp[wtFs]
 | a::l,m=>by simp only[List.cons_append,wtFs,yYm l m];omega
theorem xVj {l:List Fm}{k:Nat}{a:Fm}(h:l[k]?=some a):wtFs (l.take (k+1))=wtFs (l.take k)+wtF a:=by
 rw[yQ7 h,yYm];simp[wtFs]
mutual
theorem wX4:∀f:Fm,wtF f<=3*f.size
 | .mk o n us sub=>by
  have:=yU5 sub;simp only[wtF,Fm.size];split
  ·omega
  ·split<;>omega
theorem yU5:∀l:List Fm,wtFs l<=3*yQb l
 | []=>by simp[wtFs]
 | a::l=>by have:=wX4 a;have:=yU5 l;simp only[wtFs,yQb];omega
end
def wtC (us:List Fm):Prop:=∀(tg:Tag) (xs:List IV) (_:okEs tg 4) (_:IsFms us xs) (_:yQb us<=1000000) (st:ISt),
 ICall prog gl 83 [.sl tg xs] st (λr st'=>r=.raw (.int .i64 (wtFs us:Int))/\st'=st)
theorem zGs (us:List Fm)(IH:∀o n l m,Fm.mk o n l m∈us->wtC gl m):wtC gl us:=by
 intro tg xs ht hx hsz st;refine iI func83 ?_;refine LoopC.ctr us.length (λk fr st' ds=>fr 3=.iv (.raw (.int .i64 (wtFs (us.take k):Int)))/\fr 0=.iv (.sl tg xs)/\fr 4=.iv (.raw (.int .i64 k))/\st'=st/\ds=[]) ?_ ?_ ?_
 ·simp only[go_sem,zE,zB,zA,zM,zS,zL,reduceCtorEq];simp[wtFs]
 ·rintro k fr st1 _ hlt ⟨f3,f0,f4,rfl,rfl⟩;obtain⟨a,ha⟩:=yQ3 hlt;obtain⟨x,hkx,hxa⟩:=hx.get ha;have hsa:=yWp (lMg ha);have hwt:=xVj ha;have hwl:wtFs us=wtFs (us.take k)+wtFs (us.drop k):=by rw[<- yYm,List.take_append_drop]
  have hws:=yU5 us;have hwa:=wX4 a;obtain⟨o,n,l,m⟩:=a;have hcall:=λtg xs h1 h2 st=>IH o n l m (lMg ha) tg xs h1 h2 (by simp only[Fm.size] at hsa;omega) st;obtain⟨tx,cx,ty,cy,rfl,hop,htx,hcx,hty,hcy⟩:=hxa.mk;have hlen:us.length<=1000000:=Nat.le_trans (yZo us) hsz;by_cases h1:o=1
  ·subst h1;simp only[go_sem,zE,zB,zA,zM,zS,zL,reduceCtorEq,f0,f3,f4,hx.len,lt_i hlt,yQ4 ht,iNn,hkx,fits,decide_true,show decide (((1:Nat):Int)=1)=true from rfl,yQf hlt (show us.length<=281474976710656 by omega)];intro _;rw[hwt];simp[wtF]
  have d1:decide ((o:Int)=1)=false:=dEf (by omega);by_cases h2:o=2
  ·subst h2;simp only[go_sem,zE,zB,zA,zM,zS,zL,reduceCtorEq,f0,f3,f4,hx.len,lt_i hlt,yQ4 ht,iNn,hkx,fits,decide_true,d1,show decide (((2:Nat):Int)=2)=true from rfl,yQf hlt (show us.length<=281474976710656 by omega)];intro _;rw[hwt];simp[wtF]
  have d2:decide ((o:Int)=2)=false:=dEf (by omega);have hmb:wtFs m<=3*1000000:=Nat.le_trans (yU5 m) (by simp only[Fm.size] at hsa;omega);have htb:wtFs (us.take k)<=3*1000000:=by omega
  by_cases h7:o=7
  ·subst h7;simp only[go_sem,zE,zB,zA,zM,zS,zL,reduceCtorEq,f0,f3,f4,hx.len,lt_i hlt,yQ4 ht,iNn,hkx,fits,d1,d2,show decide (((7:Nat):Int)=7)=true from rfl];intro _;refine (hcall ty cy hty hcy _).mono ?_;rintro _ st2 ⟨rfl,rfl⟩;have w4:IntKind.i64.wrap ((3:Int)+(wtFs m:Int))=((3+wtFs m:Nat):Int):=by rw[w64]<;>omega
   have w5:IntKind.i64.wrap ((wtFs (us.take k):Int)+((3+wtFs m:Nat):Int))=((wtFs (us.take k)+(3+wtFs m):Nat):Int):=by rw[w64]<;>omega
   simp only[go_sem,zE,zB,zA,zM,zS,zL,reduceCtorEq,f0,f3,f4,w4,w5,yQf hlt (show us.length<=281474976710656 by omega)];rw[hwt];simp[wtF]
  ·have d7:decide ((o:Int)=7)=false:=dEf (by omega);simp only[go_sem,zE,zB,zA,zM,zS,zL,reduceCtorEq,f0,f3,f4,hx.len,lt_i hlt,yQ4 ht,iNn,hkx,fits,d1,d2,d7];intro _;refine (hcall ty cy hty hcy _).mono ?_;rintro _ st2 ⟨rfl,rfl⟩;have w4:IntKind.i64.wrap ((1:Int)+(wtFs m:Int))=((1+wtFs m:Nat):Int):=by rw[w64]<;>omega
   have w5:IntKind.i64.wrap ((wtFs (us.take k):Int)+((1+wtFs m:Nat):Int))=((wtFs (us.take k)+(1+wtFs m):Nat):Int):=by rw[w64]<;>omega
   simp only[go_sem,zE,zB,zA,zM,zS,zL,reduceCtorEq,f0,f3,f4,w4,w5,yQf hlt (show us.length<=281474976710656 by omega)];rw[hwt];simp[wtF,h1,h2,h7]
 ·rintro fr st1 _ ⟨f3,f0,f4,rfl,rfl⟩;rw[lTl] at f3;simp only[go_sem,zE,zB,zA,zM,zS,zL,reduceCtorEq,f0,f3,f4,hx.len,yQp (nLi _)];intro _;exact yQ0 ⟨rfl,rfl⟩
theorem zJh:∀(k:Nat)(us:List Fm),SizeOf.sizeOf us<k->wtC gl us
 | 0,f,h=>by omega
 | k+1,us,h=>zGs gl us (λo n l m ha=>zJh k m (by
   have:=lSm ha;simp at this;omega))
theorem xZ8 (us:List Fm):wtC gl us:=zJh gl _ us (Nat.lt_succ_self _)
noncomputable def yGl (s:Sq):Bool:=decide (wFms s.l+wFms s.r<=300)&&decide (wtFs s.l+wtFs s.r<=8)
theorem wW1 (s:Sq)(x:IV)(hx:IsSq s x)(hw:wFms s.l<=1099511627776/\wFms s.r<=1099511627776)(st:ISt):ICall prog gl 47 [x] st (λr st'=>r=.raw (.bool (yGl s))/\st'=st):=by
 have hF:=λst=>uJ1 gl s x hx hw st;obtain⟨t1,x1,t2,x2,rfl,e1,i1,e2,i2⟩:=hx;refine ICall.intro (c:=cf prog gl [] [(1,[0,1,2,3,4,6,7,5,8,9,10,11,12])]) func47 rfl (by show _<=15;simp) (by kernel_rfl) ?_;simp only[go_sem,zE,zB,zA,zM,zS,zL,reduceCtorEq,fits];refine (hF _).mono ?_;rintro _ st ⟨rfl,rfl⟩;by_cases h:wFms s.l+wFms s.r<=300
 ·have h1:=yV8 s.l;have h2:=yV8 s.r;have hw1:=yU5 s.l;have hw2:=yU5 s.r;simp only[go_sem,zE,zB,zA,zM,zS,zL,reduceCtorEq,fits,dEt h];refine (xZ8 gl s.l t1 x1 e1 i1 (by omega) _).mono ?_;rintro _ st ⟨rfl,rfl⟩;simp only[go_sem,zE,zB,zA,zM,zS,zL,reduceCtorEq,fits];refine (xZ8 gl s.r t2 x2 e2 i2 (by omega) _).mono ?_;rintro _ st ⟨rfl,rfl⟩;have w:IntKind.i64.wrap ((wtFs s.l:Int)+(wtFs s.r:Int))=((wtFs s.l+wtFs s.r:Nat):Int):=by rw[w64]<;>omega
  have hd:decide (((wtFs s.l+wtFs s.r:Nat):Int)<=8)=decide (wtFs s.l+wtFs s.r<=8):=by rw[decide_eq_decide];omega
  simp only[go_sem,zE,zB,zA,zM,zS,zL,reduceCtorEq,fits,w,hd];exact yQ0 ⟨by unfold yGl;rw[dEt h];rfl,rfl⟩
 ·simp only[go_sem,zE,zB,zA,zM,zS,zL,reduceCtorEq,fits,dEf h];exact yQ0 ⟨by unfold yGl;rw[dEf h];rfl,rfl⟩
def atB (l:List Fm)(n:ByteArray):Prop:=∃f∈l,∃k,symIn (yZt f) n k
theorem xU0 {l m:List Fm}{n:ByteArray}:atB (l++m) n↔atB l n\/atB m n:=by
 unfold atB;constructor
 ·rintro⟨f,hf,h⟩;exact (List.mem_append.1 hf).imp (λh1=>⟨f,h1,h⟩) λh1=>⟨f,h1,h⟩
 ·rintro (⟨f,hf,h⟩|⟨f,hf,h⟩)
  ·exact⟨f,List.mem_append_left _ hf,h⟩
  ·exact⟨f,List.mem_append_right _ hf,h⟩
def nmF:Fm->ByteArray
 | .mk _ n _ _=>n
theorem wJg {n:ByteArray}:∀ {l:List Fm},atB l n->n∈(yZ3 l).map nmF
 | [],⟨f,hf,_⟩=>by cases hf
 | a::l,⟨f,hf,k,us,sub,h1,h2⟩=>by
  rw[yZ3,List.map_append];rcases List.mem_cons.1 hf with rfl|hf
  ·exact List.mem_append_left _ (List.mem_map.2 ⟨_,h1,rfl⟩)
  ·exact List.mem_append_right _ (wJg ⟨f,hf,k,us,sub,h1,h2⟩)
def nmsI (l:List ByteArray):List IV:=l.map λn=>.raw (.string n)
theorem yVd (l:List ByteArray):(nmsI l).length=l.length:=List.length_map _
theorem xX4 {l:List ByteArray}{k:Nat}{n:ByteArray}(h:l[k]?=some n):(nmsI l)[k]?=some (.raw (.string n)):=by unfold nmsI;rw[List.getElem?_map,h];rfl
theorem wQo (l:List ByteArray)(n:ByteArray):nmsI l++[.raw (.string n)]=nmsI (l++[n]):=by simp[nmsI]
def NmS (P:ByteArray->Prop)(st st':ISt)(v:SV):Prop:=∃t l,v=.iv (.sl t (nmsI l))/\own st' t l.length 1 st/\subSt st st'/\l.Nodup/\∀n,n∈l↔P n
theorem NmS.iff {P Q:ByteArray->Prop}{st st':ISt}{v:SV}(h:NmS P st st' v)(k:∀n,P n↔Q n):NmS Q st st' v:=by
 obtain⟨t,l,h1,h2,h3,h4,h5⟩:=h;exact⟨t,l,h1,h2,h3,h4,λn=>(h5 n).trans (k n)⟩
def symI (n:ByteArray)(k:Nat):IV:=.agg [.raw (.string n),.raw (.int .i64 (k:Int))]
theorem wKl (s:Sq)(x:IV)(hx:IsSq s x)(hw:wFms s.l+wFms s.r<=300)(st:ISt):ICall prog gl 48 [x] st (λr st'=>(∃t l,r=.sl t (nmsI l)/\okEs t 1/\l.Nodup/\∀n,n∈l↔atB (s.l++s.r) n)/\st'=st):=by
 have hP:=λf x hx hf st=>zGm gl f x hx (Nat.le_trans (yUf f) (Nat.le_trans hf (by decide))) (λo n us sub hz=>wQk hf hz) st;have hA:((yZ3 (s.l++s.r)).map nmF).length<=300:=by
  rw[List.length_map];have:=yYp (s.l++s.r);rw[yJt] at this;omega
 obtain⟨t1,x1,t2,x2,rfl,e1,i1,e2,i2⟩:=hx;have hlist:∀k,k<2->∃us tg xs,([s.l,s.r]:List (List Fm))[k]?=some us/\([.sl t1 x1,.sl t2 x2]:List IV)[k]?=some (.sl tg xs)/\okEs tg 4/\IsFms us xs/\wFms us<=300/\∀f∈us,f∈s.l++s.r:=λk hk=>by
  match k,hk with
  | 0,_=>exact⟨s.l,t1,x1,rfl,rfl,e1,i1,by omega,λf hf=>List.mem_append_left _ hf⟩
  | 1,_=>exact⟨s.r,t2,x2,rfl,rfl,e2,i2,by omega,λf hf=>List.mem_append_right _ hf⟩
  | k+2,hk=>omega
 refine iI func48 ?_;simp only[go_sem,zE,zB,zA,zM,zS,zL,reduceCtorEq,fits,yQg];refine LoopC.ctr 2 (λk fr st' ds=>NmS (atB (([s.l,s.r]:List (List Fm)).take k).flatten) st st' (fr 3)/\fr 15=.iv (.sl ⟨true,.full,1⟩ [.sl t1 x1,.sl t2 x2])/\fr 16=.iv (.raw (.int .i64 2))/\fr 17=.iv (.raw (.int .i64 k))/\ds=[]) ?_ ?_ ?_
 ·simp only[go_sem,zE,zB,zA,zM,zS,zL,reduceCtorEq];exact⟨⟨_,[],rfl,own.nil ..,subSt.refl _,List.nodup_nil,λn=>⟨nofun,λ⟨f,hf,_⟩=>by simp at hf⟩⟩,rfl,rfl⟩
 ·rintro k fr st1 _ hlt ⟨hN,f15,f16,f17,rfl⟩;obtain⟨us,tg,xs,hus,hxs,htg,hix,hwu,hsub⟩:=hlist k hlt;have hk2:decide ((k:Int)<2)=true:=dEt (by omega);have hpre:∀n,atB (([s.l,s.r]:List (List Fm)).take k).flatten n->atB (s.l++s.r) n:=λn=>by
   rintro⟨f,hf,h⟩
   match k,hlt,hf with
   | 0,_,hf=>simp at hf
   | 1,_,hf=>exact⟨f,List.mem_append_left _ (by simpa using hf),h⟩
  have hfl:((([s.l,s.r]:List (List Fm)).take (k+1)).flatten)=(([s.l,s.r]:List (List Fm)).take k).flatten++us:=by rw[yQ7 hus,List.flatten_append];simp
  rw[hfl];generalize hQ:(([s.l,s.r]:List (List Fm)).take k).flatten=Q at hN hpre;have hul:=yZo us;have hus2:=yV8 us;simp only[go_sem,zE,zB,zA,zM,zS,zL,reduceCtorEq,f15,f16,f17,fits,iNn,hk2,hxs,yQ4 (show okEs ⟨true,.full,1⟩ 1 from .inr rfl)];refine LoopC.ctr us.length (λj fr st' ds=>NmS (atB (Q++us.take j)) st st' (fr 3)/\fr 5=.iv (.sl tg xs)/\fr 6=.iv (.raw (.int .i64 j))/\fr 15=.iv (.sl ⟨true,.full,1⟩ [.sl t1 x1,.sl t2 x2])/\fr 16=.iv (.raw (.int .i64 2))/\fr 17=.iv (.raw (.int .i64 k))/\ds=[]) ?_ ?_ ?_
  ·simp only[go_sem,zE,zB,zA,zM,zS,zL,reduceCtorEq,f15,f16,f17];exact⟨by simpa using hN,rfl⟩
  ·rintro j fr st1 _ hlj ⟨hN,f5,f6,f15,f16,f17,rfl⟩;obtain⟨f,hf⟩:=yQ3 hlj;obtain⟨z,hz,hfz⟩:=hix.get hf;have hfm:=lMg hf;have hPf:=λst=>hP f z hfz (Nat.le_trans (zGt hfm) hwu) st;obtain⟨o1,n1,q1,z1,q2,z2,rfl⟩:=hfz.agg;simp only[go_sem,zE,zB,zA,zM,zS,zL,reduceCtorEq,f5,f6,f15,f16,f17,hix.len,lt_i hlj,yQ4 htg,iNn,hz,fits];intro _;refine (hPf _).mono ?_;rintro _ st2 ⟨ty,ys,rfl,hty,hys,rfl⟩;have hyl:ys.length<=300:=Nat.le_trans hys.len (Nat.le_trans (yUf f) (Nat.le_trans (zGt hfm) hwu));simp only[go_sem,zE,zB,zA,zM,zS,zL,reduceCtorEq,f5,f6,f15,f16,f17,fits];intro _;refine LoopC.ctr ys.length (λi fr st' ds=>NmS (λn=>atB (Q++us.take j) n\/∃m,symI n m∈ys.take i) st st' (fr 3)/\fr 31=.iv (.sl ty ys)/\fr 32=.iv (.raw (.int .i64 ys.length))/\fr 33=.iv (.raw (.int .i64 i))/\fr 5=.iv (.sl tg xs)/\fr 6=.iv (.raw (.int .i64 j))/\fr 15=.iv (.sl ⟨true,.full,1⟩ [.sl t1 x1,.sl t2 x2])/\fr 16=.iv (.raw (.int .i64 2))/\fr 17=.iv (.raw (.int .i64 k))/\ds=[]) ?_ ?_ ?_
   ·simp only[go_sem,zE,zB,zA,zM,zS,zL,reduceCtorEq,f5,f6,f15,f16,f17];exact⟨hN.iff λn=>by simp,rfl⟩
   ·rintro i fr st1 _ hli ⟨hN,f31,f32,f33,f5,f6,f15,f16,f17,rfl⟩;obtain⟨t,l,f3,hown,hsubS,hnd,hl⟩:=hN;obtain⟨y,hy⟩:=yQ3 hli;obtain⟨nm,na,rfl,hnm,hin⟩:=hys.key y (lMg hy);have hll:l.length<=300:=Nat.le_trans (zQt l _ hnd λn hn=>by
     refine wJg ?_;rcases (hl n).1 hn with h|⟨m,h⟩
     ·rcases xU0.1 h with h|⟨f',h1,h⟩
      ·exact hpre n h
      ·exact⟨f',hsub f' (List.mem_of_mem_take h1),h⟩
     ·obtain⟨n',m',h1,_,h2⟩:=hys.key _ (List.mem_of_mem_take h);simp only[symI,IV.agg.injEq,List.cons.injEq,IV.raw.injEq,Value.string.injEq] at h1;obtain⟨rfl,_⟩:=h1;exact⟨f,hsub f hfm,_,h2⟩) hA
    simp only[go_sem,zE,zB,zA,zM,zS,zL,reduceCtorEq,f31,f32,f33,f5,f6,f15,f16,f17,lt_i hli,yQ4 hty,iNn,hy,fits];refine LoopC.ctr l.length (λq fr st' ds=>(∃b:Bool,fr 9=.iv (.raw (.bool b))/\(b=true↔nm∈l.take q))/\fr 3=.iv (.sl t (nmsI l))/\fr 8=.box [.raw (.string nm),.raw (.int .i64 (na:Int))]/\fr 10=.iv (.raw (.int .i64 q))/\st'=st1/\fr 31=.iv (.sl ty ys)/\fr 32=.iv (.raw (.int .i64 ys.length))/\fr 33=.iv (.raw (.int .i64 i))/\fr 5=.iv (.sl tg xs)/\fr 6=.iv (.raw (.int .i64 j))/\fr 15=.iv (.sl ⟨true,.full,1⟩ [.sl t1 x1,.sl t2 x2])/\fr 16=.iv (.raw (.int .i64 2))/\fr 17=.iv (.raw (.int .i64 k))/\ds=[]) ?_ ?_ ?_
    ·simp only[go_sem,zE,zB,zA,zM,zS,zL,reduceCtorEq,f3,f31,f32,f33,f5,f6,f15,f16,f17];simp
    ·rintro q fr st1 _ hlq ⟨⟨b,f9,hb⟩,f3,f8,f10,rfl,f31,f32,f33,f5,f6,f15,f16,f17,rfl⟩;obtain⟨nq,hq⟩:=yQ3 hlq;have hes:=hown.es;have htk:∀b':Bool,(b'=true↔(b=true\/nq=nm))->(b'=true↔nm∈l.take (q+1)):=λb' h=>by
      rw[h,hb,yQ7 hq,List.mem_append,List.mem_singleton];exact or_congr Iff.rfl eq_comm
     cases b
     ·simp only[go_sem,zE,zB,zA,zM,zS,zL,reduceCtorEq,f3,f8,f9,f10,f31,f32,f33,f5,f6,f15,f16,f17,yVd,lt_i hlq,yQ4 hes,iNn,xX4 hq,fits,yQf hlq (show l.length<=281474976710656 by omega)];intros;exact⟨_,rfl,htk _ (by simp)⟩
     ·simp only[go_sem,zE,zB,zA,zM,zS,zL,reduceCtorEq,f3,f8,f9,f10,f31,f32,f33,f5,f6,f15,f16,f17,yVd,lt_i hlq,yQ4 hes,iNn,xX4 hq,fits,yQf hlq (show l.length<=281474976710656 by omega)];intros;exact⟨true,rfl,htk _ (by simp)⟩
    ·rintro fr st1 _ ⟨⟨b,f9,hb⟩,f3,f8,f10,rfl,f31,f32,f33,f5,f6,f15,f16,f17,rfl⟩;rw[lTl] at hb;have htk:∀n,(∃m,symI n m∈ys.take (i+1))↔(∃m,symI n m∈ys.take i)\/n=nm:=λn=>by
      rw[yQ7 hy];constructor
      ·rintro⟨m,hm⟩;rcases List.mem_append.1 hm with h|h
       ·exact .inl ⟨m,h⟩
       ·simp only[List.mem_singleton,symI,IV.agg.injEq,List.cons.injEq,IV.raw.injEq,Value.string.injEq] at h;exact .inr h.1
      ·rintro (⟨m,hm⟩|rfl)
       ·exact⟨m,List.mem_append_left _ hm⟩
       ·exact⟨na,List.mem_append_right _ (List.mem_singleton.2 rfl)⟩
     cases b
     ·simp only[go_sem,zE,zB,zA,zM,zS,zL,reduceCtorEq,f3,f8,f9,f10,f31,f32,f33,f5,f6,f15,f16,f17,yVd,yQp (nLi _),fits,yQ1];intros;refine yZr hown (yVd l) hsubS rfl (by simp[fits,IV.one]) (by simp only;omega) (by omega) λt' st2 w1 w2 w3=>?_;simp only[go_sem,zE,zB,zA,zM,zS,zL,reduceCtorEq,f3,f8,f9,f10,f31,f32,f33,f5,f6,f15,f16,f17,yQf hli (show ys.length<=281474976710656 by omega)];refine⟨t',l++[nm],by rw[wQo],by rw[lLa];exact w1,w2,?_,λn=>?_⟩
      ·have:nm ∉ l:=λh=>by cases hb.2 h
       rw[List.nodup_append];exact⟨hnd,by simp,λa ha b hb=>by rw[List.mem_singleton.1 hb];rintro rfl;exact this ha⟩
      ·rw[List.mem_append,List.mem_singleton];exact (or_congr (hl n) Iff.rfl).trans (or_assoc.trans (or_congr Iff.rfl (htk n).symm))
     ·simp only[go_sem,zE,zB,zA,zM,zS,zL,reduceCtorEq,f3,f8,f9,f10,f31,f32,f33,f5,f6,f15,f16,f17,yVd,yQp (nLi _),fits,yQ1,yQf hli (show ys.length<=281474976710656 by omega)];intros;refine⟨t,l,rfl,hown,hsubS,hnd,λn=>?_⟩;refine (hl n).trans (Iff.trans ⟨.inl,?_⟩ (or_assoc.trans (or_congr Iff.rfl (htk n).symm)));rintro (h|rfl)
      ·exact h
      ·exact (hl _).1 (hb.1 rfl)
   ·rintro fr st1 _ ⟨hN,f31,f32,f33,f5,f6,f15,f16,f17,rfl⟩;rw[lTl] at hN;simp only[go_sem,zE,zB,zA,zM,zS,zL,reduceCtorEq,f31,f32,f33,f5,f6,f15,f16,f17,yQp (nLi _),yQf hlj (show us.length<=281474976710656 by omega)];intros;refine hN.iff λn=>?_;rw[yQ7 hf,<- List.append_assoc,xU0 (m:=[f])];refine or_congr Iff.rfl ⟨?_,?_⟩
    ·rintro⟨m,h⟩;obtain⟨n',m',h1,_,h2⟩:=hys.key _ h;simp only[symI,IV.agg.injEq,List.cons.injEq,IV.raw.injEq,Value.string.injEq] at h1;obtain⟨rfl,_⟩:=h1;exact⟨f,by simp,_,h2⟩
    ·rintro⟨f',h1,m,h2⟩;rw[List.mem_singleton.1 h1] at h2;exact⟨m,hys.cov _ _ h2⟩
  ·rintro fr st1 _ ⟨hN,f5,f6,f15,f16,f17,rfl⟩;rw[lTl] at hN;simp only[go_sem,zE,zB,zA,zM,zS,zL,reduceCtorEq,f5,f6,f15,f16,f17,hix.len,yQp (nLi _),yQf hlt (show 2<=281474976710656 by decide)];intro _;exact hN
 ·rintro fr st1 _ ⟨⟨t,l,f3,hown,hsub,hnd,hl⟩,f15,f16,f17,rfl⟩;have hes:=hown.es;simp only[go_sem,zE,zB,zA,zM,zS,zL,reduceCtorEq,f3,f15,f16,f17,fits,show decide (((2:Nat):Int)<2)=false from rfl];exact yQj hsub ⟨⟨t,l,rfl,hes,hnd,λn=>by rw[hl n];simp⟩,rfl⟩
def FewS (ca:Nat)(s:Sq)(k:Int):Prop:=(ca=1\/ca=2)/\yGl s=true/\yQy ca s=true/\∃l:List ByteArray,l.Nodup/\(∀n,n∈l↔atB (s.l++s.r) n)/\(l.length:Int)<=k
theorem FewS.w {ca:Nat}{s:Sq}{k:Int}(h:FewS ca s k):wFms s.l+wFms s.r<=300:=by
 have:=h.2.1;unfold yGl at this;rw[bAt,dTe] at this;exact this.1
theorem xZv (G:Gl gl)(ca:Nat)(s:Sq)(x:IV)(hx:IsSq s x)(hw:wFms s.l<=1099511627776/\wFms s.r<=1099511627776)(k:Int)(st:ISt) :
  ICall prog gl 20 [.raw (.int .u8 (ca:Int)),x,.raw (.int .i64 k)] st (λr st'=>(∃b:Bool,r=.raw (.bool b)/\(b=true->FewS ca s k))/\st'=st):=by
 have hL:=λst=>wW1 gl s x hx hw st;have hV:=λh st=>zWl gl G ca s x hx h st;have hN:=λh st=>wKl gl s x hx h st;obtain⟨t1,x1,t2,x2,rfl,e1,i1,e2,i2⟩:=hx;refine iI func20 ?_;by_cases h1:ca=1
 ·have h1':decide ((ca:Int)=1)=true:=dEt (by omega);simp only[go_sem,zE,zB,zA,zM,zS,zL,reduceCtorEq,fits,h1'];refine (hL _).mono ?_;rintro _ st ⟨rfl,rfl⟩;cases hb:yGl s
  ·simp only[go_sem,zE,zB,zA,zM,zS,zL,reduceCtorEq,fits];exact yQ0 ⟨⟨_,rfl,λh=>by simp at h⟩,rfl⟩
  have hw3:wFms s.l+wFms s.r<=300:=by
   unfold yGl at hb;rw[bAt,dTe] at hb;exact hb.1
  simp only[go_sem,zE,zB,zA,zM,zS,zL,reduceCtorEq,fits,h1'];refine (hV (yUv hw3) _).mono ?_;rintro _ st ⟨rfl,rfl⟩;cases hvb:yQy ca s
  ·simp only[go_sem,zE,zB,zA,zM,zS,zL,reduceCtorEq,fits,h1'];exact yQ0 ⟨⟨_,rfl,λh=>by simp at h⟩,rfl⟩
  simp only[go_sem,zE,zB,zA,zM,zS,zL,reduceCtorEq,fits,h1'];refine (hN hw3 _).mono ?_;rintro _ st ⟨⟨t,l,rfl,ht,hnd,hl⟩,rfl⟩;simp only[go_sem,zE,zB,zA,zM,zS,zL,reduceCtorEq,fits,h1',yVd];intros;exact yQ0 ⟨⟨_,rfl,λh=>⟨.inl h1,hb,hvb,l,hnd,hl,by simpa using h⟩⟩,rfl⟩
 have h1':decide ((ca:Int)=1)=false:=dEf (by omega);by_cases h2:ca=2
 ·have h2':decide ((ca:Int)=2)=true:=dEt (by omega);simp only[go_sem,zE,zB,zA,zM,zS,zL,reduceCtorEq,fits,h1',h2'];refine (hL _).mono ?_;rintro _ st ⟨rfl,rfl⟩;cases hb:yGl s
  ·simp only[go_sem,zE,zB,zA,zM,zS,zL,reduceCtorEq,fits];exact yQ0 ⟨⟨_,rfl,λh=>by simp at h⟩,rfl⟩
  have hw3:wFms s.l+wFms s.r<=300:=by
   unfold yGl at hb;rw[bAt,dTe] at hb;exact hb.1
  simp only[go_sem,zE,zB,zA,zM,zS,zL,reduceCtorEq,fits,h1',h2'];refine (hV (yUv hw3) _).mono ?_;rintro _ st ⟨rfl,rfl⟩;cases hvb:yQy ca s
  ·simp only[go_sem,zE,zB,zA,zM,zS,zL,reduceCtorEq,fits,h1',h2'];exact yQ0 ⟨⟨_,rfl,λh=>by simp at h⟩,rfl⟩
  simp only[go_sem,zE,zB,zA,zM,zS,zL,reduceCtorEq,fits,h1',h2'];refine (hN hw3 _).mono ?_;rintro _ st ⟨⟨t,l,rfl,ht,hnd,hl⟩,rfl⟩;simp only[go_sem,zE,zB,zA,zM,zS,zL,reduceCtorEq,fits,h1',h2',yVd];intros;exact yQ0 ⟨⟨_,rfl,λh=>⟨.inr h2,hb,hvb,l,hnd,hl,by simpa using h⟩⟩,rfl⟩
 have h2':decide ((ca:Int)=2)=false:=dEf (by omega);simp only[go_sem,zE,zB,zA,zM,zS,zL,reduceCtorEq,fits,h1',h2'];exact yQ0 ⟨⟨_,rfl,λh=>by simp at h⟩,rfl⟩
end Go.Proofs.Tryz
namespace Go.Proofs.Tryz
open Go Go.Iv
set_option maxRecDepth 8000
variable (gl:Nat->Option IV)
def vZ9 (ca:Nat)(s:Sq)(h e:Nat):Prop:=(e≠0/\h=0/\BadR ca s e)\/(e=0/\h=hF (calJ ca) (s.l,s.r))
theorem yW8 (G:Gl gl)(T:Gt gl)(ca:Nat)(s:Sq)(x:IV)(hx:IsSq s x)(hs:yYf s)(st:ISt) :
  ICall prog gl 18 [.raw (.int .u8 (ca:Int)),x] st (λr st'=>(∃h e:Nat,r=.tup [.raw (.int .i64 (h:Int)),.raw (.int .i64 (e:Int))]/\vZ9 ca s h e)/\st'=st) :=
 (xXg gl G T ca s x hx hs st).mono λr st' ⟨h1,h2⟩=>by
  rcases h2 with⟨e,hb,h3⟩|⟨_,_,_,h3⟩
  ·exact⟨⟨0,e,h3,.inl ⟨hb.ne,rfl,hb⟩⟩,h1⟩
  ·exact⟨⟨_,0,h3,.inr ⟨rfl,rfl⟩⟩,h1⟩
theorem zKb {s:Sn}(h:0<hF true s):0<hF false s/\hF false s<=hF true s:=by
 have:=xQd (j:=false) (s:=s) (xG7 h).classic;exact⟨this.2.2,this.2.1⟩
theorem zYz {l:List Fm}{xs:List IV}(h:IsFms l xs):xs.all (fits true 4)=true:=by
 rw[List.all_eq_true];intro x hx;obtain⟨k,hk⟩:=List.getElem?_of_mem hx;have hlt:=(lGs hk).1;rw[h.len] at hlt;obtain⟨a,ha⟩:=yQ3 hlt;obtain⟨z,hz1,hz2⟩:=h.get ha;rw[hk] at hz1;cases hz1;obtain⟨_,_,_,_,_,_,rfl⟩:=hz2.agg;rfl
theorem ord4 {be bg:Prop} [Decidable be] [Decidable bg]{a b:Nat}(h:be->bg->0<a->0<b/\b<=a) :
  (decide be=false)\/(decide be=true/\decide bg=false)\/(decide be=true/\decide bg=true/\decide ((a:Int) > 0)=false)\/(decide be=true/\decide bg=true/\decide ((a:Int) > 0)=true/\decide ((b:Int)=0)=false/\decide ((b:Int) > a)=false/\decide ((b:Int) > 0)=true/\decide ((b:Int)<=a)=true):=by
 by_cases h1:be
 ·by_cases h2:bg
  ·by_cases h3:0<a
   ·have:=h h1 h2 h3;exact .inr (.inr (.inr ⟨dEt h1,dEt h2,dEt (by omega),dEf (by omega),dEf (by omega),dEt (by omega),dEt (by omega)⟩))
   ·exact .inr (.inr (.inl ⟨dEt h1,dEt h2,dEf (by omega)⟩))
  ·exact .inr (.inl ⟨dEt h1,dEf h2⟩)
 ·exact .inl (dEf h1)
set_option maxHeartbeats 4000000 in
theorem zJg (G:Gl gl)(T:Gt gl)(s:Sq)(x:IV)(hx:IsSq s x)(hw:wFms s.l<=549755813888/\wFms s.r<=549755813888)(f:Fm)(y:IV)(hy:IsFm f y)(hf:wFm f<=549755813888)(b:Bool)(st:ISt) :
  ICall prog gl 7 [x,y,.raw (.bool b)] st (λr st'=>r=.raw (.bool true)/\st'=st):=by
 have hA:=λst=>wZ6 gl G T st;have hx0:=hx;obtain⟨t1,x1,t2,x2,rfl,e1,i1,e2,i2⟩:=hx;have hq1:=yV8 s.l;have hq2:=yV8 s.r;have hl1:=yZo s.l;have hl2:=yZo s.r;have hW:∃wd:Sq,wd=(if b=true then ⟨s.l,s.r++[f]⟩ else ⟨s.l++[f],s.r⟩):=⟨_,rfl⟩
 obtain⟨wd,hwd⟩:=hW;have hww:wFms wd.l<=1099511627776/\wFms wd.r<=1099511627776:=by
  rw[hwd];cases b<;>simp only[if_true,bFt,if_false,yJt,wFms]<;>omega
 have hsubL:∀g∈s.l,g∈wd.l:=by rw[hwd];cases b<;>simp +contextual
 have hsubR:∀g∈s.r,g∈wd.r:=by rw[hwd];cases b<;>simp +contextual
 have hy0:=hy;obtain⟨o1,n1,q1,z1,q2,z2,rfl⟩:=hy.agg;refine ICall.intro (c:=cf prog gl [] [(3,[0,1,2,4,5,7,8,10,3,6,9,11]),(5,[0,1,2,3,4,6,7,5,8,9,10])]) func7 rfl (by show _<=128;simp) (by kernel_rfl) ?_;simp only[go_sem,zE,zB,zA,zM,zS,zL,reduceCtorEq,fits];refine (hA _).mono ?_;rintro _ st ⟨rfl,rfl⟩;simp only[go_sem,zE,zB,zA,zM,zS,zL,reduceCtorEq,fits,yQ1,show yXz 0 []=true from rfl];refine yU2 (n:=0) (own.full st st 0 4) rfl i1.len (subSt.refl _) rfl (zYz i1) (by simp only;omega) (by omega) λta sta hoa hsa _=>?_;simp only[Nat.zero_add,List.nil_append] at hoa ⊢;simp only[go_sem,zE,zB,zA,zM,zS,zL,reduceCtorEq,fits,yQ1];refine yZr hoa i1.len hsa rfl (by simp[fits,IV.one]) (by simp only;omega) (by omega) λtb stb hob hsb _=>?_;simp only[go_sem,zE,zB,zA,zM,zS,zL,reduceCtorEq,fits];refine (h_sq gl _ _ _ _ _).mono ?_;rintro _ stb ⟨rfl,rfl⟩;cases b
 ·simp only[go_sem,zE,zB,zA,zM,zS,zL,reduceCtorEq,fits];have hwx:IsSq wd (.agg [.sl tb (x1++[.agg [.raw (.int .u8 o1),.raw (.string n1),.sl q1 z1,.sl q2 z2]]),.sl t2 x2]):=by
   rw[hwd];exact⟨_,_,_,_,rfl,hob.es,i1.append (.one hy0),e2,i2⟩
  have hst:=hsb;have hF1:=λst=>xZv gl G 1 wd _ hwx hww 8 st;have hF2:=λst=>xZv gl G 1 s _ hx0 ⟨by omega,by omega⟩ 8 st;refine (hF1 _).mono ?_;rintro _ stb ⟨⟨p,rfl,hp⟩,rfl⟩;cases p
  ·simp only[go_sem,zE,zB,zA,zM,zS,zL,reduceCtorEq,fits];exact yQj hst ⟨rfl,rfl⟩
  simp only[go_sem,zE,zB,zA,zM,zS,zL,reduceCtorEq,fits];refine (hF2 _).mono ?_;rintro _ stb ⟨⟨q,rfl,hq⟩,rfl⟩;cases q
  ·simp only[go_sem,zE,zB,zA,zM,zS,zL,reduceCtorEq,fits];exact yQj hst ⟨rfl,rfl⟩
  have hfs:=yUv (hq rfl).w;have hfw:=yUv (hp rfl).w;have hL1:=λst=>yW8 gl G T 1 s _ hx0 hfs st;have hL2:=λst=>yW8 gl G T 1 wd _ hwx hfw st;have hL3:=λst=>yW8 gl G T 2 s _ hx0 hfs st;have hL4:=λst=>yW8 gl G T 2 wd _ hwx hfw st;have hVj:=λst=>zWl gl G 2 s _ hx0 hfs st;simp only[go_sem,zE,zB,zA,zM,zS,zL,reduceCtorEq,fits];refine (hL1 _).mono ?_;rintro _ stb ⟨⟨a,ea,rfl,ha⟩,rfl⟩;simp only[go_sem,zE,zB,zA,zM,zS,zL,reduceCtorEq,fits];refine (hL2 _).mono ?_;rintro _ stb ⟨⟨b',eb,rfl,hb⟩,rfl⟩;have h10:=ord4 (be:=(ea:Int)=0) (bg:=(eb:Int)=0) (a:=a) (b:=b') λh1 h2 h3=>by
   rcases ha with⟨h,_⟩|⟨_,rfl⟩
   ·omega
   rcases hb with⟨h,_⟩|⟨_,rfl⟩
   ·omega
   exact xG6 hsubL hsubR h3
  simp only[go_sem,zE,zB,zA,zM,zS,zL,reduceCtorEq,fits];rcases h10 with d1|⟨d1,d2⟩|⟨d1,d2,d3⟩|⟨d1,d2,d3,d4,d5,_,_⟩
  all_goals (first|simp only[go_sem,zE,zB,zA,zM,zS,zL,reduceCtorEq,fits,d1,d2,d3,d4,d5]|simp only[go_sem,zE,zB,zA,zM,zS,zL,reduceCtorEq,fits,d1,d2,d3]|simp only[go_sem,zE,zB,zA,zM,zS,zL,reduceCtorEq,fits,d1,d2]|simp only[go_sem,zE,zB,zA,zM,zS,zL,reduceCtorEq,fits,d1])
  all_goals clear d1
  all_goals (try clear d2)
  all_goals (try clear d3)
  all_goals (try clear d4 d5)
  all_goals
   refine (hVj _).mono ?_;rintro _ stb ⟨rfl,rfl⟩;cases hvj:yQy 2 s
   ·simp only[go_sem,zE,zB,zA,zM,zS,zL,reduceCtorEq,fits];exact yQj hst ⟨rfl,rfl⟩
   simp only[go_sem,zE,zB,zA,zM,zS,zL,reduceCtorEq,fits];refine (hL3 _).mono ?_;rintro _ stb ⟨⟨c,ec,rfl,hc⟩,rfl⟩;have h15:=ord4 (be:=(ec:Int)=0) (bg:=(ea:Int)=0) (a:=c) (b:=a) λh1 h2 h3=>by
    rcases hc with⟨h,_⟩|⟨_,rfl⟩
    ·omega
    rcases ha with⟨h,_⟩|⟨_,rfl⟩
    ·omega
    exact zKb h3
   simp only[go_sem,zE,zB,zA,zM,zS,zL,reduceCtorEq,fits];rcases h15 with d1|⟨d1,d2⟩|⟨d1,d2,d3⟩|⟨d1,d2,d3,d4,d5,_,_⟩
   all_goals (first|simp only[go_sem,zE,zB,zA,zM,zS,zL,reduceCtorEq,fits,d1,d2,d3,d4,d5]|simp only[go_sem,zE,zB,zA,zM,zS,zL,reduceCtorEq,fits,d1,d2,d3]|simp only[go_sem,zE,zB,zA,zM,zS,zL,reduceCtorEq,fits,d1,d2]|simp only[go_sem,zE,zB,zA,zM,zS,zL,reduceCtorEq,fits,d1])
  all_goals clear d1
  all_goals (try clear d2)
  all_goals (try clear d3)
  all_goals (try clear d4 d5)
  all_goals
   refine (hL4 _).mono ?_;rintro _ stb ⟨⟨d,ed,rfl,hd⟩,rfl⟩;have h20:=ord4 (be:=(ec:Int)=0) (bg:=(ed:Int)=0) (a:=c) (b:=d) λh1 h2 h3=>by
    rcases hc with⟨h,_⟩|⟨_,rfl⟩
    ·omega
    rcases hd with⟨h,_⟩|⟨_,rfl⟩
    ·omega
    exact xG6 hsubL hsubR h3
   simp only[go_sem,zE,zB,zA,zM,zS,zL,reduceCtorEq,fits];rcases h20 with d1|⟨d1,d2⟩|⟨d1,d2,d3⟩|⟨d1,d2,d3,_,_,d6,d7⟩
   ·simp only[go_sem,zE,zB,zA,zM,zS,zL,reduceCtorEq,fits,d1];exact yQj hst ⟨rfl,rfl⟩
   ·simp only[go_sem,zE,zB,zA,zM,zS,zL,reduceCtorEq,fits,d1,d2];exact yQj hst ⟨rfl,rfl⟩
   ·have d4:decide ((c:Int)=0)=true:=dEt (by have:=of_decide_eq_false d3;omega);simp only[go_sem,zE,zB,zA,zM,zS,zL,reduceCtorEq,fits,d1,d2,d4];exact yQj hst ⟨rfl,rfl⟩
   ·have d4:decide ((c:Int)=0)=false:=dEf (by have:=of_decide_eq_true d3;omega);simp only[go_sem,zE,zB,zA,zM,zS,zL,reduceCtorEq,fits,d1,d2,d4,d6,d7];exact yQj hst ⟨rfl,rfl⟩
 ·simp only[go_sem,zE,zB,zA,zM,zS,zL,reduceCtorEq,fits,yQ1,show yXz 0 []=true from rfl];refine yU2 (n:=0) (own.full stb st 0 4) rfl i2.len hsb rfl (zYz i2) (by simp only;omega) (by omega) λtc stc hoc hsc _=>?_;simp only[Nat.zero_add,List.nil_append] at hoc ⊢;simp only[go_sem,zE,zB,zA,zM,zS,zL,reduceCtorEq,fits,yQ1];refine yZr hoc i2.len hsc rfl (by simp[fits,IV.one]) (by simp only;omega) (by omega) λtd std hod hsd _=>?_;simp only[go_sem,zE,zB,zA,zM,zS,zL,reduceCtorEq,fits];refine (h_sq gl _ _ _ _ _).mono ?_;rintro _ std ⟨rfl,rfl⟩;simp only[go_sem,zE,zB,zA,zM,zS,zL,reduceCtorEq,fits];have hwx:IsSq wd (.agg [.sl t1 x1,.sl td (x2++[.agg [.raw (.int .u8 o1),.raw (.string n1),.sl q1 z1,.sl q2 z2]])]):=by
   rw[hwd];exact⟨_,_,_,_,rfl,e1,i1,hod.es,i2.append (.one hy0)⟩
  have hst:=hsd;have hF1:=λst=>xZv gl G 1 wd _ hwx hww 8 st;have hF2:=λst=>xZv gl G 1 s _ hx0 ⟨by omega,by omega⟩ 8 st;refine (hF1 _).mono ?_;rintro _ stb ⟨⟨p,rfl,hp⟩,rfl⟩;cases p
  ·simp only[go_sem,zE,zB,zA,zM,zS,zL,reduceCtorEq,fits];exact yQj hst ⟨rfl,rfl⟩
  simp only[go_sem,zE,zB,zA,zM,zS,zL,reduceCtorEq,fits];refine (hF2 _).mono ?_;rintro _ stb ⟨⟨q,rfl,hq⟩,rfl⟩;cases q
  ·simp only[go_sem,zE,zB,zA,zM,zS,zL,reduceCtorEq,fits];exact yQj hst ⟨rfl,rfl⟩
  have hfs:=yUv (hq rfl).w;have hfw:=yUv (hp rfl).w;have hL1:=λst=>yW8 gl G T 1 s _ hx0 hfs st;have hL2:=λst=>yW8 gl G T 1 wd _ hwx hfw st;have hL3:=λst=>yW8 gl G T 2 s _ hx0 hfs st;have hL4:=λst=>yW8 gl G T 2 wd _ hwx hfw st;have hVj:=λst=>zWl gl G 2 s _ hx0 hfs st;simp only[go_sem,zE,zB,zA,zM,zS,zL,reduceCtorEq,fits];refine (hL1 _).mono ?_;rintro _ stb ⟨⟨a,ea,rfl,ha⟩,rfl⟩;simp only[go_sem,zE,zB,zA,zM,zS,zL,reduceCtorEq,fits];refine (hL2 _).mono ?_;rintro _ stb ⟨⟨b',eb,rfl,hb⟩,rfl⟩;have h10:=ord4 (be:=(ea:Int)=0) (bg:=(eb:Int)=0) (a:=a) (b:=b') λh1 h2 h3=>by
   rcases ha with⟨h,_⟩|⟨_,rfl⟩
   ·omega
   rcases hb with⟨h,_⟩|⟨_,rfl⟩
   ·omega
   exact xG6 hsubL hsubR h3
  simp only[go_sem,zE,zB,zA,zM,zS,zL,reduceCtorEq,fits];rcases h10 with d1|⟨d1,d2⟩|⟨d1,d2,d3⟩|⟨d1,d2,d3,d4,d5,_,_⟩
  all_goals (first|simp only[go_sem,zE,zB,zA,zM,zS,zL,reduceCtorEq,fits,d1,d2,d3,d4,d5]|simp only[go_sem,zE,zB,zA,zM,zS,zL,reduceCtorEq,fits,d1,d2,d3]|simp only[go_sem,zE,zB,zA,zM,zS,zL,reduceCtorEq,fits,d1,d2]|simp only[go_sem,zE,zB,zA,zM,zS,zL,reduceCtorEq,fits,d1])
  all_goals clear d1
  all_goals (try clear d2)
  all_goals (try clear d3)
  all_goals (try clear d4 d5)
  all_goals
   refine (hVj _).mono ?_;rintro _ stb ⟨rfl,rfl⟩;cases hvj:yQy 2 s
   ·simp only[go_sem,zE,zB,zA,zM,zS,zL,reduceCtorEq,fits];exact yQj hst ⟨rfl,rfl⟩
   simp only[go_sem,zE,zB,zA,zM,zS,zL,reduceCtorEq,fits];refine (hL3 _).mono ?_;rintro _ stb ⟨⟨c,ec,rfl,hc⟩,rfl⟩;have h15:=ord4 (be:=(ec:Int)=0) (bg:=(ea:Int)=0) (a:=c) (b:=a) λh1 h2 h3=>by
    rcases hc with⟨h,_⟩|⟨_,rfl⟩
    ·omega
    rcases ha with⟨h,_⟩|⟨_,rfl⟩
    ·omega
    exact zKb h3
   simp only[go_sem,zE,zB,zA,zM,zS,zL,reduceCtorEq,fits];rcases h15 with d1|⟨d1,d2⟩|⟨d1,d2,d3⟩|⟨d1,d2,d3,d4,d5,_,_⟩
   all_goals (first|simp only[go_sem,zE,zB,zA,zM,zS,zL,reduceCtorEq,fits,d1,d2,d3,d4,d5]|simp only[go_sem,zE,zB,zA,zM,zS,zL,reduceCtorEq,fits,d1,d2,d3]|simp only[go_sem,zE,zB,zA,zM,zS,zL,reduceCtorEq,fits,d1,d2]|simp only[go_sem,zE,zB,zA,zM,zS,zL,reduceCtorEq,fits,d1])
  all_goals exact yQj hst ⟨rfl,rfl⟩
end Go.Proofs.Tryz
namespace Go.Proofs.Tryz
open Go Go.Iv
set_option maxRecDepth 4000
variable (gl:Nat->Option IV)
section
variable {b2 b3 b4:Nat}{fy a:IV}
end
section
variable {gl}{y:IV}{I:Nat->ISt->Prop}{S:ISt->Prop}{k0:Nat}
end
section
variable {b2 b3 b4:Nat}{fy a a':IV}{p:List Nat}{s:ISt}{g:Nat}
end
end Go.Proofs.Tryz
namespace Go.Proofs.Tryz
open Go Go.Iv
end Go.Proofs.Tryz
namespace Go.Proofs.Tryz
open Go Go.Iv Go.ChangeShapes
open Go.Proofs.YtclkffdkahljeaaGreatDoor.Rows (uptoBulk uptoBulkAll)
set_option maxRecDepth 4000
theorem uSeq:prog.underlying 24=some (.struct #[⟨ "Left",22,0,false, "", "",0⟩,⟨ "Right",22,1,false, "", "",24⟩]):=by kernel_rfl
theorem nSeq:prog.cellsOf 24=2:=by kernel_rfl
mutual
theorem xUq:∀t:Tm,wTm t<=2*xV5 t
 | .mk _ n us=>by have:=zZ7 us;simp only[wTm,xV5];omega
theorem zZ7:∀l:List Tm,wTms l<=2*yYl l
 | []=>Nat.le_refl _
 | a::l=>by have:=xUq a;have:=zZ7 l;simp only[wTms,yYl];omega
end
mutual
theorem xZ9:∀f:Fm,wFm f<=2*xQt f
 | .mk _ n us sub=>by have:=zZ7 us;have:=yG1 sub;simp only[wFm,xQt];omega
theorem yG1:∀l:List Fm,wFms l<=2*yU1 l
 | []=>Nat.le_refl _
 | a::l=>by have:=xZ9 a;have:=yG1 l;simp only[wFms,yU1];omega
end
section
variable {H:Type}{enc:TypeId×Value->H}{w:World}{spare:Nat->Bool}{held:Bool}
def RQ (d:DataW H)(s:Sq)(x:IV):Prop:=IsSq s x/\wFms s.l+wFms s.r<=2*uptoBulk d
theorem wG4 (fuel:Nat)(cs:List Value)(y:DataW H×List MemPlace)(h:DataW.trod enc prog w 0 spare held fuel 24 cs=some y)(hb:uptoBulk y.1<=1048576):∃s x,VL 0 (L0 w) w cs x.cells/\RQ y.1 s x:=by
 obtain⟨ys,n,rfl,rfl,hl,hlen,hf⟩:=DataW.trod_struct uSeq h
 match ys,hlen with
 | [y0,y1],_ =>
  rw[nSeq] at hl
  match cs,hl with
  | [c0,c1],_ =>
   have h0:=hf 0 _ rfl;have h1:=hf 1 _ rfl;simp only[List.getElem?_cons_zero,List.getElem?_cons_succ] at h0 h1;simp only[List.map_cons,List.map_nil,uptoBulk,uptoBulkAll] at hb;obtain⟨v0,tg0,xs0,l0,e0,hv0,ht0,hl0,hb0⟩:=zW5 h0 (by omega) (λm _=>xQg m);obtain⟨v1,tg1,xs1,l1,e1,hv1,ht1,hl1,hb1⟩:=zW5 h1 (by omega) (λm _=>xQg m);cases e0;cases e1;refine⟨⟨l0,l1⟩,.agg [.sl tg0 xs0,.sl tg1 xs1],VL.cons hv0 (VL.cons hv1 VL.nil),⟨tg0,xs0,tg1,xs1,rfl,ht0,hl0,ht1,hl1⟩,?_⟩;have:=yG1 l0;have:=yG1 l1;simp only[List.map_cons,List.map_nil,uptoBulk,uptoBulkAll];omega
end
end Go.Proofs.Tryz
namespace Go.Proofs.Tryz
open Go Go.Iv Go.ChangeShapes Go.RowKit
open Go.Proofs.YtclkffdkahljeaaGreatDoor
set_option maxRecDepth 8000
theorem uRow:prog.underlying 239=some (.struct #[⟨ "right",4,0,false, "", "lyceum/syntax",0⟩,⟨ "schema",4,1,false, "", "lyceum/syntax",1⟩,⟨ "name",5,2,false, "", "lyceum/syntax",2⟩,⟨ "args",3,3,false, "", "lyceum/syntax",8⟩,⟨ "subs",3,4,false, "", "lyceum/syntax",16⟩]):=by kernel_rfl
theorem vVm:prog.underlying 240=some (.array 17 239):=by kernel_rfl
theorem uInt:prog.underlying 3=some (.int .i64):=by kernel_rfl
theorem nRow:prog.cellsOf 239=5:=by kernel_rfl
theorem vGv:prog.cellsOf 240=85:=by kernel_rfl
theorem gRows:prog.globalNamed "lyceum/syntax.rows" = some 0:=by kernel_rfl
theorem gRowsT:(prog.globals[0]?).map (·.type)=some 240:=by kernel_rfl
theorem gPow:prog.globalNamed "internal/strconv.uint64pow10" = some 2:=by kernel_rfl
theorem gPowT:(prog.globals[2]?).map (·.type)=some 347:=by kernel_rfl
theorem uPow:prog.underlying 347=some (.array 20 264):=by kernel_rfl
theorem uU64:prog.underlying 264=some (.int .u64):=by kernel_rfl
theorem nPow:prog.cellsOf 347=20:=by kernel_rfl
theorem nU64:prog.cellsOf 264=1:=by kernel_rfl
section
variable {H:Type}{enc:TypeId×Value->H}{w:World}{spare:Nat->Bool}{held:Bool}
def rowD (op:Nat):DataW H:=.agg [.lit (.bool (yZ5 op)),.lit (.bool (zZp op)),.lit (.int .u8 (yX5 op)),.lit (.int .i64 (yX2 op)),.lit (.int .i64 (yX1 op))]
def rowV (op:Nat):List Value:=[.bool (yZ5 op),.bool (zZp op),.int .u8 (yX5 op),.int .i64 (yX2 op),.int .i64 (yX1 op)]
theorem xWm {fuel:Nat}{cs:List Value}{op:Nat}{p:List MemPlace}(h:DataW.trod enc prog w 0 spare held fuel 239 cs=some (rowD op,p)):cs=rowV op:=by
 obtain⟨ys,n,rfl,he,hl,hlen,hf⟩:=DataW.trod_struct uRow h
 match ys,hlen with
 | [y0,y1,y2,y3,y4],_ =>
  rw[nRow] at hl
  match cs,hl with
  | [c0,c1,c2,c3,c4],_ =>
   have h0:=hf 0 _ rfl;have h1:=hf 1 _ rfl;have h2:=hf 2 _ rfl;have h3:=hf 3 _ rfl;have h4:=hf 4 _ rfl;simp only[List.getElem?_cons_zero,List.getElem?_cons_succ] at h0 h1 h2 h3 h4;obtain⟨b0,e0,rfl⟩:=DataW.trod_bool xJl h0;obtain⟨b1,e1,rfl⟩:=DataW.trod_bool xJl h1;obtain⟨b2,e2,rfl,_⟩:=DataW.trod_int uU8 h2;obtain⟨b3,e3,rfl,_⟩:=DataW.trod_int uInt h3;obtain⟨b4,e4,rfl,_⟩:=DataW.trod_int uInt h4;cases e0;cases e1;cases e2;cases e3;cases e4;have he1:=congrArg Prod.fst he;simp only[rowD,List.map_cons,List.map_nil,DataW.agg.injEq,List.cons.injEq,DataW.lit.injEq,Lit.bool.injEq,Lit.int.injEq,true_and,and_true] at he1;obtain⟨rfl,rfl,rfl,rfl,rfl⟩:=he1;rfl
theorem xWl:(Rows.laid_lyceum_syntax_rows:DataW H)=.agg ((List.range 17).map rowD):=by rfl
theorem xK1 {fuel:Nat}{cs:List Value}{p:List MemPlace}(h:DataW.trod enc prog w 0 spare held fuel 240 cs=some (Rows.laid_lyceum_syntax_rows,p)) :
  cs.length=85/\∀op,op<17->(cs.drop (op*5)).take 5=rowV op:=by
 obtain⟨ys,n,rfl,he,hl,hlen,hf⟩:=DataW.trod_array vVm h;rw[vGv] at hl;refine⟨hl,λop hop=>?_⟩;have h1:=hf op hop;rw[nRow] at h1;have he1:=congrArg Prod.fst he;rw[xWl] at he1;simp only[DataW.agg.injEq] at he1;have h2:(ys.map (·.1))[op]?=some (rowD op):=by
  rw[<- he1,List.getElem?_map,List.getElem?_range hop];rfl
 rw[List.getElem?_map] at h2;obtain⟨y,hy,hy2⟩:=Option.map_eq_some_iff.1 h2;rw[hy] at h1;obtain⟨y1,y2⟩:=y;simp only at hy2;subst hy2;exact xWm h1
end
def gl0:Nat->Option IV
 | 0=>some (.agg rowsL)
 | 2=>some (.agg pow10L)
 | _=>none
theorem G0:Gl gl0:=⟨rfl⟩
theorem T0:Gt gl0:=⟨rfl⟩
def X0 (w:World):WS:={ w:=w,L:=L0 w,st:=λ_=>none,d:=0 }
theorem zUl {cs:List Value}(hl:cs.length=85)(h:∀op,op<17->(cs.drop (op*5)).take 5=rowV op)(i:Nat)(r:Value)(c:IV)(hr:cs[i]?=some r)(hc:rowsL[i]?=some c):c=.raw r/\zVc r:=by
 have hi:i<85:=by have:=(lGs hr).1;omega
 have hop:i / 5<17:=by omega
 have e:i=i / 5*5+i%5:=by omega
 have hm:i%5<5:=Nat.mod_lt _ (by decide);have h1:(rowV (i / 5))[i%5]?=some r:=by
  rw[<- h _ hop,List.getElem?_take,if_pos hm,List.getElem?_drop,<- e];exact hr
 have h2:(rowI (i / 5))[i%5]?=some c:=by
  rw[<- (zJt _ hop).2,List.getElem?_take,if_pos hm,List.getElem?_drop,<- e];exact hc
 generalize i%5=k at h1 h2 hm
 match k,hm with
 | 0,_=>cases h1;cases h2;exact⟨rfl,trivial⟩
 | 1,_=>cases h1;cases h2;exact⟨rfl,trivial⟩
 | 2,_=>cases h1;cases h2;exact⟨rfl,trivial⟩
 | 3,_=>cases h1;cases h2;exact⟨rfl,trivial⟩
 | 4,_=>cases h1;cases h2;exact⟨rfl,trivial⟩
theorem vUo {W:World}(hL:laidMetH prog Rows.searchWrongUptoRow.laid W):Go.Iv.Good ⟨prog,gl0,0⟩ (X0 W):=by
 obtain⟨ps,hlv,_⟩:=(show laidMet prog _ W from hL)
 obtain⟨_,_,_,_,_,_,_,_,_,_,hlv,_⟩:=hlv;obtain⟨_,_,_,_,_,_,_,_,_,_,hlv,_⟩:=hlv;obtain⟨g1,t1,cs1,f1,p1,q1,hg1,ht1,hv1,hd1,hlv,_⟩:=hlv;obtain⟨g2,t2,cs2,f2,p2,q2,hg2,ht2,hv2,hd2,_,_⟩:=hlv;obtain rfl:=Option.some.inj (gPow.symm.trans hg1);obtain rfl:=Option.some.inj (gPowT.symm.trans ht1);obtain rfl:=Option.some.inj (gRows.symm.trans hg2);obtain rfl:=Option.some.inj (gRowsT.symm.trans ht2);have hc1:=Lib.cells_of_tab (zs:=Lib.pow10Tab) uPow uU64 nU64 nPow hd1;have hc2:=xK1 hd2;have hb:∀(n:String) (g:Nat) (cs:Array Value),prog.globalNamed n=some g->W.var? prog n=some cs->∃T f,W.heap[g]?=some (.cells cs T f):=by
  intro n g cs hn hv;unfold World.var? at hv;rw[hn,Option.bind_some] at hv;split at hv
  ·rename_i c t f hh;cases hv;exact⟨_,_,hh⟩
  ·cases hv
 obtain⟨T1,fr1,hh1⟩:=hb _ _ _ gPow hv1;obtain⟨T2,fr2,hh2⟩:=hb _ _ _ gRows hv2;have row:∀(g:Nat) (cs:Array Value) (T:TypeId) (f:Nat×Nat) (xs:List IV),W.heap[g]?=some (.cells cs T f)->cs.size=xs.length->(∀(i:Nat) (r:Value) (c:IV),cs.toList[i]?=some r->xs[i]?=some c->c=.raw r/\zVc r) →
   V 0 (L0 W) W (.pointer (some ⟨g,0,none⟩)) (.cptr (.agg xs)):=by
  intro g cs T f xs hh hl h;refine .cptr _ _ cs.toList rfl (by simpa[IV.cells] using hl) ?_ (λi r hr=>?_) (λi r c hr hc=>?_)
  ·show 0+cs.toList.length<=L0 W g;simp[L0,hh]
  ·show W.cell? ⟨g,0+i,none⟩=some r;simp only[World.cell?,hh,Nat.zero_add];simpa using hr
  ·obtain⟨rfl,hk⟩:=h i r c hr hc;exact .raw _ hk
 have hp:∀(i:Nat) (r:Value) (c:IV),cs1.toList[i]?=some r->pow10L[i]?=some c->c=.raw r/\zVc r:=by
  intro i r c hr hc;rw[hc1,List.getElem?_map] at hr;unfold pow10L at hc;rw[List.getElem?_map] at hc;obtain⟨z,hz,rfl⟩:=Option.map_eq_some_iff.1 hr;rw[hz] at hc;cases hc;exact⟨rfl,trivial⟩
 have hs1:cs1.size=pow10L.length:=by
  rw[<- Array.length_toList,hc1];simp[pow10L]
 have hs2:cs2.size=rowsL.length:=by
  rw[<- Array.length_toList,hc2.1];rfl
 refine⟨λb o h=>(by cases h),λg x hx=>?_,Nat.zero_le _,λb hb=>?_,λg x hx=>?_,λ_=>Nat.zero_le _⟩
 ·match g,hx with
  | 0,hx=>cases hx;exact row 0 cs2 T2 fr2 _ hh2 hs2 (λi r c hr hc=>zUl hc2.1 hc2.2 i r c hr hc)
  | 2,hx=>cases hx;exact row 2 cs1 T1 fr1 _ hh1 hs1 hp
 ·show L0 W b=0;unfold L0;rw[Array.getElem?_eq_none (show W.heap.size<=b from hb)]
 ·match g,hx with
  | 0,hx=>cases hx;exact⟨T2,fr2 == (0,0),by show shq W 0=_;simp[shq,hh2,hs2,IV.cells]⟩
  | 2,hx=>cases hx;exact⟨T1,fr1 == (0,0),by show shq W 2=_;simp[shq,hh1,hs1,IV.cells]⟩
theorem zGh {W:World}{X':WS}(h:Ext (X0 W) X'):Below W.heap.size W X'.w :=
 ⟨h.os,h.tape,h.output,h.size,λk hk=>(h.keep k hk rfl).1⟩
theorem wKw:laidOutB prog=true:=by kernel_rfl
theorem yG5 {H:Type}{enc:TypeId×Value->H}{W W':World}(hb:Below W.heap.size W W')(sp:Nat->Bool):∀ {ts:List TypeId} {vs:List Value} {ds:List (DataW H)} {ps:List MemPlace},
  (∀t∈ts,prog.readableRec t=true/\t<prog.types.size)->DataW.TrodAll enc prog W 0 (λ_=>true) true ts vs ds ps->(∀p∈ps,p.block<W.heap.size)->(∀p∈ps,sp p.block=true) →
  DataW.TrodAll enc prog W' 0 sp true ts vs ds ps
 | [],vs,ds,ps,_,h,_,_=>by
  obtain⟨rfl,rfl,rfl⟩:=trodAll_nil h;rfl
 | t::ts,vs,ds,ps,ht,h,hlt,hsp=>by
  obtain⟨v,vs1,d,ds1,a,b,rfl,rfl,rfl,h1,h2⟩:=trodAll_cons h;refine⟨a,b,WideElems.Trod_stays wKw (ht t (by simp)).1 (ht t (by simp)).2 h1 (λp hp=>hb.same (hlt p (by simp[hp]))) (λp hp=>hsp p (by simp[hp])),?_,rfl⟩;exact yG5 hb sp (λt h=>ht t (by simp[h])) h2 (λp hp=>hlt p (by simp[hp])) (λp hp=>hsp p (by simp[hp]))
theorem wQz {H:Type}{enc:TypeId×Value->H}{f:Func}{s:ChangeSpec}{fid:FuncId}{W:World}{args:Array Value}{ds gs:List (DataW H)}{before:List MemPlace}{ivs:List IV}
  (hvars:s.vars=[]) (hW:DataW.Whole enc prog f.params.toList s.vars false W args.toList ds gs before) (hfn:s.fn H (ds++gs)={ results:=[.lit (.bool true)],args:=ds })
  (hres:f.resultTypes=#[4]) (hread:∀t∈f.params.toList,prog.readableRec t=true/\t<prog.types.size) (hg:Go.Iv.Good ⟨prog,gl0,0⟩ (X0 W)) (hv:VL 0 (L0 W) W args.toList ivs)
  (hc:ICall prog gl0 fid ivs (λ_=>none) (λr st'=>r=.raw (.bool true)/\st'=λ_=>none)) :
  Calls prog fid args W λe W'=>∃v,e=.returned v/\s.post enc prog f false true false false W args v W':=by
 refine (hc 0 (X0 W) args.toList hg rfl hv).mono ?_;rintro e W' ⟨v,rfl,X',x,rfl,hg',he,hx,rfl,_⟩;obtain rfl:=V.raw_inv hx;have hb:=zGh he;refine⟨_,rfl,?_⟩;have hW':=hW;obtain⟨p,q,hA,hV,rfl,hz,_⟩:=hW;rw[hvars] at hV;have hgs:gs=[]/\q=[]:=by
  cases gs with
  | nil=>exact⟨rfl,hV⟩
  | cons _ _=>exact absurd hV (by simp[DataW.TrodVars])
 obtain⟨rfl,rfl⟩:=hgs;have hlt:∀x∈p,x.block<W.heap.size:=λx hx=>by simpa using hW'.lt x (by simpa using hx)
 have hargs:∀sp:Nat->Bool,(∀x∈p,sp x.block=true)->DataW.TrodAll enc prog X'.w 0 sp true f.params.toList args.toList (s.fn H (ds++[])).args p:=λsp hsp=>by
  rw[hfn];exact yG5 hb sp hread hA hlt hsp
 have hr:∀(b:Nat) (sp:Nat->Bool) (hd:Bool),DataW.TrodAll enc prog X'.w b sp hd f.resultTypes.toList ((Value.bool true).resultList f.resultTypes.size) (s.fn H (ds++[])).results []:=λ_ _ _=>by
  rw[hfn,hres];exact trodAll_cons_mk (shut_bool xJl _) trodAll_mk0
 have hvs:∀sp:Nat->Bool,DataW.TrodVars enc prog X'.w sp s.vars (s.fn H (ds++[])).vars []:=λ_=>by
  rw[hvars,hfn];rfl
 have hsz:∀x∈p,(λb=>decide (b<W.heap.size)) x.block=true:=λx hx=>by simpa using hlt x hx
 refine⟨ds,[],p++[],[],p,[],hW',hr _ _ _,hargs _ hsz,hvs _,World.keptBut_mono (λx hx=>⟨hx,Or.inr (by simpa using hx)⟩) (hb.frame (·∈p++[])),λ_=>⟨ok_one hres rfl (okWide_bool_mk xJl _),_,_,([]++p)++[],
  ⟨[]++p,[],trodAll_append (hargs _ (λ_ _=>rfl)) (hr _ _ _),hvs _,rfl,?_,λh=>by cases h⟩,λx hx _=>by simpa using hx⟩⟩
 intro b off hp;rw[hb.frozen (p:=⟨b,off,none⟩) (hlt (.cell b off) (by simpa using hp))];exact hz b off (by simpa using hp)
theorem wZ8 {W:World}{base:Nat}{v:Value}{f:Fm}{x:IV}(h:Value.okWide prog W .any base 31 v)(hx:VL 0 (L0 W) W v.cells.toList x.cells)(hf:IsFm f x):V 0 (L0 W) W v x:=by
 obtain⟨cs,rfl,_⟩:=WideShapes.okWide_struct wYt h;cases f with
 | mk op n us sub =>
  obtain⟨tg,xs,tg',ys,rfl,_⟩:=IsFm.mk hf;cases cs;exact hx.agg
theorem wK5 {W:World}{base:Nat}{v:Value}{s:Sq}{x:IV}(h:Value.okWide prog W .any base 24 v)(hx:VL 0 (L0 W) W v.cells.toList x.cells)(hf:IsSq s x):V 0 (L0 W) W v x:=by
 obtain⟨cs,rfl,_⟩:=WideShapes.okWide_struct uSeq h;obtain⟨_,_,_,_,rfl,_⟩:=hf;cases cs;exact hx.agg
theorem wZr {W:World}{base:Nat}{v:Value}(h:Value.okWide prog W .any base 4 v):∃b:Bool,v=.bool b/\V 0 (L0 W) W (.bool b) (.raw (.bool b)):=by
 simp only[Value.okWide,xJl,Cell.okWide] at h;cases v<;>simp_all [Cell.ok];exact .raw _ trivial
def tab32:List Int:=[0,1,28,2,29,14,24,3,30,22,20,15,25,17,4,8,31,27,13,23,21,19,16,7,26,12,18,6,11,5,10,9]
def tab64:List Int:=[0,1,56,2,57,49,28,3,61,58,42,50,38,29,17,4,62,47,59,36,45,43,51,22,53,39,33,30,24,18,12,5,63,55,48,27,60,41,37,16,46,35,44,21,52,32,23,11,54,26,40,15,34,20,31,10,25,14,19,9,13,8,7,6]
def lay (cs:List Value):Obj->Obj
 | .cells _ t frozen=>.cells cs.toArray t frozen
 | o=>o
noncomputable def zX0 (os:Os):World :=
 { World.holding prog os ⟨#[],#[],[]⟩ with heap:=((((World.holding prog os ⟨#[],#[],[]⟩).heap.modify 0 (lay ((List.range 17).flatMap rowV))).modify 2 (lay (Lib.pow10Tab.map λz=>.int .u64 z))).modify 3 (lay (tab32.map λz=>.int .u8 z))).modify 4 (lay (tab64.map λz=>.int .u8 z)) }
theorem wZ1 (os:Os)(args:Array Value):laidMet prog Rows.searchWrongUptoRow.laid ((zX0 os).forCall (λ_ _=>0) ⟨#[],args,[]⟩).memory :=
 laidMet_of_run' 8 (by kernel_rfl) (by kernel_rfl)
