/- slices.SortFunc at elements of four cell -/
import Derived.Test.YtabhgbojkjcfjaaGreatDoorQB
set_option linter.all false
open Nat renaming reduceEqDiff → zE,reduceBEq → zB,reduceAdd → zA,reduceMul → zM,reduceSub → zS,reduceLeDiff → zL
namespace Go.Proofs.Tryz
set_option maxRecDepth 4000
open Go Go.Iv Go.Sort Go.Shelf Go.RowKit
variable (gl:Nat->Option IV)
section
variable {α:Type} [Inhabited α]{enc:α->List Value}{k:Nat}
theorem zUb (hk:∀x,(enc x).length=k)(h0:0<k):∀(l:List α) (t:Nat),t<l.length*k->(l.flatMap enc)[t]?=some ((enc l[t / k]!)[t%k]!)
 | [],t,h=>by simp at h
 | a::l,t,h=>by
  rw[List.flatMap_cons];by_cases ht:t<k
  ·rw[List.getElem?_append_left (by rw[hk];exact ht),Nat.div_eq_of_lt ht,Nat.mod_eq_of_lt ht];rw[List.getElem?_eq_getElem (by rw[hk];exact ht)];simp only[List.getElem!_cons_zero];rw[getElem!_pos _ t (by rw[hk];exact ht)]
  ·obtain⟨s,rfl⟩:∃s,t=s+k:=⟨t-k,by omega⟩
   rw[List.getElem?_append_right (by rw[hk];omega),hk,Nat.add_sub_cancel,zUb hk h0 l s (by rw[List.length_cons,Nat.succ_mul] at h;omega),Nat.add_div_right _ h0,Nat.add_mod_right];simp
theorem zUa (hk:∀x,(enc x).length=k):∀l:List α,(l.flatMap enc).length=l.length*k
 | []=>by simp
 | a::l=>by rw[List.flatMap_cons,lLa,hk,zUa hk l,List.length_cons,Nat.succ_mul,Nat.add_comm]
theorem yG2 (hk:∀x,(enc x).length=k)(h0:0<k)(d:Array α):(flatK enc k d).toList=d.toList.flatMap enc:=by
 have hl:(d.toList.flatMap enc).length=d.size*k:=by rw[zUa hk,Array.length_toList]
 apply List.ext_getElem?;intro t;by_cases ht:t<d.size*k
 ·rw[zUb hk h0 d.toList t (by simpa using ht)];have h1:=get_flatK enc k d t ht;rw[getElem!_pos _ t (by rw[size_flatK];exact ht)] at h1;rw[Array.getElem?_toList,Array.getElem?_eq_getElem (by rw[size_flatK];exact ht),h1];congr 3;rw[Array.getElem!_toList]
 ·rw[List.getElem?_eq_none (show (flatK enc k d).toList.length<=t by rw[Array.length_toList,size_flatK];omega),List.getElem?_eq_none (show (d.toList.flatMap enc).length<=t by rw[hl];omega)]
end
section
variable {α:Type} [Inhabited α]{enc:α->List Value}{k:Nat}{w:World}{b m:Nat}{dk:Array α}{os:Array Obj}
theorem zZk {c:Array Value}{T:TypeId}{f:Nat×Nat}(hh:w.heap[b]?=some (.cells c T f)):(sortWorldK enc k w b 0 m dk os).heap[b]?=some (.cells (putCells id 0 (flatK enc k dk) c) T f):=by
 have hb:=(Array.getElem?_eq_some_iff.1 hh).1;unfold sortWorldK;rw[heap_grow_old _ _ (by show b<(putRowK enc k _ b 0 dk).heap.size;simpa[putRowK] using hb)];show (w.heap.modify b (onCells (putCells id 0 (flatK enc k dk))))[b]?=_;rw[Array.getElem?_modify,if_pos rfl,hh];rfl
theorem yXn {j:Nat}(hj:j≠b)(hlt:j<w.heap.size):(sortWorldK enc k w b 0 m dk os).heap[j]?=w.heap[j]?:=by
 unfold sortWorldK;rw[heap_grow_old _ _ (by show j<(putRowK enc k _ b 0 dk).heap.size;simpa[putRowK] using hlt)];show (w.heap.modify b (onCells (putCells id 0 (flatK enc k dk))))[j]?=_;rw[Array.getElem?_modify,if_neg (λh=>hj h.symm)]
theorem yUi {F c:Array Value}(h:F.size<=c.size):(putCells id 0 F c).toList=F.toList++c.toList.drop F.size:=by
 apply List.ext_getElem?;intro i;unfold putCells;rw[Array.getElem?_toList,Array.getElem?_mapIdx];by_cases hi:i<F.size
 ·rw[List.getElem?_append_left (by simpa using hi),Array.getElem?_toList,Array.getElem?_eq_getElem (show i<c.size by omega),Array.getElem?_eq_getElem hi];simp only[Option.map_some,id,Nat.zero_add,Nat.zero_le,true_and,if_pos hi,Nat.sub_zero];rw[getElem!_pos F i hi]
 ·rw[List.getElem?_append_right (by simpa using hi),List.getElem?_drop,Array.length_toList,Array.getElem?_toList];rw[show F.size+(i-F.size)=i by omega];cases hc:c[i]? with
  | none=>rfl
  | some v=>simp only[Option.map_some,Nat.zero_add,Nat.zero_le,true_and,if_neg hi]
end
theorem zK2 {X X':WS}(he:Ext X X')(hst:∀b,X.st b=none)(hd:X.w.drawn<=X'.w.drawn):∃q os,X'.w=grow (X.w.drewN q) os:=by
 refine⟨X'.w.drawn-X.w.drawn,X'.w.heap.extract X.w.heap.size X'.w.heap.size,?_⟩;have h1:X'.w.heap=X.w.heap++X'.w.heap.extract X.w.heap.size X'.w.heap.size:=by
  apply Array.ext_getElem?;intro i;by_cases hi:i<X.w.heap.size
  ·rw[Array.getElem?_append_left hi];exact (he.keep i hi (hst i)).1
  ·rw[Array.getElem?_append_right (by omega),Array.getElem?_extract];have:=he.size;split
   ·congr 1;omega
   ·rw[Array.getElem?_eq_none (by omega)]
 have h2:=he.os;have h3:=he.tape;have h4:=he.output;generalize X'.w=w' at *;generalize X.w=w at *;obtain⟨hp,tp,dr,os,out⟩:=w';obtain⟨hp1,tp1,dr1,os1,out1⟩:=w;simp only at h1 h2 h3 h4 hd;subst h2 h3 h4;simp only[grow,World.drewN,World.mk.injEq,and_true,true_and];exact⟨h1,by omega⟩
theorem xYo (g:FuncId)(hent:∀args w,(callFunc g args).run prog w=.ok (.enter g args) w)(xs rest:List IV)(b cap:Nat)(st:ISt)(hne:xs≠[])(hlen:xs.length<=140737488355328)(hx:∀x∈xs,fits true 4 x=true)(hb:st b=some (.box (xs.flatMap IV.cells++rest)))(cf:IV->IV->Int)
  (h1:∀x∈xs,¬ cf x x<0) (h2:∀x∈xs,∀y∈xs,∀z∈xs,cf x y<0->cf y z<0->cf x z<0) (h3:∀x∈xs,∀y∈xs,∀z∈xs,¬ cf x y<0->¬ cf y z<0->¬ cf x z<0)
  (hcmp:∀x∈xs,∀y∈xs,ICall prog (λ_=>none) g [x,y] (λ_=>none) (λr _=>r=.raw (.int .i64 (cf x y)))) :
  ICall prog gl 134 [.raw (.slice (some ⟨b,0,none⟩) xs.length cap),.fn (.func g) [] []] st
   (λr st'=>r=.tup []/\∃ys:List IV,ys.Perm xs/\ys.Pairwise (λx y=>¬ cf y x<0)/\st'=st.put b (some (.box (ys.flatMap IV.cells++rest)))):=by
 intro B X rs hg hst hv;subst hst;obtain⟨r0,r1,rfl⟩:∃r0 r1,rs=[r0,r1]:=by
  match rs,hv with
  | [a,b],_=>exact⟨a,b,rfl⟩
  | [],hv=>cases hv.1
  | [_],hv=>cases hv.1
  | _::_::_::_,hv=>cases hv.1
 obtain rfl:=V.raw_inv (hv.2 0 r0 _ rfl rfl);obtain⟨f1,f2,rfl,hf1,hf2⟩:=V.fn_inv (hv.2 1 r1 _ rfl rfl);obtain rfl:f1=[]:=List.eq_nil_of_length_eq_zero hf1.1;obtain rfl:f2=[]:=List.eq_nil_of_length_eq_zero hf2.1;obtain⟨hL,c,T,hh,hvl⟩:=hg.ok b _ hb;have hblk:b<X.w.heap.size:=hg.lt hb;have hcells:∀x∈xs,x.cells.length=4:=λx hxm=>(yX0 (hx x hxm)).2.1;have hcl:c.size=xs.length*4+rest.length:=by
  have:=hvl.1;rw[lLa,yQp xs hcells,Array.length_toList] at this;exact this
 -- the elements
 let α:={ p:IV×List Value // p.1∈xs/\VL B X.L X.w p.2 p.1.cells }
 have hel:∀(l:List IV) (vs:List Value),(∀x∈l,x∈xs)->VL B X.L X.w vs (l.flatMap IV.cells)->∃d:List α,d.map (λa=>a.1.1)=l/\d.flatMap (λa=>a.1.2)=vs:=by
  intro l
  induction l with
  | nil =>
   intro vs _ hvs;exact⟨[],rfl,(List.eq_nil_of_length_eq_zero hvs.1).symm⟩
  | cons x l ih =>
   intro vs hm hvs;have hx4:=hcells x (hm x (by simp));have hlv:vs.length=4+(l.flatMap IV.cells).length:=by rw[hvs.1,List.flatMap_cons,lLa,hx4]
   have ha:VL B X.L X.w (vs.take 4) x.cells:=by
    have:=hvs.take 4
    rwa [List.flatMap_cons,List.take_left' hx4] at this
   have hbv:VL B X.L X.w (vs.drop 4) (l.flatMap IV.cells):=by
    have:=hvs.drop 4
    rwa [List.flatMap_cons,List.drop_left' hx4] at this
   obtain⟨d,hd1,hd2⟩:=ih (vs.drop 4) (λy hy=>hm y (by simp[hy])) hbv;exact⟨⟨(x,vs.take 4),hm x (by simp),ha⟩::d,by simp[hd1],by simp[hd2]⟩
 obtain⟨d,hd1,hd2⟩:=hel xs (c.toList.take (xs.length*4)) (λ_ h=>h) (by
  have:=hvl.take (xs.length*4)
  rwa [List.take_left' (yQp xs hcells)] at this)
 have hdl:d.length=xs.length:=by rw[<- hd1,List.length_map]
 have hdn:d≠[]:=by rintro rfl;exact hne (List.eq_nil_of_length_eq_zero hdl.symm)
 letI:Inhabited α:=⟨d.head hdn⟩
 let enc:α->List Value:=λa=>a.1.2
 have hk:∀a:α,(enc a).length=4:=λa=>by rw[a.2.2.1];exact hcells _ a.2.1
 have hone:∀(a:α),∀v∈enc a,v.oneCell'=true:=λa v hv=>yGd (C:=⟨prog,gl,B⟩) a.2.2 (yX0 (hx _ a.2.1)).2.2.1 v hv
 let cf':α->α->Int:=λa a'=>cf a.1.1 a'.1.1
 have hO:SWO (ltOf cf'):=⟨λa=>by simp only[ltOf,decide_eq_false_iff_not];exact h1 _ a.2.1,λa a' a'' p q=>by
   simp only[ltOf,dTe] at p q ⊢;exact h2 _ a.2.1 _ a'.2.1 _ a''.2.1 p q,λa a' a'' p q=>by
   simp only[ltOf,decide_eq_false_iff_not] at p q ⊢;exact h3 _ a.2.1 _ a'.2.1 _ a''.2.1 p q⟩
 have hfl:(flatK enc 4 d.toArray).toList=c.toList.take (xs.length*4):=by
  rw[yG2 hk (by decide)];exact hd2
 have hH:HoldsK enc 4 X.w b 0 d.toArray:=by
  intro j hj;have hj':j<xs.length*4:=by rw[size_flatK] at hj;simpa[hdl] using hj
  have e1:(flatK enc 4 d.toArray)[j]?=c[j]?:=by
   rw[<- Array.getElem?_toList,hfl,List.getElem?_take,if_pos hj',Array.getElem?_toList]
  have hjc:j<c.size:=by omega
  rw[Array.getElem?_eq_getElem hj,Array.getElem?_eq_getElem hjc] at e1;refine⟨?_,?_⟩
  ·rw[Nat.zero_add,yZ2 hh,Array.getElem?_toList,Array.getElem?_eq_getElem hjc,<- e1,id,getElem!_pos _ j hj]
  ·simp only[World.frozen?,hh];simp
 have hmono:∀(n:Nat) (dk:Array α) (os:Array Obj) (X1:WS),X1.w=sortWorldK enc 4 X.w b 0 n dk os->X1.L=X.L->∀r x,V B X.L X.w r x->V B X1.L X1.w r x:=by
  intro n dk os X1 hw hXL r x hrx;refine V.mono hrx (λj=>by rw[hXL];exact Nat.le_refl _) (λj i hi=>?_) (λj p hp=>?_)
  ·have hjb:j≠b:=by rintro rfl;rw[hL] at hi;omega
   have hjl:j<X.w.heap.size:=by
    rcases Nat.lt_or_ge j X.w.heap.size with h|h
    ·exact h
    ·rw[hg.Lnew j h] at hi;omega
   exact yJ3 (by rw[hw];exact yXn hjb hjl) i
  ·by_cases hjb:j=b
   ·subst hjb;simp only[shq,hh] at hp;simp only[shq,hw,zZk hh];rw[<- hp];simp[putCells]
   ·rw[<- hp];exact yZr (by rw[hw];exact yXn hjb (yVi hp))
 have hcon:=AnyQ.slices_SortFunc Tryz.sortFL 4 xGq xW7 enc hk hone cf' hO g #[] b 0 cap d.toArray X.w hent (by
   intro n os dk hdk a a'
   let X1:WS:={ w:=sortWorldK enc 4 X.w b 0 n dk os,L:=X.L,st:=λ_=>none,d:=X.w.drawn+n }
   have hsz:=size_sortWorldK_c enc 4 X.w b 0 n dk os;have hg1:Go.Iv.Good ⟨prog,λ_=>none,B⟩ X1:=⟨λ_ _ h=>(by cases h),λ_ _ h=>(by cases h),Nat.le_trans hg.B hsz,λj hj=>hg.Lnew j (Nat.le_trans hsz hj),λ_ _ h=>(by cases h),λ_=>Nat.le_refl _⟩
   have hm1:=hmono n dk os X1 rfl rfl;have agg:∀a:α,V B X1.L X1.w (.agg (enc a).toArray) a.1.1:=λa=>by
    obtain⟨⟨x,vs⟩,hxm,hvx⟩:=a;obtain⟨cs,rfl⟩:∃cs,x=.agg cs:=by
     have:=hx x hxm;cases x<;>first|exact⟨_,rfl⟩|(simp[fits] at this)
    exact (show VL B X1.L X1.w vs cs from⟨hvx.1,λi r c hr hc=>hm1 r c (hvx.2 i r c hr hc)⟩).agg
   refine (hcmp a.1.1 a.2.1 a'.1.1 a'.2.1 B X1 [.agg (enc a).toArray,.agg (enc a').toArray] hg1 rfl (VL.cons (agg a) (VL.cons (agg a') VL.nil))).mono ?_;rintro e w' ⟨v,rfl,X',x,rfl,hg',he',hv',rfl⟩;obtain rfl:=V.raw_inv hv';refine⟨rfl,?_⟩;have hd:=hg'.dr (λ_=>rfl);rw[he'.d] at hd;exact zK2 he' (λ_=>rfl) hd) hH hblk (by simp[hdl];omega)
 have harr:(⟨[.slice (some ⟨b,0,none⟩) xs.length cap,.func (.func g) ⟨[]⟩ ⟨[]⟩]⟩:Array Value)=#[.slice (some ⟨b,0,none⟩) d.toArray.size cap,.func (.func g) #[] #[]]:=by simp[hdl]
 rw[harr];refine hcon.mono ?_;rintro e w' ⟨rfl,d',n,os,hp,hs,rfl⟩;have hd'l:d'.size=xs.length:=by rw[hp.1];simp[hdl]
 have hperm:d'.toList.Perm d:=by
  have:=hp.2.2;rw[List.size_toArray,hdl,<- hd'l,Array.extract_size] at this
  rwa [hd'l,<- hdl,show d.toArray.extract 0 d.length=d.toArray by simp] at this
 have hys:∀y∈d'.toList.map (λa=>a.1.1),y∈xs:=λy hy=>by
  obtain⟨a,_,rfl⟩:=List.mem_map.1 hy;exact a.2.1
 have hblock:=zZk (enc:=enc) (k:=4) (m:=n) (dk:=d') (os:=os) hh;have hfs:(flatK enc 4 d').size=xs.length*4:=by rw[size_flatK,hd'l]
 have hpl:(putCells id 0 (flatK enc 4 d') c).toList=d'.toList.flatMap enc++c.toList.drop (xs.length*4):=by
  rw[yUi (by omega),yG2 hk (by decide),hfs]
 let X':WS:={ w:=sortWorldK enc 4 X.w b 0 n d' os,L:=X.L,st:=X.st.put b (some (.box ((d'.toList.map (λa=>a.1.1)).flatMap IV.cells++rest))),d:=X.d }
 have hm:=hmono n d' os X' rfl rfl;have hsz:=size_sortWorldK_c enc 4 X.w b 0 n d' os;have hvlm:∀rs cs,VL B X.L X.w rs cs->VL B X'.L X'.w rs cs:=λrs cs h=>⟨h.1,λi r x hr hx=>hm r x (h.2 i r x hr hx)⟩
 have hgood:Go.Iv.Good ⟨prog,gl,B⟩ X':=by
  refine⟨λj o ho=>?_,λj x hj=>hm _ _ (hg.gl j x hj),Nat.le_trans hg.B hsz,λj hj=>hg.Lnew j (Nat.le_trans hsz hj),λj x hj=>?_,λhd=>Nat.le_trans (hg.dr hd) (Nat.le_add_right _ _)⟩
  ·by_cases hjb:j=b
   ·subst hjb;simp only[X',ISt.put_same,Option.some.injEq] at ho;subst ho;refine⟨hL,_,T,hblock,hvlm _ _ ?_⟩;rw[hpl];refine VL.append ?_ ?_
    ·have key:∀l:List α,VL B X.L X.w (l.flatMap enc) ((l.map λa=>a.1.1).flatMap IV.cells):=λl=>by
      induction l with
      | nil=>exact VL.nil
      | cons a l ih=>simp only[List.flatMap_cons,List.map_cons];exact a.2.2.append ih
     exact key _
    ·have:=hvl.drop (xs.length*4)
     rwa [List.drop_left' (yQp xs hcells)] at this
   ·have ho':X.st j=some o:=by simpa only[X',ISt.put_apply,if_neg hjb] using ho
    exact (hg.ok j o ho').mono (yXn hjb (hg.lt ho')) rfl hvlm
  ·obtain⟨T',z,hT⟩:=hg.gsh j x hj;refine⟨T',z,?_⟩;by_cases hjb:j=b
   ·subst hjb;simp only[shq,hh] at hT;simp only[shq,X',hblock];rw[<- hT];simp[putCells]
   ·rw[<- hT];exact yZr (yXn hjb (yVi hT))
 refine⟨_,rfl,X',.tup [],rfl,hgood,⟨rfl,rfl,rfl,hsz,λ_=>Nat.le_refl _,λj i hi=>?_,λj hj hs0=>?_,λj hj hs0=>?_,λj p hp=>?_,rfl⟩,.tup [] [] rfl (λi r c h=>by simp at h),rfl,_,?_,?_,rfl⟩
 ·have hjb:j≠b:=by rintro rfl;rw[hL] at hi;omega
  have hjl:j<X.w.heap.size:=by
   rcases Nat.lt_or_ge j X.w.heap.size with h|h
   ·exact h
   ·rw[hg.Lnew j h] at hi;omega
  exact yJ3 (yXn hjb hjl) i
 ·have hjb:j≠b:=by rintro rfl;rw[hb] at hs0;cases hs0
  exact⟨yXn hjb hj,rfl⟩
 ·have hjb:j≠b:=by rintro rfl;rw[hb] at hs0;cases hs0
  simp only[X',ISt.put_apply,if_neg hjb];exact hs0
 ·by_cases hjb:j=b
  ·subst hjb;simp only[shq,hh] at hp;simp only[shq,X',hblock];rw[<- hp];simp[putCells]
  ·rw[<- hp];exact yZr (yXn hjb (yVi hp))
 ·have:=hperm.map (λa:α=>a.1.1)
  rwa [hd1] at this
 ·rw[List.pairwise_map];refine List.pairwise_iff_getElem.2 λi j hi hj hij=>?_;have:=hs i j (Nat.zero_le _) hij (by simp at hj ⊢;omega);simp only[ltOf,decide_eq_false_iff_not] at this;rw[Array.length_toList] at hi hj;rw[getElem!_pos d' i hi,getElem!_pos d' j hj] at this;exact this
end Go.Proofs.Tryz
namespace Go.Proofs.Tryz
set_option maxRecDepth 4000
open Go Go.Iv Go.Sort Go.Shelf Go.RowKit
variable (gl:Nat->Option IV)
theorem xXy (g:FuncId)(hent:∀args w,(callFunc g args).run prog w=.ok (.enter g args) w)(xs rest:List IV)(b cap:Nat)(st:ISt)(hne:xs≠[])(hlen:xs.length<=140737488355328)(hx:∀x∈xs,fits true 2 x=true)(hb:st b=some (.box (xs.flatMap IV.cells++rest)))(cf:IV->IV->Int)
  (h1:∀x∈xs,¬ cf x x<0) (h2:∀x∈xs,∀y∈xs,∀z∈xs,cf x y<0->cf y z<0->cf x z<0) (h3:∀x∈xs,∀y∈xs,∀z∈xs,¬ cf x y<0->¬ cf y z<0->¬ cf x z<0)
  (hcmp:∀x∈xs,∀y∈xs,ICall prog (λ_=>none) g [x,y] (λ_=>none) (λr _=>r=.raw (.int .i64 (cf x y)))) :
  ICall prog gl 268 [.raw (.slice (some ⟨b,0,none⟩) xs.length cap),.fn (.func g) [] []] st
   (λr st'=>r=.tup []/\∃ys:List IV,ys.Perm xs/\ys.Pairwise (λx y=>¬ cf y x<0)/\st'=st.put b (some (.box (ys.flatMap IV.cells++rest)))):=by
 intro B X rs hg hst hv;subst hst;obtain⟨r0,r1,rfl⟩:∃r0 r1,rs=[r0,r1]:=by
  match rs,hv with
  | [a,b],_=>exact⟨a,b,rfl⟩
  | [],hv=>cases hv.1
  | [_],hv=>cases hv.1
  | _::_::_::_,hv=>cases hv.1
 obtain rfl:=V.raw_inv (hv.2 0 r0 _ rfl rfl);obtain⟨f1,f2,rfl,hf1,hf2⟩:=V.fn_inv (hv.2 1 r1 _ rfl rfl);obtain rfl:f1=[]:=List.eq_nil_of_length_eq_zero hf1.1;obtain rfl:f2=[]:=List.eq_nil_of_length_eq_zero hf2.1;obtain⟨hL,c,T,hh,hvl⟩:=hg.ok b _ hb;have hblk:b<X.w.heap.size:=hg.lt hb;have hcells:∀x∈xs,x.cells.length=2:=λx hxm=>(yX0 (hx x hxm)).2.1;have hcl:c.size=xs.length*2+rest.length:=by
  have:=hvl.1;rw[lLa,yQp xs hcells,Array.length_toList] at this;exact this
 -- the elements
 let α:={ p:IV×List Value // p.1∈xs/\VL B X.L X.w p.2 p.1.cells }
 have hel:∀(l:List IV) (vs:List Value),(∀x∈l,x∈xs)->VL B X.L X.w vs (l.flatMap IV.cells)->∃d:List α,d.map (λa=>a.1.1)=l/\d.flatMap (λa=>a.1.2)=vs:=by
  intro l
  induction l with
  | nil =>
   intro vs _ hvs;exact⟨[],rfl,(List.eq_nil_of_length_eq_zero hvs.1).symm⟩
  | cons x l ih =>
   intro vs hm hvs;have hx4:=hcells x (hm x (by simp));have hlv:vs.length=2+(l.flatMap IV.cells).length:=by rw[hvs.1,List.flatMap_cons,lLa,hx4]
   have ha:VL B X.L X.w (vs.take 2) x.cells:=by
    have:=hvs.take 2
    rwa [List.flatMap_cons,List.take_left' hx4] at this
   have hbv:VL B X.L X.w (vs.drop 2) (l.flatMap IV.cells):=by
    have:=hvs.drop 2
    rwa [List.flatMap_cons,List.drop_left' hx4] at this
   obtain⟨d,hd1,hd2⟩:=ih (vs.drop 2) (λy hy=>hm y (by simp[hy])) hbv;exact⟨⟨(x,vs.take 2),hm x (by simp),ha⟩::d,by simp[hd1],by simp[hd2]⟩
 obtain⟨d,hd1,hd2⟩:=hel xs (c.toList.take (xs.length*2)) (λ_ h=>h) (by
  have:=hvl.take (xs.length*2)
  rwa [List.take_left' (yQp xs hcells)] at this)
 have hdl:d.length=xs.length:=by rw[<- hd1,List.length_map]
 have hdn:d≠[]:=by rintro rfl;exact hne (List.eq_nil_of_length_eq_zero hdl.symm)
 letI:Inhabited α:=⟨d.head hdn⟩
 let enc:α->List Value:=λa=>a.1.2
 have hk:∀a:α,(enc a).length=2:=λa=>by rw[a.2.2.1];exact hcells _ a.2.1
 have hone:∀(a:α),∀v∈enc a,v.oneCell'=true:=λa v hv=>yGd (C:=⟨prog,gl,B⟩) a.2.2 (yX0 (hx _ a.2.1)).2.2.1 v hv
 let cf':α->α->Int:=λa a'=>cf a.1.1 a'.1.1
 have hO:SWO (ltOf cf'):=⟨λa=>by simp only[ltOf,decide_eq_false_iff_not];exact h1 _ a.2.1,λa a' a'' p q=>by
   simp only[ltOf,dTe] at p q ⊢;exact h2 _ a.2.1 _ a'.2.1 _ a''.2.1 p q,λa a' a'' p q=>by
   simp only[ltOf,decide_eq_false_iff_not] at p q ⊢;exact h3 _ a.2.1 _ a'.2.1 _ a''.2.1 p q⟩
 have hfl:(flatK enc 2 d.toArray).toList=c.toList.take (xs.length*2):=by
  rw[yG2 hk (by decide)];exact hd2
 have hH:HoldsK enc 2 X.w b 0 d.toArray:=by
  intro j hj;have hj':j<xs.length*2:=by rw[size_flatK] at hj;simpa[hdl] using hj
  have e1:(flatK enc 2 d.toArray)[j]?=c[j]?:=by
   rw[<- Array.getElem?_toList,hfl,List.getElem?_take,if_pos hj',Array.getElem?_toList]
  have hjc:j<c.size:=by omega
  rw[Array.getElem?_eq_getElem hj,Array.getElem?_eq_getElem hjc] at e1;refine⟨?_,?_⟩
  ·rw[Nat.zero_add,yZ2 hh,Array.getElem?_toList,Array.getElem?_eq_getElem hjc,<- e1,id,getElem!_pos _ j hj]
  ·simp only[World.frozen?,hh];simp
 have hmono:∀(n:Nat) (dk:Array α) (os:Array Obj) (X1:WS),X1.w=sortWorldK enc 2 X.w b 0 n dk os->X1.L=X.L->∀r x,V B X.L X.w r x->V B X1.L X1.w r x:=by
  intro n dk os X1 hw hXL r x hrx;refine V.mono hrx (λj=>by rw[hXL];exact Nat.le_refl _) (λj i hi=>?_) (λj p hp=>?_)
  ·have hjb:j≠b:=by rintro rfl;rw[hL] at hi;omega
   have hjl:j<X.w.heap.size:=by
    rcases Nat.lt_or_ge j X.w.heap.size with h|h
    ·exact h
    ·rw[hg.Lnew j h] at hi;omega
   exact yJ3 (by rw[hw];exact yXn hjb hjl) i
  ·by_cases hjb:j=b
   ·subst hjb;simp only[shq,hh] at hp;simp only[shq,hw,zZk hh];rw[<- hp];simp[putCells]
   ·rw[<- hp];exact yZr (by rw[hw];exact yXn hjb (yVi hp))
 have hcon:=AnyQ.slices_SortFunc Tryz.sortSL 2 xGp xW6 enc hk hone cf' hO g #[] b 0 cap d.toArray X.w hent (by
   intro n os dk hdk a a'
   let X1:WS:={ w:=sortWorldK enc 2 X.w b 0 n dk os,L:=X.L,st:=λ_=>none,d:=X.w.drawn+n }
   have hsz:=size_sortWorldK_c enc 2 X.w b 0 n dk os;have hg1:Go.Iv.Good ⟨prog,λ_=>none,B⟩ X1:=⟨λ_ _ h=>(by cases h),λ_ _ h=>(by cases h),Nat.le_trans hg.B hsz,λj hj=>hg.Lnew j (Nat.le_trans hsz hj),λ_ _ h=>(by cases h),λ_=>Nat.le_refl _⟩
   have hm1:=hmono n dk os X1 rfl rfl;have agg:∀a:α,V B X1.L X1.w (.agg (enc a).toArray) a.1.1:=λa=>by
    obtain⟨⟨x,vs⟩,hxm,hvx⟩:=a;obtain⟨cs,rfl⟩:∃cs,x=.agg cs:=by
     have:=hx x hxm;cases x<;>first|exact⟨_,rfl⟩|(simp[fits] at this)
    exact (show VL B X1.L X1.w vs cs from⟨hvx.1,λi r c hr hc=>hm1 r c (hvx.2 i r c hr hc)⟩).agg
   refine (hcmp a.1.1 a.2.1 a'.1.1 a'.2.1 B X1 [.agg (enc a).toArray,.agg (enc a').toArray] hg1 rfl (VL.cons (agg a) (VL.cons (agg a') VL.nil))).mono ?_;rintro e w' ⟨v,rfl,X',x,rfl,hg',he',hv',rfl⟩;obtain rfl:=V.raw_inv hv';refine⟨rfl,?_⟩;have hd:=hg'.dr (λ_=>rfl);rw[he'.d] at hd;exact zK2 he' (λ_=>rfl) hd) hH hblk (by simp[hdl];omega)
 have harr:(⟨[.slice (some ⟨b,0,none⟩) xs.length cap,.func (.func g) ⟨[]⟩ ⟨[]⟩]⟩:Array Value)=#[.slice (some ⟨b,0,none⟩) d.toArray.size cap,.func (.func g) #[] #[]]:=by simp[hdl]
 rw[harr];refine hcon.mono ?_;rintro e w' ⟨rfl,d',n,os,hp,hs,rfl⟩;have hd'l:d'.size=xs.length:=by rw[hp.1];simp[hdl]
 have hperm:d'.toList.Perm d:=by
  have:=hp.2.2;rw[List.size_toArray,hdl,<- hd'l,Array.extract_size] at this
  rwa [hd'l,<- hdl,show d.toArray.extract 0 d.length=d.toArray by simp] at this
 have hys:∀y∈d'.toList.map (λa=>a.1.1),y∈xs:=λy hy=>by
  obtain⟨a,_,rfl⟩:=List.mem_map.1 hy;exact a.2.1
 have hblock:=zZk (enc:=enc) (k:=2) (m:=n) (dk:=d') (os:=os) hh;have hfs:(flatK enc 2 d').size=xs.length*2:=by rw[size_flatK,hd'l]
 have hpl:(putCells id 0 (flatK enc 2 d') c).toList=d'.toList.flatMap enc++c.toList.drop (xs.length*2):=by
  rw[yUi (by omega),yG2 hk (by decide),hfs]
 let X':WS:={ w:=sortWorldK enc 2 X.w b 0 n d' os,L:=X.L,st:=X.st.put b (some (.box ((d'.toList.map (λa=>a.1.1)).flatMap IV.cells++rest))),d:=X.d }
 have hm:=hmono n d' os X' rfl rfl;have hsz:=size_sortWorldK_c enc 2 X.w b 0 n d' os;have hvlm:∀rs cs,VL B X.L X.w rs cs->VL B X'.L X'.w rs cs:=λrs cs h=>⟨h.1,λi r x hr hx=>hm r x (h.2 i r x hr hx)⟩
 have hgood:Go.Iv.Good ⟨prog,gl,B⟩ X':=by
  refine⟨λj o ho=>?_,λj x hj=>hm _ _ (hg.gl j x hj),Nat.le_trans hg.B hsz,λj hj=>hg.Lnew j (Nat.le_trans hsz hj),λj x hj=>?_,λhd=>Nat.le_trans (hg.dr hd) (Nat.le_add_right _ _)⟩
  ·by_cases hjb:j=b
   ·subst hjb;simp only[X',ISt.put_same,Option.some.injEq] at ho;subst ho;refine⟨hL,_,T,hblock,hvlm _ _ ?_⟩;rw[hpl];refine VL.append ?_ ?_
    ·have key:∀l:List α,VL B X.L X.w (l.flatMap enc) ((l.map λa=>a.1.1).flatMap IV.cells):=λl=>by
      induction l with
      | nil=>exact VL.nil
      | cons a l ih=>simp only[List.flatMap_cons,List.map_cons];exact a.2.2.append ih
     exact key _
    ·have:=hvl.drop (xs.length*2)
     rwa [List.drop_left' (yQp xs hcells)] at this
   ·have ho':X.st j=some o:=by simpa only[X',ISt.put_apply,if_neg hjb] using ho
    exact (hg.ok j o ho').mono (yXn hjb (hg.lt ho')) rfl hvlm
  ·obtain⟨T',z,hT⟩:=hg.gsh j x hj;refine⟨T',z,?_⟩;by_cases hjb:j=b
   ·subst hjb;simp only[shq,hh] at hT;simp only[shq,X',hblock];rw[<- hT];simp[putCells]
   ·rw[<- hT];exact yZr (yXn hjb (yVi hT))
 refine⟨_,rfl,X',.tup [],rfl,hgood,⟨rfl,rfl,rfl,hsz,λ_=>Nat.le_refl _,λj i hi=>?_,λj hj hs0=>?_,λj hj hs0=>?_,λj p hp=>?_,rfl⟩,.tup [] [] rfl (λi r c h=>by simp at h),rfl,_,?_,?_,rfl⟩
 ·have hjb:j≠b:=by rintro rfl;rw[hL] at hi;omega
  have hjl:j<X.w.heap.size:=by
   rcases Nat.lt_or_ge j X.w.heap.size with h|h
   ·exact h
   ·rw[hg.Lnew j h] at hi;omega
  exact yJ3 (yXn hjb hjl) i
 ·have hjb:j≠b:=by rintro rfl;rw[hb] at hs0;cases hs0
  exact⟨yXn hjb hj,rfl⟩
 ·have hjb:j≠b:=by rintro rfl;rw[hb] at hs0;cases hs0
  simp only[X',ISt.put_apply,if_neg hjb];exact hs0
 ·by_cases hjb:j=b
  ·subst hjb;simp only[shq,hh] at hp;simp only[shq,X',hblock];rw[<- hp];simp[putCells]
  ·rw[<- hp];exact yZr (yXn hjb (yVi hp))
 ·have:=hperm.map (λa:α=>a.1.1)
  rwa [hd1] at this
 ·rw[List.pairwise_map];refine List.pairwise_iff_getElem.2 λi j hi hj hij=>?_;have:=hs i j (Nat.zero_le _) hij (by simp at hj ⊢;omega);simp only[ltOf,decide_eq_false_iff_not] at this;rw[Array.length_toList] at hi hj;rw[getElem!_pos d' i hi,getElem!_pos d' j hj] at this;exact this
end Go.Proofs.Tryz
namespace Go.Proofs.Tryz
open Go Go.Iv Go.Sort Go.Shelf Go.RowKit
set_option maxRecDepth 4000
variable (gl:Nat->Option IV)
def rdS:IV->ByteArray×Nat
 | .agg [.raw (.string s),.raw (.int _ n)]=>(s,n.toNat)
 | _=>(⟨#[]⟩,0)
noncomputable def yUy (p q:ByteArray×Nat):Int:=lexI (cmpB p.1 q.1) (cmpN p.2 q.2)
def vKo (x:IV):Prop:=∃(s:ByteArray) (n:Nat),x=.agg [.raw (.string s),.raw (.int .i64 (n:Int))]
theorem wJ5 (s t:ByteArray)(n m:Nat)(st:ISt):ICall prog gl 226 [.agg [.raw (.string s),.raw (.int .i64 (n:Int))],.agg [.raw (.string t),.raw (.int .i64 (m:Int))]] st
  (λr st'=>r=.raw (.int .i64 (yUy (s,n) (t,m)))/\st'=st):=by
 have h1:=λst=>zK9 gl s t st;have h2:=λst=>zYe gl n m st;refine iI func226 ?_;simp only[go_sem,zE,zA];refine (h1 _).mono ?_;rintro _ st ⟨rfl,rfl⟩;by_cases h0:cmpB s t=0
 ·simp only[go_sem,zE,zA,h0,decide_true,Bool.not_true];refine (h2 _).mono ?_;rintro _ st ⟨rfl,rfl⟩;simp only[go_sem];exact yQ0 ⟨by simp[yUy,lexI,h0],rfl⟩
 ·simp only[go_sem,zE,i1 _ h0];exact yQ0 ⟨by simp[yUy,lexI,h0],rfl⟩
theorem xYs (g:FuncId)(caps:List IV)(ents:Array MapEntry)(hE:∀e∈ents.toList,∃s n,keyI e.key=some (.agg [.raw (.string s),.raw (.int .i64 n)]))(hlen:ents.toList.length<=1000000000)(st:ISt)(he:entI prog g=true)(Base:ISt->Prop)(hB:Base st)
  (hi:IterC prog gl g [] caps (symX ents) ents.toList.length (λ_=>Base)) :
  ICall prog gl 267 [.fn (.func g) [] caps] st (λr st'=>xVp ents st ents.toList.length r st'/\subSt st st'):=by
 have hA:=λf es=>xQj gl g caps ents hE hlen st he Base hB hi f es;refine iI func267 ?_;simp only[go_sem,zA,reduceCtorEq];refine (hA _ _).mono ?_;rintro r st' h;have hci:ivOf (.iv r)=some r:=by
  obtain⟨⟨xs,_,_,⟨_,f,e,rfl⟩|⟨g,cap,cs,_,_,rfl,_⟩⟩,_⟩:=h<;>rfl
 simp only[go_sem,hci];exact yQ0 h
theorem xYn (t:Tag)(ht:t.cap=.nil)(g:FuncId)(st:ISt):ICall prog gl 268 [.sl t [],.fn (.func g) [] []] st (λr st'=>r=.tup []/\st'=st):=by
 obtain⟨fs,c,es⟩:=t;obtain rfl:c=.nil:=ht;intro B X rs hg hst hv;obtain⟨r0,r1,rfl⟩:∃r0 r1,rs=[r0,r1]:=by
  match rs,hv with
  | [a,b],_=>exact⟨a,b,rfl⟩
  | [],hv=>cases hv.1
  | [_],hv=>cases hv.1
  | _::_::_::_,hv=>cases hv.1
 obtain⟨p,cap,rfl⟩:∃p cap,r0=.slice p 0 cap:=by
  have:=hv.2 0 r0 _ rfl rfl;obtain⟨a,cap,_,_,rfl,_⟩:=V.sl_inv this;exact⟨a,cap,rfl⟩
 refine Calls.mono (AnyF.slices_SortFunc_none Tryz.sortSL p cap r1 X.w) ?_;rintro e w' ⟨rfl,rfl⟩;exact⟨_,rfl,X,.tup [],rfl,hg,Ext.refl X,.tup [] [] rfl (λi r c h=>by simp at h),rfl,hst⟩
theorem xQ3 (p q:ByteArray×Nat):yUy q p = - yUy p q:=by
 unfold yUy;rw[(yJi p.1).neg q.1,(yYq p.2).neg q.2,yWi]
theorem wKm {p q:ByteArray×Nat}(h:yUy p q=0):p=q:=by
 obtain⟨h1,h2⟩:=yV8.1 h;exact Prod.ext (((yJi p.1).eq q.1).1 h1) (((yYq p.2).eq q.2).1 h2)
theorem wZx (p:ByteArray×Nat):¬ yUy p p<0:=by
 have:=xQ3 p p;omega
theorem xVf {p q r:ByteArray×Nat}(h:yUy p q<0)(k:yUy q r<0):yUy p r<0 :=
 zVo ((yJi p.1).tr q.1 r.1) (λe=>by rw[((yJi p.1).eq q.1).1 e]) (λe=>by rw[((yJi q.1).eq r.1).1 e]) ((yYq p.2).tr q.2 r.2) h k
theorem wXj (g:FuncId)(caps:List IV)(ents:Array MapEntry)(hE:∀e∈ents.toList,∃s n,keyI e.key=some (.agg [.raw (.string s),.raw (.int .i64 n)]))(hN:∀e∈ents.toList,∀x,keyI e.key=some x->vKo x)(hlen:ents.toList.length<=1000000000)(st:ISt)(he:entI prog g=true)(Base:ISt->Prop)(hB:Base st)
  (hi:IterC prog gl g [] caps (symX ents) ents.toList.length (λ_=>Base)) :
  ICall prog gl 224 [.fn (.func g) [] caps,.fn (.func 226) [] []] st (λr st'=>xVp ents st ents.toList.length r st'/\subSt st st'):=by
 have hA:=xYs gl g caps ents hE hlen st he Base hB hi;refine iI func224 ?_;simp only[go_sem,zA,reduceCtorEq];refine hA.mono ?_;rintro r st1 ⟨⟨xs,hxl,hxs,h⟩,hsub⟩;rcases h with⟨h0,f,e,rfl⟩|⟨b,cap,cs,h0,hbn,rfl,hb,hkc,hcc,htk⟩
 ·simp only[go_sem,zE,zA];refine (xYn gl _ rfl _ _).mono ?_;rintro _ st1 ⟨rfl,rfl⟩;simp only[go_sem,zE];exact yQ0 ⟨⟨xs,hxl,hxs,.inl ⟨h0,f,e,rfl⟩⟩,hsub⟩
 ·have hg:∀x∈xs,vKo x:=λx hx=>by
   obtain⟨⟨e,he,hk⟩,_⟩:=hxs x hx;exact hN e he x hk
  have hcs:cs=xs.flatMap IV.cells++cs.drop (ents.toList.length*2):=by rw[<- htk,List.take_append_drop]
  have hS:=xXy gl 226 (enters_of func226 (by kernel_rfl) rfl) xs (cs.drop (ents.toList.length*2)) b cap st1 (λh=>by subst h;have h':(0:Nat)=ents.toList.length:=hxl;omega) (by omega) (λx hx=>by
    obtain⟨s,n,rfl⟩:=hg x hx;rfl) (by rw[<- hcs];exact hb) (λx y=>yUy (rdS x) (rdS y)) (λx _=>wZx _) (λx _ y _ z _=>xVf) (λx _ y _ z _ h1 h2 h3=>by
    rcases Int.lt_or_le (yUy (rdS y) (rdS x)) 0 with h|h
    ·exact h2 (xVf h h3)
    ·have hxy:yUy (rdS x) (rdS y)=0:=by
      have:=xQ3 (rdS x) (rdS y);omega
     rw[wKm hxy] at h3;exact h2 h3) (λx hxm y hym=>by
    obtain⟨s,n,rfl⟩:=hg x hxm;obtain⟨t,m,rfl⟩:=hg y hym;exact (wJ5 (λ_=>none) s t n m _).mono λr st' h=>h.1)
  rw[hxl] at hS;simp only[go_sem,zE,zA];refine hS.mono ?_;rintro _ _ ⟨rfl,ys,hp,_,rfl⟩;simp only[go_sem,zE];refine yQ0 ⟨⟨ys,by rw[hp.length_eq,hxl],λy hy=>hxs y (hp.mem_iff.1 hy),.inr ⟨b,cap,_,h0,hbn,rfl,ISt.put_same ..,hkc,?_,?_⟩⟩,λc o hc=>?_⟩
  ·have hl:=congrArg List.length hcs;rw[lLa] at hl;rw[lLa,(hp.flatMap_right IV.cells).length_eq];omega
  ·rw[List.take_left'];rw[(hp.flatMap_right IV.cells).length_eq];have:=congrArg List.length htk;rw[List.length_take] at this;omega
  ·rw[yQh (by rintro rfl;rw[hbn] at hc;cases hc)];exact hsub _ _ hc
end Go.Proofs.Tryz
namespace Go.Proofs.Tryz
open Go Go.Iv
set_option maxRecDepth 4000
variable (gl:Nat->Option IV)
theorem _root_.Go.Iv.ICall.fix1 {P:Program}{gl:Nat->Option IV}{f:FuncId}{args:List IV}{st:ISt}{K:IV->ISt->Prop}(h:ICall P gl f args st (λy st'=>K y st'\/∃g n cap cs es zs,st g=none/\y=.raw (.slice (some ⟨g,0,none⟩) n cap)/\st'=st.put g (some (.box cs)) /\
   zs.length=n/\n<=140737488355328/\n<=cap/\cap*es<=cs.length/\cs.take (n*es)=zs.flatMap IV.cells/\(∀z∈zs,z.cells.length=es)/\K (.sl ⟨true,.app g,es⟩ zs) st)) :
  ICall P gl f args st K:=by
 intro B X rs hg hst hv;subst hst;refine (h B X rs hg rfl hv).mono ?_;rintro e w' ⟨v,rfl,X',y,rfl,h2,h3,h4,hK|⟨g,n,cap,cs,es,zs,h0,rfl,hst',rfl,hn,hcap,hroom,htk,hz,hK⟩⟩
 ·exact⟨v,rfl,X',y,rfl,h2,h3,h4,hK⟩
 have hgn:=xUo h3 h0 (by rw[hst'];exact ISt.put_same ..);have hk:=zZn h0 hst';obtain rfl:=V.raw_inv h4;exact⟨_,rfl,X'.lendS _ X.st,_,rfl,h2.lendS hk,h3.trans (h2.lendS_ext hk),xUn h2 h0 hst' (Nat.le_trans hg.B hgn) hn hcap hroom htk hz,hK⟩
def SymMap (K A:Nat)(es:List (Value×IV)):Prop:=es.length<=K/\∀p∈es,∃(s:ByteArray) (n:Nat),p.1=.agg #[.string s,.int .i64 (n:Int)]/\s.size<=1000000000/\n<=A
def xVq (K A:Nat)(ys:List IV):Prop:=ys.length<=K/\∀y∈ys,∃(s:ByteArray) (n:Nat),y=.agg [.raw (.string s),.raw (.int .i64 (n:Int))]/\s.size<=1000000000/\n<=A
theorem zGj (K A:Nat)(hK:K<=1000000000)(m:Nat)(es:List (Value×IV))(hes:SymMap K A es)(st:ISt)(hm:st m=some (.map .sym es)) :
  ICall prog gl 166 [.raw (.map (some m))] st (λr st'=>∃t ys o,r=.sl t ys/\okEs t 2/\xVq K A ys/\st'=st.put m o):=by
 refine ICall.mapx hm λents clock ⟨g1,g2,g3,g4⟩=>?_;have hN:ents.toList.length=es.length:=by have:=congrArg List.length g1;simpa using this
 have hkey:∀e∈ents.toList,∃(s:ByteArray) (n:Nat),keyI e.key=some (.agg [.raw (.string s),.raw (.int .i64 (n:Int))])/\s.size<=1000000000/\n<=A:=λe he=>by
  have h1:e.key∈es.map (·.1):=g1▸List.mem_map_of_mem he;obtain⟨p,hp,hq⟩:=List.mem_map.1 h1;obtain⟨s,n,h2,h3,h4⟩:=hes.2 p hp;refine⟨s,n,?_,h3,h4⟩;rw[<- hq,h2];simp[keyI,show s.size<=281474976710656 by omega]
 have hE:EntOk ents clock:=⟨λe he=>by obtain⟨s,n,h,_⟩:=hkey e he;exact⟨s,n,h⟩,g3,by
  have hp:(ents.toList.map (·.born)).Pairwise (·<·):=List.pairwise_map.2 g4;exact hp.imp λh=>Nat.ne_of_lt h⟩
 have hsyms:∀xs:List IV,xs.length=ents.toList.length->(∀x∈xs,vZ7 ents x)->xVq K A xs:=λxs h1 h2=>⟨by rw[h1,hN];exact hes.1,λy hy=>by
  obtain⟨⟨e,he,hk⟩,_⟩:=h2 y hy;obtain⟨s,n,h3,h5,h4⟩:=hkey e he;rw[h3] at hk;exact⟨s,n,(Option.some.inj hk).symm,h5,h4⟩⟩
 refine ICall.fix1 ?_;generalize hS:st.put m (some (.mapx ents clock))=S;have hSm:S m=some (.mapx ents clock):=by rw[<- hS];exact ISt.put_same ..
 have hKk:=λst=>wUg gl m st;have hSo:=λb st hB=>wXj gl 269 [.raw (.pointer (some ⟨b,0,none⟩))] ents hE.key (λe he x hx=>by
  obtain⟨s,n,h3,h4⟩:=hkey e he;rw[h3] at hx;exact⟨s,n,(Option.some.inj hx).symm⟩) (by rw[hN];have:=hes.1;omega) st (by simp only[go_sem]) (λst=>st b=some (.box [.raw (.map (some m))])/\st m=some (.mapx ents clock)) hB (wVb gl m b clock ents hE)
 refine iI func166 ?_;simp only[go_sem,zA,reduceCtorEq];refine (hKk _).mono ?_;rintro _ _ ⟨b,hb,rfl,rfl⟩;simp only[go_sem,zA,wWc];refine (hSo b _ ⟨ISt.put_same ..,by rw[yQh (yXy hSm hb)];exact hSm⟩).mono ?_;rintro r st' ⟨⟨xs,hxl,hxs,h⟩,hsub⟩;have hsub2:=(yQb (o:=some (.box [.raw (.map (some m))])) hb).trans hsub;rcases h with⟨h0,f,e,rfl⟩|⟨g,cap,cs,h0,hgn,rfl,hg,hkc,hcc,htk⟩
 ·simp only[go_sem];refine yQa hsub2 (.inl ⟨_,[],some (.mapx ents clock),rfl,.inl rfl,⟨Nat.zero_le _,λy hy=>by cases hy⟩,hS.symm⟩)
 ·have hgb:g≠b:=by rintro rfl;rw[ISt.put_same] at hgn;cases hgn
  rw[yQh hgb] at hgn;simp only[go_sem];refine yQa (st':=S.put g (some (.box cs))) (λc o hc=>?_) (.inr ⟨g,_,cap,cs,2,xs,hgn,rfl,rfl,hxl,by rw[hN];have:=hes.1;omega,hkc,hcc,htk,λz hz=>?_,_,xs,some (.mapx ents clock),rfl,.inr rfl,hsyms xs hxl hxs,hS.symm⟩)
  ·rw[ISt.put_apply] at hc;split at hc
   ·rename_i hcg;rw[hcg,hg];exact hc
   ·exact hsub2 _ _ hc
  ·obtain⟨_,s,n,rfl⟩:=hxs z hz;rfl
theorem xJh {key:Value}{y:IV}{p:Value×IV}:∀ {es:List (Value×IV)},p∈updI key y es->p.1=key\/p∈es
 | [],h=>by
  simp only[updI,List.mem_singleton] at h;subst h;exact .inl rfl
 | (k,x)::es,h=>by
  unfold updI at h;split at h
  ·rcases List.mem_cons.1 h with rfl|h
   ·exact .inl rfl
   ·exact .inr (List.mem_cons_of_mem _ h)
  ·rcases List.mem_cons.1 h with rfl|h
   ·exact .inr (List.mem_cons_self ..)
   ·exact (xJh h).imp id λh=>List.mem_cons_of_mem _ h
theorem xJi {key:Value}{y:IV}:∀ {es:List (Value×IV)},(updI key y es).length<=es.length+1
 | []=>by simp[updI]
 | (k,x)::es=>by
  have:=xJi (key:=key) (y:=y) (es:=es);unfold updI;split<;>simp<;>omega
theorem SymMap.upd {K A:Nat}{es:List (Value×IV)}(h:SymMap K A es){s:ByteArray}{n:Nat}(hs:s.size<=1000000000)(hn:n<=A)(y:IV):SymMap (K+1) A (updI (.agg #[.string s,.int .i64 (n:Int)]) y es) :=
 ⟨Nat.le_trans xJi (Nat.succ_le_succ h.1),λp hp=>by
  rcases xJh hp with h1|h1
  ·exact⟨s,n,h1,hs,hn⟩
  ·exact h.2 p h1⟩
theorem SymMap.le {K K' A:Nat}{es:List (Value×IV)}(h:SymMap K A es)(hK:K<=K'):SymMap K' A es:=⟨Nat.le_trans h.1 hK,h.2⟩
theorem xQf (A:Nat)(hA:A<=1000000)(f:Fm)(x:IV)(hx:IsFm f x)(hl:(yZd f).length<=1000000000)(hp:∀o n us sub,Fm.mk o n us sub∈yZd f->n.size<=1000000000/\us.length<=A)(st:ISt) :
  ICall prog gl 120 [x] st (λr st'=>∃t ys,r=.sl t ys/\okEs t 2/\xVq (yZd f).length A ys/\st'=st):=by
 have hw:=λst=>xYw gl x st f hx;have hw1:=λI=>xQl gl f x hx I;have hSo:=λm es hes st hm=>zGj gl (yZd f).length A hl m es hes st hm;obtain⟨o1,n1,t1,x1,t2,x2,rfl⟩:=hx.agg;refine ICall.intro (c:=cf prog gl [3] []) func120 rfl (by show _<=21;simp) (by kernel_rfl) ?_;simp only[go_sem,zE,zA,zL];refine λm=>yQ9 λhm=>λb=>yQ9 λhb=>?_;have hbm:b≠m:=by rintro rfl;rw[ISt.put_same] at hb;cases hb
 rw[yQh hbm] at hb;refine (hw _).mono ?_;rintro _ _ ⟨rfl,rfl⟩;simp only[go_sem,reduceCtorEq];refine RangeC.intro (xUa f) (yZd f).length (λk st'=>∃es,SymMap k A es/\st'=(st.put m (some (.map .sym es))).put b (some (.box [.raw (.map (some m))]))) (λ_ _=>False) (by simp only[go_sem]) ?_ ?_ ?_ (hw1 _) ?_ (λ_ _ _ h=>h.elim)
 ·rintro k a ⟨_,_,_,_,rfl⟩;rfl
 ·exact⟨[],⟨Nat.le_refl _,λp hp=>by cases hp⟩,yQ8 ..⟩
 ·rintro k a _ ⟨z,x,hz,hzx,rfl⟩ ⟨es,hes,rfl⟩;obtain⟨o,nm,us,sub⟩:=z;have hpz:=hp o nm us sub (lMg hz);obtain⟨tg,xs,tg',ys,rfl,hop,htg,hxs,htg',hys⟩:=hzx.mk;have hmm:((st.put m (some (.map .sym es))).put b (some (.box [.raw (.map (some m))]))) m=some (.map .sym es):=by rw[yQh (λh=>hbm h.symm),ISt.put_same]
  by_cases h1:o=1
  ·subst h1;simp only[go_sem,zE,zA,zL,fits,ISt.put_same,hmm,hxs.len,show decide (((1:Nat):Int)=1)=true from rfl];intro hl;refine yQ9 λhs=>?_;unfold chk;refine⟨by rw[dEt hs,dEt (show (-9223372036854775808:Int)<=us.length by omega),dEt (show ((us.length:Nat):Int)<=9223372036854775807 by omega)];rfl,_,hes.upd hpz.1 hpz.2 (.raw (.bool true)),?_⟩;funext c;simp only[ISt.put_apply];by_cases h1:c=m
   ·rw[if_pos h1,if_neg (λh=>hbm (by rw[<- h,h1])),if_pos h1]
   ·rw[if_neg h1,if_neg h1,if_neg h1]
  ·simp only[go_sem,zE,zA,zL,show decide (((o:Nat):Int)=1)=false from dEf (by omega)];exact⟨es,hes.le (Nat.le_succ _),rfl⟩
 ·rintro _ r ⟨es,hes,rfl⟩;have hmm:((st.put m (some (.map .sym es))).put b (some (.box [.raw (.map (some m))]))) m=some (.map .sym es):=by rw[yQh (λh=>hbm h.symm),ISt.put_same]
  simp only[go_sem,zE,zA,ISt.put_same];refine (hSo m es hes _ hmm).mono ?_;rintro _ _ ⟨t,ys,o,rfl,ht,hys,rfl⟩;simp only[go_sem];refine yQa (st':=st) (λc o' hc=>?_) ⟨t,ys,rfl,ht,hys,rfl⟩;rw[yQh (by rintro rfl;rw[hm] at hc;cases hc),yQh (by rintro rfl;rw[hb] at hc;cases hc),yQh (by rintro rfl;rw[hm] at hc;cases hc)];exact hc
mutual
def aryT (A:Nat):Tm->Prop
 | .mk _ n us=>(n.size<=1000000000/\us.length<=A)/\xXq A us
def xXq (A:Nat):List Tm->Prop
 | []=>True
 | a::l=>aryT A a/\xXq A l
end
theorem xQb {A:Nat}:∀ {l:List Tm} {a:Tm},xXq A l->a∈l->aryT A a
 | b::l,a,h,ha=>by
  simp only[xXq] at h;rcases List.mem_cons.1 ha with rfl|ha
  ·exact h.1
  ·exact xQb h.2 ha
def xQv (b:Nat):IV:=.fn (.func 168) [] [.raw (.pointer (some ⟨b,0,none⟩))]
theorem wGl (A k:Nat)(hA:A<=1000000)(v:Bool)(n:ByteArray)(us:List Tm)(x:IV)(hx:IsTm (.mk v n us) x)(hu:n.size<=1000000000/\us.length<=A)(m b:Nat)(es:List (Value×IV))(hes:SymMap k A es)(st:ISt)(hb:st b=some (.box [.raw (.map (some m))]))(hm:st m=some (.map .sym es)) :
  ICall prog gl 168 [x,.raw (.pointer (some ⟨b,0,none⟩))] st (λr st'=>r=.raw (.bool true)/\∃es',SymMap (k+1) A es'/\st'=st.put m (some (.map .sym es'))):=by
 obtain⟨tx,cx,rfl,htx,hcx⟩:=hx.mk;refine iI func168 ?_;cases v
 ·simp only[go_sem,zE,zA,zL,fits,hb,hm,hcx.len];intro hl;refine yQ9 λhs=>?_;unfold chk;refine⟨by rw[dEt hs,dEt (show (-9223372036854775808:Int)<=us.length by omega),dEt (show ((us.length:Nat):Int)<=9223372036854775807 by omega)];rfl,?_⟩;exact yQ0 ⟨rfl,_,hes.upd hu.1 hu.2 (.raw (.bool true)),rfl⟩
 ·simp only[go_sem,zE];exact yQ0 ⟨rfl,es,hes.le (Nat.le_succ _),(yX2 hm).symm⟩
def FV (A:Nat)(us:List Tm):Prop:=∀(tg:Tag) (xs:List IV) (_:okEs tg 3) (_:IsTms us xs) (_:xXq A us) (m b k:Nat) (_:k+yQd us<=1000000000) (es:List (Value×IV)) (_:SymMap k A es) (st:ISt) (_:st b=some (.box [.raw (.map (some m))])) (_:st m=some (.map .sym es)),
 ICall prog gl 167 [.sl tg xs,xQv b] st (λr st'=>r=.raw (.bool true)/\∃es',SymMap (k+yQd us) A es'/\st'=st.put m (some (.map .sym es')))
theorem xQn (A:Nat)(hA:A<=1000000)(us:List Tm)(IH:∀v n m,Tm.mk v n m∈us->FV gl A m):FV gl A us:=by
 intro tg xs htg hxs har m b k0 hk0 es hes st hb hm;have hbm:b≠m:=by rintro rfl;rw[hb] at hm;cases hm
 refine iI func167 ?_;simp only[go_sem,reduceCtorEq,hxs.len,xQv];intro hlen;refine LoopC.ctr us.length (λk fr st' ds=>(∃es',SymMap (k0+yQd (us.take k)) A es'/\st'=st.put m (some (.map .sym es')))/\fr 1=.iv (xQv b)/\fr 7=.iv (.sl tg xs)/\fr 8=.iv (.raw (.int .i64 us.length))/\fr 9=.iv (.raw (.int .i64 k))/\ds=[]) ?_ ?_ ?_
 ·simp only[go_sem,zE,xQv];exact⟨⟨es,by simpa[yQd] using hes,(yX2 hm).symm⟩,rfl⟩
 ·rintro k fr _ _ hlt ⟨⟨es1,hes1,rfl⟩,f1,f7,f8,f9,rfl⟩;obtain⟨a,ha⟩:=yQ4 hlt;obtain⟨x,hkx,hx⟩:=hxs.get ha;obtain⟨h1,h2⟩:=yX1 ha;have hara:=xQb har (lMg ha);obtain⟨v2,n2,us2⟩:=a;simp only[aryT] at hara;have hcall:=λk es hes st hb hm=>wGl gl A k hA v2 n2 us2 x hx hara.1 m b es hes st hb hm;obtain⟨tx,cx,rfl,htx,hcx⟩:=hx.mk;simp only[Tm.size] at h1 h2;have hb1:∀o,(st.put m o) b=some (.box [.raw (.map (some m))]):=λo=>by rw[yQh hbm];exact hb
  simp only[go_sem,zE,zA,zL,f1,f7,f8,f9,lt_i hlt,yQ1 htg,iNn,hkx,xQv];refine (hcall _ es1 hes1 _ (hb1 _) (ISt.put_same ..)).mono ?_;rintro _ _ ⟨rfl,es2,hes2,rfl⟩;simp only[yQ8];simp only[go_sem,zE,zA,f1,xQv];refine (IH _ _ _ (lMg ha) tx cx htx hcx hara.2 m b _ (by omega) es2 hes2 _ (hb1 _) (ISt.put_same ..)).mono ?_;rintro _ _ ⟨rfl,es3,hes3,rfl⟩;simp only[go_sem,zE,f1,f7,f8,f9,yQf hlt (show us.length<=281474976710656 by omega)];simp only[yQ8];exact⟨⟨es3,hes3.le (by omega),rfl⟩,rfl⟩
 ·rintro fr _ _ ⟨⟨es1,hes1,rfl⟩,f1,f7,f8,f9,rfl⟩;rw[lTl] at hes1;simp only[go_sem,f8,f9,yQs (nLi _)];exact yQ0 ⟨rfl,es1,hes1,rfl⟩
theorem zKu (A:Nat)(hA:A<=1000000):∀(k:Nat) (us:List Tm),SizeOf.sizeOf us<k->FV gl A us
 | 0,f,h=>by omega
 | k+1,us,h=>xQn gl A hA us (λv n m ha=>zKu A hA k m (by
   have:=lSm ha;simp at this;omega))
def wV2:Fm->Nat
 | .mk _ _ us _=>yQd us
def cntA (l:List Fm):Nat:=(l.map wV2).sum
theorem wZu (l:List Fm)(z:Fm):cntA (l++[z])=cntA l+wV2 z:=by simp[cntA]
theorem wZt (l:List Fm)(k:Nat):cntA (l.take k)<=cntA l:=by
 have h:cntA (l.take k++l.drop k)=cntA (l.take k)+cntA (l.drop k):=by simp only[cntA,List.map_append,List.sum_append]
 rw[List.take_append_drop] at h;omega
theorem xJ1 (A:Nat)(hA:A<=1000000)(f:Fm)(x:IV)(hx:IsFm f x)(hl:cntA (yZd f)<=1000000000)(hp:∀o n us sub,Fm.mk o n us sub∈yZd f->xXq A us)(st:ISt) :
  ICall prog gl 121 [x] st (λr st'=>∃t ys,r=.sl t ys/\okEs t 2/\xVq (cntA (yZd f)) A ys/\st'=st):=by
 have hw:=λst=>xYw gl x st f hx;have hw1:=λI=>xQl gl f x hx I;have hSo:=λm es hes st hm=>zGj gl (cntA (yZd f)) A hl m es hes st hm;obtain⟨o1,n1,t1,x1,t2,x2,rfl⟩:=hx.agg;refine ICall.intro (c:=cf prog gl [3] []) func121 rfl (by show _<=15;simp) (by kernel_rfl) ?_;simp only[go_sem,zE,zA,zL];refine λm=>yQ9 λhm=>λb=>yQ9 λhb=>?_;have hbm:b≠m:=by rintro rfl;rw[ISt.put_same] at hb;cases hb
 rw[yQh hbm] at hb;refine (hw _).mono ?_;rintro _ _ ⟨rfl,rfl⟩;simp only[go_sem,reduceCtorEq];have hcomm:∀o o':Option IObj,((st.put m o').put b (some (.box [.raw (.map (some m))]))).put m o=(st.put m o).put b (some (.box [.raw (.map (some m))])):=λo o'=>by
  funext c;simp only[ISt.put_apply];by_cases h1:c=m
  ·rw[if_pos h1,if_neg (λh=>hbm (by rw[<- h,h1])),if_pos h1]
  ·rw[if_neg h1,if_neg h1,if_neg h1]
 refine RangeC.intro (xUa f) (yZd f).length (λk st'=>∃es,SymMap (cntA ((yZd f).take k)) A es/\st'=(st.put m (some (.map .sym es))).put b (some (.box [.raw (.map (some m))]))) (λ_ _=>False) (by simp only[go_sem]) ?_ ?_ ?_ (hw1 _) ?_ (λ_ _ _ h=>h.elim)
 ·rintro k a ⟨_,_,_,_,rfl⟩;rfl
 ·exact⟨[],⟨Nat.zero_le _,λp hp=>by cases hp⟩,yQ8 ..⟩
 ·rintro k a _ ⟨z,x,hz,hzx,rfl⟩ ⟨es,hes,rfl⟩;have htk:=yQ6 hz;have hle:=wZt (yZd f) (k+1);rw[htk,wZu] at hle ⊢;obtain⟨o,nm,us,sub⟩:=z;have hpz:=hp o nm us sub (lMg hz);obtain⟨tg,xs,tg',ys,rfl,hop,htg,hxs,htg',hys⟩:=hzx.mk;have hmm:((st.put m (some (.map .sym es))).put b (some (.box [.raw (.map (some m))]))) m=some (.map .sym es):=by rw[yQh (λh=>hbm h.symm),ISt.put_same]
  simp only[wV2] at hle ⊢;have hV:=zKu gl A hA _ us (Nat.lt_succ_self _) tg xs htg hxs hpz m b _ (by omega) es hes _ (ISt.put_same ..) hmm;unfold xQv at hV;simp only[go_sem,zE,zA,zL];refine hV.mono ?_;rintro _ _ ⟨rfl,es',hes',rfl⟩;simp only[go_sem];exact⟨es',hes',hcomm _ _⟩
 ·rintro _ r ⟨es,hes,rfl⟩;rw[lTl] at hes;have hmm:((st.put m (some (.map .sym es))).put b (some (.box [.raw (.map (some m))]))) m=some (.map .sym es):=by rw[yQh (λh=>hbm h.symm),ISt.put_same]
  simp only[go_sem,zE,zA,ISt.put_same];refine (hSo m es hes _ hmm).mono ?_;rintro _ _ ⟨t,ys,o,rfl,ht,hys,rfl⟩;simp only[go_sem];refine yQa (st':=st) (λc o' hc=>?_) ⟨t,ys,rfl,ht,hys,rfl⟩;rw[yQh (by rintro rfl;rw[hm] at hc;cases hc),yQh (by rintro rfl;rw[hb] at hc;cases hc),yQh (by rintro rfl;rw[hm] at hc;cases hc)];exact hc
end Go.Proofs.Tryz
namespace Go.Proofs.Tryz
open Go Go.Iv
mutual
theorem vX8:∀t:Tm,nmT t->aryT 40 t
 | .mk v n us,h=>by
  simp only[nmT] at h;simp only[aryT];exact⟨⟨h.1,h.2.1⟩,xZs us h.2.2⟩
theorem xZs:∀l:List Tm,nmTs l->xXq 40 l
 | [],_=>trivial
 | a::l,h=>⟨vX8 a h.1,xZs l h.2⟩
end
mutual
theorem zGw:∀f:Fm,(yZd f).length+cntA (yZd f)=f.size
 | .mk op n us sub=>by
  have:=zVc sub;simp only[yZd,List.length_cons,Fm.size,cntA,List.map_cons,List.sum_cons,wV2] at this ⊢;omega
theorem zVc:∀l:List Fm,(yZ9 l).length+cntA (yZ9 l)=yQ7 l
 | []=>rfl
 | a::l=>by
  have h1:=zGw a;have h2:=zVc l;simp only[yZ9,lLa,yQ7,cntA,List.map_append,List.sum_append] at h1 h2 ⊢;omega
end
end Go.Proofs.Tryz
namespace Go.Proofs.Tryz
open Go Go.Iv
set_option maxRecDepth 4000
variable (gl:Nat->Option IV)
def syPF:FuncId->List IV->Option IV
 | g,[.raw (.int .u8 m),.raw (.string s),.raw (.int .i64 n)]=>if g=124/\0<=m/\m<=255/\0<=n/\n<=1000000000/\s.size<=1000000000 then some (.raw (.string (keyB (UInt8.ofNat m.toNat) n.toNat s))) else none
 | g,[.raw (.int .i64 e),.raw (.int .i64 n)]=>if g=125/\0<=e/\e<=2/\0<=n/\n<=60 then some (.raw (.int .i64 ((e.toNat ^ n.toNat:Nat):Int))) else none
 | _,_=>none
theorem wYb:∀g us v,syPF g us=some v->entI prog g=true/\∀st,ICall prog gl g us st (λr st'=>r=v/\st'=st):=by
 intro g us v h;unfold syPF at h;split at h
 ·rename_i m s n;split at h
  ·rename_i hc;obtain⟨rfl,h0,h1,h2,h3,h4⟩:=hc;cases h;refine⟨by simp only[go_sem],λst=>?_⟩;have hm:(((UInt8.ofNat m.toNat).toNat:Nat):Int)=m:=by
    rw[UInt8.toNat_ofNat',Nat.mod_eq_of_lt (by omega)];omega
   have:=wK5 gl (UInt8.ofNat m.toNat) n.toNat (by omega) s h4 st
   rwa [hm,Int.toNat_of_nonneg h2] at this
  ·cases h
 ·rename_i e n;split at h
  ·rename_i hc;obtain⟨rfl,h0,h1,h2,h3⟩:=hc;cases h;refine⟨by simp only[go_sem],λst=>?_⟩;have:=wYz gl e.toNat n.toNat (by omega) (by omega) st
   rwa [Int.toNat_of_nonneg h0,Int.toNat_of_nonneg h2] at this
  ·cases h
 ·cases h
theorem vZb (s:ByteArray)(n:Nat)(hs:s.size<=1000000000)(hn:n<=40):syPF 124 [.raw (.int .u8 80),.raw (.string s),.raw (.int .i64 (n:Int))]=some (.raw (.string (keyB 80 n s))) :=
 if_pos (⟨rfl,by omega,by omega,by omega,by omega,hs⟩:124=124/\(0:Int)<=80/\(80:Int)<=255/\(0:Int)<=(n:Int)/\(n:Int)<=1000000000/\s.size<=1000000000)
theorem vZa (s:ByteArray)(n:Nat)(hs:s.size<=1000000000)(hn:n<=40):syPF 124 [.raw (.int .u8 102),.raw (.string s),.raw (.int .i64 (n:Int))]=some (.raw (.string (keyB 102 n s))) :=
 if_pos (⟨rfl,by omega,by omega,by omega,by omega,hs⟩:124=124/\(0:Int)<=102/\(102:Int)<=255/\(0:Int)<=(n:Int)/\(n:Int)<=1000000000/\s.size<=1000000000)
theorem vZ9 (s:ByteArray)(hs:s.size<=1000000000):syPF 124 [.raw (.int .u8 118),.raw (.string s),.raw (.int .i64 0)]=some (.raw (.string (keyB 118 0 s))) :=
 if_pos (⟨rfl,by omega,by omega,by omega,by omega,hs⟩:124=124/\(0:Int)<=118/\(118:Int)<=255/\(0:Int)<=(0:Int)/\(0:Int)<=1000000000/\s.size<=1000000000)
theorem xJl (e n:Nat)(he:e<=2)(hn:n<=40):syPF 125 [.raw (.int .i64 (e:Int)),.raw (.int .i64 (n:Int))]=some (.raw (.int .i64 ((e ^ n:Nat):Int))) :=
 if_pos (⟨rfl,by omega,by omega,by omega,by omega⟩:125=125/\(0:Int)<=(e:Int)/\(e:Int)<=2/\(0:Int)<=(n:Int)/\(n:Int)<=60)
def bdB:Nat:=4398046511104
theorem wWr:bdB=4398046511104:=rfl
structure MoLe (M0:Mo)(c:Nat)(M:Mo):Prop where
 sees:M.sees=M0.sees
 elems:M.elems=M0.elems
 table:M.table=M0.table
 n:M.syms.length<=M0.syms.length+c
 bits:M.bits<=M0.bits+c*bdB
 first:∀p∈M.syms,p.2<=M.bits
theorem MoLe.put {M0 M:Mo}{c:Nat}(h:MoLe M0 c M)(k:ByteArray){n:Nat}(hn:n<=bdB):MoLe M0 (c+1) (M.put k n):=by
 have h1:=h.n;have h2:=h.bits;have h3:(c+1)*bdB=c*bdB+bdB:=Nat.succ_mul c bdB;unfold Mo.put;split
 ·exact⟨h.sees,h.elems,h.table,by omega,by omega,h.first⟩
 ·refine⟨h.sees,h.elems,h.table,by simp only[lLa,List.length_cons,List.length_nil];omega,by simp only;omega,λp hp=>?_⟩;rcases List.mem_append.1 hp with hp|hp
  ·have:=h.first p hp;simp only;omega
  ·rw[List.mem_singleton.1 hp];simp only;omega
theorem MoLe.le {M0 M:Mo}{c d:Nat}(h:MoLe M0 c M)(hc:c<=d):MoLe M0 d M:=by
 have h1:=h.n;have h2:=h.bits;have h3:c*bdB<=d*bdB:=Nat.mul_le_mul_right _ hc;exact⟨h.sees,h.elems,h.table,by omega,by omega,h.first⟩
structure MoRm (M:Mo):Prop where
 el:M.elems<=2
 s:M.sees.length<=3
 n:M.syms.length<=10000
 bits:M.bits<=1000000000000000000
theorem vZt (e n:Nat)(he:e<=2)(hn:n<=40):e ^ n<=1099511627776:=by
 have h1:e ^ n<=2 ^ n:=Nat.pow_le_pow_left he n;have h2:2 ^ n<=2 ^ 40:=Nat.pow_le_pow_right (by omega) hn;have h3:(2:Nat) ^ 40=1099511627776:=by decide
 omega
theorem zGt (T:Gt gl)(b:Nat)(M:Mo)(hR:MoRm M)(hfst:∀p∈M.syms,p.2<=M.bits)(l:List Fm)(tg:Tag)(xs:List IV)(htg:okEs tg 4)(hxs:IsFms l xs)(hsh:shFs l)(hok:yJz l=true)(hsz:yQ7 l<=1000)(st:ISt)(hM:BoxMo b M st) :
  ICall prog gl 76 [.raw (.pointer (some ⟨b,0,none⟩)),.sl tg xs] st (λ_ st'=>∃M',BoxMo b M' st'/\MoLe M (3*yQ7 l) M'):=by
 have hlen:=yZj l;have hr1:=hR.el;have hr2:=hR.s;have hr3:=hR.n;have hr4:=hR.bits;have hput:=λM' k n h1 h2 st h=>uX3 gl b M' k n h1 h2 st h;have hbd:=wWr;refine ICall.intro (c:=cfp prog gl [53,58,88,1000124,1000125] [(3,[0,1,2,3,5,6,7,8,10,11,12,13,4,9,14,15,16,17])] syPF (wYb gl)) func76 rfl (by show _<=109;simp) (by kernel_rfl) ?_;simp only[go_sem,zE,zB,zA,zM,zS,zL,reduceCtorEq,fits];refine LoopC.ctr l.length (λi fr st' ds=>(∃M',BoxMo b M' st'/\MoLe M (3*yQ7 (l.take i)) M')/\fr 0=.iv (.raw (.pointer (some ⟨b,0,none⟩)))/\fr 1=.iv (.sl tg xs)/\fr 4=.iv (.raw (.int .i64 (i:Int)))/\ds=[]) ?_ ?_ ?_
 ·simp only[go_sem,zE,zB,zA,zM,zS,zL,reduceCtorEq];exact⟨⟨M,hM,rfl,rfl,rfl,Nat.le_add_right _ _,Nat.le_add_right _ _,hfst⟩,rfl⟩
 ·rintro i fr st1 _ hlt ⟨⟨M1,hB1,hL1⟩,f0,f1,f4,rfl⟩;obtain⟨f,hf⟩:=yQ4 hlt;obtain⟨x,hkx,hx⟩:=hxs.get hf;have hfm:=lMg hf;have hshf:=yJe hsh hfm;obtain⟨hs1,hs2⟩:=yQv hf;have hpl:=zGw f;have hfs:=yJh hfm;have hP:=λst=>xQf gl 40 (by omega) f x hx (by omega) (λo n us sub hp=>by
   have:=zY1 f hshf _ hp;simp only[shF] at this;exact⟨this.1,this.2.1⟩) st
  have hF:=λst=>xJ1 gl 40 (by omega) f x hx (by omega) (λo n us sub hp=>by
   have:=zY1 f hshf _ hp;simp only[shF] at this;exact xZs us this.2.2.1) st
  have hnm:∀s∈frF f,s.size<=17:=λs hs=>yK5 (wZ1 f (yXj hok hfm) s hs);have hFr:=λst=>wWv gl T f x hx (by omega) (λs hs=>by have:=hnm s hs;omega) st;obtain⟨_,_,_,_,_,_,rfl⟩:=hx.agg;simp only[go_sem,zE,zB,zA,zM,zS,zL,reduceCtorEq,f0,f1,f4,fits,hxs.len,lt_i hlt,yQ1 htg,iNn,hkx];intros;refine (hP _).mono ?_;rintro _ _ ⟨tp,ps,rfl,htp,hps,rfl⟩;simp only[go_sem,zE,zB,zA,zM,zS,zL,reduceCtorEq,f0,f1,f4,fits,hxs.len,lt_i hlt,yQ1 htg,iNn,hkx];intros;refine (hF _).mono ?_;rintro _ _ ⟨tq,qs,rfl,htq,hqs,rfl⟩;simp only[go_sem,zE,zB,zA,zM,zS,zL,reduceCtorEq,f0,f1,f4,fits,hxs.len,lt_i hlt,yQ1 htg,iNn,hkx];intros;refine (hFr _).mono ?_;rintro _ _ ⟨tv,vs,rfl,htv,hvs,rfl⟩;have hvl:=zV1 hvs.1 (λx hx=>(hvs.2 x).1 hx);have hvl2:=zUo f;have hpsl:=hps.1;have hqsl:=hqs.1;simp only[go_sem,zE,zB,zA,zM,zS,zL,reduceCtorEq,f0,f1,f4,fits];refine LoopC.ctr ps.length (λk fr st' ds=>(∃M',BoxMo b M' st'/\MoLe M (3*yQ7 (l.take i)+k) M')/\fr 0=.iv (.raw (.pointer (some ⟨b,0,none⟩)))/\fr 1=.iv (.sl tg xs)/\fr 4=.iv (.raw (.int .i64 (i:Int)))/\fr 5=.iv (.sl tp ps)/\fr 6=.iv (.sl tq qs)/\fr 7=.iv (.sl tv (strI vs))/\fr 8=.iv (.raw (.int .i64 (k:Int)))/\ds=[]) ?_ ?_ ?_
  ·simp only[go_sem,zE,zB,zA,zM,zS,zL,reduceCtorEq,f0,f1,f4];exact⟨⟨M1,hB1,hL1⟩,rfl⟩
  ·rintro k fr st2 _ hltk ⟨⟨M2,hB2,hL2⟩,f0,f1,f4,f5,f6,f7,f8,rfl⟩;obtain⟨y,hky⟩:=yQ4 hltk;obtain⟨sn,n,rfl,hsn,hnn⟩:=hps.2 y (lMg hky);obtain⟨t1,x1,t2,t3,o2,o3,hst2,e1,hse,_⟩:=hB2.ex;unfold yJ9 at hst2;have hm1:=hL2.n;have hm2:=hL2.bits;have hm3:(3*yQ7 (l.take i)+k)*bdB<=7000*bdB:=Nat.mul_le_mul_right _ (by omega);have hel2:M2.elems<=2:=by rw[hL2.elems];exact hr1
   have hse2:M2.sees.length<=3:=by rw[hL2.sees];exact hr2
   have hpw:=vZt M2.elems n hel2 hnn;have hml:M2.sees.length*M2.elems ^ n<=3*1099511627776:=Nat.mul_le_mul hse2 hpw;have hmul:IntKind.i64.wrap ((M2.sees.length:Int)*((M2.elems ^ n:Nat):Int))=((M2.sees.length*M2.elems ^ n:Nat):Int):=by rw[<- Int.natCast_mul,w64]<;>omega
   simp only[go_sem,zE,zB,zA,zM,zS,zL,reduceCtorEq,f0,f1,f4,f5,f6,f7,f8,fits,lt_i hltk,yQ1 htp,iNn,hky,hst2,hse.len,vZb sn n hsn hnn,xJl M2.elems n hel2 hnn,hmul];intros;refine (hput M2 _ _ (by omega) (by omega) _ hB2).mono ?_;rintro _ st3 hB3;have hL3:=hL2.put (keyB 80 n sn) (n:=M2.sees.length*M2.elems ^ n) (by omega);simp only[go_sem,zE,zB,zA,zM,zS,zL,reduceCtorEq,f0,f1,f4,f5,f6,f7,f8,fits,yQf hltk (show ps.length<=281474976710656 by omega)];exact⟨_,hB3,hL3⟩
  rintro fr st2 _ ⟨⟨M2,hB2,hL2⟩,f0,f1,f4,f5,f6,f7,f8,rfl⟩;simp only[go_sem,zE,zB,zA,zM,zS,zL,reduceCtorEq,f0,f1,f4,f5,f6,f7,f8,fits,yQs (nLi _)];intros;refine LoopC.ctr qs.length (λk fr st' ds=>(∃M',BoxMo b M' st'/\MoLe M (3*yQ7 (l.take i)+(ps.length+k)) M')/\fr 0=.iv (.raw (.pointer (some ⟨b,0,none⟩)))/\fr 1=.iv (.sl tg xs)/\fr 4=.iv (.raw (.int .i64 (i:Int)))/\fr 5=.iv (.sl tp ps)/\fr 6=.iv (.sl tq qs)/\fr 7=.iv (.sl tv (strI vs))/\fr 9=.iv (.raw (.int .i64 (k:Int)))/\ds=[]) ?_ ?_ ?_
  ·simp only[go_sem,zE,zB,zA,zM,zS,zL,reduceCtorEq,f0,f1,f4,f5,f6,f7];exact⟨⟨M2,hB2,hL2⟩,rfl⟩
  ·rintro k fr st2 _ hltk ⟨⟨M2,hB2,hL2⟩,f0,f1,f4,f5,f6,f7,f9,rfl⟩;obtain⟨y,hky⟩:=yQ4 hltk;obtain⟨sn,n,rfl,hsn,hnn⟩:=hqs.2 y (lMg hky);obtain⟨t1,x1,t2,t3,o2,o3,hst2,e1,hse,_⟩:=hB2.ex;unfold yJ9 at hst2;have hm1:=hL2.n;have hm2:=hL2.bits;have hm3:(3*yQ7 (l.take i)+(ps.length+k))*bdB<=7000*bdB:=Nat.mul_le_mul_right _ (by omega);have hel2:M2.elems<=2:=by rw[hL2.elems];exact hr1
   have hpw:=vZt M2.elems n hel2 hnn;simp only[go_sem,zE,zB,zA,zM,zS,zL,reduceCtorEq,f0,f1,f4,f5,f6,f7,f9,fits,lt_i hltk,yQ1 htq,iNn,hky,hst2,hse.len,vZa sn n hsn hnn,xJl M2.elems n hel2 hnn];intros;refine (hput M2 _ _ (by omega) (by omega) _ hB2).mono ?_;rintro _ st3 hB3;have hL3:=hL2.put (keyB 102 n sn) (n:=M2.elems ^ n) (by omega);simp only[go_sem,zE,zB,zA,zM,zS,zL,reduceCtorEq,f0,f1,f4,f5,f6,f7,f9,fits,yQf hltk (show qs.length<=281474976710656 by omega)];exact⟨_,hB3,hL3⟩
  rintro fr st2 _ ⟨⟨M2,hB2,hL2⟩,f0,f1,f4,f5,f6,f7,f9,rfl⟩;simp only[go_sem,zE,zB,zA,zM,zS,zL,reduceCtorEq,f0,f1,f4,f5,f6,f7,f9,fits,yQs (nLi _)];intros;refine LoopC.ctr vs.length (λk fr st' ds=>(∃M',BoxMo b M' st'/\MoLe M (3*yQ7 (l.take i)+(ps.length+qs.length+k)) M')/\fr 0=.iv (.raw (.pointer (some ⟨b,0,none⟩)))/\fr 1=.iv (.sl tg xs)/\fr 4=.iv (.raw (.int .i64 (i:Int)))/\fr 5=.iv (.sl tp ps)/\fr 6=.iv (.sl tq qs)/\fr 7=.iv (.sl tv (strI vs))/\fr 10=.iv (.raw (.int .i64 (k:Int)))/\ds=[]) ?_ ?_ ?_
  ·simp only[go_sem,zE,zB,zA,zM,zS,zL,reduceCtorEq,f0,f1,f4,f5,f6,f7];exact⟨⟨M2,hB2,hL2⟩,rfl⟩
  ·rintro k fr st2 _ hltk ⟨⟨M2,hB2,hL2⟩,f0,f1,f4,f5,f6,f7,f10,rfl⟩;obtain⟨v,hkv⟩:=yQ4 hltk;have hkv2:(strI vs)[k]?=some (.raw (.string v)):=by unfold strI;rw[List.getElem?_map,hkv];rfl
   have hsl:(strI vs).length=vs.length:=by simp[strI]
   have hvs1:=hnm v ((hvs.2 v).1 (lMg hkv));have hm1:=hL2.n;have hm2:=hL2.bits;have hm3:(3*yQ7 (l.take i)+(ps.length+qs.length+k))*bdB<=7000*bdB:=Nat.mul_le_mul_right _ (by omega);simp only[go_sem,zE,zB,zA,zM,zS,zL,reduceCtorEq,f0,f1,f4,f5,f6,f7,f10,fits,hsl,lt_i hltk,yQ1 htv,iNn,hkv2,vZ9 v (show v.size<=1000000000 by omega)];intros;refine (hput M2 _ 1 (by omega) (by omega) _ hB2).mono ?_;rintro _ st3 hB3;have hL3:=hL2.put (keyB 118 0 v) (n:=1) (by omega);simp only[go_sem,zE,zB,zA,zM,zS,zL,reduceCtorEq,f0,f1,f4,f5,f6,f7,f10,fits,yQf hltk (show vs.length<=281474976710656 by omega)];exact⟨_,hB3,hL3⟩
  rintro fr st2 _ ⟨⟨M2,hB2,hL2⟩,f0,f1,f4,f5,f6,f7,f10,rfl⟩;have hsl:(strI vs).length=vs.length:=by simp[strI]
  simp only[go_sem,zE,zB,zA,zM,zS,zL,reduceCtorEq,f0,f1,f4,f5,f6,f7,f10,fits,hsl,yQs (nLi _),yQf hlt (show l.length<=281474976710656 by omega)];have hL3:MoLe M (3*yQ7 (l.take (i+1))) M2:=hL2.le (by omega)
  first|exact⟨M2,hB2,hL3⟩|(intro _;exact⟨M2,hB2,hL3⟩)|(intros;exact⟨⟨M2,hB2,hL3⟩,rfl⟩)
 ·rintro fr st1 _ ⟨⟨M1,hB1,hL1⟩,f0,f1,f4,rfl⟩;rw[lTl] at hL1;simp only[go_sem,zE,zB,zA,zM,zS,zL,reduceCtorEq,f0,f1,f4,fits,hxs.len,yQs (nLi _)];intros;exact yQ0 ⟨M1,hB1,hL1⟩
def sCT (us:List Tm):Prop:=∀(tg:Tag) (xs:List IV) (_:okEs tg 3) (_:IsTms us xs) (_:yQd us<=1099511627776) (st:ISt),
 ICall prog gl 176 [.sl tg xs,.fn (.func 177) [] []] st (λr st'=>∃tg' ys,r=.sl tg' ys/\okEs tg' 3/\appT us.length tg'/\IsTmsD us ys/\st'=st)
theorem zKi (v:Bool)(n:ByteArray)(us:List Tm)(IH:sCT gl us)(x:IV)(hx:IsTm (.mk v n us) x)(hs:(Tm.mk v n us).size<=1099511627776)(st:ISt) :
  ICall prog gl 177 [x] st (λr st'=>IsTmD (.mk v n us) r/\st'=st):=by
 obtain⟨tx,cx,rfl,htx,hcx⟩:=hx.mk;simp only[Tm.size] at hs;have hcall:=IH tx cx htx hcx (by omega) st;refine iI func177 ?_;simp only[go_sem,zE,zA];refine hcall.mono ?_;rintro _ _ ⟨tg',ys,rfl,he,ha,hys,rfl⟩;simp only[go_sem,zE,zA,zL,fits];exact yQ0 ⟨IsTmD.intro he ha hys,rfl⟩
theorem zXl (us:List Tm)(IH:∀v n l,Tm.mk v n l∈us->sCT gl l):sCT gl us:=by
 intro tg xs htg hxs hsz st;have hlsz:=yK6 us;refine iI func176 ?_;simp only[go_sem,reduceCtorEq,hxs.len];intro _;refine yX9 (λh=>?_) (λh=>?_)
 ·obtain rfl:us=[]:=List.eq_nil_of_length_eq_zero (by simpa using h);simp only[go_sem];exact yQ0 ⟨_,_,rfl,.inl rfl,.inl rfl,IsTmsD.nil,rfl⟩
 have hpos:0<us.length:=Nat.pos_of_ne_zero λh0=>by simp[h0] at h
 simp only[go_sem,reduceCtorEq,hxs.len];intro _;refine yQq ⟨iNn _,by omega,by omega⟩ λg=>yQ9 λhg=>?_;intro _;refine LoopC.ctr us.length (λk fr st' ds=>(∃tg' ys,fr 5=.iv (.sl tg' ys)/\IsTmsD (us.take k) ys/\appT us.length tg'/\own st' tg' k 3 st/\subSt st st')/\fr 1=.iv (.fn (.func 177) [] []) /\
  fr 14=.iv (.sl tg xs)/\fr 15=.iv (.raw (.int .i64 us.length))/\fr 16=.iv (.raw (.int .i64 k))/\ds=[]) ?_ ?_ ?_
 ·simp only[go_sem,zE];exact⟨⟨_,_,rfl,IsTmsD.nil,.inr ⟨hpos,rfl,g,rfl⟩,.inr (.inr ⟨g,rfl,ISt.put_same _ _ _,hg⟩),yZ3 (subSt.refl _) hg⟩,rfl⟩
 ·rintro k fr st1 _ hlt ⟨⟨tg',ys,f5,hys,hap,hown,hsub⟩,f1,f14,f15,f16,rfl⟩;obtain⟨a,ha⟩:=yQ4 hlt;obtain⟨x,hkx,hx⟩:=hxs.get ha;obtain⟨h1,h2⟩:=yX1 ha;have hlen2:ys.length=k:=by rw[hys.len,List.length_take];omega
  obtain⟨v2,n2,m⟩:=a;have hcall:=zKi gl v2 n2 m (IH _ _ _ (lMg ha)) x hx (by omega) st1;obtain⟨tx,cx,rfl,htx,hcx⟩:=hx.mk;simp only[go_sem,zE,zB,zA,zL,f1,f5,f14,f15,f16,lt_i hlt,yQ1 htg,iNn,hkx,fits];refine hcall.mono ?_;rintro r _ ⟨hr,rfl⟩;have hn:IsTmsD (us.take (k+1)) (ys++[r]):=by
   rw[yQ6 ha];exact hys.append (IsTmsD.one hr)
  obtain⟨t3,x3,rfl,_⟩:=IsTmD.mk hr;simp only[go_sem,zE,zA,zM,zL,fits,yQ5];refine yXl hown hlen2 hsub rfl (by simp[fits,IV.one]) (by simp only;omega) (by omega) λtg2 st4 hown2 hsub4 _ hap2=>?_;simp only[go_sem,zE,f1,f14,f15,f16,yQf hlt (show us.length<=281474976710656 by omega)];exact⟨tg2,_,rfl,hn,hap2.pos hpos,hown2,hsub4⟩
 ·rintro fr st1 _ ⟨⟨tg',ys,f5,hys,hap,hown,hsub⟩,f1,f14,f15,f16,rfl⟩;rw[lTl] at hys;simp only[go_sem,zE,f5,f15,f16,yQs (nLi _)];exact yQa (st':=st) hsub ⟨tg',ys,rfl,hown.es,hap,hys,rfl⟩
theorem yGk:∀(k:Nat)(us:List Tm),SizeOf.sizeOf us<k->sCT gl us
 | 0,f,h=>by omega
 | k+1,us,h=>zXl gl us (λv n l ha=>yGk k l (by
   have:=lSm ha;simp at this;omega))
theorem zGo (us:List Tm):sCT gl us:=yGk gl _ us (Nat.lt_succ_self _)
def sCF (f:Fm):Prop:=∀(x:IV) (_:IsFm f x) (_:f.size<=1099511627776) (st:ISt),ICall prog gl 132 [x] st (λr st'=>IsFmD f r/\st'=st)
theorem zXm (us:List Fm)(IH:∀a∈us,sCF gl a)(tg:Tag)(xs:List IV)(htg:okEs tg 4)(hxs:IsFms us xs)(hsz:yQ7 us<=1099511627776)(st:ISt) :
  ICall prog gl 178 [.sl tg xs,.fn (.func 132) [] []] st (λr st'=>∃tg' ys,r=.sl tg' ys/\okEs tg' 4/\appT us.length tg'/\IsFmsD us ys/\st'=st):=by
 have hlsz:=yZj us;refine iI func178 ?_;simp only[go_sem,reduceCtorEq,hxs.len];intro _;refine yX9 (λh=>?_) (λh=>?_)
 ·obtain rfl:us=[]:=List.eq_nil_of_length_eq_zero (by simpa using h);simp only[go_sem];exact yQ0 ⟨_,_,rfl,.inl rfl,.inl rfl,IsFmsD.nil,rfl⟩
 have hpos:0<us.length:=Nat.pos_of_ne_zero λh0=>by simp[h0] at h
 simp only[go_sem,reduceCtorEq,hxs.len];intro _;refine yQq ⟨iNn _,by omega,by omega⟩ λg=>yQ9 λhg=>?_;intro _;refine LoopC.ctr us.length (λk fr st' ds=>(∃tg' ys,fr 5=.iv (.sl tg' ys)/\IsFmsD (us.take k) ys/\appT us.length tg'/\own st' tg' k 4 st/\subSt st st')/\fr 1=.iv (.fn (.func 132) [] []) /\
  fr 14=.iv (.sl tg xs)/\fr 15=.iv (.raw (.int .i64 us.length))/\fr 16=.iv (.raw (.int .i64 k))/\ds=[]) ?_ ?_ ?_
 ·simp only[go_sem,zE];exact⟨⟨_,_,rfl,IsFmsD.nil,.inr ⟨hpos,rfl,g,rfl⟩,.inr (.inr ⟨g,rfl,ISt.put_same _ _ _,hg⟩),yZ3 (subSt.refl _) hg⟩,rfl⟩
 ·rintro k fr st1 _ hlt ⟨⟨tg',ys,f5,hys,hap,hown,hsub⟩,f1,f14,f15,f16,rfl⟩;obtain⟨a,ha⟩:=yQ4 hlt;obtain⟨x,hkx,hx⟩:=hxs.get ha;obtain⟨h1,h2⟩:=yQv ha;have hlen2:ys.length=k:=by rw[hys.len,List.length_take];omega
  have hcall:=IH a (lMg ha) x hx (by omega) st1;obtain⟨o5,n5,t5,x5,t6,x6,rfl⟩:=hx.agg;simp only[go_sem,zE,zB,zA,zL,f1,f5,f14,f15,f16,lt_i hlt,yQ1 htg,iNn,hkx,fits];refine hcall.mono ?_;rintro r _ ⟨hr,rfl⟩;have hn:IsFmsD (us.take (k+1)) (ys++[r]):=by
   rw[yQ6 ha];exact hys.append (IsFmsD.one hr)
  obtain⟨o7,n7,t7,x7,t8,x8,rfl⟩:=IsFmD.aggs hr;simp only[go_sem,zE,zA,zM,zL,fits,yQ5];refine yXl hown hlen2 hsub rfl (by simp[fits,IV.one]) (by simp only;omega) (by omega) λtg2 st4 hown2 hsub4 _ hap2=>?_;simp only[go_sem,zE,f1,f14,f15,f16,yQf hlt (show us.length<=281474976710656 by omega)];exact⟨tg2,_,rfl,hn,hap2.pos hpos,hown2,hsub4⟩
 ·rintro fr st1 _ ⟨⟨tg',ys,f5,hys,hap,hown,hsub⟩,f1,f14,f15,f16,rfl⟩;rw[lTl] at hys;simp only[go_sem,zE,f5,f15,f16,yQs (nLi _)];exact yQa (st':=st) hsub ⟨tg',ys,rfl,hown.es,hap,hys,rfl⟩
theorem xWc (o:Nat)(n:ByteArray)(us:List Tm)(sub:List Fm)(IH:∀a∈sub,sCF gl a):sCF gl (.mk o n us sub):=by
 intro x hx hs st;obtain⟨t1,x1,t2,x2,rfl,ho,ht1,hx1,ht2,hx2⟩:=hx.mk;simp only[Fm.size] at hs;have hc1:=zGo gl us t1 x1 ht1 hx1 (by omega) st;have hc2:=zXm gl sub IH t2 x2 ht2 hx2 (by omega) st;refine ICall.intro (c:=cf prog gl [] [(1,[0,1,2,3,4,5,7,8,6,9,10,11])]) func132 rfl (by show _<=14;simp) (by kernel_rfl) ?_;simp only[go_sem,zE,zA];refine hc1.mono ?_;rintro _ _ ⟨tg',ys,rfl,he,ha,hys,rfl⟩;simp only[go_sem,zE,zA];refine hc2.mono ?_;rintro _ _ ⟨tg2,ys2,rfl,he2,ha2,hys2,rfl⟩;simp only[go_sem,zE,zA,zL,fits];exact yQ0 ⟨IsFmD.intro ho he ha hys he2 ha2 hys2,rfl⟩
theorem zGn:∀(k:Nat)(f:Fm),SizeOf.sizeOf f<k->sCF gl f
 | 0,f,h=>by omega
 | k+1,.mk o n us sub,h=>xWc gl o n us sub (λa ha=>zGn k a (by
   have:=lSm ha;simp only[Fm.mk.sizeOf_spec] at h;omega))
theorem wYs (f:Fm):sCF gl f:=zGn gl _ f (Nat.lt_succ_self _)
theorem xXf (us:List Fm)(tg:Tag)(xs:List IV)(htg:okEs tg 4)(hxs:IsFms us xs)(hsz:yQ7 us<=1099511627776)(st:ISt) :
  ICall prog gl 91 [.sl tg xs] st (λr st'=>∃tg' ys,r=.sl tg' ys/\okEs tg' 4/\(appT us.length tg'/\tg'.fresh=true)/\IsFmsD us ys/\own st' tg' us.length 4 st/\subSt st st'):=by
 have hlsz:=yZj us;refine iI func91 ?_;simp only[go_sem,reduceCtorEq,hxs.len];intro _;refine LoopC.ctr us.length (λk fr st' ds=>(∃tg' ys,fr 3=.iv (.sl tg' ys)/\IsFmsD (us.take k) ys/\(appT k tg'/\tg'.fresh=true)/\own st' tg' k 4 st/\subSt st st') /\
  fr 6=.iv (.sl tg xs)/\fr 7=.iv (.raw (.int .i64 us.length))/\fr 8=.iv (.raw (.int .i64 k))/\ds=[]) ?_ ?_ ?_
 ·simp only[go_sem,zE];exact⟨⟨_,_,rfl,IsFmsD.nil,⟨.inl rfl,rfl⟩,own.nil _ _ _ _ _,subSt.refl _⟩,rfl⟩
 ·rintro k fr st1 _ hlt ⟨⟨tg',ys,f3,hys,hap,hown,hsub⟩,f6,f7,f8,rfl⟩;obtain⟨a,ha⟩:=yQ4 hlt;obtain⟨x,hkx,hx⟩:=hxs.get ha;obtain⟨h1,h2⟩:=yQv ha;have hlen2:ys.length=k:=by rw[hys.len,List.length_take];omega
  have hcall:=wYs gl a x hx (by omega) st1;obtain⟨o5,n5,t5,x5,t6,x6,rfl⟩:=hx.agg;simp only[go_sem,zE,zB,zA,zL,f3,f6,f7,f8,lt_i hlt,yQ1 htg,iNn,hkx,fits];refine hcall.mono ?_;rintro r _ ⟨hr,rfl⟩;have hn:IsFmsD (us.take (k+1)) (ys++[r]):=by
   rw[yQ6 ha];exact hys.append (IsFmsD.one hr)
  obtain⟨o7,n7,t7,x7,t8,x8,rfl⟩:=IsFmD.aggs hr;simp only[go_sem,zE,zA,zM,zL,fits,yQ5];refine yXl hown hlen2 hsub rfl (by simp[fits,IV.one]) (by simp only;omega) (by omega) λtg2 st4 hown2 hsub4 _ hap2=>?_;simp only[go_sem,zE,f6,f7,f8,yQf hlt (show us.length<=281474976710656 by omega)];exact⟨tg2,_,rfl,hn,⟨hap2,by
   rcases hown2 with⟨h0,_⟩|rfl|⟨_,rfl,_⟩
   ·omega
   ·rfl
   ·rfl⟩,hown2,hsub4⟩
 ·rintro fr st1 _ ⟨⟨tg',ys,f3,hys,hap,hown,hsub⟩,f6,f7,f8,rfl⟩;rw[lTl] at hys;simp only[go_sem,zE,f3,f7,f8,yQs (nLi _)];exact yQ0 ⟨tg',ys,rfl,hown.es,hap,hys,hown,hsub⟩
end Go.Proofs.Tryz
namespace Go.Iv
open Go
theorem ICall.give {P:Program}{gl:Nat->Option IV}{f:FuncId}{args:List IV}{st:ISt}{K:IV->ISt->Prop}(h:ICall P gl f args st (λr st'=>∃st0,subSt st0 st'/\K r st0)):ICall P gl f args st K:=by
 intro B X rs hg hst hv;refine (h B X rs hg hst hv).mono ?_;rintro e w' ⟨v,rfl,X',x,rfl,h2,h3,h4,st0,hs,hK⟩;obtain⟨hg1,he1⟩:=h2.sub hs;exact⟨v,rfl,{ X' with st:=st0 },x,rfl,hg1,h3.trans he1,he1.v h4,hK⟩
end Go.Iv
namespace Go.Proofs.Tryz
open Go Go.Iv
set_option maxRecDepth 4000
variable (gl:Nat->Option IV)
theorem yVn (us:List Fm)(tg:Tag)(xs:List IV)(htg:okEs tg 4)(hxs:IsFms us xs)(hsz:yQ7 us<=1099511627776)(st:ISt) :
  ICall prog gl 91 [.sl tg xs] st (λr st'=>∃tg' ys,r=.sl tg' ys/\okEs tg' 4/\appT us.length tg'/\IsFmsD us ys/\st'=st) :=
 ICall.give ((xXf gl us tg xs htg hxs hsz st).mono λr st' h=>by
  obtain⟨tg',ys,rfl,he,ha,hys,_,hsub⟩:=h;exact⟨st,hsub,tg',ys,rfl,he,ha.1,hys,rfl⟩)
def IsSqD (s:Sq)(x:IV):Prop:=∃t1 x1 t2 x2,x=.agg [.sl t1 x1,.sl t2 x2]/\okEs t1 4/\appT s.l.length t1/\IsFmsD s.l x1/\okEs t2 4/\appT s.r.length t2/\IsFmsD s.r x2
theorem IsSqD.w {s:Sq}{x:IV}(h:IsSqD s x):IsSq s x:=by
 obtain⟨t1,x1,t2,x2,rfl,e1,_,i1,e2,_,i2⟩:=h;exact⟨_,_,_,_,rfl,e1,i1.1,e2,i2.1⟩
def IsSqsD:List Sq->List IV->Prop
 | [],xs=>xs=[]
 | a::l,xs=>∃y ys,xs=y::ys/\IsSqD a y/\IsSqsD l ys
theorem IsSqsD.w:∀ {l:List Sq}{xs:List IV},IsSqsD l xs->IsSqs l xs
 | [],_,h=>h
 | a::l,_,⟨y,ys,h1,h2,h3⟩=>⟨y,ys,h1,h2.w,h3.w⟩
theorem IsSqsD.append:∀ {l m:List Sq}{xs ys:List IV},IsSqsD l xs->IsSqsD m ys->IsSqsD (l++m) (xs++ys)
 | [],m,_,ys,rfl,k=>k
 | a::l,m,_,ys,⟨z,zs,rfl,h2,h3⟩,k=>⟨z,zs++ys,rfl,h2,h3.append k⟩
theorem IsSqsD.mem:∀ {l:List Sq}{xs:List IV},IsSqsD l xs->∀ {k:Nat}{x:IV},xs[k]?=some x->∃s,l[k]?=some s/\IsSqD s x
 | [],_,rfl,k,x,h=>by simp at h
 | a::l,_,⟨y,ys,rfl,h2,h3⟩,0,x,h=>by cases h;exact⟨a,rfl,h2⟩
 | a::l,_,⟨y,ys,rfl,h2,h3⟩,k+1,x,h=>IsSqsD.mem h3 (by simpa using h)
theorem IsSqD.one {s:Sq}{x:IV}(h:IsSqD s x):x.cells.length=2/\∀c∈x.cells,c.one=true:=by
 obtain⟨t1,x1,t2,x2,rfl,_⟩:=h;refine⟨rfl,λc hc=>?_⟩;simp only[IV.cells,List.mem_cons,List.not_mem_nil,or_false] at hc;rcases hc with rfl|rfl<;>rfl
theorem yZc {l:List Sq}{xs:List IV}(h:IsSqsD l xs):∀z∈xs,z.cells.length=2:=λz hz=>by
 obtain⟨k,hk⟩:=List.mem_iff_getElem?.1 hz;obtain⟨s,_,hs⟩:=h.mem hk;exact hs.one.1
theorem IsSq.two {s:Sq}{x:IV}(h:IsSq s x):∃t xs t' ys,x=.agg [.sl t xs,.sl t' ys]:=by
 obtain⟨t,xs,t',ys,rfl,_⟩:=h;exact⟨_,_,_,_,rfl⟩
theorem zZ5 (us:List Fm)(tg:Tag)(xs:List IV)(htg:okEs tg 4)(hxs:IsFms us xs)(hsz:yQ7 us<=1099511627776)(st:ISt) :
  ICall prog gl 153 [.sl tg xs] st (λr st'=>IsSqD ⟨us,[]⟩ r/\st'=st):=by
 refine iI func153 ?_;simp only[go_sem,zA,reduceCtorEq];refine (yVn gl us tg xs htg hxs hsz _).mono ?_;rintro _ _ ⟨tg',ys,rfl,he,ha,hys,rfl⟩;simp only[go_sem,zE,zA,zL,fits];exact yQ0 ⟨⟨_,_,_,_,rfl,he,ha,hys,.inl rfl,.inl rfl,IsFmsD.nil⟩,rfl⟩
theorem yWc (us:List Fm)(tg:Tag)(xs:List IV)(htg:okEs tg 4)(hxs:IsFms us xs)(hsz:yQ7 us<=1099511627776)(st:ISt) :
  ICall prog gl 150 [.sl tg xs] st (λr st'=>IsSqD ⟨[],us⟩ r/\st'=st):=by
 refine iI func150 ?_;simp only[go_sem,zA,reduceCtorEq];refine (yVn gl us tg xs htg hxs hsz _).mono ?_;rintro _ _ ⟨tg',ys,rfl,he,ha,hys,rfl⟩;simp only[go_sem,zE,zA,zL,fits];exact yQ0 ⟨⟨_,_,_,_,rfl,.inl rfl,.inl rfl,IsFmsD.nil,he,ha,hys⟩,rfl⟩
theorem yQn (x y:Operand):yQi 2 [(0,x),(1,y)]=true:=rfl
theorem vXo (a b:Fm)(x y:IV)(hx:IsFm a x)(hy:IsFm b y)(st:ISt):ICall prog gl 208 [x,y] st (λr st'=>IsFm (impF a b) r/\st'=st):=by
 have h1:IsFms [a,b] [x,y]:=⟨_,_,rfl,hx,_,_,rfl,hy,rfl⟩
 obtain⟨o5,n5,t5,x5,t6,x6,rfl⟩:=hx.agg;obtain⟨o7,n7,t7,x7,t8,x8,rfl⟩:=hy.agg;refine iI func208 ?_;simp only[go_sem,zE,zA,zM,zL,fits,yQn];exact yQ0 ⟨⟨_,_,_,_,rfl,by decide,.inl rfl,rfl,.inr rfl,h1⟩,rfl⟩
def yWu (id:Nat)(F:Fm->Fm->Fm->List Sq):Prop:=∀(m a b:Fm) (x y z:IV) (_:IsFm m x) (_:IsFm a y) (_:IsFm b z) (_:m.size<=1000000) (_:a.size<=1000000) (_:b.size<=1000000) (st:ISt),
 ICall prog gl id [x,y,z] st (λr st'=>∃tg xs,r=.sl tg xs/\okEs tg 2/\appT (F m a b).length tg/\IsSqsD (F m a b) xs/\st'=st)
theorem sq1 {s:Sq}{x:IV}(h:IsSqD s x):IsSqsD [s] [x]:=⟨_,_,rfl,h,rfl⟩
theorem sq2 {s s':Sq}{x x':IV}(h:IsSqD s x)(h':IsSqD s' x'):IsSqsD [s,s'] [x,x']:=⟨_,_,rfl,h,_,_,rfl,h',rfl⟩
theorem wXh:yWu gl 197 (λ_ _ _=>[]):=by
 intro m a b x y z hx hy hz hm ha hb st;obtain⟨o1,n1,t1,x1,t2,x2,rfl⟩:=hx.agg;obtain⟨o3,n3,t3,x3,t4,x4,rfl⟩:=hy.agg;obtain⟨o5,n5,t5,x5,t6,x6,rfl⟩:=hz.agg;refine iI func197 ?_;simp only[go_sem,zE];exact yQ0 ⟨_,_,rfl,.inl rfl,.inl rfl,rfl,rfl⟩
theorem wXg:yWu gl 198 (λ_ _ _=>[]):=by
 intro m a b x y z hx hy hz hm ha hb st;obtain⟨o1,n1,t1,x1,t2,x2,rfl⟩:=hx.agg;obtain⟨o3,n3,t3,x3,t4,x4,rfl⟩:=hy.agg;obtain⟨o5,n5,t5,x5,t6,x6,rfl⟩:=hz.agg;refine iI func198 ?_;simp only[go_sem,zE];exact yQ0 ⟨_,_,rfl,.inl rfl,.inl rfl,rfl,rfl⟩
theorem wXf:yWu gl 199 (λm a b=>[⟨[],[a]⟩]):=by
 intro m a b x y z hx hy hz hm ha hb st;have hx0:=hx;have hy0:=hy;have hz0:=hz;obtain⟨o1,n1,t1,x1,t2,x2,rfl⟩:=hx.agg;obtain⟨o3,n3,t3,x3,t4,x4,rfl⟩:=hy.agg;obtain⟨o5,n5,t5,x5,t6,x6,rfl⟩:=hz.agg;have ia:=IsFms.one hy0;have ib:=IsFms.one hz0;have im:=IsFms.one hx0;have iab:IsFms [a,b] [_,_]:=⟨_,_,rfl,hy0,ib⟩
 refine ICall.fixL ?_;refine ICall.intro (c:=cf prog gl [10] []) func199 rfl (by show _<=11;simp) (by kernel_rfl) ?_;simp only[go_sem,zE,zA,zM,zL,fits,yQ5];refine (yWc gl _ _ _ (.inr rfl) ia (by simp only[yQ7];omega) _).mono ?_;rintro r _ ⟨hr,rfl⟩;have h1:=sq1 hr;obtain⟨_,_,_,_,rfl⟩:=IsSq.two hr.w;simp only[go_sem,zA,zM,zL,fits,yQ5];refine λg=>yQ9 λhg=>?_;exact yQ0 (.inr ⟨g,2,_,hg,rfl,rfl,by simp,yZc h1,_,_,rfl,.inr rfl,.inr ⟨by simp,rfl,g,rfl⟩,h1⟩)
theorem wXe:yWu gl 200 (λm a b=>[⟨[a],[]⟩]):=by
 intro m a b x y z hx hy hz hm ha hb st;have hx0:=hx;have hy0:=hy;have hz0:=hz;obtain⟨o1,n1,t1,x1,t2,x2,rfl⟩:=hx.agg;obtain⟨o3,n3,t3,x3,t4,x4,rfl⟩:=hy.agg;obtain⟨o5,n5,t5,x5,t6,x6,rfl⟩:=hz.agg;have ia:=IsFms.one hy0;have ib:=IsFms.one hz0;have im:=IsFms.one hx0;have iab:IsFms [a,b] [_,_]:=⟨_,_,rfl,hy0,ib⟩
 refine ICall.fixL ?_;refine ICall.intro (c:=cf prog gl [10] []) func200 rfl (by show _<=11;simp) (by kernel_rfl) ?_;simp only[go_sem,zE,zA,zM,zL,fits,yQ5];refine (zZ5 gl _ _ _ (.inr rfl) ia (by simp only[yQ7];omega) _).mono ?_;rintro r _ ⟨hr,rfl⟩;have h1:=sq1 hr;obtain⟨_,_,_,_,rfl⟩:=IsSq.two hr.w;simp only[go_sem,zA,zM,zL,fits,yQ5];refine λg=>yQ9 λhg=>?_;exact yQ0 (.inr ⟨g,2,_,hg,rfl,rfl,by simp,yZc h1,_,_,rfl,.inr rfl,.inr ⟨by simp,rfl,g,rfl⟩,h1⟩)
theorem wXd:yWu gl 201 (λm a b=>[⟨[a,b],[]⟩]):=by
 intro m a b x y z hx hy hz hm ha hb st;have hx0:=hx;have hy0:=hy;have hz0:=hz;obtain⟨o1,n1,t1,x1,t2,x2,rfl⟩:=hx.agg;obtain⟨o3,n3,t3,x3,t4,x4,rfl⟩:=hy.agg;obtain⟨o5,n5,t5,x5,t6,x6,rfl⟩:=hz.agg;have ia:=IsFms.one hy0;have ib:=IsFms.one hz0;have im:=IsFms.one hx0;have iab:IsFms [a,b] [_,_]:=⟨_,_,rfl,hy0,ib⟩
 refine ICall.fixL ?_;refine ICall.intro (c:=cf prog gl [11] []) func201 rfl (by show _<=12;simp) (by kernel_rfl) ?_;simp only[go_sem,zE,zA,zM,zL,fits,yQn];refine (zZ5 gl _ _ _ (.inr rfl) iab (by simp only[yQ7];omega) _).mono ?_;rintro r _ ⟨hr,rfl⟩;have h1:=sq1 hr;obtain⟨_,_,_,_,rfl⟩:=IsSq.two hr.w;simp only[go_sem,zA,zM,zL,fits,yQ5];refine λg=>yQ9 λhg=>?_;exact yQ0 (.inr ⟨g,2,_,hg,rfl,rfl,by simp,yZc h1,_,_,rfl,.inr rfl,.inr ⟨by simp,rfl,g,rfl⟩,h1⟩)
theorem wXc:yWu gl 202 (λm a b=>[⟨[],[a]⟩,⟨[],[b]⟩]):=by
 intro m a b x y z hx hy hz hm ha hb st;have hx0:=hx;have hy0:=hy;have hz0:=hz;obtain⟨o1,n1,t1,x1,t2,x2,rfl⟩:=hx.agg;obtain⟨o3,n3,t3,x3,t4,x4,rfl⟩:=hy.agg;obtain⟨o5,n5,t5,x5,t6,x6,rfl⟩:=hz.agg;have ia:=IsFms.one hy0;have ib:=IsFms.one hz0;have im:=IsFms.one hx0;have iab:IsFms [a,b] [_,_]:=⟨_,_,rfl,hy0,ib⟩
 refine ICall.fixL ?_;refine ICall.intro (c:=cf prog gl [13] [(1,[0,1,3,4,2,5,6,7])]) func202 rfl (by show _<=14;simp) (by kernel_rfl) ?_;simp only[go_sem,zE,zA,zM,zL,fits,yQ5];refine (yWc gl _ _ _ (.inr rfl) ia (by simp only[yQ7];omega) _).mono ?_;rintro r _ ⟨hr,rfl⟩;have hr0:=hr;obtain⟨_,_,_,_,rfl⟩:=IsSq.two hr.w;simp only[go_sem,zE,zA];refine (yWc gl _ _ _ (.inr rfl) ib (by simp only[yQ7];omega) _).mono ?_;rintro r _ ⟨hr,rfl⟩;have h1:=sq2 hr0 hr;obtain⟨_,_,_,_,rfl⟩:=IsSq.two hr.w;simp only[go_sem,zE,zA,zM,zL,fits,yQn];refine λg=>yQ9 λhg=>?_;exact yQ0 (.inr ⟨g,2,_,hg,rfl,rfl,by simp,yZc h1,_,_,rfl,.inr rfl,.inr ⟨by simp,rfl,g,rfl⟩,h1⟩)
theorem wXb:yWu gl 203 (λm a b=>[⟨[a],[]⟩,⟨[b],[]⟩]):=by
 intro m a b x y z hx hy hz hm ha hb st;have hx0:=hx;have hy0:=hy;have hz0:=hz;obtain⟨o1,n1,t1,x1,t2,x2,rfl⟩:=hx.agg;obtain⟨o3,n3,t3,x3,t4,x4,rfl⟩:=hy.agg;obtain⟨o5,n5,t5,x5,t6,x6,rfl⟩:=hz.agg;have ia:=IsFms.one hy0;have ib:=IsFms.one hz0;have im:=IsFms.one hx0;have iab:IsFms [a,b] [_,_]:=⟨_,_,rfl,hy0,ib⟩
 refine ICall.fixL ?_;refine ICall.intro (c:=cf prog gl [13] [(1,[0,1,3,4,2,5,6,7])]) func203 rfl (by show _<=14;simp) (by kernel_rfl) ?_;simp only[go_sem,zE,zA,zM,zL,fits,yQ5];refine (zZ5 gl _ _ _ (.inr rfl) ia (by simp only[yQ7];omega) _).mono ?_;rintro r _ ⟨hr,rfl⟩;have hr0:=hr;obtain⟨_,_,_,_,rfl⟩:=IsSq.two hr.w;simp only[go_sem,zE,zA];refine (zZ5 gl _ _ _ (.inr rfl) ib (by simp only[yQ7];omega) _).mono ?_;rintro r _ ⟨hr,rfl⟩;have h1:=sq2 hr0 hr;obtain⟨_,_,_,_,rfl⟩:=IsSq.two hr.w;simp only[go_sem,zE,zA,zM,zL,fits,yQn];refine λg=>yQ9 λhg=>?_;exact yQ0 (.inr ⟨g,2,_,hg,rfl,rfl,by simp,yZc h1,_,_,rfl,.inr rfl,.inr ⟨by simp,rfl,g,rfl⟩,h1⟩)
theorem wXa:yWu gl 204 (λm a b=>[⟨[],[a,b]⟩]):=by
 intro m a b x y z hx hy hz hm ha hb st;have hx0:=hx;have hy0:=hy;have hz0:=hz;obtain⟨o1,n1,t1,x1,t2,x2,rfl⟩:=hx.agg;obtain⟨o3,n3,t3,x3,t4,x4,rfl⟩:=hy.agg;obtain⟨o5,n5,t5,x5,t6,x6,rfl⟩:=hz.agg;have ia:=IsFms.one hy0;have ib:=IsFms.one hz0;have im:=IsFms.one hx0;have iab:IsFms [a,b] [_,_]:=⟨_,_,rfl,hy0,ib⟩
 refine ICall.fixL ?_;refine ICall.intro (c:=cf prog gl [11] []) func204 rfl (by show _<=12;simp) (by kernel_rfl) ?_;simp only[go_sem,zE,zA,zM,zL,fits,yQn];refine (yWc gl _ _ _ (.inr rfl) iab (by simp only[yQ7];omega) _).mono ?_;rintro r _ ⟨hr,rfl⟩;have h1:=sq1 hr;obtain⟨_,_,_,_,rfl⟩:=IsSq.two hr.w;simp only[go_sem,zA,zM,zL,fits,yQ5];refine λg=>yQ9 λhg=>?_;exact yQ0 (.inr ⟨g,2,_,hg,rfl,rfl,by simp,yZc h1,_,_,rfl,.inr rfl,.inr ⟨by simp,rfl,g,rfl⟩,h1⟩)
theorem wX9:yWu gl 205 (λm a b=>[⟨[],[a]⟩,⟨[b],[]⟩]):=by
 intro m a b x y z hx hy hz hm ha hb st;have hx0:=hx;have hy0:=hy;have hz0:=hz;obtain⟨o1,n1,t1,x1,t2,x2,rfl⟩:=hx.agg;obtain⟨o3,n3,t3,x3,t4,x4,rfl⟩:=hy.agg;obtain⟨o5,n5,t5,x5,t6,x6,rfl⟩:=hz.agg;have ia:=IsFms.one hy0;have ib:=IsFms.one hz0;have im:=IsFms.one hx0;have iab:IsFms [a,b] [_,_]:=⟨_,_,rfl,hy0,ib⟩
 refine ICall.fixL ?_;refine ICall.intro (c:=cf prog gl [13] [(1,[0,1,3,4,2,5,6,7])]) func205 rfl (by show _<=14;simp) (by kernel_rfl) ?_;simp only[go_sem,zE,zA,zM,zL,fits,yQ5];refine (yWc gl _ _ _ (.inr rfl) ia (by simp only[yQ7];omega) _).mono ?_;rintro r _ ⟨hr,rfl⟩;have hr0:=hr;obtain⟨_,_,_,_,rfl⟩:=IsSq.two hr.w;simp only[go_sem,zE,zA];refine (zZ5 gl _ _ _ (.inr rfl) ib (by simp only[yQ7];omega) _).mono ?_;rintro r _ ⟨hr,rfl⟩;have h1:=sq2 hr0 hr;obtain⟨_,_,_,_,rfl⟩:=IsSq.two hr.w;simp only[go_sem,zE,zA,zM,zL,fits,yQn];refine λg=>yQ9 λhg=>?_;exact yQ0 (.inr ⟨g,2,_,hg,rfl,rfl,by simp,yZc h1,_,_,rfl,.inr rfl,.inr ⟨by simp,rfl,g,rfl⟩,h1⟩)
theorem xXu:yWu gl 210 (λm a b=>[⟨[],[m]⟩,⟨[m],[]⟩]):=by
 intro m a b x y z hx hy hz hm ha hb st;have hx0:=hx;have hy0:=hy;have hz0:=hz;obtain⟨o1,n1,t1,x1,t2,x2,rfl⟩:=hx.agg;obtain⟨o3,n3,t3,x3,t4,x4,rfl⟩:=hy.agg;obtain⟨o5,n5,t5,x5,t6,x6,rfl⟩:=hz.agg;have ia:=IsFms.one hy0;have ib:=IsFms.one hz0;have im:=IsFms.one hx0;have iab:IsFms [a,b] [_,_]:=⟨_,_,rfl,hy0,ib⟩
 refine ICall.fixL ?_;refine ICall.intro (c:=cf prog gl [13] [(1,[0,1,3,4,2,5,6,7])]) func210 rfl (by show _<=14;simp) (by kernel_rfl) ?_;simp only[go_sem,zE,zA,zM,zL,fits,yQ5];refine (yWc gl _ _ _ (.inr rfl) im (by simp only[yQ7];omega) _).mono ?_;rintro r _ ⟨hr,rfl⟩;have hr0:=hr;obtain⟨_,_,_,_,rfl⟩:=IsSq.two hr.w;simp only[go_sem,zE,zA];refine (zZ5 gl _ _ _ (.inr rfl) im (by simp only[yQ7];omega) _).mono ?_;rintro r _ ⟨hr,rfl⟩;have h1:=sq2 hr0 hr;obtain⟨_,_,_,_,rfl⟩:=IsSq.two hr.w;simp only[go_sem,zE,zA,zM,zL,fits,yQn];refine λg=>yQ9 λhg=>?_;exact yQ0 (.inr ⟨g,2,_,hg,rfl,rfl,by simp,yZc h1,_,_,rfl,.inr rfl,.inr ⟨by simp,rfl,g,rfl⟩,h1⟩)
theorem xXs:yWu gl 149 (λm a b=>[⟨[],[a]⟩]):=by
 intro m a b x y z hx hy hz hm ha hb st;have hx0:=hx;have hy0:=hy;have hz0:=hz;obtain⟨o1,n1,t1,x1,t2,x2,rfl⟩:=hx.agg;obtain⟨o3,n3,t3,x3,t4,x4,rfl⟩:=hy.agg;obtain⟨o5,n5,t5,x5,t6,x6,rfl⟩:=hz.agg;have ia:=IsFms.one hy0;have ib:=IsFms.one hz0;have im:=IsFms.one hx0;have iab:IsFms [a,b] [_,_]:=⟨_,_,rfl,hy0,ib⟩
 refine ICall.fixL ?_;refine ICall.intro (c:=cf prog gl [10] []) func149 rfl (by show _<=11;simp) (by kernel_rfl) ?_;simp only[go_sem,zE,zA,zM,zL,fits,yQ5];refine (yWc gl _ _ _ (.inr rfl) ia (by simp only[yQ7];omega) _).mono ?_;rintro r _ ⟨hr,rfl⟩;have h1:=sq1 hr;obtain⟨_,_,_,_,rfl⟩:=IsSq.two hr.w;simp only[go_sem,zA,zM,zL,fits,yQ5];refine λg=>yQ9 λhg=>?_;exact yQ0 (.inr ⟨g,2,_,hg,rfl,rfl,by simp,yZc h1,_,_,rfl,.inr rfl,.inr ⟨by simp,rfl,g,rfl⟩,h1⟩)
theorem xXt:yWu gl 151 (λm a b=>[⟨[],[b]⟩]):=by
 intro m a b x y z hx hy hz hm ha hb st;have hx0:=hx;have hy0:=hy;have hz0:=hz;obtain⟨o1,n1,t1,x1,t2,x2,rfl⟩:=hx.agg;obtain⟨o3,n3,t3,x3,t4,x4,rfl⟩:=hy.agg;obtain⟨o5,n5,t5,x5,t6,x6,rfl⟩:=hz.agg;have ia:=IsFms.one hy0;have ib:=IsFms.one hz0;have im:=IsFms.one hx0;have iab:IsFms [a,b] [_,_]:=⟨_,_,rfl,hy0,ib⟩
 refine ICall.fixL ?_;refine ICall.intro (c:=cf prog gl [10] []) func151 rfl (by show _<=11;simp) (by kernel_rfl) ?_;simp only[go_sem,zE,zA,zM,zL,fits,yQ5];refine (yWc gl _ _ _ (.inr rfl) ib (by simp only[yQ7];omega) _).mono ?_;rintro r _ ⟨hr,rfl⟩;have h1:=sq1 hr;obtain⟨_,_,_,_,rfl⟩:=IsSq.two hr.w;simp only[go_sem,zA,zM,zL,fits,yQ5];refine λg=>yQ9 λhg=>?_;exact yQ0 (.inr ⟨g,2,_,hg,rfl,rfl,by simp,yZc h1,_,_,rfl,.inr rfl,.inr ⟨by simp,rfl,g,rfl⟩,h1⟩)
theorem wX8:yWu gl 152 (λm a b=>[⟨[a],[]⟩]):=by
 intro m a b x y z hx hy hz hm ha hb st;have hx0:=hx;have hy0:=hy;have hz0:=hz;obtain⟨o1,n1,t1,x1,t2,x2,rfl⟩:=hx.agg;obtain⟨o3,n3,t3,x3,t4,x4,rfl⟩:=hy.agg;obtain⟨o5,n5,t5,x5,t6,x6,rfl⟩:=hz.agg;have ia:=IsFms.one hy0;have ib:=IsFms.one hz0;have im:=IsFms.one hx0;have iab:IsFms [a,b] [_,_]:=⟨_,_,rfl,hy0,ib⟩
 refine ICall.fixL ?_;refine ICall.intro (c:=cf prog gl [10] []) func152 rfl (by show _<=11;simp) (by kernel_rfl) ?_;simp only[go_sem,zE,zA,zM,zL,fits,yQ5];refine (zZ5 gl _ _ _ (.inr rfl) ia (by simp only[yQ7];omega) _).mono ?_;rintro r _ ⟨hr,rfl⟩;have h1:=sq1 hr;obtain⟨_,_,_,_,rfl⟩:=IsSq.two hr.w;simp only[go_sem,zA,zM,zL,fits,yQ5];refine λg=>yQ9 λhg=>?_;exact yQ0 (.inr ⟨g,2,_,hg,rfl,rfl,by simp,yZc h1,_,_,rfl,.inr rfl,.inr ⟨by simp,rfl,g,rfl⟩,h1⟩)
theorem wX7:yWu gl 154 (λm a b=>[⟨[],[a]⟩]):=by
 intro m a b x y z hx hy hz hm ha hb st;have hx0:=hx;have hy0:=hy;have hz0:=hz;obtain⟨o1,n1,t1,x1,t2,x2,rfl⟩:=hx.agg;obtain⟨o3,n3,t3,x3,t4,x4,rfl⟩:=hy.agg;obtain⟨o5,n5,t5,x5,t6,x6,rfl⟩:=hz.agg;have ia:=IsFms.one hy0;have ib:=IsFms.one hz0;have im:=IsFms.one hx0;have iab:IsFms [a,b] [_,_]:=⟨_,_,rfl,hy0,ib⟩
 refine ICall.fixL ?_;refine ICall.intro (c:=cf prog gl [10] []) func154 rfl (by show _<=11;simp) (by kernel_rfl) ?_;simp only[go_sem,zE,zA,zM,zL,fits,yQ5];refine (yWc gl _ _ _ (.inr rfl) ia (by simp only[yQ7];omega) _).mono ?_;rintro r _ ⟨hr,rfl⟩;have h1:=sq1 hr;obtain⟨_,_,_,_,rfl⟩:=IsSq.two hr.w;simp only[go_sem,zA,zM,zL,fits,yQ5];refine λg=>yQ9 λhg=>?_;exact yQ0 (.inr ⟨g,2,_,hg,rfl,rfl,by simp,yZc h1,_,_,rfl,.inr rfl,.inr ⟨by simp,rfl,g,rfl⟩,h1⟩)
theorem xXx:yWu gl 206 (λm a b=>[⟨[a],[b]⟩]):=by
 intro m a b x y z hx hy hz hm ha hb st;have hx0:=hx;have hy0:=hy;have hz0:=hz;obtain⟨o1,n1,t1,x1,t2,x2,rfl⟩:=hx.agg;obtain⟨o3,n3,t3,x3,t4,x4,rfl⟩:=hy.agg;obtain⟨o5,n5,t5,x5,t6,x6,rfl⟩:=hz.agg;have ia:=IsFms.one hy0;have ib:=IsFms.one hz0;have im:=IsFms.one hx0;have iab:IsFms [a,b] [_,_]:=⟨_,_,rfl,hy0,ib⟩
 refine ICall.fixL ?_;refine ICall.intro (c:=cf prog gl [14] [(1,[0,1,3,4,2,5,6,7,8])]) func206 rfl (by show _<=15;simp) (by kernel_rfl) ?_;simp only[go_sem,zE,zA,zM,zL,fits,yQ5];refine (yVn gl _ _ _ (.inr rfl) ia (by simp only[yQ7];omega) _).mono ?_;rintro _ _ ⟨tg1,ys1,rfl,he1,ha1,hys1,rfl⟩;simp only[go_sem,zE,zA];refine (yVn gl _ _ _ (.inr rfl) ib (by simp only[yQ7];omega) _).mono ?_;rintro _ _ ⟨tg2,ys2,rfl,he2,ha2,hys2,rfl⟩;simp only[go_sem,zE,zA,zM,zL,fits,yQ5];have h1:=sq1 (s:=⟨[a],[b]⟩) ⟨_,_,_,_,rfl,he1,ha1,hys1,he2,ha2,hys2⟩;refine λg=>yQ9 λhg=>?_;exact yQ0 (.inr ⟨g,2,_,hg,rfl,rfl,by simp,yZc h1,_,_,rfl,.inr rfl,.inr ⟨by simp,rfl,g,rfl⟩,h1⟩)
theorem xXv:yWu gl 209 (λm a b=>[⟨[a],[b]⟩,⟨[b],[a]⟩]):=by
 intro m a b x y z hx hy hz hm ha hb st;have hx0:=hx;have hy0:=hy;have hz0:=hz;obtain⟨o1,n1,t1,x1,t2,x2,rfl⟩:=hx.agg;obtain⟨o3,n3,t3,x3,t4,x4,rfl⟩:=hy.agg;obtain⟨o5,n5,t5,x5,t6,x6,rfl⟩:=hz.agg;have ia:=IsFms.one hy0;have ib:=IsFms.one hz0;have im:=IsFms.one hx0;have iab:IsFms [a,b] [_,_]:=⟨_,_,rfl,hy0,ib⟩
 refine ICall.fixL ?_;refine ICall.intro (c:=cf prog gl [21] [(1,[0,1,3,4,7,8,10,11,2,5,6,9,12,13,14,15])]) func209 rfl (by show _<=22;simp) (by kernel_rfl) ?_;simp only[go_sem,zE,zA,zM,zL,fits,yQ5];refine (yVn gl _ _ _ (.inr rfl) ia (by simp only[yQ7];omega) _).mono ?_;rintro _ _ ⟨tg1,ys1,rfl,he1,ha1,hys1,rfl⟩;simp only[go_sem,zE,zA];refine (yVn gl _ _ _ (.inr rfl) ib (by simp only[yQ7];omega) _).mono ?_;rintro _ _ ⟨tg2,ys2,rfl,he2,ha2,hys2,rfl⟩;simp only[go_sem,zE,zA,zL,fits];refine (yVn gl _ _ _ (.inr rfl) ib (by simp only[yQ7];omega) _).mono ?_;rintro _ _ ⟨tg3,ys3,rfl,he3,ha3,hys3,rfl⟩;simp only[go_sem,zE,zA];refine (yVn gl _ _ _ (.inr rfl) ia (by simp only[yQ7];omega) _).mono ?_;rintro _ _ ⟨tg4,ys4,rfl,he4,ha4,hys4,rfl⟩;simp only[go_sem,zE,zA,zM,zL,fits,yQn];have h1:=sq2 (s:=⟨[a],[b]⟩) (s':=⟨[b],[a]⟩) ⟨_,_,_,_,rfl,he1,ha1,hys1,he2,ha2,hys2⟩ ⟨_,_,_,_,rfl,he3,ha3,hys3,he4,ha4,hys4⟩;refine λg=>yQ9 λhg=>?_;exact yQ0 (.inr ⟨g,2,_,hg,rfl,rfl,by simp,yZc h1,_,_,rfl,.inr rfl,.inr ⟨by simp,rfl,g,rfl⟩,h1⟩)
theorem xXw:yWu gl 207 (λm a b=>[⟨[impF a b,impF b a],[]⟩]):=by
 intro m a b x y z hx hy hz hm ha hb st;have hx0:=hx;have hy0:=hy;have hz0:=hz;obtain⟨o1,n1,t1,x1,t2,x2,rfl⟩:=hx.agg;obtain⟨o3,n3,t3,x3,t4,x4,rfl⟩:=hy.agg;obtain⟨o5,n5,t5,x5,t6,x6,rfl⟩:=hz.agg;have ia:=IsFms.one hy0;have ib:=IsFms.one hz0;have im:=IsFms.one hx0;have iab:IsFms [a,b] [_,_]:=⟨_,_,rfl,hy0,ib⟩
 refine ICall.fixL ?_;refine ICall.intro (c:=cf prog gl [15] [(1,[0,1,3,4,2,5,6,7,8,9])]) func207 rfl (by show _<=16;simp) (by kernel_rfl) ?_;simp only[go_sem,zE,zA,zL];refine (vXo gl a b _ _ hy0 hz0 _).mono ?_;rintro r _ ⟨hr,rfl⟩;have hr0:=hr;obtain⟨_,_,_,_,_,_,rfl⟩:=hr.agg;simp only[go_sem,zE,zA];refine (vXo gl b a _ _ hz0 hy0 _).mono ?_;rintro r _ ⟨hr,rfl⟩;have hr1:IsFms [impF a b,impF b a] [_,_]:=⟨_,_,rfl,hr0,IsFms.one hr⟩
 obtain⟨_,_,_,_,_,_,rfl⟩:=hr.agg;simp only[go_sem,zE,zA,zM,zL,fits,yQn];refine (zZ5 gl _ _ _ (.inr rfl) hr1 (by simp only[yQ7,impF,Fm.size,yQd];omega) _).mono ?_;rintro r _ ⟨hr,rfl⟩;have h1:=sq1 hr;obtain⟨_,_,_,_,rfl⟩:=IsSq.two hr.w;simp only[go_sem,zA,zM,zL,fits,yQ5];refine λg=>yQ9 λhg=>?_;exact yQ0 (.inr ⟨g,2,_,hg,rfl,rfl,by simp,yZc h1,_,_,rfl,.inr rfl,.inr ⟨by simp,rfl,g,rfl⟩,h1⟩)
def fitL (l:List Fm):Prop:=∀f∈l,f.size<=1000000
theorem xX3 (ca:Nat)(st:ISt):ICall prog gl 71 [.raw (.int .u8 ca)] st (λr st'=>r=.raw (.bool (yKf ca))/\st'=st):=by
 refine iI func71 ?_;by_cases h1:1<=ca
 ·have e1:decide (1<=(ca:Int))=true:=dEt (by omega);by_cases h2:ca<=3
  ·have e2:decide ((ca:Int)<=3)=true:=dEt (by omega);simp only[go_sem,zE,reduceCtorEq,e1,e2];exact yQ0 ⟨by simp[yKf,h1,h2],rfl⟩
  ·have e2:decide ((ca:Int)<=3)=false:=dEf (by omega);simp only[go_sem,zE,reduceCtorEq,e1,e2];exact yQ0 ⟨by simp[yKf,h2],rfl⟩
 ·have e1:decide (1<=(ca:Int))=false:=dEf (by omega);simp only[go_sem,zE,reduceCtorEq,e1];exact yQ0 ⟨by simp[yKf,h1],rfl⟩
def sOp (f:Fm):Prop:=∀(ca:Nat) (x:IV) (_:IsFm f x) (st:ISt),ICall prog gl 142 [.raw (.int .u8 ca),x] st (λr st'=>r=.raw (.bool (opsB ca f))/\st'=st)
theorem yVj (ca:Nat):∀l m:List Fm,yK4 ca (l++m)=(yK4 ca l&&yK4 ca m)
 | [],m=>by simp[yK4]
 | a::l,m=>by simp only[List.cons_append,yK4,yVj ca l m,Bool.and_assoc]
theorem zGz {ca:Nat}{l:List Fm}{a:Fm}(ha:a∈l)(h:opsB ca a=false):yK4 ca l=false:=by
 obtain⟨p,q,rfl⟩:=List.append_of_mem ha;rw[yVj];simp[yK4,h]
theorem wJf (o:Nat)(n:ByteArray)(us:List Tm)(sub:List Fm)(IH:∀a∈sub,sOp gl a):sOp gl (.mk o n us sub):=by
 intro ca x hx st;obtain⟨t1,x1,t2,x2,rfl,ho,ht1,hx1,ht2,hx2⟩:=hx.mk;have loop:∀(last:Nat) (hop:(decide (1<=o)&&decide (o<=if ca=3 then 9 else 7)&&(decide (ca=3) || us.isEmpty))=true),opsB ca (.mk o n us sub)=yK4 ca sub:=λ_ h=>by
  simp only[opsB,h,Bool.true_and]
 refine iI func142 ?_;by_cases h1:1<=o
 ·have e1:decide ((o:Int)<1)=false:=dEf (by omega);by_cases hca:ca=3
  ·have e3:decide ((ca:Int)=3)=true:=dEt (by omega);by_cases h2:o<=9
   ·have e2:decide ((9:Int)<(o:Int))=false:=dEf (by omega);have hl:=loop 9 (by simp[h1,h2,hca]);simp only[go_sem,zE,zA,reduceCtorEq,e1,e2,e3,hx2.len];intro _;refine LoopC.ctr sub.length (λk fr st' ds=>yK4 ca (sub.take k)=true/\fr 0=.iv (.raw (.int .u8 ca))/\fr 30=.iv (.sl t2 x2)/\fr 31=.iv (.raw (.int .i64 sub.length))/\fr 32=.iv (.raw (.int .i64 k))/\st'=st/\ds=[]) ?_ ?_ ?_
    ·simp only[go_sem,zE,reduceCtorEq];simp[yK4]
    ·rintro k fr st1 _ hlt ⟨hn,f0,f30,f31,f32,rfl,rfl⟩;obtain⟨a,ha⟩:=yQ4 hlt;obtain⟨y,hky,hy⟩:=hx2.get ha;have hcall:=IH a (lMg ha) ca y hy st1;obtain⟨o5,n5,t5,x5,t6,x6,rfl⟩:=hy.agg;simp only[go_sem,zE,zB,zA,zL,reduceCtorEq,f0,f30,f31,f32,lt_i hlt,yQ1 ht2,iNn,hky,fits];refine hcall.mono ?_;rintro _ _ ⟨rfl,rfl⟩;cases hr:opsB ca a
     ·simp only[go_sem];exact yQ0 ⟨by rw[hl,zGz (lMg ha) hr],rfl⟩
     ·simp only[go_sem,zE,reduceCtorEq,f0,f30,f31,f32,yQf hlt (show sub.length<=281474976710656 by omega)];rw[yQ6 ha,yVj,hn];simp[yK4,hr]
    ·rintro fr st1 _ ⟨hn,f0,f30,f31,f32,rfl,rfl⟩;rw[lTl] at hn;simp only[go_sem,f31,f32,yQs (nLi _)];exact yQ0 ⟨by rw[hl,hn],rfl⟩
   ·have e2:decide ((9:Int)<(o:Int))=true:=dEt (by omega);simp only[go_sem,zE,zA,reduceCtorEq,e1,e2,e3];exact yQ0 ⟨by simp[opsB,h2,hca],rfl⟩
  ·have e3:decide ((ca:Int)=3)=false:=dEf (by omega);by_cases h2:o<=7
   ·have e2:decide ((7:Int)<(o:Int))=false:=dEf (by omega);by_cases hu:us=[]
    ·subst hu;have e4:decide ((0:Int)<((0:Nat):Int))=false:=rfl;have hl:=loop 7 (by simp[h1,h2,hca]);simp only[go_sem,zE,zA,zL,reduceCtorEq,e1,e2,e3,e4,hx1.len,hx2.len];intro _;refine LoopC.ctr sub.length (λk fr st' ds=>yK4 ca (sub.take k)=true/\fr 0=.iv (.raw (.int .u8 ca))/\fr 30=.iv (.sl t2 x2)/\fr 31=.iv (.raw (.int .i64 sub.length))/\fr 32=.iv (.raw (.int .i64 k))/\st'=st/\ds=[]) ?_ ?_ ?_
     ·simp only[go_sem,zE,reduceCtorEq];simp[yK4]
     ·rintro k fr st1 _ hlt ⟨hn,f0,f30,f31,f32,rfl,rfl⟩;obtain⟨a,ha⟩:=yQ4 hlt;obtain⟨y,hky,hy⟩:=hx2.get ha;have hcall:=IH a (lMg ha) ca y hy st1;obtain⟨o5,n5,t5,x5,t6,x6,rfl⟩:=hy.agg;simp only[go_sem,zE,zB,zA,zL,reduceCtorEq,f0,f30,f31,f32,lt_i hlt,yQ1 ht2,iNn,hky,fits];refine hcall.mono ?_;rintro _ _ ⟨rfl,rfl⟩;cases hr:opsB ca a
      ·simp only[go_sem];exact yQ0 ⟨by rw[hl,zGz (lMg ha) hr],rfl⟩
      ·simp only[go_sem,zE,reduceCtorEq,f0,f30,f31,f32,yQf hlt (show sub.length<=281474976710656 by omega)];rw[yQ6 ha,yVj,hn];simp[yK4,hr]
     ·rintro fr st1 _ ⟨hn,f0,f30,f31,f32,rfl,rfl⟩;rw[lTl] at hn;simp only[go_sem,f31,f32,yQs (nLi _)];exact yQ0 ⟨by rw[hl,hn],rfl⟩
    ·have hpos:0<us.length:=List.length_pos_iff.2 hu;have e4:decide ((0:Int)<(us.length:Int))=true:=dEt (by omega);simp only[go_sem,zE,zA,reduceCtorEq,e1,e2,e3,e4,hx1.len];intro _;exact yQ0 ⟨by simp[opsB,hca,hu],rfl⟩
   ·have e2:decide ((7:Int)<(o:Int))=true:=dEt (by omega);simp only[go_sem,zE,zA,reduceCtorEq,e1,e2,e3];exact yQ0 ⟨by simp[opsB,hca,h2],rfl⟩
 ·have e1:decide ((o:Int)<1)=true:=dEt (by omega);by_cases hca:ca=3
  ·have e3:decide ((ca:Int)=3)=true:=dEt (by omega);simp only[go_sem,zE,zA,reduceCtorEq,e1,e3];exact yQ0 ⟨by simp[opsB,h1],rfl⟩
  ·have e3:decide ((ca:Int)=3)=false:=dEf (by omega);simp only[go_sem,zE,zA,reduceCtorEq,e1,e3];exact yQ0 ⟨by simp[opsB,h1],rfl⟩
theorem xGy:∀(k:Nat)(f:Fm),SizeOf.sizeOf f<k->sOp gl f
 | 0,f,h=>by omega
 | k+1,.mk o n us sub,h=>wJf gl o n us sub (λa ha=>xGy k a (by
   have:=lSm ha;simp only[Fm.mk.sizeOf_spec] at h;omega))
theorem xZj (f:Fm):sOp gl f:=xGy gl _ f (Nat.lt_succ_self _)
theorem zJg (G:Gl gl)(ca:Nat)(f:Fm)(x:IV)(hx:IsFm f x)(hs:f.size<=1000000)(st:ISt) :
  ICall prog gl 97 [.raw (.int .u8 ca),x] st (λr st'=>r=.raw (.bool (fmB ca f))/\st'=st):=by
 have h1:=λst=>zK8 gl G f x hx st hs;have h2:=λst=>xZj gl f ca x hx st;obtain⟨o5,n5,t5,x5,t6,x6,rfl⟩:=hx.agg;refine iI func97 ?_;simp only[go_sem,zE,zA,zL];refine (h1 _).mono ?_;rintro _ _ ⟨rfl,rfl⟩;cases hr:f.right
 ·simp only[go_sem,zE];exact yQ0 ⟨by simp[fmB,hr],rfl⟩
 ·simp only[go_sem,zE,zA,zL,reduceCtorEq];refine (h2 _).mono ?_;rintro _ _ ⟨rfl,rfl⟩;simp only[go_sem,zE];exact yQ0 ⟨by simp[fmB,hr],rfl⟩
theorem wZk (G:Gl gl)(f g:Fm)(x y:IV)(hx:IsFm f x)(hy:IsFm g y)(hs:f.size<=1000000)(hs':g.size<=1000000)(st:ISt) :
  ICall prog gl 98 [x,y] st (λr st'=>r=.raw (.bool (eqF f g))/\st'=st):=by
 have h1:=λst=>wUk gl G f g x y hx hy hs hs' st;obtain⟨o,n,us,sub⟩:=f;obtain⟨o',n',us',sub'⟩:=g;obtain⟨t1,x1,t2,x2,rfl,_⟩:=hx.mk;obtain⟨t3,x3,t4,x4,rfl,_⟩:=hy.mk;refine iI func98 ?_;by_cases ho:o=o'
 ·subst ho;simp only[go_sem,zE,zA,zL,decide_true];refine (h1 _).mono ?_;rintro _ _ ⟨rfl,rfl⟩;simp only[go_sem,zE];exact yQ0 ⟨by simp[eqF,Fm.op],rfl⟩
 ·have e:decide ((o:Int)=(o':Int))=false:=dEf (by omega);simp only[go_sem,zE,zA,e];exact yQ0 ⟨by simp[eqF,Fm.op,ho],rfl⟩
theorem xJ0 (g:FuncId)(caps:List IV)(he:entI prog g=true)(us:List Fm)(p:Fm->Bool)(hp:∀a∈us,∀x,IsFm a x->∀st,ICall prog gl g (x::caps) st (λr st'=>r=.raw (.bool (p a))/\st'=st))
  (tg:Tag) (xs:List IV) (htg:okEs tg 4) (hxs:IsFms us xs) (st:ISt) :
  ICall prog gl 145 [.sl tg xs,.fn (.func g) [] caps] st (λr st'=>(∃n:Int,r=.raw (.int .i64 n)/\decide (0<=n)=us.any p)/\st'=st):=by
 refine iI func145 ?_;simp only[go_sem,reduceCtorEq,hxs.len];intro _;refine LoopC.ctr us.length (λk fr st' ds=>(us.take k).any p=false/\fr 0=.iv (.sl tg xs)/\fr 1=.iv (.fn (.func g) [] caps)/\fr 7=.iv (.raw (.int .i64 us.length))/\fr 8=.iv (.raw (.int .i64 k))/\st'=st/\ds=[]) ?_ ?_ ?_
 ·simp only[go_sem,zE,reduceCtorEq];exact⟨rfl,rfl⟩
 ·rintro k fr st1 _ hlt ⟨hn,f0,f1,f7,f8,rfl,rfl⟩;obtain⟨a,ha⟩:=yQ4 hlt;obtain⟨y,hky,hy⟩:=hxs.get ha;have hcall:=hp a (lMg ha) y hy st1;obtain⟨o5,n5,t5,x5,t6,x6,rfl⟩:=hy.agg;simp only[go_sem,zE,zB,zA,reduceCtorEq,f0,f1,f7,f8,lt_i hlt,yQ1 htg,iNn,hky,fits,he];refine hcall.mono ?_;rintro _ _ ⟨rfl,rfl⟩;cases hr:p a
  ·simp only[go_sem,zE,reduceCtorEq,f0,f1,f7,f8,yQf hlt (show us.length<=281474976710656 by omega)];rw[yQ6 ha,List.any_append,hn];simp[hr]
  ·simp only[go_sem,zE];refine yQ0 ⟨⟨_,rfl,?_⟩,rfl⟩;rw[dEt (iNn k)];exact (List.any_eq_true.2 ⟨a,lMg ha,hr⟩).symm
 ·rintro fr st1 _ ⟨hn,f0,f1,f7,f8,rfl,rfl⟩;rw[lTl] at hn;simp only[go_sem,f7,f8,yQs (nLi _)];exact yQ0 ⟨⟨_,rfl,by rw[hn];rfl⟩,rfl⟩
theorem yVx (g:FuncId)(caps:List IV)(he:entI prog g=true)(us:List Fm)(p:Fm->Bool)(hp:∀a∈us,∀x,IsFm a x->∀st,ICall prog gl g (x::caps) st (λr st'=>r=.raw (.bool (p a))/\st'=st))
  (tg:Tag) (xs:List IV) (htg:okEs tg 4) (hxs:IsFms us xs) (st:ISt) :
  ICall prog gl 100 [.sl tg xs,.fn (.func g) [] caps] st (λr st'=>r=.raw (.bool (us.any p))/\st'=st):=by
 refine iI func100 ?_;simp only[go_sem,zE,zA,reduceCtorEq];refine (xJ0 gl g caps he us p hp tg xs htg hxs _).mono ?_;rintro _ _ ⟨⟨n,rfl,hn⟩,rfl⟩;simp only[go_sem,hn];exact yQ0 ⟨rfl,rfl⟩
theorem vKm (G:Gl gl)(f g:Fm)(x y:IV)(hx:IsFm f x)(hy:IsFm g y)(hs:f.size<=1000000)(hs':g.size<=1000000)(st:ISt) :
  ICall prog gl 101 [y,.cptr x] st (λr st'=>r=.raw (.bool (eqF f g))/\st'=st):=by
 have h1:=λst=>wZk gl G f g x y hx hy hs hs' st;obtain⟨o5,n5,t5,x5,t6,x6,rfl⟩:=hx.agg;obtain⟨o7,n7,t7,x7,t8,x8,rfl⟩:=hy.agg;refine iI func101 ?_;simp only[go_sem,zE,zA,zL,fits];refine (h1 _).mono ?_;rintro _ _ ⟨rfl,rfl⟩;simp only[go_sem];exact yQ0 ⟨rfl,rfl⟩
theorem wXm (G:Gl gl)(l:List Fm)(f:Fm)(tg:Tag)(xs:List IV)(x:IV)(htg:okEs tg 4)(hxs:IsFms l xs)(hx:IsFm f x)(hl:fitL l)(hs:f.size<=1000000)(st:ISt) :
  ICall prog gl 50 [.sl tg xs,x] st (λr st'=>r=.raw (.bool (hasF l f))/\st'=st):=by
 have h1:=λst=>yVx gl 101 [.cptr x] (by simp only[go_sem]) l (eqF f) (λa ha y hy st=>vKm gl G f a x y hx hy hs (hl a ha) st) tg xs htg hxs st;obtain⟨o5,n5,t5,x5,t6,x6,rfl⟩:=hx.agg;refine ICall.intro (c:=cf prog gl [] [] [3]) func50 rfl (by show _<=8;simp) (by kernel_rfl) ?_;simp only[go_sem,zE,zA,reduceCtorEq];refine (h1 _).mono ?_;rintro _ _ ⟨rfl,rfl⟩;simp only[go_sem];exact yQ0 ⟨rfl,rfl⟩
theorem vKd (G:Gl gl)(l m:List Fm)(t t':Tag)(xs ys:List IV)(ht:okEs t 4)(ht':okEs t' 4)(hxs:IsFms l xs)(hys:IsFms m ys)(hl:fitL l)(hm:fitL m)(st:ISt) :
  ICall prog gl 102 [.sl t xs,.sl t' ys] st (λr st'=>r=.raw (.bool (allF l m))/\st'=st):=by
 refine iI func102 ?_;simp only[go_sem,reduceCtorEq,hxs.len];intro _;refine LoopC.ctr l.length (λk fr st' ds=>(l.take k).all (hasF m)=true/\fr 1=.iv (.sl t' ys)/\fr 7=.iv (.sl t xs)/\fr 8=.iv (.raw (.int .i64 l.length))/\fr 9=.iv (.raw (.int .i64 k))/\st'=st/\ds=[]) ?_ ?_ ?_
 ·simp only[go_sem,zE];rfl
 ·rintro k fr st1 _ hlt ⟨hn,f1,f7,f8,f9,rfl,rfl⟩;obtain⟨a,ha⟩:=yQ4 hlt;obtain⟨y,hky,hy⟩:=hxs.get ha;have hcall:=wXm gl G m a t' ys y ht' hys hy hm (hl a (lMg ha)) st1;obtain⟨o5,n5,t5,x5,t6,x6,rfl⟩:=hy.agg;simp only[go_sem,zE,zB,zA,zL,f1,f7,f8,f9,lt_i hlt,yQ1 ht,iNn,hky,fits];refine hcall.mono ?_;rintro _ _ ⟨rfl,rfl⟩;cases hr:hasF m a
  ·simp only[go_sem];refine yQ0 ⟨?_,rfl⟩;have:allF l m=false:=by
    unfold allF;rw[List.all_eq_false];exact⟨a,lMg ha,by simp[hr]⟩
   rw[this]
  ·simp only[go_sem,zE,f1,f7,f8,f9,yQf hlt (show l.length<=281474976710656 by omega)];rw[yQ6 ha,List.all_append,hn];simp[hr]
 ·rintro fr st1 _ ⟨hn,f1,f7,f8,f9,rfl,rfl⟩;rw[lTl] at hn;simp only[go_sem,f8,f9,yQs (nLi _)];exact yQ0 ⟨by rw[show allF l m=true from hn],rfl⟩
def yYm (s:Sq):Prop:=fitL s.l/\fitL s.r
theorem wV6 (G:Gl gl)(a b:Sq)(x y:IV)(hx:IsSq a x)(hy:IsSq b y)(ha:yYm a)(hb:yYm b)(st:ISt):ICall prog gl 52 [x,y] st (λr st'=>r=.raw (.bool (yKm a b))/\st'=st):=by
 obtain⟨t1,x1,t2,x2,rfl,e1,i1,e2,i2⟩:=hx;obtain⟨t3,x3,t4,x4,rfl,e3,i3,e4,i4⟩:=hy;refine iI func52 ?_;simp only[go_sem,zE,zA];refine (vKd gl G a.l b.l t1 t3 x1 x3 e1 e3 i1 i3 ha.1 hb.1 _).mono ?_;rintro _ _ ⟨rfl,rfl⟩;cases hr:allF a.l b.l
 ·simp only[go_sem,zE];exact yQ0 ⟨by simp[yKm,hr],rfl⟩
 ·simp only[go_sem,zE,zA];refine (vKd gl G a.r b.r t2 t4 x2 x4 e2 e4 i2 i4 ha.2 hb.2 _).mono ?_;rintro _ _ ⟨rfl,rfl⟩;simp only[go_sem,zE];exact yQ0 ⟨by simp[yKm,hr],rfl⟩
theorem yG5 (a b:Int)(v:IV):∀es:List (Value×IV),yKj (.int .u8 a) (updI (.int .u8 b) v es)=if a=b then some v else yKj (.int .u8 a) es
 | []=>by
  simp only[updI,yKj,yW4];by_cases h:a=b<;>simp[h]
 | (x,u)::es=>by
  simp only[updI];by_cases hk:yW4 (.int .u8 b) x=true
  ·rw[if_pos hk];have hx:∀c,yW4 (.int .u8 c) x=decide (c=b):=λc=>by
    cases x<;>simp[yW4] at hk ⊢;rw[hk]
   have e:yW4 (.int .u8 a) (.int .u8 b)=decide (a=b):=rfl;simp only[yKj,e,hx];by_cases h:a=b<;>simp[h]
  ·rw[if_neg hk];simp only[yKj];rw[yG5 a b v es];by_cases h:a=b
   ·subst h;simp[hk]
   ·simp[h]
def zKs (ca rule:Nat):Nat :=
 if ca=2/\rule=18 then 151 else if ca=2/\rule=8 then 149
 else if rule=13\/rule=15 then 152 else if rule=14\/rule=16 then 154
 else if rule=1 then 197 else if rule=2 then 198 else if rule=3 then 199 else if rule=4 then 200
 else if rule=5 then 201 else if rule=6 then 202 else if rule=7 then 203 else if rule=8 then 204
 else if rule=9 then 205 else if rule=10 then 206 else if rule=11 then 207 else if rule=12 then 209
 else 210
def rwI (ca rule:Nat)(r:Rw):IV:=.agg [.raw (.bool r.left),.raw (.bool r.right),.raw (.int .u8 r.op),.raw (.int .u8 r.asks),.fn (.func (zKs ca rule)) [] []]
def rwL (a b:Bool)(op asks id:Nat):IV:=.agg [.raw (.bool a),.raw (.bool b),.raw (.int .u8 op),.raw (.int .u8 asks),.fn (.func id) [] []]
def zV9:List (Value×IV) :=
 updI (.int .u8 17) (rwL false false 0 0 210) <| updI (.int .u8 12) (rwL false true 7 0 209) <| updI (.int .u8 11) (rwL true false 7 0 207) <|
 updI (.int .u8 10) (rwL false true 6 0 206) <| updI (.int .u8 9) (rwL true false 6 0 205) <| updI (.int .u8 8) (rwL false true 5 0 204) <|
 updI (.int .u8 7) (rwL true false 5 0 203) <| updI (.int .u8 6) (rwL false true 4 0 202) <| updI (.int .u8 5) (rwL true false 4 0 201) <|
 updI (.int .u8 4) (rwL false true 3 0 200) <| updI (.int .u8 3) (rwL true false 3 0 199) <| updI (.int .u8 2) (rwL true false 2 0 198) <|
 updI (.int .u8 1) (rwL true true 0 0 197) []
def yUh (ca:Nat):List (Value×IV) :=
 if ca=2 then updI (.int .u8 18) (rwL false true 5 0 151) <| updI (.int .u8 8) (rwL false true 5 0 149) zV9
 else if ca=3 then updI (.int .u8 16) (rwL false true 9 1 154) <| updI (.int .u8 15) (rwL true false 9 2 152) <| updI (.int .u8 14) (rwL false true 8 2 154) <|
  updI (.int .u8 13) (rwL true false 8 1 152) zV9
 else zV9
theorem wG0 (st:ISt):ICall prog gl 148 [] st (λr st'=>∃b,st b=none/\r=.raw (.map (some b))/\st'=st.put b (some (.map (.int .u8) zV9))):=by
 refine iI func148 ?_;simp only[go_sem,zE,zA,zL,fits];refine λb=>yQ9 λhb=>?_;simp only[go_sem,yQ8];exact yQ0 ⟨b,hb,rfl,rfl⟩
theorem wYt (ca:Nat)(st:ISt):ICall prog gl 106 [.raw (.int .u8 ca)] st (λr st'=>∃b,st b=none/\r=.raw (.map (some b))/\st'=st.put b (some (.map (.int .u8) (yUh ca)))):=by
 refine iI func106 ?_;simp only[go_sem,zA];refine (wG0 gl _).mono ?_;rintro _ _ ⟨b,hb,rfl,rfl⟩;by_cases h2:ca=2
 ·have e2:decide ((ca:Int)=2)=true:=dEt (by omega);simp only[go_sem,zE,zA,zL,reduceCtorEq,e2,fits,ISt.put_same,yQ8];exact yQ0 ⟨b,hb,rfl,by rw[yUh,if_pos h2];rfl⟩
 ·have e2:decide ((ca:Int)=2)=false:=dEf (by omega);by_cases h3:ca=3
  ·have e3:decide ((ca:Int)=3)=true:=dEt (by omega);simp only[go_sem,zE,zA,zL,reduceCtorEq,e2,e3,fits,ISt.put_same,yQ8];exact yQ0 ⟨b,hb,rfl,by rw[yUh,if_neg h2,if_pos h3];rfl⟩
  ·have e3:decide ((ca:Int)=3)=false:=dEf (by omega);simp only[go_sem,zE,reduceCtorEq,e2,e3];exact yQ0 ⟨b,hb,rfl,by rw[yUh,if_neg h2,if_neg h3]⟩
theorem xZh (rule:Nat):yKj (.int .u8 rule) zV9=(rowK rule).map λr=>.agg [.raw (.bool r.left),.raw (.bool r.right),.raw (.int .u8 r.op),.raw (.int .u8 r.asks),.fn (.func (zKs 1 rule)) [] []]:=by
 unfold zV9;simp only[yG5];by_cases h:rule<=18
 ·rcases (show rule=0\/rule=1\/rule=2\/rule=3\/rule=4\/rule=5\/rule=6\/rule=7\/rule=8\/rule=9\/rule=10\/rule=11\/rule=12\/rule=13\/rule=14\/rule=15\/rule=16\/rule=17\/rule=18 by omega) with
   rfl|rfl|rfl|rfl|rfl|rfl|rfl|rfl|rfl|rfl|rfl|rfl|rfl|rfl|rfl|rfl|rfl|rfl|rfl<;>rfl
 ·have hn:rowK rule=none:=by unfold rowK;repeat (rw[if_neg (by omega)])
  rw[hn]
  repeat (rw[if_neg (by omega)])
  rfl
theorem zXn (ca rule:Nat):yKj (.int .u8 rule) (yUh ca)=(rowS ca rule).map (rwI ca rule):=by
 have hp:=xZh rule;by_cases h:rule<=18
 ·have hr:rule=0\/rule=1\/rule=2\/rule=3\/rule=4\/rule=5\/rule=6\/rule=7\/rule=8\/rule=9\/rule=10\/rule=11\/rule=12\/rule=13\/rule=14\/rule=15\/rule=16\/rule=17\/rule=18:=by omega
  by_cases h2:ca=2
  ·subst h2;simp only[yUh,if_true,yG5,hp];rcases hr with rfl|rfl|rfl|rfl|rfl|rfl|rfl|rfl|rfl|rfl|rfl|rfl|rfl|rfl|rfl|rfl|rfl|rfl|rfl<;>rfl
  ·by_cases h3:ca=3
   ·subst h3;simp only[yUh,if_true,if_neg h2,yG5,hp];rcases hr with rfl|rfl|rfl|rfl|rfl|rfl|rfl|rfl|rfl|rfl|rfl|rfl|rfl|rfl|rfl|rfl|rfl|rfl|rfl<;>rfl
   ·have hk:rowS ca rule=rowK rule:=by
     unfold rowS;rw[if_neg (by omega),if_neg (by omega),if_neg (by omega),if_neg (by omega),if_neg (by omega)]
    have hi:∀r,rowK rule=some r->zKs 1 rule=zKs ca rule:=λ_ _=>by
     unfold zKs;rw[if_neg (by omega),if_neg (by omega)]
     conv=>rhs;rw[if_neg (by omega),if_neg (by omega)]
    simp only[yUh,if_neg h2,if_neg h3,hp,hk];cases hq:rowK rule with
    | none=>rfl
    | some r=>simp only[Option.map_some,rwI,hi r hq]
 ·have hn:rowS ca rule=none:=by
   unfold rowS;rw[if_neg (by omega),if_neg (by omega),if_neg (by omega),if_neg (by omega),if_neg (by omega)];unfold rowK;repeat (rw[if_neg (by omega)])
  have hk:rowK rule=none:=by unfold rowK;repeat (rw[if_neg (by omega)])
  rw[hk] at hp;rw[hn];unfold yUh;split
  ·simp only[yG5,hp];repeat (rw[if_neg (by omega)])
   rfl
  ·split
   ·simp only[yG5,hp];repeat (rw[if_neg (by omega)])
    rfl
   ·rw[hp];rfl
theorem wV5 {ca rule:Nat}{r:Rw}(h:rowS ca rule=some r):yWu gl (zKs ca rule) (addS ca rule)/\entI prog (zKs ca rule)=true:=by
 have hr:rule<=18:=by
  refine Classical.byContradiction λhc=>?_;have hn:rowS ca rule=none:=by
   unfold rowS;rw[if_neg (by omega),if_neg (by omega),if_neg (by omega),if_neg (by omega),if_neg (by omega)];unfold rowK;repeat (rw[if_neg (by omega)])
  rw[hn] at h;cases h
 have hcas:rule=0\/rule=1\/rule=2\/rule=3\/rule=4\/rule=5\/rule=6\/rule=7\/rule=8\/rule=9\/rule=10\/rule=11\/rule=12\/rule=13\/rule=14\/rule=15\/rule=16\/rule=17\/rule=18:=by omega
 by_cases h2:ca=2
 ·subst h2;rcases hcas with rfl|rfl|rfl|rfl|rfl|rfl|rfl|rfl|rfl|rfl|rfl|rfl|rfl|rfl|rfl|rfl|rfl|rfl|rfl
  all_goals first|(cases h;done)|exact⟨wXh gl,by kernel_rfl⟩|exact⟨wXg gl,by kernel_rfl⟩|exact⟨wXf gl,by kernel_rfl⟩|exact⟨wXe gl,by kernel_rfl⟩|exact⟨wXd gl,by kernel_rfl⟩|exact⟨wXc gl,by kernel_rfl⟩|exact⟨wXb gl,by kernel_rfl⟩|exact⟨wXa gl,by kernel_rfl⟩|exact⟨xXs gl,by kernel_rfl⟩|exact⟨wX9 gl,by kernel_rfl⟩|exact⟨xXx gl,by kernel_rfl⟩|exact⟨xXw gl,by kernel_rfl⟩|exact⟨xXv gl,by kernel_rfl⟩|exact⟨xXu gl,by kernel_rfl⟩|exact⟨xXt gl,by kernel_rfl⟩|exact⟨wX8 gl,by kernel_rfl⟩|exact⟨wX7 gl,by kernel_rfl⟩
 ·by_cases h3:ca=3
  ·subst h3;rcases hcas with rfl|rfl|rfl|rfl|rfl|rfl|rfl|rfl|rfl|rfl|rfl|rfl|rfl|rfl|rfl|rfl|rfl|rfl|rfl
   all_goals first|(cases h;done)|exact⟨wXh gl,by kernel_rfl⟩|exact⟨wXg gl,by kernel_rfl⟩|exact⟨wXf gl,by kernel_rfl⟩|exact⟨wXe gl,by kernel_rfl⟩|exact⟨wXd gl,by kernel_rfl⟩|exact⟨wXc gl,by kernel_rfl⟩|exact⟨wXb gl,by kernel_rfl⟩|exact⟨wXa gl,by kernel_rfl⟩|exact⟨xXs gl,by kernel_rfl⟩|exact⟨wX9 gl,by kernel_rfl⟩|exact⟨xXx gl,by kernel_rfl⟩|exact⟨xXw gl,by kernel_rfl⟩|exact⟨xXv gl,by kernel_rfl⟩|exact⟨xXu gl,by kernel_rfl⟩|exact⟨xXt gl,by kernel_rfl⟩|exact⟨wX8 gl,by kernel_rfl⟩|exact⟨wX7 gl,by kernel_rfl⟩
  ·have hk:rowS ca rule=rowS 1 rule:=by
    unfold rowS;rw[if_neg (by omega),if_neg (by omega),if_neg (by omega),if_neg (by omega),if_neg (by omega)]
    conv=>rhs;rw[if_neg (by omega),if_neg (by omega),if_neg (by omega),if_neg (by omega),if_neg (by omega)]
   have hi:zKs ca rule=zKs 1 rule:=by
    unfold zKs;rw[if_neg (by omega),if_neg (by omega)]
    conv=>rhs;rw[if_neg (by omega),if_neg (by omega)]
   have hs:addS ca rule=addS 1 rule:=by
    funext m a b;unfold addS;rw[if_neg h2,if_neg (show ¬ (1:Nat)=2 by decide)]
   rw[hk] at h;rw[hi,hs];rcases hcas with rfl|rfl|rfl|rfl|rfl|rfl|rfl|rfl|rfl|rfl|rfl|rfl|rfl|rfl|rfl|rfl|rfl|rfl|rfl
   all_goals first|(cases h;done)|exact⟨wXh gl,by kernel_rfl⟩|exact⟨wXg gl,by kernel_rfl⟩|exact⟨wXf gl,by kernel_rfl⟩|exact⟨wXe gl,by kernel_rfl⟩|exact⟨wXd gl,by kernel_rfl⟩|exact⟨wXc gl,by kernel_rfl⟩|exact⟨wXb gl,by kernel_rfl⟩|exact⟨wXa gl,by kernel_rfl⟩|exact⟨xXs gl,by kernel_rfl⟩|exact⟨wX9 gl,by kernel_rfl⟩|exact⟨xXx gl,by kernel_rfl⟩|exact⟨xXw gl,by kernel_rfl⟩|exact⟨xXv gl,by kernel_rfl⟩|exact⟨xXu gl,by kernel_rfl⟩|exact⟨xXt gl,by kernel_rfl⟩|exact⟨wX8 gl,by kernel_rfl⟩|exact⟨wX7 gl,by kernel_rfl⟩
