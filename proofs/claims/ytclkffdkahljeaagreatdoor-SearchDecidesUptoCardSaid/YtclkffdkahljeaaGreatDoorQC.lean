/- Walks: formulas in order, each once. -/
import Derived.Test.YtclkffdkahljeaaGreatDoorQB
import Derived.Test.YtclkffdkahljeaaGreatDoorLA
set_option linter.all false
open Nat renaming reduceEqDiff → zE,reduceBEq → zB,reduceAdd → zA,reduceMul → zM,reduceSub → zS,reduceLeDiff → zL
namespace Go.Proofs.Tryz
open Go Go.Iv Go.Shelf Go.RowKit
set_option maxRecDepth 4000
variable (gl:Nat->Option IV)
mutual
theorem wUa:∀(a b:Tm)(x:IV),IsTm a x->IsTm b x->a=b
 | .mk v n us,.mk w m ws,x,h,k=>by
  obtain⟨t,xs,rfl,_,h1⟩:=h.mk;obtain⟨t',xs',hx,_,h2⟩:=k.mk;simp only[IV.agg.injEq,List.cons.injEq,IV.raw.injEq,Value.bool.injEq,Value.string.injEq,IV.sl.injEq,and_true] at hx;obtain⟨rfl,rfl,rfl,rfl⟩:=hx;rw[zUa us ws xs h1 h2]
theorem zUa:∀(l m:List Tm)(xs:List IV),IsTms l xs->IsTms m xs->l=m
 | [],[],_,_,_=>rfl
 | [],b::m,xs,h,k=>by
  simp only[IsTms] at h k;obtain⟨y,ys,rfl,_⟩:=k;cases h
 | a::l,[],xs,h,k=>by
  simp only[IsTms] at h k;obtain⟨y,ys,rfl,_⟩:=h;cases k
 | a::l,b::m,xs,h,k=>by
  simp only[IsTms] at h k;obtain⟨y,ys,rfl,h1,h2⟩:=h;obtain⟨y',ys',he,k1,k2⟩:=k;cases he;rw[wUa a b y h1 k1,zUa l m ys h2 k2]
end
mutual
theorem wKd:∀(a b:Fm)(x:IV),IsFm a x->IsFm b x->a=b
 | .mk o n us sub,.mk o' m ws sub',x,h,k=>by
  obtain⟨t,xs,t2,xs2,rfl,_,_,h1,_,h2⟩:=h.mk;obtain⟨t',xs',t2',xs2',hx,_,_,k1,_,k2⟩:=k.mk;simp only[IV.agg.injEq,List.cons.injEq,IV.raw.injEq,Value.int.injEq,Value.string.injEq,IV.sl.injEq,and_true,true_and,Int.natCast_inj] at hx;obtain⟨rfl,rfl,⟨rfl,rfl⟩,rfl,rfl⟩:=hx;rw[zUa us ws xs h1 k1,xU9 sub sub' xs2 h2 k2]
theorem xU9:∀(l m:List Fm)(xs:List IV),IsFms l xs->IsFms m xs->l=m
 | [],[],_,_,_=>rfl
 | [],b::m,xs,h,k=>by
  simp only[IsFms] at h k;obtain⟨y,ys,rfl,_⟩:=k;cases h
 | a::l,[],xs,h,k=>by
  simp only[IsFms] at h k;obtain⟨y,ys,rfl,_⟩:=h;cases k
 | a::l,b::m,xs,h,k=>by
  simp only[IsFms] at h k;obtain⟨y,ys,rfl,h1,h2⟩:=h;obtain⟨y',ys',he,k1,k2⟩:=k;cases he;rw[wKd a b y h1 k1,xU9 l m ys h2 k2]
end
open Classical in
noncomputable def rdF (x:IV):Fm:=if h:∃a,IsFm a x then h.choose else fm0
theorem xX5 {a:Fm}{x:IV}(h:IsFm a x):rdF x=a:=by
 have he:∃a,IsFm a x:=⟨a,h⟩
 unfold rdF;rw[dif_pos he];exact wKd _ _ x he.choose_spec h
theorem xX4:∀ {l:List Fm}{xs:List IV},IsFms l xs->xs.map rdF=l
 | [],_,rfl=>rfl
 | a::l,_,⟨x,xs,rfl,hx,hl⟩=>by rw[List.map_cons,xX5 hx,xX4 hl]
theorem wKc:∀ {ys:List IV},(∀y∈ys,∃a,IsFm a y)->IsFms (ys.map rdF) ys
 | [],_=>rfl
 | y::ys,h=>by
  obtain⟨a,ha⟩:=h y (by simp);exact⟨y,ys,rfl,by rw[xX5 ha];exact ha,wKc λz hz=>h z (by simp[hz])⟩
theorem yUy:∀ {l:List Fm}{xs:List IV},IsFms l xs->∀y∈xs,∃a,IsFm a y/\a∈l
 | [],_,rfl,y,h=>by cases h
 | a::l,_,⟨x,xs,rfl,hx,hl⟩,y,h=>by
  rcases List.mem_cons.1 h with rfl|h
  ·exact⟨a,hx,by simp⟩
  ·obtain⟨b,hb,hm⟩:=yUy hl y h;exact⟨b,hb,by simp[hm]⟩
theorem vXt (l:List Fm)(xs rest:List IV)(hx:IsFms l xs)(hne:xs≠[])(hlen:xs.length<=140737488355328)(b cap:Nat)(st:ISt)(hb:st b=some (.box (xs.flatMap IV.cells++rest))) :
  ICall prog gl 90 [.raw (.slice (some ⟨b,0,none⟩) xs.length cap),.fn (.func 91) [] []] st
   (λr st'=>r=.tup []/\∃(m:List Fm) (ys:List IV),IsFms m ys/\m.Perm l/\m.Pairwise (λx y=>¬ yZa y x<0)/\(∀y∈ys,y∈xs)/\st'=st.put b (some (.box (ys.flatMap IV.cells++rest)))):=by
 refine (xVq gl 91 ?_ xs rest b cap st hne hlen (yY0 hx) hb (λx y=>yZa (rdF x) (rdF y)) (λx _=>yV8 _) (λx _ y _ z _=>yVo _ _ _) (λx _ y _ z _ h1 h2 h3=>?_) (λx hxm y hym=>?_)).mono ?_
 ·exact enters_of func91 (by kernel_rfl) rfl
 ·rcases Int.lt_or_le (yZa (rdF y) (rdF x)) 0 with h|h
  ·have:=yVo _ _ _ h h3;exact h2 this
  ·have hxy:yZa (rdF x) (rdF y)=0:=by
    have:=yV7 (rdF x) (rdF y);omega
   rw[(yJ4 _ _).1 hxy] at h3;exact h2 h3
 ·obtain⟨a,ha,_⟩:=yUy hx x hxm;obtain⟨c,hc,_⟩:=yUy hx y hym;rw[xX5 ha,xX5 hc];exact (zXq (λ_=>none) a c x y ha hc _).mono λr st' h=>h.1
 ·rintro r st' ⟨rfl,ys,hp,hpw,rfl⟩;refine⟨rfl,ys.map rdF,ys,wKc λy hy=>?_,?_,?_,λy hy=>hp.mem_iff.1 hy,rfl⟩
  ·obtain⟨a,ha,_⟩:=yUy hx y (hp.mem_iff.1 hy);exact⟨a,ha⟩
  ·rw[<- xX4 hx];exact hp.map rdF
  ·exact List.pairwise_map.2 hpw
theorem wQl (t:Tag)(ht:t.cap=.nil)(st:ISt):ICall prog gl 90 [.sl t [],.fn (.func 91) [] []] st (λr st'=>r=.tup []/\st'=st):=by
 obtain⟨fs,c,es⟩:=t;obtain rfl:c=.nil:=ht;intro B X rs hg hst hv;obtain⟨r0,r1,rfl⟩:∃r0 r1,rs=[r0,r1]:=by
  match rs,hv with
  | [a,b],_=>exact⟨a,b,rfl⟩
  | [],hv=>cases hv.1
  | [_],hv=>cases hv.1
  | _::_::_::_,hv=>cases hv.1
 obtain⟨p,cap,rfl⟩:∃p cap,r0=.slice p 0 cap:=by
  have:=hv.2 0 r0 _ rfl rfl;obtain⟨a,cap,_,_,rfl,_⟩:=V.sl_inv this;exact⟨a,cap,rfl⟩
 refine Calls.mono (AnyF.slices_SortFunc_none Tryz.sortFL p cap r1 X.w) ?_;rintro e w' ⟨rfl,rfl⟩;exact⟨_,rfl,X,.tup [],rfl,hg,Ext.refl X,.tup [] [] rfl (λi r c h=>by simp at h),rfl,hst⟩
noncomputable def ddF (p:Fm):List Fm->List Fm
 | []=>[]
 | b::l=>if yZa b p=0 then ddF b l else b::ddF b l
noncomputable def dd:List Fm->List Fm
 | []=>[]
 | a::l=>a::ddF a l
theorem xJi:∀(p:Fm)(l:List Fm)(a b:Fm),(p::l).getLast?=some a->ddF p (l++[b])=ddF p l++(if yZa b a=0 then [] else [b])
 | p,[],a,b,h=>by
  simp only[List.getLast?_singleton,Option.some.injEq] at h;subst h;simp only[List.nil_append,ddF]
 | p,c::l,a,b,h=>by
  rw[List.getLast?_cons_cons] at h;simp only[List.cons_append,ddF,xJi c l a b h];split<;>rfl
theorem wWw:∀(l:List Fm)(a b:Fm),l.getLast?=some a->dd (l++[b])=dd l++(if yZa b a=0 then [] else [b])
 | p::l,a,b,h=>by simp only[List.cons_append,dd,xJi p l a b h]
theorem xUo {m:List Fm}{k:Nat}{a b:Fm}(ha:m[k]?=some a)(hb:m[k+1]?=some b):dd (m.take (k+1+1))=dd (m.take (k+1))++(if yZa b a=0 then [] else [b]):=by
 rw[yQ7 hb];exact wWw _ a b (by rw[yQ7 ha,List.getLast?_concat])
theorem xUp:∀(p:Fm)(l:List Fm),(p::l).Pairwise (λx y=>¬ yZa y x<0)->(∀f,f∈p::ddF p l↔f∈p::l)/\(p::ddF p l).Pairwise (λx y=>yZa x y<0)
 | p,[],_=>⟨λf=>Iff.rfl,List.pairwise_singleton ..⟩
 | p,b::l,h=>by
  have h1:=List.pairwise_cons.1 h;obtain⟨i1,i2⟩:=xUp b l h1.2;simp only[ddF];by_cases hc:yZa b p=0
  ·have hbp:=(yJ4 b p).1 hc;subst hbp;rw[if_pos hc];refine⟨λf=>?_,i2⟩;rw[i1 f];simp
  ·rw[if_neg hc];have hlt:yZa p b<0:=by
    have:=h1.1 b (by simp);have:=yV7 b p;omega
   refine⟨λf=>?_,List.pairwise_cons.2 ⟨λf hf=>?_,i2⟩⟩
   ·rw[List.mem_cons,i1 f,List.mem_cons (l:=b::l)]
   ·rcases List.mem_cons.1 hf with rfl|hf
    ·exact hlt
    ·exact yVo _ _ _ hlt ((List.pairwise_cons.1 i2).1 f hf)
theorem vXb (l m:List Fm)(hp:m.Perm l)(h:m.Pairwise (λx y=>¬ yZa y x<0)):SetF l (dd m):=by
 cases m with
 | nil =>
  obtain rfl:=List.Perm.nil_eq hp;exact⟨List.Pairwise.nil,λf=>Iff.rfl⟩
 | cons a m =>
  obtain⟨h1,h2⟩:=xUp a m h;exact⟨h2,λf=>(h1 f).trans hp.mem_iff⟩
theorem rd4 {ys rest cs:List IV}(hf:∀y∈ys,y.cells.length=4)(hlen:cs.length=(ys.flatMap IV.cells++rest).length){i:Nat}{y:IV}(hy:ys[i]?=some y)(hc:∀j,i*4<=j->cs[j]?=(ys.flatMap IV.cells++rest)[j]?) :
  i*4+4<=cs.length/\(cs.drop (i*4)).take 4=y.cells:=by
 have hi:=(lGs hy).1;have h0:ys.flatMap IV.cells=(ys.take i).flatMap IV.cells++(y.cells++(ys.drop (i+1)).flatMap IV.cells):=by
  conv=>lhs;rw[<- List.take_append_drop i ys,List.drop_eq_getElem_cons hi,(lGs hy).2]
  rw[List.flatMap_append,List.flatMap_cons]
 have h1:((ys.take i).flatMap IV.cells).length=i*4:=by
  rw[yQo _ λz hz=>hf z (List.mem_of_mem_take hz),List.length_take];omega
 have hy4:=hf y (lMg hy);have hd:cs.drop (i*4)=(ys.flatMap IV.cells++rest).drop (i*4):=by
  apply List.ext_getElem?;intro j;rw[List.getElem?_drop,List.getElem?_drop,hc _ (by omega)]
 refine⟨?_,?_⟩
 ·rw[hlen,h0];simp only[lLa,h1,hy4];omega
 ·rw[hd,h0,List.append_assoc,List.drop_left' h1,List.append_assoc,List.take_left' hy4]
theorem xJ9:∀ {l:List Fm}{xs:List IV}(k:Nat),IsFms l xs->IsFms (l.take k) (xs.take k)
 | [],_,k,rfl=>by simp[IsFms]
 | a::l,_,0,_=>by simp[IsFms]
 | a::l,_,k+1,⟨y,ys,rfl,hy,h⟩=>by
  rw[List.take_succ_cons,List.take_succ_cons];exact⟨y,ys.take k,rfl,hy,xJ9 k h⟩
theorem st4 {cs l:List IV}{k n:Nat}(hl:l.length=n)(h:k*4+n<=cs.length):(yX8 cs (k*4) l).length=cs.length/\(yX8 cs (k*4) l).take (k*4)=cs.take (k*4)/\(yX8 cs (k*4) l).take (k*4+n)=cs.take (k*4)++l/\∀i,k*4+n<=i->(yX8 cs (k*4) l)[i]?=cs[i]?:=by
 have h1:(cs.take (k*4)).length=k*4:=by rw[List.length_take];omega
 have h2:(cs.take (k*4)++l).length=k*4+n:=by rw[lLa,h1,hl]
 unfold yX8;refine⟨?_,?_,List.take_left' h2,λi hi=>?_⟩
 ·rw[lLa,h2,List.length_drop,hl];omega
 ·rw[List.append_assoc,List.take_left' h1]
 ·rw[List.getElem?_append_right (by omega),h2,List.getElem?_drop,hl];congr 1;omega
theorem yKe {k n:Nat}(h:k<=n):yXi (some ((k:Nat):Int)) none n=some (k,n):=by
 simp only[yXi,Option.getD_none,Option.getD_some];rw[if_pos ⟨by omega,by omega,Int.le_refl _⟩];simp
theorem yU9 {k n:Nat}(h:k<=n):yXi none (some ((k:Nat):Int)) n=some (0,k):=by
 simp only[yXi,Option.getD_none,Option.getD_some];rw[if_pos ⟨Int.le_refl _,by omega,by omega⟩];simp
theorem wQp (qf:FuncId)(ce:entI prog qf=true)(hcmp:∀a b x y,IsFm a x->IsFm b y->∀st,ICall prog gl qf [x,y] st (λr st'=>r=.raw (.bool (decide (yZa a b=0)))/\st'=st))(m:List Fm)(ys rest:List IV)(hx:IsFms m ys)(hlen:m.length<=1099511627776)(g cap:Nat)(hcap:m.length<=cap)(st:ISt)(hb:st g=some (.box (ys.flatMap IV.cells++rest))) :
  ICall prog gl 92 [.raw (.slice (some ⟨g,0,none⟩) m.length cap),.fn (.func qf) [] []] st
   (λr st'=>∃k cs zs,r=.raw (.slice (some ⟨g,0,none⟩) k cap)/\st'=st.put g (some (.box cs))/\cs.length=(ys.flatMap IV.cells++rest).length/\cs.take (k*4)=zs.flatMap IV.cells/\IsFms (dd m) zs/\zs.length=k/\k<=m.length/\∀z∈zs,z∈ys):=by
 have hf4:∀y∈ys,y.cells.length=4:=λy hy=>wWo (yY0 hx y hy);have hyl:=hx.len;have hput:st.put g (some (.box (ys.flatMap IV.cells++rest)))=st:=yXg hb;have same:∀k,dd (m.take k)=m.take k->k=m.length->∃k cs zs,IV.raw (.slice (some ⟨g,0,none⟩) m.length cap)=.raw (.slice (some ⟨g,0,none⟩) k cap)/\st=st.put g (some (.box cs))/\cs.length=(ys.flatMap IV.cells++rest).length/\cs.take (k*4)=zs.flatMap IV.cells/\IsFms (dd m) zs/\zs.length=k/\k<=m.length/\∀z∈zs,z∈ys:=by
  intro k hk hkl;rw[hkl,lTl] at hk;refine⟨m.length,_,ys,rfl,hput.symm,rfl,?_,by rw[hk];exact hx,hyl,Nat.le_refl _,λ_ h=>h⟩;rw[<- hyl,List.take_left' (yQo _ hf4)]
 refine ICall.intro (c:=cf prog gl [22,27,42,47] []) func92 rfl (by show _<=66;simp) (by kernel_rfl) ?_;by_cases h2:m.length<2
 ·have d2:decide (((m.length:Nat):Int)<2)=true:=dEt (by omega);simp only[go_sem,zE,zB,zA,zM,zS,zL,reduceCtorEq,d2];refine yQ0 (same m.length ?_ rfl);rw[lTl]
  match m,h2 with
  | [],_=>rfl
  | [a],_=>rfl
 ·have d2:decide (((m.length:Nat):Int)<2)=false:=dEf (by omega);simp only[go_sem,zE,zB,zA,zM,zS,zL,reduceCtorEq,d2];refine LoopC.ctr (m.length-1) (λc fr st' ds=>dd (m.take (c+1))=m.take (c+1)/\fr 0=.iv (.raw (.slice (some ⟨g,0,none⟩) m.length cap))/\fr 1=.iv (.fn (.func qf) [] [])/\fr 5=.iv (.raw (.int .i64 ((c+1:Nat):Int)))/\st'=st/\ds=[]) ?_ ?_ ?_
  ·simp only[go_sem,zE,zB,zA,zM,zS,zL,reduceCtorEq];refine⟨?_,rfl⟩
   match m,h2 with
   | [],h=>exact absurd (show 0<2 by decide) h
   | [a],h=>exact absurd (show 1<2 by decide) h
   | a::b::l,_=>rfl
  ·rintro c fr st1 _ hlt ⟨hd,f0,f1,f5,rfl,rfl⟩;have hlt':c+1<m.length:=by omega
   obtain⟨a,ha⟩:=yQ2 (l:=m) (k:=c) (by omega);obtain⟨b,hbm⟩:=yQ2 hlt';obtain⟨x,hkx,hxa⟩:=hx.get ha;obtain⟨y,hky,hyb⟩:=hx.get hbm;have hcall:=hcmp b a y x hyb hxa st1;obtain⟨rx1,rx2⟩:=rd4 (rest:=rest) hf4 rfl hkx (λ_ _=>rfl);obtain⟨ry1,ry2⟩:=rd4 (rest:=rest) hf4 rfl hky (λ_ _=>rfl);obtain⟨x1,x2,x3,x4,x5,x6,rfl⟩:=hxa.agg;obtain⟨y1,y2,y3,y4,y5,y6,rfl⟩:=hyb.agg;simp only[IV.cells] at rx2 ry2;have hw:IntKind.i64.wrap (((c+1:Nat):Int)-1)=(c:Nat):=by rw[w64 (by omega) (by omega)];omega
   simp only[go_sem,zE,zB,zA,zM,zS,zL,reduceCtorEq,f0,f1,f5,lt_i hlt',hw,hlt',show c<m.length by omega,iNn,hb,rx1,ry1,rx2,ry2,fits,ce];refine hcall.mono ?_;rintro _ st1 ⟨rfl,rfl⟩;have hds:=xUo ha hbm;by_cases he:yZa b a=0
   ·rw[if_pos he,List.append_nil,hd] at hds;have hcne:¬ cap=c+1:=by omega
    simp only[go_sem,zE,zB,zA,zM,zS,zL,reduceCtorEq,dEt he,f0,f1,f5,yKe (show c+1<=m.length by omega),hcap,hcne];refine LoopC.ctr (m.length-(c+1)-1) (λj fr st' ds=>(∃k cs zs,fr 5=.iv (.raw (.int .i64 ((k:Nat):Int)))/\st'=st1.put g (some (.box cs))/\cs.length=(ys.flatMap IV.cells++rest).length/\cs.take (k*4)=zs.flatMap IV.cells/\IsFms (dd (m.take (c+1+j+1))) zs/\zs.length=k/\k<=c+1+j/\(∀z∈zs,z∈ys)/\∀i,(c+1+j)*4<=i->cs[i]?=(ys.flatMap IV.cells++rest)[i]?) /\
     fr 0=.iv (.raw (.slice (some ⟨g,0,none⟩) m.length cap))/\fr 1=.iv (.fn (.func qf) [] [])/\fr 6=.iv (.raw (.slice (some ⟨g,(c+1)*4,none⟩) (m.length-(c+1)) (cap-(c+1))))/\fr 7=.iv (.raw (.int .i64 ((j+1:Nat):Int)))/\ds=[]) ?_ ?_ ?_
    ·simp only[go_sem,zE,zB,zA,zM,zS,zL,reduceCtorEq];refine⟨⟨c+1,ys.flatMap IV.cells++rest,ys.take (c+1),f5,(yXg hb).symm,rfl,?_,?_,?_,Nat.le_refl _,λz hz=>List.mem_of_mem_take hz,λ_ _=>rfl⟩,f0,f1,rfl⟩
     ·conv=>lhs;rw[<- List.take_append_drop (c+1) ys]
      rw[List.flatMap_append,List.append_assoc,List.take_left' (by rw[yQo _ λz hz=>hf4 z (List.mem_of_mem_take hz),List.length_take];omega)]
     ·rw[hds];exact xJ9 _ hx
     ·rw[List.length_take];omega
    ·rintro j fr st2 _ hj ⟨⟨k,cs,zs,f5,rfl,hcl,hct,hz,hzl,hk,hzm,hcs⟩,f0,f1,f6,f7,rfl⟩;obtain⟨a',ha'⟩:=yQ2 (l:=m) (k:=c+1+j) (by omega);obtain⟨b',hb'⟩:=yQ2 (l:=m) (k:=c+1+j+1) (by omega);obtain⟨x',hkx',hxa'⟩:=hx.get ha';obtain⟨y',hky',hyb'⟩:=hx.get hb';have hyb0:=hyb';have hcall':=hcmp b' a' y' x' hyb' hxa' (st1.put g (some (.box cs)));obtain⟨rx1',rx2'⟩:=rd4 hf4 hcl hkx' hcs;obtain⟨ry1',ry2'⟩:=rd4 hf4 hcl hky' (λi hi=>hcs i (by omega));have hy4:=hf4 y' (lMg hky');obtain⟨p1,p2,p3,p4,p5,p6,rfl⟩:=hxa'.agg;obtain⟨q1,q2,q3,q4,q5,q6,rfl⟩:=hyb'.agg;simp only[IV.cells] at rx2' ry2' hy4;have hw':IntKind.i64.wrap (((j+1:Nat):Int)-1)=(j:Nat):=by rw[w64 (by omega) (by omega)];omega
     have o1:(c+1)*4+j*4=(c+1+j)*4:=by omega
     have o2:(c+1)*4+(j+1)*4=(c+1+j+1)*4:=by omega
     have hj1:j+1<m.length-(c+1):=by omega
     have hj0:j<m.length-(c+1):=by omega
     have hds':=xUo ha' hb';simp only[go_sem,zE,zB,zA,zM,zS,zL,reduceCtorEq,f0,f1,f5,f6,f7,lt_i hj1,hj0,hj1,hw',iNn,ISt.put_same,o1,o2,rx1',ry1',rx2',ry2',fits,ce];refine hcall'.mono ?_;rintro _ _ ⟨rfl,rfl⟩;by_cases he':yZa b' a'=0
     ·rw[if_pos he',List.append_nil] at hds';simp only[go_sem,zE,zB,zA,zM,zS,zL,reduceCtorEq,dEt he',f0,f1,f5,f6,f7,yQd hj1 (show m.length-(c+1)<=281474976710656 by omega)];exact⟨k,cs,zs,rfl,rfl,hcl,hct,by rw[show c+1+(j+1)+1=c+1+j+1+1 by omega,hds'];exact hz,hzl,by omega,hzm,λi hi=>hcs i (by omega)⟩
     ·rw[if_neg he'] at hds';have hkm:k<m.length:=by omega
      have hk4:k*4+4<=cs.length:=by omega
      obtain⟨s1,s2,s3,s4⟩:=st4 hy4 hk4;simp only[go_sem,zE,zB,zA,zM,zS,zL,reduceCtorEq,dEf he',f0,f1,f5,f6,f7,hj1,hkm,iNn,ISt.put_same,o2,ry1',ry2',hk4,fits,yQd hkm (show m.length<=281474976710656 by omega),yQd hj1 (show m.length-(c+1)<=281474976710656 by omega)];refine⟨k+1,yX8 cs (k*4) [.raw (.int .u8 q1),.raw (.string q2),.sl q3 q4,.sl q5 q6],zs++[.agg [.raw (.int .u8 q1),.raw (.string q2),.sl q3 q4,.sl q5 q6]],rfl,by rw[yQ8];rfl,s1.trans hcl,?_,?_,by simp[hzl],by omega,λz hz=>by
        rcases List.mem_append.1 hz with hz|hz
        ·exact hzm z hz
        ·rw[List.mem_singleton.1 hz];exact lMg hky',λi hi=>(s4 i (by omega)).trans (hcs i (by omega))⟩
      ·rw[show (k+1)*4=k*4+4 by omega,s3,hct,List.flatMap_append];simp[IV.cells]
      ·rw[show c+1+(j+1)+1=c+1+j+1+1 by omega,hds'];exact hz.append ⟨_,_,rfl,hyb0,rfl⟩
    ·rintro fr st2 _ ⟨⟨k,cs,zs,f5,rfl,hcl,hct,hz,hzl,hk,hzm,hcs⟩,f0,f1,f6,f7,rfl⟩;have hkm:k<m.length:=by omega
     have hck:¬ cap=k:=by omega
     have hmk:¬ m.length-k=0:=by omega
     have hlen4:m.length*4<=cs.length:=by rw[hcl,lLa,yQo _ hf4];omega
     have hk4:k*4+(m.length-k)*4<=cs.length:=by omega
     obtain⟨s1,s2,s3,s4⟩:=st4 (cs:=cs) (k:=k) (l:=List.replicate ((m.length-k)*4) .junk) (List.length_replicate ..) hk4;rw[show m.length-(c+1)-1+1=m.length-(c+1) by omega] at f7;simp only[go_sem,zE,zB,zA,zM,zS,zL,reduceCtorEq,f0,f1,f5,f6,f7,yQm (nLi _),yKe (show k<=m.length by omega),yU9 (show k<=cap by omega),hcap,hck,hmk,ISt.put_same,hk4,ite_self,Nat.zero_mul];rw[show c+1+(m.length-(c+1)-1)+1=m.length by omega,lTl] at hz;exact yQ0 ⟨k,yX8 cs (k*4) (List.replicate ((m.length-k)*4) .junk),zs,rfl,by rw[yQ8];rfl,s1.trans hcl,s2.trans hct,hz,hzl,by omega,hzm⟩
   ·rw[if_neg he,hd] at hds;simp only[go_sem,zE,zB,zA,zM,zS,zL,reduceCtorEq,dEf he,f0,f1,f5,yQd hlt' (show m.length<=281474976710656 by omega)];rw[hds,yQ7 hbm]
  ·rintro fr st1 _ ⟨hd,f0,f1,f5,rfl,rfl⟩;rw[show m.length-1+1=m.length by omega] at hd f5;simp only[go_sem,zE,zB,zA,zM,zS,zL,reduceCtorEq,f0,f5,yQm (nLi _)];exact yQ0 (same m.length hd rfl)
end Go.Proofs.Tryz
namespace Go.Proofs.Tryz
open Go Go.Iv
set_option maxRecDepth 4000
variable (gl:Nat->Option IV)
theorem yQi (l:List Nat):(yQh l).length=l.length:=by simp[yQh]
theorem yZc {l:List Nat}{i n:Nat}(h:l[i]?=some n):(yQh l)[i]?=some (.raw (.int .i64 (n:Int))):=by simp[yQh,h]
theorem xGn (l:List Nat)(k:Nat):(yQh l).take k=yQh (l.take k):=by simp[yQh,List.map_take]
theorem zW2 (l m:List Nat):yQh (l++m)=yQh l++yQh m:=by simp[yQh]
theorem rd1 {m:List Nat}{rest cs:List IV}{i n:Nat}(h:m[i]?=some n)(hc:cs[i]?=(yQh m++rest)[i]?):cs[i]?=some (.raw (.int .i64 (n:Int))):=by
 rw[hc,List.getElem?_append_left (by rw[yQi];exact (lGs h).1),yZc h]
theorem st1_ {cs l:List IV}{k n:Nat}(hl:l.length=n)(h:k+n<=cs.length):(yX8 cs k l).length=cs.length/\(yX8 cs k l).take k=cs.take k/\(yX8 cs k l).take (k+n)=cs.take k++l/\∀i,k+n<=i->(yX8 cs k l)[i]?=cs[i]?:=by
 have h1:(cs.take k).length=k:=by rw[List.length_take];omega
 have h2:(cs.take k++l).length=k+n:=by rw[lLa,h1,hl]
 unfold yX8;refine⟨?_,?_,List.take_left' h2,λi hi=>?_⟩
 ·rw[lLa,h2,List.length_drop,hl];omega
 ·rw[List.append_assoc,List.take_left' h1]
 ·rw[List.getElem?_append_right (by omega),h2,List.getElem?_drop,hl];congr 1;omega
theorem zKx (m:List Nat)(rest:List IV)(hlen:m.length<=1099511627776)(g cap:Nat)(hcap:m.length<=cap)(st:ISt)(hb:st g=some (.box (yQh m++rest))) :
  ICall prog gl 107 [.raw (.slice (some ⟨g,0,none⟩) m.length cap)] st
   (λr st'=>∃cs,r=.raw (.slice (some ⟨g,0,none⟩) (ddN m).length cap)/\st'=st.put g (some (.box cs))/\cs.length=(yQh m++rest).length/\cs.take (ddN m).length=yQh (ddN m)/\(ddN m).length<=m.length):=by
 have hput:st.put g (some (.box (yQh m++rest)))=st:=yXg hb;have same:ddN m=m->∃cs,IV.raw (.slice (some ⟨g,0,none⟩) m.length cap)=.raw (.slice (some ⟨g,0,none⟩) (ddN m).length cap)/\st=st.put g (some (.box cs))/\cs.length=(yQh m++rest).length/\cs.take (ddN m).length=yQh (ddN m)/\(ddN m).length<=m.length:=by
  intro hk;rw[hk];exact⟨_,rfl,hput.symm,rfl,by rw[List.take_left' (yQi m)],Nat.le_refl _⟩
 refine ICall.intro (c:=cf prog gl [19,24,38,43] []) func107 rfl (by show _<=61;simp) (by kernel_rfl) ?_;by_cases h2:m.length<2
 ·have d2:decide (((m.length:Nat):Int)<2)=true:=dEt (by omega);simp only[go_sem,zE,zB,zA,zM,zS,zL,reduceCtorEq,d2];refine yQ0 (same ?_)
  match m,h2 with
  | [],_=>rfl
  | [a],_=>rfl
 ·have d2:decide (((m.length:Nat):Int)<2)=false:=dEf (by omega);simp only[go_sem,zE,zB,zA,zM,zS,zL,reduceCtorEq,d2];refine LoopC.ctr (m.length-1) (λc fr st' ds=>ddN (m.take (c+1))=m.take (c+1)/\fr 0=.iv (.raw (.slice (some ⟨g,0,none⟩) m.length cap))/\fr 3=.iv (.raw (.int .i64 ((c+1:Nat):Int)))/\st'=st/\ds=[]) ?_ ?_ ?_
  ·simp only[go_sem,zE,zB,zA,zM,zS,zL,reduceCtorEq];refine⟨?_,rfl⟩
   match m,h2 with
   | [],h=>exact absurd (show 0<2 by decide) h
   | [a],h=>exact absurd (show 1<2 by decide) h
   | a::b::l,_=>rfl
  ·rintro c fr st1 _ hlt ⟨hd,f0,f3,rfl,rfl⟩;have hlt':c+1<m.length:=by omega
   obtain⟨a,ha⟩:=yQ2 (l:=m) (k:=c) (by omega);obtain⟨b,hbm⟩:=yQ2 hlt';have rx:=rd1 (rest:=rest) ha rfl;have ry:=rd1 (rest:=rest) hbm rfl;have hw:IntKind.i64.wrap (((c+1:Nat):Int)-1)=(c:Nat):=by rw[w64 (by omega) (by omega)];omega
   have hds:=xJh ha hbm;by_cases he:b=a
   ·rw[if_pos he,List.append_nil,hd] at hds;have hcne:¬ cap=c+1:=by omega
    simp only[go_sem,zE,zB,zA,zM,zS,zL,reduceCtorEq,f0,f3,lt_i hlt',hw,hlt',show c<m.length by omega,iNn,Nat.mul_one,hb,rx,ry,dEt (show (b:Int)=a by omega),yKe (show c+1<=m.length by omega),hcap,hcne];refine LoopC.ctr (m.length-(c+1)-1) (λj fr st' ds=>(∃k cs,fr 3=.iv (.raw (.int .i64 ((k:Nat):Int)))/\st'=st1.put g (some (.box cs))/\cs.length=(yQh m++rest).length/\k=(ddN (m.take (c+1+j+1))).length/\cs.take k=yQh (ddN (m.take (c+1+j+1)))/\k<=c+1+j/\∀i,c+1+j<=i->cs[i]?=(yQh m++rest)[i]?) /\
     fr 0=.iv (.raw (.slice (some ⟨g,0,none⟩) m.length cap))/\fr 4=.iv (.raw (.slice (some ⟨g,c+1,none⟩) (m.length-(c+1)) (cap-(c+1))))/\fr 5=.iv (.raw (.int .i64 ((j+1:Nat):Int)))/\ds=[]) ?_ ?_ ?_
    ·simp only[go_sem,zE,zB,zA,zM,zS,zL,reduceCtorEq];refine⟨⟨c+1,yQh m++rest,f3,(yXg hb).symm,rfl,?_,?_,Nat.le_refl _,λ_ _=>rfl⟩,f0,rfl⟩
     ·rw[hds,List.length_take];omega
     ·rw[hds,List.take_append_of_le_length (by rw[yQi];omega),xGn]
    ·rintro j fr st2 _ hj ⟨⟨k,cs,f3,rfl,hcl,hkl,hct,hk,hcs⟩,f0,f4,f5,rfl⟩;obtain⟨a',ha'⟩:=yQ2 (l:=m) (k:=c+1+j) (by omega);obtain⟨b',hb'⟩:=yQ2 (l:=m) (k:=c+1+j+1) (by omega);have rx':=rd1 ha' (hcs _ (Nat.le_refl _));have ry':=rd1 hb' (hcs _ (by omega));have hw':IntKind.i64.wrap (((j+1:Nat):Int)-1)=(j:Nat):=by rw[w64 (by omega) (by omega)];omega
     have o2:c+1+(j+1)=c+1+j+1:=by omega
     have hj1:j+1<m.length-(c+1):=by omega
     have hj0:j<m.length-(c+1):=by omega
     have hds':=xJh ha' hb';by_cases he':b'=a'
     ·rw[if_pos he',List.append_nil] at hds';simp only[go_sem,zE,zB,zA,zM,zS,zL,reduceCtorEq,f0,f3,f4,f5,lt_i hj1,hj0,hj1,hw',iNn,Nat.mul_one,ISt.put_same,o2,rx',ry',dEt (show (b':Int)=a' by omega),yQd hj1 (show m.length-(c+1)<=281474976710656 by omega)];exact⟨k,cs,rfl,rfl,hcl,by rw[hds'];exact hkl,by rw[hds'];exact hct,by omega,λi hi=>hcs i (by omega)⟩
     ·rw[if_neg he'] at hds';have hkm:k<m.length:=by omega
      have hml:m.length<=cs.length:=by rw[hcl,lLa,yQi];omega
      have hk1:k+1<=cs.length:=by omega
      obtain⟨s1,s2,s3,s4⟩:=st1_ (n:=1) (l:=[.raw (.int .i64 (b':Int))]) rfl hk1;simp only[go_sem,zE,zB,zA,zM,zS,zL,reduceCtorEq,f0,f3,f4,f5,lt_i hj1,hj0,hj1,hw',iNn,Nat.mul_one,ISt.put_same,o2,rx',ry',dEf (show ¬ (b':Int)=a' by omega),hkm,hk1,yQd hkm (show m.length<=281474976710656 by omega),yQd hj1 (show m.length-(c+1)<=281474976710656 by omega)];refine⟨k+1,yX8 cs k [.raw (.int .i64 (b':Int))],rfl,by rw[yQ8];rfl,s1.trans hcl,?_,?_,by omega,λi hi=>?_⟩
      ·rw[hds',lLa,<- hkl];rfl
      ·rw[hds',s3,hct,zW2];rfl
      ·exact (s4 i (by omega)).trans (hcs i (by omega))
    ·rintro fr st2 _ ⟨⟨k,cs,f3,rfl,hcl,hkl,hct,hk,hcs⟩,f0,f4,f5,rfl⟩;have hkm:k<m.length:=by omega
     have hck:¬ cap=k:=by omega
     have hmk:¬ m.length-k=0:=by omega
     have hlen4:m.length<=cs.length:=by rw[hcl,lLa,yQi];omega
     have hk4:k+(m.length-k)<=cs.length:=by omega
     obtain⟨s1,s2,s3,s4⟩:=st1_ (cs:=cs) (k:=k) (l:=List.replicate (m.length-k) .junk) (List.length_replicate ..) hk4;rw[show m.length-(c+1)-1+1=m.length-(c+1) by omega] at f5;simp only[go_sem,zE,zB,zA,zM,zS,zL,reduceCtorEq,f0,f3,f4,f5,yQm (nLi _),yKe (show k<=m.length by omega),yU9 (show k<=cap by omega),hcap,hck,hmk,ISt.put_same,hk4,ite_self,Nat.zero_mul,Nat.mul_one];rw[show c+1+(m.length-(c+1)-1)+1=m.length by omega,lTl] at hkl hct;subst hkl;exact yQ0 ⟨yX8 cs (ddN m).length (List.replicate (m.length-(ddN m).length) .junk),rfl,by rw[yQ8];rfl,s1.trans hcl,s2.trans hct,by omega⟩
   ·rw[if_neg he,hd] at hds;simp only[go_sem,zE,zB,zA,zM,zS,zL,reduceCtorEq,f0,f3,lt_i hlt',hw,hlt',show c<m.length by omega,iNn,Nat.mul_one,hb,rx,ry,dEf (show ¬ (b:Int)=a by omega),yQd hlt' (show m.length<=281474976710656 by omega)];rw[hds,yQ7 hbm]
  ·rintro fr st1 _ ⟨hd,f0,f3,rfl,rfl⟩;rw[show m.length-1+1=m.length by omega] at hd f3;rw[lTl] at hd;simp only[go_sem,zE,zB,zA,zM,zS,zL,reduceCtorEq,f0,f3,yQm (nLi _)];exact yQ0 (same hd)
theorem yU7 (t:Tag)(ht:t.cap=.nil)(st:ISt):ICall prog gl 107 [.sl t []] st (λr st'=>(∃t',r=.sl t' []/\t'.cap=.nil)/\st'=st):=by
 obtain⟨fs,c,es⟩:=t;obtain rfl:c=.nil:=ht;refine ICall.intro (c:=cf prog gl [19,24,38,43] []) func107 rfl (by show _<=61;simp) (by kernel_rfl) ?_;simp only[go_sem,zE,zB,zA,zM,zS,zL,reduceCtorEq,show decide (((0:Nat):Int)<2)=true from rfl];exact yQ0 ⟨⟨_,rfl,rfl⟩,rfl⟩
theorem wYj (n:Nat)(hn:n<=1099511627776)(st:ISt):ICall prog gl 188 [.sl ⟨true,.nil,0⟩ [],.raw (.int .i64 n)] st (λr st' =>
  (n=0/\r=.sl ⟨true,.nil,0⟩ []/\st'=st)\/(∃g cap,st g=none/\n<=cap/\r=.raw (.slice (some ⟨g,0,none⟩) 0 cap)/\st'=st.put g (some (.box (List.replicate cap .junk))))):=by
 have h1:decide ((n:Int)<0)=false:=dEf (by omega);have h2:IntKind.i64.wrap ((0:Int)-((0:Nat):Int))=0:=rfl;have h3:IntKind.i64.wrap ((n:Int)-0)=n:=w64 (by omega) (by omega);refine iI func188 ?_;by_cases hz:n=0
 ·subst hz;simp only[go_sem,zE,zB,zA,zM,zS,zL,reduceCtorEq,h1,h2,h3,show decide ((0:Int)<((0:Nat):Int))=false from rfl];refine yQ0 (.inl ?_);simp
 ·have h4:decide ((0:Int)<(n:Int))=true:=dEt (by omega);simp only[go_sem,zE,zB,zA,zM,zS,zL,reduceCtorEq,h1,h2,h3,h4,yUd,xXo];refine yZ1 ⟨rfl,by omega,by show (n:Int)*8<=_;omega,by omega,by decide⟩ λg cap=>yQ9 λhg=>?_;obtain⟨hg,hc⟩:=hg;rw[Int.toNat_natCast] at hc;simp only[go_sem,zE,zB,zA,zM,zS,zL,reduceCtorEq,Int.toNat_natCast,zZl,ite_self,Nat.zero_mul,Nat.mul_one,hc];exact yQ0 (.inr ⟨g,cap,hg,hc,rfl,rfl⟩)
theorem vX6 {y:IV}(h:fits false 1 y=true):y.cells.length=1:=(yZq h).2.1
theorem uZu {l:List IV}(h:∀y∈l,fits false 1 y=true):(l.flatMap IV.cells).length=l.length:=(yQo l λx hx=>vX6 (h x hx)).trans (Nat.mul_one _)
theorem wQo (l:List (Tag×List IV))(tt:Tag)(htt:okEs tt 1)(hfit:∀p∈l,∀y∈p.2,fits false 1 y=true)(hlen:(catL l).length<=1099511627776)(st:ISt) :
  ICall prog gl 136 [.sl tt (catI l)] st (λr st'=>(∃t,r=.sl t []/\t.cap=.nil/\catL l=[]/\st'=st) \/
   ∃g cap cs,st g=none/\(catL l).length<=cap/\cap<=cs.length/\cs.take ((catL l).length)=(catL l).flatMap IV.cells/\r=.raw (.slice (some ⟨g,0,none⟩) (catL l).length cap)/\st'=st.put g (some (.box cs))):=by
 have hli:(catI l).length=l.length:=by simp[catI]
 have hfc:∀y∈catL l,fits false 1 y=true:=λy hy=>by
  obtain⟨p,hp,hy⟩:=List.mem_flatMap.1 hy;exact hfit p hp y hy
 refine iI func136 ?_;simp only[go_sem,zE,zB,zA,zM,zS,zL,reduceCtorEq,hli];intro hl;refine LoopC.ctr l.length (λk fr st' ds=>fr 0=.iv (.sl tt (catI l))/\fr 3=.iv (.raw (.int .i64 (catL (l.take k)).length))/\fr 9=.iv (.sl tt (catI l))/\fr 10=.iv (.raw (.int .i64 l.length))/\fr 11=.iv (.raw (.int .i64 k))/\st'=st/\ds=[]) ?_ ?_ ?_
 ·simp only[go_sem,zE,zB,zA,zM,zS,zL,reduceCtorEq];simp[catL]
 ·rintro k fr st1 _ hlt ⟨f0,f3,f9,f10,f11,rfl,rfl⟩;obtain⟨p,hp⟩:=yQ2 hlt;have h1:=yWm l k;have h2:=yWm l (k+1);rw[yZz hp,lLa] at h2;have h3:IntKind.i64.wrap ((((catL (l.take k)).length:Nat):Int)+((p.2.length:Nat):Int))=((catL (l.take (k+1))).length:Nat):=by
   rw[w64 (by omega) (by omega),yZz hp,lLa];omega
  have h4:decide ((((catL (l.take (k+1))).length:Nat):Int)<0)=false:=dEf (by omega);simp only[go_sem,zE,zB,zA,zM,zS,zL,reduceCtorEq,f0,f3,f9,f10,f11,lt_i hlt,yQ3 htt,iNn,yYb hp,fits,h3];intro hpl;simp only[go_sem,zE,zB,zA,zM,zS,zL,reduceCtorEq,h3,h4,f0,f3,f9,f10,f11,yQd hlt (show l.length<=281474976710656 by omega)]
 ·rintro fr st1 _ ⟨f0,f3,f9,f10,f11,rfl,rfl⟩;rw[lTl] at f3;simp only[go_sem,zE,zB,zA,zM,zS,zL,reduceCtorEq,f0,f3,f9,f10,f11,yQm (nLi _)];refine (wYj gl (catL l).length hlen _).mono ?_;have loop:∀(I:Nat->IV->ISt->Prop),True:=λ_=>trivial;rintro r st2 (⟨hz,rfl,rfl⟩|⟨g,cap,hg,hcap,rfl,rfl⟩)
  ·have hnil:catL l=[]:=List.eq_nil_of_length_eq_zero hz;simp only[go_sem,zE,zB,zA,zM,zS,zL,reduceCtorEq,f0,hli];intro _;refine LoopC.ctr l.length (λk fr st' ds=>(∃t,fr 6=.iv (.sl t [])/\t.cap=.nil)/\fr 25=.iv (.sl tt (catI l))/\fr 26=.iv (.raw (.int .i64 l.length))/\fr 27=.iv (.raw (.int .i64 k))/\st'=st2/\ds=[]) ?_ ?_ ?_
   ·simp only[go_sem,zE,zB,zA,zM,zS,zL,reduceCtorEq];exact⟨⟨_,rfl,rfl⟩,rfl⟩
   ·rintro k fr st1 _ hlt ⟨⟨t,f6,ht⟩,f25,f26,f27,rfl,rfl⟩;obtain⟨p,hp⟩:=yQ2 hlt;have hp0:p.2=[]:=by
     have:=yZz hp;have h2:=yWm l (k+1);rw[this,lLa,hnil,List.length_nil] at h2;exact List.eq_nil_of_length_eq_zero (by omega)
    obtain⟨fs,c,es⟩:=t;obtain rfl:c=.nil:=ht;simp only[go_sem,zE,zB,zA,zM,zS,zL,reduceCtorEq,f6,f25,f26,f27,lt_i hlt,yQ3 htt,iNn,yYb hp,fits,hp0,yQd hlt (show l.length<=281474976710656 by omega)];exact⟨_,rfl,rfl⟩
   ·rintro fr st1 _ ⟨⟨t,f6,ht⟩,f25,f26,f27,rfl,rfl⟩;simp only[go_sem,zE,zB,zA,zM,zS,zL,reduceCtorEq,f6,f25,f26,f27,yQm (nLi _)];exact yQ0 (.inl ⟨_,rfl,ht,hnil,rfl⟩)
  ·simp only[go_sem,zE,zB,zA,zM,zS,zL,reduceCtorEq,f0,hli];intro _;refine LoopC.ctr l.length (λk fr st' ds=>(∃g cap cs,st1 g=none/\(catL (l.take k)).length<=cap/\cap<=cs.length/\cs.take ((catL (l.take k)).length)=(catL (l.take k)).flatMap IV.cells/\fr 6=.iv (.raw (.slice (some ⟨g,0,none⟩) (catL (l.take k)).length cap))/\st'=st1.put g (some (.box cs)))/\fr 25=.iv (.sl tt (catI l))/\fr 26=.iv (.raw (.int .i64 l.length))/\fr 27=.iv (.raw (.int .i64 k))/\ds=[]) ?_ ?_ ?_
   ·simp only[go_sem,zE,zB,zA,zM,zS,zL,reduceCtorEq];exact⟨⟨g,cap,_,hg,by simp[catL],by simp,by simp[catL],by simp[catL],rfl⟩,rfl⟩
   ·rintro k fr st' _ hlt ⟨⟨g,cap,cs,hg,hc1,hc2,hc3,f6,rfl⟩,f25,f26,f27,rfl⟩;obtain⟨p,hp⟩:=yQ2 hlt;have h2:=yWm l (k+1);rw[yZz hp,lLa] at h2;have hpf:=hfit p (lMg hp);simp only[go_sem,zE,zB,zA,zM,zS,zL,reduceCtorEq,f6,f25,f26,f27,lt_i hlt,yQ3 htt,iNn,yYb hp,fits];refine yXd _ _ _ (ISt.put_same ..) (List.all_eq_true.2 hpf) ⟨by show _*8<=_;omega,by omega⟩ ⟨hc1,by simp only[Nat.mul_one];exact hc2⟩ ((uZu hpf).trans (Nat.mul_one _).symm) ?_;intro g' cap' cs' hg' k1 k2 k3;simp only[Nat.mul_one] at k2 k3;simp only[go_sem,zE,zB,zA,zM,zS,zL,reduceCtorEq,f6,f25,f26,f27,yQd hlt (show l.length<=281474976710656 by omega)];have hst':((st1.put g (some (.box cs))).put g none).put g' (some (.box cs'))=st1.put g' (some (.box cs')):=by
     funext c;simp only[ISt.put_apply];split
     ·rfl
     ·split
      ·subst_vars;exact hg.symm
      ·rfl
    have hg1:st1 g'=none:=by
     rcases hg' with rfl|h
     ·exact hg
     ·rw[ISt.put_apply] at h;split at h
      ·cases h
      ·exact h
    refine⟨g',cap',cs',hg1,?_,k2,?_,?_,hst'⟩
    ·rw[yZz hp,lLa];exact k1
    ·rw[yZz hp,lLa,List.flatMap_append,<- hc3];exact k3
    ·rw[yZz hp,lLa]
   ·rintro fr st' _ ⟨⟨g,cap,cs,hg,hc1,hc2,hc3,f6,rfl⟩,f25,f26,f27,rfl⟩;rw[lTl] at *;simp only[go_sem,zE,zB,zA,zM,zS,zL,reduceCtorEq,f6,f25,f26,f27,yQm (nLi _)];exact yQ0 (.inr ⟨g,cap,cs,hg,hc1,hc2,hc3,rfl,rfl⟩)
theorem wK7 (n:Nat):Int.fdiv (n:Int) (2 ^ min (Int.toNat 1) 64)=((n / 2:Nat):Int):=by
 rw[show (2:Int) ^ min (Int.toNat 1) 64=((2:Nat):Int) from rfl];exact (Int.ofNat_fdiv n 2).symm
theorem wK8 {a b n:Nat}(h:a<=b)(hn:b<=n)(hl:n<=1099511627776):IntKind.u64.wrap (IntKind.i64.wrap ((a:Int)+(b:Int)))=((a+b:Nat):Int)/\IntKind.i64.wrap (((a+b) / 2:Nat):Int)=(((a+b) / 2:Nat):Int):=by
 have h1:IntKind.i64.wrap ((a:Int)+(b:Int))=((a+b:Nat):Int):=by rw[w64 (by omega) (by omega)];omega
 rw[h1];exact⟨IntWalk.u64_in _ (by omega),w64 (by omega) (by omega)⟩
theorem uKy (W:List Fm)(tg:Tag)(xs:List IV)(htg:okEs tg 4)(hx:IsFms W xs)(hW:Srt W)(hlen:W.length<=1099511627776)(f:Fm)(y:IV)(hy:IsFm f y)(st:ISt) :
  ICall prog gl 105 [.sl tg xs,y,.fn (.func 91) [] []] st
   (λr st'=>(∃(i:Nat) (b:Bool),r=.tup [.raw (.int .i64 (i:Int)),.raw (.bool b)]/\(b=true↔f∈W)/\(b=true->W[i]?=some f))/\st'=st):=by
 have hcall:=λa x hx st=>zXq gl a f x y hx hy st;obtain⟨y1,y2,y3,y4,y5,y6,rfl⟩:=hy.agg;have hxl:=hx.len;have c1:=λn:Int=>yXt prog 3 185 zJk zVz .i64 n;have c2:=λn:Int=>yXt prog 185 3 zVz zJk .u64 n;refine iI func105 ?_;simp only[go_sem,zE,zB,zA,zM,zS,zL,reduceCtorEq,fits,hxl];intro _;refine LoopC.dec W.length (λm fr st' ds=>(∃lo hi,m=hi-lo/\lo<=hi/\hi<=W.length/\(∀k a,k<lo->W[k]?=some a->yZa a f<0)/\(∀k a,hi<=k->W[k]?=some a->¬ yZa a f<0)/\fr 9=.iv (.raw (.int .i64 (lo:Int)))/\fr 10=.iv (.raw (.int .i64 (hi:Int))))/\fr 0=.iv (.sl tg xs)/\fr 2=.iv (.fn (.func 91) [] []) /\
  fr 4=.box [.raw (.int .u8 y1),.raw (.string y2),.sl y3 y4,.sl y5 y6]/\fr 8=.iv (.raw (.int .i64 W.length))/\st'=st/\ds=[]) ?_ ?_
 ·simp only[go_sem,zE,zB,zA,zM,zS,zL,reduceCtorEq];refine⟨0,W.length,by omega,by omega,by omega,λk a hk=>absurd hk (by omega),λk a hk ha=>?_,rfl,rfl⟩;have:=(lGs ha).1;omega
 ·rintro m fr st1 _ ⟨⟨lo,hi,hm,hlh,hhn,h1,h2,f9,f10⟩,f0,f2,f4,f8,rfl,rfl⟩;by_cases hlt:lo<hi
  ·obtain⟨hm1,hm2⟩:=wK8 hlh hhn hlen;obtain⟨a,ha⟩:=yQ2 (l:=W) (k:=(lo+hi) / 2) (by omega);obtain⟨x,hkx,hxa⟩:=hx.get ha;obtain⟨x1,x2,x3,x4,x5,x6,rfl⟩:=hxa.agg;simp only[go_sem,zE,zB,zA,zM,zS,zL,reduceCtorEq,f0,f2,f4,f8,f9,f10,lt_i hlt,c1,c2,show ((0:Int)<=1)=True from eq_true (by omega),wK7,hm1,hm2,yQ3 htg,iNn,hkx,fits];refine (hcall a _ hxa _).mono ?_;rintro _ _ ⟨rfl,rfl⟩;by_cases hc:yZa a f<0
   ·simp only[go_sem,zE,zB,zA,zM,zS,zL,reduceCtorEq,f0,f2,f4,f8,f9,f10,dEt hc,yQd (show (lo+hi) / 2<W.length by omega) (show W.length<=281474976710656 by omega)];refine⟨hi-((lo+hi) / 2+1),by omega,(lo+hi) / 2+1,hi,rfl,by omega,hhn,λk b hk hb=>?_,h2,rfl,rfl⟩;rcases Nat.lt_or_ge k ((lo+hi) / 2) with h|h
    ·exact yVo _ _ _ (zJu hW hb ha h) hc
    ·obtain rfl:k=(lo+hi) / 2:=by omega
     rw[ha] at hb;cases hb;exact hc
   ·simp only[go_sem,zE,zB,zA,zM,zS,zL,reduceCtorEq,f0,f2,f4,f8,f9,f10,dEf hc];refine⟨(lo+hi) / 2-lo,by omega,lo,(lo+hi) / 2,rfl,by omega,by omega,h1,λk b hk hb=>?_,rfl,rfl⟩;rcases Nat.lt_or_ge ((lo+hi) / 2) k with h|h
    ·exact λhbf=>hc (yVo _ _ _ (zJu hW ha hb h) hbf)
    ·obtain rfl:k=(lo+hi) / 2:=by omega
     rw[ha] at hb;cases hb;exact hc
  ·obtain rfl:lo=hi:=by omega
   have hfind:∀k,W[k]?=some f->k=lo:=λk hk=>by
    rcases Nat.lt_trichotomy k lo with h|h|h
    ·exact absurd (h1 k f h hk) (yV8 f)
    ·exact h
    ·obtain⟨b,hb⟩:=yQ2 (l:=W) (k:=lo) (by have:=(lGs hk).1;omega);exact absurd (zJu hW hb hk h) (h2 lo b (Nat.le_refl _) hb)
   have hmem:f∈W↔W[lo]?=some f:=⟨λh=>by
    obtain⟨k,hk⟩:=List.mem_iff_getElem?.1 h
    rwa [hfind k hk] at hk,lMg⟩
   by_cases hln:lo<W.length
   ·obtain⟨a,ha⟩:=yQ2 hln;obtain⟨x,hkx,hxa⟩:=hx.get ha;obtain⟨x1,x2,x3,x4,x5,x6,rfl⟩:=hxa.agg;simp only[go_sem,zE,zB,zA,zM,zS,zL,reduceCtorEq,f0,f2,f4,f8,f9,f10,yQm (nLi _),lt_i hln,yQ3 htg,iNn,hkx,fits];refine (hcall a _ hxa _).mono ?_;rintro _ _ ⟨rfl,rfl⟩;by_cases hc:yZa a f=0
    ·simp only[go_sem,zE,zB,zA,zM,zS,zL,reduceCtorEq,f0,f2,f4,f8,f9,f10,dEt hc];refine yQ0 ⟨⟨lo,true,rfl,⟨λ_=>?_,λ_=>rfl⟩,λ_=>?_⟩,rfl⟩
     ·rw[hmem,ha,(yJ4 a f).1 hc]
     ·rw[ha,(yJ4 a f).1 hc]
    ·simp only[go_sem,zE,zB,zA,zM,zS,zL,reduceCtorEq,f0,f2,f4,f8,f9,f10,dEf hc];refine yQ0 ⟨⟨lo,false,rfl,⟨nofun,λh=>?_⟩,nofun⟩,rfl⟩;rw[hmem,ha] at h;cases h;exact absurd ((yJ4 _ _).2 rfl) hc
   ·simp only[go_sem,zE,zB,zA,zM,zS,zL,reduceCtorEq,f0,f2,f4,f8,f9,f10,yQm (nLi _),yQm hln];refine yQ0 ⟨⟨lo,false,rfl,⟨nofun,λh=>?_⟩,nofun⟩,rfl⟩;rw[hmem] at h;exact absurd (lGs h).1 hln
end Go.Proofs.Tryz
namespace Go.Iv
open Go
theorem ICall.fix1 {P:Program}{gl:Nat->Option IV}{f:FuncId}{args:List IV}{st:ISt}{K:IV->ISt->Prop}(h:ICall P gl f args st (λy st'=>K y st'\/∃g n cap cs es zs,st g=none/\y=.raw (.slice (some ⟨g,0,none⟩) n cap)/\st'=st.put g (some (.box cs)) /\
   zs.length=n/\n<=140737488355328/\n<=cap/\cap*es<=cs.length/\cs.take (n*es)=zs.flatMap IV.cells/\(∀z∈zs,z.cells.length=es)/\K (.sl ⟨true,.app g,es⟩ zs) st)) :
  ICall P gl f args st K:=by
 intro B X rs hg hst hv;subst hst;refine (h B X rs hg rfl hv).mono ?_;rintro e w' ⟨v,rfl,X',y,rfl,h2,h3,h4,hK|⟨g,n,cap,cs,es,zs,h0,rfl,hst',rfl,hn,hcap,hroom,htk,hz,hK⟩⟩
 ·exact⟨v,rfl,X',y,rfl,h2,h3,h4,hK⟩
 have hgn:=wJs h3 h0 (by rw[hst'];exact ISt.put_same ..);have hk:=zVn h0 hst';obtain rfl:=V.raw_inv h4;exact⟨_,rfl,X'.lendS _ X.st,_,rfl,h2.lendS hk,h3.trans (h2.lendS_ext hk),wJr h2 h0 hst' (Nat.le_trans hg.B hgn) hn hcap hroom htk hz,hK⟩
end Go.Iv
namespace Go.Proofs.Tryz
open Go Go.Iv
set_option maxRecDepth 4000
variable (gl:Nat->Option IV)
theorem zG2 (l:List Nat):(yQh l).flatMap IV.cells=yQh l:=by
 induction l with
 | nil=>rfl
 | cons a l ih =>
  show IV.cells _++(yQh l).flatMap IV.cells=_;rw[ih];rfl
theorem zW1 (l:List Nat):∀y∈yQh l,fits false 1 y=true:=λy hy=>by
 obtain⟨n,_,rfl⟩:=List.mem_map.1 hy;simp[fits,IV.one]
def xJs (l:List Nat)(st:ISt)(r:IV)(st':ISt):Prop:=(∃t,r=.sl t (yQh l)/\okEs t 1)/\st'=st
theorem zG4 {f:FuncId}{args:List IV}{l:List Nat}{st:ISt}(hl:l.length<=140737488355328)
  (h:ICall prog gl f args st (λr st'=>xJs l st r st'\/∃g cap cs,st g=none/\r=.raw (.slice (some ⟨g,0,none⟩) l.length cap)/\st'=st.put g (some (.box cs))/\l.length<=cap/\cap<=cs.length/\cs.take l.length=yQh l)):ICall prog gl f args st (xJs l st):=by
 refine ICall.fix1 (h.mono λr st' hr=>?_);rcases hr with hr|⟨g,cap,cs,h1,rfl,rfl,h2,h3,h4⟩
 ·exact .inl hr
 ·exact .inr ⟨g,l.length,cap,cs,1,yQh l,h1,rfl,rfl,yQi l,hl,h2,by omega,by rw[Nat.mul_one,h4,zG2],λz hz=>vX6 (zW1 l z hz),⟨_,rfl,.inr rfl⟩,rfl⟩
theorem wK2 (T:Gt gl)(a b:List Nat)(ta tb:Tag)(hta:okEs ta 1)(htb:okEs tb 1)(hl:a.length+b.length<=1000000)(st:ISt) :
  ICall prog gl 111 [.sl ta (yQh a),.sl tb (yQh b)] st (xJs (sdN (a++b)) st):=by
 have hsl:=zZn (a++b);rw[lLa] at hsl;have hcat:catL [(ta,yQh a),(tb,yQh b)]=yQh (a++b):=by simp[catL,zW2]
 have hcl:(catL [(ta,yQh a),(tb,yQh b)]).length=(a++b).length:=by rw[hcat,yQi]
 refine zG4 gl (by omega) ?_;refine iI func111 ?_;simp only[go_sem,zE,zB,zA,zM,zS,zL,reduceCtorEq,fits];refine yZ1 rfl ?_;refine (wQo gl [(ta,yQh a),(tb,yQh b)] _ (.inr rfl) (λp hp y hy=>?_) (by rw[hcl,lLa];omega) _).mono ?_
 ·rcases List.mem_cons.1 hp with rfl|hp
  ·exact zW1 a y hy
  ·obtain rfl:=List.mem_singleton.1 hp;exact zW1 b y hy
 ·rintro _ _ (⟨t,rfl,ht,hn,rfl⟩|⟨g,cap,cs,hg,h1,h2,h3,rfl,rfl⟩)
  ·have hab:a++b=[]:=List.eq_nil_of_length_eq_zero (by rw[<- hcl,hn];rfl);rw[hab];simp only[go_sem,zE,zB,zA,zM,zS,zL,reduceCtorEq];refine (zQn gl t ht _).mono ?_;rintro _ _ ⟨rfl,rfl⟩;simp only[go_sem,zE,zB,zA,zM,zS,zL,reduceCtorEq];refine (yU7 gl t ht _).mono ?_;rintro _ _ ⟨⟨t',rfl,ht'⟩,rfl⟩;simp only[go_sem,zE,zB,zA,zM,zS,zL,reduceCtorEq];exact yQ0 (.inl ⟨⟨t',rfl,.inl ht'⟩,rfl⟩)
  ·rw[hcl] at h1 h3;rw[hcat,zG2] at h3;rw[hcl];have hcs:cs=yQh (a++b)++cs.drop (a++b).length:=by rw[<- h3,List.take_append_drop]
   have hsort:=zGy gl T (a++b) (cs.drop (a++b).length) g cap (st.put g (some (.box cs))) (by rw[lLa];omega) (by rw[ISt.put_same,<- hcs]);simp only[go_sem,zE,zB,zA,zM,zS,zL,reduceCtorEq];refine hsort.mono ?_;rintro _ _ ⟨rfl,m,hp,hs,rfl⟩;have hml:=hp.length_eq;have hcom:=zKx gl m (cs.drop (a++b).length) (by rw[hml,lLa];omega) g cap (by rw[hml];exact h1) ((st.put g (some (.box cs))).put g (some (.box (yQh m++cs.drop (a++b).length)))) (ISt.put_same ..);rw[hml] at hcom;simp only[go_sem,zE,zB,zA,zM,zS,zL,reduceCtorEq];refine hcom.mono ?_;rintro _ _ ⟨cs2,rfl,rfl,hl2,ht2,hk2⟩;rw[wKh hp hs] at ht2 hk2 ⊢;rw[yQ8,yQ8];simp only[go_sem,zE,zB,zA,zM,zS,zL,reduceCtorEq];refine yQ0 (.inr ⟨g,cap,cs2,hg,rfl,rfl,by omega,?_,ht2⟩);rw[hl2,lLa,yQi,List.length_drop,hml];omega
def OwnI (st:ISt)(l:List Nat)(x:IV)(st':ISt):Prop:=(l=[]/\x=.sl ⟨true,.nil,0⟩ []/\st'=st) \/
 ∃g cap cs,l≠[]/\st g=none/\l.length<=cap/\cap<=cs.length/\cs.take l.length=yQh l/\x=.raw (.slice (some ⟨g,0,none⟩) l.length cap)/\st'=st.put g (some (.box cs))
theorem wVo {st:ISt}{g g':Nat}{o o':Option IObj}(hg:st g=none):((st.put g o).put g none).put g' o'=st.put g' o':=by
 funext c;simp only[ISt.put_apply];split
 ·rfl
 ·split
  ·subst_vars;exact hg.symm
  ·rfl
theorem wZi {st:ISt}{g g':Nat}{o:Option IObj}(hg:st g=none)(h:g'=g\/(st.put g o) g'=none):st g'=none:=by
 rcases h with rfl|h
 ·exact hg
 ·rw[ISt.put_apply] at h;split at h
  ·rename_i h';rw[h'];exact hg
  ·exact h
abbrev spI (ca:Nat)(tw:Tag)(xw:List IV)(m:Nat):IV:=.cptr (.agg [.raw (.int .u8 (ca:Int)),.sl tw xw,.raw (.map (some m))])
theorem zYn (T:Gt gl)(ca m:Nat)(W:List Fm)(tw:Tag)(xw:List IV)(htw:okEs tw 4)(hxw:IsFms W xw)(hW:Srt W)(hWl:W.length<=1000000)(l:List Fm)(tg:Tag)(xs:List IV)(htg:okEs tg 4)(hx:IsFms l xs)(hl:l.length<=1000000)(hin:∀f∈l,f∈W)(st:ISt) :
  ICall prog gl 70 [spI ca tw xw m,.sl tg xs] st (xJs (zZz W l) st):=by
 have hnl:(zZz W l).length<=l.length:=by
  have:=zZn (l.map (noW W))
  rwa [List.length_map] at this
 refine zG4 gl (by omega) ?_;refine ICall.intro (c:=cf prog gl [29] []) func70 rfl (by show _<=35;simp) (by kernel_rfl) ?_;simp only[go_sem,zE,zB,zA,zM,zS,zL,reduceCtorEq,hx.len];intro _;refine LoopC.ctr l.length (λk fr st' ds=>(∃x,fr 5=.iv x/\OwnI st ((l.take k).map (noW W)) x st')/\fr 0=.iv (spI ca tw xw m)/\fr 10=.iv (.sl tg xs)/\fr 11=.iv (.raw (.int .i64 l.length))/\fr 12=.iv (.raw (.int .i64 (k:Int)))/\ds=[]) ?_ ?_ ?_
 ·simp only[go_sem,zE,zB,zA,zM,zS,zL,reduceCtorEq];exact⟨⟨_,rfl,.inl ⟨rfl,rfl,rfl⟩⟩,rfl⟩
 ·rintro k fr st1 _ hlt ⟨⟨x,f5,hox⟩,f0,f10,f11,f12,rfl⟩;obtain⟨a,ha⟩:=yQ2 hlt;obtain⟨y,hky,hya⟩:=hx.get ha;have haW:=hin a (lMg ha);have hcall:=λst=>uKy gl W tw xw htw hxw hW (by omega) a y hya st;obtain⟨y1,y2,y3,y4,y5,y6,rfl⟩:=hya.agg;simp only[go_sem,zE,zB,zA,zM,zS,zL,reduceCtorEq,f0,f10,f11,f12,lt_i hlt,yQ3 htg,iNn,hky,fits];refine (hcall _).mono ?_;rintro _ st2 ⟨⟨i,b,rfl,hb1,hb2⟩,rfl⟩;obtain rfl:b=true:=hb1.2 haW;have hi:=vQ0 hW (hb2 rfl);have htk:(l.take (k+1)).map (noW W)=(l.take k).map (noW W)++[i]:=by rw[yQ7 ha,List.map_append,<- hi];rfl
  have hkl:((l.take k).map (noW W)).length=k:=by rw[List.length_map,List.length_take];omega
  rcases hox with⟨h0,rfl,rfl⟩|⟨g,cap,cs,h0,hg,h1,h2,h3,rfl,rfl⟩
  ·simp only[go_sem,zE,zB,zA,zM,zS,zL,reduceCtorEq,f5,fits,yQ1];intro g cap;refine yQ9 λhg=>?_;obtain⟨hg,hcap⟩:=hg;simp only[go_sem,zE,zB,zA,zM,zS,zL,reduceCtorEq,f0,f10,f11,f12,yQd hlt (show l.length<=281474976710656 by omega)];refine⟨_,rfl,.inr ⟨g,cap,_,?_,hg,?_,?_,?_,?_,rfl⟩⟩
   ·rw[htk];simp
   ·rw[htk,h0];exact hcap
   ·rw[lLa,List.length_replicate];show cap<=1+(cap-1)*1;omega
   ·rw[htk,h0];rfl
   ·rw[htk,h0];rfl
  ·simp only[go_sem,zE,zB,zA,zM,zS,zL,reduceCtorEq,f5,fits,yQ1];refine yXd _ _ _ (ISt.put_same ..) (by simp[fits,IV.one]) ⟨by show (_+1)*8<=_;omega,by show _+1<=_;omega⟩ ⟨h1,by simpa using h2⟩ (by simp[IV.cells]) ?_;intro g' cap' cs' hg' q1 q2 q3;simp only[Nat.mul_one] at q2 q3;rw[wVo hg];simp only[go_sem,zE,zB,zA,zM,zS,zL,reduceCtorEq,f0,f10,f11,f12,yQd hlt (show l.length<=281474976710656 by omega)];refine⟨_,rfl,.inr ⟨g',cap',cs',?_,wZi hg hg',?_,q2,?_,?_,rfl⟩⟩
   ·rw[htk];simp
   ·rw[htk,lLa];exact q1
   ·rw[htk,lLa,zW2,<- h3];exact q3
   ·rw[htk,lLa];rfl
 ·rintro fr st1 _ ⟨⟨x,f5,hox⟩,f0,f10,f11,f12,rfl⟩;rw[lTl] at hox;rcases hox with⟨h0,rfl,rfl⟩|⟨g,cap,cs,h0,hg,h1,h2,h3,rfl,rfl⟩
  ·have hn:zZz W l=[]:=by unfold zZz;rw[h0];rfl
   rw[hn];simp only[go_sem,zE,zB,zA,zM,zS,zL,reduceCtorEq,f5,f10,f11,f12,yQm (nLi _)];refine (zQn gl _ rfl _).mono ?_;rintro _ _ ⟨rfl,rfl⟩;simp only[go_sem,zE,zB,zA,zM,zS,zL,reduceCtorEq,f5];refine (yU7 gl _ rfl _).mono ?_;rintro _ _ ⟨⟨t',rfl,ht'⟩,rfl⟩;simp only[go_sem,zE,zB,zA,zM,zS,zL,reduceCtorEq];exact yQ0 (.inl ⟨⟨t',rfl,.inl ht'⟩,rfl⟩)
  ·have hml0:(l.map (noW W)).length=l.length:=List.length_map ..;have hcs:cs=yQh (l.map (noW W))++cs.drop (l.map (noW W)).length:=by rw[<- h3,List.take_append_drop]
   have hsort:=zGy gl T (l.map (noW W)) (cs.drop (l.map (noW W)).length) g cap (st.put g (some (.box cs))) (by omega) (by rw[ISt.put_same,<- hcs]);simp only[go_sem,zE,zB,zA,zM,zS,zL,reduceCtorEq,f5,f10,f11,f12,yQm (nLi _)];refine hsort.mono ?_;rintro _ _ ⟨rfl,q,hp,hs,rfl⟩;have hml:=hp.length_eq;have hcom:=zKx gl q (cs.drop (l.map (noW W)).length) (by omega) g cap (by omega) ((st.put g (some (.box cs))).put g (some (.box (yQh q++cs.drop (l.map (noW W)).length)))) (ISt.put_same ..);rw[hml] at hcom;simp only[go_sem,zE,zB,zA,zM,zS,zL,reduceCtorEq,f5];refine hcom.mono ?_;rintro _ _ ⟨cs2,rfl,rfl,hl2,ht2,hk2⟩;rw[wKh hp hs] at ht2 hk2 ⊢;rw[yQ8,yQ8];simp only[go_sem,zE,zB,zA,zM,zS,zL,reduceCtorEq];refine yQ0 (.inr ⟨g,cap,cs2,hg,rfl,rfl,?_,?_,ht2⟩)
   ·change (sdN (l.map (noW W))).length<=cap;omega
   ·rw[hl2,lLa,yQi,List.length_drop,hml];omega
def IsLn (ln:Ln)(x:IV):Prop:=∃t1 t2,x=.agg [.sl t1 (yQh ln.1),.sl t2 (yQh ln.2)]/\okEs t1 1/\okEs t2 1
theorem xXk (T:Gt gl)(ca m:Nat)(W:List Fm)(tw:Tag)(xw:List IV)(htw:okEs tw 4)(hxw:IsFms W xw)(hW:Srt W)(hWl:W.length<=1000000)(s:Sq)(x:IV)(hx:IsSq s x)(hl:s.l.length<=1000000/\s.r.length<=1000000)(hin:InW W (s.l,s.r))(st:ISt) :
  ICall prog gl 39 [spI ca tw xw m,x] st (λr st'=>IsLn (zVu W (s.l,s.r)) r/\st'=st):=by
 obtain⟨t1,x1,t2,x2,rfl,e1,i1,e2,i2⟩:=hx;have h1:=λst=>zYn gl T ca m W tw xw htw hxw hW hWl s.l t1 x1 e1 i1 hl.1 hin.1 st;have h2:=λst=>zYn gl T ca m W tw xw htw hxw hW hWl s.r t2 x2 e2 i2 hl.2 hin.2 st;refine ICall.intro (c:=cf prog gl [] [(1,[0,1,2,4,5,6,3,7,8,9])]) func39 rfl (by show _<=14;simp) (by kernel_rfl) ?_;simp only[go_sem,zE,zB,zA,zM,zS,zL,reduceCtorEq,fits];refine (h1 _).mono ?_;rintro _ _ ⟨⟨t3,rfl,e3⟩,rfl⟩;simp only[go_sem,zE,zB,zA,zM,zS,zL,reduceCtorEq,fits];refine (h2 _).mono ?_;rintro _ _ ⟨⟨t4,rfl,e4⟩,rfl⟩;simp only[go_sem,zE,zB,zA,zM,zS,zL,reduceCtorEq,fits];exact yQ0 ⟨⟨t3,t4,rfl,e3,e4⟩,rfl⟩
theorem zU1 (qf:FuncId)(t:Tag)(ht:t.cap=.nil)(st:ISt):ICall prog gl 92 [.sl t [],.fn (.func qf) [] []] st (λr st'=>(∃t',r=.sl t' []/\t'.cap=.nil)/\st'=st):=by
 obtain⟨fs,c,es⟩:=t;obtain rfl:c=.nil:=ht;refine ICall.intro (c:=cf prog gl [22,27,42,47] []) func92 rfl (by show _<=66;simp) (by kernel_rfl) ?_;simp only[go_sem,zL,reduceCtorEq,show decide (((0:Nat):Int)<2)=true from rfl];exact yQ0 ⟨⟨_,rfl,rfl⟩,rfl⟩
noncomputable def zKy (ca rule:Nat)(main:Fm)(term:Tm)(name:ByteArray):List Sq×Nat :=
 if !yWd ca then ([],2) else match rowS ca rule with
  | none=>([],191)
  | some r=>zGx ca rule r main term name
theorem wYm (G:Gl gl)(T:Gt gl)(ca rule:Nat)(main:Fm)(y:IV)(hy:IsFm main y)(hm:main.size<=1000000)(term:Tm)(z:IV)(hz:IsTm term z)(ht:term.size<=1000000)(name:ByteArray)(st:ISt) :
  ICall prog gl 110 [.raw (.int .u8 ca),.raw (.int .u8 rule),y,z,.raw (.string name)] st (AdRD st (zKy ca rule main term name)):=by
 have hA:=λr hr st=>vXs gl G T ca rule r hr main y hy hm term z hz ht name st;have hkn:=λst=>xGi gl ca st;obtain⟨o3,n3,t3,x3,t4,x4,rfl⟩:=hy.agg;obtain⟨v,un,tz,xz,rfl⟩:=wV7 hz;unfold zKy;refine iI func110 ?_;simp only[go_sem,zE,zA,reduceCtorEq];refine (hkn _).mono ?_;rintro _ st ⟨rfl,rfl⟩;cases hk:yWd ca
 ·simp only[go_sem,zE];exact yQ0 ⟨_,_,rfl,.inl rfl,.inl rfl,rfl,rfl⟩
 simp only[go_sem,zA,reduceCtorEq];refine (wVk gl ca _).mono ?_;rintro _ _ ⟨b,hb,rfl,rfl⟩;cases hr:rowS ca rule with
 | none =>
  simp only[go_sem,zE,zA,zL,ISt.put_same,zZs,hr,Option.map_none,yUr];exact yQs (yQp hb) ⟨_,_,rfl,.inl rfl,.inl rfl,rfl,rfl⟩
 | some r =>
  have hcall:=hA r hr;obtain⟨rl,rr,op,asks⟩:=r;simp only[go_sem,zE,zA,zL,reduceCtorEq,ISt.put_same,zZs,hr,Option.map_some,zKc,rwI];refine (hcall _).mono ?_;rintro _ _ ⟨tg,xs,rfl,he,hap,hxs,rfl⟩;simp only[go_sem,zE];exact yQs (yQp hb) ⟨_,_,rfl,he,hap,hxs,rfl⟩
theorem wYn (G:Gl gl)(T:Gt gl)(ca rule:Nat)(main:Fm)(y:IV)(hy:IsFm main y)(hm:main.size<=1000000)(term:Tm)(z:IV)(hz:IsTm term z)(ht:term.size<=1000000)(name:ByteArray)(st:ISt) :
  ICall prog gl 110 [.raw (.int .u8 ca),.raw (.int .u8 rule),y,z,.raw (.string name)] st (AdR st (zKy ca rule main term name)) :=
 (wYm gl G T ca rule main y hy hm term z hz ht name st).mono AdRD.w
end Go.Proofs.Tryz
namespace Go.Proofs.Tryz
open Go Go.Iv
theorem wUt {ca:Nat}(hc:ca≠3)(f:Fm):f.ok=true->opsB ca f=true->PF f:=by
 refine xJa (p:=λf=>f.ok=true->opsB ca f=true->PF f) (λo n us sub ih h1 h2=>?_) f;simp only[Fm.ok,bAt] at h1;obtain⟨⟨hrow,_⟩,hok⟩:=h1;simp only[opsB,bAt,Bool.or_eq_true,dTe,if_neg hc] at h2;obtain⟨⟨⟨ho1,ho7⟩,hus⟩,hops⟩:=h2;have hus:us=[]:=List.isEmpty_iff.1 (hus.resolve_left hc);subst hus;have hsub:∀a∈sub,PF a:=by
  have key:∀l:List Fm,(∀a∈l,a∈sub)->yW6 l=true->yV0 ca l=true->∀a∈l,PF a:=λl=>by
   induction l with
   | nil=>intro _ _ _ a ha;cases ha
   | cons b l ihl =>
    intro hm h1 h2 a ha;simp only[yW6,yV0,bAt] at h1 h2;rcases List.mem_cons.1 ha with rfl|ha
    ·exact ih a (hm a (.head _)) h1.1 h2.1
    ·exact ihl (λx hx=>hm x (.tail _ hx)) h1.2 h2.2 a ha
  exact key sub (λ_ h=>h) hok hops
 have ho:o=1\/o=2\/o=3\/o=4\/o=5\/o=6\/o=7:=by omega
 rcases ho with rfl|rfl|rfl|rfl|rfl|rfl|rfl<;>simp only[yJb,bAt,dTe] at hrow
 ·obtain rfl:sub=[]:=List.eq_nil_of_length_eq_zero hrow.2;exact .atom n
 ·obtain rfl:sub=[]:=List.eq_nil_of_length_eq_zero hrow.2;rw[hrow.1.1];exact .fls
 ·match sub,hrow.2 with
  | [a],_=>rw[hrow.1.1];exact .neg (hsub a (.head _))
 all_goals
  match sub,hrow.2 with
  | [a,b],_=>rw[hrow.1.1];exact .bin (by omega) (by omega) (hsub a (.head _)) (hsub b (.tail _ (.head _)))
theorem zYk {ca:Nat}(hc:ca≠3){f:Fm}(h:fmB ca f=true):PF f:=by
 unfold fmB Fm.right at h;simp only[bAt] at h;exact wUt hc f h.1.1.1 h.2
theorem wWm {ca:Nat}{n:ByteArray}{us:List Tm}{a:Fm}(h:fmB ca (.mk 3 n us [a])=true):fmB ca a=true:=by
 unfold fmB Fm.right at *;simp only[bAt,dTe,Fm.ok,yW6,opsB,yV0,Fm.size,yQb,Fm.deep,yZ3] at *;obtain⟨⟨⟨⟨_,k1,_⟩,k2⟩,k3⟩,_,k4,_⟩:=h;have k2:=of_decide_eq_true k2;have k3:=of_decide_eq_true k3;exact⟨⟨⟨k1,by omega⟩,by omega⟩,k4⟩
theorem wWn {ca o:Nat}(ho:o≠3/\4<=o/\o<=7){n:ByteArray}{us:List Tm}{a b:Fm}(h:fmB ca (.mk o n us [a,b])=true):fmB ca a=true/\fmB ca b=true/\fmB ca (imF a b)=true/\fmB ca (imF b a)=true:=by
 have key:∀k,yJb k noN 0 2=true↔k=4\/k=5\/k=6\/k=7\/k=14:=λk=>by
  unfold yJb;split<;>simp_all
 unfold fmB Fm.right at *;simp only[bAt,dTe,Fm.ok,yW6,opsB,yV0,Fm.size,yQb,Fm.deep,yZ3,yYf,yQg,yQt,List.length_cons,List.length_nil,Nat.zero_add,Nat.reduceAdd,List.isEmpty_nil,Bool.or_true] at *;have h6:yJb 6 noN 0 2=true:=(key 6).2 (by omega);obtain⟨⟨⟨⟨⟨_,_⟩,k1,k2,_⟩,k3⟩,k4⟩,⟨⟨k5,k6⟩,k7⟩,k8,k9,_⟩:=h;have hle:6<=(if ca=3 then 9 else 7):=by split<;>omega
 have k3:=of_decide_eq_true k3;have k4:=of_decide_eq_true k4;exact⟨⟨⟨⟨k1,by omega⟩,by omega⟩,k8⟩,⟨⟨⟨k2,by omega⟩,by omega⟩,k9⟩,⟨⟨⟨⟨⟨h6,trivial⟩,k1,k2,trivial⟩,by omega⟩,dEt (by omega)⟩,⟨⟨by omega,hle⟩,trivial⟩,k8,k9,trivial⟩,⟨⟨⟨⟨⟨h6,trivial⟩,k2,k1,trivial⟩,by omega⟩,dEt (by omega)⟩,⟨⟨by omega,hle⟩,trivial⟩,k9,k8,trivial⟩⟩
def yJh (j:Bool)(op:Nat)(r:Bool):List Nat :=
 if op=3 then (if r=true then [4] else [3]) else if op=4 then (if r=true then [6] else [5])
 else if op=5 then (if r=true then (if j=true then [8,18] else [8]) else [7]) else if op=6 then (if r=true then [10] else [9])
 else if op=7 then (if r=true then [12] else [11]) else []
abbrev calJ (ca:Nat):Bool:=decide (ca=2)
abbrev tmZ:Tm:=.mk false noN []
def sqOf (p:Sn):Sq:=⟨p.1,p.2⟩
theorem yYd {ca:Nat}{f:Fm}(hf:PF f)(r:Bool):(addF (calJ ca) f r).map (·.1)=yJh (calJ ca) f.op r:=by
 cases hf with
 | atom n=>simp[addF,yJh,Fm.op]
 | fls=>simp[addF,yJh,Fm.op]
 | neg h=>cases r<;>simp[addF,yJh,Fm.op]
 | @bin o a b h4 h7 _ _ =>
  obtain rfl|rfl|rfl|rfl:o=4\/o=5\/o=6\/o=7:=by omega
  all_goals cases r<;>simp[addF,yJh,Fm.op]
  by_cases h:ca=2<;>simp[h]
theorem wQ6 {ca:Nat}(hc:ca=1\/ca=2){f:Fm}(h:fmB ca f=true){r:Bool}{t:Nat×List Sn}(ht:t∈addF (calJ ca) f r):zKy ca t.1 f tmZ noN=(t.2.map sqOf,0):=by
 have hc3:ca≠3:=by omega
 have hk:yWd ca=true:=by unfold yWd;rcases hc with rfl|rfl<;>rfl
 have key:∀R:Rw,rowS ca t.1=some R->f.op=R.op->R.asks=0->zKy ca t.1 f tmZ noN=(addS ca t.1 f ((f.subs[0]?).getD fm0) ((f.subs[1]?).getD fm0),0):=λR h1 h2 h3=>by
  unfold zKy;rw[hk,h1];exact yQl h (.inr h2) |>.trans (by rw[if_pos h3])
 have hpf:=zYk hc3 h;cases hpf with
 | atom n=>simp[addF] at ht
 | fls=>simp[addF] at ht
 | neg ha =>
  cases r<;>simp[addF] at ht<;>subst ht<;>rw[key _ (by unfold rowS;rcases hc with rfl|rfl<;>rfl) rfl rfl]<;>rfl
 | @bin o a b h4 h7 _ _ =>
  obtain rfl|rfl|rfl|rfl:o=4\/o=5\/o=6\/o=7:=by omega
  all_goals rcases hc with rfl|rfl<;>cases r<;>simp[addF,calJ] at ht
  all_goals first
   | (subst ht;rw[key _ rfl rfl rfl];rfl)
   | (rcases ht with rfl|rfl<;>(rw[key _ rfl rfl rfl];rfl))
structure SpOk (ca:Nat)(W:List Fm):Prop where
 cal:ca=1\/ca=2
 srt:Srt W
 len:W.length<=1000000
 fm:∀f∈W,fmB ca f=true
 full:Full W
theorem SpOk.sub {ca:Nat}{W:List Fm}(h:SpOk ca W){f:Fm}(hf:f∈W){j r:Bool}{t:Nat×List Sn}(ht:t∈addF j f r){p:Sn}(hp:p∈t.2):InW W p:=h.full f hf j r t ht p hp
theorem SpOk.pf {ca:Nat}{W:List Fm}(h:SpOk ca W){f:Fm}(hf:f∈W):PF f:=zYk (by have:=h.cal;omega) (h.fm f hf)
theorem SpOk.size {ca:Nat}{W:List Fm}(h:SpOk ca W){f:Fm}(hf:f∈W):f.size<=400:=by
 have:=h.fm f hf;unfold fmB Fm.right at this;simp only[bAt,dTe] at this;exact this.1.1.2
end Go.Proofs.Tryz
namespace Go.Proofs.Tryz
open Go Go.Iv
set_option maxRecDepth 4000
variable (gl:Nat->Option IV)
def u8I (l:List Nat):List IV:=l.map λ(n:Nat)=>.raw (.int .u8 (n:Int))
theorem yX6 (a b:Operand):yJn 2 [(0,a),(1,b)]=true:=rfl
theorem wZ0 (ca m:Nat)(tw:Tag)(xw:List IV)(op:Nat)(r:Bool)(st:ISt) :
  ICall prog gl 109 [spI ca tw xw m,.raw (.int .u8 (op:Int)),.raw (.bool r)] st (λx st'=>(∃t,x=.sl t (u8I (yJh (calJ ca) op r))/\okEs t 1)/\st'=st):=by
 have d:∀c:Nat,decide ((op:Int)=(c:Int))=decide (op=c):=λc=>decide_eq_decide.2 (by omega);have d3:decide ((op:Int)=3)=decide (op=3):=d 3;have d4:decide ((op:Int)=4)=decide (op=4):=d 4;have d5:decide ((op:Int)=5)=decide (op=5):=d 5;have d6:decide ((op:Int)=6)=decide (op=6):=d 6;have d7:decide ((op:Int)=7)=decide (op=7):=d 7;have dc:decide ((ca:Int)=2)=calJ ca:=decide_eq_decide.2 (by omega);unfold yJh;refine iI func109 ?_;by_cases h3:op=3
 ·rw[if_pos h3];cases r
  ·simp only[go_sem,zE,zB,zA,zM,zS,zL,reduceCtorEq,d3,dEt h3,fits,yQ1,yX6];exact yQ0 ⟨⟨_,rfl,.inr rfl⟩,rfl⟩
  ·simp only[go_sem,zE,zB,zA,zM,zS,zL,reduceCtorEq,d3,dEt h3,fits,yQ1,yX6];exact yQ0 ⟨⟨_,rfl,.inr rfl⟩,rfl⟩
 ·by_cases h4:op=4
  ·rw[if_neg h3,if_pos h4];cases r
   ·simp only[go_sem,zE,zB,zA,zM,zS,zL,reduceCtorEq,d3,d4,dEf h3,dEt h4,fits,yQ1,yX6];exact yQ0 ⟨⟨_,rfl,.inr rfl⟩,rfl⟩
   ·simp only[go_sem,zE,zB,zA,zM,zS,zL,reduceCtorEq,d3,d4,dEf h3,dEt h4,fits,yQ1,yX6];exact yQ0 ⟨⟨_,rfl,.inr rfl⟩,rfl⟩
  ·by_cases h5:op=5
   ·rw[if_neg h3,if_neg h4,if_pos h5];cases r
    ·simp only[go_sem,zE,zB,zA,zM,zS,zL,reduceCtorEq,d3,d4,d5,dEf h3,dEf h4,dEt h5,fits,yQ1,yX6];exact yQ0 ⟨⟨_,rfl,.inr rfl⟩,rfl⟩
    ·cases hj:calJ ca
     ·simp only[go_sem,zE,zB,zA,zM,zS,zL,reduceCtorEq,d3,d4,d5,dEf h3,dEf h4,dEt h5,fits,yQ1,yX6,dc,hj];exact yQ0 ⟨⟨_,rfl,.inr rfl⟩,rfl⟩
     ·simp only[go_sem,zE,zB,zA,zM,zS,zL,reduceCtorEq,d3,d4,d5,dEf h3,dEf h4,dEt h5,fits,yQ1,yX6,dc,hj];exact yQ0 ⟨⟨_,rfl,.inr rfl⟩,rfl⟩
   ·by_cases h6:op=6
    ·rw[if_neg h3,if_neg h4,if_neg h5,if_pos h6];cases r
     ·simp only[go_sem,zE,zB,zA,zM,zS,zL,reduceCtorEq,d3,d4,d5,d6,dEf h3,dEf h4,dEf h5,dEt h6,fits,yQ1,yX6];exact yQ0 ⟨⟨_,rfl,.inr rfl⟩,rfl⟩
     ·simp only[go_sem,zE,zB,zA,zM,zS,zL,reduceCtorEq,d3,d4,d5,d6,dEf h3,dEf h4,dEf h5,dEt h6,fits,yQ1,yX6];exact yQ0 ⟨⟨_,rfl,.inr rfl⟩,rfl⟩
    ·by_cases h7:op=7
     ·rw[if_neg h3,if_neg h4,if_neg h5,if_neg h6,if_pos h7];cases r
      ·simp only[go_sem,zE,zB,zA,zM,zS,zL,reduceCtorEq,d3,d4,d5,d6,d7,dEf h3,dEf h4,dEf h5,dEf h6,dEt h7,fits,yQ1,yX6];exact yQ0 ⟨⟨_,rfl,.inr rfl⟩,rfl⟩
      ·simp only[go_sem,zE,zB,zA,zM,zS,zL,reduceCtorEq,d3,d4,d5,d6,d7,dEf h3,dEf h4,dEf h5,dEf h6,dEt h7,fits,yQ1,yX6];exact yQ0 ⟨⟨_,rfl,.inr rfl⟩,rfl⟩
     ·rw[if_neg h3,if_neg h4,if_neg h5,if_neg h6,if_neg h7];simp only[go_sem,zE,zB,zA,zM,zS,zL,reduceCtorEq,d3,d4,d5,d6,d7,dEf h3,dEf h4,dEf h5,dEf h6,dEf h7,fits];exact yQ0 ⟨⟨_,rfl,.inl rfl⟩,rfl⟩
@[go_sem] theorem vQb:mapI prog 90=some (.pl,.sl ⟨true,.nil,0⟩ []):=by kernel_rfl
def AllR {α:Type}(R:α->IV->Prop)(l:List α)(xs:List IV):Prop:=xs.length=l.length/\∀(i:Nat) (a:α),l[i]?=some a->∃x,xs[i]?=some x/\R a x
theorem AllR.nil {α:Type}{R:α->IV->Prop}:AllR R [] []:=⟨rfl,λi a h=>by simp at h⟩
theorem AllR.snoc {α:Type}{R:α->IV->Prop}{l:List α}{xs:List IV}{a:α}{x:IV}(h:AllR R l xs)(hx:R a x):AllR R (l++[a]) (xs++[x]):=by
 refine⟨by simp[h.1],λi b hb=>?_⟩;rcases Nat.lt_or_ge i l.length with hi|hi
 ·rw[List.getElem?_append_left hi] at hb;rw[List.getElem?_append_left (by rw[h.1];exact hi)];exact h.2 i b hb
 ·rw[List.getElem?_append_right hi] at hb;rw[List.getElem?_append_right (by rw[h.1];exact hi),h.1];cases hk:i-l.length with
  | zero=>rw[hk] at hb;cases hb;exact⟨x,rfl,hx⟩
  | succ n=>rw[hk] at hb;simp at hb
def IsEx (e:Ex)(x:IV):Prop:=∃t1 t2,x=.agg [.sl t1 (yQh e.1.1),.sl t2 (yQh e.1.2),.raw (.int .i64 (e.2.1:Int)),.raw (.int .i64 (e.2.2:Int))]/\okEs t1 1/\okEs t2 1
abbrev Tn:=Nat×List Ex
def IsTn (t:Tn)(x:IV):Prop:=∃tt ys,x=.agg [.raw (.int .u8 (t.1:Int)),.sl tt ys]/\okEs tt 4/\AllR IsEx t.2 ys
def wJ5 (l:List Tn)(x:IV):Prop:=∃t ys,x=.sl t ys/\okEs t 2/\AllR IsTn l ys
noncomputable def yZp (W:List Fm)(j:Bool)(f:Fm)(r:Bool):List Tn:=(addF j f r).map λt=>(t.1,t.2.map (exW W))
def plV (i:Nat)(r:Bool):Value:=.agg #[.int .i64 (i:Int),.bool r]
def CacheOk (ca:Nat)(W:List Fm)(es:List (Value×IV)):Prop:=∀p∈es,∃i r f,p.1=plV i r/\W[i]?=some f/\wJ5 (yZp W (calJ ca) f r) p.2
theorem xJe {i:Nat}{r:Bool}{x:IV}:∀ {es:List (Value×IV)},yXs (plV i r) es=some x->(∀p∈es,∃(i:Nat) (r:Bool),p.1=plV i r)->(plV i r,x)∈es
 | [],h,_=>by cases h
 | (k,v)::es,h,hes=>by
  obtain⟨i',r',hk⟩:=hes _ (.head _);simp only at hk;subst hk;simp only[yXs] at h;have hq:yKc (plV i r) (plV i' r')=(decide ((i:Int)=i')&&decide (r=r')):=rfl;rw[hq] at h;by_cases hc:(i:Int)=i'/\r=r'
  ·obtain⟨h1,h2⟩:=hc;obtain rfl:i=i':=by omega
   subst h2;simp at h;subst h;exact .head _
  ·rw[if_neg (by simpa using hc)] at h;exact .tail _ (xJe h λp hp=>hes p (.tail _ hp))
theorem xZo {k:Value}{v:IV}:∀ {es:List (Value×IV)} {p:Value×IV},p∈updI k v es->p=(k,v)\/p∈es
 | [],p,h=>.inl (List.mem_singleton.1 h)
 | (x,u)::es,p,h=>by
  simp only[updI] at h;split at h
  ·rcases List.mem_cons.1 h with h|h
   ·exact .inl h
   ·exact .inr (.tail _ h)
  ·rcases List.mem_cons.1 h with h|h
   ·exact .inr (by rw[h];exact .head _)
   ·exact (xZo h).imp id (.tail _)
theorem CacheOk.upd {ca:Nat}{W:List Fm}{es:List (Value×IV)}(h:CacheOk ca W es){i:Nat}{r:Bool}{f:Fm}{x:IV}(hf:W[i]?=some f)(hx:wJ5 (yZp W (calJ ca) f r) x):CacheOk ca W (updI (plV i r) x es):=λp hp=>by
 rcases xZo hp with rfl|hp
 ·exact⟨i,r,f,rfl,hf,hx⟩
 ·exact h p hp
theorem xJx {st st':ISt}{m:Nat}{o:Option IObj}(h:subSt st st'):subSt (st.put m o) (st'.put m o):=λc x hc=>by
 rw[ISt.put_apply] at hc ⊢;split
 ·rename_i hcm;rw[if_pos hcm] at hc;exact hc
 ·rename_i hcm;rw[if_neg hcm] at hc;exact h c x hc
theorem xJq {j r:Bool}{f:Fm}{t:Nat×List Sn}(h:t∈addF j f r):∀p∈t.2,p.1.length<=2/\p.2.length<=2:=by
 unfold addF at h;split at h<;>(try split at h)<;>simp at h<;>first|(subst h;simp)|(rcases h with rfl|rfl<;>simp)
theorem zWt {j r:Bool}{f:Fm}{t:Nat×List Sn}(h:t∈addF j f r):t.2.length<=2:=by
 unfold addF at h;split at h<;>(try split at h)<;>simp at h<;>first|(subst h;simp)|(rcases h with rfl|rfl<;>simp)
theorem vQt {f:Fm}{n:Nat}{l:List IV}(h:IsFm f (.agg (.raw (.int .u8 (n:Int))::l))):n=f.op:=by
 obtain⟨o,nn,us,sub⟩:=f;obtain⟨t,xs,t',ys,he,_⟩:=h.mk;simp only[IV.agg.injEq,List.cons.injEq,IV.raw.injEq,Value.int.injEq,true_and] at he;exact Int.ofNat.inj he.1
theorem wU4 (G:Gl gl)(T:Gt gl)(ca m:Nat)(W:List Fm)(hS:SpOk ca W)(tw:Tag)(xw:List IV)(htw:okEs tw 4)(hxw:IsFms W xw)(i:Nat)(r:Bool)(f:Fm)(hf:W[i]?=some f)(es:List (Value×IV))(hes:CacheOk ca W es)(st:ISt)(hm:st m=some (.map .pl es)) :
  ICall prog gl 73 [spI ca tw xw m,.agg [.raw (.int .i64 (i:Int)),.raw (.bool r)]] st (λx st'=>wJ5 (yZp W (calJ ca) f r) x/\∃es',CacheOk ca W es'/\st'=st.put m (some (.map .pl es'))):=by
 have hil:i<W.length:=(lGs hf).1;have hWl:=hS.len;have hfW:=lMg hf;have hfB:=hS.fm f hfW;obtain⟨y,hky,hy⟩:=hxw.get hf;have hki:yQv .pl (plV i r)=true:=by
  show (decide (-9223372036854775808<=(i:Int))&&decide ((i:Int)<=9223372036854775807))=true;rw[bAt,dTe,dTe];omega
 refine ICall.intro (c:=cf prog gl [] [(14,[0,1,2,3,5,6,7,8,9,10,4,11,12,13,14,15])]) func73 rfl (by show _<=94;simp) (by kernel_rfl) ?_;have hfi:∀o:Option IV,yXs (.agg #[.int .i64 (i:Int),.bool r]) es=o->∀x,o=some x->wJ5 (yZp W (calJ ca) f r) x:=λo ho x hx=>by
  subst hx;have hmem:=xJe (i:=i) (r:=r) ho λp hp=>by obtain⟨i',r',f',h1,_⟩:=hes p hp;exact⟨i',r',h1⟩
  obtain⟨i',r',f',h1,h2,h3⟩:=hes _ hmem;have h1:plV i r=plV i' r':=h1;simp only[plV,Value.agg.injEq,Array.mk.injEq,List.cons.injEq,Value.int.injEq,true_and,Value.bool.injEq,and_true] at h1;obtain⟨h4,rfl⟩:=h1;obtain rfl:i=i':=by omega
  rw[hf] at h2;cases h2;exact h3
 simp only[go_sem,zE,zB,zA,zM,zS,zL,reduceCtorEq,fits,hm,show yQv .pl (.agg #[.int .i64 (i:Int),.bool r])=true from hki];cases hq:yXs (.agg #[.int .i64 (i:Int),.bool r]) es with
 | some x =>
  obtain⟨t,ys,rfl,ht,hys⟩:=hfi _ hq x rfl;simp only[go_sem,zE,zB,zA,zM,zS,zL,reduceCtorEq,zQr,Option.getD_some,Option.isSome_some,fits];exact yQ0 ⟨⟨t,ys,rfl,ht,hys⟩,es,hes,(yXg hm).symm⟩
 | none =>
  have hLr:=yYd (ca:=ca) (hS.pf hfW) r;have hLl:(yJh (calJ ca) f.op r).length=(addF (calJ ca) f r).length:=by rw[<- hLr,List.length_map]
  have hL2:(addF (calJ ca) f r).length<=1000:=by
   rw[<- hLl];unfold yJh
   repeat' split
   all_goals simp
  have hrules:=λst=>wZ0 gl ca m tw xw f.op r st;have hadd:=λrule st=>wYn gl G T ca rule f y hy (by have:=hS.size hfW;omega) tmZ (.agg [.raw (.bool false),.raw (.string noN),.sl ⟨true,.nil,0⟩ []]) (by simp only[tmZ,IsTm];exact⟨_,_,rfl,.inl rfl,by simp only[IsTms]⟩) (by decide) noN st;obtain⟨y1,y2,y3,y4,y5,y6,rfl⟩:=hy.agg;obtain rfl:y1=f.op:=vQt hy;simp only[go_sem,zE,zB,zA,zM,zS,zL,reduceCtorEq,zQr,Option.getD_none,Option.isSome_none,fits,hky,yQ3 htw,iNn,lt_i hil];refine (hrules _).mono ?_;rintro _ st ⟨⟨tL,rfl,htL⟩,rfl⟩;simp only[go_sem,zE,zB,zA,zM,zS,zL,reduceCtorEq,fits,u8I,List.length_map,hLl];intro _;refine LoopC.ctr (addF (calJ ca) f r).length (λk fr st' ds=>(∃t ys,fr 5=.iv (.sl t ys)/\AllR IsTn ((yZp W (calJ ca) f r).take k) ys/\own st' t k 2 st/\subSt st st')/\fr 0=.iv (spI ca tw xw m)/\fr 3=.box [.raw (.int .i64 (i:Int)),.raw (.bool r)] /\
   fr 7=.box [.raw (.int .u8 (f.op:Int)),.raw (.string y2),.sl y3 y4,.sl y5 y6]/\fr 39=.iv (.sl tL (u8I (yJh (calJ ca) f.op r)))/\fr 40=.iv (.raw (.int .i64 (addF (calJ ca) f r).length))/\fr 41=.iv (.raw (.int .i64 (k:Int)))/\ds=[]) ?_ ?_ ?_
  ·simp only[go_sem,zE,zB,zA,zM,zS,zL,reduceCtorEq,u8I];exact⟨⟨_,_,rfl,AllR.nil,own.nil _ _ _ _ _,subSt.refl _⟩,rfl⟩
  ·rintro k fr st1 _ hlt ⟨⟨t,ys,f5,hys,hown,hsub⟩,f0,f3,f7,f39,f40,f41,rfl⟩;obtain⟨tt,htt⟩:=yQ2 hlt;have htm:=lMg htt;have hrk:(yJh (calJ ca) f.op r)[k]?=some tt.1:=by rw[<- hLr,List.getElem?_map,htt];rfl
   have hu:(u8I (yJh (calJ ca) f.op r))[k]?=some (.raw (.int .u8 (tt.1:Int))):=by rw[u8I,List.getElem?_map,hrk];rfl
   have hai:=wQ6 hS.cal hfB htm;have hsubs:=λp hp=>hS.sub hfW htm (p:=p) hp;simp only[go_sem,zE,zB,zA,zM,zS,zL,reduceCtorEq,f0,f3,f7,f39,f40,f41,lt_i hlt,yQ3 htL,iNn,hu,fits];refine (hadd tt.1 _).mono ?_;rintro _ st1 ⟨ta,xa,rfl,hta,hxa,rfl⟩;rw[hai] at hxa ⊢;simp only[go_sem,zE,zB,zA,zM,zS,zL,reduceCtorEq,f5,show decide (((0:Nat):Int)=0)=true from rfl,fits];have hxl:xa.length=tt.2.length:=by rw[hxa.len,List.length_map]
   have hpl:=xJq htm;have hp2:=zWt htm;intro _;rw[hxl];refine LoopC.ctr tt.2.length (λq fr st' ds=>(∃t2 zs,fr 12=.box [.raw (.int .u8 (tt.1:Int)),.sl t2 zs]/\AllR IsEx ((tt.2.map (exW W)).take q) zs/\own st' t2 q 4 st/\own st' t k 2 st/\subSt st st')/\fr 0=.iv (spI ca tw xw m)/\fr 3=.box [.raw (.int .i64 (i:Int)),.raw (.bool r)]/\fr 5=.iv (.sl t ys) /\
    fr 7=.box [.raw (.int .u8 (f.op:Int)),.raw (.string y2),.sl y3 y4,.sl y5 y6]/\fr 39=.iv (.sl tL (u8I (yJh (calJ ca) f.op r)))/\fr 40=.iv (.raw (.int .i64 (addF (calJ ca) f r).length))/\fr 41=.iv (.raw (.int .i64 (k:Int))) /\
    fr 60=.iv (.sl ta xa)/\fr 61=.iv (.raw (.int .i64 tt.2.length))/\fr 62=.iv (.raw (.int .i64 (q:Int)))/\ds=[]) ?_ ?_ ?_
   ·simp only[go_sem,zE,zB,zA,zM,zS,zL,reduceCtorEq];refine⟨⟨_,_,rfl,AllR.nil,own.nil _ _ _ _ _,hown,hsub⟩,f0,f3,f5,f7,f39,f40,f41,rfl⟩
   ·rintro q fr st2 _ hq ⟨⟨t2,zs,f12,hzs,hown2,hown,hsub⟩,f0,f3,f5,f7,f39,f40,f41,f60,f61,f62,rfl⟩;obtain⟨p,hp⟩:=yQ2 hq;have hps:(tt.2.map sqOf)[q]?=some (sqOf p):=by rw[List.getElem?_map,hp];rfl
    obtain⟨z,hzk,hz⟩:=hxa.get hps;have hpl2:=hpl p (lMg hp);have hlc:=λst=>xXk gl T ca m W tw xw htw hxw hS.srt hWl (sqOf p) z hz ⟨by show p.1.length<=_;omega,by show p.2.length<=_;omega⟩ (hsubs p (lMg hp)) st;obtain⟨t3,x3,t4,x4,rfl,e3,i3,e4,i4⟩:=hz;simp only[go_sem,zE,zB,zA,zM,zS,zL,reduceCtorEq,f0,f3,f5,f7,f12,f39,f40,f41,f60,f61,f62,lt_i hq,yQ3 hta,iNn,hzk,fits];refine (hlc _).mono ?_;rintro _ st2 ⟨⟨t5,t6,rfl,e5,e6⟩,rfl⟩;simp only[go_sem,zE,zB,zA,zM,zS,zL,reduceCtorEq,f12,fits,i3.len,i4.len,yQ1];have hzl:zs.length=q:=by rw[hzs.1,List.length_take,List.length_map];omega
    refine yX4 hown2 hzl hsub rfl (by simp[fits,IV.one]) (by simp only;omega) (by omega) λt2' st3 hown3 hsub3 hkeep=>?_;have hown':own st3 t k 2 st:=hown.mono λg hg _=>hkeep g _ hg λn hn=>by cases hn
    simp only[go_sem,zE,zB,zA,zM,zS,zL,reduceCtorEq,f0,f3,f5,f7,f12,f39,f40,f41,f60,f61,f62,yQd hq (show tt.2.length<=281474976710656 by omega)];refine⟨t2',_,rfl,?_,hown3,hown',hsub3⟩;rw[yQ7 (show (tt.2.map (exW W))[q]?=some (exW W p) by rw[List.getElem?_map,hp];rfl)];exact hzs.snoc ⟨t5,t6,rfl,e5,e6⟩
   ·rintro fr st2 _ ⟨⟨t2,zs,f12,hzs,hown2,hown,hsub⟩,f0,f3,f5,f7,f39,f40,f41,f60,f61,f62,rfl⟩;have hyl:ys.length=k:=by
     rw[hys.1,List.length_take];unfold yZp;rw[List.length_map];omega
    simp only[go_sem,zE,zB,zA,zM,zS,zL,reduceCtorEq,f0,f3,f5,f7,f12,f39,f40,f41,f60,f61,f62,yQm (nLi _),fits,yQ1];refine yX4 hown hyl hsub rfl (by simp[fits,IV.one]) (by simp only;omega) (by omega) λt' st3 hown3 hsub3 hkeep=>?_;simp only[go_sem,zE,zB,zA,zM,zS,zL,reduceCtorEq,f0,f3,f5,f7,f39,f40,f41,yQd hlt (show (addF (calJ ca) f r).length<=281474976710656 by omega)];refine⟨t',_,rfl,?_,hown3,hsub3⟩;unfold yZp;rw[yQ7 (show ((addF (calJ ca) f r).map λt=>(t.1,t.2.map (exW W)))[k]?=some (tt.1,tt.2.map (exW W)) by rw[List.getElem?_map,htt];rfl)];refine hys.snoc ⟨t2,zs,rfl,hown2.es,?_⟩;rw[show tt.2.length=(tt.2.map (exW W)).length from (List.length_map ..).symm,lTl] at hzs;exact hzs
  ·rintro fr st1 _ ⟨⟨t,ys,f5,hys,hown,hsub⟩,f0,f3,f7,f39,f40,f41,rfl⟩;have hm1:=hsub m _ hm;rw[show (addF (calJ ca) f r).length=(yZp W (calJ ca) f r).length from (List.length_map ..).symm,lTl] at hys;simp only[go_sem,zE,zB,zA,zM,zS,zL,reduceCtorEq,f0,f3,f5,f7,f39,f40,f41,yQm (nLi _),hm1,show yQv .pl (.agg #[.int .i64 (i:Int),.bool r])=true from hki,fits];exact yQs (xJx hsub) ⟨⟨t,ys,rfl,hown.es,hys⟩,_,hes.upd hf ⟨t,ys,rfl,hown.es,hys⟩,rfl⟩
end Go.Proofs.Tryz
namespace Go.Iv
open Go
theorem wX0 {st:ISt}{b:Nat}{cs:List IV}(h:st b=some (.box cs)):LendOk st (ISt.put (λ_=>none) b (some (.box cs))) (st.put b none):=by
 refine⟨λc o hc=>?_,λc o hc=>?_,λc cs' hc=>?_⟩
 ·rw[ISt.put_apply] at hc;split at hc
  ·rename_i hb;rw[hb,h];exact hc
  ·cases hc
 ·rw[ISt.put_apply] at hc;split at hc
  ·cases hc
  ·exact hc
 ·rw[ISt.put_apply] at hc ⊢;split at hc
  ·rename_i hb;rw[if_pos hb]
  ·cases hc
end Go.Iv
namespace Go.Iv
open Go
def vcF (c:Cf)(t:Nat):Nat->Code->Kc->Fr->ISt->List Dfd->Prop
 | 0,code,Q,fr,st,ds=>∃b y,fr t=.iv (.raw (.pointer (some ⟨b,0,none⟩)))/\st b=some (.box y.cells)/\vcC c code Q (fr.put t (.iv (.cptr (age y)))) (st.put b none) ds
 | n+1,.seq a b,Q,fr,st,ds=>vcC c a (seqK (vcF c t n b Q) Q) fr st ds
 | _,_,_,_,_,_=>False
@[go_sem ↓] theorem vY9 {c:Cf}{t n:Nat}{a b:Code}{Q:Kc}{fr:Fr}{st:ISt}{ds:List Dfd}:vcF c t (n+1) (.seq a b) Q fr st ds=vcC c a (seqK (vcF c t n b Q) Q) fr st ds:=(rfl)
theorem Inv.frzAt {C:Cx}{X0 X:WS}{N:Nat}{fr:Fr}{ds:List Dfd}{a:Act}(h:Inv C X0 N X fr ds a){t b:Nat}{y:IV}(ht:t<N)(hf:fr t=.iv (.raw (.pointer (some ⟨b,0,none⟩))))(hb:X.st b=some (.box y.cells)) :
  ∃X',X'.w=X.w/\X'.st=X.st.put b none/\Inv C X0 N X' (fr.put t (.iv (.cptr (age y)))) ds a:=by
 have k:=wX0 hb;refine⟨X.lendS (ISt.put (λ_=>none) b (some (.box y.cells))) (X.st.put b none),rfl,rfl,?_⟩;have h1:=h.ext' (h.good.lendS_ext k) (h.good.lendS k);have hv:=h.fr.slot t;rw[hf] at hv;have ho:OI (ISt.put (λ_=>none) b (some (.box y.cells))) (.raw (.pointer (some ⟨b,0,none⟩))) (.cptr y):=.ptr b y y.cells (ISt.put_same ..) rfl λi r c hr hc=>by
  rw[hr] at hc;cases hc;exact .refl _
 have h2:=h1.put ht (ho.v h.good k hv);have hset:a.tmps.setIfInBounds t (tm a.tmps t)=a.tmps:=by
  refine Array.ext (by simp) λi h1 h2=>?_;rw[Array.getElem_setIfInBounds];split
  ·rename_i he;subst he;unfold tm;rw[Array.getD_eq_getD_getElem?,Array.getElem?_eq_getElem h2];rfl
  ·rfl
 rw[hset] at h2;simpa only[age] using h2
theorem zY5 {N:Nat}{c:Cf}{t:Nat}(ht:t<N){B:Nat}{X0:WS}{ro:Option Nat}{m:Nat}(hro:c.rd=false->ro=none){Q:Kc}:∀(n:Nat) (code:Code) (X:WS) (fr:Fr) (ds:List Dfd) (a:Act),codeOk c N code=true →
  Inv (c.cx B) X0 N X fr ds a->vcF c t n code Q fr X.st ds->code.wpIn (yZ9 ro) m c.P (PQ (c.cx B) X0 N Q) a X.w
 | 0,code,X,fr,ds,a,hd,hI,h=>by
  obtain⟨b,y,h1,h2,h3⟩:=h;obtain⟨X',e1,e2,hI'⟩:=hI.frzAt ht h1 h2;rw[<- e2] at h3;have:=yGf code c B X0 ro m hro Q X' _ ds a hd hI' h3;rw[e1] at this;exact this
 | n+1,.seq x y,X,fr,ds,a,hd,hI,h=>by
  simp only[codeOk,bAt] at hd;refine wpIn_seq (wpIn_mono (yGf x c B X0 ro m hro _ X fr ds a hd.1 hI h) ?_);rintro e a' w' ⟨X',fr',ds',rfl,hI',hq⟩;cases e with
  | normal=>exact zY5 ht hro n y X' fr' ds' a' hd.2 hI' hq
  | _=>exact⟨X',fr',ds',rfl,hI',hq⟩
 | n+1,.skip,_,_,_,_,_,_,h=>h.elim
 | n+1,.region ..,_,_,_,_,_,_,h=>h.elim
 | n+1,.cond ..,_,_,_,_,_,_,h=>h.elim
 | n+1,.block ..,_,_,_,_,_,_,h=>h.elim
 | n+1,.loop ..,_,_,_,_,_,_,h=>h.elim
 | n+1,.exit ..,_,_,_,_,_,_,h=>h.elim
 | n+1,.label ..,_,_,_,_,_,_,h=>h.elim
 | n+1,.goto ..,_,_,_,_,_,_,h=>h.elim
 | n+1,.ret,_,_,_,_,_,_,h=>h.elim
 | n+1,.scope ..,_,_,_,_,_,_,h=>h.elim
 | n+1,.rangeFunc ..,_,_,_,_,_,_,h=>h.elim
 | n+1,.refuse ..,_,_,_,_,_,_,h=>h.elim
theorem ICall.introF {c:Cf}{t n:Nat}{f:FuncId}{fn:Func}{code:Code}{args:List IV}{st:ISt}{K:IV->ISt->Prop}(hf:c.P.funcs[f]?=some fn)(hb:fn.body=some code)
  (hN:args.length<=fn.ntmps) (ht:t<fn.ntmps) (hd:codeOk c fn.ntmps code=true) (h:vcF c t n code (bodyK c.P c.gl fn.results.toList K) (frOf args) st []):ICall c.P c.gl f args st K:=by
 intro B X rs hg hst hv;subst hst;refine (callsIn_wide (n:=0)).1 (callsIn_of_wp_marks hf hb trivial ?_);have hs:=zY5 (N:=fn.ntmps) ht (c:=c) (B:=B) (X0:=X) (ro:=none) (m:=0) (λ_=>rfl) n code X (frOf args) [] _ hd (Inv.start hg hv hN) h;refine wpIn_mono hs ?_;rintro e a' w' ⟨X',fr',ds',rfl,hI,hq⟩;cases e with
 | normal=>exact zKf ds' X' a' hI hq
 | ret=>exact zKf ds' X' a' hI hq
 | _=>exact hq.elim
end Go.Iv
namespace Go.Proofs.Tryz
open Go Go.Iv
set_option maxRecDepth 4000
variable (gl:Nat->Option IV)
theorem wQ2 {c:Cf}{ops:Array Oper}{Q:Fr->ISt->List Dfd->Prop}{listed:Array Bool}{ad:Ad}{fr:Fr}{st:ISt}{ds:List Dfd}(h:Q fr st ds):anyV c ops Q 0 listed ad fr st ds:=λ_=>h
theorem zJ0 {c:Cf}{ops:Array Oper}{Q:Fr->ISt->List Dfd->Prop}{n:Nat}{listed:Array Bool}{ad:Ad}{fr:Fr}{st:ISt}{ds:List Dfd}(i:Nat)(h:Region.ready .any ops listed=[i])
  (hs:yVu c ops.toList (opAt ops i) (anyV c ops Q n (listed.setIfInBounds i true)) ad fr st ds):anyV c ops Q (n+1) listed ad fr st ds:=by
 refine⟨λh0=>(by rw[h] at h0;cases h0),λj hj=>?_⟩;rw[h,List.mem_singleton] at hj;subst hj;exact hs
theorem wY9 {c:Cf}{ops:Array Oper}{Q:Fr->ISt->List Dfd->Prop}{n:Nat}{listed:Array Bool}{ad:Ad}{fr:Fr}{st:ISt}{ds:List Dfd}(i k:Nat)(h:Region.ready .any ops listed=[i,k])
  (hs:yVu c ops.toList (opAt ops i) (anyV c ops Q n (listed.setIfInBounds i true)) ad fr st ds) (hs':yVu c ops.toList (opAt ops k) (anyV c ops Q n (listed.setIfInBounds k true)) ad fr st ds):anyV c ops Q (n+1) listed ad fr st ds:=by
 refine⟨λh0=>(by rw[h] at h0;cases h0),λj hj=>?_⟩;rw[h,List.mem_cons,List.mem_singleton] at hj;rcases hj with rfl|rfl
 ·exact hs
 ·exact hs'
theorem yJ9 (c:Cf)(ops:List Oper)(dst:Option Nat)(op:Op)(ty:TypeId)(pos:String)(aft:Array Edge)(K:Kt)(ad:Ad)(fr:Fr)(st:ISt)(ds:List Dfd):yVu c ops ⟨dst,op,ty,pos,aft,none⟩ K ad fr st ds=vcOp c dst op K ad fr st ds:=rfl
theorem zWb (fr:Fr)(d:Nat)(x y:SV):(fr.put d x).put d y=fr.put d y:=by
 funext s;simp only[Fr.put_apply];split<;>rfl
theorem xUr {esc:List Nat}{ord:List (Nat×List Nat)}{frz:List Nat}{d d':Nat}{p:String}{Q:Fr->ISt->List Dfd->Prop}{fr:Fr}{st:ISt}(hd:d ∉ esc)(hne:d≠d')(hd':d' ∉ esc)
  (h:∀b:Bool,Q ((fr.put d (.box [.raw (.bool b)])).put d' (.iv (.raw (.bool b)))) st []) :
  zXl (cf prog gl esc ord frz) #[⟨some d,.alloc 4,0,p,#[],none⟩,⟨none,.store 4 (.tmp d) (.const (.bool true)),0,p,#[⟨0,.data⟩,⟨2,.gcOnly .appendInPlace⟩],none⟩,
   ⟨none,.store 4 (.tmp d) (.const (.bool false)),0,p,#[⟨0,.data⟩,⟨1,.textOnly .appendInPlace⟩],none⟩,⟨some d',.load 4 (.tmp d),4,p,#[⟨0,.data⟩,⟨0,.phase⟩,⟨1,.phase⟩,⟨2,.phase⟩],none⟩] (some []) Q fr st []:=by
 rw[zGf];refine zJ0 0 (by kernel_rfl) ?_;simp only[go_sem,zE,zB,zA,zM,zS,zL,reduceCtorEq,hd,yJ9];refine wY9 1 2 (by kernel_rfl) ?_ ?_
 ·simp only[go_sem,zE,zB,zA,zM,zS,zL,reduceCtorEq,yJ9];refine zJ0 2 (by kernel_rfl) ?_;simp only[go_sem,zE,zB,zA,zM,zS,zL,reduceCtorEq,yJ9];refine zJ0 3 (by kernel_rfl) ?_;simp only[go_sem,zE,zB,zA,zM,zS,zL,reduceCtorEq,yJ9,hd',hne];refine wQ2 ?_;rw[zWb,zWb];exact h false
 ·simp only[go_sem,zE,zB,zA,zM,zS,zL,reduceCtorEq,yJ9];refine zJ0 1 (by kernel_rfl) ?_;simp only[go_sem,zE,zB,zA,zM,zS,zL,reduceCtorEq,yJ9];refine zJ0 3 (by kernel_rfl) ?_;simp only[go_sem,zE,zB,zA,zM,zS,zL,reduceCtorEq,yJ9,hd',hne];refine wQ2 ?_;rw[zWb,zWb];exact h true
def yJg:Fm->List Fm
 | .mk 7 n us [a,b]=>[.mk 7 n us [a,b],imF a b,imF b a]
 | f=>[f]
mutual
def cloF:Fm->List Fm
 | .mk o n us sub=>yJg (.mk o n us sub)++yZj sub
def yZj:List Fm->List Fm
 | []=>[]
 | a::l=>cloF a++yZj l
end
def yGe (ca m:Nat)(x:IV):IObj:=.box [.raw (.int .u8 (ca:Int)),x,.raw (.map (some m))]
def Fo (ca m b12:Nat)(B0:ISt)(l:List Fm)(st:ISt):Prop:=(l=[]/\st=B0.put b12 (some (yGe ca m (.sl ⟨true,.nil,0⟩ [])))) \/
 ∃g cap cs zs,l≠[]/\B0 g=none/\g≠b12/\l.length<=cap/\cap*4<=cs.length/\cs.take (l.length*4)=zs.flatMap IV.cells/\IsFms l zs/\st=(B0.put b12 (some (yGe ca m (.raw (.slice (some ⟨g,0,none⟩) l.length cap))))).put g (some (.box cs))
abbrev ptr (b:Nat):IV:=.raw (.pointer (some ⟨b,0,none⟩))
abbrev colFn (b12 b6:Nat):IV:=.fn (.func 101) [] [.cptr (ptr b12),ptr b6]
def ColC (f:Fm):Prop:=∀(ca m b6 b12:Nat) (x:IV) (_:IsFm f x) (B0 st:ISt) (l:List Fm),B0 b6=some (.box [colFn b12 b6])->b6≠b12->(l++cloF f).length<=1000000->Fo ca m b12 B0 l st →
 ICall prog gl 101 [x,.cptr (ptr b12),ptr b6] st (λ_ st'=>Fo ca m b12 B0 (l++cloF f) st')
theorem xVw:allI zXo [Value.int IntKind.u8 0,Value.string noN,Value.slice none 0 0,Value.slice none 0 0]=some [.raw (.int .u8 0),.raw (.string noN),.sl ⟨true,.nil,0⟩ [],.sl ⟨true,.nil,0⟩ []]:=rfl
theorem xX0 (f:Fm):1<=(yJg f).length:=by
 unfold yJg;split<;>simp
theorem xZz {o:Nat}{n:ByteArray}{us:List Tm}{sub:List Fm}(h:¬ (o=7/\sub.length=2)):yJg (.mk o n us sub)=[.mk o n us sub]:=by
 unfold yJg;split
 ·rename_i he;cases he;exact absurd ⟨rfl,rfl⟩ h
 ·rfl
theorem zV8 {B0:ISt}{b g:Nat}{a z c:Option IObj}(h:g≠b):((B0.put b a).put g c).put b z=(B0.put b z).put g c:=by
 funext d;simp only[ISt.put_apply];by_cases h1:d=b
 ·subst h1;rw[if_pos rfl,if_neg λe=>h e.symm,if_pos rfl]
 ·rw[if_neg h1,if_neg h1,if_neg h1]
theorem yUb {B0:ISt}{b g g':Nat}{a z c c':Option IObj}(hg:B0 g=none)(h1:g≠b)(h2:g'≠b):((((B0.put b a).put g c).put g none).put g' c').put b z=(B0.put b z).put g' c':=by
 funext d;simp only[ISt.put_apply];by_cases e1:d=b
 ·subst e1;rw[if_pos rfl,if_neg λe=>h2 e.symm,if_pos rfl]
 ·rw[if_neg e1,if_neg e1,if_neg e1];by_cases e2:d=g
  ·rw[if_pos e2,e2,hg]
  ·rw[if_neg e2,if_neg e2]
theorem zZ8 {l:List Fm}{zs:List IV}(h:IsFms l zs):(zs.flatMap IV.cells).length=l.length*4:=by
 rw[<- h.len];refine yQo zs λz hz=>?_;obtain⟨a,ha,_⟩:=yUy h z hz;cases a;obtain⟨_,_,_,_,rfl,_⟩:=ha.mk;rfl
theorem zXu {cs' Z z new:List IV}{n:Nat}(hZ:Z.length=n*4)(hn:new.length=4)(hl:(n+1)*4<=cs'.length)(h:cs'.take ((n+1)*4)=Z++z):(cs'.take (n*4)++new++cs'.drop (n*4+4)).take ((n+1)*4)=Z++new:=by
 have h1:cs'.take (n*4)=Z:=by
  have:=congrArg (List.take (n*4)) h;rw[List.take_take,Nat.min_eq_left (by omega),List.take_left' hZ] at this;exact this
 rw[h1,List.take_left'];rw[lLa,hZ,hn];omega
theorem yUm {B0:ISt}{b g g':Nat}{a':IObj}{c:Option IObj}(hg:B0 g=none)(hn:g≠b)(hg':g'=g\/((B0.put b (some a')).put g c) g'=none):g'≠b/\B0 g'=none:=by
 rcases hg' with rfl|h
 ·exact⟨hn,hg⟩
 ·by_cases h1:g'=g
  ·subst h1;exact⟨hn,hg⟩
  ·rw[yQ6 h1] at h;by_cases h2:g'=b
   ·subst h2;rw[ISt.put_same] at h;cases h
   ·exact⟨h2,by rwa [yQ6 h2] at h⟩
theorem Fo.first {ca m b12 g cap:Nat}{B0:ISt}{cs:List IV}{f:Fm}{x:IV}(hx:IsFm f x)(hg:B0 g=none)(hn:g≠b12)(hc:1<=cap)(hr:cap*4<=cs.length)(ht:cs.take 4=x.cells) :
  Fo ca m b12 B0 [f] ((B0.put b12 (some (yGe ca m (.raw (.slice (some ⟨g,0,none⟩) 1 cap))))).put g (some (.box cs))) :=
 .inr ⟨g,cap,cs,[x],by simp,hg,hn,hc,hr,by simpa using ht,.one hx,rfl⟩
theorem Fo.snoc {ca m b12 g cap:Nat}{B0:ISt}{cs:List IV}{l:List Fm}{zs:List IV}(hz:IsFms l zs){f:Fm}{x:IV}(hx:IsFm f x)(hg:B0 g=none)(hn:g≠b12)(hc:l.length+1<=cap)(hr:cap*4<=cs.length)
  (ht:cs.take ((l.length+1)*4)=zs.flatMap IV.cells++x.cells) :
  Fo ca m b12 B0 (l++[f]) ((B0.put b12 (some (yGe ca m (.raw (.slice (some ⟨g,0,none⟩) (l.length+1) cap))))).put g (some (.box cs))) :=
 .inr ⟨g,cap,cs,zs++[x],by simp,hg,hn,by simpa using hc,hr,by simpa using ht,hz.append (.one hx),by simp⟩
theorem wV0 {c:Cf}{A:Code}{K:Fr->ISt->List Dfd->Prop}{Q:Kc}{fr:Fr}{st:ISt}{ds:List Dfd}(J:Fr->ISt->List Dfd->Prop)(h:vcC c A (seqK J Q) fr st ds)(hJ:∀fr st ds,J fr st ds->K fr st ds):vcC c A (seqK K Q) fr st ds :=
 yG8 A (λe fr st ds=>by cases e<;>first|exact hJ _ _ _|exact id) h
theorem zWo {b:Bool}{c:Cf}{A B:Code}{K:Fr->ISt->List Dfd->Prop}{Q:Kc}{fr:Fr}{st:ISt}{ds:List Dfd}(J:Fr->ISt->List Dfd->Prop)(hJ:∀fr st ds,J fr st ds->K fr st ds)
  (h1:b=true->vcC c A (seqK J Q) fr st ds) (h2:b=false->vcC c B (seqK J Q) fr st ds):yWi b (vcC c A (seqK K Q) fr st ds) (vcC c B (seqK K Q) fr st ds) .mk .mk:=by
 have hm:∀e fr st ds,seqK J Q e fr st ds->seqK K Q e fr st ds:=λe fr st ds=>by
  cases e<;>first|exact hJ _ _ _|exact id
 exact yZn (λh=>yG8 A hm (h1 h)) (λh=>yG8 B hm (h2 h))
theorem yY9 {sub:List Fm}{k:Nat}{g:Fm}(h:sub[k]?=some g):yZj (sub.take (k+1))=yZj (sub.take k)++cloF g:=by
 have app:∀a b:List Fm,yZj (a++b)=yZj a++yZj b:=λa b=>by
  induction a with
  | nil=>rfl
  | cons c a ih=>simp only[List.cons_append,yZj,ih,List.append_assoc]
 rw[yQ7 h,app];simp[yZj]
theorem wWx {l:List Fm}{o:Nat}{n:ByteArray}{us:List Tm}{sub:List Fm}{k:Nat}{g:Fm}(h:(l++cloF (.mk o n us sub)).length<=1000000)(hg:sub[k]?=some g):(l++yJg (.mk o n us sub)++yZj (sub.take k)++cloF g).length<=1000000:=by
 have mono:∀(a:List Fm) (k:Nat),(yZj (a.take k)).length<=(yZj a).length:=λa=>by
  induction a with
  | nil=>intro k;simp
  | cons c a ih =>
   intro k;cases k with
   | zero=>simp[yZj]
   | succ k=>simp only[List.take_succ_cons,yZj,lLa];have:=ih k;omega
 have h1:=mono sub (k+1);rw[yY9 hg] at h1;simp only[cloF,lLa] at h h1 ⊢;omega
theorem Fo.self {ca m b12 b6:Nat}{B0 st:ISt}{l:List Fm}{o:IObj}(h:Fo ca m b12 B0 l st)(h6:B0 b6=some o)(hn:b6≠b12):st b6=some o:=by
 rcases h with⟨_,rfl⟩|⟨g,cap,cs,zs,_,hg,_,_,_,_,_,rfl⟩
 ·rw[yQ6 hn,h6]
 ·rw[yQ6 (by rintro rfl;rw[hg] at h6;cases h6),yQ6 hn,h6]
theorem wX8 {a b:Fm}{x y:IV}(ha:IsFm a x)(hb:IsFm b y):IsFm (imF a b) (.agg [.raw (.int .u8 6),.raw (.string noN),.sl ⟨true,.nil,0⟩ [],.sl ⟨true,.full,4⟩ [x,y]]) :=
 ⟨_,_,_,_,rfl,by decide,.inl rfl,rfl,.inr rfl,⟨x,_,rfl,ha,y,_,rfl,hb,rfl⟩⟩
theorem wXq (o:Nat)(n:ByteArray)(us:List Tm)(sub:List Fm)(IH:∀a∈sub,ColC gl a):ColC gl (.mk o n us sub):=by
 intro ca m b6 b12 x hx B0 st l h6 n6 hlen hF;obtain⟨t1,x1,t2,x2,rfl,ho,e1,i1,e2,i2⟩:=hx.mk;have hlen1:l.length+(yJg (.mk o n us sub)).length<=1000000:=by rw[lLa] at hlen;simp only[cloF,lLa] at hlen;omega
 have hsl:=xX0 (.mk o n us sub);refine ICall.intro (c:=cf prog gl [13,17,25,28,53,60,68,74,82,89,97,103] [(1,[]),(7,[]),(11,[])]) func101 rfl (by show _<=117;simp) (by kernel_rfl) ?_;simp only[go_sem,zE,zB,zA,zM,zS,zL,reduceCtorEq,fits];refine xUr gl (by decide) (by decide) (by decide) λc1=>?_;simp only[go_sem,zE,zB,zA,zM,zS,zL,reduceCtorEq];refine zWo (λfr st ds=>Fo ca m b12 B0 (l++[.mk o n us sub]) st/\ds=[]/\fr 1=.iv (.cptr (ptr b12))/\fr 2=.iv (ptr b6)/\fr 3=.box [.raw (.int .u8 (o:Int)),.raw (.string n),.sl t1 x1,.sl t2 x2]) ?_ (λh=>?_) (λh=>?_)
 ·rintro fr s1 _ ⟨hF1,rfl,f1,f2,f3⟩;rw[wKz];refine wV0 (λfr st ds=>Fo ca m b12 B0 (l++yJg (.mk o n us sub)) st/\ds=[]/\fr 1=.iv (.cptr (ptr b12))/\fr 2=.iv (ptr b6)/\fr 3=.box [.raw (.int .u8 (o:Int)),.raw (.string n),.sl t1 x1,.sl t2 x2]) ?_ ?_
  ·by_cases h7:o=7
   ·subst h7;by_cases h2:x2.length=2
    ·rw[i2.len] at h2;obtain⟨a,b,rfl⟩:∃a b,sub=[a,b]:=by
      match sub,h2 with
      | [a,b],_=>exact⟨a,b,rfl⟩
     obtain⟨xa,_,rfl,ia,xb,_,rfl,ib,rfl⟩:=i2;cases a with
     | mk oa na ua sa =>
     cases b with
     | mk ob nb ub sb =>
     obtain⟨ta1,xa1,ta2,xa2,rfl,ha⟩:=ia.mk;obtain⟨tb1,xb1,tb2,xb2,rfl,hb⟩:=ib.mk;simp only[go_sem,zE,zB,zA,zM,zS,zL,reduceCtorEq,f1,f2,f3,fits,show decide (((7:Nat):Int)=7)=true from rfl];refine yZn (λ_=>?_) λh=>absurd h (by decide);simp only[go_sem,zE,zB,zA,zM,zS,zL,reduceCtorEq,f1,f2,f3,fits,yQ3 e2,show ((0:Int)<=0)=True from eq_true (by decide),show ((0:Int)<=1)=True from eq_true (by decide),show Int.toNat 0=0 from rfl,show Int.toNat 1=1 from rfl,IV.one];rw[show l++yJg (.mk 7 n us [.mk oa na ua sa,.mk ob nb ub sb])=l++[.mk 7 n us [.mk oa na ua sa,.mk ob nb ub sb]]++[imF (.mk oa na ua sa) (.mk ob nb ub sb)]++[imF (.mk ob nb ub sb) (.mk oa na ua sa)] by simp[yJg]];have hL:(l++[Fm.mk 7 n us [.mk oa na ua sa,.mk ob nb ub sb]]).length+2<=1000000:=by simp[yJg] at hlen1 ⊢;omega
     have hne:l++[Fm.mk 7 n us [.mk oa na ua sa,.mk ob nb ub sb]]≠[]:=by simp
     generalize l++[Fm.mk 7 n us [.mk oa na ua sa,.mk ob nb ub sb]]=L at hF1 hL hne ⊢;refine xUr gl (by decide) (by decide) (by decide) λc2=>?_;simp only[go_sem,zE,zB,zA,zM,zS,zL,reduceCtorEq];refine zWo (λfr st ds=>Fo ca m b12 B0 (L++[imF (.mk oa na ua sa) (.mk ob nb ub sb)]) st/\ds=[]/\fr 1=.iv (.cptr (ptr b12))/\fr 2=.iv (ptr b6) /\
      fr 3=.box [.raw (.int .u8 ((7:Nat):Int)),.raw (.string n),.sl t1 x1,.sl t2 [.agg [.raw (.int .u8 (oa:Int)),.raw (.string na),.sl ta1 xa1,.sl ta2 xa2],.agg [.raw (.int .u8 (ob:Int)),.raw (.string nb),.sl tb1 xb1,.sl tb2 xb2]]] /\
      fr 4=.box [.raw (.int .u8 (oa:Int)),.raw (.string na),.sl ta1 xa1,.sl ta2 xa2]/\fr 5=.box [.raw (.int .u8 (ob:Int)),.raw (.string nb),.sl tb1 xb1,.sl tb2 xb2]) ?_ (λh=>?_) (λh=>?_)
     ·rintro fr s2 _ ⟨hF2,rfl,f1,f2,f3,f4,f5⟩;have hL2:(L++[imF (.mk oa na ua sa) (.mk ob nb ub sb)]).length+1<=1000000:=by rw[lLa];exact hL
      have hne2:L++[imF (.mk oa na ua sa) (.mk ob nb ub sb)]≠[]:=by simp
      generalize L++[imF (.mk oa na ua sa) (.mk ob nb ub sb)]=L2 at hF2 hL2 hne2 ⊢;simp only[go_sem,zE,zB,zA,zM,zS,zL,reduceCtorEq,f1,f2,f3,f4,f5,fits];refine xUr gl (by decide) (by decide) (by decide) λc3=>?_;obtain⟨g,cap,cs,zs,hl0,hg,hgb,hcap,hroom,hcs,hzs,rfl⟩:=hF2.resolve_left λh=>hne2 h.1;cases c3
      ·simp only[go_sem,zE,zB,zA,zM,zS,zL,reduceCtorEq,f1,f2,f3,f4,f5,fits,yGe,yQ6 hgb.symm,yQ1,yJc];refine yXd _ _ _ (ISt.put_same ..) rfl ⟨by show (L2.length+1)*72<=_;omega,by show L2.length+1<=_;omega⟩ ⟨hcap,hroom⟩ rfl ?_;intro g' cap' cs' hg' k1 k2 k3;obtain⟨gb',hgn⟩:=yUm hg hgb hg';simp only[go_sem,zE,zB,zA,zM,zS,zL,reduceCtorEq,f1,f2,f3,fits,yQ6 gb'.symm,yQ6 gb',yQ6 hgb.symm,IV.one];rw[yUb hg hgb gb'];exact .snoc hzs (wX8 ib ia) hgn gb' k1 k2 (k3.trans (congrArg (·++_) hcs))
      ·simp only[go_sem,zE,zB,zA,zM,zS,zL,reduceCtorEq,f1,f2,f3,f4,f5,fits,yGe,yQ6 hgb.symm,yQ1,yJc,xVw];refine yXd _ _ _ (ISt.put_same ..) rfl ⟨by show (L2.length+1)*72<=_;omega,by show L2.length+1<=_;omega⟩ ⟨hcap,hroom⟩ rfl ?_;intro g' cap' cs' hg' k1 k2 k3;obtain⟨gb',hgn⟩:=yUm hg hgb hg';simp only[go_sem,zE,zB,zA,zM,zS,zL,reduceCtorEq,f1,f2,f3,fits,yQ6 gb'.symm,yQ6 gb',yQ6 hgb.symm,IV.one];have k2':cap'*4<=cs'.length:=k2;have k1':L2.length+1<=cap':=k1;rw[if_pos ⟨iNn _,Nat.lt_succ_self _⟩,if_pos (by omega),yUb hg hgb gb',yQ8];exact .snoc hzs (wX8 ib ia) hgn gb' k1 (by simp only[lLa,List.length_take,List.length_drop,List.length_cons,List.length_nil];omega) (zXu (by rw[zZ8 hzs]) rfl (by omega) (k3.trans (congrArg (·++_) hcs)))
     ·obtain⟨g,cap,cs,zs,hl0,hg,hgb,hcap,hroom,hcs,hzs,rfl⟩:=hF1.resolve_left λh=>hne h.1;simp only[go_sem,zE,zB,zA,zM,zS,zL,reduceCtorEq,f1,f2,f3,fits,yGe,yQ6 hgb.symm,yQ1,yJc,xVw];refine yXd _ _ _ (ISt.put_same ..) rfl ⟨by show (L.length+1)*72<=_;omega,by show L.length+1<=_;omega⟩ ⟨hcap,hroom⟩ rfl ?_;intro g' cap' cs' hg' k1 k2 k3;obtain⟨gb',hgn⟩:=yUm hg hgb hg';simp only[go_sem,zE,zB,zA,zM,zS,zL,reduceCtorEq,f1,f2,f3,fits,yQ6 gb'.symm,yQ6 gb',yQ6 hgb.symm,IV.one];have k2':cap'*4<=cs'.length:=k2;have k1':L.length+1<=cap':=k1;rw[if_pos ⟨iNn _,Nat.lt_succ_self _⟩,if_pos (by omega),yUb hg hgb gb',yQ8];exact .snoc hzs (wX8 ia ib) hgn gb' k1 (by simp only[lLa,List.length_take,List.length_drop,List.length_cons,List.length_nil];omega) (zXu (by rw[zZ8 hzs]) rfl (by omega) (k3.trans (congrArg (·++_) hcs)))
     ·obtain⟨g,cap,cs,zs,hl0,hg,hgb,hcap,hroom,hcs,hzs,rfl⟩:=hF1.resolve_left λh=>hne h.1;simp only[go_sem,zE,zB,zA,zM,zS,zL,reduceCtorEq,f1,f2,f3,fits,yGe,yQ6 hgb.symm,yQ1,yJc];refine yXd _ _ _ (ISt.put_same ..) rfl ⟨by show (L.length+1)*72<=_;omega,by show L.length+1<=_;omega⟩ ⟨hcap,hroom⟩ rfl ?_;intro g' cap' cs' hg' k1 k2 k3;obtain⟨gb',hgn⟩:=yUm hg hgb hg';simp only[go_sem,zE,zB,zA,zM,zS,zL,reduceCtorEq,f1,f2,f3,fits,yQ6 gb'.symm,yQ6 gb',yQ6 hgb.symm,IV.one];rw[yUb hg hgb gb'];exact .snoc hzs (wX8 ia ib) hgn gb' k1 k2 (k3.trans (congrArg (·++_) hcs))
    ·have h2':¬ ((x2.length:Nat):Int)=2:=by omega
     simp only[go_sem,zE,zB,zA,zM,zS,zL,reduceCtorEq,f1,f2,f3,fits,h2',decide_false,show decide (((7:Nat):Int)=7)=true from rfl];intro _;rw[xZz λh=>h2 (by rw[i2.len,h.2])];exact hF1
   ·have h7':¬ (o:Int)=7:=by omega
    simp only[go_sem,zE,zB,zA,zM,zS,zL,reduceCtorEq,f1,f2,f3,fits,h7',decide_false];rw[xZz λh=>h7 h.1];exact hF1
  ·rintro fr s2 _ ⟨hF2,rfl,f1,f2,f3⟩;simp only[go_sem,zE,zB,zA,zM,zS,zL,reduceCtorEq,f1,f2,f3,fits];intro _;have hsl:=i2.len;refine LoopC.ctr x2.length (λk fr st' ds=>Fo ca m b12 B0 (l++yJg (.mk o n us sub)++yZj (sub.take k)) st'/\fr 1=.iv (.cptr (ptr b12))/\fr 2=.iv (ptr b6)/\fr 107=.iv (.sl t2 x2)/\fr 108=.iv (.raw (.int .i64 x2.length))/\fr 109=.iv (.raw (.int .i64 (k:Int)))/\ds=[]) ?_ ?_ ?_
   ·simp only[go_sem,zE,zB,zA,zM,zS,zL,reduceCtorEq];simpa[yZj] using ⟨hF2,f1,f2⟩
   ·rintro k fr st1 _ hlt ⟨hF3,f1,f2,f107,f108,f109,rfl⟩;rw[hsl] at hlt;obtain⟨g,hg⟩:=yQ2 hlt;obtain⟨z,hz,hgz⟩:=i2.get hg;have IHg:=IH g (lMg hg) ca m b6 b12 z hgz B0 st1 _ h6 n6 (wWx hlen hg) hF3;cases g with
    | mk og ng ug sg =>
    obtain⟨tg1,xg1,tg2,xg2,rfl,hgg⟩:=hgz.mk;simp only[go_sem,zE,zB,zA,zM,zS,zL,reduceCtorEq,f1,f2,f107,f108,f109,lt_i (show k<x2.length by omega),yQ3 e2,iNn,hz,fits,IV.one];rw[hF3.self h6 n6];simp only[go_sem,zE,zB,zA,zM,zS,zL,reduceCtorEq];refine IHg.mono ?_;rintro _ st1 hF4;simp only[go_sem,zE,zB,zA,zM,zS,zL,reduceCtorEq,f1,f2,f107,f108,f109,yQd (show k<x2.length by omega) (show x2.length<=281474976710656 by omega)];rw[yY9 hg,<- List.append_assoc];exact hF4
   ·rintro fr st1 _ ⟨hF3,f1,f2,f107,f108,f109,rfl⟩;rw[hsl,lTl] at hF3;simp only[go_sem,zE,zB,zA,zM,zS,zL,reduceCtorEq,f107,f108,f109,yQm (nLi _),fits];refine yQ0 ?_;rw[cloF,<- List.append_assoc];exact hF3
 ·rcases hF with⟨rfl,rfl⟩|⟨g,cap,cs,zs,hl0,hg,hgb,hcap,hroom,hcs,hzs,rfl⟩
  ·simp only[go_sem,zE,zB,zA,zM,zS,zL,reduceCtorEq,fits,yGe,yQ1,xVw];intro g cap hgc;obtain⟨hg,hc1⟩:=hgc;have gb:g≠b12:=by rintro rfl;rw[ISt.put_same] at hg;cases hg
   rw[yQ6 gb] at hg;simp only[go_sem,zE,zB,zA,zM,zS,zL,reduceCtorEq,fits,yQ6 gb.symm,yQ6 gb,IV.one,show ((0:Int)<=((0:Nat):Int)/\(0:Nat)<1)=True from eq_true (by decide),List.flatMap_cons,List.flatMap_nil,IV.cells,List.append_nil,List.cons_append,List.nil_append];rw[zV8 gb,yQ8];exact .first hx hg gb hc1 (by simp;omega) rfl
  ·simp only[go_sem,zE,zB,zA,zM,zS,zL,reduceCtorEq,fits,yGe,yQ6 hgb.symm,yQ1,xVw];refine yXd _ _ _ (ISt.put_same ..) rfl ⟨by show (l.length+1)*72<=_;omega,by show l.length+1<=_;omega⟩ ⟨hcap,hroom⟩ rfl ?_;intro g' cap' cs' hg' k1 k2 k3;obtain⟨gb',hgn⟩:=yUm hg hgb hg';simp only[go_sem,zE,zB,zA,zM,zS,zL,reduceCtorEq,fits,yQ6 gb'.symm,yQ6 gb',yQ6 hgb.symm,IV.one];have k2':cap'*4<=cs'.length:=k2;have k1':l.length+1<=cap':=k1;rw[if_pos ⟨iNn _,Nat.lt_succ_self _⟩,if_pos (by omega),yUb hg hgb gb',yQ8];exact .snoc hzs hx hgn gb' k1 (by simp only[lLa,List.length_take,List.length_drop,List.length_cons,List.length_nil];omega) (zXu (by rw[zZ8 hzs]) rfl (by omega) (k3.trans (congrArg (·++_) hcs)))
 ·rcases hF with⟨rfl,rfl⟩|⟨g,cap,cs,zs,hl0,hg,hgb,hcap,hroom,hcs,hzs,rfl⟩
  ·simp only[go_sem,zE,zB,zA,zM,zS,zL,reduceCtorEq,fits,yGe,yQ1,xVw];intro g cap hgc;obtain⟨hg,hc1⟩:=hgc;have gb:g≠b12:=by rintro rfl;rw[ISt.put_same] at hg;cases hg
   rw[yQ6 gb] at hg;simp only[go_sem,zE,zB,zA,zM,zS,zL,reduceCtorEq,fits,yQ6 gb.symm,IV.one];rw[zV8 gb];exact .first hx hg gb hc1 (by simp[IV.cells];omega) rfl
  ·simp only[go_sem,zE,zB,zA,zM,zS,zL,reduceCtorEq,fits,yGe,yQ6 hgb.symm,yQ1];refine yXd _ _ _ (ISt.put_same ..) rfl ⟨by show (l.length+1)*72<=_;omega,by show l.length+1<=_;omega⟩ ⟨hcap,hroom⟩ rfl ?_;intro g' cap' cs' hg' k1 k2 k3;obtain⟨gb',hgn⟩:=yUm hg hgb hg';simp only[go_sem,zE,zB,zA,zM,zS,zL,reduceCtorEq,fits,yQ6 gb'.symm,yQ6 gb',yQ6 hgb.symm,IV.one];rw[yUb hg hgb gb'];exact .snoc hzs hx hgn gb' k1 k2 (k3.trans (congrArg (·++_) hcs))
mutual
theorem vXd:∀f:Fm,ColC gl f
 | .mk o n us sub=>wXq gl o n us sub (wKj sub)
theorem wKj:∀l:List Fm,∀a∈l,ColC gl a
 | [],_,h=>by cases h
 | b::l,a,h=>by
  rcases List.mem_cons.1 h with h1|h
  ·rw[h1];exact vXd b
  ·exact wKj l a h
end
theorem xYb (T:Gt gl)(ca m:Nat)(tw:Tag)(xw:List IV)(ln:Ln)(x:IV)(hx:IsLn ln x)(e:Ex)(y:IV)(hy:IsEx e y)(hl:ln.1.length<=300000/\ln.2.length<=300000/\e.1.1.length<=300000/\e.1.2.length<=300000/\e.2.1<=300000/\e.2.2<=300000)(st:ISt) :
  ICall prog gl 74 [spI ca tw xw m,x,y] st (λr st'=>(∃a b c d,r=.tup [.agg [.sl a b,.sl c d],.raw (.bool (!tooN (calJ ca) ln e))]/\(tooN (calJ ca) ln e=false->IsLn (yGl (calJ ca) ln e) (.agg [.sl a b,.sl c d])))/\st'=st):=by
 obtain⟨t1,t2,rfl,e1,e2⟩:=hx;obtain⟨t3,t4,rfl,e3,e4⟩:=hy;obtain⟨l1,l2,l3,l4,l5,l6⟩:=hl;have dc:decide ((ca:Int)=2)=calJ ca:=decide_eq_decide.2 (by omega);have w1:IntKind.i64.wrap ((ln.1.length:Int)+(e.2.1:Int))=((ln.1.length+e.2.1:Nat):Int):=by rw[w64 (by omega) (by omega)];omega
 have d1:decide ((64:Int)<((ln.1.length+e.2.1:Nat):Int))=decide (64<ln.1.length+e.2.1):=decide_eq_decide.2 (by omega);have d0:decide ((0:Int)<(e.2.2:Int))=decide (0<e.2.2):=decide_eq_decide.2 (by omega);have nl:(yQh [])=[]:=rfl;have hj:=λ(R:List Nat) (tR:Tag) (hR:okEs tR 1) (hRl:R.length<=300000) st=>wK2 gl T R e.1.2 tR t4 hR e4 (by omega) st;have hj1:=λst=>wK2 gl T ln.1 e.1.1 t1 t3 e1 e3 (by omega) st;refine ICall.intro (c:=cf prog gl [] [(5,[0,1,2,3,4,6,7,8,9,10,5,11,12,13,14])]) func74 rfl (by show _<=49;simp) (by kernel_rfl) ?_;generalize calJ ca=jj at dc ⊢;cases jj
 ·have hR:rgtN (false) ln e=ln.2:=by unfold rgtN;rw[if_neg (by simp)]
  have w2:IntKind.i64.wrap (((ln.2).length:Int)+(e.2.2:Int))=(((ln.2).length+e.2.2:Nat):Int):=by rw[w64 (by first|omega|(simp only[List.length_nil];omega)) (by first|omega|(simp only[List.length_nil];omega))];first|omega|(simp only[List.length_nil];omega)
  have d2:decide ((64:Int)<(((ln.2).length+e.2.2:Nat):Int))=decide (64<(ln.2).length+e.2.2):=decide_eq_decide.2 (by omega);by_cases h1:64<ln.1.length+e.2.1
  ·have ht:tooN (false) ln e=true:=by unfold tooN;rw[dEt h1];rfl
   simp only[go_sem,zE,zB,zA,zM,zS,zL,reduceCtorEq,dc,fits,yQi,w1,d1,dEt h1];intros;exact yQ0 ⟨⟨_,_,_,_,by rw[ht];rfl,λh=>by rw[ht] at h;cases h⟩,rfl⟩
  ·by_cases h2:64<(ln.2).length+e.2.2
   ·have ht:tooN (false) ln e=true:=by unfold tooN;rw[hR,dEt h2,Bool.or_true]
    try simp only[List.length_nil] at w2 d2
    simp only[go_sem,zE,zB,zA,zM,zS,zL,reduceCtorEq,dc,fits,yQi,w1,d1,dEf h1,w2,d2,dEt h2,d2];intros;exact yQ0 ⟨⟨_,_,_,_,by rw[ht];rfl,λh=>by rw[ht] at h;cases h⟩,rfl⟩
   ·have ht:tooN (false) ln e=false:=by unfold tooN;rw[hR,dEf h1,dEf h2];rfl
    try simp only[List.length_nil] at w2 d2
    simp only[go_sem,zE,zB,zA,zM,zS,zL,reduceCtorEq,dc,fits,yQi,w1,d1,dEf h1,w2,d2,dEf h2,d2];intros;refine (hj1 _).mono ?_;rintro _ st ⟨⟨t5,rfl,e5⟩,rfl⟩;simp only[go_sem,zE,zB,zA,zM,zS,zL,reduceCtorEq,fits];refine (hj (ln.2) t2 (by first|exact e2|exact .inl rfl) (by first|omega|(simp only[List.length_nil];omega)) _).mono ?_;rintro _ st ⟨⟨t6,rfl,e6⟩,rfl⟩;simp only[go_sem,zE,zB,zA,zM,zS,zL,reduceCtorEq,fits];exact yQ0 ⟨⟨_,_,_,_,by rw[ht];rfl,λ_=>⟨t5,t6,(by unfold yGl;rw[hR];try rfl),e5,e6⟩⟩,rfl⟩
 ·by_cases h0:0<e.2.2
  ·have hR:rgtN (true) ln e=([]:List Nat):=by unfold rgtN;rw[if_pos ⟨rfl,h0⟩]
   have w2:IntKind.i64.wrap (((([]:List Nat)).length:Int)+(e.2.2:Int))=(((([]:List Nat)).length+e.2.2:Nat):Int):=by rw[w64 (by first|omega|(simp only[List.length_nil];omega)) (by first|omega|(simp only[List.length_nil];omega))];first|omega|(simp only[List.length_nil];omega)
   have d2:decide ((64:Int)<(((([]:List Nat)).length+e.2.2:Nat):Int))=decide (64<(([]:List Nat)).length+e.2.2):=decide_eq_decide.2 (by omega);by_cases h1:64<ln.1.length+e.2.1
   ·have ht:tooN (true) ln e=true:=by unfold tooN;rw[dEt h1];rfl
    simp only[go_sem,zE,zB,zA,zM,zS,zL,reduceCtorEq,dc,d0,dEt h0,fits,yQi,w1,d1,dEt h1];intros;exact yQ0 ⟨⟨_,_,_,_,by rw[ht];rfl,λh=>by rw[ht] at h;cases h⟩,rfl⟩
   ·by_cases h2:64<(([]:List Nat)).length+e.2.2
    ·have ht:tooN (true) ln e=true:=by unfold tooN;rw[hR,dEt h2,Bool.or_true]
     try simp only[List.length_nil] at w2 d2
     simp only[go_sem,zE,zB,zA,zM,zS,zL,reduceCtorEq,dc,d0,dEt h0,fits,yQi,w1,d1,dEf h1,w2,d2,dEt h2,dEt (show (64:Int)<(e.2.2:Int) by simp at h2;omega)];intros;exact yQ0 ⟨⟨_,_,_,_,by rw[ht];rfl,λh=>by rw[ht] at h;cases h⟩,rfl⟩
    ·have ht:tooN (true) ln e=false:=by unfold tooN;rw[hR,dEf h1,dEf h2];rfl
     try simp only[List.length_nil] at w2 d2
     simp only[go_sem,zE,zB,zA,zM,zS,zL,reduceCtorEq,dc,d0,dEt h0,fits,yQi,w1,d1,dEf h1,w2,d2,dEf h2,dEf (show ¬ (64:Int)<(e.2.2:Int) by simp at h2;omega)];intros;refine (hj1 _).mono ?_;rintro _ st ⟨⟨t5,rfl,e5⟩,rfl⟩;simp only[go_sem,zE,zB,zA,zM,zS,zL,reduceCtorEq,fits];refine (hj (([]:List Nat)) ⟨true,.nil,0⟩ (by first|exact e2|exact .inl rfl) (by first|omega|(simp only[List.length_nil];omega)) _).mono ?_;rintro _ st ⟨⟨t6,rfl,e6⟩,rfl⟩;simp only[go_sem,zE,zB,zA,zM,zS,zL,reduceCtorEq,fits];exact yQ0 ⟨⟨_,_,_,_,by rw[ht];rfl,λ_=>⟨t5,t6,(by unfold yGl;rw[hR];try rfl),e5,e6⟩⟩,rfl⟩
  ·have hR:rgtN (true) ln e=ln.2:=by unfold rgtN;rw[if_neg λh=>h0 h.2]
   have w2:IntKind.i64.wrap (((ln.2).length:Int)+(e.2.2:Int))=(((ln.2).length+e.2.2:Nat):Int):=by rw[w64 (by first|omega|(simp only[List.length_nil];omega)) (by first|omega|(simp only[List.length_nil];omega))];first|omega|(simp only[List.length_nil];omega)
   have d2:decide ((64:Int)<(((ln.2).length+e.2.2:Nat):Int))=decide (64<(ln.2).length+e.2.2):=decide_eq_decide.2 (by omega);by_cases h1:64<ln.1.length+e.2.1
   ·have ht:tooN (true) ln e=true:=by unfold tooN;rw[dEt h1];rfl
    simp only[go_sem,zE,zB,zA,zM,zS,zL,reduceCtorEq,dc,d0,dEf h0,fits,yQi,w1,d1,dEt h1];intros;exact yQ0 ⟨⟨_,_,_,_,by rw[ht];rfl,λh=>by rw[ht] at h;cases h⟩,rfl⟩
   ·by_cases h2:64<(ln.2).length+e.2.2
    ·have ht:tooN (true) ln e=true:=by unfold tooN;rw[hR,dEt h2,Bool.or_true]
     try simp only[List.length_nil] at w2 d2
     simp only[go_sem,zE,zB,zA,zM,zS,zL,reduceCtorEq,dc,d0,dEf h0,fits,yQi,w1,d1,dEf h1,w2,d2,dEt h2,d2];intros;exact yQ0 ⟨⟨_,_,_,_,by rw[ht];rfl,λh=>by rw[ht] at h;cases h⟩,rfl⟩
    ·have ht:tooN (true) ln e=false:=by unfold tooN;rw[hR,dEf h1,dEf h2];rfl
     try simp only[List.length_nil] at w2 d2
     simp only[go_sem,zE,zB,zA,zM,zS,zL,reduceCtorEq,dc,d0,dEf h0,fits,yQi,w1,d1,dEf h1,w2,d2,dEf h2,d2];intros;refine (hj1 _).mono ?_;rintro _ st ⟨⟨t5,rfl,e5⟩,rfl⟩;simp only[go_sem,zE,zB,zA,zM,zS,zL,reduceCtorEq,fits];refine (hj (ln.2) t2 (by first|exact e2|exact .inl rfl) (by first|omega|(simp only[List.length_nil];omega)) _).mono ?_;rintro _ st ⟨⟨t6,rfl,e6⟩,rfl⟩;simp only[go_sem,zE,zB,zA,zM,zS,zL,reduceCtorEq,fits];exact yQ0 ⟨⟨_,_,_,_,by rw[ht];rfl,λ_=>⟨t5,t6,(by unfold yGl;rw[hR];try rfl),e5,e6⟩⟩,rfl⟩
def plcs (ln:Ln):List (Nat×Bool):=(ln.1.map λi=>(i,false))++ln.2.map λi=>(i,true)
abbrev plcI (p:Nat×Bool):IV:=.agg [.raw (.int .i64 (p.1:Int)),.raw (.bool p.2)]
def plX (ln:Ln):Nat->List IV->Prop:=λk a=>∃p,(plcs ln)[k]?=some p/\a=[plcI p]
theorem yGm (ln:Ln):(plcs ln).length=ln.1.length+ln.2.length:=by simp[plcs]
theorem xX8 (ln:Ln)(x:IV)(hx:IsLn ln x)(st:ISt):ICall prog gl 72 [x] st (λr st'=>r=.fn (.func 108) [] [.cptr x]/\st'=st):=by
 obtain⟨t1,t2,rfl,e1,e2⟩:=hx;refine ICall.intro (c:=cf prog gl [] [] [1]) func72 rfl (by show _<=4;simp) (by kernel_rfl) ?_;simp only[go_sem,zE,zB,zA,zM,zS,zL,reduceCtorEq,fits];exact yQ0 ⟨rfl,rfl⟩
theorem zYj (ln:Ln)(x:IV)(hx:IsLn ln x)(hl:ln.1.length<=1000000/\ln.2.length<=1000000)(I:Nat->ISt->Prop):IterC prog gl 108 [] [.cptr x] (plX ln) (plcs ln).length I:=by
 obtain⟨t1,t2,rfl,e1,e2⟩:=hx;rintro y I' S' st ⟨f,fi,ca,rfl,hfn,hent⟩ _ hy h0;change ICall prog gl _ [.fn f fi ca,_] st _;refine iI func108 ?_;simp only[go_sem,zE,zB,zA,zM,zS,zL,reduceCtorEq,fits,yQi];intros;refine LoopC.ctr ln.1.length (λk fr st' ds=>I' k st'/\fr 0=.iv (.fn f fi ca)/\fr 1=.iv (.cptr (.agg [.sl t1 (yQh ln.1),.sl t2 (yQh ln.2)]))/\fr 8=.iv (.sl t1 (yQh ln.1))/\fr 9=.iv (.raw (.int .i64 ln.1.length))/\fr 10=.iv (.raw (.int .i64 (k:Int)))/\ds=[]) ?_ ?_ ?_
 ·simp only[go_sem,zE,zB,zA,zM,zS,zL,reduceCtorEq];exact⟨h0,rfl⟩
 ·rintro k fr st _ hlt ⟨hI,f0,f1,f8,f9,f10,rfl⟩;obtain⟨n,hn⟩:=yQ2 hlt;have hcall:=hy k [plcI (n,false)] st ⟨(n,false),by unfold plcs;rw[List.getElem?_append_left (by simpa using hlt),List.getElem?_map,hn];rfl,rfl⟩ hI;simp only[go_sem,zE,zB,zA,zM,zS,zL,reduceCtorEq,f0,f1,f8,f9,f10,lt_i hlt,yQ3 e1,iNn,yZc hn,fits];refine yZd hent (hcall.mono ?_);rintro _ st (⟨rfl,h⟩|⟨rfl,h⟩)
  ·simp only[go_sem,zE,zB,zA,zM,zS,zL,reduceCtorEq,f0,f1,f8,f9,f10,yQd hlt (show ln.1.length<=281474976710656 by omega)];exact h
  ·simp only[go_sem,zE,zB,zA,zM,zS,zL,reduceCtorEq];exact yQ0 (.inr h)
 ·rintro fr st _ ⟨hI,f0,f1,f8,f9,f10,rfl⟩;simp only[go_sem,zE,zB,zA,zM,zS,zL,reduceCtorEq,f0,f1,f9,f10,yQm (nLi _),yQi];intro _;refine LoopC.ctr ln.2.length (λk fr st' ds=>I' (ln.1.length+k) st'/\fr 0=.iv (.fn f fi ca)/\fr 21=.iv (.sl t2 (yQh ln.2))/\fr 22=.iv (.raw (.int .i64 ln.2.length))/\fr 23=.iv (.raw (.int .i64 (k:Int)))/\ds=[]) ?_ ?_ ?_
  ·simp only[go_sem,zE,zB,zA,zM,zS,zL,reduceCtorEq];exact⟨hI,f0,rfl⟩
  ·rintro k fr st _ hlt ⟨hI,f0,f21,f22,f23,rfl⟩;obtain⟨n,hn⟩:=yQ2 hlt;have hcall:=hy (ln.1.length+k) [plcI (n,true)] st ⟨(n,true),by unfold plcs;rw[List.getElem?_append_right (by simp),List.length_map,Nat.add_sub_cancel_left,List.getElem?_map,hn];rfl,rfl⟩ hI;simp only[go_sem,zE,zB,zA,zM,zS,zL,reduceCtorEq,f0,f21,f22,f23,lt_i hlt,yQ3 e2,iNn,yZc hn,fits];refine yZd hent (hcall.mono ?_);rintro _ st (⟨rfl,h⟩|⟨rfl,h⟩)
   ·simp only[go_sem,zE,zB,zA,zM,zS,zL,reduceCtorEq,f0,f21,f22,f23,yQd hlt (show ln.2.length<=281474976710656 by omega)];exact h
   ·simp only[go_sem,zE,zB,zA,zM,zS,zL,reduceCtorEq];exact yQ0 (.inr h)
  ·rintro fr st _ ⟨hI,f0,f21,f22,f23,rfl⟩;simp only[go_sem,zE,zB,zA,zM,zS,zL,reduceCtorEq,f22,f23,yQm (nLi _)];refine yQ0 (.inl ?_);rw[yGm];exact hI
theorem xYr (m:Nat)(w x:IV)(c:List IV)(hw:w=.cptr (.agg c))(ln:Ln)(hx:IsLn ln x)(st:ISt):ICall prog gl 40 [w,x] st (λr st'=>r=.fn (.func 71) [] [.cptr x,.cptr w]/\st'=st):=by
 obtain⟨t1,t2,rfl,e1,e2⟩:=hx;subst hw;refine ICall.intro (c:=cf prog gl [] [] [2,3]) func40 rfl (by show _<=6;simp) (by kernel_rfl) ?_;simp only[go_sem,zE,zB,zA,zM,zS,zL,reduceCtorEq,fits];exact yQ0 ⟨rfl,rfl⟩
