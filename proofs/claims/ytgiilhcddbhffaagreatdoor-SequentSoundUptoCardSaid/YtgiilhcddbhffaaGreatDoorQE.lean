/- Walks: formulas in order, each once. -/
import Derived.Test.YtgiilhcddbhffaaGreatDoorQA
import Derived.Test.YtgiilhcddbhffaaGreatDoorQD
import Derived.Test.YtgiilhcddbhffaaGreatDoorQC
import Derived.Test.YtgiilhcddbhffaaGreatDoorKA
import Derived.Test.YtgiilhcddbhffaaGreatDoorLA
import Derived.Test.YtgiilhcddbhffaaGreatDoorKC
import Derived.Test.YtgiilhcddbhffaaGreatDoorJI
set_option linter.all false
namespace Go.Proofs.Tryz
open Go Go.Iv Go.Shelf Go.RowKit
set_option maxRecDepth 4000
variable (gl:Nat→Option IV)
mutual
theorem vZ6:∀ (a b:Tm)(x:IV),IsTm a x→IsTm b x→a=b
 | .mk v n us,.mk w m ws,x,h,k=>by
  obtain⟨t,xs,rfl,_,h1⟩:=h.mk
  obtain⟨t',xs',hx,_,h2⟩:=k.mk
  simp only[IV.agg.injEq,List.cons.injEq,IV.raw.injEq,Value.bool.injEq,Value.string.injEq,IV.sl.injEq,and_true] at hx
  obtain⟨rfl,rfl,rfl,rfl⟩:=hx
  rw[xQp us ws xs h1 h2]
theorem xQp:∀ (l m:List Tm)(xs:List IV),IsTms l xs→IsTms m xs→l=m
 | [],[],_,_,_=>rfl
 | [],b::m,xs,h,k=>by
  simp only[IsTms] at h k
  obtain⟨y,ys,rfl,_⟩:=k
  cases h
 | a::l,[],xs,h,k=>by
  simp only[IsTms] at h k
  obtain⟨y,ys,rfl,_⟩:=h
  cases k
 | a::l,b::m,xs,h,k=>by
  simp only[IsTms] at h k
  obtain⟨y,ys,rfl,h1,h2⟩:=h
  obtain⟨y',ys',he,k1,k2⟩:=k
  cases he
  rw[vZ6 a b y h1 k1,xQp l m ys h2 k2]
end
mutual
theorem wWk:∀ (a b:Fm)(x:IV),IsFm a x→IsFm b x→a=b
 | .mk o n us sub,.mk o' m ws sub',x,h,k=>by
  obtain⟨t,xs,t2,xs2,rfl,_,_,h1,_,h2⟩:=h.mk
  obtain⟨t',xs',t2',xs2',hx,_,_,k1,_,k2⟩:=k.mk
  simp only[IV.agg.injEq,List.cons.injEq,IV.raw.injEq,Value.int.injEq,Value.string.injEq,IV.sl.injEq,and_true,true_and,Int.natCast_inj] at hx
  obtain⟨rfl,rfl,⟨rfl,rfl⟩,rfl,rfl⟩:=hx
  rw[xQp us ws xs h1 k1,wZ6 sub sub' xs2 h2 k2]
theorem wZ6:∀ (l m:List Fm)(xs:List IV),IsFms l xs→IsFms m xs→l=m
 | [],[],_,_,_=>rfl
 | [],b::m,xs,h,k=>by
  simp only[IsFms] at h k
  obtain⟨y,ys,rfl,_⟩:=k
  cases h
 | a::l,[],xs,h,k=>by
  simp only[IsFms] at h k
  obtain⟨y,ys,rfl,_⟩:=h
  cases k
 | a::l,b::m,xs,h,k=>by
  simp only[IsFms] at h k
  obtain⟨y,ys,rfl,h1,h2⟩:=h
  obtain⟨y',ys',he,k1,k2⟩:=k
  cases he
  rw[wWk a b y h1 k1,wZ6 l m ys h2 k2]
end
open Classical in
noncomputable def rdF (x:IV):Fm:=if h:∃ a,IsFm a x then h.choose else fm0
theorem xJw {a:Fm}{x:IV}(h:IsFm a x):rdF x=a:=by
 have he:∃ a,IsFm a x:=⟨a,h⟩
 unfold rdF
 rw[dif_pos he]
 exact wWk _ _ x he.choose_spec h
theorem xJv:∀ {l:List Fm}{xs:List IV},IsFms l xs→xs.map rdF=l
 | [],_,rfl=>rfl
 | a::l,_,⟨x,xs,rfl,hx,hl⟩=>by rw[List.map_cons,xJw hx,xJv hl]
theorem wWj:∀ {ys:List IV},(∀ y∈ys,∃ a,IsFm a y)→IsFms (ys.map rdF) ys
 | [],_=>rfl
 | y::ys,h=>by
  obtain⟨a,ha⟩:=h y (by simp)
  exact⟨y,ys,rfl,by rw[xJw ha]; exact ha,wWj fun z hz=>h z (by simp[hz])⟩
theorem zYl:∀ {l:List Fm}{xs:List IV},IsFms l xs→∀ y∈xs,∃ a,IsFm a y∧a∈l
 | [],_,rfl,y,h=>by cases h
 | a::l,_,⟨x,xs,rfl,hx,hl⟩,y,h=>by
  rcases List.mem_cons.1 h with rfl | h
  ·exact⟨a,hx,by simp⟩
  ·obtain⟨b,hb,hm⟩:=zYl hl y h
   exact⟨b,hb,by simp[hm]⟩
theorem vKg (l:List Fm)(xs rest:List IV)(hx:IsFms l xs)(hne:xs≠[])(hlen:xs.length≤140737488355328)(b cap:Nat)(st:ISt)(hb:st b=some (.box (xs.flatMap IV.cells++rest))) :
  ICall prog gl 129 [.raw (.slice (some ⟨b,0,none⟩) xs.length cap),.fn (.func 130) [] []] st
   (fun r st'=>r=.tup []∧∃ (m:List Fm) (ys:List IV),IsFms m ys∧m.Perm l∧m.Pairwise (fun x y=>¬ yXa y x<0)∧(∀ y∈ys,y∈xs)∧st'=st.put b (some (.box (ys.flatMap IV.cells++rest)))):=by
 refine (xYm gl 130 ?_ xs rest b cap st hne hlen (yJu hx) hb (fun x y=>yXa (rdF x) (rdF y)) (fun x _=>zJt _) (fun x _ y _ z _=>zYt _ _ _) (fun x _ y _ z _ h1 h2 h3=>?_) (fun x hxm y hym=>?_)).mono ?_
 ·exact enters_of func130 (by kernel_rfl) rfl
 ·rcases Int.lt_or_le (yXa (rdF y) (rdF x)) 0 with h | h
  ·have:=zYt _ _ _ h h3
   exact h2 this
  ·have hxy:yXa (rdF x) (rdF y)=0:=by
    have:=zJs (rdF x) (rdF y)
    omega
   rw[(zZu _ _).1 hxy] at h3
   exact h2 h3
 ·obtain⟨a,ha,_⟩:=zYl hx x hxm
  obtain⟨c,hc,_⟩:=zYl hx y hym
  rw[xJw ha,xJw hc]
  exact (xQ4 (fun _=>none) a c x y ha hc _).mono fun r st' h=>h.1
 ·rintro r st' ⟨rfl,ys,hp,hpw,rfl⟩
  refine⟨rfl,ys.map rdF,ys,wWj fun y hy=>?_,?_,?_,fun y hy=>hp.mem_iff.1 hy,rfl⟩
  ·obtain⟨a,ha,_⟩:=zYl hx y (hp.mem_iff.1 hy)
   exact⟨a,ha⟩
  ·rw[← xJv hx]; exact hp.map rdF
  ·exact List.pairwise_map.2 hpw
theorem wXh (t:Tag)(ht:t.cap=.nil)(st:ISt):ICall prog gl 129 [.sl t [],.fn (.func 130) [] []] st (fun r st'=>r=.tup []∧st'=st):=by
 obtain⟨fs,c,es⟩:=t
 obtain rfl:c=.nil:=ht
 intro B X rs hg hst hv
 obtain⟨r0,r1,rfl⟩:∃ r0 r1,rs=[r0,r1]:=by
  match rs,hv with
  | [a,b],_=>exact⟨a,b,rfl⟩
  | [],hv=>cases hv.1
  | [_],hv=>cases hv.1
  | _::_::_::_,hv=>cases hv.1
 obtain⟨p,cap,rfl⟩:∃ p cap,r0=.slice p 0 cap:=by
  have:=hv.2 0 r0 _ rfl rfl
  obtain⟨a,cap,_,_,rfl,_⟩:=V.sl_inv this
  exact⟨a,cap,rfl⟩
 refine Calls.mono (AnyF.slices_SortFunc_none Tryz.sortFL p cap r1 X.w) ?_
 rintro e w' ⟨rfl,rfl⟩
 exact⟨_,rfl,X,.tup [],rfl,hg,Ext.refl X,.tup [] [] rfl (fun i r c h=>by simp at h),rfl,hst⟩
noncomputable def ddF (p:Fm):List Fm→List Fm
 | []=>[]
 | b::l=>if yXa b p=0 then ddF b l else b::ddF b l
noncomputable def dd:List Fm→List Fm
 | []=>[]
 | a::l=>a::ddF a l
theorem xVa:∀ (p:Fm)(l:List Fm)(a b:Fm),(p::l).getLast?=some a→ddF p (l++[b])=ddF p l++(if yXa b a=0 then [] else [b])
 | p,[],a,b,h=>by
  simp only[List.getLast?_singleton,Option.some.injEq] at h
  subst h
  simp only[List.nil_append,ddF]
 | p,c::l,a,b,h=>by
  rw[List.getLast?_cons_cons] at h
  simp only[List.cons_append,ddF,xVa c l a b h]
  split<;>rfl
theorem wGx:∀ (l:List Fm)(a b:Fm),l.getLast?=some a→dd (l++[b])=dd l++(if yXa b a=0 then [] else [b])
 | p::l,a,b,h=>by simp only[List.cons_append,dd,xVa p l a b h]
theorem wZn {m:List Fm}{k:Nat}{a b:Fm}(ha:m[k]?=some a)(hb:m[k+1]?=some b):dd (m.take (k+1+1))=dd (m.take (k+1))++(if yXa b a=0 then [] else [b]):=by
 rw[yQ6 hb]
 exact wGx _ a b (by rw[yQ6 ha,List.getLast?_concat])
theorem wZp:∀ (p:Fm)(l:List Fm),(p::l).Pairwise (fun x y=>¬ yXa y x<0)→(∀ f,f∈p::ddF p l↔f∈p::l)∧(p::ddF p l).Pairwise (fun x y=>yXa x y<0)
 | p,[],_=>⟨fun f=>Iff.rfl,List.pairwise_singleton ..⟩
 | p,b::l,h=>by
  have h1:=List.pairwise_cons.1 h
  obtain⟨i1,i2⟩:=wZp b l h1.2
  simp only[ddF]
  by_cases hc:yXa b p=0
  ·have hbp:=(zZu b p).1 hc
   subst hbp
   rw[if_pos hc]
   refine⟨fun f=>?_,i2⟩
   rw[i1 f]
   simp
  ·rw[if_neg hc]
   have hlt:yXa p b<0:=by
    have:=h1.1 b (by simp)
    have:=zJs b p
    omega
   refine⟨fun f=>?_,List.pairwise_cons.2 ⟨fun f hf=>?_,i2⟩⟩
   ·rw[List.mem_cons,i1 f,List.mem_cons (l:=b::l)]
   ·rcases List.mem_cons.1 hf with rfl | hf
    ·exact hlt
    ·exact zYt _ _ _ hlt ((List.pairwise_cons.1 i2).1 f hf)
theorem wZo (l m:List Fm)(hp:m.Perm l)(h:m.Pairwise (fun x y=>¬ yXa y x<0)):SetF l (dd m):=by
 cases m with
 | nil =>
  obtain rfl:=List.Perm.nil_eq hp
  exact⟨List.Pairwise.nil,fun f=>Iff.rfl⟩
 | cons a m =>
  obtain⟨h1,h2⟩:=wZp a m h
  exact⟨h2,fun f=>(h1 f).trans hp.mem_iff⟩
theorem rd4 {ys rest cs:List IV}(hf:∀ y∈ys,y.cells.length=4)(hlen:cs.length=(ys.flatMap IV.cells++rest).length){i:Nat}{y:IV}(hy:ys[i]?=some y)(hc:∀ j,i*4≤j→cs[j]?=(ys.flatMap IV.cells++rest)[j]?) :
  i*4+4≤cs.length∧(cs.drop (i*4)).take 4=y.cells:=by
 have hi:=(lGs hy).1
 have h0:ys.flatMap IV.cells=(ys.take i).flatMap IV.cells++(y.cells++(ys.drop (i+1)).flatMap IV.cells):=by
  conv=>lhs; rw[← List.take_append_drop i ys,List.drop_eq_getElem_cons hi,(lGs hy).2]
  rw[List.flatMap_append,List.flatMap_cons]
 have h1:((ys.take i).flatMap IV.cells).length=i*4:=by
  rw[yQq _ fun z hz=>hf z (List.mem_of_mem_take hz),List.length_take]
  omega
 have hy4:=hf y (lMg hy)
 have hd:cs.drop (i*4)=(ys.flatMap IV.cells++rest).drop (i*4):=by
  apply List.ext_getElem?
  intro j
  rw[List.getElem?_drop,List.getElem?_drop,hc _ (by omega)]
 refine⟨?_,?_⟩
 ·rw[hlen,h0]
  simp only[lLa,h1,hy4]; omega
 ·rw[hd,h0,List.append_assoc,List.drop_left' h1,List.append_assoc,List.take_left' hy4]
theorem xV1:∀ {l:List Fm}{xs:List IV}(k:Nat),IsFms l xs→IsFms (l.take k) (xs.take k)
 | [],_,k,rfl=>by simp[IsFms]
 | a::l,_,0,_=>by simp[IsFms]
 | a::l,_,k+1,⟨y,ys,rfl,hy,h⟩=>by
  rw[List.take_succ_cons,List.take_succ_cons]
  exact⟨y,ys.take k,rfl,hy,xV1 k h⟩
theorem st4 {cs l:List IV}{k n:Nat}(hl:l.length=n)(h:k*4+n≤cs.length):(setAt cs (k*4) l).length=cs.length∧(setAt cs (k*4) l).take (k*4)=cs.take (k*4)∧(setAt cs (k*4) l).take (k*4+n)=cs.take (k*4)++l∧∀ i,k*4+n≤i→(setAt cs (k*4) l)[i]?=cs[i]?:=by
 have h1:(cs.take (k*4)).length=k*4:=by rw[List.length_take]; omega
 have h2:(cs.take (k*4)++l).length=k*4+n:=by rw[lLa,h1,hl]
 unfold setAt
 refine⟨?_,?_,List.take_left' h2,fun i hi=>?_⟩
 ·rw[lLa,h2,List.length_drop,hl]; omega
 ·rw[List.append_assoc,List.take_left' h1]
 ·rw[List.getElem?_append_right (by omega),h2,List.getElem?_drop,hl]
  congr 1; omega
theorem zQw {k n:Nat}(h:k≤n):yJ5 (some ((k:Nat):Int)) none n=some (k,n):=by
 simp only[yJ5,Option.getD_none,Option.getD_some]
 rw[if_pos ⟨by omega,by omega,Int.le_refl _⟩]; simp
theorem xVr {k n:Nat}(h:k≤n):yJ5 none (some ((k:Nat):Int)) n=some (0,k):=by
 simp only[yJ5,Option.getD_none,Option.getD_some]
 rw[if_pos ⟨Int.le_refl _,by omega,by omega⟩]; simp
theorem wXl (m:List Fm)(ys rest:List IV)(hx:IsFms m ys)(hlen:m.length≤1099511627776)(g cap:Nat)(hcap:m.length≤cap)(st:ISt)(hb:st g=some (.box (ys.flatMap IV.cells++rest))) :
  ICall prog gl 131 [.raw (.slice (some ⟨g,0,none⟩) m.length cap),.fn (.func 132) [] []] st
   (fun r st'=>∃ k cs zs,r=.raw (.slice (some ⟨g,0,none⟩) k cap)∧st'=st.put g (some (.box cs))∧cs.length=(ys.flatMap IV.cells++rest).length∧cs.take (k*4)=zs.flatMap IV.cells∧IsFms (dd m) zs∧zs.length=k∧k≤m.length∧∀ z∈zs,z∈ys):=by
 have hf4:∀ y∈ys,y.cells.length=4:=fun y hy=>wZb (yJu hx y hy)
 have hyl:=hx.len
 have hput:st.put g (some (.box (ys.flatMap IV.cells++rest)))=st:=yX2 hb
 have same:∀ k,dd (m.take k)=m.take k→k=m.length→∃ k cs zs,IV.raw (.slice (some ⟨g,0,none⟩) m.length cap)=.raw (.slice (some ⟨g,0,none⟩) k cap)∧st=st.put g (some (.box cs))∧cs.length=(ys.flatMap IV.cells++rest).length∧cs.take (k*4)=zs.flatMap IV.cells∧IsFms (dd m) zs∧zs.length=k∧k≤m.length∧∀ z∈zs,z∈ys:=by
  intro k hk hkl
  rw[hkl,lTl] at hk
  refine⟨m.length,_,ys,rfl,hput.symm,rfl,?_,by rw[hk]; exact hx,hyl,Nat.le_refl _,fun _ h=>h⟩
  rw[← hyl,List.take_left' (yQq _ hf4)]
 refine ICall.intro (c:=cf prog gl [22,27,42,47] []) func131 rfl (by show _≤66; simp) (by kernel_rfl) ?_
 by_cases h2:m.length<2
 ·have d2:decide (((m.length:Nat):Int)<2)=true:=dEt (by omega)
  simp(config:=zzC)only[go_sem,d2]
  refine yQ0 (same m.length ?_ rfl)
  rw[lTl]
  match m,h2 with
  | [],_=>rfl
  | [a],_=>rfl
 ·have d2:decide (((m.length:Nat):Int)<2)=false:=dEf (by omega)
  simp(config:=zzC)only[go_sem,d2]
  refine LoopC.ctr (m.length - 1) (fun c fr st' ds=>dd (m.take (c+1))=m.take (c+1)∧fr 0=.iv (.raw (.slice (some ⟨g,0,none⟩) m.length cap))∧fr 1=.iv (.fn (.func 132) [] [])∧fr 5=.iv (.raw (.int .i64 ((c+1:Nat):Int)))∧st'=st∧ds=[]) ?_ ?_ ?_
  ·simp(config:=zzC)only[go_sem]
   refine⟨?_,rfl⟩
   match m,h2 with
   | [],h=>exact absurd (show 0<2 by decide) h
   | [a],h=>exact absurd (show 1<2 by decide) h
   | a::b::l,_=>rfl
  ·rintro c fr st1 _ hlt ⟨hd,f0,f1,f5,rfl,rfl⟩
   have hlt':c+1<m.length:=by omega
   obtain⟨a,ha⟩:=yQ5 (l:=m) (k:=c) (by omega)
   obtain⟨b,hbm⟩:=yQ5 hlt'
   obtain⟨x,hkx,hxa⟩:=hx.get ha
   obtain⟨y,hky,hyb⟩:=hx.get hbm
   have hcall:=xGu gl b a y x hyb hxa st1
   obtain⟨rx1,rx2⟩:=rd4 (rest:=rest) hf4 rfl hkx (fun _ _=>rfl)
   obtain⟨ry1,ry2⟩:=rd4 (rest:=rest) hf4 rfl hky (fun _ _=>rfl)
   obtain⟨x1,x2,x3,x4,x5,x6,rfl⟩:=hxa.agg
   obtain⟨y1,y2,y3,y4,y5,y6,rfl⟩:=hyb.agg
   simp only[IV.cells] at rx2 ry2
   have hw:IntKind.i64.wrap (((c+1:Nat):Int) - 1)=(c:Nat):=by rw[w64 (by omega) (by omega)]; omega
   simp(config:=zzC)only[go_sem,f0,f1,f5,lt_i hlt',hw,hlt',show c<m.length by omega,iNn,hb,rx1,ry1,rx2,ry2,fits]
   refine hcall.mono ?_
   rintro _ st1 ⟨rfl,rfl⟩
   have hds:=wZn ha hbm
   by_cases he:yXa b a=0
   ·rw[if_pos he,List.append_nil,hd] at hds
    have hcne:¬ cap=c+1:=by omega
    simp(config:=zzC)only[go_sem,dEt he,f0,f1,f5,zQw (show c+1≤m.length by omega),hcap,hcne]
    refine LoopC.ctr (m.length - (c+1) - 1) (fun j fr st' ds=>(∃ k cs zs,fr 5=.iv (.raw (.int .i64 ((k:Nat):Int)))∧st'=st1.put g (some (.box cs))∧cs.length=(ys.flatMap IV.cells++rest).length∧cs.take (k*4)=zs.flatMap IV.cells∧IsFms (dd (m.take (c+1+j+1))) zs∧zs.length=k∧k≤c+1+j∧(∀ z∈zs,z∈ys)∧∀ i,(c+1+j)*4≤i→cs[i]?=(ys.flatMap IV.cells++rest)[i]?) ∧
     fr 0=.iv (.raw (.slice (some ⟨g,0,none⟩) m.length cap))∧fr 1=.iv (.fn (.func 132) [] [])∧fr 6=.iv (.raw (.slice (some ⟨g,(c+1)*4,none⟩) (m.length - (c+1)) (cap - (c+1))))∧fr 7=.iv (.raw (.int .i64 ((j+1:Nat):Int)))∧ds=[]) ?_ ?_ ?_
    ·simp(config:=zzC)only[go_sem]
     refine⟨⟨c+1,ys.flatMap IV.cells++rest,ys.take (c+1),f5,(yX2 hb).symm,rfl,?_,?_,?_,Nat.le_refl _,fun z hz=>List.mem_of_mem_take hz,fun _ _=>rfl⟩,f0,f1,rfl⟩
     ·conv=>lhs; rw[← List.take_append_drop (c+1) ys]
      rw[List.flatMap_append,List.append_assoc,List.take_left' (by rw[yQq _ fun z hz=>hf4 z (List.mem_of_mem_take hz),List.length_take]; omega)]
     ·rw[hds]; exact xV1 _ hx
     ·rw[List.length_take]; omega
    ·rintro j fr st2 _ hj ⟨⟨k,cs,zs,f5,rfl,hcl,hct,hz,hzl,hk,hzm,hcs⟩,f0,f1,f6,f7,rfl⟩
     obtain⟨a',ha'⟩:=yQ5 (l:=m) (k:=c+1+j) (by omega)
     obtain⟨b',hb'⟩:=yQ5 (l:=m) (k:=c+1+j+1) (by omega)
     obtain⟨x',hkx',hxa'⟩:=hx.get ha'
     obtain⟨y',hky',hyb'⟩:=hx.get hb'
     have hyb0:=hyb'
     have hcall':=xGu gl b' a' y' x' hyb' hxa' (st1.put g (some (.box cs)))
     obtain⟨rx1',rx2'⟩:=rd4 hf4 hcl hkx' hcs
     obtain⟨ry1',ry2'⟩:=rd4 hf4 hcl hky' (fun i hi=>hcs i (by omega))
     have hy4:=hf4 y' (lMg hky')
     obtain⟨p1,p2,p3,p4,p5,p6,rfl⟩:=hxa'.agg
     obtain⟨q1,q2,q3,q4,q5,q6,rfl⟩:=hyb'.agg
     simp only[IV.cells] at rx2' ry2' hy4
     have hw':IntKind.i64.wrap (((j+1:Nat):Int) - 1)=(j:Nat):=by rw[w64 (by omega) (by omega)]; omega
     have o1:(c+1)*4+j*4=(c+1+j)*4:=by omega
     have o2:(c+1)*4+(j+1)*4=(c+1+j+1)*4:=by omega
     have hj1:j+1<m.length - (c+1):=by omega
     have hj0:j<m.length - (c+1):=by omega
     have hds':=wZn ha' hb'
     simp(config:=zzC)only[go_sem,f0,f1,f5,f6,f7,lt_i hj1,hj0,hj1,hw',iNn,ISt.put_same,o1,o2,rx1',ry1',rx2',ry2',fits]
     refine hcall'.mono ?_
     rintro _ _ ⟨rfl,rfl⟩
     by_cases he':yXa b' a'=0
     ·rw[if_pos he',List.append_nil] at hds'
      simp(config:=zzC)only[go_sem,dEt he',f0,f1,f5,f6,f7,yQf hj1 (show m.length - (c+1)≤281474976710656 by omega)]
      exact⟨k,cs,zs,rfl,rfl,hcl,hct,by rw[show c+1+(j+1)+1=c+1+j+1+1 by omega,hds']; exact hz,hzl,by omega,hzm,fun i hi=>hcs i (by omega)⟩
     ·rw[if_neg he'] at hds'
      have hkm:k<m.length:=by omega
      have hk4:k*4+4≤cs.length:=by omega
      obtain⟨s1,s2,s3,s4⟩:=st4 hy4 hk4
      simp(config:=zzC)only[go_sem,dEf he',f0,f1,f5,f6,f7,hj1,hkm,iNn,ISt.put_same,o2,ry1',ry2',hk4,fits,yQf hkm (show m.length≤281474976710656 by omega),yQf hj1 (show m.length - (c+1)≤281474976710656 by omega)]
      refine⟨k+1,setAt cs (k*4) [.raw (.int .u8 q1),.raw (.string q2),.sl q3 q4,.sl q5 q6],zs++[.agg [.raw (.int .u8 q1),.raw (.string q2),.sl q3 q4,.sl q5 q6]],rfl,by rw[yQ8]; rfl,s1.trans hcl,?_,?_,by simp[hzl],by omega,fun z hz=>by
        rcases List.mem_append.1 hz with hz | hz
        ·exact hzm z hz
        ·rw[List.mem_singleton.1 hz]; exact lMg hky',fun i hi=>(s4 i (by omega)).trans (hcs i (by omega))⟩
      ·rw[show (k+1)*4=k*4+4 by omega,s3,hct,List.flatMap_append]
       simp[IV.cells]
      ·rw[show c+1+(j+1)+1=c+1+j+1+1 by omega,hds']
       exact hz.append ⟨_,_,rfl,hyb0,rfl⟩
    ·rintro fr st2 _ ⟨⟨k,cs,zs,f5,rfl,hcl,hct,hz,hzl,hk,hzm,hcs⟩,f0,f1,f6,f7,rfl⟩
     have hkm:k<m.length:=by omega
     have hck:¬ cap=k:=by omega
     have hmk:¬ m.length - k=0:=by omega
     have hlen4:m.length*4≤cs.length:=by rw[hcl,lLa,yQq _ hf4]; omega
     have hk4:k*4+(m.length - k)*4≤cs.length:=by omega
     obtain⟨s1,s2,s3,s4⟩:=st4 (cs:=cs) (k:=k) (l:=List.replicate ((m.length - k)*4) .junk) (List.length_replicate ..) hk4
     rw[show m.length - (c+1) - 1+1=m.length - (c+1) by omega] at f7
     simp(config:=zzC)only[go_sem,f0,f1,f5,f6,f7,yQt (nLi _),zQw (show k≤m.length by omega),xVr (show k≤cap by omega),hcap,hck,hmk,ISt.put_same,hk4,ite_self,Nat.zero_mul]
     rw[show c+1+(m.length - (c+1) - 1)+1=m.length by omega,lTl] at hz
     exact yQ0 ⟨k,setAt cs (k*4) (List.replicate ((m.length - k)*4) .junk),zs,rfl,by rw[yQ8]; rfl,s1.trans hcl,s2.trans hct,hz,hzl,by omega,hzm⟩
   ·rw[if_neg he,hd] at hds
    simp(config:=zzC)only[go_sem,dEf he,f0,f1,f5,yQf hlt' (show m.length≤281474976710656 by omega)]
    rw[hds,yQ6 hbm]
  ·rintro fr st1 _ ⟨hd,f0,f1,f5,rfl,rfl⟩
   rw[show m.length - 1+1=m.length by omega] at hd f5
   simp(config:=zzC)only[go_sem,f0,f5,yQt (nLi _)]
   exact yQ0 (same m.length hd rfl)
end Go.Proofs.Tryz
namespace Go.Proofs.Tryz
open Go Go.Iv
set_option maxRecDepth 4000
variable (gl:Nat→Option IV)
open Classical in
noncomputable def setF (l:List Fm):List Fm:=if h:∃ r,SetF l r then h.choose else []
theorem zXh {l r:List Fm}(h:SetF l r):setF l=r:=by
 have he:∃ r,SetF l r:=⟨r,h⟩
 unfold setF
 rw[dif_pos he]
 exact SetF.one he.choose_spec h
theorem xJt:setF []=[]:=zXh ⟨List.Pairwise.nil,fun _=>Iff.rfl⟩
noncomputable def yZt (l:List Fm):List Fm×Nat:=if l.all Fm.right then (setF (l.map zZ9),0) else ([],2)
theorem xQh (t:Tag)(ht:t.cap=.nil)(st:ISt):ICall prog gl 131 [.sl t [],.fn (.func 132) [] []] st (fun r st'=>(∃ t',r=.sl t' []∧t'.cap=.nil)∧st'=st):=by
 obtain⟨fs,c,es⟩:=t
 obtain rfl:c=.nil:=ht
 refine ICall.intro (c:=cf prog gl [22,27,42,47] []) func131 rfl (by show _≤66; simp) (by kernel_rfl) ?_
 simp(config:=zzC)only[go_sem,show decide (((0:Nat):Int)<2)=true from rfl]
 exact yQ0 ⟨⟨_,rfl,rfl⟩,rfl⟩
theorem wKf {l:List IV}(h:∀ x∈l,dfr x):dfrs l:=by
 induction l with
 | nil=>trivial
 | cons x l ih=>exact⟨h x (by simp),ih fun y hy=>h y (by simp[hy])⟩
theorem wJ9 {l m:List Fm}(hp:m.Perm l)(h:m.Pairwise (fun x y=>¬ yXa y x<0))(hl:0<l.length):0<(setF l).length:=by
 rw[zXh (wZo _ m hp h)]
 have:=hp.length_eq
 match m,this with
 | [],e=>simp at e; omega
 | a::m,_=>simp[dd]
theorem zGp (G:Gl gl)(T:Gt gl)(l:List Fm)(tg:Tag)(xs:List IV)(htg:okEs tg 4)(hx:IsFms l xs)(hs:fitL l)(hlen:l.length≤1099511627776)(st:ISt) :
  ICall prog gl 79 [.sl tg xs] st (fun r st'=>(∃ t ys,r=.tup [.sl t ys,.raw (.int .i64 (yZt l).2)]∧okEs t 4∧appT (yZt l).1.length t∧IsFmsD (yZt l).1 ys)∧st'=st):=by
 refine ICall.fixN (ICall.mono (K:=fun y st'=>(l.all Fm.right=false∧y=.tup [.sl ⟨true,.nil,0⟩ [],.raw (.int .i64 2)]∧st'=st)∨(l=[]∧(∃ t,y=.tup [.sl t [],.raw (.int .i64 0)]∧t.cap=.nil)∧st'=st) ∨
   (l.all Fm.right=true∧∃ g cap k cs zs,st g=none∧k≤cap∧cap*4≤cs.length∧cs.take (k*4)=zs.flatMap IV.cells∧0<k∧IsFmsD (setF (l.map zZ9)) zs∧zs.length=k∧k≤l.length∧y=.tup [.raw (.slice (some ⟨g,0,none⟩) k cap),.raw (.int .i64 0)]∧st'=st.put g (some (.box cs)))) ?_ ?_)
 ·refine ICall.intro (c:=cf prog gl [26] []) func79 rfl (by show _≤32; simp) (by kernel_rfl) ?_
  simp(config:=zzC)only[go_sem,hx.len]
  intro _
  refine LoopC.ctr l.length (fun k fr st' ds=>(l.take k).all Fm.right=true∧((k=0∧fr 4=.iv (.sl ⟨true,.nil,0⟩ [])∧st'=st)∨(0<k∧∃ g cap cs zs,st g=none∧k≤cap∧cap*4≤cs.length∧cs.take (k*4)=zs.flatMap IV.cells∧IsFmsD ((l.take k).map zZ9) zs∧zs.length=k∧fr 4=.iv (.raw (.slice (some ⟨g,0,none⟩) k cap))∧st'=st.put g (some (.box cs)))) ∧
   fr 9=.iv (.sl tg xs)∧fr 10=.iv (.raw (.int .i64 l.length))∧fr 11=.iv (.raw (.int .i64 k))∧ds=[]) ?_ ?_ ?_
  ·simp(config:=zzC)only[go_sem]
   rfl
  ·rintro k fr st1 _ hlt ⟨hall,hor,f9,f10,f11,rfl⟩
   obtain⟨a,ha⟩:=yQ5 hlt
   obtain⟨y,hky,hya⟩:=hx.get ha
   have ham:=lMg ha
   have hcall:=wV5 gl G T a y hya (hs a ham) st1
   obtain⟨y1,y2,y3,y4,y5,y6,rfl⟩:=hya.agg
   simp(config:=zzC)only[go_sem,f9,f10,f11,lt_i hlt,yQ1 htg,iNn,hky,fits]
   refine hcall.mono ?_
   rintro _ st1 ⟨y',rfl,hyD,rfl⟩
   have hy':=hyD.1
   unfold yVe at hy'
   cases hr:a.right
   ·rw[hr] at hy'
    simp only[bFt,if_false] at hy'
    obtain⟨z1,z2,z3,z4,z5,z6,rfl⟩:=hy'.agg
    unfold yVe
    rw[hr]
    simp only[bFt,if_false]
    simp(config:=zzC)only[go_sem,show decide (((2:Nat):Int)=0)=false from rfl,fits]
    have hsub:subSt st st1:=by
     rcases hor with⟨_,_,h⟩ | ⟨_,g,cap,cs,zs,hg,_,_,_,_,_,_,h⟩
     ·rw[h]; exact subSt.refl _
     ·rw[h]; exact yQc hg
    exact yQb hsub (.inl ⟨List.all_eq_false.2 ⟨a,ham,by simp[hr]⟩,rfl,rfl⟩)
   ·rw[hr] at hy'
    simp only[if_true] at hy'
    rw[show (yVe a).1=zZ9 a by unfold yVe; rw[hr]; simp] at hyD
    have hy0:=hyD
    obtain⟨z1,z2,z3,z4,z5,z6,rfl⟩:=hy'.agg
    unfold yVe
    rw[hr]
    simp only[if_true]
    have hall':(l.take (k+1)).all Fm.right=true:=by
     rw[yQ6 ha,List.all_append,hall]; simp[hr]
    rcases hor with⟨rfl,f4,rfl⟩ | ⟨hk0,g,cap,cs,zs,hg,h1,h2,h3,hz,hzl,f4,rfl⟩
    ·simp(config:=zzC)only[go_sem,show decide (((0:Nat):Int)=0)=true from rfl,fits,f4,yQ2]
     intro g cap
     refine yQa fun hg=>?_
     obtain⟨hg,hcap⟩:=hg
     simp(config:=zzC)only[go_sem,f9,f10,f11,show IntKind.i64.wrap (((0:Nat):Int)+1)=((1:Nat):Int) from rfl]
     have hl1:(l.take 1).map zZ9=[zZ9 a]:=by
      have:=yQ6 ha
      simp only[Nat.zero_add,List.take_zero,List.nil_append] at this
      rw[this]; rfl
     refine⟨by simpa using hall',.inr ⟨by omega,g,cap,_,[.agg [.raw (.int .u8 z1),.raw (.string z2),.sl z3 z4,.sl z5 z6]],hg,hcap,?_,?_,by rw[hl1]; exact IsFmsD.one hy0,rfl,rfl,rfl⟩⟩
     ·simp[IV.cells]; omega
     ·simp[IV.cells]
    ·simp(config:=zzC)only[go_sem,show decide (((0:Nat):Int)=0)=true from rfl,fits,f4,yQ2]
     have hkk:k≤1099511627776:=by omega
     refine yG8 _ _ _ (ISt.put_same ..) (by simp[fits,IV.one]) ⟨by show (_+1)*72≤_; omega,by show _+1≤_; omega⟩ ⟨h1,h2⟩ (by simp[IV.cells]) ?_
     intro g' cap' cs' hg' q1 q2 q3
     have hst':((st.put g (some (.box cs))).put g none).put g' (some (.box cs'))=st.put g' (some (.box cs')):=by
      funext c
      simp only[ISt.put_apply]
      split
      ·rfl
      ·split
       ·subst_vars; exact hg.symm
       ·rfl
     have hg1:st g'=none:=by
      rcases hg' with rfl | h
      ·exact hg
      ·rw[ISt.put_apply] at h
       split at h
       ·cases h
       ·exact h
     simp(config:=zzC)only[go_sem,f9,f10,f11,yQf hlt (show l.length≤281474976710656 by omega)]
     refine⟨hall',.inr ⟨by omega,g',cap',cs',zs++[.agg [.raw (.int .u8 z1),.raw (.string z2),.sl z3 z4,.sl z5 z6]],hg1,q1,q2,?_,?_,by simp[hzl],rfl,hst'⟩⟩
     ·rw[List.flatMap_append,← h3]; exact q3
     ·rw[yQ6 ha,List.map_append]; exact hz.append (IsFmsD.one hy0)
  ·rintro fr st1 _ ⟨hall,hor,f9,f10,f11,rfl⟩
   rw[lTl] at hall hor
   rcases hor with⟨h0,f4,rfl⟩ | ⟨hk0,g,cap,cs,zs,hg,h1,h2,h3,hz,hzl,f4,rfl⟩
   ·simp(config:=zzC)only[go_sem,f4,f10,f11,yQt (nLi _)]
    refine (wXh gl _ rfl _).mono ?_
    rintro _ _ ⟨rfl,rfl⟩
    simp(config:=zzC)only[go_sem,f4]
    refine (xQh gl _ rfl _).mono ?_
    rintro _ _ ⟨⟨t',rfl,ht'⟩,rfl⟩
    simp(config:=zzC)only[go_sem]
    exact yQ0 (.inr (.inl ⟨List.eq_nil_of_length_eq_zero h0,⟨t',rfl,ht'⟩,rfl⟩))
   ·have hcs:cs=zs.flatMap IV.cells++cs.drop (l.length*4):=by rw[← h3,List.take_append_drop]
    have hzl':=hz.len
    have hsort:=vKg gl (l.map zZ9) zs (cs.drop (l.length*4)) hz.1 (by rintro rfl; simp at hzl; omega) (by omega) g cap (st.put g (some (.box cs))) (by rw[ISt.put_same,← hcs])
    rw[hzl] at hsort
    simp(config:=zzC)only[go_sem,f4,f10,f11,yQt (nLi _)]
    refine hsort.mono ?_
    rintro _ _ ⟨rfl,m,ys,hm,hperm,hpw,hym,rfl⟩
    have hml:m.length=l.length:=by rw[hperm.length_eq,List.length_map]
    have hcom:=wXl gl m ys (cs.drop (l.length*4)) hm (by omega) g cap (by omega) ((st.put g (some (.box cs))).put g (some (.box (ys.flatMap IV.cells++cs.drop (l.length*4))))) (ISt.put_same ..)
    rw[hml] at hcom
    simp(config:=zzC)only[go_sem,f4]
    refine hcom.mono ?_
    rintro _ _ ⟨k,cs2,zs2,rfl,rfl,hl2,ht2,hz2,hzl2,hk2,hzm2⟩
    rw[yQ8,yQ8]
    simp(config:=zzC)only[go_sem]
    have hyl:(ys.flatMap IV.cells).length=l.length*4:=by rw[yQq _ fun y hy=>wZb (yJu hm y hy),hm.len,hml]
    rw[lLa,hyl,List.length_drop] at hl2
    exact yQ0 (.inr (.inr ⟨hall,g,cap,k,cs2,zs2,hg,by omega,by omega,ht2,by
     have h1:=wJ9 hperm hpw (by rw[List.length_map]; exact hk0)
     rw[zXh (wZo _ m hperm hpw),← hz2.len,hzl2] at h1
     exact h1,by rw[zXh (wZo _ m hperm hpw)]; exact⟨hz2,wKf fun z hz'=>xV9 hz.2 (hym z (hzm2 z hz'))⟩,hzl2,hk2,rfl,rfl⟩))
 ·rintro y st' (⟨ha,rfl,rfl⟩ | ⟨rfl,⟨t,rfl,ht⟩,rfl⟩ | ⟨ha,g,cap,k,cs,zs,hg,hc1,hc2,hct,hk0,hz,hzl,hkl,rfl,rfl⟩)
  ·have hn:yZt l=([],2):=by unfold yZt; rw[ha]; rfl
   exact .inl ⟨⟨_,_,by rw[hn]; rfl,.inl rfl,.inl rfl,by rw[hn]; exact IsFmsD.nil⟩,rfl⟩
  ·have hn:yZt []=([],0):=by unfold yZt; simp only[List.all_nil,if_true,List.map_nil,xJt]
   exact .inl ⟨⟨_,_,by rw[hn]; rfl,.inl ht,.inl ht,by rw[hn]; exact IsFmsD.nil⟩,rfl⟩
  ·have hn:yZt l=(setF (l.map zZ9),0):=by unfold yZt; rw[ha]; rfl
   exact .inr ⟨g,k,cap,cs,4,zs,_,hg,rfl,rfl,hzl,by omega,hc1,hc2,hct,fun z hz'=>wZb (yJu hz.1 z hz'),⟨_,_,by rw[hn]; rfl,.inr rfl,.inr ⟨by rw[hn]; simp only; rw[← hz.len,hzl]; exact hk0,rfl,g,rfl⟩,by rw[hn]; exact hz⟩,rfl⟩
noncomputable def SetS (s:Sq):Sq×Nat :=
 if (yZt s.l).2≠0 then (⟨[],[]⟩,(yZt s.l).2) else if (yZt s.r).2≠0 then (⟨[],[]⟩,(yZt s.r).2) else (⟨(yZt s.l).1,(yZt s.r).1⟩,0)
theorem uWi (G:Gl gl)(T:Gt gl)(s:Sq)(x:IV)(hx:IsSq s x)(hs:yYj s)(hl:s.l.length≤1099511627776∧s.r.length≤1099511627776)(st:ISt) :
  ICall prog gl 28 [x] st (fun r st'=>(∃ y,r=.tup [y,.raw (.int .i64 (SetS s).2)]∧IsSqD (SetS s).1 y)∧st'=st):=by
 obtain⟨t1,x1,t2,x2,rfl,e1,i1,e2,i2⟩:=hx
 have h1:=fun st=>zGp gl G T s.l t1 x1 e1 i1 hs.1 hl.1 st
 have h2:=fun st=>zGp gl G T s.r t2 x2 e2 i2 hs.2 hl.2 st
 unfold SetS
 refine iI func28 rfl rfl (by kernel_rfl) ?_
 simp(config:=zzC)only[go_sem,fits]
 refine (h1 _).mono ?_
 rintro _ st ⟨⟨t3,y1,rfl,e3,a3,j1⟩,rfl⟩
 by_cases q1:(yZt s.l).2=0
 ·rw[if_neg (by omega)]
  simp(config:=zzC)only[go_sem,q1,show decide (((0:Nat):Int)=0)=true from rfl,fits]
  refine (h2 _).mono ?_
  rintro _ st ⟨⟨t4,y2,rfl,e4,a4,j2⟩,rfl⟩
  by_cases q2:(yZt s.r).2=0
  ·rw[if_neg (by omega)]
   simp(config:=zzC)only[go_sem,q2,show decide (((0:Nat):Int)=0)=true from rfl,fits]
   exact yQ0 ⟨⟨_,rfl,_,_,_,_,rfl,e3,a3,j1,e4,a4,j2⟩,rfl⟩
  ·rw[if_pos q2]
   simp(config:=zzC)only[go_sem,show decide ((((yZt s.r).2:Nat):Int)=0)=false from dEf (by omega),fits]
   exact yQ0 ⟨⟨_,rfl,_,_,_,_,rfl,.inl rfl,.inl rfl,IsFmsD.nil,.inl rfl,.inl rfl,IsFmsD.nil⟩,rfl⟩
 ·rw[if_pos q1]
  simp(config:=zzC)only[go_sem,show decide ((((yZt s.l).2:Nat):Int)=0)=false from dEf (by omega),fits]
  exact yQ0 ⟨⟨_,rfl,_,_,_,_,rfl,.inl rfl,.inl rfl,IsFmsD.nil,.inl rfl,.inl rfl,IsFmsD.nil⟩,rfl⟩
theorem uWj (G:Gl gl)(T:Gt gl)(s:Sq)(x:IV)(hx:IsSq s x)(hs:yYj s)(hl:s.l.length≤1099511627776∧s.r.length≤1099511627776)(st:ISt) :
  ICall prog gl 28 [x] st (fun r st'=>(∃ y,r=.tup [y,.raw (.int .i64 (SetS s).2)]∧IsSq (SetS s).1 y)∧st'=st) :=
 (uWi gl G T s x hx hs hl st).mono fun r st' ⟨⟨y,h1,h2⟩,h3⟩=>⟨⟨y,h1,h2.w⟩,h3⟩
theorem zYk:∀ {l:List Fm}{c:Nat},(∀ f∈l,f.size≤c)→yQ7 l≤l.length*c
 | [],c,_=>by simp[yQ7]
 | a::l,c,h=>by
  have h1:=h a (by simp)
  have h2:=zYk (l:=l) fun f hf=>h f (by simp[hf])
  rw[List.length_cons,Nat.succ_mul]
  simp only[yQ7]; omega
def yXq (ca:Nat)(s m:Sq):Sq:=⟨s.l++m.l,if ca≠2∨m.r.length=0 then s.r++m.r else m.r⟩
def okI (ca:Nat)(s m:Sq):Bool:=decide ((yXq ca s m).l.length≤64)&&decide ((yXq ca s m).r.length≤64)
noncomputable def xJ1 (ca:Nat)(s:Sq)(rule:Nat)(main:Fm)(term:Tm)(name:ByteArray):List Sq×Nat :=
 if !yKe ca then ([],2) else if (yZv ca s rule main term name).2≠0 then ([],(yZv ca s rule main term name).2)
 else if (yZv ca s rule main term name).1.all (okI ca s) then ((yZv ca s rule main term name).1.map (yXq ca s),0) else ([],5)
theorem wGh {c:Prop} [Decidable c]{A B:List Sq}(h1:A.length≤2)(h2:B.length≤2):(if c then A else B).length≤2:=by split<;>assumption
theorem xVl (ca rule:Nat)(main a b:Fm):(addS ca rule main a b).length≤2:=by
 unfold addS
 repeat' apply wGh
 all_goals first | exact Nat.zero_le _ | exact Nat.le_refl 2 | exact Nat.le_succ 1
theorem wX3 {ca rule:Nat}{r:Rw}{main:Fm}{term:Tm}{name:ByteArray}{ad:List Sq}(h:yXw ca rule r main term name=(ad,0)):ad.length≤2:=by
 unfold yXw at h
 by_cases hc:(!fmB ca main || (decide (r.op≠0)&&decide (main.op≠r.op)))=true
 ·rw[if_pos hc] at h
  cases (Prod.mk.inj h).2
 ·rw[if_neg hc] at h
  by_cases h0:r.asks=0
  ·simp only[if_pos h0] at h
   rw[← (Prod.mk.inj h).1]
   exact xVl ..
  ·simp only[if_neg h0] at h
   generalize (if r.asks=2 then Tm.mk true name [] else term)=t at h
   by_cases h1:(!t.ok)=true
   ·simp only[if_pos h1] at h
    cases (Prod.mk.inj h).2
   ·simp only[if_neg h1] at h
    by_cases h2:(yZg ((main.subs[0]?).getD fm0) [(main.nm,t)]).2≠0
    ·simp only[if_pos h2] at h
     cases (Prod.mk.inj h).2
    ·simp only[if_neg h2] at h
     rw[← (Prod.mk.inj h).1]
     exact xVl ..
theorem xU9 {st st' S0:ISt}{tg:Tag}{n s:Nat}(h:own st tg n s S0)(hs:subSt st st'):own st' tg n s S0:=h.mono fun g hg _=>hs g _ hg
theorem vKq (G:Gl gl)(T:Gt gl)(ca:Nat)(s:Sq)(x:IV)(hx:IsSq s x)(hs:yYj s)(rule:Nat)(main:Fm)(y:IV)(hy:IsFm main y)(hm:main.size≤1000000)(term:Tm)(z:IV)(hz:IsTm term z)(ht:term.size≤1000000)(name:ByteArray)(st:ISt) :
  ICall prog gl 45 [.raw (.int .u8 ca),x,.raw (.int .u8 rule),y,z,.raw (.string name)] st (AdRD st (xJ1 ca s rule main term name)):=by
 have hstep:=fun st=>wVq gl G T ca s x hx hs rule main y hy hm term z hz ht name st
 have hkn:=fun st=>xX2 gl ca st
 obtain⟨t1,x1,t2,x2,rfl,e1,i1,e2,i2⟩:=hx
 obtain⟨o3,n3,t3,x3,t4,x4,rfl⟩:=hy.agg
 obtain⟨v,un,tz,xz,rfl⟩:=wJ0 hz
 unfold xJ1
 refine ICall.intro (c:=cf prog gl [] [(10,[0,1,3,4,6,7,9,2,5,8,10]),(12,[0,1,3,4,2,5,6,7])]) func45 rfl (by show _≤82; simp) (by kernel_rfl) ?_
 simp(config:=zzC)only[go_sem,fits]
 refine (hkn _).mono ?_
 rintro _ st ⟨rfl,rfl⟩
 cases hk:yKe ca
 ·simp(config:=zzC)only[go_sem,fits]
  exact yQ0 ⟨_,_,rfl,.inl rfl,.inl rfl,rfl,rfl⟩
 simp(config:=zzC)only[go_sem,fits]
 refine (hstep _).mono ?_
 rintro _ st ⟨tg,ys,rfl,he,hap,hysD,rfl⟩
 have hys:=hysD.w
 generalize hq:yZv ca s rule main term name=q at hysD hys ⊢
 obtain⟨ad,er⟩:=q
 simp only at hysD hys ⊢
 by_cases h0:er=0
 ·subst h0
  obtain⟨hv,r,hr⟩:=xGg hq
  have hfit:=xQd hr
  have hal2:=wX3 hr
  have hvl:s.l.length≤64∧s.r.length≤64:=by
   unfold yXe at hv
   simp only[bAt,dTe] at hv
   exact⟨hv.1.1.1.1.2,hv.1.1.1.2⟩
  have hF1:=fun st=>xXe gl s.l t1 x1 e1 i1 (by have:=zYk hs.1; omega) st
  have hF2:=fun st=>xXe gl s.r t2 x2 e2 i2 (by have:=zYk hs.2; omega) st
  simp only[Bool.not_true,bFt,if_false,ne_eq,nTf]
  simp(config:=zzC)only[go_sem,show decide (((0:Nat):Int)=0)=true from rfl,hys.len,fits]
  intro hal
  refine LoopC.ctr ad.length (fun k fr st' ds=>(ad.take k).all (okI ca s)=true∧(∃ tg' zs,fr 16=.iv (.sl tg' zs)∧IsSqsD ((ad.take k).map (yXq ca s)) zs∧appT k tg'∧own st' tg' k 2 st∧subSt st st')∧fr 0=.iv (.raw (.int .u8 ca))∧fr 7=.box [.sl t1 x1,.sl t2 x2] ∧
   fr 36=.iv (.sl tg ys)∧fr 37=.iv (.raw (.int .i64 ad.length))∧fr 38=.iv (.raw (.int .i64 k))∧ds=[]) ?_ ?_ ?_
  ·simp(config:=zzC)only[go_sem]
   exact⟨⟨_,_,rfl,rfl,.inl rfl,.inl ⟨rfl,rfl⟩,subSt.refl _⟩,rfl⟩
  ·rintro k fr st1 _ hlt ⟨hall,⟨tgo,zs,f16,hzs,hapo,hown,hsub⟩,f0,f7,f36,f37,f38,rfl⟩
   obtain⟨a,ha⟩:=yQ5 hlt
   obtain⟨w,hkw,hw⟩:=hys.get ha
   have hza:=hfit a (lMg ha)
   obtain⟨_,e1',hwD⟩:=hysD.mem hkw
   obtain rfl:=Option.some.inj (ha.symm.trans e1')
   obtain⟨t5,x5,t6,x6,rfl,k5,a5,j5D,k6,a6,j6D⟩:=hwD
   have j5:=j5D.1
   have j6:=j6D.1
   simp(config:=zzC)only[go_sem,f0,f7,f16,f36,f37,f38,lt_i hlt,yQ1 he,iNn,hkw,fits]
   refine (hF1 _).mono ?_
   rintro _ st2 ⟨t7,y7,rfl,k7,a7,hy7,hown7,hsub7⟩
   simp(config:=zzC)only[go_sem,f0,f7,f16,f36,f37,f38,fits]
   refine yG7 hown7 hy7.len j5.len hsub7 rfl (List.all_eq_true.2 (yJu j5)) (by show _*72≤_; have:=hza.2.1; omega) (by have:=hza.2.1; omega) fun t8 st3 hown8 hsub8 _ a8=>?_
   obtain⟨L,hL⟩:∃ L,L=y7++x5:=⟨_,rfl⟩
   have hLD:IsFmsD (yXq ca s a).l L:=hL▸hy7.append j5D
   have hLs:=hLD.1
   have aL:appT (yXq ca s a).l.length t8:=(a8 a7.1).to (by show (s.l++a.l).length=_; rw[lLa])
   have tL:=hown8.es
   rw[← hL]
   by_cases hca:ca=2
   ·have dca:decide ((ca:Int)=2)=true:=dEt (by omega)
    by_cases hr0:a.r.length=0
    ·simp(config:=zzC)only[go_sem,f0,f7,f16,f36,f37,f38,fits,dca,j6.len,hr0,show decide (((0:Nat):Int)=0)=true from rfl]
     refine (hF2 _).mono ?_
     rintro _ st4 ⟨t9,y9,rfl,k9,a9,hy9,hown9,hsub9⟩
     simp(config:=zzC)only[go_sem,f0,f7,f16,f36,f37,f38,fits]
     refine yG7 hown9 hy9.len j6.len hsub9 rfl (List.all_eq_true.2 (yJu j6)) (by show _*72≤_; have:=hza.2.2; omega) (by have:=hza.2.2; omega) fun t10 st5 hown10 hsub10 _ a10=>?_
     obtain⟨R,hR⟩:∃ R,R=y9++x6:=⟨_,rfl⟩
     have hRD:IsFmsD (yXq ca s a).r R:=by rw[hR]; unfold yXq; rw[if_pos (by omega)]; exact hy9.append j6D
     have hRs:=hRD.1
     have aR:appT (yXq ca s a).r.length t10:=(a10 a9.1).to (by unfold yXq; rw[if_pos (by omega),lLa])
     rw[← hR]
     have hown':=xU9 hown (hsub8.trans hsub10)
     have hallA:∀ (h:okI ca s a=false),ad.all (okI ca s)=false:=fun h=>List.all_eq_false.2 ⟨a,lMg ha,by rw[h]; simp⟩
     by_cases hl64:(yXq ca s a).l.length≤64
     ·have dl:decide ((64:Int)<(((yXq ca s a).l.length:Nat):Int))=false:=dEf (by omega)
      by_cases hr64:(yXq ca s a).r.length≤64
      ·have dr:decide ((64:Int)<(((yXq ca s a).r.length:Nat):Int))=false:=dEf (by omega)
       have hok:okI ca s a=true:=by unfold okI; rw[dEt hl64,dEt hr64]; rfl
       simp(config:=zzC)only[go_sem,f0,f7,f16,f36,f37,f38,fits,hLs.len,hRs.len,dl,dr,yQ2]
       intros
       refine yXl hown' (by rw[hzs.w.len,List.length_map,List.length_take]; omega) (hsub.trans (hsub8.trans hsub10)) rfl (by simp[fits,IV.one]) (by simp only; omega) (by omega) fun tg2 st6 hown2 hsub4 _ hap2=>?_
       simp(config:=zzC)only[go_sem,f0,f7,f16,f36,f37,f38,fits,yQf hlt (show ad.length≤281474976710656 by omega)]
       refine⟨by rw[yQ6 ha,List.all_append,hall]; simp[hok],tg2,_,rfl,?_,hap2,hown2,hsub4⟩
       rw[yQ6 ha,List.map_append]
       exact hzs.append ⟨_,_,rfl,⟨_,_,_,_,rfl,tL,aL,hLD,hown10.es,aR,hRD⟩,rfl⟩
      ·have dr:decide ((64:Int)<(((yXq ca s a).r.length:Nat):Int))=true:=dEt (by omega)
       simp(config:=zzC)only[go_sem,f0,f7,f16,f36,f37,f38,fits,hLs.len,hRs.len,dl,dr]
       intros
       refine yQb (hsub.trans (hsub8.trans hsub10)) ?_
       rw[hallA (by unfold okI; rw[dEf hr64,Bool.and_false])]
       exact⟨_,_,rfl,.inl rfl,.inl rfl,rfl,rfl⟩
     ·have dl:decide ((64:Int)<(((yXq ca s a).l.length:Nat):Int))=true:=dEt (by omega)
      simp(config:=zzC)only[go_sem,f0,f7,f16,f36,f37,f38,fits,hLs.len,hRs.len,dl]
      intros
      refine yQb (hsub.trans (hsub8.trans hsub10)) ?_
      rw[hallA (by unfold okI; rw[dEf hl64,Bool.false_and])]
      exact⟨_,_,rfl,.inl rfl,.inl rfl,rfl,rfl⟩
    ·simp(config:=zzC)only[go_sem,f0,f7,f16,f36,f37,f38,fits,dca,j6.len,show decide (((a.r.length:Nat):Int)=0)=false from dEf (by omega),hLs.len]
     intros
     have hRD:IsFmsD (yXq ca s a).r x6:=by unfold yXq; rw[if_neg (by omega)]; exact j6D
     have hRs:=hRD.1
     have aR:appT (yXq ca s a).r.length t6:=a6.to (by unfold yXq; rw[if_neg (by omega)])
     have hown':=xU9 hown hsub8
     have hallA:∀ (h:okI ca s a=false),ad.all (okI ca s)=false:=fun h=>List.all_eq_false.2 ⟨a,lMg ha,by rw[h]; simp⟩
     by_cases hl64:(yXq ca s a).l.length≤64
     ·have dl:decide ((64:Int)<(((yXq ca s a).l.length:Nat):Int))=false:=dEf (by omega)
      by_cases hr64:(yXq ca s a).r.length≤64
      ·have dr:decide ((64:Int)<(((yXq ca s a).r.length:Nat):Int))=false:=dEf (by omega)
       have hok:okI ca s a=true:=by unfold okI; rw[dEt hl64,dEt hr64]; rfl
       simp(config:=zzC)only[go_sem,f0,f7,f16,f36,f37,f38,fits,hLs.len,hRs.len,dl,dr,yQ2]
       intros
       refine yXl hown' (by rw[hzs.w.len,List.length_map,List.length_take]; omega) (hsub.trans hsub8) rfl (by simp[fits,IV.one]) (by simp only; omega) (by omega) fun tg2 st6 hown2 hsub4 _ hap2=>?_
       simp(config:=zzC)only[go_sem,f0,f7,f16,f36,f37,f38,fits,yQf hlt (show ad.length≤281474976710656 by omega)]
       refine⟨by rw[yQ6 ha,List.all_append,hall]; simp[hok],tg2,_,rfl,?_,hap2,hown2,hsub4⟩
       rw[yQ6 ha,List.map_append]
       exact hzs.append ⟨_,_,rfl,⟨_,_,_,_,rfl,tL,aL,hLD,k6,aR,hRD⟩,rfl⟩
      ·have dr:decide ((64:Int)<(((yXq ca s a).r.length:Nat):Int))=true:=dEt (by omega)
       simp(config:=zzC)only[go_sem,f0,f7,f16,f36,f37,f38,fits,hLs.len,hRs.len,dl,dr]
       intros
       refine yQb (hsub.trans hsub8) ?_
       rw[hallA (by unfold okI; rw[dEf hr64,Bool.and_false])]
       exact⟨_,_,rfl,.inl rfl,.inl rfl,rfl,rfl⟩
     ·have dl:decide ((64:Int)<(((yXq ca s a).l.length:Nat):Int))=true:=dEt (by omega)
      simp(config:=zzC)only[go_sem,f0,f7,f16,f36,f37,f38,fits,hLs.len,hRs.len,dl]
      intros
      refine yQb (hsub.trans hsub8) ?_
      rw[hallA (by unfold okI; rw[dEf hl64,Bool.false_and])]
      exact⟨_,_,rfl,.inl rfl,.inl rfl,rfl,rfl⟩
   ·have dca:decide ((ca:Int)=2)=false:=dEf (by omega)
    simp(config:=zzC)only[go_sem,f0,f7,f16,f36,f37,f38,fits,dca]
    refine (hF2 _).mono ?_
    rintro _ st4 ⟨t9,y9,rfl,k9,a9,hy9,hown9,hsub9⟩
    simp(config:=zzC)only[go_sem,f0,f7,f16,f36,f37,f38,fits]
    refine yG7 hown9 hy9.len j6.len hsub9 rfl (List.all_eq_true.2 (yJu j6)) (by show _*72≤_; have:=hza.2.2; omega) (by have:=hza.2.2; omega) fun t10 st5 hown10 hsub10 _ a10=>?_
    obtain⟨R,hR⟩:∃ R,R=y9++x6:=⟨_,rfl⟩
    have hRD:IsFmsD (yXq ca s a).r R:=by rw[hR]; unfold yXq; rw[if_pos (by omega)]; exact hy9.append j6D
    have hRs:=hRD.1
    have aR:appT (yXq ca s a).r.length t10:=(a10 a9.1).to (by unfold yXq; rw[if_pos (by omega),lLa])
    rw[← hR]
    have hown':=xU9 hown (hsub8.trans hsub10)
    have hallA:∀ (h:okI ca s a=false),ad.all (okI ca s)=false:=fun h=>List.all_eq_false.2 ⟨a,lMg ha,by rw[h]; simp⟩
    by_cases hl64:(yXq ca s a).l.length≤64
    ·have dl:decide ((64:Int)<(((yXq ca s a).l.length:Nat):Int))=false:=dEf (by omega)
     by_cases hr64:(yXq ca s a).r.length≤64
     ·have dr:decide ((64:Int)<(((yXq ca s a).r.length:Nat):Int))=false:=dEf (by omega)
      have hok:okI ca s a=true:=by unfold okI; rw[dEt hl64,dEt hr64]; rfl
      simp(config:=zzC)only[go_sem,f0,f7,f16,f36,f37,f38,fits,hLs.len,hRs.len,dl,dr,yQ2]
      intros
      refine yXl hown' (by rw[hzs.w.len,List.length_map,List.length_take]; omega) (hsub.trans (hsub8.trans hsub10)) rfl (by simp[fits,IV.one]) (by simp only; omega) (by omega) fun tg2 st6 hown2 hsub4 _ hap2=>?_
      simp(config:=zzC)only[go_sem,f0,f7,f16,f36,f37,f38,fits,yQf hlt (show ad.length≤281474976710656 by omega)]
      refine⟨by rw[yQ6 ha,List.all_append,hall]; simp[hok],tg2,_,rfl,?_,hap2,hown2,hsub4⟩
      rw[yQ6 ha,List.map_append]
      exact hzs.append ⟨_,_,rfl,⟨_,_,_,_,rfl,tL,aL,hLD,hown10.es,aR,hRD⟩,rfl⟩
     ·have dr:decide ((64:Int)<(((yXq ca s a).r.length:Nat):Int))=true:=dEt (by omega)
      simp(config:=zzC)only[go_sem,f0,f7,f16,f36,f37,f38,fits,hLs.len,hRs.len,dl,dr]
      intros
      refine yQb (hsub.trans (hsub8.trans hsub10)) ?_
      rw[hallA (by unfold okI; rw[dEf hr64,Bool.and_false])]
      exact⟨_,_,rfl,.inl rfl,.inl rfl,rfl,rfl⟩
    ·have dl:decide ((64:Int)<(((yXq ca s a).l.length:Nat):Int))=true:=dEt (by omega)
     simp(config:=zzC)only[go_sem,f0,f7,f16,f36,f37,f38,fits,hLs.len,hRs.len,dl]
     intros
     refine yQb (hsub.trans (hsub8.trans hsub10)) ?_
     rw[hallA (by unfold okI; rw[dEf hl64,Bool.false_and])]
     exact⟨_,_,rfl,.inl rfl,.inl rfl,rfl,rfl⟩
  ·rintro fr st1 _ ⟨hall,⟨tgo,zs,f16,hzs,hapo,hown,hsub⟩,f0,f7,f36,f37,f38,rfl⟩
   rw[lTl] at hall hzs
   simp(config:=zzC)only[go_sem,f16,f37,f38,yQt (nLi _),fits]
   rw[if_pos hall]
   exact yQb hsub ⟨_,_,rfl,hown.es,hapo.to (by rw[List.length_map]),hzs,rfl⟩
 ·have d0:decide ((er:Int)=0)=false:=dEf (by omega)
  simp(config:=zzC)only[go_sem,d0,fits]
  rw[if_pos h0]
  exact yQ0 ⟨_,_,rfl,.inl rfl,.inl rfl,rfl,rfl⟩
theorem wWu (G:Gl gl)(T:Gt gl)(ca:Nat)(s:Sq)(x:IV)(hx:IsSq s x)(hs:yYj s)(rule:Nat)(main:Fm)(y:IV)(hy:IsFm main y)(hm:main.size≤1000000)(term:Tm)(z:IV)(hz:IsTm term z)(ht:term.size≤1000000)(name:ByteArray)(st:ISt) :
  ICall prog gl 45 [.raw (.int .u8 ca),x,.raw (.int .u8 rule),y,z,.raw (.string name)] st (AdR st (xJ1 ca s rule main term name)) :=
 (vKq gl G T ca s x hx hs rule main y hy hm term z hz ht name st).mono AdRD.w
theorem q_p (n:ByteArray)(t:Tag)(xs:List IV)(st:ISt):ICall prog gl 16 [.raw (.string n),.sl t xs] st (fun r st'=>r=.agg [.raw (.int .u8 1),.raw (.string n),.sl t xs,.sl ⟨true,.nil,0⟩ []]∧st'=st):=by
 refine iI func16 rfl rfl (by kernel_rfl) ?_
 simp(config:=zzC)only[go_sem,fits]
 exact yQ0 ⟨rfl,rfl⟩
theorem q_no (o:Int)(n:ByteArray)(t:Tag)(x:List IV)(t':Tag)(x':List IV)(st:ISt):ICall prog gl 17 [.agg [.raw (.int .u8 o),.raw (.string n),.sl t x,.sl t' x']] st
  (fun r st'=>r=.agg [.raw (.int .u8 3),.raw (.string ⟨#[]⟩),.sl ⟨true,.nil,0⟩ [],.sl ⟨true,.full,4⟩ [.agg [.raw (.int .u8 o),.raw (.string n),.sl t x,.sl t' x']]]∧st'=st):=by
 refine iI func17 rfl rfl (by kernel_rfl) ?_
 simp(config:=zzC)only[go_sem,fits,yQ2]
 exact yQ0 ⟨rfl,rfl⟩
theorem xZe (op o:Int)(n:ByteArray)(t:Tag)(x:List IV)(t':Tag)(x':List IV)(o2:Int)(n2:ByteArray)(t2:Tag)(x2:List IV)(t2':Tag)(x2':List IV)(st:ISt) :
  ICall prog gl 18 [.raw (.int .u8 op),.agg [.raw (.int .u8 o),.raw (.string n),.sl t x,.sl t' x'],.agg [.raw (.int .u8 o2),.raw (.string n2),.sl t2 x2,.sl t2' x2']] st
  (fun r st'=>r=.agg [.raw (.int .u8 op),.raw (.string ⟨#[]⟩),.sl ⟨true,.nil,0⟩ [],.sl ⟨true,.full,4⟩ [.agg [.raw (.int .u8 o),.raw (.string n),.sl t x,.sl t' x'],.agg [.raw (.int .u8 o2),.raw (.string n2),.sl t2 x2,.sl t2' x2']]]∧st'=st):=by
 refine iI func18 rfl rfl (by kernel_rfl) ?_
 simp(config:=zzC)only[go_sem,fits,yQ9]
 exact yQ0 ⟨rfl,rfl⟩
theorem q_fs (t:Tag)(xs:List IV)(st:ISt):ICall prog gl 9 [.sl t xs] st (fun r st'=>r=.sl t xs∧st'=st):=by
 refine iI func9 rfl rfl (by kernel_rfl) ?_
 simp(config:=zzC)only[go_sem,fits]
 exact yQ0 ⟨rfl,rfl⟩
theorem q_sq (t:Tag)(xs:List IV)(t':Tag)(ys:List IV)(st:ISt):ICall prog gl 40 [.sl t xs,.sl t' ys] st (fun r st'=>r=.agg [.sl t xs,.sl t' ys]∧st'=st):=by
 refine iI func40 rfl rfl (by kernel_rfl) ?_
 simp(config:=zzC)only[go_sem,fits]
 exact yQ0 ⟨rfl,rfl⟩
theorem q_v (n:ByteArray)(st:ISt):ICall prog gl 44 [.raw (.string n)] st (fun r st'=>r=.agg [.raw (.bool true),.raw (.string n),.sl ⟨true,.nil,0⟩ []]∧st'=st):=by
 refine iI func44 rfl rfl (by kernel_rfl) ?_
 simp(config:=zzC)only[go_sem,fits]
 exact yQ0 ⟨rfl,rfl⟩
mutual
def wTm:Tm→Nat
 | .mk _ n us=>1+n.size / 20+wTms us
def wTms:List Tm→Nat
 | []=>0
 | a::l=>wTm a+wTms l
end
mutual
def wFm:Fm→Nat
 | .mk _ n us sub=>1+n.size / 20+wTms us+wFms sub
def wFms:List Fm→Nat
 | []=>0
 | a::l=>wFm a+wFms l
end
theorem yGn:∀ l m:List Tm,wTms (l++m)=wTms l+wTms m
 | [],m=>by simp[wTms]
 | a::l,m=>by simp only[List.cons_append,wTms,yGn l m]; omega
theorem xYv {l:List Tm}{k:Nat}{a:Tm}(h:l[k]?=some a):wTms (l.take (k+1))=wTms (l.take k)+wTm a:=by
 rw[yQ6 h,yGn]; simp[wTms]
theorem xYw (l:List Tm)(k:Nat):wTms (l.take k)≤wTms l:=by
 conv=>rhs; rw[← List.take_append_drop k l]
 rw[yGn]; omega
theorem yGo:∀ l m:List Fm,wFms (l++m)=wFms l+wFms m
 | [],m=>by simp[wFms]
 | a::l,m=>by simp only[List.cons_append,wFms,yGo l m]; omega
theorem xYx {l:List Fm}{k:Nat}{a:Fm}(h:l[k]?=some a):wFms (l.take (k+1))=wFms (l.take k)+wFm a:=by
 rw[yQ6 h,yGo]; simp[wFms]
theorem xYy (l:List Fm)(k:Nat):wFms (l.take k)≤wFms l:=by
 conv=>rhs; rw[← List.take_append_drop k l]
 rw[yGo]; omega
def Sum (w:Nat)(lim:Int)(r:IV):Prop:=∃ n:Nat,r=.raw (.int .i64 n)∧n≤w∧((n:Int)≤lim→n=w)
def tC (us:List Tm):Prop:=∀ (t:Tag) (xs:List IV) (_:okEs t 3) (_:IsTms us xs) (lim:Int) (_:-1≤lim∧lim≤1000) (_:wTms us≤1099511627776) (st:ISt),
 ICall prog gl 26 [.sl t xs,.raw (.int .i64 lim)] st (fun r st'=>Sum (wTms us) lim r∧st'=st)
theorem xZd (us:List Tm)(IH:∀ v n l,Tm.mk v n l∈us→tC gl l):tC gl us:=by
 intro t xs ht hx lim hlim hw st
 refine iI func26 rfl rfl (by kernel_rfl) ?_
 simp(config:=zzC)only[go_sem]
 refine LoopC.ctr us.length (fun k fr st' ds=>(∃ n:Nat,fr 5=.iv (.raw (.int .i64 n))∧n≤wTms (us.take k)∧((n:Int)≤lim→n=wTms (us.take k)))∧fr 0=.iv (.sl t xs)∧fr 1=.iv (.raw (.int .i64 lim))∧fr 6=.iv (.raw (.int .i64 k))∧st'=st∧ds=[]) ?_ ?_ ?_
 ·simp(config:=zzC)only[go_sem]
  exact⟨⟨0,rfl,Nat.le_refl _,fun _=>rfl⟩,rfl⟩
 ·rintro k fr st1 _ hlt ⟨⟨n,f5,hn1,hn2⟩,f0,f1,f6,rfl,rfl⟩
  obtain⟨a,ha⟩:=yQ5 hlt
  obtain⟨x,hkx,hxa⟩:=hx.get ha
  obtain⟨v2,n2,l2⟩:=a
  obtain⟨tx,cx,rfl,htx,hcx⟩:=hxa.mk
  have hwt:=xYv ha
  have hwl:=xYw us (k+1)
  have hwk:=xYw us k
  simp only[wTm] at hwt
  by_cases hle:(n:Int)≤lim
  ·have hnk:=hn2 hle
   have hcall:=fun st=>IH _ _ _ (lMg ha) tx cx htx hcx (lim - n - 1) ⟨by omega,by omega⟩ (by omega) st
   have hq:IntKind.i64.wrap (((n2.size:Nat):Int).tdiv 20)=((n2.size / 20:Nat):Int):=by
    have:((n2.size:Nat):Int).tdiv 20=((n2.size / 20:Nat):Int):=rfl
    rw[this,w64 (by omega) (by omega)]
   have hz:¬ ((20:Int)=0):=by decide
   generalize n2.size / 20=q at hq hwt
   have w1:IntKind.i64.wrap (1+((q:Nat):Int))=((1+q:Nat):Int):=by rw[w64]<;>omega
   have w2:IntKind.i64.wrap (IntKind.i64.wrap (lim - (n:Int)) - 1)=lim - n - 1:=by rw[w64 (n:=lim - n) (by omega) (by omega),w64 (by omega) (by omega)]
   simp(config:=zzC)only[go_sem,f0,f1,f5,f6,hx.len,lt_i hlt,dEt hle,yQ1 ht,iNn,hkx,fits,hq,hz,w1,w2]
   intro _
   refine (hcall _).mono ?_
   rintro _ st2 ⟨⟨m,rfl,hm1,hm2⟩,rfl⟩
   have w3:IntKind.i64.wrap (((1+q:Nat):Int)+(m:Int))=((1+q+m:Nat):Int):=by rw[w64]<;>omega
   have w4:IntKind.i64.wrap ((n:Int)+((1+q+m:Nat):Int))=((n+(1+q+m):Nat):Int):=by rw[w64]<;>omega
   simp(config:=zzC)only[go_sem,f0,f1,f5,f6,w3,w4,yQf hlt (show us.length≤281474976710656 by omega)]
   exact⟨n+(1+q+m),rfl,by omega,fun h=>by have:=hm2 (by omega); omega⟩
  ·simp(config:=zzC)only[go_sem,f0,f1,f5,f6,hx.len,lt_i hlt,dEf hle]
   intro _
   exact yQ0 ⟨⟨n,rfl,by omega,fun h=>absurd h hle⟩,rfl⟩
 ·rintro fr st1 _ ⟨⟨n,f5,hn1,hn2⟩,f0,f1,f6,rfl,rfl⟩
  rw[lTl] at hn1 hn2
  simp(config:=zzC)only[go_sem,f0,f5,f6,hx.len,yQt (nLi _)]
  intro _
  exact yQ0 ⟨⟨n,rfl,hn1,hn2⟩,rfl⟩
theorem zV4:∀ (k:Nat)(us:List Tm),SizeOf.sizeOf us<k→tC gl us
 | 0,f,h=>by omega
 | k+1,us,h=>xZd gl us (fun v n l ha=>zV4 k l (by
   have:=lSm ha
   simp at this; omega))
theorem xJy (us:List Tm):tC gl us:=zV4 gl _ us (Nat.lt_succ_self _)
def zC (us:List Fm):Prop:=∀ (t:Tag) (xs:List IV) (_:okEs t 4) (_:IsFms us xs) (lim:Int) (_:-1≤lim∧lim≤1000) (_:wFms us≤1099511627776) (st:ISt),
 ICall prog gl 8 [.sl t xs,.raw (.int .i64 lim)] st (fun r st'=>Sum (wFms us) lim r∧st'=st)
theorem xWf (us:List Fm)(IH:∀ o n l m,Fm.mk o n l m∈us→zC gl m):zC gl us:=by
 intro t xs ht hx lim hlim hw st
 refine ICall.intro (c:=cf prog gl [] [(5,[0,1,2,3,4,5,6,7,8,9,10,11,12,13,14,15,16,19,20,21,22,23,24,25,26,27,17,18,28,29,30,31])]) func8 rfl (by show _≤50; simp) (by kernel_rfl) ?_
 simp(config:=zzC)only[go_sem]
 refine LoopC.ctr us.length (fun k fr st' ds=>(∃ n:Nat,fr 5=.iv (.raw (.int .i64 n))∧n≤wFms (us.take k)∧((n:Int)≤lim→n=wFms (us.take k)))∧fr 0=.iv (.sl t xs)∧fr 1=.iv (.raw (.int .i64 lim))∧fr 6=.iv (.raw (.int .i64 k))∧st'=st∧ds=[]) ?_ ?_ ?_
 ·simp(config:=zzC)only[go_sem]
  exact⟨⟨0,rfl,Nat.le_refl _,fun _=>rfl⟩,rfl⟩
 ·rintro k fr st1 _ hlt ⟨⟨n,f5,hn1,hn2⟩,f0,f1,f6,rfl,rfl⟩
  obtain⟨a,ha⟩:=yQ5 hlt
  obtain⟨x,hkx,hxa⟩:=hx.get ha
  obtain⟨o2,n2,l2,m2⟩:=a
  obtain⟨tx,cx,ty,cy,rfl,_,htx,hcx,hty,hcy⟩:=hxa.mk
  have hwt:=xYx ha
  have hwl:=xYy us (k+1)
  have hwk:=xYy us k
  simp only[wFm] at hwt
  by_cases hle:(n:Int)≤lim
  ·have hnk:=hn2 hle
   have hcall:=fun st=>IH _ _ _ _ (lMg ha) ty cy hty hcy (lim - n - 1) ⟨by omega,by omega⟩ (by omega) st
   have hterm:=fun st=>xJy gl l2 tx cx htx hcx (lim - n) ⟨by omega,by omega⟩ (by omega) st
   have hq:IntKind.i64.wrap (((n2.size:Nat):Int).tdiv 20)=((n2.size / 20:Nat):Int):=by
    have:((n2.size:Nat):Int).tdiv 20=((n2.size / 20:Nat):Int):=rfl
    rw[this,w64 (by omega) (by omega)]
   have hz:¬ ((20:Int)=0):=by decide
   generalize n2.size / 20=q at hq hwt
   have w1:IntKind.i64.wrap (1+((q:Nat):Int))=((1+q:Nat):Int):=by rw[w64]<;>omega
   have w0:IntKind.i64.wrap (lim - (n:Int))=lim - n:=w64 (by omega) (by omega)
   have w2:IntKind.i64.wrap (lim - (n:Int) - 1)=lim - n - 1:=w64 (by omega) (by omega)
   simp(config:=zzC)only[go_sem,f0,f1,f5,f6,hx.len,lt_i hlt,dEt hle,yQ1 ht,iNn,hkx,fits,hq,hz,w1,w0,w2]
   intro _
   refine (hterm _).mono ?_
   rintro _ st2 ⟨⟨m1,rfl,hm1,hm1'⟩,rfl⟩
   have w3:IntKind.i64.wrap (((1+q:Nat):Int)+(m1:Int))=((1+q+m1:Nat):Int):=by rw[w64]<;>omega
   simp(config:=zzC)only[go_sem,f0,f1,f5,f6,w3,w0,w2,fits,yQ1 ht,iNn,hkx,hlt]
   refine (hcall _).mono ?_
   rintro _ st2 ⟨⟨m,rfl,hm,hm'⟩,rfl⟩
   have w4:IntKind.i64.wrap (((1+q+m1:Nat):Int)+(m:Int))=((1+q+m1+m:Nat):Int):=by rw[w64]<;>omega
   have w5:IntKind.i64.wrap ((n:Int)+((1+q+m1+m:Nat):Int))=((n+(1+q+m1+m):Nat):Int):=by rw[w64]<;>omega
   simp(config:=zzC)only[go_sem,f0,f1,f5,f6,w4,w5,yQf hlt (show us.length≤281474976710656 by omega)]
   exact⟨n+(1+q+m1+m),rfl,by omega,fun h=>by have:=hm1' (by omega); have:=hm' (by omega); omega⟩
  ·simp(config:=zzC)only[go_sem,f0,f1,f5,f6,hx.len,lt_i hlt,dEf hle]
   intro _
   exact yQ0 ⟨⟨n,rfl,by omega,fun h=>absurd h hle⟩,rfl⟩
 ·rintro fr st1 _ ⟨⟨n,f5,hn1,hn2⟩,f0,f1,f6,rfl,rfl⟩
  rw[lTl] at hn1 hn2
  simp(config:=zzC)only[go_sem,f0,f5,f6,hx.len,yQt (nLi _)]
  intro _
  exact yQ0 ⟨⟨n,rfl,hn1,hn2⟩,rfl⟩
theorem zGo:∀ (k:Nat)(us:List Fm),SizeOf.sizeOf us<k→zC gl us
 | 0,f,h=>by omega
 | k+1,us,h=>xWf gl us (fun o n l m ha=>zGo k m (by
   have:=lSm ha
   simp at this; omega))
theorem zXo (us:List Fm):zC gl us:=zGo gl _ us (Nat.lt_succ_self _)
theorem uWn (s:Sq)(x:IV)(hx:IsSq s x)(hw:wFms s.l≤1099511627776∧wFms s.r≤1099511627776)(st:ISt):ICall prog gl 7 [x] st (fun r st'=>(r=.raw (.bool (decide (wFms s.l+wFms s.r≤300))))∧st'=st):=by
 obtain⟨t1,x1,t2,x2,rfl,e1,i1,e2,i2⟩:=hx
 have h1:=fun st=>zXo gl s.l t1 x1 e1 i1 300 ⟨by omega,by omega⟩ hw.1 st
 have h2:=fun st=>zXo gl s.r t2 x2 e2 i2 300 ⟨by omega,by omega⟩ hw.2 st
 refine ICall.intro (c:=cf prog gl [] [(1,[0,1,3,4,2,5,6,7,8])]) func7 rfl (by show _≤11; simp) (by kernel_rfl) ?_
 simp(config:=zzC)only[go_sem,fits]
 refine (h1 _).mono ?_
 rintro _ st2 ⟨⟨n,rfl,hn1,hn2⟩,rfl⟩
 simp(config:=zzC)only[go_sem,fits]
 refine (h2 _).mono ?_
 rintro _ st2 ⟨⟨m,rfl,hm1,hm2⟩,rfl⟩
 have w:IntKind.i64.wrap ((n:Int)+(m:Int))=((n+m:Nat):Int):=by rw[w64]<;>omega
 have hd:decide (((n+m:Nat):Int)≤300)=decide (wFms s.l+wFms s.r≤300):=by
  rw[decide_eq_decide]
  constructor
  ·intro h
   have:=hn2 (by omega)
   have:=hm2 (by omega)
   omega
  ·intro h; omega
 simp(config:=zzC)only[go_sem,w,hd]
 exact yQ0 ⟨rfl,rfl⟩
def plI (p:List Nat):List IV:=p.map fun (i:Nat)=>.raw (.int .i64 (i:Int))
theorem yV1 (p:List Nat):(plI p).length=p.length:=by simp[plI]
def emp:ISt:=fun _=>none
def PlV (p:List Nat)(a:IV)(e:ISt):Prop :=
 (∃ t,a=.sl t []∧t.cap=.nil∧p=[]∧e=emp) ∨
 ∃ g cap cs,a=.raw (.slice (some ⟨g,0,none⟩) p.length cap)∧e=emp.put g (some (.box cs))∧p.length≤cap∧cap≤cs.length∧cs.take p.length=plI p
def lkT (l:List (List Nat×Tr))(k:Nat)(zs:List IV)(e:ISt):Prop:=∃ p t a x,l[k]?=some (p,t)∧IsTr t x∧PlV p a e∧zs=[a,.cptr x]
def xXb (b2 b3 b4:Nat):IV:=.fn (.func 117) [] [.raw (.pointer (some ⟨b2,0,none⟩)),.raw (.pointer (some ⟨b3,0,none⟩)),.raw (.pointer (some ⟨b4,0,none⟩))]
def ownF (b2 b3 b4:Nat)(fy a:IV):ISt:=((emp.put b2 (some (.box [fy]))).put b3 (some (.box [a]))).put b4 (some (.box [xXb b2 b3 b4]))
section
variable {b2 b3 b4:Nat}{fy a:IV}
theorem wVz (h3:b2≠b3)(h4:b2≠b4):ownF b2 b3 b4 fy a b2=some (.box [fy]):=by simp only[ownF,ISt.put_apply,if_neg h3,if_neg h4,if_true]
theorem yGi (h4:b3≠b4):ownF b2 b3 b4 fy a b3=some (.box [a]):=by simp only[ownF,ISt.put_apply,if_neg h4,if_true]
theorem zGv:ownF b2 b3 b4 fy a b4=some (.box [xXb b2 b3 b4]):=by simp only[ownF,ISt.put_apply,if_true]
theorem xK2 {c:Nat}(h2:c≠b2)(h3:c≠b3)(h4:c≠b4):ownF b2 b3 b4 fy a c=none:=by simp only[ownF,ISt.put_apply,if_neg h2,if_neg h3,if_neg h4,emp]
theorem zZg {c:Nat}(a':IV):ownF b2 b3 b4 fy a c=none↔ownF b2 b3 b4 fy a' c=none:=by
 simp only[ownF,ISt.put_apply]
 by_cases h4:c=b4
 ·simp[h4]
 ·by_cases h3:c=b3
  ·subst h3; simp only[if_neg h4,if_true,reduceCtorEq]
  ·simp[h4,h3]
end
def xQf (b2 b3 b4:Nat)(fy:IV)(p:List Nat)(s stt:ISt):Prop:=∃ a e,PlV p a e∧disj s e∧disj (join s e) (ownF b2 b3 b4 fy a)∧stt=join (join s e) (ownF b2 b3 b4 fy a)
def FOkL (y:IV)(I:Nat→ISt→Prop)(S:ISt→Prop)(k0:Nat)(l:List (List Nat×Tr)):Prop :=
 ∀ i p t x a e stu,l[i]?=some (p,t)→IsTr t x→PlV p a e→disj stu e→I (k0+i) stu →
  ICallV prog gl y [a,.cptr x] (join stu e) fun r st'=>(r=.raw (.bool true)∧∃ s1,I (k0+i+1) s1∧disj s1 e∧st'=join s1 e)∨(r=.raw (.bool false)∧S st')
section
variable {gl}{y:IV}{I:Nat→ISt→Prop}{S:ISt→Prop}{k0:Nat}
theorem FOkL.left {l m:List (List Nat×Tr)}(h:FOkL gl y I S k0 (l++m)):FOkL gl y I S k0 l:=fun i p t x a e stu hi =>
 h i p t x a e stu (by rw[List.getElem?_append_left (lGs hi).1]; exact hi)
theorem FOkL.right {l m:List (List Nat×Tr)}(h:FOkL gl y I S k0 (l++m)):FOkL gl y I S (k0+l.length) m:=fun i p t x a e stu hi hx hp hd hI=>by
 have:=h (l.length+i) p t x a e stu (by rw[List.getElem?_append_right (by omega)]; simpa using hi) hx hp hd (by rw[← Nat.add_assoc]; exact hI)
 simpa only[Nat.add_assoc] using this
theorem FOkL.tail {z:List Nat×Tr}{m:List (List Nat×Tr)}(h:FOkL gl y I S k0 (z::m)):FOkL gl y I S (k0+1) m:=FOkL.right (l:=[z]) h
end
section
variable {b2 b3 b4:Nat}{fy a a':IV}{p:List Nat}{s:ISt}{g:Nat}
theorem zY0 {c:Nat}(h:c≠b3):ownF b2 b3 b4 fy a c=ownF b2 b3 b4 fy a' c:=by simp only[ownF,ISt.put_apply,if_neg h]
theorem xU4 {cs:List IV}(h34:b3≠b4)(hs:disj s (ownF b2 b3 b4 fy a))(hg1:s g=none)(hg2:ownF b2 b3 b4 fy a g=none)(hp:PlV p a' (emp.put g (some (.box cs)))) :
  xQf b2 b3 b4 fy p s (((join s (ownF b2 b3 b4 fy a)).put g (some (.box cs))).put b3 (some (.box [a']))):=by
 have hg3:ownF b2 b3 b4 fy a' g=none:=(zZg a').1 hg2
 refine⟨a',_,hp,fun b hb=>?_,fun b hb=>?_,?_⟩
 ·rw[ISt.put_apply] at hb
  split at hb
  ·rename_i h; rw[h]; exact hg1
  ·exact absurd rfl hb
 ·have hbg:b≠g:=by rintro rfl; exact hb hg3
  have he:(emp.put g (some (.box cs))) b=none:=by rw[ISt.put_apply,if_neg hbg]; rfl
  rw[yZ0 he]
  exact hs b fun h=>hb ((zZg a').1 h)
 ·funext c
  by_cases h3:c=b3
  ·rw[ISt.put_apply,if_pos h3,h3,yQx (yGi h34)]
  ·rw[ISt.put_apply,if_neg h3,ISt.put_apply]
   by_cases hc:c=g
   ·rw[if_pos hc,hc,yZ0 hg3,yQx (ISt.put_same ..)]
   ·rw[if_neg hc]
    have he:(emp.put g (some (.box cs))) c=none:=by rw[ISt.put_apply,if_neg hc]; rfl
    cases ho:ownF b2 b3 b4 fy a c with
    | some o=>rw[yQx ho,yQx ((zY0 h3).symm.trans ho)]
    | none=>rw[yZ0 ho,yZ0 ((zY0 h3).symm.trans ho),yZ0 he]
theorem wGv {cs:List IV}(hd1:s g=none)(hd2:ownF b2 b3 b4 fy a g=none):(join (join s (emp.put g (some (.box cs)))) (ownF b2 b3 b4 fy a)).put g none=join s (ownF b2 b3 b4 fy a):=by
 funext c
 rw[ISt.put_apply]
 split
 ·rename_i h; rw[h,yZ0 hd2,hd1]
 ·rename_i h
  have he:(emp.put g (some (.box cs))) c=none:=by rw[ISt.put_apply,if_neg h]; rfl
  cases ho:ownF b2 b3 b4 fy a c with
  | some o=>rw[yQx ho,yQx ho]
  | none=>rw[yZ0 ho,yZ0 ho,yZ0 he]
end
theorem PlV.cons {p:List Nat}{k:Nat}{a:IV}{e:ISt}(h:PlV (p++[k]) a e):∃ g cap cs,a=.raw (.slice (some ⟨g,0,none⟩) (p.length+1) cap)∧e=emp.put g (some (.box cs))∧p.length+1≤cap∧cap≤cs.length∧cs.take p.length=plI p:=by
 rcases h with⟨t,_,_,h,_⟩ | ⟨g,cap,cs,rfl,rfl,h1,h2,h3⟩
 ·simp at h
 ·rw[lLa] at h1 h3 ⊢
  refine⟨g,cap,cs,rfl,rfl,h1,h2,?_⟩
  have:=congrArg (List.take p.length) h3
  rw[List.take_take,show min p.length (p.length+[k].length)=p.length by omega] at this
  rw[this]
  unfold plI
  rw[List.map_append,List.take_left' (by simp)]
theorem wVs {b2 b3 b4:Nat}{fy a a':IV}{X:ISt}(h34:b3≠b4):(join X (ownF b2 b3 b4 fy a)).put b3 (some (.box [a']))=join X (ownF b2 b3 b4 fy a'):=by
 funext c
 rw[ISt.put_apply]
 split
 ·rename_i h; rw[h,yQx (yGi h34)]
 ·rename_i h
  cases ho:ownF b2 b3 b4 fy a c with
  | some o=>rw[yQx ho,yQx ((zY0 h).symm.trans ho)]
  | none=>rw[yZ0 ho,yZ0 ((zY0 h).symm.trans ho)]
theorem zV0 {n m:Nat}(h:n+1≤m):yJ5 none (some ((n:Nat):Int)) m=some (0,n):=by
 simp only[yJ5,Option.getD_none,Option.getD_some]
 rw[if_pos ⟨Int.le_refl _,by omega,by omega⟩]; simp
theorem zVq:∀ {l:List Tr}{t:Tr},t∈l→t.height≤yZm l
 | a::l,t,h=>by
  simp only[yZm]
  rcases List.mem_cons.1 h with rfl | h
  ·omega
  ·have:=zVq h; omega
theorem zJ7 (x:Operand):yQl 1 [(0,x)]=true:=rfl
theorem yK8 (p:List Nat):∀ (i:Nat) (l m:List Tr),yZc p i (l++m)=yZc p i l++yZc p (i+l.length) m
 | i,[],m=>by simp[yZc]
 | i,a::l,m=>by
  simp only[List.cons_append,yZc,yK8 p (i+1) l m,List.append_assoc,List.length_cons]
  rw[show i+1+l.length=i+(l.length+1) by omega]
def FF (t:Tr):Prop:=∀ (x:IV) (_:IsTr t x) (b2 b3 b4:Nat) (_:b2≠b3) (_:b2≠b4) (_:b3≠b4) (g:Fn) (fi ca:List IV) (_:fnOk g=true) (_:∀ i,g=.func i→entI prog i=true) (I:Nat→ISt→Prop) (S:ISt→Prop) (k0:Nat) (p:List Nat)
  (_:FOkL gl (.fn g fi ca) I S k0 (t.walk p)) (_:p.length+t.height≤1099511627776) (s stt:ISt) (_:I k0 s) (_:xQf b2 b3 b4 (.fn g fi ca) p s stt),
  ICall prog gl 117 [.cptr x,.raw (.pointer (some ⟨b2,0,none⟩)),.raw (.pointer (some ⟨b3,0,none⟩)),.raw (.pointer (some ⟨b4,0,none⟩))] stt
   (fun r st'=>(r=.raw (.bool true)∧∃ s1,I (k0+(t.walk p).length) s1∧xQf b2 b3 b4 (.fn g fi ca) p s1 st')∨(r=.raw (.bool false)∧∃ s1,S s1∧subSt s1 st'))
theorem wQv (rule:Nat)(sq:Sq)(f:Fm)(u:Tm)(n:ByteArray)(sub:List Tr)(IH:∀ a∈sub,FF gl a):FF gl (.mk rule sq f u n sub):=by
 intro x hx b2 b3 b4 h23 h24 h34 g fi ca hfn hent I S k0 p hy hdeep s stt hI hst
 have hx0:=hx
 obtain⟨tl,xl,tr,xr,op,fn,ta,xa,tb,xb,v,un,tu,xu,ts,xs,hxe,hru,_,_,_,_,_,_,e3,i3⟩:=hx.mk
 obtain⟨a,e,hp,hd1,hd2,rfl⟩:=hst
 simp only[Tr.walk] at hy ⊢
 have hhead:=hy 0 p _ _ a e s rfl hx0 hp hd1 hI
 have hy':=FOkL.tail hy
 have r2:join (join s e) (ownF b2 b3 b4 (.fn g fi ca) a) b2=some (.box [.fn g fi ca]):=yQx (wVz h23 h24)
 have r3:join (join s e) (ownF b2 b3 b4 (.fn g fi ca) a) b3=some (.box [a]):=yQx (yGi h34)
 refine ICall.intro (c:=cf prog gl [23,24] []) func117 rfl (by show _≤39; simp) (by kernel_rfl) ?_
 have hiv:ivOf (.iv a)=some a:=by rcases hp with⟨t,rfl,_⟩ | ⟨g,cap,cs,rfl,_⟩<;>rfl
 rw[hxe] at hhead
 simp(config:=zzC)only[go_sem,r2,r3,hiv,hxe]
 refine yXd hent (hhead.frame hd2 |>.mono ?_)
 rintro r stt ⟨s2,hd3,rfl,(⟨rfl,s3,hI3,hd4,rfl⟩ | ⟨rfl,hS⟩)⟩
 ·simp(config:=zzC)only[go_sem,i3.len,hxe]
  intro hlen
  refine LoopC.ctr sub.length (fun k fr st' ds=>(∃ s,I (k0+1+(yZc p 0 (sub.take k)).length) s∧xQf b2 b3 b4 (.fn g fi ca) p s st')∧fr 0=.iv (.cptr x)∧fr 1=.iv (.raw (.pointer (some ⟨b2,0,none⟩)))∧fr 2=.iv (.raw (.pointer (some ⟨b3,0,none⟩)))∧fr 3=.iv (.raw (.pointer (some ⟨b4,0,none⟩)))∧fr 16=.iv (.raw (.int .i64 sub.length))∧fr 17=.iv (.raw (.int .i64 k))∧ds=[]) ?_ ?_ ?_
  ·simp(config:=zzC)only[go_sem,hxe]
   exact⟨⟨s3,by simpa[yZc] using hI3,a,e,hp,hd4,hd3,rfl⟩,rfl⟩
  ·rintro k fr st1 _ hlt ⟨⟨s,hI,a,e,hp,hd1,hd2,rfl⟩,f0,f1,f2,f3,f16,f17,rfl⟩
   rw[hxe] at f0
   obtain⟨t,ht⟩:=yQ5 hlt
   obtain⟨z,hkz,hz⟩:=i3.get ht
   have r3:join (join s e) (ownF b2 b3 b4 (.fn g fi ca) a) b3=some (.box [a]):=yQx (yGi h34)
   have hth:=zVq (lMg ht)
   simp only[Tr.height] at hdeep
   have hsplit:yZc p 0 sub=yZc p 0 (sub.take k)++(t.walk (p++[k])++yZc p (k+1) (sub.drop (k+1))):=by
    conv=>lhs; rw[← List.take_append_drop k sub,List.drop_eq_getElem_cons hlt]
    rw[yK8,(lGs ht).2,show (sub.take k).length=k by rw[List.length_take]; omega]
    simp only[yZc,Nat.zero_add]
   have hya:=hy'
   rw[hsplit] at hya
   have hcall:=fun stt hF=>IH t (lMg ht) z hz b2 b3 b4 h23 h24 h34 g fi ca hfn hent I S _ (p++[k]) (FOkL.left (FOkL.right hya)) (by rw[lLa]; simp only[List.length_singleton]; omega) s stt hI hF
   have wcut:IntKind.i64.wrap (((p.length+1:Nat):Int) - 1)=(p.length:Nat):=by rw[w64 (by omega) (by omega)]; omega
   have hz':∃ c0 c1 c2 c3 c4 c5 c6 c7 c8 c9 c10 c11,z=.agg [c0,c1,c2,c3,c4,c5,c6,c7,c8,c9,c10,c11]:=by
    obtain⟨r',s',m',t',n',b'⟩:=t
    obtain⟨tl',xl',tr',xr',op',fn',ta',xa',tb',xb',v',un',tu',xu',ts',xs',rfl,_⟩:=hz.mk
    exact⟨_,_,_,_,_,_,_,_,_,_,_,_,rfl⟩
   obtain⟨c0,c1,c2,c3,c4,c5,c6,c7,c8,c9,c10,c11,rfl⟩:=hz'
   rcases hp with⟨t0,rfl,hta,hp0,rfl⟩ | ⟨g',cap,cs,rfl,rfl,hc1,hc2,hc3⟩
   ·obtain⟨fs,c,es⟩:=t0
    obtain rfl:c=.nil:=hta
    have hje:join s emp=s:=rfl
    rw[hje] at r3 hd2 ⊢
    simp(config:=zzC)only[go_sem,f0,f1,f2,f3,f16,f17,lt_i hlt,r3,hxe,zJ7]
    intro g' cap
    refine yQa fun hg=>?_
    obtain⟨hg,hcap⟩:=hg
    change join s (ownF b2 b3 b4 (.fn g fi ca) (.sl ⟨fs,.nil,es⟩ [])) g'=none at hg
    have hd2':disj s (ownF b2 b3 b4 (.fn g fi ca) (.sl ⟨fs,.nil,es⟩ [])):=hd2
    have hg2:ownF b2 b3 b4 (.fn g fi ca) (.sl ⟨fs,.nil,es⟩ []) g'=none:=by
     cases ho:ownF b2 b3 b4 (.fn g fi ca) (.sl ⟨fs,.nil,es⟩ []) g' with
     | none=>rfl
     | some o=>rw[yQx ho] at hg; cases hg
    have hg1:s g'=none:=by rw[← yZ0 (stu:=s) hg2]; exact hg
    have hb3:b3≠g':=by rintro rfl; rw[yGi h34] at hg2; cases hg2
    have hF:=xU4 (fy:=.fn g fi ca) (p:=p++[k]) (a':=.raw (.slice (some ⟨g',0,none⟩) 1 cap)) (cs:=.raw (.int .i64 k)::List.replicate (cap - 1) .junk) h34 hd2' hg1 hg2 (.inr ⟨g',cap,_,by rw[hp0]; rfl,rfl,by simpa[hp0] using hcap,by simp; omega,by simp[plI,hp0]⟩)
    have hb4:b4≠g':=by rintro rfl; rw[zGv] at hg2; cases hg2
    have r3':∀ o,((join s (ownF b2 b3 b4 (.fn g fi ca) (.sl ⟨fs,.nil,es⟩ []))).put g' o) b3=some (.box [.sl ⟨fs,.nil,es⟩ []]):=fun o=>by rw[ISt.put_apply,if_neg hb3]; exact r3
    have r4':∀ o o',(((join s (ownF b2 b3 b4 (.fn g fi ca) (.sl ⟨fs,.nil,es⟩ []))).put g' o).put b3 o') b4=some (.box [xXb b2 b3 b4]):=fun o o'=>by rw[ISt.put_apply,if_neg h34.symm,ISt.put_apply,if_neg hb4]; exact yQx zGv
    simp(config:=zzC)only[go_sem,IV.one,List.flatMap_cons,List.flatMap_nil,IV.cells,Nat.mul_one,r3',r4',f0,f1,f2,f3,f16,f17,hxe,hkz,yQ1 e3,lt_i hlt,iNn,fits,xXb]
    refine (hcall _ hF).mono ?_
    rintro _ st2 (⟨rfl,s1,hI1,hF1⟩ | ⟨rfl,s1,hS1,hsub1⟩)
    ·obtain⟨a2,e2,hp2,hd5,hd6,rfl⟩:=hF1
     obtain⟨g3,cap3,cs3,rfl,rfl,hc4,hc5,hc6⟩:=hp2.cons
     have r6:join (join s1 (emp.put g3 (some (.box cs3)))) (ownF b2 b3 b4 (.fn g fi ca) (.raw (.slice (some ⟨g3,0,none⟩) (p.length+1) cap3))) b3=some (.box [.raw (.slice (some ⟨g3,0,none⟩) (p.length+1) cap3)]):=yQx (yGi h34)
     simp(config:=zzC)only[go_sem,IV.one,r6,f0,f1,f2,f3,f16,f17,wcut,zV0 hc4,ite_self,Nat.zero_mul,hc4,yQf hlt (show sub.length≤281474976710656 by omega)]
     refine⟨s1,?_,?_⟩
     ·rw[yQ6 ht,yK8,lLa,show (sub.take k).length=k by rw[List.length_take]; omega]
      simp only[yZc,List.append_nil,Nat.zero_add]
      rw[← Nat.add_assoc]; exact hI1
     ·rw[wVs h34]
      exact⟨_,_,.inr ⟨g3,cap3,cs3,rfl,rfl,by omega,hc5,hc6⟩,hd5,fun b hb=>hd6 b fun h=>hb ((zZg _).1 h),rfl⟩
    ·simp(config:=zzC)only[go_sem]
     exact yQ0 (.inr ⟨rfl,s1,hS1,hsub1⟩)
   ·have ho:ownF b2 b3 b4 (.fn g fi ca) (.raw (.slice (some ⟨g',0,none⟩) p.length cap)) g'=none:=by
     cases ho:ownF b2 b3 b4 (.fn g fi ca) (.raw (.slice (some ⟨g',0,none⟩) p.length cap)) g' with
     | none=>rfl
     | some o =>
      have:=hd2 g' (by rw[ho]; simp)
      rw[yQx (ISt.put_same ..)] at this
      cases this
    have hs1:s g'=none:=hd1 g' (by rw[ISt.put_same]; simp)
    have r5:join (join s (emp.put g' (some (.box cs)))) (ownF b2 b3 b4 (.fn g fi ca) (.raw (.slice (some ⟨g',0,none⟩) p.length cap))) g'=some (.box cs):=by
     rw[yZ0 ho,yQx (ISt.put_same ..)]
    simp(config:=zzC)only[go_sem,f0,f1,f2,f3,f16,f17,lt_i hlt,r3,hxe,zJ7]
    refine yG8 _ _ _ r5 (by simp[fits,IV.one]) ⟨by show (_+1)*8≤_; omega,by show _+1≤_; omega⟩ ⟨hc1,by show _*1≤_; omega⟩ (by simp[IV.cells]) ?_
    intro g2 cap2 cs2 hg2 k1 k2 k3
    rw[wGv hs1 ho]
    have hgo:s g2=none∧ownF b2 b3 b4 (.fn g fi ca) (.raw (.slice (some ⟨g',0,none⟩) p.length cap)) g2=none:=by
     rcases hg2 with rfl | hg2
     ·exact⟨hs1,ho⟩
     ·cases hq:ownF b2 b3 b4 (.fn g fi ca) (.raw (.slice (some ⟨g',0,none⟩) p.length cap)) g2 with
      | some o=>rw[yQx hq] at hg2; cases hg2
      | none =>
       rw[yZ0 hq] at hg2
       refine⟨?_,rfl⟩
       cases hz:s g2 with
       | none=>rfl
       | some o=>rw[yJf hd1 g2 o hz] at hg2; cases hg2
    have hs2:disj s (ownF b2 b3 b4 (.fn g fi ca) (.raw (.slice (some ⟨g',0,none⟩) p.length cap))):=fun b hb=>by
     have:=hd2 b hb
     cases hz:s b with
     | none=>rfl
     | some o=>rw[yJf hd1 b o hz] at this; cases this
    have hF:=xU4 (fy:=.fn g fi ca) (p:=p++[k]) (a':=.raw (.slice (some ⟨g2,0,none⟩) (p.length+1) cap2)) (cs:=cs2) h34 hs2 hgo.1 hgo.2 (.inr ⟨g2,cap2,cs2,by simp,rfl,by simpa using k1,by simpa using k2,by
     simp only[Nat.mul_one] at k3
     rw[lLa]
     exact k3.trans (by rw[hc3]; simp[plI,IV.cells])⟩)
    have hb3:b3≠g2:=by rintro rfl; have:=hgo.2; rw[yGi h34] at this; cases this
    have hb4:b4≠g2:=by rintro rfl; have:=hgo.2; rw[zGv] at this; cases this
    have r3':∀ o,((join s (ownF b2 b3 b4 (.fn g fi ca) (.raw (.slice (some ⟨g',0,none⟩) p.length cap)))).put g2 o) b3=some (.box [.raw (.slice (some ⟨g',0,none⟩) p.length cap)]):=fun o=>by rw[ISt.put_apply,if_neg hb3]; exact yQx (yGi h34)
    have r4':∀ o o',(((join s (ownF b2 b3 b4 (.fn g fi ca) (.raw (.slice (some ⟨g',0,none⟩) p.length cap)))).put g2 o).put b3 o') b4=some (.box [xXb b2 b3 b4]):=fun o o'=>by rw[ISt.put_apply,if_neg h34.symm,ISt.put_apply,if_neg hb4]; exact yQx zGv
    simp(config:=zzC)only[go_sem,IV.one,List.flatMap_cons,List.flatMap_nil,IV.cells,Nat.mul_one,r3',r4',f0,f1,f2,f3,f16,f17,hxe,hkz,yQ1 e3,lt_i hlt,iNn,fits,xXb]
    refine (hcall _ hF).mono ?_
    rintro _ st2 (⟨rfl,s1,hI1,hF1⟩ | ⟨rfl,s1,hS1,hsub1⟩)
    ·obtain⟨a2,e2,hp2,hd5,hd6,rfl⟩:=hF1
     obtain⟨g3,cap3,cs3,rfl,rfl,hc4,hc5,hc6⟩:=hp2.cons
     have r6:join (join s1 (emp.put g3 (some (.box cs3)))) (ownF b2 b3 b4 (.fn g fi ca) (.raw (.slice (some ⟨g3,0,none⟩) (p.length+1) cap3))) b3=some (.box [.raw (.slice (some ⟨g3,0,none⟩) (p.length+1) cap3)]):=yQx (yGi h34)
     simp(config:=zzC)only[go_sem,IV.one,r6,f0,f1,f2,f3,f16,f17,wcut,zV0 hc4,ite_self,Nat.zero_mul,hc4,yQf hlt (show sub.length≤281474976710656 by omega)]
     refine⟨s1,?_,?_⟩
     ·rw[yQ6 ht,yK8,lLa,show (sub.take k).length=k by rw[List.length_take]; omega]
      simp only[yZc,List.append_nil,Nat.zero_add]
      rw[← Nat.add_assoc]; exact hI1
     ·rw[wVs h34]
      exact⟨_,_,.inr ⟨g3,cap3,cs3,rfl,rfl,by omega,hc5,hc6⟩,hd5,fun b hb=>hd6 b fun h=>hb ((zZg _).1 h),rfl⟩
    ·simp(config:=zzC)only[go_sem]
     exact yQ0 (.inr ⟨rfl,s1,hS1,hsub1⟩)
  ·rintro fr st1 _ ⟨⟨s,hI,hF⟩,f0,f1,f2,f3,f16,f17,rfl⟩
   rw[lTl] at hI
   simp(config:=zzC)only[go_sem,f16,f17,yQt (nLi _)]
   refine yQ0 (.inl ⟨rfl,s,?_,hF⟩)
   rw[show k0+((yZc p 0 sub).length+1)=k0+1+(yZc p 0 sub).length by omega]
   exact hI
 ·simp(config:=zzC)only[go_sem]
  exact yQ0 (.inr ⟨rfl,s2,hS,yJf hd3⟩)
theorem xKx:∀ (k:Nat)(t:Tr),SizeOf.sizeOf t<k→FF gl t
 | 0,t,h=>by omega
 | k+1,.mk r sq f u n sub,h=>wQv gl r sq f u n sub (fun a ha=>xKx k a (by
   have:=lSm ha
   simp at h; omega))
theorem vXw (t:Tr):FF gl t:=xKx gl _ t (Nat.lt_succ_self _)
theorem wJ4 (t:Tr)(x:IV)(hx:IsTr t x)(hd:t.height≤1099511627776)(I:Nat→ISt→Prop):wV8 prog gl 116 [] [.cptr (.cptr x)] (lkT (t.walk [])) (t.walk []).length I:=by
 rintro y I' S' st ⟨g,fi,ca,rfl,hfn,hent⟩ _ hy h0
 have hfrom:=vXw gl t x hx
 have hok:FOkL gl (.fn g fi ca) I' S' 0 (t.walk []):=fun i p t x a e stu hi ht hp hdj hI=>by
  rw[Nat.zero_add] at hI ⊢
  exact hy i [a,.cptr x] e stu ⟨p,t,a,x,hi,ht,hp,rfl⟩ hdj hI
 have hz':∃ c0 c1 c2 c3 c4 c5 c6 c7 c8 c9 c10 c11,x=.agg [c0,c1,c2,c3,c4,c5,c6,c7,c8,c9,c10,c11]:=by
  obtain⟨r',s',m',t',n',b'⟩:=t
  obtain⟨tl',xl',tr',xr',op',fn',ta',xa',tb',xb',v',un',tu',xu',ts',xs',rfl,_⟩:=hx.mk
  exact⟨_,_,_,_,_,_,_,_,_,_,_,_,rfl⟩
 obtain⟨c0,c1,c2,c3,c4,c5,c6,c7,c8,c9,c10,c11,rfl⟩:=hz'
 change ICall prog gl _ [.fn g fi ca,_] st _
 refine ICall.intro (c:=cf prog gl [2,3,4] []) func116 rfl (by show _≤9; simp) (by kernel_rfl) ?_
 simp(config:=zzC)only[go_sem,fits]
 intro b2
 refine yQa fun hb2=>?_
 intro b3
 refine yQa fun hb3=>?_
 intro b4
 refine yQa fun hb4=>?_
 have h23:b2≠b3:=by rintro rfl; rw[ISt.put_same] at hb3; cases hb3
 have h34:b3≠b4:=by rintro rfl; rw[ISt.put_same] at hb4; cases hb4
 have h24:b2≠b4:=by rintro rfl; rw[ISt.put_apply,if_neg h23,ISt.put_same] at hb4; cases hb4
 rw[ISt.put_apply,if_neg h23.symm] at hb3
 rw[ISt.put_apply,if_neg h34.symm,ISt.put_apply,if_neg h24.symm] at hb4
 have hF:xQf b2 b3 b4 (.fn g fi ca) [] st ((((st.put b2 (some (.box [.fn g fi ca]))).put b3 (some (.box [.sl ⟨true,.nil,0⟩ []]))).put b4 (some (.box [.raw .nilFunc]))).put b4 (some (.box [xXb b2 b3 b4]))):=by
  refine⟨_,emp,.inl ⟨⟨true,.nil,0⟩,rfl,rfl,rfl,rfl⟩,fun b hb=>absurd rfl hb,fun b hb=>?_,?_⟩
  ·show st b=none
   by_cases q4:b=b4
   ·rw[q4]; exact hb4
   ·by_cases q3:b=b3
    ·rw[q3]; exact hb3
    ·by_cases q2:b=b2
     ·rw[q2]; exact hb2
     ·exact absurd (xK2 q2 q3 q4) hb
  ·funext c
   by_cases q4:c=b4
   ·rw[q4,ISt.put_same,yQx zGv]
   ·rw[ISt.put_apply,if_neg q4,ISt.put_apply,if_neg q4]
    by_cases q3:c=b3
    ·rw[q3,ISt.put_same,yQx (yGi h34)]
    ·rw[ISt.put_apply,if_neg q3]
     by_cases q2:c=b2
     ·rw[q2,ISt.put_same,yQx (wVz h23 h24)]
     ·rw[ISt.put_apply,if_neg q2,yZ0 (xK2 q2 q3 q4)]; rfl
 refine (hfrom b2 b3 b4 h23 h24 h34 g fi ca hfn hent I' S' 0 [] hok (by simpa using hd) st _ h0 hF).mono ?_
 rintro r stt (⟨rfl,s1,hI1,a,e,_,hd1,hd2,rfl⟩ | ⟨rfl,s1,hS1,hsub⟩)
 ·simp(config:=zzC)only[go_sem]
  rw[Nat.zero_add] at hI1
  exact yQb ((yJf hd1).trans (yJf hd2)) (.inl hI1)
 ·simp(config:=zzC)only[go_sem]
  exact yQb hsub (.inr hS1)
theorem wYb (x:IV)(st:ISt)(t:Tr)(hx:IsTr t x):ICall prog gl 71 [.cptr x] st (fun r st'=>r=.fn (.func 116) [] [.cptr (.cptr x)]∧st'=st):=by
 have hz':∃ c0 c1 c2 c3 c4 c5 c6 c7 c8 c9 c10 c11,x=.agg [c0,c1,c2,c3,c4,c5,c6,c7,c8,c9,c10,c11]:=by
  obtain⟨r',s',m',t',n',b'⟩:=t
  obtain⟨tl',xl',tr',xr',op',fn',ta',xa',tb',xb',v',un',tu',xu',ts',xs',rfl,_⟩:=hx.mk
  exact⟨_,_,_,_,_,_,_,_,_,_,_,_,rfl⟩
 obtain⟨c0,c1,c2,c3,c4,c5,c6,c7,c8,c9,c10,c11,rfl⟩:=hz'
 refine ICall.intro (c:=cf prog gl [] [] [1]) func71 rfl (by show _≤4; simp) (by kernel_rfl) ?_
 simp(config:=zzC)only[go_sem,fits]
 exact yQ0 ⟨rfl,rfl⟩
theorem wXm (t:Tag)(ht:t.cap=.nil)(st:ISt):ICall prog gl 73 [.sl t []] st (fun r st'=>(∃ t',r=.sl t' (plI [])∧okEs t' 1)∧st'=st):=by
 obtain⟨fs,c,es⟩:=t
 obtain rfl:c=.nil:=ht
 refine iI func73 rfl rfl (by kernel_rfl) ?_
 have hb:binV prog 50 .eql (.sl ⟨fs,.nil,es⟩ []) (.sl ⟨true,.nil,0⟩ [])=some (.raw (.bool true)):=by
  have:yUn prog 50=true:=by kernel_rfl
  simp[binV,zKe,this]
 simp(config:=zzC)only[go_sem,fits,hb]
 exact yQ0 ⟨⟨_,rfl,.inl rfl⟩,rfl⟩
theorem wXn (g:Nat)(p:List Nat)(hp:p≠[])(hl:p.length≤1099511627776)(st:ISt):ICall prog gl 73 [.sl ⟨false,.app g,1⟩ (plI p)] st (fun r st'=>(∃ t',r=.sl t' (plI p)∧okEs t' 1)∧st'=st):=by
 obtain⟨i,p,rfl⟩:∃ i q,p=i::q:=by
  cases p with
  | nil=>exact absurd rfl hp
  | cons i q=>exact⟨i,q,rfl⟩
 refine iI func73 rfl rfl (by kernel_rfl) ?_
 have hb:binV prog 50 .eql (.sl ⟨false,.app g,1⟩ (plI (i::p))) (.sl ⟨true,.nil,0⟩ [])=some (.raw (.bool false)):=by
  have:yUn prog 50=true:=by kernel_rfl
  simp[binV,zKe,plI,this]
 have hf:(plI (i::p)).all (fits false 1)=true:=by simp[plI,fits,IV.one]
 simp only[List.length_cons] at hl
 have he:plI (i::p)=.raw (.int .i64 (i:Int))::plI p:=rfl
 have hpl:=yV1 p
 have hf':(plI p).all (fits false 1)=true:=by simp[plI,fits,IV.one]
 rw[he] at hb hf ⊢
 simp(config:=zzC)only[go_sem,fits,hb]
 exact yQr rfl (yQr hf' (yQr ⟨by omega,by omega⟩ fun g'=>yQa fun hg=>yQb (yQc hg) ⟨⟨_,rfl,.inr rfl⟩,rfl⟩))
theorem xYh {R:Rt}{st:ISt}{ds:List Dfd}(esc:List Nat)(dst:Option Nat)(e:TypeId×Bool×Nat×Nat)(fs:Bool)(es:Nat)(xs:List IV):appV esc dst e ⟨fs,.full,es⟩ xs [] R st ds =
 chk (([]:List IV).all (fits e.2.1 e.2.2.1)=true) (chk ((xs.length+0)*e.2.2.2≤140737488355328∧xs.length+0≤140737488355328) (chk (es=e.2.2.1) (R (.val (.sl ⟨fs,.full,es⟩ xs)) st ds))):=rfl
theorem xYr (g:Nat)(st:ISt):ICall prog gl 73 [.sl ⟨false,.app g,1⟩ (plI [])] st (fun r st'=>(∃ t',r=.sl t' (plI [])∧okEs t' 1)∧st'=st):=by
 have hb:binV prog 50 .eql (.sl ⟨false,.app g,1⟩ (plI [])) (.sl ⟨true,.nil,0⟩ [])=some (.raw (.bool false)):=by
  have:yUn prog 50=true:=by kernel_rfl
  simp[binV,zKe,plI,this]
 rw[show plI []=[] from rfl] at hb ⊢
 refine iI func73 rfl rfl (by kernel_rfl) ?_
 simp(config:=zzC)only[go_sem,fits,hb,xYh]
 exact yQr rfl (yQ0 ⟨⟨_,rfl,.inr rfl⟩,rfl⟩)
theorem wQc {s e:ISt}(h:disj s e):join s e=join e s:=by
 funext b
 cases he:e b with
 | none =>
  rw[yZ0 he]
  cases hs:s b with
  | none=>rw[yZ0 hs,he]
  | some o=>rw[yQx hs]
 | some o=>rw[yQx he,yZ0 (h b (by rw[he]; simp)),he]
theorem xVi:∀ p:List Nat,ages (plI p)=plI p
 | []=>by simp only[plI,List.map_nil,ages]
 | i::p=>by
  have:=xVi p
  simp only[plI,List.map_cons,ages,age] at this ⊢
  rw[this]
theorem xJz:∀ p:List Nat,(plI p).flatMap IV.cells=plI p
 | []=>rfl
 | i::p=>by
  have:=xJz p
  simp only[plI,List.map_cons,List.flatMap_cons,IV.cells,List.singleton_append] at this ⊢
  rw[this]
theorem wUj (p:List Nat)(a:IV)(e s:ISt)(hp:PlV p a e)(hl:p.length≤1099511627776)(hd:disj s e):ICall prog gl 73 [a] (join s e) (fun r st'=>(∃ t',r=.sl t' (plI p)∧okEs t' 1)∧st'=s):=by
 have key:ICall prog gl 73 [a] e (fun r st'=>(∃ t',r=.sl t' (plI p)∧okEs t' 1)∧st'=emp):=by
  rcases hp with⟨t,rfl,ht,rfl,rfl⟩ | ⟨g,cap,cs,rfl,rfl,h1,h2,h3⟩
  ·exact wXm gl t ht emp
  ·have hnb:yUg (emp.put g (some (.box cs)))=emp:=by
    funext b
    by_cases hb:b=g
    ·rw[hb,zXw (ISt.put_same ..)]; rfl
    ·have:(emp.put g (some (.box cs))) b=none:=by rw[ISt.put_apply,if_neg hb]; rfl
     rw[zQ9 (fun cs' h=>by rw[this] at h; cases h),this]; rfl
   refine ICall.freeze (args':=[.sl ⟨false,.app g,1⟩ (plI p)]) ⟨_,_,rfl,.inr ⟨.sl ⟨true,.app g,1⟩ (plI p),?_,?_⟩,rfl⟩ ?_
   ·rw[← yV1 p]
    refine .sl g cap ⟨true,.app g,1⟩ (plI p) cs rfl (by rw[yV1]; omega) (by rw[yV1]; exact h1) (fun x hx=>?_) (ISt.put_same ..) (by simpa using h2) fun i r c hr hc=>?_
    ·obtain⟨i,_,rfl⟩:=List.mem_map.1 hx
     rfl
    ·rw[xJz p] at hc
     have hi:i<p.length:=by
      have:=(lGs hc).1
      rwa [yV1] at this
     have:(cs.take p.length)[i]?=cs[i]?:=by rw[List.getElem?_take,if_pos hi]
     rw[h3,hc,hr] at this
     cases this
     exact .refl _
   ·simp only[age,xVi]
   ·rw[hnb]
    by_cases hpn:p=[]
    ·subst hpn; exact xYr gl g emp
    ·exact wXn gl g p hpn hl emp
 have h1:=key.frame (own:=s) (fun b hb=>by
  cases he:e b with
  | none=>rfl
  | some o=>exact absurd (hd b (by rw[he]; simp)) hb)
 rw[wQc hd]
 refine h1.mono ?_
 rintro r st' ⟨stu,_,rfl,hr,rfl⟩
 refine⟨hr,?_⟩
 funext b
 cases hs:s b with
 | none=>rw[yZ0 hs]; rfl
 | some o=>rw[yQx hs]
def xK8:Tr→Prop
 | .mk _ s m u _ sub=>yYj s∧m.size≤1000000∧u.size≤1000000∧∀ a∈sub,yYj a.sq
def wZd (t:Tr):Prop:=(∀ q∈t.walk [],xK8 q.2)∧t.height≤1099511627776
theorem wKt (G:Gl gl)(T:Gt gl)(ca:Nat)(t:Tr)(x:IV)(hx:IsTr t x)(hn:xK8 t)(st:ISt):ICall prog gl 72 [.raw (.int .u8 ca),.cptr x] st (fun r st'=>r=.raw (.int .i64 (yZn ca t))∧st'=st):=by
 obtain⟨rule,s,m,u,n,sub⟩:=t
 exact wU4 gl G T ca rule s m u n sub x hx hn.1 hn.2.1 hn.2.2.1 hn.2.2.2 st
theorem zZ7 {t:Tr}{x:IV}(h:IsTr t x):∃ (rule:Nat) (tl:Tag) (xl:List IV) (tr:Tag) (xr:List IV) (op:Int) (fn:ByteArray) (ta:Tag) (xa:List IV) (tb:Tag) (xb:List IV) (v:Bool) (un:ByteArray) (tu:Tag) (xu:List IV) (n:ByteArray) (ts:Tag) (xs:List IV),
  x=.agg [.raw (.int .u8 rule),.sl tl xl,.sl tr xr,.raw (.int .u8 op),.raw (.string fn),.sl ta xa,.sl tb xb,.raw (.bool v),.raw (.string un),.sl tu xu,.raw (.string n),.sl ts xs]:=by
 obtain⟨r',s',m',t',n',b'⟩:=t
 obtain⟨tl',xl',tr',xr',op',fn',ta',xa',tb',xb',v',un',tu',xu',ts',xs',rfl,_⟩:=h.mk
 exact⟨_,_,_,_,_,_,_,_,_,_,_,_,_,_,_,_,_,_,rfl⟩
mutual
theorem zW9:∀ (p:List Nat)(t:Tr),(t.walk p).length=t.steps
 | p,.mk _ _ _ _ _ sub=>by simp only[Tr.walk,Tr.steps,List.length_cons,zZx p 0 sub]; omega
theorem zZx:∀ (p:List Nat)(i:Nat)(l:List Tr),(yZc p i l).length=yQp l
 | _,_,[]=>rfl
 | p,i,a::l=>by simp only[yZc,yQp,lLa,zW9 (p++[i]) a,zZx p (i+1) l]
end
mutual
theorem zYz:∀ (q:List Nat)(t:Tr)(x:List Nat×Tr),x∈t.walk q→x.1.length+1≤q.length+t.height
 | q,.mk _ _ _ _ _ sub,x,h=>by
  simp only[Tr.walk,List.mem_cons] at h
  simp only[Tr.height]
  rcases h with rfl | h
  ·simp only; omega
  ·have:=zQv q 0 sub x h; omega
theorem zQv:∀ (q:List Nat)(i:Nat)(l:List Tr)(x:List Nat×Tr),x∈yZc q i l→x.1.length≤q.length+yZm l
 | _,_,[],x,h=>by simp[yZc] at h
 | q,i,a::l,x,h=>by
  simp only[yZc,List.mem_append] at h
  simp only[yZm]
  rcases h with h | h
  ·have:=zYz (q++[i]) a x h
   rw[lLa] at this
   simp only[List.length_singleton] at this
   omega
  ·have:=zQv q (i+1) l x h; omega
end
def CkI (st:ISt)(b2 b4 b5 b6 ca c:Nat)(s:ISt):Prop:=s b2=some (.box [.raw (.int .u8 ca)])∧s b4=some (.box [.sl ⟨true,.nil,0⟩ []])∧s b5=some (.box [.raw (.int .i64 0)])∧s b6=some (.box [.raw (.int .i64 c)])∧subSt st s
def CkS (st:ISt)(b4 b5:Nat)(q:List Nat×Nat)(e:Exit)(s:ISt):Prop:=e=.ret∧(∃ tg,s b4=some (.box [.sl tg (plI q.1)])∧okEs tg 1)∧s b5=some (.box [.raw (.int .i64 q.2)])∧subSt st s
theorem zK8 (G:Gl gl)(T:Gt gl)(ca:Nat)(t:Tr)(x:IV)(hx:IsTr t x)(hfit:wZd t)(st:ISt):ICall prog gl 24 [.raw (.int .u8 ca),x] st (fun r st'=>(∃ tg,r=.tup [.sl tg (plI (yXx ca t).1),.raw (.int .i64 (yXx ca t).2)]∧okEs tg 1)∧st'=st):=by
 have hst:=fun st=>wYb gl x st t hx
 have hit:=fun I=>wJ4 gl t x hx hfit.2 I
 have hkn:=fun st=>xX2 gl ca st
 obtain⟨rule,tl,xl,tr,xr,op,fn,ta,xa,tb,xb,v,un,tu,xu,n,ts,xs,rfl⟩:=zZ7 hx
 refine ICall.intro (c:=cf prog gl [2,4,5,6] [] [3]) func24 rfl (by show _≤31; simp) (by kernel_rfl) ?_
 simp(config:=zzC)only[go_sem,fits,IV.one]
 intro b2
 refine yQa fun hb2=>?_
 intro b4
 refine yQa fun hb4=>?_
 intro b5
 refine yQa fun hb5=>?_
 have h24:b2≠b4:=by rintro rfl; rw[ISt.put_same] at hb4; cases hb4
 have h45:b4≠b5:=by rintro rfl; rw[ISt.put_same] at hb5; cases hb5
 have h25:b2≠b5:=by rintro rfl; rw[ISt.put_apply,if_neg h24,ISt.put_same] at hb5; cases hb5
 rw[ISt.put_apply,if_neg h24.symm] at hb4
 rw[ISt.put_apply,if_neg h45.symm,ISt.put_apply,if_neg h25.symm] at hb5
 obtain⟨s1,hs1,f2,f4,f5,hsub⟩:∃ s1,s1=((st.put b2 (some (.box [.raw (.int .u8 ca)]))).put b4 (some (.box [.sl ⟨true,.nil,0⟩ []]))).put b5 (some (.box [.raw (.int .i64 0)]))∧s1 b2=some (.box [.raw (.int .u8 ca)])∧s1 b4=some (.box [.sl ⟨true,.nil,0⟩ []])∧s1 b5=some (.box [.raw (.int .i64 0)])∧subSt st s1 :=
  ⟨_,rfl,by simp only[ISt.put_apply,if_neg h24,if_neg h25,if_true],by simp only[ISt.put_apply,if_neg h45,if_true],by simp only[ISt.put_apply,if_true],yZ4 (yZ4 (yZ4 (subSt.refl st) hb2) hb4) hb5⟩
 rw[← hs1]
 simp(config:=zzC)only[go_sem,f2,fits]
 refine (hkn _).mono ?_
 rintro _ s1' ⟨rfl,rfl⟩
 have g5:∀ (s:ISt) o,(s.put b4 o) b5=s b5:=fun s o=>by rw[ISt.put_apply,if_neg h45.symm]
 have g4:∀ (s:ISt) o o',((s.put b4 o).put b5 o') b4=o:=fun s o o'=>by rw[ISt.put_apply,if_neg h45,ISt.put_same]
 have hsub':∀ (s:ISt) o o',subSt st s→subSt st ((s.put b4 o).put b5 o'):=fun s o o' h=>yZ4 (yZ4 h hb4) hb5
 cases hk:yKe ca
 ·have hq:yXx ca t=([],2):=by unfold yXx; rw[hk]; rfl
  simp(config:=zzC)only[go_sem,f4,f5,fits,g5,g4,ISt.put_same]
  exact yQb (hsub' _ _ _ hsub) ⟨⟨_,by rw[hq]; rfl,.inl rfl⟩,rfl⟩
 ·simp(config:=zzC)only[go_sem,f4,f5,fits]
  intro b6
  refine yQa fun hb6=>?_
  rw[yQ8]
  refine (hst _).mono ?_
  rintro _ _ ⟨rfl,rfl⟩
  have h26:b2≠b6:=by rintro rfl; rw[f2] at hb6; cases hb6
  have h46:b4≠b6:=by rintro rfl; rw[f4] at hb6; cases hb6
  have h56:b5≠b6:=by rintro rfl; rw[f5] at hb6; cases hb6
  have hb6':st b6=none:=by
   cases hq:st b6 with
   | none=>rfl
   | some o=>rw[hsub b6 o hq] at hb6; cases hb6
  have hI0:CkI st b2 b4 b5 b6 ca 0 (s1'.put b6 (some (.box [.raw (.int .i64 0)]))):=⟨by rw[ISt.put_apply,if_neg h26]; exact f2,by rw[ISt.put_apply,if_neg h46]; exact f4,by rw[ISt.put_apply,if_neg h56]; exact f5,ISt.put_same ..,yZ4 hsub hb6'⟩
  generalize s1'.put b6 (some (.box [.raw (.int .i64 0)]))=s2 at hI0 ⊢
  simp(config:=zzC)only[go_sem,fits]
  refine RangeL.intro (lkT (t.walk [])) (t.walk []).length (fun k s=>CkI st b2 b4 b5 b6 ca k s∧k≤300) (fun e s=>CkS st b4 b5 ([],5) e s∧300<t.steps) rfl ?_ ?_ ?_ (hit _) ?_ ?_
  ·rintro k a e ⟨p,u,a,y,_,_,_,rfl⟩; rfl
  ·exact⟨hI0,by omega⟩
  ·rintro k _ e s ⟨p,z,a,y,hkz,hz,hp,rfl⟩ hd ⟨⟨c2,c4,c5,c6,hss⟩,hk3⟩
   have hd':disj s e:=hd
   have r6:=yJf hd' _ _ c6
   have r4:=yJf hd' _ _ c4
   have r5:=yJf hd' _ _ c5
   have e6:e b6=none:=ISt.disj.off hd c6
   have hw:IntKind.i64.wrap ((k:Int)+1)=((k+1:Nat):Int):=by rw[w64]<;>omega
   have q4:∀ o,((join s e).put b6 o) b4=some (.box [.sl ⟨true,.nil,0⟩ []]):=fun o=>by rw[yQk h46]; exact r4
   have q5:∀ o o',(((join s e).put b6 o).put b4 o') b5=some (.box [.raw (.int .i64 0)]):=fun o o'=>by rw[yQk h45.symm,yQk h56]; exact r5
   by_cases hbig:300<k+1
   ·have hb:decide ((300:Int)<((k+1:Nat):Int))=true:=dEt (by omega)
    simp(config:=zzC)only[go_sem,r6,hw,ISt.put_same,hb,q4,q5,fits]
    refine⟨⟨rfl,⟨⟨true,.nil,0⟩,?_,.inl rfl⟩,ISt.put_same ..,yZ4 (yZ4 (yZ4 (hss.trans (yJf hd')) hb6') hb4) hb5⟩,?_⟩
    ·rw[yQk h45,ISt.put_same]; rfl
    ·have:=(lGs hkz).1
     rw[zW9] at this
     omega
   ·have hb:decide ((300:Int)<((k+1:Nat):Int))=false:=dEf (by omega)
    simp(config:=zzC)only[go_sem,r6,hw,ISt.put_same,hb,q4,q5,fits]
    refine⟨s.put b6 (some (.box [.raw (.int .i64 ((k+1:Nat):Int))])),⟨⟨by rw[yQk h26]; exact c2,by rw[yQk h46]; exact c4,by rw[yQk h56]; exact c5,ISt.put_same ..,yZ4 hss hb6'⟩,by omega⟩,ISt.disj.put hd e6,ISt.put_add e6⟩
  ·rintro s r ⟨⟨c2,c4,c5,c6,hss⟩,hk3⟩
   rw[zW9] at hk3
   have hq:yXx ca t=yZb (yZn ca) (t.walk []):=by
    unfold yXx
    rw[hk]
    simp only[Bool.not_true,bFt,if_false]
    rw[if_neg (by omega)]
   simp(config:=zzC)only[go_sem]
   refine (hst _).mono ?_
   rintro _ _ ⟨rfl,rfl⟩
   simp(config:=zzC)only[go_sem,fits]
   refine RangeL.intro (lkT (t.walk [])) (t.walk []).length (fun k s=>(s b2=some (.box [.raw (.int .u8 ca)])∧s b4=some (.box [.sl ⟨true,.nil,0⟩ []])∧s b5=some (.box [.raw (.int .i64 0)])∧subSt st s)∧yZb (yZn ca) ((t.walk []).take k)=([],0)) (fun e s=>CkS st b4 b5 (yXx ca t) e s) rfl ?_ ?_ ?_ (hit _) ?_ ?_
   ·rintro k a e ⟨p,u,a,y,_,_,_,rfl⟩; rfl
   ·exact⟨⟨c2,c4,c5,hss⟩,by simp[yZb]⟩
   ·rintro k _ e s ⟨p,z,a,y,hkz,hz,hp,rfl⟩ hd ⟨⟨c2,c4,c5,hss⟩,hf⟩
    have hd':disj s e:=hd
    have r2:=yJf hd' _ _ c2
    have hpl:=zYz [] t _ (lMg hkz)
    have hfd:=hfit.2
    simp only[List.length_nil] at hpl
    have hck:=fun st=>wKt gl G T ca z y hz (hfit.1 _ (lMg hkz)) st
    have hcl:=wUj gl p a e s hp (by omega) hd'
    have hiv:ivOf (.iv a)=some a:=by rcases hp with⟨t,rfl,_⟩ | ⟨g,cap,cs,rfl,_⟩<;>rfl
    obtain⟨rule',tl',xl',tr',xr',op',fn',ta',xa',tb',xb',v',un',tu',xu',n',ts',xs',rfl⟩:=zZ7 hz
    simp(config:=zzC)only[go_sem,r2,hiv,fits]
    refine (hck _).mono ?_
    rintro _ _ ⟨rfl,rfl⟩
    by_cases h0:yZn ca z=0
    ·have d0:decide (((yZn ca z:Nat):Int)=0)=true:=dEt (by omega)
     simp(config:=zzC)only[go_sem,d0,fits]
     refine⟨s,⟨⟨c2,c4,c5,hss⟩,?_⟩,hd,rfl⟩
     rw[yQ6 hkz,yJw,hf]
     simp[yZb,h0]
    ·have d0:decide (((yZn ca z:Nat):Int)=0)=false:=dEf (by omega)
     have hv:yXx ca t=(p,yZn ca z):=by
      rw[hq]
      conv=>lhs; rw[← List.take_append_drop k (t.walk [])]
      rw[List.drop_eq_getElem_cons (lGs hkz).1,(lGs hkz).2,yJw,hf]
      simp[yZb,h0]
     simp(config:=zzC)only[go_sem,d0,hiv,fits]
     refine hcl.mono ?_
     rintro _ _ ⟨⟨t',rfl,ht'⟩,rfl⟩
     simp(config:=zzC)only[go_sem,c4,c5,fits,g5,g4,ISt.put_same]
     refine⟨rfl,⟨t',?_,ht'⟩,?_,hsub' _ _ _ hss⟩
     ·rw[g4,hv]
     ·rw[ISt.put_same,hv]
   ·rintro s r ⟨⟨c2,c4,c5,hss⟩,hf⟩
    rw[lTl,← hq] at hf
    simp(config:=zzC)only[go_sem,c4,c5,fits,g5,g4,ISt.put_same]
    exact yQb (hsub' _ _ _ hss) ⟨⟨_,by rw[hf]; rfl,.inl rfl⟩,rfl⟩
   ·rintro e s r ⟨rfl,⟨tg,c4,ht⟩,c5,hss⟩
    simp(config:=zzC)only[go_sem,c4,c5,fits]
    exact yQb hss ⟨⟨_,rfl,ht⟩,rfl⟩
  ·rintro e s r ⟨⟨rfl,⟨tg,c4,ht⟩,c5,hss⟩,hb⟩
   have hq:yXx ca t=([],5):=by unfold yXx; rw[hk,if_pos hb]; rfl
   simp(config:=zzC)only[go_sem,c4,c5,fits]
   exact yQb hss ⟨⟨_,by rw[hq],ht⟩,rfl⟩
end Go.Proofs.Tryz
