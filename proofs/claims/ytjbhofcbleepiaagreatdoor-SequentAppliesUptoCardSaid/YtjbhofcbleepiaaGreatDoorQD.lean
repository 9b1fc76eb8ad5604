/- Walks: formulas in order, each once. -/
import Derived.Test.YtjbhofcbleepiaaGreatDoorQC
import Derived.Test.YtjbhofcbleepiaaGreatDoorQB
import Derived.Test.YtjbhofcbleepiaaGreatDoorKA
import Derived.Test.YtjbhofcbleepiaaGreatDoorQA
import Derived.Test.YtjbhofcbleepiaaGreatDoorLA
import Derived.Test.YtjbhofcbleepiaaGreatDoorKS
import Derived.Test.YtjbhofcbleepiaaGreatDoorKU
import Derived.Test.YtjbhofcbleepiaaGreatDoorLE
import Derived.Test.YtjbhofcbleepiaaGreatDoorKM
import Derived.Test.YtjbhofcbleepiaaGreatDoorKG
import Derived.Test.YtjbhofcbleepiaaGreatDoorLF
import Derived.Test.YtjbhofcbleepiaaGreatDoorKC
set_option linter.all false
namespace Go.Proofs.Tryz
open Go Go.Iv Go.Shelf Go.RowKit
set_option maxRecDepth 4000
variable (gl:Nat→Option IV)
mutual
theorem vXa:∀ (a b:Tm)(x:IV),IsTm a x→IsTm b x→a=b
 | .mk v n us,.mk w m ws,x,h,k=>by
  obtain⟨t,xs,rfl,_,h1⟩:=h.mk
  obtain⟨t',xs',hx,_,h2⟩:=k.mk
  simp only[IV.agg.injEq,List.cons.injEq,IV.raw.injEq,Value.bool.injEq,Value.string.injEq,IV.sl.injEq,and_true] at hx
  obtain⟨rfl,rfl,rfl,rfl⟩:=hx
  rw[xXp us ws xs h1 h2]
theorem xXp:∀ (l m:List Tm)(xs:List IV),IsTms l xs→IsTms m xs→l=m
 | [],[],_,_,_=>rfl
 | [],b::m,xs,h,k=>by
  simp only[IsTms] at h k
  obtain⟨y,ys,rfl,_⟩:=k
  cases h
 | a::l,[],xs,h,k=>by
  simp only[IsTms] at h k
  obtain⟨y,ys,rfl,_⟩:=h
  cases k
 | a::l,b::m,xs,h,k=>by
  simp only[IsTms] at h k
  obtain⟨y,ys,rfl,h1,h2⟩:=h
  obtain⟨y',ys',he,k1,k2⟩:=k
  cases he
  rw[vXa a b y h1 k1,xXp l m ys h2 k2]
end
mutual
theorem wYl:∀ (a b:Fm)(x:IV),IsFm a x→IsFm b x→a=b
 | .mk o n us sub,.mk o' m ws sub',x,h,k=>by
  obtain⟨t,xs,t2,xs2,rfl,_,_,h1,_,h2⟩:=h.mk
  obtain⟨t',xs',t2',xs2',hx,_,_,k1,_,k2⟩:=k.mk
  simp only[IV.agg.injEq,List.cons.injEq,IV.raw.injEq,Value.int.injEq,Value.string.injEq,IV.sl.injEq,and_true,true_and,Int.natCast_inj] at hx
  obtain⟨rfl,rfl,⟨rfl,rfl⟩,rfl,rfl⟩:=hx
  rw[xXp us ws xs h1 k1,wXa sub sub' xs2 h2 k2]
theorem wXa:∀ (l m:List Fm)(xs:List IV),IsFms l xs→IsFms m xs→l=m
 | [],[],_,_,_=>rfl
 | [],b::m,xs,h,k=>by
  simp only[IsFms] at h k
  obtain⟨y,ys,rfl,_⟩:=k
  cases h
 | a::l,[],xs,h,k=>by
  simp only[IsFms] at h k
  obtain⟨y,ys,rfl,_⟩:=h
  cases k
 | a::l,b::m,xs,h,k=>by
  simp only[IsFms] at h k
  obtain⟨y,ys,rfl,h1,h2⟩:=h
  obtain⟨y',ys',he,k1,k2⟩:=k
  cases he
  rw[wYl a b y h1 k1,wXa l m ys h2 k2]
end
open Classical in
noncomputable def rdF (x:IV):Fm:=if h:∃ a,IsFm a x then h.choose else fm0
theorem xVh {a:Fm}{x:IV}(h:IsFm a x):rdF x=a:=by
 have he:∃ a,IsFm a x:=⟨a,h⟩
 unfold rdF
 rw[dif_pos he]
 exact wYl _ _ x he.choose_spec h
theorem xVg:∀ {l:List Fm}{xs:List IV},IsFms l xs→xs.map rdF=l
 | [],_,rfl=>rfl
 | a::l,_,⟨x,xs,rfl,hx,hl⟩=>by rw[List.map_cons,xVh hx,xVg hl]
theorem wYk:∀ {ys:List IV},(∀ y∈ys,∃ a,IsFm a y)→IsFms (ys.map rdF) ys
 | [],_=>rfl
 | y::ys,h=>by
  obtain⟨a,ha⟩:=h y (by simp)
  exact⟨y,ys,rfl,by rw[xVh ha]; exact ha,wYk fun z hz=>h z (by simp[hz])⟩
theorem zUa:∀ {l:List Fm}{xs:List IV},IsFms l xs→∀ y∈xs,∃ a,IsFm a y∧a∈l
 | [],_,rfl,y,h=>by cases h
 | a::l,_,⟨x,xs,rfl,hx,hl⟩,y,h=>by
  rcases List.mem_cons.1 h with rfl | h
  ·exact⟨a,hx,by simp⟩
  ·obtain⟨b,hb,hm⟩:=zUa hl y h
   exact⟨b,hb,by simp[hm]⟩
theorem vV0 (l:List Fm)(xs rest:List IV)(hx:IsFms l xs)(hne:xs≠[])(hlen:xs.length≤140737488355328)(b cap:Nat)(st:ISt)(hb:st b=some (.box (xs.flatMap IV.cells++rest))) :
  ICall prog gl 129 [.raw (.slice (some ⟨b,0,none⟩) xs.length cap),.fn (.func 130) [] []] st
   (fun r st'=>r=.tup []∧∃ (m:List Fm) (ys:List IV),IsFms m ys∧m.Perm l∧m.Pairwise (fun x y=>¬ yXk y x<0)∧(∀ y∈ys,y∈xs)∧st'=st.put b (some (.box (ys.flatMap IV.cells++rest)))):=by
 refine (xU4 gl 130 ?_ xs rest b cap st hne hlen (yXc hx) hb (fun x y=>yXk (rdF x) (rdF y)) (fun x _=>zVd _) (fun x _ y _ z _=>zUk _ _ _) (fun x _ y _ z _ h1 h2 h3=>?_) (fun x hxm y hym=>?_)).mono ?_
 ·exact enters_of func130 (by kernel_rfl) rfl
 ·rcases Int.lt_or_le (yXk (rdF y) (rdF x)) 0 with h | h
  ·have:=zUk _ _ _ h h3
   exact h2 this
  ·have hxy:yXk (rdF x) (rdF y)=0:=by
    have:=zVc (rdF x) (rdF y)
    omega
   rw[(zJf _ _).1 hxy] at h3
   exact h2 h3
 ·obtain⟨a,ha,_⟩:=zUa hx x hxm
  obtain⟨c,hc,_⟩:=zUa hx y hym
  rw[xVh ha,xVh hc]
  exact (xX9 (fun _=>none) a c x y ha hc _).mono fun r st' h=>h.1
 ·rintro r st' ⟨rfl,ys,hp,hpw,rfl⟩
  refine⟨rfl,ys.map rdF,ys,wYk fun y hy=>?_,?_,?_,fun y hy=>hp.mem_iff.1 hy,rfl⟩
  ·obtain⟨a,ha,_⟩:=zUa hx y (hp.mem_iff.1 hy)
   exact⟨a,ha⟩
  ·rw[← xVg hx]; exact hp.map rdF
  ·exact List.pairwise_map.2 hpw
theorem wJd (t:Tag)(ht:t.cap=.nil)(st:ISt):ICall prog gl 129 [.sl t [],.fn (.func 130) [] []] st (fun r st'=>r=.tup []∧st'=st):=by
 obtain⟨fs,c,es⟩:=t
 obtain rfl:c=.nil:=ht
 intro B X rs hg hst hv
 obtain⟨r0,r1,rfl⟩:∃ r0 r1,rs=[r0,r1]:=by
  match rs,hv with
  | [a,b],_=>exact⟨a,b,rfl⟩
  | [],hv=>cases hv.1
  | [_],hv=>cases hv.1
  | _::_::_::_,hv=>cases hv.1
 obtain⟨p,cap,rfl⟩:∃ p cap,r0=.slice p 0 cap:=by
  have:=hv.2 0 r0 _ rfl rfl
  obtain⟨a,cap,_,_,rfl,_⟩:=V.sl_inv this
  exact⟨a,cap,rfl⟩
 refine Calls.mono (AnyF.slices_SortFunc_none Tryz.sortFL p cap r1 X.w) ?_
 rintro e w' ⟨rfl,rfl⟩
 exact⟨_,rfl,X,.tup [],rfl,hg,Ext.refl X,.tup [] [] rfl (fun i r c h=>by simp at h),rfl,hst⟩
noncomputable def ddF (p:Fm):List Fm→List Fm
 | []=>[]
 | b::l=>if yXk b p=0 then ddF b l else b::ddF b l
noncomputable def dd:List Fm→List Fm
 | []=>[]
 | a::l=>a::ddF a l
theorem xY0:∀ (p:Fm)(l:List Fm)(a b:Fm),(p::l).getLast?=some a→ddF p (l++[b])=ddF p l++(if yXk b a=0 then [] else [b])
 | p,[],a,b,h=>by
  simp only[List.getLast?_singleton,Option.some.injEq] at h
  subst h
  simp only[List.nil_append,ddF]
 | p,c::l,a,b,h=>by
  rw[List.getLast?_cons_cons] at h
  simp only[List.cons_append,ddF,xY0 c l a b h]
  split<;>rfl
theorem vQ2:∀ (l:List Fm)(a b:Fm),l.getLast?=some a→dd (l++[b])=dd l++(if yXk b a=0 then [] else [b])
 | p::l,a,b,h=>by simp only[List.cons_append,dd,xY0 p l a b h]
theorem wXn {m:List Fm}{k:Nat}{a b:Fm}(ha:m[k]?=some a)(hb:m[k+1]?=some b):dd (m.take (k+1+1))=dd (m.take (k+1))++(if yXk b a=0 then [] else [b]):=by
 rw[yQ4 hb]
 exact vQ2 _ a b (by rw[yQ4 ha,List.getLast?_concat])
theorem wXp:∀ (p:Fm)(l:List Fm),(p::l).Pairwise (fun x y=>¬ yXk y x<0)→(∀ f,f∈p::ddF p l↔f∈p::l)∧(p::ddF p l).Pairwise (fun x y=>yXk x y<0)
 | p,[],_=>⟨fun f=>Iff.rfl,List.pairwise_singleton ..⟩
 | p,b::l,h=>by
  have h1:=List.pairwise_cons.1 h
  obtain⟨i1,i2⟩:=wXp b l h1.2
  simp only[ddF]
  by_cases hc:yXk b p=0
  ·have hbp:=(zJf b p).1 hc
   subst hbp
   rw[if_pos hc]
   refine⟨fun f=>?_,i2⟩
   rw[i1 f]
   simp
  ·rw[if_neg hc]
   have hlt:yXk p b<0:=by
    have:=h1.1 b (by simp)
    have:=zVc b p
    omega
   refine⟨fun f=>?_,List.pairwise_cons.2 ⟨fun f hf=>?_,i2⟩⟩
   ·rw[List.mem_cons,i1 f,List.mem_cons (l:=b::l)]
   ·rcases List.mem_cons.1 hf with rfl | hf
    ·exact hlt
    ·exact zUk _ _ _ hlt ((List.pairwise_cons.1 i2).1 f hf)
theorem wXo (l m:List Fm)(hp:m.Perm l)(h:m.Pairwise (fun x y=>¬ yXk y x<0)):SetF l (dd m):=by
 cases m with
 | nil =>
  obtain rfl:=List.Perm.nil_eq hp
  exact⟨List.Pairwise.nil,fun f=>Iff.rfl⟩
 | cons a m =>
  obtain⟨h1,h2⟩:=wXp a m h
  exact⟨h2,fun f=>(h1 f).trans hp.mem_iff⟩
theorem rd4 {ys rest cs:List IV}(hf:∀ y∈ys,y.cells.length=4)(hlen:cs.length=(ys.flatMap IV.cells++rest).length){i:Nat}{y:IV}(hy:ys[i]?=some y)(hc:∀ j,i*4≤j→cs[j]?=(ys.flatMap IV.cells++rest)[j]?) :
  i*4+4≤cs.length∧(cs.drop (i*4)).take 4=y.cells:=by
 have hi:=(lGs hy).1
 have h0:ys.flatMap IV.cells=(ys.take i).flatMap IV.cells++(y.cells++(ys.drop (i+1)).flatMap IV.cells):=by
  conv=>lhs; rw[← List.take_append_drop i ys,List.drop_eq_getElem_cons hi,(lGs hy).2]
  rw[List.flatMap_append,List.flatMap_cons]
 have h1:((ys.take i).flatMap IV.cells).length=i*4:=by
  rw[yQy _ fun z hz=>hf z (List.mem_of_mem_take hz),List.length_take]
  omega
 have hy4:=hf y (lMg hy)
 have hd:cs.drop (i*4)=(ys.flatMap IV.cells++rest).drop (i*4):=by
  apply List.ext_getElem?
  intro j
  rw[List.getElem?_drop,List.getElem?_drop,hc _ (by omega)]
 refine⟨?_,?_⟩
 ·rw[hlen,h0]
  simp only[lLa,h1,hy4]; omega
 ·rw[hd,h0,List.append_assoc,List.drop_left' h1,List.append_assoc,List.take_left' hy4]
theorem xWq:∀ {l:List Fm}{xs:List IV}(k:Nat),IsFms l xs→IsFms (l.take k) (xs.take k)
 | [],_,k,rfl=>by simp[IsFms]
 | a::l,_,0,_=>by simp[IsFms]
 | a::l,_,k+1,⟨y,ys,rfl,hy,h⟩=>by
  rw[List.take_succ_cons,List.take_succ_cons]
  exact⟨y,ys.take k,rfl,hy,xWq k h⟩
theorem st4 {cs l:List IV}{k n:Nat}(hl:l.length=n)(h:k*4+n≤cs.length):(setAt cs (k*4) l).length=cs.length∧(setAt cs (k*4) l).take (k*4)=cs.take (k*4)∧(setAt cs (k*4) l).take (k*4+n)=cs.take (k*4)++l∧∀ i,k*4+n≤i→(setAt cs (k*4) l)[i]?=cs[i]?:=by
 have h1:(cs.take (k*4)).length=k*4:=by rw[List.length_take]; omega
 have h2:(cs.take (k*4)++l).length=k*4+n:=by rw[lLa,h1,hl]
 unfold setAt
 refine⟨?_,?_,List.take_left' h2,fun i hi=>?_⟩
 ·rw[lLa,h2,List.length_drop,hl]; omega
 ·rw[List.append_assoc,List.take_left' h1]
 ·rw[List.getElem?_append_right (by omega),h2,List.getElem?_drop,hl]
  congr 1; omega
theorem zX8 {k n:Nat}(h:k≤n):yX4 (some ((k:Nat):Int)) none n=some (k,n):=by
 simp only[yX4,Option.getD_none,Option.getD_some]
 rw[if_pos ⟨by omega,by omega,Int.le_refl _⟩]; simp
theorem xY9 {k n:Nat}(h:k≤n):yX4 none (some ((k:Nat):Int)) n=some (0,k):=by
 simp only[yX4,Option.getD_none,Option.getD_some]
 rw[if_pos ⟨Int.le_refl _,by omega,by omega⟩]; simp
theorem wJj (m:List Fm)(ys rest:List IV)(hx:IsFms m ys)(hlen:m.length≤1099511627776)(g cap:Nat)(hcap:m.length≤cap)(st:ISt)(hb:st g=some (.box (ys.flatMap IV.cells++rest))) :
  ICall prog gl 131 [.raw (.slice (some ⟨g,0,none⟩) m.length cap),.fn (.func 132) [] []] st
   (fun r st'=>∃ k cs zs,r=.raw (.slice (some ⟨g,0,none⟩) k cap)∧st'=st.put g (some (.box cs))∧cs.length=(ys.flatMap IV.cells++rest).length∧cs.take (k*4)=zs.flatMap IV.cells∧IsFms (dd m) zs∧zs.length=k∧k≤m.length∧∀ z∈zs,z∈ys):=by
 have hf4:∀ y∈ys,y.cells.length=4:=fun y hy=>xKd (yXc hx y hy)
 have hyl:=hx.len
 have hput:st.put g (some (.box (ys.flatMap IV.cells++rest)))=st:=yXr hb
 have same:∀ k,dd (m.take k)=m.take k→k=m.length→∃ k cs zs,IV.raw (.slice (some ⟨g,0,none⟩) m.length cap)=.raw (.slice (some ⟨g,0,none⟩) k cap)∧st=st.put g (some (.box cs))∧cs.length=(ys.flatMap IV.cells++rest).length∧cs.take (k*4)=zs.flatMap IV.cells∧IsFms (dd m) zs∧zs.length=k∧k≤m.length∧∀ z∈zs,z∈ys:=by
  intro k hk hkl
  rw[hkl,lTl] at hk
  refine⟨m.length,_,ys,rfl,hput.symm,rfl,?_,by rw[hk]; exact hx,hyl,Nat.le_refl _,fun _ h=>h⟩
  rw[← hyl,List.take_left' (yQy _ hf4)]
 refine ICall.intro (c:=cf prog gl [22,27,42,47] []) func131 rfl (by show _≤66; simp) (by kernel_rfl) ?_
 by_cases h2:m.length<2
 ·have d2:decide (((m.length:Nat):Int)<2)=true:=dEt (by omega)
  simp(config:=zzC)only[go_sem,d2]
  refine yQ0 (same m.length ?_ rfl)
  rw[lTl]
  match m,h2 with
  | [],_=>rfl
  | [a],_=>rfl
 ·have d2:decide (((m.length:Nat):Int)<2)=false:=dEf (by omega)
  simp(config:=zzC)only[go_sem,d2]
  refine LoopC.ctr (m.length - 1) (fun c fr st' ds=>dd (m.take (c+1))=m.take (c+1)∧fr 0=.iv (.raw (.slice (some ⟨g,0,none⟩) m.length cap))∧fr 1=.iv (.fn (.func 132) [] [])∧fr 5=.iv (.raw (.int .i64 ((c+1:Nat):Int)))∧st'=st∧ds=[]) ?_ ?_ ?_
  ·simp(config:=zzC)only[go_sem]
   refine⟨?_,rfl⟩
   match m,h2 with
   | [],h=>exact absurd (show 0<2 by decide) h
   | [a],h=>exact absurd (show 1<2 by decide) h
   | a::b::l,_=>rfl
  ·rintro c fr st1 _ hlt ⟨hd,f0,f1,f5,rfl,rfl⟩
   have hlt':c+1<m.length:=by omega
   obtain⟨a,ha⟩:=yQ3 (l:=m) (k:=c) (by omega)
   obtain⟨b,hbm⟩:=yQ3 hlt'
   obtain⟨x,hkx,hxa⟩:=hx.get ha
   obtain⟨y,hky,hyb⟩:=hx.get hbm
   have hcall:=wQa gl b a y x hyb hxa st1
   obtain⟨rx1,rx2⟩:=rd4 (rest:=rest) hf4 rfl hkx (fun _ _=>rfl)
   obtain⟨ry1,ry2⟩:=rd4 (rest:=rest) hf4 rfl hky (fun _ _=>rfl)
   obtain⟨x1,x2,x3,x4,x5,x6,rfl⟩:=hxa.agg
   obtain⟨y1,y2,y3,y4,y5,y6,rfl⟩:=hyb.agg
   simp only[IV.cells] at rx2 ry2
   have hw:IntKind.i64.wrap (((c+1:Nat):Int) - 1)=(c:Nat):=by rw[w64 (by omega) (by omega)]; omega
   simp(config:=zzC)only[go_sem,f0,f1,f5,lt_i hlt',hw,hlt',show c<m.length by omega,iNn,hb,rx1,ry1,rx2,ry2,fits]
   refine hcall.mono ?_
   rintro _ st1 ⟨rfl,rfl⟩
   have hds:=wXn ha hbm
   by_cases he:yXk b a=0
   ·rw[if_pos he,List.append_nil,hd] at hds
    have hcne:¬ cap=c+1:=by omega
    simp(config:=zzC)only[go_sem,dEt he,f0,f1,f5,zX8 (show c+1≤m.length by omega),hcap,hcne]
    refine LoopC.ctr (m.length - (c+1) - 1) (fun j fr st' ds=>(∃ k cs zs,fr 5=.iv (.raw (.int .i64 ((k:Nat):Int)))∧st'=st1.put g (some (.box cs))∧cs.length=(ys.flatMap IV.cells++rest).length∧cs.take (k*4)=zs.flatMap IV.cells∧IsFms (dd (m.take (c+1+j+1))) zs∧zs.length=k∧k≤c+1+j∧(∀ z∈zs,z∈ys)∧∀ i,(c+1+j)*4≤i→cs[i]?=(ys.flatMap IV.cells++rest)[i]?) ∧
     fr 0=.iv (.raw (.slice (some ⟨g,0,none⟩) m.length cap))∧fr 1=.iv (.fn (.func 132) [] [])∧fr 6=.iv (.raw (.slice (some ⟨g,(c+1)*4,none⟩) (m.length - (c+1)) (cap - (c+1))))∧fr 7=.iv (.raw (.int .i64 ((j+1:Nat):Int)))∧ds=[]) ?_ ?_ ?_
    ·simp(config:=zzC)only[go_sem]
     refine⟨⟨c+1,ys.flatMap IV.cells++rest,ys.take (c+1),f5,(yXr hb).symm,rfl,?_,?_,?_,Nat.le_refl _,fun z hz=>List.mem_of_mem_take hz,fun _ _=>rfl⟩,f0,f1,rfl⟩
     ·conv=>lhs; rw[← List.take_append_drop (c+1) ys]
      rw[List.flatMap_append,List.append_assoc,List.take_left' (by rw[yQy _ fun z hz=>hf4 z (List.mem_of_mem_take hz),List.length_take]; omega)]
     ·rw[hds]; exact xWq _ hx
     ·rw[List.length_take]; omega
    ·rintro j fr st2 _ hj ⟨⟨k,cs,zs,f5,rfl,hcl,hct,hz,hzl,hk,hzm,hcs⟩,f0,f1,f6,f7,rfl⟩
     obtain⟨a',ha'⟩:=yQ3 (l:=m) (k:=c+1+j) (by omega)
     obtain⟨b',hb'⟩:=yQ3 (l:=m) (k:=c+1+j+1) (by omega)
     obtain⟨x',hkx',hxa'⟩:=hx.get ha'
     obtain⟨y',hky',hyb'⟩:=hx.get hb'
     have hyb0:=hyb'
     have hcall':=wQa gl b' a' y' x' hyb' hxa' (st1.put g (some (.box cs)))
     obtain⟨rx1',rx2'⟩:=rd4 hf4 hcl hkx' hcs
     obtain⟨ry1',ry2'⟩:=rd4 hf4 hcl hky' (fun i hi=>hcs i (by omega))
     have hy4:=hf4 y' (lMg hky')
     obtain⟨p1,p2,p3,p4,p5,p6,rfl⟩:=hxa'.agg
     obtain⟨q1,q2,q3,q4,q5,q6,rfl⟩:=hyb'.agg
     simp only[IV.cells] at rx2' ry2' hy4
     have hw':IntKind.i64.wrap (((j+1:Nat):Int) - 1)=(j:Nat):=by rw[w64 (by omega) (by omega)]; omega
     have o1:(c+1)*4+j*4=(c+1+j)*4:=by omega
     have o2:(c+1)*4+(j+1)*4=(c+1+j+1)*4:=by omega
     have hj1:j+1<m.length - (c+1):=by omega
     have hj0:j<m.length - (c+1):=by omega
     have hds':=wXn ha' hb'
     simp(config:=zzC)only[go_sem,f0,f1,f5,f6,f7,lt_i hj1,hj0,hj1,hw',iNn,ISt.put_same,o1,o2,rx1',ry1',rx2',ry2',fits]
     refine hcall'.mono ?_
     rintro _ _ ⟨rfl,rfl⟩
     by_cases he':yXk b' a'=0
     ·rw[if_pos he',List.append_nil] at hds'
      simp(config:=zzC)only[go_sem,dEt he',f0,f1,f5,f6,f7,yQa hj1 (show m.length - (c+1)≤281474976710656 by omega)]
      exact⟨k,cs,zs,rfl,rfl,hcl,hct,by rw[show c+1+(j+1)+1=c+1+j+1+1 by omega,hds']; exact hz,hzl,by omega,hzm,fun i hi=>hcs i (by omega)⟩
     ·rw[if_neg he'] at hds'
      have hkm:k<m.length:=by omega
      have hk4:k*4+4≤cs.length:=by omega
      obtain⟨s1,s2,s3,s4⟩:=st4 hy4 hk4
      simp(config:=zzC)only[go_sem,dEf he',f0,f1,f5,f6,f7,hj1,hkm,iNn,ISt.put_same,o2,ry1',ry2',hk4,fits,yQa hkm (show m.length≤281474976710656 by omega),yQa hj1 (show m.length - (c+1)≤281474976710656 by omega)]
      refine⟨k+1,setAt cs (k*4) [.raw (.int .u8 q1),.raw (.string q2),.sl q3 q4,.sl q5 q6],zs++[.agg [.raw (.int .u8 q1),.raw (.string q2),.sl q3 q4,.sl q5 q6]],rfl,by rw[yQf]; rfl,s1.trans hcl,?_,?_,by simp[hzl],by omega,fun z hz=>by
        rcases List.mem_append.1 hz with hz | hz
        ·exact hzm z hz
        ·rw[List.mem_singleton.1 hz]; exact lMg hky',fun i hi=>(s4 i (by omega)).trans (hcs i (by omega))⟩
      ·rw[show (k+1)*4=k*4+4 by omega,s3,hct,List.flatMap_append]
       simp[IV.cells]
      ·rw[show c+1+(j+1)+1=c+1+j+1+1 by omega,hds']
       exact hz.append ⟨_,_,rfl,hyb0,rfl⟩
    ·rintro fr st2 _ ⟨⟨k,cs,zs,f5,rfl,hcl,hct,hz,hzl,hk,hzm,hcs⟩,f0,f1,f6,f7,rfl⟩
     have hkm:k<m.length:=by omega
     have hck:¬ cap=k:=by omega
     have hmk:¬ m.length - k=0:=by omega
     have hlen4:m.length*4≤cs.length:=by rw[hcl,lLa,yQy _ hf4]; omega
     have hk4:k*4+(m.length - k)*4≤cs.length:=by omega
     obtain⟨s1,s2,s3,s4⟩:=st4 (cs:=cs) (k:=k) (l:=List.replicate ((m.length - k)*4) .junk) (List.length_replicate ..) hk4
     rw[show m.length - (c+1) - 1+1=m.length - (c+1) by omega] at f7
     simp(config:=zzC)only[go_sem,f0,f1,f5,f6,f7,yQm (nLi _),zX8 (show k≤m.length by omega),xY9 (show k≤cap by omega),hcap,hck,hmk,ISt.put_same,hk4,ite_self,Nat.zero_mul]
     rw[show c+1+(m.length - (c+1) - 1)+1=m.length by omega,lTl] at hz
     exact yQ0 ⟨k,setAt cs (k*4) (List.replicate ((m.length - k)*4) .junk),zs,rfl,by rw[yQf]; rfl,s1.trans hcl,s2.trans hct,hz,hzl,by omega,hzm⟩
   ·rw[if_neg he,hd] at hds
    simp(config:=zzC)only[go_sem,dEf he,f0,f1,f5,yQa hlt' (show m.length≤281474976710656 by omega)]
    rw[hds,yQ4 hbm]
  ·rintro fr st1 _ ⟨hd,f0,f1,f5,rfl,rfl⟩
   rw[show m.length - 1+1=m.length by omega] at hd f5
   simp(config:=zzC)only[go_sem,f0,f5,yQm (nLi _)]
   exact yQ0 (same m.length hd rfl)
end Go.Proofs.Tryz
namespace Go.Proofs.Tryz
open Go Go.Iv
set_option maxRecDepth 4000
variable (gl:Nat→Option IV)
open Classical in
noncomputable def setF (l:List Fm):List Fm:=if h:∃ r,SetF l r then h.choose else []
theorem zK1 {l r:List Fm}(h:SetF l r):setF l=r:=by
 have he:∃ r,SetF l r:=⟨r,h⟩
 unfold setF
 rw[dif_pos he]
 exact SetF.one he.choose_spec h
theorem xVd:setF []=[]:=zK1 ⟨List.Pairwise.nil,fun _=>Iff.rfl⟩
noncomputable def yZz (l:List Fm):List Fm×Nat:=if l.all Fm.right then (setF (l.map zXu),0) else ([],2)
theorem xXk (t:Tag)(ht:t.cap=.nil)(st:ISt):ICall prog gl 131 [.sl t [],.fn (.func 132) [] []] st (fun r st'=>(∃ t',r=.sl t' []∧t'.cap=.nil)∧st'=st):=by
 obtain⟨fs,c,es⟩:=t
 obtain rfl:c=.nil:=ht
 refine ICall.intro (c:=cf prog gl [22,27,42,47] []) func131 rfl (by show _≤66; simp) (by kernel_rfl) ?_
 simp(config:=zzC)only[go_sem,show decide (((0:Nat):Int)<2)=true from rfl]
 exact yQ0 ⟨⟨_,rfl,rfl⟩,rfl⟩
theorem wVi {l:List IV}(h:∀ x∈l,dfr x):dfrs l:=by
 induction l with
 | nil=>trivial
 | cons x l ih=>exact⟨h x (by simp),ih fun y hy=>h y (by simp[hy])⟩
theorem wJz {l m:List Fm}(hp:m.Perm l)(h:m.Pairwise (fun x y=>¬ yXk y x<0))(hl:0<l.length):0<(setF l).length:=by
 rw[zK1 (wXo _ m hp h)]
 have:=hp.length_eq
 match m,this with
 | [],e=>simp at e; omega
 | a::m,_=>simp[dd]
theorem xQt (G:Gl gl)(T:Gt gl)(l:List Fm)(tg:Tag)(xs:List IV)(htg:okEs tg 4)(hx:IsFms l xs)(hs:fitL l)(hlen:l.length≤1099511627776)(st:ISt) :
  ICall prog gl 79 [.sl tg xs] st (fun r st'=>(∃ t ys,r=.tup [.sl t ys,.raw (.int .i64 (yZz l).2)]∧okEs t 4∧appT (yZz l).1.length t∧IsFmsD (yZz l).1 ys)∧st'=st):=by
 refine ICall.fixN (ICall.mono (K:=fun y st'=>(l.all Fm.right=false∧y=.tup [.sl ⟨true,.nil,0⟩ [],.raw (.int .i64 2)]∧st'=st)∨(l=[]∧(∃ t,y=.tup [.sl t [],.raw (.int .i64 0)]∧t.cap=.nil)∧st'=st) ∨
   (l.all Fm.right=true∧∃ g cap k cs zs,st g=none∧k≤cap∧cap*4≤cs.length∧cs.take (k*4)=zs.flatMap IV.cells∧0<k∧IsFmsD (setF (l.map zXu)) zs∧zs.length=k∧k≤l.length∧y=.tup [.raw (.slice (some ⟨g,0,none⟩) k cap),.raw (.int .i64 0)]∧st'=st.put g (some (.box cs)))) ?_ ?_)
 ·refine ICall.intro (c:=cf prog gl [26] []) func79 rfl (by show _≤32; simp) (by kernel_rfl) ?_
  simp(config:=zzC)only[go_sem,hx.len]
  intro _
  refine LoopC.ctr l.length (fun k fr st' ds=>(l.take k).all Fm.right=true∧((k=0∧fr 4=.iv (.sl ⟨true,.nil,0⟩ [])∧st'=st)∨(0<k∧∃ g cap cs zs,st g=none∧k≤cap∧cap*4≤cs.length∧cs.take (k*4)=zs.flatMap IV.cells∧IsFmsD ((l.take k).map zXu) zs∧zs.length=k∧fr 4=.iv (.raw (.slice (some ⟨g,0,none⟩) k cap))∧st'=st.put g (some (.box cs)))) ∧
   fr 9=.iv (.sl tg xs)∧fr 10=.iv (.raw (.int .i64 l.length))∧fr 11=.iv (.raw (.int .i64 k))∧ds=[]) ?_ ?_ ?_
  ·simp(config:=zzC)only[go_sem]
   rfl
  ·rintro k fr st1 _ hlt ⟨hall,hor,f9,f10,f11,rfl⟩
   obtain⟨a,ha⟩:=yQ3 hlt
   obtain⟨y,hky,hya⟩:=hx.get ha
   have ham:=lMg ha
   have hcall:=wWa gl G T a y hya (hs a ham) st1
   obtain⟨y1,y2,y3,y4,y5,y6,rfl⟩:=hya.agg
   simp(config:=zzC)only[go_sem,f9,f10,f11,lt_i hlt,yQ2 htg,iNn,hky,fits]
   refine hcall.mono ?_
   rintro _ st1 ⟨y',rfl,hyD,rfl⟩
   have hy':=hyD.1
   unfold yVu at hy'
   cases hr:a.right
   ·rw[hr] at hy'
    simp only[bFt,if_false] at hy'
    obtain⟨z1,z2,z3,z4,z5,z6,rfl⟩:=hy'.agg
    unfold yVu
    rw[hr]
    simp only[bFt,if_false]
    simp(config:=zzC)only[go_sem,show decide (((2:Nat):Int)=0)=false from rfl,fits]
    have hsub:subSt st st1:=by
     rcases hor with⟨_,_,h⟩ | ⟨_,g,cap,cs,zs,hg,_,_,_,_,_,_,h⟩
     ·rw[h]; exact subSt.refl _
     ·rw[h]; exact yQd hg
    exact yQ9 hsub (.inl ⟨List.all_eq_false.2 ⟨a,ham,by simp[hr]⟩,rfl,rfl⟩)
   ·rw[hr] at hy'
    simp only[if_true] at hy'
    rw[show (yVu a).1=zXu a by unfold yVu; rw[hr]; simp] at hyD
    have hy0:=hyD
    obtain⟨z1,z2,z3,z4,z5,z6,rfl⟩:=hy'.agg
    unfold yVu
    rw[hr]
    simp only[if_true]
    have hall':(l.take (k+1)).all Fm.right=true:=by
     rw[yQ4 ha,List.all_append,hall]; simp[hr]
    rcases hor with⟨rfl,f4,rfl⟩ | ⟨hk0,g,cap,cs,zs,hg,h1,h2,h3,hz,hzl,f4,rfl⟩
    ·simp(config:=zzC)only[go_sem,show decide (((0:Nat):Int)=0)=true from rfl,fits,f4,yQ1]
     intro g cap
     refine yQc fun hg=>?_
     obtain⟨hg,hcap⟩:=hg
     simp(config:=zzC)only[go_sem,f9,f10,f11,show IntKind.i64.wrap (((0:Nat):Int)+1)=((1:Nat):Int) from rfl]
     have hl1:(l.take 1).map zXu=[zXu a]:=by
      have:=yQ4 ha
      simp only[Nat.zero_add,List.take_zero,List.nil_append] at this
      rw[this]; rfl
     refine⟨by simpa using hall',.inr ⟨by omega,g,cap,_,[.agg [.raw (.int .u8 z1),.raw (.string z2),.sl z3 z4,.sl z5 z6]],hg,hcap,?_,?_,by rw[hl1]; exact IsFmsD.one hy0,rfl,rfl,rfl⟩⟩
     ·simp[IV.cells]; omega
     ·simp[IV.cells]
    ·simp(config:=zzC)only[go_sem,show decide (((0:Nat):Int)=0)=true from rfl,fits,f4,yQ1]
     have hkk:k≤1099511627776:=by omega
     refine zX3 _ _ _ (ISt.put_same ..) (by simp[fits,IV.one]) ⟨by show (_+1)*72≤_; omega,by show _+1≤_; omega⟩ ⟨h1,h2⟩ (by simp[IV.cells]) ?_
     intro g' cap' cs' hg' q1 q2 q3
     have hst':((st.put g (some (.box cs))).put g none).put g' (some (.box cs'))=st.put g' (some (.box cs')):=by
      funext c
      simp only[ISt.put_apply]
      split
      ·rfl
      ·split
       ·subst_vars; exact hg.symm
       ·rfl
     have hg1:st g'=none:=by
      rcases hg' with rfl | h
      ·exact hg
      ·rw[ISt.put_apply] at h
       split at h
       ·cases h
       ·exact h
     simp(config:=zzC)only[go_sem,f9,f10,f11,yQa hlt (show l.length≤281474976710656 by omega)]
     refine⟨hall',.inr ⟨by omega,g',cap',cs',zs++[.agg [.raw (.int .u8 z1),.raw (.string z2),.sl z3 z4,.sl z5 z6]],hg1,q1,q2,?_,?_,by simp[hzl],rfl,hst'⟩⟩
     ·rw[List.flatMap_append,← h3]; exact q3
     ·rw[yQ4 ha,List.map_append]; exact hz.append (IsFmsD.one hy0)
  ·rintro fr st1 _ ⟨hall,hor,f9,f10,f11,rfl⟩
   rw[lTl] at hall hor
   rcases hor with⟨h0,f4,rfl⟩ | ⟨hk0,g,cap,cs,zs,hg,h1,h2,h3,hz,hzl,f4,rfl⟩
   ·simp(config:=zzC)only[go_sem,f4,f10,f11,yQm (nLi _)]
    refine (wJd gl _ rfl _).mono ?_
    rintro _ _ ⟨rfl,rfl⟩
    simp(config:=zzC)only[go_sem,f4]
    refine (xXk gl _ rfl _).mono ?_
    rintro _ _ ⟨⟨t',rfl,ht'⟩,rfl⟩
    simp(config:=zzC)only[go_sem]
    exact yQ0 (.inr (.inl ⟨List.eq_nil_of_length_eq_zero h0,⟨t',rfl,ht'⟩,rfl⟩))
   ·have hcs:cs=zs.flatMap IV.cells++cs.drop (l.length*4):=by rw[← h3,List.take_append_drop]
    have hzl':=hz.len
    have hsort:=vV0 gl (l.map zXu) zs (cs.drop (l.length*4)) hz.1 (by rintro rfl; simp at hzl; omega) (by omega) g cap (st.put g (some (.box cs))) (by rw[ISt.put_same,← hcs])
    rw[hzl] at hsort
    simp(config:=zzC)only[go_sem,f4,f10,f11,yQm (nLi _)]
    refine hsort.mono ?_
    rintro _ _ ⟨rfl,m,ys,hm,hperm,hpw,hym,rfl⟩
    have hml:m.length=l.length:=by rw[hperm.length_eq,List.length_map]
    have hcom:=wJj gl m ys (cs.drop (l.length*4)) hm (by omega) g cap (by omega) ((st.put g (some (.box cs))).put g (some (.box (ys.flatMap IV.cells++cs.drop (l.length*4))))) (ISt.put_same ..)
    rw[hml] at hcom
    simp(config:=zzC)only[go_sem,f4]
    refine hcom.mono ?_
    rintro _ _ ⟨k,cs2,zs2,rfl,rfl,hl2,ht2,hz2,hzl2,hk2,hzm2⟩
    rw[yQf,yQf]
    simp(config:=zzC)only[go_sem]
    have hyl:(ys.flatMap IV.cells).length=l.length*4:=by rw[yQy _ fun y hy=>xKd (yXc hm y hy),hm.len,hml]
    rw[lLa,hyl,List.length_drop] at hl2
    exact yQ0 (.inr (.inr ⟨hall,g,cap,k,cs2,zs2,hg,by omega,by omega,ht2,by
     have h1:=wJz hperm hpw (by rw[List.length_map]; exact hk0)
     rw[zK1 (wXo _ m hperm hpw),← hz2.len,hzl2] at h1
     exact h1,by rw[zK1 (wXo _ m hperm hpw)]; exact⟨hz2,wVi fun z hz'=>yK7 hz.2 (hym z (hzm2 z hz'))⟩,hzl2,hk2,rfl,rfl⟩))
 ·rintro y st' (⟨ha,rfl,rfl⟩ | ⟨rfl,⟨t,rfl,ht⟩,rfl⟩ | ⟨ha,g,cap,k,cs,zs,hg,hc1,hc2,hct,hk0,hz,hzl,hkl,rfl,rfl⟩)
  ·have hn:yZz l=([],2):=by unfold yZz; rw[ha]; rfl
   exact .inl ⟨⟨_,_,by rw[hn]; rfl,.inl rfl,.inl rfl,by rw[hn]; exact IsFmsD.nil⟩,rfl⟩
  ·have hn:yZz []=([],0):=by unfold yZz; simp only[List.all_nil,if_true,List.map_nil,xVd]
   exact .inl ⟨⟨_,_,by rw[hn]; rfl,.inl ht,.inl ht,by rw[hn]; exact IsFmsD.nil⟩,rfl⟩
  ·have hn:yZz l=(setF (l.map zXu),0):=by unfold yZz; rw[ha]; rfl
   exact .inr ⟨g,k,cap,cs,4,zs,_,hg,rfl,rfl,hzl,by omega,hc1,hc2,hct,fun z hz'=>xKd (yXc hz.1 z hz'),⟨_,_,by rw[hn]; rfl,.inr rfl,.inr ⟨by rw[hn]; simp only; rw[← hz.len,hzl]; exact hk0,rfl,g,rfl⟩,by rw[hn]; exact hz⟩,rfl⟩
noncomputable def SetS (s:Sq):Sq×Nat :=
 if (yZz s.l).2≠0 then (⟨[],[]⟩,(yZz s.l).2) else if (yZz s.r).2≠0 then (⟨[],[]⟩,(yZz s.r).2) else (⟨(yZz s.l).1,(yZz s.r).1⟩,0)
theorem uG2 (G:Gl gl)(T:Gt gl)(s:Sq)(x:IV)(hx:IsSq s x)(hs:yW9 s)(hl:s.l.length≤1099511627776∧s.r.length≤1099511627776)(st:ISt) :
  ICall prog gl 28 [x] st (fun r st'=>(∃ y,r=.tup [y,.raw (.int .i64 (SetS s).2)]∧IsSqD (SetS s).1 y)∧st'=st):=by
 obtain⟨t1,x1,t2,x2,rfl,e1,i1,e2,i2⟩:=hx
 have h1:=fun st=>xQt gl G T s.l t1 x1 e1 i1 hs.1 hl.1 st
 have h2:=fun st=>xQt gl G T s.r t2 x2 e2 i2 hs.2 hl.2 st
 unfold SetS
 refine iI func28 rfl rfl (by kernel_rfl) ?_
 simp(config:=zzC)only[go_sem,fits]
 refine (h1 _).mono ?_
 rintro _ st ⟨⟨t3,y1,rfl,e3,a3,j1⟩,rfl⟩
 by_cases q1:(yZz s.l).2=0
 ·rw[if_neg (by omega)]
  simp(config:=zzC)only[go_sem,q1,show decide (((0:Nat):Int)=0)=true from rfl,fits]
  refine (h2 _).mono ?_
  rintro _ st ⟨⟨t4,y2,rfl,e4,a4,j2⟩,rfl⟩
  by_cases q2:(yZz s.r).2=0
  ·rw[if_neg (by omega)]
   simp(config:=zzC)only[go_sem,q2,show decide (((0:Nat):Int)=0)=true from rfl,fits]
   exact yQ0 ⟨⟨_,rfl,_,_,_,_,rfl,e3,a3,j1,e4,a4,j2⟩,rfl⟩
  ·rw[if_pos q2]
   simp(config:=zzC)only[go_sem,show decide ((((yZz s.r).2:Nat):Int)=0)=false from dEf (by omega),fits]
   exact yQ0 ⟨⟨_,rfl,_,_,_,_,rfl,.inl rfl,.inl rfl,IsFmsD.nil,.inl rfl,.inl rfl,IsFmsD.nil⟩,rfl⟩
 ·rw[if_pos q1]
  simp(config:=zzC)only[go_sem,show decide ((((yZz s.l).2:Nat):Int)=0)=false from dEf (by omega),fits]
  exact yQ0 ⟨⟨_,rfl,_,_,_,_,rfl,.inl rfl,.inl rfl,IsFmsD.nil,.inl rfl,.inl rfl,IsFmsD.nil⟩,rfl⟩
theorem uG3 (G:Gl gl)(T:Gt gl)(s:Sq)(x:IV)(hx:IsSq s x)(hs:yW9 s)(hl:s.l.length≤1099511627776∧s.r.length≤1099511627776)(st:ISt) :
  ICall prog gl 28 [x] st (fun r st'=>(∃ y,r=.tup [y,.raw (.int .i64 (SetS s).2)]∧IsSq (SetS s).1 y)∧st'=st) :=
 (uG2 gl G T s x hx hs hl st).mono fun r st' ⟨⟨y,h1,h2⟩,h3⟩=>⟨⟨y,h1,h2.w⟩,h3⟩
theorem zU9:∀ {l:List Fm}{c:Nat},(∀ f∈l,f.size≤c)→yQ7 l≤l.length*c
 | [],c,_=>by simp[yQ7]
 | a::l,c,h=>by
  have h1:=h a (by simp)
  have h2:=zU9 (l:=l) fun f hf=>h f (by simp[hf])
  rw[List.length_cons,Nat.succ_mul]
  simp only[yQ7]; omega
def yZf (ca:Nat)(s m:Sq):Sq:=⟨s.l++m.l,if ca≠2∨m.r.length=0 then s.r++m.r else m.r⟩
def okI (ca:Nat)(s m:Sq):Bool:=decide ((yZf ca s m).l.length≤64)&&decide ((yZf ca s m).r.length≤64)
noncomputable def zUs (ca:Nat)(s:Sq)(rule:Nat)(main:Fm)(term:Tm)(name:ByteArray):List Sq×Nat :=
 if !yX0 ca then ([],2) else if (yXe ca s rule main term name).2≠0 then ([],(yXe ca s rule main term name).2)
 else if (yXe ca s rule main term name).1.all (okI ca s) then ((yXe ca s rule main term name).1.map (yZf ca s),0) else ([],5)
theorem wUp {c:Prop} [Decidable c]{A B:List Sq}(h1:A.length≤2)(h2:B.length≤2):(if c then A else B).length≤2:=by split<;>assumption
theorem xY6 (ca rule:Nat)(main a b:Fm):(addS ca rule main a b).length≤2:=by
 unfold addS
 repeat' apply wUp
 all_goals first | exact Nat.zero_le _ | exact Nat.le_refl 2 | exact Nat.le_succ 1
theorem xXg {ca rule:Nat}{r:Rw}{main:Fm}{term:Tm}{name:ByteArray}{ad:List Sq}(h:yZm ca rule r main term name=(ad,0)):ad.length≤2:=by
 unfold yZm at h
 by_cases hc:(!fmB ca main || (decide (r.op≠0)&&decide (main.op≠r.op)))=true
 ·rw[if_pos hc] at h
  cases (Prod.mk.inj h).2
 ·rw[if_neg hc] at h
  by_cases h0:r.asks=0
  ·simp only[if_pos h0] at h
   rw[← (Prod.mk.inj h).1]
   exact xY6 ..
  ·simp only[if_neg h0] at h
   generalize (if r.asks=2 then Tm.mk true name [] else term)=t at h
   by_cases h1:(!t.ok)=true
   ·simp only[if_pos h1] at h
    cases (Prod.mk.inj h).2
   ·simp only[if_neg h1] at h
    by_cases h2:(yZc ((main.subs[0]?).getD fm0) [(main.nm,t)]).2≠0
    ·simp only[if_pos h2] at h
     cases (Prod.mk.inj h).2
    ·simp only[if_neg h2] at h
     rw[← (Prod.mk.inj h).1]
     exact xY6 ..
theorem xVs {st st' S0:ISt}{tg:Tag}{n s:Nat}(h:own st tg n s S0)(hs:subSt st st'):own st' tg n s S0:=h.mono fun g hg _=>hs g _ hg
theorem wYu (G:Gl gl)(T:Gt gl)(ca:Nat)(s:Sq)(x:IV)(hx:IsSq s x)(hs:yW9 s)(rule:Nat)(main:Fm)(y:IV)(hy:IsFm main y)(hm:main.size≤1000000)(term:Tm)(z:IV)(hz:IsTm term z)(ht:term.size≤1000000)(name:ByteArray)(st:ISt) :
  ICall prog gl 45 [.raw (.int .u8 ca),x,.raw (.int .u8 rule),y,z,.raw (.string name)] st (AdRD st (zUs ca s rule main term name)):=by
 have hstep:=fun st=>wWs gl G T ca s x hx hs rule main y hy hm term z hz ht name st
 have hkn:=fun st=>zU4 gl ca st
 obtain⟨t1,x1,t2,x2,rfl,e1,i1,e2,i2⟩:=hx
 obtain⟨o3,n3,t3,x3,t4,x4,rfl⟩:=hy.agg
 obtain⟨v,un,tz,xz,rfl⟩:=wJs hz
 unfold zUs
 refine ICall.intro (c:=cf prog gl [] [(10,[0,1,3,4,6,7,9,2,5,8,10]),(12,[0,1,3,4,2,5,6,7])]) func45 rfl (by show _≤82; simp) (by kernel_rfl) ?_
 simp(config:=zzC)only[go_sem,fits]
 refine (hkn _).mono ?_
 rintro _ st ⟨rfl,rfl⟩
 cases hk:yX0 ca
 ·simp(config:=zzC)only[go_sem,fits]
  exact yQ0 ⟨_,_,rfl,.inl rfl,.inl rfl,rfl,rfl⟩
 simp(config:=zzC)only[go_sem,fits]
 refine (hstep _).mono ?_
 rintro _ st ⟨tg,ys,rfl,he,hap,hysD,rfl⟩
 have hys:=hysD.w
 generalize hq:yXe ca s rule main term name=q at hysD hys ⊢
 obtain⟨ad,er⟩:=q
 simp only at hysD hys ⊢
 by_cases h0:er=0
 ·subst h0
  obtain⟨hv,r,hr⟩:=xXv hq
  have hfit:=zVn hr
  have hal2:=xXg hr
  have hvl:s.l.length≤64∧s.r.length≤64:=by
   unfold yXl at hv
   simp only[bAt,dTe] at hv
   exact⟨hv.1.1.1.1.2,hv.1.1.1.2⟩
  have hF1:=fun st=>xKa gl s.l t1 x1 e1 i1 (by have:=zU9 hs.1; omega) st
  have hF2:=fun st=>xKa gl s.r t2 x2 e2 i2 (by have:=zU9 hs.2; omega) st
  simp only[Bool.not_true,bFt,if_false,ne_eq,nTf]
  simp(config:=zzC)only[go_sem,show decide (((0:Nat):Int)=0)=true from rfl,hys.len,fits]
  intro hal
  refine LoopC.ctr ad.length (fun k fr st' ds=>(ad.take k).all (okI ca s)=true∧(∃ tg' zs,fr 16=.iv (.sl tg' zs)∧IsSqsD ((ad.take k).map (yZf ca s)) zs∧appT k tg'∧own st' tg' k 2 st∧subSt st st')∧fr 0=.iv (.raw (.int .u8 ca))∧fr 7=.box [.sl t1 x1,.sl t2 x2] ∧
   fr 36=.iv (.sl tg ys)∧fr 37=.iv (.raw (.int .i64 ad.length))∧fr 38=.iv (.raw (.int .i64 k))∧ds=[]) ?_ ?_ ?_
  ·simp(config:=zzC)only[go_sem]
   exact⟨⟨_,_,rfl,rfl,.inl rfl,.inl ⟨rfl,rfl⟩,subSt.refl _⟩,rfl⟩
  ·rintro k fr st1 _ hlt ⟨hall,⟨tgo,zs,f16,hzs,hapo,hown,hsub⟩,f0,f7,f36,f37,f38,rfl⟩
   obtain⟨a,ha⟩:=yQ3 hlt
   obtain⟨w,hkw,hw⟩:=hys.get ha
   have hza:=hfit a (lMg ha)
   obtain⟨_,e1',hwD⟩:=hysD.mem hkw
   obtain rfl:=Option.some.inj (ha.symm.trans e1')
   obtain⟨t5,x5,t6,x6,rfl,k5,a5,j5D,k6,a6,j6D⟩:=hwD
   have j5:=j5D.1
   have j6:=j6D.1
   simp(config:=zzC)only[go_sem,f0,f7,f16,f36,f37,f38,lt_i hlt,yQ2 he,iNn,hkw,fits]
   refine (hF1 _).mono ?_
   rintro _ st2 ⟨t7,y7,rfl,k7,a7,hy7,hown7,hsub7⟩
   simp(config:=zzC)only[go_sem,f0,f7,f16,f36,f37,f38,fits]
   refine yU2 hown7 hy7.len j5.len hsub7 rfl (List.all_eq_true.2 (yXc j5)) (by show _*72≤_; have:=hza.2.1; omega) (by have:=hza.2.1; omega) fun t8 st3 hown8 hsub8 _ a8=>?_
   obtain⟨L,hL⟩:∃ L,L=y7++x5:=⟨_,rfl⟩
   have hLD:IsFmsD (yZf ca s a).l L:=hL▸hy7.append j5D
   have hLs:=hLD.1
   have aL:appT (yZf ca s a).l.length t8:=(a8 a7.1).to (by show (s.l++a.l).length=_; rw[lLa])
   have tL:=hown8.es
   rw[← hL]
   by_cases hca:ca=2
   ·have dca:decide ((ca:Int)=2)=true:=dEt (by omega)
    by_cases hr0:a.r.length=0
    ·simp(config:=zzC)only[go_sem,f0,f7,f16,f36,f37,f38,fits,dca,j6.len,hr0,show decide (((0:Nat):Int)=0)=true from rfl]
     refine (hF2 _).mono ?_
     rintro _ st4 ⟨t9,y9,rfl,k9,a9,hy9,hown9,hsub9⟩
     simp(config:=zzC)only[go_sem,f0,f7,f16,f36,f37,f38,fits]
     refine yU2 hown9 hy9.len j6.len hsub9 rfl (List.all_eq_true.2 (yXc j6)) (by show _*72≤_; have:=hza.2.2; omega) (by have:=hza.2.2; omega) fun t10 st5 hown10 hsub10 _ a10=>?_
     obtain⟨R,hR⟩:∃ R,R=y9++x6:=⟨_,rfl⟩
     have hRD:IsFmsD (yZf ca s a).r R:=by rw[hR]; unfold yZf; rw[if_pos (by omega)]; exact hy9.append j6D
     have hRs:=hRD.1
     have aR:appT (yZf ca s a).r.length t10:=(a10 a9.1).to (by unfold yZf; rw[if_pos (by omega),lLa])
     rw[← hR]
     have hown':=xVs hown (hsub8.trans hsub10)
     have hallA:∀ (h:okI ca s a=false),ad.all (okI ca s)=false:=fun h=>List.all_eq_false.2 ⟨a,lMg ha,by rw[h]; simp⟩
     by_cases hl64:(yZf ca s a).l.length≤64
     ·have dl:decide ((64:Int)<(((yZf ca s a).l.length:Nat):Int))=false:=dEf (by omega)
      by_cases hr64:(yZf ca s a).r.length≤64
      ·have dr:decide ((64:Int)<(((yZf ca s a).r.length:Nat):Int))=false:=dEf (by omega)
       have hok:okI ca s a=true:=by unfold okI; rw[dEt hl64,dEt hr64]; rfl
       simp(config:=zzC)only[go_sem,f0,f7,f16,f36,f37,f38,fits,hLs.len,hRs.len,dl,dr,yQ1]
       intros
       refine yX1 hown' (by rw[hzs.w.len,List.length_map,List.length_take]; omega) (hsub.trans (hsub8.trans hsub10)) rfl (by simp[fits,IV.one]) (by simp only; omega) (by omega) fun tg2 st6 hown2 hsub4 _ hap2=>?_
       simp(config:=zzC)only[go_sem,f0,f7,f16,f36,f37,f38,fits,yQa hlt (show ad.length≤281474976710656 by omega)]
       refine⟨by rw[yQ4 ha,List.all_append,hall]; simp[hok],tg2,_,rfl,?_,hap2,hown2,hsub4⟩
       rw[yQ4 ha,List.map_append]
       exact hzs.append ⟨_,_,rfl,⟨_,_,_,_,rfl,tL,aL,hLD,hown10.es,aR,hRD⟩,rfl⟩
      ·have dr:decide ((64:Int)<(((yZf ca s a).r.length:Nat):Int))=true:=dEt (by omega)
       simp(config:=zzC)only[go_sem,f0,f7,f16,f36,f37,f38,fits,hLs.len,hRs.len,dl,dr]
       intros
       refine yQ9 (hsub.trans (hsub8.trans hsub10)) ?_
       rw[hallA (by unfold okI; rw[dEf hr64,Bool.and_false])]
       exact⟨_,_,rfl,.inl rfl,.inl rfl,rfl,rfl⟩
     ·have dl:decide ((64:Int)<(((yZf ca s a).l.length:Nat):Int))=true:=dEt (by omega)
      simp(config:=zzC)only[go_sem,f0,f7,f16,f36,f37,f38,fits,hLs.len,hRs.len,dl]
      intros
      refine yQ9 (hsub.trans (hsub8.trans hsub10)) ?_
      rw[hallA (by unfold okI; rw[dEf hl64,Bool.false_and])]
      exact⟨_,_,rfl,.inl rfl,.inl rfl,rfl,rfl⟩
    ·simp(config:=zzC)only[go_sem,f0,f7,f16,f36,f37,f38,fits,dca,j6.len,show decide (((a.r.length:Nat):Int)=0)=false from dEf (by omega),hLs.len]
     intros
     have hRD:IsFmsD (yZf ca s a).r x6:=by unfold yZf; rw[if_neg (by omega)]; exact j6D
     have hRs:=hRD.1
     have aR:appT (yZf ca s a).r.length t6:=a6.to (by unfold yZf; rw[if_neg (by omega)])
     have hown':=xVs hown hsub8
     have hallA:∀ (h:okI ca s a=false),ad.all (okI ca s)=false:=fun h=>List.all_eq_false.2 ⟨a,lMg ha,by rw[h]; simp⟩
     by_cases hl64:(yZf ca s a).l.length≤64
     ·have dl:decide ((64:Int)<(((yZf ca s a).l.length:Nat):Int))=false:=dEf (by omega)
      by_cases hr64:(yZf ca s a).r.length≤64
      ·have dr:decide ((64:Int)<(((yZf ca s a).r.length:Nat):Int))=false:=dEf (by omega)
       have hok:okI ca s a=true:=by unfold okI; rw[dEt hl64,dEt hr64]; rfl
       simp(config:=zzC)only[go_sem,f0,f7,f16,f36,f37,f38,fits,hLs.len,hRs.len,dl,dr,yQ1]
       intros
       refine yX1 hown' (by rw[hzs.w.len,List.length_map,List.length_take]; omega) (hsub.trans hsub8) rfl (by simp[fits,IV.one]) (by simp only; omega) (by omega) fun tg2 st6 hown2 hsub4 _ hap2=>?_
       simp(config:=zzC)only[go_sem,f0,f7,f16,f36,f37,f38,fits,yQa hlt (show ad.length≤281474976710656 by omega)]
       refine⟨by rw[yQ4 ha,List.all_append,hall]; simp[hok],tg2,_,rfl,?_,hap2,hown2,hsub4⟩
       rw[yQ4 ha,List.map_append]
       exact hzs.append ⟨_,_,rfl,⟨_,_,_,_,rfl,tL,aL,hLD,k6,aR,hRD⟩,rfl⟩
      ·have dr:decide ((64:Int)<(((yZf ca s a).r.length:Nat):Int))=true:=dEt (by omega)
       simp(config:=zzC)only[go_sem,f0,f7,f16,f36,f37,f38,fits,hLs.len,hRs.len,dl,dr]
       intros
       refine yQ9 (hsub.trans hsub8) ?_
       rw[hallA (by unfold okI; rw[dEf hr64,Bool.and_false])]
       exact⟨_,_,rfl,.inl rfl,.inl rfl,rfl,rfl⟩
     ·have dl:decide ((64:Int)<(((yZf ca s a).l.length:Nat):Int))=true:=dEt (by omega)
      simp(config:=zzC)only[go_sem,f0,f7,f16,f36,f37,f38,fits,hLs.len,hRs.len,dl]
      intros
      refine yQ9 (hsub.trans hsub8) ?_
      rw[hallA (by unfold okI; rw[dEf hl64,Bool.false_and])]
      exact⟨_,_,rfl,.inl rfl,.inl rfl,rfl,rfl⟩
   ·have dca:decide ((ca:Int)=2)=false:=dEf (by omega)
    simp(config:=zzC)only[go_sem,f0,f7,f16,f36,f37,f38,fits,dca]
    refine (hF2 _).mono ?_
    rintro _ st4 ⟨t9,y9,rfl,k9,a9,hy9,hown9,hsub9⟩
    simp(config:=zzC)only[go_sem,f0,f7,f16,f36,f37,f38,fits]
    refine yU2 hown9 hy9.len j6.len hsub9 rfl (List.all_eq_true.2 (yXc j6)) (by show _*72≤_; have:=hza.2.2; omega) (by have:=hza.2.2; omega) fun t10 st5 hown10 hsub10 _ a10=>?_
    obtain⟨R,hR⟩:∃ R,R=y9++x6:=⟨_,rfl⟩
    have hRD:IsFmsD (yZf ca s a).r R:=by rw[hR]; unfold yZf; rw[if_pos (by omega)]; exact hy9.append j6D
    have hRs:=hRD.1
    have aR:appT (yZf ca s a).r.length t10:=(a10 a9.1).to (by unfold yZf; rw[if_pos (by omega),lLa])
    rw[← hR]
    have hown':=xVs hown (hsub8.trans hsub10)
    have hallA:∀ (h:okI ca s a=false),ad.all (okI ca s)=false:=fun h=>List.all_eq_false.2 ⟨a,lMg ha,by rw[h]; simp⟩
    by_cases hl64:(yZf ca s a).l.length≤64
    ·have dl:decide ((64:Int)<(((yZf ca s a).l.length:Nat):Int))=false:=dEf (by omega)
     by_cases hr64:(yZf ca s a).r.length≤64
     ·have dr:decide ((64:Int)<(((yZf ca s a).r.length:Nat):Int))=false:=dEf (by omega)
      have hok:okI ca s a=true:=by unfold okI; rw[dEt hl64,dEt hr64]; rfl
      simp(config:=zzC)only[go_sem,f0,f7,f16,f36,f37,f38,fits,hLs.len,hRs.len,dl,dr,yQ1]
      intros
      refine yX1 hown' (by rw[hzs.w.len,List.length_map,List.length_take]; omega) (hsub.trans (hsub8.trans hsub10)) rfl (by simp[fits,IV.one]) (by simp only; omega) (by omega) fun tg2 st6 hown2 hsub4 _ hap2=>?_
      simp(config:=zzC)only[go_sem,f0,f7,f16,f36,f37,f38,fits,yQa hlt (show ad.length≤281474976710656 by omega)]
      refine⟨by rw[yQ4 ha,List.all_append,hall]; simp[hok],tg2,_,rfl,?_,hap2,hown2,hsub4⟩
      rw[yQ4 ha,List.map_append]
      exact hzs.append ⟨_,_,rfl,⟨_,_,_,_,rfl,tL,aL,hLD,hown10.es,aR,hRD⟩,rfl⟩
     ·have dr:decide ((64:Int)<(((yZf ca s a).r.length:Nat):Int))=true:=dEt (by omega)
      simp(config:=zzC)only[go_sem,f0,f7,f16,f36,f37,f38,fits,hLs.len,hRs.len,dl,dr]
      intros
      refine yQ9 (hsub.trans (hsub8.trans hsub10)) ?_
      rw[hallA (by unfold okI; rw[dEf hr64,Bool.and_false])]
      exact⟨_,_,rfl,.inl rfl,.inl rfl,rfl,rfl⟩
    ·have dl:decide ((64:Int)<(((yZf ca s a).l.length:Nat):Int))=true:=dEt (by omega)
     simp(config:=zzC)only[go_sem,f0,f7,f16,f36,f37,f38,fits,hLs.len,hRs.len,dl]
     intros
     refine yQ9 (hsub.trans (hsub8.trans hsub10)) ?_
     rw[hallA (by unfold okI; rw[dEf hl64,Bool.false_and])]
     exact⟨_,_,rfl,.inl rfl,.inl rfl,rfl,rfl⟩
  ·rintro fr st1 _ ⟨hall,⟨tgo,zs,f16,hzs,hapo,hown,hsub⟩,f0,f7,f36,f37,f38,rfl⟩
   rw[lTl] at hall hzs
   simp(config:=zzC)only[go_sem,f16,f37,f38,yQm (nLi _),fits]
   rw[if_pos hall]
   exact yQ9 hsub ⟨_,_,rfl,hown.es,hapo.to (by rw[List.length_map]),hzs,rfl⟩
 ·have d0:decide ((er:Int)=0)=false:=dEf (by omega)
  simp(config:=zzC)only[go_sem,d0,fits]
  rw[if_pos h0]
  exact yQ0 ⟨_,_,rfl,.inl rfl,.inl rfl,rfl,rfl⟩
noncomputable def yGg (ca rule:Nat)(main:Fm)(term:Tm)(name:ByteArray):List Sq×Nat :=
 if !yX0 ca then ([],2) else match rowS ca rule with
  | none=>([],191)
  | some r=>yZm ca rule r main term name
theorem vQq (G:Gl gl)(T:Gt gl)(ca rule:Nat)(main:Fm)(y:IV)(hy:IsFm main y)(hm:main.size≤1000000)(term:Tm)(z:IV)(hz:IsTm term z)(ht:term.size≤1000000)(name:ByteArray)(st:ISt) :
  ICall prog gl 50 [.raw (.int .u8 ca),.raw (.int .u8 rule),y,z,.raw (.string name)] st (AdRD st (yGg ca rule main term name)):=by
 have hA:=fun r hr st=>wYq gl G T ca rule r hr main y hy hm term z hz ht name st
 have hkn:=fun st=>zU4 gl ca st
 obtain⟨o3,n3,t3,x3,t4,x4,rfl⟩:=hy.agg
 obtain⟨v,un,tz,xz,rfl⟩:=wJs hz
 unfold yGg
 refine iI func50 rfl rfl (by kernel_rfl) ?_
 simp(config:=zzC)only[go_sem,fits]
 refine (hkn _).mono ?_
 rintro _ st ⟨rfl,rfl⟩
 cases hk:yX0 ca
 ·simp(config:=zzC)only[go_sem,fits]
  exact yQ0 ⟨_,_,rfl,.inl rfl,.inl rfl,rfl,rfl⟩
 simp(config:=zzC)only[go_sem,fits]
 refine (wQc gl ca _).mono ?_
 rintro _ _ ⟨b,hb,rfl,rfl⟩
 cases hr:rowS ca rule with
 | none =>
  simp(config:=zzC)only[go_sem,ISt.put_same,yWy,hr,Option.map_none,zY7,fits]
  exact yQ9 (yQd hb) ⟨_,_,rfl,.inl rfl,.inl rfl,rfl,rfl⟩
 | some r =>
  have hcall:=hA r hr
  obtain⟨rl,rr,op,asks⟩:=r
  simp(config:=zzC)only[go_sem,ISt.put_same,yWy,hr,Option.map_some,zY6,rwI,fits]
  refine (hcall _).mono ?_
  rintro _ _ ⟨tg,xs,rfl,he,hap,hxs,rfl⟩
  simp(config:=zzC)only[go_sem,fits]
  exact yQ9 (yQd hb) ⟨_,_,rfl,he,hap,hxs,rfl⟩
theorem wYv (G:Gl gl)(T:Gt gl)(ca:Nat)(s:Sq)(x:IV)(hx:IsSq s x)(hs:yW9 s)(rule:Nat)(main:Fm)(y:IV)(hy:IsFm main y)(hm:main.size≤1000000)(term:Tm)(z:IV)(hz:IsTm term z)(ht:term.size≤1000000)(name:ByteArray)(st:ISt) :
  ICall prog gl 45 [.raw (.int .u8 ca),x,.raw (.int .u8 rule),y,z,.raw (.string name)] st (AdR st (zUs ca s rule main term name)) :=
 (wYu gl G T ca s x hx hs rule main y hy hm term z hz ht name st).mono AdRD.w
end Go.Proofs.Tryz
namespace Go.Proofs.Tryz
open Go Go.Iv
theorem wJ0 (ca rule:Nat)(r:Rw)(main:Fm)(term:Tm)(name:ByteArray):(yZm ca rule r main term name).2=0∨(yZm ca rule r main term name).2=192∨(yZm ca rule r main term name).2=193:=by
 unfold yZm
 split
 ·exact .inr (.inl rfl)
 ·simp only
  split
  ·exact .inl rfl
  ·generalize (if r.asks=2 then Tm.mk true name [] else term)=t
   split
   ·exact .inr (.inr rfl)
   ·split
    ·exact .inr (.inr rfl)
    ·exact .inl rfl
theorem yYo:∀ {l:List Tr}{a:Tr},a∈l→a.steps≤yQv l
 | b::l,a,h=>by
  simp only[yQv]
  rcases List.mem_cons.1 h with rfl | h
  ·omega
  ·have:=yYo h; omega
end Go.Proofs.Tryz
namespace Go.Proofs.Tryz
open Go Go.Iv
theorem wVh {a b:Fm}:eqF a b=true↔a.op=b.op∧a.right=true∧b.right=true∧dbF [] a=dbF [] b:=by
 unfold eqF yKc
 simp only[bAt,dTe,yQn,and_assoc]
theorem xWz {a:Fm}(h:a.right=true):eqF a a=true:=wVh.2 ⟨rfl,h,h,rfl⟩
theorem xZo {l:List Fm}{f:Fm}:hasF l f=true↔∃ g∈l,eqF f g=true:=by simp[hasF]
end Go.Proofs.Tryz
namespace Go.Proofs.Tryz
open Go Go.Iv
section
variable {ca rule:Nat}{s:Sq}{f:Fm}{u:Tm}{n:ByteArray}{sub:List Tr}(h:(yJv ca (.mk rule s f u n sub)).2=0)(h1:s.l.length<64)(h2:s.r.length<64)
include h h1 h2
end
end Go.Proofs.Tryz
namespace Go.Proofs.Tryz
open Go Go.Iv
section
variable {ca rule:Nat}{s:Sq}{f:Fm}{u:Tm}{n:ByteArray}{sub:List Tr}(h:(yJv ca (.mk rule s f u n sub)).2=0)
include h
end
end Go.Proofs.Tryz
namespace Go.Proofs.Tryz
open Go Go.Iv
theorem zZ2 {ca:Nat}{f:Fm}:fmB ca f=true↔f.ok=true∧f.size≤400∧f.deep≤40∧opsB ca f=true:=by
 unfold fmB Fm.right
 simp only[bAt,dTe,and_assoc]
end Go.Proofs.Tryz
namespace Go.Proofs.Tryz
open Go Go.Iv
theorem yYh {α:Type}{c:Prop} [Decidable c]{a r:α}{x:Option α}(h:(if c then some a else x)=some r):(c∧r=a)∨(¬c∧x=some r):=by
 by_cases hc:c
 ·rw[if_pos hc] at h; exact .inl ⟨hc,(Option.some.inj h).symm⟩
 ·rw[if_neg hc] at h; exact .inr ⟨hc,h⟩
theorem wKi {α:Type}{c:Prop} [Decidable c]{a b r:α}(h:(if c then a else b)=r):(c∧a=r)∨(¬c∧b=r):=by
 by_cases hc:c
 ·rw[if_pos hc] at h; exact .inl ⟨hc,h⟩
 ·rw[if_neg hc] at h; exact .inr ⟨hc,h⟩
theorem xQm {ca rule:Nat}{r:Rw}(h:rowS ca rule=some r):(rule=1∧r=⟨true,true,0,0⟩)∨(rule=2∧r=⟨true,false,2,0⟩)∨(rule=3∧r=⟨true,false,3,0⟩)∨(rule=4∧r=⟨false,true,3,0⟩)∨(rule=5∧r=⟨true,false,4,0⟩)∨(rule=6∧r=⟨false,true,4,0⟩) ∨
  (rule=7∧r=⟨true,false,5,0⟩)∨(rule=8∧r=⟨false,true,5,0⟩)∨(rule=9∧r=⟨true,false,6,0⟩)∨(rule=10∧r=⟨false,true,6,0⟩)∨(rule=11∧r=⟨true,false,7,0⟩)∨(rule=12∧r=⟨false,true,7,0⟩) ∨
  (rule=13∧r=⟨true,false,8,1⟩)∨(rule=14∧r=⟨false,true,8,2⟩)∨(rule=15∧r=⟨true,false,9,2⟩)∨(rule=16∧r=⟨false,true,9,1⟩)∨(rule=17∧r=⟨false,false,0,0⟩)∨(rule=18∧r=⟨false,true,5,0⟩):=by
 unfold rowS rowK at h
 rcases yYh h with⟨⟨hc,hr⟩,hq⟩ | ⟨_,h⟩
 ·subst hr; subst hq; simp
 rcases yYh h with⟨⟨hc,hr⟩,hq⟩ | ⟨_,h⟩
 ·subst hr; subst hq; simp
 rcases yYh h with⟨⟨hc,hr⟩,hq⟩ | ⟨_,h⟩
 ·subst hr; subst hq; simp
 rcases yYh h with⟨⟨hc,hr⟩,hq⟩ | ⟨_,h⟩
 ·subst hr; subst hq; simp
 rcases yYh h with⟨⟨hc,hr⟩,hq⟩ | ⟨_,h⟩
 ·subst hr; subst hq; simp
 rcases yYh h with⟨hr,hq⟩ | ⟨_,h⟩
 ·subst hr; subst hq; simp
 rcases yYh h with⟨hr,hq⟩ | ⟨_,h⟩
 ·subst hr; subst hq; simp
 rcases yYh h with⟨hr,hq⟩ | ⟨_,h⟩
 ·subst hr; subst hq; simp
 rcases yYh h with⟨hr,hq⟩ | ⟨_,h⟩
 ·subst hr; subst hq; simp
 rcases yYh h with⟨hr,hq⟩ | ⟨_,h⟩
 ·subst hr; subst hq; simp
 rcases yYh h with⟨hr,hq⟩ | ⟨_,h⟩
 ·subst hr; subst hq; simp
 rcases yYh h with⟨hr,hq⟩ | ⟨_,h⟩
 ·subst hr; subst hq; simp
 rcases yYh h with⟨hr,hq⟩ | ⟨_,h⟩
 ·subst hr; subst hq; simp
 rcases yYh h with⟨hr,hq⟩ | ⟨_,h⟩
 ·subst hr; subst hq; simp
 rcases yYh h with⟨hr,hq⟩ | ⟨_,h⟩
 ·subst hr; subst hq; simp
 rcases yYh h with⟨hr,hq⟩ | ⟨_,h⟩
 ·subst hr; subst hq; simp
 rcases yYh h with⟨hr,hq⟩ | ⟨_,h⟩
 ·subst hr; subst hq; simp
 rcases yYh h with⟨hr,hq⟩ | ⟨_,h⟩
 ·subst hr; subst hq; simp
 cases h
end Go.Proofs.Tryz
namespace Go.Proofs.Tryz
open Go Go.Iv
set_option maxRecDepth 4000
variable (gl:Nat→Option IV)
mutual
def opsR (ca:Nat):Fm→Bool
 | .mk op _ us sub=>(!decide (9<op)&&(!decide (7<op) || decide (ca=3))&&(!decide (op=1) || !decide (0<us.length) || decide (ca=3)))&&yUr ca sub
def yUr (ca:Nat):List Fm→Bool
 | []=>true
 | a::l=>opsR ca a&&yUr ca l
end
theorem xG4 {op:Nat}{n:ByteArray}{a b:Nat}(h:yZ6 op n a b=true):1≤op∧(op≠1→a=0):=by
 unfold yZ6 at h
 split at h
 all_goals (first | (simp only[bAt,dTe] at h; refine⟨by decide,fun h1=>?_⟩; first | exact absurd rfl h1 | exact h.1.2) | cases h)
mutual
theorem wQv (ca:Nat):∀ f:Fm,f.ok=true→opsR ca f=opsB ca f
 | .mk op n us sub,h=>by
  simp only[Fm.ok,bAt] at h
  obtain⟨h1,h2⟩:=xG4 h.1.1
  have ih:=xVu ca sub h.2
  simp only[opsR,opsB,ih]
  congr 1
  have hus:us.isEmpty=decide (us.length=0):=by cases us<;>simp
  rw[hus,Bool.eq_iff_iff]
  simp only[bAt,Bool.or_eq_true,Bool.not_eq_true',dTe,decide_eq_false_iff_not]
  by_cases hc:ca=3
  ·simp only[hc,if_true,or_true,and_true,true_or]; omega
  ·simp only[hc,if_false,or_false,false_or]
   by_cases ho:op=1
   ·simp only[ho,nTf,false_or]; omega
   ·have:=h2 ho
    simp only[ho,nFt,true_or,and_true,this]; omega
theorem xVu (ca:Nat):∀ l:List Fm,yKw l=true→yUr ca l=yYi ca l
 | [],_=>rfl
 | a::l,h=>by
  simp only[yKw,bAt] at h
  simp only[yUr,yYi,wQv ca a h.1,xVu ca l h.2]
end
theorem zXd (ca:Nat):∀ l m:List Fm,yUr ca (l++m)=(yUr ca l&&yUr ca m)
 | [],m=>by simp[yUr]
 | a::l,m=>by simp only[List.cons_append,yUr,zXd ca l m,Bool.and_assoc]
theorem xG3 {ca:Nat}{l:List Fm}{k:Nat}{a:Fm}(h:l[k]?=some a):yUr ca (l.take (k+1))=(yUr ca (l.take k)&&opsR ca a):=by
 rw[yQ4 h,zXd]; simp[yUr]
theorem wKm {ca:Nat}{l:List Fm}{a:Fm}(h:a∈l)(ha:opsR ca a=false):yUr ca l=false:=by
 induction l with
 | nil=>cases h
 | cons b l ih =>
  simp only[yUr]
  rcases List.mem_cons.1 h with rfl | h
  ·rw[ha]; rfl
  ·rw[ih h,Bool.and_false]
def roC (ca:Nat)(f:Fm):Prop:=∀ (x:IV) (_:IsFm f x) (_:f.size≤1099511627776) (st:ISt),ICall prog gl 111 [.raw (.int .u8 ca),x] st (fun r st'=>r=.raw (.bool (opsR ca f))∧st'=st)
theorem wKl (ca:Nat)(o:Nat)(n:ByteArray)(us:List Tm)(sub:List Fm)(IH:∀ a∈sub,roC gl ca a):roC gl ca (.mk o n us sub):=by
 intro x hx hs st
 obtain⟨t1,x1,t2,x2,rfl,ho,e1,i1,e2,i2⟩:=hx.mk
 simp only[Fm.size] at hs
 have hlsz:=yZ9 sub
 have d9:decide ((9:Int)<((o:Nat):Int))=decide (9<o):=by rw[decide_eq_decide]; omega
 have d7:decide ((7:Int)<((o:Nat):Int))=decide (7<o):=by rw[decide_eq_decide]; omega
 have d1:decide (((o:Nat):Int)=1)=decide (o=1):=by rw[decide_eq_decide]; omega
 have d3:decide (((ca:Nat):Int)=3)=decide (ca=3):=by rw[decide_eq_decide]; omega
 have du:decide ((0:Int)<((us.length:Nat):Int))=decide (0<us.length):=by rw[decide_eq_decide]; omega
 refine iI func111 rfl rfl (by kernel_rfl) ?_
 cases q9:decide (9<o)
 case true =>
  simp(config:=zzC)only[go_sem,fits,d9,q9]
  intros
  exact yQ0 ⟨by simp only[opsR,q9,Bool.not_true,Bool.false_and],rfl⟩
 cases q7:decide (7<o)<;>cases q3:decide (ca=3)<;>cases q1:decide (o=1)<;>cases qu:decide (0<us.length)
 all_goals
  first
   | (simp(config:=zzC)only[go_sem,fits,i1.len,d9,d7,d1,d3,du,q9,q7,q3,q1,qu]
      intros
      refine LoopC.ctr sub.length (fun k fr st' ds=>yUr ca (sub.take k)=true∧fr 0=.iv (.raw (.int .u8 ca))∧fr 3=.box [.raw (.int .u8 o),.raw (.string n),.sl t1 x1,.sl t2 x2]∧fr 5=.iv (.raw (.int .i64 k))∧st'=st∧ds=[]) ?_ ?_ ?_
      ·simp(config:=zzC)only[go_sem]
       exact⟨rfl,rfl⟩
      ·rintro k fr st1 _ hlt ⟨hk,f0,f3,f5,rfl,rfl⟩
       obtain⟨a,ha⟩:=yQ3 hlt
       obtain⟨z,hkz,hzz⟩:=i2.get ha
       obtain⟨h1,h2⟩:=yQr ha
       have hcall:=fun st=>IH a (lMg ha) z hzz (by omega) st
       obtain⟨o5,n5,t5,x5,t6,x6,rfl⟩:=hzz.agg
       simp(config:=zzC)only[go_sem,f0,f3,f5,i2.len,lt_i hlt,yQ2 e2,iNn,hkz,fits]
       intro _
       refine (hcall _).mono ?_
       rintro _ st2 ⟨rfl,rfl⟩
       cases hra:opsR ca a
       ·simp(config:=zzC)only[go_sem,f0,f3,f5,fits]
        exact yQ0 ⟨by simp only[opsR,wKm (lMg ha) hra,Bool.and_false],rfl⟩
       ·simp(config:=zzC)only[go_sem,f0,f3,f5,fits,yQa hlt (show sub.length≤281474976710656 by omega)]
        rw[xG3 ha,hk,hra]; rfl
      ·rintro fr st1 _ ⟨hk,f0,f3,f5,rfl,rfl⟩
       rw[lTl] at hk
       simp(config:=zzC)only[go_sem,f0,f3,f5,i2.len,yQm (nLi _)]
       intro _
       exact yQ0 ⟨by unfold opsR; rw[hk,q9,q7,q3,q1,qu]; rfl,rfl⟩
      done)
   | (simp(config:=zzC)only[go_sem,fits,i1.len,d9,d7,d1,d3,du,q9,q7,q3,q1,qu]
      intros
      exact yQ0 ⟨by unfold opsR; rw[q9,q7,q3,q1,qu]; rfl,rfl⟩)
theorem wQu (ca:Nat):∀ (k:Nat) (f:Fm),SizeOf.sizeOf f<k→roC gl ca f
 | 0,f,h=>by omega
 | k+1,.mk o n us sub,h=>wKl gl ca o n us sub (fun a ha=>wQu ca k a (by
   have:=lSm ha
   simp only[Fm.mk.sizeOf_spec] at h
   omega))
theorem wQn (ca:Nat)(f:Fm)(x:IV)(hx:IsFm f x)(hs:f.size≤1099511627776)(st:ISt):ICall prog gl 64 [.raw (.int .u8 ca),x] st (fun r st'=>r=.raw (.bool (fmB ca f))∧st'=st):=by
 have h1:=fun st=>zJ2 gl f x hx hs st
 have h2:=fun st=>wQu gl ca _ f (Nat.lt_succ_self _) x hx hs st
 unfold fmB
 obtain⟨o5,n5,t5,x5,t6,x6,rfl⟩:=hx.agg
 refine iI func64 rfl rfl (by kernel_rfl) ?_
 simp(config:=zzC)only[go_sem,fits]
 refine (h1 _).mono ?_
 rintro _ st ⟨rfl,rfl⟩
 cases hr:f.right
 ·simp(config:=zzC)only[go_sem,fits]
  exact yQ0 ⟨rfl,rfl⟩
 simp(config:=zzC)only[go_sem,fits]
 refine (h2 _).mono ?_
 rintro _ st ⟨rfl,rfl⟩
 simp(config:=zzC)only[go_sem,fits]
 exact yQ0 ⟨by rw[wQv ca f (yJp hr).1],rfl⟩
theorem wW4 {a b:Fm}(h:yKc a b=true):a.op=b.op:=by
 unfold yKc at h
 simp only[bAt] at h
 have:=yQn.1 h.2
 obtain⟨o,n,us,sub⟩:=a
 obtain⟨o',n',us',sub'⟩:=b
 simp only[dbF] at this
 split at this<;>split at this<;>simp only[NlF.mk.injEq] at this<;>exact this.1
theorem xZy (a b:Fm):eqF a b=yKc b a:=by
 unfold eqF
 rw[Bool.eq_iff_iff,bAt,dTe]
 have hs:∀ x y:Fm,yKc x y=true→yKc y x=true:=fun x y h=>by
  unfold yKc at h ⊢
  simp only[bAt] at h ⊢
  exact⟨⟨h.1.2,h.1.1⟩,yQn.2 (yQn.1 h.2).symm⟩
 exact⟨fun h=>hs _ _ h.2,fun h=>⟨(wW4 h).symm,hs _ _ h⟩⟩
theorem wWx (G:Gl gl)(l:List Fm)(tg:Tag)(xs:List IV)(htg:okEs tg 4)(hxs:IsFms l xs)(f:Fm)(y:IV)(hy:IsFm f y)(hl:fitL l)(hf:f.size≤1000000)(hlen:l.length≤1099511627776)(st:ISt) :
  ICall prog gl 34 [.sl tg xs,y] st (fun r st'=>r=.raw (.bool (hasF l f))∧st'=st):=by
 have hA:=fun g z hz (hg:g.size≤1000000) st=>xVl gl g f z y hz hy (by omega) (by omega) st
 obtain⟨o9,n9,t9,x9,t8,x8,rfl⟩:=hy.agg
 refine iI func34 rfl rfl (by kernel_rfl) ?_
 simp(config:=zzC)only[go_sem,fits]
 refine LoopC.ctr l.length (fun k fr st' ds=>hasF (l.take k) f=false∧fr 0=.iv (.sl tg xs)∧fr 3=.box [.raw (.int .u8 o9),.raw (.string n9),.sl t9 x9,.sl t8 x8]∧fr 5=.iv (.raw (.int .i64 k))∧st'=st∧ds=[]) ?_ ?_ ?_
 ·simp(config:=zzC)only[go_sem]
  exact⟨rfl,rfl⟩
 ·rintro k fr st1 _ hlt ⟨hk,f0,f3,f5,rfl,rfl⟩
  obtain⟨a,ha⟩:=yQ3 hlt
  have ham:=lMg ha
  obtain⟨z,hkz,hzz⟩:=hxs.get ha
  have hcall:=fun st=>hA a z hzz (hl a ham) st
  obtain⟨o5,n5,t5,x5,t6,x6,rfl⟩:=hzz.agg
  simp(config:=zzC)only[go_sem,f0,f3,f5,hxs.len,lt_i hlt,yQ2 htg,iNn,hkz,fits]
  intro _
  refine (hcall _).mono ?_
  rintro _ st2 ⟨rfl,rfl⟩
  rw[← xZy]
  cases hra:eqF f a
  ·simp(config:=zzC)only[go_sem,f0,f3,f5,fits,yQa hlt (show l.length≤281474976710656 by omega)]
   unfold hasF at hk ⊢
   rw[yQ4 ha,List.any_append,hk]
   simp[hra]
  ·simp(config:=zzC)only[go_sem,f0,f3,f5,fits]
   refine yQ0 ⟨?_,rfl⟩
   have:hasF l f=true:=xZo.2 ⟨a,ham,hra⟩
   rw[this]
 ·rintro fr st1 _ ⟨hk,f0,f3,f5,rfl,rfl⟩
  rw[lTl] at hk
  simp(config:=zzC)only[go_sem,f0,f3,f5,hxs.len,yQm (nLi _)]
  intro _
  exact yQ0 ⟨by rw[hk],rfl⟩
theorem yJ6 (t:Tag)(xs:List IV)(t':Tag)(ys:List IV)(st:ISt):ICall prog gl 65 [.sl t xs,.sl t' ys] st (fun r st'=>r=.agg [.sl t xs,.sl t' ys]∧st'=st):=by
 refine iI func65 rfl rfl (by kernel_rfl) ?_
 simp(config:=zzC)only[go_sem,fits]
 exact yQ0 ⟨rfl,rfl⟩
def yKj (ca rule:Nat)(x:IV):Prop:=match rowS ca rule with
 | some r=>x=.tup [.raw (.int .u8 r.op),.raw (.bool r.left),.raw (.bool r.right),.raw (.bool true)]
 | none=>∃ (o:Int) (a b:Bool),x=.tup [.raw (.int .u8 o),.raw (.bool a),.raw (.bool b),.raw (.bool false)]
end Go.Proofs.Tryz
namespace Go.Proofs.Tryz
open Go Go.Iv
section
variable (nm:ByteArray)(g:Fm)
mutual
def repF:Fm→Fm
 | .mk o n us sub=>if o=1∧n=nm∧us.length=0 then g else .mk o n us (wK6 sub)
def wK6:List Fm→List Fm
 | []=>[]
 | a::l=>repF a::wK6 l
end
def repS (s:Sq):Sq:=⟨wK6 nm g s.l,wK6 nm g s.r⟩
mutual
def repT:Tr→Tr
 | .mk rule s f u n sub=>.mk rule (repS nm g s) (repF nm g f) u n (vXm sub)
def vXm:List Tr→List Tr
 | []=>[]
 | a::l=>repT a::vXm l
end
end
section
variable {nm:ByteArray}{g:Fm}{ca:Nat}
end
theorem wU6 {op:Nat}{n:ByteArray}{us:List Tm}{sub:List Fm}(h:(Fm.mk op n us sub).ok=true):(op=3∨op=8∨op=9→sub.length=1)∧(op=4∨op=5∨op=6∨op=7→sub.length=2):=by
 simp only[Fm.ok,bAt] at h
 have h:=h.1.1
 constructor
 ·rintro (rfl | rfl | rfl)<;>simp only[yZ6,bAt,dTe] at h<;>exact h.2
 ·rintro (rfl | rfl | rfl | rfl)<;>simp only[yZ6,bAt,dTe] at h<;>exact h.2
section
variable {nm:ByteArray}{g:Fm}{ca:Nat}
mutual
def zZi:Tr→Bool
 | .mk _ _ _ u _ sub=>decide (u.size≤900000)&&zJ0 sub
def zJ0:List Tr→Bool
 | []=>true
 | a::l=>zZi a&&zJ0 l
end
end
end Go.Proofs.Tryz
namespace Go.Proofs.Tryz
open Go Go.Iv
set_option maxRecDepth 4000
variable (gl:Nat→Option IV)
theorem xUd (ca rule:Nat)(st:ISt):ICall prog gl 63 [.raw (.int .u8 ca),.raw (.int .u8 rule)] st (fun r st'=>yKj ca rule r∧st'=st):=by
 have d3:decide (((ca:Nat):Int)=3)=decide (ca=3):=by rw[decide_eq_decide]; omega
 have d2:decide (((ca:Nat):Int)=2)=decide (ca=2):=by rw[decide_eq_decide]; omega
 refine iI func63 rfl rfl (by kernel_rfl) ?_
 by_cases h1:rule=1
 ·have dt:decide (((rule:Nat):Int)=1)=true:=dEt (by omega)
  have ds:∀ j:Int,j≠1→decide (((rule:Nat):Int)=j)=false:=fun j hj=>dEf (by omega)
  simp(config:=zzC)only[go_sem,dt,ds,d3,d2,Int.reduceNe,ne_eq,nFt,nTf,Int.reduceEq]
  refine yQ0 ⟨?_,rfl⟩
  have:rowS ca rule=some ⟨true,true,0,0⟩:=by rw[h1]; unfold rowS rowK; simp
  unfold yKj
  rw[this]
  rfl
 by_cases h2:rule=2
 ·have dt:decide (((rule:Nat):Int)=2)=true:=dEt (by omega)
  have ds:∀ j:Int,j≠2→decide (((rule:Nat):Int)=j)=false:=fun j hj=>dEf (by omega)
  simp(config:=zzC)only[go_sem,dt,ds,d3,d2,Int.reduceNe,ne_eq,nFt,nTf,Int.reduceEq]
  refine yQ0 ⟨?_,rfl⟩
  have:rowS ca rule=some ⟨true,false,2,0⟩:=by rw[h2]; unfold rowS rowK; simp
  unfold yKj
  rw[this]
  rfl
 by_cases h3:rule=3
 ·have dt:decide (((rule:Nat):Int)=3)=true:=dEt (by omega)
  have ds:∀ j:Int,j≠3→decide (((rule:Nat):Int)=j)=false:=fun j hj=>dEf (by omega)
  simp(config:=zzC)only[go_sem,dt,ds,d3,d2,Int.reduceNe,ne_eq,nFt,nTf,Int.reduceEq]
  refine yQ0 ⟨?_,rfl⟩
  have:rowS ca rule=some ⟨true,false,3,0⟩:=by rw[h3]; unfold rowS rowK; simp
  unfold yKj
  rw[this]
  rfl
 by_cases h4:rule=4
 ·have dt:decide (((rule:Nat):Int)=4)=true:=dEt (by omega)
  have ds:∀ j:Int,j≠4→decide (((rule:Nat):Int)=j)=false:=fun j hj=>dEf (by omega)
  simp(config:=zzC)only[go_sem,dt,ds,d3,d2,Int.reduceNe,ne_eq,nFt,nTf,Int.reduceEq]
  refine yQ0 ⟨?_,rfl⟩
  have:rowS ca rule=some ⟨false,true,3,0⟩:=by rw[h4]; unfold rowS rowK; simp
  unfold yKj
  rw[this]
  rfl
 by_cases h5:rule=5
 ·have dt:decide (((rule:Nat):Int)=5)=true:=dEt (by omega)
  have ds:∀ j:Int,j≠5→decide (((rule:Nat):Int)=j)=false:=fun j hj=>dEf (by omega)
  simp(config:=zzC)only[go_sem,dt,ds,d3,d2,Int.reduceNe,ne_eq,nFt,nTf,Int.reduceEq]
  refine yQ0 ⟨?_,rfl⟩
  have:rowS ca rule=some ⟨true,false,4,0⟩:=by rw[h5]; unfold rowS rowK; simp
  unfold yKj
  rw[this]
  rfl
 by_cases h6:rule=6
 ·have dt:decide (((rule:Nat):Int)=6)=true:=dEt (by omega)
  have ds:∀ j:Int,j≠6→decide (((rule:Nat):Int)=j)=false:=fun j hj=>dEf (by omega)
  simp(config:=zzC)only[go_sem,dt,ds,d3,d2,Int.reduceNe,ne_eq,nFt,nTf,Int.reduceEq]
  refine yQ0 ⟨?_,rfl⟩
  have:rowS ca rule=some ⟨false,true,4,0⟩:=by rw[h6]; unfold rowS rowK; simp
  unfold yKj
  rw[this]
  rfl
 by_cases h7:rule=7
 ·have dt:decide (((rule:Nat):Int)=7)=true:=dEt (by omega)
  have ds:∀ j:Int,j≠7→decide (((rule:Nat):Int)=j)=false:=fun j hj=>dEf (by omega)
  simp(config:=zzC)only[go_sem,dt,ds,d3,d2,Int.reduceNe,ne_eq,nFt,nTf,Int.reduceEq]
  refine yQ0 ⟨?_,rfl⟩
  have:rowS ca rule=some ⟨true,false,5,0⟩:=by rw[h7]; unfold rowS rowK; simp
  unfold yKj
  rw[this]
  rfl
 by_cases h8:rule=8
 ·have dt:decide (((rule:Nat):Int)=8)=true:=dEt (by omega)
  have ds:∀ j:Int,j≠8→decide (((rule:Nat):Int)=j)=false:=fun j hj=>dEf (by omega)
  simp(config:=zzC)only[go_sem,dt,ds,d3,d2,Int.reduceNe,ne_eq,nFt,nTf,Int.reduceEq]
  refine yQ0 ⟨?_,rfl⟩
  have:rowS ca rule=some ⟨false,true,5,0⟩:=by rw[h8]; unfold rowS rowK; simp
  unfold yKj
  rw[this]
  rfl
 by_cases h9:rule=9
 ·have dt:decide (((rule:Nat):Int)=9)=true:=dEt (by omega)
  have ds:∀ j:Int,j≠9→decide (((rule:Nat):Int)=j)=false:=fun j hj=>dEf (by omega)
  simp(config:=zzC)only[go_sem,dt,ds,d3,d2,Int.reduceNe,ne_eq,nFt,nTf,Int.reduceEq]
  refine yQ0 ⟨?_,rfl⟩
  have:rowS ca rule=some ⟨true,false,6,0⟩:=by rw[h9]; unfold rowS rowK; simp
  unfold yKj
  rw[this]
  rfl
 by_cases h10:rule=10
 ·have dt:decide (((rule:Nat):Int)=10)=true:=dEt (by omega)
  have ds:∀ j:Int,j≠10→decide (((rule:Nat):Int)=j)=false:=fun j hj=>dEf (by omega)
  simp(config:=zzC)only[go_sem,dt,ds,d3,d2,Int.reduceNe,ne_eq,nFt,nTf,Int.reduceEq]
  refine yQ0 ⟨?_,rfl⟩
  have:rowS ca rule=some ⟨false,true,6,0⟩:=by rw[h10]; unfold rowS rowK; simp
  unfold yKj
  rw[this]
  rfl
 by_cases h11:rule=11
 ·have dt:decide (((rule:Nat):Int)=11)=true:=dEt (by omega)
  have ds:∀ j:Int,j≠11→decide (((rule:Nat):Int)=j)=false:=fun j hj=>dEf (by omega)
  simp(config:=zzC)only[go_sem,dt,ds,d3,d2,Int.reduceNe,ne_eq,nFt,nTf,Int.reduceEq]
  refine yQ0 ⟨?_,rfl⟩
  have:rowS ca rule=some ⟨true,false,7,0⟩:=by rw[h11]; unfold rowS rowK; simp
  unfold yKj
  rw[this]
  rfl
 by_cases h12:rule=12
 ·have dt:decide (((rule:Nat):Int)=12)=true:=dEt (by omega)
  have ds:∀ j:Int,j≠12→decide (((rule:Nat):Int)=j)=false:=fun j hj=>dEf (by omega)
  simp(config:=zzC)only[go_sem,dt,ds,d3,d2,Int.reduceNe,ne_eq,nFt,nTf,Int.reduceEq]
  refine yQ0 ⟨?_,rfl⟩
  have:rowS ca rule=some ⟨false,true,7,0⟩:=by rw[h12]; unfold rowS rowK; simp
  unfold yKj
  rw[this]
  rfl
 by_cases h13:rule=13
 ·have dt:decide (((rule:Nat):Int)=13)=true:=dEt (by omega)
  have ds:∀ j:Int,j≠13→decide (((rule:Nat):Int)=j)=false:=fun j hj=>dEf (by omega)
  by_cases hc:ca=3
  ·have dc:decide (((ca:Nat):Int)=3)=true:=dEt (by omega)
   simp(config:=zzC)only[go_sem,dt,ds,dc,Int.reduceNe,ne_eq,nFt,nTf,Int.reduceEq]
   refine yQ0 ⟨?_,rfl⟩
   have:rowS ca rule=some ⟨true,false,8,1⟩:=by rw[h13,hc]; rfl
   unfold yKj
   rw[this]
   rfl
  ·have dc:∀ j:Int,((ca:Nat):Int)≠j→decide (((ca:Nat):Int)=j)=false:=fun j hj=>dEf hj
   have hc':((ca:Nat):Int)≠3:=by omega
   simp(config:=zzC)only[go_sem,dt,ds,dc _ hc',Int.reduceNe,ne_eq,nFt,nTf,Int.reduceEq]
   refine yQ0 ⟨?_,rfl⟩
   have:rowS ca rule=none:=by
    rw[h13]
    unfold rowS rowK
    simp[hc]
   unfold yKj
   rw[this]
   exact⟨_,_,_,rfl⟩
 by_cases h14:rule=14
 ·have dt:decide (((rule:Nat):Int)=14)=true:=dEt (by omega)
  have ds:∀ j:Int,j≠14→decide (((rule:Nat):Int)=j)=false:=fun j hj=>dEf (by omega)
  by_cases hc:ca=3
  ·have dc:decide (((ca:Nat):Int)=3)=true:=dEt (by omega)
   simp(config:=zzC)only[go_sem,dt,ds,dc,Int.reduceNe,ne_eq,nFt,nTf,Int.reduceEq]
   refine yQ0 ⟨?_,rfl⟩
   have:rowS ca rule=some ⟨false,true,8,2⟩:=by rw[h14,hc]; rfl
   unfold yKj
   rw[this]
   rfl
  ·have dc:∀ j:Int,((ca:Nat):Int)≠j→decide (((ca:Nat):Int)=j)=false:=fun j hj=>dEf hj
   have hc':((ca:Nat):Int)≠3:=by omega
   simp(config:=zzC)only[go_sem,dt,ds,dc _ hc',Int.reduceNe,ne_eq,nFt,nTf,Int.reduceEq]
   refine yQ0 ⟨?_,rfl⟩
   have:rowS ca rule=none:=by
    rw[h14]
    unfold rowS rowK
    simp[hc]
   unfold yKj
   rw[this]
   exact⟨_,_,_,rfl⟩
 by_cases h15:rule=15
 ·have dt:decide (((rule:Nat):Int)=15)=true:=dEt (by omega)
  have ds:∀ j:Int,j≠15→decide (((rule:Nat):Int)=j)=false:=fun j hj=>dEf (by omega)
  by_cases hc:ca=3
  ·have dc:decide (((ca:Nat):Int)=3)=true:=dEt (by omega)
   simp(config:=zzC)only[go_sem,dt,ds,dc,Int.reduceNe,ne_eq,nFt,nTf,Int.reduceEq]
   refine yQ0 ⟨?_,rfl⟩
   have:rowS ca rule=some ⟨true,false,9,2⟩:=by rw[h15,hc]; rfl
   unfold yKj
   rw[this]
   rfl
  ·have dc:∀ j:Int,((ca:Nat):Int)≠j→decide (((ca:Nat):Int)=j)=false:=fun j hj=>dEf hj
   have hc':((ca:Nat):Int)≠3:=by omega
   simp(config:=zzC)only[go_sem,dt,ds,dc _ hc',Int.reduceNe,ne_eq,nFt,nTf,Int.reduceEq]
   refine yQ0 ⟨?_,rfl⟩
   have:rowS ca rule=none:=by
    rw[h15]
    unfold rowS rowK
    simp[hc]
   unfold yKj
   rw[this]
   exact⟨_,_,_,rfl⟩
 by_cases h16:rule=16
 ·have dt:decide (((rule:Nat):Int)=16)=true:=dEt (by omega)
  have ds:∀ j:Int,j≠16→decide (((rule:Nat):Int)=j)=false:=fun j hj=>dEf (by omega)
  by_cases hc:ca=3
  ·have dc:decide (((ca:Nat):Int)=3)=true:=dEt (by omega)
   simp(config:=zzC)only[go_sem,dt,ds,dc,Int.reduceNe,ne_eq,nFt,nTf,Int.reduceEq]
   refine yQ0 ⟨?_,rfl⟩
   have:rowS ca rule=some ⟨false,true,9,1⟩:=by rw[h16,hc]; rfl
   unfold yKj
   rw[this]
   rfl
  ·have dc:∀ j:Int,((ca:Nat):Int)≠j→decide (((ca:Nat):Int)=j)=false:=fun j hj=>dEf hj
   have hc':((ca:Nat):Int)≠3:=by omega
   simp(config:=zzC)only[go_sem,dt,ds,dc _ hc',Int.reduceNe,ne_eq,nFt,nTf,Int.reduceEq]
   refine yQ0 ⟨?_,rfl⟩
   have:rowS ca rule=none:=by
    rw[h16]
    unfold rowS rowK
    simp[hc]
   unfold yKj
   rw[this]
   exact⟨_,_,_,rfl⟩
 by_cases h17:rule=17
 ·have dt:decide (((rule:Nat):Int)=17)=true:=dEt (by omega)
  have ds:∀ j:Int,j≠17→decide (((rule:Nat):Int)=j)=false:=fun j hj=>dEf (by omega)
  simp(config:=zzC)only[go_sem,dt,ds,d3,d2,Int.reduceNe,ne_eq,nFt,nTf,Int.reduceEq]
  refine yQ0 ⟨?_,rfl⟩
  have:rowS ca rule=some ⟨false,false,0,0⟩:=by rw[h17]; unfold rowS rowK; simp
  unfold yKj
  rw[this]
  rfl
 by_cases h18:rule=18
 ·have dt:decide (((rule:Nat):Int)=18)=true:=dEt (by omega)
  have ds:∀ j:Int,j≠18→decide (((rule:Nat):Int)=j)=false:=fun j hj=>dEf (by omega)
  by_cases hc:ca=2
  ·have dc:decide (((ca:Nat):Int)=2)=true:=dEt (by omega)
   simp(config:=zzC)only[go_sem,dt,ds,dc,Int.reduceNe,ne_eq,nFt,nTf,Int.reduceEq]
   refine yQ0 ⟨?_,rfl⟩
   have:rowS ca rule=some ⟨false,true,5,0⟩:=by rw[h18,hc]; rfl
   unfold yKj
   rw[this]
   rfl
  ·have dc:∀ j:Int,((ca:Nat):Int)≠j→decide (((ca:Nat):Int)=j)=false:=fun j hj=>dEf hj
   have hc':((ca:Nat):Int)≠2:=by omega
   simp(config:=zzC)only[go_sem,dt,ds,dc _ hc',Int.reduceNe,ne_eq,nFt,nTf,Int.reduceEq]
   refine yQ0 ⟨?_,rfl⟩
   have:rowS ca rule=none:=by
    rw[h18]
    unfold rowS rowK
    simp[hc]
   unfold yKj
   rw[this]
   exact⟨_,_,_,rfl⟩
 have ds:∀ j:Int,1≤j→j≤18→decide (((rule:Nat):Int)=j)=false:=fun j h1 h2=>dEf (by omega)
 simp(config:=zzC)only[go_sem,ds 1 (by decide) (by decide),ds 2 (by decide) (by decide),ds 3 (by decide) (by decide),ds 4 (by decide) (by decide),ds 5 (by decide) (by decide),ds 6 (by decide) (by decide),ds 7 (by decide) (by decide),ds 8 (by decide) (by decide),ds 9 (by decide) (by decide),ds 10 (by decide) (by decide),ds 11 (by decide) (by decide),ds 12 (by decide) (by decide),ds 13 (by decide) (by decide),ds 14 (by decide) (by decide),ds 15 (by decide) (by decide),ds 16 (by decide) (by decide),ds 17 (by decide) (by decide),ds 18 (by decide) (by decide)]
 refine yQ0 ⟨?_,rfl⟩
 have:rowS ca rule=none:=by
  unfold rowS rowK
  simp[h1,h2,h3,h4,h5,h6,h7,h8,h9,h10,h11,h12,h13,h14,h15,h16,h17,h18]
 unfold yKj
 rw[this]
 exact⟨_,_,_,rfl⟩
theorem wQj (l:List Fm)(tg:Tag)(xs:List IV)(htg:okEs tg 4)(hxs:IsFms l xs)(n:ByteArray)(hl:fitL l)(hlen:l.length≤1099511627776)(st:ISt) :
  ICall prog gl 154 [.sl tg xs,.raw (.string n)] st (fun r st'=>r=.raw (.bool (l.any fun f=>memB (frF f) n))∧st'=st):=by
 refine iI func154 rfl rfl (by kernel_rfl) ?_
 simp(config:=zzC)only[go_sem,fits]
 refine LoopC.ctr l.length (fun k fr st' ds=>((l.take k).any fun f=>memB (frF f) n)=false∧fr 0=.iv (.sl tg xs)∧fr 1=.iv (.raw (.string n))∧fr 5=.iv (.raw (.int .i64 k))∧st'=st∧ds=[]) ?_ ?_ ?_
 ·simp(config:=zzC)only[go_sem]
  exact⟨rfl,rfl⟩
 ·rintro k fr st1 _ hlt ⟨hk,f0,f1,f5,rfl,rfl⟩
  obtain⟨a,ha⟩:=yQ3 hlt
  have ham:=lMg ha
  obtain⟨z,hkz,hzz⟩:=hxs.get ha
  have hsz:=hl a ham
  have hcall:=fun st=>wQm gl a z hzz (by omega) st
  obtain⟨o5,n5,t5,x5,t6,x6,rfl⟩:=hzz.agg
  simp(config:=zzC)only[go_sem,f0,f1,f5,hxs.len,lt_i hlt,yQ2 htg,iNn,hkz,fits]
  intro _
  refine (hcall _).mono ?_
  rintro _ st2 ⟨tg5,m,rfl,htg5,hso,rfl⟩
  have hml:m.length≤140737488355328:=by
   have h1:=zZl hso.1 (fun x hx=>(hso.2 x).1 hx)
   have h2:=zKw a
   omega
  have hHas:=fun st=>xU7 gl tg5 m n htg5 hml st
  simp(config:=zzC)only[go_sem,f0,f1,f5,fits]
  refine (hHas _).mono ?_
  rintro _ st2 ⟨rfl,rfl⟩
  have he:hasB m n=memB (frF a) n:=by
   rw[Bool.eq_iff_iff,yX2,← hso.2]
   exact zKq
  rw[he]
  cases hra:memB (frF a) n
  ·simp(config:=zzC)only[go_sem,f0,f1,f5,fits,yQa hlt (show l.length≤281474976710656 by omega)]
   rw[yQ4 ha,List.any_append,hk]
   simp[hra]
  ·simp(config:=zzC)only[go_sem,f0,f1,f5,fits]
   refine yQ0 ⟨?_,rfl⟩
   have:(l.any fun f=>memB (frF f) n)=true:=List.any_eq_true.2 ⟨a,ham,hra⟩
   rw[this]
 ·rintro fr st1 _ ⟨hk,f0,f1,f5,rfl,rfl⟩
  rw[lTl] at hk
  simp(config:=zzC)only[go_sem,f0,f1,f5,hxs.len,yQm (nLi _)]
  intro _
  exact yQ0 ⟨by rw[hk],rfl⟩
theorem xGr (r:List Fm):zZx r=r.all (yKc ((r[0]?).getD fm0)):=by
 cases r with
 | nil=>rfl
 | cons a l =>
  show ((a::l).all fun f=>eqF f a)=(a::l).all (yKc a)
  congr 1
  funext f
  exact xZy f a
def qV (ca:Nat)(hd f:Fm):Prop:=fmB ca f=true∧(ca=2→yKc hd f=true)
theorem zZh {ca:Nat}{s:Sq}:yXl ca s=true↔yX0 ca=true∧s.l.length≤64∧s.r.length≤64∧(∀ f∈s.l,fmB ca f=true)∧∀ f∈s.r,qV ca ((s.r[0]?).getD fm0) f:=by
 unfold yXl qV
 rw[xGr]
 simp only[bAt,Bool.or_eq_true,dTe,List.all_eq_true]
 constructor
 ·rintro⟨⟨⟨⟨⟨h1,h2⟩,h3⟩,h4⟩,h5⟩,h6⟩
  exact⟨h1,h2,h3,h4,fun f hf=>⟨h5 f hf,fun hc=>h6.resolve_left (fun h=>h hc) f hf⟩⟩
 ·rintro⟨h1,h2,h3,h4,h5⟩
  refine⟨⟨⟨⟨⟨h1,h2⟩,h3⟩,h4⟩,fun f hf=>(h5 f hf).1⟩,?_⟩
  by_cases hc:ca=2
  ·exact .inr fun f hf=>(h5 f hf).2 hc
  ·exact .inl hc
theorem yVa {ca:Nat}{s:Sq}(h:¬ (yX0 ca=true∧s.l.length≤64∧s.r.length≤64∧(∀ f∈s.l,fmB ca f=true)∧∀ f∈s.r,qV ca ((s.r[0]?).getD fm0) f)):yXl ca s=false:=by
 cases hv:yXl ca s
 ·rfl
 ·exact absurd (zZh.1 hv) h
set_option maxHeartbeats 1000000 in
theorem wKc (ca:Nat)(s:Sq)(x:IV)(hx:IsSq s x)(hs:yW9 s)(st:ISt):ICall prog gl 32 [.raw (.int .u8 ca),x] st (fun r st'=>r=.raw (.bool (yXl ca s))∧st'=st):=by
 have hF:=fun f z hz (hf:f.size≤1000000) st=>wQn gl ca f z hz (by omega) st
 have hAl:=fun f g z w hz hw (hf:f.size≤1000000) (hg:g.size≤1000000) st=>xVl gl f g z w hz hw hf hg st
 obtain⟨l,r⟩:=s
 obtain⟨t1,x1,t2,x2,rfl,e1,i1,e2,i2⟩:=hx
 simp only[yW9] at hs i1 i2
 obtain⟨hl,hr⟩:=hs
 have k1:decide (((ca:Nat):Int)<1)=decide (ca<1):=by rw[decide_eq_decide]; omega
 have k2:decide ((3:Int)<((ca:Nat):Int))=decide (3<ca):=by rw[decide_eq_decide]; omega
 have k3:decide ((64:Int)<((l.length:Nat):Int))=decide (64<l.length):=by rw[decide_eq_decide]; omega
 have k4:decide ((64:Int)<((r.length:Nat):Int))=decide (64<r.length):=by rw[decide_eq_decide]; omega
 have k5:decide (((ca:Nat):Int)=2)=decide (ca=2):=by rw[decide_eq_decide]; omega
 have hkn:∀ h:ca<1∨3<ca,¬ yX0 ca=true:=fun h hk=>by
  simp only[yX0,bAt,dTe] at hk; omega
 refine iI func32 rfl rfl (by kernel_rfl) ?_
 cases q1:decide (ca<1)
 case true =>
  simp(config:=zzC)only[go_sem,fits,k1,q1]
  intros
  exact yQ0 ⟨by rw[yVa fun h=>hkn (.inl (of_decide_eq_true q1)) h.1],rfl⟩
 cases q2:decide (3<ca)
 case true =>
  simp(config:=zzC)only[go_sem,fits,k1,k2,q1,q2]
  intros
  exact yQ0 ⟨by rw[yVa fun h=>hkn (.inr (of_decide_eq_true q2)) h.1],rfl⟩
 cases q3:decide (64<l.length)
 case true =>
  simp(config:=zzC)only[go_sem,fits,k1,k2,k3,q1,q2,q3,i1.len]
  intros
  exact yQ0 ⟨by rw[yVa fun h=>by have:=h.2.1; have:=of_decide_eq_true q3; simp only at *; omega],rfl⟩
 cases q4:decide (64<r.length)
 case true =>
  simp(config:=zzC)only[go_sem,fits,k1,k2,k3,k4,q1,q2,q3,q4,i1.len,i2.len]
  intros
  exact yQ0 ⟨by rw[yVa fun h=>by have:=h.2.2.1; have:=of_decide_eq_true q4; simp only at *; omega],rfl⟩
 have hk:yX0 ca=true:=by
  have:=of_decide_eq_false q1
  have:=of_decide_eq_false q2
  simp only[yX0,bAt,dTe]; omega
 have hll:l.length≤64:=by have:=of_decide_eq_false q3; omega
 have hlr:r.length≤64:=by have:=of_decide_eq_false q4; omega
 simp(config:=zzC)only[go_sem,fits,k1,k2,k3,k4,q1,q2,q3,q4,i1.len,i2.len]
 intros
 refine LoopC.ctr l.length (fun k fr st' ds=>(∀ f∈l.take k,fmB ca f=true)∧fr 0=.iv (.raw (.int .u8 ca))∧fr 3=.box [.sl t1 x1,.sl t2 x2]∧fr 5=.iv (.raw (.int .i64 k))∧st'=st∧ds=[]) ?_ ?_ ?_
 ·simp(config:=zzC)only[go_sem]
  exact⟨fun f hf=>by simp at hf,rfl⟩
 ·rintro k fr st1 _ hlt ⟨hkk,f0,f3,f5,rfl,rfl⟩
  obtain⟨a,ha⟩:=yQ3 hlt
  have ham:=lMg ha
  obtain⟨z,hkz,hzz⟩:=i1.get ha
  have hcall:=fun st=>hF a z hzz (hl a ham) st
  obtain⟨o5,n5,t5,x5,t6,x6,rfl⟩:=hzz.agg
  simp(config:=zzC)only[go_sem,f0,f3,f5,i1.len,lt_i hlt,yQ2 e1,iNn,hkz,fits]
  intro _
  refine (hcall _).mono ?_
  rintro _ st2 ⟨rfl,rfl⟩
  cases hra:fmB ca a
  ·simp(config:=zzC)only[go_sem,f0,f3,f5,fits]
   exact yQ0 ⟨by rw[yVa fun h=>by have:=h.2.2.2.1 a ham; rw[hra] at this; cases this],rfl⟩
  ·simp(config:=zzC)only[go_sem,f0,f3,f5,fits,yQa hlt (show l.length≤281474976710656 by omega)]
   intro f hf
   rw[yQ4 ha] at hf
   rcases List.mem_append.1 hf with hf | hf
   ·exact hkk f hf
   ·rw[List.mem_singleton.1 hf]; exact hra
 ·rintro fr st1 _ ⟨hkl,f0,f3,f5,rfl,rfl⟩
  rw[lTl] at hkl
  simp(config:=zzC)only[go_sem,f0,f3,f5,i1.len,yQm (nLi _)]
  intro _
  refine LoopC.ctr r.length (fun k fr st' ds=>(∀ f∈r.take k,qV ca ((r[0]?).getD fm0) f)∧fr 0=.iv (.raw (.int .u8 ca))∧fr 3=.box [.sl t1 x1,.sl t2 x2]∧fr 6=.iv (.raw (.int .i64 k))∧st'=st1∧ds=[]) ?_ ?_ ?_
  ·simp(config:=zzC)only[go_sem,f0,f3]
   exact⟨fun f hf=>by simp at hf,rfl⟩
  ·rintro k fr st1 _ hlt ⟨hkk,f0,f3,f6,rfl,rfl⟩
   obtain⟨a,ha⟩:=yQ3 hlt
   have ham:=lMg ha
   obtain⟨z,hkz,hzz⟩:=i2.get ha
   obtain⟨b,hb⟩:=yQ3 (show 0<r.length by omega)
   obtain⟨zb,hkb,hzb⟩:=i2.get hb
   have hbm:=lMg hb
   have hcall:=fun st=>hF a z hzz (hr a ham) st
   have hcal2:=fun st=>hAl b a zb z hzb hzz (hr b hbm) (hr a ham) st
   have hhd:(r[0]?).getD fm0=b:=by rw[hb]; rfl
   rw[hhd] at hkk ⊢
   have hbad:∀ h:¬ qV ca b a,yXl ca ⟨l,r⟩=false:=fun h=>yVa fun h'=>h (by have:=h'.2.2.2.2 a ham; rwa [hhd] at this)
   have hgood:qV ca b a→∀ f∈r.take (k+1),qV ca b f:=fun h f hf=>by
    rw[yQ4 ha] at hf
    rcases List.mem_append.1 hf with hf | hf
    ·exact hkk f hf
    ·rw[List.mem_singleton.1 hf]; exact h
   obtain⟨o5,n5,t5,x5,t6,x6,rfl⟩:=hzz.agg
   obtain⟨o7,n7,t7,x7,t8,x8,rfl⟩:=hzb.agg
   simp(config:=zzC)only[go_sem,f0,f3,f6,i2.len,lt_i hlt,yQ2 e2,iNn,hkz,fits]
   intro _
   refine (hcall _).mono ?_
   rintro _ st2 ⟨rfl,rfl⟩
   cases hra:fmB ca a
   ·simp(config:=zzC)only[go_sem,f0,f3,f6,fits]
    exact yQ0 ⟨by rw[hbad fun h=>by rw[h.1] at hra; cases hra],rfl⟩
   ·cases q5:decide (ca=2)
    ·simp(config:=zzC)only[go_sem,f0,f3,f6,fits,k5,q5,yQa hlt (show r.length≤281474976710656 by omega)]
     exact hgood ⟨hra,fun h=>absurd h (of_decide_eq_false q5)⟩
    ·simp(config:=zzC)only[go_sem,f0,f3,f6,fits,k5,q5,i2.len,yQ2 e2,iNn,hkz,hkb,Int.le_refl,Int.toNat_zero]
     intros
     refine (hcal2 _).mono ?_
     rintro _ st2 ⟨rfl,rfl⟩
     cases hrb:yKc b a
     ·simp(config:=zzC)only[go_sem,f0,f3,f6,fits]
      exact yQ0 ⟨by rw[hbad fun h=>by rw[h.2 (of_decide_eq_true q5)] at hrb; cases hrb],rfl⟩
     ·simp(config:=zzC)only[go_sem,f0,f3,f6,fits,yQa hlt (show r.length≤281474976710656 by omega)]
      exact hgood ⟨hra,fun _=>hrb⟩
  ·rintro fr st1 _ ⟨hkr,f0,f3,f6,rfl,rfl⟩
   rw[lTl] at hkr
   simp(config:=zzC)only[go_sem,f0,f3,f6,i2.len,yQm (nLi _)]
   intro _
   exact yQ0 ⟨by rw[zZh.2 ⟨hk,hll,hlr,hkl,hkr⟩],rfl⟩
theorem q_p (n:ByteArray)(t:Tag)(xs:List IV)(st:ISt):ICall prog gl 16 [.raw (.string n),.sl t xs] st (fun r st'=>r=.agg [.raw (.int .u8 1),.raw (.string n),.sl t xs,.sl ⟨true,.nil,0⟩ []]∧st'=st):=by
 refine iI func16 rfl rfl (by kernel_rfl) ?_
 simp(config:=zzC)only[go_sem,fits]
 exact yQ0 ⟨rfl,rfl⟩
theorem q_no (o:Int)(n:ByteArray)(t:Tag)(x:List IV)(t':Tag)(x':List IV)(st:ISt):ICall prog gl 17 [.agg [.raw (.int .u8 o),.raw (.string n),.sl t x,.sl t' x']] st
  (fun r st'=>r=.agg [.raw (.int .u8 3),.raw (.string ⟨#[]⟩),.sl ⟨true,.nil,0⟩ [],.sl ⟨true,.full,4⟩ [.agg [.raw (.int .u8 o),.raw (.string n),.sl t x,.sl t' x']]]∧st'=st):=by
 refine iI func17 rfl rfl (by kernel_rfl) ?_
 simp(config:=zzC)only[go_sem,fits,yQ1]
 exact yQ0 ⟨rfl,rfl⟩
theorem xJf (op o:Int)(n:ByteArray)(t:Tag)(x:List IV)(t':Tag)(x':List IV)(o2:Int)(n2:ByteArray)(t2:Tag)(x2:List IV)(t2':Tag)(x2':List IV)(st:ISt) :
  ICall prog gl 18 [.raw (.int .u8 op),.agg [.raw (.int .u8 o),.raw (.string n),.sl t x,.sl t' x'],.agg [.raw (.int .u8 o2),.raw (.string n2),.sl t2 x2,.sl t2' x2']] st
  (fun r st'=>r=.agg [.raw (.int .u8 op),.raw (.string ⟨#[]⟩),.sl ⟨true,.nil,0⟩ [],.sl ⟨true,.full,4⟩ [.agg [.raw (.int .u8 o),.raw (.string n),.sl t x,.sl t' x'],.agg [.raw (.int .u8 o2),.raw (.string n2),.sl t2 x2,.sl t2' x2']]]∧st'=st):=by
 refine iI func18 rfl rfl (by kernel_rfl) ?_
 simp(config:=zzC)only[go_sem,fits,yQb]
 exact yQ0 ⟨rfl,rfl⟩
theorem q_fs (t:Tag)(xs:List IV)(st:ISt):ICall prog gl 9 [.sl t xs] st (fun r st'=>r=.sl t xs∧st'=st):=by
 refine iI func9 rfl rfl (by kernel_rfl) ?_
 simp(config:=zzC)only[go_sem,fits]
 exact yQ0 ⟨rfl,rfl⟩
theorem q_sq (t:Tag)(xs:List IV)(t':Tag)(ys:List IV)(st:ISt):ICall prog gl 40 [.sl t xs,.sl t' ys] st (fun r st'=>r=.agg [.sl t xs,.sl t' ys]∧st'=st):=by
 refine iI func40 rfl rfl (by kernel_rfl) ?_
 simp(config:=zzC)only[go_sem,fits]
 exact yQ0 ⟨rfl,rfl⟩
theorem q_v (n:ByteArray)(st:ISt):ICall prog gl 44 [.raw (.string n)] st (fun r st'=>r=.agg [.raw (.bool true),.raw (.string n),.sl ⟨true,.nil,0⟩ []]∧st'=st):=by
 refine iI func44 rfl rfl (by kernel_rfl) ?_
 simp(config:=zzC)only[go_sem,fits]
 exact yQ0 ⟨rfl,rfl⟩
mutual
def wTm:Tm→Nat
 | .mk _ n us=>1+n.size / 20+wTms us
def wTms:List Tm→Nat
 | []=>0
 | a::l=>wTm a+wTms l
end
mutual
def wFm:Fm→Nat
 | .mk _ n us sub=>1+n.size / 20+wTms us+wFms sub
def wFms:List Fm→Nat
 | []=>0
 | a::l=>wFm a+wFms l
end
theorem yUj:∀ l m:List Tm,wTms (l++m)=wTms l+wTms m
 | [],m=>by simp[wTms]
 | a::l,m=>by simp only[List.cons_append,wTms,yUj l m]; omega
theorem xUe {l:List Tm}{k:Nat}{a:Tm}(h:l[k]?=some a):wTms (l.take (k+1))=wTms (l.take k)+wTm a:=by
 rw[yQ4 h,yUj]; simp[wTms]
theorem xUf (l:List Tm)(k:Nat):wTms (l.take k)≤wTms l:=by
 conv=>rhs; rw[← List.take_append_drop k l]
 rw[yUj]; omega
theorem yUk:∀ l m:List Fm,wFms (l++m)=wFms l+wFms m
 | [],m=>by simp[wFms]
 | a::l,m=>by simp only[List.cons_append,wFms,yUk l m]; omega
theorem xUg {l:List Fm}{k:Nat}{a:Fm}(h:l[k]?=some a):wFms (l.take (k+1))=wFms (l.take k)+wFm a:=by
 rw[yQ4 h,yUk]; simp[wFms]
theorem xUh (l:List Fm)(k:Nat):wFms (l.take k)≤wFms l:=by
 conv=>rhs; rw[← List.take_append_drop k l]
 rw[yUk]; omega
def Sum (w:Nat)(lim:Int)(r:IV):Prop:=∃ n:Nat,r=.raw (.int .i64 n)∧n≤w∧((n:Int)≤lim→n=w)
def tC (us:List Tm):Prop:=∀ (t:Tag) (xs:List IV) (_:okEs t 3) (_:IsTms us xs) (lim:Int) (_:-1≤lim∧lim≤1000) (_:wTms us≤1099511627776) (st:ISt),
 ICall prog gl 26 [.sl t xs,.raw (.int .i64 lim)] st (fun r st'=>Sum (wTms us) lim r∧st'=st)
theorem xJd (us:List Tm)(IH:∀ v n l,Tm.mk v n l∈us→tC gl l):tC gl us:=by
 intro t xs ht hx lim hlim hw st
 refine iI func26 rfl rfl (by kernel_rfl) ?_
 simp(config:=zzC)only[go_sem]
 refine LoopC.ctr us.length (fun k fr st' ds=>(∃ n:Nat,fr 5=.iv (.raw (.int .i64 n))∧n≤wTms (us.take k)∧((n:Int)≤lim→n=wTms (us.take k)))∧fr 0=.iv (.sl t xs)∧fr 1=.iv (.raw (.int .i64 lim))∧fr 6=.iv (.raw (.int .i64 k))∧st'=st∧ds=[]) ?_ ?_ ?_
 ·simp(config:=zzC)only[go_sem]
  exact⟨⟨0,rfl,Nat.le_refl _,fun _=>rfl⟩,rfl⟩
 ·rintro k fr st1 _ hlt ⟨⟨n,f5,hn1,hn2⟩,f0,f1,f6,rfl,rfl⟩
  obtain⟨a,ha⟩:=yQ3 hlt
  obtain⟨x,hkx,hxa⟩:=hx.get ha
  obtain⟨v2,n2,l2⟩:=a
  obtain⟨tx,cx,rfl,htx,hcx⟩:=hxa.mk
  have hwt:=xUe ha
  have hwl:=xUf us (k+1)
  have hwk:=xUf us k
  simp only[wTm] at hwt
  by_cases hle:(n:Int)≤lim
  ·have hnk:=hn2 hle
   have hcall:=fun st=>IH _ _ _ (lMg ha) tx cx htx hcx (lim - n - 1) ⟨by omega,by omega⟩ (by omega) st
   have hq:IntKind.i64.wrap (((n2.size:Nat):Int).tdiv 20)=((n2.size / 20:Nat):Int):=by
    have:((n2.size:Nat):Int).tdiv 20=((n2.size / 20:Nat):Int):=rfl
    rw[this,w64 (by omega) (by omega)]
   have hz:¬ ((20:Int)=0):=by decide
   generalize n2.size / 20=q at hq hwt
   have w1:IntKind.i64.wrap (1+((q:Nat):Int))=((1+q:Nat):Int):=by rw[w64]<;>omega
   have w2:IntKind.i64.wrap (IntKind.i64.wrap (lim - (n:Int)) - 1)=lim - n - 1:=by rw[w64 (n:=lim - n) (by omega) (by omega),w64 (by omega) (by omega)]
   simp(config:=zzC)only[go_sem,f0,f1,f5,f6,hx.len,lt_i hlt,dEt hle,yQ2 ht,iNn,hkx,fits,hq,hz,w1,w2]
   intro _
   refine (hcall _).mono ?_
   rintro _ st2 ⟨⟨m,rfl,hm1,hm2⟩,rfl⟩
   have w3:IntKind.i64.wrap (((1+q:Nat):Int)+(m:Int))=((1+q+m:Nat):Int):=by rw[w64]<;>omega
   have w4:IntKind.i64.wrap ((n:Int)+((1+q+m:Nat):Int))=((n+(1+q+m):Nat):Int):=by rw[w64]<;>omega
   simp(config:=zzC)only[go_sem,f0,f1,f5,f6,w3,w4,yQa hlt (show us.length≤281474976710656 by omega)]
   exact⟨n+(1+q+m),rfl,by omega,fun h=>by have:=hm2 (by omega); omega⟩
  ·simp(config:=zzC)only[go_sem,f0,f1,f5,f6,hx.len,lt_i hlt,dEf hle]
   intro _
   exact yQ0 ⟨⟨n,rfl,by omega,fun h=>absurd h hle⟩,rfl⟩
 ·rintro fr st1 _ ⟨⟨n,f5,hn1,hn2⟩,f0,f1,f6,rfl,rfl⟩
  rw[lTl] at hn1 hn2
  simp(config:=zzC)only[go_sem,f0,f5,f6,hx.len,yQm (nLi _)]
  intro _
  exact yQ0 ⟨⟨n,rfl,hn1,hn2⟩,rfl⟩
theorem zWt:∀ (k:Nat)(us:List Tm),SizeOf.sizeOf us<k→tC gl us
 | 0,f,h=>by omega
 | k+1,us,h=>xJd gl us (fun v n l ha=>zWt k l (by
   have:=lSm ha
   simp at this; omega))
theorem xVn (us:List Tm):tC gl us:=zWt gl _ us (Nat.lt_succ_self _)
def zC (us:List Fm):Prop:=∀ (t:Tag) (xs:List IV) (_:okEs t 4) (_:IsFms us xs) (lim:Int) (_:-1≤lim∧lim≤1000) (_:wFms us≤1099511627776) (st:ISt),
 ICall prog gl 8 [.sl t xs,.raw (.int .i64 lim)] st (fun r st'=>Sum (wFms us) lim r∧st'=st)
theorem xG1 (us:List Fm)(IH:∀ o n l m,Fm.mk o n l m∈us→zC gl m):zC gl us:=by
 intro t xs ht hx lim hlim hw st
 refine ICall.intro (c:=cf prog gl [] [(5,[0,1,2,3,4,5,6,7,8,9,10,11,12,13,14,15,16,19,20,21,22,23,24,25,26,27,17,18,28,29,30,31])]) func8 rfl (by show _≤50; simp) (by kernel_rfl) ?_
 simp(config:=zzC)only[go_sem]
 refine LoopC.ctr us.length (fun k fr st' ds=>(∃ n:Nat,fr 5=.iv (.raw (.int .i64 n))∧n≤wFms (us.take k)∧((n:Int)≤lim→n=wFms (us.take k)))∧fr 0=.iv (.sl t xs)∧fr 1=.iv (.raw (.int .i64 lim))∧fr 6=.iv (.raw (.int .i64 k))∧st'=st∧ds=[]) ?_ ?_ ?_
 ·simp(config:=zzC)only[go_sem]
  exact⟨⟨0,rfl,Nat.le_refl _,fun _=>rfl⟩,rfl⟩
 ·rintro k fr st1 _ hlt ⟨⟨n,f5,hn1,hn2⟩,f0,f1,f6,rfl,rfl⟩
  obtain⟨a,ha⟩:=yQ3 hlt
  obtain⟨x,hkx,hxa⟩:=hx.get ha
  obtain⟨o2,n2,l2,m2⟩:=a
  obtain⟨tx,cx,ty,cy,rfl,_,htx,hcx,hty,hcy⟩:=hxa.mk
  have hwt:=xUg ha
  have hwl:=xUh us (k+1)
  have hwk:=xUh us k
  simp only[wFm] at hwt
  by_cases hle:(n:Int)≤lim
  ·have hnk:=hn2 hle
   have hcall:=fun st=>IH _ _ _ _ (lMg ha) ty cy hty hcy (lim - n - 1) ⟨by omega,by omega⟩ (by omega) st
   have hterm:=fun st=>xVn gl l2 tx cx htx hcx (lim - n) ⟨by omega,by omega⟩ (by omega) st
   have hq:IntKind.i64.wrap (((n2.size:Nat):Int).tdiv 20)=((n2.size / 20:Nat):Int):=by
    have:((n2.size:Nat):Int).tdiv 20=((n2.size / 20:Nat):Int):=rfl
    rw[this,w64 (by omega) (by omega)]
   have hz:¬ ((20:Int)=0):=by decide
   generalize n2.size / 20=q at hq hwt
   have w1:IntKind.i64.wrap (1+((q:Nat):Int))=((1+q:Nat):Int):=by rw[w64]<;>omega
   have w0:IntKind.i64.wrap (lim - (n:Int))=lim - n:=w64 (by omega) (by omega)
   have w2:IntKind.i64.wrap (lim - (n:Int) - 1)=lim - n - 1:=w64 (by omega) (by omega)
   simp(config:=zzC)only[go_sem,f0,f1,f5,f6,hx.len,lt_i hlt,dEt hle,yQ2 ht,iNn,hkx,fits,hq,hz,w1,w0,w2]
   intro _
   refine (hterm _).mono ?_
   rintro _ st2 ⟨⟨m1,rfl,hm1,hm1'⟩,rfl⟩
   have w3:IntKind.i64.wrap (((1+q:Nat):Int)+(m1:Int))=((1+q+m1:Nat):Int):=by rw[w64]<;>omega
   simp(config:=zzC)only[go_sem,f0,f1,f5,f6,w3,w0,w2,fits,yQ2 ht,iNn,hkx,hlt]
   refine (hcall _).mono ?_
   rintro _ st2 ⟨⟨m,rfl,hm,hm'⟩,rfl⟩
   have w4:IntKind.i64.wrap (((1+q+m1:Nat):Int)+(m:Int))=((1+q+m1+m:Nat):Int):=by rw[w64]<;>omega
   have w5:IntKind.i64.wrap ((n:Int)+((1+q+m1+m:Nat):Int))=((n+(1+q+m1+m):Nat):Int):=by rw[w64]<;>omega
   simp(config:=zzC)only[go_sem,f0,f1,f5,f6,w4,w5,yQa hlt (show us.length≤281474976710656 by omega)]
   exact⟨n+(1+q+m1+m),rfl,by omega,fun h=>by have:=hm1' (by omega); have:=hm' (by omega); omega⟩
  ·simp(config:=zzC)only[go_sem,f0,f1,f5,f6,hx.len,lt_i hlt,dEf hle]
   intro _
   exact yQ0 ⟨⟨n,rfl,by omega,fun h=>absurd h hle⟩,rfl⟩
 ·rintro fr st1 _ ⟨⟨n,f5,hn1,hn2⟩,f0,f1,f6,rfl,rfl⟩
  rw[lTl] at hn1 hn2
  simp(config:=zzC)only[go_sem,f0,f5,f6,hx.len,yQm (nLi _)]
  intro _
  exact yQ0 ⟨⟨n,rfl,hn1,hn2⟩,rfl⟩
theorem xQs:∀ (k:Nat)(us:List Fm),SizeOf.sizeOf us<k→zC gl us
 | 0,f,h=>by omega
 | k+1,us,h=>xG1 gl us (fun o n l m ha=>xQs k m (by
   have:=lSm ha
   simp at this; omega))
theorem xJe (us:List Fm):zC gl us:=xQs gl _ us (Nat.lt_succ_self _)
theorem uG7 (s:Sq)(x:IV)(hx:IsSq s x)(hw:wFms s.l≤1099511627776∧wFms s.r≤1099511627776)(st:ISt):ICall prog gl 7 [x] st (fun r st'=>(r=.raw (.bool (decide (wFms s.l+wFms s.r≤300))))∧st'=st):=by
 obtain⟨t1,x1,t2,x2,rfl,e1,i1,e2,i2⟩:=hx
 have h1:=fun st=>xJe gl s.l t1 x1 e1 i1 300 ⟨by omega,by omega⟩ hw.1 st
 have h2:=fun st=>xJe gl s.r t2 x2 e2 i2 300 ⟨by omega,by omega⟩ hw.2 st
 refine ICall.intro (c:=cf prog gl [] [(1,[0,1,3,4,2,5,6,7,8])]) func7 rfl (by show _≤11; simp) (by kernel_rfl) ?_
 simp(config:=zzC)only[go_sem,fits]
 refine (h1 _).mono ?_
 rintro _ st2 ⟨⟨n,rfl,hn1,hn2⟩,rfl⟩
 simp(config:=zzC)only[go_sem,fits]
 refine (h2 _).mono ?_
 rintro _ st2 ⟨⟨m,rfl,hm1,hm2⟩,rfl⟩
 have w:IntKind.i64.wrap ((n:Int)+(m:Int))=((n+m:Nat):Int):=by rw[w64]<;>omega
 have hd:decide (((n+m:Nat):Int)≤300)=decide (wFms s.l+wFms s.r≤300):=by
  rw[decide_eq_decide]
  constructor
  ·intro h
   have:=hn2 (by omega)
   have:=hm2 (by omega)
   omega
  ·intro h; omega
 simp(config:=zzC)only[go_sem,w,hd]
 exact yQ0 ⟨rfl,rfl⟩
end Go.Proofs.Tryz
