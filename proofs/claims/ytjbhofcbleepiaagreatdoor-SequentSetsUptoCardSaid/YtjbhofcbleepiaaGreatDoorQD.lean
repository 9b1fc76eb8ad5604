/- Walks: formulas in order, each once. -/
import Derived.Test.YtjbhofcbleepiaaGreatDoorQC
import Derived.Test.YtjbhofcbleepiaaGreatDoorQB
import Derived.Test.YtjbhofcbleepiaaGreatDoorKA
import Derived.Test.YtjbhofcbleepiaaGreatDoorQA
import Derived.Test.YtjbhofcbleepiaaGreatDoorLA
import Derived.Test.YtjbhofcbleepiaaGreatDoorKS
import Derived.Test.YtjbhofcbleepiaaGreatDoorKU
import Derived.Test.YtjbhofcbleepiaaGreatDoorLE
import Derived.Test.YtjbhofcbleepiaaGreatDoorKM
import Derived.Test.YtjbhofcbleepiaaGreatDoorKG
import Derived.Test.YtjbhofcbleepiaaGreatDoorLF
import Derived.Test.YtjbhofcbleepiaaGreatDoorKC
set_option linter.all false
namespace Go.Proofs.Tryz
open Go Go.Iv Go.Shelf Go.RowKit
set_option maxRecDepth 4000
variable (gl:Nat → Option IV)
mutual
theorem vQ1:∀ (a b:Tm) (x:IV),IsTm a x → IsTm b x → a = b
 | .mk v n us,.mk w m ws,x,h,k => by
  obtain ⟨t,xs,rfl,_,h1⟩:=h.mk
  obtain ⟨t',xs',hx,_,h2⟩:=k.mk
  simp only [IV.agg.injEq,List.cons.injEq,IV.raw.injEq,Value.bool.injEq,Value.string.injEq,IV.sl.injEq,and_true] at hx
  obtain ⟨rfl,rfl,rfl,rfl⟩:=hx
  rw [xZh us ws xs h1 h2]
theorem xZh:∀ (l m:List Tm) (xs:List IV),IsTms l xs → IsTms m xs → l = m
 | [],[],_,_,_ => rfl
 | [],b :: m,xs,h,k => by
  simp only [IsTms] at h k
  obtain ⟨y,ys,rfl,_⟩:=k
  cases h
 | a :: l,[],xs,h,k => by
  simp only [IsTms] at h k
  obtain ⟨y,ys,rfl,_⟩:=h
  cases k
 | a :: l,b :: m,xs,h,k => by
  simp only [IsTms] at h k
  obtain ⟨y,ys,rfl,h1,h2⟩:=h
  obtain ⟨y',ys',he,k1,k2⟩:=k
  cases he
  rw [vQ1 a b y h1 k1,xZh l m ys h2 k2]
end
mutual
theorem wVk:∀ (a b:Fm) (x:IV),IsFm a x → IsFm b x → a = b
 | .mk o n us sub,.mk o' m ws sub',x,h,k => by
  obtain ⟨t,xs,t2,xs2,rfl,_,_,h1,_,h2⟩:=h.mk
  obtain ⟨t',xs',t2',xs2',hx,_,_,k1,_,k2⟩:=k.mk
  simp only [IV.agg.injEq,List.cons.injEq,IV.raw.injEq,Value.int.injEq,Value.string.injEq,IV.sl.injEq,and_true,true_and,Int.natCast_inj] at hx
  obtain ⟨rfl,rfl,⟨rfl,rfl⟩,rfl,rfl⟩:=hx
  rw [xZh us ws xs h1 k1,wQj sub sub' xs2 h2 k2]
theorem wQj:∀ (l m:List Fm) (xs:List IV),IsFms l xs → IsFms m xs → l = m
 | [],[],_,_,_ => rfl
 | [],b :: m,xs,h,k => by
  simp only [IsFms] at h k
  obtain ⟨y,ys,rfl,_⟩:=k
  cases h
 | a :: l,[],xs,h,k => by
  simp only [IsFms] at h k
  obtain ⟨y,ys,rfl,_⟩:=h
  cases k
 | a :: l,b :: m,xs,h,k => by
  simp only [IsFms] at h k
  obtain ⟨y,ys,rfl,h1,h2⟩:=h
  obtain ⟨y',ys',he,k1,k2⟩:=k
  cases he
  rw [wVk a b y h1 k1,wQj l m ys h2 k2]
end
open Classical in
noncomputable def rdF (x:IV):Fm:=if h:∃ a,IsFm a x then h.choose else fm0
theorem xK5 {a:Fm} {x:IV} (h:IsFm a x):rdF x = a:=by
 have he:∃ a,IsFm a x:=⟨a,h⟩
 unfold rdF
 rw [dif_pos he]
 exact wVk _ _ x he.choose_spec h
theorem xK4:∀ {l:List Fm} {xs:List IV},IsFms l xs → xs.map rdF = l
 | [],_,rfl => rfl
 | a :: l,_,⟨x,xs,rfl,hx,hl⟩ => by rw [List.map_cons,xK5 hx,xK4 hl]
theorem wVj:∀ {ys:List IV},(∀ y ∈ ys,∃ a,IsFm a y) → IsFms (ys.map rdF) ys
 | [],_ => rfl
 | y :: ys,h => by
  obtain ⟨a,ha⟩:=h y (by simp)
  exact ⟨y,ys,rfl,by rw [xK5 ha]; exact ha,wVj fun z hz => h z (by simp [hz])⟩
theorem zG0:∀ {l:List Fm} {xs:List IV},IsFms l xs → ∀ y ∈ xs,∃ a,IsFm a y ∧ a ∈ l
 | [],_,rfl,y,h => by cases h
 | a :: l,_,⟨x,xs,rfl,hx,hl⟩,y,h => by
  rcases List.mem_cons.1 h with rfl | h
  ·exact ⟨a,hx,by simp⟩
  ·obtain ⟨b,hb,hm⟩:=zG0 hl y h
   exact ⟨b,hb,by simp [hm]⟩
theorem vXt (l:List Fm) (xs rest:List IV) (hx:IsFms l xs) (hne:xs ≠ []) (hlen:xs.length ≤ 140737488355328) (b cap:Nat) (st:ISt) (hb:st b = some (.box (xs.flatMap IV.cells ++ rest))) :
  ICall prog gl 129 [.raw (.slice (some ⟨b,0,none⟩) xs.length cap),.fn (.func 130) [] []] st
   (fun r st' => r = .tup [] ∧ ∃ (m:List Fm) (ys:List IV),IsFms m ys ∧ m.Perm l ∧ m.Pairwise (fun x y => ¬ yZd y x < 0) ∧ (∀ y ∈ ys,y ∈ xs) ∧ st' = st.put b (some (.box (ys.flatMap IV.cells ++ rest)))):=by
 refine (xYe gl 130 ?_ xs rest b cap st hne hlen (yJ5 hx) hb (fun x y => yZd (rdF x) (rdF y)) (fun x _ => zKd _) (fun x _ y _ z _ => zXl _ _ _) (fun x _ y _ z _ h1 h2 h3 => ?_) (fun x hxm y hym => ?_)).mono ?_
 ·exact enters_of func130 (by kernel_rfl) rfl
 ·rcases Int.lt_or_le (yZd (rdF y) (rdF x)) 0 with h | h
  ·have:=zXl _ _ _ h h3
   exact h2 this
  ·have hxy:yZd (rdF x) (rdF y) = 0:=by
    have:=zQg (rdF x) (rdF y)
    omega
   rw [(zQh _ _).1 hxy] at h3
   exact h2 h3
 ·obtain ⟨a,ha,_⟩:=zG0 hx x hxm
  obtain ⟨c,hc,_⟩:=zG0 hx y hym
  rw [xK5 ha,xK5 hc]
  exact (xQy (fun _ => none) a c x y ha hc _).mono fun r st' h => h.1
 ·rintro r st' ⟨rfl,ys,hp,hpw,rfl⟩
  refine ⟨rfl,ys.map rdF,ys,wVj fun y hy => ?_,?_,?_,fun y hy => hp.mem_iff.1 hy,rfl⟩
  ·obtain ⟨a,ha,_⟩:=zG0 hx y (hp.mem_iff.1 hy)
   exact ⟨a,ha⟩
  ·rw [← xK4 hx]; exact hp.map rdF
  ·exact List.pairwise_map.2 hpw
theorem wZl (t:Tag) (ht:t.cap = .nil) (st:ISt):ICall prog gl 129 [.sl t [],.fn (.func 130) [] []] st (fun r st' => r = .tup [] ∧ st' = st):=by
 obtain ⟨fs,c,es⟩:=t
 obtain rfl:c = .nil:=ht
 intro B X rs hg hst hv
 obtain ⟨r0,r1,rfl⟩:∃ r0 r1,rs = [r0,r1]:=by
  match rs,hv with
  | [a,b],_ => exact ⟨a,b,rfl⟩
  | [],hv => cases hv.1
  | [_],hv => cases hv.1
  | _ :: _ :: _ :: _,hv => cases hv.1
 obtain ⟨p,cap,rfl⟩:∃ p cap,r0 = .slice p 0 cap:=by
  have:=hv.2 0 r0 _ rfl rfl
  obtain ⟨a,cap,_,_,rfl,_⟩:=V.sl_inv this
  exact ⟨a,cap,rfl⟩
 refine Calls.mono (AnyF.slices_SortFunc_none Tryz.sortFL p cap r1 X.w) ?_
 rintro e w' ⟨rfl,rfl⟩
 exact ⟨_,rfl,X,.tup [],rfl,hg,Ext.refl X,.tup [] [] rfl (fun i r c h => by simp at h),rfl,hst⟩
noncomputable def ddF (p:Fm):List Fm → List Fm
 | [] => []
 | b :: l => if yZd b p = 0 then ddF b l else b :: ddF b l
noncomputable def dd:List Fm → List Fm
 | [] => []
 | a :: l => a :: ddF a l
theorem xVf:∀ (p:Fm) (l:List Fm) (a b:Fm),(p :: l).getLast? = some a → ddF p (l ++ [b]) = ddF p l ++ (if yZd b a = 0 then [] else [b])
 | p,[],a,b,h => by
  simp only [List.getLast?_singleton,Option.some.injEq] at h
  subst h
  simp only [List.nil_append,ddF]
 | p,c :: l,a,b,h => by
  rw [List.getLast?_cons_cons] at h
  simp only [List.cons_append,ddF,xVf c l a b h]
  split <;> rfl
theorem wYw:∀ (l:List Fm) (a b:Fm),l.getLast? = some a → dd (l ++ [b]) = dd l ++ (if yZd b a = 0 then [] else [b])
 | p :: l,a,b,h => by simp only [List.cons_append,dd,xVf p l a b h]
theorem wQw {m:List Fm} {k:Nat} {a b:Fm} (ha:m[k]? = some a) (hb:m[k + 1]? = some b):dd (m.take (k + 1 + 1)) = dd (m.take (k + 1)) ++ (if yZd b a = 0 then [] else [b]):=by
 rw [yQ5 hb]
 exact wYw _ a b (by rw [yQ5 ha,List.getLast?_concat])
theorem wQy:∀ (p:Fm) (l:List Fm),(p :: l).Pairwise (fun x y => ¬ yZd y x < 0) → (∀ f,f ∈ p :: ddF p l ↔ f ∈ p :: l) ∧ (p :: ddF p l).Pairwise (fun x y => yZd x y < 0)
 | p,[],_ => ⟨fun f => Iff.rfl,List.pairwise_singleton ..⟩
 | p,b :: l,h => by
  have h1:=List.pairwise_cons.1 h
  obtain ⟨i1,i2⟩:=wQy b l h1.2
  simp only [ddF]
  by_cases hc:yZd b p = 0
  ·have hbp:=(zQh b p).1 hc
   subst hbp
   rw [if_pos hc]
   refine ⟨fun f => ?_,i2⟩
   rw [i1 f]
   simp
  ·rw [if_neg hc]
   have hlt:yZd p b < 0:=by
    have:=h1.1 b (by simp)
    have:=zQg b p
    omega
   refine ⟨fun f => ?_,List.pairwise_cons.2 ⟨fun f hf => ?_,i2⟩⟩
   ·rw [List.mem_cons,i1 f,List.mem_cons (l:=b :: l)]
   ·rcases List.mem_cons.1 hf with rfl | hf
    ·exact hlt
    ·exact zXl _ _ _ hlt ((List.pairwise_cons.1 i2).1 f hf)
theorem wQx (l m:List Fm) (hp:m.Perm l) (h:m.Pairwise (fun x y => ¬ yZd y x < 0)):SetF l (dd m):=by
 cases m with
 | nil =>
  obtain rfl:=List.Perm.nil_eq hp
  exact ⟨List.Pairwise.nil,fun f => Iff.rfl⟩
 | cons a m =>
  obtain ⟨h1,h2⟩:=wQy a m h
  exact ⟨h2,fun f => (h1 f).trans hp.mem_iff⟩
theorem rd4 {ys rest cs:List IV} (hf:∀ y ∈ ys,y.cells.length = 4) (hlen:cs.length = (ys.flatMap IV.cells ++ rest).length) {i:Nat} {y:IV} (hy:ys[i]? = some y) (hc:∀ j,i * 4 ≤ j → cs[j]? = (ys.flatMap IV.cells ++ rest)[j]?) :
  i * 4 + 4 ≤ cs.length ∧ (cs.drop (i * 4)).take 4 = y.cells:=by
 have hi:=(lGs hy).1
 have h0:ys.flatMap IV.cells = (ys.take i).flatMap IV.cells ++ (y.cells ++ (ys.drop (i + 1)).flatMap IV.cells):=by
  conv => lhs; rw [← List.take_append_drop i ys,List.drop_eq_getElem_cons hi,(lGs hy).2]
  rw [List.flatMap_append,List.flatMap_cons]
 have h1:((ys.take i).flatMap IV.cells).length = i * 4:=by
  rw [yQv _ fun z hz => hf z (List.mem_of_mem_take hz),List.length_take]
  omega
 have hy4:=hf y (lMg hy)
 have hd:cs.drop (i * 4) = (ys.flatMap IV.cells ++ rest).drop (i * 4):=by
  apply List.ext_getElem?
  intro j
  rw [List.getElem?_drop,List.getElem?_drop,hc _ (by omega)]
 refine ⟨?_,?_⟩
 ·rw [hlen,h0]
  simp only [lLa,h1,hy4]; omega
 ·rw [hd,h0,List.append_assoc,List.drop_left' h1,List.append_assoc,List.take_left' hy4]
theorem xV6:∀ {l:List Fm} {xs:List IV} (k:Nat),IsFms l xs → IsFms (l.take k) (xs.take k)
 | [],_,k,rfl => by simp [IsFms]
 | a :: l,_,0,_ => by simp [IsFms]
 | a :: l,_,k + 1,⟨y,ys,rfl,hy,h⟩ => by
  rw [List.take_succ_cons,List.take_succ_cons]
  exact ⟨y,ys.take k,rfl,hy,xV6 k h⟩
theorem st4 {cs l:List IV} {k n:Nat} (hl:l.length = n) (h:k * 4 + n ≤ cs.length):(setAt cs (k * 4) l).length = cs.length ∧ (setAt cs (k * 4) l).take (k * 4) = cs.take (k * 4) ∧ (setAt cs (k * 4) l).take (k * 4 + n) = cs.take (k * 4) ++ l ∧ ∀ i,k * 4 + n ≤ i → (setAt cs (k * 4) l)[i]? = cs[i]?:=by
 have h1:(cs.take (k * 4)).length = k * 4:=by rw [List.length_take]; omega
 have h2:(cs.take (k * 4) ++ l).length = k * 4 + n:=by rw [lLa,h1,hl]
 unfold setAt
 refine ⟨?_,?_,List.take_left' h2,fun i hi => ?_⟩
 ·rw [lLa,h2,List.length_drop,hl]; omega
 ·rw [List.append_assoc,List.take_left' h1]
 ·rw [List.getElem?_append_right (by omega),h2,List.getElem?_drop,hl]
  congr 1; omega
theorem zZh {k n:Nat} (h:k ≤ n):yXa (some ((k:Nat):Int)) none n = some (k,n):=by
 simp only [yXa,Option.getD_none,Option.getD_some]
 rw [if_pos ⟨by omega,by omega,Int.le_refl _⟩]; simp
theorem xVo {k n:Nat} (h:k ≤ n):yXa none (some ((k:Nat):Int)) n = some (0,k):=by
 simp only [yXa,Option.getD_none,Option.getD_some]
 rw [if_pos ⟨Int.le_refl _,by omega,by omega⟩]; simp
theorem wZo (m:List Fm) (ys rest:List IV) (hx:IsFms m ys) (hlen:m.length ≤ 1099511627776) (g cap:Nat) (hcap:m.length ≤ cap) (st:ISt) (hb:st g = some (.box (ys.flatMap IV.cells ++ rest))) :
  ICall prog gl 131 [.raw (.slice (some ⟨g,0,none⟩) m.length cap),.fn (.func 132) [] []] st
   (fun r st' => ∃ k cs zs,r = .raw (.slice (some ⟨g,0,none⟩) k cap) ∧ st' = st.put g (some (.box cs)) ∧ cs.length = (ys.flatMap IV.cells ++ rest).length ∧ cs.take (k * 4) = zs.flatMap IV.cells ∧ IsFms (dd m) zs ∧ zs.length = k ∧ k ≤ m.length ∧ ∀ z ∈ zs,z ∈ ys):=by
 have hf4:∀ y ∈ ys,y.cells.length = 4:=fun y hy => xJ3 (yJ5 hx y hy)
 have hyl:=hx.len
 have hput:st.put g (some (.box (ys.flatMap IV.cells ++ rest))) = st:=yXd hb
 have same:∀ k,dd (m.take k) = m.take k → k = m.length → ∃ k cs zs,IV.raw (.slice (some ⟨g,0,none⟩) m.length cap) = .raw (.slice (some ⟨g,0,none⟩) k cap) ∧ st = st.put g (some (.box cs)) ∧ cs.length = (ys.flatMap IV.cells ++ rest).length ∧ cs.take (k * 4) = zs.flatMap IV.cells ∧ IsFms (dd m) zs ∧ zs.length = k ∧ k ≤ m.length ∧ ∀ z ∈ zs,z ∈ ys:=by
  intro k hk hkl
  rw [hkl,lTl] at hk
  refine ⟨m.length,_,ys,rfl,hput.symm,rfl,?_,by rw [hk]; exact hx,hyl,Nat.le_refl _,fun _ h => h⟩
  rw [← hyl,List.take_left' (yQv _ hf4)]
 refine ICall.intro (c:=cf prog gl [22,27,42,47] []) func131 rfl (by show _ ≤ 66; simp) (by kernel_rfl) ?_
 by_cases h2:m.length < 2
 ·have d2:decide (((m.length:Nat):Int) < 2) = true:=dEt (by omega)
  simp -implicitDefEqProofs -dsimp only [go_sem,d2]
  refine yQ0 (same m.length ?_ rfl)
  rw [lTl]
  match m,h2 with
  | [],_ => rfl
  | [a],_ => rfl
 ·have d2:decide (((m.length:Nat):Int) < 2) = false:=dEf (by omega)
  simp -implicitDefEqProofs -dsimp only [go_sem,d2]
  refine LoopC.ctr (m.length - 1) (fun c fr st' ds => dd (m.take (c + 1)) = m.take (c + 1) ∧ fr 0 = .iv (.raw (.slice (some ⟨g,0,none⟩) m.length cap)) ∧ fr 1 = .iv (.fn (.func 132) [] []) ∧ fr 5 = .iv (.raw (.int .i64 ((c + 1:Nat):Int))) ∧ st' = st ∧ ds = []) ?_ ?_ ?_
  ·simp -implicitDefEqProofs -dsimp only [go_sem]
   refine ⟨?_,rfl⟩
   match m,h2 with
   | [],h => exact absurd (show 0 < 2 by decide) h
   | [a],h => exact absurd (show 1 < 2 by decide) h
   | a :: b :: l,_ => rfl
  ·rintro c fr st1 _ hlt ⟨hd,f0,f1,f5,rfl,rfl⟩
   have hlt':c + 1 < m.length:=by omega
   obtain ⟨a,ha⟩:=yQ3 (l:=m) (k:=c) (by omega)
   obtain ⟨b,hbm⟩:=yQ3 hlt'
   obtain ⟨x,hkx,hxa⟩:=hx.get ha
   obtain ⟨y,hky,hyb⟩:=hx.get hbm
   have hcall:=xGk gl b a y x hyb hxa st1
   obtain ⟨rx1,rx2⟩:=rd4 (rest:=rest) hf4 rfl hkx (fun _ _ => rfl)
   obtain ⟨ry1,ry2⟩:=rd4 (rest:=rest) hf4 rfl hky (fun _ _ => rfl)
   obtain ⟨x1,x2,x3,x4,x5,x6,rfl⟩:=hxa.agg
   obtain ⟨y1,y2,y3,y4,y5,y6,rfl⟩:=hyb.agg
   simp only [IV.cells] at rx2 ry2
   have hw:IntKind.i64.wrap (((c + 1:Nat):Int) - 1) = (c:Nat):=by rw [w64 (by omega) (by omega)]; omega
   simp -implicitDefEqProofs -dsimp only [go_sem,f0,f1,f5,lt_i hlt',hw,hlt',show c < m.length by omega,iNn,hb,rx1,ry1,rx2,ry2,fits]
   refine hcall.mono ?_
   rintro _ st1 ⟨rfl,rfl⟩
   have hds:=wQw ha hbm
   by_cases he:yZd b a = 0
   ·rw [if_pos he,List.append_nil,hd] at hds
    have hcne:¬ cap = c + 1:=by omega
    simp -implicitDefEqProofs -dsimp only [go_sem,dEt he,f0,f1,f5,zZh (show c + 1 ≤ m.length by omega),hcap,hcne]
    refine LoopC.ctr (m.length - (c + 1) - 1) (fun j fr st' ds => (∃ k cs zs,fr 5 = .iv (.raw (.int .i64 ((k:Nat):Int))) ∧ st' = st1.put g (some (.box cs)) ∧ cs.length = (ys.flatMap IV.cells ++ rest).length ∧ cs.take (k * 4) = zs.flatMap IV.cells ∧ IsFms (dd (m.take (c + 1 + j + 1))) zs ∧ zs.length = k ∧ k ≤ c + 1 + j ∧ (∀ z ∈ zs,z ∈ ys) ∧ ∀ i,(c + 1 + j) * 4 ≤ i → cs[i]? = (ys.flatMap IV.cells ++ rest)[i]?) ∧
     fr 0 = .iv (.raw (.slice (some ⟨g,0,none⟩) m.length cap)) ∧ fr 1 = .iv (.fn (.func 132) [] []) ∧ fr 6 = .iv (.raw (.slice (some ⟨g,(c + 1) * 4,none⟩) (m.length - (c + 1)) (cap - (c + 1)))) ∧ fr 7 = .iv (.raw (.int .i64 ((j + 1:Nat):Int))) ∧ ds = []) ?_ ?_ ?_
    ·simp -implicitDefEqProofs -dsimp only [go_sem]
     refine ⟨⟨c + 1,ys.flatMap IV.cells ++ rest,ys.take (c + 1),f5,(yXd hb).symm,rfl,?_,?_,?_,Nat.le_refl _,fun z hz => List.mem_of_mem_take hz,fun _ _ => rfl⟩,f0,f1,rfl⟩
     ·conv => lhs; rw [← List.take_append_drop (c + 1) ys]
      rw [List.flatMap_append,List.append_assoc,List.take_left' (by rw [yQv _ fun z hz => hf4 z (List.mem_of_mem_take hz),List.length_take]; omega)]
     ·rw [hds]; exact xV6 _ hx
     ·rw [List.length_take]; omega
    ·rintro j fr st2 _ hj ⟨⟨k,cs,zs,f5,rfl,hcl,hct,hz,hzl,hk,hzm,hcs⟩,f0,f1,f6,f7,rfl⟩
     obtain ⟨a',ha'⟩:=yQ3 (l:=m) (k:=c + 1 + j) (by omega)
     obtain ⟨b',hb'⟩:=yQ3 (l:=m) (k:=c + 1 + j + 1) (by omega)
     obtain ⟨x',hkx',hxa'⟩:=hx.get ha'
     obtain ⟨y',hky',hyb'⟩:=hx.get hb'
     have hyb0:=hyb'
     have hcall':=xGk gl b' a' y' x' hyb' hxa' (st1.put g (some (.box cs)))
     obtain ⟨rx1',rx2'⟩:=rd4 hf4 hcl hkx' hcs
     obtain ⟨ry1',ry2'⟩:=rd4 hf4 hcl hky' (fun i hi => hcs i (by omega))
     have hy4:=hf4 y' (lMg hky')
     obtain ⟨p1,p2,p3,p4,p5,p6,rfl⟩:=hxa'.agg
     obtain ⟨q1,q2,q3,q4,q5,q6,rfl⟩:=hyb'.agg
     simp only [IV.cells] at rx2' ry2' hy4
     have hw':IntKind.i64.wrap (((j + 1:Nat):Int) - 1) = (j:Nat):=by rw [w64 (by omega) (by omega)]; omega
     have o1:(c + 1) * 4 + j * 4 = (c + 1 + j) * 4:=by omega
     have o2:(c + 1) * 4 + (j + 1) * 4 = (c + 1 + j + 1) * 4:=by omega
     have hj1:j + 1 < m.length - (c + 1):=by omega
     have hj0:j < m.length - (c + 1):=by omega
     have hds':=wQw ha' hb'
     simp -implicitDefEqProofs -dsimp only [go_sem,f0,f1,f5,f6,f7,lt_i hj1,hj0,hj1,hw',iNn,ISt.put_same,o1,o2,rx1',ry1',rx2',ry2',fits]
     refine hcall'.mono ?_
     rintro _ _ ⟨rfl,rfl⟩
     by_cases he':yZd b' a' = 0
     ·rw [if_pos he',List.append_nil] at hds'
      simp -implicitDefEqProofs -dsimp only [go_sem,dEt he',f0,f1,f5,f6,f7,yQa hj1 (show m.length - (c + 1) ≤ 281474976710656 by omega)]
      exact ⟨k,cs,zs,rfl,rfl,hcl,hct,by rw [show c + 1 + (j + 1) + 1 = c + 1 + j + 1 + 1 by omega,hds']; exact hz,hzl,by omega,hzm,fun i hi => hcs i (by omega)⟩
     ·rw [if_neg he'] at hds'
      have hkm:k < m.length:=by omega
      have hk4:k * 4 + 4 ≤ cs.length:=by omega
      obtain ⟨s1,s2,s3,s4⟩:=st4 hy4 hk4
      simp -implicitDefEqProofs -dsimp only [go_sem,dEf he',f0,f1,f5,f6,f7,hj1,hkm,iNn,ISt.put_same,o2,ry1',ry2',hk4,fits,yQa hkm (show m.length ≤ 281474976710656 by omega),yQa hj1 (show m.length - (c + 1) ≤ 281474976710656 by omega)]
      refine ⟨k + 1,setAt cs (k * 4) [.raw (.int .u8 q1),.raw (.string q2),.sl q3 q4,.sl q5 q6],zs ++ [.agg [.raw (.int .u8 q1),.raw (.string q2),.sl q3 q4,.sl q5 q6]],rfl,by rw [yQd]; rfl,s1.trans hcl,?_,?_,by simp [hzl],by omega,fun z hz => by
        rcases List.mem_append.1 hz with hz | hz
        ·exact hzm z hz
        ·rw [List.mem_singleton.1 hz]; exact lMg hky',fun i hi => (s4 i (by omega)).trans (hcs i (by omega))⟩
      ·rw [show (k + 1) * 4 = k * 4 + 4 by omega,s3,hct,List.flatMap_append]
       simp [IV.cells]
      ·rw [show c + 1 + (j + 1) + 1 = c + 1 + j + 1 + 1 by omega,hds']
       exact hz.append ⟨_,_,rfl,hyb0,rfl⟩
    ·rintro fr st2 _ ⟨⟨k,cs,zs,f5,rfl,hcl,hct,hz,hzl,hk,hzm,hcs⟩,f0,f1,f6,f7,rfl⟩
     have hkm:k < m.length:=by omega
     have hck:¬ cap = k:=by omega
     have hmk:¬ m.length - k = 0:=by omega
     have hlen4:m.length * 4 ≤ cs.length:=by rw [hcl,lLa,yQv _ hf4]; omega
     have hk4:k * 4 + (m.length - k) * 4 ≤ cs.length:=by omega
     obtain ⟨s1,s2,s3,s4⟩:=st4 (cs:=cs) (k:=k) (l:=List.replicate ((m.length - k) * 4) .junk) (List.length_replicate ..) hk4
     rw [show m.length - (c + 1) - 1 + 1 = m.length - (c + 1) by omega] at f7
     simp -implicitDefEqProofs -dsimp only [go_sem,f0,f1,f5,f6,f7,yQn (nLi _),zZh (show k ≤ m.length by omega),xVo (show k ≤ cap by omega),hcap,hck,hmk,ISt.put_same,hk4,ite_self,Nat.zero_mul]
     rw [show c + 1 + (m.length - (c + 1) - 1) + 1 = m.length by omega,lTl] at hz
     exact yQ0 ⟨k,setAt cs (k * 4) (List.replicate ((m.length - k) * 4) .junk),zs,rfl,by rw [yQd]; rfl,s1.trans hcl,s2.trans hct,hz,hzl,by omega,hzm⟩
   ·rw [if_neg he,hd] at hds
    simp -implicitDefEqProofs -dsimp only [go_sem,dEf he,f0,f1,f5,yQa hlt' (show m.length ≤ 281474976710656 by omega)]
    rw [hds,yQ5 hbm]
  ·rintro fr st1 _ ⟨hd,f0,f1,f5,rfl,rfl⟩
   rw [show m.length - 1 + 1 = m.length by omega] at hd f5
   simp -implicitDefEqProofs -dsimp only [go_sem,f0,f5,yQn (nLi _)]
   exact yQ0 (same m.length hd rfl)
end Go.Proofs.Tryz
namespace Go.Proofs.Tryz
open Go Go.Iv
set_option maxRecDepth 4000
variable (gl:Nat → Option IV)
open Classical in
noncomputable def setF (l:List Fm):List Fm:=if h:∃ r,SetF l r then h.choose else []
theorem zQs {l r:List Fm} (h:SetF l r):setF l = r:=by
 have he:∃ r,SetF l r:=⟨r,h⟩
 unfold setF
 rw [dif_pos he]
 exact SetF.one he.choose_spec h
theorem xK2:setF [] = []:=zQs ⟨List.Pairwise.nil,fun _ => Iff.rfl⟩
noncomputable def yZb (l:List Fm):List Fm × Nat:=if l.all Fm.right then (setF (l.map yXf),0) else ([],2)
theorem xZc (t:Tag) (ht:t.cap = .nil) (st:ISt):ICall prog gl 131 [.sl t [],.fn (.func 132) [] []] st (fun r st' => (∃ t',r = .sl t' [] ∧ t'.cap = .nil) ∧ st' = st):=by
 obtain ⟨fs,c,es⟩:=t
 obtain rfl:c = .nil:=ht
 refine ICall.intro (c:=cf prog gl [22,27,42,47] []) func131 rfl (by show _ ≤ 66; simp) (by kernel_rfl) ?_
 simp -implicitDefEqProofs -dsimp only [go_sem,show decide (((0:Nat):Int) < 2) = true from rfl]
 exact yQ0 ⟨⟨_,rfl,rfl⟩,rfl⟩
theorem wJl {l:List IV} (h:∀ x ∈ l,dfr x):dfrs l:=by
 induction l with
 | nil => trivial
 | cons x l ih => exact ⟨h x (by simp),ih fun y hy => h y (by simp [hy])⟩
theorem wX4 {l m:List Fm} (hp:m.Perm l) (h:m.Pairwise (fun x y => ¬ yZd y x < 0)) (hl:0 < l.length):0 < (setF l).length:=by
 rw [zQs (wQx _ m hp h)]
 have:=hp.length_eq
 match m,this with
 | [],e => simp at e; omega
 | a :: m,_ => simp [dd]
theorem zUm (G:Gl gl) (T:Gt gl) (l:List Fm) (tg:Tag) (xs:List IV) (htg:okEs tg 4) (hx:IsFms l xs) (hs:fitL l) (hlen:l.length ≤ 1099511627776) (st:ISt) :
  ICall prog gl 79 [.sl tg xs] st (fun r st' => (∃ t ys,r = .tup [.sl t ys,.raw (.int .i64 (yZb l).2)] ∧ okEs t 4 ∧ appT (yZb l).1.length t ∧ IsFmsD (yZb l).1 ys) ∧ st' = st):=by
 refine ICall.fixN (ICall.mono (K:=fun y st' => (l.all Fm.right = false ∧ y = .tup [.sl ⟨true,.nil,0⟩ [],.raw (.int .i64 2)] ∧ st' = st) ∨ (l = [] ∧ (∃ t,y = .tup [.sl t [],.raw (.int .i64 0)] ∧ t.cap = .nil) ∧ st' = st) ∨
   (l.all Fm.right = true ∧ ∃ g cap k cs zs,st g = none ∧ k ≤ cap ∧ cap * 4 ≤ cs.length ∧ cs.take (k * 4) = zs.flatMap IV.cells ∧ 0 < k ∧ IsFmsD (setF (l.map yXf)) zs ∧ zs.length = k ∧ k ≤ l.length ∧ y = .tup [.raw (.slice (some ⟨g,0,none⟩) k cap),.raw (.int .i64 0)] ∧ st' = st.put g (some (.box cs)))) ?_ ?_)
 ·refine ICall.intro (c:=cf prog gl [26] []) func79 rfl (by show _ ≤ 32; simp) (by kernel_rfl) ?_
  simp -implicitDefEqProofs -dsimp only [go_sem,hx.len]
  intro _
  refine LoopC.ctr l.length (fun k fr st' ds => (l.take k).all Fm.right = true ∧ ((k = 0 ∧ fr 4 = .iv (.sl ⟨true,.nil,0⟩ []) ∧ st' = st) ∨ (0 < k ∧ ∃ g cap cs zs,st g = none ∧ k ≤ cap ∧ cap * 4 ≤ cs.length ∧ cs.take (k * 4) = zs.flatMap IV.cells ∧ IsFmsD ((l.take k).map yXf) zs ∧ zs.length = k ∧ fr 4 = .iv (.raw (.slice (some ⟨g,0,none⟩) k cap)) ∧ st' = st.put g (some (.box cs)))) ∧
   fr 9 = .iv (.sl tg xs) ∧ fr 10 = .iv (.raw (.int .i64 l.length)) ∧ fr 11 = .iv (.raw (.int .i64 k)) ∧ ds = []) ?_ ?_ ?_
  ·simp -implicitDefEqProofs -dsimp only [go_sem]
   rfl
  ·rintro k fr st1 _ hlt ⟨hall,hor,f9,f10,f11,rfl⟩
   obtain ⟨a,ha⟩:=yQ3 hlt
   obtain ⟨y,hky,hya⟩:=hx.get ha
   have ham:=lMg ha
   have hcall:=wKa gl G T a y hya (hs a ham) st1
   obtain ⟨y1,y2,y3,y4,y5,y6,rfl⟩:=hya.agg
   simp -implicitDefEqProofs -dsimp only [go_sem,f9,f10,f11,lt_i hlt,yQ2 htg,iNn,hky,fits]
   refine hcall.mono ?_
   rintro _ st1 ⟨y',rfl,hyD,rfl⟩
   have hy':=hyD.1
   unfold yX9 at hy'
   cases hr:a.right
   ·rw [hr] at hy'
    simp only [bFt,if_false] at hy'
    obtain ⟨z1,z2,z3,z4,z5,z6,rfl⟩:=hy'.agg
    unfold yX9
    rw [hr]
    simp only [bFt,if_false]
    simp -implicitDefEqProofs -dsimp only [go_sem,show decide (((2:Nat):Int) = 0) = false from rfl,fits]
    have hsub:subSt st st1:=by
     rcases hor with ⟨_,_,h⟩ | ⟨_,g,cap,cs,zs,hg,_,_,_,_,_,_,h⟩
     ·rw [h]; exact subSt.refl _
     ·rw [h]; exact yQe hg
    exact yQb hsub (.inl ⟨List.all_eq_false.2 ⟨a,ham,by simp [hr]⟩,rfl,rfl⟩)
   ·rw [hr] at hy'
    simp only [if_true] at hy'
    rw [show (yX9 a).1 = yXf a by unfold yX9; rw [hr]; simp] at hyD
    have hy0:=hyD
    obtain ⟨z1,z2,z3,z4,z5,z6,rfl⟩:=hy'.agg
    unfold yX9
    rw [hr]
    simp only [if_true]
    have hall':(l.take (k + 1)).all Fm.right = true:=by
     rw [yQ5 ha,List.all_append,hall]; simp [hr]
    rcases hor with ⟨rfl,f4,rfl⟩ | ⟨hk0,g,cap,cs,zs,hg,h1,h2,h3,hz,hzl,f4,rfl⟩
    ·simp -implicitDefEqProofs -dsimp only [go_sem,show decide (((0:Nat):Int) = 0) = true from rfl,fits,f4,yQ1]
     intro g cap
     refine yQh fun hg => ?_
     obtain ⟨hg,hcap⟩:=hg
     simp -implicitDefEqProofs -dsimp only [go_sem,f9,f10,f11,show IntKind.i64.wrap (((0:Nat):Int) + 1) = ((1:Nat):Int) from rfl]
     have hl1:(l.take 1).map yXf = [yXf a]:=by
      have:=yQ5 ha
      simp only [Nat.zero_add,List.take_zero,List.nil_append] at this
      rw [this]; rfl
     refine ⟨by simpa using hall',.inr ⟨by omega,g,cap,_,[.agg [.raw (.int .u8 z1),.raw (.string z2),.sl z3 z4,.sl z5 z6]],hg,hcap,?_,?_,by rw [hl1]; exact IsFmsD.one hy0,rfl,rfl,rfl⟩⟩
     ·simp [IV.cells]; omega
     ·simp [IV.cells]
    ·simp -implicitDefEqProofs -dsimp only [go_sem,show decide (((0:Nat):Int) = 0) = true from rfl,fits,f4,yQ1]
     have hkk:k ≤ 1099511627776:=by omega
     refine zZc _ _ _ (ISt.put_same ..) (by simp [fits,IV.one]) ⟨by show (_ + 1) * 72 ≤ _; omega,by show _ + 1 ≤ _; omega⟩ ⟨h1,h2⟩ (by simp [IV.cells]) ?_
     intro g' cap' cs' hg' q1 q2 q3
     have hst':((st.put g (some (.box cs))).put g none).put g' (some (.box cs')) = st.put g' (some (.box cs')):=by
      funext c
      simp only [ISt.put_apply]
      split
      ·rfl
      ·split
       ·subst_vars; exact hg.symm
       ·rfl
     have hg1:st g' = none:=by
      rcases hg' with rfl | h
      ·exact hg
      ·rw [ISt.put_apply] at h
       split at h
       ·cases h
       ·exact h
     simp -implicitDefEqProofs -dsimp only [go_sem,f9,f10,f11,yQa hlt (show l.length ≤ 281474976710656 by omega)]
     refine ⟨hall',.inr ⟨by omega,g',cap',cs',zs ++ [.agg [.raw (.int .u8 z1),.raw (.string z2),.sl z3 z4,.sl z5 z6]],hg1,q1,q2,?_,?_,by simp [hzl],rfl,hst'⟩⟩
     ·rw [List.flatMap_append,← h3]; exact q3
     ·rw [yQ5 ha,List.map_append]; exact hz.append (IsFmsD.one hy0)
  ·rintro fr st1 _ ⟨hall,hor,f9,f10,f11,rfl⟩
   rw [lTl] at hall hor
   rcases hor with ⟨h0,f4,rfl⟩ | ⟨hk0,g,cap,cs,zs,hg,h1,h2,h3,hz,hzl,f4,rfl⟩
   ·simp -implicitDefEqProofs -dsimp only [go_sem,f4,f10,f11,yQn (nLi _)]
    refine (wZl gl _ rfl _).mono ?_
    rintro _ _ ⟨rfl,rfl⟩
    simp -implicitDefEqProofs -dsimp only [go_sem,f4]
    refine (xZc gl _ rfl _).mono ?_
    rintro _ _ ⟨⟨t',rfl,ht'⟩,rfl⟩
    simp -implicitDefEqProofs -dsimp only [go_sem]
    exact yQ0 (.inr (.inl ⟨List.eq_nil_of_length_eq_zero h0,⟨t',rfl,ht'⟩,rfl⟩))
   ·have hcs:cs = zs.flatMap IV.cells ++ cs.drop (l.length * 4):=by rw [← h3,List.take_append_drop]
    have hzl':=hz.len
    have hsort:=vXt gl (l.map yXf) zs (cs.drop (l.length * 4)) hz.1 (by rintro rfl; simp at hzl; omega) (by omega) g cap (st.put g (some (.box cs))) (by rw [ISt.put_same,← hcs])
    rw [hzl] at hsort
    simp -implicitDefEqProofs -dsimp only [go_sem,f4,f10,f11,yQn (nLi _)]
    refine hsort.mono ?_
    rintro _ _ ⟨rfl,m,ys,hm,hperm,hpw,hym,rfl⟩
    have hml:m.length = l.length:=by rw [hperm.length_eq,List.length_map]
    have hcom:=wZo gl m ys (cs.drop (l.length * 4)) hm (by omega) g cap (by omega) ((st.put g (some (.box cs))).put g (some (.box (ys.flatMap IV.cells ++ cs.drop (l.length * 4))))) (ISt.put_same ..)
    rw [hml] at hcom
    simp -implicitDefEqProofs -dsimp only [go_sem,f4]
    refine hcom.mono ?_
    rintro _ _ ⟨k,cs2,zs2,rfl,rfl,hl2,ht2,hz2,hzl2,hk2,hzm2⟩
    rw [yQd,yQd]
    simp -implicitDefEqProofs -dsimp only [go_sem]
    have hyl:(ys.flatMap IV.cells).length = l.length * 4:=by rw [yQv _ fun y hy => xJ3 (yJ5 hm y hy),hm.len,hml]
    rw [lLa,hyl,List.length_drop] at hl2
    exact yQ0 (.inr (.inr ⟨hall,g,cap,k,cs2,zs2,hg,by omega,by omega,ht2,by
     have h1:=wX4 hperm hpw (by rw [List.length_map]; exact hk0)
     rw [zQs (wQx _ m hperm hpw),← hz2.len,hzl2] at h1
     exact h1,by rw [zQs (wQx _ m hperm hpw)]; exact ⟨hz2,wJl fun z hz' => yK0 hz.2 (hym z (hzm2 z hz'))⟩,hzl2,hk2,rfl,rfl⟩))
 ·rintro y st' (⟨ha,rfl,rfl⟩ | ⟨rfl,⟨t,rfl,ht⟩,rfl⟩ | ⟨ha,g,cap,k,cs,zs,hg,hc1,hc2,hct,hk0,hz,hzl,hkl,rfl,rfl⟩)
  ·have hn:yZb l = ([],2):=by unfold yZb; rw [ha]; rfl
   exact .inl ⟨⟨_,_,by rw [hn]; rfl,.inl rfl,.inl rfl,by rw [hn]; exact IsFmsD.nil⟩,rfl⟩
  ·have hn:yZb [] = ([],0):=by unfold yZb; simp only [List.all_nil,if_true,List.map_nil,xK2]
   exact .inl ⟨⟨_,_,by rw [hn]; rfl,.inl ht,.inl ht,by rw [hn]; exact IsFmsD.nil⟩,rfl⟩
  ·have hn:yZb l = (setF (l.map yXf),0):=by unfold yZb; rw [ha]; rfl
   exact .inr ⟨g,k,cap,cs,4,zs,_,hg,rfl,rfl,hzl,by omega,hc1,hc2,hct,fun z hz' => xJ3 (yJ5 hz.1 z hz'),⟨_,_,by rw [hn]; rfl,.inr rfl,.inr ⟨by rw [hn]; simp only; rw [← hz.len,hzl]; exact hk0,rfl,g,rfl⟩,by rw [hn]; exact hz⟩,rfl⟩
noncomputable def SetS (s:Sq):Sq × Nat :=
 if (yZb s.l).2 ≠ 0 then (⟨[],[]⟩,(yZb s.l).2) else if (yZb s.r).2 ≠ 0 then (⟨[],[]⟩,(yZb s.r).2) else (⟨(yZb s.l).1,(yZb s.r).1⟩,0)
def IsSqD (s:Sq) (x:IV):Prop:=∃ t1 x1 t2 x2,x = .agg [.sl t1 x1,.sl t2 x2] ∧ okEs t1 4 ∧ appT s.l.length t1 ∧ IsFmsD s.l x1 ∧ okEs t2 4 ∧ appT s.r.length t2 ∧ IsFmsD s.r x2
theorem IsSqD.w {s:Sq} {x:IV} (h:IsSqD s x):IsSq s x:=by
 obtain ⟨t1,x1,t2,x2,rfl,e1,_,i1,e2,_,i2⟩:=h
 exact ⟨_,_,_,_,rfl,e1,i1.1,e2,i2.1⟩
theorem vXu (G:Gl gl) (T:Gt gl) (s:Sq) (x:IV) (hx:IsSq s x) (hs:yVd s) (hl:s.l.length ≤ 1099511627776 ∧ s.r.length ≤ 1099511627776) (st:ISt) :
  ICall prog gl 28 [x] st (fun r st' => (∃ y,r = .tup [y,.raw (.int .i64 (SetS s).2)] ∧ IsSqD (SetS s).1 y) ∧ st' = st):=by
 obtain ⟨t1,x1,t2,x2,rfl,e1,i1,e2,i2⟩:=hx
 have h1:=fun st => zUm gl G T s.l t1 x1 e1 i1 hs.1 hl.1 st
 have h2:=fun st => zUm gl G T s.r t2 x2 e2 i2 hs.2 hl.2 st
 unfold SetS
 refine iI func28 rfl rfl (by kernel_rfl) ?_
 simp -implicitDefEqProofs -dsimp only [go_sem,fits]
 refine (h1 _).mono ?_
 rintro _ st ⟨⟨t3,y1,rfl,e3,a3,j1⟩,rfl⟩
 by_cases q1:(yZb s.l).2 = 0
 ·rw [if_neg (by omega)]
  simp -implicitDefEqProofs -dsimp only [go_sem,q1,show decide (((0:Nat):Int) = 0) = true from rfl,fits]
  refine (h2 _).mono ?_
  rintro _ st ⟨⟨t4,y2,rfl,e4,a4,j2⟩,rfl⟩
  by_cases q2:(yZb s.r).2 = 0
  ·rw [if_neg (by omega)]
   simp -implicitDefEqProofs -dsimp only [go_sem,q2,show decide (((0:Nat):Int) = 0) = true from rfl,fits]
   exact yQ0 ⟨⟨_,rfl,_,_,_,_,rfl,e3,a3,j1,e4,a4,j2⟩,rfl⟩
  ·rw [if_pos q2]
   simp -implicitDefEqProofs -dsimp only [go_sem,show decide ((((yZb s.r).2:Nat):Int) = 0) = false from dEf (by omega),fits]
   exact yQ0 ⟨⟨_,rfl,_,_,_,_,rfl,.inl rfl,.inl rfl,IsFmsD.nil,.inl rfl,.inl rfl,IsFmsD.nil⟩,rfl⟩
 ·rw [if_pos q1]
  simp -implicitDefEqProofs -dsimp only [go_sem,show decide ((((yZb s.l).2:Nat):Int) = 0) = false from dEf (by omega),fits]
  exact yQ0 ⟨⟨_,rfl,_,_,_,_,rfl,.inl rfl,.inl rfl,IsFmsD.nil,.inl rfl,.inl rfl,IsFmsD.nil⟩,rfl⟩
theorem uVo (G:Gl gl) (T:Gt gl) (s:Sq) (x:IV) (hx:IsSq s x) (hs:yVd s) (hl:s.l.length ≤ 1099511627776 ∧ s.r.length ≤ 1099511627776) (st:ISt) :
  ICall prog gl 28 [x] st (fun r st' => (∃ y,r = .tup [y,.raw (.int .i64 (SetS s).2)] ∧ IsSq (SetS s).1 y) ∧ st' = st) :=
 (vXu gl G T s x hx hs hl st).mono fun r st' ⟨⟨y,h1,h2⟩,h3⟩ => ⟨⟨y,h1,h2.w⟩,h3⟩
theorem zYz:∀ {l:List Fm} {c:Nat},(∀ f ∈ l,f.size ≤ c) → yQ7 l ≤ l.length * c
 | [],c,_ => by simp [yQ7]
 | a :: l,c,h => by
  have h1:=h a (by simp)
  have h2:=zYz (l:=l) fun f hf => h f (by simp [hf])
  rw [List.length_cons,Nat.succ_mul]
  simp only [yQ7]; omega
def yJv (ca:Nat) (s m:Sq):Sq:=⟨s.l ++ m.l,if ca ≠ 2 ∨ m.r.length = 0 then s.r ++ m.r else m.r⟩
def okI (ca:Nat) (s m:Sq):Bool:=decide ((yJv ca s m).l.length ≤ 64) && decide ((yJv ca s m).r.length ≤ 64)
noncomputable def xYl (ca:Nat) (s:Sq) (rule:Nat) (main:Fm) (term:Tm) (name:ByteArray):List Sq × Nat :=
 if !yJi ca then ([],2) else if (yJ3 ca s rule main term name).2 ≠ 0 then ([],(yJ3 ca s rule main term name).2)
 else if (yJ3 ca s rule main term name).1.all (okI ca s) then ((yJ3 ca s rule main term name).1.map (yJv ca s),0) else ([],5)
theorem wYj {c:Prop} [Decidable c] {A B:List Sq} (h1:A.length ≤ 2) (h2:B.length ≤ 2):(if c then A else B).length ≤ 2:=by split <;> assumption
theorem xVk (ca rule:Nat) (main a b:Fm):(addS ca rule main a b).length ≤ 2:=by
 unfold addS
 repeat' apply wYj
 all_goals first | exact Nat.zero_le _ | exact Nat.le_refl 2 | exact Nat.le_succ 1
theorem wZ7 {ca rule:Nat} {r:Rw} {main:Fm} {term:Tm} {name:ByteArray} {ad:List Sq} (h:yKw ca rule r main term name = (ad,0)):ad.length ≤ 2:=by
 unfold yKw at h
 by_cases hc:(!fmB ca main || (decide (r.op ≠ 0) && decide (main.op ≠ r.op))) = true
 ·rw [if_pos hc] at h
  cases (Prod.mk.inj h).2
 ·rw [if_neg hc] at h
  by_cases h0:r.asks = 0
  ·simp only [if_pos h0] at h
   rw [← (Prod.mk.inj h).1]
   exact xVk ..
  ·simp only [if_neg h0] at h
   generalize (if r.asks = 2 then Tm.mk true name [] else term) = t at h
   by_cases h1:(!t.ok) = true
   ·simp only [if_pos h1] at h
    cases (Prod.mk.inj h).2
   ·simp only [if_neg h1] at h
    by_cases h2:(yZu ((main.subs[0]?).getD fm0) [(main.nm,t)]).2 ≠ 0
    ·simp only [if_pos h2] at h
     cases (Prod.mk.inj h).2
    ·simp only [if_neg h2] at h
     rw [← (Prod.mk.inj h).1]
     exact xVk ..
theorem xU0 {st st' S0:ISt} {tg:Tag} {n s:Nat} (h:own st tg n s S0) (hs:subSt st st'):own st' tg n s S0:=h.mono fun g hg _ => hs g _ hg
theorem wVs (G:Gl gl) (T:Gt gl) (ca:Nat) (s:Sq) (x:IV) (hx:IsSq s x) (hs:yVd s) (rule:Nat) (main:Fm) (y:IV) (hy:IsFm main y) (hm:main.size ≤ 1000000) (term:Tm) (z:IV) (hz:IsTm term z) (ht:term.size ≤ 1000000) (name:ByteArray) (st:ISt) :
  ICall prog gl 45 [.raw (.int .u8 ca),x,.raw (.int .u8 rule),y,z,.raw (.string name)] st (AdR st (xYl ca s rule main term name)):=by
 have hstep:=fun st => wKt gl G T ca s x hx hs rule main y hy hm term z hz ht name st
 have hkn:=fun st => xXp gl ca st
 obtain ⟨t1,x1,t2,x2,rfl,e1,i1,e2,i2⟩:=hx
 obtain ⟨o3,n3,t3,x3,t4,x4,rfl⟩:=hy.agg
 obtain ⟨v,un,tz,xz,rfl⟩:=xYz hz
 unfold xYl
 refine ICall.intro (c:=cf prog gl [] [(10,[0,1,3,4,6,7,9,2,5,8,10]),(12,[0,1,3,4,2,5,6,7])]) func45 rfl (by show _ ≤ 82; simp) (by kernel_rfl) ?_
 simp -implicitDefEqProofs -dsimp only [go_sem,fits]
 refine (hkn _).mono ?_
 rintro _ st ⟨rfl,rfl⟩
 cases hk:yJi ca
 ·simp -implicitDefEqProofs -dsimp only [go_sem,fits]
  exact yQ0 ⟨_,_,rfl,.inl rfl,rfl,rfl⟩
 simp -implicitDefEqProofs -dsimp only [go_sem,fits]
 refine (hstep _).mono ?_
 rintro _ st ⟨tg,ys,rfl,he,hys,rfl⟩
 generalize hq:yJ3 ca s rule main term name = q at hys ⊢
 obtain ⟨ad,er⟩:=q
 simp only at hys ⊢
 by_cases h0:er = 0
 ·subst h0
  obtain ⟨hv,r,hr⟩:=xG4 hq
  have hfit:=xZ6 hr
  have hal2:=wZ7 hr
  have hvl:s.l.length ≤ 64 ∧ s.r.length ≤ 64:=by
   unfold yXn at hv
   simp only [bAt,dTe] at hv
   exact ⟨hv.1.1.1.1.2,hv.1.1.1.2⟩
  have hF1:=fun st => xJ0 gl s.l t1 x1 e1 i1 (by have:=zYz hs.1; omega) st
  have hF2:=fun st => xJ0 gl s.r t2 x2 e2 i2 (by have:=zYz hs.2; omega) st
  simp only [Bool.not_true,bFt,if_false,ne_eq,nTf]
  simp -implicitDefEqProofs -dsimp only [go_sem,show decide (((0:Nat):Int) = 0) = true from rfl,hys.len,fits]
  intro hal
  refine LoopC.ctr ad.length (fun k fr st' ds => (ad.take k).all (okI ca s) = true ∧ (∃ tg' zs,fr 16 = .iv (.sl tg' zs) ∧ IsSqs ((ad.take k).map (yJv ca s)) zs ∧ own st' tg' k 2 st ∧ subSt st st') ∧ fr 0 = .iv (.raw (.int .u8 ca)) ∧ fr 7 = .box [.sl t1 x1,.sl t2 x2] ∧
   fr 36 = .iv (.sl tg ys) ∧ fr 37 = .iv (.raw (.int .i64 ad.length)) ∧ fr 38 = .iv (.raw (.int .i64 k)) ∧ ds = []) ?_ ?_ ?_
  ·simp -implicitDefEqProofs -dsimp only [go_sem]
   exact ⟨⟨_,_,rfl,rfl,.inl ⟨rfl,rfl⟩,subSt.refl _⟩,rfl⟩
  ·rintro k fr st1 _ hlt ⟨hall,⟨tgo,zs,f16,hzs,hown,hsub⟩,f0,f7,f36,f37,f38,rfl⟩
   obtain ⟨a,ha⟩:=yQ3 hlt
   obtain ⟨w,hkw,hw⟩:=hys.get ha
   have hza:=hfit a (lMg ha)
   obtain ⟨t5,x5,t6,x6,rfl,k5,j5,k6,j6⟩:=hw
   simp -implicitDefEqProofs -dsimp only [go_sem,f0,f7,f16,f36,f37,f38,lt_i hlt,yQ2 he,iNn,hkw,fits]
   refine (hF1 _).mono ?_
   rintro _ st2 ⟨t7,y7,rfl,k7,_,hy7,hown7,hsub7⟩
   simp -implicitDefEqProofs -dsimp only [go_sem,f0,f7,f16,f36,f37,f38,fits]
   refine yJ1 hown7 hy7.len j5.len hsub7 rfl (List.all_eq_true.2 (yJ5 j5)) (by show _ * 72 ≤ _; have:=hza.2.1; omega) (by have:=hza.2.1; omega) fun t8 st3 hown8 hsub8 _ => ?_
   obtain ⟨L,hL⟩:∃ L,L = y7 ++ x5:=⟨_,rfl⟩
   have hLs:IsFms (yJv ca s a).l L:=hL ▸ hy7.1.append j5
   have tL:=hown8.es
   rw [← hL]
   by_cases hca:ca = 2
   ·have dca:decide ((ca:Int) = 2) = true:=dEt (by omega)
    by_cases hr0:a.r.length = 0
    ·simp -implicitDefEqProofs -dsimp only [go_sem,f0,f7,f16,f36,f37,f38,fits,dca,j6.len,hr0,show decide (((0:Nat):Int) = 0) = true from rfl]
     refine (hF2 _).mono ?_
     rintro _ st4 ⟨t9,y9,rfl,k9,_,hy9,hown9,hsub9⟩
     simp -implicitDefEqProofs -dsimp only [go_sem,f0,f7,f16,f36,f37,f38,fits]
     refine yJ1 hown9 hy9.len j6.len hsub9 rfl (List.all_eq_true.2 (yJ5 j6)) (by show _ * 72 ≤ _; have:=hza.2.2; omega) (by have:=hza.2.2; omega) fun t10 st5 hown10 hsub10 _ => ?_
     obtain ⟨R,hR⟩:∃ R,R = y9 ++ x6:=⟨_,rfl⟩
     have hRs:IsFms (yJv ca s a).r R:=by rw [hR]; unfold yJv; rw [if_pos (by omega)]; exact hy9.1.append j6
     rw [← hR]
     have hown':=xU0 hown (hsub8.trans hsub10)
     have hallA:∀ (h:okI ca s a = false),ad.all (okI ca s) = false:=fun h => List.all_eq_false.2 ⟨a,lMg ha,by rw [h]; simp⟩
     by_cases hl64:(yJv ca s a).l.length ≤ 64
     ·have dl:decide ((64:Int) < (((yJv ca s a).l.length:Nat):Int)) = false:=dEf (by omega)
      by_cases hr64:(yJv ca s a).r.length ≤ 64
      ·have dr:decide ((64:Int) < (((yJv ca s a).r.length:Nat):Int)) = false:=dEf (by omega)
       have hok:okI ca s a = true:=by unfold okI; rw [dEt hl64,dEt hr64]; rfl
       simp -implicitDefEqProofs -dsimp only [go_sem,f0,f7,f16,f36,f37,f38,fits,hLs.len,hRs.len,dl,dr,yQ1]
       intros
       refine yZ5 hown' (by rw [hzs.len,List.length_map,List.length_take]; omega) (hsub.trans (hsub8.trans hsub10)) rfl (by simp [fits,IV.one]) (by simp only; omega) (by omega) fun tg2 st6 hown2 hsub4 _ => ?_
       simp -implicitDefEqProofs -dsimp only [go_sem,f0,f7,f16,f36,f37,f38,fits,yQa hlt (show ad.length ≤ 281474976710656 by omega)]
       refine ⟨by rw [yQ5 ha,List.all_append,hall]; simp [hok],tg2,_,rfl,?_,hown2,hsub4⟩
       rw [yQ5 ha,List.map_append]
       exact hzs.append ⟨_,_,rfl,⟨_,_,_,_,rfl,tL,hLs,hown10.es,hRs⟩,rfl⟩
      ·have dr:decide ((64:Int) < (((yJv ca s a).r.length:Nat):Int)) = true:=dEt (by omega)
       simp -implicitDefEqProofs -dsimp only [go_sem,f0,f7,f16,f36,f37,f38,fits,hLs.len,hRs.len,dl,dr]
       intros
       refine yQb (hsub.trans (hsub8.trans hsub10)) ?_
       rw [hallA (by unfold okI; rw [dEf hr64,Bool.and_false])]
       exact ⟨_,_,rfl,.inl rfl,rfl,rfl⟩
     ·have dl:decide ((64:Int) < (((yJv ca s a).l.length:Nat):Int)) = true:=dEt (by omega)
      simp -implicitDefEqProofs -dsimp only [go_sem,f0,f7,f16,f36,f37,f38,fits,hLs.len,hRs.len,dl]
      intros
      refine yQb (hsub.trans (hsub8.trans hsub10)) ?_
      rw [hallA (by unfold okI; rw [dEf hl64,Bool.false_and])]
      exact ⟨_,_,rfl,.inl rfl,rfl,rfl⟩
    ·simp -implicitDefEqProofs -dsimp only [go_sem,f0,f7,f16,f36,f37,f38,fits,dca,j6.len,show decide (((a.r.length:Nat):Int) = 0) = false from dEf (by omega),hLs.len]
     intros
     have hRs:IsFms (yJv ca s a).r x6:=by unfold yJv; rw [if_neg (by omega)]; exact j6
     have hown':=xU0 hown hsub8
     have hallA:∀ (h:okI ca s a = false),ad.all (okI ca s) = false:=fun h => List.all_eq_false.2 ⟨a,lMg ha,by rw [h]; simp⟩
     by_cases hl64:(yJv ca s a).l.length ≤ 64
     ·have dl:decide ((64:Int) < (((yJv ca s a).l.length:Nat):Int)) = false:=dEf (by omega)
      by_cases hr64:(yJv ca s a).r.length ≤ 64
      ·have dr:decide ((64:Int) < (((yJv ca s a).r.length:Nat):Int)) = false:=dEf (by omega)
       have hok:okI ca s a = true:=by unfold okI; rw [dEt hl64,dEt hr64]; rfl
       simp -implicitDefEqProofs -dsimp only [go_sem,f0,f7,f16,f36,f37,f38,fits,hLs.len,hRs.len,dl,dr,yQ1]
       intros
       refine yZ5 hown' (by rw [hzs.len,List.length_map,List.length_take]; omega) (hsub.trans hsub8) rfl (by simp [fits,IV.one]) (by simp only; omega) (by omega) fun tg2 st6 hown2 hsub4 _ => ?_
       simp -implicitDefEqProofs -dsimp only [go_sem,f0,f7,f16,f36,f37,f38,fits,yQa hlt (show ad.length ≤ 281474976710656 by omega)]
       refine ⟨by rw [yQ5 ha,List.all_append,hall]; simp [hok],tg2,_,rfl,?_,hown2,hsub4⟩
       rw [yQ5 ha,List.map_append]
       exact hzs.append ⟨_,_,rfl,⟨_,_,_,_,rfl,tL,hLs,k6,hRs⟩,rfl⟩
      ·have dr:decide ((64:Int) < (((yJv ca s a).r.length:Nat):Int)) = true:=dEt (by omega)
       simp -implicitDefEqProofs -dsimp only [go_sem,f0,f7,f16,f36,f37,f38,fits,hLs.len,hRs.len,dl,dr]
       intros
       refine yQb (hsub.trans hsub8) ?_
       rw [hallA (by unfold okI; rw [dEf hr64,Bool.and_false])]
       exact ⟨_,_,rfl,.inl rfl,rfl,rfl⟩
     ·have dl:decide ((64:Int) < (((yJv ca s a).l.length:Nat):Int)) = true:=dEt (by omega)
      simp -implicitDefEqProofs -dsimp only [go_sem,f0,f7,f16,f36,f37,f38,fits,hLs.len,hRs.len,dl]
      intros
      refine yQb (hsub.trans hsub8) ?_
      rw [hallA (by unfold okI; rw [dEf hl64,Bool.false_and])]
      exact ⟨_,_,rfl,.inl rfl,rfl,rfl⟩
   ·have dca:decide ((ca:Int) = 2) = false:=dEf (by omega)
    simp -implicitDefEqProofs -dsimp only [go_sem,f0,f7,f16,f36,f37,f38,fits,dca]
    refine (hF2 _).mono ?_
    rintro _ st4 ⟨t9,y9,rfl,k9,_,hy9,hown9,hsub9⟩
    simp -implicitDefEqProofs -dsimp only [go_sem,f0,f7,f16,f36,f37,f38,fits]
    refine yJ1 hown9 hy9.len j6.len hsub9 rfl (List.all_eq_true.2 (yJ5 j6)) (by show _ * 72 ≤ _; have:=hza.2.2; omega) (by have:=hza.2.2; omega) fun t10 st5 hown10 hsub10 _ => ?_
    obtain ⟨R,hR⟩:∃ R,R = y9 ++ x6:=⟨_,rfl⟩
    have hRs:IsFms (yJv ca s a).r R:=by rw [hR]; unfold yJv; rw [if_pos (by omega)]; exact hy9.1.append j6
    rw [← hR]
    have hown':=xU0 hown (hsub8.trans hsub10)
    have hallA:∀ (h:okI ca s a = false),ad.all (okI ca s) = false:=fun h => List.all_eq_false.2 ⟨a,lMg ha,by rw [h]; simp⟩
    by_cases hl64:(yJv ca s a).l.length ≤ 64
    ·have dl:decide ((64:Int) < (((yJv ca s a).l.length:Nat):Int)) = false:=dEf (by omega)
     by_cases hr64:(yJv ca s a).r.length ≤ 64
     ·have dr:decide ((64:Int) < (((yJv ca s a).r.length:Nat):Int)) = false:=dEf (by omega)
      have hok:okI ca s a = true:=by unfold okI; rw [dEt hl64,dEt hr64]; rfl
      simp -implicitDefEqProofs -dsimp only [go_sem,f0,f7,f16,f36,f37,f38,fits,hLs.len,hRs.len,dl,dr,yQ1]
      intros
      refine yZ5 hown' (by rw [hzs.len,List.length_map,List.length_take]; omega) (hsub.trans (hsub8.trans hsub10)) rfl (by simp [fits,IV.one]) (by simp only; omega) (by omega) fun tg2 st6 hown2 hsub4 _ => ?_
      simp -implicitDefEqProofs -dsimp only [go_sem,f0,f7,f16,f36,f37,f38,fits,yQa hlt (show ad.length ≤ 281474976710656 by omega)]
      refine ⟨by rw [yQ5 ha,List.all_append,hall]; simp [hok],tg2,_,rfl,?_,hown2,hsub4⟩
      rw [yQ5 ha,List.map_append]
      exact hzs.append ⟨_,_,rfl,⟨_,_,_,_,rfl,tL,hLs,hown10.es,hRs⟩,rfl⟩
     ·have dr:decide ((64:Int) < (((yJv ca s a).r.length:Nat):Int)) = true:=dEt (by omega)
      simp -implicitDefEqProofs -dsimp only [go_sem,f0,f7,f16,f36,f37,f38,fits,hLs.len,hRs.len,dl,dr]
      intros
      refine yQb (hsub.trans (hsub8.trans hsub10)) ?_
      rw [hallA (by unfold okI; rw [dEf hr64,Bool.and_false])]
      exact ⟨_,_,rfl,.inl rfl,rfl,rfl⟩
    ·have dl:decide ((64:Int) < (((yJv ca s a).l.length:Nat):Int)) = true:=dEt (by omega)
     simp -implicitDefEqProofs -dsimp only [go_sem,f0,f7,f16,f36,f37,f38,fits,hLs.len,hRs.len,dl]
     intros
     refine yQb (hsub.trans (hsub8.trans hsub10)) ?_
     rw [hallA (by unfold okI; rw [dEf hl64,Bool.false_and])]
     exact ⟨_,_,rfl,.inl rfl,rfl,rfl⟩
  ·rintro fr st1 _ ⟨hall,⟨tgo,zs,f16,hzs,hown,hsub⟩,f0,f7,f36,f37,f38,rfl⟩
   rw [lTl] at hall hzs
   simp -implicitDefEqProofs -dsimp only [go_sem,f16,f37,f38,yQn (nLi _),fits]
   rw [if_pos hall]
   exact yQb hsub ⟨_,_,rfl,hown.es,hzs,rfl⟩
 ·have d0:decide ((er:Int) = 0) = false:=dEf (by omega)
  simp -implicitDefEqProofs -dsimp only [go_sem,d0,fits]
  rw [if_pos h0]
  exact yQ0 ⟨_,_,rfl,.inl rfl,rfl,rfl⟩
end Go.Proofs.Tryz
namespace Go.Proofs.Tryz
open Go Go.Iv
end Go.Proofs.Tryz
namespace Go.Proofs.Tryz
open Go Go.Iv
theorem wJk {a b:Fm}:eqF a b = true ↔ a.op = b.op ∧ a.right = true ∧ b.right = true ∧ dbF [] a = dbF [] b:=by
 unfold eqF yK5
 simp only [bAt,dTe,yQo,and_assoc]
theorem xVe {a:Fm} (h:a.right = true):eqF a a = true:=wJk.2 ⟨rfl,h,h,rfl⟩
theorem xQg {l:List Fm} {f:Fm}:hasF l f = true ↔ ∃ g ∈ l,eqF f g = true:=by simp [hasF]
theorem wZ6 {l m:List Fm}:allF l m = true ↔ ∀ f ∈ l,hasF m f = true:=by simp [allF]
end Go.Proofs.Tryz
namespace Go.Proofs.Tryz
open Go Go.Iv
section
variable {ca rule:Nat} {s:Sq} {f:Fm} {u:Tm} {n:ByteArray} {sub:List Tr} (h:(yJl ca (.mk rule s f u n sub)).2 = 0) (h1:s.l.length < 64) (h2:s.r.length < 64)
include h h1 h2
end
end Go.Proofs.Tryz
namespace Go.Proofs.Tryz
open Go Go.Iv
section
variable {ca rule:Nat} {s:Sq} {f:Fm} {u:Tm} {n:ByteArray} {sub:List Tr} (h:(yJl ca (.mk rule s f u n sub)).2 = 0)
include h
end
end Go.Proofs.Tryz
namespace Go.Proofs.Tryz
open Go Go.Iv
end Go.Proofs.Tryz
namespace Go.Proofs.Tryz
open Go Go.Iv
end Go.Proofs.Tryz
namespace Go.Proofs.Tryz
open Go Go.Iv
set_option maxRecDepth 4000
variable (gl:Nat → Option IV)
mutual
def opsR (ca:Nat):Fm → Bool
 | .mk op _ us sub => (!decide (9 < op) && (!decide (7 < op) || decide (ca = 3)) && (!decide (op = 1) || !decide (0 < us.length) || decide (ca = 3))) && yU9 ca sub
def yU9 (ca:Nat):List Fm → Bool
 | [] => true
 | a :: l => opsR ca a && yU9 ca l
end
theorem xWi {op:Nat} {n:ByteArray} {a b:Nat} (h:yZ4 op n a b = true):1 ≤ op ∧ (op ≠ 1 → a = 0):=by
 unfold yZ4 at h
 split at h
 all_goals (first | (simp only [bAt,dTe] at h; refine ⟨by decide,fun h1 => ?_⟩; first | exact absurd rfl h1 | exact h.1.2) | cases h)
mutual
theorem xU3 (ca:Nat):∀ f:Fm,f.ok = true → opsR ca f = opsB ca f
 | .mk op n us sub,h => by
  simp only [Fm.ok,bAt] at h
  obtain ⟨h1,h2⟩:=xWi h.1.1
  have ih:=xKc ca sub h.2
  simp only [opsR,opsB,ih]
  congr 1
  have hus:us.isEmpty = decide (us.length = 0):=by cases us <;> simp
  rw [hus,Bool.eq_iff_iff]
  simp only [bAt,Bool.or_eq_true,Bool.not_eq_true',dTe,decide_eq_false_iff_not]
  by_cases hc:ca = 3
  ·simp only [hc,if_true,or_true,and_true,true_or]; omega
  ·simp only [hc,if_false,or_false,false_or]
   by_cases ho:op = 1
   ·simp only [ho,nTf,false_or]; omega
   ·have:=h2 ho
    simp only [ho,nFt,true_or,and_true,this]; omega
theorem xKc (ca:Nat):∀ l:List Fm,yKi l = true → yU9 ca l = yY2 ca l
 | [],_ => rfl
 | a :: l,h => by
  simp only [yKi,bAt] at h
  simp only [yU9,yY2,xU3 ca a h.1,xKc ca l h.2]
end
theorem zZo (ca:Nat):∀ l m:List Fm,yU9 ca (l ++ m) = (yU9 ca l && yU9 ca m)
 | [],m => by simp [yU9]
 | a :: l,m => by simp only [List.cons_append,yU9,zZo ca l m,Bool.and_assoc]
theorem xWh {ca:Nat} {l:List Fm} {k:Nat} {a:Fm} (h:l[k]? = some a):yU9 ca (l.take (k + 1)) = (yU9 ca (l.take k) && opsR ca a):=by
 rw [yQ5 h,zZo]; simp [yU9]
theorem wXr {ca:Nat} {l:List Fm} {a:Fm} (h:a ∈ l) (ha:opsR ca a = false):yU9 ca l = false:=by
 induction l with
 | nil => cases h
 | cons b l ih =>
  simp only [yU9]
  rcases List.mem_cons.1 h with rfl | h
  ·rw [ha]; rfl
  ·rw [ih h,Bool.and_false]
def roC (ca:Nat) (f:Fm):Prop:=∀ (x:IV) (_:IsFm f x) (_:f.size ≤ 1099511627776) (st:ISt),ICall prog gl 111 [.raw (.int .u8 ca),x] st (fun r st' => r = .raw (.bool (opsR ca f)) ∧ st' = st)
theorem wXq (ca:Nat) (o:Nat) (n:ByteArray) (us:List Tm) (sub:List Fm) (IH:∀ a ∈ sub,roC gl ca a):roC gl ca (.mk o n us sub):=by
 intro x hx hs st
 obtain ⟨t1,x1,t2,x2,rfl,ho,e1,i1,e2,i2⟩:=hx.mk
 simp only [Fm.size] at hs
 have hlsz:=yQx sub
 have d9:decide ((9:Int) < ((o:Nat):Int)) = decide (9 < o):=by rw [decide_eq_decide]; omega
 have d7:decide ((7:Int) < ((o:Nat):Int)) = decide (7 < o):=by rw [decide_eq_decide]; omega
 have d1:decide (((o:Nat):Int) = 1) = decide (o = 1):=by rw [decide_eq_decide]; omega
 have d3:decide (((ca:Nat):Int) = 3) = decide (ca = 3):=by rw [decide_eq_decide]; omega
 have du:decide ((0:Int) < ((us.length:Nat):Int)) = decide (0 < us.length):=by rw [decide_eq_decide]; omega
 refine iI func111 rfl rfl (by kernel_rfl) ?_
 cases q9:decide (9 < o)
 case true =>
  simp -implicitDefEqProofs -dsimp only [go_sem,fits,d9,q9]
  intros
  exact yQ0 ⟨by simp only [opsR,q9,Bool.not_true,Bool.false_and],rfl⟩
 cases q7:decide (7 < o) <;> cases q3:decide (ca = 3) <;> cases q1:decide (o = 1) <;> cases qu:decide (0 < us.length)
 all_goals
  first
   | (simp -implicitDefEqProofs -dsimp only [go_sem,fits,i1.len,d9,d7,d1,d3,du,q9,q7,q3,q1,qu]
      intros
      refine LoopC.ctr sub.length (fun k fr st' ds => yU9 ca (sub.take k) = true ∧ fr 0 = .iv (.raw (.int .u8 ca)) ∧ fr 3 = .box [.raw (.int .u8 o),.raw (.string n),.sl t1 x1,.sl t2 x2] ∧ fr 5 = .iv (.raw (.int .i64 k)) ∧ st' = st ∧ ds = []) ?_ ?_ ?_
      ·simp -implicitDefEqProofs -dsimp only [go_sem]
       exact ⟨rfl,rfl⟩
      ·rintro k fr st1 _ hlt ⟨hk,f0,f3,f5,rfl,rfl⟩
       obtain ⟨a,ha⟩:=yQ3 hlt
       obtain ⟨z,hkz,hzz⟩:=i2.get ha
       obtain ⟨h1,h2⟩:=yQs ha
       have hcall:=fun st => IH a (lMg ha) z hzz (by omega) st
       obtain ⟨o5,n5,t5,x5,t6,x6,rfl⟩:=hzz.agg
       simp -implicitDefEqProofs -dsimp only [go_sem,f0,f3,f5,i2.len,lt_i hlt,yQ2 e2,iNn,hkz,fits]
       intro _
       refine (hcall _).mono ?_
       rintro _ st2 ⟨rfl,rfl⟩
       cases hra:opsR ca a
       ·simp -implicitDefEqProofs -dsimp only [go_sem,f0,f3,f5,fits]
        exact yQ0 ⟨by simp only [opsR,wXr (lMg ha) hra,Bool.and_false],rfl⟩
       ·simp -implicitDefEqProofs -dsimp only [go_sem,f0,f3,f5,fits,yQa hlt (show sub.length ≤ 281474976710656 by omega)]
        rw [xWh ha,hk,hra]; rfl
      ·rintro fr st1 _ ⟨hk,f0,f3,f5,rfl,rfl⟩
       rw [lTl] at hk
       simp -implicitDefEqProofs -dsimp only [go_sem,f0,f3,f5,i2.len,yQn (nLi _)]
       intro _
       exact yQ0 ⟨by unfold opsR; rw [hk,q9,q7,q3,q1,qu]; rfl,rfl⟩
      done)
   | (simp -implicitDefEqProofs -dsimp only [go_sem,fits,i1.len,d9,d7,d1,d3,du,q9,q7,q3,q1,qu]
      intros
      exact yQ0 ⟨by unfold opsR; rw [q9,q7,q3,q1,qu]; rfl,rfl⟩)
theorem xU2 (ca:Nat):∀ (k:Nat) (f:Fm),SizeOf.sizeOf f < k → roC gl ca f
 | 0,f,h => by omega
 | k + 1,.mk o n us sub,h => wXq gl ca o n us sub (fun a ha => xU2 ca k a (by
   have:=lSm ha
   simp only [Fm.mk.sizeOf_spec] at h
   omega))
theorem wWz (ca:Nat) (f:Fm) (x:IV) (hx:IsFm f x) (hs:f.size ≤ 1099511627776) (st:ISt):ICall prog gl 64 [.raw (.int .u8 ca),x] st (fun r st' => r = .raw (.bool (fmB ca f)) ∧ st' = st):=by
 have h1:=fun st => zX8 gl f x hx hs st
 have h2:=fun st => xU2 gl ca _ f (Nat.lt_succ_self _) x hx hs st
 unfold fmB
 obtain ⟨o5,n5,t5,x5,t6,x6,rfl⟩:=hx.agg
 refine iI func64 rfl rfl (by kernel_rfl) ?_
 simp -implicitDefEqProofs -dsimp only [go_sem,fits]
 refine (h1 _).mono ?_
 rintro _ st ⟨rfl,rfl⟩
 cases hr:f.right
 ·simp -implicitDefEqProofs -dsimp only [go_sem,fits]
  exact yQ0 ⟨rfl,rfl⟩
 simp -implicitDefEqProofs -dsimp only [go_sem,fits]
 refine (h2 _).mono ?_
 rintro _ st ⟨rfl,rfl⟩
 simp -implicitDefEqProofs -dsimp only [go_sem,fits]
 exact yQ0 ⟨by rw [xU3 ca f (yJp hr).1],rfl⟩
theorem wK5 {a b:Fm} (h:yK5 a b = true):a.op = b.op:=by
 unfold yK5 at h
 simp only [bAt] at h
 have:=yQo.1 h.2
 obtain ⟨o,n,us,sub⟩:=a
 obtain ⟨o',n',us',sub'⟩:=b
 simp only [dbF] at this
 split at this <;> split at this <;> simp only [NlF.mk.injEq] at this <;> exact this.1
theorem xQn (a b:Fm):eqF a b = yK5 b a:=by
 unfold eqF
 rw [Bool.eq_iff_iff,bAt,dTe]
 have hs:∀ x y:Fm,yK5 x y = true → yK5 y x = true:=fun x y h => by
  unfold yK5 at h ⊢
  simp only [bAt] at h ⊢
  exact ⟨⟨h.1.2,h.1.1⟩,yQo.2 (yQo.1 h.2).symm⟩
 exact ⟨fun h => hs _ _ h.2,fun h => ⟨(wK5 h).symm,hs _ _ h⟩⟩
theorem xGv (G:Gl gl) (l:List Fm) (tg:Tag) (xs:List IV) (htg:okEs tg 4) (hxs:IsFms l xs) (f:Fm) (y:IV) (hy:IsFm f y) (hl:fitL l) (hf:f.size ≤ 1000000) (hlen:l.length ≤ 1099511627776) (st:ISt) :
  ICall prog gl 34 [.sl tg xs,y] st (fun r st' => r = .raw (.bool (hasF l f)) ∧ st' = st):=by
 have hA:=fun g z hz (hg:g.size ≤ 1000000) st => xK7 gl g f z y hz hy (by omega) (by omega) st
 obtain ⟨o9,n9,t9,x9,t8,x8,rfl⟩:=hy.agg
 refine iI func34 rfl rfl (by kernel_rfl) ?_
 simp -implicitDefEqProofs -dsimp only [go_sem,fits]
 refine LoopC.ctr l.length (fun k fr st' ds => hasF (l.take k) f = false ∧ fr 0 = .iv (.sl tg xs) ∧ fr 3 = .box [.raw (.int .u8 o9),.raw (.string n9),.sl t9 x9,.sl t8 x8] ∧ fr 5 = .iv (.raw (.int .i64 k)) ∧ st' = st ∧ ds = []) ?_ ?_ ?_
 ·simp -implicitDefEqProofs -dsimp only [go_sem]
  exact ⟨rfl,rfl⟩
 ·rintro k fr st1 _ hlt ⟨hk,f0,f3,f5,rfl,rfl⟩
  obtain ⟨a,ha⟩:=yQ3 hlt
  have ham:=lMg ha
  obtain ⟨z,hkz,hzz⟩:=hxs.get ha
  have hcall:=fun st => hA a z hzz (hl a ham) st
  obtain ⟨o5,n5,t5,x5,t6,x6,rfl⟩:=hzz.agg
  simp -implicitDefEqProofs -dsimp only [go_sem,f0,f3,f5,hxs.len,lt_i hlt,yQ2 htg,iNn,hkz,fits]
  intro _
  refine (hcall _).mono ?_
  rintro _ st2 ⟨rfl,rfl⟩
  rw [← xQn]
  cases hra:eqF f a
  ·simp -implicitDefEqProofs -dsimp only [go_sem,f0,f3,f5,fits,yQa hlt (show l.length ≤ 281474976710656 by omega)]
   unfold hasF at hk ⊢
   rw [yQ5 ha,List.any_append,hk]
   simp [hra]
  ·simp -implicitDefEqProofs -dsimp only [go_sem,f0,f3,f5,fits]
   refine yQ0 ⟨?_,rfl⟩
   have:hasF l f = true:=xQg.2 ⟨a,ham,hra⟩
   rw [this]
 ·rintro fr st1 _ ⟨hk,f0,f3,f5,rfl,rfl⟩
  rw [lTl] at hk
  simp -implicitDefEqProofs -dsimp only [go_sem,f0,f3,f5,hxs.len,yQn (nLi _)]
  intro _
  exact yQ0 ⟨by rw [hk],rfl⟩
theorem vQf (G:Gl gl) (l a b:List Fm) (tl ta tb:Tag) (xl xa xb:List IV) (e1:okEs tl 4) (i1:IsFms l xl) (e2:okEs ta 4) (i2:IsFms a xa) (e3:okEs tb 4) (i3:IsFms b xb) (hl:fitL l) (ha:fitL a) (hb:fitL b)
  (hlen:l.length ≤ 1099511627776 ∧ a.length ≤ 1099511627776 ∧ b.length ≤ 1099511627776) (st:ISt) :
  ICall prog gl 81 [.sl tl xl,.sl ta xa,.sl tb xb] st (fun r st' => r = .raw (.bool (allF l (a ++ b))) ∧ st' = st):=by
 have hHa:=fun f y hy hf st => xGv gl G a ta xa e2 i2 f y hy ha hf hlen.2.1 st
 have hHb:=fun f y hy hf st => xGv gl G b tb xb e3 i3 f y hy hb hf hlen.2.2 st
 have happ:∀ f,hasF (a ++ b) f = (hasF a f || hasF b f):=fun f => by unfold hasF; rw [List.any_append]
 refine iI func81 rfl rfl (by kernel_rfl) ?_
 simp -implicitDefEqProofs -dsimp only [go_sem,fits]
 refine LoopC.ctr l.length (fun k fr st' ds => allF (l.take k) (a ++ b) = true ∧ fr 0 = .iv (.sl tl xl) ∧ fr 1 = .iv (.sl ta xa) ∧ fr 2 = .iv (.sl tb xb) ∧ fr 7 = .iv (.raw (.int .i64 k)) ∧ st' = st ∧ ds = []) ?_ ?_ ?_
 ·simp -implicitDefEqProofs -dsimp only [go_sem]
  exact ⟨rfl,rfl⟩
 ·rintro k fr st1 _ hlt ⟨hk,f0,f1,f2,f7,rfl,rfl⟩
  obtain ⟨q,hq⟩:=yQ3 hlt
  have hqm:=lMg hq
  obtain ⟨z,hkz,hzz⟩:=i1.get hq
  have hca:=fun st => hHa q z hzz (hl q hqm) st
  have hcb:=fun st => hHb q z hzz (hl q hqm) st
  obtain ⟨o5,n5,t5,x5,t6,x6,rfl⟩:=hzz.agg
  have hno:(hasF a q || hasF b q) = false → allF l (a ++ b) = false:=fun h => by
   cases hh:allF l (a ++ b)
   ·rfl
   ·have:=wZ6.1 hh q hqm
    rw [happ,h] at this; cases this
  have hyes:(hasF a q || hasF b q) = true → allF (l.take (k + 1)) (a ++ b) = true:=fun h => by
   rw [← happ] at h
   unfold allF at hk ⊢
   rw [yQ5 hq,List.all_append,hk]
   simp [h]
  simp -implicitDefEqProofs -dsimp only [go_sem,f0,f1,f2,f7,i1.len,lt_i hlt,yQ2 e1,iNn,hkz,fits]
  intro _
  refine (hca _).mono ?_
  rintro _ st2 ⟨rfl,rfl⟩
  cases hra:hasF a q
  ·rw [hra] at hno hyes
   simp -implicitDefEqProofs -dsimp only [go_sem,f0,f1,f2,f7,i1.len,lt_i hlt,yQ2 e1,iNn,hkz,fits]
   intros
   refine (hcb _).mono ?_
   rintro _ st2 ⟨rfl,rfl⟩
   cases hrb:hasF b q
   ·rw [hrb] at hno
    simp -implicitDefEqProofs -dsimp only [go_sem,f0,f1,f2,f7,fits]
    exact yQ0 ⟨by rw [hno rfl],rfl⟩
   ·rw [hrb] at hyes
    simp -implicitDefEqProofs -dsimp only [go_sem,f0,f1,f2,f7,fits,yQa hlt (show l.length ≤ 281474976710656 by omega)]
    exact hyes rfl
  ·rw [hra] at hyes
   simp -implicitDefEqProofs -dsimp only [go_sem,f0,f1,f2,f7,fits,yQa hlt (show l.length ≤ 281474976710656 by omega)]
   exact hyes rfl
 ·rintro fr st1 _ ⟨hk,f0,f1,f2,f7,rfl,rfl⟩
  rw [lTl] at hk
  simp -implicitDefEqProofs -dsimp only [go_sem,f0,f1,f2,f7,i1.len,yQn (nLi _)]
  intro _
  exact yQ0 ⟨by rw [hk],rfl⟩
end Go.Proofs.Tryz
namespace Go.Proofs.Tryz
open Go Go.Iv
section
variable (nm:ByteArray) (g:Fm)
end
section
variable {nm:ByteArray} {g:Fm} {ca:Nat}
end
section
variable {nm:ByteArray} {g:Fm} {ca:Nat}
end
end Go.Proofs.Tryz
namespace Go.Proofs.Tryz
open Go Go.Iv
set_option maxRecDepth 4000
variable (gl:Nat → Option IV)
theorem xY2 (r:List Fm):zZ6 r = r.all (yK5 ((r[0]?).getD fm0)):=by
 cases r with
 | nil => rfl
 | cons a l =>
  show ((a :: l).all fun f => eqF f a) = (a :: l).all (yK5 a)
  congr 1
  funext f
  exact xQn f a
def qV (ca:Nat) (hd f:Fm):Prop:=fmB ca f = true ∧ (ca = 2 → yK5 hd f = true)
theorem zVe {ca:Nat} {s:Sq}:yXn ca s = true ↔ yJi ca = true ∧ s.l.length ≤ 64 ∧ s.r.length ≤ 64 ∧ (∀ f ∈ s.l,fmB ca f = true) ∧ ∀ f ∈ s.r,qV ca ((s.r[0]?).getD fm0) f:=by
 unfold yXn qV
 rw [xY2]
 simp only [bAt,Bool.or_eq_true,dTe,List.all_eq_true]
 constructor
 ·rintro ⟨⟨⟨⟨⟨h1,h2⟩,h3⟩,h4⟩,h5⟩,h6⟩
  exact ⟨h1,h2,h3,h4,fun f hf => ⟨h5 f hf,fun hc => h6.resolve_left (fun h => h hc) f hf⟩⟩
 ·rintro ⟨h1,h2,h3,h4,h5⟩
  refine ⟨⟨⟨⟨⟨h1,h2⟩,h3⟩,h4⟩,fun f hf => (h5 f hf).1⟩,?_⟩
  by_cases hc:ca = 2
  ·exact .inr fun f hf => (h5 f hf).2 hc
  ·exact .inl hc
theorem yKy {ca:Nat} {s:Sq} (h:¬ (yJi ca = true ∧ s.l.length ≤ 64 ∧ s.r.length ≤ 64 ∧ (∀ f ∈ s.l,fmB ca f = true) ∧ ∀ f ∈ s.r,qV ca ((s.r[0]?).getD fm0) f)):yXn ca s = false:=by
 cases hv:yXn ca s
 ·rfl
 ·exact absurd (zVe.1 hv) h
set_option maxHeartbeats 1000000 in
theorem wXh (ca:Nat) (s:Sq) (x:IV) (hx:IsSq s x) (hs:yVd s) (st:ISt):ICall prog gl 32 [.raw (.int .u8 ca),x] st (fun r st' => r = .raw (.bool (yXn ca s)) ∧ st' = st):=by
 have hF:=fun f z hz (hf:f.size ≤ 1000000) st => wWz gl ca f z hz (by omega) st
 have hAl:=fun f g z w hz hw (hf:f.size ≤ 1000000) (hg:g.size ≤ 1000000) st => xK7 gl f g z w hz hw hf hg st
 obtain ⟨l,r⟩:=s
 obtain ⟨t1,x1,t2,x2,rfl,e1,i1,e2,i2⟩:=hx
 simp only [yVd] at hs i1 i2
 obtain ⟨hl,hr⟩:=hs
 have k1:decide (((ca:Nat):Int) < 1) = decide (ca < 1):=by rw [decide_eq_decide]; omega
 have k2:decide ((3:Int) < ((ca:Nat):Int)) = decide (3 < ca):=by rw [decide_eq_decide]; omega
 have k3:decide ((64:Int) < ((l.length:Nat):Int)) = decide (64 < l.length):=by rw [decide_eq_decide]; omega
 have k4:decide ((64:Int) < ((r.length:Nat):Int)) = decide (64 < r.length):=by rw [decide_eq_decide]; omega
 have k5:decide (((ca:Nat):Int) = 2) = decide (ca = 2):=by rw [decide_eq_decide]; omega
 have hkn:∀ h:ca < 1 ∨ 3 < ca,¬ yJi ca = true:=fun h hk => by
  simp only [yJi,bAt,dTe] at hk; omega
 refine iI func32 rfl rfl (by kernel_rfl) ?_
 cases q1:decide (ca < 1)
 case true =>
  simp -implicitDefEqProofs -dsimp only [go_sem,fits,k1,q1]
  intros
  exact yQ0 ⟨by rw [yKy fun h => hkn (.inl (of_decide_eq_true q1)) h.1],rfl⟩
 cases q2:decide (3 < ca)
 case true =>
  simp -implicitDefEqProofs -dsimp only [go_sem,fits,k1,k2,q1,q2]
  intros
  exact yQ0 ⟨by rw [yKy fun h => hkn (.inr (of_decide_eq_true q2)) h.1],rfl⟩
 cases q3:decide (64 < l.length)
 case true =>
  simp -implicitDefEqProofs -dsimp only [go_sem,fits,k1,k2,k3,q1,q2,q3,i1.len]
  intros
  exact yQ0 ⟨by rw [yKy fun h => by have:=h.2.1; have:=of_decide_eq_true q3; simp only at *; omega],rfl⟩
 cases q4:decide (64 < r.length)
 case true =>
  simp -implicitDefEqProofs -dsimp only [go_sem,fits,k1,k2,k3,k4,q1,q2,q3,q4,i1.len,i2.len]
  intros
  exact yQ0 ⟨by rw [yKy fun h => by have:=h.2.2.1; have:=of_decide_eq_true q4; simp only at *; omega],rfl⟩
 have hk:yJi ca = true:=by
  have:=of_decide_eq_false q1
  have:=of_decide_eq_false q2
  simp only [yJi,bAt,dTe]; omega
 have hll:l.length ≤ 64:=by have:=of_decide_eq_false q3; omega
 have hlr:r.length ≤ 64:=by have:=of_decide_eq_false q4; omega
 simp -implicitDefEqProofs -dsimp only [go_sem,fits,k1,k2,k3,k4,q1,q2,q3,q4,i1.len,i2.len]
 intros
 refine LoopC.ctr l.length (fun k fr st' ds => (∀ f ∈ l.take k,fmB ca f = true) ∧ fr 0 = .iv (.raw (.int .u8 ca)) ∧ fr 3 = .box [.sl t1 x1,.sl t2 x2] ∧ fr 5 = .iv (.raw (.int .i64 k)) ∧ st' = st ∧ ds = []) ?_ ?_ ?_
 ·simp -implicitDefEqProofs -dsimp only [go_sem]
  exact ⟨fun f hf => by simp at hf,rfl⟩
 ·rintro k fr st1 _ hlt ⟨hkk,f0,f3,f5,rfl,rfl⟩
  obtain ⟨a,ha⟩:=yQ3 hlt
  have ham:=lMg ha
  obtain ⟨z,hkz,hzz⟩:=i1.get ha
  have hcall:=fun st => hF a z hzz (hl a ham) st
  obtain ⟨o5,n5,t5,x5,t6,x6,rfl⟩:=hzz.agg
  simp -implicitDefEqProofs -dsimp only [go_sem,f0,f3,f5,i1.len,lt_i hlt,yQ2 e1,iNn,hkz,fits]
  intro _
  refine (hcall _).mono ?_
  rintro _ st2 ⟨rfl,rfl⟩
  cases hra:fmB ca a
  ·simp -implicitDefEqProofs -dsimp only [go_sem,f0,f3,f5,fits]
   exact yQ0 ⟨by rw [yKy fun h => by have:=h.2.2.2.1 a ham; rw [hra] at this; cases this],rfl⟩
  ·simp -implicitDefEqProofs -dsimp only [go_sem,f0,f3,f5,fits,yQa hlt (show l.length ≤ 281474976710656 by omega)]
   intro f hf
   rw [yQ5 ha] at hf
   rcases List.mem_append.1 hf with hf | hf
   ·exact hkk f hf
   ·rw [List.mem_singleton.1 hf]; exact hra
 ·rintro fr st1 _ ⟨hkl,f0,f3,f5,rfl,rfl⟩
  rw [lTl] at hkl
  simp -implicitDefEqProofs -dsimp only [go_sem,f0,f3,f5,i1.len,yQn (nLi _)]
  intro _
  refine LoopC.ctr r.length (fun k fr st' ds => (∀ f ∈ r.take k,qV ca ((r[0]?).getD fm0) f) ∧ fr 0 = .iv (.raw (.int .u8 ca)) ∧ fr 3 = .box [.sl t1 x1,.sl t2 x2] ∧ fr 6 = .iv (.raw (.int .i64 k)) ∧ st' = st1 ∧ ds = []) ?_ ?_ ?_
  ·simp -implicitDefEqProofs -dsimp only [go_sem,f0,f3]
   exact ⟨fun f hf => by simp at hf,rfl⟩
  ·rintro k fr st1 _ hlt ⟨hkk,f0,f3,f6,rfl,rfl⟩
   obtain ⟨a,ha⟩:=yQ3 hlt
   have ham:=lMg ha
   obtain ⟨z,hkz,hzz⟩:=i2.get ha
   obtain ⟨b,hb⟩:=yQ3 (show 0 < r.length by omega)
   obtain ⟨zb,hkb,hzb⟩:=i2.get hb
   have hbm:=lMg hb
   have hcall:=fun st => hF a z hzz (hr a ham) st
   have hcal2:=fun st => hAl b a zb z hzb hzz (hr b hbm) (hr a ham) st
   have hhd:(r[0]?).getD fm0 = b:=by rw [hb]; rfl
   rw [hhd] at hkk ⊢
   have hbad:∀ h:¬ qV ca b a,yXn ca ⟨l,r⟩ = false:=fun h => yKy fun h' => h (by have:=h'.2.2.2.2 a ham; rwa [hhd] at this)
   have hgood:qV ca b a → ∀ f ∈ r.take (k + 1),qV ca b f:=fun h f hf => by
    rw [yQ5 ha] at hf
    rcases List.mem_append.1 hf with hf | hf
    ·exact hkk f hf
    ·rw [List.mem_singleton.1 hf]; exact h
   obtain ⟨o5,n5,t5,x5,t6,x6,rfl⟩:=hzz.agg
   obtain ⟨o7,n7,t7,x7,t8,x8,rfl⟩:=hzb.agg
   simp -implicitDefEqProofs -dsimp only [go_sem,f0,f3,f6,i2.len,lt_i hlt,yQ2 e2,iNn,hkz,fits]
   intro _
   refine (hcall _).mono ?_
   rintro _ st2 ⟨rfl,rfl⟩
   cases hra:fmB ca a
   ·simp -implicitDefEqProofs -dsimp only [go_sem,f0,f3,f6,fits]
    exact yQ0 ⟨by rw [hbad fun h => by rw [h.1] at hra; cases hra],rfl⟩
   ·cases q5:decide (ca = 2)
    ·simp -implicitDefEqProofs -dsimp only [go_sem,f0,f3,f6,fits,k5,q5,yQa hlt (show r.length ≤ 281474976710656 by omega)]
     exact hgood ⟨hra,fun h => absurd h (of_decide_eq_false q5)⟩
    ·simp -implicitDefEqProofs -dsimp only [go_sem,f0,f3,f6,fits,k5,q5,i2.len,yQ2 e2,iNn,hkz,hkb,Int.le_refl,Int.toNat_zero]
     intros
     refine (hcal2 _).mono ?_
     rintro _ st2 ⟨rfl,rfl⟩
     cases hrb:yK5 b a
     ·simp -implicitDefEqProofs -dsimp only [go_sem,f0,f3,f6,fits]
      exact yQ0 ⟨by rw [hbad fun h => by rw [h.2 (of_decide_eq_true q5)] at hrb; cases hrb],rfl⟩
     ·simp -implicitDefEqProofs -dsimp only [go_sem,f0,f3,f6,fits,yQa hlt (show r.length ≤ 281474976710656 by omega)]
      exact hgood ⟨hra,fun _ => hrb⟩
  ·rintro fr st1 _ ⟨hkr,f0,f3,f6,rfl,rfl⟩
   rw [lTl] at hkr
   simp -implicitDefEqProofs -dsimp only [go_sem,f0,f3,f6,i2.len,yQn (nLi _)]
   intro _
   exact yQ0 ⟨by rw [zVe.2 ⟨hk,hll,hlr,hkl,hkr⟩],rfl⟩
noncomputable def insR (n:Fm):List Fm → List Fm
 | [] => [n]
 | x :: l => if yZd n x < 0 then n :: x :: l else if yZd n x = 0 then x :: l else x :: insR n l
noncomputable def yZs (n:Fm) (p:List Fm × Bool) (x:Fm):List Fm × Bool:=((if yZd n x < 0 ∧ p.2 = false then p.1 ++ [n] else p.1) ++ [x],p.2 || decide (yZd n x ≤ 0))
noncomputable def insF (n:Fm) (l:List Fm):List Fm × Bool:=l.foldl (yZs n) ([],false)
theorem wQ3 (n x:Fm) (l:List Fm):insF n (l ++ [x]) = yZs n (insF n l) x:=by simp [insF,List.foldl_append]
theorem zYt (n:Fm):∀ (l acc:List Fm),l.foldl (yZs n) (acc,true) = (acc ++ l,true)
 | [],acc => by simp
 | x :: l,acc => by rw [List.foldl_cons,show yZs n (acc,true) x = (acc ++ [x],true) by simp [yZs],zYt n l]; simp
theorem xQf (n:Fm):∀ (l acc:List Fm),(if (l.foldl (yZs n) (acc,false)).2 = true then (l.foldl (yZs n) (acc,false)).1 else (l.foldl (yZs n) (acc,false)).1 ++ [n]) = acc ++ insR n l
 | [],acc => by simp [insR]
 | x :: l,acc => by
  rw [List.foldl_cons]
  unfold insR
  by_cases h1:yZd n x < 0
  ·rw [show yZs n (acc,false) x = (acc ++ [n] ++ [x],true) by simp [yZs,h1]; omega,zYt,if_pos h1]; simp
  ·by_cases h2:yZd n x = 0
   ·rw [show yZs n (acc,false) x = (acc ++ [x],true) by simp [yZs,h2],zYt,if_neg h1,if_pos h2]; simp
   ·rw [show yZs n (acc,false) x = (acc ++ [x],false) by simp [yZs,h1]; omega,xQf n l,if_neg h1,if_neg h2]; simp
theorem zYu (n:Fm):∀ (l:List Fm) (f:Fm),f ∈ insR n l ↔ f = n ∨ f ∈ l
 | [],f => by simp [insR]
 | x :: l,f => by
  unfold insR
  split
  ·simp
  ·split
   ·rename_i h; rw [(zQh n x).1 h]; simp
   ·rw [List.mem_cons,zYu n l,List.mem_cons]
    constructor
    ·rintro (h | h | h) <;> simp [h]
    ·rintro (h | h | h) <;> simp [h]
theorem zJo (n:Fm):∀ (l:List Fm),l.Pairwise (fun x y => yZd x y < 0) → (insR n l).Pairwise (fun x y => yZd x y < 0)
 | [],_ => by simp [insR]
 | x :: l,h => by
  obtain ⟨h1,h2⟩:=List.pairwise_cons.1 h
  unfold insR
  split
  ·rename_i hn
   refine List.pairwise_cons.2 ⟨fun y hy => ?_,h⟩
   rcases List.mem_cons.1 hy with rfl | hy
   ·exact hn
   ·exact zXl _ _ _ hn (h1 y hy)
  ·split
   ·exact h
   ·rename_i q1 q2
    refine List.pairwise_cons.2 ⟨fun y hy => ?_,zJo n l h2⟩
    rcases (zYu n l y).1 hy with rfl | hy
    ·have:=zQg x y
     omega
    ·exact h1 y hy
theorem wX5 {l m:List Fm} {n:Fm} (h:SetF l m):SetF (l ++ [n]) (insR n m) :=
 ⟨zJo n m h.1,fun f => by rw [zYu,h.2 f,List.mem_append,List.mem_singleton,or_comm]⟩
noncomputable def yU6:List Fm → List Fm → List Fm
 | acc,[] => acc
 | acc,f :: l => yU6 (insR (yXf f) acc) l
theorem zVo:∀ (l acc:List Fm) (f:Fm),yU6 acc (l ++ [f]) = insR (yXf f) (yU6 acc l)
 | [],acc,f => rfl
 | a :: l,acc,f => by simp only [List.cons_append,yU6,zVo l]
theorem zU5:∀ (l acc m:List Fm),SetF m acc → SetF (m ++ l.map yXf) (yU6 acc l)
 | [],acc,m,h => by simpa [yU6] using h
 | f :: l,acc,m,h => by
  have:=zU5 l _ _ (wX5 (n:=yXf f) h)
  simpa [yU6] using this
theorem wX2 (l:List Fm):setF (l.map yXf) = yU6 [] l:=zQs (by simpa using zU5 l [] [] ⟨List.Pairwise.nil,fun _ => Iff.rfl⟩)
theorem zJp (n:Fm):∀ l,(insR n l).length ≤ l.length + 1
 | [] => by simp [insR]
 | x :: l => by
  unfold insR
  split
  ·simp
  ·split
   ·simp
   ·have:=zJp n l
    simp only [List.length_cons]; omega
theorem zU6:∀ (l acc:List Fm),(yU6 acc l).length ≤ acc.length + l.length
 | [],acc => by simp [yU6]
 | f :: l,acc => by
  have h1:=zU6 l (insR (yXf f) acc)
  have h2:=zJp (yXf f) acc
  simp only [yU6,List.length_cons] at *; omega
theorem wKu (l:List Fm) (tg:Tag) (xs:List IV) (htg:okEs tg 4) (hx:IsFms l xs) (hs:fitL l) (hlen:l.length ≤ 1000000000) (st:ISt) :
  ICall prog gl 80 [.sl tg xs] st (fun r st' => (∃ t ys,r = .tup [.sl t ys,.raw (.bool (l.all Fm.right))] ∧ okEs t 4 ∧ IsFms (yZb l).1 ys) ∧ st' = st):=by
 refine iI func80 rfl rfl (by kernel_rfl) ?_
 simp -implicitDefEqProofs -dsimp only [go_sem]
 refine LoopC.ctr l.length (fun k fr st' ds => (l.take k).all Fm.right = true ∧ (∃ t zs,fr 4 = .iv (.sl t zs) ∧ okEs t 4 ∧ IsFms (yU6 [] (l.take k)) zs) ∧ fr 0 = .iv (.sl tg xs) ∧ fr 5 = .iv (.raw (.int .i64 k)) ∧ subSt st st' ∧ ds = []) ?_ ?_ ?_
 ·simp -implicitDefEqProofs -dsimp only [go_sem]
  exact ⟨⟨_,_,rfl,.inl rfl,rfl⟩,rfl,subSt.refl _⟩
 ·rintro k fr st1 _ hlt ⟨hall,⟨t,zs,f4,ht,hz⟩,f0,f5,hsub,rfl⟩
  obtain ⟨a,ha⟩:=yQ3 hlt
  obtain ⟨y,hky,hya⟩:=hx.get ha
  have ham:=lMg ha
  have hcall:=xGu gl a y hya (hs a ham) st1
  have hsl:=zU6 (l.take k) []
  rw [List.length_take,List.length_nil] at hsl
  obtain ⟨y1,y2,y3,y4,y5,y6,rfl⟩:=hya.agg
  simp -implicitDefEqProofs -dsimp only [go_sem,f0,f4,f5,hx.len,lt_i hlt,yQ2 htg,iNn,hky,fits]
  intro _
  refine hcall.mono ?_
  rintro _ st1 ⟨y',rfl,hy',rfl⟩
  unfold yX9 at hy'
  cases hr:a.right
  ·rw [hr] at hy'
   simp only [bFt,if_false] at hy'
   obtain ⟨z1,z2,z3,z4,z5,z6,rfl⟩:=hy'.agg
   unfold yX9
   rw [hr]
   simp only [bFt,if_false]
   have hf:l.all Fm.right = false:=List.all_eq_false.2 ⟨a,ham,by simp [hr]⟩
   have hn:yZb l = ([],2):=by unfold yZb; rw [hf]; rfl
   simp -implicitDefEqProofs -dsimp only [go_sem,show decide (((2:Nat):Int) = 0) = false from rfl,fits]
   exact yQb hsub ⟨⟨_,_,by rw [hf],.inl rfl,by rw [hn]; rfl⟩,rfl⟩
  rw [hr] at hy'
  simp only [if_true] at hy'
  have hy0:=hy'
  obtain ⟨z1,z2,z3,z4,z5,z6,rfl⟩:=hy'.agg
  unfold yX9
  rw [hr]
  simp only [if_true]
  have hall':(l.take (k + 1)).all Fm.right = true:=by
   rw [yQ5 ha,List.all_append,hall]; simp [hr]
  have hset:yU6 [] (l.take (k + 1)) = insR (yXf a) (yU6 [] (l.take k)):=by rw [yQ5 ha,zVo]
  generalize yU6 [] (l.take k) = out at hz hset hsl
  simp -implicitDefEqProofs -dsimp only [go_sem,show decide (((0:Nat):Int) = 0) = true from rfl,fits]
  refine LoopC.ctr out.length (fun j fr st' ds => (∃ t' ys,fr 8 = .iv (.sl t' ys) ∧ IsFms (insF (yXf a) (out.take j)).1 ys ∧ own st' t' ys.length 4 st ∧ ys.length ≤ 2 * j) ∧ fr 9 = .iv (.raw (.bool (insF (yXf a) (out.take j)).2)) ∧
   fr 6 = .box [.raw (.int .u8 z1),.raw (.string z2),.sl z3 z4,.sl z5 z6] ∧ fr 4 = .iv (.sl t zs) ∧ fr 0 = .iv (.sl tg xs) ∧ fr 5 = .iv (.raw (.int .i64 k)) ∧ fr 10 = .iv (.raw (.int .i64 j)) ∧ subSt st st' ∧ ds = []) ?_ ?_ ?_
  ·simp -implicitDefEqProofs -dsimp only [go_sem,f0,f4,f5]
   exact ⟨⟨_,_,rfl,rfl,own.nil _ _ _ _ _,Nat.le_refl _⟩,rfl,rfl,hsub⟩
  ·rintro j fr st2 _ hj ⟨⟨t',ys,f8,hys,hown,hyl⟩,f9,f6,f4,f0,f5,f10,hsub2,rfl⟩
   obtain ⟨b,hb⟩:=yQ3 hj
   obtain ⟨x,hkx,hxb⟩:=hz.get hb
   have hxb0:=hxb
   have hcmp:=xWe gl (yXf a) b _ x hy0 hxb st2
   have hstep:insF (yXf a) (out.take (j + 1)) = yZs (yXf a) (insF (yXf a) (out.take j)) b:=by rw [yQ5 hb,wQ3]
   generalize insF (yXf a) (out.take j) = p at hys f9 hstep
   obtain ⟨p1,p2⟩:=p
   obtain ⟨x1,x2,x3,x4,x5,x6,rfl⟩:=hxb.agg
   simp -implicitDefEqProofs -dsimp only [go_sem,f0,f4,f5,f6,f8,f9,f10,hz.len,lt_i hj,yQ2 ht,iNn,hkx,fits]
   intro _
   refine hcmp.mono ?_
   rintro _ st2 ⟨rfl,rfl⟩
   have hF:=IsFms.one hy0
   have hB:=IsFms.one hxb0
   by_cases h1:yZd (yXf a) b < 0
   ·have h2:decide (yZd (yXf a) b ≤ 0) = true:=dEt (by omega)
    cases p2
    ·simp -implicitDefEqProofs -dsimp only [go_sem,f0,f4,f5,f6,f8,f9,f10,dEt h1,fits,yQ1]
     refine yZ5 hown rfl hsub2 rfl (by simp [fits,IV.one]) (by simp only; omega) (by omega) fun t2 st3 hown3 hsub3 _ => ?_
     simp -implicitDefEqProofs -dsimp only [go_sem,f0,f4,f5,f6,f8,f9,f10,h2,yQ2 ht,iNn,hkx,fits,yQ1]
     refine yZ5 hown3 (by simp) hsub3 rfl (by simp [fits,IV.one]) (by simp only; omega) (by omega) fun t3 st4 hown4 hsub4 _ => ?_
     simp -implicitDefEqProofs -dsimp only [go_sem,f0,f4,f5,f6,f8,f9,f10,yQa hj (show out.length ≤ 281474976710656 by omega)]
     exact ⟨⟨t3,_,rfl,by rw [hstep]; simp only [yZs,h1,true_and,if_true]; exact (hys.append hF).append hB,by simpa using hown4,by simp; omega⟩,by rw [hstep]; simp [yZs,h2],hsub4⟩
    ·simp -implicitDefEqProofs -dsimp only [go_sem,f0,f4,f5,f6,f8,f9,f10,dEt h1,yQ2 ht,iNn,hkx,fits,yQ1]
     refine yZ5 hown rfl hsub2 rfl (by simp [fits,IV.one]) (by simp only; omega) (by omega) fun t3 st4 hown4 hsub4 _ => ?_
     simp -implicitDefEqProofs -dsimp only [go_sem,f0,f4,f5,f6,f8,f9,f10,yQa hj (show out.length ≤ 281474976710656 by omega)]
     exact ⟨⟨t3,_,rfl,by rw [hstep]; simp only [yZs,Bool.true_eq_false,and_false,if_false]; exact hys.append hB,by simpa using hown4,by simp; omega⟩,by rw [hstep]; simp [yZs],hsub4⟩
   ·cases p2
    ·simp -implicitDefEqProofs -dsimp only [go_sem,f0,f4,f5,f6,f8,f9,f10,dEf h1,yQ2 ht,iNn,hkx,fits,yQ1]
     refine yZ5 hown rfl hsub2 rfl (by simp [fits,IV.one]) (by simp only; omega) (by omega) fun t3 st4 hown4 hsub4 _ => ?_
     simp -implicitDefEqProofs -dsimp only [go_sem,f0,f4,f5,f6,f8,f9,f10,yQa hj (show out.length ≤ 281474976710656 by omega)]
     exact ⟨⟨t3,_,rfl,by rw [hstep]; simp only [yZs,h1,false_and,if_false]; exact hys.append hB,by simpa using hown4,by simp; omega⟩,by rw [hstep]; simp [yZs],hsub4⟩
    ·simp -implicitDefEqProofs -dsimp only [go_sem,f0,f4,f5,f6,f8,f9,f10,dEf h1,yQ2 ht,iNn,hkx,fits,yQ1]
     refine yZ5 hown rfl hsub2 rfl (by simp [fits,IV.one]) (by simp only; omega) (by omega) fun t3 st4 hown4 hsub4 _ => ?_
     simp -implicitDefEqProofs -dsimp only [go_sem,f0,f4,f5,f6,f8,f9,f10,yQa hj (show out.length ≤ 281474976710656 by omega)]
     exact ⟨⟨t3,_,rfl,by rw [hstep]; simp only [yZs,Bool.true_eq_false,and_false,if_false]; exact hys.append hB,by simpa using hown4,by simp; omega⟩,by rw [hstep]; simp [yZs],hsub4⟩
  ·rintro fr st2 _ ⟨⟨t',ys,f8,hys,hown,hyl⟩,f9,f6,f4,f0,f5,f10,hsub2,rfl⟩
   rw [lTl] at hys f9
   have hfin:(if (insF (yXf a) out).2 = true then (insF (yXf a) out).1 else (insF (yXf a) out).1 ++ [yXf a]) = insR (yXf a) out:=by
    have:=xQf (yXf a) out []
    rw [List.nil_append] at this
    exact this
   have hF:=IsFms.one hy0
   cases hp:(insF (yXf a) out).2
   ·rw [hp] at hfin f9
    simp only [bFt,if_false] at hfin
    simp -implicitDefEqProofs -dsimp only [go_sem,f0,f4,f5,f6,f8,f9,f10,hz.len,yQn (nLi _),fits,yQ1]
    intros
    refine yZ5 hown rfl hsub2 rfl (by simp [fits,IV.one]) (by simp only; omega) (by omega) fun t3 st4 hown4 hsub4 _ => ?_
    simp -implicitDefEqProofs -dsimp only [go_sem,f0,f4,f5,f6,f8,f9,f10,yQa hlt (show l.length ≤ 281474976710656 by omega)]
    exact ⟨hall',⟨t3,_,rfl,hown4.es,by rw [hset,← hfin]; exact hys.append hF⟩,hsub4⟩
   ·rw [hp] at hfin f9
    simp only [if_true] at hfin
    simp -implicitDefEqProofs -dsimp only [go_sem,f0,f4,f5,f6,f8,f9,f10,hz.len,yQn (nLi _),fits,yQa hlt (show l.length ≤ 281474976710656 by omega)]
    intros
    exact ⟨hall',⟨t',_,rfl,hown.es,by rw [hset,← hfin]; exact hys⟩,hsub2⟩
 ·rintro fr st1 _ ⟨hall,⟨t,zs,f4,ht,hz⟩,f0,f5,hsub,rfl⟩
  rw [lTl] at hall hz
  have hn:yZb l = (setF (l.map yXf),0):=by unfold yZb; rw [hall]; rfl
  simp -implicitDefEqProofs -dsimp only [go_sem,f0,f4,f5,hx.len,yQn (nLi _)]
  intros
  exact yQb hsub ⟨⟨t,zs,by rw [hall],ht,by rw [hn,wX2]; exact hz⟩,rfl⟩
theorem vQe (s:Sq) (x:IV) (hx:IsSq s x) (hs:yVd s) (hl:s.l.length ≤ 1000000000 ∧ s.r.length ≤ 1000000000) (st:ISt) :
  ICall prog gl 29 [x] st (fun r st' => (∃ y,r = .tup [y,.raw (.int .i64 (SetS s).2)] ∧ IsSq (SetS s).1 y) ∧ st' = st):=by
 obtain ⟨t1,x1,t2,x2,rfl,e1,i1,e2,i2⟩:=hx
 have h1:=fun st => wKu gl s.l t1 x1 e1 i1 hs.1 hl.1 st
 have h2:=fun st => wKu gl s.r t2 x2 e2 i2 hs.2 hl.2 st
 have n1:∀ l,(yZb l).2 = if l.all Fm.right = true then 0 else 2:=fun l => by unfold yZb; split <;> rfl
 unfold SetS
 rw [n1,n1]
 refine iI func29 rfl rfl (by kernel_rfl) ?_
 simp -implicitDefEqProofs -dsimp only [go_sem,fits]
 refine (h1 _).mono ?_
 rintro _ st ⟨⟨t3,y1,rfl,e3,j1⟩,rfl⟩
 simp -implicitDefEqProofs -dsimp only [go_sem,fits]
 refine (h2 _).mono ?_
 rintro _ st ⟨⟨t4,y2,rfl,e4,j2⟩,rfl⟩
 cases q1:s.l.all Fm.right
 ·simp -implicitDefEqProofs -dsimp only [go_sem,fits]
  exact yQ0 ⟨⟨_,rfl,_,_,_,_,rfl,.inl rfl,rfl,.inl rfl,rfl⟩,rfl⟩
 ·cases q2:s.r.all Fm.right
  ·simp -implicitDefEqProofs -dsimp only [go_sem,fits]
   exact yQ0 ⟨⟨_,rfl,_,_,_,_,rfl,.inl rfl,rfl,.inl rfl,rfl⟩,rfl⟩
  ·simp -implicitDefEqProofs -dsimp only [go_sem,fits]
   exact yQ0 ⟨⟨_,rfl,_,_,_,_,rfl,e3,j1,e4,j2⟩,rfl⟩
theorem zUi (G:Gl gl) (a b:Sq) (x y:IV) (hx:IsSq a x) (hy:IsSq b y) (ha:yVd a) (hb:yVd b) (hl:a.l.length ≤ 1099511627776 ∧ a.r.length ≤ 1099511627776 ∧ b.l.length ≤ 1099511627776 ∧ b.r.length ≤ 1099511627776) (st:ISt):ICall prog gl 30 [x,y] st (fun r st' => r = .raw (.bool (yJ7 a b)) ∧ st' = st):=by
 obtain ⟨t1,x1,t2,x2,rfl,e1,i1,e2,i2⟩:=hx
 obtain ⟨t3,x3,t4,x4,rfl,e3,i3,e4,i4⟩:=hy
 have h1:=fun t0 ht0 st => vQf gl G a.l b.l [] t1 t3 t0 x1 x3 [] e1 i1 e3 i3 ht0 rfl ha.1 hb.1 (fun f hf => by cases hf) ⟨hl.1,hl.2.2.1,by simp⟩ st
 have h2:=fun t0 ht0 st => vQf gl G a.r b.r [] t2 t4 t0 x2 x4 [] e2 i2 e4 i4 ht0 rfl ha.2 hb.2 (fun f hf => by cases hf) ⟨hl.2.1,hl.2.2.2,by simp⟩ st
 simp only [List.append_nil] at h1 h2
 unfold yJ7
 refine iI func30 rfl rfl (by kernel_rfl) ?_
 simp -implicitDefEqProofs -dsimp only [go_sem,fits]
 refine (h1 _ (.inl rfl) _).mono ?_
 rintro _ st ⟨rfl,rfl⟩
 cases allF a.l b.l
 ·simp -implicitDefEqProofs -dsimp only [go_sem,fits]
  exact yQ0 ⟨rfl,rfl⟩
 ·simp -implicitDefEqProofs -dsimp only [go_sem,fits]
  refine (h2 _ (.inl rfl) _).mono ?_
  rintro _ st ⟨rfl,rfl⟩
  simp -implicitDefEqProofs -dsimp only [go_sem,fits]
  exact yQ0 ⟨rfl,rfl⟩
theorem q_p (n:ByteArray) (t:Tag) (xs:List IV) (st:ISt):ICall prog gl 16 [.raw (.string n),.sl t xs] st (fun r st' => r = .agg [.raw (.int .u8 1),.raw (.string n),.sl t xs,.sl ⟨true,.nil,0⟩ []] ∧ st' = st):=by
 refine iI func16 rfl rfl (by kernel_rfl) ?_
 simp -implicitDefEqProofs -dsimp only [go_sem,fits]
 exact yQ0 ⟨rfl,rfl⟩
theorem q_no (o:Int) (n:ByteArray) (t:Tag) (x:List IV) (t':Tag) (x':List IV) (st:ISt):ICall prog gl 17 [.agg [.raw (.int .u8 o),.raw (.string n),.sl t x,.sl t' x']] st
  (fun r st' => r = .agg [.raw (.int .u8 3),.raw (.string ⟨#[]⟩),.sl ⟨true,.nil,0⟩ [],.sl ⟨true,.full,4⟩ [.agg [.raw (.int .u8 o),.raw (.string n),.sl t x,.sl t' x']]] ∧ st' = st):=by
 refine iI func17 rfl rfl (by kernel_rfl) ?_
 simp -implicitDefEqProofs -dsimp only [go_sem,fits,yQ1]
 exact yQ0 ⟨rfl,rfl⟩
theorem xX7 (op o:Int) (n:ByteArray) (t:Tag) (x:List IV) (t':Tag) (x':List IV) (o2:Int) (n2:ByteArray) (t2:Tag) (x2:List IV) (t2':Tag) (x2':List IV) (st:ISt) :
  ICall prog gl 18 [.raw (.int .u8 op),.agg [.raw (.int .u8 o),.raw (.string n),.sl t x,.sl t' x'],.agg [.raw (.int .u8 o2),.raw (.string n2),.sl t2 x2,.sl t2' x2']] st
  (fun r st' => r = .agg [.raw (.int .u8 op),.raw (.string ⟨#[]⟩),.sl ⟨true,.nil,0⟩ [],.sl ⟨true,.full,4⟩ [.agg [.raw (.int .u8 o),.raw (.string n),.sl t x,.sl t' x'],.agg [.raw (.int .u8 o2),.raw (.string n2),.sl t2 x2,.sl t2' x2']]] ∧ st' = st):=by
 refine iI func18 rfl rfl (by kernel_rfl) ?_
 simp -implicitDefEqProofs -dsimp only [go_sem,fits,yQ9]
 exact yQ0 ⟨rfl,rfl⟩
theorem q_fs (t:Tag) (xs:List IV) (st:ISt):ICall prog gl 9 [.sl t xs] st (fun r st' => r = .sl t xs ∧ st' = st):=by
 refine iI func9 rfl rfl (by kernel_rfl) ?_
 simp -implicitDefEqProofs -dsimp only [go_sem,fits]
 exact yQ0 ⟨rfl,rfl⟩
theorem q_sq (t:Tag) (xs:List IV) (t':Tag) (ys:List IV) (st:ISt):ICall prog gl 40 [.sl t xs,.sl t' ys] st (fun r st' => r = .agg [.sl t xs,.sl t' ys] ∧ st' = st):=by
 refine iI func40 rfl rfl (by kernel_rfl) ?_
 simp -implicitDefEqProofs -dsimp only [go_sem,fits]
 exact yQ0 ⟨rfl,rfl⟩
theorem q_v (n:ByteArray) (st:ISt):ICall prog gl 44 [.raw (.string n)] st (fun r st' => r = .agg [.raw (.bool true),.raw (.string n),.sl ⟨true,.nil,0⟩ []] ∧ st' = st):=by
 refine iI func44 rfl rfl (by kernel_rfl) ?_
 simp -implicitDefEqProofs -dsimp only [go_sem,fits]
 exact yQ0 ⟨rfl,rfl⟩
mutual
def wTm:Tm → Nat
 | .mk _ n us => 1 + n.size / 20 + wTms us
def wTms:List Tm → Nat
 | [] => 0
 | a :: l => wTm a + wTms l
end
mutual
def wFm:Fm → Nat
 | .mk _ n us sub => 1 + n.size / 20 + wTms us + wFms sub
def wFms:List Fm → Nat
 | [] => 0
 | a :: l => wFm a + wFms l
end
theorem yU0:∀ l m:List Tm,wTms (l ++ m) = wTms l + wTms m
 | [],m => by simp [wTms]
 | a :: l,m => by simp only [List.cons_append,wTms,yU0 l m]; omega
theorem xYn {l:List Tm} {k:Nat} {a:Tm} (h:l[k]? = some a):wTms (l.take (k + 1)) = wTms (l.take k) + wTm a:=by
 rw [yQ5 h,yU0]; simp [wTms]
theorem xYo (l:List Tm) (k:Nat):wTms (l.take k) ≤ wTms l:=by
 conv => rhs; rw [← List.take_append_drop k l]
 rw [yU0]; omega
theorem yU1:∀ l m:List Fm,wFms (l ++ m) = wFms l + wFms m
 | [],m => by simp [wFms]
 | a :: l,m => by simp only [List.cons_append,wFms,yU1 l m]; omega
theorem xYp {l:List Fm} {k:Nat} {a:Fm} (h:l[k]? = some a):wFms (l.take (k + 1)) = wFms (l.take k) + wFm a:=by
 rw [yQ5 h,yU1]; simp [wFms]
theorem xYq (l:List Fm) (k:Nat):wFms (l.take k) ≤ wFms l:=by
 conv => rhs; rw [← List.take_append_drop k l]
 rw [yU1]; omega
def Sum (w:Nat) (lim:Int) (r:IV):Prop:=∃ n:Nat,r = .raw (.int .i64 n) ∧ n ≤ w ∧ ((n:Int) ≤ lim → n = w)
def tC (us:List Tm):Prop:=∀ (t:Tag) (xs:List IV) (_:okEs t 3) (_:IsTms us xs) (lim:Int) (_:-1 ≤ lim ∧ lim ≤ 1000) (_:wTms us ≤ 1099511627776) (st:ISt),
 ICall prog gl 26 [.sl t xs,.raw (.int .i64 lim)] st (fun r st' => Sum (wTms us) lim r ∧ st' = st)
theorem xX5 (us:List Tm) (IH:∀ v n l,Tm.mk v n l ∈ us → tC gl l):tC gl us:=by
 intro t xs ht hx lim hlim hw st
 refine iI func26 rfl rfl (by kernel_rfl) ?_
 simp -implicitDefEqProofs -dsimp only [go_sem]
 refine LoopC.ctr us.length (fun k fr st' ds => (∃ n:Nat,fr 5 = .iv (.raw (.int .i64 n)) ∧ n ≤ wTms (us.take k) ∧ ((n:Int) ≤ lim → n = wTms (us.take k))) ∧ fr 0 = .iv (.sl t xs) ∧ fr 1 = .iv (.raw (.int .i64 lim)) ∧ fr 6 = .iv (.raw (.int .i64 k)) ∧ st' = st ∧ ds = []) ?_ ?_ ?_
 ·simp -implicitDefEqProofs -dsimp only [go_sem]
  exact ⟨⟨0,rfl,Nat.le_refl _,fun _ => rfl⟩,rfl⟩
 ·rintro k fr st1 _ hlt ⟨⟨n,f5,hn1,hn2⟩,f0,f1,f6,rfl,rfl⟩
  obtain ⟨a,ha⟩:=yQ3 hlt
  obtain ⟨x,hkx,hxa⟩:=hx.get ha
  obtain ⟨v2,n2,l2⟩:=a
  obtain ⟨tx,cx,rfl,htx,hcx⟩:=hxa.mk
  have hwt:=xYn ha
  have hwl:=xYo us (k + 1)
  have hwk:=xYo us k
  simp only [wTm] at hwt
  by_cases hle:(n:Int) ≤ lim
  ·have hnk:=hn2 hle
   have hcall:=fun st => IH _ _ _ (lMg ha) tx cx htx hcx (lim - n - 1) ⟨by omega,by omega⟩ (by omega) st
   have hq:IntKind.i64.wrap (((n2.size:Nat):Int).tdiv 20) = ((n2.size / 20:Nat):Int):=by
    have:((n2.size:Nat):Int).tdiv 20 = ((n2.size / 20:Nat):Int):=rfl
    rw [this,w64 (by omega) (by omega)]
   have hz:¬ ((20:Int) = 0):=by decide
   generalize n2.size / 20 = q at hq hwt
   have w1:IntKind.i64.wrap (1 + ((q:Nat):Int)) = ((1 + q:Nat):Int):=by rw [w64] <;> omega
   have w2:IntKind.i64.wrap (IntKind.i64.wrap (lim - (n:Int)) - 1) = lim - n - 1:=by rw [w64 (n:=lim - n) (by omega) (by omega),w64 (by omega) (by omega)]
   simp -implicitDefEqProofs -dsimp only [go_sem,f0,f1,f5,f6,hx.len,lt_i hlt,dEt hle,yQ2 ht,iNn,hkx,fits,hq,hz,w1,w2]
   intro _
   refine (hcall _).mono ?_
   rintro _ st2 ⟨⟨m,rfl,hm1,hm2⟩,rfl⟩
   have w3:IntKind.i64.wrap (((1 + q:Nat):Int) + (m:Int)) = ((1 + q + m:Nat):Int):=by rw [w64] <;> omega
   have w4:IntKind.i64.wrap ((n:Int) + ((1 + q + m:Nat):Int)) = ((n + (1 + q + m):Nat):Int):=by rw [w64] <;> omega
   simp -implicitDefEqProofs -dsimp only [go_sem,f0,f1,f5,f6,w3,w4,yQa hlt (show us.length ≤ 281474976710656 by omega)]
   exact ⟨n + (1 + q + m),rfl,by omega,fun h => by have:=hm2 (by omega); omega⟩
  ·simp -implicitDefEqProofs -dsimp only [go_sem,f0,f1,f5,f6,hx.len,lt_i hlt,dEf hle]
   intro _
   exact yQ0 ⟨⟨n,rfl,by omega,fun h => absurd h hle⟩,rfl⟩
 ·rintro fr st1 _ ⟨⟨n,f5,hn1,hn2⟩,f0,f1,f6,rfl,rfl⟩
  rw [lTl] at hn1 hn2
  simp -implicitDefEqProofs -dsimp only [go_sem,f0,f5,f6,hx.len,yQn (nLi _)]
  intro _
  exact yQ0 ⟨⟨n,rfl,hn1,hn2⟩,rfl⟩
theorem zVt:∀ (k:Nat) (us:List Tm),SizeOf.sizeOf us < k → tC gl us
 | 0,f,h => by omega
 | k + 1,us,h => xX5 gl us (fun v n l ha => zVt k l (by
   have:=lSm ha
   simp at this; omega))
theorem wXl (us:List Tm):tC gl us:=zVt gl _ us (Nat.lt_succ_self _)
def zC (us:List Fm):Prop:=∀ (t:Tag) (xs:List IV) (_:okEs t 4) (_:IsFms us xs) (lim:Int) (_:-1 ≤ lim ∧ lim ≤ 1000) (_:wFms us ≤ 1099511627776) (st:ISt),
 ICall prog gl 8 [.sl t xs,.raw (.int .i64 lim)] st (fun r st' => Sum (wFms us) lim r ∧ st' = st)
theorem xWf (us:List Fm) (IH:∀ o n l m,Fm.mk o n l m ∈ us → zC gl m):zC gl us:=by
 intro t xs ht hx lim hlim hw st
 refine ICall.intro (c:=cf prog gl [] [(5,[0,1,2,3,4,5,6,7,8,9,10,11,12,13,14,15,16,19,20,21,22,23,24,25,26,27,17,18,28,29,30,31])]) func8 rfl (by show _ ≤ 50; simp) (by kernel_rfl) ?_
 simp -implicitDefEqProofs -dsimp only [go_sem]
 refine LoopC.ctr us.length (fun k fr st' ds => (∃ n:Nat,fr 5 = .iv (.raw (.int .i64 n)) ∧ n ≤ wFms (us.take k) ∧ ((n:Int) ≤ lim → n = wFms (us.take k))) ∧ fr 0 = .iv (.sl t xs) ∧ fr 1 = .iv (.raw (.int .i64 lim)) ∧ fr 6 = .iv (.raw (.int .i64 k)) ∧ st' = st ∧ ds = []) ?_ ?_ ?_
 ·simp -implicitDefEqProofs -dsimp only [go_sem]
  exact ⟨⟨0,rfl,Nat.le_refl _,fun _ => rfl⟩,rfl⟩
 ·rintro k fr st1 _ hlt ⟨⟨n,f5,hn1,hn2⟩,f0,f1,f6,rfl,rfl⟩
  obtain ⟨a,ha⟩:=yQ3 hlt
  obtain ⟨x,hkx,hxa⟩:=hx.get ha
  obtain ⟨o2,n2,l2,m2⟩:=a
  obtain ⟨tx,cx,ty,cy,rfl,_,htx,hcx,hty,hcy⟩:=hxa.mk
  have hwt:=xYp ha
  have hwl:=xYq us (k + 1)
  have hwk:=xYq us k
  simp only [wFm] at hwt
  by_cases hle:(n:Int) ≤ lim
  ·have hnk:=hn2 hle
   have hcall:=fun st => IH _ _ _ _ (lMg ha) ty cy hty hcy (lim - n - 1) ⟨by omega,by omega⟩ (by omega) st
   have hterm:=fun st => wXl gl l2 tx cx htx hcx (lim - n) ⟨by omega,by omega⟩ (by omega) st
   have hq:IntKind.i64.wrap (((n2.size:Nat):Int).tdiv 20) = ((n2.size / 20:Nat):Int):=by
    have:((n2.size:Nat):Int).tdiv 20 = ((n2.size / 20:Nat):Int):=rfl
    rw [this,w64 (by omega) (by omega)]
   have hz:¬ ((20:Int) = 0):=by decide
   generalize n2.size / 20 = q at hq hwt
   have w1:IntKind.i64.wrap (1 + ((q:Nat):Int)) = ((1 + q:Nat):Int):=by rw [w64] <;> omega
   have w0:IntKind.i64.wrap (lim - (n:Int)) = lim - n:=w64 (by omega) (by omega)
   have w2:IntKind.i64.wrap (lim - (n:Int) - 1) = lim - n - 1:=w64 (by omega) (by omega)
   simp -implicitDefEqProofs -dsimp only [go_sem,f0,f1,f5,f6,hx.len,lt_i hlt,dEt hle,yQ2 ht,iNn,hkx,fits,hq,hz,w1,w0,w2]
   intro _
   refine (hterm _).mono ?_
   rintro _ st2 ⟨⟨m1,rfl,hm1,hm1'⟩,rfl⟩
   have w3:IntKind.i64.wrap (((1 + q:Nat):Int) + (m1:Int)) = ((1 + q + m1:Nat):Int):=by rw [w64] <;> omega
   simp -implicitDefEqProofs -dsimp only [go_sem,f0,f1,f5,f6,w3,w0,w2,fits,yQ2 ht,iNn,hkx,hlt]
   refine (hcall _).mono ?_
   rintro _ st2 ⟨⟨m,rfl,hm,hm'⟩,rfl⟩
   have w4:IntKind.i64.wrap (((1 + q + m1:Nat):Int) + (m:Int)) = ((1 + q + m1 + m:Nat):Int):=by rw [w64] <;> omega
   have w5:IntKind.i64.wrap ((n:Int) + ((1 + q + m1 + m:Nat):Int)) = ((n + (1 + q + m1 + m):Nat):Int):=by rw [w64] <;> omega
   simp -implicitDefEqProofs -dsimp only [go_sem,f0,f1,f5,f6,w4,w5,yQa hlt (show us.length ≤ 281474976710656 by omega)]
   exact ⟨n + (1 + q + m1 + m),rfl,by omega,fun h => by have:=hm1' (by omega); have:=hm' (by omega); omega⟩
  ·simp -implicitDefEqProofs -dsimp only [go_sem,f0,f1,f5,f6,hx.len,lt_i hlt,dEf hle]
   intro _
   exact yQ0 ⟨⟨n,rfl,by omega,fun h => absurd h hle⟩,rfl⟩
 ·rintro fr st1 _ ⟨⟨n,f5,hn1,hn2⟩,f0,f1,f6,rfl,rfl⟩
  rw [lTl] at hn1 hn2
  simp -implicitDefEqProofs -dsimp only [go_sem,f0,f5,f6,hx.len,yQn (nLi _)]
  intro _
  exact yQ0 ⟨⟨n,rfl,hn1,hn2⟩,rfl⟩
theorem zUl:∀ (k:Nat) (us:List Fm),SizeOf.sizeOf us < k → zC gl us
 | 0,f,h => by omega
 | k + 1,us,h => xWf gl us (fun o n l m ha => zUl k m (by
   have:=lSm ha
   simp at this; omega))
theorem xX6 (us:List Fm):zC gl us:=zUl gl _ us (Nat.lt_succ_self _)
theorem vJ3 (s:Sq) (x:IV) (hx:IsSq s x) (hw:wFms s.l ≤ 1099511627776 ∧ wFms s.r ≤ 1099511627776) (st:ISt):ICall prog gl 7 [x] st (fun r st' => (r = .raw (.bool (decide (wFms s.l + wFms s.r ≤ 300)))) ∧ st' = st):=by
 obtain ⟨t1,x1,t2,x2,rfl,e1,i1,e2,i2⟩:=hx
 have h1:=fun st => xX6 gl s.l t1 x1 e1 i1 300 ⟨by omega,by omega⟩ hw.1 st
 have h2:=fun st => xX6 gl s.r t2 x2 e2 i2 300 ⟨by omega,by omega⟩ hw.2 st
 refine ICall.intro (c:=cf prog gl [] [(1,[0,1,3,4,2,5,6,7,8])]) func7 rfl (by show _ ≤ 11; simp) (by kernel_rfl) ?_
 simp -implicitDefEqProofs -dsimp only [go_sem,fits]
 refine (h1 _).mono ?_
 rintro _ st2 ⟨⟨n,rfl,hn1,hn2⟩,rfl⟩
 simp -implicitDefEqProofs -dsimp only [go_sem,fits]
 refine (h2 _).mono ?_
 rintro _ st2 ⟨⟨m,rfl,hm1,hm2⟩,rfl⟩
 have w:IntKind.i64.wrap ((n:Int) + (m:Int)) = ((n + m:Nat):Int):=by rw [w64] <;> omega
 have hd:decide (((n + m:Nat):Int) ≤ 300) = decide (wFms s.l + wFms s.r ≤ 300):=by
  rw [decide_eq_decide]
  constructor
  ·intro h
   have:=hn2 (by omega)
   have:=hm2 (by omega)
   omega
  ·intro h; omega
 simp -implicitDefEqProofs -dsimp only [go_sem,w,hd]
 exact yQ0 ⟨rfl,rfl⟩
end Go.Proofs.Tryz
