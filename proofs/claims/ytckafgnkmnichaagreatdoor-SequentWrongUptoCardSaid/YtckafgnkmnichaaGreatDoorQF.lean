/- Walks: formulas in order, each once.
   Walks: the normal form of a sequent.
   Walks: the premises of a step.
   Walks: the makers of lyceumlaw19, to the letter. -/
import Derived.Test.YtckafgnkmnichaaGreatDoorQB
import Derived.Test.YtckafgnkmnichaaGreatDoorQE
import Derived.Test.YtckafgnkmnichaaGreatDoorKA
import Derived.Test.YtckafgnkmnichaaGreatDoorLA
import Derived.Test.YtckafgnkmnichaaGreatDoorKC
set_option linter.all false
open Nat renaming reduceEqDiff → zE,reduceBEq → zB,reduceAdd → zA,reduceMul → zM,reduceSub → zS,reduceLeDiff → zL
attribute [local go_sem] Go.Iv.cf Go.Iv.setAt List.all_cons List.all_nil Bool.and_self Bool.true_and Bool.and_true Bool.false_and Bool.and_false Bool.not_true Bool.not_false List.mem_nil_iff if_false if_true beq_self_eq_true Nat.zero_add Nat.add_zero List.getElem?_cons_zero List.getElem?_cons_succ Option.map_some List.mem_cons or_false false_or or_true true_or Nat.sub_zero forall_const Int.toNat_natCast List.length_cons List.length_nil List.map_cons List.map_nil List.take_succ_cons List.take_zero List.drop_zero List.drop_succ_cons List.cons_append List.nil_append List.append_nil and_true true_and and_self true_implies List.zip_cons_cons List.zip_nil_left
namespace Go.Proofs.Tryz
open Go Go.Iv Go.Shelf Go.RowKit
set_option maxRecDepth 4000
variable (gl:Nat → Option IV)

mutual
theorem tm_inj:∀ (a b:Tm) (x:IV),IsTm a x → IsTm b x → a = b
  | .mk v n us,.mk w m ws,x,h,k => by
    obtain ⟨t,xs,rfl,_,h1⟩:=h.mk
    obtain ⟨t',xs',hx,_,h2⟩:=k.mk
    simp only [IV.agg.injEq,List.cons.injEq,IV.raw.injEq,Value.bool.injEq,Value.string.injEq,IV.sl.injEq,and_true] at hx
    obtain ⟨rfl,rfl,rfl,rfl⟩:=hx
    rw [tms_inj us ws xs h1 h2]
theorem tms_inj:∀ (l m:List Tm) (xs:List IV),IsTms l xs → IsTms m xs → l = m
  | [],[],_,_,_ => rfl
  | [],b :: m,xs,h,k => by
    simp only [IsTms] at h k
    obtain ⟨y,ys,rfl,_⟩:=k
    cases h
  | a :: l,[],xs,h,k => by
    simp only [IsTms] at h k
    obtain ⟨y,ys,rfl,_⟩:=h
    cases k
  | a :: l,b :: m,xs,h,k => by
    simp only [IsTms] at h k
    obtain ⟨y,ys,rfl,h1,h2⟩:=h
    obtain ⟨y',ys',he,k1,k2⟩:=k
    cases he
    rw [tm_inj a b y h1 k1,tms_inj l m ys h2 k2]
end
mutual
theorem fm_inj:∀ (a b:Fm) (x:IV),IsFm a x → IsFm b x → a = b
  | .mk o n us sub,.mk o' m ws sub',x,h,k => by
    obtain ⟨t,xs,t2,xs2,rfl,_,_,h1,_,h2⟩:=h.mk
    obtain ⟨t',xs',t2',xs2',hx,_,_,k1,_,k2⟩:=k.mk
    simp only [IV.agg.injEq,List.cons.injEq,IV.raw.injEq,Value.int.injEq,Value.string.injEq,IV.sl.injEq,and_true,true_and,Int.natCast_inj] at hx
    obtain ⟨rfl,rfl,⟨rfl,rfl⟩,rfl,rfl⟩:=hx
    rw [tms_inj us ws xs h1 k1,fms_inj sub sub' xs2 h2 k2]
theorem fms_inj:∀ (l m:List Fm) (xs:List IV),IsFms l xs → IsFms m xs → l = m
  | [],[],_,_,_ => rfl
  | [],b :: m,xs,h,k => by
    simp only [IsFms] at h k
    obtain ⟨y,ys,rfl,_⟩:=k
    cases h
  | a :: l,[],xs,h,k => by
    simp only [IsFms] at h k
    obtain ⟨y,ys,rfl,_⟩:=h
    cases k
  | a :: l,b :: m,xs,h,k => by
    simp only [IsFms] at h k
    obtain ⟨y,ys,rfl,h1,h2⟩:=h
    obtain ⟨y',ys',he,k1,k2⟩:=k
    cases he
    rw [fm_inj a b y h1 k1,fms_inj l m ys h2 k2]
end
open Classical in
noncomputable def rdF (x:IV):Fm:=if h:∃ a,IsFm a x then h.choose else fm0
theorem rdF_eq {a:Fm} {x:IV} (h:IsFm a x):rdF x = a:=by
  have he:∃ a,IsFm a x:=⟨a,h⟩
  unfold rdF
  rw [dif_pos he]
  exact fm_inj _ _ x he.choose_spec h
theorem rdF_list:∀ {l:List Fm} {xs:List IV},IsFms l xs → xs.map rdF = l
  | [],_,rfl => rfl
  | a :: l,_,⟨x,xs,rfl,hx,hl⟩ => by rw [List.map_cons,rdF_eq hx,rdF_list hl]
theorem fms_of:∀ {ys:List IV},(∀ y ∈ ys,∃ a,IsFm a y) → IsFms (ys.map rdF) ys
  | [],_ => rfl
  | y :: ys,h => by
    obtain ⟨a,ha⟩:=h y (by simp)
    exact ⟨y,ys,rfl,by rw [rdF_eq ha]; exact ha,fms_of fun z hz => h z (by simp [hz])⟩
theorem fms_mem:∀ {l:List Fm} {xs:List IV},IsFms l xs → ∀ y ∈ xs,∃ a,IsFm a y ∧ a ∈ l
  | [],_,rfl,y,h => by cases h
  | a :: l,_,⟨x,xs,rfl,hx,hl⟩,y,h => by
    rcases List.mem_cons.1 h with rfl | h
    · exact ⟨a,hx,by simp⟩
    · obtain ⟨b,hb,hm⟩:=fms_mem hl y h
      exact ⟨b,hb,by simp [hm]⟩
theorem Sort_c (l:List Fm) (xs rest:List IV) (hx:IsFms l xs) (hne:xs ≠ []) (hlen:xs.length ≤ 140737488355328) (b cap:Nat) (st:ISt) (hb:st b = some (.box (xs.flatMap IV.cells ++ rest))) :
    ICall prog gl 136 [.raw (.slice (some ⟨b,0,none⟩) xs.length cap),.fn (.func 137) [] []] st
      (fun r st' => r = .tup [] ∧ ∃ (m:List Fm) (ys:List IV),IsFms m ys ∧ m.Perm l ∧ m.Pairwise (fun x y => ¬ cmpFm y x < 0) ∧ st' = st.put b (some (.box (ys.flatMap IV.cells ++ rest)))):=by
  refine (SortFunc_c gl 137 ?_ xs rest b cap st hne hlen (fms_fits hx) hb (fun x y => cmpFm (rdF x) (rdF y)) (fun x _ => cmpFm_irr _) (fun x _ y _ z _ => cmpFm_tr _ _ _) (fun x _ y _ z _ h1 h2 h3 => ?_) (fun x hxm y hym => ?_)).mono ?_
  · exact enters_of func137 (by kernel_rfl) rfl
  · rcases Int.lt_or_le (cmpFm (rdF y) (rdF x)) 0 with h | h
    · have:=cmpFm_tr _ _ _ h h3
      exact h2 this
    · have hxy:cmpFm (rdF x) (rdF y) = 0:=by
        have:=cmpFm_neg (rdF x) (rdF y)
        omega
      rw [(cmpFm_eq _ _).1 hxy] at h3
      exact h2 h3
  · obtain ⟨a,ha,_⟩:=fms_mem hx x hxm
    obtain ⟨c,hc,_⟩:=fms_mem hx y hym
    rw [rdF_eq ha,rdF_eq hc]
    exact (cmpForm_c (fun _ => none) a c x y ha hc _).mono fun r st' h => h.1
  · rintro r st' ⟨rfl,ys,hp,hpw,rfl⟩
    refine ⟨rfl,ys.map rdF,ys,fms_of fun y hy => ?_,?_,?_,rfl⟩
    · obtain ⟨a,ha,_⟩:=fms_mem hx y (hp.mem_iff.1 hy)
      exact ⟨a,ha⟩
    · rw [← rdF_list hx]; exact hp.map rdF
    · exact List.pairwise_map.2 hpw
theorem SortNil_c (t:Tag) (ht:t.cap = .nil) (st:ISt):ICall prog gl 136 [.sl t [],.fn (.func 137) [] []] st (fun r st' => r = .tup [] ∧ st' = st):=by
  obtain ⟨fs,c,es⟩:=t
  obtain rfl:c = .nil:=ht
  intro B X rs hg hst hv
  obtain ⟨r0,r1,rfl⟩:∃ r0 r1,rs = [r0,r1]:=by
    match rs,hv with
    | [a,b],_ => exact ⟨a,b,rfl⟩
    | [],hv => cases hv.1
    | [_],hv => cases hv.1
    | _ :: _ :: _ :: _,hv => cases hv.1
  obtain ⟨p,cap,rfl⟩:∃ p cap,r0 = .slice p 0 cap:=by
    have:=hv.2 0 r0 _ rfl rfl
    obtain ⟨a,cap,_,_,rfl,_⟩:=V.sl_inv this
    exact ⟨a,cap,rfl⟩
  refine Calls.mono (AnyF.slices_SortFunc_none Tryz.sortFL p cap r1 X.w) ?_
  rintro e w' ⟨rfl,rfl⟩
  exact ⟨_,rfl,X,.tup [],rfl,hg,Ext.refl X,.tup [] [] rfl (fun i r c h => by simp at h),rfl,hst⟩

noncomputable def ddF (p:Fm):List Fm → List Fm
  | [] => []
  | b :: l => if cmpFm b p = 0 then ddF b l else b :: ddF b l
noncomputable def dd:List Fm → List Fm
  | [] => []
  | a :: l => a :: ddF a l
theorem ddF_snoc:∀ (p:Fm) (l:List Fm) (a b:Fm),(p :: l).getLast? = some a → ddF p (l ++ [b]) = ddF p l ++ (if cmpFm b a = 0 then [] else [b])
  | p,[],a,b,h => by
    simp only [List.getLast?_singleton,Option.some.injEq] at h
    subst h
    simp only [List.nil_append,ddF]
  | p,c :: l,a,b,h => by
    rw [List.getLast?_cons_cons] at h
    simp only [List.cons_append,ddF,ddF_snoc c l a b h]
    split <;> rfl
theorem dd_snoc:∀ (l:List Fm) (a b:Fm),l.getLast? = some a → dd (l ++ [b]) = dd l ++ (if cmpFm b a = 0 then [] else [b])
  | p :: l,a,b,h => by simp only [List.cons_append,dd,ddF_snoc p l a b h]
theorem dd_step {m:List Fm} {k:Nat} {a b:Fm} (ha:m[k]? = some a) (hb:m[k + 1]? = some b):dd (m.take (k + 1 + 1)) = dd (m.take (k + 1)) ++ (if cmpFm b a = 0 then [] else [b]):=by
  rw [take_get hb]
  exact dd_snoc _ a b (by rw [take_get ha,List.getLast?_concat])
theorem ddF_set:∀ (p:Fm) (l:List Fm),(p :: l).Pairwise (fun x y => ¬ cmpFm y x < 0) → (∀ f,f ∈ p :: ddF p l ↔ f ∈ p :: l) ∧ (p :: ddF p l).Pairwise (fun x y => cmpFm x y < 0)
  | p,[],_ => ⟨fun f => Iff.rfl,List.pairwise_singleton ..⟩
  | p,b :: l,h => by
    have h1:=List.pairwise_cons.1 h
    obtain ⟨i1,i2⟩:=ddF_set b l h1.2
    simp only [ddF]
    by_cases hc:cmpFm b p = 0
    · have hbp:=(cmpFm_eq b p).1 hc
      subst hbp
      rw [if_pos hc]
      refine ⟨fun f => ?_,i2⟩
      rw [i1 f]
      simp
    · rw [if_neg hc]
      have hlt:cmpFm p b < 0:=by
        have:=h1.1 b (by simp)
        have:=cmpFm_neg b p
        omega
      refine ⟨fun f => ?_,List.pairwise_cons.2 ⟨fun f hf => ?_,i2⟩⟩
      · rw [List.mem_cons,i1 f,List.mem_cons (l:=b :: l)]
      · rcases List.mem_cons.1 hf with rfl | hf
        · exact hlt
        · exact cmpFm_tr _ _ _ hlt ((List.pairwise_cons.1 i2).1 f hf)
theorem dd_set (l m:List Fm) (hp:m.Perm l) (h:m.Pairwise (fun x y => ¬ cmpFm y x < 0)):SetF l (dd m):=by
  cases m with
  | nil =>
    obtain rfl:=List.Perm.nil_eq hp
    exact ⟨List.Pairwise.nil,fun f => Iff.rfl⟩
  | cons a m =>
    obtain ⟨h1,h2⟩:=ddF_set a m h
    exact ⟨h2,fun f => (h1 f).trans hp.mem_iff⟩
theorem rd4 {ys rest cs:List IV} (hf:∀ y ∈ ys,y.cells.length = 4) (hlen:cs.length = (ys.flatMap IV.cells ++ rest).length) {i:Nat} {y:IV} (hy:ys[i]? = some y) (hc:∀ j,i * 4 ≤ j → cs[j]? = (ys.flatMap IV.cells ++ rest)[j]?) :
    i * 4 + 4 ≤ cs.length ∧ (cs.drop (i * 4)).take 4 = y.cells:=by
  have hi:=(List.getElem?_eq_some_iff.1 hy).1
  have h0:ys.flatMap IV.cells = (ys.take i).flatMap IV.cells ++ (y.cells ++ (ys.drop (i + 1)).flatMap IV.cells):=by
    conv => lhs; rw [← List.take_append_drop i ys,List.drop_eq_getElem_cons hi,(List.getElem?_eq_some_iff.1 hy).2]
    rw [List.flatMap_append,List.flatMap_cons]
  have h1:((ys.take i).flatMap IV.cells).length = i * 4:=by
    rw [flat_length _ fun z hz => hf z (List.mem_of_mem_take hz),List.length_take]
    omega
  have hy4:=hf y (List.mem_of_getElem? hy)
  have hd:cs.drop (i * 4) = (ys.flatMap IV.cells ++ rest).drop (i * 4):=by
    apply List.ext_getElem?
    intro j
    rw [List.getElem?_drop,List.getElem?_drop,hc _ (by omega)]
  refine ⟨?_,?_⟩
  · rw [hlen,h0]
    simp only [List.length_append,h1,hy4]; omega
  · rw [hd,h0,List.append_assoc,List.drop_left' h1,List.append_assoc,List.take_left' hy4]
theorem fms_take:∀ {l:List Fm} {xs:List IV} (k:Nat),IsFms l xs → IsFms (l.take k) (xs.take k)
  | [],_,k,rfl => by simp [IsFms]
  | a :: l,_,0,_ => by simp [IsFms]
  | a :: l,_,k + 1,⟨y,ys,rfl,hy,h⟩ => by
    rw [List.take_succ_cons,List.take_succ_cons]
    exact ⟨y,ys.take k,rfl,hy,fms_take k h⟩
theorem st4 {cs l:List IV} {k n:Nat} (hl:l.length = n) (h:k * 4 + n ≤ cs.length):(setAt cs (k * 4) l).length = cs.length ∧ (setAt cs (k * 4) l).take (k * 4) = cs.take (k * 4) ∧ (setAt cs (k * 4) l).take (k * 4 + n) = cs.take (k * 4) ++ l ∧ ∀ i,k * 4 + n ≤ i → (setAt cs (k * 4) l)[i]? = cs[i]?:=by
  have h1:(cs.take (k * 4)).length = k * 4:=by rw [List.length_take]; omega
  have h2:(cs.take (k * 4) ++ l).length = k * 4 + n:=by rw [List.length_append,h1,hl]
  unfold setAt
  refine ⟨?_,?_,List.take_left' h2,fun i hi => ?_⟩
  · rw [List.length_append,h2,List.length_drop,hl]; omega
  · rw [List.append_assoc,List.take_left' h1]
  · rw [List.getElem?_append_right (by omega),h2,List.getElem?_drop,hl]
    congr 1; omega
theorem vsliceI_from {k n:Nat} (h:k ≤ n):sliceI (some ((k:Nat):Int)) none n = some (k,n):=by
  simp only [sliceI,Option.getD_none,Option.getD_some]
  rw [if_pos ⟨by omega,by omega,Int.le_refl _⟩]; simp
theorem vsliceI_to {k n:Nat} (h:k ≤ n):sliceI none (some ((k:Nat):Int)) n = some (0,k):=by
  simp only [sliceI,Option.getD_none,Option.getD_some]
  rw [if_pos ⟨Int.le_refl _,by omega,by omega⟩]; simp
theorem Compact_c (m:List Fm) (ys rest:List IV) (hx:IsFms m ys) (hlen:m.length ≤ 1099511627776) (g cap:Nat) (hcap:m.length ≤ cap) (st:ISt) (hb:st g = some (.box (ys.flatMap IV.cells ++ rest))) :
    ICall prog gl 138 [.raw (.slice (some ⟨g,0,none⟩) m.length cap),.fn (.func 139) [] []] st
      (fun r st' => ∃ k cs zs,r = .raw (.slice (some ⟨g,0,none⟩) k cap) ∧ st' = st.put g (some (.box cs)) ∧ cs.length = (ys.flatMap IV.cells ++ rest).length ∧ cs.take (k * 4) = zs.flatMap IV.cells ∧ IsFms (dd m) zs ∧ zs.length = k ∧ k ≤ m.length):=by
  have hf4:∀ y ∈ ys,y.cells.length = 4:=fun y hy => fits4 (fms_fits hx y hy)
  have hyl:=hx.len
  have hput:st.put g (some (.box (ys.flatMap IV.cells ++ rest))) = st:=put_self hb
  have same:∀ k,dd (m.take k) = m.take k → k = m.length → ∃ k cs zs,IV.raw (.slice (some ⟨g,0,none⟩) m.length cap) = .raw (.slice (some ⟨g,0,none⟩) k cap) ∧ st = st.put g (some (.box cs)) ∧ cs.length = (ys.flatMap IV.cells ++ rest).length ∧ cs.take (k * 4) = zs.flatMap IV.cells ∧ IsFms (dd m) zs ∧ zs.length = k ∧ k ≤ m.length:=by
    intro k hk hkl
    rw [hkl,List.take_length] at hk
    refine ⟨m.length,_,ys,rfl,hput.symm,rfl,?_,by rw [hk]; exact hx,hyl,Nat.le_refl _⟩
    rw [← hyl,List.take_left' (flat_length _ hf4)]
  refine ICall.intro (c:=cf prog gl [22,27,42,47] []) func138 rfl (by show _ ≤ 66; simp) (by kernel_rfl) ?_
  by_cases h2:m.length < 2
  · have d2:decide (((m.length:Nat):Int) < 2) = true:=decide_eq_true (by omega)
    simp -implicitDefEqProofs -dsimp only [go_sem,↓reduceIte,zE,zB,zA,zM,zS,zL,reduceCtorEq,d2]
    refine outK_self (same m.length ?_ rfl)
    rw [List.take_length]
    match m,h2 with
    | [],_ => rfl
    | [a],_ => rfl
  · have d2:decide (((m.length:Nat):Int) < 2) = false:=decide_eq_false (by omega)
    simp -implicitDefEqProofs -dsimp only [go_sem,↓reduceIte,zE,zB,zA,zM,zS,zL,reduceCtorEq,d2]
    refine LoopC.ctr (m.length - 1) (fun c fr st' ds => dd (m.take (c + 1)) = m.take (c + 1) ∧ fr 0 = .iv (.raw (.slice (some ⟨g,0,none⟩) m.length cap)) ∧ fr 1 = .iv (.fn (.func 139) [] []) ∧ fr 5 = .iv (.raw (.int .i64 ((c + 1:Nat):Int))) ∧ st' = st ∧ ds = []) ?_ ?_ ?_
    · simp -implicitDefEqProofs -dsimp only [go_sem,↓reduceIte,zE,zB,zA,zM,zS,zL,reduceCtorEq]
      refine ⟨?_,rfl⟩
      match m,h2 with
      | [],h => exact absurd (show 0 < 2 by decide) h
      | [a],h => exact absurd (show 1 < 2 by decide) h
      | a :: b :: l,_ => rfl
    · rintro c fr st1 _ hlt ⟨hd,f0,f1,f5,rfl,rfl⟩
      have hlt':c + 1 < m.length:=by omega
      obtain ⟨a,ha⟩:=get_of_lt (l:=m) (k:=c) (by omega)
      obtain ⟨b,hbm⟩:=get_of_lt hlt'
      obtain ⟨x,hkx,hxa⟩:=hx.get ha
      obtain ⟨y,hky,hyb⟩:=hx.get hbm
      have hcall:=sSame_c gl b a y x hyb hxa st1
      obtain ⟨rx1,rx2⟩:=rd4 (rest:=rest) hf4 rfl hkx (fun _ _ => rfl)
      obtain ⟨ry1,ry2⟩:=rd4 (rest:=rest) hf4 rfl hky (fun _ _ => rfl)
      obtain ⟨x1,x2,x3,x4,x5,x6,rfl⟩:=hxa.agg
      obtain ⟨y1,y2,y3,y4,y5,y6,rfl⟩:=hyb.agg
      simp only [IV.cells] at rx2 ry2
      have hw:IntKind.i64.wrap (((c + 1:Nat):Int) - 1) = (c:Nat):=by rw [w64 (by omega) (by omega)]; omega
      simp -implicitDefEqProofs -dsimp only [go_sem,↓reduceIte,zE,zB,zA,zM,zS,zL,reduceCtorEq,f0,f1,f5,lt_i hlt',hw,hlt',show c < m.length by omega,Int.natCast_nonneg,hb,rx1,ry1,rx2,ry2,fits]
      refine hcall.mono ?_
      rintro _ st1 ⟨rfl,rfl⟩
      have hds:=dd_step ha hbm
      by_cases he:cmpFm b a = 0
      · rw [if_pos he,List.append_nil,hd] at hds
        have hcne:¬ cap = c + 1:=by omega
        simp -implicitDefEqProofs -dsimp only [go_sem,↓reduceIte,zE,zB,zA,zM,zS,zL,reduceCtorEq,decide_eq_true he,f0,f1,f5,vsliceI_from (show c + 1 ≤ m.length by omega),hcap,hcne]
        refine LoopC.ctr (m.length - (c + 1) - 1) (fun j fr st' ds => (∃ k cs zs,fr 5 = .iv (.raw (.int .i64 ((k:Nat):Int))) ∧ st' = st1.put g (some (.box cs)) ∧ cs.length = (ys.flatMap IV.cells ++ rest).length ∧ cs.take (k * 4) = zs.flatMap IV.cells ∧ IsFms (dd (m.take (c + 1 + j + 1))) zs ∧ zs.length = k ∧ k ≤ c + 1 + j ∧ ∀ i,(c + 1 + j) * 4 ≤ i → cs[i]? = (ys.flatMap IV.cells ++ rest)[i]?) ∧
          fr 0 = .iv (.raw (.slice (some ⟨g,0,none⟩) m.length cap)) ∧ fr 1 = .iv (.fn (.func 139) [] []) ∧ fr 6 = .iv (.raw (.slice (some ⟨g,(c + 1) * 4,none⟩) (m.length - (c + 1)) (cap - (c + 1)))) ∧ fr 7 = .iv (.raw (.int .i64 ((j + 1:Nat):Int))) ∧ ds = []) ?_ ?_ ?_
        · simp -implicitDefEqProofs -dsimp only [go_sem,↓reduceIte,zE,zB,zA,zM,zS,zL,reduceCtorEq]
          refine ⟨⟨c + 1,ys.flatMap IV.cells ++ rest,ys.take (c + 1),f5,(put_self hb).symm,rfl,?_,?_,?_,Nat.le_refl _,fun _ _ => rfl⟩,f0,f1,rfl⟩
          · conv => lhs; rw [← List.take_append_drop (c + 1) ys]
            rw [List.flatMap_append,List.append_assoc,List.take_left' (by rw [flat_length _ fun z hz => hf4 z (List.mem_of_mem_take hz),List.length_take]; omega)]
          · rw [hds]; exact fms_take _ hx
          · rw [List.length_take]; omega
        · rintro j fr st2 _ hj ⟨⟨k,cs,zs,f5,rfl,hcl,hct,hz,hzl,hk,hcs⟩,f0,f1,f6,f7,rfl⟩
          obtain ⟨a',ha'⟩:=get_of_lt (l:=m) (k:=c + 1 + j) (by omega)
          obtain ⟨b',hb'⟩:=get_of_lt (l:=m) (k:=c + 1 + j + 1) (by omega)
          obtain ⟨x',hkx',hxa'⟩:=hx.get ha'
          obtain ⟨y',hky',hyb'⟩:=hx.get hb'
          have hyb0:=hyb'
          have hcall':=sSame_c gl b' a' y' x' hyb' hxa' (st1.put g (some (.box cs)))
          obtain ⟨rx1',rx2'⟩:=rd4 hf4 hcl hkx' hcs
          obtain ⟨ry1',ry2'⟩:=rd4 hf4 hcl hky' (fun i hi => hcs i (by omega))
          have hy4:=hf4 y' (List.mem_of_getElem? hky')
          obtain ⟨p1,p2,p3,p4,p5,p6,rfl⟩:=hxa'.agg
          obtain ⟨q1,q2,q3,q4,q5,q6,rfl⟩:=hyb'.agg
          simp only [IV.cells] at rx2' ry2' hy4
          have hw':IntKind.i64.wrap (((j + 1:Nat):Int) - 1) = (j:Nat):=by rw [w64 (by omega) (by omega)]; omega
          have o1:(c + 1) * 4 + j * 4 = (c + 1 + j) * 4:=by omega
          have o2:(c + 1) * 4 + (j + 1) * 4 = (c + 1 + j + 1) * 4:=by omega
          have hj1:j + 1 < m.length - (c + 1):=by omega
          have hj0:j < m.length - (c + 1):=by omega
          have hds':=dd_step ha' hb'
          simp -implicitDefEqProofs -dsimp only [go_sem,↓reduceIte,zE,zB,zA,zM,zS,zL,reduceCtorEq,f0,f1,f5,f6,f7,lt_i hj1,hj0,hj1,hw',Int.natCast_nonneg,ISt.put_same,o1,o2,rx1',ry1',rx2',ry2',fits]
          refine hcall'.mono ?_
          rintro _ _ ⟨rfl,rfl⟩
          by_cases he':cmpFm b' a' = 0
          · rw [if_pos he',List.append_nil] at hds'
            simp -implicitDefEqProofs -dsimp only [go_sem,↓reduceIte,zE,zB,zA,zM,zS,zL,reduceCtorEq,decide_eq_true he',f0,f1,f5,f6,f7,w_succ hj1 (show m.length - (c + 1) ≤ 281474976710656 by omega)]
            exact ⟨k,cs,zs,rfl,rfl,hcl,hct,by rw [show c + 1 + (j + 1) + 1 = c + 1 + j + 1 + 1 by omega,hds']; exact hz,hzl,by omega,fun i hi => hcs i (by omega)⟩
          · rw [if_neg he'] at hds'
            have hkm:k < m.length:=by omega
            have hk4:k * 4 + 4 ≤ cs.length:=by omega
            obtain ⟨s1,s2,s3,s4⟩:=st4 hy4 hk4
            simp -implicitDefEqProofs -dsimp only [go_sem,↓reduceIte,zE,zB,zA,zM,zS,zL,reduceCtorEq,decide_eq_false he',f0,f1,f5,f6,f7,hj1,hkm,Int.natCast_nonneg,ISt.put_same,o2,ry1',ry2',hk4,fits,w_succ hkm (show m.length ≤ 281474976710656 by omega),w_succ hj1 (show m.length - (c + 1) ≤ 281474976710656 by omega)]
            refine ⟨k + 1,setAt cs (k * 4) [.raw (.int .u8 q1),.raw (.string q2),.sl q3 q4,.sl q5 q6],zs ++ [.agg [.raw (.int .u8 q1),.raw (.string q2),.sl q3 q4,.sl q5 q6]],rfl,by rw [put_put_same]; rfl,s1.trans hcl,?_,?_,by simp [hzl],by omega,fun i hi => (s4 i (by omega)).trans (hcs i (by omega))⟩
            · rw [show (k + 1) * 4 = k * 4 + 4 by omega,s3,hct,List.flatMap_append]
              simp [IV.cells]
            · rw [show c + 1 + (j + 1) + 1 = c + 1 + j + 1 + 1 by omega,hds']
              exact hz.append ⟨_,_,rfl,hyb0,rfl⟩
        · rintro fr st2 _ ⟨⟨k,cs,zs,f5,rfl,hcl,hct,hz,hzl,hk,hcs⟩,f0,f1,f6,f7,rfl⟩
          have hkm:k < m.length:=by omega
          have hck:¬ cap = k:=by omega
          have hmk:¬ m.length - k = 0:=by omega
          have hlen4:m.length * 4 ≤ cs.length:=by rw [hcl,List.length_append,flat_length _ hf4]; omega
          have hk4:k * 4 + (m.length - k) * 4 ≤ cs.length:=by omega
          obtain ⟨s1,s2,s3,s4⟩:=st4 (cs:=cs) (k:=k) (l:=List.replicate ((m.length - k) * 4) .junk) (List.length_replicate ..) hk4
          rw [show m.length - (c + 1) - 1 + 1 = m.length - (c + 1) by omega] at f7
          simp -implicitDefEqProofs -dsimp only [go_sem,↓reduceIte,zE,zB,zA,zM,zS,zL,reduceCtorEq,f0,f1,f5,f6,f7,nlt_i (Nat.lt_irrefl _),vsliceI_from (show k ≤ m.length by omega),vsliceI_to (show k ≤ m.length by omega),hcap,hck,hmk,ISt.put_same,hk4,ite_self,Nat.zero_mul]
          rw [show c + 1 + (m.length - (c + 1) - 1) + 1 = m.length by omega,List.take_length] at hz
          exact outK_self ⟨k,setAt cs (k * 4) (List.replicate ((m.length - k) * 4) .junk),zs,rfl,by rw [put_put_same]; rfl,s1.trans hcl,s2.trans hct,hz,hzl,by omega⟩
      · rw [if_neg he,hd] at hds
        simp -implicitDefEqProofs -dsimp only [go_sem,↓reduceIte,zE,zB,zA,zM,zS,zL,reduceCtorEq,decide_eq_false he,f0,f1,f5,w_succ hlt' (show m.length ≤ 281474976710656 by omega)]
        rw [hds,take_get hbm]
    · rintro fr st1 _ ⟨hd,f0,f1,f5,rfl,rfl⟩
      rw [show m.length - 1 + 1 = m.length by omega] at hd f5
      simp -implicitDefEqProofs -dsimp only [go_sem,↓reduceIte,zE,zB,zA,zM,zS,zL,reduceCtorEq,f0,f5,nlt_i (Nat.lt_irrefl _)]
      exact outK_self (same m.length hd rfl)
end Go.Proofs.Tryz

namespace Go.Proofs.Tryz
open Go Go.Iv
set_option maxRecDepth 4000
variable (gl:Nat → Option IV)

theorem lend_sl {st:ISt} {g n cap:Nat} {cs zs:List IV} (hg:st g = none) (hzl:zs.length = n) (hn:n ≤ 140737488355328) (hc1:n ≤ cap) (hc2:cap * 4 ≤ cs.length) (hct:cs.take (n * 4) = zs.flatMap IV.cells) (hf:∀ y ∈ zs,fits true 4 y = true) :
    LendOk (st.put g (some (.box cs))) (ISt.put (fun _ => none) g (some (.box cs))) st ∧ OI (ISt.put (fun _ => none) g (some (.box cs))) (.raw (.slice (some ⟨g,0,none⟩) n cap)) (.sl ⟨true,.app g,4⟩ zs):=by
  subst hzl
  have hcell:∀ y ∈ zs,y.cells.length = 4:=fun y hy => fits4 (hf y hy)
  refine ⟨⟨fun b o h => ?_,subSt_put hg,fun b cs' h => ?_⟩,.sl g cap ⟨true,.app g,4⟩ zs cs rfl hn hc1 hcell (ISt.put_same ..) hc2 fun i r c hr hx => ?_⟩
  · rw [ISt.put_apply] at h ⊢
    split at h
    · rename_i hb; rw [if_pos hb]; exact h
    · cases h
  · rw [ISt.put_apply] at h
    split at h
    · rename_i hb; rw [hb]; exact hg
    · cases h
  · have hi:i < zs.length * 4:=by
      have:=(List.getElem?_eq_some_iff.1 hx).1
      rwa [flat_length _ hcell] at this
    have:(cs.take (zs.length * 4))[i]? = cs[i]?:=by rw [List.getElem?_take,if_pos hi]
    rw [hct,hx,hr] at this
    cases this
    exact .refl _
open Classical in
noncomputable def setF (l:List Fm):List Fm:=if h:∃ r,SetF l r then h.choose else []
theorem setF_eq {l r:List Fm} (h:SetF l r):setF l = r:=by
  have he:∃ r,SetF l r:=⟨r,h⟩
  unfold setF
  rw [dif_pos he]
  exact SetF.one he.choose_spec h
theorem setF_nil:setF [] = []:=setF_eq ⟨List.Pairwise.nil,fun _ => Iff.rfl⟩
noncomputable def normalS (l:List Fm):List Fm × Nat:=if l.all Fm.right then (setF (l.map normF),0) else ([],2)
theorem CompactNil_c (t:Tag) (ht:t.cap = .nil) (st:ISt):ICall prog gl 138 [.sl t [],.fn (.func 139) [] []] st (fun r st' => (∃ t',r = .sl t' [] ∧ okEs t' 4) ∧ st' = st):=by
  obtain ⟨fs,c,es⟩:=t
  obtain rfl:c = .nil:=ht
  refine ICall.intro (c:=cf prog gl [22,27,42,47] []) func138 rfl (by show _ ≤ 66; simp) (by kernel_rfl) ?_
  simp -implicitDefEqProofs -dsimp only [go_sem,↓reduceIte,zE,zB,zA,zM,zS,zL,reduceCtorEq,show decide (((0:Nat):Int) < 2) = true from rfl]
  exact outK_self ⟨⟨_,rfl,.inl rfl⟩,rfl⟩
theorem qnormal_c (G:Gl gl) (T:Gt gl) (l:List Fm) (tg:Tag) (xs:List IV) (htg:okEs tg 4) (hx:IsFms l xs) (hs:fitL l) (hlen:l.length ≤ 1099511627776) (st:ISt) :
    ICall prog gl 87 [.sl tg xs] st (fun r st' => (∃ t ys,r = .tup [.sl t ys,.raw (.int .i64 (normalS l).2)] ∧ okEs t 4 ∧ IsFms (normalS l).1 ys) ∧ st' = st):=by
  refine ICall.fix (ICall.mono (K:=fun y st' => (l.all Fm.right = false ∧ y = .tup [.sl ⟨true,.nil,0⟩ [],.raw (.int .i64 2)] ∧ st' = st) ∨ (l = [] ∧ (∃ t,y = .tup [.sl t [],.raw (.int .i64 0)] ∧ okEs t 4) ∧ st' = st) ∨
      (l.all Fm.right = true ∧ ∃ g cap k cs zs,st g = none ∧ k ≤ cap ∧ cap * 4 ≤ cs.length ∧ cs.take (k * 4) = zs.flatMap IV.cells ∧ IsFms (setF (l.map normF)) zs ∧ zs.length = k ∧ k ≤ l.length ∧ y = .tup [.raw (.slice (some ⟨g,0,none⟩) k cap),.raw (.int .i64 0)] ∧ st' = st.put g (some (.box cs)))) ?_ ?_)
  · refine ICall.intro (c:=cf prog gl [26] []) func87 rfl (by show _ ≤ 32; simp) (by kernel_rfl) ?_
    simp -implicitDefEqProofs -dsimp only [go_sem,↓reduceIte,zE,zB,zA,zM,zS,zL,reduceCtorEq,hx.len]
    intro _
    refine LoopC.ctr l.length (fun k fr st' ds => (l.take k).all Fm.right = true ∧ ((k = 0 ∧ fr 4 = .iv (.sl ⟨true,.nil,0⟩ []) ∧ st' = st) ∨ (0 < k ∧ ∃ g cap cs zs,st g = none ∧ k ≤ cap ∧ cap * 4 ≤ cs.length ∧ cs.take (k * 4) = zs.flatMap IV.cells ∧ IsFms ((l.take k).map normF) zs ∧ zs.length = k ∧ fr 4 = .iv (.raw (.slice (some ⟨g,0,none⟩) k cap)) ∧ st' = st.put g (some (.box cs)))) ∧
      fr 9 = .iv (.sl tg xs) ∧ fr 10 = .iv (.raw (.int .i64 l.length)) ∧ fr 11 = .iv (.raw (.int .i64 k)) ∧ ds = []) ?_ ?_ ?_
    · simp -implicitDefEqProofs -dsimp only [go_sem,↓reduceIte,zE,zB,zA,zM,zS,zL,reduceCtorEq]
      rfl
    · rintro k fr st1 _ hlt ⟨hall,hor,f9,f10,f11,rfl⟩
      obtain ⟨a,ha⟩:=get_of_lt hlt
      obtain ⟨y,hky,hya⟩:=hx.get ha
      have ham:=List.mem_of_getElem? ha
      have hcall:=Normal_c gl G T a y hya (hs a ham) st1
      obtain ⟨y1,y2,y3,y4,y5,y6,rfl⟩:=hya.agg
      simp -implicitDefEqProofs -dsimp only [go_sem,↓reduceIte,zE,zB,zA,zM,zS,zL,reduceCtorEq,f9,f10,f11,lt_i hlt,reTag_es htg,Int.natCast_nonneg,hky,fits]
      refine hcall.mono ?_
      rintro _ st1 ⟨y',rfl,hy',rfl⟩
      unfold NormalS at hy'
      cases hr:a.right
      · rw [hr] at hy'
        simp only [Bool.false_eq_true,if_false] at hy'
        obtain ⟨z1,z2,z3,z4,z5,z6,rfl⟩:=hy'.agg
        unfold NormalS
        rw [hr]
        simp only [Bool.false_eq_true,if_false]
        simp -implicitDefEqProofs -dsimp only [go_sem,↓reduceIte,zE,zB,zA,zM,zS,zL,reduceCtorEq,show decide (((2:Nat):Int) = 0) = false from rfl,fits]
        have hsub:subSt st st1:=by
          rcases hor with ⟨_,_,h⟩ | ⟨_,g,cap,cs,zs,hg,_,_,_,_,_,_,h⟩
          · rw [h]; exact subSt.refl _
          · rw [h]; exact subSt_put hg
        exact outK_sub hsub (.inl ⟨List.all_eq_false.2 ⟨a,ham,by simp [hr]⟩,rfl,rfl⟩)
      · rw [hr] at hy'
        simp only [if_true] at hy'
        have hy0:=hy'
        obtain ⟨z1,z2,z3,z4,z5,z6,rfl⟩:=hy'.agg
        unfold NormalS
        rw [hr]
        simp only [if_true]
        have hall':(l.take (k + 1)).all Fm.right = true:=by
          rw [take_get ha,List.all_append,hall]; simp [hr]
        rcases hor with ⟨rfl,f4,rfl⟩ | ⟨hk0,g,cap,cs,zs,hg,h1,h2,h3,hz,hzl,f4,rfl⟩
        · simp -implicitDefEqProofs -dsimp only [go_sem,↓reduceIte,zE,zB,zA,zM,zS,zL,reduceCtorEq,show decide (((0:Nat):Int) = 0) = true from rfl,fits,f4,inOrder_one]
          intro g cap
          refine giv_intro fun hg => ?_
          obtain ⟨hg,hcap⟩:=hg
          simp -implicitDefEqProofs -dsimp only [go_sem,↓reduceIte,zE,zB,zA,zM,zS,zL,reduceCtorEq,f9,f10,f11,show IntKind.i64.wrap (((0:Nat):Int) + 1) = ((1:Nat):Int) from rfl]
          have hl1:(l.take 1).map normF = [normF a]:=by
            have:=take_get ha
            simp only [Nat.zero_add,List.take_zero,List.nil_append] at this
            rw [this]; rfl
          refine ⟨by simpa using hall',.inr ⟨by omega,g,cap,_,[.agg [.raw (.int .u8 z1),.raw (.string z2),.sl z3 z4,.sl z5 z6]],hg,hcap,?_,?_,by rw [hl1]; exact ⟨_,_,rfl,hy0,rfl⟩,rfl,rfl,rfl⟩⟩
          · simp [IV.cells]; omega
          · simp [IV.cells]
        · simp -implicitDefEqProofs -dsimp only [go_sem,↓reduceIte,zE,zB,zA,zM,zS,zL,reduceCtorEq,show decide (((0:Nat):Int) = 0) = true from rfl,fits,f4,inOrder_one]
          have hkk:k ≤ 1099511627776:=by omega
          refine appO_intro _ _ _ (ISt.put_same ..) (by simp [fits,IV.one]) ⟨by show (_ + 1) * 72 ≤ _; omega,by show _ + 1 ≤ _; omega⟩ ⟨h1,h2⟩ (by simp [IV.cells]) ?_
          intro g' cap' cs' hg' q1 q2 q3
          have hst':((st.put g (some (.box cs))).put g none).put g' (some (.box cs')) = st.put g' (some (.box cs')):=by
            funext c
            simp only [ISt.put_apply]
            split
            · rfl
            · split
              · subst_vars; exact hg.symm
              · rfl
          have hg1:st g' = none:=by
            rcases hg' with rfl | h
            · exact hg
            · rw [ISt.put_apply] at h
              split at h
              · cases h
              · exact h
          simp -implicitDefEqProofs -dsimp only [go_sem,↓reduceIte,zE,zB,zA,zM,zS,zL,reduceCtorEq,f9,f10,f11,w_succ hlt (show l.length ≤ 281474976710656 by omega)]
          refine ⟨hall',.inr ⟨by omega,g',cap',cs',zs ++ [.agg [.raw (.int .u8 z1),.raw (.string z2),.sl z3 z4,.sl z5 z6]],hg1,q1,q2,?_,?_,by simp [hzl],rfl,hst'⟩⟩
          · rw [List.flatMap_append,← h3]; exact q3
          · rw [take_get ha,List.map_append]; exact hz.append ⟨_,_,rfl,hy0,rfl⟩
    · rintro fr st1 _ ⟨hall,hor,f9,f10,f11,rfl⟩
      rw [List.take_length] at hall hor
      rcases hor with ⟨h0,f4,rfl⟩ | ⟨hk0,g,cap,cs,zs,hg,h1,h2,h3,hz,hzl,f4,rfl⟩
      · simp -implicitDefEqProofs -dsimp only [go_sem,↓reduceIte,zE,zB,zA,zM,zS,zL,reduceCtorEq,f4,f10,f11,nlt_i (Nat.lt_irrefl _)]
        refine (SortNil_c gl _ rfl _).mono ?_
        rintro _ _ ⟨rfl,rfl⟩
        simp -implicitDefEqProofs -dsimp only [go_sem,↓reduceIte,zE,zB,zA,zM,zS,zL,reduceCtorEq,f4]
        refine (CompactNil_c gl _ rfl _).mono ?_
        rintro _ _ ⟨⟨t',rfl,ht'⟩,rfl⟩
        simp -implicitDefEqProofs -dsimp only [go_sem,↓reduceIte,zE,zB,zA,zM,zS,zL,reduceCtorEq]
        exact outK_self (.inr (.inl ⟨List.eq_nil_of_length_eq_zero h0,⟨t',rfl,ht'⟩,rfl⟩))
      · have hcs:cs = zs.flatMap IV.cells ++ cs.drop (l.length * 4):=by rw [← h3,List.take_append_drop]
        have hzl':=hz.len
        have hsort:=Sort_c gl (l.map normF) zs (cs.drop (l.length * 4)) hz (by rintro rfl; simp at hzl; omega) (by omega) g cap (st.put g (some (.box cs))) (by rw [ISt.put_same,← hcs])
        rw [hzl] at hsort
        simp -implicitDefEqProofs -dsimp only [go_sem,↓reduceIte,zE,zB,zA,zM,zS,zL,reduceCtorEq,f4,f10,f11,nlt_i (Nat.lt_irrefl _)]
        refine hsort.mono ?_
        rintro _ _ ⟨rfl,m,ys,hm,hperm,hpw,rfl⟩
        have hml:m.length = l.length:=by rw [hperm.length_eq,List.length_map]
        have hcom:=Compact_c gl m ys (cs.drop (l.length * 4)) hm (by omega) g cap (by omega) ((st.put g (some (.box cs))).put g (some (.box (ys.flatMap IV.cells ++ cs.drop (l.length * 4))))) (ISt.put_same ..)
        rw [hml] at hcom
        simp -implicitDefEqProofs -dsimp only [go_sem,↓reduceIte,zE,zB,zA,zM,zS,zL,reduceCtorEq,f4]
        refine hcom.mono ?_
        rintro _ _ ⟨k,cs2,zs2,rfl,rfl,hl2,ht2,hz2,hzl2,hk2⟩
        rw [put_put_same,put_put_same]
        simp -implicitDefEqProofs -dsimp only [go_sem,↓reduceIte,zE,zB,zA,zM,zS,zL,reduceCtorEq]
        have hyl:(ys.flatMap IV.cells).length = l.length * 4:=by rw [flat_length _ fun y hy => fits4 (fms_fits hm y hy),hm.len,hml]
        rw [List.length_append,hyl,List.length_drop] at hl2
        exact outK_self (.inr (.inr ⟨hall,g,cap,k,cs2,zs2,hg,by omega,by omega,ht2,by rw [setF_eq (dd_set _ m hperm hpw)]; exact hz2,hzl2,hk2,rfl,rfl⟩))
  · rintro y st' (⟨ha,rfl,rfl⟩ | ⟨rfl,⟨t,rfl,ht⟩,rfl⟩ | ⟨ha,g,cap,k,cs,zs,hg,hc1,hc2,hct,hz,hzl,hkl,rfl,rfl⟩)
    · have hn:normalS l = ([],2):=by unfold normalS; rw [ha]; rfl
      exact ⟨.tup [.sl ⟨true,.nil,0⟩ [],.raw (.int .i64 2)],(fun _ => none),st',LendOk.mk (fun b o h => by cases h) (subSt.refl _) (fun b cs h => by cases h),.refl _,⟨⟨false,.nil,0⟩,[],by rw [hn]; simp only [age,ages]; rfl,.inl rfl,by rw [hn]; rfl⟩,rfl⟩
    · have hn:normalS [] = ([],0):=by unfold normalS; simp only [List.all_nil,if_true,List.map_nil,setF_nil]
      exact ⟨.tup [.sl t [],.raw (.int .i64 0)],(fun _ => none),st',LendOk.mk (fun b o h => by cases h) (subSt.refl _) (fun b cs h => by cases h),.refl _,⟨⟨false,t.cap,t.es⟩,[],by rw [hn]; simp only [age,ages]; rfl,ht,by rw [hn]; rfl⟩,rfl⟩
    · have hn:normalS l = (setF (l.map normF),0):=by unfold normalS; rw [ha]; rfl
      obtain ⟨k1,k2⟩:=lend_sl hg hzl (by omega) hc1 hc2 hct (fms_fits hz)
      refine ⟨.tup [.sl ⟨true,.app g,4⟩ zs,.raw (.int .i64 0)],_,st,k1,.tup _ _ rfl fun i r c hr hc => ?_,⟨⟨false,.app g,4⟩,ages zs,by rw [hn]; simp only [age,ages]; rfl,.inr rfl,by rw [hn]; exact hz.aged⟩,rfl⟩
      match i,hr,hc with
      | 0,hr,hc => cases hr; cases hc; exact k2
      | 1,hr,hc => cases hr; cases hc; exact .refl _
noncomputable def SetS (s:Sq):Sq × Nat :=
  if (normalS s.l).2 ≠ 0 then (⟨[],[]⟩,(normalS s.l).2) else if (normalS s.r).2 ≠ 0 then (⟨[],[]⟩,(normalS s.r).2) else (⟨(normalS s.l).1,(normalS s.r).1⟩,0)
theorem Set_c (G:Gl gl) (T:Gt gl) (s:Sq) (x:IV) (hx:IsSq s x) (hs:fitSq s) (hl:s.l.length ≤ 1099511627776 ∧ s.r.length ≤ 1099511627776) (st:ISt) :
    ICall prog gl 33 [x] st (fun r st' => (∃ y,r = .tup [y,.raw (.int .i64 (SetS s).2)] ∧ IsSq (SetS s).1 y) ∧ st' = st):=by
  obtain ⟨t1,x1,t2,x2,rfl,e1,i1,e2,i2⟩:=hx
  have h1:=fun st => qnormal_c gl G T s.l t1 x1 e1 i1 hs.1 hl.1 st
  have h2:=fun st => qnormal_c gl G T s.r t2 x2 e2 i2 hs.2 hl.2 st
  unfold SetS
  refine ICall.intro (c:=cf prog gl [] []) func33 rfl (by show _ ≤ 30; simp) (by kernel_rfl) ?_
  simp -implicitDefEqProofs -dsimp only [go_sem,↓reduceIte,zE,zB,zA,zM,zS,zL,reduceCtorEq,fits]
  refine (h1 _).mono ?_
  rintro _ st ⟨⟨t3,y1,rfl,e3,j1⟩,rfl⟩
  by_cases q1:(normalS s.l).2 = 0
  · rw [if_neg (by omega)]
    simp -implicitDefEqProofs -dsimp only [go_sem,↓reduceIte,zE,zB,zA,zM,zS,zL,reduceCtorEq,q1,show decide (((0:Nat):Int) = 0) = true from rfl,fits]
    refine (h2 _).mono ?_
    rintro _ st ⟨⟨t4,y2,rfl,e4,j2⟩,rfl⟩
    by_cases q2:(normalS s.r).2 = 0
    · rw [if_neg (by omega)]
      simp -implicitDefEqProofs -dsimp only [go_sem,↓reduceIte,zE,zB,zA,zM,zS,zL,reduceCtorEq,q2,show decide (((0:Nat):Int) = 0) = true from rfl,fits]
      exact outK_self ⟨⟨_,rfl,_,_,_,_,rfl,e3,j1,e4,j2⟩,rfl⟩
    · rw [if_pos q2]
      simp -implicitDefEqProofs -dsimp only [go_sem,↓reduceIte,zE,zB,zA,zM,zS,zL,reduceCtorEq,show decide ((((normalS s.r).2:Nat):Int) = 0) = false from decide_eq_false (by omega),fits]
      exact outK_self ⟨⟨_,rfl,_,_,_,_,rfl,.inl rfl,rfl,.inl rfl,rfl⟩,rfl⟩
  · rw [if_pos q1]
    simp -implicitDefEqProofs -dsimp only [go_sem,↓reduceIte,zE,zB,zA,zM,zS,zL,reduceCtorEq,show decide ((((normalS s.l).2:Nat):Int) = 0) = false from decide_eq_false (by omega),fits]
    exact outK_self ⟨⟨_,rfl,_,_,_,_,rfl,.inl rfl,rfl,.inl rfl,rfl⟩,rfl⟩
end Go.Proofs.Tryz

namespace Go.Proofs.Tryz
open Go Go.Iv
set_option maxRecDepth 4000
variable (gl:Nat → Option IV)

theorem fms_size:∀ {l:List Fm} {c:Nat},(∀ f ∈ l,f.size ≤ c) → sizeFms l ≤ l.length * c
  | [],c,_ => by simp [sizeFms]
  | a :: l,c,h => by
    have h1:=h a (by simp)
    have h2:=fms_size (l:=l) fun f hf => h f (by simp [hf])
    rw [List.length_cons,Nat.succ_mul]
    simp only [sizeFms]; omega
def itemI (ca:Nat) (s m:Sq):Sq:=⟨s.l ++ m.l,if ca ≠ 2 ∨ m.r.length = 0 then s.r ++ m.r else m.r⟩
def okI (ca:Nat) (s m:Sq):Bool:=decide ((itemI ca s m).l.length ≤ 64) && decide ((itemI ca s m).r.length ≤ 64)
noncomputable def BackS (ca:Nat) (s:Sq) (rule:Nat) (main:Fm) (term:Tm) (name:ByteArray):List Sq × Nat :=
  if !knownB ca then ([],2) else if (stepS ca s rule main term name).2 ≠ 0 then ([],(stepS ca s rule main term name).2)
  else if (stepS ca s rule main term name).1.all (okI ca s) then ((stepS ca s rule main term name).1.map (itemI ca s),0) else ([],5)
theorem ite_len {c:Prop} [Decidable c] {A B:List Sq} (h1:A.length ≤ 2) (h2:B.length ≤ 2):(if c then A else B).length ≤ 2:=by split <;> assumption
theorem addS_len (ca rule:Nat) (main a b:Fm):(addS ca rule main a b).length ≤ 2:=by
  unfold addS
  repeat' apply ite_len
  all_goals first | exact Nat.zero_le _ | exact Nat.le_refl 2 | exact Nat.le_succ 1
theorem addsS_len {ca rule:Nat} {r:Rw} {main:Fm} {term:Tm} {name:ByteArray} {ad:List Sq} (h:addsS ca rule r main term name = (ad,0)):ad.length ≤ 2:=by
  unfold addsS at h
  by_cases hc:(!fmB ca main || (decide (r.op ≠ 0) && decide (main.op ≠ r.op))) = true
  · rw [if_pos hc] at h
    cases (Prod.mk.inj h).2
  · rw [if_neg hc] at h
    by_cases h0:r.asks = 0
    · simp only [if_pos h0] at h
      rw [← (Prod.mk.inj h).1]
      exact addS_len ..
    · simp only [if_neg h0] at h
      generalize (if r.asks = 2 then Tm.mk true name [] else term) = t at h
      by_cases h1:(!t.ok) = true
      · simp only [if_pos h1] at h
        cases (Prod.mk.inj h).2
      · simp only [if_neg h1] at h
        by_cases h2:(PutsS ((main.subs[0]?).getD fm0) [(main.nm,t)]).2 ≠ 0
        · simp only [if_pos h2] at h
          cases (Prod.mk.inj h).2
        · simp only [if_neg h2] at h
          rw [← (Prod.mk.inj h).1]
          exact addS_len ..
theorem ownSub {st st' S0:ISt} {tg:Tag} {n s:Nat} (h:own st tg n s S0) (hs:subSt st st'):own st' tg n s S0:=h.mono fun g hg _ => hs g _ hg
theorem Back_c (G:Gl gl) (T:Gt gl) (ca:Nat) (s:Sq) (x:IV) (hx:IsSq s x) (hs:fitSq s) (rule:Nat) (main:Fm) (y:IV) (hy:IsFm main y) (hm:main.size ≤ 1000000) (term:Tm) (z:IV) (hz:IsTm term z) (ht:term.size ≤ 1000000) (name:ByteArray) (st:ISt) :
    ICall prog gl 37 [.raw (.int .u8 ca),x,.raw (.int .u8 rule),y,z,.raw (.string name)] st (AdR st (BackS ca s rule main term name)):=by
  have hstep:=fun st => step_c gl G T ca s x hx hs rule main y hy hm term z hz ht name st
  have hkn:=fun st => known_c gl ca st
  obtain ⟨t1,x1,t2,x2,rfl,e1,i1,e2,i2⟩:=hx
  obtain ⟨o3,n3,t3,x3,t4,x4,rfl⟩:=hy.agg
  obtain ⟨v,un,tz,xz,rfl⟩:=tmAgg hz
  unfold BackS
  refine ICall.intro (c:=cf prog gl [] [(10,[0,1,3,4,6,7,9,2,5,8,10]),(12,[0,1,3,4,2,5,6,7])]) func37 rfl (by show _ ≤ 82; simp) (by kernel_rfl) ?_
  simp -implicitDefEqProofs -dsimp only [go_sem,↓reduceIte,zE,zB,zA,zM,zS,zL,reduceCtorEq,fits]
  refine (hkn _).mono ?_
  rintro _ st ⟨rfl,rfl⟩
  cases hk:knownB ca
  · simp -implicitDefEqProofs -dsimp only [go_sem,↓reduceIte,zE,zB,zA,zM,zS,zL,reduceCtorEq,fits]
    exact outK_self ⟨_,_,rfl,.inl rfl,rfl,rfl⟩
  simp -implicitDefEqProofs -dsimp only [go_sem,↓reduceIte,zE,zB,zA,zM,zS,zL,reduceCtorEq,fits]
  refine (hstep _).mono ?_
  rintro _ st ⟨tg,ys,rfl,he,hys,rfl⟩
  generalize hq:stepS ca s rule main term name = q at hys ⊢
  obtain ⟨ad,er⟩:=q
  simp only at hys ⊢
  by_cases h0:er = 0
  · subst h0
    obtain ⟨hv,r,hr⟩:=stepS_z hq
    have hfit:=addsS_fit hr
    have hal2:=addsS_len hr
    have hvl:s.l.length ≤ 64 ∧ s.r.length ≤ 64:=by
      unfold validB at hv
      simp only [Bool.and_eq_true,decide_eq_true_eq] at hv
      exact ⟨hv.1.1.1.1.2,hv.1.1.1.2⟩
    have hF1:=fun st => forms_c gl s.l t1 x1 e1 i1 (by have:=fms_size hs.1; omega) st
    have hF2:=fun st => forms_c gl s.r t2 x2 e2 i2 (by have:=fms_size hs.2; omega) st
    simp only [Bool.not_true,Bool.false_eq_true,if_false,ne_eq,not_true_eq_false]
    simp -implicitDefEqProofs -dsimp only [go_sem,↓reduceIte,zE,zB,zA,zM,zS,zL,reduceCtorEq,show decide (((0:Nat):Int) = 0) = true from rfl,hys.len,fits]
    intro hal
    refine LoopC.ctr ad.length (fun k fr st' ds => (ad.take k).all (okI ca s) = true ∧ (∃ tg' zs,fr 16 = .iv (.sl tg' zs) ∧ IsSqs ((ad.take k).map (itemI ca s)) zs ∧ own st' tg' k 2 st ∧ subSt st st') ∧ fr 0 = .iv (.raw (.int .u8 ca)) ∧ fr 7 = .box [.sl t1 x1,.sl t2 x2] ∧
      fr 36 = .iv (.sl tg ys) ∧ fr 37 = .iv (.raw (.int .i64 ad.length)) ∧ fr 38 = .iv (.raw (.int .i64 k)) ∧ ds = []) ?_ ?_ ?_
    · simp -implicitDefEqProofs -dsimp only [go_sem,↓reduceIte,zE,zB,zA,zM,zS,zL,reduceCtorEq]
      exact ⟨⟨_,_,rfl,rfl,.inl ⟨rfl,rfl⟩,subSt.refl _⟩,rfl⟩
    · rintro k fr st1 _ hlt ⟨hall,⟨tgo,zs,f16,hzs,hown,hsub⟩,f0,f7,f36,f37,f38,rfl⟩
      obtain ⟨a,ha⟩:=get_of_lt hlt
      obtain ⟨w,hkw,hw⟩:=hys.get ha
      have hza:=hfit a (List.mem_of_getElem? ha)
      obtain ⟨t5,x5,t6,x6,rfl,k5,j5,k6,j6⟩:=hw
      simp -implicitDefEqProofs -dsimp only [go_sem,↓reduceIte,zE,zB,zA,zM,zS,zL,reduceCtorEq,f0,f7,f16,f36,f37,f38,lt_i hlt,reTag_es he,Int.natCast_nonneg,hkw,fits]
      refine (hF1 _).mono ?_
      rintro _ st2 ⟨t7,y7,rfl,k7,_,hy7,hown7,hsub7⟩
      simp -implicitDefEqProofs -dsimp only [go_sem,↓reduceIte,zE,zB,zA,zM,zS,zL,reduceCtorEq,f0,f7,f16,f36,f37,f38,fits]
      refine appV_owns hown7 hy7.len j5.len hsub7 rfl (List.all_eq_true.2 (fms_fits j5)) (by show _ * 72 ≤ _; have:=hza.2.1; omega) (by have:=hza.2.1; omega) fun t8 st3 hown8 hsub8 _ => ?_
      obtain ⟨L,hL⟩:∃ L,L = y7 ++ x5:=⟨_,rfl⟩
      have hLs:IsFms (itemI ca s a).l L:=hL ▸ hy7.1.append j5
      have tL:=hown8.es
      rw [← hL]
      by_cases hca:ca = 2
      · have dca:decide ((ca:Int) = 2) = true:=decide_eq_true (by omega)
        by_cases hr0:a.r.length = 0
        · simp -implicitDefEqProofs -dsimp only [go_sem,↓reduceIte,zE,zB,zA,zM,zS,zL,reduceCtorEq,f0,f7,f16,f36,f37,f38,fits,dca,j6.len,hr0,show decide (((0:Nat):Int) = 0) = true from rfl]
          refine (hF2 _).mono ?_
          rintro _ st4 ⟨t9,y9,rfl,k9,_,hy9,hown9,hsub9⟩
          simp -implicitDefEqProofs -dsimp only [go_sem,↓reduceIte,zE,zB,zA,zM,zS,zL,reduceCtorEq,f0,f7,f16,f36,f37,f38,fits]
          refine appV_owns hown9 hy9.len j6.len hsub9 rfl (List.all_eq_true.2 (fms_fits j6)) (by show _ * 72 ≤ _; have:=hza.2.2; omega) (by have:=hza.2.2; omega) fun t10 st5 hown10 hsub10 _ => ?_
          obtain ⟨R,hR⟩:∃ R,R = y9 ++ x6:=⟨_,rfl⟩
          have hRs:IsFms (itemI ca s a).r R:=by rw [hR]; unfold itemI; rw [if_pos (by omega)]; exact hy9.1.append j6
          rw [← hR]
          have hown':=ownSub hown (hsub8.trans hsub10)
          have hallA:∀ (h:okI ca s a = false),ad.all (okI ca s) = false:=fun h => List.all_eq_false.2 ⟨a,List.mem_of_getElem? ha,by rw [h]; simp⟩
          by_cases hl64:(itemI ca s a).l.length ≤ 64
          · have dl:decide ((64:Int) < (((itemI ca s a).l.length:Nat):Int)) = false:=decide_eq_false (by omega)
            by_cases hr64:(itemI ca s a).r.length ≤ 64
            · have dr:decide ((64:Int) < (((itemI ca s a).r.length:Nat):Int)) = false:=decide_eq_false (by omega)
              have hok:okI ca s a = true:=by unfold okI; rw [decide_eq_true hl64,decide_eq_true hr64]; rfl
              simp -implicitDefEqProofs -dsimp only [go_sem,↓reduceIte,zE,zB,zA,zM,zS,zL,reduceCtorEq,f0,f7,f16,f36,f37,f38,fits,hLs.len,hRs.len,dl,dr,inOrder_one]
              intros
              refine appV_own hown' (by rw [hzs.len,List.length_map,List.length_take]; omega) (hsub.trans (hsub8.trans hsub10)) rfl (by simp [fits,IV.one]) (by simp only; omega) (by omega) fun tg2 st6 hown2 hsub4 _ => ?_
              simp -implicitDefEqProofs -dsimp only [go_sem,↓reduceIte,zE,zB,zA,zM,zS,zL,reduceCtorEq,f0,f7,f16,f36,f37,f38,fits,w_succ hlt (show ad.length ≤ 281474976710656 by omega)]
              refine ⟨by rw [take_get ha,List.all_append,hall]; simp [hok],tg2,_,rfl,?_,hown2,hsub4⟩
              rw [take_get ha,List.map_append]
              exact hzs.append ⟨_,_,rfl,⟨_,_,_,_,rfl,tL,hLs,hown10.es,hRs⟩,rfl⟩
            · have dr:decide ((64:Int) < (((itemI ca s a).r.length:Nat):Int)) = true:=decide_eq_true (by omega)
              simp -implicitDefEqProofs -dsimp only [go_sem,↓reduceIte,zE,zB,zA,zM,zS,zL,reduceCtorEq,f0,f7,f16,f36,f37,f38,fits,hLs.len,hRs.len,dl,dr]
              intros
              refine outK_sub (hsub.trans (hsub8.trans hsub10)) ?_
              rw [hallA (by unfold okI; rw [decide_eq_false hr64,Bool.and_false])]
              exact ⟨_,_,rfl,.inl rfl,rfl,rfl⟩
          · have dl:decide ((64:Int) < (((itemI ca s a).l.length:Nat):Int)) = true:=decide_eq_true (by omega)
            simp -implicitDefEqProofs -dsimp only [go_sem,↓reduceIte,zE,zB,zA,zM,zS,zL,reduceCtorEq,f0,f7,f16,f36,f37,f38,fits,hLs.len,hRs.len,dl]
            intros
            refine outK_sub (hsub.trans (hsub8.trans hsub10)) ?_
            rw [hallA (by unfold okI; rw [decide_eq_false hl64,Bool.false_and])]
            exact ⟨_,_,rfl,.inl rfl,rfl,rfl⟩
        · simp -implicitDefEqProofs -dsimp only [go_sem,↓reduceIte,zE,zB,zA,zM,zS,zL,reduceCtorEq,f0,f7,f16,f36,f37,f38,fits,dca,j6.len,show decide (((a.r.length:Nat):Int) = 0) = false from decide_eq_false (by omega),hLs.len]
          intros
          have hRs:IsFms (itemI ca s a).r x6:=by unfold itemI; rw [if_neg (by omega)]; exact j6
          have hown':=ownSub hown hsub8
          have hallA:∀ (h:okI ca s a = false),ad.all (okI ca s) = false:=fun h => List.all_eq_false.2 ⟨a,List.mem_of_getElem? ha,by rw [h]; simp⟩
          by_cases hl64:(itemI ca s a).l.length ≤ 64
          · have dl:decide ((64:Int) < (((itemI ca s a).l.length:Nat):Int)) = false:=decide_eq_false (by omega)
            by_cases hr64:(itemI ca s a).r.length ≤ 64
            · have dr:decide ((64:Int) < (((itemI ca s a).r.length:Nat):Int)) = false:=decide_eq_false (by omega)
              have hok:okI ca s a = true:=by unfold okI; rw [decide_eq_true hl64,decide_eq_true hr64]; rfl
              simp -implicitDefEqProofs -dsimp only [go_sem,↓reduceIte,zE,zB,zA,zM,zS,zL,reduceCtorEq,f0,f7,f16,f36,f37,f38,fits,hLs.len,hRs.len,dl,dr,inOrder_one]
              intros
              refine appV_own hown' (by rw [hzs.len,List.length_map,List.length_take]; omega) (hsub.trans hsub8) rfl (by simp [fits,IV.one]) (by simp only; omega) (by omega) fun tg2 st6 hown2 hsub4 _ => ?_
              simp -implicitDefEqProofs -dsimp only [go_sem,↓reduceIte,zE,zB,zA,zM,zS,zL,reduceCtorEq,f0,f7,f16,f36,f37,f38,fits,w_succ hlt (show ad.length ≤ 281474976710656 by omega)]
              refine ⟨by rw [take_get ha,List.all_append,hall]; simp [hok],tg2,_,rfl,?_,hown2,hsub4⟩
              rw [take_get ha,List.map_append]
              exact hzs.append ⟨_,_,rfl,⟨_,_,_,_,rfl,tL,hLs,k6,hRs⟩,rfl⟩
            · have dr:decide ((64:Int) < (((itemI ca s a).r.length:Nat):Int)) = true:=decide_eq_true (by omega)
              simp -implicitDefEqProofs -dsimp only [go_sem,↓reduceIte,zE,zB,zA,zM,zS,zL,reduceCtorEq,f0,f7,f16,f36,f37,f38,fits,hLs.len,hRs.len,dl,dr]
              intros
              refine outK_sub (hsub.trans hsub8) ?_
              rw [hallA (by unfold okI; rw [decide_eq_false hr64,Bool.and_false])]
              exact ⟨_,_,rfl,.inl rfl,rfl,rfl⟩
          · have dl:decide ((64:Int) < (((itemI ca s a).l.length:Nat):Int)) = true:=decide_eq_true (by omega)
            simp -implicitDefEqProofs -dsimp only [go_sem,↓reduceIte,zE,zB,zA,zM,zS,zL,reduceCtorEq,f0,f7,f16,f36,f37,f38,fits,hLs.len,hRs.len,dl]
            intros
            refine outK_sub (hsub.trans hsub8) ?_
            rw [hallA (by unfold okI; rw [decide_eq_false hl64,Bool.false_and])]
            exact ⟨_,_,rfl,.inl rfl,rfl,rfl⟩
      · have dca:decide ((ca:Int) = 2) = false:=decide_eq_false (by omega)
        simp -implicitDefEqProofs -dsimp only [go_sem,↓reduceIte,zE,zB,zA,zM,zS,zL,reduceCtorEq,f0,f7,f16,f36,f37,f38,fits,dca]
        refine (hF2 _).mono ?_
        rintro _ st4 ⟨t9,y9,rfl,k9,_,hy9,hown9,hsub9⟩
        simp -implicitDefEqProofs -dsimp only [go_sem,↓reduceIte,zE,zB,zA,zM,zS,zL,reduceCtorEq,f0,f7,f16,f36,f37,f38,fits]
        refine appV_owns hown9 hy9.len j6.len hsub9 rfl (List.all_eq_true.2 (fms_fits j6)) (by show _ * 72 ≤ _; have:=hza.2.2; omega) (by have:=hza.2.2; omega) fun t10 st5 hown10 hsub10 _ => ?_
        obtain ⟨R,hR⟩:∃ R,R = y9 ++ x6:=⟨_,rfl⟩
        have hRs:IsFms (itemI ca s a).r R:=by rw [hR]; unfold itemI; rw [if_pos (by omega)]; exact hy9.1.append j6
        rw [← hR]
        have hown':=ownSub hown (hsub8.trans hsub10)
        have hallA:∀ (h:okI ca s a = false),ad.all (okI ca s) = false:=fun h => List.all_eq_false.2 ⟨a,List.mem_of_getElem? ha,by rw [h]; simp⟩
        by_cases hl64:(itemI ca s a).l.length ≤ 64
        · have dl:decide ((64:Int) < (((itemI ca s a).l.length:Nat):Int)) = false:=decide_eq_false (by omega)
          by_cases hr64:(itemI ca s a).r.length ≤ 64
          · have dr:decide ((64:Int) < (((itemI ca s a).r.length:Nat):Int)) = false:=decide_eq_false (by omega)
            have hok:okI ca s a = true:=by unfold okI; rw [decide_eq_true hl64,decide_eq_true hr64]; rfl
            simp -implicitDefEqProofs -dsimp only [go_sem,↓reduceIte,zE,zB,zA,zM,zS,zL,reduceCtorEq,f0,f7,f16,f36,f37,f38,fits,hLs.len,hRs.len,dl,dr,inOrder_one]
            intros
            refine appV_own hown' (by rw [hzs.len,List.length_map,List.length_take]; omega) (hsub.trans (hsub8.trans hsub10)) rfl (by simp [fits,IV.one]) (by simp only; omega) (by omega) fun tg2 st6 hown2 hsub4 _ => ?_
            simp -implicitDefEqProofs -dsimp only [go_sem,↓reduceIte,zE,zB,zA,zM,zS,zL,reduceCtorEq,f0,f7,f16,f36,f37,f38,fits,w_succ hlt (show ad.length ≤ 281474976710656 by omega)]
            refine ⟨by rw [take_get ha,List.all_append,hall]; simp [hok],tg2,_,rfl,?_,hown2,hsub4⟩
            rw [take_get ha,List.map_append]
            exact hzs.append ⟨_,_,rfl,⟨_,_,_,_,rfl,tL,hLs,hown10.es,hRs⟩,rfl⟩
          · have dr:decide ((64:Int) < (((itemI ca s a).r.length:Nat):Int)) = true:=decide_eq_true (by omega)
            simp -implicitDefEqProofs -dsimp only [go_sem,↓reduceIte,zE,zB,zA,zM,zS,zL,reduceCtorEq,f0,f7,f16,f36,f37,f38,fits,hLs.len,hRs.len,dl,dr]
            intros
            refine outK_sub (hsub.trans (hsub8.trans hsub10)) ?_
            rw [hallA (by unfold okI; rw [decide_eq_false hr64,Bool.and_false])]
            exact ⟨_,_,rfl,.inl rfl,rfl,rfl⟩
        · have dl:decide ((64:Int) < (((itemI ca s a).l.length:Nat):Int)) = true:=decide_eq_true (by omega)
          simp -implicitDefEqProofs -dsimp only [go_sem,↓reduceIte,zE,zB,zA,zM,zS,zL,reduceCtorEq,f0,f7,f16,f36,f37,f38,fits,hLs.len,hRs.len,dl]
          intros
          refine outK_sub (hsub.trans (hsub8.trans hsub10)) ?_
          rw [hallA (by unfold okI; rw [decide_eq_false hl64,Bool.false_and])]
          exact ⟨_,_,rfl,.inl rfl,rfl,rfl⟩
    · rintro fr st1 _ ⟨hall,⟨tgo,zs,f16,hzs,hown,hsub⟩,f0,f7,f36,f37,f38,rfl⟩
      rw [List.take_length] at hall hzs
      simp -implicitDefEqProofs -dsimp only [go_sem,↓reduceIte,zE,zB,zA,zM,zS,zL,reduceCtorEq,f16,f37,f38,nlt_i (Nat.lt_irrefl _),fits]
      rw [if_pos hall]
      exact outK_sub hsub ⟨_,_,rfl,hown.es,hzs,rfl⟩
  · have d0:decide ((er:Int) = 0) = false:=decide_eq_false (by omega)
    simp -implicitDefEqProofs -dsimp only [go_sem,↓reduceIte,zE,zB,zA,zM,zS,zL,reduceCtorEq,d0,fits]
    rw [if_pos h0]
    exact outK_self ⟨_,_,rfl,.inl rfl,rfl,rfl⟩
noncomputable def AddedS (ca rule:Nat) (main:Fm) (term:Tm) (name:ByteArray):List Sq × Nat :=
  if !knownB ca then ([],2) else match rowS ca rule with
    | none => ([],191)
    | some r => addsS ca rule r main term name
theorem Added_c (G:Gl gl) (T:Gt gl) (ca rule:Nat) (main:Fm) (y:IV) (hy:IsFm main y) (hm:main.size ≤ 1000000) (term:Tm) (z:IV) (hz:IsTm term z) (ht:term.size ≤ 1000000) (name:ByteArray) (st:ISt) :
    ICall prog gl 38 [.raw (.int .u8 ca),.raw (.int .u8 rule),y,z,.raw (.string name)] st (AdR st (AddedS ca rule main term name)):=by
  have hA:=fun r hr st => adds_c gl G T ca rule r hr main y hy hm term z hz ht name st
  have hkn:=fun st => known_c gl ca st
  obtain ⟨o3,n3,t3,x3,t4,x4,rfl⟩:=hy.agg
  obtain ⟨v,un,tz,xz,rfl⟩:=tmAgg hz
  unfold AddedS
  refine ICall.intro (c:=cf prog gl [] []) func38 rfl (by show _ ≤ 34; simp) (by kernel_rfl) ?_
  simp -implicitDefEqProofs -dsimp only [go_sem,↓reduceIte,zE,zB,zA,zM,zS,zL,reduceCtorEq,fits]
  refine (hkn _).mono ?_
  rintro _ st ⟨rfl,rfl⟩
  cases hk:knownB ca
  · simp -implicitDefEqProofs -dsimp only [go_sem,↓reduceIte,zE,zB,zA,zM,zS,zL,reduceCtorEq,fits]
    exact outK_self ⟨_,_,rfl,.inl rfl,rfl,rfl⟩
  simp -implicitDefEqProofs -dsimp only [go_sem,↓reduceIte,zE,zB,zA,zM,zS,zL,reduceCtorEq,fits]
  refine (rules_c gl ca _).mono ?_
  rintro _ _ ⟨b,hb,rfl,rfl⟩
  cases hr:rowS ca rule with
  | none =>
    simp -implicitDefEqProofs -dsimp only [go_sem,↓reduceIte,zE,zB,zA,zM,zS,zL,reduceCtorEq,ISt.put_same,rulesE_find,hr,Option.map_none,lookI_none,fits]
    exact outK_sub (subSt_put hb) ⟨_,_,rfl,.inl rfl,rfl,rfl⟩
  | some r =>
    have hcall:=hA r hr
    obtain ⟨rl,rr,op,asks⟩:=r
    simp -implicitDefEqProofs -dsimp only [go_sem,↓reduceIte,zE,zB,zA,zM,zS,zL,reduceCtorEq,ISt.put_same,rulesE_find,hr,Option.map_some,lookI_some,rwI,fits]
    refine (hcall _).mono ?_
    rintro _ _ ⟨tg,xs,rfl,he,hxs,rfl⟩
    simp -implicitDefEqProofs -dsimp only [go_sem,↓reduceIte,zE,zB,zA,zM,zS,zL,reduceCtorEq,fits]
    exact outK_sub (subSt_put hb) ⟨_,_,rfl,he,hxs,rfl⟩
end Go.Proofs.Tryz

namespace Go.Proofs.Tryz
open Go Go.Iv
set_option maxRecDepth 4000
variable (gl:Nat → Option IV)

theorem q_p (n:ByteArray) (t:Tag) (xs:List IV) (st:ISt):ICall prog gl 42 [.raw (.string n),.sl t xs] st (fun r st' => r = .agg [.raw (.int .u8 1),.raw (.string n),.sl t xs,.sl ⟨true,.nil,0⟩ []] ∧ st' = st):=by
  refine ICall.intro (c:=cf prog gl [] []) func42 rfl (by show _ ≤ 8; simp) (by kernel_rfl) ?_
  simp -implicitDefEqProofs -dsimp only [go_sem,↓reduceIte,zE,zB,zA,zM,zS,zL,reduceCtorEq,fits]
  exact outK_self ⟨rfl,rfl⟩
theorem q_no (o:Int) (n:ByteArray) (t:Tag) (x:List IV) (t':Tag) (x':List IV) (st:ISt):ICall prog gl 41 [.agg [.raw (.int .u8 o),.raw (.string n),.sl t x,.sl t' x']] st
    (fun r st' => r = .agg [.raw (.int .u8 3),.raw (.string ⟨#[]⟩),.sl ⟨true,.nil,0⟩ [],.sl ⟨true,.full,4⟩ [.agg [.raw (.int .u8 o),.raw (.string n),.sl t x,.sl t' x']]] ∧ st' = st):=by
  refine ICall.intro (c:=cf prog gl [] []) func41 rfl (by show _ ≤ 6; simp) (by kernel_rfl) ?_
  simp -implicitDefEqProofs -dsimp only [go_sem,↓reduceIte,zE,zB,zA,zM,zS,zL,reduceCtorEq,fits,inOrder_one]
  exact outK_self ⟨rfl,rfl⟩
theorem q_two (op o:Int) (n:ByteArray) (t:Tag) (x:List IV) (t':Tag) (x':List IV) (o2:Int) (n2:ByteArray) (t2:Tag) (x2:List IV) (t2':Tag) (x2':List IV) (st:ISt) :
    ICall prog gl 46 [.raw (.int .u8 op),.agg [.raw (.int .u8 o),.raw (.string n),.sl t x,.sl t' x'],.agg [.raw (.int .u8 o2),.raw (.string n2),.sl t2 x2,.sl t2' x2']] st
    (fun r st' => r = .agg [.raw (.int .u8 op),.raw (.string ⟨#[]⟩),.sl ⟨true,.nil,0⟩ [],.sl ⟨true,.full,4⟩ [.agg [.raw (.int .u8 o),.raw (.string n),.sl t x,.sl t' x'],.agg [.raw (.int .u8 o2),.raw (.string n2),.sl t2 x2,.sl t2' x2']]] ∧ st' = st):=by
  refine ICall.intro (c:=cf prog gl [] []) func46 rfl (by show _ ≤ 12; simp) (by kernel_rfl) ?_
  simp -implicitDefEqProofs -dsimp only [go_sem,↓reduceIte,zE,zB,zA,zM,zS,zL,reduceCtorEq,fits,inOrder_2]
  exact outK_self ⟨rfl,rfl⟩
theorem q_fs (t:Tag) (xs:List IV) (st:ISt):ICall prog gl 24 [.sl t xs] st (fun r st' => r = .sl t xs ∧ st' = st):=by
  refine ICall.intro (c:=cf prog gl [] []) func24 rfl (by show _ ≤ 4; simp) (by kernel_rfl) ?_
  simp -implicitDefEqProofs -dsimp only [go_sem,↓reduceIte,zE,zB,zA,zM,zS,zL,reduceCtorEq,fits]
  exact outK_self ⟨rfl,rfl⟩
theorem q_sq (t:Tag) (xs:List IV) (t':Tag) (ys:List IV) (st:ISt):ICall prog gl 26 [.sl t xs,.sl t' ys] st (fun r st' => r = .agg [.sl t xs,.sl t' ys] ∧ st' = st):=by
  refine ICall.intro (c:=cf prog gl [] []) func26 rfl (by show _ ≤ 8; simp) (by kernel_rfl) ?_
  simp -implicitDefEqProofs -dsimp only [go_sem,↓reduceIte,zE,zB,zA,zM,zS,zL,reduceCtorEq,fits]
  exact outK_self ⟨rfl,rfl⟩
theorem q_v (n:ByteArray) (st:ISt):ICall prog gl 58 [.raw (.string n)] st (fun r st' => r = .agg [.raw (.bool true),.raw (.string n),.sl ⟨true,.nil,0⟩ []] ∧ st' = st):=by
  refine ICall.intro (c:=cf prog gl [] []) func58 rfl (by show _ ≤ 5; simp) (by kernel_rfl) ?_
  simp -implicitDefEqProofs -dsimp only [go_sem,↓reduceIte,zE,zB,zA,zM,zS,zL,reduceCtorEq,fits]
  exact outK_self ⟨rfl,rfl⟩
end Go.Proofs.Tryz
