/- Walks: replace, replaced, SequentPuts.
   From a row's reading to ideal values, part 7: sequents and trees. -/
import Derived.Test.YtckafgnkmnichaaGreatDoorQH
import Derived.Test.YtckafgnkmnichaaGreatDoorQI
import Derived.Test.YtckafgnkmnichaaGreatDoorKE
set_option linter.all false
open Nat renaming reduceEqDiff → zE,reduceBEq → zB,reduceAdd → zA,reduceMul → zM,reduceSub → zS,reduceLeDiff → zL
attribute [local go_sem] Go.Iv.cf Go.Iv.setAt List.all_cons List.all_nil Bool.and_self Bool.true_and Bool.and_true Bool.false_and Bool.and_false Bool.not_true Bool.not_false List.mem_nil_iff if_false if_true beq_self_eq_true Nat.zero_add Nat.add_zero List.getElem?_cons_zero List.getElem?_cons_succ Option.map_some List.mem_cons or_false false_or or_true true_or Nat.sub_zero forall_const Int.toNat_natCast List.length_cons List.length_nil List.map_cons List.map_nil List.take_succ_cons List.take_zero List.drop_zero List.drop_succ_cons List.cons_append List.nil_append List.append_nil and_true true_and and_self true_implies List.zip_cons_cons List.zip_nil_left
namespace Go.Proofs.Tryz
open Go Go.Iv
set_option maxRecDepth 4000
variable (gl:Nat → Option IV)

section
variable (nm:ByteArray) (g:Fm)
theorem one_le_size:∀ f:Fm,1 ≤ f.size
  | .mk _ _ _ _ => by simp only [Fm.size]; omega
mutual
theorem rep_size:∀ f:Fm,(repF nm g f).size ≤ f.size * g.size
  | .mk o n us sub => by
    have h1:=one_le_size g
    simp only [repF]
    split
    · simp only [Fm.size]
      exact Nat.le_mul_of_pos_left _ (by omega)
    · have:=reps_size sub
      simp only [Fm.size]
      rw [Nat.add_mul,Nat.add_mul]
      have h2:sizeTms us ≤ sizeTms us * g.size:=Nat.le_mul_of_pos_right _ (by omega)
      omega
theorem reps_size:∀ l:List Fm,sizeFms (repFs nm g l) ≤ sizeFms l * g.size
  | [] => by simp [repFs,sizeFms]
  | a :: l => by
    have:=rep_size a
    have:=reps_size l
    simp only [repFs,sizeFms]
    rw [Nat.add_mul]
    omega
end
theorem repFs_take {l:List Fm} {k:Nat} {a:Fm} (h:l[k]? = some a):repFs nm g (l.take (k + 1)) = repFs nm g (l.take k) ++ [repF nm g a]:=by
  rw [take_get h,repFs_append]; rfl
theorem repTs_append:∀ l m:List Tr,repTs nm g (l ++ m) = repTs nm g l ++ repTs nm g m
  | [],m => rfl
  | a :: l,m => by simp only [List.cons_append,repTs,repTs_append l m]
theorem repTs_take {l:List Tr} {k:Nat} {a:Tr} (h:l[k]? = some a):repTs nm g (l.take (k + 1)) = repTs nm g (l.take k) ++ [repT nm g a]:=by
  rw [take_get h,repTs_append]; rfl
theorem rightTs_append:∀ l m:List Tr,rightTs (l ++ m) = (rightTs l && rightTs m)
  | [],m => by simp [rightTs]
  | a :: l,m => by simp only [List.cons_append,rightTs,rightTs_append l m,Bool.and_assoc]
end
theorem rpOne {a:Tr} {x:IV} (h:IsTr a x):IsTrs [a] [x]:=by simp only [IsTrs]; exact ⟨x,[],rfl,h,rfl⟩
def rpC (nm:ByteArray) (g:Fm) (xg:IV) (f:Fm):Prop:=∀ (x:IV) (_:IsFm f x) (_:f.size ≤ 1099511627776) (st:ISt),ICall prog gl 77 [x,.raw (.string nm),xg] st (fun r st' => IsFm (repF nm g f) r ∧ st' = st)
theorem replace_step (nm:ByteArray) (g:Fm) (xg:IV) (hg:IsFm g xg) (hgs:g.size ≤ 1099511627776) (o:Nat) (n:ByteArray) (us:List Tm) (sub:List Fm) (IH:∀ a ∈ sub,rpC gl nm g xg a):rpC gl nm g xg (.mk o n us sub):=by
  intro x hx hs st
  have hcg:=fun st => kCopyForm_c gl g xg hg hgs st
  obtain ⟨t1,x1,t2,x2,rfl,ho,e1,i1,e2,i2⟩:=hx.mk
  obtain ⟨o9,n9,t9,x9,t8,x8,rfl⟩:=hg.agg
  simp only [Fm.size] at hs
  have hlsz:=flen_le_size sub
  have d1:decide (((o:Nat):Int) = 1) = decide (o = 1):=by rw [decide_eq_decide]; omega
  have d2:decide (((us.length:Nat):Int) = 0) = decide (us.length = 0):=by rw [decide_eq_decide]; omega
  refine ICall.intro (c:=cf prog gl [] []) func77 rfl (by show _ ≤ 49; simp) (by kernel_rfl) ?_
  by_cases hc:o = 1 ∧ n = nm ∧ us.length = 0
  · obtain ⟨c1,c2,c3⟩:=hc
    have hrr:repF nm g (.mk o n us sub) = g:=by
      simp only [repF]
      rw [if_pos ⟨c1,c2,c3⟩]
    rw [hrr]
    simp -implicitDefEqProofs -dsimp only [go_sem,↓reduceIte,zE,zB,zA,zM,zS,zL,reduceCtorEq,fits,i1.len,d1,d2,c1,c2,c3,decide_true,show decide (((1:Nat):Int) = 1) = true from rfl,show decide (((0:Nat):Int) = 0) = true from rfl]
    intros
    refine (hcg _).mono ?_
    rintro r _ ⟨hr,rfl⟩
    obtain ⟨o7,n7,t7,x7,t6,x6,rfl⟩:=IsFmD.aggs hr
    simp -implicitDefEqProofs -dsimp only [go_sem,↓reduceIte,zE,zB,zA,zM,zS,zL,reduceCtorEq,fits]
    exact outK_self ⟨hr.1,rfl⟩
  have hrep:repF nm g (.mk o n us sub) = .mk o n us (repFs nm g sub):=by
    simp only [repF]
    rw [if_neg hc]
  rw [hrep]
  have hcond:∀ b1 b2 b3:Bool,b1 = decide (o = 1) → b2 = decide (n = nm) → b3 = decide (us.length = 0) → (b1 && b2 && b3) = false:=by
    rintro _ _ _ rfl rfl rfl
    simp only [Bool.and_eq_false_iff,decide_eq_false_iff_not]
    by_cases q1:o = 1
    · by_cases q2:n = nm
      · exact .inr fun q3 => hc ⟨q1,q2,q3⟩
      · exact .inl (.inr q2)
    · exact .inl (.inl q1)
  cases q1:decide (o = 1)
  · simp -implicitDefEqProofs -dsimp only [go_sem,↓reduceIte,zE,zB,zA,zM,zS,zL,reduceCtorEq,fits,i1.len,d1,d2,q1]
    refine LoopC.ctr sub.length (fun k fr st' ds => (∃ tg' ys,fr 7 = .box [.raw (.int .u8 o),.raw (.string n),.sl t1 x1,.sl tg' ys] ∧ IsFms (repFs nm g (sub.take k)) ys ∧ own st' tg' k 4 st ∧ subSt st st') ∧
      fr 1 = .iv (.raw (.string nm)) ∧ fr 3 = .box [.raw (.int .u8 o),.raw (.string n),.sl t1 x1,.sl t2 x2] ∧ fr 5 = .box [.raw (.int .u8 o9),.raw (.string n9),.sl t9 x9,.sl t8 x8] ∧ fr 6 = .box [.raw (.int .u8 0),.raw (.string ⟨#[]⟩),.sl ⟨true,.nil,0⟩ [],.sl ⟨true,.nil,0⟩ []] ∧ fr 8 = .iv (.raw (.int .i64 k)) ∧ ds = []) ?_ ?_ ?_
    · simp -implicitDefEqProofs -dsimp only [go_sem,↓reduceIte,zE,zB,zA,zM,zS,zL,reduceCtorEq]
      exact ⟨⟨_,_,rfl,rfl,own.nil _ _ _ _ _,subSt.refl _⟩,rfl⟩
    · rintro k fr st1 _ hlt ⟨⟨tg',ys,f7,hys,hown,hsub⟩,f1,f3,f5,f6,f8,rfl⟩
      obtain ⟨a,ha⟩:=get_of_lt hlt
      have ham:=List.mem_of_getElem? ha
      obtain ⟨x,hkx,hx⟩:=i2.get ha
      obtain ⟨h1,h2⟩:=sizeFms_take ha
      have hlen2:ys.length = k:=by rw [hys.len,repFs_len,List.length_take]; omega
      have hcall:=IH a ham x hx (by omega) st1
      obtain ⟨o5,n5,t5,x5,t6,x6,rfl⟩:=hx.agg
      simp -implicitDefEqProofs -dsimp only [go_sem,↓reduceIte,zE,zB,zA,zM,zS,zL,reduceCtorEq,f1,f3,f5,f6,f7,f8,i2.len,lt_i hlt,reTag_es e2,Int.natCast_nonneg,hkx,fits]
      intro _
      refine hcall.mono ?_
      rintro r _ ⟨hr,rfl⟩
      have hn:IsFms (repFs nm g (sub.take (k + 1))) (ys ++ [r]):=by
        rw [repFs_take nm g ha]; exact hys.append (IsFms.one hr)
      obtain ⟨o7,n7,t7,x7,t8',x8',rfl⟩:=hr.agg
      simp -implicitDefEqProofs -dsimp only [go_sem,↓reduceIte,zE,zB,zA,zM,zS,zL,reduceCtorEq,f1,f3,f5,f6,f7,f8,fits,inOrder_one]
      refine appV_ownD hown hlen2 hsub rfl (by simp [fits,IV.one]) (by simp only; omega) (by omega) fun tg2 st4 hown2 hsub4 _ hap2 => ?_
      simp -implicitDefEqProofs -dsimp only [go_sem,↓reduceIte,zE,zB,zA,zM,zS,zL,reduceCtorEq,f1,f3,f5,f6,f7,f8,fits,w_succ hlt (show sub.length ≤ 281474976710656 by omega)]
      exact ⟨tg2,_,rfl,hn,hown2,hsub4⟩
    · rintro fr st1 _ ⟨⟨tg',ys,f7,hys,hown,hsub⟩,f1,f3,f5,f6,f8,rfl⟩
      rw [List.take_length] at hys
      simp -implicitDefEqProofs -dsimp only [go_sem,↓reduceIte,zE,zB,zA,zM,zS,zL,reduceCtorEq,f1,f3,f5,f6,f7,f8,i2.len,nlt_i (Nat.lt_irrefl _),fits]
      intro _
      exact outK_sub (st':=st) hsub ⟨⟨_,_,_,_,rfl,ho,e1,i1,hown.es,hys⟩,rfl⟩
  cases q2:decide (n = nm)
  · simp -implicitDefEqProofs -dsimp only [go_sem,↓reduceIte,zE,zB,zA,zM,zS,zL,reduceCtorEq,fits,i1.len,d1,d2,q1,q2]
    refine LoopC.ctr sub.length (fun k fr st' ds => (∃ tg' ys,fr 7 = .box [.raw (.int .u8 o),.raw (.string n),.sl t1 x1,.sl tg' ys] ∧ IsFms (repFs nm g (sub.take k)) ys ∧ own st' tg' k 4 st ∧ subSt st st') ∧
      fr 1 = .iv (.raw (.string nm)) ∧ fr 3 = .box [.raw (.int .u8 o),.raw (.string n),.sl t1 x1,.sl t2 x2] ∧ fr 5 = .box [.raw (.int .u8 o9),.raw (.string n9),.sl t9 x9,.sl t8 x8] ∧ fr 6 = .box [.raw (.int .u8 0),.raw (.string ⟨#[]⟩),.sl ⟨true,.nil,0⟩ [],.sl ⟨true,.nil,0⟩ []] ∧ fr 8 = .iv (.raw (.int .i64 k)) ∧ ds = []) ?_ ?_ ?_
    · simp -implicitDefEqProofs -dsimp only [go_sem,↓reduceIte,zE,zB,zA,zM,zS,zL,reduceCtorEq]
      exact ⟨⟨_,_,rfl,rfl,own.nil _ _ _ _ _,subSt.refl _⟩,rfl⟩
    · rintro k fr st1 _ hlt ⟨⟨tg',ys,f7,hys,hown,hsub⟩,f1,f3,f5,f6,f8,rfl⟩
      obtain ⟨a,ha⟩:=get_of_lt hlt
      have ham:=List.mem_of_getElem? ha
      obtain ⟨x,hkx,hx⟩:=i2.get ha
      obtain ⟨h1,h2⟩:=sizeFms_take ha
      have hlen2:ys.length = k:=by rw [hys.len,repFs_len,List.length_take]; omega
      have hcall:=IH a ham x hx (by omega) st1
      obtain ⟨o5,n5,t5,x5,t6,x6,rfl⟩:=hx.agg
      simp -implicitDefEqProofs -dsimp only [go_sem,↓reduceIte,zE,zB,zA,zM,zS,zL,reduceCtorEq,f1,f3,f5,f6,f7,f8,i2.len,lt_i hlt,reTag_es e2,Int.natCast_nonneg,hkx,fits]
      intro _
      refine hcall.mono ?_
      rintro r _ ⟨hr,rfl⟩
      have hn:IsFms (repFs nm g (sub.take (k + 1))) (ys ++ [r]):=by
        rw [repFs_take nm g ha]; exact hys.append (IsFms.one hr)
      obtain ⟨o7,n7,t7,x7,t8',x8',rfl⟩:=hr.agg
      simp -implicitDefEqProofs -dsimp only [go_sem,↓reduceIte,zE,zB,zA,zM,zS,zL,reduceCtorEq,f1,f3,f5,f6,f7,f8,fits,inOrder_one]
      refine appV_ownD hown hlen2 hsub rfl (by simp [fits,IV.one]) (by simp only; omega) (by omega) fun tg2 st4 hown2 hsub4 _ hap2 => ?_
      simp -implicitDefEqProofs -dsimp only [go_sem,↓reduceIte,zE,zB,zA,zM,zS,zL,reduceCtorEq,f1,f3,f5,f6,f7,f8,fits,w_succ hlt (show sub.length ≤ 281474976710656 by omega)]
      exact ⟨tg2,_,rfl,hn,hown2,hsub4⟩
    · rintro fr st1 _ ⟨⟨tg',ys,f7,hys,hown,hsub⟩,f1,f3,f5,f6,f8,rfl⟩
      rw [List.take_length] at hys
      simp -implicitDefEqProofs -dsimp only [go_sem,↓reduceIte,zE,zB,zA,zM,zS,zL,reduceCtorEq,f1,f3,f5,f6,f7,f8,i2.len,nlt_i (Nat.lt_irrefl _),fits]
      intro _
      exact outK_sub (st':=st) hsub ⟨⟨_,_,_,_,rfl,ho,e1,i1,hown.es,hys⟩,rfl⟩
  cases q3:decide (us.length = 0)
  · simp -implicitDefEqProofs -dsimp only [go_sem,↓reduceIte,zE,zB,zA,zM,zS,zL,reduceCtorEq,fits,i1.len,d1,d2,q1,q2,q3]
    intros
    refine LoopC.ctr sub.length (fun k fr st' ds => (∃ tg' ys,fr 7 = .box [.raw (.int .u8 o),.raw (.string n),.sl t1 x1,.sl tg' ys] ∧ IsFms (repFs nm g (sub.take k)) ys ∧ own st' tg' k 4 st ∧ subSt st st') ∧
      fr 1 = .iv (.raw (.string nm)) ∧ fr 3 = .box [.raw (.int .u8 o),.raw (.string n),.sl t1 x1,.sl t2 x2] ∧ fr 5 = .box [.raw (.int .u8 o9),.raw (.string n9),.sl t9 x9,.sl t8 x8] ∧ fr 6 = .box [.raw (.int .u8 0),.raw (.string ⟨#[]⟩),.sl ⟨true,.nil,0⟩ [],.sl ⟨true,.nil,0⟩ []] ∧ fr 8 = .iv (.raw (.int .i64 k)) ∧ ds = []) ?_ ?_ ?_
    · simp -implicitDefEqProofs -dsimp only [go_sem,↓reduceIte,zE,zB,zA,zM,zS,zL,reduceCtorEq]
      exact ⟨⟨_,_,rfl,rfl,own.nil _ _ _ _ _,subSt.refl _⟩,rfl⟩
    · rintro k fr st1 _ hlt ⟨⟨tg',ys,f7,hys,hown,hsub⟩,f1,f3,f5,f6,f8,rfl⟩
      obtain ⟨a,ha⟩:=get_of_lt hlt
      have ham:=List.mem_of_getElem? ha
      obtain ⟨x,hkx,hx⟩:=i2.get ha
      obtain ⟨h1,h2⟩:=sizeFms_take ha
      have hlen2:ys.length = k:=by rw [hys.len,repFs_len,List.length_take]; omega
      have hcall:=IH a ham x hx (by omega) st1
      obtain ⟨o5,n5,t5,x5,t6,x6,rfl⟩:=hx.agg
      simp -implicitDefEqProofs -dsimp only [go_sem,↓reduceIte,zE,zB,zA,zM,zS,zL,reduceCtorEq,f1,f3,f5,f6,f7,f8,i2.len,lt_i hlt,reTag_es e2,Int.natCast_nonneg,hkx,fits]
      intro _
      refine hcall.mono ?_
      rintro r _ ⟨hr,rfl⟩
      have hn:IsFms (repFs nm g (sub.take (k + 1))) (ys ++ [r]):=by
        rw [repFs_take nm g ha]; exact hys.append (IsFms.one hr)
      obtain ⟨o7,n7,t7,x7,t8',x8',rfl⟩:=hr.agg
      simp -implicitDefEqProofs -dsimp only [go_sem,↓reduceIte,zE,zB,zA,zM,zS,zL,reduceCtorEq,f1,f3,f5,f6,f7,f8,fits,inOrder_one]
      refine appV_ownD hown hlen2 hsub rfl (by simp [fits,IV.one]) (by simp only; omega) (by omega) fun tg2 st4 hown2 hsub4 _ hap2 => ?_
      simp -implicitDefEqProofs -dsimp only [go_sem,↓reduceIte,zE,zB,zA,zM,zS,zL,reduceCtorEq,f1,f3,f5,f6,f7,f8,fits,w_succ hlt (show sub.length ≤ 281474976710656 by omega)]
      exact ⟨tg2,_,rfl,hn,hown2,hsub4⟩
    · rintro fr st1 _ ⟨⟨tg',ys,f7,hys,hown,hsub⟩,f1,f3,f5,f6,f8,rfl⟩
      rw [List.take_length] at hys
      simp -implicitDefEqProofs -dsimp only [go_sem,↓reduceIte,zE,zB,zA,zM,zS,zL,reduceCtorEq,f1,f3,f5,f6,f7,f8,i2.len,nlt_i (Nat.lt_irrefl _),fits]
      intro _
      exact outK_sub (st':=st) hsub ⟨⟨_,_,_,_,rfl,ho,e1,i1,hown.es,hys⟩,rfl⟩
  · have:=hcond _ _ _ q1.symm q2.symm q3.symm
    cases this
theorem replace_all (nm:ByteArray) (g:Fm) (xg:IV) (hg:IsFm g xg) (hgs:g.size ≤ 1099511627776):∀ (k:Nat) (f:Fm),SizeOf.sizeOf f < k → rpC gl nm g xg f
  | 0,f,h => by omega
  | k + 1,.mk o n us sub,h => replace_step gl nm g xg hg hgs o n us sub (fun a ha => replace_all nm g xg hg hgs k a (by
      have:=List.sizeOf_lt_of_mem ha
      simp only [Fm.mk.sizeOf_spec] at h
      omega))
theorem replace_c (nm:ByteArray) (g:Fm) (xg:IV) (hg:IsFm g xg) (hgs:g.size ≤ 1099511627776) (f:Fm):rpC gl nm g xg f:=replace_all gl nm g xg hg hgs _ f (Nat.lt_succ_self _)

def rdC (nm:ByteArray) (g:Fm) (xg:IV) (t:Tr):Prop:=∀ (x:IV) (_:IsTr t x) (_:okT t = true) (_:t.steps ≤ 1000) (st:ISt),
  ICall prog gl 28 [x,.raw (.string nm),xg] st (fun r st' => (∃ y,r = .tup [y,.raw (.bool (rightT (repT nm g t)))] ∧ IsTr (repT nm g t) y) ∧ st' = st)
set_option maxHeartbeats 1000000 in
theorem replaced_step (G:Gl gl) (nm:ByteArray) (g:Fm) (xg:IV) (hg:IsFm g xg) (hgs:g.size ≤ 20) (rule:Nat) (s:Sq) (m:Fm) (u:Tm) (n:ByteArray) (sub:List Tr) (IH:∀ a ∈ sub,rdC gl nm g xg a):rdC gl nm g xg (.mk rule s m u n sub):=by
  intro x hx hok hst st
  have hrep:=fun f x hx hs st => replace_c gl nm g xg hg (by omega) f x hx hs st
  obtain ⟨tl,xl,tr,xr,op,fn,ta,xa,tb,xb,v,un,tu,xu,ts,xs,rfl,hru,e1,i1,e2,i2,hy,hz,e3,i3⟩:=hx.mk
  obtain ⟨o9,n9,t9,x9,t8,x8,rfl⟩:=hg.agg
  simp only [Tr.steps] at hst
  have hlsub:=len_le_steps sub
  have hok2:okTs sub = true:=by
    simp only [okT,Bool.and_eq_true] at hok
    exact hok.2
  have hnode:wFms s.l + wFms s.r ≤ 300 ∧ wFm m ≤ 300:=by
    simp only [okT,Bool.and_eq_true] at hok
    exact ⟨(nodeB_true hok.1).1,(nodeB_true hok.1).2.1⟩
  have hql:=size_wFms s.l
  have hqr:=size_wFms s.r
  have hqm:=size_wFm m
  have hll:=flen_le_size s.l
  have hlr:=flen_le_size s.r
  have hrsm:=rep_size nm g m
  have hmul0:m.size * g.size ≤ 300 * 20:=Nat.mul_le_mul (by omega) hgs
  refine ICall.intro (c:=cf prog gl [] [(1,[0,1,2,3,4,5,7,8,9,10,12,6,11,13]),(16,[0,1,2,3,4,5,6,11,7,8,9,10,12,13])]) func28 rfl (by show _ ≤ 128; simp) (by kernel_rfl) ?_
  simp -implicitDefEqProofs -dsimp only [go_sem,↓reduceIte,zE,zB,zA,zM,zS,zL,reduceCtorEq,fits]
  refine (hrep m _ hy (by omega) _).mono ?_
  rintro rm st ⟨hmr,rfl⟩
  have hRm:=fun st => Right_c gl G _ rm hmr st (by omega)
  obtain ⟨o2,n2,ta2,xa2,tb2,xb2,rfl⟩:=hmr.agg
  simp -implicitDefEqProofs -dsimp only [go_sem,↓reduceIte,zE,zB,zA,zM,zS,zL,reduceCtorEq,fits]
  refine (hRm _).mono ?_
  rintro _ st ⟨rfl,rfl⟩
  simp -implicitDefEqProofs -dsimp only [go_sem,↓reduceIte,zE,zB,zA,zM,zS,zL,reduceCtorEq,fits]
  refine LoopC.ctr s.l.length (fun k fr st' ds => (∃ tg' ys,fr 8 = .box [.raw (.int .u8 rule),.sl tg' ys,.sl ⟨true,.nil,0⟩ [],.raw (.int .u8 o2),.raw (.string n2),.sl ta2 xa2,.sl tb2 xb2,.raw (.bool v),.raw (.string un),.sl tu xu,.raw (.string n),.sl ⟨true,.nil,0⟩ []] ∧ IsFms (repFs nm g (s.l.take k)) ys ∧ own st' tg' k 4 st ∧ subSt st st') ∧
    fr 9 = .iv (.raw (.bool ((repF nm g m).right && (repFs nm g (s.l.take k)).all Fm.right))) ∧ fr 1 = .iv (.raw (.string nm)) ∧ fr 3 = .box [.raw (.int .u8 rule),.sl tl xl,.sl tr xr,.raw (.int .u8 op),.raw (.string fn),.sl ta xa,.sl tb xb,.raw (.bool v),.raw (.string un),.sl tu xu,.raw (.string n),.sl ts xs] ∧ fr 5 = .box [.raw (.int .u8 o9),.raw (.string n9),.sl t9 x9,.sl t8 x8] ∧ fr 6 = .box [.raw (.int .u8 0),.sl ⟨true,.nil,0⟩ [],.sl ⟨true,.nil,0⟩ [],.raw (.int .u8 0),.raw (.string ⟨#[]⟩),.sl ⟨true,.nil,0⟩ [],.sl ⟨true,.nil,0⟩ [],.raw (.bool false),.raw (.string ⟨#[]⟩),.sl ⟨true,.nil,0⟩ [],.raw (.string ⟨#[]⟩),.sl ⟨true,.nil,0⟩ []] ∧ fr 10 = .iv (.raw (.int .i64 k)) ∧ ds = []) ?_ ?_ ?_
  · simp -implicitDefEqProofs -dsimp only [go_sem,↓reduceIte,zE,zB,zA,zM,zS,zL,reduceCtorEq]
    exact ⟨⟨_,_,rfl,rfl,own.nil _ _ _ _ _,subSt.refl _⟩,by simp [repFs]⟩
  · rintro k fr st1 _ hlt ⟨⟨tg',ys,f8,hys,hown,hsub⟩,f9,f1,f3,f5,f6,fc,rfl⟩
    obtain ⟨a,ha⟩:=get_of_lt hlt
    have ham:=List.mem_of_getElem? ha
    obtain ⟨x,hkx,hx⟩:=i1.get ha
    have has:a.size ≤ 300:=by have:=sizeFmsMem ham; omega
    have hrs:=rep_size nm g a
    have hmul:a.size * g.size ≤ 300 * 20:=Nat.mul_le_mul has hgs
    have hlen2:ys.length = k:=by rw [hys.len,repFs_len,List.length_take]; omega
    have hcall:=hrep a x hx (by omega) st1
    obtain ⟨o5,n5,t5,x5,t6,x6,rfl⟩:=hx.agg
    simp -implicitDefEqProofs -dsimp only [go_sem,↓reduceIte,zE,zB,zA,zM,zS,zL,reduceCtorEq,f1,f3,f5,f6,f8,f9,fc,i1.len,lt_i hlt,reTag_es e1,Int.natCast_nonneg,hkx,fits]
    intro _
    refine hcall.mono ?_
    rintro r _ ⟨hr,rfl⟩
    have hR:=fun st => Right_c gl G _ r hr st (by omega)
    have hn:IsFms (repFs nm g (s.l.take (k + 1))) (ys ++ [r]):=by
      rw [repFs_take nm g ha]; exact hys.append (IsFms.one hr)
    have hall:(repFs nm g (s.l.take (k + 1))).all Fm.right = ((repFs nm g (s.l.take k)).all Fm.right && (repF nm g a).right):=by
      rw [repFs_take nm g ha,List.all_append]; simp
    have hget:(ys ++ [r])[k]? = some r:=by rw [← hlen2,List.getElem?_append_right (Nat.le_refl _)]; simp
    obtain ⟨o7,n7,t7,x7,t8',x8',rfl⟩:=hr.agg
    simp -implicitDefEqProofs -dsimp only [go_sem,↓reduceIte,zE,zB,zA,zM,zS,zL,reduceCtorEq,f1,f3,f5,f6,f8,f9,fc,fits,inOrder_one]
    refine appV_ownD hown hlen2 hsub rfl (by simp [fits,IV.one]) (by simp only; omega) (by omega) fun tg2 st4 hown2 hsub4 _ hap2 => ?_
    cases hok:((repF nm g m).right && (repFs nm g (s.l.take k)).all Fm.right)
    · rw [hok] at f9
      simp -implicitDefEqProofs -dsimp only [go_sem,↓reduceIte,zE,zB,zA,zM,zS,zL,reduceCtorEq,f1,f3,f5,f6,f8,f9,fc,fits,w_succ hlt (show s.l.length ≤ 281474976710656 by omega)]
      refine ⟨⟨tg2,_,rfl,hn,hown2,hsub4⟩,?_⟩
      rw [hall,← Bool.and_assoc,hok]; rfl
    · rw [hok] at f9
      simp -implicitDefEqProofs -dsimp only [go_sem,↓reduceIte,zE,zB,zA,zM,zS,zL,reduceCtorEq,f1,f3,f5,f6,f8,f9,fc,fits,reTag_es hown2.es,Int.natCast_nonneg,hget]
      intros
      refine (hR _).mono ?_
      rintro _ _ ⟨rfl,rfl⟩
      simp -implicitDefEqProofs -dsimp only [go_sem,↓reduceIte,zE,zB,zA,zM,zS,zL,reduceCtorEq,f1,f3,f5,f6,f8,f9,fc,fits,w_succ hlt (show s.l.length ≤ 281474976710656 by omega)]
      refine ⟨⟨tg2,_,rfl,hn,hown2,hsub4⟩,?_⟩
      rw [hall,← Bool.and_assoc,hok]; rfl
  · rintro fr st9 _ ⟨⟨tg'1,ys1,f8,hys1,hown1,hsub1⟩,f9,f1,f3,f5,f6,fc,rfl⟩
    rw [List.take_length] at hys1 f9
    simp -implicitDefEqProofs -dsimp only [go_sem,↓reduceIte,zE,zB,zA,zM,zS,zL,reduceCtorEq,f1,f3,f5,f6,f8,f9,fc,i1.len,nlt_i (Nat.lt_irrefl _),fits]
    intro _
    refine LoopC.ctr s.r.length (fun k fr st' ds => (∃ tg' ys,fr 8 = .box [.raw (.int .u8 rule),.sl tg'1 ys1,.sl tg' ys,.raw (.int .u8 o2),.raw (.string n2),.sl ta2 xa2,.sl tb2 xb2,.raw (.bool v),.raw (.string un),.sl tu xu,.raw (.string n),.sl ⟨true,.nil,0⟩ []] ∧ IsFms (repFs nm g (s.r.take k)) ys ∧ own st' tg' k 4 st ∧ subSt st st') ∧
      fr 9 = .iv (.raw (.bool (((repF nm g m).right && (repFs nm g s.l).all Fm.right) && (repFs nm g (s.r.take k)).all Fm.right))) ∧ fr 1 = .iv (.raw (.string nm)) ∧ fr 3 = .box [.raw (.int .u8 rule),.sl tl xl,.sl tr xr,.raw (.int .u8 op),.raw (.string fn),.sl ta xa,.sl tb xb,.raw (.bool v),.raw (.string un),.sl tu xu,.raw (.string n),.sl ts xs] ∧ fr 5 = .box [.raw (.int .u8 o9),.raw (.string n9),.sl t9 x9,.sl t8 x8] ∧ fr 6 = .box [.raw (.int .u8 0),.sl ⟨true,.nil,0⟩ [],.sl ⟨true,.nil,0⟩ [],.raw (.int .u8 0),.raw (.string ⟨#[]⟩),.sl ⟨true,.nil,0⟩ [],.sl ⟨true,.nil,0⟩ [],.raw (.bool false),.raw (.string ⟨#[]⟩),.sl ⟨true,.nil,0⟩ [],.raw (.string ⟨#[]⟩),.sl ⟨true,.nil,0⟩ []] ∧ fr 11 = .iv (.raw (.int .i64 k)) ∧ ds = []) ?_ ?_ ?_
    · simp -implicitDefEqProofs -dsimp only [go_sem,↓reduceIte,zE,zB,zA,zM,zS,zL,reduceCtorEq,f1,f3,f5,f6,f8,f9,Bool.and_true,List.all_nil]
      exact ⟨⟨_,_,rfl,rfl,own.nil _ _ _ _ _,hsub1⟩,by simp [repFs]⟩
    · rintro k fr st1 _ hlt ⟨⟨tg',ys,f8,hys,hown,hsub⟩,f9,f1,f3,f5,f6,fc,rfl⟩
      obtain ⟨a,ha⟩:=get_of_lt hlt
      have ham:=List.mem_of_getElem? ha
      obtain ⟨x,hkx,hx⟩:=i2.get ha
      have has:a.size ≤ 300:=by have:=sizeFmsMem ham; omega
      have hrs:=rep_size nm g a
      have hmul:a.size * g.size ≤ 300 * 20:=Nat.mul_le_mul has hgs
      have hlen2:ys.length = k:=by rw [hys.len,repFs_len,List.length_take]; omega
      have hcall:=hrep a x hx (by omega) st1
      obtain ⟨o5,n5,t5,x5,t6,x6,rfl⟩:=hx.agg
      simp -implicitDefEqProofs -dsimp only [go_sem,↓reduceIte,zE,zB,zA,zM,zS,zL,reduceCtorEq,f1,f3,f5,f6,f8,f9,fc,i2.len,lt_i hlt,reTag_es e2,Int.natCast_nonneg,hkx,fits]
      intro _
      refine hcall.mono ?_
      rintro r _ ⟨hr,rfl⟩
      have hR:=fun st => Right_c gl G _ r hr st (by omega)
      have hn:IsFms (repFs nm g (s.r.take (k + 1))) (ys ++ [r]):=by
        rw [repFs_take nm g ha]; exact hys.append (IsFms.one hr)
      have hall:(repFs nm g (s.r.take (k + 1))).all Fm.right = ((repFs nm g (s.r.take k)).all Fm.right && (repF nm g a).right):=by
        rw [repFs_take nm g ha,List.all_append]; simp
      have hget:(ys ++ [r])[k]? = some r:=by rw [← hlen2,List.getElem?_append_right (Nat.le_refl _)]; simp
      obtain ⟨o7,n7,t7,x7,t8',x8',rfl⟩:=hr.agg
      simp -implicitDefEqProofs -dsimp only [go_sem,↓reduceIte,zE,zB,zA,zM,zS,zL,reduceCtorEq,f1,f3,f5,f6,f8,f9,fc,fits,inOrder_one]
      refine appV_ownD hown hlen2 hsub rfl (by simp [fits,IV.one]) (by simp only; omega) (by omega) fun tg2 st4 hown2 hsub4 _ hap2 => ?_
      cases hok:(((repF nm g m).right && (repFs nm g s.l).all Fm.right) && (repFs nm g (s.r.take k)).all Fm.right)
      · rw [hok] at f9
        simp -implicitDefEqProofs -dsimp only [go_sem,↓reduceIte,zE,zB,zA,zM,zS,zL,reduceCtorEq,f1,f3,f5,f6,f8,f9,fc,fits,w_succ hlt (show s.r.length ≤ 281474976710656 by omega)]
        refine ⟨⟨tg2,_,rfl,hn,hown2,hsub4⟩,?_⟩
        rw [hall,← Bool.and_assoc,hok]; rfl
      · rw [hok] at f9
        simp -implicitDefEqProofs -dsimp only [go_sem,↓reduceIte,zE,zB,zA,zM,zS,zL,reduceCtorEq,f1,f3,f5,f6,f8,f9,fc,fits,reTag_es hown2.es,Int.natCast_nonneg,hget]
        intros
        refine (hR _).mono ?_
        rintro _ _ ⟨rfl,rfl⟩
        simp -implicitDefEqProofs -dsimp only [go_sem,↓reduceIte,zE,zB,zA,zM,zS,zL,reduceCtorEq,f1,f3,f5,f6,f8,f9,fc,fits,w_succ hlt (show s.r.length ≤ 281474976710656 by omega)]
        refine ⟨⟨tg2,_,rfl,hn,hown2,hsub4⟩,?_⟩
        rw [hall,← Bool.and_assoc,hok]; rfl
    · rintro fr st9 _ ⟨⟨tg'2,ys2,f8,hys2,hown2,hsub2⟩,f9,f1,f3,f5,f6,fc,rfl⟩
      rw [List.take_length] at hys2 f9
      simp -implicitDefEqProofs -dsimp only [go_sem,↓reduceIte,zE,zB,zA,zM,zS,zL,reduceCtorEq,f1,f3,f5,f6,f8,f9,fc,i2.len,nlt_i (Nat.lt_irrefl _),fits]
      intro _
      refine LoopC.ctr sub.length (fun k fr st' ds => (∃ tg' ys,fr 8 = .box [.raw (.int .u8 rule),.sl tg'1 ys1,.sl tg'2 ys2,.raw (.int .u8 o2),.raw (.string n2),.sl ta2 xa2,.sl tb2 xb2,.raw (.bool v),.raw (.string un),.sl tu xu,.raw (.string n),.sl tg' ys] ∧ IsTrs (repTs nm g (sub.take k)) ys ∧ own st' tg' k 12 st ∧ subSt st st') ∧
        fr 9 = .iv (.raw (.bool (((repF nm g m).right && (repFs nm g s.l).all Fm.right && (repFs nm g s.r).all Fm.right) && rightTs (repTs nm g (sub.take k))))) ∧ fr 1 = .iv (.raw (.string nm)) ∧ fr 3 = .box [.raw (.int .u8 rule),.sl tl xl,.sl tr xr,.raw (.int .u8 op),.raw (.string fn),.sl ta xa,.sl tb xb,.raw (.bool v),.raw (.string un),.sl tu xu,.raw (.string n),.sl ts xs] ∧ fr 5 = .box [.raw (.int .u8 o9),.raw (.string n9),.sl t9 x9,.sl t8 x8] ∧ fr 6 = .box [.raw (.int .u8 0),.sl ⟨true,.nil,0⟩ [],.sl ⟨true,.nil,0⟩ [],.raw (.int .u8 0),.raw (.string ⟨#[]⟩),.sl ⟨true,.nil,0⟩ [],.sl ⟨true,.nil,0⟩ [],.raw (.bool false),.raw (.string ⟨#[]⟩),.sl ⟨true,.nil,0⟩ [],.raw (.string ⟨#[]⟩),.sl ⟨true,.nil,0⟩ []] ∧ fr 12 = .iv (.raw (.int .i64 k)) ∧ ds = []) ?_ ?_ ?_
      · simp -implicitDefEqProofs -dsimp only [go_sem,↓reduceIte,zE,zB,zA,zM,zS,zL,reduceCtorEq,f1,f3,f5,f6,f8,f9,Bool.and_true,List.all_nil]
        exact ⟨⟨_,_,rfl,rfl,own.nil _ _ _ _ _,hsub2⟩,by simp [repTs,rightTs]⟩
      · rintro k fr st1 _ hlt ⟨⟨tg',ys,f8,hys,hown,hsub⟩,f9,f1,f3,f5,f6,fc,rfl⟩
        obtain ⟨a,ha⟩:=get_of_lt hlt
        have ham:=List.mem_of_getElem? ha
        obtain ⟨z,hkz,hzz⟩:=i3.get ha
        have hlen2:ys.length = k:=by rw [hys.len,repTs_len,List.length_take]; omega
        have hcall:=fun st => IH a ham z hzz (okTs_mem hok2 ham) (by have:=steps_le_of_mem ham; omega) st
        obtain ⟨rule',tl',xl',tr',xr',op',fn',ta',xa',tb',xb',v',un',tu',xu',n',ts',xs',rfl⟩:=trAgg hzz
        simp -implicitDefEqProofs -dsimp only [go_sem,↓reduceIte,zE,zB,zA,zM,zS,zL,reduceCtorEq,f1,f3,f5,f6,f8,f9,fc,i3.len,lt_i hlt,reTag_es e3,Int.natCast_nonneg,hkz,fits]
        intro _
        refine (hcall _).mono ?_
        rintro _ _ ⟨⟨r,rfl,hr⟩,rfl⟩
        have hn:IsTrs (repTs nm g (sub.take (k + 1))) (ys ++ [r]):=by
          rw [repTs_take nm g ha]; exact hys.append (rpOne hr)
        have hall:rightTs (repTs nm g (sub.take (k + 1))) = (rightTs (repTs nm g (sub.take k)) && rightT (repT nm g a)):=by
          rw [repTs_take nm g ha,rightTs_append]; simp [rightTs]
        obtain ⟨rule',tl',xl',tr',xr',op',fn',ta',xa',tb',xb',v',un',tu',xu',n',ts',xs',rfl⟩:=trAgg hr
        simp -implicitDefEqProofs -dsimp only [go_sem,↓reduceIte,zE,zB,zA,zM,zS,zL,reduceCtorEq,f1,f3,f5,f6,f8,f9,fc,fits,inOrder_one]
        refine appV_ownD hown hlen2 hsub rfl (by simp [fits,IV.one]) (by simp only; omega) (by omega) fun tg2 st4 hown2 hsub4 _ hap2 => ?_
        cases hok:(((repF nm g m).right && (repFs nm g s.l).all Fm.right && (repFs nm g s.r).all Fm.right) && rightTs (repTs nm g (sub.take k)))
        · rw [hok] at f9
          simp -implicitDefEqProofs -dsimp only [go_sem,↓reduceIte,zE,zB,zA,zM,zS,zL,reduceCtorEq,f1,f3,f5,f6,f8,f9,fc,fits,w_succ hlt (show sub.length ≤ 281474976710656 by omega)]
          refine ⟨⟨tg2,_,rfl,hn,hown2,hsub4⟩,?_⟩
          rw [hall,← Bool.and_assoc,hok]; rfl
        · rw [hok] at f9
          simp -implicitDefEqProofs -dsimp only [go_sem,↓reduceIte,zE,zB,zA,zM,zS,zL,reduceCtorEq,f1,f3,f5,f6,f8,f9,fc,fits,w_succ hlt (show sub.length ≤ 281474976710656 by omega)]
          refine ⟨⟨tg2,_,rfl,hn,hown2,hsub4⟩,?_⟩
          rw [hall,← Bool.and_assoc,hok]; rfl
      · rintro fr st9 _ ⟨⟨tg',ys,f8,hys,hown,hsub⟩,f9,f1,f3,f5,f6,fc,rfl⟩
        rw [List.take_length] at hys f9
        simp -implicitDefEqProofs -dsimp only [go_sem,↓reduceIte,zE,zB,zA,zM,zS,zL,reduceCtorEq,f1,f3,f5,f6,f8,f9,fc,i3.len,nlt_i (Nat.lt_irrefl _),fits]
        intro _
        refine outK_sub (st':=st) hsub ⟨⟨_,by simp only [repT,rightT,repS]; rfl,?_⟩,rfl⟩
        simp only [repT,IsTr,repS]
        exact ⟨_,_,_,_,_,_,_,_,_,_,_,_,_,_,_,_,rfl,hru,hown1.es,hys1,hown2.es,hys2,hmr,hz,hown.es,hys⟩
theorem replaced_all (G:Gl gl) (nm:ByteArray) (g:Fm) (xg:IV) (hg:IsFm g xg) (hgs:g.size ≤ 20):∀ (k:Nat) (t:Tr),SizeOf.sizeOf t < k → rdC gl nm g xg t
  | 0,t,h => by omega
  | k + 1,.mk r sq f u n sub,h => replaced_step gl G nm g xg hg hgs r sq f u n sub (fun a ha => replaced_all G nm g xg hg hgs k a (by
      have:=List.sizeOf_lt_of_mem ha
      simp at h; omega))
theorem replaced_c (G:Gl gl) (nm:ByteArray) (g:Fm) (xg:IV) (hg:IsFm g xg) (hgs:g.size ≤ 20) (t:Tr):rdC gl nm g xg t:=replaced_all gl G nm g xg hg hgs _ t (Nat.lt_succ_self _)

theorem Sum.gt20 {w:Nat} {r:IV} (h:Sum w 20 r):∃ n:Nat,r = .raw (.int .i64 n) ∧ decide ((20:Int) < (n:Int)) = decide (20 < w):=by
  obtain ⟨n,rfl,h1,h2⟩:=h
  refine ⟨n,rfl,?_⟩
  rw [decide_eq_decide]
  constructor
  · intro h; omega
  · intro h
    rcases Int.lt_or_le 20 (n:Int) with hn | hn
    · exact hn
    · have:=h2 hn; omega
mutual
theorem NA_rep {nm:ByteArray} {g:Fm} (hg:g.size ≤ 20):∀ {t:Tr},okT t = true → NA (repT nm g t)
  | .mk rule s m u n sub,h => by
    simp only [okT,Bool.and_eq_true] at h
    obtain ⟨h1,h2,h3,_⟩:=nodeB_true h.1
    have q1:=size_wFm m
    have q2:=size_wTm u
    have q3:=size_wFms s.l
    have q4:=size_wFms s.r
    have key:∀ f:Fm,f.size ≤ 300 → (repF nm g f).size ≤ 1000000:=fun f hf => by
      have:=rep_size nm g f
      have:f.size * g.size ≤ 300 * 20:=Nat.mul_le_mul hf hg
      omega
    have keyL:∀ l:List Fm,sizeFms l ≤ 300 → fitL (repFs nm g l):=fun l hl f hf => by
      rw [repFs_map] at hf
      obtain ⟨a,ha,rfl⟩:=List.mem_map.1 hf
      exact key a (by have:=sizeFmsMem ha; omega)
    simp only [repT,NA,repS]
    exact ⟨⟨keyL _ (by omega),keyL _ (by omega)⟩,key m (by omega),by omega,NAs_rep hg h.2⟩
theorem NAs_rep {nm:ByteArray} {g:Fm} (hg:g.size ≤ 20):∀ {l:List Tr},okTs l = true → NAs (repTs nm g l)
  | [],_ => trivial
  | a :: l,h => by
    simp only [okTs,Bool.and_eq_true] at h
    simp only [repTs,NAs]
    exact ⟨NA_rep hg h.1,NAs_rep hg h.2⟩
end
mutual
theorem okT_terms:∀ {t:Tr},okT t = true → termsOk t = true
  | .mk rule s m u n sub,h => by
    simp only [okT,Bool.and_eq_true] at h
    have:=(nodeB_true h.1).2.2.1
    have:=size_wTm u
    simp only [termsOk,Bool.and_eq_true,decide_eq_true_eq]
    exact ⟨by omega,okTs_terms h.2⟩
theorem okTs_terms:∀ {l:List Tr},okTs l = true → termsOks l = true
  | [],_ => rfl
  | a :: l,h => by
    simp only [okTs,Bool.and_eq_true] at h
    simp only [termsOks,Bool.and_eq_true]
    exact ⟨okT_terms h.1,okTs_terms h.2⟩
end
theorem validB_1 {ca:Nat} {f:Fm} (h:knownB ca = true):validB ca ⟨[f],[]⟩ = fmB ca f:=by
  unfold validB
  simp [h,firstsB]
set_option maxHeartbeats 2000000 in
theorem SequentPuts_c (G:Gl gl) (T:Gt gl) (it:Bool) (t:Tr) (x:IV) (hx:IsTr t x) (hw:wTr t ≤ 1099511627776) (w:Nat) (hw8:w < 256) (g:Fm) (y:IV) (hg:IsFm g y) (hwg:wFm g ≤ 1099511627776) (st:ISt) :
    ICall prog gl 6 [.raw (.bool it),x,.raw (.int .u8 w),y] st (fun r st' => r = .raw (.bool true) ∧ st' = st):=by
  have hA:=fun st => qawake_c gl G T st
  have hS:=fun st => QSmall_c gl t x hx hw st
  have hRp:=fun nm hgs hok hst st => replaced_c gl G nm g y hg hgs t x hx hok hst st
  have hx0:=hx
  have hg0:=hg
  obtain ⟨rule,s,m,u,n,sub⟩:=t
  obtain ⟨tl,xl,tr,xr,op,fn,ta,xa,tb,xb,v,un,tu,xu,ts,xs,rfl,hru,e1,i1,e2,i2,hy,hz,e3,i3⟩:=hx.mk
  obtain ⟨o9,n9,t9,x9,t8,x8,rfl⟩:=hg.agg
  have hsz:=fun st => qsize_c gl [g] ⟨true,.full,4⟩ [.agg [.raw (.int .u8 o9),.raw (.string n9),.sl t9 x9,.sl t8 x8]] (.inr rfl) ⟨_,_,rfl,hg0,rfl⟩ 20 ⟨by omega,by omega⟩ (by simp only [wFms]; omega) st
  have inOrder_3s:∀ x y z:Operand,inOrder 3 [(0,x),(1,y),(2,z)] = true:=fun _ _ _ => rfl
  refine ICall.intro (c:=cf prog gl [] [(11,[0,1,2,3,4,5,6,11,7,8,9,10,12,13])]) func6 rfl (by show _ ≤ 67; simp) (by kernel_rfl) ?_
  simp -implicitDefEqProofs -dsimp only [go_sem,↓reduceIte,zE,zB,zA,zM,zS,zL,reduceCtorEq,fits]
  refine (hA _).mono ?_
  rintro _ st ⟨rfl,rfl⟩
  by_cases hsm:(okT (.mk rule s m u n sub) && decide ((Tr.mk rule s m u n sub).steps ≤ 60)) = true
  case neg =>
    have hsm':(okT (.mk rule s m u n sub) && decide ((Tr.mk rule s m u n sub).steps ≤ 60)) = false:=by simpa using hsm
    cases it
    · simp -implicitDefEqProofs -dsimp only [go_sem,↓reduceIte,zE,zB,zA,zM,zS,zL,reduceCtorEq,fits]
      refine (hS _).mono ?_
      rintro _ st ⟨rfl,rfl⟩
      simp -implicitDefEqProofs -dsimp only [go_sem,↓reduceIte,zE,zB,zA,zM,zS,zL,reduceCtorEq,hsm',fits]
      exact outK_self ⟨rfl,rfl⟩
    · simp -implicitDefEqProofs -dsimp only [go_sem,↓reduceIte,zE,zB,zA,zM,zS,zL,reduceCtorEq,fits]
      refine (hS _).mono ?_
      rintro _ st ⟨rfl,rfl⟩
      simp -implicitDefEqProofs -dsimp only [go_sem,↓reduceIte,zE,zB,zA,zM,zS,zL,reduceCtorEq,hsm',fits]
      exact outK_self ⟨rfl,rfl⟩
  have hsm2:=hsm
  rw [Bool.and_eq_true,decide_eq_true_eq] at hsm2
  obtain ⟨hok,hst⟩:=hsm2
  have hNA:=okT_NA hok
  cases it
  · simp -implicitDefEqProofs -dsimp only [go_sem,↓reduceIte,zE,zB,zA,zM,zS,zL,reduceCtorEq,fits]
    refine (hS _).mono ?_
    rintro _ st ⟨rfl,rfl⟩
    simp -implicitDefEqProofs -dsimp only [go_sem,↓reduceIte,zE,zB,zA,zM,zS,zL,reduceCtorEq,hsm,fits,inOrder_one]
    refine (q_fs gl _ _ _).mono ?_
    rintro _ st ⟨rfl,rfl⟩
    simp -implicitDefEqProofs -dsimp only [go_sem,↓reduceIte,zE,zB,zA,zM,zS,zL,reduceCtorEq,fits]
    refine (hsz _).mono ?_
    rintro _ st ⟨hSm,rfl⟩
    obtain ⟨mm,rfl,hd⟩:=hSm.gt20
    rw [show wFms [g] = wFm g from by simp [wFms]] at hd
    cases q2:decide (20 < wFm g)
    case true =>
      rw [q2] at hd
      simp -implicitDefEqProofs -dsimp only [go_sem,↓reduceIte,zE,zB,zA,zM,zS,zL,reduceCtorEq,fits,hd]
      exact outK_self ⟨rfl,rfl⟩
    rw [q2] at hd
    have hwg3:wFm g ≤ 20:=by have:=of_decide_eq_false q2; omega
    have hgs:g.size ≤ 20:=by have:=size_wFm g; omega
    simp -implicitDefEqProofs -dsimp only [go_sem,↓reduceIte,zE,zB,zA,zM,zS,zL,reduceCtorEq,fits,hd,inOrder_one]
    refine (q_fs gl _ _ _).mono ?_
    rintro _ st ⟨rfl,rfl⟩
    simp -implicitDefEqProofs -dsimp only [go_sem,↓reduceIte,zE,zB,zA,zM,zS,zL,reduceCtorEq,fits]
    refine (q_sq gl _ _ _ _ _).mono ?_
    rintro _ st ⟨rfl,rfl⟩
    simp -implicitDefEqProofs -dsimp only [go_sem,↓reduceIte,zE,zB,zA,zM,zS,zL,reduceCtorEq,fits]
    have hVf:=fun st => Valid_c gl G 1 ⟨[g],[]⟩ (.agg [.sl ⟨true,.full,4⟩ [.agg [.raw (.int .u8 o9),.raw (.string n9),.sl t9 x9,.sl t8 x8]],.sl ⟨true,.nil,0⟩ []]) ⟨_,_,_,_,rfl,.inr rfl,⟨_,_,rfl,hg0,rfl⟩,.inl rfl,rfl⟩ ⟨fun f hf => by rw [List.mem_singleton.1 hf]; omega,fun f hf => (by cases hf)⟩ st
    rw [validB_1 (show knownB 1 = true from rfl)] at hVf
    refine (hVf _).mono ?_
    rintro _ st ⟨rfl,rfl⟩
    cases hgf:fmB 1 g
    · simp -implicitDefEqProofs -dsimp only [go_sem,↓reduceIte,zE,zB,zA,zM,zS,zL,reduceCtorEq,fits]
      exact outK_self ⟨rfl,rfl⟩
    have hC:=fun st => Check_c gl G T 1 _ _ hx0 (NA_fit hNA (by omega)) st
    simp -implicitDefEqProofs -dsimp only [go_sem,↓reduceIte,zE,zB,zA,zM,zS,zL,reduceCtorEq,fits]
    refine (hC _).mono ?_
    rintro _ st ⟨⟨tg,rfl,htg⟩,rfl⟩
    by_cases hzero:(CheckS 1 (.mk rule s m u n sub)).2 = 0
    case neg =>
      have he0:decide ((((CheckS 1 (.mk rule s m u n sub)).2:Nat):Int) = 0) = false:=decide_eq_false (by omega)
      simp -implicitDefEqProofs -dsimp only [go_sem,↓reduceIte,zE,zB,zA,zM,zS,zL,reduceCtorEq,fits,he0]
      exact outK_self ⟨rfl,rfl⟩
    have he0:decide ((((CheckS 1 (.mk rule s m u n sub)).2:Nat):Int) = 0) = true:=decide_eq_true (by omega)
    have h3:w % 3 = 0 ∨ w % 3 = 1 ∨ w % 3 = 2:=by omega
    rcases h3 with h3 | h3 | h3
    · have ht:((w:Nat):Int).tmod 3 = 0:=by rw [Int.tmod_eq_emod_of_nonneg (by omega)]; omega
      simp -implicitDefEqProofs -dsimp only [go_sem,↓reduceIte,zE,zB,zA,zM,zS,zL,reduceCtorEq,fits,he0,inOrder_3s,ht,bsize_mk,Int.le_refl,Int.toNat_zero,show Int.toNat 1 = 1 from rfl,show Int.toNat 2 = 2 from rfl,show ((3:Int) = 0) = False from by simp,show ((0:Int) ≤ 1) = True from by simp,show ((0:Int) ≤ 2) = True from by simp]
      refine (hRp ⟨#[80]⟩ hgs hok (by omega) _).mono ?_
      rintro _ st ⟨⟨yr,rfl,hyr⟩,rfl⟩
      cases hrt:rightT (repT ⟨#[80]⟩ g (.mk rule s m u n sub))
      · obtain ⟨rule',tl',xl',tr',xr',op',fn',ta',xa',tb',xb',v',un',tu',xu',n',ts',xs',rfl⟩:=trAgg hyr
        simp -implicitDefEqProofs -dsimp only [go_sem,↓reduceIte,zE,zB,zA,zM,zS,zL,reduceCtorEq,fits]
        exact outK_self ⟨rfl,rfl⟩
      have hres:=CheckS_rep (nm:=⟨#[80]⟩) (show 1 ≠ 3 by decide) hgf (okT_terms hok) hzero hrt
      have he1:decide ((((CheckS 1 (repT ⟨#[80]⟩ g (.mk rule s m u n sub))).2:Nat):Int) = 0) = true:=decide_eq_true (by omega)
      have hCr:=fun st => Check_c gl G T 1 _ _ hyr (NA_fit (NA_rep hgs hok) (by rw [steps_rep]; omega)) st
      obtain ⟨rule',tl',xl',tr',xr',op',fn',ta',xa',tb',xb',v',un',tu',xu',n',ts',xs',rfl⟩:=trAgg hyr
      simp -implicitDefEqProofs -dsimp only [go_sem,↓reduceIte,zE,zB,zA,zM,zS,zL,reduceCtorEq,fits]
      refine (hCr _).mono ?_
      rintro _ st ⟨⟨tg3,rfl,htg3⟩,rfl⟩
      simp -implicitDefEqProofs -dsimp only [go_sem,↓reduceIte,zE,zB,zA,zM,zS,zL,reduceCtorEq,fits,he1]
      exact outK_self ⟨rfl,rfl⟩
    · have ht:((w:Nat):Int).tmod 3 = 1:=by rw [Int.tmod_eq_emod_of_nonneg (by omega)]; omega
      simp -implicitDefEqProofs -dsimp only [go_sem,↓reduceIte,zE,zB,zA,zM,zS,zL,reduceCtorEq,fits,he0,inOrder_3s,ht,bsize_mk,Int.le_refl,Int.toNat_zero,show Int.toNat 1 = 1 from rfl,show Int.toNat 2 = 2 from rfl,show ((3:Int) = 0) = False from by simp,show ((0:Int) ≤ 1) = True from by simp,show ((0:Int) ≤ 2) = True from by simp]
      refine (hRp ⟨#[81]⟩ hgs hok (by omega) _).mono ?_
      rintro _ st ⟨⟨yr,rfl,hyr⟩,rfl⟩
      cases hrt:rightT (repT ⟨#[81]⟩ g (.mk rule s m u n sub))
      · obtain ⟨rule',tl',xl',tr',xr',op',fn',ta',xa',tb',xb',v',un',tu',xu',n',ts',xs',rfl⟩:=trAgg hyr
        simp -implicitDefEqProofs -dsimp only [go_sem,↓reduceIte,zE,zB,zA,zM,zS,zL,reduceCtorEq,fits]
        exact outK_self ⟨rfl,rfl⟩
      have hres:=CheckS_rep (nm:=⟨#[81]⟩) (show 1 ≠ 3 by decide) hgf (okT_terms hok) hzero hrt
      have he1:decide ((((CheckS 1 (repT ⟨#[81]⟩ g (.mk rule s m u n sub))).2:Nat):Int) = 0) = true:=decide_eq_true (by omega)
      have hCr:=fun st => Check_c gl G T 1 _ _ hyr (NA_fit (NA_rep hgs hok) (by rw [steps_rep]; omega)) st
      obtain ⟨rule',tl',xl',tr',xr',op',fn',ta',xa',tb',xb',v',un',tu',xu',n',ts',xs',rfl⟩:=trAgg hyr
      simp -implicitDefEqProofs -dsimp only [go_sem,↓reduceIte,zE,zB,zA,zM,zS,zL,reduceCtorEq,fits]
      refine (hCr _).mono ?_
      rintro _ st ⟨⟨tg3,rfl,htg3⟩,rfl⟩
      simp -implicitDefEqProofs -dsimp only [go_sem,↓reduceIte,zE,zB,zA,zM,zS,zL,reduceCtorEq,fits,he1]
      exact outK_self ⟨rfl,rfl⟩
    · have ht:((w:Nat):Int).tmod 3 = 2:=by rw [Int.tmod_eq_emod_of_nonneg (by omega)]; omega
      simp -implicitDefEqProofs -dsimp only [go_sem,↓reduceIte,zE,zB,zA,zM,zS,zL,reduceCtorEq,fits,he0,inOrder_3s,ht,bsize_mk,Int.le_refl,Int.toNat_zero,show Int.toNat 1 = 1 from rfl,show Int.toNat 2 = 2 from rfl,show ((3:Int) = 0) = False from by simp,show ((0:Int) ≤ 1) = True from by simp,show ((0:Int) ≤ 2) = True from by simp]
      refine (hRp ⟨#[82]⟩ hgs hok (by omega) _).mono ?_
      rintro _ st ⟨⟨yr,rfl,hyr⟩,rfl⟩
      cases hrt:rightT (repT ⟨#[82]⟩ g (.mk rule s m u n sub))
      · obtain ⟨rule',tl',xl',tr',xr',op',fn',ta',xa',tb',xb',v',un',tu',xu',n',ts',xs',rfl⟩:=trAgg hyr
        simp -implicitDefEqProofs -dsimp only [go_sem,↓reduceIte,zE,zB,zA,zM,zS,zL,reduceCtorEq,fits]
        exact outK_self ⟨rfl,rfl⟩
      have hres:=CheckS_rep (nm:=⟨#[82]⟩) (show 1 ≠ 3 by decide) hgf (okT_terms hok) hzero hrt
      have he1:decide ((((CheckS 1 (repT ⟨#[82]⟩ g (.mk rule s m u n sub))).2:Nat):Int) = 0) = true:=decide_eq_true (by omega)
      have hCr:=fun st => Check_c gl G T 1 _ _ hyr (NA_fit (NA_rep hgs hok) (by rw [steps_rep]; omega)) st
      obtain ⟨rule',tl',xl',tr',xr',op',fn',ta',xa',tb',xb',v',un',tu',xu',n',ts',xs',rfl⟩:=trAgg hyr
      simp -implicitDefEqProofs -dsimp only [go_sem,↓reduceIte,zE,zB,zA,zM,zS,zL,reduceCtorEq,fits]
      refine (hCr _).mono ?_
      rintro _ st ⟨⟨tg3,rfl,htg3⟩,rfl⟩
      simp -implicitDefEqProofs -dsimp only [go_sem,↓reduceIte,zE,zB,zA,zM,zS,zL,reduceCtorEq,fits,he1]
      exact outK_self ⟨rfl,rfl⟩
  · simp -implicitDefEqProofs -dsimp only [go_sem,↓reduceIte,zE,zB,zA,zM,zS,zL,reduceCtorEq,fits]
    refine (hS _).mono ?_
    rintro _ st ⟨rfl,rfl⟩
    simp -implicitDefEqProofs -dsimp only [go_sem,↓reduceIte,zE,zB,zA,zM,zS,zL,reduceCtorEq,hsm,fits,inOrder_one]
    refine (q_fs gl _ _ _).mono ?_
    rintro _ st ⟨rfl,rfl⟩
    simp -implicitDefEqProofs -dsimp only [go_sem,↓reduceIte,zE,zB,zA,zM,zS,zL,reduceCtorEq,fits]
    refine (hsz _).mono ?_
    rintro _ st ⟨hSm,rfl⟩
    obtain ⟨mm,rfl,hd⟩:=hSm.gt20
    rw [show wFms [g] = wFm g from by simp [wFms]] at hd
    cases q2:decide (20 < wFm g)
    case true =>
      rw [q2] at hd
      simp -implicitDefEqProofs -dsimp only [go_sem,↓reduceIte,zE,zB,zA,zM,zS,zL,reduceCtorEq,fits,hd]
      exact outK_self ⟨rfl,rfl⟩
    rw [q2] at hd
    have hwg3:wFm g ≤ 20:=by have:=of_decide_eq_false q2; omega
    have hgs:g.size ≤ 20:=by have:=size_wFm g; omega
    simp -implicitDefEqProofs -dsimp only [go_sem,↓reduceIte,zE,zB,zA,zM,zS,zL,reduceCtorEq,fits,hd,inOrder_one]
    refine (q_fs gl _ _ _).mono ?_
    rintro _ st ⟨rfl,rfl⟩
    simp -implicitDefEqProofs -dsimp only [go_sem,↓reduceIte,zE,zB,zA,zM,zS,zL,reduceCtorEq,fits]
    refine (q_sq gl _ _ _ _ _).mono ?_
    rintro _ st ⟨rfl,rfl⟩
    simp -implicitDefEqProofs -dsimp only [go_sem,↓reduceIte,zE,zB,zA,zM,zS,zL,reduceCtorEq,fits]
    have hVf:=fun st => Valid_c gl G 2 ⟨[g],[]⟩ (.agg [.sl ⟨true,.full,4⟩ [.agg [.raw (.int .u8 o9),.raw (.string n9),.sl t9 x9,.sl t8 x8]],.sl ⟨true,.nil,0⟩ []]) ⟨_,_,_,_,rfl,.inr rfl,⟨_,_,rfl,hg0,rfl⟩,.inl rfl,rfl⟩ ⟨fun f hf => by rw [List.mem_singleton.1 hf]; omega,fun f hf => (by cases hf)⟩ st
    rw [validB_1 (show knownB 2 = true from rfl)] at hVf
    refine (hVf _).mono ?_
    rintro _ st ⟨rfl,rfl⟩
    cases hgf:fmB 2 g
    · simp -implicitDefEqProofs -dsimp only [go_sem,↓reduceIte,zE,zB,zA,zM,zS,zL,reduceCtorEq,fits]
      exact outK_self ⟨rfl,rfl⟩
    have hC:=fun st => Check_c gl G T 2 _ _ hx0 (NA_fit hNA (by omega)) st
    simp -implicitDefEqProofs -dsimp only [go_sem,↓reduceIte,zE,zB,zA,zM,zS,zL,reduceCtorEq,fits]
    refine (hC _).mono ?_
    rintro _ st ⟨⟨tg,rfl,htg⟩,rfl⟩
    by_cases hzero:(CheckS 2 (.mk rule s m u n sub)).2 = 0
    case neg =>
      have he0:decide ((((CheckS 2 (.mk rule s m u n sub)).2:Nat):Int) = 0) = false:=decide_eq_false (by omega)
      simp -implicitDefEqProofs -dsimp only [go_sem,↓reduceIte,zE,zB,zA,zM,zS,zL,reduceCtorEq,fits,he0]
      exact outK_self ⟨rfl,rfl⟩
    have he0:decide ((((CheckS 2 (.mk rule s m u n sub)).2:Nat):Int) = 0) = true:=decide_eq_true (by omega)
    have h3:w % 3 = 0 ∨ w % 3 = 1 ∨ w % 3 = 2:=by omega
    rcases h3 with h3 | h3 | h3
    · have ht:((w:Nat):Int).tmod 3 = 0:=by rw [Int.tmod_eq_emod_of_nonneg (by omega)]; omega
      simp -implicitDefEqProofs -dsimp only [go_sem,↓reduceIte,zE,zB,zA,zM,zS,zL,reduceCtorEq,fits,he0,inOrder_3s,ht,bsize_mk,Int.le_refl,Int.toNat_zero,show Int.toNat 1 = 1 from rfl,show Int.toNat 2 = 2 from rfl,show ((3:Int) = 0) = False from by simp,show ((0:Int) ≤ 1) = True from by simp,show ((0:Int) ≤ 2) = True from by simp]
      refine (hRp ⟨#[80]⟩ hgs hok (by omega) _).mono ?_
      rintro _ st ⟨⟨yr,rfl,hyr⟩,rfl⟩
      cases hrt:rightT (repT ⟨#[80]⟩ g (.mk rule s m u n sub))
      · obtain ⟨rule',tl',xl',tr',xr',op',fn',ta',xa',tb',xb',v',un',tu',xu',n',ts',xs',rfl⟩:=trAgg hyr
        simp -implicitDefEqProofs -dsimp only [go_sem,↓reduceIte,zE,zB,zA,zM,zS,zL,reduceCtorEq,fits]
        exact outK_self ⟨rfl,rfl⟩
      have hres:=CheckS_rep (nm:=⟨#[80]⟩) (show 2 ≠ 3 by decide) hgf (okT_terms hok) hzero hrt
      have he1:decide ((((CheckS 2 (repT ⟨#[80]⟩ g (.mk rule s m u n sub))).2:Nat):Int) = 0) = true:=decide_eq_true (by omega)
      have hCr:=fun st => Check_c gl G T 2 _ _ hyr (NA_fit (NA_rep hgs hok) (by rw [steps_rep]; omega)) st
      obtain ⟨rule',tl',xl',tr',xr',op',fn',ta',xa',tb',xb',v',un',tu',xu',n',ts',xs',rfl⟩:=trAgg hyr
      simp -implicitDefEqProofs -dsimp only [go_sem,↓reduceIte,zE,zB,zA,zM,zS,zL,reduceCtorEq,fits]
      refine (hCr _).mono ?_
      rintro _ st ⟨⟨tg3,rfl,htg3⟩,rfl⟩
      simp -implicitDefEqProofs -dsimp only [go_sem,↓reduceIte,zE,zB,zA,zM,zS,zL,reduceCtorEq,fits,he1]
      exact outK_self ⟨rfl,rfl⟩
    · have ht:((w:Nat):Int).tmod 3 = 1:=by rw [Int.tmod_eq_emod_of_nonneg (by omega)]; omega
      simp -implicitDefEqProofs -dsimp only [go_sem,↓reduceIte,zE,zB,zA,zM,zS,zL,reduceCtorEq,fits,he0,inOrder_3s,ht,bsize_mk,Int.le_refl,Int.toNat_zero,show Int.toNat 1 = 1 from rfl,show Int.toNat 2 = 2 from rfl,show ((3:Int) = 0) = False from by simp,show ((0:Int) ≤ 1) = True from by simp,show ((0:Int) ≤ 2) = True from by simp]
      refine (hRp ⟨#[81]⟩ hgs hok (by omega) _).mono ?_
      rintro _ st ⟨⟨yr,rfl,hyr⟩,rfl⟩
      cases hrt:rightT (repT ⟨#[81]⟩ g (.mk rule s m u n sub))
      · obtain ⟨rule',tl',xl',tr',xr',op',fn',ta',xa',tb',xb',v',un',tu',xu',n',ts',xs',rfl⟩:=trAgg hyr
        simp -implicitDefEqProofs -dsimp only [go_sem,↓reduceIte,zE,zB,zA,zM,zS,zL,reduceCtorEq,fits]
        exact outK_self ⟨rfl,rfl⟩
      have hres:=CheckS_rep (nm:=⟨#[81]⟩) (show 2 ≠ 3 by decide) hgf (okT_terms hok) hzero hrt
      have he1:decide ((((CheckS 2 (repT ⟨#[81]⟩ g (.mk rule s m u n sub))).2:Nat):Int) = 0) = true:=decide_eq_true (by omega)
      have hCr:=fun st => Check_c gl G T 2 _ _ hyr (NA_fit (NA_rep hgs hok) (by rw [steps_rep]; omega)) st
      obtain ⟨rule',tl',xl',tr',xr',op',fn',ta',xa',tb',xb',v',un',tu',xu',n',ts',xs',rfl⟩:=trAgg hyr
      simp -implicitDefEqProofs -dsimp only [go_sem,↓reduceIte,zE,zB,zA,zM,zS,zL,reduceCtorEq,fits]
      refine (hCr _).mono ?_
      rintro _ st ⟨⟨tg3,rfl,htg3⟩,rfl⟩
      simp -implicitDefEqProofs -dsimp only [go_sem,↓reduceIte,zE,zB,zA,zM,zS,zL,reduceCtorEq,fits,he1]
      exact outK_self ⟨rfl,rfl⟩
    · have ht:((w:Nat):Int).tmod 3 = 2:=by rw [Int.tmod_eq_emod_of_nonneg (by omega)]; omega
      simp -implicitDefEqProofs -dsimp only [go_sem,↓reduceIte,zE,zB,zA,zM,zS,zL,reduceCtorEq,fits,he0,inOrder_3s,ht,bsize_mk,Int.le_refl,Int.toNat_zero,show Int.toNat 1 = 1 from rfl,show Int.toNat 2 = 2 from rfl,show ((3:Int) = 0) = False from by simp,show ((0:Int) ≤ 1) = True from by simp,show ((0:Int) ≤ 2) = True from by simp]
      refine (hRp ⟨#[82]⟩ hgs hok (by omega) _).mono ?_
      rintro _ st ⟨⟨yr,rfl,hyr⟩,rfl⟩
      cases hrt:rightT (repT ⟨#[82]⟩ g (.mk rule s m u n sub))
      · obtain ⟨rule',tl',xl',tr',xr',op',fn',ta',xa',tb',xb',v',un',tu',xu',n',ts',xs',rfl⟩:=trAgg hyr
        simp -implicitDefEqProofs -dsimp only [go_sem,↓reduceIte,zE,zB,zA,zM,zS,zL,reduceCtorEq,fits]
        exact outK_self ⟨rfl,rfl⟩
      have hres:=CheckS_rep (nm:=⟨#[82]⟩) (show 2 ≠ 3 by decide) hgf (okT_terms hok) hzero hrt
      have he1:decide ((((CheckS 2 (repT ⟨#[82]⟩ g (.mk rule s m u n sub))).2:Nat):Int) = 0) = true:=decide_eq_true (by omega)
      have hCr:=fun st => Check_c gl G T 2 _ _ hyr (NA_fit (NA_rep hgs hok) (by rw [steps_rep]; omega)) st
      obtain ⟨rule',tl',xl',tr',xr',op',fn',ta',xa',tb',xb',v',un',tu',xu',n',ts',xs',rfl⟩:=trAgg hyr
      simp -implicitDefEqProofs -dsimp only [go_sem,↓reduceIte,zE,zB,zA,zM,zS,zL,reduceCtorEq,fits]
      refine (hCr _).mono ?_
      rintro _ st ⟨⟨tg3,rfl,htg3⟩,rfl⟩
      simp -implicitDefEqProofs -dsimp only [go_sem,↓reduceIte,zE,zB,zA,zM,zS,zL,reduceCtorEq,fits,he1]
      exact outK_self ⟨rfl,rfl⟩
end Go.Proofs.Tryz

namespace Go.Proofs.Tryz
open Go Go.Iv Go.ChangeShapes
open Go.Proofs.YtckafgnkmnichaaGreatDoor.Rows (uptoBulk uptoBulkAll)
set_option maxRecDepth 4000

theorem uSeq:prog.underlying 24 = some (.struct #[⟨ "Left",22,0,false, "", "",0⟩,⟨ "Right",22,1,false, "", "",24⟩]):=by kernel_rfl
theorem uTree:prog.underlying 32 = some (.struct #[⟨ "Rule",5,0,false, "", "",0⟩,⟨ "Seq",24,1,false, "", "",8⟩,⟨ "Main",27,3,false, "", "",56⟩,⟨ "Term",29,7,false, "", "",128⟩,⟨ "Name",9,10,false, "", "",176⟩,⟨ "Sub",30,11,false, "", "",192⟩]):=by kernel_rfl
theorem uTrees:prog.underlying 30 = some (.slice 32):=by kernel_rfl
theorem nSeq:prog.cellsOf 24 = 2:=by kernel_rfl
theorem nTree:prog.cellsOf 32 = 12:=by kernel_rfl
theorem nTrees:prog.cellsOf 30 = 1:=by kernel_rfl

mutual
theorem wTm_bulk:∀ t:Tm,wTm t ≤ 2 * bulkT t
  | .mk _ n us => by have:=wTms_bulk us; simp only [wTm,bulkT]; omega
theorem wTms_bulk:∀ l:List Tm,wTms l ≤ 2 * bulkTs l
  | [] => Nat.le_refl _
  | a :: l => by have:=wTm_bulk a; have:=wTms_bulk l; simp only [wTms,bulkTs]; omega
end
mutual
theorem wFm_bulk:∀ f:Fm,wFm f ≤ 2 * bulkF f
  | .mk _ n us sub => by have:=wTms_bulk us; have:=wFms_bulk sub; simp only [wFm,bulkF]; omega
theorem wFms_bulk:∀ l:List Fm,wFms l ≤ 2 * bulkFs l
  | [] => Nat.le_refl _
  | a :: l => by have:=wFm_bulk a; have:=wFms_bulk l; simp only [wFms,bulkFs]; omega
end

section
variable {H:Type} {enc:TypeId × Value → H} {w:World} {spare:Nat → Bool} {held:Bool}
def RQ (d:DataW H) (s:Sq) (x:IV):Prop:=IsSq s x ∧ wFms s.l + wFms s.r ≤ 2 * uptoBulk d
theorem seq_of (fuel:Nat) (cs:List Value) (y:DataW H × List MemPlace) (h:DataW.trod enc prog w 0 spare held fuel 24 cs = some y) (hb:uptoBulk y.1 ≤ 1048576):∃ s x,VL 0 (L0 w) w cs x.cells ∧ RQ y.1 s x:=by
  obtain ⟨ys,n,rfl,rfl,hl,hlen,hf⟩:=DataW.trod_struct uSeq h
  match ys,hlen with
  | [y0,y1],_ =>
    rw [nSeq] at hl
    match cs,hl with
    | [c0,c1],_ =>
      have h0:=hf 0 _ rfl
      have h1:=hf 1 _ rfl
      simp only [nForms,List.drop_zero,List.drop_succ_cons,List.take_succ_cons,List.take_zero,List.getElem?_cons_zero,List.getElem?_cons_succ] at h0 h1
      simp only [List.map_cons,List.map_nil,uptoBulk,uptoBulkAll] at hb
      obtain ⟨v0,tg0,xs0,l0,e0,hv0,ht0,hl0,hb0⟩:=forms_of h0 (by omega) (fun m _ => form_of m)
      obtain ⟨v1,tg1,xs1,l1,e1,hv1,ht1,hl1,hb1⟩:=forms_of h1 (by omega) (fun m _ => form_of m)
      cases e0; cases e1
      refine ⟨⟨l0,l1⟩,.agg [.sl tg0 xs0,.sl tg1 xs1],VL.cons hv0 (VL.cons hv1 VL.nil),⟨tg0,xs0,tg1,xs1,rfl,ht0,hl0,ht1,hl1⟩,?_⟩
      have:=wFms_bulk l0
      have:=wFms_bulk l1
      simp only [List.map_cons,List.map_nil,uptoBulk,uptoBulkAll]
      omega
theorem isTrs_get:∀ {us:List Tr} {xs:List IV},us.length = xs.length → (∀ (i:Nat) (a:Tr) (x:IV),us[i]? = some a → xs[i]? = some x → IsTr a x) → IsTrs us xs
  | [],xs,h,_ => by simpa [IsTrs] using h.symm
  | a :: us,[],h,_ => by simp at h
  | a :: us,x :: xs,h,hh => ⟨x,xs,rfl,hh 0 a x rfl rfl,isTrs_get (by simpa using h) (fun i b y hb hy => hh (i + 1) b y (by simpa using hb) (by simpa using hy))⟩
theorem wTrs_sum:∀ {us:List Tr} {ds:List (DataW H)},us.length = ds.length → (∀ (i:Nat) (a:Tr) (d:DataW H),us[i]? = some a → ds[i]? = some d → wTr a + a.steps ≤ 2 * uptoBulk d) → wTrs us + stepsTrs us ≤ 2 * uptoBulkAll ds
  | [],ds,h,_ => by simp [wTrs,stepsTrs]
  | a :: us,[],h,_ => by simp at h
  | a :: us,x :: xs,h,hh => by
    have h1:=hh 0 a x rfl rfl
    have h2:=wTrs_sum (us:=us) (ds:=xs) (by simpa using h) (fun i b y hb hy => hh (i + 1) b y (by simpa using hb) (by simpa using hy))
    simp only [wTrs,stepsTrs,uptoBulkAll]; omega
def RR (d:DataW H) (t:Tr) (x:IV):Prop:=IsTr t x ∧ wTr t + t.steps ≤ 2 * uptoBulk d
theorem RR.cells {d:DataW H} {t:Tr} {x:IV} (h:RR d t x):x.cells.length = 12:=by
  obtain ⟨_,_,_,_,_,_,_,_,_,_,_,_,_,_,_,_,_,_,rfl⟩:=trAgg h.1; rfl
theorem trees_of {fuel:Nat} {cs:List Value} {y:DataW H × List MemPlace} (h:DataW.trod enc prog w 0 spare held fuel 30 cs = some y) (hb:uptoBulk y.1 ≤ 1048576)
    (IH:∀ (n:Nat),n < fuel → ∀ (cs:List Value) (y:DataW H × List MemPlace),DataW.trod enc prog w 0 spare held n 32 cs = some y → uptoBulk y.1 ≤ 1048576 → ∃ t x,VL 0 (L0 w) w cs x.cells ∧ RR y.1 t x) :
    ∃ v tg xs ts,cs = [v] ∧ V 0 (L0 w) w v (.sl tg xs) ∧ okEs tg 12 ∧ IsTrs ts xs ∧ wTrs ts + stepsTrs ts + 1 ≤ 2 * uptoBulk y.1:=by
  obtain ⟨v,tg,xs,ts,rfl,hv,htg,hl,hc⟩:=open_sl (H:=H) (P:=prog) (d:=y.1) (p:=y.2) RR uTrees nTree (by decide) h (fun elems sp e => by
      have:=slice_le elems sp; have:=length_le elems; rw [← e] at *; omega) (fun d t x h => h.cells) (fun n hn cs' z q ⟨elems,sp,he,hm⟩ hz => by
      have:=slice_le elems sp
      have:=part_le hm
      rw [he] at hb
      exact IH n (by omega) cs' (z,q) hz (show uptoBulk z ≤ 1048576 by omega))
  refine ⟨v,tg,xs,ts,rfl,hv,htg,?_⟩
  rcases hc with ⟨hd,rfl⟩ | ⟨elems,sp,hd,hel,hr⟩
  · obtain rfl:ts = []:=List.length_eq_zero_iff.1 (by simpa using hl)
    exact ⟨rfl,by rw [hd]; simp [wTrs,stepsTrs,uptoBulk]⟩
  · have hi:∀ (i:Nat) (a:Tr),ts[i]? = some a → ∃ x d,xs[i]? = some x ∧ elems[i]? = some d ∧ RR d a x:=fun i a ha => by
      have hi:=(List.getElem?_eq_some_iff.1 ha).1
      exact ⟨_,_,List.getElem?_eq_getElem (by omega),List.getElem?_eq_getElem (by omega),hr i _ _ _ (List.getElem?_eq_getElem (by omega)) ha (List.getElem?_eq_getElem (by omega))⟩
    refine ⟨isTrs_get hl (fun i a x ha hx => ?_),?_⟩
    · obtain ⟨x',d,h1,h2,h3⟩:=hi i a ha
      rw [hx] at h1; cases h1
      exact h3.1
    · have:=wTrs_sum (us:=ts) (ds:=elems) (by omega) (fun i a d ha hd' => by
        obtain ⟨x',d',h1,h2,h3⟩:=hi i a ha
        rw [hd'] at h2; cases h2
        exact h3.2)
      have:=slice_le elems sp
      rw [hd]
      omega
theorem cs12 {cs:List Value} (h:cs.length = 12):∃ a b c d e f g h i j k l,cs = [a,b,c,d,e,f,g,h,i,j,k,l]:=by
  match cs,h with
  | [a,b,c,d,e,f,g,h,i,j,k,l],_ => exact ⟨a,b,c,d,e,f,g,h,i,j,k,l,rfl⟩
theorem tree_of:∀ (fuel:Nat) (cs:List Value) (y:DataW H × List MemPlace),DataW.trod enc prog w 0 spare held fuel 32 cs = some y → uptoBulk y.1 ≤ 1048576 → ∃ t x,VL 0 (L0 w) w cs x.cells ∧ RR y.1 t x:=by
  intro fuel
  induction fuel using Nat.strongRecOn with
  | ind fuel IH =>
    intro cs y h hb
    obtain ⟨ys,n,rfl,rfl,hl,hlen,hf⟩:=DataW.trod_struct uTree h
    match ys,hlen with
    | [y0,y1,y2,y3,y4,y5],_ =>
      rw [nTree] at hl
      obtain ⟨c0,c1,c2,c3,c4,c5,c6,c7,c8,c9,c10,c11,rfl⟩:=cs12 hl
      have h0:=hf 0 _ rfl
      have h1:=hf 1 _ rfl
      have h2:=hf 2 _ rfl
      have h3:=hf 3 _ rfl
      have h4:=hf 4 _ rfl
      have h5:=hf 5 _ rfl
      simp only [nU8,nString,nSeq,nForm,nTerm,nTrees,List.drop_zero,List.drop_succ_cons,List.take_succ_cons,List.take_zero,List.getElem?_cons_zero,List.getElem?_cons_succ] at h0 h1 h2 h3 h4 h5
      simp only [List.map_cons,List.map_nil,uptoBulk,uptoBulkAll] at hb
      obtain ⟨op,e0,rfl,hop⟩:=DataW.trod_int uU8 h0
      obtain ⟨s,xs,hvs,hs1,hs2⟩:=seq_of n _ _ h1 (by omega)
      obtain ⟨f,xf,hvf,hf1,hf2⟩:=form_of n _ _ h2 (by omega)
      obtain ⟨t,xt,hvt,ht1,ht2⟩:=term_of n _ _ h3 (by omega)
      obtain ⟨nm,e4,hn,hn2⟩:=str_of h4 (by omega)
      obtain ⟨v,tg,xb,ts,e5,hv,htg,hts,hbk⟩:=trees_of h5 (by omega) (fun m hm => IH m (by omega))
      cases e0; cases e4; cases e5
      have hop:0 ≤ op ∧ op < 256:=by
        simp only [Lit.wf,IntKind.min,IntKind.max,IntKind.signed,IntKind.bits,Bool.and_eq_true,decide_eq_true_eq] at hop
        exact ⟨of_decide_eq_true hop.1,by have:=of_decide_eq_true hop.2; simp at this; omega⟩
      obtain ⟨k,rfl⟩:=Int.eq_ofNat_of_zero_le hop.1
      obtain ⟨tl,xl,tr,xr,rfl,k1,k2,k3,k4⟩:=hs1
      have hf0:=hf1
      have ht0:=ht1
      obtain ⟨o,fn,us,sub⟩:=f
      obtain ⟨ta,xa,tb,xb',rfl,_⟩:=hf1.mk
      obtain ⟨b,un,uu⟩:=t
      obtain ⟨tu,xu,rfl,_⟩:=ht1.mk
      refine ⟨.mk k s (.mk o fn us sub) (.mk b un uu) nm ts,.agg [.raw (.int .u8 k),.sl tl xl,.sl tr xr,.raw (.int .u8 o),.raw (.string fn),.sl ta xa,.sl tb xb',.raw (.bool b),.raw (.string un),.sl tu xu,.raw (.string nm),.sl tg xb],
        VL.cons (.raw _ trivial) (hvs.append (hvf.append (hvt.append (VL.cons hn (VL.cons hv VL.nil))))),?_,?_⟩
      · simp only [IsTr]
        exact ⟨tl,xl,tr,xr,o,fn,ta,xa,tb,xb',b,un,tu,xu,tg,xb,rfl,by omega,k1,k2,k3,k4,hf0,ht0,htg,hts⟩
      · have:=wFm_bulk (.mk o fn us sub)
        have:=wTm_bulk (.mk b un uu)
        simp only [List.map_cons,List.map_nil,uptoBulk,uptoBulkAll,wTr,Tr.steps]
        omega
end
end Go.Proofs.Tryz
