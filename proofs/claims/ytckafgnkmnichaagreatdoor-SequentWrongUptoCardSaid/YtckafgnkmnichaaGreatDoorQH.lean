/- Walks: steps, height and cuts of a tree.
   Walks: Small of lyceumlaw19.
   The plain law of SequentParts: the check of a tree and those of its premises.
   Plain laws of sequents: order and repetition do not matter (SequentTurned).
   The fixed data of lyceumlaw19's awake, checked in plain Lean.
   Trees to the letter; the fixed trees as ideal values.
   Walks: awake of lyceumlaw19. -/
import Derived.Test.YtckafgnkmnichaaGreatDoorQG
import Derived.Test.YtckafgnkmnichaaGreatDoorQB
set_option linter.all false
open Nat renaming reduceEqDiff → zE,reduceBEq → zB,reduceAdd → zA,reduceMul → zM,reduceSub → zS,reduceLeDiff → zL
attribute [local go_sem] Go.Iv.cf Go.Iv.setAt List.all_cons List.all_nil Bool.and_self Bool.true_and Bool.and_true Bool.false_and Bool.and_false Bool.not_true Bool.not_false List.mem_nil_iff if_false if_true beq_self_eq_true Nat.zero_add Nat.add_zero List.getElem?_cons_zero List.getElem?_cons_succ Option.map_some List.mem_cons or_false false_or or_true true_or Nat.sub_zero forall_const Int.toNat_natCast List.length_cons List.length_nil List.map_cons List.map_nil List.take_succ_cons List.take_zero List.drop_zero List.drop_succ_cons List.cons_append List.nil_append List.append_nil and_true true_and and_self true_implies List.zip_cons_cons List.zip_nil_left
namespace Go.Proofs.Tryz
open Go Go.Iv
set_option maxRecDepth 4000
variable (gl:Nat → Option IV)

theorem plI_get {p:List Nat} {k a:Nat} (h:p[k]? = some a):(plI p)[k]? = some (.raw (.int .i64 (a:Int))):=by simp [plI,List.getElem?_map,h]
theorem plI_append (p q:List Nat):plI (p ++ q) = plI p ++ plI q:=by simp [plI]
def sumN:List Nat → Nat
  | [] => 0
  | a :: l => a + sumN l
theorem sumN_append:∀ l m:List Nat,sumN (l ++ m) = sumN l + sumN m
  | [],m => by simp [sumN]
  | a :: l,m => by simp only [List.cons_append,sumN,sumN_append l m]; omega
theorem sumN_take (l:List Nat) (k:Nat):sumN (l.take k) ≤ sumN l:=by
  conv => rhs; rw [← List.take_append_drop k l]
  rw [sumN_append]; omega
def maxN:List Nat → Nat
  | [] => 0
  | a :: l => max a (maxN l)
theorem maxN_append:∀ l m:List Nat,maxN (l ++ m) = max (maxN l) (maxN m)
  | [],m => by simp [maxN]
  | a :: l,m => by simp only [List.cons_append,maxN,maxN_append l m]; omega
theorem sum_c (tg:Tag) (l:List Nat) (htg:okEs tg 1) (hs:sumN l ≤ 4611686018427387904) (st:ISt):ICall prog gl 65 [.sl tg (plI l)] st (fun r st' => r = .raw (.int .i64 (sumN l)) ∧ st' = st):=by
  refine ICall.intro (c:=cf prog gl [] []) func65 rfl (by show _ ≤ 17; simp) (by kernel_rfl) ?_
  simp -implicitDefEqProofs -dsimp only [go_sem,↓reduceIte,zE,zB,zA,zM,zS,zL,reduceCtorEq,plI_len]
  intro _
  refine LoopC.ctr l.length (fun k fr st' ds => fr 3 = .iv (.raw (.int .i64 (sumN (l.take k)))) ∧ fr 6 = .iv (.sl tg (plI l)) ∧ fr 7 = .iv (.raw (.int .i64 l.length)) ∧ fr 8 = .iv (.raw (.int .i64 k)) ∧ st' = st ∧ ds = []) ?_ ?_ ?_
  · simp -implicitDefEqProofs -dsimp only [go_sem,↓reduceIte,zE,zB,zA,zM,zS,zL,reduceCtorEq]
    simp [sumN]
  · rintro k fr st1 _ hlt ⟨f3,f6,f7,f8,rfl,rfl⟩
    obtain ⟨a,ha⟩:=get_of_lt hlt
    have h1:=sumN_take l (k + 1)
    have h2:sumN (l.take (k + 1)) = sumN (l.take k) + a:=by rw [take_get ha,sumN_append]; rfl
    have h3:IntKind.i64.wrap (((sumN (l.take k):Nat):Int) + (a:Int)) = ((sumN (l.take (k + 1)):Nat):Int):=by rw [w64] <;> omega
    simp -implicitDefEqProofs -dsimp only [go_sem,↓reduceIte,zE,zB,zA,zM,zS,zL,reduceCtorEq,f3,f6,f7,f8,lt_i hlt,reTag_es htg,Int.natCast_nonneg,plI_get ha,fits,h3,w_succ hlt (show l.length ≤ 281474976710656 by omega)]
  · rintro fr st1 _ ⟨f3,f6,f7,f8,rfl,rfl⟩
    rw [List.take_length] at f3
    simp -implicitDefEqProofs -dsimp only [go_sem,↓reduceIte,zE,zB,zA,zM,zS,zL,reduceCtorEq,f3,f6,f7,f8,nlt_i (Nat.lt_irrefl _)]
    exact outK_self ⟨rfl,rfl⟩
theorem max_i (a b:Nat):max (a:Int) (b:Int) = ((max a b:Nat):Int):=by omega
theorem Max_c (tg:Tag) (l:List Nat) (htg:okEs tg 1) (hl:0 < l.length) (st:ISt):ICall prog gl 67 [.sl tg (plI l)] st (fun r st' => r = .raw (.int .i64 (maxN l)) ∧ st' = st):=by
  obtain ⟨a0,ha0⟩:=get_of_lt hl
  have d1:decide (((l.length:Nat):Int) < 1) = false:=decide_eq_false (by omega)
  have t1:l.take 1 = [a0]:=by
    have:=take_get ha0
    simpa using this
  refine ICall.intro (c:=cf prog gl [] []) func67 rfl (by show _ ≤ 25; simp) (by kernel_rfl) ?_
  simp -implicitDefEqProofs -dsimp only [go_sem,↓reduceIte,zE,zB,zA,zM,zS,zL,reduceCtorEq,plI_len]
  intro hlen
  simp -implicitDefEqProofs -dsimp only [go_sem,↓reduceIte,zE,zB,zA,zM,zS,zL,reduceCtorEq,d1,reTag_es htg,Int.le_refl,Int.toNat_zero,plI_get ha0,fits]
  refine LoopC.ctr (l.length - 1) (fun k fr st' ds => fr 3 = .iv (.raw (.int .i64 (maxN (l.take (k + 1))))) ∧ fr 0 = .iv (.sl tg (plI l)) ∧ fr 4 = .iv (.raw (.int .i64 ((k + 1:Nat):Int))) ∧ st' = st ∧ ds = []) ?_ ?_ ?_
  · simp -implicitDefEqProofs -dsimp only [go_sem,↓reduceIte,zE,zB,zA,zM,zS,zL,reduceCtorEq,t1]
    simp [maxN]
  · rintro k fr st1 _ hlt ⟨f3,f0,f4,rfl,rfl⟩
    obtain ⟨a,ha⟩:=get_of_lt (l:=l) (k:=k + 1) (by omega)
    have h2:maxN (l.take (k + 1 + 1)) = max (maxN (l.take (k + 1))) a:=by rw [take_get ha,maxN_append]; simp [maxN]
    simp -implicitDefEqProofs -dsimp only [go_sem,↓reduceIte,zE,zB,zA,zM,zS,zL,reduceCtorEq,f3,f0,f4,plI_len,lt_i (show k + 1 < l.length by omega),reTag_es htg,Int.natCast_nonneg,plI_get ha,fits,max_i,w_succ (show k + 1 < l.length by omega) (show l.length ≤ 281474976710656 by omega)]
    intro _
    rw [h2]
  · rintro fr st1 _ ⟨f3,f0,f4,rfl,rfl⟩
    rw [show l.length - 1 + 1 = l.length by omega] at f3 f4
    rw [List.take_length] at f3
    simp -implicitDefEqProofs -dsimp only [go_sem,↓reduceIte,zE,zB,zA,zM,zS,zL,reduceCtorEq,f3,f0,f4,plI_len,nlt_i (Nat.lt_irrefl _)]
    intro _
    exact outK_self ⟨rfl,rfl⟩

def subsT:Tr → List Tr
  | .mk _ _ _ _ _ sub => sub
def FoldOk (g:Nat) (v:Tr → Nat):Prop:=∀ (t:Tr) (l:List Nat) (x:IV) (tg:Tag) (st0 st:ISt),IsTr t x → t.steps ≤ 1099511627776 → l = (subsT t).map v → own st tg l.length 1 st0 → subSt st0 st →
  ICall prog gl g [x,.sl tg (plI l)] st (fun r st' => r = .raw (.int .i64 (v t)) ∧ subSt st0 st')
theorem steps_mem:∀ {l:List Tr} {t:Tr},t ∈ l → t.steps ≤ stepsTrs l
  | a :: l,t,h => by
    simp only [stepsTrs]
    rcases List.mem_cons.1 h with rfl | h
    · omega
    · have:=steps_mem h; omega
theorem len_le_steps:∀ l:List Tr,l.length ≤ stepsTrs l
  | [] => Nat.le_refl _
  | .mk _ _ _ _ _ s :: l => by
    have:=len_le_steps l
    simp only [List.length_cons,stepsTrs,Tr.steps]; omega
def FoldC (v:Tr → Nat) (g:Nat) (t:Tr):Prop:=∀ (x:IV) (_:IsTr t x) (_:t.steps ≤ 1099511627776) (st:ISt),ICall prog gl 63 [x,.fn (.func g) [] []] st (fun r st' => r = .raw (.int .i64 (v t)) ∧ st' = st)
theorem fold_step (v:Tr → Nat) (g:Nat) (hent:entI prog g = true) (hg:FoldOk gl g v) (rule:Nat) (sq:Sq) (f:Fm) (u:Tm) (n:ByteArray) (sub:List Tr) (IH:∀ a ∈ sub,FoldC gl v g a):FoldC gl v g (.mk rule sq f u n sub):=by
  intro x hx hs st
  have hx0:=hx
  obtain ⟨tl,xl,tr,xr,op,fn,ta,xa,tb,xb,vb,un,tu,xu,ts,xs,rfl,hru,_,_,_,_,_,_,e3,i3⟩:=hx.mk
  have hs0:=hs
  simp only [Tr.steps] at hs
  have hll:=len_le_steps sub
  refine ICall.intro (c:=cf prog gl [] []) func63 rfl (by show _ ≤ 26; simp) (by kernel_rfl) ?_
  simp -implicitDefEqProofs -dsimp only [go_sem,↓reduceIte,zE,zB,zA,zM,zS,zL,reduceCtorEq,fits,i3.len]
  intro _
  refine LoopC.ctr sub.length (fun k fr st' ds => (∃ tg',fr 5 = .iv (.sl tg' (plI ((sub.take k).map v))) ∧ own st' tg' k 1 st ∧ subSt st st') ∧ fr 1 = .iv (.fn (.func g) [] []) ∧ fr 2 = .box [.raw (.int .u8 rule),.sl tl xl,.sl tr xr,.raw (.int .u8 op),.raw (.string fn),.sl ta xa,.sl tb xb,.raw (.bool vb),.raw (.string un),.sl tu xu,.raw (.string n),.sl ts xs] ∧
    fr 9 = .iv (.sl ts xs) ∧ fr 10 = .iv (.raw (.int .i64 sub.length)) ∧ fr 11 = .iv (.raw (.int .i64 k)) ∧ ds = []) ?_ ?_ ?_
  · simp -implicitDefEqProofs -dsimp only [go_sem,↓reduceIte,zE,zB,zA,zM,zS,zL,reduceCtorEq]
    exact ⟨⟨_,rfl,.inl ⟨rfl,rfl⟩,subSt.refl _⟩,rfl⟩
  · rintro k fr st1 _ hlt ⟨⟨tg',f5,hown,hsub⟩,f1,f2,f9,f10,f11,rfl⟩
    obtain ⟨a,ha⟩:=get_of_lt hlt
    obtain ⟨z,hkz,hz⟩:=i3.get ha
    have hst:=steps_mem (List.mem_of_getElem? ha)
    have hcall:=IH a (List.mem_of_getElem? ha) z hz (by omega) st1
    obtain ⟨rule',tl',xl',tr',xr',op',fn',ta',xa',tb',xb',v',un',tu',xu',n',ts',xs',rfl⟩:=trAgg hz
    simp -implicitDefEqProofs -dsimp only [go_sem,↓reduceIte,zE,zB,zA,zM,zS,zL,reduceCtorEq,f1,f2,f5,f9,f10,f11,lt_i hlt,reTag_es e3,Int.natCast_nonneg,hkz,fits]
    refine hcall.mono ?_
    rintro _ _ ⟨rfl,rfl⟩
    simp -implicitDefEqProofs -dsimp only [go_sem,↓reduceIte,zE,zB,zA,zM,zS,zL,reduceCtorEq,f1,f2,f5,f9,f10,f11,fits,inOrder_1]
    refine appV_ownD hown (by rw [plI_len,List.length_map,List.length_take]; omega) hsub rfl (by simp [fits,IV.one]) (by simp only; omega) (by omega) fun tg2 st4 hown2 hsub4 _ _ => ?_
    simp -implicitDefEqProofs -dsimp only [go_sem,↓reduceIte,zE,zB,zA,zM,zS,zL,reduceCtorEq,f1,f2,f5,f9,f10,f11,fits,w_succ hlt (show sub.length ≤ 281474976710656 by omega)]
    exact ⟨tg2,by rw [take_get ha,List.map_append,plI_append]; rfl,hown2,hsub4⟩
  · rintro fr st1 _ ⟨⟨tg',f5,hown,hsub⟩,f1,f2,f9,f10,f11,rfl⟩
    rw [List.take_length] at f5
    have hcall:=hg _ (sub.map v) _ tg' st st1 hx0 hs0 rfl (by rw [List.length_map]; exact hown) hsub
    simp -implicitDefEqProofs -dsimp only [go_sem,↓reduceIte,zE,zB,zA,zM,zS,zL,reduceCtorEq,f1,f2,f5,f10,f11,nlt_i (Nat.lt_irrefl _),fits,hent]
    refine hcall.mono ?_
    rintro _ st2 ⟨rfl,hsub2⟩
    simp -implicitDefEqProofs -dsimp only [go_sem,↓reduceIte,zE,zB,zA,zM,zS,zL,reduceCtorEq,fits]
    exact outK_sub hsub2 ⟨rfl,rfl⟩
theorem fold_all (v:Tr → Nat) (g:Nat) (hent:entI prog g = true) (hg:FoldOk gl g v):∀ (k:Nat) (t:Tr),SizeOf.sizeOf t < k → FoldC gl v g t
  | 0,t,h => by omega
  | k + 1,.mk r sq f u n sub,h => fold_step gl v g hent hg r sq f u n sub (fun a ha => fold_all v g hent hg k a (by
      have:=List.sizeOf_lt_of_mem ha
      simp at h; omega))
theorem fold_c (v:Tr → Nat) (g:Nat) (hent:entI prog g = true) (hg:FoldOk gl g v) (t:Tr):FoldC gl v g t:=fold_all gl v g hent hg _ t (Nat.lt_succ_self _)
theorem sum_steps:∀ l:List Tr,sumN (l.map Tr.steps) = stepsTrs l
  | [] => rfl
  | a :: l => by simp only [List.map_cons,sumN,stepsTrs,sum_steps l]
theorem sum_cuts:∀ l:List Tr,sumN (l.map Tr.cuts) = cutsTrs l
  | [] => rfl
  | a :: l => by simp only [List.map_cons,sumN,cutsTrs,sum_cuts l]
theorem max_heights:∀ l:List Tr,maxN (l.map Tr.height) = heightTrs l
  | [] => rfl
  | a :: l => by simp only [List.map_cons,maxN,heightTrs,max_heights l]
mutual
theorem cuts_le:∀ t:Tr,t.cuts ≤ t.steps
  | .mk _ _ _ _ _ sub => by
    have:=cutsTrs_le sub
    simp only [Tr.cuts,Tr.steps]
    split <;> omega
theorem cutsTrs_le:∀ l:List Tr,cutsTrs l ≤ stepsTrs l
  | [] => Nat.le_refl _
  | a :: l => by
    have:=cuts_le a
    have:=cutsTrs_le l
    simp only [cutsTrs,stepsTrs]; omega
end
mutual
theorem height_le:∀ t:Tr,t.height ≤ t.steps
  | .mk _ _ _ _ _ sub => by
    have:=heightTrs_le sub
    simp only [Tr.height,Tr.steps]; omega
theorem heightTrs_le:∀ l:List Tr,heightTrs l ≤ stepsTrs l
  | [] => Nat.le_refl _
  | a :: l => by
    have:=height_le a
    have:=heightTrs_le l
    simp only [heightTrs,stepsTrs]; omega
end
theorem foldSteps:FoldOk gl 64 Tr.steps:=by
  rintro ⟨rule,s,m,u,n,sub⟩ l x tg st0 st hx hs rfl hown hsub
  simp only [subsT] at hown ⊢
  simp only [Tr.steps] at hs
  have hsum:=fun st => sum_c gl tg (sub.map Tr.steps) hown.es (by rw [sum_steps]; omega) st
  have hw:IntKind.i64.wrap (1 + ((stepsTrs sub:Nat):Int)) = ((1 + stepsTrs sub:Nat):Int):=by rw [w64] <;> omega
  rw [sum_steps] at hsum
  obtain ⟨rule',tl',xl',tr',xr',op',fn',ta',xa',tb',xb',v',un',tu',xu',n',ts',xs',rfl⟩:=trAgg hx
  refine ICall.intro (c:=cf prog gl [] []) func64 rfl (by show _ ≤ 8; simp) (by kernel_rfl) ?_
  simp -implicitDefEqProofs -dsimp only [go_sem,↓reduceIte,zE,zB,zA,zM,zS,zL,reduceCtorEq,fits]
  refine (hsum _).mono ?_
  rintro _ _ ⟨rfl,rfl⟩
  simp -implicitDefEqProofs -dsimp only [go_sem,↓reduceIte,zE,zB,zA,zM,zS,zL,reduceCtorEq,hw,fits]
  exact outK_self ⟨by simp only [Tr.steps],hsub⟩
theorem foldCuts:FoldOk gl 68 Tr.cuts:=by
  rintro ⟨rule,s,m,u,n,sub⟩ l x tg st0 st hx hs rfl hown hsub
  simp only [subsT] at hown ⊢
  simp only [Tr.steps] at hs
  have hcs:=cutsTrs_le sub
  have hsum:=fun st => sum_c gl tg (sub.map Tr.cuts) hown.es (by rw [sum_cuts]; omega) st
  have hw:IntKind.i64.wrap (1 + ((cutsTrs sub:Nat):Int)) = ((1 + cutsTrs sub:Nat):Int):=by rw [w64] <;> omega
  rw [sum_cuts] at hsum
  obtain ⟨tl',xl',tr',xr',op',fn',ta',xa',tb',xb',v',un',tu',xu',ts',xs',rfl,_⟩:=hx.mk
  refine ICall.intro (c:=cf prog gl [] []) func68 rfl (by show _ ≤ 13; simp) (by kernel_rfl) ?_
  by_cases h:rule = 17
  · have d:decide ((rule:Int) = 17) = true:=decide_eq_true (by omega)
    simp -implicitDefEqProofs -dsimp only [go_sem,↓reduceIte,zE,zB,zA,zM,zS,zL,reduceCtorEq,fits,d]
    refine (hsum _).mono ?_
    rintro _ _ ⟨rfl,rfl⟩
    simp -implicitDefEqProofs -dsimp only [go_sem,↓reduceIte,zE,zB,zA,zM,zS,zL,reduceCtorEq,hw,fits]
    exact outK_self ⟨by simp only [Tr.cuts,if_pos h],hsub⟩
  · have d:decide ((rule:Int) = 17) = false:=decide_eq_false (by omega)
    simp -implicitDefEqProofs -dsimp only [go_sem,↓reduceIte,zE,zB,zA,zM,zS,zL,reduceCtorEq,fits,d]
    refine (hsum _).mono ?_
    rintro _ _ ⟨rfl,rfl⟩
    simp -implicitDefEqProofs -dsimp only [go_sem,↓reduceIte,zE,zB,zA,zM,zS,zL,reduceCtorEq,fits]
    exact outK_self ⟨by simp only [Tr.cuts,if_neg h,Nat.zero_add],hsub⟩
theorem foldHeight:FoldOk gl 66 Tr.height:=by
  rintro ⟨rule,s,m,u,n,sub⟩ l x tg st0 st hx hs rfl hown hsub
  simp only [subsT] at hown ⊢
  simp only [Tr.steps] at hs
  have hcs:=heightTrs_le sub
  have hll:=len_le_steps sub
  have hw:IntKind.i64.wrap (1 + ((heightTrs sub:Nat):Int)) = ((1 + heightTrs sub:Nat):Int):=by rw [w64] <;> omega
  have hm:maxN (sub.map Tr.height ++ [0]) = heightTrs sub:=by rw [maxN_append,max_heights]; simp [maxN]
  obtain ⟨rule',tl',xl',tr',xr',op',fn',ta',xa',tb',xb',v',un',tu',xu',n',ts',xs',rfl⟩:=trAgg hx
  refine ICall.intro (c:=cf prog gl [] []) func66 rfl (by show _ ≤ 10; simp) (by kernel_rfl) ?_
  simp -implicitDefEqProofs -dsimp only [go_sem,↓reduceIte,zE,zB,zA,zM,zS,zL,reduceCtorEq,fits,inOrder_one]
  refine appV_ownD hown (by rw [plI_len]) hsub rfl (by simp [fits,IV.one]) (by simp only [List.length_map]; omega) (by simp only [List.length_map]; omega) fun tg2 st4 hown2 hsub4 _ _ => ?_
  have hmax:=fun st => Max_c gl tg2 (sub.map Tr.height ++ [0]) hown2.es (by simp) st
  rw [hm,plI_append] at hmax
  simp -implicitDefEqProofs -dsimp only [go_sem,↓reduceIte,zE,zB,zA,zM,zS,zL,reduceCtorEq,fits]
  refine (hmax _).mono ?_
  rintro _ _ ⟨rfl,rfl⟩
  simp -implicitDefEqProofs -dsimp only [go_sem,↓reduceIte,zE,zB,zA,zM,zS,zL,reduceCtorEq,hw,fits]
  exact outK_self ⟨by simp only [Tr.height],hsub4⟩
theorem Steps_c (t:Tr) (x:IV) (hx:IsTr t x) (hs:t.steps ≤ 1099511627776) (st:ISt):ICall prog gl 19 [x] st (fun r st' => r = .raw (.int .i64 (t.steps)) ∧ st' = st):=by
  have hf:=fun st => fold_c gl Tr.steps 64 (by simp only [go_sem]) (foldSteps gl) t x hx hs st
  obtain ⟨rule',tl',xl',tr',xr',op',fn',ta',xa',tb',xb',v',un',tu',xu',n',ts',xs',rfl⟩:=trAgg hx
  refine ICall.intro (c:=cf prog gl [] []) func19 rfl (by show _ ≤ 5; simp) (by kernel_rfl) ?_
  simp -implicitDefEqProofs -dsimp only [go_sem,↓reduceIte,zE,zB,zA,zM,zS,zL,reduceCtorEq,fits]
  refine (hf _).mono ?_
  rintro _ _ ⟨rfl,rfl⟩
  simp -implicitDefEqProofs -dsimp only [go_sem,↓reduceIte,zE,zB,zA,zM,zS,zL,reduceCtorEq,fits]
  exact outK_self ⟨rfl,rfl⟩
theorem Height_c (t:Tr) (x:IV) (hx:IsTr t x) (hs:t.steps ≤ 1099511627776) (st:ISt):ICall prog gl 20 [x] st (fun r st' => r = .raw (.int .i64 (t.height)) ∧ st' = st):=by
  have hf:=fun st => fold_c gl Tr.height 66 (by simp only [go_sem]) (foldHeight gl) t x hx hs st
  obtain ⟨rule',tl',xl',tr',xr',op',fn',ta',xa',tb',xb',v',un',tu',xu',n',ts',xs',rfl⟩:=trAgg hx
  refine ICall.intro (c:=cf prog gl [] []) func20 rfl (by show _ ≤ 5; simp) (by kernel_rfl) ?_
  simp -implicitDefEqProofs -dsimp only [go_sem,↓reduceIte,zE,zB,zA,zM,zS,zL,reduceCtorEq,fits]
  refine (hf _).mono ?_
  rintro _ _ ⟨rfl,rfl⟩
  simp -implicitDefEqProofs -dsimp only [go_sem,↓reduceIte,zE,zB,zA,zM,zS,zL,reduceCtorEq,fits]
  exact outK_self ⟨rfl,rfl⟩
theorem Cuts_c (t:Tr) (x:IV) (hx:IsTr t x) (hs:t.steps ≤ 1099511627776) (st:ISt):ICall prog gl 21 [x] st (fun r st' => r = .raw (.int .i64 (t.cuts)) ∧ st' = st):=by
  have hf:=fun st => fold_c gl Tr.cuts 68 (by simp only [go_sem]) (foldCuts gl) t x hx hs st
  obtain ⟨rule',tl',xl',tr',xr',op',fn',ta',xa',tb',xb',v',un',tu',xu',n',ts',xs',rfl⟩:=trAgg hx
  refine ICall.intro (c:=cf prog gl [] []) func21 rfl (by show _ ≤ 5; simp) (by kernel_rfl) ?_
  simp -implicitDefEqProofs -dsimp only [go_sem,↓reduceIte,zE,zB,zA,zM,zS,zL,reduceCtorEq,fits]
  refine (hf _).mono ?_
  rintro _ _ ⟨rfl,rfl⟩
  simp -implicitDefEqProofs -dsimp only [go_sem,↓reduceIte,zE,zB,zA,zM,zS,zL,reduceCtorEq,fits]
  exact outK_self ⟨rfl,rfl⟩
end Go.Proofs.Tryz

namespace Go.Proofs.Tryz
open Go Go.Iv
set_option maxRecDepth 4000
variable (gl:Nat → Option IV)

mutual
def wTr:Tr → Nat
  | .mk _ s f u n sub => wFms s.l + wFms s.r + wFm f + wTm u + n.size + wTrs sub
def wTrs:List Tr → Nat
  | [] => 0
  | a :: l => wTr a + wTrs l
end
def nodeB (s:Sq) (f:Fm) (u:Tm) (n:ByteArray):Bool:=decide (wFms s.l + wFms s.r ≤ 300) && !decide (300 < wFm f) && !decide (300 < wTm u) && !decide (100 < n.size)
mutual
def okT:Tr → Bool
  | .mk _ s f u n sub => nodeB s f u n && okTs sub
def okTs:List Tr → Bool
  | [] => true
  | a :: l => okT a && okTs l
end
theorem okTs_append:∀ l m:List Tr,okTs (l ++ m) = (okTs l && okTs m)
  | [],m => by simp [okTs]
  | a :: l,m => by simp only [List.cons_append,okTs,okTs_append l m,Bool.and_assoc]
theorem okTs_take {l:List Tr} {k:Nat} {a:Tr} (h:l[k]? = some a):okTs (l.take (k + 1)) = (okTs (l.take k) && okT a):=by
  rw [take_get h,okTs_append]; simp [okTs]
theorem okTs_le (l:List Tr) (k:Nat) (h:okTs l = true):okTs (l.take k) = true:=by
  rw [← List.take_append_drop k l,okTs_append,Bool.and_eq_true] at h
  exact h.1
theorem stepsT_take {l:List Tr} {k:Nat} {a:Tr} (h:l[k]? = some a):stepsTrs (l.take (k + 1)) = stepsTrs (l.take k) + a.steps:=by
  rw [take_get h,stepsTrs_append]; simp [stepsTrs]
theorem stepsT_le (l:List Tr) (k:Nat):stepsTrs (l.take k) ≤ stepsTrs l:=by
  conv => rhs; rw [← List.take_append_drop k l]
  rw [stepsTrs_append]; omega
theorem wTrs_mem:∀ {l:List Tr} {t:Tr},t ∈ l → wTr t ≤ wTrs l
  | a :: l,t,h => by
    simp only [wTrs]
    rcases List.mem_cons.1 h with rfl | h
    · omega
    · have:=wTrs_mem h; omega
theorem Sum.gt {w:Nat} {r:IV} (h:Sum w 300 r):∃ n:Nat,r = .raw (.int .i64 n) ∧ decide ((300:Int) < (n:Int)) = decide (300 < w):=by
  obtain ⟨n,rfl,h1,h2⟩:=h
  refine ⟨n,rfl,?_⟩
  rw [decide_eq_decide]
  constructor
  · intro h; omega
  · intro h
    rcases Int.lt_or_le 300 (n:Int) with hn | hn
    · exact hn
    · have:=h2 hn; omega
def Left (t:Tr) (left:Int) (r:Int):Prop:=-1 ≤ r ∧ r ≤ left ∧ (0 ≤ r ↔ okT t = true ∧ (t.steps:Int) ≤ left) ∧ (0 ≤ r → r = left - t.steps)
def sC (t:Tr):Prop:=∀ (x:IV) (_:IsTr t x) (left:Int) (_:0 ≤ left ∧ left ≤ 1000) (_:wTr t ≤ 1099511627776) (st:ISt),
  ICall prog gl 50 [x,.raw (.int .i64 left)] st (fun r st' => (∃ n:Int,r = .raw (.int .i64 n) ∧ Left t left n) ∧ st' = st)
theorem small_step (rule:Nat) (s:Sq) (f:Fm) (u:Tm) (n:ByteArray) (sub:List Tr) (IH:∀ a ∈ sub,sC gl a):sC gl (.mk rule s f u n sub):=by
  intro x hx left hl hw st
  obtain ⟨tl,xl,tr,xr,op,fn,ta,xa,tb,xb,v,un,tu,xu,ts,xs,rfl,hru,e1,i1,e2,i2,hy,hz,e3,i3⟩:=hx.mk
  simp only [wTr] at hw
  have hfew:=fun st => Few_c gl s _ ⟨tl,xl,tr,xr,rfl,e1,i1,e2,i2⟩ ⟨by omega,by omega⟩ st
  have hsz:=fun st => qsize_c gl [f] ⟨true,.full,4⟩ _ (.inr rfl) ⟨_,_,rfl,hy,rfl⟩ 300 ⟨by omega,by omega⟩ (by simp only [wFms]; omega) st
  have htm:=fun st => qterms_c gl [u] ⟨true,.full,3⟩ _ (.inr rfl) ⟨_,_,rfl,hz,rfl⟩ 300 ⟨by omega,by omega⟩ (by simp only [wTms]; omega) st
  have hbad:nodeB s f u n = false → Left (.mk rule s f u n sub) left (-1):=fun h => by
    refine ⟨by omega,by omega,⟨fun h => by omega,fun h' => ?_⟩,fun h => by omega⟩
    simp only [okT,h,Bool.false_and,Bool.false_eq_true,false_and] at h'
  refine ICall.intro (c:=cf prog gl [] []) func50 rfl (by show _ ≤ 51; simp) (by kernel_rfl) ?_
  simp -implicitDefEqProofs -dsimp only [go_sem,↓reduceIte,zE,zB,zA,zM,zS,zL,reduceCtorEq,fits]
  refine (hfew _).mono ?_
  rintro _ st ⟨rfl,rfl⟩
  unfold nodeB at hbad
  cases q1:decide (wFms s.l + wFms s.r ≤ 300)
  · simp -implicitDefEqProofs -dsimp only [go_sem,↓reduceIte,zE,zB,zA,zM,zS,zL,reduceCtorEq,fits,q1]
    exact outK_self ⟨⟨-1,rfl,hbad (by rw [q1]; rfl)⟩,rfl⟩
  simp -implicitDefEqProofs -dsimp only [go_sem,↓reduceIte,zE,zB,zA,zM,zS,zL,reduceCtorEq,fits,q1,inOrder_one]
  refine (hsz _).mono ?_
  rintro _ st ⟨hS,rfl⟩
  obtain ⟨m,rfl,hd⟩:=hS.gt
  rw [show wFms [f] = wFm f from by simp [wFms]] at hd
  cases q2:decide (300 < wFm f)
  case true =>
    rw [q2] at hd
    simp -implicitDefEqProofs -dsimp only [go_sem,↓reduceIte,zE,zB,zA,zM,zS,zL,reduceCtorEq,fits,hd]
    exact outK_self ⟨⟨-1,rfl,hbad (by rw [q1,q2]; rfl)⟩,rfl⟩
  rw [q2] at hd
  simp -implicitDefEqProofs -dsimp only [go_sem,↓reduceIte,zE,zB,zA,zM,zS,zL,reduceCtorEq,fits,hd,inOrder_one]
  refine (htm _).mono ?_
  rintro _ st ⟨hS2,rfl⟩
  obtain ⟨m2,rfl,hd2⟩:=hS2.gt
  rw [show wTms [u] = wTm u from by simp [wTms]] at hd2
  cases q3:decide (300 < wTm u)
  case true =>
    rw [q3] at hd2
    simp -implicitDefEqProofs -dsimp only [go_sem,↓reduceIte,zE,zB,zA,zM,zS,zL,reduceCtorEq,fits,hd2]
    exact outK_self ⟨⟨-1,rfl,hbad (by rw [q1,q2,q3]; rfl)⟩,rfl⟩
  rw [q3] at hd2
  have hdn:decide ((100:Int) < ((n.size:Nat):Int)) = decide (100 < n.size):=by rw [decide_eq_decide]; omega
  cases q4:decide (100 < n.size)
  case true =>
    rw [q4] at hdn
    simp -implicitDefEqProofs -dsimp only [go_sem,↓reduceIte,zE,zB,zA,zM,zS,zL,reduceCtorEq,fits,hd2,hdn]
    intro _
    exact outK_self ⟨⟨-1,rfl,hbad (by rw [q1,q2,q3,q4]; rfl)⟩,rfl⟩
  rw [q4] at hdn
  have hnode:nodeB s f u n = true:=by unfold nodeB; rw [q1,q2,q3,q4]; rfl
  have wl:IntKind.i64.wrap (left - 1) = left - 1:=w64 (by omega) (by omega)
  simp -implicitDefEqProofs -dsimp only [go_sem,↓reduceIte,zE,zB,zA,zM,zS,zL,reduceCtorEq,fits,hd2,hdn,wl]
  intro _
  refine LoopC.ctr sub.length (fun k fr st' ds => (∃ l:Int,fr 1 = .iv (.raw (.int .i64 l)) ∧ -1 ≤ l ∧ l ≤ left - 1 ∧ (0 ≤ l ↔ okTs (sub.take k) = true ∧ ((stepsTrs (sub.take k):Nat):Int) + 1 ≤ left) ∧ (0 ≤ l → l = left - 1 - (stepsTrs (sub.take k):Nat))) ∧
    fr 2 = .box [.raw (.int .u8 rule),.sl tl xl,.sl tr xr,.raw (.int .u8 op),.raw (.string fn),.sl ta xa,.sl tb xb,.raw (.bool v),.raw (.string un),.sl tu xu,.raw (.string n),.sl ts xs] ∧ fr 5 = .iv (.raw (.int .i64 k)) ∧ st' = st ∧ ds = []) ?_ ?_ ?_
  · simp -implicitDefEqProofs -dsimp only [go_sem,↓reduceIte,zE,zB,zA,zM,zS,zL,reduceCtorEq]
    exact ⟨⟨left - 1,rfl,by omega,by omega,⟨fun h => ⟨rfl,by simp only [stepsTrs]; omega⟩,fun h => by have:=h.2; simp only [stepsTrs] at this; omega⟩,fun _ => by simp only [stepsTrs]; omega⟩,rfl⟩
  · rintro k fr st1 _ hlt ⟨⟨l,f1,hl1,hl2,hl3,hl4⟩,f2,f5,rfl,rfl⟩
    obtain ⟨a,ha⟩:=get_of_lt hlt
    obtain ⟨z,hkz,hzz⟩:=i3.get ha
    have hoks:=okTs_take ha
    have hst:=stepsT_take ha
    by_cases hle:(0:Int) ≤ l
    · have hcall:=fun st => IH a (List.mem_of_getElem? ha) z hzz l ⟨hle,by omega⟩ (by have:=wTrs_mem (List.mem_of_getElem? ha); omega) st
      obtain ⟨rule',tl',xl',tr',xr',op',fn',ta',xa',tb',xb',v',un',tu',xu',n',ts',xs',rfl⟩:=trAgg hzz
      simp -implicitDefEqProofs -dsimp only [go_sem,↓reduceIte,zE,zB,zA,zM,zS,zL,reduceCtorEq,f1,f2,f5,i3.len,lt_i hlt,decide_eq_true hle,reTag_es e3,Int.natCast_nonneg,hkz,fits]
      intro _
      refine (hcall _).mono ?_
      rintro _ st2 ⟨⟨r,rfl,hr1,hr2,hr3,hr4⟩,rfl⟩
      simp -implicitDefEqProofs -dsimp only [go_sem,↓reduceIte,zE,zB,zA,zM,zS,zL,reduceCtorEq,f1,f2,f5,fits,w_succ hlt (show sub.length ≤ 281474976710656 by omega)]
      have g3:=hl3.1 hle
      have g4:=hl4 hle
      refine ⟨r,rfl,hr1,by omega,?_,fun h => by have:=hr4 h; rw [hst]; omega⟩
      rw [hoks,hst,g3.1,Bool.true_and]
      constructor
      · intro h
        have:=hr3.1 h
        exact ⟨this.1,by omega⟩
      · intro h
        exact hr3.2 ⟨h.1,by have:=h.2; omega⟩
    · simp -implicitDefEqProofs -dsimp only [go_sem,↓reduceIte,zE,zB,zA,zM,zS,zL,reduceCtorEq,f1,f2,f5,i3.len,lt_i hlt,decide_eq_false hle]
      intro _
      refine outK_self ⟨⟨l,rfl,hl1,by omega,⟨fun h => absurd h hle,fun h => ?_⟩,fun h => absurd h hle⟩,rfl⟩
      have h1:=h.1
      have h2:=h.2
      simp only [okT,hnode,Bool.true_and] at h1
      simp only [Tr.steps] at h2
      have h3:=stepsT_le sub k
      exact absurd (hl3.2 ⟨okTs_le sub k h1,by omega⟩) hle
  · rintro fr st1 _ ⟨⟨l,f1,hl1,hl2,hl3,hl4⟩,f2,f5,rfl,rfl⟩
    rw [List.take_length] at hl3 hl4
    simp -implicitDefEqProofs -dsimp only [go_sem,↓reduceIte,zE,zB,zA,zM,zS,zL,reduceCtorEq,f1,f2,f5,i3.len,nlt_i (Nat.lt_irrefl _)]
    intro _
    refine outK_self ⟨⟨l,rfl,hl1,by omega,?_,fun h => by have:=hl4 h; simp only [Tr.steps]; omega⟩,rfl⟩
    simp only [okT,hnode,Bool.true_and,Tr.steps]
    constructor
    · intro h
      have:=hl3.1 h
      exact ⟨this.1,by omega⟩
    · intro h
      exact hl3.2 ⟨h.1,by have:=h.2; omega⟩
theorem small_all:∀ (k:Nat) (t:Tr),SizeOf.sizeOf t < k → sC gl t
  | 0,t,h => by omega
  | k + 1,.mk r sq f u n sub,h => small_step gl r sq f u n sub (fun a ha => small_all k a (by
      have:=List.sizeOf_lt_of_mem ha
      simp at h; omega))
theorem qsmall_c (t:Tr):sC gl t:=small_all gl _ t (Nat.lt_succ_self _)
theorem QSmall_c (t:Tr) (x:IV) (hx:IsTr t x) (hw:wTr t ≤ 1099511627776) (st:ISt):ICall prog gl 14 [x] st (fun r st' => r = .raw (.bool (okT t && decide (t.steps ≤ 60))) ∧ st' = st):=by
  have hs:=fun st => qsmall_c gl t x hx 60 ⟨by omega,by omega⟩ hw st
  obtain ⟨rule',tl',xl',tr',xr',op',fn',ta',xa',tb',xb',v',un',tu',xu',n',ts',xs',rfl⟩:=trAgg hx
  refine ICall.intro (c:=cf prog gl [] []) func14 rfl (by show _ ≤ 6; simp) (by kernel_rfl) ?_
  simp -implicitDefEqProofs -dsimp only [go_sem,↓reduceIte,zE,zB,zA,zM,zS,zL,reduceCtorEq,fits]
  refine (hs _).mono ?_
  rintro _ st ⟨⟨r,rfl,h1,h2,h3,h4⟩,rfl⟩
  have hd:decide ((0:Int) ≤ r) = (okT t && decide (t.steps ≤ 60)):=by
    rw [Bool.eq_iff_iff,decide_eq_true_eq,h3,Bool.and_eq_true,decide_eq_true_eq]
    constructor <;> intro h <;> exact ⟨h.1,by have:=h.2; omega⟩
  simp -implicitDefEqProofs -dsimp only [go_sem,↓reduceIte,zE,zB,zA,zM,zS,zL,reduceCtorEq,hd]
  exact outK_self ⟨rfl,rfl⟩
end Go.Proofs.Tryz

namespace Go.Proofs.Tryz
open Go Go.Iv

theorem addsS_err (ca rule:Nat) (r:Rw) (main:Fm) (term:Tm) (name:ByteArray):(addsS ca rule r main term name).2 = 0 ∨ (addsS ca rule r main term name).2 = 192 ∨ (addsS ca rule r main term name).2 = 193:=by
  unfold addsS
  split
  · exact .inr (.inl rfl)
  · simp only
    split
    · exact .inl rfl
    · generalize (if r.asks = 2 then Tm.mk true name [] else term) = t
      split
      · exact .inr (.inr rfl)
      · split
        · exact .inr (.inr rfl)
        · exact .inl rfl
theorem stepS_valid {ca:Nat} {s:Sq} {rule:Nat} {main:Fm} {term:Tm} {name:ByteArray} (h:(stepS ca s rule main term name).2 = 0):validB ca s = true:=by
  unfold stepS at h
  split at h
  · simp at h
  · rename_i hv
    simpa using hv
theorem checkS_valid {ca:Nat} {rule:Nat} {s:Sq} {main:Fm} {term:Tm} {name:ByteArray} {sub:List Tr} (h:checkS ca (.mk rule s main term name sub) = 0):validB ca s = true:=by
  simp only [checkS] at h
  split at h
  · rename_i h1; exact absurd h h1
  · rename_i h1
    exact stepS_valid (Decidable.not_not.1 h1)
theorem CheckS_arg_place (ca:Nat) (t:Tr) (h:knownB ca = false):CheckS ca t = ([],2):=by
  unfold CheckS
  rw [h]; rfl
theorem steps_le_of_mem:∀ {l:List Tr} {a:Tr},a ∈ l → a.steps ≤ stepsTrs l
  | b :: l,a,h => by
    simp only [stepsTrs]
    rcases List.mem_cons.1 h with rfl | h
    · omega
    · have:=steps_le_of_mem h; omega
theorem firstSub_zero (e:Tr → Nat):∀ (i:Nat) (l:List Tr),(firstSub e i l).2 = 0 → ∀ a ∈ l,(firstBad e (a.walk [])).2 = 0
  | _,[],_,a,ha => by cases ha
  | i,b :: l,h,a,ha => by
    simp only [firstSub] at h
    by_cases hb:(firstBad e (b.walk [])).2 = 0
    · rw [if_pos hb] at h
      rcases List.mem_cons.1 ha with rfl | ha
      · exact hb
      · exact firstSub_zero e (i + 1) l h a ha
    · rw [if_neg hb] at h; exact absurd h hb
theorem CheckS_ok {ca rule:Nat} {s:Sq} {f:Fm} {u:Tm} {n:ByteArray} {sub:List Tr} (h:(CheckS ca (.mk rule s f u n sub)).2 = 0):validB ca s = true ∧ ∀ a ∈ sub,(CheckS ca a).2 = 0:=by
  unfold CheckS at h
  cases hk:knownB ca
  · rw [hk] at h; simp at h
  · rw [hk] at h
    simp only [Bool.not_true,Bool.false_eq_true,if_false] at h
    split at h
    · simp at h
    · rename_i hst
      rw [firstBad_tree] at h
      by_cases hc:checkS ca (.mk rule s f u n sub) = 0
      · rw [if_pos hc] at h
        refine ⟨checkS_valid hc,fun a ha => ?_⟩
        have h1:=firstSub_zero _ 0 sub h a ha
        have h2:=steps_le_of_mem ha
        simp only [Tr.steps] at hst
        unfold CheckS
        rw [hk]
        simp only [Bool.not_true,Bool.false_eq_true,if_false]
        rw [if_neg (by omega)]
        exact h1
      · rw [if_neg hc] at h; exact absurd h hc
end Go.Proofs.Tryz

namespace Go.Proofs.Tryz
open Go Go.Iv

theorem eqF_true {a b:Fm}:eqF a b = true ↔ a.op = b.op ∧ a.right = true ∧ b.right = true ∧ dbF [] a = dbF [] b:=by
  unfold eqF alphaB
  simp only [Bool.and_eq_true,decide_eq_true_eq,eqB_true,and_assoc]
theorem eqF_refl {a:Fm} (h:a.right = true):eqF a a = true:=eqF_true.2 ⟨rfl,h,h,rfl⟩
theorem eqF_symm {a b:Fm} (h:eqF a b = true):eqF b a = true:=by
  obtain ⟨h1,h2,h3,h4⟩:=eqF_true.1 h
  exact eqF_true.2 ⟨h1.symm,h3,h2,h4.symm⟩
theorem eqF_trans {a b c:Fm} (h:eqF a b = true) (k:eqF b c = true):eqF a c = true:=by
  obtain ⟨h1,h2,_,h4⟩:=eqF_true.1 h
  obtain ⟨k1,_,k3,k4⟩:=eqF_true.1 k
  exact eqF_true.2 ⟨h1.trans k1,h2,k3,h4.trans k4⟩
theorem hasF_true {l:List Fm} {f:Fm}:hasF l f = true ↔ ∃ g ∈ l,eqF f g = true:=by simp [hasF]
theorem allF_true {l m:List Fm}:allF l m = true ↔ ∀ f ∈ l,hasF m f = true:=by simp [allF]
theorem firstsB_true {l:List Fm} (hr:∀ f ∈ l,f.right = true):firstsB l = true ↔ ∀ f ∈ l,∀ g ∈ l,eqF f g = true:=by
  cases l with
  | nil => simp [firstsB]
  | cons a l =>
    simp only [firstsB,List.all_eq_true]
    exact ⟨fun h f hf g hg => eqF_trans (h f hf) (eqF_symm (h g hg)),fun h f hf => h f hf a (List.mem_cons_self ..)⟩
def turnL (l:List Fm):List Fm:=l.reverse ++ l.take 1
def turnS (s:Sq):Sq:=⟨turnL s.l,turnL s.r⟩
mutual
def turnT:Tr → Tr
  | .mk rule s f u n sub => .mk rule (turnS s) f u n (turnTs sub)
def turnTs:List Tr → List Tr
  | [] => []
  | a :: l => turnT a :: turnTs l
end
mutual
def roomB:Tr → Bool
  | .mk _ s _ _ _ sub => decide (s.l.length < 64) && decide (s.r.length < 64) && roomBs sub
def roomBs:List Tr → Bool
  | [] => true
  | a :: l => roomB a && roomBs l
end
end Go.Proofs.Tryz

namespace Go.Proofs.Tryz
open Go Go.Iv
set_option maxRecDepth 8000

theorem stepS_ok {ca:Nat} {s:Sq} {rule:Nat} {main:Fm} {term:Tm} {name:ByteArray} {r:Rw} {ad:List Sq} (h1:validB ca s = true) (h2:rowS ca rule = some r) (h3:addsS ca rule r main term name = (ad,0))
    (h4:r.left = true → hasF s.l main = true) (h5:r.right = true → hasF s.r main = true) (h6:r.asks ≠ 2):stepS ca s rule main term name = (ad,0):=by
  unfold stepS
  rw [h1,h2]
  simp only [Bool.not_true,Bool.false_eq_true,if_false,h3]
  obtain ⟨rl,rr,op,asks⟩:=r
  simp only at h4 h5 h6 ⊢
  have e1:(rl && !hasF s.l main) = false:=by
    cases rl
    · rfl
    · rw [h4 rfl]; rfl
  have e2:(rr && !hasF s.r main) = false:=by
    cases rr
    · rfl
    · rw [h5 rfl]; rfl
  rw [e1,e2,decide_eq_false h6]
  rfl
theorem has_mem {l:List Fm} {f:Fm} (h:f ∈ l) (hr:f.right = true):hasF l f = true:=hasF_true.2 ⟨f,h,eqF_refl hr⟩
def zP:Fm:=.mk 1 ⟨#[80]⟩ [] []
def zQ:Fm:=.mk 1 ⟨#[81]⟩ [] []
def zI:Fm:=.mk 6 ⟨#[]⟩ [] [zP,zQ]
def tm0:Tm:=.mk false ⟨#[]⟩ []
def trP:Tr:=.mk 1 ⟨[zP,zI],[zP]⟩ zP tm0 ⟨#[]⟩ []
def trQ:Tr:=.mk 1 ⟨[zP,zQ],[zQ]⟩ zQ tm0 ⟨#[]⟩ []
def trA:Tr:=.mk 9 ⟨[zP,zI],[zQ]⟩ zI tm0 ⟨#[]⟩ [trP,trQ]
def row1:Rw:=⟨true,true,0,0⟩
def row9:Rw:=⟨true,false,6,0⟩
theorem firsts_one {f:Fm} (h:f.right = true):firstsB [f] = true:=by simp [firstsB,eqF_refl h]
theorem valid_1 {s:Sq} (h:(decide (s.l.length ≤ 64) && decide (s.r.length ≤ 64) && s.l.all (fmB 1) && s.r.all (fmB 1)) = true):validB 1 s = true:=by
  unfold validB
  rw [show knownB 1 = true from rfl,Bool.true_and,h]; rfl
theorem valid_2 {s:Sq} (h:(decide (s.l.length ≤ 64) && decide (s.r.length ≤ 64) && s.l.all (fmB 2) && s.r.all (fmB 2)) = true) (h2:firstsB s.r = true):validB 2 s = true:=by
  unfold validB
  rw [show knownB 2 = true from rfl,Bool.true_and,h,h2]; rfl
theorem step_P1:stepS 1 ⟨[zP,zI],[zP]⟩ 1 zP tm0 ⟨#[]⟩ = ([],0):=stepS_ok (r:=row1) (valid_1 (by decide)) rfl (by rfl) (fun _ => has_mem (by simp) (by decide)) (fun _ => has_mem (by simp) (by decide)) (by decide)
theorem step_P2:stepS 2 ⟨[zP,zI],[zP]⟩ 1 zP tm0 ⟨#[]⟩ = ([],0):=stepS_ok (r:=row1) (valid_2 (by decide) (firsts_one (by decide))) rfl (by rfl) (fun _ => has_mem (by simp) (by decide)) (fun _ => has_mem (by simp) (by decide)) (by decide)
theorem step_Q1:stepS 1 ⟨[zP,zQ],[zQ]⟩ 1 zQ tm0 ⟨#[]⟩ = ([],0):=stepS_ok (r:=row1) (valid_1 (by decide)) rfl (by rfl) (fun _ => has_mem (by simp) (by decide)) (fun _ => has_mem (by simp) (by decide)) (by decide)
theorem step_Q2:stepS 2 ⟨[zP,zQ],[zQ]⟩ 1 zQ tm0 ⟨#[]⟩ = ([],0):=stepS_ok (r:=row1) (valid_2 (by decide) (firsts_one (by decide))) rfl (by rfl) (fun _ => has_mem (by simp) (by decide)) (fun _ => has_mem (by simp) (by decide)) (by decide)
theorem step_A1:stepS 1 ⟨[zP,zI],[zQ]⟩ 9 zI tm0 ⟨#[]⟩ = ([⟨[],[zP]⟩,⟨[zQ],[]⟩],0):=stepS_ok (r:=row9) (valid_1 (by decide)) rfl (by rfl) (fun _ => has_mem (by simp) (by decide)) (fun h => by cases h) (by decide)
theorem step_A2:stepS 2 ⟨[zP,zI],[zQ]⟩ 9 zI tm0 ⟨#[]⟩ = ([⟨[],[zP]⟩,⟨[zQ],[]⟩],0):=stepS_ok (r:=row9) (valid_2 (by decide) (firsts_one (by decide))) rfl (by rfl) (fun _ => has_mem (by simp) (by decide)) (fun h => by cases h) (by decide)
theorem all_mem {l m:List Fm} (h:∀ f ∈ l,f ∈ m ∧ f.right = true):allF l m = true:=List.all_eq_true.2 fun f hf => has_mem (h f hf).1 (h f hf).2
theorem checkS_ok {ca rule:Nat} {s:Sq} {main:Fm} {term:Tm} {name:ByteArray} {sub:List Tr} {ad:List Sq} (h:stepS ca s rule main term name = (ad,0)) (hl:sub.length = ad.length) (hp:premsB s ad sub = true):checkS ca (.mk rule s main term name sub) = 0:=by
  simp only [checkS]
  rw [h]
  simp only [ne_eq,not_true_eq_false,if_false,hl,hp,if_true]
theorem right_P:zP.right = true:=by decide
theorem right_Q:zQ.right = true:=by decide
theorem right_I:zI.right = true:=by decide
theorem prems_A:premsB ⟨[zP,zI],[zQ]⟩ [⟨[],[zP]⟩,⟨[zQ],[]⟩] [trP,trQ] = true:=by
  have a1:allF [zP,zI] [zP,zI] = true:=all_mem fun f hf => by
    simp only [List.mem_cons,List.not_mem_nil,or_false] at hf
    rcases hf with rfl | rfl
    · exact ⟨by simp,right_P⟩
    · exact ⟨by simp,right_I⟩
  have a2:allF [zP] [zQ,zP] = true:=all_mem fun f hf => by
    simp only [List.mem_cons,List.not_mem_nil,or_false] at hf
    subst hf
    exact ⟨by simp,right_P⟩
  have a3:allF [zP,zQ] [zP,zI,zQ] = true:=all_mem fun f hf => by
    simp only [List.mem_cons,List.not_mem_nil,or_false] at hf
    rcases hf with rfl | rfl
    · exact ⟨by simp,right_P⟩
    · exact ⟨by simp,right_Q⟩
  have a4:allF [zQ] [zQ] = true:=all_mem fun f hf => by
    simp only [List.mem_cons,List.not_mem_nil,or_false] at hf
    subst hf
    exact ⟨by simp,right_Q⟩
  simp only [premsB,trP,trQ,Tr.sq,Sq.plus,withinB,List.append_nil,List.cons_append,List.nil_append,a1,a2,a3,a4,Bool.and_self]
theorem check_A1:checkS 1 trA = 0:=checkS_ok step_A1 rfl prems_A
theorem check_A2:checkS 2 trA = 0:=checkS_ok step_A2 rfl prems_A
theorem check_P1:checkS 1 trP = 0:=checkS_ok step_P1 rfl rfl
theorem check_P2:checkS 2 trP = 0:=checkS_ok step_P2 rfl rfl
theorem check_Q1:checkS 1 trQ = 0:=checkS_ok step_Q1 rfl rfl
theorem check_Q2:checkS 2 trQ = 0:=checkS_ok step_Q2 rfl rfl
theorem walk_A:trA.walk [] = [([],trA),([0],trP),([1],trQ)]:=rfl
theorem Check_A1:CheckS 1 trA = ([],0):=by
  unfold CheckS
  rw [walk_A]
  simp only [firstBad,check_A1,check_P1,check_Q1,if_true]
  rfl
theorem Check_A2:CheckS 2 trA = ([],0):=by
  unfold CheckS
  rw [walk_A]
  simp only [firstBad,check_A2,check_P2,check_Q2,if_true]
  rfl
theorem steps_A:trA.steps = 3:=rfl
theorem height_A:trA.height = 2:=rfl
theorem cuts_A:trA.cuts = 0:=rfl

def zN:Fm:=.mk 3 ⟨#[]⟩ [] [zP]
def zO:Fm:=.mk 5 ⟨#[]⟩ [] [zP,zN]
def trE1:Tr:=.mk 1 ⟨[zP],[zP]⟩ zP tm0 ⟨#[]⟩ []
def trE2:Tr:=.mk 4 ⟨[],[zP,zN]⟩ zN tm0 ⟨#[]⟩ [trE1]
def trE:Tr:=.mk 8 ⟨[],[zO]⟩ zO tm0 ⟨#[]⟩ [trE2]
theorem step_E1:stepS 1 ⟨[zP],[zP]⟩ 1 zP tm0 ⟨#[]⟩ = ([],0):=stepS_ok (r:=row1) (valid_1 (by decide)) rfl (by rfl) (fun _ => has_mem (by simp) (by decide)) (fun _ => has_mem (by simp) (by decide)) (by decide)
theorem step_E2:stepS 1 ⟨[],[zP,zN]⟩ 4 zN tm0 ⟨#[]⟩ = ([⟨[zP],[]⟩],0):=stepS_ok (r:=⟨false,true,3,0⟩) (valid_1 (by decide)) rfl (by rfl) (fun h => by cases h) (fun _ => has_mem (by simp) (by decide)) (by decide)
theorem step_E:stepS 1 ⟨[],[zO]⟩ 8 zO tm0 ⟨#[]⟩ = ([⟨[],[zP,zN]⟩],0):=stepS_ok (r:=⟨false,true,5,0⟩) (valid_1 (by decide)) rfl (by rfl) (fun h => by cases h) (fun _ => has_mem (by simp) (by decide)) (by decide)
theorem step_Ej:stepS 2 ⟨[],[zO]⟩ 8 zO tm0 ⟨#[]⟩ = ([⟨[],[zP]⟩],0):=stepS_ok (r:=⟨false,true,5,0⟩) (valid_2 (by decide) (firsts_one (by decide))) rfl (by rfl) (fun h => by cases h) (fun _ => has_mem (by simp) (by decide)) (by decide)
theorem right_N:zN.right = true:=by decide
theorem all_PN (l:List Fm):allF [zP,zN] (l ++ [zP,zN]) = true:=all_mem fun f hf => by
  simp only [List.mem_cons,List.not_mem_nil,or_false] at hf
  rcases hf with rfl | rfl
  · exact ⟨by simp,right_P⟩
  · exact ⟨by simp,right_N⟩
theorem check_E1:checkS 1 trE1 = 0:=checkS_ok step_E1 rfl rfl
theorem check_E2:checkS 1 trE2 = 0:=checkS_ok step_E2 rfl (by
  have a1:allF [zP] [zP] = true:=all_mem fun f hf => by
    simp only [List.mem_cons,List.not_mem_nil,or_false] at hf
    subst hf
    exact ⟨by simp,right_P⟩
  have a2:allF [zP] [zP,zN] = true:=all_mem fun f hf => by
    simp only [List.mem_cons,List.not_mem_nil,or_false] at hf
    subst hf
    exact ⟨by simp,right_P⟩
  simp only [premsB,trE1,Tr.sq,Sq.plus,withinB,List.append_nil,List.nil_append,a1,a2,Bool.and_self])
theorem check_E:checkS 1 trE = 0:=checkS_ok step_E rfl (by
  have a1:allF [] [] = true:=rfl
  simp only [premsB,trE2,Tr.sq,Sq.plus,withinB,List.nil_append,a1,all_PN [zO],Bool.and_self])
theorem walk_E:trE.walk [] = [([],trE),([0],trE2),([0,0],trE1)]:=rfl
theorem Check_E1:CheckS 1 trE = ([],0):=by
  unfold CheckS
  rw [walk_E]
  simp only [firstBad,check_E,check_E1,check_E2,if_true]
  rfl
theorem check_Ej:checkS 2 trE = 195:=by
  have h1:hasF [zO,zP] zN = false:=by
    simp [hasF,eqF,zN,zO,zP,Fm.op]
  have h2:premsB ⟨[],[zO]⟩ [⟨[],[zP]⟩] [trE2] = false:=by
    have h3:allF [zP,zN] [zO,zP] = false:=List.all_eq_false.2 ⟨zN,by simp,by rw [h1]; simp⟩
    simp only [premsB,trE2,Tr.sq,Sq.plus,withinB,List.cons_append,List.nil_append,h3,Bool.and_false,Bool.false_and]
  unfold trE
  simp only [checkS]
  rw [step_Ej]
  simp only [h2]
  rfl
theorem Check_E2:CheckS 2 trE = ([],195):=by
  unfold CheckS
  rw [walk_E]
  simp only [firstBad,check_Ej]
  rfl

theorem stepS_nm {ca:Nat} {s:Sq} {rule:Nat} {main:Fm} {term:Tm} {name:ByteArray} {r:Rw} {ad:List Sq} (h1:validB ca s = true) (h2:rowS ca rule = some r) (h3:addsS ca rule r main term name = (ad,0))
    (h4:r.left = true → hasF s.l main = true) (h5:r.right = true → hasF s.r main = true) (h6:r.asks = 2):stepS ca s rule main term name = if freeIn s name then ([],193) else (ad,0):=by
  unfold stepS
  rw [h1,h2]
  simp only [Bool.not_true,Bool.false_eq_true,if_false,h3]
  obtain ⟨rl,rr,op,asks⟩:=r
  simp only at h4 h5 h6 ⊢
  have e1:(rl && !hasF s.l main) = false:=by
    cases rl
    · rfl
    · rw [h4 rfl]; rfl
  have e2:(rr && !hasF s.r main) = false:=by
    cases rr
    · rfl
    · rw [h5 rfl]; rfl
  rw [e1,e2,decide_eq_true h6,Bool.true_and]
  rfl
def qx:ByteArray:=⟨#[120]⟩
def qy:ByteArray:=⟨#[121]⟩
def qu:ByteArray:=⟨#[117]⟩
def zX:Fm:=.mk 8 qx [] [.mk 1 ⟨#[81]⟩ [.mk true qx []] []]
def zY:Fm:=.mk 9 qy [] [.mk 1 ⟨#[82]⟩ [.mk true qy [],.mk true qu []] []]
def zU:Fm:=.mk 1 ⟨#[81]⟩ [.mk true qu []] []
theorem adds_X:addsS 3 14 ⟨false,true,8,2⟩ zX tm0 qu = ([⟨[],[zU]⟩],0):=rfl
theorem valid_3 {s:Sq} (h:(decide (s.l.length ≤ 64) && decide (s.r.length ≤ 64) && s.l.all (fmB 3) && s.r.all (fmB 3)) = true):validB 3 s = true:=by
  unfold validB
  rw [show knownB 3 = true from rfl,Bool.true_and,h]; rfl
theorem Back_X:BackS 3 ⟨[zP],[zX]⟩ 14 zX tm0 qu = ([⟨[zP],[zX,zU]⟩],0):=by
  have h:=stepS_nm (ca:=3) (s:=⟨[zP],[zX]⟩) (rule:=14) (main:=zX) (term:=tm0) (name:=qu) (valid_3 (by decide)) rfl adds_X (fun h => by cases h) (fun _ => has_mem (by simp) (by decide)) rfl
  have hf:freeIn ⟨[zP],[zX]⟩ qu = false:=by decide
  rw [hf] at h
  unfold BackS
  rw [h]
  rfl
theorem Back_Y:BackS 3 ⟨[zY],[zX]⟩ 14 zX tm0 qu = ([],193):=by
  have h:=stepS_nm (ca:=3) (s:=⟨[zY],[zX]⟩) (rule:=14) (main:=zX) (term:=tm0) (name:=qu) (valid_3 (by decide)) rfl adds_X (fun h => by cases h) (fun _ => has_mem (by simp) (by decide)) rfl
  have hf:freeIn ⟨[zY],[zX]⟩ qu = true:=by decide
  rw [hf] at h
  unfold BackS
  rw [h]
  rfl

def zD:Fm:=.mk 4 ⟨#[]⟩ [] [zP,zQ]
theorem norm_P:normF zP = zP:=rfl
theorem norm_D:normF zD = zD:=rfl
theorem Set_D:SetS ⟨[zD,zD,zP],[]⟩ = (⟨[zP,zD],[]⟩,0):=by
  have hs:SetF [zD,zD,zP] [zP,zD]:=by
    refine ⟨?_,fun f => ?_⟩
    · refine List.pairwise_cons.2 ⟨fun f hf => ?_,List.pairwise_singleton ..⟩
      obtain rfl:=List.mem_singleton.1 hf
      simp [zP,zD,cmpFm,cmpN,lexI]
    · simp only [List.mem_cons,List.not_mem_nil,or_false]
      constructor
      · rintro (h | h)
        · exact .inr (.inr h)
        · exact .inl h
      · rintro (h | h | h)
        · exact .inr h
        · exact .inr h
        · exact .inl h
  have h1:normalS [zD,zD,zP] = ([zP,zD],0):=by
    unfold normalS
    rw [show [zD,zD,zP].all Fm.right = true by decide]
    simp only [if_true,List.map_cons,List.map_nil,norm_P,norm_D,setF_eq hs]
  have h2:normalS [] = ([],0):=by
    unfold normalS
    simp only [List.all_nil,if_true,List.map_nil,setF_nil]
  unfold SetS
  simp only [h1,h2,ne_eq,not_true_eq_false,if_false]
end Go.Proofs.Tryz

namespace Go.Proofs.Tryz
open Go Go.Iv
set_option maxRecDepth 4000

def tagR:List Tr → Tag
  | [] => ⟨true,.nil,0⟩
  | _ :: _ => ⟨true,.full,12⟩
theorem tagR_es (l:List Tr):okEs (tagR l) 12:=by cases l <;> simp [tagR,okEs]
mutual
def trI:Tr → IV
  | .mk rule s (.mk o fn us fs) (.mk v un ts) n sub => .agg [.raw (.int .u8 rule),.sl (tagF s.l) (fmsI s.l),.sl (tagF s.r) (fmsI s.r),.raw (.int .u8 o),.raw (.string fn),.sl (tagT us) (tmsI us),.sl (tagF fs) (fmsI fs),.raw (.bool v),.raw (.string un),.sl (tagT ts) (tmsI ts),.raw (.string n),.sl (tagR sub) (trsI sub)]
def trsI:List Tr → List IV
  | [] => []
  | a :: l => trI a :: trsI l
end
mutual
def bytT:Tr → Bool
  | .mk rule s f _ _ sub => decide (rule < 256) && opsOks s.l && opsOks s.r && opsOk f && bytTs sub
def bytTs:List Tr → Bool
  | [] => true
  | a :: l => bytT a && bytTs l
end
mutual
theorem trI_is:∀ t:Tr,bytT t = true → IsTr t (trI t)
  | .mk rule s (.mk o fn us fs) (.mk v un ts) n sub,h => by
    simp only [bytT,Bool.and_eq_true,decide_eq_true_eq] at h
    obtain ⟨⟨⟨⟨h1,h2⟩,h3⟩,h4⟩,h5⟩:=h
    have hf:=fmI_is (.mk o fn us fs) h4
    have ht:=tmI_is (.mk v un ts)
    simp only [fmI] at hf
    simp only [tmI] at ht
    simp only [IsTr]
    exact ⟨tagF s.l,fmsI s.l,tagF s.r,fmsI s.r,o,fn,tagT us,tmsI us,tagF fs,fmsI fs,v,un,tagT ts,tmsI ts,tagR sub,trsI sub,by simp only [trI],h1,tagF_es _,fmsI_is _ h2,tagF_es _,fmsI_is _ h3,hf,ht,tagR_es _,trsI_is sub h5⟩
theorem trsI_is:∀ l:List Tr,bytTs l = true → IsTrs l (trsI l)
  | [],_ => rfl
  | a :: l,h => by
    simp only [bytTs,Bool.and_eq_true] at h
    exact ⟨_,_,by simp only [trsI],trI_is a h.1,trsI_is l h.2⟩
end
def fitB (l:List Fm):Bool:=l.all fun f => decide (f.size ≤ 1000000)
theorem fit_b {l:List Fm} (h:fitB l = true):fitL l:=fun g hg => of_decide_eq_true (List.all_eq_true.1 h g hg)
def nodeBb:Tr → Bool
  | .mk _ s m u _ sub => fitB s.l && fitB s.r && decide (m.size ≤ 1000000) && decide (u.size ≤ 1000000) && sub.all fun a => fitB a.sq.l && fitB a.sq.r
theorem node_b {t:Tr} (h:nodeBb t = true):nodeOk t:=by
  obtain ⟨rule,s,m,u,n,sub⟩:=t
  simp only [nodeBb,Bool.and_eq_true,decide_eq_true_eq,List.all_eq_true] at h
  obtain ⟨⟨⟨⟨h1,h2⟩,h3⟩,h4⟩,h5⟩:=h
  exact ⟨⟨fit_b h1,fit_b h2⟩,h3,h4,fun a ha => ⟨fit_b (h5 a ha).1,fit_b (h5 a ha).2⟩⟩
theorem fitTr_b {t:Tr} (h:(t.walk []).all (fun q => nodeBb q.2) = true) (hh:t.height ≤ 1099511627776):fitTr t:=⟨fun q hq => node_b (List.all_eq_true.1 h q hq),hh⟩
theorem fit_A:fitTr trA:=fitTr_b (by decide) (by decide)
theorem fit_E:fitTr trE:=fitTr_b (by decide) (by decide)
theorem is_A:IsTr trA (trI trA):=trI_is trA (by decide)
theorem is_E:IsTr trE (trI trE):=trI_is trE (by decide)
end Go.Proofs.Tryz

namespace Go.Proofs.Tryz
open Go Go.Iv
set_option maxRecDepth 4000
variable (gl:Nat → Option IV)

theorem inOrder_3 (x y z:Operand):inOrder 3 [(0,x),(1,y),(2,z)] = true:=rfl
theorem qawake_c (G:Gl gl) (T:Gt gl) (st:ISt):ICall prog gl 16 [] st (fun r st' => r = .raw (.bool true) ∧ st' = st):=by
  have hA1:=fun st => Check_c gl G T 1 trA (trI trA) is_A fit_A st
  have hA2:=fun st => Check_c gl G T 2 trA (trI trA) is_A fit_A st
  have hE1:=fun st => Check_c gl G T 1 trE (trI trE) is_E fit_E st
  have hE2:=fun st => Check_c gl G T 2 trE (trI trE) is_E fit_E st
  simp only [Check_A1] at hA1
  simp only [Check_A2] at hA2
  simp only [Check_E1] at hE1
  simp only [Check_E2] at hE2
  refine ICall.intro (c:=cf prog gl [] [(2,[2,10,0,1,3,4,5,6,7,8,9,11]),(4,[0,2,9,10,11,13,1,3,4,5,6,7,8,12,14]),(9,[8,9,11,0,1,2,3,4,5,6,7,10,12]),(10,[0,1,2,5,6,8,3,4,7,9]),(18,[3,4,7,8,0,1,2,5,6,9,10,11,12,13,14]),(19,[0,1,3,4,7,8,2,5,6,9,10,11,12,13,14]),(21,[0,1,10,2,3,4,5,6,7,8,9,11,12]),(22,[0,1,2,3,4,5,6,7,8,9,10,14,15,11,12,13,16,17,18,19,20,21,22,23,24,25,26,27,28,29,30,31,32,33,35,34,36,37,38,39,40,41])]) func16 rfl (by show _ ≤ 241; simp) (by kernel_rfl) ?_
  simp -implicitDefEqProofs -dsimp only [go_sem,↓reduceIte,zE,zB,zA,zM,zS,zL,reduceCtorEq,fits,bsize_mk]
  repeat (first
    | (refine (q_p gl _ _ _ _).mono ?_; rintro _ st ⟨rfl,rfl⟩; simp -implicitDefEqProofs -dsimp only [go_sem,↓reduceIte,zE,zB,zA,zM,zS,zL,reduceCtorEq,fits,inOrder_one,inOrder_2,inOrder_3,bsize_mk,decide_true,fits])
    | (refine (q_no gl _ _ _ _ _ _ _).mono ?_; rintro _ st ⟨rfl,rfl⟩; simp -implicitDefEqProofs -dsimp only [go_sem,↓reduceIte,zE,zB,zA,zM,zS,zL,reduceCtorEq,fits,inOrder_one,inOrder_2,inOrder_3,bsize_mk,decide_true,fits])
    | (refine (q_two gl _ _ _ _ _ _ _ _ _ _ _ _ _ _).mono ?_; rintro _ st ⟨rfl,rfl⟩; simp -implicitDefEqProofs -dsimp only [go_sem,↓reduceIte,zE,zB,zA,zM,zS,zL,reduceCtorEq,fits,inOrder_one,inOrder_2,inOrder_3,bsize_mk,decide_true,fits])
    | (refine (q_fs gl _ _ _).mono ?_; rintro _ st ⟨rfl,rfl⟩; simp -implicitDefEqProofs -dsimp only [go_sem,↓reduceIte,zE,zB,zA,zM,zS,zL,reduceCtorEq,fits,inOrder_one,inOrder_2,inOrder_3,bsize_mk,decide_true,fits])
    | (refine (q_sq gl _ _ _ _ _).mono ?_; rintro _ st ⟨rfl,rfl⟩; simp -implicitDefEqProofs -dsimp only [go_sem,↓reduceIte,zE,zB,zA,zM,zS,zL,reduceCtorEq,fits,inOrder_one,inOrder_2,inOrder_3,bsize_mk,decide_true,fits])
    | (refine (q_v gl _ _).mono ?_; rintro _ st ⟨rfl,rfl⟩; simp -implicitDefEqProofs -dsimp only [go_sem,↓reduceIte,zE,zB,zA,zM,zS,zL,reduceCtorEq,fits,inOrder_one,inOrder_2,inOrder_3,bsize_mk,decide_true,fits]))
  refine (hA1 _).mono ?_
  rintro _ st ⟨⟨tg1,rfl,ht1⟩,rfl⟩
  simp -implicitDefEqProofs -dsimp only [go_sem,↓reduceIte,zE,zB,zA,zM,zS,zL,reduceCtorEq,fits,bsize_mk]
  refine (hA2 _).mono ?_
  rintro _ st ⟨⟨tg2,rfl,ht2⟩,rfl⟩
  simp -implicitDefEqProofs -dsimp only [go_sem,↓reduceIte,zE,zB,zA,zM,zS,zL,reduceCtorEq,fits,bsize_mk]
  repeat (first
    | (refine (q_p gl _ _ _ _).mono ?_; rintro _ st ⟨rfl,rfl⟩; simp -implicitDefEqProofs -dsimp only [go_sem,↓reduceIte,zE,zB,zA,zM,zS,zL,reduceCtorEq,fits,inOrder_one,inOrder_2,inOrder_3,bsize_mk,decide_true,fits])
    | (refine (q_no gl _ _ _ _ _ _ _).mono ?_; rintro _ st ⟨rfl,rfl⟩; simp -implicitDefEqProofs -dsimp only [go_sem,↓reduceIte,zE,zB,zA,zM,zS,zL,reduceCtorEq,fits,inOrder_one,inOrder_2,inOrder_3,bsize_mk,decide_true,fits])
    | (refine (q_two gl _ _ _ _ _ _ _ _ _ _ _ _ _ _).mono ?_; rintro _ st ⟨rfl,rfl⟩; simp -implicitDefEqProofs -dsimp only [go_sem,↓reduceIte,zE,zB,zA,zM,zS,zL,reduceCtorEq,fits,inOrder_one,inOrder_2,inOrder_3,bsize_mk,decide_true,fits])
    | (refine (q_fs gl _ _ _).mono ?_; rintro _ st ⟨rfl,rfl⟩; simp -implicitDefEqProofs -dsimp only [go_sem,↓reduceIte,zE,zB,zA,zM,zS,zL,reduceCtorEq,fits,inOrder_one,inOrder_2,inOrder_3,bsize_mk,decide_true,fits])
    | (refine (q_sq gl _ _ _ _ _).mono ?_; rintro _ st ⟨rfl,rfl⟩; simp -implicitDefEqProofs -dsimp only [go_sem,↓reduceIte,zE,zB,zA,zM,zS,zL,reduceCtorEq,fits,inOrder_one,inOrder_2,inOrder_3,bsize_mk,decide_true,fits])
    | (refine (q_v gl _ _).mono ?_; rintro _ st ⟨rfl,rfl⟩; simp -implicitDefEqProofs -dsimp only [go_sem,↓reduceIte,zE,zB,zA,zM,zS,zL,reduceCtorEq,fits,inOrder_one,inOrder_2,inOrder_3,bsize_mk,decide_true,fits]))
  refine (hE1 _).mono ?_
  rintro _ st ⟨⟨tg3,rfl,ht3⟩,rfl⟩
  simp -implicitDefEqProofs -dsimp only [go_sem,↓reduceIte,zE,zB,zA,zM,zS,zL,reduceCtorEq,fits,bsize_mk]
  refine (hE2 _).mono ?_
  rintro _ st ⟨⟨tg4,rfl,ht4⟩,rfl⟩
  have hz1:IntKind.i64.wrap (((0:Nat):Int) + ((0:Nat):Int)) = 0:=rfl
  have hz2:IntKind.i64.wrap ((0:Int) + ((0:Nat):Int)) = 0:=rfl
  have hz3:decide ((0:Int) = 0) = true:=rfl
  have hz4:decide (((195:Nat):Int) = 195) = true:=rfl
  have hz5:plI [] = []:=rfl
  have hS:=fun st => Steps_c gl trA (trI trA) is_A (by decide) st
  have hH:=fun st => Height_c gl trA (trI trA) is_A (by decide) st
  have hC:=fun st => Cuts_c gl trA (trI trA) is_A (by decide) st
  simp only [steps_A] at hS
  simp only [height_A] at hH
  simp only [cuts_A] at hC
  simp -implicitDefEqProofs -dsimp only [go_sem,↓reduceIte,zE,zB,zA,zM,zS,zL,reduceCtorEq,fits,bsize_mk,hz1,hz2,hz3,hz4,hz5,decide_true,show decide (((0:Nat):Int) = 0) = true from rfl]
  intros
  refine (hS _).mono ?_
  rintro _ st ⟨rfl,rfl⟩
  simp -implicitDefEqProofs -dsimp only [go_sem,↓reduceIte,zE,zB,zA,zM,zS,zL,reduceCtorEq,fits,bsize_mk,decide_true,show decide (((3:Nat):Int) = 3) = true from rfl]
  refine (hH _).mono ?_
  rintro _ st ⟨rfl,rfl⟩
  simp -implicitDefEqProofs -dsimp only [go_sem,↓reduceIte,zE,zB,zA,zM,zS,zL,reduceCtorEq,fits,bsize_mk,decide_true,show decide (((2:Nat):Int) = 2) = true from rfl]
  refine (hC _).mono ?_
  rintro _ st ⟨rfl,rfl⟩
  simp -implicitDefEqProofs -dsimp only [go_sem,↓reduceIte,zE,zB,zA,zM,zS,zL,reduceCtorEq,fits,bsize_mk,decide_true,show decide (((0:Nat):Int) = 0) = true from rfl]
  repeat (first
    | (refine (q_p gl _ _ _ _).mono ?_; rintro _ st ⟨rfl,rfl⟩; simp -implicitDefEqProofs -dsimp only [go_sem,↓reduceIte,zE,zB,zA,zM,zS,zL,reduceCtorEq,fits,inOrder_one,inOrder_2,inOrder_3,bsize_mk,decide_true,fits])
    | (refine (q_no gl _ _ _ _ _ _ _).mono ?_; rintro _ st ⟨rfl,rfl⟩; simp -implicitDefEqProofs -dsimp only [go_sem,↓reduceIte,zE,zB,zA,zM,zS,zL,reduceCtorEq,fits,inOrder_one,inOrder_2,inOrder_3,bsize_mk,decide_true,fits])
    | (refine (q_two gl _ _ _ _ _ _ _ _ _ _ _ _ _ _).mono ?_; rintro _ st ⟨rfl,rfl⟩; simp -implicitDefEqProofs -dsimp only [go_sem,↓reduceIte,zE,zB,zA,zM,zS,zL,reduceCtorEq,fits,inOrder_one,inOrder_2,inOrder_3,bsize_mk,decide_true,fits])
    | (refine (q_fs gl _ _ _).mono ?_; rintro _ st ⟨rfl,rfl⟩; simp -implicitDefEqProofs -dsimp only [go_sem,↓reduceIte,zE,zB,zA,zM,zS,zL,reduceCtorEq,fits,inOrder_one,inOrder_2,inOrder_3,bsize_mk,decide_true,fits])
    | (refine (q_sq gl _ _ _ _ _).mono ?_; rintro _ st ⟨rfl,rfl⟩; simp -implicitDefEqProofs -dsimp only [go_sem,↓reduceIte,zE,zB,zA,zM,zS,zL,reduceCtorEq,fits,inOrder_one,inOrder_2,inOrder_3,bsize_mk,decide_true,fits])
    | (refine (q_v gl _ _).mono ?_; rintro _ st ⟨rfl,rfl⟩; simp -implicitDefEqProofs -dsimp only [go_sem,↓reduceIte,zE,zB,zA,zM,zS,zL,reduceCtorEq,fits,inOrder_one,inOrder_2,inOrder_3,bsize_mk,decide_true,fits]))
  have hB1:=fun st => Back_c gl G T 3 ⟨[zP],[zX]⟩ (.agg [.sl (tagF [zP]) (fmsI [zP]),.sl (tagF [zX]) (fmsI [zX])]) ⟨_,_,_,_,rfl,tagF_es _,fmsI_is _ (by decide),tagF_es _,fmsI_is _ (by decide)⟩ ⟨fit_b (by decide),fit_b (by decide)⟩ 14 zX (fmI zX) (fmI_is zX (by decide)) (by decide) tm0 (tmI tm0) (tmI_is tm0) (by decide) qu st
  simp only [Back_X] at hB1
  refine (hB1 _).mono ?_
  rintro _ st ⟨tg5,xs5,rfl,ht5,hx5,rfl⟩
  obtain ⟨w5,_,rfl,hw5,rfl⟩:=hx5
  simp -implicitDefEqProofs -dsimp only [go_sem,↓reduceIte,zE,zB,zA,zM,zS,zL,reduceCtorEq,fits,inOrder_one,bsize_mk,decide_true]
  repeat (first
    | (refine (q_p gl _ _ _ _).mono ?_; rintro _ st ⟨rfl,rfl⟩; simp -implicitDefEqProofs -dsimp only [go_sem,↓reduceIte,zE,zB,zA,zM,zS,zL,reduceCtorEq,fits,inOrder_one,inOrder_2,inOrder_3,bsize_mk,decide_true,fits])
    | (refine (q_no gl _ _ _ _ _ _ _).mono ?_; rintro _ st ⟨rfl,rfl⟩; simp -implicitDefEqProofs -dsimp only [go_sem,↓reduceIte,zE,zB,zA,zM,zS,zL,reduceCtorEq,fits,inOrder_one,inOrder_2,inOrder_3,bsize_mk,decide_true,fits])
    | (refine (q_two gl _ _ _ _ _ _ _ _ _ _ _ _ _ _).mono ?_; rintro _ st ⟨rfl,rfl⟩; simp -implicitDefEqProofs -dsimp only [go_sem,↓reduceIte,zE,zB,zA,zM,zS,zL,reduceCtorEq,fits,inOrder_one,inOrder_2,inOrder_3,bsize_mk,decide_true,fits])
    | (refine (q_fs gl _ _ _).mono ?_; rintro _ st ⟨rfl,rfl⟩; simp -implicitDefEqProofs -dsimp only [go_sem,↓reduceIte,zE,zB,zA,zM,zS,zL,reduceCtorEq,fits,inOrder_one,inOrder_2,inOrder_3,bsize_mk,decide_true,fits])
    | (refine (q_sq gl _ _ _ _ _).mono ?_; rintro _ st ⟨rfl,rfl⟩; simp -implicitDefEqProofs -dsimp only [go_sem,↓reduceIte,zE,zB,zA,zM,zS,zL,reduceCtorEq,fits,inOrder_one,inOrder_2,inOrder_3,bsize_mk,decide_true,fits])
    | (refine (q_v gl _ _).mono ?_; rintro _ st ⟨rfl,rfl⟩; simp -implicitDefEqProofs -dsimp only [go_sem,↓reduceIte,zE,zB,zA,zM,zS,zL,reduceCtorEq,fits,inOrder_one,inOrder_2,inOrder_3,bsize_mk,decide_true,fits]))
  have hB2:=fun st => Back_c gl G T 3 ⟨[zY],[zX]⟩ (.agg [.sl (tagF [zY]) (fmsI [zY]),.sl (tagF [zX]) (fmsI [zX])]) ⟨_,_,_,_,rfl,tagF_es _,fmsI_is _ (by decide),tagF_es _,fmsI_is _ (by decide)⟩ ⟨fit_b (by decide),fit_b (by decide)⟩ 14 zX (fmI zX) (fmI_is zX (by decide)) (by decide) tm0 (tmI tm0) (tmI_is tm0) (by decide) qu st
  simp only [Back_Y] at hB2
  refine (hB2 _).mono ?_
  rintro _ st ⟨tg6,xs6,rfl,ht6,hx6,rfl⟩
  simp -implicitDefEqProofs -dsimp only [go_sem,↓reduceIte,zE,zB,zA,zM,zS,zL,reduceCtorEq,fits,inOrder_one,bsize_mk,decide_true]
  repeat (first
    | (refine (q_p gl _ _ _ _).mono ?_; rintro _ st ⟨rfl,rfl⟩; simp -implicitDefEqProofs -dsimp only [go_sem,↓reduceIte,zE,zB,zA,zM,zS,zL,reduceCtorEq,fits,inOrder_one,inOrder_2,inOrder_3,bsize_mk,decide_true,fits])
    | (refine (q_no gl _ _ _ _ _ _ _).mono ?_; rintro _ st ⟨rfl,rfl⟩; simp -implicitDefEqProofs -dsimp only [go_sem,↓reduceIte,zE,zB,zA,zM,zS,zL,reduceCtorEq,fits,inOrder_one,inOrder_2,inOrder_3,bsize_mk,decide_true,fits])
    | (refine (q_two gl _ _ _ _ _ _ _ _ _ _ _ _ _ _).mono ?_; rintro _ st ⟨rfl,rfl⟩; simp -implicitDefEqProofs -dsimp only [go_sem,↓reduceIte,zE,zB,zA,zM,zS,zL,reduceCtorEq,fits,inOrder_one,inOrder_2,inOrder_3,bsize_mk,decide_true,fits])
    | (refine (q_fs gl _ _ _).mono ?_; rintro _ st ⟨rfl,rfl⟩; simp -implicitDefEqProofs -dsimp only [go_sem,↓reduceIte,zE,zB,zA,zM,zS,zL,reduceCtorEq,fits,inOrder_one,inOrder_2,inOrder_3,bsize_mk,decide_true,fits])
    | (refine (q_sq gl _ _ _ _ _).mono ?_; rintro _ st ⟨rfl,rfl⟩; simp -implicitDefEqProofs -dsimp only [go_sem,↓reduceIte,zE,zB,zA,zM,zS,zL,reduceCtorEq,fits,inOrder_one,inOrder_2,inOrder_3,bsize_mk,decide_true,fits])
    | (refine (q_v gl _ _).mono ?_; rintro _ st ⟨rfl,rfl⟩; simp -implicitDefEqProofs -dsimp only [go_sem,↓reduceIte,zE,zB,zA,zM,zS,zL,reduceCtorEq,fits,inOrder_one,inOrder_2,inOrder_3,bsize_mk,decide_true,fits]))
  have hD:=fun st => Set_c gl G T ⟨[zD,zD,zP],[]⟩ (.agg [.sl (tagF [zD,zD,zP]) (fmsI [zD,zD,zP]),.sl (tagF []) (fmsI [])]) ⟨_,_,_,_,rfl,tagF_es _,fmsI_is _ (by decide),tagF_es _,fmsI_is _ (by decide)⟩ ⟨fit_b (by decide),fit_b (by decide)⟩ (by decide) st
  simp only [Set_D] at hD
  refine (hD _).mono ?_
  rintro _ st ⟨⟨y,rfl,hy⟩,rfl⟩
  obtain ⟨ty1,xy1,ty2,xy2,rfl,ey1,iy1,ey2,iy2⟩:=hy
  obtain ⟨tw1,xw1,tw2,xw2,rfl,ew1,iw1,ew2,iw2⟩:=hw5
  have z1:decide (((1:Nat):Int) = 1) = true:=rfl
  have z2:decide (((193:Nat):Int) = 193) = true:=rfl
  have z3:decide (((0:Nat):Int) = 0) = true:=rfl
  simp -implicitDefEqProofs -dsimp only [go_sem,↓reduceIte,zE,zB,zA,zM,zS,zL,reduceCtorEq,fits,inOrder_one,bsize_mk,decide_true,reTag_es ht5,Int.le_refl,Int.toNat_zero,z1,z2,z3]
  repeat (first
    | (refine (q_p gl _ _ _ _).mono ?_; rintro _ st ⟨rfl,rfl⟩; simp -implicitDefEqProofs -dsimp only [go_sem,↓reduceIte,zE,zB,zA,zM,zS,zL,reduceCtorEq,fits,inOrder_one,inOrder_2,inOrder_3,bsize_mk,decide_true,fits])
    | (refine (q_no gl _ _ _ _ _ _ _).mono ?_; rintro _ st ⟨rfl,rfl⟩; simp -implicitDefEqProofs -dsimp only [go_sem,↓reduceIte,zE,zB,zA,zM,zS,zL,reduceCtorEq,fits,inOrder_one,inOrder_2,inOrder_3,bsize_mk,decide_true,fits])
    | (refine (q_two gl _ _ _ _ _ _ _ _ _ _ _ _ _ _).mono ?_; rintro _ st ⟨rfl,rfl⟩; simp -implicitDefEqProofs -dsimp only [go_sem,↓reduceIte,zE,zB,zA,zM,zS,zL,reduceCtorEq,fits,inOrder_one,inOrder_2,inOrder_3,bsize_mk,decide_true,fits])
    | (refine (q_fs gl _ _ _).mono ?_; rintro _ st ⟨rfl,rfl⟩; simp -implicitDefEqProofs -dsimp only [go_sem,↓reduceIte,zE,zB,zA,zM,zS,zL,reduceCtorEq,fits,inOrder_one,inOrder_2,inOrder_3,bsize_mk,decide_true,fits])
    | (refine (q_sq gl _ _ _ _ _).mono ?_; rintro _ st ⟨rfl,rfl⟩; simp -implicitDefEqProofs -dsimp only [go_sem,↓reduceIte,zE,zB,zA,zM,zS,zL,reduceCtorEq,fits,inOrder_one,inOrder_2,inOrder_3,bsize_mk,decide_true,fits])
    | (refine (q_v gl _ _).mono ?_; rintro _ st ⟨rfl,rfl⟩; simp -implicitDefEqProofs -dsimp only [go_sem,↓reduceIte,zE,zB,zA,zM,zS,zL,reduceCtorEq,fits,inOrder_one,inOrder_2,inOrder_3,bsize_mk,decide_true,fits]))
  have hS1:=fun st => kSameSeq_c gl ⟨[zP],[zX,zU]⟩ ⟨[zP],[zX,zU]⟩ (.agg [.sl tw1 xw1,.sl tw2 xw2]) (.agg [.sl (tagF [zP]) (fmsI [zP]),.sl (tagF [zX,zU]) (fmsI [zX,zU])]) ⟨_,_,_,_,rfl,ew1,iw1,ew2,iw2⟩ ⟨_,_,_,_,rfl,tagF_es _,fmsI_is _ (by decide),tagF_es _,fmsI_is _ (by decide)⟩ st
  have hS2:=fun st => kSameSeq_c gl ⟨[zP,zD],[]⟩ ⟨[zP,zD],[]⟩ (.agg [.sl ty1 xy1,.sl ty2 xy2]) (.agg [.sl (tagF [zP,zD]) (fmsI [zP,zD]),.sl (tagF []) (fmsI [])]) ⟨_,_,_,_,rfl,ey1,iy1,ey2,iy2⟩ ⟨_,_,_,_,rfl,tagF_es _,fmsI_is _ (by decide),tagF_es _,fmsI_is _ (by decide)⟩ st
  refine (hS1 _).mono ?_
  rintro _ st ⟨rfl,rfl⟩
  simp -implicitDefEqProofs -dsimp only [go_sem,↓reduceIte,zE,zB,zA,zM,zS,zL,reduceCtorEq,fits,inOrder_one,inOrder_2,bsize_mk,decide_true,show ∀ s:Sq,eqB s s = true from fun s => eqB_true.2 rfl,z1,z2,z3]
  repeat (first
    | (refine (q_p gl _ _ _ _).mono ?_; rintro _ st ⟨rfl,rfl⟩; simp -implicitDefEqProofs -dsimp only [go_sem,↓reduceIte,zE,zB,zA,zM,zS,zL,reduceCtorEq,fits,inOrder_one,inOrder_2,inOrder_3,bsize_mk,decide_true,fits])
    | (refine (q_no gl _ _ _ _ _ _ _).mono ?_; rintro _ st ⟨rfl,rfl⟩; simp -implicitDefEqProofs -dsimp only [go_sem,↓reduceIte,zE,zB,zA,zM,zS,zL,reduceCtorEq,fits,inOrder_one,inOrder_2,inOrder_3,bsize_mk,decide_true,fits])
    | (refine (q_two gl _ _ _ _ _ _ _ _ _ _ _ _ _ _).mono ?_; rintro _ st ⟨rfl,rfl⟩; simp -implicitDefEqProofs -dsimp only [go_sem,↓reduceIte,zE,zB,zA,zM,zS,zL,reduceCtorEq,fits,inOrder_one,inOrder_2,inOrder_3,bsize_mk,decide_true,fits])
    | (refine (q_fs gl _ _ _).mono ?_; rintro _ st ⟨rfl,rfl⟩; simp -implicitDefEqProofs -dsimp only [go_sem,↓reduceIte,zE,zB,zA,zM,zS,zL,reduceCtorEq,fits,inOrder_one,inOrder_2,inOrder_3,bsize_mk,decide_true,fits])
    | (refine (q_sq gl _ _ _ _ _).mono ?_; rintro _ st ⟨rfl,rfl⟩; simp -implicitDefEqProofs -dsimp only [go_sem,↓reduceIte,zE,zB,zA,zM,zS,zL,reduceCtorEq,fits,inOrder_one,inOrder_2,inOrder_3,bsize_mk,decide_true,fits])
    | (refine (q_v gl _ _).mono ?_; rintro _ st ⟨rfl,rfl⟩; simp -implicitDefEqProofs -dsimp only [go_sem,↓reduceIte,zE,zB,zA,zM,zS,zL,reduceCtorEq,fits,inOrder_one,inOrder_2,inOrder_3,bsize_mk,decide_true,fits]))
  refine (hS2 _).mono ?_
  rintro _ st ⟨rfl,rfl⟩
  simp -implicitDefEqProofs -dsimp only [go_sem,↓reduceIte,zE,zB,zA,zM,zS,zL,reduceCtorEq,fits,inOrder_one,inOrder_2,bsize_mk,decide_true,show ∀ s:Sq,eqB s s = true from fun s => eqB_true.2 rfl,z1,z2,z3]
  exact outK_self ⟨rfl,rfl⟩
end Go.Proofs.Tryz
