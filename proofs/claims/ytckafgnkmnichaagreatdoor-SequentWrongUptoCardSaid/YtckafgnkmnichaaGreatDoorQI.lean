/- Of small trees: what the check is shown for.
   The plain law of SequentTurned, the part of the normal forms.
   Walks: room, turned, turn.
   What the check is shown for, node by node; how long a set is.
   The plain law of SequentWider: a formula more, and no formulas at all.
   The plain law of SequentWrong: one defect in the last step.
   Walks: SequentWrong, but for the third defect.
   The check, with its place in new memory. -/
import Derived.Test.YtckafgnkmnichaaGreatDoorQH
import Derived.Test.YtckafgnkmnichaaGreatDoorQF
import Derived.Test.YtckafgnkmnichaaGreatDoorKG
import Derived.Test.YtckafgnkmnichaaGreatDoorLA
import Derived.Test.YtckafgnkmnichaaGreatDoorQG
set_option linter.all false
namespace Go.Proofs.Tryz
open Go Go.Iv

mutual
theorem size_wTm:∀ t:Tm,t.size ≤ wTm t
  | .mk _ n us => by have:=size_wTms us; simp only [wTm,Tm.size]; omega
theorem size_wTms:∀ l:List Tm,sizeTms l ≤ wTms l
  | [] => Nat.le_refl _
  | a :: l => by have:=size_wTm a; have:=size_wTms l; simp only [wTms,sizeTms]; omega
end
mutual
theorem size_wFm:∀ f:Fm,f.size ≤ wFm f
  | .mk _ n us sub => by have:=size_wTms us; have:=size_wFms sub; simp only [wFm,Fm.size]; omega
theorem size_wFms:∀ l:List Fm,sizeFms l ≤ wFms l
  | [] => Nat.le_refl _
  | a :: l => by have:=size_wFm a; have:=size_wFms l; simp only [wFms,sizeFms]; omega
end
theorem nodeB_true {s:Sq} {f:Fm} {u:Tm} {n:ByteArray} (h:nodeB s f u n = true):wFms s.l + wFms s.r ≤ 300 ∧ wFm f ≤ 300 ∧ wTm u ≤ 300 ∧ n.size ≤ 100:=by
  unfold nodeB at h
  simp only [Bool.and_eq_true,decide_eq_true_eq,Bool.not_eq_true',decide_eq_false_iff_not] at h
  omega
theorem fitSq_of {s:Sq} (h:wFms s.l + wFms s.r ≤ 300):fitSq s:=by
  have:=size_wFms s.l
  have:=size_wFms s.r
  exact ⟨fun f hf => by have:=sizeFmsMem hf; omega,fun f hf => by have:=sizeFmsMem hf; omega⟩
theorem okTs_mem:∀ {l:List Tr} {a:Tr},okTs l = true → a ∈ l → okT a = true
  | b :: l,a,h,ha => by
    simp only [okTs,Bool.and_eq_true] at h
    rcases List.mem_cons.1 ha with rfl | ha
    · exact h.1
    · exact okTs_mem h.2 ha
theorem okT_node:∀ {t:Tr},okT t = true → nodeOk t
  | .mk rule s m u n sub,h => by
    simp only [okT,Bool.and_eq_true] at h
    obtain ⟨h1,h2,h3,_⟩:=nodeB_true h.1
    have:=size_wFm m
    have:=size_wTm u
    refine ⟨fitSq_of h1,by omega,by omega,fun a ha => ?_⟩
    have:=okTs_mem h.2 ha
    obtain ⟨rule',s',m',u',n',sub'⟩:=a
    simp only [okT,Bool.and_eq_true] at this
    exact fitSq_of (nodeB_true this.1).1
end Go.Proofs.Tryz

namespace Go.Proofs.Tryz
open Go Go.Iv

end Go.Proofs.Tryz

open Nat renaming reduceEqDiff → zE,reduceBEq → zB,reduceAdd → zA,reduceMul → zM,reduceSub → zS,reduceLeDiff → zL
attribute [local go_sem] Go.Iv.cf Go.Iv.setAt List.all_cons List.all_nil Bool.and_self Bool.true_and Bool.and_true Bool.false_and Bool.and_false Bool.not_true Bool.not_false List.mem_nil_iff if_false if_true beq_self_eq_true Nat.zero_add Nat.add_zero List.getElem?_cons_zero List.getElem?_cons_succ Option.map_some List.mem_cons or_false false_or or_true true_or Nat.sub_zero forall_const Int.toNat_natCast List.length_cons List.length_nil List.map_cons List.map_nil List.take_succ_cons List.take_zero List.drop_zero List.drop_succ_cons List.cons_append List.nil_append List.append_nil and_true true_and and_self true_implies List.zip_cons_cons List.zip_nil_left
namespace Go.Proofs.Tryz
open Go Go.Iv
set_option maxRecDepth 4000
variable (gl:Nat → Option IV)

def rmC (t:Tr):Prop:=∀ (x:IV) (_:IsTr t x) (_:t.steps ≤ 1099511627776) (st:ISt),ICall prog gl 31 [x] st (fun r st' => r = .raw (.bool (roomB t)) ∧ st' = st)
theorem roomBs_append:∀ l m:List Tr,roomBs (l ++ m) = (roomBs l && roomBs m)
  | [],m => by simp [roomBs]
  | a :: l,m => by simp only [List.cons_append,roomBs,roomBs_append l m,Bool.and_assoc]
theorem roomBs_take {l:List Tr} {k:Nat} {a:Tr} (h:l[k]? = some a):roomBs (l.take (k + 1)) = (roomBs (l.take k) && roomB a):=by
  rw [take_get h,roomBs_append]; simp [roomBs]
theorem roomBs_no {l:List Tr} {a:Tr} (h:a ∈ l) (ha:roomB a = false):roomBs l = false:=by
  induction l with
  | nil => cases h
  | cons b l ih =>
    simp only [roomBs]
    rcases List.mem_cons.1 h with rfl | h
    · rw [ha]; rfl
    · rw [ih h,Bool.and_false]
theorem room_step (rule:Nat) (s:Sq) (f:Fm) (u:Tm) (n:ByteArray) (sub:List Tr) (IH:∀ a ∈ sub,rmC gl a):rmC gl (.mk rule s f u n sub):=by
  intro x hx hst st
  obtain ⟨tl,xl,tr,xr,op,fn,ta,xa,tb,xb,v,un,tu,xu,ts,xs,rfl,hru,e1,i1,e2,i2,hy,hz,e3,i3⟩:=hx.mk
  simp only [Tr.steps] at hst
  have d1:decide ((64:Int) ≤ ((s.l.length:Nat):Int)) = !decide (s.l.length < 64):=by
    rw [← decide_not,decide_eq_decide]; omega
  have d2:decide ((64:Int) ≤ ((s.r.length:Nat):Int)) = !decide (s.r.length < 64):=by
    rw [← decide_not,decide_eq_decide]; omega
  have hlsub:sub.length ≤ stepsTrs sub:=by
    clear IH hx i3 hst
    induction sub with
    | nil => simp
    | cons a l ih =>
      obtain ⟨_,_,_,_,_,s2⟩:=a
      simp only [stepsTrs,Tr.steps,List.length_cons]; omega
  refine ICall.intro (c:=cf prog gl [] []) func31 rfl (by show _ ≤ 30; simp) (by kernel_rfl) ?_
  cases q1:decide (s.l.length < 64)
  · rw [q1] at d1
    simp -implicitDefEqProofs -dsimp only [go_sem,↓reduceIte,zE,zB,zA,zM,zS,zL,reduceCtorEq,fits,i1.len,d1]
    intros
    exact outK_self ⟨by simp only [roomB,q1,Bool.false_and],rfl⟩
  rw [q1] at d1
  cases q2:decide (s.r.length < 64)
  · rw [q2] at d2
    simp -implicitDefEqProofs -dsimp only [go_sem,↓reduceIte,zE,zB,zA,zM,zS,zL,reduceCtorEq,fits,i1.len,i2.len,d1,d2]
    intros
    exact outK_self ⟨by simp only [roomB,q1,q2,Bool.false_and,Bool.and_false],rfl⟩
  rw [q2] at d2
  simp -implicitDefEqProofs -dsimp only [go_sem,↓reduceIte,zE,zB,zA,zM,zS,zL,reduceCtorEq,fits,i1.len,i2.len,d1,d2]
  intros
  refine LoopC.ctr sub.length (fun k fr st' ds => roomBs (sub.take k) = true ∧ fr 1 = .box [.raw (.int .u8 rule),.sl tl xl,.sl tr xr,.raw (.int .u8 op),.raw (.string fn),.sl ta xa,.sl tb xb,.raw (.bool v),.raw (.string un),.sl tu xu,.raw (.string n),.sl ts xs] ∧ fr 3 = .iv (.raw (.int .i64 k)) ∧ st' = st ∧ ds = []) ?_ ?_ ?_
  · simp -implicitDefEqProofs -dsimp only [go_sem,↓reduceIte,zE,zB,zA,zM,zS,zL,reduceCtorEq]
    exact ⟨rfl,rfl⟩
  · rintro k fr st1 _ hlt ⟨hk,f1,f3,rfl,rfl⟩
    obtain ⟨a,ha⟩:=get_of_lt hlt
    obtain ⟨z,hkz,hzz⟩:=i3.get ha
    have hcall:=fun st => IH a (List.mem_of_getElem? ha) z hzz (by have:=steps_le_of_mem (List.mem_of_getElem? ha); omega) st
    obtain ⟨rule',tl',xl',tr',xr',op',fn',ta',xa',tb',xb',v',un',tu',xu',n',ts',xs',rfl⟩:=trAgg hzz
    simp -implicitDefEqProofs -dsimp only [go_sem,↓reduceIte,zE,zB,zA,zM,zS,zL,reduceCtorEq,f1,f3,i3.len,lt_i hlt,reTag_es e3,Int.natCast_nonneg,hkz,fits]
    intro _
    refine (hcall _).mono ?_
    rintro _ st2 ⟨rfl,rfl⟩
    cases hra:roomB a
    · simp -implicitDefEqProofs -dsimp only [go_sem,↓reduceIte,zE,zB,zA,zM,zS,zL,reduceCtorEq,f1,f3,fits]
      exact outK_self ⟨by simp only [roomB,roomBs_no (List.mem_of_getElem? ha) hra,Bool.and_false],rfl⟩
    · simp -implicitDefEqProofs -dsimp only [go_sem,↓reduceIte,zE,zB,zA,zM,zS,zL,reduceCtorEq,f1,f3,fits,w_succ hlt (show sub.length ≤ 281474976710656 by omega)]
      rw [roomBs_take ha,hk,hra]; rfl
  · rintro fr st1 _ ⟨hk,f1,f3,rfl,rfl⟩
    rw [List.take_length] at hk
    simp -implicitDefEqProofs -dsimp only [go_sem,↓reduceIte,zE,zB,zA,zM,zS,zL,reduceCtorEq,f1,f3,i3.len,nlt_i (Nat.lt_irrefl _)]
    intro _
    exact outK_self ⟨by simp only [roomB,q1,q2,hk,Bool.and_self],rfl⟩
theorem room_all:∀ (k:Nat) (t:Tr),SizeOf.sizeOf t < k → rmC gl t
  | 0,t,h => by omega
  | k + 1,.mk r sq f u n sub,h => room_step gl r sq f u n sub (fun a ha => room_all k a (by
      have:=List.sizeOf_lt_of_mem ha
      simp at h; omega))
theorem room_c (t:Tr):rmC gl t:=room_all gl _ t (Nat.lt_succ_self _)

def zS:IV:=.sl ⟨true,.nil,0⟩ []
theorem IsTrs.one {a:Tr} {x:IV} (h:IsTr a x):IsTrs [a] [x]:=by simp only [IsTrs]; exact ⟨x,[],rfl,h,rfl⟩
end Go.Proofs.Tryz

namespace Go.Proofs.Tryz
open Go Go.Iv

mutual
def NA:Tr → Prop
  | .mk _ s m u _ sub => fitSq s ∧ m.size ≤ 1000000 ∧ u.size ≤ 1000000 ∧ NAs sub
def NAs:List Tr → Prop
  | [] => True
  | a :: l => NA a ∧ NAs l
end
theorem NA_sq:∀ {t:Tr},NA t → fitSq t.sq
  | .mk _ _ _ _ _ _,h => by simp only [NA] at h; exact h.1
theorem NAs_mem:∀ {l:List Tr} {a:Tr},NAs l → a ∈ l → NA a
  | b :: l,a,h,ha => by
    simp only [NAs] at h
    rcases List.mem_cons.1 ha with rfl | ha
    · exact h.1
    · exact NAs_mem h.2 ha
theorem NAs_of:∀ {l:List Tr},(∀ a ∈ l,NA a) → NAs l
  | [],_ => trivial
  | b :: l,h => ⟨h b (by simp),NAs_of fun a ha => h a (by simp [ha])⟩
theorem NA_node:∀ {t:Tr},NA t → nodeOk t
  | .mk _ _ _ _ _ _,h => by
    simp only [NA] at h
    exact ⟨h.1,h.2.1,h.2.2.1,fun a ha => NA_sq (NAs_mem h.2.2.2 ha)⟩
mutual
theorem NA_walk:∀ (p:List Nat) (t:Tr),NA t → ∀ q ∈ t.walk p,NA q.2
  | p,.mk rule s m u n sub,h,q,hq => by
    simp only [Tr.walk,List.mem_cons] at hq
    rcases hq with rfl | hq
    · exact h
    · simp only [NA] at h
      exact NAs_walk p 0 sub h.2.2.2 q hq
theorem NAs_walk:∀ (p:List Nat) (i:Nat) (l:List Tr),NAs l → ∀ q ∈ walkTrs p i l,NA q.2
  | _,_,[],_,q,hq => by cases hq
  | p,i,a :: l,h,q,hq => by
    simp only [NAs] at h
    simp only [walkTrs,List.mem_append] at hq
    rcases hq with hq | hq
    · exact NA_walk _ a h.1 q hq
    · exact NAs_walk p (i + 1) l h.2 q hq
end
theorem NA_fit {t:Tr} (h:NA t) (hs:t.steps ≤ 1099511627776):fitTr t:=⟨fun q hq => NA_node (NA_walk [] t h q hq),Nat.le_trans t.height_le_steps hs⟩
mutual
theorem okT_NA:∀ {t:Tr},okT t = true → NA t
  | .mk _ s m u n sub,h => by
    have hn:=okT_node h
    simp only [okT,Bool.and_eq_true] at h
    exact ⟨hn.1,hn.2.1,hn.2.2.1,okTs_NAs h.2⟩
theorem okTs_NAs:∀ {l:List Tr},okTs l = true → NAs l
  | [],_ => trivial
  | a :: l,h => by
    simp only [okTs,Bool.and_eq_true] at h
    exact ⟨okT_NA h.1,okTs_NAs h.2⟩
end
end Go.Proofs.Tryz

namespace Go.Proofs.Tryz
open Go Go.Iv

theorem stepS_of {ca:Nat} {s:Sq} {rule:Nat} {main:Fm} {term:Tm} {name:ByteArray} {r:Rw} (h1:validB ca s = true) (h2:rowS ca rule = some r) (h3:(addsS ca rule r main term name).2 = 0)
    (h4:r.left = true → hasF s.l main = true) (h5:r.right = true → hasF s.r main = true) (h6:r.asks = 2 → freeIn s name = false):stepS ca s rule main term name = ((addsS ca rule r main term name).1,0):=by
  unfold stepS
  have e1:(r.left && !hasF s.l main) = false:=by
    cases hl:r.left
    · rfl
    · rw [h4 hl]; rfl
  have e2:(r.right && !hasF s.r main) = false:=by
    cases hl:r.right
    · rfl
    · rw [h5 hl]; rfl
  have e3:(decide (r.asks = 2) && freeIn s name) = false:=by
    by_cases hl:r.asks = 2
    · rw [h6 hl]; simp
    · simp [hl]
  simp only [h1,h2,h3,e1,e2,e3,Bool.not_true,Bool.false_eq_true,if_false,Bool.or_false,decide_eq_true_eq,ne_eq,not_true_eq_false]
  rw [if_neg (by decide)]
theorem stepS_zero {ca:Nat} {s:Sq} {rule:Nat} {main:Fm} {term:Tm} {name:ByteArray} (h:(stepS ca s rule main term name).2 = 0) :
    ∃ r,validB ca s = true ∧ rowS ca rule = some r ∧ (addsS ca rule r main term name).2 = 0 ∧ (r.left = true → hasF s.l main = true) ∧ (r.right = true → hasF s.r main = true) ∧ (r.asks = 2 → freeIn s name = false) ∧
      stepS ca s rule main term name = ((addsS ca rule r main term name).1,0):=by
  have hv:=stepS_valid h
  cases hr:rowS ca rule with
  | none => unfold stepS at h; rw [hv,hr] at h; simp at h
  | some r =>
    have key:(addsS ca rule r main term name).2 = 0 ∧ (r.left && !hasF s.l main) = false ∧ (r.right && !hasF s.r main) = false ∧ (decide (r.asks = 2) && freeIn s name) = false:=by
      unfold stepS at h
      rw [hv,hr] at h
      simp only [Bool.not_true,Bool.false_eq_true,if_false] at h
      split at h
      · simp at h
      · rename_i h1
        simp only [Bool.or_eq_true,not_or,Bool.not_eq_true] at h1
        split at h
        · rename_i h2; exact absurd h h2
        · rename_i h2
          split at h
          · simp at h
          · rename_i h3
            exact ⟨Decidable.not_not.1 h2,h1.1.2,h1.2,by simpa using h3⟩
    obtain ⟨k1,k2,k3,k4⟩:=key
    have q4:r.left = true → hasF s.l main = true:=fun hl => by rw [hl] at k2; simpa using k2
    have q5:r.right = true → hasF s.r main = true:=fun hl => by rw [hl] at k3; simpa using k3
    have q6:r.asks = 2 → freeIn s name = false:=fun hl => by rw [hl] at k4; simpa using k4
    exact ⟨r,hv,rfl,k1,q4,q5,q6,stepS_of hv hr k1 q4 q5 q6⟩
theorem CheckS_unfold {ca:Nat} {t:Tr} (hk:knownB ca = true) (hs:t.steps ≤ 300):CheckS ca t = firstBad (checkS ca) (t.walk []):=by
  unfold CheckS
  rw [hk]
  simp only [Bool.not_true,Bool.false_eq_true,if_false]
  rw [if_neg (by omega)]
theorem CheckS_zero {ca rule:Nat} {s:Sq} {f:Fm} {u:Tm} {n:ByteArray} {sub:List Tr} (h:(CheckS ca (.mk rule s f u n sub)).2 = 0) :
    knownB ca = true ∧ (Tr.mk rule s f u n sub).steps ≤ 300 ∧ checkS ca (.mk rule s f u n sub) = 0 ∧ (firstSub (checkS ca) 0 sub).2 = 0:=by
  cases hk:knownB ca
  · rw [CheckS_arg_place ca _ hk] at h; simp at h
  · by_cases hs:(Tr.mk rule s f u n sub).steps ≤ 300
    · rw [CheckS_unfold hk hs,firstBad_tree] at h
      by_cases hc:checkS ca (.mk rule s f u n sub) = 0
      · rw [if_pos hc] at h; exact ⟨rfl,hs,hc,h⟩
      · rw [if_neg hc] at h; exact absurd h hc
    · unfold CheckS at h
      rw [hk] at h
      simp only [Bool.not_true,Bool.false_eq_true,if_false] at h
      rw [if_pos (by omega)] at h
      simp at h
theorem CheckS_root {ca rule:Nat} {s:Sq} {f:Fm} {u:Tm} {n:ByteArray} {sub:List Tr} (hk:knownB ca = true) (hs:(Tr.mk rule s f u n sub).steps ≤ 300) {e:Nat} (he:(stepS ca s rule f u n).2 = e) (h0:e ≠ 0):CheckS ca (.mk rule s f u n sub) = ([],e):=by
  have hc:checkS ca (.mk rule s f u n sub) = e:=by simp only [checkS,he,if_pos h0]
  rw [CheckS_unfold hk hs,firstBad_tree,hc,if_neg h0]
def addSq (ca:Nat) (rt:Bool) (s:Sq) (f:Fm):Sq:=if rt && decide (ca ≠ 2) then ⟨s.l,s.r ++ [f]⟩ else ⟨s.l ++ [f],s.r⟩
theorem validB_known {ca:Nat} {s:Sq} (h:validB ca s = true):knownB ca = true:=by
  unfold validB at h
  simp only [Bool.and_eq_true] at h
  exact h.1.1.1.1.1
theorem validB_add {ca:Nat} {rt:Bool} {s:Sq} {f:Fm} (h:validB ca s = true) (h1:s.l.length < 64) (h2:s.r.length < 64):validB ca (addSq ca rt s f) = fmB ca f:=by
  unfold validB at h
  simp only [Bool.and_eq_true,decide_eq_true_eq] at h
  obtain ⟨⟨⟨⟨⟨q1,q2⟩,q3⟩,q4⟩,q5⟩,q6⟩:=h
  unfold addSq
  split
  · rename_i hc
    simp only [Bool.and_eq_true,decide_eq_true_eq] at hc
    unfold validB
    simp only [q1,q4,List.all_append,q5,List.all_cons,List.all_nil,List.length_append,List.length_cons,List.length_nil,decide_eq_true (show s.l.length ≤ 64 by omega),decide_eq_true (show s.r.length + (0 + 1) ≤ 64 by omega),decide_eq_true hc.2,Bool.true_and,Bool.and_true,Bool.true_or]
  · unfold validB
    simp only [q1,q4,List.all_append,q5,q6,List.all_cons,List.all_nil,List.length_append,List.length_cons,List.length_nil,decide_eq_true (show s.r.length ≤ 64 by omega),decide_eq_true (show s.l.length + (0 + 1) ≤ 64 by omega),Bool.true_and,Bool.and_true]
theorem addSq_sub (ca:Nat) (rt:Bool) (s:Sq) (f:Fm):(∀ x ∈ s.l,x ∈ (addSq ca rt s f).l) ∧ ∀ x ∈ s.r,x ∈ (addSq ca rt s f).r:=by
  unfold addSq
  split
  · exact ⟨fun _ h => h,fun _ h => List.mem_append_left _ h⟩
  · exact ⟨fun _ h => List.mem_append_left _ h,fun _ h => h⟩
theorem hasF_mono {l m:List Fm} (h:∀ x ∈ l,x ∈ m) {f:Fm} (k:hasF l f = true):hasF m f = true:=by
  obtain ⟨g,hg,he⟩:=hasF_true.1 k
  exact hasF_true.2 ⟨g,h g hg,he⟩
theorem freeIn_add (ca:Nat) (rt:Bool) (s:Sq) (f:Fm) (n:ByteArray):freeIn (addSq ca rt s f) n = (freeIn s n || memB (frF f) n):=by
  unfold addSq
  split
  · simp [freeIn,Bool.or_assoc]
  · simp only [freeIn,List.any_append,List.any_cons,List.any_nil,Bool.or_false]
    cases s.l.any (fun f => memB (frF f) n) <;> cases s.r.any (fun f => memB (frF f) n) <;> cases memB (frF f) n <;> rfl
theorem premsB_mono {s s':Sq} (h:(∀ x ∈ s.l,x ∈ s'.l) ∧ ∀ x ∈ s.r,x ∈ s'.r):∀ (l:List Sq) (ts:List Tr),premsB s l ts = true → premsB s' l ts = true
  | [],ts,_ => by cases ts <;> rfl
  | m :: l,[],_ => rfl
  | m :: l,t :: ts,k => by
    simp only [premsB,Bool.and_eq_true,withinB] at k ⊢
    refine ⟨⟨allF_true.2 fun f hf => hasF_mono (fun x hx => ?_) (allF_true.1 k.1.1 f hf),allF_true.2 fun f hf => hasF_mono (fun x hx => ?_) (allF_true.1 k.1.2 f hf)⟩,premsB_mono h l ts k.2⟩
    · simp only [Sq.plus,List.mem_append] at hx ⊢
      exact hx.imp (h.1 x) id
    · simp only [Sq.plus,List.mem_append] at hx ⊢
      exact hx.imp (h.2 x) id
section
variable {ca rule:Nat} {s:Sq} {f:Fm} {u:Tm} {n:ByteArray} {sub:List Tr} (h:(CheckS ca (.mk rule s f u n sub)).2 = 0) (h1:s.l.length < 64) (h2:s.r.length < 64)
include h h1 h2
theorem CheckS_wide_bad (rt:Bool) (g:Fm) (hg:fmB ca g = false):CheckS ca (.mk rule (addSq ca rt s g) f u n sub) = ([],190):=by
  obtain ⟨hk,hs,hc,_⟩:=CheckS_zero h
  refine CheckS_root (s:=addSq ca rt s g) hk hs (e:=190) ?_ (by decide)
  unfold stepS
  rw [validB_add (checkS_valid hc) h1 h2,hg]
  rfl
theorem CheckS_wide_free (rt:Bool) (g:Fm) (hg:fmB ca g = true) (hr:∀ r,rowS ca rule = some r → r.asks = 2) (hn:memB (frF g) n = true):CheckS ca (.mk rule (addSq ca rt s g) f u n sub) = ([],193):=by
  obtain ⟨hk,hs,hc,_⟩:=CheckS_zero h
  refine CheckS_root (s:=addSq ca rt s g) hk hs (e:=193) ?_ (by decide)
  have hz:(stepS ca s rule f u n).2 = 0:=by
    simp only [checkS] at hc
    split at hc
    · rename_i q; exact absurd hc q
    · rename_i q; exact Decidable.not_not.1 q
  obtain ⟨r,k1,k2,k3,k4,k5,k6,_⟩:=stepS_zero hz
  have hl:=addSq_sub ca rt s g
  have e1:(r.left && !hasF (addSq ca rt s g).l f) = false:=by
    cases q:r.left
    · rfl
    · rw [hasF_mono hl.1 (k4 q)]; rfl
  have e2:(r.right && !hasF (addSq ca rt s g).r f) = false:=by
    cases q:r.right
    · rfl
    · rw [hasF_mono hl.2 (k5 q)]; rfl
  unfold stepS
  rw [validB_add k1 h1 h2,hg,k2]
  simp only [k3,e1,e2,hr r k2,freeIn_add,hn,Bool.or_true,Bool.not_true,Bool.false_eq_true,if_false,Bool.or_false,decide_eq_true_eq,ne_eq,not_true_eq_false,decide_true,Bool.and_true,if_true]
  rw [if_neg (by decide)]
theorem CheckS_wide (rt:Bool) (g:Fm) (hg:fmB ca g = true) (hn:∀ r,rowS ca rule = some r → r.asks = 2 → memB (frF g) n = false):(CheckS ca (.mk rule (addSq ca rt s g) f u n sub)).2 = 0:=by
  obtain ⟨hk,hs,hc,hb⟩:=CheckS_zero h
  have hz:(stepS ca s rule f u n).2 = 0:=by
    have:=hc
    simp only [checkS] at this
    split at this
    · rename_i q; exact absurd this q
    · rename_i q; exact Decidable.not_not.1 q
  obtain ⟨r,k1,k2,k3,k4,k5,k6,k7⟩:=stepS_zero hz
  have hl:=addSq_sub ca rt s g
  have hst:=stepS_of (by rw [validB_add (rt:=rt) k1 h1 h2,hg]) k2 k3 (fun q => hasF_mono hl.1 (k4 q)) (fun q => hasF_mono hl.2 (k5 q)) (fun q => by rw [freeIn_add,k6 q,hn r k2 q]; rfl)
  have hc':checkS ca (.mk rule (addSq ca rt s g) f u n sub) = 0:=by
    simp only [checkS,k7] at hc
    simp only [checkS,hst]
    simp only [ne_eq,not_true_eq_false,if_false] at hc ⊢
    split at hc
    · simp at hc
    · rename_i q
      rw [if_neg q]
      split at hc
      · rename_i q2
        rw [if_pos (premsB_mono hl _ _ q2)]
      · simp at hc
  rw [CheckS_unfold (t:=.mk rule (addSq ca rt s g) f u n sub) hk hs,firstBad_tree,if_pos hc']
  exact hb
omit h1 h2 in
theorem CheckS_bare (hr:∀ r,rowS ca rule = some r → r.left = true ∨ r.right = true):CheckS ca (.mk rule ⟨[],[]⟩ f u n sub) = ([],192):=by
  obtain ⟨hk,hs,hc,_⟩:=CheckS_zero h
  refine CheckS_root (s:=⟨[],[]⟩) hk hs (e:=192) ?_ (by decide)
  have hz:(stepS ca s rule f u n).2 = 0:=by
    simp only [checkS] at hc
    split at hc
    · rename_i q; exact absurd hc q
    · rename_i q; exact Decidable.not_not.1 q
  obtain ⟨r,k1,k2,k3,_⟩:=stepS_zero hz
  have hv:validB ca ⟨[],[]⟩ = true:=by simp [validB,hk,firstsB]
  unfold stepS
  rw [hv,k2]
  have h0:hasF [] f = false:=rfl
  simp only [h0,k3,Bool.not_true,Bool.false_eq_true,if_false,Bool.not_false,Bool.and_true]
  rw [if_pos]
  rcases hr r k2 with q | q <;> simp [q]
end
end Go.Proofs.Tryz

namespace Go.Proofs.Tryz
open Go Go.Iv

theorem checkS_step {ca rule:Nat} {s:Sq} {f:Fm} {u:Tm} {n:ByteArray} {sub:List Tr} (hc:checkS ca (.mk rule s f u n sub) = 0) :
    (stepS ca s rule f u n).2 = 0 ∧ sub.length = (stepS ca s rule f u n).1.length ∧ premsB s (stepS ca s rule f u n).1 sub = true:=by
  simp only [checkS] at hc
  split at hc
  · rename_i q; exact absurd hc q
  · rename_i q
    split at hc
    · simp at hc
    · rename_i q2
      split at hc
      · rename_i q3; exact ⟨Decidable.not_not.1 q,Decidable.not_not.1 q2,q3⟩
      · simp at hc
theorem rowK_none {rule:Nat} (h:19 ≤ rule):rowK rule = none:=by
  unfold rowK
  repeat (rw [if_neg (by omega)])
theorem rowS_none {ca rule:Nat} (h:19 ≤ rule):rowS ca rule = none:=by
  unfold rowS
  rw [if_neg (by omega),if_neg (by omega),if_neg (by omega),if_neg (by omega),if_neg (by omega),rowK_none h]
section
variable {ca rule:Nat} {s:Sq} {f:Fm} {u:Tm} {n:ByteArray} {sub:List Tr} (h:(CheckS ca (.mk rule s f u n sub)).2 = 0)
include h
theorem CheckS_norule {rule':Nat} (hr:19 ≤ rule'):CheckS ca (.mk rule' s f u n sub) = ([],191):=by
  obtain ⟨hk,hs,hc,_⟩:=CheckS_zero h
  refine CheckS_root (rule:=rule') hk hs (e:=191) ?_ (by decide)
  unfold stepS
  rw [checkS_valid hc,rowS_none hr]
  rfl
theorem CheckS_main {f':Fm} (hf:fmB ca f' = false):CheckS ca (.mk rule s f' u n sub) = ([],192):=by
  obtain ⟨hk,hs,hc,_⟩:=CheckS_zero h
  refine CheckS_root (f:=f') hk hs (e:=192) ?_ (by decide)
  obtain ⟨r,k1,k2,_⟩:=stepS_zero (checkS_step hc).1
  have ha:(addsS ca rule r f' u n).2 = 192:=by
    unfold addsS
    rw [hf]
    rfl
  unfold stepS
  rw [k1,k2]
  simp [ha]
theorem CheckS_prems {sub':List Tr} (hl:sub'.length ≠ sub.length) (hs':(Tr.mk rule s f u n sub').steps ≤ 300):CheckS ca (.mk rule s f u n sub') = ([],194):=by
  obtain ⟨hk,hs,hc,_⟩:=CheckS_zero h
  obtain ⟨h1,h2,_⟩:=checkS_step hc
  have hc':checkS ca (.mk rule s f u n sub') = 194:=by
    simp only [checkS,h1,ne_eq,not_true_eq_false,if_false]
    rw [if_pos (by rw [← h2]; exact hl)]
  rw [CheckS_unfold hk hs',firstBad_tree,hc',if_neg (by decide)]
end
theorem CheckS_more {ca rule:Nat} {s:Sq} {f:Fm} {u:Tm} {n:ByteArray} {r0:Nat} {s0:Sq} {f0:Fm} {u0:Tm} {n0:ByteArray} {sub0:List Tr} {rest:List Tr}
    (h:(CheckS ca (.mk rule s f u n (.mk r0 s0 f0 u0 n0 sub0 :: rest))).2 = 0) (g:Fm) (hg:hasF s.l g = false) :
    (∃ m l,(stepS ca s rule f u n).1 = m :: l ∧ hasF m.l g = true) ∨ CheckS ca (.mk rule s f u n (.mk r0 ⟨s0.l ++ [g],s0.r⟩ f0 u0 n0 sub0 :: rest)) = ([],195):=by
  obtain ⟨hk,hs,hc,_⟩:=CheckS_zero h
  obtain ⟨h1,h2,h3⟩:=checkS_step hc
  cases ha:(stepS ca s rule f u n).1 with
  | nil => rw [ha] at h2; simp at h2
  | cons m l =>
    by_cases hm:hasF m.l g = true
    · exact .inl ⟨m,l,rfl,hm⟩
    · refine .inr ?_
      have hc':checkS ca (.mk rule s f u n (.mk r0 ⟨s0.l ++ [g],s0.r⟩ f0 u0 n0 sub0 :: rest)) = 195:=by
        have hw:withinB ⟨s0.l ++ [g],s0.r⟩ (s.plus m) = false:=by
          have:hasF (s.l ++ m.l) g = false:=by
            have e:hasF (s.l ++ m.l) g = (hasF s.l g || hasF m.l g):=by simp [hasF]
            rw [e,hg]; simpa using hm
          simp only [withinB,allF,List.all_append,List.all_cons,List.all_nil,Sq.plus,this,Bool.false_and,Bool.and_false]
        simp only [checkS,h1,ne_eq,not_true_eq_false,if_false]
        rw [if_neg (by rw [← h2]; simp),ha]
        simp only [premsB,Tr.sq,hw,Bool.false_and,Bool.false_eq_true,if_false]
      rw [CheckS_unfold (t:=.mk rule s f u n (.mk r0 ⟨s0.l ++ [g],s0.r⟩ f0 u0 n0 sub0 :: rest)) hk hs,firstBad_tree,hc',if_neg (by decide)]
end Go.Proofs.Tryz

namespace Go.Proofs.Tryz
open Go Go.Iv
set_option maxRecDepth 4000
variable (gl:Nat → Option IV)

theorem kCopyForms_p (us:List Fm) (tg:Tag) (xs:List IV) (htg:okEs tg 4) (hxs:IsFms us xs) (hsz:sizeFms us ≤ 1099511627776) (st:ISt) :
    ICall prog gl 72 [.sl tg xs] st (fun r st' => ∃ tg' ys,r = .sl tg' ys ∧ own st' tg' us.length 4 st ∧ IsFmsD us ys ∧ subSt st st'):=by
  have hlsz:=flen_le_size us
  refine ICall.intro (c:=cf prog gl [] []) func72 rfl (by show _ ≤ 22; simp) (by kernel_rfl) ?_
  simp -implicitDefEqProofs -dsimp only [go_sem,↓reduceIte,zE,zB,zA,zM,zS,zL,reduceCtorEq]
  refine LoopC.ctr us.length (fun k fr st' ds => (∃ tg' ys,fr 3 = .iv (.sl tg' ys) ∧ IsFmsD (us.take k) ys ∧ appT tg' ∧ own st' tg' k 4 st ∧ subSt st st') ∧ fr 0 = .iv (.sl tg xs) ∧ fr 4 = .iv (.raw (.int .i64 k)) ∧ ds = []) ?_ ?_ ?_
  · simp -implicitDefEqProofs -dsimp only [go_sem,↓reduceIte,zE,zB,zA,zM,zS,zL,reduceCtorEq]
    exact ⟨⟨_,_,rfl,IsFmsD.nil,.inl rfl,own.nil _ _ _ _ _,subSt.refl _⟩,rfl⟩
  · rintro k fr st1 _ hlt ⟨⟨tg',ys,f3,hys,hap,hown,hsub⟩,f0,f4,rfl⟩
    obtain ⟨a,ha⟩:=get_of_lt hlt
    obtain ⟨x,hkx,hx⟩:=hxs.get ha
    obtain ⟨h1,h2⟩:=sizeFms_take ha
    have hlen2:ys.length = k:=by rw [hys.len,List.length_take]; omega
    have hcall:=kCopyForm_c gl a x hx (by omega) st1
    obtain ⟨o5,n5,t5,x5,t6,x6,rfl⟩:=hx.agg
    simp -implicitDefEqProofs -dsimp only [go_sem,↓reduceIte,zE,zB,zA,zM,zS,zL,reduceCtorEq,f0,f3,f4,hxs.len,lt_i hlt,reTag_es htg,Int.natCast_nonneg,hkx,fits]
    intro _
    refine hcall.mono ?_
    rintro r _ ⟨hr,rfl⟩
    have hn:IsFmsD (us.take (k + 1)) (ys ++ [r]):=by
      rw [take_get ha]; exact hys.append (IsFmsD.one hr)
    obtain ⟨o7,n7,t7,x7,t8,x8,rfl⟩:=IsFmD.aggs hr
    simp -implicitDefEqProofs -dsimp only [go_sem,↓reduceIte,zE,zB,zA,zM,zS,zL,reduceCtorEq,f0,f3,f4,fits,inOrder_one]
    refine appV_ownD hown hlen2 hsub rfl (by simp [fits,IV.one]) (by simp only; omega) (by omega) fun tg2 st4 hown2 hsub4 _ hap2 => ?_
    simp -implicitDefEqProofs -dsimp only [go_sem,↓reduceIte,zE,zB,zA,zM,zS,zL,reduceCtorEq,f0,f3,f4,fits,w_succ hlt (show us.length ≤ 281474976710656 by omega)]
    exact ⟨tg2,_,rfl,hn,hap2,hown2,hsub4⟩
  · rintro fr st1 _ ⟨⟨tg',ys,f3,hys,hap,hown,hsub⟩,f0,f4,rfl⟩
    rw [List.take_length] at hys
    simp -implicitDefEqProofs -dsimp only [go_sem,↓reduceIte,zE,zB,zA,zM,zS,zL,reduceCtorEq,f0,f3,f4,hxs.len,nlt_i (Nat.lt_irrefl _),fits]
    intro _
    exact outK_self ⟨tg',ys,rfl,hown,hys,hsub⟩
theorem own_s0p {st S0 S1:ISt} {tg:Tag} {n s:Nat} (h:own st tg n s S1) (hs:subSt S0 S1):own st tg n s S0:=by
  rcases h with h | h | ⟨g,h1,h2,h3⟩
  · exact .inl h
  · exact .inr (.inl h)
  · exact .inr (.inr ⟨g,h1,h2,none_sub hs h3⟩)
theorem kCopySeq_p (s:Sq) (x:IV) (hx:IsSq s x) (h1:sizeFms s.l ≤ 1099511627776) (h2:sizeFms s.r ≤ 1099511627776) (st:ISt):ICall prog gl 25 [x] st (fun r st' =>
    ∃ t1 x1 t2 x2,r = .agg [.sl t1 x1,.sl t2 x2] ∧ own st' t1 s.l.length 4 st ∧ IsFmsD s.l x1 ∧ own st' t2 s.r.length 4 st ∧ IsFmsD s.r x2 ∧ subSt st st'):=by
  obtain ⟨t1,x1,t2,x2,rfl,e1,i1,e2,i2⟩:=hx
  have hc1:=kCopyForms_p gl s.l t1 x1 e1 i1 h1 st
  have hc2:=fun st => kCopyForms_p gl s.r t2 x2 e2 i2 h2 st
  refine ICall.intro (c:=cf prog gl [] []) func25 rfl (by show _ ≤ 12; simp) (by kernel_rfl) ?_
  simp -implicitDefEqProofs -dsimp only [go_sem,↓reduceIte,zE,zB,zA,zM,zS,zL,reduceCtorEq,fits]
  refine hc1.mono ?_
  rintro _ st1 ⟨tg',ys,rfl,ho,hys,hs⟩
  simp -implicitDefEqProofs -dsimp only [go_sem,↓reduceIte,zE,zB,zA,zM,zS,zL,reduceCtorEq,fits]
  refine (hc2 _).mono ?_
  rintro _ st2 ⟨tg2,ys2,rfl,ho2,hys2,hs2⟩
  simp -implicitDefEqProofs -dsimp only [go_sem,↓reduceIte,zE,zB,zA,zM,zS,zL,reduceCtorEq,fits]
  exact outK_self ⟨_,_,_,_,rfl,ho.mono fun g hg _ => hs2 g _ hg,hys,own_s0p ho2 hs,hys2,hs.trans hs2⟩
theorem okEs_slcw {tg:Tag} {es:Nat} (h:okEs tg es) (len hh l:Nat):okEs (slcTag (reTag es tg) len hh l none) es:=by
  have:=reTag_es h
  unfold slcTag
  by_cases h1:(reTag es tg).cap = .nil
  · rw [if_pos h1]; exact .inr this
  · rw [if_neg h1]
    by_cases h2:l = 0 ∧ hh = len
    · simp only [if_pos h2]; exact .inr this
    · simp only [if_neg h2]; exact .inr this
def otherF:Fm:=.mk 1 ⟨#[111,116,104,101,114]⟩ [] []
def boxF:Fm:=.mk 10 ⟨#[]⟩ [] [.mk 1 ⟨#[80]⟩ [] []]
theorem fmB_other (ca:Nat):fmB ca otherF = false:=by
  unfold fmB
  rw [show otherF.right = false from by decide]; rfl
theorem fmB_box (ca:Nat):fmB ca boxF = false:=by
  unfold fmB boxF
  rw [Bool.and_eq_false_iff]
  right
  unfold opsB
  by_cases h:ca = 3 <;> simp [h]
theorem tree_fits {l:List Tr} {xs:List IV} (h:IsTrs l xs):xs.all (fits true 12) = true:=by
  rw [List.all_eq_true]
  intro x hx
  obtain ⟨k,hk⟩:=List.getElem?_of_mem hx
  have hlt:=(List.getElem?_eq_some_iff.1 hk).1
  rw [h.len] at hlt
  obtain ⟨a,ha⟩:=get_of_lt hlt
  obtain ⟨z,hz1,hz2⟩:=h.get ha
  rw [hk] at hz1
  cases hz1
  obtain ⟨rule',tl',xl',tr',xr',op',fn',ta',xa',tb',xb',v',un',tu',xu',n',ts',xs',rfl⟩:=trAgg hz2
  rfl
set_option maxHeartbeats 4000000 in
theorem SequentWrong_a (G:Gl gl) (T:Gt gl) (ca:Nat) (t:Tr) (x:IV) (hx:IsTr t x) (hw:wTr t ≤ 1099511627776) (hst0:t.steps ≤ 1099511627776) (w:Nat) (hw8:w < 256) (hw3:w % 6 ≠ 3) (st:ISt) :
    ICall prog gl 11 [.raw (.int .u8 ca),x,.raw (.int .u8 w)] st (fun r st' => r = .raw (.bool true) ∧ st' = st):=by
  have hA:=fun st => qawake_c gl G T st
  have hS:=fun st => QSmall_c gl t x hx hw st
  have hR:=fun st => room_c gl t x hx hst0 st
  have hx0:=hx
  obtain ⟨rule,s,m,u,n,sub⟩:=t
  obtain ⟨tl,xl,tr,xr,op,fn,ta,xa,tb,xb,v,un,tu,xu,ts,xs,rfl,hru,e1,i1,e2,i2,hy,hz,e3,i3⟩:=hx.mk
  refine ICall.intro (c:=cf prog gl [] []) func11 rfl (by show _ ≤ 190; simp) (by kernel_rfl) ?_
  simp -implicitDefEqProofs -dsimp only [go_sem,↓reduceIte,zE,zB,zA,zM,zS,zL,reduceCtorEq,fits]
  refine (hA _).mono ?_
  rintro _ st ⟨rfl,rfl⟩
  simp -implicitDefEqProofs -dsimp only [go_sem,↓reduceIte,zE,zB,zA,zM,zS,zL,reduceCtorEq,fits]
  refine (hS _).mono ?_
  rintro _ st ⟨rfl,rfl⟩
  by_cases hsm:(okT (.mk rule s m u n sub) && decide ((Tr.mk rule s m u n sub).steps ≤ 60)) = true
  case neg =>
    have hsm':(okT (.mk rule s m u n sub) && decide ((Tr.mk rule s m u n sub).steps ≤ 60)) = false:=by simpa using hsm
    simp -implicitDefEqProofs -dsimp only [go_sem,↓reduceIte,zE,zB,zA,zM,zS,zL,reduceCtorEq,hsm',fits]
    exact outK_self ⟨rfl,rfl⟩
  simp -implicitDefEqProofs -dsimp only [go_sem,↓reduceIte,zE,zB,zA,zM,zS,zL,reduceCtorEq,hsm,fits]
  rw [Bool.and_eq_true,decide_eq_true_eq] at hsm
  obtain ⟨hok,hst⟩:=hsm
  refine (hR _).mono ?_
  rintro _ st ⟨rfl,rfl⟩
  cases hroom:roomB (.mk rule s m u n sub)
  · simp -implicitDefEqProofs -dsimp only [go_sem,↓reduceIte,zE,zB,zA,zM,zS,zL,reduceCtorEq,fits]
    exact outK_self ⟨rfl,rfl⟩
  simp -implicitDefEqProofs -dsimp only [go_sem,↓reduceIte,zE,zB,zA,zM,zS,zL,reduceCtorEq,fits]
  have hNA:=okT_NA hok
  have hC:=fun st => Check_c gl G T ca _ _ hx0 (NA_fit hNA (by omega)) st
  refine (hC _).mono ?_
  rintro _ st ⟨⟨tg,rfl,htg⟩,rfl⟩
  by_cases hzero:(CheckS ca (.mk rule s m u n sub)).2 = 0
  case neg =>
    have he0:decide ((((CheckS ca (.mk rule s m u n sub)).2:Nat):Int) = 0) = false:=decide_eq_false (by omega)
    simp -implicitDefEqProofs -dsimp only [go_sem,↓reduceIte,zE,zB,zA,zM,zS,zL,reduceCtorEq,fits,he0]
    exact outK_self ⟨rfl,rfl⟩
  have he0:decide ((((CheckS ca (.mk rule s m u n sub)).2:Nat):Int) = 0) = true:=decide_eq_true (by omega)
  have hNA':=hNA
  simp only [NA] at hNA'
  obtain ⟨hfs,hms,hus,hNs⟩:=hNA'
  have hsq0:IsSq s (.agg [.sl tl xl,.sl tr xr]):=⟨tl,xl,tr,xr,rfl,e1,i1,e2,i2⟩
  have hnode:wFms s.l + wFms s.r ≤ 300:=by
    simp only [okT,Bool.and_eq_true] at hok
    exact (nodeB_true hok.1).1
  have hq1:=size_wFms s.l
  have hq2:=size_wFms s.r
  have hst2:1 + stepsTrs sub ≤ 60:=hst
  have hlsub:=len_le_steps sub
  have hlr:s.l.length < 64 ∧ s.r.length < 64:=by
    simp only [roomB,Bool.and_eq_true,decide_eq_true_eq] at hroom
    exact hroom.1
  have hCp:=fun st => kCopySeq_p gl s _ hsq0 (by omega) (by omega) st
  simp -implicitDefEqProofs -dsimp only [go_sem,↓reduceIte,zE,zB,zA,zM,zS,zL,reduceCtorEq,fits,he0]
  refine (hCp _).mono ?_
  rintro _ st3 ⟨c1,y1,c2,y2,rfl,ho1,hy1,ho2,hy2,hs3⟩
  have hlen1:y1.length = s.l.length:=hy1.1.len
  have hlen2:y2.length = s.r.length:=hy2.1.len
  have hj6:((w:Nat):Int).tmod 6 = ((w % 6:Nat):Int):=by rw [Int.tmod_eq_emod_of_nonneg (by omega)]; omega
  have hz6:((6:Int) = 0) = False:=by simp
  have hz200:((200:Int) = 0) = False:=by simp
  simp -implicitDefEqProofs -dsimp only [go_sem,↓reduceIte,zE,zB,zA,zM,zS,zL,reduceCtorEq,fits,inOrder_one,show inOrder 0 [] = true from rfl]
  refine appV_owns (n:=0) (own.full st3 st 0 12) rfl i3.len hs3 rfl (tree_fits i3) (by simp only; omega) (by omega) fun tg4 st4 hown4 hsub4 hkf => ?_
  have h200:((w:Nat):Int).tmod 200 = ((w % 200:Nat):Int):=by rw [Int.tmod_eq_emod_of_nonneg (by omega)]; omega
  have wr:IntKind.u8.wrap (19 + ((w % 200:Nat):Int)) = ((19 + w % 200:Nat):Int):=by rw [IntWalk.u8_in _ (by omega)]; omega
  have hlen4:xs.length = sub.length:=i3.len
  simp only [List.nil_append,Nat.zero_add] at hown4 ⊢
  rcases (show w % 6 = 0 ∨ w % 6 = 1 ∨ w % 6 = 2 ∨ w % 6 = 4 ∨ w % 6 = 5 by omega) with h6 | h6 | h6 | h6 | h6
  · have hj:((w:Nat):Int).tmod 6 = 0:=by rw [hj6,h6]; rfl
    have hxw:IsTr (.mk (19 + w % 200) s m u n sub) (.agg [.raw (.int .u8 ((19 + w % 200:Nat):Int)),.sl c1 y1,.sl c2 y2,.raw (.int .u8 op),.raw (.string fn),.sl ta xa,.sl tb xb,.raw (.bool v),.raw (.string un),.sl tu xu,.raw (.string n),.sl tg4 xs]):=by
      simp only [IsTr]
      exact ⟨_,_,_,_,_,_,_,_,_,_,_,_,_,_,_,_,rfl,by omega,ho1.es,hy1.1,ho2.es,hy2.1,hy,hz,hown4.es,i3⟩
    have hCb:=fun st => Check_c gl G T ca _ _ hxw (NA_fit (t:=.mk (19 + w % 200) s m u n sub) ⟨hfs,hms,hus,hNs⟩ (by show 1 + stepsTrs sub ≤ _; omega)) st
    simp -implicitDefEqProofs -dsimp only [go_sem,↓reduceIte,zE,zB,zA,zM,zS,zL,reduceCtorEq,fits,hj,hz6,hz200,inOrder_one,Int.reduceEq,decide_true,decide_false,h200,wr]
    intros
    have hres:=CheckS_norule hzero (rule':=19 + w % 200) (by omega)
    simp only [hres] at hCb
    refine (hCb _).mono ?_
    rintro _ st5 ⟨⟨tg5,rfl,htg5⟩,rfl⟩
    simp -implicitDefEqProofs -dsimp only [go_sem,↓reduceIte,zE,zB,zA,zM,zS,zL,reduceCtorEq,fits,hj,hz6,Int.reduceEq,decide_true,decide_false,show plI [] = [] from rfl,show decide (((0:Nat):Int) = 0) = true from rfl,show decide (((191:Nat):Int) = 191) = true from rfl]
    intros
    exact outK_sub hsub4 ⟨rfl,rfl⟩
  · have hj:((w:Nat):Int).tmod 6 = 1:=by rw [hj6,h6]; rfl
    simp -implicitDefEqProofs -dsimp only [go_sem,↓reduceIte,zE,zB,zA,zM,zS,zL,reduceCtorEq,fits,hj,hz6,hz200,inOrder_one,Int.reduceEq,decide_true,decide_false]
    intros
    refine appV_own hown4 hlen4 hsub4 rfl (by simp [fits,IV.one]) (by simp only; omega) (by omega) fun tg6 st6 hown6 hsub6 _ => ?_
    have hxw:IsTr (.mk rule s m u n (sub ++ [.mk rule s m u n sub])) (.agg [.raw (.int .u8 rule),.sl c1 y1,.sl c2 y2,.raw (.int .u8 op),.raw (.string fn),.sl ta xa,.sl tb xb,.raw (.bool v),.raw (.string un),.sl tu xu,.raw (.string n),.sl tg6 (xs ++ [.agg [.raw (.int .u8 rule),.sl tl xl,.sl tr xr,.raw (.int .u8 op),.raw (.string fn),.sl ta xa,.sl tb xb,.raw (.bool v),.raw (.string un),.sl tu xu,.raw (.string n),.sl ts xs]])]):=by
      simp only [IsTr]
      exact ⟨_,_,_,_,_,_,_,_,_,_,_,_,_,_,_,_,rfl,hru,ho1.es,hy1.1,ho2.es,hy2.1,hy,hz,hown6.es,i3.append (IsTrs.one hx0)⟩
    have hNs':NAs (sub ++ [.mk rule s m u n sub]):=NAs_of fun a ha => (List.mem_append.1 ha).elim (NAs_mem hNs) (fun h => by rw [List.mem_singleton.1 h]; exact hNA)
    have hsteps:(Tr.mk rule s m u n (sub ++ [.mk rule s m u n sub])).steps ≤ 300:=by
      simp only [Tr.steps,stepsTrs_append,stepsTrs]; omega
    have hCb:=fun st => Check_c gl G T ca _ _ hxw (NA_fit (t:=.mk rule s m u n (sub ++ [.mk rule s m u n sub])) ⟨hfs,hms,hus,hNs'⟩ (by omega)) st
    simp -implicitDefEqProofs -dsimp only [go_sem,↓reduceIte,zE,zB,zA,zM,zS,zL,reduceCtorEq,fits,hj,hz6,hz200,inOrder_one,Int.reduceEq,decide_true,decide_false]
    intros
    have hres:=CheckS_prems hzero (sub':=sub ++ [.mk rule s m u n sub]) (by simp) hsteps
    simp only [hres] at hCb
    refine (hCb _).mono ?_
    rintro _ st5 ⟨⟨tg5,rfl,htg5⟩,rfl⟩
    simp -implicitDefEqProofs -dsimp only [go_sem,↓reduceIte,zE,zB,zA,zM,zS,zL,reduceCtorEq,fits,hj,hz6,Int.reduceEq,decide_true,decide_false,show plI [] = [] from rfl,show decide (((0:Nat):Int) = 0) = true from rfl,show decide (((194:Nat):Int) = 194) = true from rfl]
    intros
    exact outK_sub hsub6 ⟨rfl,rfl⟩
  · have hj:((w:Nat):Int).tmod 6 = 2:=by rw [hj6,h6]; rfl
    by_cases h0:sub.length = 0
    · have k0:decide (((sub.length:Nat):Int) = 0) = true:=decide_eq_true (by omega)
      simp -implicitDefEqProofs -dsimp only [go_sem,↓reduceIte,zE,zB,zA,zM,zS,zL,reduceCtorEq,fits,hj,hz6,hz200,inOrder_one,Int.reduceEq,decide_true,decide_false,i3.len,k0]
      intros
      exact outK_sub hsub4 ⟨rfl,rfl⟩
    have hes:∀ a b c,okEs (slcTag (reTag 12 tg4) a b c none) 12:=fun a b c => okEs_slcw hown4.es a b c
    obtain ⟨b,sub',rfl⟩:∃ b l,sub = b :: l:=by
      cases sub with
      | nil => simp at h0
      | cons b l => exact ⟨b,l,rfl⟩
    have hi3:=i3
    simp only [IsTrs] at hi3
    obtain ⟨xb0,xs',rfl,hb0,hxs'⟩:=hi3
    have hxw:∀ a b' c,IsTr (.mk rule s m u n sub') (.agg [.raw (.int .u8 rule),.sl c1 y1,.sl c2 y2,.raw (.int .u8 op),.raw (.string fn),.sl ta xa,.sl tb xb,.raw (.bool v),.raw (.string un),.sl tu xu,.raw (.string n),.sl (slcTag (reTag 12 tg4) a b' c none) xs']):=fun a b' c => by
      simp only [IsTr]
      exact ⟨_,_,_,_,_,_,_,_,_,_,_,_,_,_,_,_,rfl,hru,ho1.es,hy1.1,ho2.es,hy2.1,hy,hz,hes a b' c,hxs'⟩
    have hstep':1 + stepsTrs sub' ≤ 60:=by simp only [stepsTrs] at hst2; omega
    have hCb:=fun a b' c st => Check_c gl G T ca _ _ (hxw a b' c) (NA_fit (t:=.mk rule s m u n sub') ⟨hfs,hms,hus,hNs.2⟩ (by show 1 + stepsTrs sub' ≤ _; omega)) st
    have k0:decide (((sub'.length + 1:Nat):Int) = 0) = false:=decide_eq_false (by omega)
    have hsl:sliceI (some 1) none (sub'.length + 1) = some (1,sub'.length + 1):=by
      simp only [sliceI,Option.getD_none,Option.getD_some]
      rw [if_pos (by omega)]; rfl
    have hres:=CheckS_prems hzero (sub':=sub') (by simp) (by show 1 + stepsTrs sub' ≤ 300; omega)
    simp only [hres] at hCb
    have hxl:xs'.length = sub'.length:=hxs'.len
    have htk:xs'.take sub'.length = xs':=by rw [← hxl,List.take_length]
    simp -implicitDefEqProofs -dsimp only [go_sem,↓reduceIte,zE,zB,zA,zM,zS,zL,reduceCtorEq,fits,hj,hz6,hz200,inOrder_one,Int.reduceEq,decide_true,decide_false,i3.len,hxl,k0,hsl,reTag_es hown4.es,Nat.add_sub_cancel,htk]
    intros
    refine (hCb _ _ _ _).mono ?_
    rintro _ st5 ⟨⟨tg5,rfl,htg5⟩,rfl⟩
    simp -implicitDefEqProofs -dsimp only [go_sem,↓reduceIte,zE,zB,zA,zM,zS,zL,reduceCtorEq,fits,hj,hz6,Int.reduceEq,decide_true,decide_false,show plI [] = [] from rfl,show decide (((0:Nat):Int) = 0) = true from rfl,show decide (((194:Nat):Int) = 194) = true from rfl]
    intros
    exact outK_sub hsub4 ⟨rfl,rfl⟩
  · have hj:((w:Nat):Int).tmod 6 = 4:=by rw [hj6,h6]; rfl
    have hxw:IsTr (.mk rule s otherF u n sub) (.agg [.raw (.int .u8 rule),.sl c1 y1,.sl c2 y2,.raw (.int .u8 1),.raw (.string ⟨#[111,116,104,101,114]⟩),.sl ⟨true,.nil,0⟩ [],.sl ⟨true,.nil,0⟩ [],.raw (.bool v),.raw (.string un),.sl tu xu,.raw (.string n),.sl tg4 xs]):=by
      simp only [IsTr]
      exact ⟨_,_,_,_,_,_,_,_,_,_,_,_,_,_,_,_,rfl,hru,ho1.es,hy1.1,ho2.es,hy2.1,⟨_,_,_,_,rfl,by omega,.inl rfl,rfl,.inl rfl,rfl⟩,hz,hown4.es,i3⟩
    have hCb:=fun st => Check_c gl G T ca _ _ hxw (NA_fit (t:=.mk rule s otherF u n sub) ⟨hfs,by decide,hus,hNs⟩ (by show 1 + stepsTrs sub ≤ _; omega)) st
    simp -implicitDefEqProofs -dsimp only [go_sem,↓reduceIte,zE,zB,zA,zM,zS,zL,reduceCtorEq,fits,hj,hz6,hz200,inOrder_one,Int.reduceEq,decide_true,decide_false,bsize_mk]
    intros
    refine (q_p gl _ _ _ _).mono ?_
    rintro _ _ ⟨rfl,rfl⟩
    simp -implicitDefEqProofs -dsimp only [go_sem,↓reduceIte,zE,zB,zA,zM,zS,zL,reduceCtorEq,fits,hj,hz6,hz200,inOrder_one,Int.reduceEq,decide_true,decide_false,bsize_mk]
    intros
    have hres:=CheckS_main hzero (fmB_other ca)
    simp only [hres] at hCb
    refine (hCb _).mono ?_
    rintro _ st5 ⟨⟨tg5,rfl,htg5⟩,rfl⟩
    simp -implicitDefEqProofs -dsimp only [go_sem,↓reduceIte,zE,zB,zA,zM,zS,zL,reduceCtorEq,fits,hj,hz6,Int.reduceEq,decide_true,decide_false,show plI [] = [] from rfl,show decide (((0:Nat):Int) = 0) = true from rfl,show decide (((192:Nat):Int) = 192) = true from rfl]
    intros
    exact outK_sub hsub4 ⟨rfl,rfl⟩
  · have hj:((w:Nat):Int).tmod 6 = 5:=by rw [hj6,h6]; rfl
    simp -implicitDefEqProofs -dsimp only [go_sem,↓reduceIte,zE,zB,zA,zM,zS,zL,reduceCtorEq,fits,hj,hz6,hz200,inOrder_one,Int.reduceEq,decide_true,decide_false,bsize_mk]
    intros
    refine (q_p gl _ _ _ _).mono ?_
    rintro _ _ ⟨rfl,rfl⟩
    simp -implicitDefEqProofs -dsimp only [go_sem,↓reduceIte,zE,zB,zA,zM,zS,zL,reduceCtorEq,fits,hj,hz6,hz200,inOrder_one,Int.reduceEq,decide_true,decide_false,bsize_mk]
    intros
    refine (q_fs gl _ _ _).mono ?_
    rintro _ _ ⟨rfl,rfl⟩
    simp -implicitDefEqProofs -dsimp only [go_sem,↓reduceIte,zE,zB,zA,zM,zS,zL,reduceCtorEq,fits,hj,hz6,hz200,inOrder_one,Int.reduceEq,decide_true,decide_false,bsize_mk]
    intros
    refine appV_own (hkf.own ho1 (by decide)) hlen1 hsub4 rfl (by simp [fits,IV.one]) (by simp only; omega) (by omega) fun tg6 st6 hown6 hsub6 _ => ?_
    have hbox:IsFm boxF (.agg [.raw (.int .u8 10),.raw (.string ⟨#[]⟩),.sl ⟨true,.nil,0⟩ [],.sl ⟨true,.full,4⟩ [.agg [.raw (.int .u8 1),.raw (.string ⟨#[80]⟩),.sl ⟨true,.nil,0⟩ [],.sl ⟨true,.nil,0⟩ []]]]) :=
      ⟨_,_,_,_,rfl,by omega,.inl rfl,rfl,.inr rfl,⟨_,_,rfl,⟨_,_,_,_,rfl,by omega,.inl rfl,rfl,.inl rfl,rfl⟩,rfl⟩⟩
    have hadd:addSq ca false s boxF = ⟨s.l ++ [boxF],s.r⟩:=by simp [addSq]
    have hxw:IsTr (.mk rule (addSq ca false s boxF) m u n sub) (.agg [.raw (.int .u8 rule),.sl tg6 (y1 ++ [.agg [.raw (.int .u8 10),.raw (.string ⟨#[]⟩),.sl ⟨true,.nil,0⟩ [],.sl ⟨true,.full,4⟩ [.agg [.raw (.int .u8 1),.raw (.string ⟨#[80]⟩),.sl ⟨true,.nil,0⟩ [],.sl ⟨true,.nil,0⟩ []]]]]),.sl c2 y2,.raw (.int .u8 op),.raw (.string fn),.sl ta xa,.sl tb xb,.raw (.bool v),.raw (.string un),.sl tu xu,.raw (.string n),.sl tg4 xs]):=by
      rw [hadd]
      simp only [IsTr]
      exact ⟨_,_,_,_,_,_,_,_,_,_,_,_,_,_,_,_,rfl,hru,hown6.es,hy1.1.append (IsFms.one hbox),ho2.es,hy2.1,hy,hz,hown4.es,i3⟩
    have hNAw:NA (.mk rule (addSq ca false s boxF) m u n sub):=by
      rw [hadd]
      exact ⟨⟨fun f hf => (List.mem_append.1 hf).elim (hfs.1 f) (fun h => by rw [List.mem_singleton.1 h]; decide),hfs.2⟩,hms,hus,hNs⟩
    have hCb:=fun st => Check_c gl G T ca _ _ hxw (NA_fit hNAw (by show 1 + stepsTrs sub ≤ _; omega)) st
    simp -implicitDefEqProofs -dsimp only [go_sem,↓reduceIte,zE,zB,zA,zM,zS,zL,reduceCtorEq,fits,hj,hz6,hz200,inOrder_one,Int.reduceEq,decide_true,decide_false]
    intros
    have hres:=CheckS_wide_bad hzero hlr.1 hlr.2 false boxF (fmB_box ca)
    simp only [hres] at hCb
    refine (hCb _).mono ?_
    rintro _ st5 ⟨⟨tg5,rfl,htg5⟩,rfl⟩
    simp -implicitDefEqProofs -dsimp only [go_sem,↓reduceIte,zE,zB,zA,zM,zS,zL,reduceCtorEq,fits,hj,hz6,Int.reduceEq,decide_true,decide_false,show plI [] = [] from rfl,show decide (((0:Nat):Int) = 0) = true from rfl,show decide (((190:Nat):Int) = 190) = true from rfl]
    intros
    exact outK_sub hsub6 ⟨rfl,rfl⟩
end Go.Proofs.Tryz

namespace Go.Proofs.Tryz
open Go Go.Iv
set_option maxRecDepth 4000
variable (gl:Nat → Option IV)

def okN (t:Tag):Prop:=okEs t 1 ∧ (t.cap = .nil ∨ t.fresh = true)
theorem Clone_nild (t:Tag) (ht:t.cap = .nil) (st:ISt):ICall prog gl 62 [.sl t []] st (fun r st' => (∃ t',r = .sl t' (plI []) ∧ okN t') ∧ st' = st):=by
  obtain ⟨fs,c,es⟩:=t
  obtain rfl:c = .nil:=ht
  refine ICall.intro (c:=cf prog gl [] []) func62 rfl (by show _ ≤ 8; simp) (by kernel_rfl) ?_
  have hb:binV prog 36 .eql (.sl ⟨fs,.nil,es⟩ []) (.sl ⟨true,.nil,0⟩ []) = some (.raw (.bool true)):=by
    have:isSliceT prog 36 = true:=by kernel_rfl
    simp [binV,slNil,this]
  simp -implicitDefEqProofs -dsimp only [go_sem,↓reduceIte,zE,zB,zA,zM,zS,zL,reduceCtorEq,fits,hb]
  exact outK_self ⟨⟨_,rfl,.inl rfl,.inl rfl⟩,rfl⟩
theorem Clone_appd (g:Nat) (p:List Nat) (hp:p ≠ []) (hl:p.length ≤ 1099511627776) (st:ISt):ICall prog gl 62 [.sl ⟨false,.app g,1⟩ (plI p)] st (fun r st' => (∃ t',r = .sl t' (plI p) ∧ okN t') ∧ st' = st):=by
  obtain ⟨i,p,rfl⟩:∃ i q,p = i :: q:=by
    cases p with
    | nil => exact absurd rfl hp
    | cons i q => exact ⟨i,q,rfl⟩
  refine ICall.intro (c:=cf prog gl [] []) func62 rfl (by show _ ≤ 8; simp) (by kernel_rfl) ?_
  have hb:binV prog 36 .eql (.sl ⟨false,.app g,1⟩ (plI (i :: p))) (.sl ⟨true,.nil,0⟩ []) = some (.raw (.bool false)):=by
    have:isSliceT prog 36 = true:=by kernel_rfl
    simp [binV,slNil,plI,this]
  have hf:(plI (i :: p)).all (fits false 1) = true:=by simp [plI,fits,IV.one]
  simp only [List.length_cons] at hl
  have he:plI (i :: p) = .raw (.int .i64 (i:Int)) :: plI p:=rfl
  have hpl:=plI_len p
  have hf':(plI p).all (fits false 1) = true:=by simp [plI,fits,IV.one]
  rw [he] at hb hf ⊢
  simp -implicitDefEqProofs -dsimp only [go_sem,↓reduceIte,zE,zB,zA,zM,zS,zL,reduceCtorEq,fits,hb]
  exact chk_intro rfl (chk_intro hf' (chk_intro ⟨by omega,by omega⟩ fun g' => giv_intro fun hg => outK_sub (subSt_put hg) ⟨⟨_,rfl,.inr rfl,.inr rfl⟩,rfl⟩))
theorem Clone_app0d (g:Nat) (st:ISt):ICall prog gl 62 [.sl ⟨false,.app g,1⟩ (plI [])] st (fun r st' => (∃ t',r = .sl t' (plI []) ∧ okN t') ∧ st' = st):=by
  have hb:binV prog 36 .eql (.sl ⟨false,.app g,1⟩ (plI [])) (.sl ⟨true,.nil,0⟩ []) = some (.raw (.bool false)):=by
    have:isSliceT prog 36 = true:=by kernel_rfl
    simp [binV,slNil,plI,this]
  rw [show plI [] = [] from rfl] at hb ⊢
  refine ICall.intro (c:=cf prog gl [] []) func62 rfl (by show _ ≤ 8; simp) (by kernel_rfl) ?_
  simp -implicitDefEqProofs -dsimp only [go_sem,↓reduceIte,zE,zB,zA,zM,zS,zL,reduceCtorEq,fits,hb,appV_full0]
  exact chk_intro rfl (outK_self ⟨⟨_,rfl,.inr rfl,.inr rfl⟩,rfl⟩)
theorem Clone_cd (p:List Nat) (a:IV) (e s:ISt) (hp:PlV p a e) (hl:p.length ≤ 1099511627776) (hd:disj s e):ICall prog gl 62 [a] (join s e) (fun r st' => (∃ t',r = .sl t' (plI p) ∧ okN t') ∧ st' = s):=by
  have key:ICall prog gl 62 [a] e (fun r st' => (∃ t',r = .sl t' (plI p) ∧ okN t') ∧ st' = emp):=by
    rcases hp with ⟨t,rfl,ht,rfl,rfl⟩ | ⟨g,cap,cs,rfl,rfl,h1,h2,h3⟩
    · exact Clone_nild gl t ht emp
    · have hnb:noBox (emp.put g (some (.box cs))) = emp:=by
        funext b
        by_cases hb:b = g
        · rw [hb,noBox_box (ISt.put_same ..)]; rfl
        · have:(emp.put g (some (.box cs))) b = none:=by rw [ISt.put_apply,if_neg hb]; rfl
          rw [noBox_keep (fun cs' h => by rw [this] at h; cases h),this]; rfl
      refine ICall.freeze (args':=[.sl ⟨false,.app g,1⟩ (plI p)]) ⟨_,_,rfl,.inr ⟨.sl ⟨true,.app g,1⟩ (plI p),?_,?_⟩,rfl⟩ ?_
      · rw [← plI_len p]
        refine .sl g cap ⟨true,.app g,1⟩ (plI p) cs rfl (by rw [plI_len]; omega) (by rw [plI_len]; exact h1) (fun x hx => ?_) (ISt.put_same ..) (by simpa using h2) fun i r c hr hc => ?_
        · obtain ⟨i,_,rfl⟩:=List.mem_map.1 hx
          rfl
        · rw [plI_flat p] at hc
          have hi:i < p.length:=by
            have:=(List.getElem?_eq_some_iff.1 hc).1
            rwa [plI_len] at this
          have:(cs.take p.length)[i]? = cs[i]?:=by rw [List.getElem?_take,if_pos hi]
          rw [h3,hc,hr] at this
          cases this
          exact .refl _
      · simp only [age,ages_plI]
      · rw [hnb]
        by_cases hpn:p = []
        · subst hpn; exact Clone_app0d gl g emp
        · exact Clone_appd gl g p hpn hl emp
  have h1:=key.frame (own:=s) (fun b hb => by
    cases he:e b with
    | none => rfl
    | some o => exact absurd (hd b (by rw [he]; simp)) hb)
  rw [join_comm hd]
  refine h1.mono ?_
  rintro r st' ⟨stu,_,rfl,hr,rfl⟩
  refine ⟨hr,?_⟩
  funext b
  cases hs:s b with
  | none => rw [join_none hs]; rfl
  | some o => rw [join_own hs]

def CkSd (st:ISt) (b4 b5:Nat) (q:List Nat × Nat) (e:Exit) (s:ISt):Prop:=e = .ret ∧ (∃ tg,s b4 = some (.box [.sl tg (plI q.1)]) ∧ okN tg) ∧ s b5 = some (.box [.raw (.int .i64 q.2)]) ∧ subSt st s
theorem Check_cd (G:Gl gl) (T:Gt gl) (ca:Nat) (t:Tr) (x:IV) (hx:IsTr t x) (hfit:fitTr t) (st:ISt):ICall prog gl 17 [.raw (.int .u8 ca),x] st (fun r st' => (∃ tg,r = .tup [.sl tg (plI (CheckS ca t).1),.raw (.int .i64 (CheckS ca t).2)] ∧ okN tg) ∧ st' = st):=by
  have hst:=fun st => steps_c gl x st t hx
  have hit:=fun I => steps1_c gl t x hx hfit.2 I
  have hkn:=fun st => known_c gl ca st
  obtain ⟨rule,tl,xl,tr,xr,op,fn,ta,xa,tb,xb,v,un,tu,xu,n,ts,xs,rfl⟩:=trAgg hx
  refine ICall.intro (c:=cf prog gl [2,4,5,6] [] [3]) func17 rfl (by show _ ≤ 31; simp) (by kernel_rfl) ?_
  simp -implicitDefEqProofs -dsimp only [go_sem,↓reduceIte,zE,zB,zA,zM,zS,zL,reduceCtorEq,fits,IV.one]
  intro b2
  refine giv_intro fun hb2 => ?_
  intro b4
  refine giv_intro fun hb4 => ?_
  intro b5
  refine giv_intro fun hb5 => ?_
  have h24:b2 ≠ b4:=by rintro rfl; rw [ISt.put_same] at hb4; cases hb4
  have h45:b4 ≠ b5:=by rintro rfl; rw [ISt.put_same] at hb5; cases hb5
  have h25:b2 ≠ b5:=by rintro rfl; rw [ISt.put_apply,if_neg h24,ISt.put_same] at hb5; cases hb5
  rw [ISt.put_apply,if_neg h24.symm] at hb4
  rw [ISt.put_apply,if_neg h45.symm,ISt.put_apply,if_neg h25.symm] at hb5
  obtain ⟨s1,hs1,f2,f4,f5,hsub⟩:∃ s1,s1 = ((st.put b2 (some (.box [.raw (.int .u8 ca)]))).put b4 (some (.box [.sl ⟨true,.nil,0⟩ []]))).put b5 (some (.box [.raw (.int .i64 0)])) ∧ s1 b2 = some (.box [.raw (.int .u8 ca)]) ∧ s1 b4 = some (.box [.sl ⟨true,.nil,0⟩ []]) ∧ s1 b5 = some (.box [.raw (.int .i64 0)]) ∧ subSt st s1 :=
    ⟨_,rfl,by simp only [ISt.put_apply,if_neg h24,if_neg h25,if_true],by simp only [ISt.put_apply,if_neg h45,if_true],by simp only [ISt.put_apply,if_true],subSt_put2 (subSt_put2 (subSt_put2 (subSt.refl st) hb2) hb4) hb5⟩
  rw [← hs1]
  simp -implicitDefEqProofs -dsimp only [go_sem,↓reduceIte,zE,zB,zA,zM,zS,zL,reduceCtorEq,f2,fits]
  refine (hkn _).mono ?_
  rintro _ s1' ⟨rfl,rfl⟩
  have g5:∀ (s:ISt) o,(s.put b4 o) b5 = s b5:=fun s o => by rw [ISt.put_apply,if_neg h45.symm]
  have g4:∀ (s:ISt) o o',((s.put b4 o).put b5 o') b4 = o:=fun s o o' => by rw [ISt.put_apply,if_neg h45,ISt.put_same]
  have hsub':∀ (s:ISt) o o',subSt st s → subSt st ((s.put b4 o).put b5 o'):=fun s o o' h => subSt_put2 (subSt_put2 h hb4) hb5
  cases hk:knownB ca
  · have hq:CheckS ca t = ([],2):=by unfold CheckS; rw [hk]; rfl
    simp -implicitDefEqProofs -dsimp only [go_sem,↓reduceIte,zE,zB,zA,zM,zS,zL,reduceCtorEq,f4,f5,fits,g5,g4,ISt.put_same]
    exact outK_sub (hsub' _ _ _ hsub) ⟨⟨_,by rw [hq]; rfl,.inl rfl,.inl rfl⟩,rfl⟩
  · simp -implicitDefEqProofs -dsimp only [go_sem,↓reduceIte,zE,zB,zA,zM,zS,zL,reduceCtorEq,f4,f5,fits]
    intro b6
    refine giv_intro fun hb6 => ?_
    rw [put_put_same]
    refine (hst _).mono ?_
    rintro _ _ ⟨rfl,rfl⟩
    have h26:b2 ≠ b6:=by rintro rfl; rw [f2] at hb6; cases hb6
    have h46:b4 ≠ b6:=by rintro rfl; rw [f4] at hb6; cases hb6
    have h56:b5 ≠ b6:=by rintro rfl; rw [f5] at hb6; cases hb6
    have hb6':st b6 = none:=by
      cases hq:st b6 with
      | none => rfl
      | some o => rw [hsub b6 o hq] at hb6; cases hb6
    have hI0:CkI st b2 b4 b5 b6 ca 0 (s1'.put b6 (some (.box [.raw (.int .i64 0)]))):=⟨by rw [ISt.put_apply,if_neg h26]; exact f2,by rw [ISt.put_apply,if_neg h46]; exact f4,by rw [ISt.put_apply,if_neg h56]; exact f5,ISt.put_same ..,subSt_put2 hsub hb6'⟩
    generalize s1'.put b6 (some (.box [.raw (.int .i64 0)])) = s2 at hI0 ⊢
    simp -implicitDefEqProofs -dsimp only [go_sem,↓reduceIte,zE,zB,zA,zM,zS,zL,reduceCtorEq,fits]
    refine RangeL.intro (lkT (t.walk [])) (t.walk []).length (fun k s => CkI st b2 b4 b5 b6 ca k s ∧ k ≤ 300) (fun e s => CkSd st b4 b5 ([],5) e s ∧ 300 < t.steps) rfl ?_ ?_ ?_ (hit _) ?_ ?_
    · rintro k a e ⟨p,u,a,y,_,_,_,rfl⟩; rfl
    · exact ⟨hI0,by omega⟩
    · rintro k _ e s ⟨p,z,a,y,hkz,hz,hp,rfl⟩ hd ⟨⟨c2,c4,c5,c6,hss⟩,hk3⟩
      have hd':disj s e:=hd
      have r6:=join_sub hd' _ _ c6
      have r4:=join_sub hd' _ _ c4
      have r5:=join_sub hd' _ _ c5
      have e6:e b6 = none:=ISt.disj.off hd c6
      have hw:IntKind.i64.wrap ((k:Int) + 1) = ((k + 1:Nat):Int):=by rw [w64] <;> omega
      have q4:∀ o,((join s e).put b6 o) b4 = some (.box [.sl ⟨true,.nil,0⟩ []]):=fun o => by rw [put_ne h46]; exact r4
      have q5:∀ o o',(((join s e).put b6 o).put b4 o') b5 = some (.box [.raw (.int .i64 0)]):=fun o o' => by rw [put_ne h45.symm,put_ne h56]; exact r5
      by_cases hbig:300 < k + 1
      · have hb:decide ((300:Int) < ((k + 1:Nat):Int)) = true:=decide_eq_true (by omega)
        simp -implicitDefEqProofs -dsimp only [go_sem,↓reduceIte,zE,zB,zA,zM,zS,zL,reduceCtorEq,r6,hw,ISt.put_same,hb,q4,q5,fits]
        refine ⟨⟨rfl,⟨⟨true,.nil,0⟩,?_,.inl rfl,.inl rfl⟩,ISt.put_same ..,subSt_put2 (subSt_put2 (subSt_put2 (hss.trans (join_sub hd')) hb6') hb4) hb5⟩,?_⟩
        · rw [put_ne h45,ISt.put_same]; rfl
        · have:=(List.getElem?_eq_some_iff.1 hkz).1
          rw [walk_len] at this
          omega
      · have hb:decide ((300:Int) < ((k + 1:Nat):Int)) = false:=decide_eq_false (by omega)
        simp -implicitDefEqProofs -dsimp only [go_sem,↓reduceIte,zE,zB,zA,zM,zS,zL,reduceCtorEq,r6,hw,ISt.put_same,hb,q4,q5,fits]
        refine ⟨s.put b6 (some (.box [.raw (.int .i64 ((k + 1:Nat):Int))])),⟨⟨by rw [put_ne h26]; exact c2,by rw [put_ne h46]; exact c4,by rw [put_ne h56]; exact c5,ISt.put_same ..,subSt_put2 hss hb6'⟩,by omega⟩,ISt.disj.put hd e6,ISt.put_add e6⟩
    · rintro s r ⟨⟨c2,c4,c5,c6,hss⟩,hk3⟩
      rw [walk_len] at hk3
      have hq:CheckS ca t = firstBad (checkS ca) (t.walk []):=by
        unfold CheckS
        rw [hk]
        simp only [Bool.not_true,Bool.false_eq_true,if_false]
        rw [if_neg (by omega)]
      simp -implicitDefEqProofs -dsimp only [go_sem,↓reduceIte,zE,zB,zA,zM,zS,zL,reduceCtorEq]
      refine (hst _).mono ?_
      rintro _ _ ⟨rfl,rfl⟩
      simp -implicitDefEqProofs -dsimp only [go_sem,↓reduceIte,zE,zB,zA,zM,zS,zL,reduceCtorEq,fits]
      refine RangeL.intro (lkT (t.walk [])) (t.walk []).length (fun k s => (s b2 = some (.box [.raw (.int .u8 ca)]) ∧ s b4 = some (.box [.sl ⟨true,.nil,0⟩ []]) ∧ s b5 = some (.box [.raw (.int .i64 0)]) ∧ subSt st s) ∧ firstBad (checkS ca) ((t.walk []).take k) = ([],0)) (fun e s => CkSd st b4 b5 (CheckS ca t) e s) rfl ?_ ?_ ?_ (hit _) ?_ ?_
      · rintro k a e ⟨p,u,a,y,_,_,_,rfl⟩; rfl
      · exact ⟨⟨c2,c4,c5,hss⟩,by simp [firstBad]⟩
      · rintro k _ e s ⟨p,z,a,y,hkz,hz,hp,rfl⟩ hd ⟨⟨c2,c4,c5,hss⟩,hf⟩
        have hd':disj s e:=hd
        have r2:=join_sub hd' _ _ c2
        have hpl:=walk_deep [] t _ (List.mem_of_getElem? hkz)
        have hfd:=hfit.2
        simp only [List.length_nil] at hpl
        have hck:=fun st => check'_c gl G T ca z y hz (hfit.1 _ (List.mem_of_getElem? hkz)) st
        have hcl:=Clone_cd gl p a e s hp (by omega) hd'
        have hiv:ivOf (.iv a) = some a:=by rcases hp with ⟨t,rfl,_⟩ | ⟨g,cap,cs,rfl,_⟩ <;> rfl
        obtain ⟨rule',tl',xl',tr',xr',op',fn',ta',xa',tb',xb',v',un',tu',xu',n',ts',xs',rfl⟩:=trAgg hz
        simp -implicitDefEqProofs -dsimp only [go_sem,↓reduceIte,zE,zB,zA,zM,zS,zL,reduceCtorEq,r2,hiv,fits]
        refine (hck _).mono ?_
        rintro _ _ ⟨rfl,rfl⟩
        by_cases h0:checkS ca z = 0
        · have d0:decide (((checkS ca z:Nat):Int) = 0) = true:=decide_eq_true (by omega)
          simp -implicitDefEqProofs -dsimp only [go_sem,↓reduceIte,zE,zB,zA,zM,zS,zL,reduceCtorEq,d0,fits]
          refine ⟨s,⟨⟨c2,c4,c5,hss⟩,?_⟩,hd,rfl⟩
          rw [take_get hkz,firstBad_append,hf]
          simp [firstBad,h0]
        · have d0:decide (((checkS ca z:Nat):Int) = 0) = false:=decide_eq_false (by omega)
          have hv:CheckS ca t = (p,checkS ca z):=by
            rw [hq]
            conv => lhs; rw [← List.take_append_drop k (t.walk [])]
            rw [List.drop_eq_getElem_cons (List.getElem?_eq_some_iff.1 hkz).1,(List.getElem?_eq_some_iff.1 hkz).2,firstBad_append,hf]
            simp [firstBad,h0]
          simp -implicitDefEqProofs -dsimp only [go_sem,↓reduceIte,zE,zB,zA,zM,zS,zL,reduceCtorEq,d0,hiv,fits]
          refine hcl.mono ?_
          rintro _ _ ⟨⟨t',rfl,ht'⟩,rfl⟩
          simp -implicitDefEqProofs -dsimp only [go_sem,↓reduceIte,zE,zB,zA,zM,zS,zL,reduceCtorEq,c4,c5,fits,g5,g4,ISt.put_same]
          refine ⟨rfl,⟨t',?_,ht'⟩,?_,hsub' _ _ _ hss⟩
          · rw [g4,hv]
          · rw [ISt.put_same,hv]
      · rintro s r ⟨⟨c2,c4,c5,hss⟩,hf⟩
        rw [List.take_length,← hq] at hf
        simp -implicitDefEqProofs -dsimp only [go_sem,↓reduceIte,zE,zB,zA,zM,zS,zL,reduceCtorEq,c4,c5,fits,g5,g4,ISt.put_same]
        exact outK_sub (hsub' _ _ _ hss) ⟨⟨_,by rw [hf]; rfl,.inl rfl,.inl rfl⟩,rfl⟩
      · rintro e s r ⟨rfl,⟨tg,c4,ht⟩,c5,hss⟩
        simp -implicitDefEqProofs -dsimp only [go_sem,↓reduceIte,zE,zB,zA,zM,zS,zL,reduceCtorEq,c4,c5,fits]
        exact outK_sub hss ⟨⟨_,rfl,ht⟩,rfl⟩
    · rintro e s r ⟨⟨rfl,⟨tg,c4,ht⟩,c5,hss⟩,hb⟩
      have hq:CheckS ca t = ([],5):=by unfold CheckS; rw [hk,if_pos hb]; rfl
      simp -implicitDefEqProofs -dsimp only [go_sem,↓reduceIte,zE,zB,zA,zM,zS,zL,reduceCtorEq,c4,c5,fits]
      exact outK_sub hss ⟨⟨_,by rw [hq],ht⟩,rfl⟩
end Go.Proofs.Tryz
