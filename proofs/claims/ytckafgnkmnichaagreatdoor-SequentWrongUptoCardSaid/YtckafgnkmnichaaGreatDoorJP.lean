/- Walks: depths.
   Walks: counting nodes.
   Walks: count, Nodes. -/
import Derived.Test.YtckafgnkmnichaaGreatDoorJO
set_option linter.all false
open Nat renaming reduceEqDiff → zE,reduceBEq → zB,reduceAdd → zA,reduceMul → zM,reduceSub → zS,reduceLeDiff → zL
attribute [local go_sem] Go.Iv.cf Go.Iv.setAt List.all_cons List.all_nil Bool.and_self Bool.true_and Bool.and_true Bool.false_and Bool.and_false Bool.not_true Bool.not_false List.mem_nil_iff if_false if_true beq_self_eq_true Nat.zero_add Nat.add_zero List.getElem?_cons_zero List.getElem?_cons_succ Option.map_some List.mem_cons or_false false_or or_true true_or Nat.sub_zero forall_const Int.toNat_natCast List.length_cons List.length_nil List.map_cons List.map_nil List.take_succ_cons List.take_zero List.drop_zero List.drop_succ_cons List.cons_append List.nil_append List.append_nil and_true true_and and_self true_implies List.zip_cons_cons List.zip_nil_left
namespace Go.Proofs.Tryz
open Go Go.Iv
set_option maxRecDepth 4000
variable (gl:Nat → Option IV)

theorem deepTms_take {l:List Tm} {k:Nat} {a:Tm} (h:l[k]? = some a):deepTms (l.take (k + 1)) = max (deepTms (l.take k)) a.deep ∧ a.deep ≤ deepTms l:=by
  have h1:deepTms (l.take (k + 1)) = max (deepTms (l.take k)) a.deep:=by rw [take_get h,deepTms_append]; simp [deepTms]
  refine ⟨h1,?_⟩
  have:deepTms l = max (deepTms (l.take (k + 1))) (deepTms (l.drop (k + 1))):=by conv => lhs; rw [← List.take_append_drop (k + 1) l,deepTms_append]
  omega
theorem deepFms_take {l:List Fm} {k:Nat} {a:Fm} (h:l[k]? = some a):deepFms (l.take (k + 1)) = max (deepFms (l.take k)) a.deep ∧ a.deep ≤ deepFms l:=by
  have h1:deepFms (l.take (k + 1)) = max (deepFms (l.take k)) a.deep:=by rw [take_get h,deepFms_append]; simp [deepFms]
  refine ⟨h1,?_⟩
  have:deepFms l = max (deepFms (l.take (k + 1))) (deepFms (l.drop (k + 1))):=by conv => lhs; rw [← List.take_append_drop (k + 1) l,deepFms_append]
  omega

def TD (us:List Tm):Prop:=∀ (t:Tag) (xs:List IV) (_:okEs t 3) (_:IsTms us xs) (_:deepTms us ≤ 4611686018427387904) (st:ISt),
  ICall prog gl 334 [.sl t xs] st (fun r st' => r = .raw (.int .i64 (deepTms us)) ∧ st' = st)
theorem termsDepth_step (us:List Tm) (IH:∀ v n m,Tm.mk v n m ∈ us → TD gl m):TD gl us:=by
  intro tg xs htg hxs hd st
  refine ICall.intro (c:=cf prog gl [] []) func334 rfl (by show _ ≤ 20; simp) (by kernel_rfl) ?_
  simp -implicitDefEqProofs -dsimp only [go_sem,↓reduceIte,zE,zB,zA,zM,zS,zL,reduceCtorEq,hxs.len]
  intro hlen
  refine LoopC.ctr us.length (fun k fr st' ds => fr 3 = .iv (.raw (.int .i64 (deepTms (us.take k)))) ∧ fr 6 = .iv (.sl tg xs) ∧ fr 7 = .iv (.raw (.int .i64 us.length)) ∧ fr 8 = .iv (.raw (.int .i64 k)) ∧ st' = st ∧ ds = []) ?_ ?_ ?_
  · simp -implicitDefEqProofs -dsimp only [go_sem,↓reduceIte,zE,zB,zA,zM,zS,zL,reduceCtorEq]
    simp [deepTms]
  · rintro k fr _ _ hlt ⟨f3,f6,f7,f8,rfl,rfl⟩
    obtain ⟨a,ha⟩:=get_of_lt hlt
    obtain ⟨x,hkx,hx⟩:=hxs.get ha
    obtain ⟨h1,h2⟩:=deepTms_take ha
    obtain ⟨v2,n2,m⟩:=a
    obtain ⟨tx,cx,rfl,htx,hcx⟩:=hx.mk
    simp only [Tm.deep] at h1 h2
    simp -implicitDefEqProofs -dsimp only [go_sem,↓reduceIte,zE,zB,zA,zM,zS,zL,reduceCtorEq,f3,f6,f7,f8,lt_i hlt,reTag_es htg,Int.natCast_nonneg,hkx]
    refine (IH _ _ _ (List.mem_of_getElem? ha) tx cx htx hcx (by omega) _).mono ?_
    rintro _ _ ⟨rfl,rfl⟩
    have hw:IntKind.i64.wrap (((deepTms m:Nat):Int) + 1) = ((deepTms m + 1:Nat):Int):=by rw [w64] <;> omega
    have hm:max ((deepTms (us.take k):Nat):Int) ((deepTms m + 1:Nat):Int) = ((deepTms (us.take (k + 1)):Nat):Int):=by rw [h1]; omega
    simp -implicitDefEqProofs -dsimp only [go_sem,↓reduceIte,zE,zB,zA,zM,zS,zL,reduceCtorEq,f3,f6,f7,f8,w_succ hlt (show us.length ≤ 281474976710656 by omega),hw,hm]
  · rintro fr _ _ ⟨f3,f6,f7,f8,rfl,rfl⟩
    simp -implicitDefEqProofs -dsimp only [go_sem,↓reduceIte,zE,zB,zA,zM,zS,zL,reduceCtorEq,f3,f7,f8,nlt_i (Nat.lt_irrefl _)]
    rw [List.take_length]
    exact outK_self ⟨rfl,rfl⟩
theorem termsDepth_all:∀ (k:Nat) (us:List Tm),SizeOf.sizeOf us < k → TD gl us
  | 0,f,h => by omega
  | k + 1,us,h => termsDepth_step gl us (fun v n m ha => termsDepth_all k m (by
      have:=List.sizeOf_lt_of_mem ha
      simp at this; omega))
theorem termsDepth_c (us:List Tm):TD gl us:=termsDepth_all gl _ us (Nat.lt_succ_self _)

def DF (f:Fm):Prop:=∀ (x:IV) (_:IsFm f x) (_:f.deep ≤ 4611686018427387904) (st:ISt),
  ICall prog gl 313 [x] st (fun r st' => r = .raw (.int .i64 f.deep) ∧ st' = st)
theorem Depth_step (op:Nat) (n:ByteArray) (us:List Tm) (sub:List Fm) (IH:∀ a ∈ sub,DF gl a):DF gl (.mk op n us sub):=by
  intro x hx hd st
  obtain ⟨tg,xs,tg',ys,rfl,hop,htg,hxs,htg',hys⟩:=hx.mk
  simp only [Fm.deep] at hd ⊢
  refine ICall.intro (c:=cf prog gl [] []) func313 rfl (by show _ ≤ 23; simp) (by kernel_rfl) ?_
  simp -implicitDefEqProofs -dsimp only [go_sem,↓reduceIte,zE,zB,zA,zM,zS,zL,reduceCtorEq]
  refine (termsDepth_c gl us tg xs htg hxs (by omega) _).mono ?_
  rintro _ st ⟨rfl,rfl⟩
  simp -implicitDefEqProofs -dsimp only [go_sem,↓reduceIte,zE,zB,zA,zM,zS,zL,reduceCtorEq,hys.len]
  intro hlen
  refine LoopC.ctr sub.length (fun k fr st' ds => fr 3 = .iv (.raw (.int .i64 (max (deepTms us) (deepFms (sub.take k)):Nat))) ∧ fr 10 = .iv (.sl tg' ys) ∧ fr 11 = .iv (.raw (.int .i64 sub.length)) ∧ fr 12 = .iv (.raw (.int .i64 k)) ∧ st' = st ∧ ds = []) ?_ ?_ ?_
  · simp -implicitDefEqProofs -dsimp only [go_sem,↓reduceIte,zE,zB,zA,zM,zS,zL,reduceCtorEq]
    simp [deepFms]
  · rintro k fr st _ hlt ⟨f3,f10,f11,f12,rfl,rfl⟩
    obtain ⟨a,ha⟩:=get_of_lt hlt
    obtain ⟨x,hkx,hx⟩:=hys.get ha
    obtain ⟨h1,h2⟩:=deepFms_take ha
    have hcall:=IH a (List.mem_of_getElem? ha) x hx (by omega) st
    have hm:max ((max (deepTms us) (deepFms (sub.take k)):Nat):Int) ((a.deep:Nat):Int) = ((max (deepTms us) (deepFms (sub.take (k + 1))):Nat):Int):=by rw [h1]; omega
    obtain ⟨o2,n2,u2,s2⟩:=a
    obtain ⟨t3,x3,t4,x4,rfl,_⟩:=hx.mk
    simp -implicitDefEqProofs -dsimp only [go_sem,↓reduceIte,zE,zB,zA,zM,zS,zL,reduceCtorEq,f3,f10,f11,f12,lt_i hlt,reTag_es htg',Int.natCast_nonneg,hkx]
    refine hcall.mono ?_
    rintro _ _ ⟨rfl,rfl⟩
    simp -implicitDefEqProofs -dsimp only [go_sem,↓reduceIte,zE,zB,zA,zM,zS,zL,reduceCtorEq,f3,f10,f11,f12,w_succ hlt (show sub.length ≤ 281474976710656 by omega),hm]
  · rintro fr _ _ ⟨f3,f10,f11,f12,rfl,rfl⟩
    have hw:IntKind.i64.wrap (((max (deepTms us) (deepFms sub):Nat):Int) + 1) = ((max (deepTms us) (deepFms sub) + 1:Nat):Int):=by rw [w64] <;> omega
    rw [List.take_length] at f3
    simp -implicitDefEqProofs -dsimp only [go_sem,↓reduceIte,zE,zB,zA,zM,zS,zL,reduceCtorEq,f3,f11,f12,nlt_i (Nat.lt_irrefl _),hw]
    exact outK_self ⟨rfl,rfl⟩
theorem Depth_all:∀ (k:Nat) (t:Fm),SizeOf.sizeOf t < k → DF gl t
  | 0,f,h => by omega
  | k + 1,.mk o n us sub,h => Depth_step gl o n us sub (fun a ha => Depth_all k a (by
      have:=List.sizeOf_lt_of_mem ha
      simp at h; omega))
theorem Depth_c (t:Fm):DF gl t:=Depth_all gl _ t (Nat.lt_succ_self _)
end Go.Proofs.Tryz

namespace Go.Proofs.Tryz
open Go Go.Iv
set_option maxRecDepth 4000
variable (gl:Nat → Option IV)

def cBox (n:Int):Option IObj:=some (.box [.raw (.int .i64 n)])
def bigI:IV:=.raw (.int .i64 9223372036854775807)
def cntFn (b:Nat):IV:=.fn (.func 338) [] [.raw (.pointer (some ⟨b,0,none⟩)),.cptr bigI]

theorem count1_c (v:Bool) (n:ByteArray) (us:List Tm) (x:IV) (hx:IsTm (.mk v n us) x) (b:Nat) (st:ISt) (c:Nat) (hb:st b = cBox c) (hc:c + 1 ≤ 4611686018427387904) :
    ICall prog gl 338 [x,.raw (.pointer (some ⟨b,0,none⟩)),.cptr bigI] st (fun r st' => r = .raw (.bool true) ∧ st' = st.put b (cBox ((c + 1:Nat):Int))):=by
  obtain ⟨tx,cx,rfl,_⟩:=hx.mk
  refine ICall.intro (c:=cf prog gl [] []) func338 rfl (by show _ ≤ 10; simp) (by kernel_rfl) ?_
  have hw:IntKind.i64.wrap (((c:Nat):Int) + 1) = ((c + 1:Nat):Int):=by rw [w64] <;> omega
  have hle:decide (((c + 1:Nat):Int) ≤ 9223372036854775807) = true:=by simp; omega
  simp -implicitDefEqProofs -dsimp only [go_sem,↓reduceIte,zE,zB,zA,zM,zS,zL,reduceCtorEq,hb,cBox,bigI,hw,ISt.put_same,hle]
  exact outK_self ⟨rfl,rfl⟩

def CN (us:List Tm):Prop:=∀ (t:Tag) (xs:List IV) (_:okEs t 3) (_:IsTms us xs) (b:Nat) (st:ISt) (c:Nat) (_:st b = cBox c) (_:c + sizeTms us ≤ 4611686018427387904),
  ICall prog gl 228 [.sl t xs,cntFn b] st (fun r st' => r = .raw (.bool true) ∧ st' = st.put b (cBox ((c + sizeTms us:Nat):Int)))
theorem visitTerms_step (us:List Tm) (IH:∀ v n m,Tm.mk v n m ∈ us → CN gl m):CN gl us:=by
  intro tg xs htg hxs b st c hb hc
  refine ICall.intro (c:=cf prog gl [] []) func228 rfl (by show _ ≤ 25; simp) (by kernel_rfl) ?_
  simp -implicitDefEqProofs -dsimp only [go_sem,↓reduceIte,zE,zB,zA,zM,zS,zL,reduceCtorEq,hxs.len,cntFn]
  intro hlen
  refine LoopC.ctr us.length (fun k fr st' ds => st' = st.put b (cBox ((c + sizeTms (us.take k):Nat):Int)) ∧ fr 1 = .iv (cntFn b) ∧ fr 7 = .iv (.sl tg xs) ∧ fr 8 = .iv (.raw (.int .i64 us.length)) ∧ fr 9 = .iv (.raw (.int .i64 k)) ∧ ds = []) ?_ ?_ ?_
  · simp -implicitDefEqProofs -dsimp only [go_sem,↓reduceIte,zE,zB,zA,zM,zS,zL,reduceCtorEq,cntFn]
    simp only [List.take_zero,sizeTms,Nat.add_zero]
    exact ⟨(put_self hb).symm,rfl⟩
  · rintro k fr _ _ hlt ⟨rfl,f1,f7,f8,f9,rfl⟩
    obtain ⟨a,ha⟩:=get_of_lt hlt
    obtain ⟨x,hkx,hx⟩:=hxs.get ha
    obtain ⟨h1,h2⟩:=sizeTms_take ha
    obtain ⟨v2,n2,m⟩:=a
    have hcall:=fun st c => count1_c gl v2 n2 m x hx b st c
    obtain ⟨tx,cx,rfl,htx,hcx⟩:=hx.mk
    simp only [Tm.size] at h1 h2
    simp -implicitDefEqProofs -dsimp only [go_sem,↓reduceIte,zE,zB,zA,zM,zS,zL,reduceCtorEq,f1,f7,f8,f9,lt_i hlt,reTag_es htg,Int.natCast_nonneg,hkx,cntFn]
    refine (hcall _ _ (ISt.put_same _ _ _) (by omega)).mono ?_
    rintro _ _ ⟨rfl,rfl⟩
    simp -implicitDefEqProofs -dsimp only [go_sem,↓reduceIte,zE,zB,zA,zM,zS,zL,reduceCtorEq,f1,f7,f8,f9,cntFn]
    refine (IH _ _ _ (List.mem_of_getElem? ha) tx cx htx hcx b _ (c + sizeTms (us.take k) + 1) (ISt.put_same _ _ _) (by omega)).mono ?_
    rintro _ _ ⟨rfl,rfl⟩
    simp -implicitDefEqProofs -dsimp only [go_sem,↓reduceIte,zE,zB,zA,zM,zS,zL,reduceCtorEq,f1,f7,f8,f9,w_succ hlt (show us.length ≤ 281474976710656 by omega)]
    simp only [put_put_same]
    rw [h1,show c + sizeTms (us.take k) + 1 + sizeTms m = c + (sizeTms (us.take k) + (sizeTms m + 1)) by omega]
    exact ⟨rfl,rfl⟩
  · rintro fr _ _ ⟨rfl,f1,f7,f8,f9,rfl⟩
    simp -implicitDefEqProofs -dsimp only [go_sem,↓reduceIte,zE,zB,zA,zM,zS,zL,reduceCtorEq,f7,f8,f9,nlt_i (Nat.lt_irrefl _)]
    rw [List.take_length]
    exact outK_self ⟨rfl,rfl⟩
theorem visitTerms_all:∀ (k:Nat) (us:List Tm),SizeOf.sizeOf us < k → CN gl us
  | 0,f,h => by omega
  | k + 1,us,h => visitTerms_step gl us (fun v n m ha => visitTerms_all k m (by
      have:=List.sizeOf_lt_of_mem ha
      simp at this; omega))
theorem visitTerms_c (us:List Tm):CN gl us:=visitTerms_all gl _ us (Nat.lt_succ_self _)

mutual
def partsFm:Fm → List Fm
  | .mk o n us sub => .mk o n us sub :: partsFms sub
def partsFms:List Fm → List Fm
  | [] => []
  | a :: l => partsFm a ++ partsFms l
end
theorem partsFms_append:∀ (l m:List Fm),partsFms (l ++ m) = partsFms l ++ partsFms m
  | [],m => by simp [partsFms]
  | a :: l,m => by simp only [List.cons_append,partsFms,partsFms_append l m,List.append_assoc]
def FOk (y:IV) (I:Nat → ISt → Prop) (S:ISt → Prop) (k0:Nat) (l:List Fm):Prop :=
  ∀ i z x stu,l[i]? = some z → IsFm z x → I (k0 + i) stu → ICallV prog gl y [x] stu (yPost I S (k0 + i + 1))
theorem FOk.left {y:IV} {I:Nat → ISt → Prop} {S:ISt → Prop} {k0:Nat} {l m:List Fm} (h:FOk gl y I S k0 (l ++ m)):FOk gl y I S k0 l:=fun i z x stu hi hx hI =>
  h i z x stu (by rw [List.getElem?_append_left (List.getElem?_eq_some_iff.1 hi).1]; exact hi) hx hI
theorem FOk.right {y:IV} {I:Nat → ISt → Prop} {S:ISt → Prop} {k0:Nat} {l m:List Fm} (h:FOk gl y I S k0 (l ++ m)):FOk gl y I S (k0 + l.length) m:=fun i z x stu hi hx hI => by
  have:=h (l.length + i) z x stu (by rw [List.getElem?_append_right (by omega)]; simpa using hi) hx (by rw [← Nat.add_assoc]; exact hI)
  simpa only [Nat.add_assoc] using this
theorem FOk.head {y:IV} {I:Nat → ISt → Prop} {S:ISt → Prop} {k0:Nat} {z:Fm} {m:List Fm} (h:FOk gl y I S k0 (z :: m)) {x:IV} (hx:IsFm z x) {st:ISt} (hI:I k0 st):ICallV prog gl y [x] st (yPost I S (k0 + 1)):=h 0 z x st rfl hx hI
theorem FOk.tail {y:IV} {I:Nat → ISt → Prop} {S:ISt → Prop} {k0:Nat} {z:Fm} {m:List Fm} (h:FOk gl y I S k0 (z :: m)):FOk gl y I S (k0 + 1) m:=FOk.right gl (l:=[z]) h

def VV (f:Fm):Prop:=∀ (x:IV) (_:IsFm f x) (g:Fn) (fi ca:List IV) (_:fnOk g = true) (_:∀ i,g = .func i → entI prog i = true) (I:Nat → ISt → Prop) (S:ISt → Prop) (k0:Nat) (_:FOk gl (.fn g fi ca) I S k0 (partsFm f)) (st:ISt) (_:I k0 st),
    ICall prog gl 284 [x,.fn g fi ca] st (yPost I S (k0 + (partsFm f).length))
theorem visit_step (op:Nat) (n:ByteArray) (us:List Tm) (sub:List Fm) (IH:∀ a ∈ sub,VV gl a):VV gl (.mk op n us sub):=by
  intro x hx g fi ca hfn hent I S k0 hy st hI
  have hx0:=hx
  obtain ⟨tg,xs,tg',ys,rfl,hop,htg,hxs,htg',hys⟩:=hx.mk
  simp only [partsFm] at hy ⊢
  have hhead:=FOk.head gl hy hx0 hI
  have hy':=FOk.tail gl hy
  refine ICall.intro (c:=cf prog gl [] []) func284 rfl (by show _ ≤ 23; simp) (by kernel_rfl) ?_
  simp -implicitDefEqProofs -dsimp only [go_sem,↓reduceIte,zE,zB,zA,zM,zS,zL,reduceCtorEq]
  refine callV_of_ICallV hent (hhead.mono ?_)
  rintro _ st (⟨rfl,h⟩ | ⟨rfl,h⟩)
  · simp -implicitDefEqProofs -dsimp only [go_sem,↓reduceIte,zE,zB,zA,zM,zS,zL,reduceCtorEq,hys.len]
    intro hlen
    refine LoopC.ctr sub.length (fun k fr st ds => I (k0 + 1 + (partsFms (sub.take k)).length) st ∧ fr 1 = .iv (.fn g fi ca) ∧ fr 12 = .iv (.sl tg' ys) ∧ fr 13 = .iv (.raw (.int .i64 sub.length)) ∧ fr 14 = .iv (.raw (.int .i64 k)) ∧ ds = []) ?_ ?_ ?_
    · simp -implicitDefEqProofs -dsimp only [go_sem,↓reduceIte,zE,zB,zA,zM,zS,zL,reduceCtorEq]
      exact ⟨by simpa [partsFms] using h,rfl⟩
    · rintro k fr st _ hlt ⟨hst,f1,f12,f13,f14,rfl⟩
      obtain ⟨a,ha⟩:=get_of_lt hlt
      obtain ⟨x,hkx,hx⟩:=hys.get ha
      have hsplit:partsFms sub = partsFms (sub.take k) ++ (partsFm a ++ partsFms (sub.drop (k + 1))):=by
        conv => lhs; rw [← List.take_append_drop k sub,List.drop_eq_getElem_cons hlt]
        rw [partsFms_append,(List.getElem?_eq_some_iff.1 ha).2]; rfl
      have hya:=hy'
      rw [hsplit] at hya
      have hcall:=IH a (List.mem_of_getElem? ha) x hx g fi ca hfn hent I S _ (FOk.left gl (FOk.right gl hya)) st hst
      obtain ⟨o2,n2,u2,s2⟩:=a
      obtain ⟨t3,x3,t4,x4,rfl,_⟩:=hx.mk
      simp -implicitDefEqProofs -dsimp only [go_sem,↓reduceIte,zE,zB,zA,zM,zS,zL,reduceCtorEq,f1,f12,f13,f14,lt_i hlt,reTag_es htg',Int.natCast_nonneg,hkx]
      refine hcall.mono ?_
      rintro _ st (⟨rfl,h⟩ | ⟨rfl,h⟩)
      · simp -implicitDefEqProofs -dsimp only [go_sem,↓reduceIte,zE,zB,zA,zM,zS,zL,reduceCtorEq,f1,f12,f13,f14,w_succ hlt (show sub.length ≤ 281474976710656 by omega)]
        rw [take_get ha,partsFms_append,List.length_append,← Nat.add_assoc]
        simpa [partsFms] using h
      · simp -implicitDefEqProofs -dsimp only [go_sem,↓reduceIte,zE,zB,zA,zM,zS,zL,reduceCtorEq]
        exact outK_self (.inr ⟨rfl,h⟩)
    · rintro fr st _ ⟨hst,f1,f12,f13,f14,rfl⟩
      simp -implicitDefEqProofs -dsimp only [go_sem,↓reduceIte,zE,zB,zA,zM,zS,zL,reduceCtorEq,f13,f14,nlt_i (Nat.lt_irrefl _)]
      rw [List.take_length] at hst
      refine outK_self (.inl ⟨rfl,?_⟩)
      rw [show k0 + ((partsFms sub).length + 1) = k0 + 1 + (partsFms sub).length by omega]; exact hst
  · simp -implicitDefEqProofs -dsimp only [go_sem,↓reduceIte,zE,zB,zA,zM,zS,zL,reduceCtorEq]
    exact outK_self (.inr ⟨rfl,h⟩)
theorem visit_all:∀ (k:Nat) (t:Fm),SizeOf.sizeOf t < k → VV gl t
  | 0,f,h => by omega
  | k + 1,.mk o n us sub,h => visit_step gl o n us sub (fun a ha => visit_all k a (by
      have:=List.sizeOf_lt_of_mem ha
      simp at h; omega))
theorem visit_c (t:Fm):VV gl t:=visit_all gl _ t (Nat.lt_succ_self _)
def partX (f:Fm) (k:Nat) (a:List IV):Prop:=∃ z x,(partsFm f)[k]? = some z ∧ IsFm z x ∧ a = [x]
theorem walk1_c (f:Fm) (x:IV) (hx:IsFm f x) (I:Nat → ISt → Prop):IterC prog gl 283 [] [.cptr x] (partX f) (partsFm f).length I:=by
  have hx0:=hx
  obtain ⟨o,n,us,sub⟩:=f
  obtain ⟨t1,x1,t2,x2,rfl,_⟩:=hx.mk
  rintro y I' S' st ⟨g,fi,ca,rfl,hfn,hent⟩ _ hy h0
  change ICall prog gl _ [.fn g fi ca,_] st _
  refine ICall.intro (c:=cf prog gl [] []) func283 rfl (by show _ ≤ 6; simp) (by kernel_rfl) ?_
  simp -implicitDefEqProofs -dsimp only [go_sem,↓reduceIte,zE,zB,zA,zM,zS,zL,reduceCtorEq,fits]
  refine (visit_c gl _ _ hx0 g fi ca hfn hent I' S' 0 ?_ st h0).mono ?_
  · intro i z x stu hi hz hI
    rw [Nat.zero_add] at hI ⊢
    exact hy i [x] stu ⟨z,x,hi,hz,rfl⟩ hI
  · rintro _ st' h
    simp -implicitDefEqProofs -dsimp only [go_sem,↓reduceIte,zE,zB,zA,zM,zS,zL,reduceCtorEq]
    refine outK_self ?_
    rw [Nat.zero_add] at h
    exact h.imp And.right And.right
theorem walk_c (x:IV) (st:ISt) (f:Fm) (hx:IsFm f x):ICall prog gl 226 [x] st (fun r st' => r = .fn (.func 283) [] [.cptr x] ∧ st' = st):=by
  obtain ⟨o,n,us,sub⟩:=f
  obtain ⟨t1,x1,t2,x2,rfl,_⟩:=hx.mk
  refine ICall.intro (c:=cf prog gl [] [] [1]) func226 rfl (by show _ ≤ 4; simp) (by kernel_rfl) ?_
  simp -implicitDefEqProofs -dsimp only [go_sem,↓reduceIte,zE,zB,zA,zM,zS,zL,reduceCtorEq,fits]
  exact outK_self ⟨rfl,rfl⟩
end Go.Proofs.Tryz

namespace Go.Proofs.Tryz
open Go Go.Iv
set_option maxRecDepth 4000
variable (gl:Nat → Option IV)

def partW:Fm → Nat
  | .mk _ _ us _ => sizeTms us + 1
def sumW:List Fm → Nat
  | [] => 0
  | a :: l => partW a + sumW l
theorem sumW_append:∀ (l m:List Fm),sumW (l ++ m) = sumW l + sumW m
  | [],m => by simp [sumW]
  | a :: l,m => by simp only [List.cons_append,sumW,sumW_append l m]; omega
mutual
theorem sumW_parts:∀ f:Fm,sumW (partsFm f) = f.size
  | .mk o n us sub => by simp only [partsFm,sumW,partW,Fm.size,sumW_partss sub]; omega
theorem sumW_partss:∀ l:List Fm,sumW (partsFms l) = sizeFms l
  | [] => rfl
  | a :: l => by simp only [partsFms,sumW_append,sizeFms,sumW_parts a,sumW_partss l]
end
theorem sumW_take {l:List Fm} {k:Nat} {a:Fm} (h:l[k]? = some a):sumW (l.take (k + 1)) = sumW (l.take k) + partW a ∧ sumW (l.take k) + partW a ≤ sumW l:=by
  have h1:sumW (l.take (k + 1)) = sumW (l.take k) + partW a:=by rw [take_get h,sumW_append]; simp [sumW]
  refine ⟨h1,?_⟩
  rw [← h1]
  conv => rhs; rw [← List.take_append_drop (k + 1) l,sumW_append]
  omega

theorem count_c (f:Fm) (x:IV) (hx:IsFm f x) (hs:f.size ≤ 4611686018427387904) (st:ISt) :
    ICall prog gl 333 [x,bigI] st (fun r st' => r = .raw (.int .i64 f.size) ∧ st' = st):=by
  have hx0:=hx
  rw [← sumW_parts f] at hs ⊢
  have hwalk:=fun st => walk_c gl x st f hx0
  have hiter:=walk1_c gl f x hx0
  generalize hfw:partsFm f = l at hs hiter ⊢
  have hX:∀ k a,partX f k a → ∃ z x,l[k]? = some z ∧ IsFm z x ∧ a = [x]:=fun k a h => by rw [← hfw]; exact h
  generalize partX f = X at hiter hX
  obtain ⟨o,n,us,sub⟩:=f
  obtain ⟨t1,x1,t2,x2,rfl,_⟩:=hx.mk
  refine ICall.intro (c:=cf prog gl [5] [] [3]) func333 rfl (by show _ ≤ 20; simp) (by kernel_rfl) ?_
  simp -implicitDefEqProofs -dsimp only [go_sem,↓reduceIte,zE,zB,zA,zM,zS,zL,reduceCtorEq,bigI,fits]
  refine fun b => giv_intro fun hb => ?_
  refine (hwalk _).mono ?_
  rintro _ _ ⟨rfl,rfl⟩
  simp -implicitDefEqProofs -dsimp only [go_sem,↓reduceIte,zE,zB,zA,zM,zS,zL,reduceCtorEq,fits]
  refine RangeC.intro X l.length (fun k st' => st' = st.put b (cBox ((sumW (l.take k):Nat):Int))) (fun _ _ => False) rfl ?_ ?_ ?_ (hiter _) ?_ (fun _ _ _ h => h.elim)
  · intro k a ha
    obtain ⟨z,x,_,_,rfl⟩:=hX k a ha
    rfl
  · rw [put_put_same]; rfl
  · rintro k a _ hk rfl
    obtain ⟨z,x,hz,hzx,rfl⟩:=hX k a hk
    obtain ⟨h1,h2⟩:=sumW_take hz
    obtain ⟨o2,n2,u2,s2⟩:=z
    obtain ⟨t3,x3,t4,x4,rfl,_,ht3,hx3,_⟩:=hzx.mk
    simp only [partW] at h1 h2
    have hw:IntKind.i64.wrap (((sumW (l.take k):Nat):Int) + 1) = ((sumW (l.take k) + 1:Nat):Int):=by rw [w64] <;> omega
    simp -implicitDefEqProofs -dsimp only [go_sem,↓reduceIte,zE,zB,zA,zM,zS,zL,reduceCtorEq,ISt.put_same,cBox,fits,hw]
    refine (visitTerms_c gl u2 t3 x3 ht3 hx3 b _ (sumW (l.take k) + 1) (ISt.put_same _ _ _) (by omega)).mono ?_
    rintro _ _ ⟨rfl,rfl⟩
    have hgt:decide ((9223372036854775807:Int) < ((sumW (l.take k) + 1 + sizeTms u2:Nat):Int)) = false:=by simp; omega
    simp -implicitDefEqProofs -dsimp only [go_sem,↓reduceIte,zE,zB,zA,zM,zS,zL,reduceCtorEq,ISt.put_same,cBox,fits,hgt]
    rw [put_put_same,put_put_same,h1,show sumW (l.take k) + (sizeTms u2 + 1) = sumW (l.take k) + 1 + sizeTms u2 by omega]
  · rintro _ r rfl
    simp -implicitDefEqProofs -dsimp only [go_sem,↓reduceIte,zE,zB,zA,zM,zS,zL,reduceCtorEq,ISt.put_same,fits,cBox]
    rw [List.take_length]
    exact outK_sub (subSt_put hb) ⟨rfl,rfl⟩

theorem Nodes_c (f:Fm) (x:IV) (hx:IsFm f x) (hs:f.size ≤ 4611686018427387904) (st:ISt) :
    ICall prog gl 312 [x] st (fun r st' => r = .raw (.int .i64 f.size) ∧ st' = st):=by
  have hcall:=fun st => count_c gl f x hx hs st
  generalize f.size = z at hcall ⊢
  obtain ⟨o,n,us,sub⟩:=f
  obtain ⟨t1,x1,t2,x2,rfl,_⟩:=hx.mk
  refine ICall.intro (c:=cf prog gl [] []) func312 rfl (by show _ ≤ 5; simp) (by kernel_rfl) ?_
  simp -implicitDefEqProofs -dsimp only [go_sem,↓reduceIte,zE,zB,zA,zM,zS,zL,reduceCtorEq,fits]
  refine (hcall _).mono ?_
  rintro _ _ ⟨rfl,rfl⟩
  simp -implicitDefEqProofs -dsimp only [go_sem,↓reduceIte,zE,zB,zA,zM,zS,zL,reduceCtorEq,fits]
  exact outK_self ⟨rfl,rfl⟩
end Go.Proofs.Tryz
