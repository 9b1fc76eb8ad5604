/- Walks: what Small of lyceumlaw19 reckons.
   Walks: the steps of a tree, one after the other.
   Walks: the first step of a tree that is not right. -/
import Derived.Test.YtckafgnkmnichaaGreatDoorQF
import Derived.Test.YtckafgnkmnichaaGreatDoorQB
import Derived.Test.YtckafgnkmnichaaGreatDoorJI
import Derived.Test.YtckafgnkmnichaaGreatDoorQE
set_option linter.all false
open Nat renaming reduceEqDiff → zE,reduceBEq → zB,reduceAdd → zA,reduceMul → zM,reduceSub → zS,reduceLeDiff → zL
attribute [local go_sem] Go.Iv.cf Go.Iv.setAt List.all_cons List.all_nil Bool.and_self Bool.true_and Bool.and_true Bool.false_and Bool.and_false Bool.not_true Bool.not_false List.mem_nil_iff if_false if_true beq_self_eq_true Nat.zero_add Nat.add_zero List.getElem?_cons_zero List.getElem?_cons_succ Option.map_some List.mem_cons or_false false_or or_true true_or Nat.sub_zero forall_const Int.toNat_natCast List.length_cons List.length_nil List.map_cons List.map_nil List.take_succ_cons List.take_zero List.drop_zero List.drop_succ_cons List.cons_append List.nil_append List.append_nil and_true true_and and_self true_implies List.zip_cons_cons List.zip_nil_left
namespace Go.Proofs.Tryz
open Go Go.Iv
set_option maxRecDepth 4000
variable (gl:Nat → Option IV)

mutual
def wTm:Tm → Nat
  | .mk _ n us => 1 + n.size / 20 + wTms us
def wTms:List Tm → Nat
  | [] => 0
  | a :: l => wTm a + wTms l
end
mutual
def wFm:Fm → Nat
  | .mk _ n us sub => 1 + n.size / 20 + wTms us + wFms sub
def wFms:List Fm → Nat
  | [] => 0
  | a :: l => wFm a + wFms l
end
theorem wTms_append:∀ l m:List Tm,wTms (l ++ m) = wTms l + wTms m
  | [],m => by simp [wTms]
  | a :: l,m => by simp only [List.cons_append,wTms,wTms_append l m]; omega
theorem wTms_take {l:List Tm} {k:Nat} {a:Tm} (h:l[k]? = some a):wTms (l.take (k + 1)) = wTms (l.take k) + wTm a:=by
  rw [take_get h,wTms_append]; simp [wTms]
theorem wTms_le (l:List Tm) (k:Nat):wTms (l.take k) ≤ wTms l:=by
  conv => rhs; rw [← List.take_append_drop k l]
  rw [wTms_append]; omega
theorem wFms_append:∀ l m:List Fm,wFms (l ++ m) = wFms l + wFms m
  | [],m => by simp [wFms]
  | a :: l,m => by simp only [List.cons_append,wFms,wFms_append l m]; omega
theorem wFms_take {l:List Fm} {k:Nat} {a:Fm} (h:l[k]? = some a):wFms (l.take (k + 1)) = wFms (l.take k) + wFm a:=by
  rw [take_get h,wFms_append]; simp [wFms]
theorem wFms_le (l:List Fm) (k:Nat):wFms (l.take k) ≤ wFms l:=by
  conv => rhs; rw [← List.take_append_drop k l]
  rw [wFms_append]; omega
def Sum (w:Nat) (lim:Int) (r:IV):Prop:=∃ n:Nat,r = .raw (.int .i64 n) ∧ n ≤ w ∧ ((n:Int) ≤ lim → n = w)
def tC (us:List Tm):Prop:=∀ (t:Tag) (xs:List IV) (_:okEs t 3) (_:IsTms us xs) (lim:Int) (_:-1 ≤ lim ∧ lim ≤ 1000) (_:wTms us ≤ 1099511627776) (st:ISt),
  ICall prog gl 71 [.sl t xs,.raw (.int .i64 lim)] st (fun r st' => Sum (wTms us) lim r ∧ st' = st)
theorem qterms_step (us:List Tm) (IH:∀ v n l,Tm.mk v n l ∈ us → tC gl l):tC gl us:=by
  intro t xs ht hx lim hlim hw st
  refine ICall.intro (c:=cf prog gl [] []) func71 rfl (by show _ ≤ 40; simp) (by kernel_rfl) ?_
  simp -implicitDefEqProofs -dsimp only [go_sem,↓reduceIte,zE,zB,zA,zM,zS,zL,reduceCtorEq]
  refine LoopC.ctr us.length (fun k fr st' ds => (∃ n:Nat,fr 5 = .iv (.raw (.int .i64 n)) ∧ n ≤ wTms (us.take k) ∧ ((n:Int) ≤ lim → n = wTms (us.take k))) ∧ fr 0 = .iv (.sl t xs) ∧ fr 1 = .iv (.raw (.int .i64 lim)) ∧ fr 6 = .iv (.raw (.int .i64 k)) ∧ st' = st ∧ ds = []) ?_ ?_ ?_
  · simp -implicitDefEqProofs -dsimp only [go_sem,↓reduceIte,zE,zB,zA,zM,zS,zL,reduceCtorEq]
    exact ⟨⟨0,rfl,Nat.le_refl _,fun _ => rfl⟩,rfl⟩
  · rintro k fr st1 _ hlt ⟨⟨n,f5,hn1,hn2⟩,f0,f1,f6,rfl,rfl⟩
    obtain ⟨a,ha⟩:=get_of_lt hlt
    obtain ⟨x,hkx,hxa⟩:=hx.get ha
    obtain ⟨v2,n2,l2⟩:=a
    obtain ⟨tx,cx,rfl,htx,hcx⟩:=hxa.mk
    have hwt:=wTms_take ha
    have hwl:=wTms_le us (k + 1)
    have hwk:=wTms_le us k
    simp only [wTm] at hwt
    by_cases hle:(n:Int) ≤ lim
    · have hnk:=hn2 hle
      have hcall:=fun st => IH _ _ _ (List.mem_of_getElem? ha) tx cx htx hcx (lim - n - 1) ⟨by omega,by omega⟩ (by omega) st
      have hq:IntKind.i64.wrap (((n2.size:Nat):Int).tdiv 20) = ((n2.size / 20:Nat):Int):=by
        have:((n2.size:Nat):Int).tdiv 20 = ((n2.size / 20:Nat):Int):=rfl
        rw [this,w64 (by omega) (by omega)]
      have hz:¬ ((20:Int) = 0):=by decide
      generalize n2.size / 20 = q at hq hwt
      have w1:IntKind.i64.wrap (1 + ((q:Nat):Int)) = ((1 + q:Nat):Int):=by rw [w64] <;> omega
      have w2:IntKind.i64.wrap (IntKind.i64.wrap (lim - (n:Int)) - 1) = lim - n - 1:=by rw [w64 (n:=lim - n) (by omega) (by omega),w64 (by omega) (by omega)]
      simp -implicitDefEqProofs -dsimp only [go_sem,↓reduceIte,zE,zB,zA,zM,zS,zL,reduceCtorEq,f0,f1,f5,f6,hx.len,lt_i hlt,decide_eq_true hle,reTag_es ht,Int.natCast_nonneg,hkx,fits,hq,hz,w1,w2]
      intro _
      refine (hcall _).mono ?_
      rintro _ st2 ⟨⟨m,rfl,hm1,hm2⟩,rfl⟩
      have w3:IntKind.i64.wrap (((1 + q:Nat):Int) + (m:Int)) = ((1 + q + m:Nat):Int):=by rw [w64] <;> omega
      have w4:IntKind.i64.wrap ((n:Int) + ((1 + q + m:Nat):Int)) = ((n + (1 + q + m):Nat):Int):=by rw [w64] <;> omega
      simp -implicitDefEqProofs -dsimp only [go_sem,↓reduceIte,zE,zB,zA,zM,zS,zL,reduceCtorEq,f0,f1,f5,f6,w3,w4,w_succ hlt (show us.length ≤ 281474976710656 by omega)]
      exact ⟨n + (1 + q + m),rfl,by omega,fun h => by have:=hm2 (by omega); omega⟩
    · simp -implicitDefEqProofs -dsimp only [go_sem,↓reduceIte,zE,zB,zA,zM,zS,zL,reduceCtorEq,f0,f1,f5,f6,hx.len,lt_i hlt,decide_eq_false hle]
      intro _
      exact outK_self ⟨⟨n,rfl,by omega,fun h => absurd h hle⟩,rfl⟩
  · rintro fr st1 _ ⟨⟨n,f5,hn1,hn2⟩,f0,f1,f6,rfl,rfl⟩
    rw [List.take_length] at hn1 hn2
    simp -implicitDefEqProofs -dsimp only [go_sem,↓reduceIte,zE,zB,zA,zM,zS,zL,reduceCtorEq,f0,f5,f6,hx.len,nlt_i (Nat.lt_irrefl _)]
    intro _
    exact outK_self ⟨⟨n,rfl,hn1,hn2⟩,rfl⟩
theorem qterms_all:∀ (k:Nat) (us:List Tm),SizeOf.sizeOf us < k → tC gl us
  | 0,f,h => by omega
  | k + 1,us,h => qterms_step gl us (fun v n l ha => qterms_all k l (by
      have:=List.sizeOf_lt_of_mem ha
      simp at this; omega))
theorem qterms_c (us:List Tm):tC gl us:=qterms_all gl _ us (Nat.lt_succ_self _)
def zC (us:List Fm):Prop:=∀ (t:Tag) (xs:List IV) (_:okEs t 4) (_:IsFms us xs) (lim:Int) (_:-1 ≤ lim ∧ lim ≤ 1000) (_:wFms us ≤ 1099511627776) (st:ISt),
  ICall prog gl 23 [.sl t xs,.raw (.int .i64 lim)] st (fun r st' => Sum (wFms us) lim r ∧ st' = st)
theorem qsize_step (us:List Fm) (IH:∀ o n l m,Fm.mk o n l m ∈ us → zC gl m):zC gl us:=by
  intro t xs ht hx lim hlim hw st
  refine ICall.intro (c:=cf prog gl [] [(5,[0,1,2,3,4,5,6,7,8,9,10,11,12,13,14,15,16,19,20,21,22,23,24,25,26,27,17,18,28,29,30,31])]) func23 rfl (by show _ ≤ 50; simp) (by kernel_rfl) ?_
  simp -implicitDefEqProofs -dsimp only [go_sem,↓reduceIte,zE,zB,zA,zM,zS,zL,reduceCtorEq]
  refine LoopC.ctr us.length (fun k fr st' ds => (∃ n:Nat,fr 5 = .iv (.raw (.int .i64 n)) ∧ n ≤ wFms (us.take k) ∧ ((n:Int) ≤ lim → n = wFms (us.take k))) ∧ fr 0 = .iv (.sl t xs) ∧ fr 1 = .iv (.raw (.int .i64 lim)) ∧ fr 6 = .iv (.raw (.int .i64 k)) ∧ st' = st ∧ ds = []) ?_ ?_ ?_
  · simp -implicitDefEqProofs -dsimp only [go_sem,↓reduceIte,zE,zB,zA,zM,zS,zL,reduceCtorEq]
    exact ⟨⟨0,rfl,Nat.le_refl _,fun _ => rfl⟩,rfl⟩
  · rintro k fr st1 _ hlt ⟨⟨n,f5,hn1,hn2⟩,f0,f1,f6,rfl,rfl⟩
    obtain ⟨a,ha⟩:=get_of_lt hlt
    obtain ⟨x,hkx,hxa⟩:=hx.get ha
    obtain ⟨o2,n2,l2,m2⟩:=a
    obtain ⟨tx,cx,ty,cy,rfl,_,htx,hcx,hty,hcy⟩:=hxa.mk
    have hwt:=wFms_take ha
    have hwl:=wFms_le us (k + 1)
    have hwk:=wFms_le us k
    simp only [wFm] at hwt
    by_cases hle:(n:Int) ≤ lim
    · have hnk:=hn2 hle
      have hcall:=fun st => IH _ _ _ _ (List.mem_of_getElem? ha) ty cy hty hcy (lim - n - 1) ⟨by omega,by omega⟩ (by omega) st
      have hterm:=fun st => qterms_c gl l2 tx cx htx hcx (lim - n) ⟨by omega,by omega⟩ (by omega) st
      have hq:IntKind.i64.wrap (((n2.size:Nat):Int).tdiv 20) = ((n2.size / 20:Nat):Int):=by
        have:((n2.size:Nat):Int).tdiv 20 = ((n2.size / 20:Nat):Int):=rfl
        rw [this,w64 (by omega) (by omega)]
      have hz:¬ ((20:Int) = 0):=by decide
      generalize n2.size / 20 = q at hq hwt
      have w1:IntKind.i64.wrap (1 + ((q:Nat):Int)) = ((1 + q:Nat):Int):=by rw [w64] <;> omega
      have w0:IntKind.i64.wrap (lim - (n:Int)) = lim - n:=w64 (by omega) (by omega)
      have w2:IntKind.i64.wrap (lim - (n:Int) - 1) = lim - n - 1:=w64 (by omega) (by omega)
      simp -implicitDefEqProofs -dsimp only [go_sem,↓reduceIte,zE,zB,zA,zM,zS,zL,reduceCtorEq,f0,f1,f5,f6,hx.len,lt_i hlt,decide_eq_true hle,reTag_es ht,Int.natCast_nonneg,hkx,fits,hq,hz,w1,w0,w2]
      intro _
      refine (hterm _).mono ?_
      rintro _ st2 ⟨⟨m1,rfl,hm1,hm1'⟩,rfl⟩
      have w3:IntKind.i64.wrap (((1 + q:Nat):Int) + (m1:Int)) = ((1 + q + m1:Nat):Int):=by rw [w64] <;> omega
      simp -implicitDefEqProofs -dsimp only [go_sem,↓reduceIte,zE,zB,zA,zM,zS,zL,reduceCtorEq,f0,f1,f5,f6,w3,w0,w2,fits,reTag_es ht,Int.natCast_nonneg,hkx,hlt]
      refine (hcall _).mono ?_
      rintro _ st2 ⟨⟨m,rfl,hm,hm'⟩,rfl⟩
      have w4:IntKind.i64.wrap (((1 + q + m1:Nat):Int) + (m:Int)) = ((1 + q + m1 + m:Nat):Int):=by rw [w64] <;> omega
      have w5:IntKind.i64.wrap ((n:Int) + ((1 + q + m1 + m:Nat):Int)) = ((n + (1 + q + m1 + m):Nat):Int):=by rw [w64] <;> omega
      simp -implicitDefEqProofs -dsimp only [go_sem,↓reduceIte,zE,zB,zA,zM,zS,zL,reduceCtorEq,f0,f1,f5,f6,w4,w5,w_succ hlt (show us.length ≤ 281474976710656 by omega)]
      exact ⟨n + (1 + q + m1 + m),rfl,by omega,fun h => by have:=hm1' (by omega); have:=hm' (by omega); omega⟩
    · simp -implicitDefEqProofs -dsimp only [go_sem,↓reduceIte,zE,zB,zA,zM,zS,zL,reduceCtorEq,f0,f1,f5,f6,hx.len,lt_i hlt,decide_eq_false hle]
      intro _
      exact outK_self ⟨⟨n,rfl,by omega,fun h => absurd h hle⟩,rfl⟩
  · rintro fr st1 _ ⟨⟨n,f5,hn1,hn2⟩,f0,f1,f6,rfl,rfl⟩
    rw [List.take_length] at hn1 hn2
    simp -implicitDefEqProofs -dsimp only [go_sem,↓reduceIte,zE,zB,zA,zM,zS,zL,reduceCtorEq,f0,f5,f6,hx.len,nlt_i (Nat.lt_irrefl _)]
    intro _
    exact outK_self ⟨⟨n,rfl,hn1,hn2⟩,rfl⟩
theorem qsize_all:∀ (k:Nat) (us:List Fm),SizeOf.sizeOf us < k → zC gl us
  | 0,f,h => by omega
  | k + 1,us,h => qsize_step gl us (fun o n l m ha => qsize_all k m (by
      have:=List.sizeOf_lt_of_mem ha
      simp at this; omega))
theorem qsize_c (us:List Fm):zC gl us:=qsize_all gl _ us (Nat.lt_succ_self _)
theorem Few_c (s:Sq) (x:IV) (hx:IsSq s x) (hw:wFms s.l ≤ 1099511627776 ∧ wFms s.r ≤ 1099511627776) (st:ISt):ICall prog gl 29 [x] st (fun r st' => (r = .raw (.bool (decide (wFms s.l + wFms s.r ≤ 300)))) ∧ st' = st):=by
  obtain ⟨t1,x1,t2,x2,rfl,e1,i1,e2,i2⟩:=hx
  have h1:=fun st => qsize_c gl s.l t1 x1 e1 i1 300 ⟨by omega,by omega⟩ hw.1 st
  have h2:=fun st => qsize_c gl s.r t2 x2 e2 i2 300 ⟨by omega,by omega⟩ hw.2 st
  refine ICall.intro (c:=cf prog gl [] [(1,[0,1,3,4,2,5,6,7,8])]) func29 rfl (by show _ ≤ 11; simp) (by kernel_rfl) ?_
  simp -implicitDefEqProofs -dsimp only [go_sem,↓reduceIte,zE,zB,zA,zM,zS,zL,reduceCtorEq,fits]
  refine (h1 _).mono ?_
  rintro _ st2 ⟨⟨n,rfl,hn1,hn2⟩,rfl⟩
  simp -implicitDefEqProofs -dsimp only [go_sem,↓reduceIte,zE,zB,zA,zM,zS,zL,reduceCtorEq,fits]
  refine (h2 _).mono ?_
  rintro _ st2 ⟨⟨m,rfl,hm1,hm2⟩,rfl⟩
  have w:IntKind.i64.wrap ((n:Int) + (m:Int)) = ((n + m:Nat):Int):=by rw [w64] <;> omega
  have hd:decide (((n + m:Nat):Int) ≤ 300) = decide (wFms s.l + wFms s.r ≤ 300):=by
    rw [decide_eq_decide]
    constructor
    · intro h
      have:=hn2 (by omega)
      have:=hm2 (by omega)
      omega
    · intro h; omega
  simp -implicitDefEqProofs -dsimp only [go_sem,↓reduceIte,zE,zB,zA,zM,zS,zL,reduceCtorEq,w,hd]
  exact outK_self ⟨rfl,rfl⟩
end Go.Proofs.Tryz

namespace Go.Proofs.Tryz
open Go Go.Iv
set_option maxRecDepth 4000
variable (gl:Nat → Option IV)

def plI (p:List Nat):List IV:=p.map fun (i:Nat) => .raw (.int .i64 (i:Int))
theorem plI_len (p:List Nat):(plI p).length = p.length:=by simp [plI]
def emp:ISt:=fun _ => none
def PlV (p:List Nat) (a:IV) (e:ISt):Prop :=
  (∃ t,a = .sl t [] ∧ t.cap = .nil ∧ p = [] ∧ e = emp) ∨
  ∃ g cap cs,a = .raw (.slice (some ⟨g,0,none⟩) p.length cap) ∧ e = emp.put g (some (.box cs)) ∧ p.length ≤ cap ∧ cap ≤ cs.length ∧ cs.take p.length = plI p
def lkT (l:List (List Nat × Tr)) (k:Nat) (zs:List IV) (e:ISt):Prop:=∃ p t a x,l[k]? = some (p,t) ∧ IsTr t x ∧ PlV p a e ∧ zs = [a,.cptr x]
def fromI (b2 b3 b4:Nat):IV:=.fn (.func 119) [] [.raw (.pointer (some ⟨b2,0,none⟩)),.raw (.pointer (some ⟨b3,0,none⟩)),.raw (.pointer (some ⟨b4,0,none⟩))]
def ownF (b2 b3 b4:Nat) (fy a:IV):ISt:=((emp.put b2 (some (.box [fy]))).put b3 (some (.box [a]))).put b4 (some (.box [fromI b2 b3 b4]))
section
variable {b2 b3 b4:Nat} {fy a:IV}
theorem ownF_2 (h3:b2 ≠ b3) (h4:b2 ≠ b4):ownF b2 b3 b4 fy a b2 = some (.box [fy]):=by simp only [ownF,ISt.put_apply,if_neg h3,if_neg h4,if_true]
theorem ownF_3 (h4:b3 ≠ b4):ownF b2 b3 b4 fy a b3 = some (.box [a]):=by simp only [ownF,ISt.put_apply,if_neg h4,if_true]
theorem ownF_4:ownF b2 b3 b4 fy a b4 = some (.box [fromI b2 b3 b4]):=by simp only [ownF,ISt.put_apply,if_true]
theorem ownF_off {c:Nat} (h2:c ≠ b2) (h3:c ≠ b3) (h4:c ≠ b4):ownF b2 b3 b4 fy a c = none:=by simp only [ownF,ISt.put_apply,if_neg h2,if_neg h3,if_neg h4,emp]
theorem ownF_dom {c:Nat} (a':IV):ownF b2 b3 b4 fy a c = none ↔ ownF b2 b3 b4 fy a' c = none:=by
  simp only [ownF,ISt.put_apply]
  by_cases h4:c = b4
  · simp [h4]
  · by_cases h3:c = b3
    · subst h3; simp only [if_neg h4,if_true,reduceCtorEq]
    · simp [h4,h3]
end
def FromSt (b2 b3 b4:Nat) (fy:IV) (p:List Nat) (s stt:ISt):Prop:=∃ a e,PlV p a e ∧ disj s e ∧ disj (join s e) (ownF b2 b3 b4 fy a) ∧ stt = join (join s e) (ownF b2 b3 b4 fy a)
def FOkL (y:IV) (I:Nat → ISt → Prop) (S:ISt → Prop) (k0:Nat) (l:List (List Nat × Tr)):Prop :=
  ∀ i p t x a e stu,l[i]? = some (p,t) → IsTr t x → PlV p a e → disj stu e → I (k0 + i) stu →
    ICallV prog gl y [a,.cptr x] (join stu e) fun r st' => (r = .raw (.bool true) ∧ ∃ s1,I (k0 + i + 1) s1 ∧ disj s1 e ∧ st' = join s1 e) ∨ (r = .raw (.bool false) ∧ S st')
section
variable {gl} {y:IV} {I:Nat → ISt → Prop} {S:ISt → Prop} {k0:Nat}
theorem FOkL.left {l m:List (List Nat × Tr)} (h:FOkL gl y I S k0 (l ++ m)):FOkL gl y I S k0 l:=fun i p t x a e stu hi =>
  h i p t x a e stu (by rw [List.getElem?_append_left (List.getElem?_eq_some_iff.1 hi).1]; exact hi)
theorem FOkL.right {l m:List (List Nat × Tr)} (h:FOkL gl y I S k0 (l ++ m)):FOkL gl y I S (k0 + l.length) m:=fun i p t x a e stu hi hx hp hd hI => by
  have:=h (l.length + i) p t x a e stu (by rw [List.getElem?_append_right (by omega)]; simpa using hi) hx hp hd (by rw [← Nat.add_assoc]; exact hI)
  simpa only [Nat.add_assoc] using this
theorem FOkL.tail {z:List Nat × Tr} {m:List (List Nat × Tr)} (h:FOkL gl y I S k0 (z :: m)):FOkL gl y I S (k0 + 1) m:=FOkL.right (l:=[z]) h
end
section
variable {b2 b3 b4:Nat} {fy a a':IV} {p:List Nat} {s:ISt} {g:Nat}
theorem ownF_ne {c:Nat} (h:c ≠ b3):ownF b2 b3 b4 fy a c = ownF b2 b3 b4 fy a' c:=by simp only [ownF,ISt.put_apply,if_neg h]
theorem push_st {cs:List IV} (h34:b3 ≠ b4) (hs:disj s (ownF b2 b3 b4 fy a)) (hg1:s g = none) (hg2:ownF b2 b3 b4 fy a g = none) (hp:PlV p a' (emp.put g (some (.box cs)))) :
    FromSt b2 b3 b4 fy p s (((join s (ownF b2 b3 b4 fy a)).put g (some (.box cs))).put b3 (some (.box [a']))):=by
  have hg3:ownF b2 b3 b4 fy a' g = none:=(ownF_dom a').1 hg2
  refine ⟨a',_,hp,fun b hb => ?_,fun b hb => ?_,?_⟩
  · rw [ISt.put_apply] at hb
    split at hb
    · rename_i h; rw [h]; exact hg1
    · exact absurd rfl hb
  · have hbg:b ≠ g:=by rintro rfl; exact hb hg3
    have he:(emp.put g (some (.box cs))) b = none:=by rw [ISt.put_apply,if_neg hbg]; rfl
    rw [join_none he]
    exact hs b fun h => hb ((ownF_dom a').1 h)
  · funext c
    by_cases h3:c = b3
    · rw [ISt.put_apply,if_pos h3,h3,join_own (ownF_3 h34)]
    · rw [ISt.put_apply,if_neg h3,ISt.put_apply]
      by_cases hc:c = g
      · rw [if_pos hc,hc,join_none hg3,join_own (ISt.put_same ..)]
      · rw [if_neg hc]
        have he:(emp.put g (some (.box cs))) c = none:=by rw [ISt.put_apply,if_neg hc]; rfl
        cases ho:ownF b2 b3 b4 fy a c with
        | some o => rw [join_own ho,join_own ((ownF_ne h3).symm.trans ho)]
        | none => rw [join_none ho,join_none ((ownF_ne h3).symm.trans ho),join_none he]
theorem drop_st {cs:List IV} (hd1:s g = none) (hd2:ownF b2 b3 b4 fy a g = none):(join (join s (emp.put g (some (.box cs)))) (ownF b2 b3 b4 fy a)).put g none = join s (ownF b2 b3 b4 fy a):=by
  funext c
  rw [ISt.put_apply]
  split
  · rename_i h; rw [h,join_none hd2,hd1]
  · rename_i h
    have he:(emp.put g (some (.box cs))) c = none:=by rw [ISt.put_apply,if_neg h]; rfl
    cases ho:ownF b2 b3 b4 fy a c with
    | some o => rw [join_own ho,join_own ho]
    | none => rw [join_none ho,join_none ho,join_none he]
end
theorem PlV.cons {p:List Nat} {k:Nat} {a:IV} {e:ISt} (h:PlV (p ++ [k]) a e):∃ g cap cs,a = .raw (.slice (some ⟨g,0,none⟩) (p.length + 1) cap) ∧ e = emp.put g (some (.box cs)) ∧ p.length + 1 ≤ cap ∧ cap ≤ cs.length ∧ cs.take p.length = plI p:=by
  rcases h with ⟨t,_,_,h,_⟩ | ⟨g,cap,cs,rfl,rfl,h1,h2,h3⟩
  · simp at h
  · rw [List.length_append] at h1 h3 ⊢
    refine ⟨g,cap,cs,rfl,rfl,h1,h2,?_⟩
    have:=congrArg (List.take p.length) h3
    rw [List.take_take,show min p.length (p.length + [k].length) = p.length by omega] at this
    rw [this]
    unfold plI
    rw [List.map_append,List.take_left' (by simp)]
theorem set_st {b2 b3 b4:Nat} {fy a a':IV} {X:ISt} (h34:b3 ≠ b4):(join X (ownF b2 b3 b4 fy a)).put b3 (some (.box [a'])) = join X (ownF b2 b3 b4 fy a'):=by
  funext c
  rw [ISt.put_apply]
  split
  · rename_i h; rw [h,join_own (ownF_3 h34)]
  · rename_i h
    cases ho:ownF b2 b3 b4 fy a c with
    | some o => rw [join_own ho,join_own ((ownF_ne h).symm.trans ho)]
    | none => rw [join_none ho,join_none ((ownF_ne h).symm.trans ho)]
theorem sliceI_cut (n:Nat):sliceI none (some ((n:Nat):Int)) (n + 1) = some (0,n):=by
  simp only [sliceI,Option.getD_none,Option.getD_some]
  rw [if_pos ⟨Int.le_refl _,by omega,by omega⟩]; simp
theorem height_mem:∀ {l:List Tr} {t:Tr},t ∈ l → t.height ≤ heightTrs l
  | a :: l,t,h => by
    simp only [heightTrs]
    rcases List.mem_cons.1 h with rfl | h
    · omega
    · have:=height_mem h; omega
theorem inOrder_1 (x:Operand):inOrder 1 [(0,x)] = true:=rfl
theorem walkTrs_append (p:List Nat):∀ (i:Nat) (l m:List Tr),walkTrs p i (l ++ m) = walkTrs p i l ++ walkTrs p (i + l.length) m
  | i,[],m => by simp [walkTrs]
  | i,a :: l,m => by
    simp only [List.cons_append,walkTrs,walkTrs_append p (i + 1) l m,List.append_assoc,List.length_cons]
    rw [show i + 1 + l.length = i + (l.length + 1) by omega]

def FF (t:Tr):Prop:=∀ (x:IV) (_:IsTr t x) (b2 b3 b4:Nat) (_:b2 ≠ b3) (_:b2 ≠ b4) (_:b3 ≠ b4) (g:Fn) (fi ca:List IV) (_:fnOk g = true) (_:∀ i,g = .func i → entI prog i = true) (I:Nat → ISt → Prop) (S:ISt → Prop) (k0:Nat) (p:List Nat)
    (_:FOkL gl (.fn g fi ca) I S k0 (t.walk p)) (_:p.length + t.height ≤ 1099511627776) (s stt:ISt) (_:I k0 s) (_:FromSt b2 b3 b4 (.fn g fi ca) p s stt),
    ICall prog gl 119 [.cptr x,.raw (.pointer (some ⟨b2,0,none⟩)),.raw (.pointer (some ⟨b3,0,none⟩)),.raw (.pointer (some ⟨b4,0,none⟩))] stt
      (fun r st' => (r = .raw (.bool true) ∧ ∃ s1,I (k0 + (t.walk p).length) s1 ∧ FromSt b2 b3 b4 (.fn g fi ca) p s1 st') ∨ (r = .raw (.bool false) ∧ ∃ s1,S s1 ∧ subSt s1 st'))
theorem from_step (rule:Nat) (sq:Sq) (f:Fm) (u:Tm) (n:ByteArray) (sub:List Tr) (IH:∀ a ∈ sub,FF gl a):FF gl (.mk rule sq f u n sub):=by
  intro x hx b2 b3 b4 h23 h24 h34 g fi ca hfn hent I S k0 p hy hdeep s stt hI hst
  have hx0:=hx
  obtain ⟨tl,xl,tr,xr,op,fn,ta,xa,tb,xb,v,un,tu,xu,ts,xs,hxe,hru,_,_,_,_,_,_,e3,i3⟩:=hx.mk
  obtain ⟨a,e,hp,hd1,hd2,rfl⟩:=hst
  simp only [Tr.walk] at hy ⊢
  have hhead:=hy 0 p _ _ a e s rfl hx0 hp hd1 hI
  have hy':=FOkL.tail hy
  have r2:join (join s e) (ownF b2 b3 b4 (.fn g fi ca) a) b2 = some (.box [.fn g fi ca]):=join_own (ownF_2 h23 h24)
  have r3:join (join s e) (ownF b2 b3 b4 (.fn g fi ca) a) b3 = some (.box [a]):=join_own (ownF_3 h34)
  refine ICall.intro (c:=cf prog gl [23,24] []) func119 rfl (by show _ ≤ 39; simp) (by kernel_rfl) ?_
  have hiv:ivOf (.iv a) = some a:=by rcases hp with ⟨t,rfl,_⟩ | ⟨g,cap,cs,rfl,_⟩ <;> rfl
  rw [hxe] at hhead
  simp -implicitDefEqProofs -dsimp only [go_sem,↓reduceIte,zE,zB,zA,zM,zS,zL,reduceCtorEq,r2,r3,hiv,hxe]
  refine callV_of_ICallV hent (hhead.frame hd2 |>.mono ?_)
  rintro r stt ⟨s2,hd3,rfl,(⟨rfl,s3,hI3,hd4,rfl⟩ | ⟨rfl,hS⟩)⟩
  · simp -implicitDefEqProofs -dsimp only [go_sem,↓reduceIte,zE,zB,zA,zM,zS,zL,reduceCtorEq,i3.len,hxe]
    intro hlen
    refine LoopC.ctr sub.length (fun k fr st' ds => (∃ s,I (k0 + 1 + (walkTrs p 0 (sub.take k)).length) s ∧ FromSt b2 b3 b4 (.fn g fi ca) p s st') ∧ fr 0 = .iv (.cptr x) ∧ fr 1 = .iv (.raw (.pointer (some ⟨b2,0,none⟩))) ∧ fr 2 = .iv (.raw (.pointer (some ⟨b3,0,none⟩))) ∧ fr 3 = .iv (.raw (.pointer (some ⟨b4,0,none⟩))) ∧ fr 16 = .iv (.raw (.int .i64 sub.length)) ∧ fr 17 = .iv (.raw (.int .i64 k)) ∧ ds = []) ?_ ?_ ?_
    · simp -implicitDefEqProofs -dsimp only [go_sem,↓reduceIte,zE,zB,zA,zM,zS,zL,reduceCtorEq,hxe]
      exact ⟨⟨s3,by simpa [walkTrs] using hI3,a,e,hp,hd4,hd3,rfl⟩,rfl⟩
    · rintro k fr st1 _ hlt ⟨⟨s,hI,a,e,hp,hd1,hd2,rfl⟩,f0,f1,f2,f3,f16,f17,rfl⟩
      rw [hxe] at f0
      obtain ⟨t,ht⟩:=get_of_lt hlt
      obtain ⟨z,hkz,hz⟩:=i3.get ht
      have r3:join (join s e) (ownF b2 b3 b4 (.fn g fi ca) a) b3 = some (.box [a]):=join_own (ownF_3 h34)
      have hth:=height_mem (List.mem_of_getElem? ht)
      simp only [Tr.height] at hdeep
      have hsplit:walkTrs p 0 sub = walkTrs p 0 (sub.take k) ++ (t.walk (p ++ [k]) ++ walkTrs p (k + 1) (sub.drop (k + 1))):=by
        conv => lhs; rw [← List.take_append_drop k sub,List.drop_eq_getElem_cons hlt]
        rw [walkTrs_append,(List.getElem?_eq_some_iff.1 ht).2,show (sub.take k).length = k by rw [List.length_take]; omega]
        simp only [walkTrs,Nat.zero_add]
      have hya:=hy'
      rw [hsplit] at hya
      have hcall:=fun stt hF => IH t (List.mem_of_getElem? ht) z hz b2 b3 b4 h23 h24 h34 g fi ca hfn hent I S _ (p ++ [k]) (FOkL.left (FOkL.right hya)) (by rw [List.length_append]; simp only [List.length_singleton]; omega) s stt hI hF
      have wcut:IntKind.i64.wrap (((p.length + 1:Nat):Int) - 1) = (p.length:Nat):=by rw [w64 (by omega) (by omega)]; omega
      have hz':∃ c0 c1 c2 c3 c4 c5 c6 c7 c8 c9 c10 c11,z = .agg [c0,c1,c2,c3,c4,c5,c6,c7,c8,c9,c10,c11]:=by
        obtain ⟨r',s',m',t',n',b'⟩:=t
        obtain ⟨tl',xl',tr',xr',op',fn',ta',xa',tb',xb',v',un',tu',xu',ts',xs',rfl,_⟩:=hz.mk
        exact ⟨_,_,_,_,_,_,_,_,_,_,_,_,rfl⟩
      obtain ⟨c0,c1,c2,c3,c4,c5,c6,c7,c8,c9,c10,c11,rfl⟩:=hz'
      rcases hp with ⟨t0,rfl,hta,hp0,rfl⟩ | ⟨g',cap,cs,rfl,rfl,hc1,hc2,hc3⟩
      · obtain ⟨fs,c,es⟩:=t0
        obtain rfl:c = .nil:=hta
        have hje:join s emp = s:=rfl
        rw [hje] at r3 hd2 ⊢
        simp -implicitDefEqProofs -dsimp only [go_sem,↓reduceIte,zE,zB,zA,zM,zS,zL,reduceCtorEq,f0,f1,f2,f3,f16,f17,lt_i hlt,r3,hxe,inOrder_1]
        intro g' cap
        refine giv_intro fun hg => ?_
        obtain ⟨hg,hcap⟩:=hg
        change join s (ownF b2 b3 b4 (.fn g fi ca) (.sl ⟨fs,.nil,es⟩ [])) g' = none at hg
        have hd2':disj s (ownF b2 b3 b4 (.fn g fi ca) (.sl ⟨fs,.nil,es⟩ [])):=hd2
        have hg2:ownF b2 b3 b4 (.fn g fi ca) (.sl ⟨fs,.nil,es⟩ []) g' = none:=by
          cases ho:ownF b2 b3 b4 (.fn g fi ca) (.sl ⟨fs,.nil,es⟩ []) g' with
          | none => rfl
          | some o => rw [join_own ho] at hg; cases hg
        have hg1:s g' = none:=by rw [← join_none (stu:=s) hg2]; exact hg
        have hb3:b3 ≠ g':=by rintro rfl; rw [ownF_3 h34] at hg2; cases hg2
        have hF:=push_st (fy:=.fn g fi ca) (p:=p ++ [k]) (a':=.raw (.slice (some ⟨g',0,none⟩) 1 cap)) (cs:=.raw (.int .i64 k) :: List.replicate (cap - 1) .junk) h34 hd2' hg1 hg2 (.inr ⟨g',cap,_,by rw [hp0]; rfl,rfl,by simpa [hp0] using hcap,by simp; omega,by simp [plI,hp0]⟩)
        have hb4:b4 ≠ g':=by rintro rfl; rw [ownF_4] at hg2; cases hg2
        have r3':∀ o,((join s (ownF b2 b3 b4 (.fn g fi ca) (.sl ⟨fs,.nil,es⟩ []))).put g' o) b3 = some (.box [.sl ⟨fs,.nil,es⟩ []]):=fun o => by rw [ISt.put_apply,if_neg hb3]; exact r3
        have r4':∀ o o',(((join s (ownF b2 b3 b4 (.fn g fi ca) (.sl ⟨fs,.nil,es⟩ []))).put g' o).put b3 o') b4 = some (.box [fromI b2 b3 b4]):=fun o o' => by rw [ISt.put_apply,if_neg h34.symm,ISt.put_apply,if_neg hb4]; exact join_own ownF_4
        simp -implicitDefEqProofs -dsimp only [go_sem,↓reduceIte,zE,zB,zA,zM,zS,zL,reduceCtorEq,IV.one,List.flatMap_cons,List.flatMap_nil,IV.cells,Nat.mul_one,r3',r4',f0,f1,f2,f3,f16,f17,hxe,hkz,reTag_es e3,lt_i hlt,Int.natCast_nonneg,fits,fromI]
        refine (hcall _ hF).mono ?_
        rintro _ st2 (⟨rfl,s1,hI1,hF1⟩ | ⟨rfl,s1,hS1,hsub1⟩)
        · obtain ⟨a2,e2,hp2,hd5,hd6,rfl⟩:=hF1
          obtain ⟨g3,cap3,cs3,rfl,rfl,hc4,hc5,hc6⟩:=hp2.cons
          have r6:join (join s1 (emp.put g3 (some (.box cs3)))) (ownF b2 b3 b4 (.fn g fi ca) (.raw (.slice (some ⟨g3,0,none⟩) (p.length + 1) cap3))) b3 = some (.box [.raw (.slice (some ⟨g3,0,none⟩) (p.length + 1) cap3)]):=join_own (ownF_3 h34)
          simp -implicitDefEqProofs -dsimp only [go_sem,↓reduceIte,zE,zB,zA,zM,zS,zL,reduceCtorEq,IV.one,r6,f0,f1,f2,f3,f16,f17,wcut,sliceI_cut,ite_self,Nat.zero_mul,hc4,w_succ hlt (show sub.length ≤ 281474976710656 by omega)]
          refine ⟨s1,?_,?_⟩
          · rw [take_get ht,walkTrs_append,List.length_append,show (sub.take k).length = k by rw [List.length_take]; omega]
            simp only [walkTrs,List.append_nil,Nat.zero_add]
            rw [← Nat.add_assoc]; exact hI1
          · rw [set_st h34]
            exact ⟨_,_,.inr ⟨g3,cap3,cs3,rfl,rfl,by omega,hc5,hc6⟩,hd5,fun b hb => hd6 b fun h => hb ((ownF_dom _).1 h),rfl⟩
        · simp -implicitDefEqProofs -dsimp only [go_sem,↓reduceIte,zE,zB,zA,zM,zS,zL,reduceCtorEq]
          exact outK_self (.inr ⟨rfl,s1,hS1,hsub1⟩)
      · have ho:ownF b2 b3 b4 (.fn g fi ca) (.raw (.slice (some ⟨g',0,none⟩) p.length cap)) g' = none:=by
          cases ho:ownF b2 b3 b4 (.fn g fi ca) (.raw (.slice (some ⟨g',0,none⟩) p.length cap)) g' with
          | none => rfl
          | some o =>
            have:=hd2 g' (by rw [ho]; simp)
            rw [join_own (ISt.put_same ..)] at this
            cases this
        have hs1:s g' = none:=hd1 g' (by rw [ISt.put_same]; simp)
        have r5:join (join s (emp.put g' (some (.box cs)))) (ownF b2 b3 b4 (.fn g fi ca) (.raw (.slice (some ⟨g',0,none⟩) p.length cap))) g' = some (.box cs):=by
          rw [join_none ho,join_own (ISt.put_same ..)]
        simp -implicitDefEqProofs -dsimp only [go_sem,↓reduceIte,zE,zB,zA,zM,zS,zL,reduceCtorEq,f0,f1,f2,f3,f16,f17,lt_i hlt,r3,hxe,inOrder_1]
        refine appO_intro _ _ _ r5 (by simp [fits,IV.one]) ⟨by show (_ + 1) * 8 ≤ _; omega,by show _ + 1 ≤ _; omega⟩ ⟨hc1,by show _ * 1 ≤ _; omega⟩ (by simp [IV.cells]) ?_
        intro g2 cap2 cs2 hg2 k1 k2 k3
        rw [drop_st hs1 ho]
        have hgo:s g2 = none ∧ ownF b2 b3 b4 (.fn g fi ca) (.raw (.slice (some ⟨g',0,none⟩) p.length cap)) g2 = none:=by
          rcases hg2 with rfl | hg2
          · exact ⟨hs1,ho⟩
          · cases hq:ownF b2 b3 b4 (.fn g fi ca) (.raw (.slice (some ⟨g',0,none⟩) p.length cap)) g2 with
            | some o => rw [join_own hq] at hg2; cases hg2
            | none =>
              rw [join_none hq] at hg2
              refine ⟨?_,rfl⟩
              cases hz:s g2 with
              | none => rfl
              | some o => rw [join_sub hd1 g2 o hz] at hg2; cases hg2
        have hs2:disj s (ownF b2 b3 b4 (.fn g fi ca) (.raw (.slice (some ⟨g',0,none⟩) p.length cap))):=fun b hb => by
          have:=hd2 b hb
          cases hz:s b with
          | none => rfl
          | some o => rw [join_sub hd1 b o hz] at this; cases this
        have hF:=push_st (fy:=.fn g fi ca) (p:=p ++ [k]) (a':=.raw (.slice (some ⟨g2,0,none⟩) (p.length + 1) cap2)) (cs:=cs2) h34 hs2 hgo.1 hgo.2 (.inr ⟨g2,cap2,cs2,by simp,rfl,by simpa using k1,by simpa using k2,by
          simp only [Nat.mul_one] at k3
          rw [List.length_append]
          exact k3.trans (by rw [hc3]; simp [plI,IV.cells])⟩)
        have hb3:b3 ≠ g2:=by rintro rfl; have:=hgo.2; rw [ownF_3 h34] at this; cases this
        have hb4:b4 ≠ g2:=by rintro rfl; have:=hgo.2; rw [ownF_4] at this; cases this
        have r3':∀ o,((join s (ownF b2 b3 b4 (.fn g fi ca) (.raw (.slice (some ⟨g',0,none⟩) p.length cap)))).put g2 o) b3 = some (.box [.raw (.slice (some ⟨g',0,none⟩) p.length cap)]):=fun o => by rw [ISt.put_apply,if_neg hb3]; exact join_own (ownF_3 h34)
        have r4':∀ o o',(((join s (ownF b2 b3 b4 (.fn g fi ca) (.raw (.slice (some ⟨g',0,none⟩) p.length cap)))).put g2 o).put b3 o') b4 = some (.box [fromI b2 b3 b4]):=fun o o' => by rw [ISt.put_apply,if_neg h34.symm,ISt.put_apply,if_neg hb4]; exact join_own ownF_4
        simp -implicitDefEqProofs -dsimp only [go_sem,↓reduceIte,zE,zB,zA,zM,zS,zL,reduceCtorEq,IV.one,List.flatMap_cons,List.flatMap_nil,IV.cells,Nat.mul_one,r3',r4',f0,f1,f2,f3,f16,f17,hxe,hkz,reTag_es e3,lt_i hlt,Int.natCast_nonneg,fits,fromI]
        refine (hcall _ hF).mono ?_
        rintro _ st2 (⟨rfl,s1,hI1,hF1⟩ | ⟨rfl,s1,hS1,hsub1⟩)
        · obtain ⟨a2,e2,hp2,hd5,hd6,rfl⟩:=hF1
          obtain ⟨g3,cap3,cs3,rfl,rfl,hc4,hc5,hc6⟩:=hp2.cons
          have r6:join (join s1 (emp.put g3 (some (.box cs3)))) (ownF b2 b3 b4 (.fn g fi ca) (.raw (.slice (some ⟨g3,0,none⟩) (p.length + 1) cap3))) b3 = some (.box [.raw (.slice (some ⟨g3,0,none⟩) (p.length + 1) cap3)]):=join_own (ownF_3 h34)
          simp -implicitDefEqProofs -dsimp only [go_sem,↓reduceIte,zE,zB,zA,zM,zS,zL,reduceCtorEq,IV.one,r6,f0,f1,f2,f3,f16,f17,wcut,sliceI_cut,ite_self,Nat.zero_mul,hc4,w_succ hlt (show sub.length ≤ 281474976710656 by omega)]
          refine ⟨s1,?_,?_⟩
          · rw [take_get ht,walkTrs_append,List.length_append,show (sub.take k).length = k by rw [List.length_take]; omega]
            simp only [walkTrs,List.append_nil,Nat.zero_add]
            rw [← Nat.add_assoc]; exact hI1
          · rw [set_st h34]
            exact ⟨_,_,.inr ⟨g3,cap3,cs3,rfl,rfl,by omega,hc5,hc6⟩,hd5,fun b hb => hd6 b fun h => hb ((ownF_dom _).1 h),rfl⟩
        · simp -implicitDefEqProofs -dsimp only [go_sem,↓reduceIte,zE,zB,zA,zM,zS,zL,reduceCtorEq]
          exact outK_self (.inr ⟨rfl,s1,hS1,hsub1⟩)
    · rintro fr st1 _ ⟨⟨s,hI,hF⟩,f0,f1,f2,f3,f16,f17,rfl⟩
      rw [List.take_length] at hI
      simp -implicitDefEqProofs -dsimp only [go_sem,↓reduceIte,zE,zB,zA,zM,zS,zL,reduceCtorEq,f16,f17,nlt_i (Nat.lt_irrefl _)]
      refine outK_self (.inl ⟨rfl,s,?_,hF⟩)
      rw [show k0 + ((walkTrs p 0 sub).length + 1) = k0 + 1 + (walkTrs p 0 sub).length by omega]
      exact hI
  · simp -implicitDefEqProofs -dsimp only [go_sem,↓reduceIte,zE,zB,zA,zM,zS,zL,reduceCtorEq]
    exact outK_self (.inr ⟨rfl,s2,hS,join_sub hd3⟩)
theorem from_all:∀ (k:Nat) (t:Tr),SizeOf.sizeOf t < k → FF gl t
  | 0,t,h => by omega
  | k + 1,.mk r sq f u n sub,h => from_step gl r sq f u n sub (fun a ha => from_all k a (by
      have:=List.sizeOf_lt_of_mem ha
      simp at h; omega))
theorem from_c (t:Tr):FF gl t:=from_all gl _ t (Nat.lt_succ_self _)
theorem steps1_c (t:Tr) (x:IV) (hx:IsTr t x) (hd:t.height ≤ 1099511627776) (I:Nat → ISt → Prop):IterL prog gl 118 [] [.cptr (.cptr x)] (lkT (t.walk [])) (t.walk []).length I:=by
  rintro y I' S' st ⟨g,fi,ca,rfl,hfn,hent⟩ _ hy h0
  have hfrom:=from_c gl t x hx
  have hok:FOkL gl (.fn g fi ca) I' S' 0 (t.walk []):=fun i p t x a e stu hi ht hp hdj hI => by
    rw [Nat.zero_add] at hI ⊢
    exact hy i [a,.cptr x] e stu ⟨p,t,a,x,hi,ht,hp,rfl⟩ hdj hI
  have hz':∃ c0 c1 c2 c3 c4 c5 c6 c7 c8 c9 c10 c11,x = .agg [c0,c1,c2,c3,c4,c5,c6,c7,c8,c9,c10,c11]:=by
    obtain ⟨r',s',m',t',n',b'⟩:=t
    obtain ⟨tl',xl',tr',xr',op',fn',ta',xa',tb',xb',v',un',tu',xu',ts',xs',rfl,_⟩:=hx.mk
    exact ⟨_,_,_,_,_,_,_,_,_,_,_,_,rfl⟩
  obtain ⟨c0,c1,c2,c3,c4,c5,c6,c7,c8,c9,c10,c11,rfl⟩:=hz'
  change ICall prog gl _ [.fn g fi ca,_] st _
  refine ICall.intro (c:=cf prog gl [2,3,4] []) func118 rfl (by show _ ≤ 9; simp) (by kernel_rfl) ?_
  simp -implicitDefEqProofs -dsimp only [go_sem,↓reduceIte,zE,zB,zA,zM,zS,zL,reduceCtorEq,fits]
  intro b2
  refine giv_intro fun hb2 => ?_
  intro b3
  refine giv_intro fun hb3 => ?_
  intro b4
  refine giv_intro fun hb4 => ?_
  have h23:b2 ≠ b3:=by rintro rfl; rw [ISt.put_same] at hb3; cases hb3
  have h34:b3 ≠ b4:=by rintro rfl; rw [ISt.put_same] at hb4; cases hb4
  have h24:b2 ≠ b4:=by rintro rfl; rw [ISt.put_apply,if_neg h23,ISt.put_same] at hb4; cases hb4
  rw [ISt.put_apply,if_neg h23.symm] at hb3
  rw [ISt.put_apply,if_neg h34.symm,ISt.put_apply,if_neg h24.symm] at hb4
  have hF:FromSt b2 b3 b4 (.fn g fi ca) [] st ((((st.put b2 (some (.box [.fn g fi ca]))).put b3 (some (.box [.sl ⟨true,.nil,0⟩ []]))).put b4 (some (.box [.raw .nilFunc]))).put b4 (some (.box [fromI b2 b3 b4]))):=by
    refine ⟨_,emp,.inl ⟨⟨true,.nil,0⟩,rfl,rfl,rfl,rfl⟩,fun b hb => absurd rfl hb,fun b hb => ?_,?_⟩
    · show st b = none
      by_cases q4:b = b4
      · rw [q4]; exact hb4
      · by_cases q3:b = b3
        · rw [q3]; exact hb3
        · by_cases q2:b = b2
          · rw [q2]; exact hb2
          · exact absurd (ownF_off q2 q3 q4) hb
    · funext c
      by_cases q4:c = b4
      · rw [q4,ISt.put_same,join_own ownF_4]
      · rw [ISt.put_apply,if_neg q4,ISt.put_apply,if_neg q4]
        by_cases q3:c = b3
        · rw [q3,ISt.put_same,join_own (ownF_3 h34)]
        · rw [ISt.put_apply,if_neg q3]
          by_cases q2:c = b2
          · rw [q2,ISt.put_same,join_own (ownF_2 h23 h24)]
          · rw [ISt.put_apply,if_neg q2,join_none (ownF_off q2 q3 q4)]; rfl
  refine (hfrom b2 b3 b4 h23 h24 h34 g fi ca hfn hent I' S' 0 [] hok (by simpa using hd) st _ h0 hF).mono ?_
  rintro r stt (⟨rfl,s1,hI1,a,e,_,hd1,hd2,rfl⟩ | ⟨rfl,s1,hS1,hsub⟩)
  · simp -implicitDefEqProofs -dsimp only [go_sem,↓reduceIte,zE,zB,zA,zM,zS,zL,reduceCtorEq]
    rw [Nat.zero_add] at hI1
    exact outK_sub ((join_sub hd1).trans (join_sub hd2)) (.inl hI1)
  · simp -implicitDefEqProofs -dsimp only [go_sem,↓reduceIte,zE,zB,zA,zM,zS,zL,reduceCtorEq]
    exact outK_sub hsub (.inr hS1)
theorem steps_c (x:IV) (st:ISt) (t:Tr) (hx:IsTr t x):ICall prog gl 60 [.cptr x] st (fun r st' => r = .fn (.func 118) [] [.cptr (.cptr x)] ∧ st' = st):=by
  have hz':∃ c0 c1 c2 c3 c4 c5 c6 c7 c8 c9 c10 c11,x = .agg [c0,c1,c2,c3,c4,c5,c6,c7,c8,c9,c10,c11]:=by
    obtain ⟨r',s',m',t',n',b'⟩:=t
    obtain ⟨tl',xl',tr',xr',op',fn',ta',xa',tb',xb',v',un',tu',xu',ts',xs',rfl,_⟩:=hx.mk
    exact ⟨_,_,_,_,_,_,_,_,_,_,_,_,rfl⟩
  obtain ⟨c0,c1,c2,c3,c4,c5,c6,c7,c8,c9,c10,c11,rfl⟩:=hz'
  refine ICall.intro (c:=cf prog gl [] [] [1]) func60 rfl (by show _ ≤ 4; simp) (by kernel_rfl) ?_
  simp -implicitDefEqProofs -dsimp only [go_sem,↓reduceIte,zE,zB,zA,zM,zS,zL,reduceCtorEq,fits]
  exact outK_self ⟨rfl,rfl⟩
end Go.Proofs.Tryz

namespace Go.Proofs.Tryz
open Go Go.Iv
set_option maxRecDepth 4000
variable (gl:Nat → Option IV)

theorem Clone_nil (t:Tag) (ht:t.cap = .nil) (st:ISt):ICall prog gl 62 [.sl t []] st (fun r st' => (∃ t',r = .sl t' (plI []) ∧ okEs t' 1) ∧ st' = st):=by
  obtain ⟨fs,c,es⟩:=t
  obtain rfl:c = .nil:=ht
  refine ICall.intro (c:=cf prog gl [] []) func62 rfl (by show _ ≤ 8; simp) (by kernel_rfl) ?_
  have hb:binV prog 36 .eql (.sl ⟨fs,.nil,es⟩ []) (.sl ⟨true,.nil,0⟩ []) = some (.raw (.bool true)):=by
    have:isSliceT prog 36 = true:=by kernel_rfl
    simp [binV,slNil,this]
  simp -implicitDefEqProofs -dsimp only [go_sem,↓reduceIte,zE,zB,zA,zM,zS,zL,reduceCtorEq,fits,hb]
  exact outK_self ⟨⟨_,rfl,.inl rfl⟩,rfl⟩
theorem Clone_app (g:Nat) (p:List Nat) (hp:p ≠ []) (hl:p.length ≤ 1099511627776) (st:ISt):ICall prog gl 62 [.sl ⟨false,.app g,1⟩ (plI p)] st (fun r st' => (∃ t',r = .sl t' (plI p) ∧ okEs t' 1) ∧ st' = st):=by
  obtain ⟨i,p,rfl⟩:∃ i q,p = i :: q:=by
    cases p with
    | nil => exact absurd rfl hp
    | cons i q => exact ⟨i,q,rfl⟩
  refine ICall.intro (c:=cf prog gl [] []) func62 rfl (by show _ ≤ 8; simp) (by kernel_rfl) ?_
  have hb:binV prog 36 .eql (.sl ⟨false,.app g,1⟩ (plI (i :: p))) (.sl ⟨true,.nil,0⟩ []) = some (.raw (.bool false)):=by
    have:isSliceT prog 36 = true:=by kernel_rfl
    simp [binV,slNil,plI,this]
  have hf:(plI (i :: p)).all (fits false 1) = true:=by simp [plI,fits,IV.one]
  simp only [List.length_cons] at hl
  have he:plI (i :: p) = .raw (.int .i64 (i:Int)) :: plI p:=rfl
  have hpl:=plI_len p
  have hf':(plI p).all (fits false 1) = true:=by simp [plI,fits,IV.one]
  rw [he] at hb hf ⊢
  simp -implicitDefEqProofs -dsimp only [go_sem,↓reduceIte,zE,zB,zA,zM,zS,zL,reduceCtorEq,fits,hb]
  exact chk_intro rfl (chk_intro hf' (chk_intro ⟨by omega,by omega⟩ fun g' => giv_intro fun hg => outK_sub (subSt_put hg) ⟨⟨_,rfl,.inr rfl⟩,rfl⟩))
theorem appV_full0 {R:Rt} {st:ISt} {ds:List Dfd} (esc:List Nat) (dst:Option Nat) (e:TypeId × Bool × Nat × Nat) (fs:Bool) (es:Nat) (xs:List IV):appV esc dst e ⟨fs,.full,es⟩ xs [] R st ds =
  chk (([]:List IV).all (fits e.2.1 e.2.2.1) = true) (chk ((xs.length + 0) * e.2.2.2 ≤ 140737488355328 ∧ xs.length + 0 ≤ 140737488355328) (chk (es = e.2.2.1) (R (.val (.sl ⟨fs,.full,es⟩ xs)) st ds))):=rfl
theorem Clone_app0 (g:Nat) (st:ISt):ICall prog gl 62 [.sl ⟨false,.app g,1⟩ (plI [])] st (fun r st' => (∃ t',r = .sl t' (plI []) ∧ okEs t' 1) ∧ st' = st):=by
  have hb:binV prog 36 .eql (.sl ⟨false,.app g,1⟩ (plI [])) (.sl ⟨true,.nil,0⟩ []) = some (.raw (.bool false)):=by
    have:isSliceT prog 36 = true:=by kernel_rfl
    simp [binV,slNil,plI,this]
  rw [show plI [] = [] from rfl] at hb ⊢
  refine ICall.intro (c:=cf prog gl [] []) func62 rfl (by show _ ≤ 8; simp) (by kernel_rfl) ?_
  simp -implicitDefEqProofs -dsimp only [go_sem,↓reduceIte,zE,zB,zA,zM,zS,zL,reduceCtorEq,fits,hb,appV_full0]
  exact chk_intro rfl (outK_self ⟨⟨_,rfl,.inr rfl⟩,rfl⟩)
theorem join_comm {s e:ISt} (h:disj s e):join s e = join e s:=by
  funext b
  cases he:e b with
  | none =>
    rw [join_none he]
    cases hs:s b with
    | none => rw [join_none hs,he]
    | some o => rw [join_own hs]
  | some o => rw [join_own he,join_none (h b (by rw [he]; simp)),he]
theorem ages_plI:∀ p:List Nat,ages (plI p) = plI p
  | [] => by simp only [plI,List.map_nil,ages]
  | i :: p => by
    have:=ages_plI p
    simp only [plI,List.map_cons,ages,age] at this ⊢
    rw [this]
theorem plI_flat:∀ p:List Nat,(plI p).flatMap IV.cells = plI p
  | [] => rfl
  | i :: p => by
    have:=plI_flat p
    simp only [plI,List.map_cons,List.flatMap_cons,IV.cells,List.singleton_append] at this ⊢
    rw [this]
theorem Clone_c (p:List Nat) (a:IV) (e s:ISt) (hp:PlV p a e) (hl:p.length ≤ 1099511627776) (hd:disj s e):ICall prog gl 62 [a] (join s e) (fun r st' => (∃ t',r = .sl t' (plI p) ∧ okEs t' 1) ∧ st' = s):=by
  have key:ICall prog gl 62 [a] e (fun r st' => (∃ t',r = .sl t' (plI p) ∧ okEs t' 1) ∧ st' = emp):=by
    rcases hp with ⟨t,rfl,ht,rfl,rfl⟩ | ⟨g,cap,cs,rfl,rfl,h1,h2,h3⟩
    · exact Clone_nil gl t ht emp
    · have hnb:noBox (emp.put g (some (.box cs))) = emp:=by
        funext b
        by_cases hb:b = g
        · rw [hb,noBox_box (ISt.put_same ..)]; rfl
        · have:(emp.put g (some (.box cs))) b = none:=by rw [ISt.put_apply,if_neg hb]; rfl
          rw [noBox_keep (fun cs' h => by rw [this] at h; cases h),this]; rfl
      refine ICall.freeze (args':=[.sl ⟨false,.app g,1⟩ (plI p)]) ⟨_,_,rfl,.inr ⟨.sl ⟨true,.app g,1⟩ (plI p),?_,?_⟩,rfl⟩ ?_
      · rw [← plI_len p]
        refine .sl g cap ⟨true,.app g,1⟩ (plI p) cs rfl (by rw [plI_len]; omega) (by rw [plI_len]; exact h1) (fun x hx => ?_) (ISt.put_same ..) (by simpa using h2) fun i r c hr hc => ?_
        · obtain ⟨i,_,rfl⟩:=List.mem_map.1 hx
          rfl
        · rw [plI_flat p] at hc
          have hi:i < p.length:=by
            have:=(List.getElem?_eq_some_iff.1 hc).1
            rwa [plI_len] at this
          have:(cs.take p.length)[i]? = cs[i]?:=by rw [List.getElem?_take,if_pos hi]
          rw [h3,hc,hr] at this
          cases this
          exact .refl _
      · simp only [age,ages_plI]
      · rw [hnb]
        by_cases hpn:p = []
        · subst hpn; exact Clone_app0 gl g emp
        · exact Clone_app gl g p hpn hl emp
  have h1:=key.frame (own:=s) (fun b hb => by
    cases he:e b with
    | none => rfl
    | some o => exact absurd (hd b (by rw [he]; simp)) hb)
  rw [join_comm hd]
  refine h1.mono ?_
  rintro r st' ⟨stu,_,rfl,hr,rfl⟩
  refine ⟨hr,?_⟩
  funext b
  cases hs:s b with
  | none => rw [join_none hs]; rfl
  | some o => rw [join_own hs]

def nodeOk:Tr → Prop
  | .mk _ s m u _ sub => fitSq s ∧ m.size ≤ 1000000 ∧ u.size ≤ 1000000 ∧ ∀ a ∈ sub,fitSq a.sq
def fitTr (t:Tr):Prop:=(∀ q ∈ t.walk [],nodeOk q.2) ∧ t.height ≤ 1099511627776
theorem check'_c (G:Gl gl) (T:Gt gl) (ca:Nat) (t:Tr) (x:IV) (hx:IsTr t x) (hn:nodeOk t) (st:ISt):ICall prog gl 61 [.raw (.int .u8 ca),.cptr x] st (fun r st' => r = .raw (.int .i64 (checkS ca t)) ∧ st' = st):=by
  obtain ⟨rule,s,m,u,n,sub⟩:=t
  exact check_c gl G T ca rule s m u n sub x hx hn.1 hn.2.1 hn.2.2.1 hn.2.2.2 st
theorem trAgg {t:Tr} {x:IV} (h:IsTr t x):∃ (rule:Nat) (tl:Tag) (xl:List IV) (tr:Tag) (xr:List IV) (op:Int) (fn:ByteArray) (ta:Tag) (xa:List IV) (tb:Tag) (xb:List IV) (v:Bool) (un:ByteArray) (tu:Tag) (xu:List IV) (n:ByteArray) (ts:Tag) (xs:List IV),
    x = .agg [.raw (.int .u8 rule),.sl tl xl,.sl tr xr,.raw (.int .u8 op),.raw (.string fn),.sl ta xa,.sl tb xb,.raw (.bool v),.raw (.string un),.sl tu xu,.raw (.string n),.sl ts xs]:=by
  obtain ⟨r',s',m',t',n',b'⟩:=t
  obtain ⟨tl',xl',tr',xr',op',fn',ta',xa',tb',xb',v',un',tu',xu',ts',xs',rfl,_⟩:=h.mk
  exact ⟨_,_,_,_,_,_,_,_,_,_,_,_,_,_,_,_,_,_,rfl⟩
mutual
theorem walk_len:∀ (p:List Nat) (t:Tr),(t.walk p).length = t.steps
  | p,.mk _ _ _ _ _ sub => by simp only [Tr.walk,Tr.steps,List.length_cons,walkTrs_len p 0 sub]; omega
theorem walkTrs_len:∀ (p:List Nat) (i:Nat) (l:List Tr),(walkTrs p i l).length = stepsTrs l
  | _,_,[] => rfl
  | p,i,a :: l => by simp only [walkTrs,stepsTrs,List.length_append,walk_len (p ++ [i]) a,walkTrs_len p (i + 1) l]
end
mutual
theorem walk_deep:∀ (q:List Nat) (t:Tr) (x:List Nat × Tr),x ∈ t.walk q → x.1.length + 1 ≤ q.length + t.height
  | q,.mk _ _ _ _ _ sub,x,h => by
    simp only [Tr.walk,List.mem_cons] at h
    simp only [Tr.height]
    rcases h with rfl | h
    · simp only; omega
    · have:=walkTrs_deep q 0 sub x h; omega
theorem walkTrs_deep:∀ (q:List Nat) (i:Nat) (l:List Tr) (x:List Nat × Tr),x ∈ walkTrs q i l → x.1.length ≤ q.length + heightTrs l
  | _,_,[],x,h => by simp [walkTrs] at h
  | q,i,a :: l,x,h => by
    simp only [walkTrs,List.mem_append] at h
    simp only [heightTrs]
    rcases h with h | h
    · have:=walk_deep (q ++ [i]) a x h
      rw [List.length_append] at this
      simp only [List.length_singleton] at this
      omega
    · have:=walkTrs_deep q (i + 1) l x h; omega
end
def CkI (st:ISt) (b2 b4 b5 b6 ca c:Nat) (s:ISt):Prop:=s b2 = some (.box [.raw (.int .u8 ca)]) ∧ s b4 = some (.box [.sl ⟨true,.nil,0⟩ []]) ∧ s b5 = some (.box [.raw (.int .i64 0)]) ∧ s b6 = some (.box [.raw (.int .i64 c)]) ∧ subSt st s
def CkS (st:ISt) (b4 b5:Nat) (q:List Nat × Nat) (e:Exit) (s:ISt):Prop:=e = .ret ∧ (∃ tg,s b4 = some (.box [.sl tg (plI q.1)]) ∧ okEs tg 1) ∧ s b5 = some (.box [.raw (.int .i64 q.2)]) ∧ subSt st s
theorem Check_c (G:Gl gl) (T:Gt gl) (ca:Nat) (t:Tr) (x:IV) (hx:IsTr t x) (hfit:fitTr t) (st:ISt):ICall prog gl 17 [.raw (.int .u8 ca),x] st (fun r st' => (∃ tg,r = .tup [.sl tg (plI (CheckS ca t).1),.raw (.int .i64 (CheckS ca t).2)] ∧ okEs tg 1) ∧ st' = st):=by
  have hst:=fun st => steps_c gl x st t hx
  have hit:=fun I => steps1_c gl t x hx hfit.2 I
  have hkn:=fun st => known_c gl ca st
  obtain ⟨rule,tl,xl,tr,xr,op,fn,ta,xa,tb,xb,v,un,tu,xu,n,ts,xs,rfl⟩:=trAgg hx
  refine ICall.intro (c:=cf prog gl [2,4,5,6] [] [3]) func17 rfl (by show _ ≤ 31; simp) (by kernel_rfl) ?_
  simp -implicitDefEqProofs -dsimp only [go_sem,↓reduceIte,zE,zB,zA,zM,zS,zL,reduceCtorEq,fits,IV.one]
  intro b2
  refine giv_intro fun hb2 => ?_
  intro b4
  refine giv_intro fun hb4 => ?_
  intro b5
  refine giv_intro fun hb5 => ?_
  have h24:b2 ≠ b4:=by rintro rfl; rw [ISt.put_same] at hb4; cases hb4
  have h45:b4 ≠ b5:=by rintro rfl; rw [ISt.put_same] at hb5; cases hb5
  have h25:b2 ≠ b5:=by rintro rfl; rw [ISt.put_apply,if_neg h24,ISt.put_same] at hb5; cases hb5
  rw [ISt.put_apply,if_neg h24.symm] at hb4
  rw [ISt.put_apply,if_neg h45.symm,ISt.put_apply,if_neg h25.symm] at hb5
  obtain ⟨s1,hs1,f2,f4,f5,hsub⟩:∃ s1,s1 = ((st.put b2 (some (.box [.raw (.int .u8 ca)]))).put b4 (some (.box [.sl ⟨true,.nil,0⟩ []]))).put b5 (some (.box [.raw (.int .i64 0)])) ∧ s1 b2 = some (.box [.raw (.int .u8 ca)]) ∧ s1 b4 = some (.box [.sl ⟨true,.nil,0⟩ []]) ∧ s1 b5 = some (.box [.raw (.int .i64 0)]) ∧ subSt st s1 :=
    ⟨_,rfl,by simp only [ISt.put_apply,if_neg h24,if_neg h25,if_true],by simp only [ISt.put_apply,if_neg h45,if_true],by simp only [ISt.put_apply,if_true],subSt_put2 (subSt_put2 (subSt_put2 (subSt.refl st) hb2) hb4) hb5⟩
  rw [← hs1]
  simp -implicitDefEqProofs -dsimp only [go_sem,↓reduceIte,zE,zB,zA,zM,zS,zL,reduceCtorEq,f2,fits]
  refine (hkn _).mono ?_
  rintro _ s1' ⟨rfl,rfl⟩
  have g5:∀ (s:ISt) o,(s.put b4 o) b5 = s b5:=fun s o => by rw [ISt.put_apply,if_neg h45.symm]
  have g4:∀ (s:ISt) o o',((s.put b4 o).put b5 o') b4 = o:=fun s o o' => by rw [ISt.put_apply,if_neg h45,ISt.put_same]
  have hsub':∀ (s:ISt) o o',subSt st s → subSt st ((s.put b4 o).put b5 o'):=fun s o o' h => subSt_put2 (subSt_put2 h hb4) hb5
  cases hk:knownB ca
  · have hq:CheckS ca t = ([],2):=by unfold CheckS; rw [hk]; rfl
    simp -implicitDefEqProofs -dsimp only [go_sem,↓reduceIte,zE,zB,zA,zM,zS,zL,reduceCtorEq,f4,f5,fits,g5,g4,ISt.put_same]
    exact outK_sub (hsub' _ _ _ hsub) ⟨⟨_,by rw [hq]; rfl,.inl rfl⟩,rfl⟩
  · simp -implicitDefEqProofs -dsimp only [go_sem,↓reduceIte,zE,zB,zA,zM,zS,zL,reduceCtorEq,f4,f5,fits]
    intro b6
    refine giv_intro fun hb6 => ?_
    rw [put_put_same]
    refine (hst _).mono ?_
    rintro _ _ ⟨rfl,rfl⟩
    have h26:b2 ≠ b6:=by rintro rfl; rw [f2] at hb6; cases hb6
    have h46:b4 ≠ b6:=by rintro rfl; rw [f4] at hb6; cases hb6
    have h56:b5 ≠ b6:=by rintro rfl; rw [f5] at hb6; cases hb6
    have hb6':st b6 = none:=by
      cases hq:st b6 with
      | none => rfl
      | some o => rw [hsub b6 o hq] at hb6; cases hb6
    have hI0:CkI st b2 b4 b5 b6 ca 0 (s1'.put b6 (some (.box [.raw (.int .i64 0)]))):=⟨by rw [ISt.put_apply,if_neg h26]; exact f2,by rw [ISt.put_apply,if_neg h46]; exact f4,by rw [ISt.put_apply,if_neg h56]; exact f5,ISt.put_same ..,subSt_put2 hsub hb6'⟩
    generalize s1'.put b6 (some (.box [.raw (.int .i64 0)])) = s2 at hI0 ⊢
    simp -implicitDefEqProofs -dsimp only [go_sem,↓reduceIte,zE,zB,zA,zM,zS,zL,reduceCtorEq,fits]
    refine RangeL.intro (lkT (t.walk [])) (t.walk []).length (fun k s => CkI st b2 b4 b5 b6 ca k s ∧ k ≤ 300) (fun e s => CkS st b4 b5 ([],5) e s ∧ 300 < t.steps) rfl ?_ ?_ ?_ (hit _) ?_ ?_
    · rintro k a e ⟨p,u,a,y,_,_,_,rfl⟩; rfl
    · exact ⟨hI0,by omega⟩
    · rintro k _ e s ⟨p,z,a,y,hkz,hz,hp,rfl⟩ hd ⟨⟨c2,c4,c5,c6,hss⟩,hk3⟩
      have hd':disj s e:=hd
      have r6:=join_sub hd' _ _ c6
      have r4:=join_sub hd' _ _ c4
      have r5:=join_sub hd' _ _ c5
      have e6:e b6 = none:=ISt.disj.off hd c6
      have hw:IntKind.i64.wrap ((k:Int) + 1) = ((k + 1:Nat):Int):=by rw [w64] <;> omega
      have q4:∀ o,((join s e).put b6 o) b4 = some (.box [.sl ⟨true,.nil,0⟩ []]):=fun o => by rw [put_ne h46]; exact r4
      have q5:∀ o o',(((join s e).put b6 o).put b4 o') b5 = some (.box [.raw (.int .i64 0)]):=fun o o' => by rw [put_ne h45.symm,put_ne h56]; exact r5
      by_cases hbig:300 < k + 1
      · have hb:decide ((300:Int) < ((k + 1:Nat):Int)) = true:=decide_eq_true (by omega)
        simp -implicitDefEqProofs -dsimp only [go_sem,↓reduceIte,zE,zB,zA,zM,zS,zL,reduceCtorEq,r6,hw,ISt.put_same,hb,q4,q5,fits]
        refine ⟨⟨rfl,⟨⟨true,.nil,0⟩,?_,.inl rfl⟩,ISt.put_same ..,subSt_put2 (subSt_put2 (subSt_put2 (hss.trans (join_sub hd')) hb6') hb4) hb5⟩,?_⟩
        · rw [put_ne h45,ISt.put_same]; rfl
        · have:=(List.getElem?_eq_some_iff.1 hkz).1
          rw [walk_len] at this
          omega
      · have hb:decide ((300:Int) < ((k + 1:Nat):Int)) = false:=decide_eq_false (by omega)
        simp -implicitDefEqProofs -dsimp only [go_sem,↓reduceIte,zE,zB,zA,zM,zS,zL,reduceCtorEq,r6,hw,ISt.put_same,hb,q4,q5,fits]
        refine ⟨s.put b6 (some (.box [.raw (.int .i64 ((k + 1:Nat):Int))])),⟨⟨by rw [put_ne h26]; exact c2,by rw [put_ne h46]; exact c4,by rw [put_ne h56]; exact c5,ISt.put_same ..,subSt_put2 hss hb6'⟩,by omega⟩,ISt.disj.put hd e6,ISt.put_add e6⟩
    · rintro s r ⟨⟨c2,c4,c5,c6,hss⟩,hk3⟩
      rw [walk_len] at hk3
      have hq:CheckS ca t = firstBad (checkS ca) (t.walk []):=by
        unfold CheckS
        rw [hk]
        simp only [Bool.not_true,Bool.false_eq_true,if_false]
        rw [if_neg (by omega)]
      simp -implicitDefEqProofs -dsimp only [go_sem,↓reduceIte,zE,zB,zA,zM,zS,zL,reduceCtorEq]
      refine (hst _).mono ?_
      rintro _ _ ⟨rfl,rfl⟩
      simp -implicitDefEqProofs -dsimp only [go_sem,↓reduceIte,zE,zB,zA,zM,zS,zL,reduceCtorEq,fits]
      refine RangeL.intro (lkT (t.walk [])) (t.walk []).length (fun k s => (s b2 = some (.box [.raw (.int .u8 ca)]) ∧ s b4 = some (.box [.sl ⟨true,.nil,0⟩ []]) ∧ s b5 = some (.box [.raw (.int .i64 0)]) ∧ subSt st s) ∧ firstBad (checkS ca) ((t.walk []).take k) = ([],0)) (fun e s => CkS st b4 b5 (CheckS ca t) e s) rfl ?_ ?_ ?_ (hit _) ?_ ?_
      · rintro k a e ⟨p,u,a,y,_,_,_,rfl⟩; rfl
      · exact ⟨⟨c2,c4,c5,hss⟩,by simp [firstBad]⟩
      · rintro k _ e s ⟨p,z,a,y,hkz,hz,hp,rfl⟩ hd ⟨⟨c2,c4,c5,hss⟩,hf⟩
        have hd':disj s e:=hd
        have r2:=join_sub hd' _ _ c2
        have hpl:=walk_deep [] t _ (List.mem_of_getElem? hkz)
        have hfd:=hfit.2
        simp only [List.length_nil] at hpl
        have hck:=fun st => check'_c gl G T ca z y hz (hfit.1 _ (List.mem_of_getElem? hkz)) st
        have hcl:=Clone_c gl p a e s hp (by omega) hd'
        have hiv:ivOf (.iv a) = some a:=by rcases hp with ⟨t,rfl,_⟩ | ⟨g,cap,cs,rfl,_⟩ <;> rfl
        obtain ⟨rule',tl',xl',tr',xr',op',fn',ta',xa',tb',xb',v',un',tu',xu',n',ts',xs',rfl⟩:=trAgg hz
        simp -implicitDefEqProofs -dsimp only [go_sem,↓reduceIte,zE,zB,zA,zM,zS,zL,reduceCtorEq,r2,hiv,fits]
        refine (hck _).mono ?_
        rintro _ _ ⟨rfl,rfl⟩
        by_cases h0:checkS ca z = 0
        · have d0:decide (((checkS ca z:Nat):Int) = 0) = true:=decide_eq_true (by omega)
          simp -implicitDefEqProofs -dsimp only [go_sem,↓reduceIte,zE,zB,zA,zM,zS,zL,reduceCtorEq,d0,fits]
          refine ⟨s,⟨⟨c2,c4,c5,hss⟩,?_⟩,hd,rfl⟩
          rw [take_get hkz,firstBad_append,hf]
          simp [firstBad,h0]
        · have d0:decide (((checkS ca z:Nat):Int) = 0) = false:=decide_eq_false (by omega)
          have hv:CheckS ca t = (p,checkS ca z):=by
            rw [hq]
            conv => lhs; rw [← List.take_append_drop k (t.walk [])]
            rw [List.drop_eq_getElem_cons (List.getElem?_eq_some_iff.1 hkz).1,(List.getElem?_eq_some_iff.1 hkz).2,firstBad_append,hf]
            simp [firstBad,h0]
          simp -implicitDefEqProofs -dsimp only [go_sem,↓reduceIte,zE,zB,zA,zM,zS,zL,reduceCtorEq,d0,hiv,fits]
          refine hcl.mono ?_
          rintro _ _ ⟨⟨t',rfl,ht'⟩,rfl⟩
          simp -implicitDefEqProofs -dsimp only [go_sem,↓reduceIte,zE,zB,zA,zM,zS,zL,reduceCtorEq,c4,c5,fits,g5,g4,ISt.put_same]
          refine ⟨rfl,⟨t',?_,ht'⟩,?_,hsub' _ _ _ hss⟩
          · rw [g4,hv]
          · rw [ISt.put_same,hv]
      · rintro s r ⟨⟨c2,c4,c5,hss⟩,hf⟩
        rw [List.take_length,← hq] at hf
        simp -implicitDefEqProofs -dsimp only [go_sem,↓reduceIte,zE,zB,zA,zM,zS,zL,reduceCtorEq,c4,c5,fits,g5,g4,ISt.put_same]
        exact outK_sub (hsub' _ _ _ hss) ⟨⟨_,by rw [hf]; rfl,.inl rfl⟩,rfl⟩
      · rintro e s r ⟨rfl,⟨tg,c4,ht⟩,c5,hss⟩
        simp -implicitDefEqProofs -dsimp only [go_sem,↓reduceIte,zE,zB,zA,zM,zS,zL,reduceCtorEq,c4,c5,fits]
        exact outK_sub hss ⟨⟨_,rfl,ht⟩,rfl⟩
    · rintro e s r ⟨⟨rfl,⟨tg,c4,ht⟩,c5,hss⟩,hb⟩
      have hq:CheckS ca t = ([],5):=by unfold CheckS; rw [hk,if_pos hb]; rfl
      simp -implicitDefEqProofs -dsimp only [go_sem,↓reduceIte,zE,zB,zA,zM,zS,zL,reduceCtorEq,c4,c5,fits]
      exact outK_sub hss ⟨⟨_,by rw [hq],ht⟩,rfl⟩
end Go.Proofs.Tryz
