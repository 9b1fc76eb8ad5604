/- Walks: what Small of lyceumlaw19 reckons -/
import Derived.Test.YtckafgnkmnichaaGreatDoorQD
import Derived.Test.YtckafgnkmnichaaGreatDoorQA
import Derived.Test.YtckafgnkmnichaaGreatDoorJI
import Derived.Test.YtckafgnkmnichaaGreatDoorQC
import Derived.Test.YtckafgnkmnichaaGreatDoorKG
set_option linter.all false
namespace Go.Proofs.Tryz
open Go Go.Iv
set_option maxRecDepth 4000
variable (gl:Nat → Option IV)
mutual
def wTm:Tm → Nat
 | .mk _ n us => 1 + n.size / 20 + wTms us
def wTms:List Tm → Nat
 | [] => 0
 | a :: l => wTm a + wTms l
end
mutual
def wFm:Fm → Nat
 | .mk _ n us sub => 1 + n.size / 20 + wTms us + wFms sub
def wFms:List Fm → Nat
 | [] => 0
 | a :: l => wFm a + wFms l
end
theorem yU2:∀ l m:List Tm,wTms (l ++ m) = wTms l + wTms m
 | [],m => by simp [wTms]
 | a :: l,m => by simp only [List.cons_append,wTms,yU2 l m]; omega
theorem xG1 {l:List Tm} {k:Nat} {a:Tm} (h:l[k]? = some a):wTms (l.take (k + 1)) = wTms (l.take k) + wTm a:=by
 rw [yQ4 h,yU2]; simp [wTms]
theorem xG2 (l:List Tm) (k:Nat):wTms (l.take k) ≤ wTms l:=by
 conv => rhs; rw [← List.take_append_drop k l]
 rw [yU2]; omega
theorem yU3:∀ l m:List Fm,wFms (l ++ m) = wFms l + wFms m
 | [],m => by simp [wFms]
 | a :: l,m => by simp only [List.cons_append,wFms,yU3 l m]; omega
theorem xG3 {l:List Fm} {k:Nat} {a:Fm} (h:l[k]? = some a):wFms (l.take (k + 1)) = wFms (l.take k) + wFm a:=by
 rw [yQ4 h,yU3]; simp [wFms]
theorem xG4 (l:List Fm) (k:Nat):wFms (l.take k) ≤ wFms l:=by
 conv => rhs; rw [← List.take_append_drop k l]
 rw [yU3]; omega
def Sum (w:Nat) (lim:Int) (r:IV):Prop:=∃ n:Nat,r = .raw (.int .i64 n) ∧ n ≤ w ∧ ((n:Int) ≤ lim → n = w)
def tC (us:List Tm):Prop:=∀ (t:Tag) (xs:List IV) (_:okEs t 3) (_:IsTms us xs) (lim:Int) (_:-1 ≤ lim ∧ lim ≤ 1000) (_:wTms us ≤ 1099511627776) (st:ISt),
 ICall prog gl 71 [.sl t xs,.raw (.int .i64 lim)] st (fun r st' => Sum (wTms us) lim r ∧ st' = st)
theorem xZy (us:List Tm) (IH:∀ v n l,Tm.mk v n l ∈ us → tC gl l):tC gl us:=by
 intro t xs ht hx lim hlim hw st
 refine iI func71 rfl rfl (by kernel_rfl) ?_
 simp -implicitDefEqProofs -dsimp only [go_sem]
 refine LoopC.ctr us.length (fun k fr st' ds => (∃ n:Nat,fr 5 = .iv (.raw (.int .i64 n)) ∧ n ≤ wTms (us.take k) ∧ ((n:Int) ≤ lim → n = wTms (us.take k))) ∧ fr 0 = .iv (.sl t xs) ∧ fr 1 = .iv (.raw (.int .i64 lim)) ∧ fr 6 = .iv (.raw (.int .i64 k)) ∧ st' = st ∧ ds = []) ?_ ?_ ?_
 ·simp -implicitDefEqProofs -dsimp only [go_sem]
  exact ⟨⟨0,rfl,Nat.le_refl _,fun _ => rfl⟩,rfl⟩
 ·rintro k fr st1 _ hlt ⟨⟨n,f5,hn1,hn2⟩,f0,f1,f6,rfl,rfl⟩
  obtain ⟨a,ha⟩:=yQ3 hlt
  obtain ⟨x,hkx,hxa⟩:=hx.get ha
  obtain ⟨v2,n2,l2⟩:=a
  obtain ⟨tx,cx,rfl,htx,hcx⟩:=hxa.mk
  have hwt:=xG1 ha
  have hwl:=xG2 us (k + 1)
  have hwk:=xG2 us k
  simp only [wTm] at hwt
  by_cases hle:(n:Int) ≤ lim
  ·have hnk:=hn2 hle
   have hcall:=fun st => IH _ _ _ (lMg ha) tx cx htx hcx (lim - n - 1) ⟨by omega,by omega⟩ (by omega) st
   have hq:IntKind.i64.wrap (((n2.size:Nat):Int).tdiv 20) = ((n2.size / 20:Nat):Int):=by
    have:((n2.size:Nat):Int).tdiv 20 = ((n2.size / 20:Nat):Int):=rfl
    rw [this,w64 (by omega) (by omega)]
   have hz:¬ ((20:Int) = 0):=by decide
   generalize n2.size / 20 = q at hq hwt
   have w1:IntKind.i64.wrap (1 + ((q:Nat):Int)) = ((1 + q:Nat):Int):=by rw [w64] <;> omega
   have w2:IntKind.i64.wrap (IntKind.i64.wrap (lim - (n:Int)) - 1) = lim - n - 1:=by rw [w64 (n:=lim - n) (by omega) (by omega),w64 (by omega) (by omega)]
   simp -implicitDefEqProofs -dsimp only [go_sem,f0,f1,f5,f6,hx.len,lt_i hlt,dEt hle,yQ2 ht,iNn,hkx,fits,hq,hz,w1,w2]
   intro _
   refine (hcall _).mono ?_
   rintro _ st2 ⟨⟨m,rfl,hm1,hm2⟩,rfl⟩
   have w3:IntKind.i64.wrap (((1 + q:Nat):Int) + (m:Int)) = ((1 + q + m:Nat):Int):=by rw [w64] <;> omega
   have w4:IntKind.i64.wrap ((n:Int) + ((1 + q + m:Nat):Int)) = ((n + (1 + q + m):Nat):Int):=by rw [w64] <;> omega
   simp -implicitDefEqProofs -dsimp only [go_sem,f0,f1,f5,f6,w3,w4,yQ9 hlt (show us.length ≤ 281474976710656 by omega)]
   exact ⟨n + (1 + q + m),rfl,by omega,fun h => by have:=hm2 (by omega); omega⟩
  ·simp -implicitDefEqProofs -dsimp only [go_sem,f0,f1,f5,f6,hx.len,lt_i hlt,dEf hle]
   intro _
   exact yQ0 ⟨⟨n,rfl,by omega,fun h => absurd h hle⟩,rfl⟩
 ·rintro fr st1 _ ⟨⟨n,f5,hn1,hn2⟩,f0,f1,f6,rfl,rfl⟩
  rw [lTl] at hn1 hn2
  simp -implicitDefEqProofs -dsimp only [go_sem,f0,f5,f6,hx.len,yQm (nLi _)]
  intro _
  exact yQ0 ⟨⟨n,rfl,hn1,hn2⟩,rfl⟩
theorem zVr:∀ (k:Nat) (us:List Tm),SizeOf.sizeOf us < k → tC gl us
 | 0,f,h => by omega
 | k + 1,us,h => xZy gl us (fun v n l ha => zVr k l (by
   have:=lSm ha
   simp at this; omega))
theorem xK8 (us:List Tm):tC gl us:=zVr gl _ us (Nat.lt_succ_self _)
def zC (us:List Fm):Prop:=∀ (t:Tag) (xs:List IV) (_:okEs t 4) (_:IsFms us xs) (lim:Int) (_:-1 ≤ lim ∧ lim ≤ 1000) (_:wFms us ≤ 1099511627776) (st:ISt),
 ICall prog gl 23 [.sl t xs,.raw (.int .i64 lim)] st (fun r st' => Sum (wFms us) lim r ∧ st' = st)
theorem xWn (us:List Fm) (IH:∀ o n l m,Fm.mk o n l m ∈ us → zC gl m):zC gl us:=by
 intro t xs ht hx lim hlim hw st
 refine ICall.intro (c:=cf prog gl [] [(5,[0,1,2,3,4,5,6,7,8,9,10,11,12,13,14,15,16,19,20,21,22,23,24,25,26,27,17,18,28,29,30,31])]) func23 rfl (by show _ ≤ 50; simp) (by kernel_rfl) ?_
 simp -implicitDefEqProofs -dsimp only [go_sem]
 refine LoopC.ctr us.length (fun k fr st' ds => (∃ n:Nat,fr 5 = .iv (.raw (.int .i64 n)) ∧ n ≤ wFms (us.take k) ∧ ((n:Int) ≤ lim → n = wFms (us.take k))) ∧ fr 0 = .iv (.sl t xs) ∧ fr 1 = .iv (.raw (.int .i64 lim)) ∧ fr 6 = .iv (.raw (.int .i64 k)) ∧ st' = st ∧ ds = []) ?_ ?_ ?_
 ·simp -implicitDefEqProofs -dsimp only [go_sem]
  exact ⟨⟨0,rfl,Nat.le_refl _,fun _ => rfl⟩,rfl⟩
 ·rintro k fr st1 _ hlt ⟨⟨n,f5,hn1,hn2⟩,f0,f1,f6,rfl,rfl⟩
  obtain ⟨a,ha⟩:=yQ3 hlt
  obtain ⟨x,hkx,hxa⟩:=hx.get ha
  obtain ⟨o2,n2,l2,m2⟩:=a
  obtain ⟨tx,cx,ty,cy,rfl,_,htx,hcx,hty,hcy⟩:=hxa.mk
  have hwt:=xG3 ha
  have hwl:=xG4 us (k + 1)
  have hwk:=xG4 us k
  simp only [wFm] at hwt
  by_cases hle:(n:Int) ≤ lim
  ·have hnk:=hn2 hle
   have hcall:=fun st => IH _ _ _ _ (lMg ha) ty cy hty hcy (lim - n - 1) ⟨by omega,by omega⟩ (by omega) st
   have hterm:=fun st => xK8 gl l2 tx cx htx hcx (lim - n) ⟨by omega,by omega⟩ (by omega) st
   have hq:IntKind.i64.wrap (((n2.size:Nat):Int).tdiv 20) = ((n2.size / 20:Nat):Int):=by
    have:((n2.size:Nat):Int).tdiv 20 = ((n2.size / 20:Nat):Int):=rfl
    rw [this,w64 (by omega) (by omega)]
   have hz:¬ ((20:Int) = 0):=by decide
   generalize n2.size / 20 = q at hq hwt
   have w1:IntKind.i64.wrap (1 + ((q:Nat):Int)) = ((1 + q:Nat):Int):=by rw [w64] <;> omega
   have w0:IntKind.i64.wrap (lim - (n:Int)) = lim - n:=w64 (by omega) (by omega)
   have w2:IntKind.i64.wrap (lim - (n:Int) - 1) = lim - n - 1:=w64 (by omega) (by omega)
   simp -implicitDefEqProofs -dsimp only [go_sem,f0,f1,f5,f6,hx.len,lt_i hlt,dEt hle,yQ2 ht,iNn,hkx,fits,hq,hz,w1,w0,w2]
   intro _
   refine (hterm _).mono ?_
   rintro _ st2 ⟨⟨m1,rfl,hm1,hm1'⟩,rfl⟩
   have w3:IntKind.i64.wrap (((1 + q:Nat):Int) + (m1:Int)) = ((1 + q + m1:Nat):Int):=by rw [w64] <;> omega
   simp -implicitDefEqProofs -dsimp only [go_sem,f0,f1,f5,f6,w3,w0,w2,fits,yQ2 ht,iNn,hkx,hlt]
   refine (hcall _).mono ?_
   rintro _ st2 ⟨⟨m,rfl,hm,hm'⟩,rfl⟩
   have w4:IntKind.i64.wrap (((1 + q + m1:Nat):Int) + (m:Int)) = ((1 + q + m1 + m:Nat):Int):=by rw [w64] <;> omega
   have w5:IntKind.i64.wrap ((n:Int) + ((1 + q + m1 + m:Nat):Int)) = ((n + (1 + q + m1 + m):Nat):Int):=by rw [w64] <;> omega
   simp -implicitDefEqProofs -dsimp only [go_sem,f0,f1,f5,f6,w4,w5,yQ9 hlt (show us.length ≤ 281474976710656 by omega)]
   exact ⟨n + (1 + q + m1 + m),rfl,by omega,fun h => by have:=hm1' (by omega); have:=hm' (by omega); omega⟩
  ·simp -implicitDefEqProofs -dsimp only [go_sem,f0,f1,f5,f6,hx.len,lt_i hlt,dEf hle]
   intro _
   exact yQ0 ⟨⟨n,rfl,by omega,fun h => absurd h hle⟩,rfl⟩
 ·rintro fr st1 _ ⟨⟨n,f5,hn1,hn2⟩,f0,f1,f6,rfl,rfl⟩
  rw [lTl] at hn1 hn2
  simp -implicitDefEqProofs -dsimp only [go_sem,f0,f5,f6,hx.len,yQm (nLi _)]
  intro _
  exact yQ0 ⟨⟨n,rfl,hn1,hn2⟩,rfl⟩
theorem zUb:∀ (k:Nat) (us:List Fm),SizeOf.sizeOf us < k → zC gl us
 | 0,f,h => by omega
 | k + 1,us,h => xWn gl us (fun o n l m ha => zUb k m (by
   have:=lSm ha
   simp at this; omega))
theorem xZz (us:List Fm):zC gl us:=zUb gl _ us (Nat.lt_succ_self _)
theorem uVy (s:Sq) (x:IV) (hx:IsSq s x) (hw:wFms s.l ≤ 1099511627776 ∧ wFms s.r ≤ 1099511627776) (st:ISt):ICall prog gl 29 [x] st (fun r st' => (r = .raw (.bool (decide (wFms s.l + wFms s.r ≤ 300)))) ∧ st' = st):=by
 obtain ⟨t1,x1,t2,x2,rfl,e1,i1,e2,i2⟩:=hx
 have h1:=fun st => xZz gl s.l t1 x1 e1 i1 300 ⟨by omega,by omega⟩ hw.1 st
 have h2:=fun st => xZz gl s.r t2 x2 e2 i2 300 ⟨by omega,by omega⟩ hw.2 st
 refine ICall.intro (c:=cf prog gl [] [(1,[0,1,3,4,2,5,6,7,8])]) func29 rfl (by show _ ≤ 11; simp) (by kernel_rfl) ?_
 simp -implicitDefEqProofs -dsimp only [go_sem,fits]
 refine (h1 _).mono ?_
 rintro _ st2 ⟨⟨n,rfl,hn1,hn2⟩,rfl⟩
 simp -implicitDefEqProofs -dsimp only [go_sem,fits]
 refine (h2 _).mono ?_
 rintro _ st2 ⟨⟨m,rfl,hm1,hm2⟩,rfl⟩
 have w:IntKind.i64.wrap ((n:Int) + (m:Int)) = ((n + m:Nat):Int):=by rw [w64] <;> omega
 have hd:decide (((n + m:Nat):Int) ≤ 300) = decide (wFms s.l + wFms s.r ≤ 300):=by
  rw [decide_eq_decide]
  constructor
  ·intro h
   have:=hn2 (by omega)
   have:=hm2 (by omega)
   omega
  ·intro h; omega
 simp -implicitDefEqProofs -dsimp only [go_sem,w,hd]
 exact yQ0 ⟨rfl,rfl⟩
def plI (p:List Nat):List IV:=p.map fun (i:Nat) => .raw (.int .i64 (i:Int))
theorem yKi (p:List Nat):(plI p).length = p.length:=by simp [plI]
def emp:ISt:=fun _ => none
def PlV (p:List Nat) (a:IV) (e:ISt):Prop :=
 (∃ t,a = .sl t [] ∧ t.cap = .nil ∧ p = [] ∧ e = emp) ∨
 ∃ g cap cs,a = .raw (.slice (some ⟨g,0,none⟩) p.length cap) ∧ e = emp.put g (some (.box cs)) ∧ p.length ≤ cap ∧ cap ≤ cs.length ∧ cs.take p.length = plI p
def lkT (l:List (List Nat × Tr)) (k:Nat) (zs:List IV) (e:ISt):Prop:=∃ p t a x,l[k]? = some (p,t) ∧ IsTr t x ∧ PlV p a e ∧ zs = [a,.cptr x]
def xXs (b2 b3 b4:Nat):IV:=.fn (.func 119) [] [.raw (.pointer (some ⟨b2,0,none⟩)),.raw (.pointer (some ⟨b3,0,none⟩)),.raw (.pointer (some ⟨b4,0,none⟩))]
def ownF (b2 b3 b4:Nat) (fy a:IV):ISt:=((emp.put b2 (some (.box [fy]))).put b3 (some (.box [a]))).put b4 (some (.box [xXs b2 b3 b4]))
section
variable {b2 b3 b4:Nat} {fy a:IV}
theorem wVe (h3:b2 ≠ b3) (h4:b2 ≠ b4):ownF b2 b3 b4 fy a b2 = some (.box [fy]):=by simp only [ownF,ISt.put_apply,if_neg h3,if_neg h4,if_true]
theorem yGu (h4:b3 ≠ b4):ownF b2 b3 b4 fy a b3 = some (.box [a]):=by simp only [ownF,ISt.put_apply,if_neg h4,if_true]
theorem zUf:ownF b2 b3 b4 fy a b4 = some (.box [xXs b2 b3 b4]):=by simp only [ownF,ISt.put_apply,if_true]
theorem xKd {c:Nat} (h2:c ≠ b2) (h3:c ≠ b3) (h4:c ≠ b4):ownF b2 b3 b4 fy a c = none:=by simp only [ownF,ISt.put_apply,if_neg h2,if_neg h3,if_neg h4,emp]
theorem zX5 {c:Nat} (a':IV):ownF b2 b3 b4 fy a c = none ↔ ownF b2 b3 b4 fy a' c = none:=by
 simp only [ownF,ISt.put_apply]
 by_cases h4:c = b4
 ·simp [h4]
 ·by_cases h3:c = b3
  ·subst h3; simp only [if_neg h4,if_true,reduceCtorEq]
  ·simp [h4,h3]
end
def xZ2 (b2 b3 b4:Nat) (fy:IV) (p:List Nat) (s stt:ISt):Prop:=∃ a e,PlV p a e ∧ disj s e ∧ disj (join s e) (ownF b2 b3 b4 fy a) ∧ stt = join (join s e) (ownF b2 b3 b4 fy a)
def FOkL (y:IV) (I:Nat → ISt → Prop) (S:ISt → Prop) (k0:Nat) (l:List (List Nat × Tr)):Prop :=
 ∀ i p t x a e stu,l[i]? = some (p,t) → IsTr t x → PlV p a e → disj stu e → I (k0 + i) stu →
  ICallV prog gl y [a,.cptr x] (join stu e) fun r st' => (r = .raw (.bool true) ∧ ∃ s1,I (k0 + i + 1) s1 ∧ disj s1 e ∧ st' = join s1 e) ∨ (r = .raw (.bool false) ∧ S st')
section
variable {gl} {y:IV} {I:Nat → ISt → Prop} {S:ISt → Prop} {k0:Nat}
theorem FOkL.left {l m:List (List Nat × Tr)} (h:FOkL gl y I S k0 (l ++ m)):FOkL gl y I S k0 l:=fun i p t x a e stu hi =>
 h i p t x a e stu (by rw [List.getElem?_append_left (lGs hi).1]; exact hi)
theorem FOkL.right {l m:List (List Nat × Tr)} (h:FOkL gl y I S k0 (l ++ m)):FOkL gl y I S (k0 + l.length) m:=fun i p t x a e stu hi hx hp hd hI => by
 have:=h (l.length + i) p t x a e stu (by rw [List.getElem?_append_right (by omega)]; simpa using hi) hx hp hd (by rw [← Nat.add_assoc]; exact hI)
 simpa only [Nat.add_assoc] using this
theorem FOkL.tail {z:List Nat × Tr} {m:List (List Nat × Tr)} (h:FOkL gl y I S k0 (z :: m)):FOkL gl y I S (k0 + 1) m:=FOkL.right (l:=[z]) h
end
section
variable {b2 b3 b4:Nat} {fy a a':IV} {p:List Nat} {s:ISt} {g:Nat}
theorem zYh {c:Nat} (h:c ≠ b3):ownF b2 b3 b4 fy a c = ownF b2 b3 b4 fy a' c:=by simp only [ownF,ISt.put_apply,if_neg h]
theorem xUc {cs:List IV} (h34:b3 ≠ b4) (hs:disj s (ownF b2 b3 b4 fy a)) (hg1:s g = none) (hg2:ownF b2 b3 b4 fy a g = none) (hp:PlV p a' (emp.put g (some (.box cs)))) :
  xZ2 b2 b3 b4 fy p s (((join s (ownF b2 b3 b4 fy a)).put g (some (.box cs))).put b3 (some (.box [a']))):=by
 have hg3:ownF b2 b3 b4 fy a' g = none:=(zX5 a').1 hg2
 refine ⟨a',_,hp,fun b hb => ?_,fun b hb => ?_,?_⟩
 ·rw [ISt.put_apply] at hb
  split at hb
  ·rename_i h; rw [h]; exact hg1
  ·exact absurd rfl hb
 ·have hbg:b ≠ g:=by rintro rfl; exact hb hg3
  have he:(emp.put g (some (.box cs))) b = none:=by rw [ISt.put_apply,if_neg hbg]; rfl
  rw [yZ4 he]
  exact hs b fun h => hb ((zX5 a').1 h)
 ·funext c
  by_cases h3:c = b3
  ·rw [ISt.put_apply,if_pos h3,h3,yZ3 (yGu h34)]
  ·rw [ISt.put_apply,if_neg h3,ISt.put_apply]
   by_cases hc:c = g
   ·rw [if_pos hc,hc,yZ4 hg3,yZ3 (ISt.put_same ..)]
   ·rw [if_neg hc]
    have he:(emp.put g (some (.box cs))) c = none:=by rw [ISt.put_apply,if_neg hc]; rfl
    cases ho:ownF b2 b3 b4 fy a c with
    | some o => rw [yZ3 ho,yZ3 ((zYh h3).symm.trans ho)]
    | none => rw [yZ4 ho,yZ4 ((zYh h3).symm.trans ho),yZ4 he]
theorem wG4 {cs:List IV} (hd1:s g = none) (hd2:ownF b2 b3 b4 fy a g = none):(join (join s (emp.put g (some (.box cs)))) (ownF b2 b3 b4 fy a)).put g none = join s (ownF b2 b3 b4 fy a):=by
 funext c
 rw [ISt.put_apply]
 split
 ·rename_i h; rw [h,yZ4 hd2,hd1]
 ·rename_i h
  have he:(emp.put g (some (.box cs))) c = none:=by rw [ISt.put_apply,if_neg h]; rfl
  cases ho:ownF b2 b3 b4 fy a c with
  | some o => rw [yZ3 ho,yZ3 ho]
  | none => rw [yZ4 ho,yZ4 ho,yZ4 he]
end
theorem PlV.cons {p:List Nat} {k:Nat} {a:IV} {e:ISt} (h:PlV (p ++ [k]) a e):∃ g cap cs,a = .raw (.slice (some ⟨g,0,none⟩) (p.length + 1) cap) ∧ e = emp.put g (some (.box cs)) ∧ p.length + 1 ≤ cap ∧ cap ≤ cs.length ∧ cs.take p.length = plI p:=by
 rcases h with ⟨t,_,_,h,_⟩ | ⟨g,cap,cs,rfl,rfl,h1,h2,h3⟩
 ·simp at h
 ·rw [lLa] at h1 h3 ⊢
  refine ⟨g,cap,cs,rfl,rfl,h1,h2,?_⟩
  have:=congrArg (List.take p.length) h3
  rw [List.take_take,show min p.length (p.length + [k].length) = p.length by omega] at this
  rw [this]
  unfold plI
  rw [List.map_append,List.take_left' (by simp)]
theorem wV9 {b2 b3 b4:Nat} {fy a a':IV} {X:ISt} (h34:b3 ≠ b4):(join X (ownF b2 b3 b4 fy a)).put b3 (some (.box [a'])) = join X (ownF b2 b3 b4 fy a'):=by
 funext c
 rw [ISt.put_apply]
 split
 ·rename_i h; rw [h,yZ3 (yGu h34)]
 ·rename_i h
  cases ho:ownF b2 b3 b4 fy a c with
  | some o => rw [yZ3 ho,yZ3 ((zYh h).symm.trans ho)]
  | none => rw [yZ4 ho,yZ4 ((zYh h).symm.trans ho)]
theorem zVl (n:Nat):yXh none (some ((n:Nat):Int)) (n + 1) = some (0,n):=by
 simp only [yXh,Option.getD_none,Option.getD_some]
 rw [if_pos ⟨Int.le_refl _,by omega,by omega⟩]; simp
theorem zW8:∀ {l:List Tr} {t:Tr},t ∈ l → t.height ≤ yQz l
 | a :: l,t,h => by
  simp only [yQz]
  rcases List.mem_cons.1 h with rfl | h
  ·omega
  ·have:=zW8 h; omega
theorem zJr (x:Operand):yV1 1 [(0,x)] = true:=rfl
theorem yKo (p:List Nat):∀ (i:Nat) (l m:List Tr),yZ1 p i (l ++ m) = yZ1 p i l ++ yZ1 p (i + l.length) m
 | i,[],m => by simp [yZ1]
 | i,a :: l,m => by
  simp only [List.cons_append,yZ1,yKo p (i + 1) l m,List.append_assoc,List.length_cons]
  rw [show i + 1 + l.length = i + (l.length + 1) by omega]
def FF (t:Tr):Prop:=∀ (x:IV) (_:IsTr t x) (b2 b3 b4:Nat) (_:b2 ≠ b3) (_:b2 ≠ b4) (_:b3 ≠ b4) (g:Fn) (fi ca:List IV) (_:fnOk g = true) (_:∀ i,g = .func i → entI prog i = true) (I:Nat → ISt → Prop) (S:ISt → Prop) (k0:Nat) (p:List Nat)
  (_:FOkL gl (.fn g fi ca) I S k0 (t.walk p)) (_:p.length + t.height ≤ 1099511627776) (s stt:ISt) (_:I k0 s) (_:xZ2 b2 b3 b4 (.fn g fi ca) p s stt),
  ICall prog gl 119 [.cptr x,.raw (.pointer (some ⟨b2,0,none⟩)),.raw (.pointer (some ⟨b3,0,none⟩)),.raw (.pointer (some ⟨b4,0,none⟩))] stt
   (fun r st' => (r = .raw (.bool true) ∧ ∃ s1,I (k0 + (t.walk p).length) s1 ∧ xZ2 b2 b3 b4 (.fn g fi ca) p s1 st') ∨ (r = .raw (.bool false) ∧ ∃ s1,S s1 ∧ subSt s1 st'))
theorem wQp (rule:Nat) (sq:Sq) (f:Fm) (u:Tm) (n:ByteArray) (sub:List Tr) (IH:∀ a ∈ sub,FF gl a):FF gl (.mk rule sq f u n sub):=by
 intro x hx b2 b3 b4 h23 h24 h34 g fi ca hfn hent I S k0 p hy hdeep s stt hI hst
 have hx0:=hx
 obtain ⟨tl,xl,tr,xr,op,fn,ta,xa,tb,xb,v,un,tu,xu,ts,xs,hxe,hru,_,_,_,_,_,_,e3,i3⟩:=hx.mk
 obtain ⟨a,e,hp,hd1,hd2,rfl⟩:=hst
 simp only [Tr.walk] at hy ⊢
 have hhead:=hy 0 p _ _ a e s rfl hx0 hp hd1 hI
 have hy':=FOkL.tail hy
 have r2:join (join s e) (ownF b2 b3 b4 (.fn g fi ca) a) b2 = some (.box [.fn g fi ca]):=yZ3 (wVe h23 h24)
 have r3:join (join s e) (ownF b2 b3 b4 (.fn g fi ca) a) b3 = some (.box [a]):=yZ3 (yGu h34)
 refine ICall.intro (c:=cf prog gl [23,24] []) func119 rfl (by show _ ≤ 39; simp) (by kernel_rfl) ?_
 have hiv:ivOf (.iv a) = some a:=by rcases hp with ⟨t,rfl,_⟩ | ⟨g,cap,cs,rfl,_⟩ <;> rfl
 rw [hxe] at hhead
 simp -implicitDefEqProofs -dsimp only [go_sem,r2,r3,hiv,hxe]
 refine yJg hent (hhead.frame hd2 |>.mono ?_)
 rintro r stt ⟨s2,hd3,rfl,(⟨rfl,s3,hI3,hd4,rfl⟩ | ⟨rfl,hS⟩)⟩
 ·simp -implicitDefEqProofs -dsimp only [go_sem,i3.len,hxe]
  intro hlen
  refine LoopC.ctr sub.length (fun k fr st' ds => (∃ s,I (k0 + 1 + (yZ1 p 0 (sub.take k)).length) s ∧ xZ2 b2 b3 b4 (.fn g fi ca) p s st') ∧ fr 0 = .iv (.cptr x) ∧ fr 1 = .iv (.raw (.pointer (some ⟨b2,0,none⟩))) ∧ fr 2 = .iv (.raw (.pointer (some ⟨b3,0,none⟩))) ∧ fr 3 = .iv (.raw (.pointer (some ⟨b4,0,none⟩))) ∧ fr 16 = .iv (.raw (.int .i64 sub.length)) ∧ fr 17 = .iv (.raw (.int .i64 k)) ∧ ds = []) ?_ ?_ ?_
  ·simp -implicitDefEqProofs -dsimp only [go_sem,hxe]
   exact ⟨⟨s3,by simpa [yZ1] using hI3,a,e,hp,hd4,hd3,rfl⟩,rfl⟩
  ·rintro k fr st1 _ hlt ⟨⟨s,hI,a,e,hp,hd1,hd2,rfl⟩,f0,f1,f2,f3,f16,f17,rfl⟩
   rw [hxe] at f0
   obtain ⟨t,ht⟩:=yQ3 hlt
   obtain ⟨z,hkz,hz⟩:=i3.get ht
   have r3:join (join s e) (ownF b2 b3 b4 (.fn g fi ca) a) b3 = some (.box [a]):=yZ3 (yGu h34)
   have hth:=zW8 (lMg ht)
   simp only [Tr.height] at hdeep
   have hsplit:yZ1 p 0 sub = yZ1 p 0 (sub.take k) ++ (t.walk (p ++ [k]) ++ yZ1 p (k + 1) (sub.drop (k + 1))):=by
    conv => lhs; rw [← List.take_append_drop k sub,List.drop_eq_getElem_cons hlt]
    rw [yKo,(lGs ht).2,show (sub.take k).length = k by rw [List.length_take]; omega]
    simp only [yZ1,Nat.zero_add]
   have hya:=hy'
   rw [hsplit] at hya
   have hcall:=fun stt hF => IH t (lMg ht) z hz b2 b3 b4 h23 h24 h34 g fi ca hfn hent I S _ (p ++ [k]) (FOkL.left (FOkL.right hya)) (by rw [lLa]; simp only [List.length_singleton]; omega) s stt hI hF
   have wcut:IntKind.i64.wrap (((p.length + 1:Nat):Int) - 1) = (p.length:Nat):=by rw [w64 (by omega) (by omega)]; omega
   have hz':∃ c0 c1 c2 c3 c4 c5 c6 c7 c8 c9 c10 c11,z = .agg [c0,c1,c2,c3,c4,c5,c6,c7,c8,c9,c10,c11]:=by
    obtain ⟨r',s',m',t',n',b'⟩:=t
    obtain ⟨tl',xl',tr',xr',op',fn',ta',xa',tb',xb',v',un',tu',xu',ts',xs',rfl,_⟩:=hz.mk
    exact ⟨_,_,_,_,_,_,_,_,_,_,_,_,rfl⟩
   obtain ⟨c0,c1,c2,c3,c4,c5,c6,c7,c8,c9,c10,c11,rfl⟩:=hz'
   rcases hp with ⟨t0,rfl,hta,hp0,rfl⟩ | ⟨g',cap,cs,rfl,rfl,hc1,hc2,hc3⟩
   ·obtain ⟨fs,c,es⟩:=t0
    obtain rfl:c = .nil:=hta
    have hje:join s emp = s:=rfl
    rw [hje] at r3 hd2 ⊢
    simp -implicitDefEqProofs -dsimp only [go_sem,f0,f1,f2,f3,f16,f17,lt_i hlt,r3,hxe,zJr]
    intro g' cap
    refine yQi fun hg => ?_
    obtain ⟨hg,hcap⟩:=hg
    change join s (ownF b2 b3 b4 (.fn g fi ca) (.sl ⟨fs,.nil,es⟩ [])) g' = none at hg
    have hd2':disj s (ownF b2 b3 b4 (.fn g fi ca) (.sl ⟨fs,.nil,es⟩ [])):=hd2
    have hg2:ownF b2 b3 b4 (.fn g fi ca) (.sl ⟨fs,.nil,es⟩ []) g' = none:=by
     cases ho:ownF b2 b3 b4 (.fn g fi ca) (.sl ⟨fs,.nil,es⟩ []) g' with
     | none => rfl
     | some o => rw [yZ3 ho] at hg; cases hg
    have hg1:s g' = none:=by rw [← yZ4 (stu:=s) hg2]; exact hg
    have hb3:b3 ≠ g':=by rintro rfl; rw [yGu h34] at hg2; cases hg2
    have hF:=xUc (fy:=.fn g fi ca) (p:=p ++ [k]) (a':=.raw (.slice (some ⟨g',0,none⟩) 1 cap)) (cs:=.raw (.int .i64 k) :: List.replicate (cap - 1) .junk) h34 hd2' hg1 hg2 (.inr ⟨g',cap,_,by rw [hp0]; rfl,rfl,by simpa [hp0] using hcap,by simp; omega,by simp [plI,hp0]⟩)
    have hb4:b4 ≠ g':=by rintro rfl; rw [zUf] at hg2; cases hg2
    have r3':∀ o,((join s (ownF b2 b3 b4 (.fn g fi ca) (.sl ⟨fs,.nil,es⟩ []))).put g' o) b3 = some (.box [.sl ⟨fs,.nil,es⟩ []]):=fun o => by rw [ISt.put_apply,if_neg hb3]; exact r3
    have r4':∀ o o',(((join s (ownF b2 b3 b4 (.fn g fi ca) (.sl ⟨fs,.nil,es⟩ []))).put g' o).put b3 o') b4 = some (.box [xXs b2 b3 b4]):=fun o o' => by rw [ISt.put_apply,if_neg h34.symm,ISt.put_apply,if_neg hb4]; exact yZ3 zUf
    simp -implicitDefEqProofs -dsimp only [go_sem,IV.one,List.flatMap_cons,List.flatMap_nil,IV.cells,Nat.mul_one,r3',r4',f0,f1,f2,f3,f16,f17,hxe,hkz,yQ2 e3,lt_i hlt,iNn,fits,xXs]
    refine (hcall _ hF).mono ?_
    rintro _ st2 (⟨rfl,s1,hI1,hF1⟩ | ⟨rfl,s1,hS1,hsub1⟩)
    ·obtain ⟨a2,e2,hp2,hd5,hd6,rfl⟩:=hF1
     obtain ⟨g3,cap3,cs3,rfl,rfl,hc4,hc5,hc6⟩:=hp2.cons
     have r6:join (join s1 (emp.put g3 (some (.box cs3)))) (ownF b2 b3 b4 (.fn g fi ca) (.raw (.slice (some ⟨g3,0,none⟩) (p.length + 1) cap3))) b3 = some (.box [.raw (.slice (some ⟨g3,0,none⟩) (p.length + 1) cap3)]):=yZ3 (yGu h34)
     simp -implicitDefEqProofs -dsimp only [go_sem,IV.one,r6,f0,f1,f2,f3,f16,f17,wcut,zVl,ite_self,Nat.zero_mul,hc4,yQ9 hlt (show sub.length ≤ 281474976710656 by omega)]
     refine ⟨s1,?_,?_⟩
     ·rw [yQ4 ht,yKo,lLa,show (sub.take k).length = k by rw [List.length_take]; omega]
      simp only [yZ1,List.append_nil,Nat.zero_add]
      rw [← Nat.add_assoc]; exact hI1
     ·rw [wV9 h34]
      exact ⟨_,_,.inr ⟨g3,cap3,cs3,rfl,rfl,by omega,hc5,hc6⟩,hd5,fun b hb => hd6 b fun h => hb ((zX5 _).1 h),rfl⟩
    ·simp -implicitDefEqProofs -dsimp only [go_sem]
     exact yQ0 (.inr ⟨rfl,s1,hS1,hsub1⟩)
   ·have ho:ownF b2 b3 b4 (.fn g fi ca) (.raw (.slice (some ⟨g',0,none⟩) p.length cap)) g' = none:=by
     cases ho:ownF b2 b3 b4 (.fn g fi ca) (.raw (.slice (some ⟨g',0,none⟩) p.length cap)) g' with
     | none => rfl
     | some o =>
      have:=hd2 g' (by rw [ho]; simp)
      rw [yZ3 (ISt.put_same ..)] at this
      cases this
    have hs1:s g' = none:=hd1 g' (by rw [ISt.put_same]; simp)
    have r5:join (join s (emp.put g' (some (.box cs)))) (ownF b2 b3 b4 (.fn g fi ca) (.raw (.slice (some ⟨g',0,none⟩) p.length cap))) g' = some (.box cs):=by
     rw [yZ4 ho,yZ3 (ISt.put_same ..)]
    simp -implicitDefEqProofs -dsimp only [go_sem,f0,f1,f2,f3,f16,f17,lt_i hlt,r3,hxe,zJr]
    refine zZc _ _ _ r5 (by simp [fits,IV.one]) ⟨by show (_ + 1) * 8 ≤ _; omega,by show _ + 1 ≤ _; omega⟩ ⟨hc1,by show _ * 1 ≤ _; omega⟩ (by simp [IV.cells]) ?_
    intro g2 cap2 cs2 hg2 k1 k2 k3
    rw [wG4 hs1 ho]
    have hgo:s g2 = none ∧ ownF b2 b3 b4 (.fn g fi ca) (.raw (.slice (some ⟨g',0,none⟩) p.length cap)) g2 = none:=by
     rcases hg2 with rfl | hg2
     ·exact ⟨hs1,ho⟩
     ·cases hq:ownF b2 b3 b4 (.fn g fi ca) (.raw (.slice (some ⟨g',0,none⟩) p.length cap)) g2 with
      | some o => rw [yZ3 hq] at hg2; cases hg2
      | none =>
       rw [yZ4 hq] at hg2
       refine ⟨?_,rfl⟩
       cases hz:s g2 with
       | none => rfl
       | some o => rw [yJt hd1 g2 o hz] at hg2; cases hg2
    have hs2:disj s (ownF b2 b3 b4 (.fn g fi ca) (.raw (.slice (some ⟨g',0,none⟩) p.length cap))):=fun b hb => by
     have:=hd2 b hb
     cases hz:s b with
     | none => rfl
     | some o => rw [yJt hd1 b o hz] at this; cases this
    have hF:=xUc (fy:=.fn g fi ca) (p:=p ++ [k]) (a':=.raw (.slice (some ⟨g2,0,none⟩) (p.length + 1) cap2)) (cs:=cs2) h34 hs2 hgo.1 hgo.2 (.inr ⟨g2,cap2,cs2,by simp,rfl,by simpa using k1,by simpa using k2,by
     simp only [Nat.mul_one] at k3
     rw [lLa]
     exact k3.trans (by rw [hc3]; simp [plI,IV.cells])⟩)
    have hb3:b3 ≠ g2:=by rintro rfl; have:=hgo.2; rw [yGu h34] at this; cases this
    have hb4:b4 ≠ g2:=by rintro rfl; have:=hgo.2; rw [zUf] at this; cases this
    have r3':∀ o,((join s (ownF b2 b3 b4 (.fn g fi ca) (.raw (.slice (some ⟨g',0,none⟩) p.length cap)))).put g2 o) b3 = some (.box [.raw (.slice (some ⟨g',0,none⟩) p.length cap)]):=fun o => by rw [ISt.put_apply,if_neg hb3]; exact yZ3 (yGu h34)
    have r4':∀ o o',(((join s (ownF b2 b3 b4 (.fn g fi ca) (.raw (.slice (some ⟨g',0,none⟩) p.length cap)))).put g2 o).put b3 o') b4 = some (.box [xXs b2 b3 b4]):=fun o o' => by rw [ISt.put_apply,if_neg h34.symm,ISt.put_apply,if_neg hb4]; exact yZ3 zUf
    simp -implicitDefEqProofs -dsimp only [go_sem,IV.one,List.flatMap_cons,List.flatMap_nil,IV.cells,Nat.mul_one,r3',r4',f0,f1,f2,f3,f16,f17,hxe,hkz,yQ2 e3,lt_i hlt,iNn,fits,xXs]
    refine (hcall _ hF).mono ?_
    rintro _ st2 (⟨rfl,s1,hI1,hF1⟩ | ⟨rfl,s1,hS1,hsub1⟩)
    ·obtain ⟨a2,e2,hp2,hd5,hd6,rfl⟩:=hF1
     obtain ⟨g3,cap3,cs3,rfl,rfl,hc4,hc5,hc6⟩:=hp2.cons
     have r6:join (join s1 (emp.put g3 (some (.box cs3)))) (ownF b2 b3 b4 (.fn g fi ca) (.raw (.slice (some ⟨g3,0,none⟩) (p.length + 1) cap3))) b3 = some (.box [.raw (.slice (some ⟨g3,0,none⟩) (p.length + 1) cap3)]):=yZ3 (yGu h34)
     simp -implicitDefEqProofs -dsimp only [go_sem,IV.one,r6,f0,f1,f2,f3,f16,f17,wcut,zVl,ite_self,Nat.zero_mul,hc4,yQ9 hlt (show sub.length ≤ 281474976710656 by omega)]
     refine ⟨s1,?_,?_⟩
     ·rw [yQ4 ht,yKo,lLa,show (sub.take k).length = k by rw [List.length_take]; omega]
      simp only [yZ1,List.append_nil,Nat.zero_add]
      rw [← Nat.add_assoc]; exact hI1
     ·rw [wV9 h34]
      exact ⟨_,_,.inr ⟨g3,cap3,cs3,rfl,rfl,by omega,hc5,hc6⟩,hd5,fun b hb => hd6 b fun h => hb ((zX5 _).1 h),rfl⟩
    ·simp -implicitDefEqProofs -dsimp only [go_sem]
     exact yQ0 (.inr ⟨rfl,s1,hS1,hsub1⟩)
  ·rintro fr st1 _ ⟨⟨s,hI,hF⟩,f0,f1,f2,f3,f16,f17,rfl⟩
   rw [lTl] at hI
   simp -implicitDefEqProofs -dsimp only [go_sem,f16,f17,yQm (nLi _)]
   refine yQ0 (.inl ⟨rfl,s,?_,hF⟩)
   rw [show k0 + ((yZ1 p 0 sub).length + 1) = k0 + 1 + (yZ1 p 0 sub).length by omega]
   exact hI
 ·simp -implicitDefEqProofs -dsimp only [go_sem]
  exact yQ0 (.inr ⟨rfl,s2,hS,yJt hd3⟩)
theorem xV2:∀ (k:Nat) (t:Tr),SizeOf.sizeOf t < k → FF gl t
 | 0,t,h => by omega
 | k + 1,.mk r sq f u n sub,h => wQp gl r sq f u n sub (fun a ha => xV2 k a (by
   have:=lSm ha
   simp at h; omega))
theorem vZm (t:Tr):FF gl t:=xV2 gl _ t (Nat.lt_succ_self _)
theorem wXg (t:Tr) (x:IV) (hx:IsTr t x) (hd:t.height ≤ 1099511627776) (I:Nat → ISt → Prop):wKt prog gl 118 [] [.cptr (.cptr x)] (lkT (t.walk [])) (t.walk []).length I:=by
 rintro y I' S' st ⟨g,fi,ca,rfl,hfn,hent⟩ _ hy h0
 have hfrom:=vZm gl t x hx
 have hok:FOkL gl (.fn g fi ca) I' S' 0 (t.walk []):=fun i p t x a e stu hi ht hp hdj hI => by
  rw [Nat.zero_add] at hI ⊢
  exact hy i [a,.cptr x] e stu ⟨p,t,a,x,hi,ht,hp,rfl⟩ hdj hI
 have hz':∃ c0 c1 c2 c3 c4 c5 c6 c7 c8 c9 c10 c11,x = .agg [c0,c1,c2,c3,c4,c5,c6,c7,c8,c9,c10,c11]:=by
  obtain ⟨r',s',m',t',n',b'⟩:=t
  obtain ⟨tl',xl',tr',xr',op',fn',ta',xa',tb',xb',v',un',tu',xu',ts',xs',rfl,_⟩:=hx.mk
  exact ⟨_,_,_,_,_,_,_,_,_,_,_,_,rfl⟩
 obtain ⟨c0,c1,c2,c3,c4,c5,c6,c7,c8,c9,c10,c11,rfl⟩:=hz'
 change ICall prog gl _ [.fn g fi ca,_] st _
 refine ICall.intro (c:=cf prog gl [2,3,4] []) func118 rfl (by show _ ≤ 9; simp) (by kernel_rfl) ?_
 simp -implicitDefEqProofs -dsimp only [go_sem,fits]
 intro b2
 refine yQi fun hb2 => ?_
 intro b3
 refine yQi fun hb3 => ?_
 intro b4
 refine yQi fun hb4 => ?_
 have h23:b2 ≠ b3:=by rintro rfl; rw [ISt.put_same] at hb3; cases hb3
 have h34:b3 ≠ b4:=by rintro rfl; rw [ISt.put_same] at hb4; cases hb4
 have h24:b2 ≠ b4:=by rintro rfl; rw [ISt.put_apply,if_neg h23,ISt.put_same] at hb4; cases hb4
 rw [ISt.put_apply,if_neg h23.symm] at hb3
 rw [ISt.put_apply,if_neg h34.symm,ISt.put_apply,if_neg h24.symm] at hb4
 have hF:xZ2 b2 b3 b4 (.fn g fi ca) [] st ((((st.put b2 (some (.box [.fn g fi ca]))).put b3 (some (.box [.sl ⟨true,.nil,0⟩ []]))).put b4 (some (.box [.raw .nilFunc]))).put b4 (some (.box [xXs b2 b3 b4]))):=by
  refine ⟨_,emp,.inl ⟨⟨true,.nil,0⟩,rfl,rfl,rfl,rfl⟩,fun b hb => absurd rfl hb,fun b hb => ?_,?_⟩
  ·show st b = none
   by_cases q4:b = b4
   ·rw [q4]; exact hb4
   ·by_cases q3:b = b3
    ·rw [q3]; exact hb3
    ·by_cases q2:b = b2
     ·rw [q2]; exact hb2
     ·exact absurd (xKd q2 q3 q4) hb
  ·funext c
   by_cases q4:c = b4
   ·rw [q4,ISt.put_same,yZ3 zUf]
   ·rw [ISt.put_apply,if_neg q4,ISt.put_apply,if_neg q4]
    by_cases q3:c = b3
    ·rw [q3,ISt.put_same,yZ3 (yGu h34)]
    ·rw [ISt.put_apply,if_neg q3]
     by_cases q2:c = b2
     ·rw [q2,ISt.put_same,yZ3 (wVe h23 h24)]
     ·rw [ISt.put_apply,if_neg q2,yZ4 (xKd q2 q3 q4)]; rfl
 refine (hfrom b2 b3 b4 h23 h24 h34 g fi ca hfn hent I' S' 0 [] hok (by simpa using hd) st _ h0 hF).mono ?_
 rintro r stt (⟨rfl,s1,hI1,a,e,_,hd1,hd2,rfl⟩ | ⟨rfl,s1,hS1,hsub⟩)
 ·simp -implicitDefEqProofs -dsimp only [go_sem]
  rw [Nat.zero_add] at hI1
  exact yQb ((yJt hd1).trans (yJt hd2)) (.inl hI1)
 ·simp -implicitDefEqProofs -dsimp only [go_sem]
  exact yQb hsub (.inr hS1)
theorem wWi (x:IV) (st:ISt) (t:Tr) (hx:IsTr t x):ICall prog gl 60 [.cptr x] st (fun r st' => r = .fn (.func 118) [] [.cptr (.cptr x)] ∧ st' = st):=by
 have hz':∃ c0 c1 c2 c3 c4 c5 c6 c7 c8 c9 c10 c11,x = .agg [c0,c1,c2,c3,c4,c5,c6,c7,c8,c9,c10,c11]:=by
  obtain ⟨r',s',m',t',n',b'⟩:=t
  obtain ⟨tl',xl',tr',xr',op',fn',ta',xa',tb',xb',v',un',tu',xu',ts',xs',rfl,_⟩:=hx.mk
  exact ⟨_,_,_,_,_,_,_,_,_,_,_,_,rfl⟩
 obtain ⟨c0,c1,c2,c3,c4,c5,c6,c7,c8,c9,c10,c11,rfl⟩:=hz'
 refine ICall.intro (c:=cf prog gl [] [] [1]) func60 rfl (by show _ ≤ 4; simp) (by kernel_rfl) ?_
 simp -implicitDefEqProofs -dsimp only [go_sem,fits]
 exact yQ0 ⟨rfl,rfl⟩
theorem wX7 (t:Tag) (ht:t.cap = .nil) (st:ISt):ICall prog gl 62 [.sl t []] st (fun r st' => (∃ t',r = .sl t' (plI []) ∧ okEs t' 1) ∧ st' = st):=by
 obtain ⟨fs,c,es⟩:=t
 obtain rfl:c = .nil:=ht
 refine iI func62 rfl rfl (by kernel_rfl) ?_
 have hb:binV prog 36 .eql (.sl ⟨fs,.nil,es⟩ []) (.sl ⟨true,.nil,0⟩ []) = some (.raw (.bool true)):=by
  have:zQd prog 36 = true:=by kernel_rfl
  simp [binV,zKy,this]
 simp -implicitDefEqProofs -dsimp only [go_sem,fits,hb]
 exact yQ0 ⟨⟨_,rfl,.inl rfl⟩,rfl⟩
theorem wX8 (g:Nat) (p:List Nat) (hp:p ≠ []) (hl:p.length ≤ 1099511627776) (st:ISt):ICall prog gl 62 [.sl ⟨false,.app g,1⟩ (plI p)] st (fun r st' => (∃ t',r = .sl t' (plI p) ∧ okEs t' 1) ∧ st' = st):=by
 obtain ⟨i,p,rfl⟩:∃ i q,p = i :: q:=by
  cases p with
  | nil => exact absurd rfl hp
  | cons i q => exact ⟨i,q,rfl⟩
 refine iI func62 rfl rfl (by kernel_rfl) ?_
 have hb:binV prog 36 .eql (.sl ⟨false,.app g,1⟩ (plI (i :: p))) (.sl ⟨true,.nil,0⟩ []) = some (.raw (.bool false)):=by
  have:zQd prog 36 = true:=by kernel_rfl
  simp [binV,zKy,plI,this]
 have hf:(plI (i :: p)).all (fits false 1) = true:=by simp [plI,fits,IV.one]
 simp only [List.length_cons] at hl
 have he:plI (i :: p) = .raw (.int .i64 (i:Int)) :: plI p:=rfl
 have hpl:=yKi p
 have hf':(plI p).all (fits false 1) = true:=by simp [plI,fits,IV.one]
 rw [he] at hb hf ⊢
 simp -implicitDefEqProofs -dsimp only [go_sem,fits,hb]
 exact yQw rfl (yQw hf' (yQw ⟨by omega,by omega⟩ fun g' => yQi fun hg => yQb (yQd hg) ⟨⟨_,rfl,.inr rfl⟩,rfl⟩))
theorem xYo {R:Rt} {st:ISt} {ds:List Dfd} (esc:List Nat) (dst:Option Nat) (e:TypeId × Bool × Nat × Nat) (fs:Bool) (es:Nat) (xs:List IV):appV esc dst e ⟨fs,.full,es⟩ xs [] R st ds =
 chk (([]:List IV).all (fits e.2.1 e.2.2.1) = true) (chk ((xs.length + 0) * e.2.2.2 ≤ 140737488355328 ∧ xs.length + 0 ≤ 140737488355328) (chk (es = e.2.2.1) (R (.val (.sl ⟨fs,.full,es⟩ xs)) st ds))):=rfl
theorem xYx (g:Nat) (st:ISt):ICall prog gl 62 [.sl ⟨false,.app g,1⟩ (plI [])] st (fun r st' => (∃ t',r = .sl t' (plI []) ∧ okEs t' 1) ∧ st' = st):=by
 have hb:binV prog 36 .eql (.sl ⟨false,.app g,1⟩ (plI [])) (.sl ⟨true,.nil,0⟩ []) = some (.raw (.bool false)):=by
  have:zQd prog 36 = true:=by kernel_rfl
  simp [binV,zKy,plI,this]
 rw [show plI [] = [] from rfl] at hb ⊢
 refine iI func62 rfl rfl (by kernel_rfl) ?_
 simp -implicitDefEqProofs -dsimp only [go_sem,fits,hb,xYo]
 exact yQw rfl (yQ0 ⟨⟨_,rfl,.inr rfl⟩,rfl⟩)
theorem wQf {s e:ISt} (h:disj s e):join s e = join e s:=by
 funext b
 cases he:e b with
 | none =>
  rw [yZ4 he]
  cases hs:s b with
  | none => rw [yZ4 hs,he]
  | some o => rw [yZ3 hs]
 | some o => rw [yZ3 he,yZ4 (h b (by rw [he]; simp)),he]
theorem xVk:∀ p:List Nat,ages (plI p) = plI p
 | [] => by simp only [plI,List.map_nil,ages]
 | i :: p => by
  have:=xVk p
  simp only [plI,List.map_cons,ages,age] at this ⊢
  rw [this]
theorem xKa:∀ p:List Nat,(plI p).flatMap IV.cells = plI p
 | [] => rfl
 | i :: p => by
  have:=xKa p
  simp only [plI,List.map_cons,List.flatMap_cons,IV.cells,List.singleton_append] at this ⊢
  rw [this]
theorem wGt (p:List Nat) (a:IV) (e s:ISt) (hp:PlV p a e) (hl:p.length ≤ 1099511627776) (hd:disj s e):ICall prog gl 62 [a] (join s e) (fun r st' => (∃ t',r = .sl t' (plI p) ∧ okEs t' 1) ∧ st' = s):=by
 have key:ICall prog gl 62 [a] e (fun r st' => (∃ t',r = .sl t' (plI p) ∧ okEs t' 1) ∧ st' = emp):=by
  rcases hp with ⟨t,rfl,ht,rfl,rfl⟩ | ⟨g,cap,cs,rfl,rfl,h1,h2,h3⟩
  ·exact wX7 gl t ht emp
  ·have hnb:zV3 (emp.put g (some (.box cs))) = emp:=by
    funext b
    by_cases hb:b = g
    ·rw [hb,zUm (ISt.put_same ..)]; rfl
    ·have:(emp.put g (some (.box cs))) b = none:=by rw [ISt.put_apply,if_neg hb]; rfl
     rw [xWr (fun cs' h => by rw [this] at h; cases h),this]; rfl
   refine ICall.freeze (args':=[.sl ⟨false,.app g,1⟩ (plI p)]) ⟨_,_,rfl,.inr ⟨.sl ⟨true,.app g,1⟩ (plI p),?_,?_⟩,rfl⟩ ?_
   ·rw [← yKi p]
    refine .sl g cap ⟨true,.app g,1⟩ (plI p) cs rfl (by rw [yKi]; omega) (by rw [yKi]; exact h1) (fun x hx => ?_) (ISt.put_same ..) (by simpa using h2) fun i r c hr hc => ?_
    ·obtain ⟨i,_,rfl⟩:=List.mem_map.1 hx
     rfl
    ·rw [xKa p] at hc
     have hi:i < p.length:=by
      have:=(lGs hc).1
      rwa [yKi] at this
     have:(cs.take p.length)[i]? = cs[i]?:=by rw [List.getElem?_take,if_pos hi]
     rw [h3,hc,hr] at this
     cases this
     exact .refl _
   ·simp only [age,xVk]
   ·rw [hnb]
    by_cases hpn:p = []
    ·subst hpn; exact xYx gl g emp
    ·exact wX8 gl g p hpn hl emp
 have h1:=key.frame (own:=s) (fun b hb => by
  cases he:e b with
  | none => rfl
  | some o => exact absurd (hd b (by rw [he]; simp)) hb)
 rw [wQf hd]
 refine h1.mono ?_
 rintro r st' ⟨stu,_,rfl,hr,rfl⟩
 refine ⟨hr,?_⟩
 funext b
 cases hs:s b with
 | none => rw [yZ4 hs]; rfl
 | some o => rw [yZ3 hs]
def zUl:Tr → Prop
 | .mk _ s m u _ sub => yY4 s ∧ m.size ≤ 1000000 ∧ u.size ≤ 1000000 ∧ ∀ a ∈ sub,yY4 a.sq
def wZ1 (t:Tr):Prop:=(∀ q ∈ t.walk [],zUl q.2) ∧ t.height ≤ 1099511627776
theorem wKf (G:Gl gl) (T:Gt gl) (ca:Nat) (t:Tr) (x:IV) (hx:IsTr t x) (hn:zUl t) (st:ISt):ICall prog gl 61 [.raw (.int .u8 ca),.cptr x] st (fun r st' => r = .raw (.int .i64 (yZe ca t)) ∧ st' = st):=by
 obtain ⟨rule,s,m,u,n,sub⟩:=t
 exact wGe gl G T ca rule s m u n sub x hx hn.1 hn.2.1 hn.2.2.1 hn.2.2.2 st
theorem yKd {t:Tr} {x:IV} (h:IsTr t x):∃ (rule:Nat) (tl:Tag) (xl:List IV) (tr:Tag) (xr:List IV) (op:Int) (fn:ByteArray) (ta:Tag) (xa:List IV) (tb:Tag) (xb:List IV) (v:Bool) (un:ByteArray) (tu:Tag) (xu:List IV) (n:ByteArray) (ts:Tag) (xs:List IV),
  x = .agg [.raw (.int .u8 rule),.sl tl xl,.sl tr xr,.raw (.int .u8 op),.raw (.string fn),.sl ta xa,.sl tb xb,.raw (.bool v),.raw (.string un),.sl tu xu,.raw (.string n),.sl ts xs]:=by
 obtain ⟨r',s',m',t',n',b'⟩:=t
 obtain ⟨tl',xl',tr',xr',op',fn',ta',xa',tb',xb',v',un',tu',xu',ts',xs',rfl,_⟩:=h.mk
 exact ⟨_,_,_,_,_,_,_,_,_,_,_,_,_,_,_,_,_,_,rfl⟩
mutual
theorem zWt:∀ (p:List Nat) (t:Tr),(t.walk p).length = t.steps
 | p,.mk _ _ _ _ _ sub => by simp only [Tr.walk,Tr.steps,List.length_cons,zXl p 0 sub]; omega
theorem zXl:∀ (p:List Nat) (i:Nat) (l:List Tr),(yZ1 p i l).length = yQo l
 | _,_,[] => rfl
 | p,i,a :: l => by simp only [yZ1,yQo,lLa,zWt (p ++ [i]) a,zXl p (i + 1) l]
end
mutual
theorem zGa:∀ (q:List Nat) (t:Tr) (x:List Nat × Tr),x ∈ t.walk q → x.1.length + 1 ≤ q.length + t.height
 | q,.mk _ _ _ _ _ sub,x,h => by
  simp only [Tr.walk,List.mem_cons] at h
  simp only [Tr.height]
  rcases h with rfl | h
  ·simp only; omega
  ·have:=zZg q 0 sub x h; omega
theorem zZg:∀ (q:List Nat) (i:Nat) (l:List Tr) (x:List Nat × Tr),x ∈ yZ1 q i l → x.1.length ≤ q.length + yQz l
 | _,_,[],x,h => by simp [yZ1] at h
 | q,i,a :: l,x,h => by
  simp only [yZ1,List.mem_append] at h
  simp only [yQz]
  rcases h with h | h
  ·have:=zGa (q ++ [i]) a x h
   rw [lLa] at this
   simp only [List.length_singleton] at this
   omega
  ·have:=zZg q (i + 1) l x h; omega
end
def CkI (st:ISt) (b2 b4 b5 b6 ca c:Nat) (s:ISt):Prop:=s b2 = some (.box [.raw (.int .u8 ca)]) ∧ s b4 = some (.box [.sl ⟨true,.nil,0⟩ []]) ∧ s b5 = some (.box [.raw (.int .i64 0)]) ∧ s b6 = some (.box [.raw (.int .i64 c)]) ∧ subSt st s
def CkS (st:ISt) (b4 b5:Nat) (q:List Nat × Nat) (e:Exit) (s:ISt):Prop:=e = .ret ∧ (∃ tg,s b4 = some (.box [.sl tg (plI q.1)]) ∧ okEs tg 1) ∧ s b5 = some (.box [.raw (.int .i64 q.2)]) ∧ subSt st s
theorem zKs (G:Gl gl) (T:Gt gl) (ca:Nat) (t:Tr) (x:IV) (hx:IsTr t x) (hfit:wZ1 t) (st:ISt):ICall prog gl 17 [.raw (.int .u8 ca),x] st (fun r st' => (∃ tg,r = .tup [.sl tg (plI (yXe ca t).1),.raw (.int .i64 (yXe ca t).2)] ∧ okEs tg 1) ∧ st' = st):=by
 have hst:=fun st => wWi gl x st t hx
 have hit:=fun I => wXg gl t x hx hfit.2 I
 have hkn:=fun st => xXk gl ca st
 obtain ⟨rule,tl,xl,tr,xr,op,fn,ta,xa,tb,xb,v,un,tu,xu,n,ts,xs,rfl⟩:=yKd hx
 refine ICall.intro (c:=cf prog gl [2,4,5,6] [] [3]) func17 rfl (by show _ ≤ 31; simp) (by kernel_rfl) ?_
 simp -implicitDefEqProofs -dsimp only [go_sem,fits,IV.one]
 intro b2
 refine yQi fun hb2 => ?_
 intro b4
 refine yQi fun hb4 => ?_
 intro b5
 refine yQi fun hb5 => ?_
 have h24:b2 ≠ b4:=by rintro rfl; rw [ISt.put_same] at hb4; cases hb4
 have h45:b4 ≠ b5:=by rintro rfl; rw [ISt.put_same] at hb5; cases hb5
 have h25:b2 ≠ b5:=by rintro rfl; rw [ISt.put_apply,if_neg h24,ISt.put_same] at hb5; cases hb5
 rw [ISt.put_apply,if_neg h24.symm] at hb4
 rw [ISt.put_apply,if_neg h45.symm,ISt.put_apply,if_neg h25.symm] at hb5
 obtain ⟨s1,hs1,f2,f4,f5,hsub⟩:∃ s1,s1 = ((st.put b2 (some (.box [.raw (.int .u8 ca)]))).put b4 (some (.box [.sl ⟨true,.nil,0⟩ []]))).put b5 (some (.box [.raw (.int .i64 0)])) ∧ s1 b2 = some (.box [.raw (.int .u8 ca)]) ∧ s1 b4 = some (.box [.sl ⟨true,.nil,0⟩ []]) ∧ s1 b5 = some (.box [.raw (.int .i64 0)]) ∧ subSt st s1 :=
  ⟨_,rfl,by simp only [ISt.put_apply,if_neg h24,if_neg h25,if_true],by simp only [ISt.put_apply,if_neg h45,if_true],by simp only [ISt.put_apply,if_true],yZa (yZa (yZa (subSt.refl st) hb2) hb4) hb5⟩
 rw [← hs1]
 simp -implicitDefEqProofs -dsimp only [go_sem,f2,fits]
 refine (hkn _).mono ?_
 rintro _ s1' ⟨rfl,rfl⟩
 have g5:∀ (s:ISt) o,(s.put b4 o) b5 = s b5:=fun s o => by rw [ISt.put_apply,if_neg h45.symm]
 have g4:∀ (s:ISt) o o',((s.put b4 o).put b5 o') b4 = o:=fun s o o' => by rw [ISt.put_apply,if_neg h45,ISt.put_same]
 have hsub':∀ (s:ISt) o o',subSt st s → subSt st ((s.put b4 o).put b5 o'):=fun s o o' h => yZa (yZa h hb4) hb5
 cases hk:yXi ca
 ·have hq:yXe ca t = ([],2):=by unfold yXe; rw [hk]; rfl
  simp -implicitDefEqProofs -dsimp only [go_sem,f4,f5,fits,g5,g4,ISt.put_same]
  exact yQb (hsub' _ _ _ hsub) ⟨⟨_,by rw [hq]; rfl,.inl rfl⟩,rfl⟩
 ·simp -implicitDefEqProofs -dsimp only [go_sem,f4,f5,fits]
  intro b6
  refine yQi fun hb6 => ?_
  rw [yQc]
  refine (hst _).mono ?_
  rintro _ _ ⟨rfl,rfl⟩
  have h26:b2 ≠ b6:=by rintro rfl; rw [f2] at hb6; cases hb6
  have h46:b4 ≠ b6:=by rintro rfl; rw [f4] at hb6; cases hb6
  have h56:b5 ≠ b6:=by rintro rfl; rw [f5] at hb6; cases hb6
  have hb6':st b6 = none:=by
   cases hq:st b6 with
   | none => rfl
   | some o => rw [hsub b6 o hq] at hb6; cases hb6
  have hI0:CkI st b2 b4 b5 b6 ca 0 (s1'.put b6 (some (.box [.raw (.int .i64 0)]))):=⟨by rw [ISt.put_apply,if_neg h26]; exact f2,by rw [ISt.put_apply,if_neg h46]; exact f4,by rw [ISt.put_apply,if_neg h56]; exact f5,ISt.put_same ..,yZa hsub hb6'⟩
  generalize s1'.put b6 (some (.box [.raw (.int .i64 0)])) = s2 at hI0 ⊢
  simp -implicitDefEqProofs -dsimp only [go_sem,fits]
  refine RangeL.intro (lkT (t.walk [])) (t.walk []).length (fun k s => CkI st b2 b4 b5 b6 ca k s ∧ k ≤ 300) (fun e s => CkS st b4 b5 ([],5) e s ∧ 300 < t.steps) rfl ?_ ?_ ?_ (hit _) ?_ ?_
  ·rintro k a e ⟨p,u,a,y,_,_,_,rfl⟩; rfl
  ·exact ⟨hI0,by omega⟩
  ·rintro k _ e s ⟨p,z,a,y,hkz,hz,hp,rfl⟩ hd ⟨⟨c2,c4,c5,c6,hss⟩,hk3⟩
   have hd':disj s e:=hd
   have r6:=yJt hd' _ _ c6
   have r4:=yJt hd' _ _ c4
   have r5:=yJt hd' _ _ c5
   have e6:e b6 = none:=ISt.disj.off hd c6
   have hw:IntKind.i64.wrap ((k:Int) + 1) = ((k + 1:Nat):Int):=by rw [w64] <;> omega
   have q4:∀ o,((join s e).put b6 o) b4 = some (.box [.sl ⟨true,.nil,0⟩ []]):=fun o => by rw [yZd h46]; exact r4
   have q5:∀ o o',(((join s e).put b6 o).put b4 o') b5 = some (.box [.raw (.int .i64 0)]):=fun o o' => by rw [yZd h45.symm,yZd h56]; exact r5
   by_cases hbig:300 < k + 1
   ·have hb:decide ((300:Int) < ((k + 1:Nat):Int)) = true:=dEt (by omega)
    simp -implicitDefEqProofs -dsimp only [go_sem,r6,hw,ISt.put_same,hb,q4,q5,fits]
    refine ⟨⟨rfl,⟨⟨true,.nil,0⟩,?_,.inl rfl⟩,ISt.put_same ..,yZa (yZa (yZa (hss.trans (yJt hd')) hb6') hb4) hb5⟩,?_⟩
    ·rw [yZd h45,ISt.put_same]; rfl
    ·have:=(lGs hkz).1
     rw [zWt] at this
     omega
   ·have hb:decide ((300:Int) < ((k + 1:Nat):Int)) = false:=dEf (by omega)
    simp -implicitDefEqProofs -dsimp only [go_sem,r6,hw,ISt.put_same,hb,q4,q5,fits]
    refine ⟨s.put b6 (some (.box [.raw (.int .i64 ((k + 1:Nat):Int))])),⟨⟨by rw [yZd h26]; exact c2,by rw [yZd h46]; exact c4,by rw [yZd h56]; exact c5,ISt.put_same ..,yZa hss hb6'⟩,by omega⟩,ISt.disj.put hd e6,ISt.put_add e6⟩
  ·rintro s r ⟨⟨c2,c4,c5,c6,hss⟩,hk3⟩
   rw [zWt] at hk3
   have hq:yXe ca t = yZ0 (yZe ca) (t.walk []):=by
    unfold yXe
    rw [hk]
    simp only [Bool.not_true,bFt,if_false]
    rw [if_neg (by omega)]
   simp -implicitDefEqProofs -dsimp only [go_sem]
   refine (hst _).mono ?_
   rintro _ _ ⟨rfl,rfl⟩
   simp -implicitDefEqProofs -dsimp only [go_sem,fits]
   refine RangeL.intro (lkT (t.walk [])) (t.walk []).length (fun k s => (s b2 = some (.box [.raw (.int .u8 ca)]) ∧ s b4 = some (.box [.sl ⟨true,.nil,0⟩ []]) ∧ s b5 = some (.box [.raw (.int .i64 0)]) ∧ subSt st s) ∧ yZ0 (yZe ca) ((t.walk []).take k) = ([],0)) (fun e s => CkS st b4 b5 (yXe ca t) e s) rfl ?_ ?_ ?_ (hit _) ?_ ?_
   ·rintro k a e ⟨p,u,a,y,_,_,_,rfl⟩; rfl
   ·exact ⟨⟨c2,c4,c5,hss⟩,by simp [yZ0]⟩
   ·rintro k _ e s ⟨p,z,a,y,hkz,hz,hp,rfl⟩ hd ⟨⟨c2,c4,c5,hss⟩,hf⟩
    have hd':disj s e:=hd
    have r2:=yJt hd' _ _ c2
    have hpl:=zGa [] t _ (lMg hkz)
    have hfd:=hfit.2
    simp only [List.length_nil] at hpl
    have hck:=fun st => wKf gl G T ca z y hz (hfit.1 _ (lMg hkz)) st
    have hcl:=wGt gl p a e s hp (by omega) hd'
    have hiv:ivOf (.iv a) = some a:=by rcases hp with ⟨t,rfl,_⟩ | ⟨g,cap,cs,rfl,_⟩ <;> rfl
    obtain ⟨rule',tl',xl',tr',xr',op',fn',ta',xa',tb',xb',v',un',tu',xu',n',ts',xs',rfl⟩:=yKd hz
    simp -implicitDefEqProofs -dsimp only [go_sem,r2,hiv,fits]
    refine (hck _).mono ?_
    rintro _ _ ⟨rfl,rfl⟩
    by_cases h0:yZe ca z = 0
    ·have d0:decide (((yZe ca z:Nat):Int) = 0) = true:=dEt (by omega)
     simp -implicitDefEqProofs -dsimp only [go_sem,d0,fits]
     refine ⟨s,⟨⟨c2,c4,c5,hss⟩,?_⟩,hd,rfl⟩
     rw [yQ4 hkz,yXo,hf]
     simp [yZ0,h0]
    ·have d0:decide (((yZe ca z:Nat):Int) = 0) = false:=dEf (by omega)
     have hv:yXe ca t = (p,yZe ca z):=by
      rw [hq]
      conv => lhs; rw [← List.take_append_drop k (t.walk [])]
      rw [List.drop_eq_getElem_cons (lGs hkz).1,(lGs hkz).2,yXo,hf]
      simp [yZ0,h0]
     simp -implicitDefEqProofs -dsimp only [go_sem,d0,hiv,fits]
     refine hcl.mono ?_
     rintro _ _ ⟨⟨t',rfl,ht'⟩,rfl⟩
     simp -implicitDefEqProofs -dsimp only [go_sem,c4,c5,fits,g5,g4,ISt.put_same]
     refine ⟨rfl,⟨t',?_,ht'⟩,?_,hsub' _ _ _ hss⟩
     ·rw [g4,hv]
     ·rw [ISt.put_same,hv]
   ·rintro s r ⟨⟨c2,c4,c5,hss⟩,hf⟩
    rw [lTl,← hq] at hf
    simp -implicitDefEqProofs -dsimp only [go_sem,c4,c5,fits,g5,g4,ISt.put_same]
    exact yQb (hsub' _ _ _ hss) ⟨⟨_,by rw [hf]; rfl,.inl rfl⟩,rfl⟩
   ·rintro e s r ⟨rfl,⟨tg,c4,ht⟩,c5,hss⟩
    simp -implicitDefEqProofs -dsimp only [go_sem,c4,c5,fits]
    exact yQb hss ⟨⟨_,rfl,ht⟩,rfl⟩
  ·rintro e s r ⟨⟨rfl,⟨tg,c4,ht⟩,c5,hss⟩,hb⟩
   have hq:yXe ca t = ([],5):=by unfold yXe; rw [hk,if_pos hb]; rfl
   simp -implicitDefEqProofs -dsimp only [go_sem,c4,c5,fits]
   exact yQb hss ⟨⟨_,by rw [hq],ht⟩,rfl⟩
theorem xX3 {p:List Nat} {k a:Nat} (h:p[k]? = some a):(plI p)[k]? = some (.raw (.int .i64 (a:Int))):=by simp [plI,List.getElem?_map,h]
theorem zVt (p q:List Nat):plI (p ++ q) = plI p ++ plI q:=by simp [plI]
def sumN:List Nat → Nat
 | [] => 0
 | a :: l => a + sumN l
theorem yU6:∀ l m:List Nat,sumN (l ++ m) = sumN l + sumN m
 | [],m => by simp [sumN]
 | a :: l,m => by simp only [List.cons_append,sumN,yU6 l m]; omega
theorem xGi (l:List Nat) (k:Nat):sumN (l.take k) ≤ sumN l:=by
 conv => rhs; rw [← List.take_append_drop k l]
 rw [yU6]; omega
def maxN:List Nat → Nat
 | [] => 0
 | a :: l => max a (maxN l)
theorem yUc:∀ l m:List Nat,maxN (l ++ m) = max (maxN l) (maxN m)
 | [],m => by simp [maxN]
 | a :: l,m => by simp only [List.cons_append,maxN,yUc l m]; omega
theorem vQe (tg:Tag) (l:List Nat) (htg:okEs tg 1) (hs:sumN l ≤ 4611686018427387904) (st:ISt):ICall prog gl 65 [.sl tg (plI l)] st (fun r st' => r = .raw (.int .i64 (sumN l)) ∧ st' = st):=by
 refine iI func65 rfl rfl (by kernel_rfl) ?_
 simp -implicitDefEqProofs -dsimp only [go_sem,yKi]
 intro _
 refine LoopC.ctr l.length (fun k fr st' ds => fr 3 = .iv (.raw (.int .i64 (sumN (l.take k)))) ∧ fr 6 = .iv (.sl tg (plI l)) ∧ fr 7 = .iv (.raw (.int .i64 l.length)) ∧ fr 8 = .iv (.raw (.int .i64 k)) ∧ st' = st ∧ ds = []) ?_ ?_ ?_
 ·simp -implicitDefEqProofs -dsimp only [go_sem]
  simp [sumN]
 ·rintro k fr st1 _ hlt ⟨f3,f6,f7,f8,rfl,rfl⟩
  obtain ⟨a,ha⟩:=yQ3 hlt
  have h1:=xGi l (k + 1)
  have h2:sumN (l.take (k + 1)) = sumN (l.take k) + a:=by rw [yQ4 ha,yU6]; rfl
  have h3:IntKind.i64.wrap (((sumN (l.take k):Nat):Int) + (a:Int)) = ((sumN (l.take (k + 1)):Nat):Int):=by rw [w64] <;> omega
  simp -implicitDefEqProofs -dsimp only [go_sem,f3,f6,f7,f8,lt_i hlt,yQ2 htg,iNn,xX3 ha,fits,h3,yQ9 hlt (show l.length ≤ 281474976710656 by omega)]
 ·rintro fr st1 _ ⟨f3,f6,f7,f8,rfl,rfl⟩
  rw [lTl] at f3
  simp -implicitDefEqProofs -dsimp only [go_sem,f3,f6,f7,f8,yQm (nLi _)]
  exact yQ0 ⟨rfl,rfl⟩
theorem uZ4 (a b:Nat):max (a:Int) (b:Int) = ((max a b:Nat):Int):=by omega
theorem uVx (tg:Tag) (l:List Nat) (htg:okEs tg 1) (hl:0 < l.length) (st:ISt):ICall prog gl 67 [.sl tg (plI l)] st (fun r st' => r = .raw (.int .i64 (maxN l)) ∧ st' = st):=by
 obtain ⟨a0,ha0⟩:=yQ3 hl
 have d1:decide (((l.length:Nat):Int) < 1) = false:=dEf (by omega)
 have t1:l.take 1 = [a0]:=by
  have:=yQ4 ha0
  simpa using this
 refine iI func67 rfl rfl (by kernel_rfl) ?_
 simp -implicitDefEqProofs -dsimp only [go_sem,yKi]
 intro hlen
 simp -implicitDefEqProofs -dsimp only [go_sem,d1,yQ2 htg,Int.le_refl,Int.toNat_zero,xX3 ha0,fits]
 refine LoopC.ctr (l.length - 1) (fun k fr st' ds => fr 3 = .iv (.raw (.int .i64 (maxN (l.take (k + 1))))) ∧ fr 0 = .iv (.sl tg (plI l)) ∧ fr 4 = .iv (.raw (.int .i64 ((k + 1:Nat):Int))) ∧ st' = st ∧ ds = []) ?_ ?_ ?_
 ·simp -implicitDefEqProofs -dsimp only [go_sem,t1]
  simp [maxN]
 ·rintro k fr st1 _ hlt ⟨f3,f0,f4,rfl,rfl⟩
  obtain ⟨a,ha⟩:=yQ3 (l:=l) (k:=k + 1) (by omega)
  have h2:maxN (l.take (k + 1 + 1)) = max (maxN (l.take (k + 1))) a:=by rw [yQ4 ha,yUc]; simp [maxN]
  simp -implicitDefEqProofs -dsimp only [go_sem,f3,f0,f4,yKi,lt_i (show k + 1 < l.length by omega),yQ2 htg,iNn,xX3 ha,fits,uZ4,yQ9 (show k + 1 < l.length by omega) (show l.length ≤ 281474976710656 by omega)]
  intro _
  rw [h2]
 ·rintro fr st1 _ ⟨f3,f0,f4,rfl,rfl⟩
  rw [show l.length - 1 + 1 = l.length by omega] at f3 f4
  rw [lTl] at f3
  simp -implicitDefEqProofs -dsimp only [go_sem,f3,f0,f4,yKi,yQm (nLi _)]
  intro _
  exact yQ0 ⟨rfl,rfl⟩
def subsT:Tr → List Tr
 | .mk _ _ _ _ _ sub => sub
def zWp (g:Nat) (v:Tr → Nat):Prop:=∀ (t:Tr) (l:List Nat) (x:IV) (tg:Tag) (st0 st:ISt),IsTr t x → t.steps ≤ 1099511627776 → l = (subsT t).map v → own st tg l.length 1 st0 → subSt st0 st →
 ICall prog gl g [x,.sl tg (plI l)] st (fun r st' => r = .raw (.int .i64 (v t)) ∧ subSt st0 st')
theorem zGp:∀ {l:List Tr} {t:Tr},t ∈ l → t.steps ≤ yQo l
 | a :: l,t,h => by
  simp only [yQo]
  rcases List.mem_cons.1 h with rfl | h
  ·omega
  ·have:=zGp h; omega
theorem yZu:∀ l:List Tr,l.length ≤ yQo l
 | [] => Nat.le_refl _
 | .mk _ _ _ _ _ s :: l => by
  have:=yZu l
  simp only [List.length_cons,yQo,Tr.steps]; omega
def wKu (v:Tr → Nat) (g:Nat) (t:Tr):Prop:=∀ (x:IV) (_:IsTr t x) (_:t.steps ≤ 1099511627776) (st:ISt),ICall prog gl 63 [x,.fn (.func g) [] []] st (fun r st' => r = .raw (.int .i64 (v t)) ∧ st' = st)
theorem wQt (v:Tr → Nat) (g:Nat) (hent:entI prog g = true) (hg:zWp gl g v) (rule:Nat) (sq:Sq) (f:Fm) (u:Tm) (n:ByteArray) (sub:List Tr) (IH:∀ a ∈ sub,wKu gl v g a):wKu gl v g (.mk rule sq f u n sub):=by
 intro x hx hs st
 have hx0:=hx
 obtain ⟨tl,xl,tr,xr,op,fn,ta,xa,tb,xb,vb,un,tu,xu,ts,xs,rfl,hru,_,_,_,_,_,_,e3,i3⟩:=hx.mk
 have hs0:=hs
 simp only [Tr.steps] at hs
 have hll:=yZu sub
 refine iI func63 rfl rfl (by kernel_rfl) ?_
 simp -implicitDefEqProofs -dsimp only [go_sem,fits,i3.len]
 intro _
 refine LoopC.ctr sub.length (fun k fr st' ds => (∃ tg',fr 5 = .iv (.sl tg' (plI ((sub.take k).map v))) ∧ own st' tg' k 1 st ∧ subSt st st') ∧ fr 1 = .iv (.fn (.func g) [] []) ∧ fr 2 = .box [.raw (.int .u8 rule),.sl tl xl,.sl tr xr,.raw (.int .u8 op),.raw (.string fn),.sl ta xa,.sl tb xb,.raw (.bool vb),.raw (.string un),.sl tu xu,.raw (.string n),.sl ts xs] ∧
  fr 9 = .iv (.sl ts xs) ∧ fr 10 = .iv (.raw (.int .i64 sub.length)) ∧ fr 11 = .iv (.raw (.int .i64 k)) ∧ ds = []) ?_ ?_ ?_
 ·simp -implicitDefEqProofs -dsimp only [go_sem]
  exact ⟨⟨_,rfl,.inl ⟨rfl,rfl⟩,subSt.refl _⟩,rfl⟩
 ·rintro k fr st1 _ hlt ⟨⟨tg',f5,hown,hsub⟩,f1,f2,f9,f10,f11,rfl⟩
  obtain ⟨a,ha⟩:=yQ3 hlt
  obtain ⟨z,hkz,hz⟩:=i3.get ha
  have hst:=zGp (lMg ha)
  have hcall:=IH a (lMg ha) z hz (by omega) st1
  obtain ⟨rule',tl',xl',tr',xr',op',fn',ta',xa',tb',xb',v',un',tu',xu',n',ts',xs',rfl⟩:=yKd hz
  simp -implicitDefEqProofs -dsimp only [go_sem,f1,f2,f5,f9,f10,f11,lt_i hlt,yQ2 e3,iNn,hkz,fits]
  refine hcall.mono ?_
  rintro _ _ ⟨rfl,rfl⟩
  simp -implicitDefEqProofs -dsimp only [go_sem,f1,f2,f5,f9,f10,f11,fits,zJr]
  refine yXd hown (by rw [yKi,List.length_map,List.length_take]; omega) hsub rfl (by simp [fits,IV.one]) (by simp only; omega) (by omega) fun tg2 st4 hown2 hsub4 _ _ => ?_
  simp -implicitDefEqProofs -dsimp only [go_sem,f1,f2,f5,f9,f10,f11,fits,yQ9 hlt (show sub.length ≤ 281474976710656 by omega)]
  exact ⟨tg2,by rw [yQ4 ha,List.map_append,zVt]; rfl,hown2,hsub4⟩
 ·rintro fr st1 _ ⟨⟨tg',f5,hown,hsub⟩,f1,f2,f9,f10,f11,rfl⟩
  rw [lTl] at f5
  have hcall:=hg _ (sub.map v) _ tg' st st1 hx0 hs0 rfl (by rw [List.length_map]; exact hown) hsub
  simp -implicitDefEqProofs -dsimp only [go_sem,f1,f2,f5,f10,f11,yQm (nLi _),fits,hent]
  refine hcall.mono ?_
  rintro _ st2 ⟨rfl,hsub2⟩
  simp -implicitDefEqProofs -dsimp only [go_sem,fits]
  exact yQb hsub2 ⟨rfl,rfl⟩
theorem xV5 (v:Tr → Nat) (g:Nat) (hent:entI prog g = true) (hg:zWp gl g v):∀ (k:Nat) (t:Tr),SizeOf.sizeOf t < k → wKu gl v g t
 | 0,t,h => by omega
 | k + 1,.mk r sq f u n sub,h => wQt gl v g hent hg r sq f u n sub (fun a ha => xV5 v g hent hg k a (by
   have:=lSm ha
   simp at h; omega))
theorem wQu (v:Tr → Nat) (g:Nat) (hent:entI prog g = true) (hg:zWp gl g v) (t:Tr):wKu gl v g t:=xV5 gl v g hent hg _ t (Nat.lt_succ_self _)
theorem zXt:∀ l:List Tr,sumN (l.map Tr.steps) = yQo l
 | [] => rfl
 | a :: l => by simp only [List.map_cons,sumN,yQo,zXt l]
theorem zWy:∀ l:List Tr,sumN (l.map Tr.cuts) = yZg l
 | [] => rfl
 | a :: l => by simp only [List.map_cons,sumN,yZg,zWy l]
theorem zJi:∀ l:List Tr,maxN (l.map Tr.height) = yQz l
 | [] => rfl
 | a :: l => by simp only [List.map_cons,maxN,yQz,zJi l]
mutual
theorem wZc:∀ t:Tr,t.cuts ≤ t.steps
 | .mk _ _ _ _ _ sub => by
  have:=zZ9 sub
  simp only [Tr.cuts,Tr.steps]
  split <;> omega
theorem zZ9:∀ l:List Tr,yZg l ≤ yQo l
 | [] => Nat.le_refl _
 | a :: l => by
  have:=wZc a
  have:=zZ9 l
  simp only [yZg,yQo]; omega
end
mutual
theorem xQ6:∀ t:Tr,t.height ≤ t.steps
 | .mk _ _ _ _ _ sub => by
  have:=yYx sub
  simp only [Tr.height,Tr.steps]; omega
theorem yYx:∀ l:List Tr,yQz l ≤ yQo l
 | [] => Nat.le_refl _
 | a :: l => by
  have:=xQ6 a
  have:=yYx l
  simp only [yQz,yQo]; omega
end
theorem wQv:zWp gl 64 Tr.steps:=by
 rintro ⟨rule,s,m,u,n,sub⟩ l x tg st0 st hx hs rfl hown hsub
 simp only [subsT] at hown ⊢
 simp only [Tr.steps] at hs
 have hsum:=fun st => vQe gl tg (sub.map Tr.steps) hown.es (by rw [zXt]; omega) st
 have hw:IntKind.i64.wrap (1 + ((yQo sub:Nat):Int)) = ((1 + yQo sub:Nat):Int):=by rw [w64] <;> omega
 rw [zXt] at hsum
 obtain ⟨rule',tl',xl',tr',xr',op',fn',ta',xa',tb',xb',v',un',tu',xu',n',ts',xs',rfl⟩:=yKd hx
 refine iI func64 rfl rfl (by kernel_rfl) ?_
 simp -implicitDefEqProofs -dsimp only [go_sem,fits]
 refine (hsum _).mono ?_
 rintro _ _ ⟨rfl,rfl⟩
 simp -implicitDefEqProofs -dsimp only [go_sem,hw,fits]
 exact yQ0 ⟨by simp only [Tr.steps],hsub⟩
theorem wJu:zWp gl 68 Tr.cuts:=by
 rintro ⟨rule,s,m,u,n,sub⟩ l x tg st0 st hx hs rfl hown hsub
 simp only [subsT] at hown ⊢
 simp only [Tr.steps] at hs
 have hcs:=zZ9 sub
 have hsum:=fun st => vQe gl tg (sub.map Tr.cuts) hown.es (by rw [zWy]; omega) st
 have hw:IntKind.i64.wrap (1 + ((yZg sub:Nat):Int)) = ((1 + yZg sub:Nat):Int):=by rw [w64] <;> omega
 rw [zWy] at hsum
 obtain ⟨tl',xl',tr',xr',op',fn',ta',xa',tb',xb',v',un',tu',xu',ts',xs',rfl,_⟩:=hx.mk
 refine iI func68 rfl rfl (by kernel_rfl) ?_
 by_cases h:rule = 17
 ·have d:decide ((rule:Int) = 17) = true:=dEt (by omega)
  simp -implicitDefEqProofs -dsimp only [go_sem,fits,d]
  refine (hsum _).mono ?_
  rintro _ _ ⟨rfl,rfl⟩
  simp -implicitDefEqProofs -dsimp only [go_sem,hw,fits]
  exact yQ0 ⟨by simp only [Tr.cuts,if_pos h],hsub⟩
 ·have d:decide ((rule:Int) = 17) = false:=dEf (by omega)
  simp -implicitDefEqProofs -dsimp only [go_sem,fits,d]
  refine (hsum _).mono ?_
  rintro _ _ ⟨rfl,rfl⟩
  simp -implicitDefEqProofs -dsimp only [go_sem,fits]
  exact yQ0 ⟨by simp only [Tr.cuts,if_neg h,Nat.zero_add],hsub⟩
theorem xYd:zWp gl 66 Tr.height:=by
 rintro ⟨rule,s,m,u,n,sub⟩ l x tg st0 st hx hs rfl hown hsub
 simp only [subsT] at hown ⊢
 simp only [Tr.steps] at hs
 have hcs:=yYx sub
 have hll:=yZu sub
 have hw:IntKind.i64.wrap (1 + ((yQz sub:Nat):Int)) = ((1 + yQz sub:Nat):Int):=by rw [w64] <;> omega
 have hm:maxN (sub.map Tr.height ++ [0]) = yQz sub:=by rw [yUc,zJi]; simp [maxN]
 obtain ⟨rule',tl',xl',tr',xr',op',fn',ta',xa',tb',xb',v',un',tu',xu',n',ts',xs',rfl⟩:=yKd hx
 refine iI func66 rfl rfl (by kernel_rfl) ?_
 simp -implicitDefEqProofs -dsimp only [go_sem,fits,yQ1]
 refine yXd hown (by rw [yKi]) hsub rfl (by simp [fits,IV.one]) (by simp only [List.length_map]; omega) (by simp only [List.length_map]; omega) fun tg2 st4 hown2 hsub4 _ _ => ?_
 have hmax:=fun st => uVx gl tg2 (sub.map Tr.height ++ [0]) hown2.es (by simp) st
 rw [hm,zVt] at hmax
 simp -implicitDefEqProofs -dsimp only [go_sem,fits]
 refine (hmax _).mono ?_
 rintro _ _ ⟨rfl,rfl⟩
 simp -implicitDefEqProofs -dsimp only [go_sem,hw,fits]
 exact yQ0 ⟨by simp only [Tr.height],hsub4⟩
theorem wX0 (t:Tr) (x:IV) (hx:IsTr t x) (hs:t.steps ≤ 1099511627776) (st:ISt):ICall prog gl 19 [x] st (fun r st' => r = .raw (.int .i64 (t.steps)) ∧ st' = st):=by
 have hf:=fun st => wQu gl Tr.steps 64 (by simp only [go_sem]) (wQv gl) t x hx hs st
 obtain ⟨rule',tl',xl',tr',xr',op',fn',ta',xa',tb',xb',v',un',tu',xu',n',ts',xs',rfl⟩:=yKd hx
 refine iI func19 rfl rfl (by kernel_rfl) ?_
 simp -implicitDefEqProofs -dsimp only [go_sem,fits]
 refine (hf _).mono ?_
 rintro _ _ ⟨rfl,rfl⟩
 simp -implicitDefEqProofs -dsimp only [go_sem,fits]
 exact yQ0 ⟨rfl,rfl⟩
theorem xVq (t:Tr) (x:IV) (hx:IsTr t x) (hs:t.steps ≤ 1099511627776) (st:ISt):ICall prog gl 20 [x] st (fun r st' => r = .raw (.int .i64 (t.height)) ∧ st' = st):=by
 have hf:=fun st => wQu gl Tr.height 66 (by simp only [go_sem]) (xYd gl) t x hx hs st
 obtain ⟨rule',tl',xl',tr',xr',op',fn',ta',xa',tb',xb',v',un',tu',xu',n',ts',xs',rfl⟩:=yKd hx
 refine iI func20 rfl rfl (by kernel_rfl) ?_
 simp -implicitDefEqProofs -dsimp only [go_sem,fits]
 refine (hf _).mono ?_
 rintro _ _ ⟨rfl,rfl⟩
 simp -implicitDefEqProofs -dsimp only [go_sem,fits]
 exact yQ0 ⟨rfl,rfl⟩
theorem wW2 (t:Tr) (x:IV) (hx:IsTr t x) (hs:t.steps ≤ 1099511627776) (st:ISt):ICall prog gl 21 [x] st (fun r st' => r = .raw (.int .i64 (t.cuts)) ∧ st' = st):=by
 have hf:=fun st => wQu gl Tr.cuts 68 (by simp only [go_sem]) (wJu gl) t x hx hs st
 obtain ⟨rule',tl',xl',tr',xr',op',fn',ta',xa',tb',xb',v',un',tu',xu',n',ts',xs',rfl⟩:=yKd hx
 refine iI func21 rfl rfl (by kernel_rfl) ?_
 simp -implicitDefEqProofs -dsimp only [go_sem,fits]
 refine (hf _).mono ?_
 rintro _ _ ⟨rfl,rfl⟩
 simp -implicitDefEqProofs -dsimp only [go_sem,fits]
 exact yQ0 ⟨rfl,rfl⟩
mutual
def wTr:Tr → Nat
 | .mk _ s f u n sub => wFms s.l + wFms s.r + wFm f + wTm u + n.size + wTrs sub
def wTrs:List Tr → Nat
 | [] => 0
 | a :: l => wTr a + wTrs l
end
def xXa (s:Sq) (f:Fm) (u:Tm) (n:ByteArray):Bool:=decide (wFms s.l + wFms s.r ≤ 300) && !decide (300 < wFm f) && !decide (300 < wTm u) && !decide (100 < n.size)
mutual
def okT:Tr → Bool
 | .mk _ s f u n sub => xXa s f u n && okTs sub
def okTs:List Tr → Bool
 | [] => true
 | a :: l => okT a && okTs l
end
theorem yUb:∀ l m:List Tr,okTs (l ++ m) = (okTs l && okTs m)
 | [],m => by simp [okTs]
 | a :: l,m => by simp only [List.cons_append,okTs,yUb l m,Bool.and_assoc]
theorem xUl {l:List Tr} {k:Nat} {a:Tr} (h:l[k]? = some a):okTs (l.take (k + 1)) = (okTs (l.take k) && okT a):=by
 rw [yQ4 h,yUb]; simp [okTs]
theorem wYf (l:List Tr) (k:Nat) (h:okTs l = true):okTs (l.take k) = true:=by
 rw [← List.take_append_drop k l,yUb,bAt] at h
 exact h.1
theorem zXv {l:List Tr} {k:Nat} {a:Tr} (h:l[k]? = some a):yQo (l.take (k + 1)) = yQo (l.take k) + a.steps:=by
 rw [yQ4 h,yVj]; simp [yQo]
theorem zGq (l:List Tr) (k:Nat):yQo (l.take k) ≤ yQo l:=by
 conv => rhs; rw [← List.take_append_drop k l]
 rw [yVj]; omega
theorem xJj:∀ {l:List Tr} {t:Tr},t ∈ l → wTr t ≤ wTrs l
 | a :: l,t,h => by
  simp only [wTrs]
  rcases List.mem_cons.1 h with rfl | h
  ·omega
  ·have:=xJj h; omega
theorem Sum.gt {w:Nat} {r:IV} (h:Sum w 300 r):∃ n:Nat,r = .raw (.int .i64 n) ∧ decide ((300:Int) < (n:Int)) = decide (300 < w):=by
 obtain ⟨n,rfl,h1,h2⟩:=h
 refine ⟨n,rfl,?_⟩
 rw [decide_eq_decide]
 constructor
 ·intro h; omega
 ·intro h
  rcases Int.lt_or_le 300 (n:Int) with hn | hn
  ·exact hn
  ·have:=h2 hn; omega
def Left (t:Tr) (left:Int) (r:Int):Prop:=-1 ≤ r ∧ r ≤ left ∧ (0 ≤ r ↔ okT t = true ∧ (t.steps:Int) ≤ left) ∧ (0 ≤ r → r = left - t.steps)
def sC (t:Tr):Prop:=∀ (x:IV) (_:IsTr t x) (left:Int) (_:0 ≤ left ∧ left ≤ 1000) (_:wTr t ≤ 1099511627776) (st:ISt),
 ICall prog gl 50 [x,.raw (.int .i64 left)] st (fun r st' => (∃ n:Int,r = .raw (.int .i64 n) ∧ Left t left n) ∧ st' = st)
theorem xW7 (rule:Nat) (s:Sq) (f:Fm) (u:Tm) (n:ByteArray) (sub:List Tr) (IH:∀ a ∈ sub,sC gl a):sC gl (.mk rule s f u n sub):=by
 intro x hx left hl hw st
 obtain ⟨tl,xl,tr,xr,op,fn,ta,xa,tb,xb,v,un,tu,xu,ts,xs,rfl,hru,e1,i1,e2,i2,hy,hz,e3,i3⟩:=hx.mk
 simp only [wTr] at hw
 have hfew:=fun st => uVy gl s _ ⟨tl,xl,tr,xr,rfl,e1,i1,e2,i2⟩ ⟨by omega,by omega⟩ st
 have hsz:=fun st => xZz gl [f] ⟨true,.full,4⟩ _ (.inr rfl) ⟨_,_,rfl,hy,rfl⟩ 300 ⟨by omega,by omega⟩ (by simp only [wFms]; omega) st
 have htm:=fun st => xK8 gl [u] ⟨true,.full,3⟩ _ (.inr rfl) ⟨_,_,rfl,hz,rfl⟩ 300 ⟨by omega,by omega⟩ (by simp only [wTms]; omega) st
 have hbad:xXa s f u n = false → Left (.mk rule s f u n sub) left (-1):=fun h => by
  refine ⟨by omega,by omega,⟨fun h => by omega,fun h' => ?_⟩,fun h => by omega⟩
  simp only [okT,h,Bool.false_and,bFt,false_and] at h'
 refine iI func50 rfl rfl (by kernel_rfl) ?_
 simp -implicitDefEqProofs -dsimp only [go_sem,fits]
 refine (hfew _).mono ?_
 rintro _ st ⟨rfl,rfl⟩
 unfold xXa at hbad
 cases q1:decide (wFms s.l + wFms s.r ≤ 300)
 ·simp -implicitDefEqProofs -dsimp only [go_sem,fits,q1]
  exact yQ0 ⟨⟨-1,rfl,hbad (by rw [q1]; rfl)⟩,rfl⟩
 simp -implicitDefEqProofs -dsimp only [go_sem,fits,q1,yQ1]
 refine (hsz _).mono ?_
 rintro _ st ⟨hS,rfl⟩
 obtain ⟨m,rfl,hd⟩:=hS.gt
 rw [show wFms [f] = wFm f from by simp [wFms]] at hd
 cases q2:decide (300 < wFm f)
 case true =>
  rw [q2] at hd
  simp -implicitDefEqProofs -dsimp only [go_sem,fits,hd]
  exact yQ0 ⟨⟨-1,rfl,hbad (by rw [q1,q2]; rfl)⟩,rfl⟩
 rw [q2] at hd
 simp -implicitDefEqProofs -dsimp only [go_sem,fits,hd,yQ1]
 refine (htm _).mono ?_
 rintro _ st ⟨hS2,rfl⟩
 obtain ⟨m2,rfl,hd2⟩:=hS2.gt
 rw [show wTms [u] = wTm u from by simp [wTms]] at hd2
 cases q3:decide (300 < wTm u)
 case true =>
  rw [q3] at hd2
  simp -implicitDefEqProofs -dsimp only [go_sem,fits,hd2]
  exact yQ0 ⟨⟨-1,rfl,hbad (by rw [q1,q2,q3]; rfl)⟩,rfl⟩
 rw [q3] at hd2
 have hdn:decide ((100:Int) < ((n.size:Nat):Int)) = decide (100 < n.size):=by rw [decide_eq_decide]; omega
 cases q4:decide (100 < n.size)
 case true =>
  rw [q4] at hdn
  simp -implicitDefEqProofs -dsimp only [go_sem,fits,hd2,hdn]
  intro _
  exact yQ0 ⟨⟨-1,rfl,hbad (by rw [q1,q2,q3,q4]; rfl)⟩,rfl⟩
 rw [q4] at hdn
 have hnode:xXa s f u n = true:=by unfold xXa; rw [q1,q2,q3,q4]; rfl
 have wl:IntKind.i64.wrap (left - 1) = left - 1:=w64 (by omega) (by omega)
 simp -implicitDefEqProofs -dsimp only [go_sem,fits,hd2,hdn,wl]
 intro _
 refine LoopC.ctr sub.length (fun k fr st' ds => (∃ l:Int,fr 1 = .iv (.raw (.int .i64 l)) ∧ -1 ≤ l ∧ l ≤ left - 1 ∧ (0 ≤ l ↔ okTs (sub.take k) = true ∧ ((yQo (sub.take k):Nat):Int) + 1 ≤ left) ∧ (0 ≤ l → l = left - 1 - (yQo (sub.take k):Nat))) ∧
  fr 2 = .box [.raw (.int .u8 rule),.sl tl xl,.sl tr xr,.raw (.int .u8 op),.raw (.string fn),.sl ta xa,.sl tb xb,.raw (.bool v),.raw (.string un),.sl tu xu,.raw (.string n),.sl ts xs] ∧ fr 5 = .iv (.raw (.int .i64 k)) ∧ st' = st ∧ ds = []) ?_ ?_ ?_
 ·simp -implicitDefEqProofs -dsimp only [go_sem]
  exact ⟨⟨left - 1,rfl,by omega,by omega,⟨fun h => ⟨rfl,by simp only [yQo]; omega⟩,fun h => by have:=h.2; simp only [yQo] at this; omega⟩,fun _ => by simp only [yQo]; omega⟩,rfl⟩
 ·rintro k fr st1 _ hlt ⟨⟨l,f1,hl1,hl2,hl3,hl4⟩,f2,f5,rfl,rfl⟩
  obtain ⟨a,ha⟩:=yQ3 hlt
  obtain ⟨z,hkz,hzz⟩:=i3.get ha
  have hoks:=xUl ha
  have hst:=zXv ha
  by_cases hle:(0:Int) ≤ l
  ·have hcall:=fun st => IH a (lMg ha) z hzz l ⟨hle,by omega⟩ (by have:=xJj (lMg ha); omega) st
   obtain ⟨rule',tl',xl',tr',xr',op',fn',ta',xa',tb',xb',v',un',tu',xu',n',ts',xs',rfl⟩:=yKd hzz
   simp -implicitDefEqProofs -dsimp only [go_sem,f1,f2,f5,i3.len,lt_i hlt,dEt hle,yQ2 e3,iNn,hkz,fits]
   intro _
   refine (hcall _).mono ?_
   rintro _ st2 ⟨⟨r,rfl,hr1,hr2,hr3,hr4⟩,rfl⟩
   simp -implicitDefEqProofs -dsimp only [go_sem,f1,f2,f5,fits,yQ9 hlt (show sub.length ≤ 281474976710656 by omega)]
   have g3:=hl3.1 hle
   have g4:=hl4 hle
   refine ⟨r,rfl,hr1,by omega,?_,fun h => by have:=hr4 h; rw [hst]; omega⟩
   rw [hoks,hst,g3.1,Bool.true_and]
   constructor
   ·intro h
    have:=hr3.1 h
    exact ⟨this.1,by omega⟩
   ·intro h
    exact hr3.2 ⟨h.1,by have:=h.2; omega⟩
  ·simp -implicitDefEqProofs -dsimp only [go_sem,f1,f2,f5,i3.len,lt_i hlt,dEf hle]
   intro _
   refine yQ0 ⟨⟨l,rfl,hl1,by omega,⟨fun h => absurd h hle,fun h => ?_⟩,fun h => absurd h hle⟩,rfl⟩
   have h1:=h.1
   have h2:=h.2
   simp only [okT,hnode,Bool.true_and] at h1
   simp only [Tr.steps] at h2
   have h3:=zGq sub k
   exact absurd (hl3.2 ⟨wYf sub k h1,by omega⟩) hle
 ·rintro fr st1 _ ⟨⟨l,f1,hl1,hl2,hl3,hl4⟩,f2,f5,rfl,rfl⟩
  rw [lTl] at hl3 hl4
  simp -implicitDefEqProofs -dsimp only [go_sem,f1,f2,f5,i3.len,yQm (nLi _)]
  intro _
  refine yQ0 ⟨⟨l,rfl,hl1,by omega,?_,fun h => by have:=hl4 h; simp only [Tr.steps]; omega⟩,rfl⟩
  simp only [okT,hnode,Bool.true_and,Tr.steps]
  constructor
  ·intro h
   have:=hl3.1 h
   exact ⟨this.1,by omega⟩
  ·intro h
   exact hl3.2 ⟨h.1,by have:=h.2; omega⟩
theorem zGw:∀ (k:Nat) (t:Tr),SizeOf.sizeOf t < k → sC gl t
 | 0,t,h => by omega
 | k + 1,.mk r sq f u n sub,h => xW7 gl r sq f u n sub (fun a ha => zGw k a (by
   have:=lSm ha
   simp at h; omega))
theorem wXz (t:Tr):sC gl t:=zGw gl _ t (Nat.lt_succ_self _)
theorem wKp (t:Tr) (x:IV) (hx:IsTr t x) (hw:wTr t ≤ 1099511627776) (st:ISt):ICall prog gl 14 [x] st (fun r st' => r = .raw (.bool (okT t && decide (t.steps ≤ 60))) ∧ st' = st):=by
 have hs:=fun st => wXz gl t x hx 60 ⟨by omega,by omega⟩ hw st
 obtain ⟨rule',tl',xl',tr',xr',op',fn',ta',xa',tb',xb',v',un',tu',xu',n',ts',xs',rfl⟩:=yKd hx
 refine iI func14 rfl rfl (by kernel_rfl) ?_
 simp -implicitDefEqProofs -dsimp only [go_sem,fits]
 refine (hs _).mono ?_
 rintro _ st ⟨⟨r,rfl,h1,h2,h3,h4⟩,rfl⟩
 have hd:decide ((0:Int) ≤ r) = (okT t && decide (t.steps ≤ 60)):=by
  rw [Bool.eq_iff_iff,dTe,h3,bAt,dTe]
  constructor <;> intro h <;> exact ⟨h.1,by have:=h.2; omega⟩
 simp -implicitDefEqProofs -dsimp only [go_sem,hd]
 exact yQ0 ⟨rfl,rfl⟩
end Go.Proofs.Tryz
namespace Go.Proofs.Tryz
open Go Go.Iv
mutual
theorem yUw:∀ t:Tm,t.size ≤ wTm t
 | .mk _ n us => by have:=zJ1 us; simp only [wTm,Tm.size]; omega
theorem zJ1:∀ l:List Tm,yQ7 l ≤ wTms l
 | [] => Nat.le_refl _
 | a :: l => by have:=yUw a; have:=zJ1 l; simp only [wTms,yQ7]; omega
end
mutual
theorem zX3:∀ f:Fm,f.size ≤ wFm f
 | .mk _ n us sub => by have:=zJ1 us; have:=yJp sub; simp only [wFm,Fm.size]; omega
theorem yJp:∀ l:List Fm,yQ8 l ≤ wFms l
 | [] => Nat.le_refl _
 | a :: l => by have:=zX3 a; have:=yJp l; simp only [wFms,yQ8]; omega
end
theorem yXx {s:Sq} {f:Fm} {u:Tm} {n:ByteArray} (h:xXa s f u n = true):wFms s.l + wFms s.r ≤ 300 ∧ wFm f ≤ 300 ∧ wTm u ≤ 300 ∧ n.size ≤ 100:=by
 unfold xXa at h
 simp only [bAt,dTe,Bool.not_eq_true',decide_eq_false_iff_not] at h
 omega
theorem xV9 {s:Sq} (h:wFms s.l + wFms s.r ≤ 300):yY4 s:=by
 have:=yJp s.l
 have:=yJp s.r
 exact ⟨fun f hf => by have:=yG9 hf; omega,fun f hf => by have:=yG9 hf; omega⟩
theorem yGb:∀ {l:List Tr} {a:Tr},okTs l = true → a ∈ l → okT a = true
 | b :: l,a,h,ha => by
  simp only [okTs,bAt] at h
  rcases List.mem_cons.1 ha with rfl | ha
  ·exact h.1
  ·exact yGb h.2 ha
theorem wJ8:∀ {t:Tr},okT t = true → zUl t
 | .mk rule s m u n sub,h => by
  simp only [okT,bAt] at h
  obtain ⟨h1,h2,h3,_⟩:=yXx h.1
  have:=zX3 m
  have:=yUw u
  refine ⟨xV9 h1,by omega,by omega,fun a ha => ?_⟩
  have:=yGb h.2 ha
  obtain ⟨rule',s',m',u',n',sub'⟩:=a
  simp only [okT,bAt] at this
  exact xV9 (yXx this.1).1
end Go.Proofs.Tryz
namespace Go.Proofs.Tryz
open Go Go.Iv
mutual
def NA:Tr → Prop
 | .mk _ s m u _ sub => yY4 s ∧ m.size ≤ 1000000 ∧ u.size ≤ 1000000 ∧ NAs sub
def NAs:List Tr → Prop
 | [] => True
 | a :: l => NA a ∧ NAs l
end
theorem vXz:∀ {t:Tr},NA t → yY4 t.sq
 | .mk _ _ _ _ _ _,h => by simp only [NA] at h; exact h.1
theorem xJg:∀ {l:List Tr} {a:Tr},NAs l → a ∈ l → NA a
 | b :: l,a,h,ha => by
  simp only [NAs] at h
  rcases List.mem_cons.1 ha with rfl | ha
  ·exact h.1
  ·exact xJg h.2 ha
theorem wGp:∀ {t:Tr},NA t → zUl t
 | .mk _ _ _ _ _ _,h => by
  simp only [NA] at h
  exact ⟨h.1,h.2.1,h.2.2.1,fun a ha => vXz (xJg h.2.2.2 ha)⟩
mutual
theorem wX3:∀ (p:List Nat) (t:Tr),NA t → ∀ q ∈ t.walk p,NA q.2
 | p,.mk rule s m u n sub,h,q,hq => by
  simp only [Tr.walk,List.mem_cons] at hq
  rcases hq with rfl | hq
  ·exact h
  ·simp only [NA] at h
   exact xVp p 0 sub h.2.2.2 q hq
theorem xVp:∀ (p:List Nat) (i:Nat) (l:List Tr),NAs l → ∀ q ∈ yZ1 p i l,NA q.2
 | _,_,[],_,q,hq => by cases hq
 | p,i,a :: l,h,q,hq => by
  simp only [NAs] at h
  simp only [yZ1,List.mem_append] at hq
  rcases hq with hq | hq
  ·exact wX3 _ a h.1 q hq
  ·exact xVp p (i + 1) l h.2 q hq
end
theorem vJ0 {t:Tr} (h:NA t) (hs:t.steps ≤ 1099511627776):wZ1 t:=⟨fun q hq => wGp (wX3 [] t h q hq),Nat.le_trans t.height_le_steps hs⟩
mutual
theorem xUm:∀ {t:Tr},okT t = true → NA t
 | .mk _ s m u n sub,h => by
  have hn:=wJ8 h
  simp only [okT,bAt] at h
  exact ⟨hn.1,hn.2.1,hn.2.2.1,xKh h.2⟩
theorem xKh:∀ {l:List Tr},okTs l = true → NAs l
 | [],_ => trivial
 | a :: l,h => by
  simp only [okTs,bAt] at h
  exact ⟨xUm h.1,xKh h.2⟩
end
end Go.Proofs.Tryz
