/- Walks: the reference of sequents (lyceum -/
import Derived.Test.YtckafgnkmnichaaGreatDoorQC
import Derived.Test.YtckafgnkmnichaaGreatDoorKS
import Derived.Test.YtckafgnkmnichaaGreatDoorKU
import Derived.Test.YtckafgnkmnichaaGreatDoorLE
import Derived.Test.YtckafgnkmnichaaGreatDoorKM
import Derived.Test.YtckafgnkmnichaaGreatDoorKG
import Derived.Test.YtckafgnkmnichaaGreatDoorKC
set_option linter.all false
namespace Go.Proofs.Tryz
open Go Go.Iv
set_option maxRecDepth 4000
variable (gl:Nat → Option IV)
mutual
def opsR (ca:Nat):Fm → Bool
 | .mk op _ us sub => (!decide (9 < op) && (!decide (7 < op) || decide (ca = 3)) && (!decide (op = 1) || !decide (0 < us.length) || decide (ca = 3))) && yUa ca sub
def yUa (ca:Nat):List Fm → Bool
 | [] => true
 | a :: l => opsR ca a && yUa ca l
end
theorem xWq {op:Nat} {n:ByteArray} {a b:Nat} (h:yZ6 op n a b = true):1 ≤ op ∧ (op ≠ 1 → a = 0):=by
 unfold yZ6 at h
 split at h
 all_goals (first | (simp only [bAt,dTe] at h; refine ⟨by decide,fun h1 => ?_⟩; first | exact absurd rfl h1 | exact h.1.2) | cases h)
mutual
theorem xUj (ca:Nat):∀ f:Fm,f.ok = true → opsR ca f = opsB ca f
 | .mk op n us sub,h => by
  simp only [Fm.ok,bAt] at h
  obtain ⟨h1,h2⟩:=xWq h.1.1
  have ih:=xKe ca sub h.2
  simp only [opsR,opsB,ih]
  congr 1
  have hus:us.isEmpty = decide (us.length = 0):=by cases us <;> simp
  rw [hus,Bool.eq_iff_iff]
  simp only [bAt,Bool.or_eq_true,Bool.not_eq_true',dTe,decide_eq_false_iff_not]
  by_cases hc:ca = 3
  ·simp only [hc,if_true,or_true,and_true,true_or]; omega
  ·simp only [hc,if_false,or_false,false_or]
   by_cases ho:op = 1
   ·simp only [ho,nTf,false_or]; omega
   ·have:=h2 ho
    simp only [ho,nFt,true_or,and_true,this]; omega
theorem xKe (ca:Nat):∀ l:List Fm,yKy l = true → yUa ca l = yYb ca l
 | [],_ => rfl
 | a :: l,h => by
  simp only [yKy,bAt] at h
  simp only [yUa,yYb,xUj ca a h.1,xKe ca l h.2]
end
theorem zZm (ca:Nat):∀ l m:List Fm,yUa ca (l ++ m) = (yUa ca l && yUa ca m)
 | [],m => by simp [yUa]
 | a :: l,m => by simp only [List.cons_append,yUa,zZm ca l m,Bool.and_assoc]
theorem xWp {ca:Nat} {l:List Fm} {k:Nat} {a:Fm} (h:l[k]? = some a):yUa ca (l.take (k + 1)) = (yUa ca (l.take k) && opsR ca a):=by
 rw [yQ4 h,zZm]; simp [yUa]
theorem wJ5 {ca:Nat} {l:List Fm} {a:Fm} (h:a ∈ l) (ha:opsR ca a = false):yUa ca l = false:=by
 induction l with
 | nil => cases h
 | cons b l ih =>
  simp only [yUa]
  rcases List.mem_cons.1 h with rfl | h
  ·rw [ha]; rfl
  ·rw [ih h,Bool.and_false]
def roC (ca:Nat) (f:Fm):Prop:=∀ (x:IV) (_:IsFm f x) (_:f.size ≤ 1099511627776) (st:ISt),ICall prog gl 157 [.raw (.int .u8 ca),x] st (fun r st' => r = .raw (.bool (opsR ca f)) ∧ st' = st)
theorem wJ4 (ca:Nat) (o:Nat) (n:ByteArray) (us:List Tm) (sub:List Fm) (IH:∀ a ∈ sub,roC gl ca a):roC gl ca (.mk o n us sub):=by
 intro x hx hs st
 obtain ⟨t1,x1,t2,x2,rfl,ho,e1,i1,e2,i2⟩:=hx.mk
 simp only [Fm.size] at hs
 have hlsz:=yZk sub
 have d9:decide ((9:Int) < ((o:Nat):Int)) = decide (9 < o):=by rw [decide_eq_decide]; omega
 have d7:decide ((7:Int) < ((o:Nat):Int)) = decide (7 < o):=by rw [decide_eq_decide]; omega
 have d1:decide (((o:Nat):Int) = 1) = decide (o = 1):=by rw [decide_eq_decide]; omega
 have d3:decide (((ca:Nat):Int) = 3) = decide (ca = 3):=by rw [decide_eq_decide]; omega
 have du:decide ((0:Int) < ((us.length:Nat):Int)) = decide (0 < us.length):=by rw [decide_eq_decide]; omega
 refine iI func157 rfl rfl (by kernel_rfl) ?_
 cases q9:decide (9 < o)
 case true =>
  simp -implicitDefEqProofs -dsimp only [go_sem,fits,d9,q9]
  intros
  exact yQ0 ⟨by simp only [opsR,q9,Bool.not_true,Bool.false_and],rfl⟩
 cases q7:decide (7 < o) <;> cases q3:decide (ca = 3) <;> cases q1:decide (o = 1) <;> cases qu:decide (0 < us.length)
 all_goals
  first
   | (simp -implicitDefEqProofs -dsimp only [go_sem,fits,i1.len,d9,d7,d1,d3,du,q9,q7,q3,q1,qu]
      intros
      refine LoopC.ctr sub.length (fun k fr st' ds => yUa ca (sub.take k) = true ∧ fr 0 = .iv (.raw (.int .u8 ca)) ∧ fr 3 = .box [.raw (.int .u8 o),.raw (.string n),.sl t1 x1,.sl t2 x2] ∧ fr 5 = .iv (.raw (.int .i64 k)) ∧ st' = st ∧ ds = []) ?_ ?_ ?_
      ·simp -implicitDefEqProofs -dsimp only [go_sem]
       exact ⟨rfl,rfl⟩
      ·rintro k fr st1 _ hlt ⟨hk,f0,f3,f5,rfl,rfl⟩
       obtain ⟨a,ha⟩:=yQ3 hlt
       obtain ⟨z,hkz,hzz⟩:=i2.get ha
       obtain ⟨h1,h2⟩:=yQv ha
       have hcall:=fun st => IH a (lMg ha) z hzz (by omega) st
       obtain ⟨o5,n5,t5,x5,t6,x6,rfl⟩:=hzz.agg
       simp -implicitDefEqProofs -dsimp only [go_sem,f0,f3,f5,i2.len,lt_i hlt,yQ2 e2,iNn,hkz,fits]
       intro _
       refine (hcall _).mono ?_
       rintro _ st2 ⟨rfl,rfl⟩
       cases hra:opsR ca a
       ·simp -implicitDefEqProofs -dsimp only [go_sem,f0,f3,f5,fits]
        exact yQ0 ⟨by simp only [opsR,wJ5 (lMg ha) hra,Bool.and_false],rfl⟩
       ·simp -implicitDefEqProofs -dsimp only [go_sem,f0,f3,f5,fits,yQ9 hlt (show sub.length ≤ 281474976710656 by omega)]
        rw [xWp ha,hk,hra]; rfl
      ·rintro fr st1 _ ⟨hk,f0,f3,f5,rfl,rfl⟩
       rw [lTl] at hk
       simp -implicitDefEqProofs -dsimp only [go_sem,f0,f3,f5,i2.len,yQm (nLi _)]
       intro _
       exact yQ0 ⟨by unfold opsR; rw [hk,q9,q7,q3,q1,qu]; rfl,rfl⟩
      done)
   | (simp -implicitDefEqProofs -dsimp only [go_sem,fits,i1.len,d9,d7,d1,d3,du,q9,q7,q3,q1,qu]
      intros
      exact yQ0 ⟨by unfold opsR; rw [q9,q7,q3,q1,qu]; rfl,rfl⟩)
theorem xUi (ca:Nat):∀ (k:Nat) (f:Fm),SizeOf.sizeOf f < k → roC gl ca f
 | 0,f,h => by omega
 | k + 1,.mk o n us sub,h => wJ4 gl ca o n us sub (fun a ha => xUi ca k a (by
   have:=lSm ha
   simp only [Fm.mk.sizeOf_spec] at h
   omega))
theorem xUa (ca:Nat) (f:Fm) (x:IV) (hx:IsFm f x) (hs:f.size ≤ 1099511627776) (st:ISt):ICall prog gl 104 [.raw (.int .u8 ca),x] st (fun r st' => r = .raw (.bool (fmB ca f)) ∧ st' = st):=by
 have h1:=fun st => zX4 gl f x hx hs st
 have h2:=fun st => xUi gl ca _ f (Nat.lt_succ_self _) x hx hs st
 unfold fmB
 obtain ⟨o5,n5,t5,x5,t6,x6,rfl⟩:=hx.agg
 refine iI func104 rfl rfl (by kernel_rfl) ?_
 simp -implicitDefEqProofs -dsimp only [go_sem,fits]
 refine (h1 _).mono ?_
 rintro _ st ⟨rfl,rfl⟩
 cases hr:f.right
 ·simp -implicitDefEqProofs -dsimp only [go_sem,fits]
  exact yQ0 ⟨rfl,rfl⟩
 simp -implicitDefEqProofs -dsimp only [go_sem,fits]
 refine (h2 _).mono ?_
 rintro _ st ⟨rfl,rfl⟩
 simp -implicitDefEqProofs -dsimp only [go_sem,fits]
 exact yQ0 ⟨by rw [xUj ca f (yJs hr).1],rfl⟩
theorem wKl {a b:Fm} (h:yKg a b = true):a.op = b.op:=by
 unfold yKg at h
 simp only [bAt] at h
 have:=yQp.1 h.2
 obtain ⟨o,n,us,sub⟩:=a
 obtain ⟨o',n',us',sub'⟩:=b
 simp only [dbF] at this
 split at this <;> split at this <;> simp only [NlF.mk.injEq] at this <;> exact this.1
theorem xQi (a b:Fm):eqF a b = yKg b a:=by
 unfold eqF
 rw [Bool.eq_iff_iff,bAt,dTe]
 have hs:∀ x y:Fm,yKg x y = true → yKg y x = true:=fun x y h => by
  unfold yKg at h ⊢
  simp only [bAt] at h ⊢
  exact ⟨⟨h.1.2,h.1.1⟩,yQp.2 (yQp.1 h.2).symm⟩
 exact ⟨fun h => hs _ _ h.2,fun h => ⟨(wKl h).symm,hs _ _ h⟩⟩
theorem xK5 (G:Gl gl) (l:List Fm) (tg:Tag) (xs:List IV) (htg:okEs tg 4) (hxs:IsFms l xs) (f:Fm) (y:IV) (hy:IsFm f y) (hl:fitL l) (hf:f.size ≤ 1000000) (hlen:l.length ≤ 1099511627776) (st:ISt) :
  ICall prog gl 83 [.sl tg xs,y] st (fun r st' => r = .raw (.bool (hasF l f)) ∧ st' = st):=by
 have hA:=fun g z hz (hg:g.size ≤ 1000000) st => xK7 gl g f z y hz hy (by omega) (by omega) st
 obtain ⟨o9,n9,t9,x9,t8,x8,rfl⟩:=hy.agg
 refine iI func83 rfl rfl (by kernel_rfl) ?_
 simp -implicitDefEqProofs -dsimp only [go_sem,fits]
 refine LoopC.ctr l.length (fun k fr st' ds => hasF (l.take k) f = false ∧ fr 0 = .iv (.sl tg xs) ∧ fr 3 = .box [.raw (.int .u8 o9),.raw (.string n9),.sl t9 x9,.sl t8 x8] ∧ fr 5 = .iv (.raw (.int .i64 k)) ∧ st' = st ∧ ds = []) ?_ ?_ ?_
 ·simp -implicitDefEqProofs -dsimp only [go_sem]
  exact ⟨rfl,rfl⟩
 ·rintro k fr st1 _ hlt ⟨hk,f0,f3,f5,rfl,rfl⟩
  obtain ⟨a,ha⟩:=yQ3 hlt
  have ham:=lMg ha
  obtain ⟨z,hkz,hzz⟩:=hxs.get ha
  have hcall:=fun st => hA a z hzz (hl a ham) st
  obtain ⟨o5,n5,t5,x5,t6,x6,rfl⟩:=hzz.agg
  simp -implicitDefEqProofs -dsimp only [go_sem,f0,f3,f5,hxs.len,lt_i hlt,yQ2 htg,iNn,hkz,fits]
  intro _
  refine (hcall _).mono ?_
  rintro _ st2 ⟨rfl,rfl⟩
  rw [← xQi]
  cases hra:eqF f a
  ·simp -implicitDefEqProofs -dsimp only [go_sem,f0,f3,f5,fits,yQ9 hlt (show l.length ≤ 281474976710656 by omega)]
   unfold hasF at hk ⊢
   rw [yQ4 ha,List.any_append,hk]
   simp [hra]
  ·simp -implicitDefEqProofs -dsimp only [go_sem,f0,f3,f5,fits]
   refine yQ0 ⟨?_,rfl⟩
   have:hasF l f = true:=xQ7.2 ⟨a,ham,hra⟩
   rw [this]
 ·rintro fr st1 _ ⟨hk,f0,f3,f5,rfl,rfl⟩
  rw [lTl] at hk
  simp -implicitDefEqProofs -dsimp only [go_sem,f0,f3,f5,hxs.len,yQm (nLi _)]
  intro _
  exact yQ0 ⟨by rw [hk],rfl⟩
theorem vQr (G:Gl gl) (l a b:List Fm) (tl ta tb:Tag) (xl xa xb:List IV) (e1:okEs tl 4) (i1:IsFms l xl) (e2:okEs ta 4) (i2:IsFms a xa) (e3:okEs tb 4) (i3:IsFms b xb) (hl:fitL l) (ha:fitL a) (hb:fitL b)
  (hlen:l.length ≤ 1099511627776 ∧ a.length ≤ 1099511627776 ∧ b.length ≤ 1099511627776) (st:ISt) :
  ICall prog gl 131 [.sl tl xl,.sl ta xa,.sl tb xb] st (fun r st' => r = .raw (.bool (allF l (a ++ b))) ∧ st' = st):=by
 have hHa:=fun f y hy hf st => xK5 gl G a ta xa e2 i2 f y hy ha hf hlen.2.1 st
 have hHb:=fun f y hy hf st => xK5 gl G b tb xb e3 i3 f y hy hb hf hlen.2.2 st
 have happ:∀ f,hasF (a ++ b) f = (hasF a f || hasF b f):=fun f => by unfold hasF; rw [List.any_append]
 refine iI func131 rfl rfl (by kernel_rfl) ?_
 simp -implicitDefEqProofs -dsimp only [go_sem,fits]
 refine LoopC.ctr l.length (fun k fr st' ds => allF (l.take k) (a ++ b) = true ∧ fr 0 = .iv (.sl tl xl) ∧ fr 1 = .iv (.sl ta xa) ∧ fr 2 = .iv (.sl tb xb) ∧ fr 7 = .iv (.raw (.int .i64 k)) ∧ st' = st ∧ ds = []) ?_ ?_ ?_
 ·simp -implicitDefEqProofs -dsimp only [go_sem]
  exact ⟨rfl,rfl⟩
 ·rintro k fr st1 _ hlt ⟨hk,f0,f1,f2,f7,rfl,rfl⟩
  obtain ⟨q,hq⟩:=yQ3 hlt
  have hqm:=lMg hq
  obtain ⟨z,hkz,hzz⟩:=i1.get hq
  have hca:=fun st => hHa q z hzz (hl q hqm) st
  have hcb:=fun st => hHb q z hzz (hl q hqm) st
  obtain ⟨o5,n5,t5,x5,t6,x6,rfl⟩:=hzz.agg
  have hno:(hasF a q || hasF b q) = false → allF l (a ++ b) = false:=fun h => by
   cases hh:allF l (a ++ b)
   ·rfl
   ·have:=wZl.1 hh q hqm
    rw [happ,h] at this; cases this
  have hyes:(hasF a q || hasF b q) = true → allF (l.take (k + 1)) (a ++ b) = true:=fun h => by
   rw [← happ] at h
   unfold allF at hk ⊢
   rw [yQ4 hq,List.all_append,hk]
   simp [h]
  simp -implicitDefEqProofs -dsimp only [go_sem,f0,f1,f2,f7,i1.len,lt_i hlt,yQ2 e1,iNn,hkz,fits]
  intro _
  refine (hca _).mono ?_
  rintro _ st2 ⟨rfl,rfl⟩
  cases hra:hasF a q
  ·rw [hra] at hno hyes
   simp -implicitDefEqProofs -dsimp only [go_sem,f0,f1,f2,f7,i1.len,lt_i hlt,yQ2 e1,iNn,hkz,fits]
   intros
   refine (hcb _).mono ?_
   rintro _ st2 ⟨rfl,rfl⟩
   cases hrb:hasF b q
   ·rw [hrb] at hno
    simp -implicitDefEqProofs -dsimp only [go_sem,f0,f1,f2,f7,fits]
    exact yQ0 ⟨by rw [hno rfl],rfl⟩
   ·rw [hrb] at hyes
    simp -implicitDefEqProofs -dsimp only [go_sem,f0,f1,f2,f7,fits,yQ9 hlt (show l.length ≤ 281474976710656 by omega)]
    exact hyes rfl
  ·rw [hra] at hyes
   simp -implicitDefEqProofs -dsimp only [go_sem,f0,f1,f2,f7,fits,yQ9 hlt (show l.length ≤ 281474976710656 by omega)]
   exact hyes rfl
 ·rintro fr st1 _ ⟨hk,f0,f1,f2,f7,rfl,rfl⟩
  rw [lTl] at hk
  simp -implicitDefEqProofs -dsimp only [go_sem,f0,f1,f2,f7,i1.len,yQm (nLi _)]
  intro _
  exact yQ0 ⟨by rw [hk],rfl⟩
theorem yJk (t:Tag) (xs:List IV) (t':Tag) (ys:List IV) (st:ISt):ICall prog gl 105 [.sl t xs,.sl t' ys] st (fun r st' => r = .agg [.sl t xs,.sl t' ys] ∧ st' = st):=by
 refine iI func105 rfl rfl (by kernel_rfl) ?_
 simp -implicitDefEqProofs -dsimp only [go_sem,fits]
 exact yQ0 ⟨rfl,rfl⟩
def yKn (ca rule:Nat) (x:IV):Prop:=match rowS ca rule with
 | some r => x = .tup [.raw (.int .u8 r.op),.raw (.bool r.left),.raw (.bool r.right),.raw (.bool true)]
 | none => ∃ (o:Int) (a b:Bool),x = .tup [.raw (.int .u8 o),.raw (.bool a),.raw (.bool b),.raw (.bool false)]
end Go.Proofs.Tryz
namespace Go.Proofs.Tryz
open Go Go.Iv
section
variable (nm:ByteArray) (g:Fm)
mutual
def repF:Fm → Fm
 | .mk o n us sub => if o = 1 ∧ n = nm ∧ us.length = 0 then g else .mk o n us (wXr sub)
def wXr:List Fm → List Fm
 | [] => []
 | a :: l => repF a :: wXr l
end
def repS (s:Sq):Sq:=⟨wXr nm g s.l,wXr nm g s.r⟩
mutual
def repT:Tr → Tr
 | .mk rule s f u n sub => .mk rule (repS nm g s) (repF nm g f) u n (vQn sub)
def vQn:List Tr → List Tr
 | [] => []
 | a :: l => repT a :: vQn l
end
end
section
variable {nm:ByteArray} {g:Fm} {ca:Nat}
end
theorem wYe {op:Nat} {n:ByteArray} {us:List Tm} {sub:List Fm} (h:(Fm.mk op n us sub).ok = true):(op = 3 ∨ op = 8 ∨ op = 9 → sub.length = 1) ∧ (op = 4 ∨ op = 5 ∨ op = 6 ∨ op = 7 → sub.length = 2):=by
 simp only [Fm.ok,bAt] at h
 have h:=h.1.1
 constructor
 ·rintro (rfl | rfl | rfl) <;> simp only [yZ6,bAt,dTe] at h <;> exact h.2
 ·rintro (rfl | rfl | rfl | rfl) <;> simp only [yZ6,bAt,dTe] at h <;> exact h.2
section
variable {nm:ByteArray} {g:Fm} {ca:Nat}
mutual
def yU5:Tr → Bool
 | .mk _ _ _ u _ sub => decide (u.size ≤ 900000) && zX2 sub
def zX2:List Tr → Bool
 | [] => true
 | a :: l => yU5 a && zX2 l
end
end
theorem zUe (s:Sq):∀ (ad:List Sq) (ts:List Tr),yXn s ad ts = true → ∀ (i:Nat) (m:Sq) (t:Tr),ad[i]? = some m → ts[i]? = some t → yJm t.sq (s.plus m) = true
 | [],_,_,i,m,t,h,_ => by simp at h
 | _ :: _,[],_,i,m,t,_,h => by simp at h
 | a :: ad,b :: ts,h,i,m,t,hm,ht => by
  simp only [yXn,bAt] at h
  cases i with
  | zero =>
   simp only [List.getElem?_cons_zero,Option.some.injEq] at hm ht
   subst hm; subst ht
   exact h.1
  | succ i => exact zUe s ad ts h.2 i m t (by simpa using hm) (by simpa using ht)
end Go.Proofs.Tryz
namespace Go.Proofs.Tryz
open Go Go.Iv
set_option maxRecDepth 4000
variable (gl:Nat → Option IV)
theorem xG0 (ca rule:Nat) (st:ISt):ICall prog gl 103 [.raw (.int .u8 ca),.raw (.int .u8 rule)] st (fun r st' => yKn ca rule r ∧ st' = st):=by
 have d3:decide (((ca:Nat):Int) = 3) = decide (ca = 3):=by rw [decide_eq_decide]; omega
 have d2:decide (((ca:Nat):Int) = 2) = decide (ca = 2):=by rw [decide_eq_decide]; omega
 refine iI func103 rfl rfl (by kernel_rfl) ?_
 by_cases h1:rule = 1
 ·have dt:decide (((rule:Nat):Int) = 1) = true:=dEt (by omega)
  have ds:∀ j:Int,j ≠ 1 → decide (((rule:Nat):Int) = j) = false:=fun j hj => dEf (by omega)
  simp -implicitDefEqProofs -dsimp only [go_sem,dt,ds,d3,d2,Int.reduceNe,ne_eq,nFt,nTf,Int.reduceEq]
  refine yQ0 ⟨?_,rfl⟩
  have:rowS ca rule = some ⟨true,true,0,0⟩:=by rw [h1]; unfold rowS rowK; simp
  unfold yKn
  rw [this]
  rfl
 by_cases h2:rule = 2
 ·have dt:decide (((rule:Nat):Int) = 2) = true:=dEt (by omega)
  have ds:∀ j:Int,j ≠ 2 → decide (((rule:Nat):Int) = j) = false:=fun j hj => dEf (by omega)
  simp -implicitDefEqProofs -dsimp only [go_sem,dt,ds,d3,d2,Int.reduceNe,ne_eq,nFt,nTf,Int.reduceEq]
  refine yQ0 ⟨?_,rfl⟩
  have:rowS ca rule = some ⟨true,false,2,0⟩:=by rw [h2]; unfold rowS rowK; simp
  unfold yKn
  rw [this]
  rfl
 by_cases h3:rule = 3
 ·have dt:decide (((rule:Nat):Int) = 3) = true:=dEt (by omega)
  have ds:∀ j:Int,j ≠ 3 → decide (((rule:Nat):Int) = j) = false:=fun j hj => dEf (by omega)
  simp -implicitDefEqProofs -dsimp only [go_sem,dt,ds,d3,d2,Int.reduceNe,ne_eq,nFt,nTf,Int.reduceEq]
  refine yQ0 ⟨?_,rfl⟩
  have:rowS ca rule = some ⟨true,false,3,0⟩:=by rw [h3]; unfold rowS rowK; simp
  unfold yKn
  rw [this]
  rfl
 by_cases h4:rule = 4
 ·have dt:decide (((rule:Nat):Int) = 4) = true:=dEt (by omega)
  have ds:∀ j:Int,j ≠ 4 → decide (((rule:Nat):Int) = j) = false:=fun j hj => dEf (by omega)
  simp -implicitDefEqProofs -dsimp only [go_sem,dt,ds,d3,d2,Int.reduceNe,ne_eq,nFt,nTf,Int.reduceEq]
  refine yQ0 ⟨?_,rfl⟩
  have:rowS ca rule = some ⟨false,true,3,0⟩:=by rw [h4]; unfold rowS rowK; simp
  unfold yKn
  rw [this]
  rfl
 by_cases h5:rule = 5
 ·have dt:decide (((rule:Nat):Int) = 5) = true:=dEt (by omega)
  have ds:∀ j:Int,j ≠ 5 → decide (((rule:Nat):Int) = j) = false:=fun j hj => dEf (by omega)
  simp -implicitDefEqProofs -dsimp only [go_sem,dt,ds,d3,d2,Int.reduceNe,ne_eq,nFt,nTf,Int.reduceEq]
  refine yQ0 ⟨?_,rfl⟩
  have:rowS ca rule = some ⟨true,false,4,0⟩:=by rw [h5]; unfold rowS rowK; simp
  unfold yKn
  rw [this]
  rfl
 by_cases h6:rule = 6
 ·have dt:decide (((rule:Nat):Int) = 6) = true:=dEt (by omega)
  have ds:∀ j:Int,j ≠ 6 → decide (((rule:Nat):Int) = j) = false:=fun j hj => dEf (by omega)
  simp -implicitDefEqProofs -dsimp only [go_sem,dt,ds,d3,d2,Int.reduceNe,ne_eq,nFt,nTf,Int.reduceEq]
  refine yQ0 ⟨?_,rfl⟩
  have:rowS ca rule = some ⟨false,true,4,0⟩:=by rw [h6]; unfold rowS rowK; simp
  unfold yKn
  rw [this]
  rfl
 by_cases h7:rule = 7
 ·have dt:decide (((rule:Nat):Int) = 7) = true:=dEt (by omega)
  have ds:∀ j:Int,j ≠ 7 → decide (((rule:Nat):Int) = j) = false:=fun j hj => dEf (by omega)
  simp -implicitDefEqProofs -dsimp only [go_sem,dt,ds,d3,d2,Int.reduceNe,ne_eq,nFt,nTf,Int.reduceEq]
  refine yQ0 ⟨?_,rfl⟩
  have:rowS ca rule = some ⟨true,false,5,0⟩:=by rw [h7]; unfold rowS rowK; simp
  unfold yKn
  rw [this]
  rfl
 by_cases h8:rule = 8
 ·have dt:decide (((rule:Nat):Int) = 8) = true:=dEt (by omega)
  have ds:∀ j:Int,j ≠ 8 → decide (((rule:Nat):Int) = j) = false:=fun j hj => dEf (by omega)
  simp -implicitDefEqProofs -dsimp only [go_sem,dt,ds,d3,d2,Int.reduceNe,ne_eq,nFt,nTf,Int.reduceEq]
  refine yQ0 ⟨?_,rfl⟩
  have:rowS ca rule = some ⟨false,true,5,0⟩:=by rw [h8]; unfold rowS rowK; simp
  unfold yKn
  rw [this]
  rfl
 by_cases h9:rule = 9
 ·have dt:decide (((rule:Nat):Int) = 9) = true:=dEt (by omega)
  have ds:∀ j:Int,j ≠ 9 → decide (((rule:Nat):Int) = j) = false:=fun j hj => dEf (by omega)
  simp -implicitDefEqProofs -dsimp only [go_sem,dt,ds,d3,d2,Int.reduceNe,ne_eq,nFt,nTf,Int.reduceEq]
  refine yQ0 ⟨?_,rfl⟩
  have:rowS ca rule = some ⟨true,false,6,0⟩:=by rw [h9]; unfold rowS rowK; simp
  unfold yKn
  rw [this]
  rfl
 by_cases h10:rule = 10
 ·have dt:decide (((rule:Nat):Int) = 10) = true:=dEt (by omega)
  have ds:∀ j:Int,j ≠ 10 → decide (((rule:Nat):Int) = j) = false:=fun j hj => dEf (by omega)
  simp -implicitDefEqProofs -dsimp only [go_sem,dt,ds,d3,d2,Int.reduceNe,ne_eq,nFt,nTf,Int.reduceEq]
  refine yQ0 ⟨?_,rfl⟩
  have:rowS ca rule = some ⟨false,true,6,0⟩:=by rw [h10]; unfold rowS rowK; simp
  unfold yKn
  rw [this]
  rfl
 by_cases h11:rule = 11
 ·have dt:decide (((rule:Nat):Int) = 11) = true:=dEt (by omega)
  have ds:∀ j:Int,j ≠ 11 → decide (((rule:Nat):Int) = j) = false:=fun j hj => dEf (by omega)
  simp -implicitDefEqProofs -dsimp only [go_sem,dt,ds,d3,d2,Int.reduceNe,ne_eq,nFt,nTf,Int.reduceEq]
  refine yQ0 ⟨?_,rfl⟩
  have:rowS ca rule = some ⟨true,false,7,0⟩:=by rw [h11]; unfold rowS rowK; simp
  unfold yKn
  rw [this]
  rfl
 by_cases h12:rule = 12
 ·have dt:decide (((rule:Nat):Int) = 12) = true:=dEt (by omega)
  have ds:∀ j:Int,j ≠ 12 → decide (((rule:Nat):Int) = j) = false:=fun j hj => dEf (by omega)
  simp -implicitDefEqProofs -dsimp only [go_sem,dt,ds,d3,d2,Int.reduceNe,ne_eq,nFt,nTf,Int.reduceEq]
  refine yQ0 ⟨?_,rfl⟩
  have:rowS ca rule = some ⟨false,true,7,0⟩:=by rw [h12]; unfold rowS rowK; simp
  unfold yKn
  rw [this]
  rfl
 by_cases h13:rule = 13
 ·have dt:decide (((rule:Nat):Int) = 13) = true:=dEt (by omega)
  have ds:∀ j:Int,j ≠ 13 → decide (((rule:Nat):Int) = j) = false:=fun j hj => dEf (by omega)
  by_cases hc:ca = 3
  ·have dc:decide (((ca:Nat):Int) = 3) = true:=dEt (by omega)
   simp -implicitDefEqProofs -dsimp only [go_sem,dt,ds,dc,Int.reduceNe,ne_eq,nFt,nTf,Int.reduceEq]
   refine yQ0 ⟨?_,rfl⟩
   have:rowS ca rule = some ⟨true,false,8,1⟩:=by rw [h13,hc]; rfl
   unfold yKn
   rw [this]
   rfl
  ·have dc:∀ j:Int,((ca:Nat):Int) ≠ j → decide (((ca:Nat):Int) = j) = false:=fun j hj => dEf hj
   have hc':((ca:Nat):Int) ≠ 3:=by omega
   simp -implicitDefEqProofs -dsimp only [go_sem,dt,ds,dc _ hc',Int.reduceNe,ne_eq,nFt,nTf,Int.reduceEq]
   refine yQ0 ⟨?_,rfl⟩
   have:rowS ca rule = none:=by
    rw [h13]
    unfold rowS rowK
    simp [hc]
   unfold yKn
   rw [this]
   exact ⟨_,_,_,rfl⟩
 by_cases h14:rule = 14
 ·have dt:decide (((rule:Nat):Int) = 14) = true:=dEt (by omega)
  have ds:∀ j:Int,j ≠ 14 → decide (((rule:Nat):Int) = j) = false:=fun j hj => dEf (by omega)
  by_cases hc:ca = 3
  ·have dc:decide (((ca:Nat):Int) = 3) = true:=dEt (by omega)
   simp -implicitDefEqProofs -dsimp only [go_sem,dt,ds,dc,Int.reduceNe,ne_eq,nFt,nTf,Int.reduceEq]
   refine yQ0 ⟨?_,rfl⟩
   have:rowS ca rule = some ⟨false,true,8,2⟩:=by rw [h14,hc]; rfl
   unfold yKn
   rw [this]
   rfl
  ·have dc:∀ j:Int,((ca:Nat):Int) ≠ j → decide (((ca:Nat):Int) = j) = false:=fun j hj => dEf hj
   have hc':((ca:Nat):Int) ≠ 3:=by omega
   simp -implicitDefEqProofs -dsimp only [go_sem,dt,ds,dc _ hc',Int.reduceNe,ne_eq,nFt,nTf,Int.reduceEq]
   refine yQ0 ⟨?_,rfl⟩
   have:rowS ca rule = none:=by
    rw [h14]
    unfold rowS rowK
    simp [hc]
   unfold yKn
   rw [this]
   exact ⟨_,_,_,rfl⟩
 by_cases h15:rule = 15
 ·have dt:decide (((rule:Nat):Int) = 15) = true:=dEt (by omega)
  have ds:∀ j:Int,j ≠ 15 → decide (((rule:Nat):Int) = j) = false:=fun j hj => dEf (by omega)
  by_cases hc:ca = 3
  ·have dc:decide (((ca:Nat):Int) = 3) = true:=dEt (by omega)
   simp -implicitDefEqProofs -dsimp only [go_sem,dt,ds,dc,Int.reduceNe,ne_eq,nFt,nTf,Int.reduceEq]
   refine yQ0 ⟨?_,rfl⟩
   have:rowS ca rule = some ⟨true,false,9,2⟩:=by rw [h15,hc]; rfl
   unfold yKn
   rw [this]
   rfl
  ·have dc:∀ j:Int,((ca:Nat):Int) ≠ j → decide (((ca:Nat):Int) = j) = false:=fun j hj => dEf hj
   have hc':((ca:Nat):Int) ≠ 3:=by omega
   simp -implicitDefEqProofs -dsimp only [go_sem,dt,ds,dc _ hc',Int.reduceNe,ne_eq,nFt,nTf,Int.reduceEq]
   refine yQ0 ⟨?_,rfl⟩
   have:rowS ca rule = none:=by
    rw [h15]
    unfold rowS rowK
    simp [hc]
   unfold yKn
   rw [this]
   exact ⟨_,_,_,rfl⟩
 by_cases h16:rule = 16
 ·have dt:decide (((rule:Nat):Int) = 16) = true:=dEt (by omega)
  have ds:∀ j:Int,j ≠ 16 → decide (((rule:Nat):Int) = j) = false:=fun j hj => dEf (by omega)
  by_cases hc:ca = 3
  ·have dc:decide (((ca:Nat):Int) = 3) = true:=dEt (by omega)
   simp -implicitDefEqProofs -dsimp only [go_sem,dt,ds,dc,Int.reduceNe,ne_eq,nFt,nTf,Int.reduceEq]
   refine yQ0 ⟨?_,rfl⟩
   have:rowS ca rule = some ⟨false,true,9,1⟩:=by rw [h16,hc]; rfl
   unfold yKn
   rw [this]
   rfl
  ·have dc:∀ j:Int,((ca:Nat):Int) ≠ j → decide (((ca:Nat):Int) = j) = false:=fun j hj => dEf hj
   have hc':((ca:Nat):Int) ≠ 3:=by omega
   simp -implicitDefEqProofs -dsimp only [go_sem,dt,ds,dc _ hc',Int.reduceNe,ne_eq,nFt,nTf,Int.reduceEq]
   refine yQ0 ⟨?_,rfl⟩
   have:rowS ca rule = none:=by
    rw [h16]
    unfold rowS rowK
    simp [hc]
   unfold yKn
   rw [this]
   exact ⟨_,_,_,rfl⟩
 by_cases h17:rule = 17
 ·have dt:decide (((rule:Nat):Int) = 17) = true:=dEt (by omega)
  have ds:∀ j:Int,j ≠ 17 → decide (((rule:Nat):Int) = j) = false:=fun j hj => dEf (by omega)
  simp -implicitDefEqProofs -dsimp only [go_sem,dt,ds,d3,d2,Int.reduceNe,ne_eq,nFt,nTf,Int.reduceEq]
  refine yQ0 ⟨?_,rfl⟩
  have:rowS ca rule = some ⟨false,false,0,0⟩:=by rw [h17]; unfold rowS rowK; simp
  unfold yKn
  rw [this]
  rfl
 by_cases h18:rule = 18
 ·have dt:decide (((rule:Nat):Int) = 18) = true:=dEt (by omega)
  have ds:∀ j:Int,j ≠ 18 → decide (((rule:Nat):Int) = j) = false:=fun j hj => dEf (by omega)
  by_cases hc:ca = 2
  ·have dc:decide (((ca:Nat):Int) = 2) = true:=dEt (by omega)
   simp -implicitDefEqProofs -dsimp only [go_sem,dt,ds,dc,Int.reduceNe,ne_eq,nFt,nTf,Int.reduceEq]
   refine yQ0 ⟨?_,rfl⟩
   have:rowS ca rule = some ⟨false,true,5,0⟩:=by rw [h18,hc]; rfl
   unfold yKn
   rw [this]
   rfl
  ·have dc:∀ j:Int,((ca:Nat):Int) ≠ j → decide (((ca:Nat):Int) = j) = false:=fun j hj => dEf hj
   have hc':((ca:Nat):Int) ≠ 2:=by omega
   simp -implicitDefEqProofs -dsimp only [go_sem,dt,ds,dc _ hc',Int.reduceNe,ne_eq,nFt,nTf,Int.reduceEq]
   refine yQ0 ⟨?_,rfl⟩
   have:rowS ca rule = none:=by
    rw [h18]
    unfold rowS rowK
    simp [hc]
   unfold yKn
   rw [this]
   exact ⟨_,_,_,rfl⟩
 have ds:∀ j:Int,1 ≤ j → j ≤ 18 → decide (((rule:Nat):Int) = j) = false:=fun j h1 h2 => dEf (by omega)
 simp -implicitDefEqProofs -dsimp only [go_sem,ds 1 (by decide) (by decide),ds 2 (by decide) (by decide),ds 3 (by decide) (by decide),ds 4 (by decide) (by decide),ds 5 (by decide) (by decide),ds 6 (by decide) (by decide),ds 7 (by decide) (by decide),ds 8 (by decide) (by decide),ds 9 (by decide) (by decide),ds 10 (by decide) (by decide),ds 11 (by decide) (by decide),ds 12 (by decide) (by decide),ds 13 (by decide) (by decide),ds 14 (by decide) (by decide),ds 15 (by decide) (by decide),ds 16 (by decide) (by decide),ds 17 (by decide) (by decide),ds 18 (by decide) (by decide)]
 refine yQ0 ⟨?_,rfl⟩
 have:rowS ca rule = none:=by
  unfold rowS rowK
  simp [h1,h2,h3,h4,h5,h6,h7,h8,h9,h10,h11,h12,h13,h14,h15,h16,h17,h18]
 unfold yKn
 rw [this]
 exact ⟨_,_,_,rfl⟩
theorem xU5 (l:List Fm) (tg:Tag) (xs:List IV) (htg:okEs tg 4) (hxs:IsFms l xs) (n:ByteArray) (hl:fitL l) (hlen:l.length ≤ 1099511627776) (st:ISt) :
  ICall prog gl 198 [.sl tg xs,.raw (.string n)] st (fun r st' => r = .raw (.bool (l.any fun f => memB (frF f) n)) ∧ st' = st):=by
 refine iI func198 rfl rfl (by kernel_rfl) ?_
 simp -implicitDefEqProofs -dsimp only [go_sem,fits]
 refine LoopC.ctr l.length (fun k fr st' ds => ((l.take k).any fun f => memB (frF f) n) = false ∧ fr 0 = .iv (.sl tg xs) ∧ fr 1 = .iv (.raw (.string n)) ∧ fr 5 = .iv (.raw (.int .i64 k)) ∧ st' = st ∧ ds = []) ?_ ?_ ?_
 ·simp -implicitDefEqProofs -dsimp only [go_sem]
  exact ⟨rfl,rfl⟩
 ·rintro k fr st1 _ hlt ⟨hk,f0,f1,f5,rfl,rfl⟩
  obtain ⟨a,ha⟩:=yQ3 hlt
  have ham:=lMg ha
  obtain ⟨z,hkz,hzz⟩:=hxs.get ha
  have hsz:=hl a ham
  have hcall:=fun st => xU9 gl a z hzz (by omega) st
  obtain ⟨o5,n5,t5,x5,t6,x6,rfl⟩:=hzz.agg
  simp -implicitDefEqProofs -dsimp only [go_sem,f0,f1,f5,hxs.len,lt_i hlt,yQ2 htg,iNn,hkz,fits]
  intro _
  refine (hcall _).mono ?_
  rintro _ st2 ⟨tg5,m,rfl,htg5,hso,rfl⟩
  have hml:m.length ≤ 140737488355328:=by
   have h1:=zQw hso.1 (fun x hx => (hso.2 x).1 hx)
   have h2:=zK0 a
   omega
  have hHas:=fun st => xYt gl tg5 m n htg5 hml st
  simp -implicitDefEqProofs -dsimp only [go_sem,f0,f1,f5,fits]
  refine (hHas _).mono ?_
  rintro _ st2 ⟨rfl,rfl⟩
  have he:hasB m n = memB (frF a) n:=by
   rw [Bool.eq_iff_iff,yX4,← hso.2]
   exact zJu
  rw [he]
  cases hra:memB (frF a) n
  ·simp -implicitDefEqProofs -dsimp only [go_sem,f0,f1,f5,fits,yQ9 hlt (show l.length ≤ 281474976710656 by omega)]
   rw [yQ4 ha,List.any_append,hk]
   simp [hra]
  ·simp -implicitDefEqProofs -dsimp only [go_sem,f0,f1,f5,fits]
   refine yQ0 ⟨?_,rfl⟩
   have:(l.any fun f => memB (frF f) n) = true:=List.any_eq_true.2 ⟨a,ham,hra⟩
   rw [this]
 ·rintro fr st1 _ ⟨hk,f0,f1,f5,rfl,rfl⟩
  rw [lTl] at hk
  simp -implicitDefEqProofs -dsimp only [go_sem,f0,f1,f5,hxs.len,yQm (nLi _)]
  intro _
  exact yQ0 ⟨by rw [hk],rfl⟩
theorem xYf (r:List Fm):zZ7 r = r.all (yKg ((r[0]?).getD fm0)):=by
 cases r with
 | nil => rfl
 | cons a l =>
  show ((a :: l).all fun f => eqF f a) = (a :: l).all (yKg a)
  congr 1
  funext f
  exact xQi f a
def qV (ca:Nat) (hd f:Fm):Prop:=fmB ca f = true ∧ (ca = 2 → yKg hd f = true)
theorem yG5 {ca:Nat} {s:Sq}:yX8 ca s = true ↔ yXi ca = true ∧ s.l.length ≤ 64 ∧ s.r.length ≤ 64 ∧ (∀ f ∈ s.l,fmB ca f = true) ∧ ∀ f ∈ s.r,qV ca ((s.r[0]?).getD fm0) f:=by
 unfold yX8 qV
 rw [xYf]
 simp only [bAt,Bool.or_eq_true,dTe,List.all_eq_true]
 constructor
 ·rintro ⟨⟨⟨⟨⟨h1,h2⟩,h3⟩,h4⟩,h5⟩,h6⟩
  exact ⟨h1,h2,h3,h4,fun f hf => ⟨h5 f hf,fun hc => h6.resolve_left (fun h => h hc) f hf⟩⟩
 ·rintro ⟨h1,h2,h3,h4,h5⟩
  refine ⟨⟨⟨⟨⟨h1,h2⟩,h3⟩,h4⟩,fun f hf => (h5 f hf).1⟩,?_⟩
  by_cases hc:ca = 2
  ·exact .inr fun f hf => (h5 f hf).2 hc
  ·exact .inl hc
theorem yVc {ca:Nat} {s:Sq} (h:¬ (yXi ca = true ∧ s.l.length ≤ 64 ∧ s.r.length ≤ 64 ∧ (∀ f ∈ s.l,fmB ca f = true) ∧ ∀ f ∈ s.r,qV ca ((s.r[0]?).getD fm0) f)):yX8 ca s = false:=by
 cases hv:yX8 ca s
 ·rfl
 ·exact absurd (yG5.1 hv) h
set_option maxHeartbeats 1000000 in
theorem wXv (ca:Nat) (s:Sq) (x:IV) (hx:IsSq s x) (hs:yY4 s) (st:ISt):ICall prog gl 82 [.raw (.int .u8 ca),x] st (fun r st' => r = .raw (.bool (yX8 ca s)) ∧ st' = st):=by
 have hF:=fun f z hz (hf:f.size ≤ 1000000) st => xUa gl ca f z hz (by omega) st
 have hAl:=fun f g z w hz hw (hf:f.size ≤ 1000000) (hg:g.size ≤ 1000000) st => xK7 gl f g z w hz hw hf hg st
 obtain ⟨l,r⟩:=s
 obtain ⟨t1,x1,t2,x2,rfl,e1,i1,e2,i2⟩:=hx
 simp only [yY4] at hs i1 i2
 obtain ⟨hl,hr⟩:=hs
 have k1:decide (((ca:Nat):Int) < 1) = decide (ca < 1):=by rw [decide_eq_decide]; omega
 have k2:decide ((3:Int) < ((ca:Nat):Int)) = decide (3 < ca):=by rw [decide_eq_decide]; omega
 have k3:decide ((64:Int) < ((l.length:Nat):Int)) = decide (64 < l.length):=by rw [decide_eq_decide]; omega
 have k4:decide ((64:Int) < ((r.length:Nat):Int)) = decide (64 < r.length):=by rw [decide_eq_decide]; omega
 have k5:decide (((ca:Nat):Int) = 2) = decide (ca = 2):=by rw [decide_eq_decide]; omega
 have hkn:∀ h:ca < 1 ∨ 3 < ca,¬ yXi ca = true:=fun h hk => by
  simp only [yXi,bAt,dTe] at hk; omega
 refine iI func82 rfl rfl (by kernel_rfl) ?_
 cases q1:decide (ca < 1)
 case true =>
  simp -implicitDefEqProofs -dsimp only [go_sem,fits,k1,q1]
  intros
  exact yQ0 ⟨by rw [yVc fun h => hkn (.inl (of_decide_eq_true q1)) h.1],rfl⟩
 cases q2:decide (3 < ca)
 case true =>
  simp -implicitDefEqProofs -dsimp only [go_sem,fits,k1,k2,q1,q2]
  intros
  exact yQ0 ⟨by rw [yVc fun h => hkn (.inr (of_decide_eq_true q2)) h.1],rfl⟩
 cases q3:decide (64 < l.length)
 case true =>
  simp -implicitDefEqProofs -dsimp only [go_sem,fits,k1,k2,k3,q1,q2,q3,i1.len]
  intros
  exact yQ0 ⟨by rw [yVc fun h => by have:=h.2.1; have:=of_decide_eq_true q3; simp only at *; omega],rfl⟩
 cases q4:decide (64 < r.length)
 case true =>
  simp -implicitDefEqProofs -dsimp only [go_sem,fits,k1,k2,k3,k4,q1,q2,q3,q4,i1.len,i2.len]
  intros
  exact yQ0 ⟨by rw [yVc fun h => by have:=h.2.2.1; have:=of_decide_eq_true q4; simp only at *; omega],rfl⟩
 have hk:yXi ca = true:=by
  have:=of_decide_eq_false q1
  have:=of_decide_eq_false q2
  simp only [yXi,bAt,dTe]; omega
 have hll:l.length ≤ 64:=by have:=of_decide_eq_false q3; omega
 have hlr:r.length ≤ 64:=by have:=of_decide_eq_false q4; omega
 simp -implicitDefEqProofs -dsimp only [go_sem,fits,k1,k2,k3,k4,q1,q2,q3,q4,i1.len,i2.len]
 intros
 refine LoopC.ctr l.length (fun k fr st' ds => (∀ f ∈ l.take k,fmB ca f = true) ∧ fr 0 = .iv (.raw (.int .u8 ca)) ∧ fr 3 = .box [.sl t1 x1,.sl t2 x2] ∧ fr 5 = .iv (.raw (.int .i64 k)) ∧ st' = st ∧ ds = []) ?_ ?_ ?_
 ·simp -implicitDefEqProofs -dsimp only [go_sem]
  exact ⟨fun f hf => by simp at hf,rfl⟩
 ·rintro k fr st1 _ hlt ⟨hkk,f0,f3,f5,rfl,rfl⟩
  obtain ⟨a,ha⟩:=yQ3 hlt
  have ham:=lMg ha
  obtain ⟨z,hkz,hzz⟩:=i1.get ha
  have hcall:=fun st => hF a z hzz (hl a ham) st
  obtain ⟨o5,n5,t5,x5,t6,x6,rfl⟩:=hzz.agg
  simp -implicitDefEqProofs -dsimp only [go_sem,f0,f3,f5,i1.len,lt_i hlt,yQ2 e1,iNn,hkz,fits]
  intro _
  refine (hcall _).mono ?_
  rintro _ st2 ⟨rfl,rfl⟩
  cases hra:fmB ca a
  ·simp -implicitDefEqProofs -dsimp only [go_sem,f0,f3,f5,fits]
   exact yQ0 ⟨by rw [yVc fun h => by have:=h.2.2.2.1 a ham; rw [hra] at this; cases this],rfl⟩
  ·simp -implicitDefEqProofs -dsimp only [go_sem,f0,f3,f5,fits,yQ9 hlt (show l.length ≤ 281474976710656 by omega)]
   intro f hf
   rw [yQ4 ha] at hf
   rcases List.mem_append.1 hf with hf | hf
   ·exact hkk f hf
   ·rw [List.mem_singleton.1 hf]; exact hra
 ·rintro fr st1 _ ⟨hkl,f0,f3,f5,rfl,rfl⟩
  rw [lTl] at hkl
  simp -implicitDefEqProofs -dsimp only [go_sem,f0,f3,f5,i1.len,yQm (nLi _)]
  intro _
  refine LoopC.ctr r.length (fun k fr st' ds => (∀ f ∈ r.take k,qV ca ((r[0]?).getD fm0) f) ∧ fr 0 = .iv (.raw (.int .u8 ca)) ∧ fr 3 = .box [.sl t1 x1,.sl t2 x2] ∧ fr 6 = .iv (.raw (.int .i64 k)) ∧ st' = st1 ∧ ds = []) ?_ ?_ ?_
  ·simp -implicitDefEqProofs -dsimp only [go_sem,f0,f3]
   exact ⟨fun f hf => by simp at hf,rfl⟩
  ·rintro k fr st1 _ hlt ⟨hkk,f0,f3,f6,rfl,rfl⟩
   obtain ⟨a,ha⟩:=yQ3 hlt
   have ham:=lMg ha
   obtain ⟨z,hkz,hzz⟩:=i2.get ha
   obtain ⟨b,hb⟩:=yQ3 (show 0 < r.length by omega)
   obtain ⟨zb,hkb,hzb⟩:=i2.get hb
   have hbm:=lMg hb
   have hcall:=fun st => hF a z hzz (hr a ham) st
   have hcal2:=fun st => hAl b a zb z hzb hzz (hr b hbm) (hr a ham) st
   have hhd:(r[0]?).getD fm0 = b:=by rw [hb]; rfl
   rw [hhd] at hkk ⊢
   have hbad:∀ h:¬ qV ca b a,yX8 ca ⟨l,r⟩ = false:=fun h => yVc fun h' => h (by have:=h'.2.2.2.2 a ham; rwa [hhd] at this)
   have hgood:qV ca b a → ∀ f ∈ r.take (k + 1),qV ca b f:=fun h f hf => by
    rw [yQ4 ha] at hf
    rcases List.mem_append.1 hf with hf | hf
    ·exact hkk f hf
    ·rw [List.mem_singleton.1 hf]; exact h
   obtain ⟨o5,n5,t5,x5,t6,x6,rfl⟩:=hzz.agg
   obtain ⟨o7,n7,t7,x7,t8,x8,rfl⟩:=hzb.agg
   simp -implicitDefEqProofs -dsimp only [go_sem,f0,f3,f6,i2.len,lt_i hlt,yQ2 e2,iNn,hkz,fits]
   intro _
   refine (hcall _).mono ?_
   rintro _ st2 ⟨rfl,rfl⟩
   cases hra:fmB ca a
   ·simp -implicitDefEqProofs -dsimp only [go_sem,f0,f3,f6,fits]
    exact yQ0 ⟨by rw [hbad fun h => by rw [h.1] at hra; cases hra],rfl⟩
   ·cases q5:decide (ca = 2)
    ·simp -implicitDefEqProofs -dsimp only [go_sem,f0,f3,f6,fits,k5,q5,yQ9 hlt (show r.length ≤ 281474976710656 by omega)]
     exact hgood ⟨hra,fun h => absurd h (of_decide_eq_false q5)⟩
    ·simp -implicitDefEqProofs -dsimp only [go_sem,f0,f3,f6,fits,k5,q5,i2.len,yQ2 e2,iNn,hkz,hkb,Int.le_refl,Int.toNat_zero]
     intros
     refine (hcal2 _).mono ?_
     rintro _ st2 ⟨rfl,rfl⟩
     cases hrb:yKg b a
     ·simp -implicitDefEqProofs -dsimp only [go_sem,f0,f3,f6,fits]
      exact yQ0 ⟨by rw [hbad fun h => by rw [h.2 (of_decide_eq_true q5)] at hrb; cases hrb],rfl⟩
     ·simp -implicitDefEqProofs -dsimp only [go_sem,f0,f3,f6,fits,yQ9 hlt (show r.length ≤ 281474976710656 by omega)]
      exact hgood ⟨hra,fun _ => hrb⟩
  ·rintro fr st1 _ ⟨hkr,f0,f3,f6,rfl,rfl⟩
   rw [lTl] at hkr
   simp -implicitDefEqProofs -dsimp only [go_sem,f0,f3,f6,i2.len,yQm (nLi _)]
   intro _
   exact yQ0 ⟨by rw [yG5.2 ⟨hk,hll,hlr,hkl,hkr⟩],rfl⟩
theorem yQt {tg:Tag} {es:Nat} (h:okEs tg es) (len hh l:Nat):okEs (yX5 (reTag es tg) len hh l none) es:=by
 have:=yQ2 h
 unfold yX5
 by_cases h1:(reTag es tg).cap = .nil
 ·rw [if_pos h1]; exact .inr this
 ·rw [if_neg h1]
  by_cases h2:l = 0 ∧ hh = len
  ·simp only [if_pos h2]; exact .inr this
  ·simp only [if_neg h2]; exact .inr this
theorem yZn {n:Nat} (h:1 ≤ n):yXh (some 1) none n = some (1,n):=by
 simp only [yXh,Option.getD_none,Option.getD_some]
 rw [if_pos (by omega)]; rfl
theorem yZm {n:Nat} (h:1 ≤ n):yXh none (some 1) n = some (0,1):=by
 simp only [yXh,Option.getD_none,Option.getD_some]
 rw [if_pos (by omega)]; rfl
theorem yQy (x y:Operand):yV1 2 [(0,x),(1,y)] = true:=rfl
theorem xVl {ca rule:Nat} {r:Rw} {main:Fm} {u:Tm} {n:ByteArray} (h:¬ (fmB ca main = true ∧ (r.op ≠ 0 → main.op = r.op))):yZh ca rule r main u n = ([],192):=by
 unfold yZh
 rw [if_pos]
 by_cases hf:fmB ca main = true
 ·have h0:r.op ≠ 0:=fun h0 => h ⟨hf,fun q => absurd h0 q⟩
  have h1:main.op ≠ r.op:=fun h1 => h ⟨hf,fun _ => h1⟩
  simp [h0,h1]
 ·simp [hf]
theorem yJ7 {ca rule:Nat} {r:Rw} {main:Fm} {u:Tm} {n:ByteArray} (hf:fmB ca main = true) (h1:r.op ≠ 0 → main.op = r.op) (h0:r.asks = 0):yZh ca rule r main u n = (addS ca rule main ((main.subs[0]?).getD fm0) ((main.subs[1]?).getD fm0),0):=by
 unfold yZh
 rw [if_neg (by rw [hf]; intro hx; simp at hx; first | exact hx.2 (h1 hx.1) | exact (of_decide_eq_true hx.2) (h1 hx.1))]
 simp only [if_pos h0]
theorem zXk {ca rule:Nat} {r:Rw} {main:Fm} {u t:Tm} {n:ByteArray} (hf:fmB ca main = true) (h1:r.op ≠ 0 → main.op = r.op) (h0:r.asks ≠ 0) (ht:t = if r.asks = 2 then .mk true n [] else u):yZh ca rule r main u n =
  (if t.ok = false then ([],193) else if (yZb ((main.subs[0]?).getD fm0) [(main.nm,t)]).2 ≠ 0 then ([],193) else (addS ca rule main (yZb ((main.subs[0]?).getD fm0) [(main.nm,t)]).1 ((main.subs[1]?).getD fm0),0)):=by
 unfold yZh
 rw [if_neg (by rw [hf]; intro hx; simp at hx; first | exact hx.2 (h1 hx.1) | exact (of_decide_eq_true hx.2) (h1 hx.1))]
 simp only [if_neg h0,← ht]
 cases t.ok <;> rfl
set_option maxHeartbeats 4000000 in
theorem wXy (ca rule:Nat) (main:Fm) (y:IV) (hy:IsFm main y) (hm:main.size ≤ 1000000) (term:Tm) (z:IV) (hz:IsTm term z) (ht:term.size ≤ 900000) (name:ByteArray) (st:ISt) :
  ICall prog gl 47 [.raw (.int .u8 ca),.raw (.int .u8 rule),y,z,.raw (.string name)] st (AdR st (zQs ca rule main term name)):=by
 have hW:=fun st => xG0 gl ca rule st
 have hF:=fun st => xUa gl ca main y hy (by omega) st
 have hy0:=hy
 have hz0:=hz
 obtain ⟨op,nm,us,sub⟩:=main
 obtain ⟨t1,x1,t4,x4,rfl,ho,e1,i1,e4,i4⟩:=hy.mk
 obtain ⟨v5,n5,t5,x5,rfl⟩:=hz.agg
 have k1:decide (((ca:Nat):Int) < 1) = decide (ca < 1):=by rw [decide_eq_decide]; omega
 have k2:decide ((3:Int) < ((ca:Nat):Int)) = decide (3 < ca):=by rw [decide_eq_decide]; omega
 refine ICall.intro (c:=cf prog gl [] [(39,[0,1,3,4,2,5,6,7,8]),(48,[0,1,2,3,4,5,10,6,7,8,9,11,12])]) func47 rfl (by show _ ≤ 197; simp) (by kernel_rfl) ?_
 cases hk:yXi ca
 ·have hAS:zQs ca rule (.mk op nm us sub) term name = ([],2):=by unfold zQs; rw [hk]; rfl
  rw [hAS]
  by_cases q1:ca < 1
  ·have q1:=dEt q1
   simp -implicitDefEqProofs -dsimp only [go_sem,fits,k1,q1]
   intros
   exact yQ0 ⟨_,_,rfl,.inl rfl,rfl,rfl⟩
  ·have q2:decide (3 < ca) = true:=dEt (by simp only [yXi,Bool.and_eq_false_iff,decide_eq_false_iff_not] at hk; omega)
   have q1:=dEf q1
   simp -implicitDefEqProofs -dsimp only [go_sem,fits,k1,k2,q1,q2]
   intros
   exact yQ0 ⟨_,_,rfl,.inl rfl,rfl,rfl⟩
 have hkk:=hk
 simp only [yXi,bAt,dTe] at hkk
 have q1:decide (ca < 1) = false:=dEf (by omega)
 have q2:decide (3 < ca) = false:=dEf (by omega)
 simp -implicitDefEqProofs -dsimp only [go_sem,fits,k1,k2,q1,q2]
 intros
 refine (hW _).mono ?_
 rintro w st ⟨hw,rfl⟩
 unfold yKn at hw
 cases hrow:rowS ca rule with
 | none =>
  rw [hrow] at hw
  obtain ⟨o9,a9,b9,rfl⟩:=hw
  have hAS:zQs ca rule (.mk op nm us sub) term name = ([],191):=by unfold zQs; rw [hk,hrow]; rfl
  rw [hAS]
  simp -implicitDefEqProofs -dsimp only [go_sem,fits]
  exact yQ0 ⟨_,_,rfl,.inl rfl,rfl,rfl⟩
 | some r =>
  rw [hrow] at hw
  simp only at hw
  subst hw
  have hAd:zQs ca rule (.mk op nm us sub) term name = yZh ca rule r (.mk op nm us sub) term name:=by unfold zQs; rw [hk,hrow]; rfl
  rw [hAd]
  have k4:decide (((r.op:Nat):Int) = 0) = decide (r.op = 0):=by rw [decide_eq_decide]; omega
  have k5:decide (((op:Nat):Int) = ((r.op:Nat):Int)) = decide (op = r.op):=by rw [decide_eq_decide]; omega
  simp -implicitDefEqProofs -dsimp only [go_sem,fits]
  refine (hF _).mono ?_
  rintro _ st ⟨rfl,rfl⟩
  cases hf:fmB ca (.mk op nm us sub)
  ·rw [xVl (fun h => by rw [h.1] at hf; cases hf)]
   simp -implicitDefEqProofs -dsimp only [go_sem,fits]
   exact yQ0 ⟨_,_,rfl,.inl rfl,rfl,rfl⟩
  have hmain:r.op ≠ 0 → op ≠ r.op → yZh ca rule r (.mk op nm us sub) term name = ([],192):=fun h1 h2 => xVl fun h => h2 (h.2 h1)
  have hlen:=wYe (zQi.1 hf).1
  have d2:∀ h:Bool,decide (ca = 2) = h → decide (((ca:Nat):Int) = 2) = h:=fun h hh => by rw [← hh,decide_eq_decide]; omega
  rcases zU4 hrow with ⟨hru,hr⟩ | ⟨hru,hr⟩ | ⟨hru,hr⟩ | ⟨hru,hr⟩ | ⟨hru,hr⟩ | ⟨hru,hr⟩ | ⟨hru,hr⟩ | ⟨hru,hr⟩ | ⟨hru,hr⟩ | ⟨hru,hr⟩ | ⟨hru,hr⟩ | ⟨hru,hr⟩ | ⟨hru,hr⟩ | ⟨hru,hr⟩ | ⟨hru,hr⟩ | ⟨hru,hr⟩ | ⟨hru,hr⟩ | ⟨hru,hr⟩
  ·have dt:decide (((rule:Nat):Int) = 1) = true:=dEt (by omega)
   have ds:∀ j:Int,j ≠ 1 → decide (((rule:Nat):Int) = j) = false:=fun j hj => dEf (by omega)
   have hrop:r.op = 0:=by rw [hr]
   have k6:decide (r.op = 0) = true:=dEt hrop
   rw [yJ7 hf (fun h => absurd hrop h) (by rw [hr]),show ∀ A B,addS ca rule (.mk op nm us sub) A B = [] from fun A B => by rw [hru]; rfl]
   by_cases hsl:sub.length = 0
   ·have k8:decide ((0:Int) < ((sub.length:Nat):Int)) = false:=dEf (by omega)
    simp -implicitDefEqProofs -dsimp only [go_sem,fits,k4,k5,k6,dt,ds,Int.reduceNe,ne_eq,nFt,nTf,Int.reduceEq,yQ1,yQy,i4.len,k8]
    intros
    repeat (refine (yJk gl _ _ _ _ _).mono ?_; rintro _ _ ⟨rfl,rfl⟩; simp -implicitDefEqProofs -dsimp only [go_sem,fits,k4,k5,k6,dt,ds,Int.reduceNe,ne_eq,nFt,nTf,Int.reduceEq,yQ1,yQy])
    exact yQ0 ⟨_,_,rfl,.inl rfl,rfl,rfl⟩
   ·have k8:decide ((0:Int) < ((sub.length:Nat):Int)) = true:=dEt (by omega)
    simp -implicitDefEqProofs -dsimp only [go_sem,fits,k4,k5,k6,dt,ds,Int.reduceNe,ne_eq,nFt,nTf,Int.reduceEq,yQ1,yQy,i4.len,k8,yZn (show 1 ≤ sub.length by omega),yZm (show 1 ≤ sub.length by omega),yQ2 e4]
    intros
    repeat (refine (yJk gl _ _ _ _ _).mono ?_; rintro _ _ ⟨rfl,rfl⟩; simp -implicitDefEqProofs -dsimp only [go_sem,fits,k4,k5,k6,dt,ds,Int.reduceNe,ne_eq,nFt,nTf,Int.reduceEq,yQ1,yQy])
    exact yQ0 ⟨_,_,rfl,.inl rfl,rfl,rfl⟩
  ·have dt:decide (((rule:Nat):Int) = 2) = true:=dEt (by omega)
   have ds:∀ j:Int,j ≠ 2 → decide (((rule:Nat):Int) = j) = false:=fun j hj => dEf (by omega)
   have hrop:r.op = 2:=by rw [hr]
   have k6:decide (r.op = 0) = false:=dEf (by omega)
   by_cases hop:op = r.op
   case neg =>
    rw [hmain (by omega) hop]
    have k7:decide (op = r.op) = false:=dEf hop
    simp -implicitDefEqProofs -dsimp only [go_sem,fits,k4,k5,k6,k7]
    intros
    exact yQ0 ⟨_,_,rfl,.inl rfl,rfl,rfl⟩
   have k7:decide (op = r.op) = true:=dEt hop
   rw [yJ7 hf (fun h => hop) (by rw [hr]),show ∀ A B,addS ca rule (.mk op nm us sub) A B = [] from fun A B => by rw [hru]; rfl]
   by_cases hsl:sub.length = 0
   ·have k8:decide ((0:Int) < ((sub.length:Nat):Int)) = false:=dEf (by omega)
    simp -implicitDefEqProofs -dsimp only [go_sem,fits,k4,k5,k6,k7,dt,ds,Int.reduceNe,ne_eq,nFt,nTf,Int.reduceEq,yQ1,yQy,i4.len,k8]
    intros
    repeat (refine (yJk gl _ _ _ _ _).mono ?_; rintro _ _ ⟨rfl,rfl⟩; simp -implicitDefEqProofs -dsimp only [go_sem,fits,k4,k5,k6,k7,dt,ds,Int.reduceNe,ne_eq,nFt,nTf,Int.reduceEq,yQ1,yQy])
    exact yQ0 ⟨_,_,rfl,.inl rfl,rfl,rfl⟩
   ·have k8:decide ((0:Int) < ((sub.length:Nat):Int)) = true:=dEt (by omega)
    simp -implicitDefEqProofs -dsimp only [go_sem,fits,k4,k5,k6,k7,dt,ds,Int.reduceNe,ne_eq,nFt,nTf,Int.reduceEq,yQ1,yQy,i4.len,k8,yZn (show 1 ≤ sub.length by omega),yZm (show 1 ≤ sub.length by omega),yQ2 e4]
    intros
    repeat (refine (yJk gl _ _ _ _ _).mono ?_; rintro _ _ ⟨rfl,rfl⟩; simp -implicitDefEqProofs -dsimp only [go_sem,fits,k4,k5,k6,k7,dt,ds,Int.reduceNe,ne_eq,nFt,nTf,Int.reduceEq,yQ1,yQy])
    exact yQ0 ⟨_,_,rfl,.inl rfl,rfl,rfl⟩
  ·have dt:decide (((rule:Nat):Int) = 3) = true:=dEt (by omega)
   have ds:∀ j:Int,j ≠ 3 → decide (((rule:Nat):Int) = j) = false:=fun j hj => dEf (by omega)
   have hrop:r.op = 3:=by rw [hr]
   have k6:decide (r.op = 0) = false:=dEf (by omega)
   by_cases hop:op = r.op
   case neg =>
    rw [hmain (by omega) hop]
    have k7:decide (op = r.op) = false:=dEf hop
    simp -implicitDefEqProofs -dsimp only [go_sem,fits,k4,k5,k6,k7]
    intros
    exact yQ0 ⟨_,_,rfl,.inl rfl,rfl,rfl⟩
   have k7:decide (op = r.op) = true:=dEt hop
   obtain ⟨a,rfl⟩:∃ a,sub = [a]:=by
    have:=hlen.1 (by omega)
    match sub,this with
    | [a],_ => exact ⟨a,rfl⟩
   simp only [IsFms] at i4
   obtain ⟨ya,_,rfl,hya,rfl⟩:=i4
   obtain ⟨oa,na,ta1,xa1,ta2,xa2,rfl⟩:=hya.agg
   have k8:decide ((0:Int) < ((1:Nat):Int)) = true:=rfl
   have s1:=yZn (show 1 ≤ 1 by omega)
   have s2:=yZm (show 1 ≤ 1 by omega)
   have s3:∀ a b c,(reTag 4 (yX5 (reTag 4 t4) a b c none)).es = 4:=fun a b c => yQ2 (yQt e4 a b c)
   generalize haS:yZh ca rule r (.mk op nm us [a]) term name = addSS
   have hA0:addSS = (addS ca rule (.mk op nm us [a]) a fm0,0):=by rw [← haS,yJ7 hf (fun _ => hop) (by rw [hr])]; rfl
   have hv:addSS = ([⟨[],[a]⟩],0):=by rw [hA0,show addS ca rule (.mk op nm us [a]) a fm0 = [⟨[],[a]⟩] from by rw [hru]; rfl]
   rw [hv]
   simp -implicitDefEqProofs -dsimp only [go_sem,fits,k4,k5,k6,k7,dt,ds,Int.reduceNe,ne_eq,nFt,nTf,Int.reduceEq,yQ1,yQy,k8,s1,s2,s3,yQ2 e4]
   intros
   repeat (refine (yJk gl _ _ _ _ _).mono ?_; rintro _ _ ⟨rfl,rfl⟩; simp -implicitDefEqProofs -dsimp only [go_sem,fits,k4,k5,k6,k7,dt,ds,Int.reduceNe,ne_eq,nFt,nTf,Int.reduceEq,yQ1,yQy,k8,s1,s2,s3,yQ2 e4])
   exact yQ0 ⟨_,_,rfl,.inr rfl,⟨_,_,rfl,⟨_,_,_,_,rfl,.inl rfl,rfl,yQt e4 _ _ _,⟨_,_,rfl,hya,rfl⟩⟩,rfl⟩,rfl⟩
  ·have dt:decide (((rule:Nat):Int) = 4) = true:=dEt (by omega)
   have ds:∀ j:Int,j ≠ 4 → decide (((rule:Nat):Int) = j) = false:=fun j hj => dEf (by omega)
   have hrop:r.op = 3:=by rw [hr]
   have k6:decide (r.op = 0) = false:=dEf (by omega)
   by_cases hop:op = r.op
   case neg =>
    rw [hmain (by omega) hop]
    have k7:decide (op = r.op) = false:=dEf hop
    simp -implicitDefEqProofs -dsimp only [go_sem,fits,k4,k5,k6,k7]
    intros
    exact yQ0 ⟨_,_,rfl,.inl rfl,rfl,rfl⟩
   have k7:decide (op = r.op) = true:=dEt hop
   obtain ⟨a,rfl⟩:∃ a,sub = [a]:=by
    have:=hlen.1 (by omega)
    match sub,this with
    | [a],_ => exact ⟨a,rfl⟩
   simp only [IsFms] at i4
   obtain ⟨ya,_,rfl,hya,rfl⟩:=i4
   obtain ⟨oa,na,ta1,xa1,ta2,xa2,rfl⟩:=hya.agg
   have k8:decide ((0:Int) < ((1:Nat):Int)) = true:=rfl
   have s1:=yZn (show 1 ≤ 1 by omega)
   have s2:=yZm (show 1 ≤ 1 by omega)
   have s3:∀ a b c,(reTag 4 (yX5 (reTag 4 t4) a b c none)).es = 4:=fun a b c => yQ2 (yQt e4 a b c)
   generalize haS:yZh ca rule r (.mk op nm us [a]) term name = addSS
   have hA0:addSS = (addS ca rule (.mk op nm us [a]) a fm0,0):=by rw [← haS,yJ7 hf (fun _ => hop) (by rw [hr])]; rfl
   have hv:addSS = ([⟨[a],[]⟩],0):=by rw [hA0,show addS ca rule (.mk op nm us [a]) a fm0 = [⟨[a],[]⟩] from by rw [hru]; rfl]
   rw [hv]
   simp -implicitDefEqProofs -dsimp only [go_sem,fits,k4,k5,k6,k7,dt,ds,Int.reduceNe,ne_eq,nFt,nTf,Int.reduceEq,yQ1,yQy,k8,s1,s2,s3,yQ2 e4]
   intros
   repeat (refine (yJk gl _ _ _ _ _).mono ?_; rintro _ _ ⟨rfl,rfl⟩; simp -implicitDefEqProofs -dsimp only [go_sem,fits,k4,k5,k6,k7,dt,ds,Int.reduceNe,ne_eq,nFt,nTf,Int.reduceEq,yQ1,yQy,k8,s1,s2,s3,yQ2 e4])
   exact yQ0 ⟨_,_,rfl,.inr rfl,⟨_,_,rfl,⟨_,_,_,_,rfl,yQt e4 _ _ _,⟨_,_,rfl,hya,rfl⟩,.inl rfl,rfl⟩,rfl⟩,rfl⟩
  ·have dt:decide (((rule:Nat):Int) = 5) = true:=dEt (by omega)
   have ds:∀ j:Int,j ≠ 5 → decide (((rule:Nat):Int) = j) = false:=fun j hj => dEf (by omega)
   have hrop:r.op = 4:=by rw [hr]
   have k6:decide (r.op = 0) = false:=dEf (by omega)
   by_cases hop:op = r.op
   case neg =>
    rw [hmain (by omega) hop]
    have k7:decide (op = r.op) = false:=dEf hop
    simp -implicitDefEqProofs -dsimp only [go_sem,fits,k4,k5,k6,k7]
    intros
    exact yQ0 ⟨_,_,rfl,.inl rfl,rfl,rfl⟩
   have k7:decide (op = r.op) = true:=dEt hop
   obtain ⟨a,b,rfl⟩:∃ a b,sub = [a,b]:=by
    have:=hlen.2 (by omega)
    match sub,this with
    | [a,b],_ => exact ⟨a,b,rfl⟩
   simp only [IsFms] at i4
   obtain ⟨ya,_,rfl,hya,yb,_,rfl,hyb,rfl⟩:=i4
   obtain ⟨oa,na,ta1,xa1,ta2,xa2,rfl⟩:=hya.agg
   obtain ⟨ob,nb,tb1,xb1,tb2,xb2,rfl⟩:=hyb.agg
   have k8:decide ((0:Int) < ((2:Nat):Int)) = true:=rfl
   have s1:=yZn (show 1 ≤ 2 by omega)
   have s2:=yZm (show 1 ≤ 2 by omega)
   have s3:∀ a b c,(reTag 4 (yX5 (reTag 4 t4) a b c none)).es = 4:=fun a b c => yQ2 (yQt e4 a b c)
   generalize haS:yZh ca rule r (.mk op nm us [a,b]) term name = addSS
   have hA0:addSS = (addS ca rule (.mk op nm us [a,b]) a b,0):=by rw [← haS,yJ7 hf (fun _ => hop) (by rw [hr])]; rfl
   have hv:addSS = ([⟨[a,b],[]⟩],0):=by rw [hA0,show addS ca rule (.mk op nm us [a,b]) a b = [⟨[a,b],[]⟩] from by rw [hru]; rfl]
   rw [hv]
   simp -implicitDefEqProofs -dsimp only [go_sem,fits,k4,k5,k6,k7,dt,ds,Int.reduceNe,ne_eq,nFt,nTf,Int.reduceEq,yQ1,yQy,k8,s1,s2,s3,yQ2 e4]
   intros
   repeat (refine (yJk gl _ _ _ _ _).mono ?_; rintro _ _ ⟨rfl,rfl⟩; simp -implicitDefEqProofs -dsimp only [go_sem,fits,k4,k5,k6,k7,dt,ds,Int.reduceNe,ne_eq,nFt,nTf,Int.reduceEq,yQ1,yQy,k8,s1,s2,s3,yQ2 e4])
   exact yQ0 ⟨_,_,rfl,.inr rfl,⟨_,_,rfl,⟨_,_,_,_,rfl,e4,⟨_,_,rfl,hya,_,_,rfl,hyb,rfl⟩,.inl rfl,rfl⟩,rfl⟩,rfl⟩
  ·have dt:decide (((rule:Nat):Int) = 6) = true:=dEt (by omega)
   have ds:∀ j:Int,j ≠ 6 → decide (((rule:Nat):Int) = j) = false:=fun j hj => dEf (by omega)
   have hrop:r.op = 4:=by rw [hr]
   have k6:decide (r.op = 0) = false:=dEf (by omega)
   by_cases hop:op = r.op
   case neg =>
    rw [hmain (by omega) hop]
    have k7:decide (op = r.op) = false:=dEf hop
    simp -implicitDefEqProofs -dsimp only [go_sem,fits,k4,k5,k6,k7]
    intros
    exact yQ0 ⟨_,_,rfl,.inl rfl,rfl,rfl⟩
   have k7:decide (op = r.op) = true:=dEt hop
   obtain ⟨a,b,rfl⟩:∃ a b,sub = [a,b]:=by
    have:=hlen.2 (by omega)
    match sub,this with
    | [a,b],_ => exact ⟨a,b,rfl⟩
   simp only [IsFms] at i4
   obtain ⟨ya,_,rfl,hya,yb,_,rfl,hyb,rfl⟩:=i4
   obtain ⟨oa,na,ta1,xa1,ta2,xa2,rfl⟩:=hya.agg
   obtain ⟨ob,nb,tb1,xb1,tb2,xb2,rfl⟩:=hyb.agg
   have k8:decide ((0:Int) < ((2:Nat):Int)) = true:=rfl
   have s1:=yZn (show 1 ≤ 2 by omega)
   have s2:=yZm (show 1 ≤ 2 by omega)
   have s3:∀ a b c,(reTag 4 (yX5 (reTag 4 t4) a b c none)).es = 4:=fun a b c => yQ2 (yQt e4 a b c)
   generalize haS:yZh ca rule r (.mk op nm us [a,b]) term name = addSS
   have hA0:addSS = (addS ca rule (.mk op nm us [a,b]) a b,0):=by rw [← haS,yJ7 hf (fun _ => hop) (by rw [hr])]; rfl
   have hv:addSS = ([⟨[],[a]⟩,⟨[],[b]⟩],0):=by rw [hA0,show addS ca rule (.mk op nm us [a,b]) a b = [⟨[],[a]⟩,⟨[],[b]⟩] from by rw [hru]; rfl]
   rw [hv]
   simp -implicitDefEqProofs -dsimp only [go_sem,fits,k4,k5,k6,k7,dt,ds,Int.reduceNe,ne_eq,nFt,nTf,Int.reduceEq,yQ1,yQy,k8,s1,s2,s3,yQ2 e4]
   intros
   repeat (refine (yJk gl _ _ _ _ _).mono ?_; rintro _ _ ⟨rfl,rfl⟩; simp -implicitDefEqProofs -dsimp only [go_sem,fits,k4,k5,k6,k7,dt,ds,Int.reduceNe,ne_eq,nFt,nTf,Int.reduceEq,yQ1,yQy,k8,s1,s2,s3,yQ2 e4])
   exact yQ0 ⟨_,_,rfl,.inr rfl,⟨_,_,rfl,⟨_,_,_,_,rfl,.inl rfl,rfl,yQt e4 _ _ _,⟨_,_,rfl,hya,rfl⟩⟩,⟨_,_,rfl,⟨_,_,_,_,rfl,.inl rfl,rfl,yQt e4 _ _ _,⟨_,_,rfl,hyb,rfl⟩⟩,rfl⟩⟩,rfl⟩
  ·have dt:decide (((rule:Nat):Int) = 7) = true:=dEt (by omega)
   have ds:∀ j:Int,j ≠ 7 → decide (((rule:Nat):Int) = j) = false:=fun j hj => dEf (by omega)
   have hrop:r.op = 5:=by rw [hr]
   have k6:decide (r.op = 0) = false:=dEf (by omega)
   by_cases hop:op = r.op
   case neg =>
    rw [hmain (by omega) hop]
    have k7:decide (op = r.op) = false:=dEf hop
    simp -implicitDefEqProofs -dsimp only [go_sem,fits,k4,k5,k6,k7]
    intros
    exact yQ0 ⟨_,_,rfl,.inl rfl,rfl,rfl⟩
   have k7:decide (op = r.op) = true:=dEt hop
   obtain ⟨a,b,rfl⟩:∃ a b,sub = [a,b]:=by
    have:=hlen.2 (by omega)
    match sub,this with
    | [a,b],_ => exact ⟨a,b,rfl⟩
   simp only [IsFms] at i4
   obtain ⟨ya,_,rfl,hya,yb,_,rfl,hyb,rfl⟩:=i4
   obtain ⟨oa,na,ta1,xa1,ta2,xa2,rfl⟩:=hya.agg
   obtain ⟨ob,nb,tb1,xb1,tb2,xb2,rfl⟩:=hyb.agg
   have k8:decide ((0:Int) < ((2:Nat):Int)) = true:=rfl
   have s1:=yZn (show 1 ≤ 2 by omega)
   have s2:=yZm (show 1 ≤ 2 by omega)
   have s3:∀ a b c,(reTag 4 (yX5 (reTag 4 t4) a b c none)).es = 4:=fun a b c => yQ2 (yQt e4 a b c)
   generalize haS:yZh ca rule r (.mk op nm us [a,b]) term name = addSS
   have hA0:addSS = (addS ca rule (.mk op nm us [a,b]) a b,0):=by rw [← haS,yJ7 hf (fun _ => hop) (by rw [hr])]; rfl
   have hv:addSS = ([⟨[a],[]⟩,⟨[b],[]⟩],0):=by rw [hA0,show addS ca rule (.mk op nm us [a,b]) a b = [⟨[a],[]⟩,⟨[b],[]⟩] from by rw [hru]; rfl]
   rw [hv]
   simp -implicitDefEqProofs -dsimp only [go_sem,fits,k4,k5,k6,k7,dt,ds,Int.reduceNe,ne_eq,nFt,nTf,Int.reduceEq,yQ1,yQy,k8,s1,s2,s3,yQ2 e4]
   intros
   repeat (refine (yJk gl _ _ _ _ _).mono ?_; rintro _ _ ⟨rfl,rfl⟩; simp -implicitDefEqProofs -dsimp only [go_sem,fits,k4,k5,k6,k7,dt,ds,Int.reduceNe,ne_eq,nFt,nTf,Int.reduceEq,yQ1,yQy,k8,s1,s2,s3,yQ2 e4])
   exact yQ0 ⟨_,_,rfl,.inr rfl,⟨_,_,rfl,⟨_,_,_,_,rfl,yQt e4 _ _ _,⟨_,_,rfl,hya,rfl⟩,.inl rfl,rfl⟩,⟨_,_,rfl,⟨_,_,_,_,rfl,yQt e4 _ _ _,⟨_,_,rfl,hyb,rfl⟩,.inl rfl,rfl⟩,rfl⟩⟩,rfl⟩
  ·have dt:decide (((rule:Nat):Int) = 8) = true:=dEt (by omega)
   have ds:∀ j:Int,j ≠ 8 → decide (((rule:Nat):Int) = j) = false:=fun j hj => dEf (by omega)
   have hrop:r.op = 5:=by rw [hr]
   have k6:decide (r.op = 0) = false:=dEf (by omega)
   by_cases hop:op = r.op
   case neg =>
    rw [hmain (by omega) hop]
    have k7:decide (op = r.op) = false:=dEf hop
    simp -implicitDefEqProofs -dsimp only [go_sem,fits,k4,k5,k6,k7]
    intros
    exact yQ0 ⟨_,_,rfl,.inl rfl,rfl,rfl⟩
   have k7:decide (op = r.op) = true:=dEt hop
   obtain ⟨a,b,rfl⟩:∃ a b,sub = [a,b]:=by
    have:=hlen.2 (by omega)
    match sub,this with
    | [a,b],_ => exact ⟨a,b,rfl⟩
   simp only [IsFms] at i4
   obtain ⟨ya,_,rfl,hya,yb,_,rfl,hyb,rfl⟩:=i4
   obtain ⟨oa,na,ta1,xa1,ta2,xa2,rfl⟩:=hya.agg
   obtain ⟨ob,nb,tb1,xb1,tb2,xb2,rfl⟩:=hyb.agg
   have k8:decide ((0:Int) < ((2:Nat):Int)) = true:=rfl
   have s1:=yZn (show 1 ≤ 2 by omega)
   have s2:=yZm (show 1 ≤ 2 by omega)
   have s3:∀ a b c,(reTag 4 (yX5 (reTag 4 t4) a b c none)).es = 4:=fun a b c => yQ2 (yQt e4 a b c)
   generalize haS:yZh ca rule r (.mk op nm us [a,b]) term name = addSS
   have hA0:addSS = (addS ca rule (.mk op nm us [a,b]) a b,0):=by rw [← haS,yJ7 hf (fun _ => hop) (by rw [hr])]; rfl
   by_cases hc2:ca = 2
   ·have dc:=d2 true (dEt hc2)
    have hv:addSS = ([⟨[],[a]⟩],0):=by rw [hA0,show addS ca rule (.mk op nm us [a,b]) a b = [⟨[],[a]⟩] from by rw [hru,hc2]; rfl]
    rw [hv]
    simp -implicitDefEqProofs -dsimp only [go_sem,fits,k4,k5,k6,k7,dt,ds,Int.reduceNe,ne_eq,nFt,nTf,Int.reduceEq,yQ1,yQy,k8,s1,s2,s3,yQ2 e4,dc]
    intros
    repeat (refine (yJk gl _ _ _ _ _).mono ?_; rintro _ _ ⟨rfl,rfl⟩; simp -implicitDefEqProofs -dsimp only [go_sem,fits,k4,k5,k6,k7,dt,ds,Int.reduceNe,ne_eq,nFt,nTf,Int.reduceEq,yQ1,yQy,k8,s1,s2,s3,yQ2 e4,dc])
    exact yQ0 ⟨_,_,rfl,.inr rfl,⟨_,_,rfl,⟨_,_,_,_,rfl,.inl rfl,rfl,yQt e4 _ _ _,⟨_,_,rfl,hya,rfl⟩⟩,rfl⟩,rfl⟩
   ·have dc:=d2 false (dEf hc2)
    have hv:addSS = ([⟨[],[a,b]⟩],0):=by rw [hA0,show addS ca rule (.mk op nm us [a,b]) a b = [⟨[],[a,b]⟩] from by rw [hru]; unfold addS; simp [hc2]]
    rw [hv]
    simp -implicitDefEqProofs -dsimp only [go_sem,fits,k4,k5,k6,k7,dt,ds,Int.reduceNe,ne_eq,nFt,nTf,Int.reduceEq,yQ1,yQy,k8,s1,s2,s3,yQ2 e4,dc]
    intros
    repeat (refine (yJk gl _ _ _ _ _).mono ?_; rintro _ _ ⟨rfl,rfl⟩; simp -implicitDefEqProofs -dsimp only [go_sem,fits,k4,k5,k6,k7,dt,ds,Int.reduceNe,ne_eq,nFt,nTf,Int.reduceEq,yQ1,yQy,k8,s1,s2,s3,yQ2 e4,dc])
    exact yQ0 ⟨_,_,rfl,.inr rfl,⟨_,_,rfl,⟨_,_,_,_,rfl,.inl rfl,rfl,e4,⟨_,_,rfl,hya,_,_,rfl,hyb,rfl⟩⟩,rfl⟩,rfl⟩
  ·have dt:decide (((rule:Nat):Int) = 9) = true:=dEt (by omega)
   have ds:∀ j:Int,j ≠ 9 → decide (((rule:Nat):Int) = j) = false:=fun j hj => dEf (by omega)
   have hrop:r.op = 6:=by rw [hr]
   have k6:decide (r.op = 0) = false:=dEf (by omega)
   by_cases hop:op = r.op
   case neg =>
    rw [hmain (by omega) hop]
    have k7:decide (op = r.op) = false:=dEf hop
    simp -implicitDefEqProofs -dsimp only [go_sem,fits,k4,k5,k6,k7]
    intros
    exact yQ0 ⟨_,_,rfl,.inl rfl,rfl,rfl⟩
   have k7:decide (op = r.op) = true:=dEt hop
   obtain ⟨a,b,rfl⟩:∃ a b,sub = [a,b]:=by
    have:=hlen.2 (by omega)
    match sub,this with
    | [a,b],_ => exact ⟨a,b,rfl⟩
   simp only [IsFms] at i4
   obtain ⟨ya,_,rfl,hya,yb,_,rfl,hyb,rfl⟩:=i4
   obtain ⟨oa,na,ta1,xa1,ta2,xa2,rfl⟩:=hya.agg
   obtain ⟨ob,nb,tb1,xb1,tb2,xb2,rfl⟩:=hyb.agg
   have k8:decide ((0:Int) < ((2:Nat):Int)) = true:=rfl
   have s1:=yZn (show 1 ≤ 2 by omega)
   have s2:=yZm (show 1 ≤ 2 by omega)
   have s3:∀ a b c,(reTag 4 (yX5 (reTag 4 t4) a b c none)).es = 4:=fun a b c => yQ2 (yQt e4 a b c)
   generalize haS:yZh ca rule r (.mk op nm us [a,b]) term name = addSS
   have hA0:addSS = (addS ca rule (.mk op nm us [a,b]) a b,0):=by rw [← haS,yJ7 hf (fun _ => hop) (by rw [hr])]; rfl
   have hv:addSS = ([⟨[],[a]⟩,⟨[b],[]⟩],0):=by rw [hA0,show addS ca rule (.mk op nm us [a,b]) a b = [⟨[],[a]⟩,⟨[b],[]⟩] from by rw [hru]; rfl]
   rw [hv]
   simp -implicitDefEqProofs -dsimp only [go_sem,fits,k4,k5,k6,k7,dt,ds,Int.reduceNe,ne_eq,nFt,nTf,Int.reduceEq,yQ1,yQy,k8,s1,s2,s3,yQ2 e4]
   intros
   repeat (refine (yJk gl _ _ _ _ _).mono ?_; rintro _ _ ⟨rfl,rfl⟩; simp -implicitDefEqProofs -dsimp only [go_sem,fits,k4,k5,k6,k7,dt,ds,Int.reduceNe,ne_eq,nFt,nTf,Int.reduceEq,yQ1,yQy,k8,s1,s2,s3,yQ2 e4])
   exact yQ0 ⟨_,_,rfl,.inr rfl,⟨_,_,rfl,⟨_,_,_,_,rfl,.inl rfl,rfl,yQt e4 _ _ _,⟨_,_,rfl,hya,rfl⟩⟩,⟨_,_,rfl,⟨_,_,_,_,rfl,yQt e4 _ _ _,⟨_,_,rfl,hyb,rfl⟩,.inl rfl,rfl⟩,rfl⟩⟩,rfl⟩
  ·have dt:decide (((rule:Nat):Int) = 10) = true:=dEt (by omega)
   have ds:∀ j:Int,j ≠ 10 → decide (((rule:Nat):Int) = j) = false:=fun j hj => dEf (by omega)
   have hrop:r.op = 6:=by rw [hr]
   have k6:decide (r.op = 0) = false:=dEf (by omega)
   by_cases hop:op = r.op
   case neg =>
    rw [hmain (by omega) hop]
    have k7:decide (op = r.op) = false:=dEf hop
    simp -implicitDefEqProofs -dsimp only [go_sem,fits,k4,k5,k6,k7]
    intros
    exact yQ0 ⟨_,_,rfl,.inl rfl,rfl,rfl⟩
   have k7:decide (op = r.op) = true:=dEt hop
   obtain ⟨a,b,rfl⟩:∃ a b,sub = [a,b]:=by
    have:=hlen.2 (by omega)
    match sub,this with
    | [a,b],_ => exact ⟨a,b,rfl⟩
   simp only [IsFms] at i4
   obtain ⟨ya,_,rfl,hya,yb,_,rfl,hyb,rfl⟩:=i4
   obtain ⟨oa,na,ta1,xa1,ta2,xa2,rfl⟩:=hya.agg
   obtain ⟨ob,nb,tb1,xb1,tb2,xb2,rfl⟩:=hyb.agg
   have k8:decide ((0:Int) < ((2:Nat):Int)) = true:=rfl
   have s1:=yZn (show 1 ≤ 2 by omega)
   have s2:=yZm (show 1 ≤ 2 by omega)
   have s3:∀ a b c,(reTag 4 (yX5 (reTag 4 t4) a b c none)).es = 4:=fun a b c => yQ2 (yQt e4 a b c)
   generalize haS:yZh ca rule r (.mk op nm us [a,b]) term name = addSS
   have hA0:addSS = (addS ca rule (.mk op nm us [a,b]) a b,0):=by rw [← haS,yJ7 hf (fun _ => hop) (by rw [hr])]; rfl
   have hv:addSS = ([⟨[a],[b]⟩],0):=by rw [hA0,show addS ca rule (.mk op nm us [a,b]) a b = [⟨[a],[b]⟩] from by rw [hru]; rfl]
   rw [hv]
   simp -implicitDefEqProofs -dsimp only [go_sem,fits,k4,k5,k6,k7,dt,ds,Int.reduceNe,ne_eq,nFt,nTf,Int.reduceEq,yQ1,yQy,k8,s1,s2,s3,yQ2 e4]
   intros
   repeat (refine (yJk gl _ _ _ _ _).mono ?_; rintro _ _ ⟨rfl,rfl⟩; simp -implicitDefEqProofs -dsimp only [go_sem,fits,k4,k5,k6,k7,dt,ds,Int.reduceNe,ne_eq,nFt,nTf,Int.reduceEq,yQ1,yQy,k8,s1,s2,s3,yQ2 e4])
   exact yQ0 ⟨_,_,rfl,.inr rfl,⟨_,_,rfl,⟨_,_,_,_,rfl,yQt e4 _ _ _,⟨_,_,rfl,hya,rfl⟩,yQt e4 _ _ _,⟨_,_,rfl,hyb,rfl⟩⟩,rfl⟩,rfl⟩
  ·have dt:decide (((rule:Nat):Int) = 11) = true:=dEt (by omega)
   have ds:∀ j:Int,j ≠ 11 → decide (((rule:Nat):Int) = j) = false:=fun j hj => dEf (by omega)
   have hrop:r.op = 7:=by rw [hr]
   have k6:decide (r.op = 0) = false:=dEf (by omega)
   by_cases hop:op = r.op
   case neg =>
    rw [hmain (by omega) hop]
    have k7:decide (op = r.op) = false:=dEf hop
    simp -implicitDefEqProofs -dsimp only [go_sem,fits,k4,k5,k6,k7]
    intros
    exact yQ0 ⟨_,_,rfl,.inl rfl,rfl,rfl⟩
   have k7:decide (op = r.op) = true:=dEt hop
   obtain ⟨a,b,rfl⟩:∃ a b,sub = [a,b]:=by
    have:=hlen.2 (by omega)
    match sub,this with
    | [a,b],_ => exact ⟨a,b,rfl⟩
   simp only [IsFms] at i4
   obtain ⟨ya,_,rfl,hya,yb,_,rfl,hyb,rfl⟩:=i4
   obtain ⟨oa,na,ta1,xa1,ta2,xa2,rfl⟩:=hya.agg
   obtain ⟨ob,nb,tb1,xb1,tb2,xb2,rfl⟩:=hyb.agg
   have k8:decide ((0:Int) < ((2:Nat):Int)) = true:=rfl
   have s1:=yZn (show 1 ≤ 2 by omega)
   have s2:=yZm (show 1 ≤ 2 by omega)
   have s3:∀ a b c,(reTag 4 (yX5 (reTag 4 t4) a b c none)).es = 4:=fun a b c => yQ2 (yQt e4 a b c)
   generalize haS:yZh ca rule r (.mk op nm us [a,b]) term name = addSS
   have hA0:addSS = (addS ca rule (.mk op nm us [a,b]) a b,0):=by rw [← haS,yJ7 hf (fun _ => hop) (by rw [hr])]; rfl
   have hv:addSS = ([⟨[impF a b,impF b a],[]⟩],0):=by rw [hA0,show addS ca rule (.mk op nm us [a,b]) a b = [⟨[impF a b,impF b a],[]⟩] from by rw [hru]; rfl]
   rw [hv]
   simp -implicitDefEqProofs -dsimp only [go_sem,fits,k4,k5,k6,k7,dt,ds,Int.reduceNe,ne_eq,nFt,nTf,Int.reduceEq,yQ1,yQy,k8,s1,s2,s3,yQ2 e4,Int.le_refl,Int.toNat_zero]
   intros
   repeat (refine (yJk gl _ _ _ _ _).mono ?_; rintro _ _ ⟨rfl,rfl⟩; simp -implicitDefEqProofs -dsimp only [go_sem,fits,k4,k5,k6,k7,dt,ds,Int.reduceNe,ne_eq,nFt,nTf,Int.reduceEq,yQ1,yQy,k8,s1,s2,s3,yQ2 e4])
   refine yQ0 ⟨_,_,rfl,.inr rfl,⟨_,_,rfl,⟨_,_,_,_,rfl,.inr rfl,?_,.inl rfl,rfl⟩,rfl⟩,rfl⟩
   simp only [IsFms,impF,IsFm]
   exact ⟨_,_,rfl,⟨_,_,_,_,rfl,by omega,.inl rfl,rfl,e4,⟨_,_,rfl,hya,_,_,rfl,hyb,rfl⟩⟩,_,_,rfl,⟨_,_,_,_,rfl,by omega,.inl rfl,rfl,.inr rfl,⟨_,_,rfl,hyb,_,_,rfl,hya,rfl⟩⟩,rfl⟩
  ·have dt:decide (((rule:Nat):Int) = 12) = true:=dEt (by omega)
   have ds:∀ j:Int,j ≠ 12 → decide (((rule:Nat):Int) = j) = false:=fun j hj => dEf (by omega)
   have hrop:r.op = 7:=by rw [hr]
   have k6:decide (r.op = 0) = false:=dEf (by omega)
   by_cases hop:op = r.op
   case neg =>
    rw [hmain (by omega) hop]
    have k7:decide (op = r.op) = false:=dEf hop
    simp -implicitDefEqProofs -dsimp only [go_sem,fits,k4,k5,k6,k7]
    intros
    exact yQ0 ⟨_,_,rfl,.inl rfl,rfl,rfl⟩
   have k7:decide (op = r.op) = true:=dEt hop
   obtain ⟨a,b,rfl⟩:∃ a b,sub = [a,b]:=by
    have:=hlen.2 (by omega)
    match sub,this with
    | [a,b],_ => exact ⟨a,b,rfl⟩
   simp only [IsFms] at i4
   obtain ⟨ya,_,rfl,hya,yb,_,rfl,hyb,rfl⟩:=i4
   obtain ⟨oa,na,ta1,xa1,ta2,xa2,rfl⟩:=hya.agg
   obtain ⟨ob,nb,tb1,xb1,tb2,xb2,rfl⟩:=hyb.agg
   have k8:decide ((0:Int) < ((2:Nat):Int)) = true:=rfl
   have s1:=yZn (show 1 ≤ 2 by omega)
   have s2:=yZm (show 1 ≤ 2 by omega)
   have s3:∀ a b c,(reTag 4 (yX5 (reTag 4 t4) a b c none)).es = 4:=fun a b c => yQ2 (yQt e4 a b c)
   generalize haS:yZh ca rule r (.mk op nm us [a,b]) term name = addSS
   have hA0:addSS = (addS ca rule (.mk op nm us [a,b]) a b,0):=by rw [← haS,yJ7 hf (fun _ => hop) (by rw [hr])]; rfl
   have hv:addSS = ([⟨[a],[b]⟩,⟨[b],[a]⟩],0):=by rw [hA0,show addS ca rule (.mk op nm us [a,b]) a b = [⟨[a],[b]⟩,⟨[b],[a]⟩] from by rw [hru]; rfl]
   rw [hv]
   simp -implicitDefEqProofs -dsimp only [go_sem,fits,k4,k5,k6,k7,dt,ds,Int.reduceNe,ne_eq,nFt,nTf,Int.reduceEq,yQ1,yQy,k8,s1,s2,s3,yQ2 e4]
   intros
   repeat (refine (yJk gl _ _ _ _ _).mono ?_; rintro _ _ ⟨rfl,rfl⟩; simp -implicitDefEqProofs -dsimp only [go_sem,fits,k4,k5,k6,k7,dt,ds,Int.reduceNe,ne_eq,nFt,nTf,Int.reduceEq,yQ1,yQy,k8,s1,s2,s3,yQ2 e4])
   exact yQ0 ⟨_,_,rfl,.inr rfl,⟨_,_,rfl,⟨_,_,_,_,rfl,yQt e4 _ _ _,⟨_,_,rfl,hya,rfl⟩,yQt e4 _ _ _,⟨_,_,rfl,hyb,rfl⟩⟩,⟨_,_,rfl,⟨_,_,_,_,rfl,yQt e4 _ _ _,⟨_,_,rfl,hyb,rfl⟩,yQt e4 _ _ _,⟨_,_,rfl,hya,rfl⟩⟩,rfl⟩⟩,rfl⟩
  ·have dt:decide (((rule:Nat):Int) = 13) = true:=dEt (by omega)
   have ds:∀ j:Int,j ≠ 13 → decide (((rule:Nat):Int) = j) = false:=fun j hj => dEf (by omega)
   have hrop:r.op = 8:=by rw [hr]
   have k6:decide (r.op = 0) = false:=dEf (by omega)
   by_cases hop:op = r.op
   case neg =>
    rw [hmain (by omega) hop]
    have k7:decide (op = r.op) = false:=dEf hop
    simp -implicitDefEqProofs -dsimp only [go_sem,fits,k4,k5,k6,k7]
    intros
    exact yQ0 ⟨_,_,rfl,.inl rfl,rfl,rfl⟩
   have k7:decide (op = r.op) = true:=dEt hop
   obtain ⟨a,rfl⟩:∃ a,sub = [a]:=by
    have:=hlen.1 (by omega)
    match sub,this with
    | [a],_ => exact ⟨a,rfl⟩
   simp only [IsFms] at i4
   obtain ⟨ya,_,rfl,hya,rfl⟩:=i4
   obtain ⟨oa,na,ta1,xa1,ta2,xa2,rfl⟩:=hya.agg
   have k8:decide ((0:Int) < ((1:Nat):Int)) = true:=rfl
   have s1:=yZn (show 1 ≤ 1 by omega)
   have s2:=yZm (show 1 ≤ 1 by omega)
   have s3:∀ a b c,(reTag 4 (yX5 (reTag 4 t4) a b c none)).es = 4:=fun a b c => yQ2 (yQt e4 a b c)
   have hT:=fun st => zJ8 gl term _ hz0 (by omega) st
   have hP:=fun st => xK3 gl a _ hya (by simp only [Fm.size,yQ8] at hm; have:=(zQi.1 hf).2.1; simp only [Fm.size,yQ8] at this; omega) nm term _ hz0 (by omega) st
   generalize haS:yZh ca rule r (.mk op nm us [a]) term name = addSS
   have hA0:=haS.symm.trans (zXk (t:=term) hf (fun _ => hop) (by rw [hr]; decide) (by rw [hr]; rfl))
   simp only [Fm.subs,Fm.nm,List.getElem?_cons_zero,Option.getD_some] at hA0
   simp -implicitDefEqProofs -dsimp only [go_sem,fits,k4,k5,k6,k7,dt,ds,Int.reduceNe,ne_eq,nFt,nTf,Int.reduceEq,yQ1,yQy,k8,s1,s2,s3,yQ2 e4]
   intros
   refine (hT _).mono ?_
   rintro _ st ⟨rfl,rfl⟩
   cases hok:term.ok
   ·rw [hok] at hA0
    rw [hA0]
    simp -implicitDefEqProofs -dsimp only [go_sem,fits,k4,k5,k6,k7,dt,ds,Int.reduceNe,ne_eq,nFt,nTf,Int.reduceEq,yQ1,yQy,k8,s1,s2,s3,yQ2 e4]
    exact yQ0 ⟨_,_,rfl,.inl rfl,rfl,rfl⟩
   rw [hok] at hA0
   rw [if_neg (by decide)] at hA0
   simp -implicitDefEqProofs -dsimp only [go_sem,fits,k4,k5,k6,k7,dt,ds,Int.reduceNe,ne_eq,nFt,nTf,Int.reduceEq,yQ1,yQy,k8,s1,s2,s3,yQ2 e4,Int.le_refl,Int.toNat_zero]
   intros
   refine (hP _).mono ?_
   rintro _ st ⟨yg,rfl,hg,rfl⟩
   obtain ⟨og,ng,tg1,xg1,tg2,xg2,rfl⟩:=hg.agg
   rcases wJ3 hA0.symm with ⟨he,hA1⟩ | ⟨he,hA1⟩
   ·have k9:decide ((((yZb a [(nm,term)]).2:Nat):Int) = 0) = false:=dEf (by omega)
    rw [← hA1]
    simp -implicitDefEqProofs -dsimp only [go_sem,fits,k4,k5,k6,k7,dt,ds,Int.reduceNe,ne_eq,nFt,nTf,Int.reduceEq,yQ1,yQy,k8,s1,s2,s3,yQ2 e4,k9]
    exact yQ0 ⟨_,_,rfl,.inl rfl,rfl,rfl⟩
   ·have k9:decide ((((yZb a [(nm,term)]).2:Nat):Int) = 0) = true:=dEt (by omega)
    rw [← hA1,show ∀ A B,addS ca rule (.mk op nm us [a]) A B = [⟨[A],[]⟩] from fun A B => by rw [hru]; rfl]
    simp -implicitDefEqProofs -dsimp only [go_sem,fits,k4,k5,k6,k7,dt,ds,Int.reduceNe,ne_eq,nFt,nTf,Int.reduceEq,yQ1,yQy,k8,s1,s2,s3,yQ2 e4,k9]
    intros
    repeat (refine (yJk gl _ _ _ _ _).mono ?_; rintro _ _ ⟨rfl,rfl⟩; simp -implicitDefEqProofs -dsimp only [go_sem,fits,k4,k5,k6,k7,dt,ds,Int.reduceNe,ne_eq,nFt,nTf,Int.reduceEq,yQ1,yQy,k8,s1,s2,s3,yQ2 e4])
    exact yQ0 ⟨_,_,rfl,.inr rfl,⟨_,_,rfl,⟨_,_,_,_,rfl,.inr rfl,⟨_,_,rfl,hg,rfl⟩,.inl rfl,rfl⟩,rfl⟩,rfl⟩
  ·have dt:decide (((rule:Nat):Int) = 14) = true:=dEt (by omega)
   have ds:∀ j:Int,j ≠ 14 → decide (((rule:Nat):Int) = j) = false:=fun j hj => dEf (by omega)
   have hrop:r.op = 8:=by rw [hr]
   have k6:decide (r.op = 0) = false:=dEf (by omega)
   by_cases hop:op = r.op
   case neg =>
    rw [hmain (by omega) hop]
    have k7:decide (op = r.op) = false:=dEf hop
    simp -implicitDefEqProofs -dsimp only [go_sem,fits,k4,k5,k6,k7]
    intros
    exact yQ0 ⟨_,_,rfl,.inl rfl,rfl,rfl⟩
   have k7:decide (op = r.op) = true:=dEt hop
   obtain ⟨a,rfl⟩:∃ a,sub = [a]:=by
    have:=hlen.1 (by omega)
    match sub,this with
    | [a],_ => exact ⟨a,rfl⟩
   simp only [IsFms] at i4
   obtain ⟨ya,_,rfl,hya,rfl⟩:=i4
   obtain ⟨oa,na,ta1,xa1,ta2,xa2,rfl⟩:=hya.agg
   have k8:decide ((0:Int) < ((1:Nat):Int)) = true:=rfl
   have s1:=yZn (show 1 ≤ 1 by omega)
   have s2:=yZm (show 1 ≤ 1 by omega)
   have s3:∀ a b c,(reTag 4 (yX5 (reTag 4 t4) a b c none)).es = 4:=fun a b c => yQ2 (yQt e4 a b c)
   have hT:=fun st => zJ8 gl (Tm.mk true name []) (.agg [.raw (.bool true),.raw (.string name),.sl ⟨true,.nil,0⟩ []]) ⟨⟨true,.nil,0⟩,[],rfl,.inl rfl,rfl⟩ (by simp [Tm.size,yQ7]) st
   have hP:=fun st => xK3 gl a _ hya (by simp only [Fm.size,yQ8] at hm; have:=(zQi.1 hf).2.1; simp only [Fm.size,yQ8] at this; omega) nm (Tm.mk true name []) (.agg [.raw (.bool true),.raw (.string name),.sl ⟨true,.nil,0⟩ []]) ⟨⟨true,.nil,0⟩,[],rfl,.inl rfl,rfl⟩ (by simp [Tm.size,yQ7]) st
   generalize haS:yZh ca rule r (.mk op nm us [a]) term name = addSS
   have hA0:=haS.symm.trans (zXk (t:=(Tm.mk true name [])) hf (fun _ => hop) (by rw [hr]; decide) (by rw [hr]; rfl))
   simp only [Fm.subs,Fm.nm,List.getElem?_cons_zero,Option.getD_some] at hA0
   have hV:=fun st => yJu gl name st
   simp -implicitDefEqProofs -dsimp only [go_sem,fits,k4,k5,k6,k7,dt,ds,Int.reduceNe,ne_eq,nFt,nTf,Int.reduceEq,yQ1,yQy,k8,s1,s2,s3,yQ2 e4]
   intros
   refine (hV _).mono ?_
   rintro _ st ⟨rfl,rfl⟩
   cases hnv:yKk name
   ·rw [if_pos (show (Tm.mk true name []).ok = false from by simp [Tm.ok,hnv])] at hA0
    rw [hA0]
    simp -implicitDefEqProofs -dsimp only [go_sem,fits]
    exact yQ0 ⟨_,_,rfl,.inl rfl,rfl,rfl⟩
   have hok:(Tm.mk true name []).ok = true:=by simp [Tm.ok,hnv]
   rw [hok] at hT
   simp -implicitDefEqProofs -dsimp only [go_sem,fits,k4,k5,k6,k7,dt,ds,Int.reduceNe,ne_eq,nFt,nTf,Int.reduceEq,yQ1,yQy,k8,s1,s2,s3,yQ2 e4]
   refine (hT _).mono ?_
   rintro _ st ⟨rfl,rfl⟩
   rw [hok] at hA0
   rw [if_neg (by decide)] at hA0
   simp -implicitDefEqProofs -dsimp only [go_sem,fits,k4,k5,k6,k7,dt,ds,Int.reduceNe,ne_eq,nFt,nTf,Int.reduceEq,yQ1,yQy,k8,s1,s2,s3,yQ2 e4,Int.le_refl,Int.toNat_zero]
   intros
   refine (hP _).mono ?_
   rintro _ st ⟨yg,rfl,hg,rfl⟩
   obtain ⟨og,ng,tg1,xg1,tg2,xg2,rfl⟩:=hg.agg
   rcases wJ3 hA0.symm with ⟨he,hA1⟩ | ⟨he,hA1⟩
   ·have k9:decide ((((yZb a [(nm,(Tm.mk true name []))]).2:Nat):Int) = 0) = false:=dEf (by omega)
    rw [← hA1]
    simp -implicitDefEqProofs -dsimp only [go_sem,fits,k4,k5,k6,k7,dt,ds,Int.reduceNe,ne_eq,nFt,nTf,Int.reduceEq,yQ1,yQy,k8,s1,s2,s3,yQ2 e4,k9]
    exact yQ0 ⟨_,_,rfl,.inl rfl,rfl,rfl⟩
   ·have k9:decide ((((yZb a [(nm,(Tm.mk true name []))]).2:Nat):Int) = 0) = true:=dEt (by omega)
    rw [← hA1,show ∀ A B,addS ca rule (.mk op nm us [a]) A B = [⟨[],[A]⟩] from fun A B => by rw [hru]; rfl]
    simp -implicitDefEqProofs -dsimp only [go_sem,fits,k4,k5,k6,k7,dt,ds,Int.reduceNe,ne_eq,nFt,nTf,Int.reduceEq,yQ1,yQy,k8,s1,s2,s3,yQ2 e4,k9]
    intros
    repeat (refine (yJk gl _ _ _ _ _).mono ?_; rintro _ _ ⟨rfl,rfl⟩; simp -implicitDefEqProofs -dsimp only [go_sem,fits,k4,k5,k6,k7,dt,ds,Int.reduceNe,ne_eq,nFt,nTf,Int.reduceEq,yQ1,yQy,k8,s1,s2,s3,yQ2 e4])
    exact yQ0 ⟨_,_,rfl,.inr rfl,⟨_,_,rfl,⟨_,_,_,_,rfl,.inl rfl,rfl,.inr rfl,⟨_,_,rfl,hg,rfl⟩⟩,rfl⟩,rfl⟩
  ·have dt:decide (((rule:Nat):Int) = 15) = true:=dEt (by omega)
   have ds:∀ j:Int,j ≠ 15 → decide (((rule:Nat):Int) = j) = false:=fun j hj => dEf (by omega)
   have hrop:r.op = 9:=by rw [hr]
   have k6:decide (r.op = 0) = false:=dEf (by omega)
   by_cases hop:op = r.op
   case neg =>
    rw [hmain (by omega) hop]
    have k7:decide (op = r.op) = false:=dEf hop
    simp -implicitDefEqProofs -dsimp only [go_sem,fits,k4,k5,k6,k7]
    intros
    exact yQ0 ⟨_,_,rfl,.inl rfl,rfl,rfl⟩
   have k7:decide (op = r.op) = true:=dEt hop
   obtain ⟨a,rfl⟩:∃ a,sub = [a]:=by
    have:=hlen.1 (by omega)
    match sub,this with
    | [a],_ => exact ⟨a,rfl⟩
   simp only [IsFms] at i4
   obtain ⟨ya,_,rfl,hya,rfl⟩:=i4
   obtain ⟨oa,na,ta1,xa1,ta2,xa2,rfl⟩:=hya.agg
   have k8:decide ((0:Int) < ((1:Nat):Int)) = true:=rfl
   have s1:=yZn (show 1 ≤ 1 by omega)
   have s2:=yZm (show 1 ≤ 1 by omega)
   have s3:∀ a b c,(reTag 4 (yX5 (reTag 4 t4) a b c none)).es = 4:=fun a b c => yQ2 (yQt e4 a b c)
   have hT:=fun st => zJ8 gl (Tm.mk true name []) (.agg [.raw (.bool true),.raw (.string name),.sl ⟨true,.nil,0⟩ []]) ⟨⟨true,.nil,0⟩,[],rfl,.inl rfl,rfl⟩ (by simp [Tm.size,yQ7]) st
   have hP:=fun st => xK3 gl a _ hya (by simp only [Fm.size,yQ8] at hm; have:=(zQi.1 hf).2.1; simp only [Fm.size,yQ8] at this; omega) nm (Tm.mk true name []) (.agg [.raw (.bool true),.raw (.string name),.sl ⟨true,.nil,0⟩ []]) ⟨⟨true,.nil,0⟩,[],rfl,.inl rfl,rfl⟩ (by simp [Tm.size,yQ7]) st
   generalize haS:yZh ca rule r (.mk op nm us [a]) term name = addSS
   have hA0:=haS.symm.trans (zXk (t:=(Tm.mk true name [])) hf (fun _ => hop) (by rw [hr]; decide) (by rw [hr]; rfl))
   simp only [Fm.subs,Fm.nm,List.getElem?_cons_zero,Option.getD_some] at hA0
   have hV:=fun st => yJu gl name st
   simp -implicitDefEqProofs -dsimp only [go_sem,fits,k4,k5,k6,k7,dt,ds,Int.reduceNe,ne_eq,nFt,nTf,Int.reduceEq,yQ1,yQy,k8,s1,s2,s3,yQ2 e4]
   intros
   refine (hV _).mono ?_
   rintro _ st ⟨rfl,rfl⟩
   cases hnv:yKk name
   ·rw [if_pos (show (Tm.mk true name []).ok = false from by simp [Tm.ok,hnv])] at hA0
    rw [hA0]
    simp -implicitDefEqProofs -dsimp only [go_sem,fits]
    exact yQ0 ⟨_,_,rfl,.inl rfl,rfl,rfl⟩
   have hok:(Tm.mk true name []).ok = true:=by simp [Tm.ok,hnv]
   rw [hok] at hT
   simp -implicitDefEqProofs -dsimp only [go_sem,fits,k4,k5,k6,k7,dt,ds,Int.reduceNe,ne_eq,nFt,nTf,Int.reduceEq,yQ1,yQy,k8,s1,s2,s3,yQ2 e4]
   refine (hT _).mono ?_
   rintro _ st ⟨rfl,rfl⟩
   rw [hok] at hA0
   rw [if_neg (by decide)] at hA0
   simp -implicitDefEqProofs -dsimp only [go_sem,fits,k4,k5,k6,k7,dt,ds,Int.reduceNe,ne_eq,nFt,nTf,Int.reduceEq,yQ1,yQy,k8,s1,s2,s3,yQ2 e4,Int.le_refl,Int.toNat_zero]
   intros
   refine (hP _).mono ?_
   rintro _ st ⟨yg,rfl,hg,rfl⟩
   obtain ⟨og,ng,tg1,xg1,tg2,xg2,rfl⟩:=hg.agg
   rcases wJ3 hA0.symm with ⟨he,hA1⟩ | ⟨he,hA1⟩
   ·have k9:decide ((((yZb a [(nm,(Tm.mk true name []))]).2:Nat):Int) = 0) = false:=dEf (by omega)
    rw [← hA1]
    simp -implicitDefEqProofs -dsimp only [go_sem,fits,k4,k5,k6,k7,dt,ds,Int.reduceNe,ne_eq,nFt,nTf,Int.reduceEq,yQ1,yQy,k8,s1,s2,s3,yQ2 e4,k9]
    exact yQ0 ⟨_,_,rfl,.inl rfl,rfl,rfl⟩
   ·have k9:decide ((((yZb a [(nm,(Tm.mk true name []))]).2:Nat):Int) = 0) = true:=dEt (by omega)
    rw [← hA1,show ∀ A B,addS ca rule (.mk op nm us [a]) A B = [⟨[A],[]⟩] from fun A B => by rw [hru]; rfl]
    simp -implicitDefEqProofs -dsimp only [go_sem,fits,k4,k5,k6,k7,dt,ds,Int.reduceNe,ne_eq,nFt,nTf,Int.reduceEq,yQ1,yQy,k8,s1,s2,s3,yQ2 e4,k9]
    intros
    repeat (refine (yJk gl _ _ _ _ _).mono ?_; rintro _ _ ⟨rfl,rfl⟩; simp -implicitDefEqProofs -dsimp only [go_sem,fits,k4,k5,k6,k7,dt,ds,Int.reduceNe,ne_eq,nFt,nTf,Int.reduceEq,yQ1,yQy,k8,s1,s2,s3,yQ2 e4])
    exact yQ0 ⟨_,_,rfl,.inr rfl,⟨_,_,rfl,⟨_,_,_,_,rfl,.inr rfl,⟨_,_,rfl,hg,rfl⟩,.inl rfl,rfl⟩,rfl⟩,rfl⟩
  ·have dt:decide (((rule:Nat):Int) = 16) = true:=dEt (by omega)
   have ds:∀ j:Int,j ≠ 16 → decide (((rule:Nat):Int) = j) = false:=fun j hj => dEf (by omega)
   have hrop:r.op = 9:=by rw [hr]
   have k6:decide (r.op = 0) = false:=dEf (by omega)
   by_cases hop:op = r.op
   case neg =>
    rw [hmain (by omega) hop]
    have k7:decide (op = r.op) = false:=dEf hop
    simp -implicitDefEqProofs -dsimp only [go_sem,fits,k4,k5,k6,k7]
    intros
    exact yQ0 ⟨_,_,rfl,.inl rfl,rfl,rfl⟩
   have k7:decide (op = r.op) = true:=dEt hop
   obtain ⟨a,rfl⟩:∃ a,sub = [a]:=by
    have:=hlen.1 (by omega)
    match sub,this with
    | [a],_ => exact ⟨a,rfl⟩
   simp only [IsFms] at i4
   obtain ⟨ya,_,rfl,hya,rfl⟩:=i4
   obtain ⟨oa,na,ta1,xa1,ta2,xa2,rfl⟩:=hya.agg
   have k8:decide ((0:Int) < ((1:Nat):Int)) = true:=rfl
   have s1:=yZn (show 1 ≤ 1 by omega)
   have s2:=yZm (show 1 ≤ 1 by omega)
   have s3:∀ a b c,(reTag 4 (yX5 (reTag 4 t4) a b c none)).es = 4:=fun a b c => yQ2 (yQt e4 a b c)
   have hT:=fun st => zJ8 gl term _ hz0 (by omega) st
   have hP:=fun st => xK3 gl a _ hya (by simp only [Fm.size,yQ8] at hm; have:=(zQi.1 hf).2.1; simp only [Fm.size,yQ8] at this; omega) nm term _ hz0 (by omega) st
   generalize haS:yZh ca rule r (.mk op nm us [a]) term name = addSS
   have hA0:=haS.symm.trans (zXk (t:=term) hf (fun _ => hop) (by rw [hr]; decide) (by rw [hr]; rfl))
   simp only [Fm.subs,Fm.nm,List.getElem?_cons_zero,Option.getD_some] at hA0
   simp -implicitDefEqProofs -dsimp only [go_sem,fits,k4,k5,k6,k7,dt,ds,Int.reduceNe,ne_eq,nFt,nTf,Int.reduceEq,yQ1,yQy,k8,s1,s2,s3,yQ2 e4]
   intros
   refine (hT _).mono ?_
   rintro _ st ⟨rfl,rfl⟩
   cases hok:term.ok
   ·rw [hok] at hA0
    rw [hA0]
    simp -implicitDefEqProofs -dsimp only [go_sem,fits,k4,k5,k6,k7,dt,ds,Int.reduceNe,ne_eq,nFt,nTf,Int.reduceEq,yQ1,yQy,k8,s1,s2,s3,yQ2 e4]
    exact yQ0 ⟨_,_,rfl,.inl rfl,rfl,rfl⟩
   rw [hok] at hA0
   rw [if_neg (by decide)] at hA0
   simp -implicitDefEqProofs -dsimp only [go_sem,fits,k4,k5,k6,k7,dt,ds,Int.reduceNe,ne_eq,nFt,nTf,Int.reduceEq,yQ1,yQy,k8,s1,s2,s3,yQ2 e4,Int.le_refl,Int.toNat_zero]
   intros
   refine (hP _).mono ?_
   rintro _ st ⟨yg,rfl,hg,rfl⟩
   obtain ⟨og,ng,tg1,xg1,tg2,xg2,rfl⟩:=hg.agg
   rcases wJ3 hA0.symm with ⟨he,hA1⟩ | ⟨he,hA1⟩
   ·have k9:decide ((((yZb a [(nm,term)]).2:Nat):Int) = 0) = false:=dEf (by omega)
    rw [← hA1]
    simp -implicitDefEqProofs -dsimp only [go_sem,fits,k4,k5,k6,k7,dt,ds,Int.reduceNe,ne_eq,nFt,nTf,Int.reduceEq,yQ1,yQy,k8,s1,s2,s3,yQ2 e4,k9]
    exact yQ0 ⟨_,_,rfl,.inl rfl,rfl,rfl⟩
   ·have k9:decide ((((yZb a [(nm,term)]).2:Nat):Int) = 0) = true:=dEt (by omega)
    rw [← hA1,show ∀ A B,addS ca rule (.mk op nm us [a]) A B = [⟨[],[A]⟩] from fun A B => by rw [hru]; rfl]
    simp -implicitDefEqProofs -dsimp only [go_sem,fits,k4,k5,k6,k7,dt,ds,Int.reduceNe,ne_eq,nFt,nTf,Int.reduceEq,yQ1,yQy,k8,s1,s2,s3,yQ2 e4,k9]
    intros
    repeat (refine (yJk gl _ _ _ _ _).mono ?_; rintro _ _ ⟨rfl,rfl⟩; simp -implicitDefEqProofs -dsimp only [go_sem,fits,k4,k5,k6,k7,dt,ds,Int.reduceNe,ne_eq,nFt,nTf,Int.reduceEq,yQ1,yQy,k8,s1,s2,s3,yQ2 e4])
    exact yQ0 ⟨_,_,rfl,.inr rfl,⟨_,_,rfl,⟨_,_,_,_,rfl,.inl rfl,rfl,.inr rfl,⟨_,_,rfl,hg,rfl⟩⟩,rfl⟩,rfl⟩
  ·have dt:decide (((rule:Nat):Int) = 17) = true:=dEt (by omega)
   have ds:∀ j:Int,j ≠ 17 → decide (((rule:Nat):Int) = j) = false:=fun j hj => dEf (by omega)
   have hrop:r.op = 0:=by rw [hr]
   have k6:decide (r.op = 0) = true:=dEt hrop
   rw [yJ7 hf (fun h => absurd hrop h) (by rw [hr]),show ∀ A B,addS ca rule (.mk op nm us sub) A B = [⟨[],[.mk op nm us sub]⟩,⟨[.mk op nm us sub],[]⟩] from fun A B => by rw [hru]; rfl]
   by_cases hsl:sub.length = 0
   ·have k8:decide ((0:Int) < ((sub.length:Nat):Int)) = false:=dEf (by omega)
    simp -implicitDefEqProofs -dsimp only [go_sem,fits,k4,k5,k6,dt,ds,Int.reduceNe,ne_eq,nFt,nTf,Int.reduceEq,yQ1,yQy,i4.len,k8]
    intros
    repeat (refine (yJk gl _ _ _ _ _).mono ?_; rintro _ _ ⟨rfl,rfl⟩; simp -implicitDefEqProofs -dsimp only [go_sem,fits,k4,k5,k6,dt,ds,Int.reduceNe,ne_eq,nFt,nTf,Int.reduceEq,yQ1,yQy])
    exact yQ0 ⟨_,_,rfl,.inr rfl,⟨_,_,rfl,⟨_,_,_,_,rfl,.inl rfl,rfl,.inr rfl,⟨_,_,rfl,hy0,rfl⟩⟩,⟨_,_,rfl,⟨_,_,_,_,rfl,.inr rfl,⟨_,_,rfl,hy0,rfl⟩,.inl rfl,rfl⟩,rfl⟩⟩,rfl⟩
   ·have k8:decide ((0:Int) < ((sub.length:Nat):Int)) = true:=dEt (by omega)
    simp -implicitDefEqProofs -dsimp only [go_sem,fits,k4,k5,k6,dt,ds,Int.reduceNe,ne_eq,nFt,nTf,Int.reduceEq,yQ1,yQy,i4.len,k8,yZn (show 1 ≤ sub.length by omega),yZm (show 1 ≤ sub.length by omega),yQ2 e4]
    intros
    repeat (refine (yJk gl _ _ _ _ _).mono ?_; rintro _ _ ⟨rfl,rfl⟩; simp -implicitDefEqProofs -dsimp only [go_sem,fits,k4,k5,k6,dt,ds,Int.reduceNe,ne_eq,nFt,nTf,Int.reduceEq,yQ1,yQy])
    exact yQ0 ⟨_,_,rfl,.inr rfl,⟨_,_,rfl,⟨_,_,_,_,rfl,.inl rfl,rfl,.inr rfl,⟨_,_,rfl,hy0,rfl⟩⟩,⟨_,_,rfl,⟨_,_,_,_,rfl,.inr rfl,⟨_,_,rfl,hy0,rfl⟩,.inl rfl,rfl⟩,rfl⟩⟩,rfl⟩
  ·have dt:decide (((rule:Nat):Int) = 18) = true:=dEt (by omega)
   have ds:∀ j:Int,j ≠ 18 → decide (((rule:Nat):Int) = j) = false:=fun j hj => dEf (by omega)
   have hrop:r.op = 5:=by rw [hr]
   have k6:decide (r.op = 0) = false:=dEf (by omega)
   by_cases hop:op = r.op
   case neg =>
    rw [hmain (by omega) hop]
    have k7:decide (op = r.op) = false:=dEf hop
    simp -implicitDefEqProofs -dsimp only [go_sem,fits,k4,k5,k6,k7]
    intros
    exact yQ0 ⟨_,_,rfl,.inl rfl,rfl,rfl⟩
   have k7:decide (op = r.op) = true:=dEt hop
   obtain ⟨a,b,rfl⟩:∃ a b,sub = [a,b]:=by
    have:=hlen.2 (by omega)
    match sub,this with
    | [a,b],_ => exact ⟨a,b,rfl⟩
   simp only [IsFms] at i4
   obtain ⟨ya,_,rfl,hya,yb,_,rfl,hyb,rfl⟩:=i4
   obtain ⟨oa,na,ta1,xa1,ta2,xa2,rfl⟩:=hya.agg
   obtain ⟨ob,nb,tb1,xb1,tb2,xb2,rfl⟩:=hyb.agg
   have k8:decide ((0:Int) < ((2:Nat):Int)) = true:=rfl
   have s1:=yZn (show 1 ≤ 2 by omega)
   have s2:=yZm (show 1 ≤ 2 by omega)
   have s3:∀ a b c,(reTag 4 (yX5 (reTag 4 t4) a b c none)).es = 4:=fun a b c => yQ2 (yQt e4 a b c)
   generalize haS:yZh ca rule r (.mk op nm us [a,b]) term name = addSS
   have hA0:addSS = (addS ca rule (.mk op nm us [a,b]) a b,0):=by rw [← haS,yJ7 hf (fun _ => hop) (by rw [hr])]; rfl
   have hv:addSS = ([⟨[],[b]⟩],0):=by rw [hA0,show addS ca rule (.mk op nm us [a,b]) a b = [⟨[],[b]⟩] from by rw [hru]; rfl]
   rw [hv]
   simp -implicitDefEqProofs -dsimp only [go_sem,fits,k4,k5,k6,k7,dt,ds,Int.reduceNe,ne_eq,nFt,nTf,Int.reduceEq,yQ1,yQy,k8,s1,s2,s3,yQ2 e4]
   intros
   repeat (refine (yJk gl _ _ _ _ _).mono ?_; rintro _ _ ⟨rfl,rfl⟩; simp -implicitDefEqProofs -dsimp only [go_sem,fits,k4,k5,k6,k7,dt,ds,Int.reduceNe,ne_eq,nFt,nTf,Int.reduceEq,yQ1,yQy,k8,s1,s2,s3,yQ2 e4])
   exact yQ0 ⟨_,_,rfl,.inr rfl,⟨_,_,rfl,⟨_,_,_,_,rfl,.inl rfl,rfl,yQt e4 _ _ _,⟨_,_,rfl,hyb,rfl⟩⟩,rfl⟩,rfl⟩
end Go.Proofs.Tryz
namespace Go.Proofs.Tryz
open Go Go.Iv
end Go.Proofs.Tryz
namespace Go.Proofs.Tryz
open Go Go.Iv
set_option maxRecDepth 4000
variable (gl:Nat → Option IV)
theorem q_p (n:ByteArray) (t:Tag) (xs:List IV) (st:ISt):ICall prog gl 42 [.raw (.string n),.sl t xs] st (fun r st' => r = .agg [.raw (.int .u8 1),.raw (.string n),.sl t xs,.sl ⟨true,.nil,0⟩ []] ∧ st' = st):=by
 refine iI func42 rfl rfl (by kernel_rfl) ?_
 simp -implicitDefEqProofs -dsimp only [go_sem,fits]
 exact yQ0 ⟨rfl,rfl⟩
theorem q_no (o:Int) (n:ByteArray) (t:Tag) (x:List IV) (t':Tag) (x':List IV) (st:ISt):ICall prog gl 41 [.agg [.raw (.int .u8 o),.raw (.string n),.sl t x,.sl t' x']] st
  (fun r st' => r = .agg [.raw (.int .u8 3),.raw (.string ⟨#[]⟩),.sl ⟨true,.nil,0⟩ [],.sl ⟨true,.full,4⟩ [.agg [.raw (.int .u8 o),.raw (.string n),.sl t x,.sl t' x']]] ∧ st' = st):=by
 refine iI func41 rfl rfl (by kernel_rfl) ?_
 simp -implicitDefEqProofs -dsimp only [go_sem,fits,yQ1]
 exact yQ0 ⟨rfl,rfl⟩
theorem xX0 (op o:Int) (n:ByteArray) (t:Tag) (x:List IV) (t':Tag) (x':List IV) (o2:Int) (n2:ByteArray) (t2:Tag) (x2:List IV) (t2':Tag) (x2':List IV) (st:ISt) :
  ICall prog gl 46 [.raw (.int .u8 op),.agg [.raw (.int .u8 o),.raw (.string n),.sl t x,.sl t' x'],.agg [.raw (.int .u8 o2),.raw (.string n2),.sl t2 x2,.sl t2' x2']] st
  (fun r st' => r = .agg [.raw (.int .u8 op),.raw (.string ⟨#[]⟩),.sl ⟨true,.nil,0⟩ [],.sl ⟨true,.full,4⟩ [.agg [.raw (.int .u8 o),.raw (.string n),.sl t x,.sl t' x'],.agg [.raw (.int .u8 o2),.raw (.string n2),.sl t2 x2,.sl t2' x2']]] ∧ st' = st):=by
 refine iI func46 rfl rfl (by kernel_rfl) ?_
 simp -implicitDefEqProofs -dsimp only [go_sem,fits,yQa]
 exact yQ0 ⟨rfl,rfl⟩
theorem q_fs (t:Tag) (xs:List IV) (st:ISt):ICall prog gl 24 [.sl t xs] st (fun r st' => r = .sl t xs ∧ st' = st):=by
 refine iI func24 rfl rfl (by kernel_rfl) ?_
 simp -implicitDefEqProofs -dsimp only [go_sem,fits]
 exact yQ0 ⟨rfl,rfl⟩
theorem q_sq (t:Tag) (xs:List IV) (t':Tag) (ys:List IV) (st:ISt):ICall prog gl 26 [.sl t xs,.sl t' ys] st (fun r st' => r = .agg [.sl t xs,.sl t' ys] ∧ st' = st):=by
 refine iI func26 rfl rfl (by kernel_rfl) ?_
 simp -implicitDefEqProofs -dsimp only [go_sem,fits]
 exact yQ0 ⟨rfl,rfl⟩
theorem q_v (n:ByteArray) (st:ISt):ICall prog gl 58 [.raw (.string n)] st (fun r st' => r = .agg [.raw (.bool true),.raw (.string n),.sl ⟨true,.nil,0⟩ []] ∧ st' = st):=by
 refine iI func58 rfl rfl (by kernel_rfl) ?_
 simp -implicitDefEqProofs -dsimp only [go_sem,fits]
 exact yQ0 ⟨rfl,rfl⟩
end Go.Proofs.Tryz
