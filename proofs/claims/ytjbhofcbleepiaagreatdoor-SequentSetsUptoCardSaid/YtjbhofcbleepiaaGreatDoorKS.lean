/- Walks of the second program: names, righ -/
import Derived.Test.YtjbhofcbleepiaaGreatDoorJL
set_option linter.all false
namespace Go.Proofs.Tryz
open Go Go.Iv
set_option maxRecDepth 4000
variable (gl:Nat → Option IV)
theorem in_n (c:UInt8) (lo hi:Nat) (a b:Int) (ha:a = lo) (hb:b = hi) (st:ISt):ICall prog gl 113 [.raw (.int .u8 c.toNat),.raw (.int .u8 a),.raw (.int .u8 b)] st (fun x st' => x = .raw (.bool (inB lo hi c)) ∧ st' = st):=by
 subst ha hb
 have hleq:∀ x y:Int,binI prog 5 .leq (.int .u8 x) (.int .u8 y) = some (.bool (decide (x ≤ y))):=fun x y => by simp only [go_sem]
 refine iI func113 rfl rfl (by kernel_rfl) ?_
 by_cases h1:lo ≤ c.toNat
 ·simp -implicitDefEqProofs -dsimp only [go_sem,show decide ((lo:Int) ≤ (c.toNat:Int)) = true from dEt (by omega)]
  exact yQ0 ⟨by congr 3; simp [inB,h1],rfl⟩
 ·simp -implicitDefEqProofs -dsimp only [go_sem,show decide ((lo:Int) ≤ (c.toNat:Int)) = false from dEf (by omega)]
  exact yQ0 ⟨by simp [inB,h1],rfl⟩
def yVq (d:Bool) (c:UInt8):Bool:=yKm c || (!d && (yXx c || yWr c))
def yXo (d:Bool) (s:ByteArray):Bool :=
 match s.data.toList with
 | [] => false
 | _ :: cs => decide (cs.length < 16) && cs.all (yVq d)
theorem zJi (s:ByteArray) (d:Bool) (st:ISt):ICall prog gl 112 [.raw (.string s),.raw (.bool d)] st (fun x st' => x = .raw (.bool (yXo d s)) ∧ st' = st):=by
 refine iI func112 rfl rfl (by kernel_rfl) ?_
 have hsz:=zJ5 s
 cases hl:s.data.toList with
 | nil =>
  rw [hl] at hsz
  simp -implicitDefEqProofs -dsimp only [go_sem]
  refine LoopC.ctr 0 (fun k fr st' ds => fr 0 = .iv (.raw (.string s)) ∧ fr 5 = .iv (.raw (.int .i64 1)) ∧ st' = st ∧ ds = []) ?_ ?_ ?_
  ·simp -implicitDefEqProofs -dsimp only [go_sem]
  ·intro k _ _ _ h; omega
  ·rintro fr _ _ ⟨f0,f5,rfl,rfl⟩
   simp -implicitDefEqProofs -dsimp only [go_sem,f0,f5,show decide ((1:Int) < ((s.size:Nat):Int)) = false from dEf (by rw [hsz]; simp),show decide ((0:Int) < ((s.size:Nat):Int)) = false from dEf (by rw [hsz]; simp)]
   intros
   exact yQ0 ⟨by simp [yXo,hl],rfl⟩
 | cons c cs =>
  rw [hl,List.length_cons] at hsz
  simp -implicitDefEqProofs -dsimp only [go_sem]
  refine LoopC.ctr cs.length (fun k fr st' ds => (cs.take k).all (yVq d) = true ∧ fr 0 = .iv (.raw (.string s)) ∧ fr 1 = .iv (.raw (.bool d)) ∧ fr 5 = .iv (.raw (.int .i64 ((k + 1:Nat):Int))) ∧ st' = st ∧ ds = []) ?_ ?_ ?_
  ·simp -implicitDefEqProofs -dsimp only [go_sem]; rfl
  ·rintro k fr st _ hlt ⟨hn,f0,f1,f5,rfl,rfl⟩
   obtain ⟨x,hx⟩:=yQ3 hlt
   have hlt':decide (((k + 1:Nat):Int) < ((s.size:Nat):Int)) = true:=by rw [hsz]; simp; omega
   have hx':zGy s ((k + 1:Nat):Int) = some x:=zWx (by rw [hl]; simpa using hx)
   have hbad:yVq d x = false → yXo d s = false:=fun h => by
    have:cs.all (yVq d) = false:=by rw [List.all_eq_false]; exact ⟨x,lMg hx,by simp [h]⟩
    simp [yXo,hl,this]
   have hgood:yVq d x = true → (cs.take (k + 1)).all (yVq d) = true:=fun h => by
    rw [yQ5 hx,List.all_append,hn]; simp [h]
   simp -implicitDefEqProofs -dsimp only [go_sem,f0,f1,f5,hlt',hx']
   intro hlen
   have hw:IntKind.i64.wrap (((k + 1:Nat):Int) + 1) = ((k + 1 + 1:Nat):Int):=by rw [w64] <;> omega
   refine (in_n gl x 48 57 _ _ rfl rfl _).mono ?_
   rintro _ st ⟨rfl,rfl⟩
   cases h1:inB 48 57 x
   case true =>
    simp -implicitDefEqProofs -dsimp only [go_sem,f0,f1,f5,hw]
    exact hgood (by simp [yVq,yKm,h1])
   cases d
   case true =>
    simp -implicitDefEqProofs -dsimp only [go_sem,f0,f1,f5]
    exact yQ0 ⟨by rw [hbad (by simp [yVq,yKm,h1])],rfl⟩
   simp -implicitDefEqProofs -dsimp only [go_sem,f0,f1,f5,hx']
   refine (in_n gl x 65 90 _ _ rfl rfl _).mono ?_
   rintro _ st ⟨rfl,rfl⟩
   cases h2:inB 65 90 x
   case true =>
    simp -implicitDefEqProofs -dsimp only [go_sem,f0,f1,f5,hw]
    exact hgood (by simp [yVq,yXx,h2])
   simp -implicitDefEqProofs -dsimp only [go_sem,f0,f1,f5,hx']
   refine (in_n gl x 97 122 _ _ rfl rfl _).mono ?_
   rintro _ st ⟨rfl,rfl⟩
   cases h3:inB 97 122 x
   case true =>
    simp -implicitDefEqProofs -dsimp only [go_sem,f0,f1,f5,hw]
    exact hgood (by simp [yVq,yWr,h3])
   simp -implicitDefEqProofs -dsimp only [go_sem,f0,f1,f5]
   exact yQ0 ⟨by rw [hbad (by simp [yVq,yKm,yXx,yWr,h1,h2,h3])],rfl⟩
  ·rintro fr st _ ⟨hn,f0,f1,f5,rfl,rfl⟩
   rw [lTl] at hn
   simp -implicitDefEqProofs -dsimp only [go_sem,f0,f5,show decide (((cs.length + 1:Nat):Int) < ((s.size:Nat):Int)) = false from dEf (by rw [hsz]; simp),show decide ((0:Int) < ((s.size:Nat):Int)) = true from dEt (by rw [hsz]; omega)]
   intros
   refine yQ0 ⟨?_,rfl⟩
   congr 3
   simp only [yXo,hl,hn,Bool.and_true]
   rw [hsz]
   simp
   omega
theorem xU7 {p q:UInt8 → Bool} {s:ByteArray} {c:UInt8} {cs:List UInt8} (hl:s.data.toList = c :: cs) (h:p c = true) (hq:cs.all q = true)
  (hw:∀ w ∈ [wAll,xZe,zXr,xZf,yU2,zVc],(match w.data.toList with | [] => true | c :: cs => p c && cs.all q) = false):yXh s = false:=by
 have key:∀ w ∈ [wAll,xZe,zXr,xZf,yU2,zVc],s ≠ w:=fun w hm he => by
  have:=hw w hm
  rw [← he,hl] at this
  simp [h,hq] at this
 simp only [List.mem_cons,List.not_mem_nil,or_false,forall_eq_or_imp,forall_eq] at key
 obtain ⟨k1,k2,k3,k4,k5,k6⟩:=key
 unfold yXh
 rw [dEf k1,dEf k2,dEf k3,dEf k4,dEf k5,dEf k6]; rfl
theorem zQq:yVq true = yKm:=by funext c; simp [yVq]
theorem yV5:yVq false = yVw:=by
 funext c
 simp only [yVq,yVw,Bool.not_false,Bool.true_and]
 cases yKm c <;> cases yXx c <;> cases yWr c <;> rfl
theorem yUd {d:Bool} {s:ByteArray} (h:yXo d s = true):∃ c cs,s.data.toList = c :: cs ∧ cs.length < 16 ∧ cs.all (yVq d) = true:=by
 unfold yXo at h
 split at h
 ·cases h
 ·rename_i c cs hl
  simp only [bAt,dTe] at h
  exact ⟨c,cs,hl,h.1,h.2⟩
theorem yVb {p:UInt8 → Bool} {d:Bool} {s:ByteArray} {c:UInt8} {cs:List UInt8} (hl:s.data.toList = c :: cs) (hr:p c = true → cs.all (yVq d) = true → yXh s = false):yKf p (yVq d) s = (yXo d s && p c):=by
 simp only [yKf,yXo,hl]
 cases h1:p c
 ·simp
 ·cases h2:cs.all (yVq d)
  ·simp
  ·simp [hr h1 h2]
theorem zYm {p:UInt8 → Bool} {d:Bool} {s:ByteArray} (h:yXo d s = false):yKf p (yVq d) s = false:=by
 unfold yXo at h
 unfold yKf
 split
 ·rfl
 ·rename_i c cs hl
  rw [hl] at h
  simp only at h
  cases h1:decide (cs.length < 16) <;> cases h2:cs.all (yVq d) <;> simp_all
theorem yU8 (s:ByteArray) (st:ISt):ICall prog gl 66 [.raw (.string s)] st (fun x st' => x = .raw (.bool (yVu s)) ∧ st' = st):=by
 refine iI func66 rfl rfl (by kernel_rfl) ?_
 simp -implicitDefEqProofs -dsimp only [go_sem]
 refine (zJi gl s true _).mono ?_
 rintro _ st ⟨rfl,rfl⟩
 cases h:yXo true s
 ·simp -implicitDefEqProofs -dsimp only [go_sem]
  exact yQ0 ⟨by rw [yVu,← zQq,zYm h],rfl⟩
 ·obtain ⟨c,cs,hl,h16,hq⟩:=yUd h
  simp -implicitDefEqProofs -dsimp only [go_sem,yG5 hl]
  refine (in_n gl c 117 122 _ _ rfl rfl _).mono ?_
  rintro _ st ⟨rfl,rfl⟩
  simp -implicitDefEqProofs -dsimp only [go_sem]
  refine yQ0 ⟨?_,rfl⟩
  rw [yVu,← zQq,yVb hl (fun h1 h2 => xU7 hl h1 (by rw [zQq] at h2; exact h2) (by decide)),h,Bool.true_and]
theorem zUj (s:ByteArray) (st:ISt):ICall prog gl 263 [.raw (.string s)] st (fun x st' => x = .raw (.bool (zJe s)) ∧ st' = st):=by
 refine iI func263 rfl rfl (by kernel_rfl) ?_
 simp -implicitDefEqProofs -dsimp only [go_sem]
 refine (zJi gl s false _).mono ?_
 rintro _ st ⟨rfl,rfl⟩
 cases h:yXo false s
 ·simp -implicitDefEqProofs -dsimp only [go_sem]
  exact yQ0 ⟨by rw [zJe,← yV5,zYm h],rfl⟩
 ·obtain ⟨c,cs,hl,h16,hq⟩:=yUd h
  simp -implicitDefEqProofs -dsimp only [go_sem,yG5 hl]
  refine (in_n gl c 65 90 _ _ rfl rfl _).mono ?_
  rintro _ st ⟨rfl,rfl⟩
  simp -implicitDefEqProofs -dsimp only [go_sem]
  refine yQ0 ⟨?_,rfl⟩
  rw [zJe,← yV5,yVb hl (fun h1 h2 => xU7 hl h1 (by rw [yV5] at h2; exact h2) (by decide)),h,Bool.true_and]; rfl
theorem yW3 {s:ByteArray} (h:yXh s = true):zV3 s = false:=by
 unfold zV3 yKf
 split
 ·rfl
 ·simp [h]
theorem xX3 (s:ByteArray) (st:ISt):ICall prog gl 161 [.raw (.string s)] st (fun x st' => x = .raw (.bool (zV3 s)) ∧ st' = st):=by
 refine iI func161 rfl rfl (by kernel_rfl) ?_
 simp -implicitDefEqProofs -dsimp only [go_sem]
 refine yZ6 (fun h => ?_) (fun h => ?_)
 ·simp -implicitDefEqProofs -dsimp only [go_sem,h]
  exact yQ0 ⟨by rw [yW3 (by rw [show s = wAll from of_decide_eq_true h]; rfl)],rfl⟩
 have h1:s ≠ wAll:=of_decide_eq_false h
 simp -implicitDefEqProofs -dsimp only [go_sem,h]
 refine yZ6 (fun h => ?_) (fun h => ?_)
 ·simp -implicitDefEqProofs -dsimp only [go_sem,h]
  exact yQ0 ⟨by rw [yW3 (by rw [show s = xZe from of_decide_eq_true h]; rfl)],rfl⟩
 have h2:s ≠ xZe:=of_decide_eq_false h
 simp -implicitDefEqProofs -dsimp only [go_sem,h]
 refine yZ6 (fun h => ?_) (fun h => ?_)
 ·simp -implicitDefEqProofs -dsimp only [go_sem,h]
  exact yQ0 ⟨by rw [yW3 (by rw [show s = zXr from of_decide_eq_true h]; rfl)],rfl⟩
 have h3:s ≠ zXr:=of_decide_eq_false h
 simp -implicitDefEqProofs -dsimp only [go_sem,h]
 refine yZ6 (fun h => ?_) (fun h => ?_)
 ·simp -implicitDefEqProofs -dsimp only [go_sem,h]
  exact yQ0 ⟨by rw [yW3 (by rw [show s = xZf from of_decide_eq_true h]; rfl)],rfl⟩
 have h4:s ≠ xZf:=of_decide_eq_false h
 simp -implicitDefEqProofs -dsimp only [go_sem,h]
 refine yZ6 (fun h => ?_) (fun h => ?_)
 ·simp -implicitDefEqProofs -dsimp only [go_sem,h]
  exact yQ0 ⟨by rw [yW3 (by rw [show s = yU2 from of_decide_eq_true h]; rfl)],rfl⟩
 have h5:s ≠ yU2:=of_decide_eq_false h
 simp -implicitDefEqProofs -dsimp only [go_sem,h]
 refine (zJi gl s false _).mono ?_
 rintro _ st ⟨rfl,rfl⟩
 cases h:yXo false s
 ·simp -implicitDefEqProofs -dsimp only [go_sem]
  exact yQ0 ⟨by rw [zV3,← yV5,zYm h],rfl⟩
 ·obtain ⟨c,cs,hl,h16,hq⟩:=yUd h
  simp -implicitDefEqProofs -dsimp only [go_sem,yG5 hl]
  refine (in_n gl c 97 116 _ _ rfl rfl _).mono ?_
  rintro _ st ⟨rfl,rfl⟩
  simp -implicitDefEqProofs -dsimp only [go_sem]
  refine yQ0 ⟨?_,rfl⟩
  rw [zV3,← yV5,yVb hl (fun k1 _ => ?_),h,Bool.true_and]
  have h6:s ≠ zVc:=fun he => by
   rw [he] at hl
   have h7:(117:UInt8) = c:=(List.cons.inj hl).1
   rw [← h7] at k1
   exact absurd k1 (by decide)
  unfold yXh
  rw [dEf h1,dEf h2,dEf h3,dEf h4,dEf h5,dEf h6]; rfl
def RTm (t:Tm):Prop:=∀ (x:IV) (_:IsTm t x) (_:t.size ≤ 1099511627776) (st:ISt),ICall prog gl 114 [x,.raw (.bool false)] st (fun r st' => r = .raw (.bool t.ok) ∧ st' = st)
theorem yKd:∀ (l m:List Tm),yXu (l ++ m) = (yXu l && yXu m)
 | [],m => by simp [yXu]
 | a :: l,m => by simp only [List.cons_append,yXu,yKd l m,Bool.and_assoc]
theorem zUs {l:List Tm} {a:Tm} (h:a ∈ l) (ha:a.ok = false):yXu l = false:=by
 induction l with
 | nil => cases h
 | cons b l ih =>
  simp only [yXu]
  rcases List.mem_cons.1 h with rfl | h
  ·simp [ha]
  ·simp [ih h]
theorem yZi:∀ l:List Tm,l.length ≤ yQ8 l
 | [] => Nat.le_refl _
 | a :: l => by have:=yZi l; have:=a.size_pos; simp only [List.length_cons,yQ8]; omega
theorem yWi {l:List Tm} {a:Tm} (h:a ∈ l):a.size ≤ yQ8 l:=by
 induction l with
 | nil => cases h
 | cons b l ih =>
  simp only [yQ8]
  rcases List.mem_cons.1 h with rfl | h
  ·omega
  ·have:=ih h; omega
theorem xW3 (v:Bool) (n:ByteArray) (us:List Tm) (IH:∀ a ∈ us,RTm gl a):RTm gl (.mk v n us):=by
 intro x hx hsz st
 obtain ⟨tg,xs,rfl,htg,hxs⟩:=hx.mk
 simp only [Tm.size] at hsz
 have hlsz:=yZi us
 refine iI func114 rfl rfl (by kernel_rfl) ?_
 cases v
 ·simp -implicitDefEqProofs -dsimp only [go_sem,fits]
  refine LoopC.ctr us.length (fun k fr st' ds => yXu (us.take k) = true ∧ fr 1 = .iv (.raw (.bool false)) ∧ fr 2 = .box [.raw (.bool false),.raw (.string n),.sl tg xs] ∧ fr 5 = .iv (.raw (.int .i64 k)) ∧ st' = st ∧ ds = []) ?_ ?_ ?_
  ·simp -implicitDefEqProofs -dsimp only [go_sem]; exact ⟨rfl,rfl⟩
  ·rintro k fr st _ hlt ⟨hok,f1,f2,f5,rfl,rfl⟩
   obtain ⟨a,ha⟩:=yQ3 hlt
   obtain ⟨y,hky,hy⟩:=hxs.get ha
   have hmem:=lMg ha
   have hcall:=IH a hmem y hy (by have:=yWi hmem; omega) st
   obtain ⟨v3,n3,m3⟩:=a
   obtain ⟨t3,x3,rfl,_⟩:=hy.mk
   simp -implicitDefEqProofs -dsimp only [go_sem,f1,f2,f5,hxs.len,lt_i hlt,yQ2 htg,iNn,hky,fits]
   intros
   refine hcall.mono ?_
   rintro _ st ⟨rfl,rfl⟩
   cases hb:(Tm.mk v3 n3 m3).ok
   ·simp -implicitDefEqProofs -dsimp only [go_sem]
    exact yQ0 ⟨by rw [show (Tm.mk false n us).ok = false by simp [Tm.ok,zUs hmem hb]],rfl⟩
   ·simp -implicitDefEqProofs -dsimp only [go_sem,f1,f2,f5,yQa hlt (show us.length ≤ 281474976710656 by omega)]
    rw [yQ5 ha,yKd,hok]
    simp [yXu,hb]
  ·rintro fr st _ ⟨hok,f1,f2,f5,rfl,rfl⟩
   rw [lTl] at hok
   simp -implicitDefEqProofs -dsimp only [go_sem,f1,f2,f5,hxs.len,yQn (nLi _),fits]
   intros
   refine (xX3 gl n _).mono ?_
   rintro _ st ⟨rfl,rfl⟩
   cases hn:zV3 n
   ·simp -implicitDefEqProofs -dsimp only [go_sem]
    exact yQ0 ⟨by simp [Tm.ok,hn],rfl⟩
   ·simp -implicitDefEqProofs -dsimp only [go_sem,f2,hxs.len,fits]
    intros
    refine yQ0 ⟨?_,rfl⟩
    simp only [Tm.ok,hn,hok,Bool.and_true]
    congr 3
    simp
    omega
 ·simp -implicitDefEqProofs -dsimp only [go_sem,fits,hxs.len]
  intros
  by_cases h0:us.length = 0
  ·obtain rfl:=List.eq_nil_of_length_eq_zero h0
   simp -implicitDefEqProofs -dsimp only [go_sem,fits,show decide (((0:Nat):Int) = 0) = true from rfl]
   refine (yU8 gl n _).mono ?_
   rintro _ st ⟨rfl,rfl⟩
   cases hn:yVu n
   ·simp -implicitDefEqProofs -dsimp only [go_sem]
    exact yQ0 ⟨by simp [Tm.ok,hn],rfl⟩
   ·simp -implicitDefEqProofs -dsimp only [go_sem]
    exact yQ0 ⟨by simp [Tm.ok,hn],rfl⟩
  ·simp -implicitDefEqProofs -dsimp only [go_sem,fits,show decide ((us.length:Int) = 0) = false from dEf (by omega)]
   exact yQ0 ⟨by cases us with | nil => exact absurd rfl h0 | cons => simp [Tm.ok],rfl⟩
theorem zUa:∀ (k:Nat) (t:Tm),SizeOf.sizeOf t < k → RTm gl t
 | 0,f,h => by omega
 | k + 1,.mk v n us,h => xW3 gl v n us (fun a ha => zUa k a (by
   have:=lSm ha
   simp at h; omega))
theorem wWp (t:Tm):RTm gl t:=zUa gl _ t (Nat.lt_succ_self _)
theorem di0 (a:Nat):decide ((a:Int) = 0) = decide (a = 0):=by by_cases h:a = 0 <;> simp [h] <;> omega
theorem di1 (a:Nat):decide ((a:Int) = 1) = decide (a = 1):=by by_cases h:a = 1 <;> simp [h] <;> omega
theorem di2 (a:Nat):decide ((a:Int) = 2) = decide (a = 2):=by by_cases h:a = 2 <;> simp [h] <;> omega
theorem dle4 (a:Nat):decide ((a:Int) ≤ 4) = decide (a ≤ 4):=by by_cases h:a ≤ 4 <;> simp [h] <;> omega
theorem wXt {op:Nat} {n:ByteArray} {la ls:Nat} (h:op = 0 ∨ 16 < op):yZ4 op n la ls = false:=by
 unfold yZ4
 split <;> first | rfl | omega
theorem vWj (op:Nat) (n:ByteArray) (us:List Tm) (sub:List Fm) (x:IV) (hx:IsFm (.mk op n us sub) x) (st:ISt) :
  ICall prog gl 213 [x,.raw (.bool false)] st (fun r st' => r = .raw (.bool (yZ4 op n us.length sub.length)) ∧ st' = st):=by
 obtain ⟨ta,xa,tb,xb,rfl,ho,hta,hxa,htb,hxb⟩:=hx.mk
 refine iI func213 rfl rfl (by kernel_rfl) ?_
 simp -implicitDefEqProofs -dsimp only [go_sem,fits,hxa.len,hxb.len]
 intros
 rcases (show op = 1 ∨ op = 2 ∨ op = 3 ∨ op = 4 ∨ op = 5 ∨ op = 6 ∨ op = 7 ∨ op = 8 ∨ op = 9 ∨ op = 10 ∨ op = 11 ∨ op = 12 ∨ op = 13 ∨ op = 14 ∨ op = 15 ∨ op = 16 ∨ (op = 0 ∨ 16 < op) by omega) with h | h | h | h | h | h | h | h | h | h | h | h | h | h | h | h | h
 ·simp -implicitDefEqProofs -dsimp only [go_sem,show decide ((op:Int) = 1) = true from dEt (by omega),fits,hxa.len,hxb.len]
  refine (zUj gl n _).mono ?_
  rintro _ st ⟨rfl,rfl⟩
  cases h1:zJe n
  ·simp -implicitDefEqProofs -dsimp only [go_sem,show decide ((op:Int) = 1) = true from dEt (by omega),fits,hxa.len,hxb.len]
   exact yQ0 ⟨by subst h; simp [yZ4,h1],rfl⟩
  ·cases h2:decide (us.length ≤ 4)
   ·simp -implicitDefEqProofs -dsimp only [go_sem,fits,hxa.len,hxb.len,dle4,h2]
    exact yQ0 ⟨by subst h; simp only [yZ4,h1,h2,Bool.and_false,Bool.false_and,Bool.true_and,Bool.and_true],rfl⟩
   ·simp -implicitDefEqProofs -dsimp only [go_sem,fits,hxa.len,hxb.len,dle4,h2,di0]
    exact yQ0 ⟨by subst h; simp only [yZ4,h1,h2,Bool.and_false,Bool.false_and,Bool.true_and,Bool.and_true],rfl⟩
 ·cases h1:decide (n = ⟨#[]⟩)
  ·simp -implicitDefEqProofs -dsimp only [go_sem,show decide ((op:Int) = 1) = false from dEf (by omega),show decide ((op:Int) = 2) = true from dEt (by omega),fits,hxa.len,hxb.len,h1]
   exact yQ0 ⟨by subst h; simp [yZ4,h1],rfl⟩
  ·cases h2:decide (us.length = 0)
   ·simp -implicitDefEqProofs -dsimp only [go_sem,show decide ((op:Int) = 1) = false from dEf (by omega),show decide ((op:Int) = 2) = true from dEt (by omega),fits,hxa.len,hxb.len,h1,di0,h2]
    exact yQ0 ⟨by subst h; simp only [yZ4,h1,h2,Bool.and_false,Bool.false_and,Bool.true_and,Bool.and_true],rfl⟩
   ·simp -implicitDefEqProofs -dsimp only [go_sem,show decide ((op:Int) = 1) = false from dEf (by omega),show decide ((op:Int) = 2) = true from dEt (by omega),fits,hxa.len,hxb.len,h1,di0,h2,di0]
    exact yQ0 ⟨by subst h; simp only [yZ4,h1,h2,Bool.and_false,Bool.false_and,Bool.true_and,Bool.and_true],rfl⟩
 ·cases h1:decide (n = ⟨#[]⟩)
  ·simp -implicitDefEqProofs -dsimp only [go_sem,show decide ((op:Int) = 1) = false from dEf (by omega),show decide ((op:Int) = 2) = false from dEf (by omega),show decide ((op:Int) = 3) = true from dEt (by omega),fits,hxa.len,hxb.len,h1]
   exact yQ0 ⟨by subst h; simp [yZ4,h1],rfl⟩
  ·cases h2:decide (us.length = 0)
   ·simp -implicitDefEqProofs -dsimp only [go_sem,show decide ((op:Int) = 1) = false from dEf (by omega),show decide ((op:Int) = 2) = false from dEf (by omega),show decide ((op:Int) = 3) = true from dEt (by omega),fits,hxa.len,hxb.len,h1,di0,h2]
    exact yQ0 ⟨by subst h; simp only [yZ4,h1,h2,Bool.and_false,Bool.false_and,Bool.true_and,Bool.and_true],rfl⟩
   ·simp -implicitDefEqProofs -dsimp only [go_sem,show decide ((op:Int) = 1) = false from dEf (by omega),show decide ((op:Int) = 2) = false from dEf (by omega),show decide ((op:Int) = 3) = true from dEt (by omega),fits,hxa.len,hxb.len,h1,di0,h2,di1]
    exact yQ0 ⟨by subst h; simp only [yZ4,h1,h2,Bool.and_false,Bool.false_and,Bool.true_and,Bool.and_true],rfl⟩
 ·cases h1:decide (n = ⟨#[]⟩)
  ·simp -implicitDefEqProofs -dsimp only [go_sem,show decide ((op:Int) = 1) = false from dEf (by omega),show decide ((op:Int) = 2) = false from dEf (by omega),show decide ((op:Int) = 3) = false from dEf (by omega),show decide ((op:Int) = 10) = false from dEf (by omega),show decide ((op:Int) = 11) = false from dEf (by omega),show decide ((op:Int) = 12) = false from dEf (by omega),show decide ((op:Int) = 13) = false from dEf (by omega),show decide ((op:Int) = 4) = true from dEt (by omega),fits,hxa.len,hxb.len,h1]
   exact yQ0 ⟨by subst h; simp [yZ4,h1],rfl⟩
  ·cases h2:decide (us.length = 0)
   ·simp -implicitDefEqProofs -dsimp only [go_sem,show decide ((op:Int) = 1) = false from dEf (by omega),show decide ((op:Int) = 2) = false from dEf (by omega),show decide ((op:Int) = 3) = false from dEf (by omega),show decide ((op:Int) = 10) = false from dEf (by omega),show decide ((op:Int) = 11) = false from dEf (by omega),show decide ((op:Int) = 12) = false from dEf (by omega),show decide ((op:Int) = 13) = false from dEf (by omega),show decide ((op:Int) = 4) = true from dEt (by omega),fits,hxa.len,hxb.len,h1,di0,h2]
    exact yQ0 ⟨by subst h; simp only [yZ4,h1,h2,Bool.and_false,Bool.false_and,Bool.true_and,Bool.and_true],rfl⟩
   ·simp -implicitDefEqProofs -dsimp only [go_sem,show decide ((op:Int) = 1) = false from dEf (by omega),show decide ((op:Int) = 2) = false from dEf (by omega),show decide ((op:Int) = 3) = false from dEf (by omega),show decide ((op:Int) = 10) = false from dEf (by omega),show decide ((op:Int) = 11) = false from dEf (by omega),show decide ((op:Int) = 12) = false from dEf (by omega),show decide ((op:Int) = 13) = false from dEf (by omega),show decide ((op:Int) = 4) = true from dEt (by omega),fits,hxa.len,hxb.len,h1,di0,h2,di2]
    exact yQ0 ⟨by subst h; simp only [yZ4,h1,h2,Bool.and_false,Bool.false_and,Bool.true_and,Bool.and_true],rfl⟩
 ·cases h1:decide (n = ⟨#[]⟩)
  ·simp -implicitDefEqProofs -dsimp only [go_sem,show decide ((op:Int) = 1) = false from dEf (by omega),show decide ((op:Int) = 2) = false from dEf (by omega),show decide ((op:Int) = 3) = false from dEf (by omega),show decide ((op:Int) = 10) = false from dEf (by omega),show decide ((op:Int) = 11) = false from dEf (by omega),show decide ((op:Int) = 12) = false from dEf (by omega),show decide ((op:Int) = 13) = false from dEf (by omega),show decide ((op:Int) = 4) = false from dEf (by omega),show decide ((op:Int) = 5) = true from dEt (by omega),fits,hxa.len,hxb.len,h1]
   exact yQ0 ⟨by subst h; simp [yZ4,h1],rfl⟩
  ·cases h2:decide (us.length = 0)
   ·simp -implicitDefEqProofs -dsimp only [go_sem,show decide ((op:Int) = 1) = false from dEf (by omega),show decide ((op:Int) = 2) = false from dEf (by omega),show decide ((op:Int) = 3) = false from dEf (by omega),show decide ((op:Int) = 10) = false from dEf (by omega),show decide ((op:Int) = 11) = false from dEf (by omega),show decide ((op:Int) = 12) = false from dEf (by omega),show decide ((op:Int) = 13) = false from dEf (by omega),show decide ((op:Int) = 4) = false from dEf (by omega),show decide ((op:Int) = 5) = true from dEt (by omega),fits,hxa.len,hxb.len,h1,di0,h2]
    exact yQ0 ⟨by subst h; simp only [yZ4,h1,h2,Bool.and_false,Bool.false_and,Bool.true_and,Bool.and_true],rfl⟩
   ·simp -implicitDefEqProofs -dsimp only [go_sem,show decide ((op:Int) = 1) = false from dEf (by omega),show decide ((op:Int) = 2) = false from dEf (by omega),show decide ((op:Int) = 3) = false from dEf (by omega),show decide ((op:Int) = 10) = false from dEf (by omega),show decide ((op:Int) = 11) = false from dEf (by omega),show decide ((op:Int) = 12) = false from dEf (by omega),show decide ((op:Int) = 13) = false from dEf (by omega),show decide ((op:Int) = 4) = false from dEf (by omega),show decide ((op:Int) = 5) = true from dEt (by omega),fits,hxa.len,hxb.len,h1,di0,h2,di2]
    exact yQ0 ⟨by subst h; simp only [yZ4,h1,h2,Bool.and_false,Bool.false_and,Bool.true_and,Bool.and_true],rfl⟩
 ·cases h1:decide (n = ⟨#[]⟩)
  ·simp -implicitDefEqProofs -dsimp only [go_sem,show decide ((op:Int) = 1) = false from dEf (by omega),show decide ((op:Int) = 2) = false from dEf (by omega),show decide ((op:Int) = 3) = false from dEf (by omega),show decide ((op:Int) = 10) = false from dEf (by omega),show decide ((op:Int) = 11) = false from dEf (by omega),show decide ((op:Int) = 12) = false from dEf (by omega),show decide ((op:Int) = 13) = false from dEf (by omega),show decide ((op:Int) = 4) = false from dEf (by omega),show decide ((op:Int) = 5) = false from dEf (by omega),show decide ((op:Int) = 6) = true from dEt (by omega),fits,hxa.len,hxb.len,h1]
   exact yQ0 ⟨by subst h; simp [yZ4,h1],rfl⟩
  ·cases h2:decide (us.length = 0)
   ·simp -implicitDefEqProofs -dsimp only [go_sem,show decide ((op:Int) = 1) = false from dEf (by omega),show decide ((op:Int) = 2) = false from dEf (by omega),show decide ((op:Int) = 3) = false from dEf (by omega),show decide ((op:Int) = 10) = false from dEf (by omega),show decide ((op:Int) = 11) = false from dEf (by omega),show decide ((op:Int) = 12) = false from dEf (by omega),show decide ((op:Int) = 13) = false from dEf (by omega),show decide ((op:Int) = 4) = false from dEf (by omega),show decide ((op:Int) = 5) = false from dEf (by omega),show decide ((op:Int) = 6) = true from dEt (by omega),fits,hxa.len,hxb.len,h1,di0,h2]
    exact yQ0 ⟨by subst h; simp only [yZ4,h1,h2,Bool.and_false,Bool.false_and,Bool.true_and,Bool.and_true],rfl⟩
   ·simp -implicitDefEqProofs -dsimp only [go_sem,show decide ((op:Int) = 1) = false from dEf (by omega),show decide ((op:Int) = 2) = false from dEf (by omega),show decide ((op:Int) = 3) = false from dEf (by omega),show decide ((op:Int) = 10) = false from dEf (by omega),show decide ((op:Int) = 11) = false from dEf (by omega),show decide ((op:Int) = 12) = false from dEf (by omega),show decide ((op:Int) = 13) = false from dEf (by omega),show decide ((op:Int) = 4) = false from dEf (by omega),show decide ((op:Int) = 5) = false from dEf (by omega),show decide ((op:Int) = 6) = true from dEt (by omega),fits,hxa.len,hxb.len,h1,di0,h2,di2]
    exact yQ0 ⟨by subst h; simp only [yZ4,h1,h2,Bool.and_false,Bool.false_and,Bool.true_and,Bool.and_true],rfl⟩
 ·cases h1:decide (n = ⟨#[]⟩)
  ·simp -implicitDefEqProofs -dsimp only [go_sem,show decide ((op:Int) = 1) = false from dEf (by omega),show decide ((op:Int) = 2) = false from dEf (by omega),show decide ((op:Int) = 3) = false from dEf (by omega),show decide ((op:Int) = 10) = false from dEf (by omega),show decide ((op:Int) = 11) = false from dEf (by omega),show decide ((op:Int) = 12) = false from dEf (by omega),show decide ((op:Int) = 13) = false from dEf (by omega),show decide ((op:Int) = 4) = false from dEf (by omega),show decide ((op:Int) = 5) = false from dEf (by omega),show decide ((op:Int) = 6) = false from dEf (by omega),show decide ((op:Int) = 7) = true from dEt (by omega),fits,hxa.len,hxb.len,h1]
   exact yQ0 ⟨by subst h; simp [yZ4,h1],rfl⟩
  ·cases h2:decide (us.length = 0)
   ·simp -implicitDefEqProofs -dsimp only [go_sem,show decide ((op:Int) = 1) = false from dEf (by omega),show decide ((op:Int) = 2) = false from dEf (by omega),show decide ((op:Int) = 3) = false from dEf (by omega),show decide ((op:Int) = 10) = false from dEf (by omega),show decide ((op:Int) = 11) = false from dEf (by omega),show decide ((op:Int) = 12) = false from dEf (by omega),show decide ((op:Int) = 13) = false from dEf (by omega),show decide ((op:Int) = 4) = false from dEf (by omega),show decide ((op:Int) = 5) = false from dEf (by omega),show decide ((op:Int) = 6) = false from dEf (by omega),show decide ((op:Int) = 7) = true from dEt (by omega),fits,hxa.len,hxb.len,h1,di0,h2]
    exact yQ0 ⟨by subst h; simp only [yZ4,h1,h2,Bool.and_false,Bool.false_and,Bool.true_and,Bool.and_true],rfl⟩
   ·simp -implicitDefEqProofs -dsimp only [go_sem,show decide ((op:Int) = 1) = false from dEf (by omega),show decide ((op:Int) = 2) = false from dEf (by omega),show decide ((op:Int) = 3) = false from dEf (by omega),show decide ((op:Int) = 10) = false from dEf (by omega),show decide ((op:Int) = 11) = false from dEf (by omega),show decide ((op:Int) = 12) = false from dEf (by omega),show decide ((op:Int) = 13) = false from dEf (by omega),show decide ((op:Int) = 4) = false from dEf (by omega),show decide ((op:Int) = 5) = false from dEf (by omega),show decide ((op:Int) = 6) = false from dEf (by omega),show decide ((op:Int) = 7) = true from dEt (by omega),fits,hxa.len,hxb.len,h1,di0,h2,di2]
    exact yQ0 ⟨by subst h; simp only [yZ4,h1,h2,Bool.and_false,Bool.false_and,Bool.true_and,Bool.and_true],rfl⟩
 ·simp -implicitDefEqProofs -dsimp only [go_sem,show decide ((op:Int) = 1) = false from dEf (by omega),show decide ((op:Int) = 2) = false from dEf (by omega),show decide ((op:Int) = 3) = false from dEf (by omega),show decide ((op:Int) = 10) = false from dEf (by omega),show decide ((op:Int) = 11) = false from dEf (by omega),show decide ((op:Int) = 12) = false from dEf (by omega),show decide ((op:Int) = 13) = false from dEf (by omega),show decide ((op:Int) = 4) = false from dEf (by omega),show decide ((op:Int) = 5) = false from dEf (by omega),show decide ((op:Int) = 6) = false from dEf (by omega),show decide ((op:Int) = 7) = false from dEf (by omega),show decide ((op:Int) = 14) = false from dEf (by omega),show decide ((op:Int) = 8) = true from dEt (by omega),fits,hxa.len,hxb.len]
  refine (yU8 gl n _).mono ?_
  rintro _ st ⟨rfl,rfl⟩
  cases h1:yVu n
  ·simp -implicitDefEqProofs -dsimp only [go_sem,show decide ((op:Int) = 1) = false from dEf (by omega),show decide ((op:Int) = 2) = false from dEf (by omega),show decide ((op:Int) = 3) = false from dEf (by omega),show decide ((op:Int) = 10) = false from dEf (by omega),show decide ((op:Int) = 11) = false from dEf (by omega),show decide ((op:Int) = 12) = false from dEf (by omega),show decide ((op:Int) = 13) = false from dEf (by omega),show decide ((op:Int) = 4) = false from dEf (by omega),show decide ((op:Int) = 5) = false from dEf (by omega),show decide ((op:Int) = 6) = false from dEf (by omega),show decide ((op:Int) = 7) = false from dEf (by omega),show decide ((op:Int) = 14) = false from dEf (by omega),show decide ((op:Int) = 8) = true from dEt (by omega),fits,hxa.len,hxb.len]
   exact yQ0 ⟨by subst h; simp [yZ4,h1],rfl⟩
  ·cases h2:decide (us.length = 0)
   ·simp -implicitDefEqProofs -dsimp only [go_sem,fits,hxa.len,hxb.len,di0,h2]
    exact yQ0 ⟨by subst h; simp only [yZ4,h1,h2,Bool.and_false,Bool.false_and,Bool.true_and,Bool.and_true],rfl⟩
   ·simp -implicitDefEqProofs -dsimp only [go_sem,fits,hxa.len,hxb.len,di0,h2,di1]
    exact yQ0 ⟨by subst h; simp only [yZ4,h1,h2,Bool.and_false,Bool.false_and,Bool.true_and,Bool.and_true],rfl⟩
 ·simp -implicitDefEqProofs -dsimp only [go_sem,show decide ((op:Int) = 1) = false from dEf (by omega),show decide ((op:Int) = 2) = false from dEf (by omega),show decide ((op:Int) = 3) = false from dEf (by omega),show decide ((op:Int) = 10) = false from dEf (by omega),show decide ((op:Int) = 11) = false from dEf (by omega),show decide ((op:Int) = 12) = false from dEf (by omega),show decide ((op:Int) = 13) = false from dEf (by omega),show decide ((op:Int) = 4) = false from dEf (by omega),show decide ((op:Int) = 5) = false from dEf (by omega),show decide ((op:Int) = 6) = false from dEf (by omega),show decide ((op:Int) = 7) = false from dEf (by omega),show decide ((op:Int) = 14) = false from dEf (by omega),show decide ((op:Int) = 8) = false from dEf (by omega),show decide ((op:Int) = 9) = true from dEt (by omega),fits,hxa.len,hxb.len]
  refine (yU8 gl n _).mono ?_
  rintro _ st ⟨rfl,rfl⟩
  cases h1:yVu n
  ·simp -implicitDefEqProofs -dsimp only [go_sem,show decide ((op:Int) = 1) = false from dEf (by omega),show decide ((op:Int) = 2) = false from dEf (by omega),show decide ((op:Int) = 3) = false from dEf (by omega),show decide ((op:Int) = 10) = false from dEf (by omega),show decide ((op:Int) = 11) = false from dEf (by omega),show decide ((op:Int) = 12) = false from dEf (by omega),show decide ((op:Int) = 13) = false from dEf (by omega),show decide ((op:Int) = 4) = false from dEf (by omega),show decide ((op:Int) = 5) = false from dEf (by omega),show decide ((op:Int) = 6) = false from dEf (by omega),show decide ((op:Int) = 7) = false from dEf (by omega),show decide ((op:Int) = 14) = false from dEf (by omega),show decide ((op:Int) = 8) = false from dEf (by omega),show decide ((op:Int) = 9) = true from dEt (by omega),fits,hxa.len,hxb.len]
   exact yQ0 ⟨by subst h; simp [yZ4,h1],rfl⟩
  ·cases h2:decide (us.length = 0)
   ·simp -implicitDefEqProofs -dsimp only [go_sem,fits,hxa.len,hxb.len,di0,h2]
    exact yQ0 ⟨by subst h; simp only [yZ4,h1,h2,Bool.and_false,Bool.false_and,Bool.true_and,Bool.and_true],rfl⟩
   ·simp -implicitDefEqProofs -dsimp only [go_sem,fits,hxa.len,hxb.len,di0,h2,di1]
    exact yQ0 ⟨by subst h; simp only [yZ4,h1,h2,Bool.and_false,Bool.false_and,Bool.true_and,Bool.and_true],rfl⟩
 ·cases h1:decide (n = ⟨#[]⟩)
  ·simp -implicitDefEqProofs -dsimp only [go_sem,show decide ((op:Int) = 1) = false from dEf (by omega),show decide ((op:Int) = 2) = false from dEf (by omega),show decide ((op:Int) = 3) = false from dEf (by omega),show decide ((op:Int) = 10) = true from dEt (by omega),fits,hxa.len,hxb.len,h1]
   exact yQ0 ⟨by subst h; simp [yZ4,h1],rfl⟩
  ·cases h2:decide (us.length = 0)
   ·simp -implicitDefEqProofs -dsimp only [go_sem,show decide ((op:Int) = 1) = false from dEf (by omega),show decide ((op:Int) = 2) = false from dEf (by omega),show decide ((op:Int) = 3) = false from dEf (by omega),show decide ((op:Int) = 10) = true from dEt (by omega),fits,hxa.len,hxb.len,h1,di0,h2]
    exact yQ0 ⟨by subst h; simp only [yZ4,h1,h2,Bool.and_false,Bool.false_and,Bool.true_and,Bool.and_true],rfl⟩
   ·simp -implicitDefEqProofs -dsimp only [go_sem,show decide ((op:Int) = 1) = false from dEf (by omega),show decide ((op:Int) = 2) = false from dEf (by omega),show decide ((op:Int) = 3) = false from dEf (by omega),show decide ((op:Int) = 10) = true from dEt (by omega),fits,hxa.len,hxb.len,h1,di0,h2,di1]
    exact yQ0 ⟨by subst h; simp only [yZ4,h1,h2,Bool.and_false,Bool.false_and,Bool.true_and,Bool.and_true],rfl⟩
 ·cases h1:decide (n = ⟨#[]⟩)
  ·simp -implicitDefEqProofs -dsimp only [go_sem,show decide ((op:Int) = 1) = false from dEf (by omega),show decide ((op:Int) = 2) = false from dEf (by omega),show decide ((op:Int) = 3) = false from dEf (by omega),show decide ((op:Int) = 10) = false from dEf (by omega),show decide ((op:Int) = 11) = true from dEt (by omega),fits,hxa.len,hxb.len,h1]
   exact yQ0 ⟨by subst h; simp [yZ4,h1],rfl⟩
  ·cases h2:decide (us.length = 0)
   ·simp -implicitDefEqProofs -dsimp only [go_sem,show decide ((op:Int) = 1) = false from dEf (by omega),show decide ((op:Int) = 2) = false from dEf (by omega),show decide ((op:Int) = 3) = false from dEf (by omega),show decide ((op:Int) = 10) = false from dEf (by omega),show decide ((op:Int) = 11) = true from dEt (by omega),fits,hxa.len,hxb.len,h1,di0,h2]
    exact yQ0 ⟨by subst h; simp only [yZ4,h1,h2,Bool.and_false,Bool.false_and,Bool.true_and,Bool.and_true],rfl⟩
   ·simp -implicitDefEqProofs -dsimp only [go_sem,show decide ((op:Int) = 1) = false from dEf (by omega),show decide ((op:Int) = 2) = false from dEf (by omega),show decide ((op:Int) = 3) = false from dEf (by omega),show decide ((op:Int) = 10) = false from dEf (by omega),show decide ((op:Int) = 11) = true from dEt (by omega),fits,hxa.len,hxb.len,h1,di0,h2,di1]
    exact yQ0 ⟨by subst h; simp only [yZ4,h1,h2,Bool.and_false,Bool.false_and,Bool.true_and,Bool.and_true],rfl⟩
 ·cases h1:decide (n = ⟨#[]⟩)
  ·simp -implicitDefEqProofs -dsimp only [go_sem,show decide ((op:Int) = 1) = false from dEf (by omega),show decide ((op:Int) = 2) = false from dEf (by omega),show decide ((op:Int) = 3) = false from dEf (by omega),show decide ((op:Int) = 10) = false from dEf (by omega),show decide ((op:Int) = 11) = false from dEf (by omega),show decide ((op:Int) = 12) = true from dEt (by omega),fits,hxa.len,hxb.len,h1]
   exact yQ0 ⟨by subst h; simp [yZ4,h1],rfl⟩
  ·cases h2:decide (us.length = 0)
   ·simp -implicitDefEqProofs -dsimp only [go_sem,show decide ((op:Int) = 1) = false from dEf (by omega),show decide ((op:Int) = 2) = false from dEf (by omega),show decide ((op:Int) = 3) = false from dEf (by omega),show decide ((op:Int) = 10) = false from dEf (by omega),show decide ((op:Int) = 11) = false from dEf (by omega),show decide ((op:Int) = 12) = true from dEt (by omega),fits,hxa.len,hxb.len,h1,di0,h2]
    exact yQ0 ⟨by subst h; simp only [yZ4,h1,h2,Bool.and_false,Bool.false_and,Bool.true_and,Bool.and_true],rfl⟩
   ·simp -implicitDefEqProofs -dsimp only [go_sem,show decide ((op:Int) = 1) = false from dEf (by omega),show decide ((op:Int) = 2) = false from dEf (by omega),show decide ((op:Int) = 3) = false from dEf (by omega),show decide ((op:Int) = 10) = false from dEf (by omega),show decide ((op:Int) = 11) = false from dEf (by omega),show decide ((op:Int) = 12) = true from dEt (by omega),fits,hxa.len,hxb.len,h1,di0,h2,di1]
    exact yQ0 ⟨by subst h; simp only [yZ4,h1,h2,Bool.and_false,Bool.false_and,Bool.true_and,Bool.and_true],rfl⟩
 ·cases h1:decide (n = ⟨#[]⟩)
  ·simp -implicitDefEqProofs -dsimp only [go_sem,show decide ((op:Int) = 1) = false from dEf (by omega),show decide ((op:Int) = 2) = false from dEf (by omega),show decide ((op:Int) = 3) = false from dEf (by omega),show decide ((op:Int) = 10) = false from dEf (by omega),show decide ((op:Int) = 11) = false from dEf (by omega),show decide ((op:Int) = 12) = false from dEf (by omega),show decide ((op:Int) = 13) = true from dEt (by omega),fits,hxa.len,hxb.len,h1]
   exact yQ0 ⟨by subst h; simp [yZ4,h1],rfl⟩
  ·cases h2:decide (us.length = 0)
   ·simp -implicitDefEqProofs -dsimp only [go_sem,show decide ((op:Int) = 1) = false from dEf (by omega),show decide ((op:Int) = 2) = false from dEf (by omega),show decide ((op:Int) = 3) = false from dEf (by omega),show decide ((op:Int) = 10) = false from dEf (by omega),show decide ((op:Int) = 11) = false from dEf (by omega),show decide ((op:Int) = 12) = false from dEf (by omega),show decide ((op:Int) = 13) = true from dEt (by omega),fits,hxa.len,hxb.len,h1,di0,h2]
    exact yQ0 ⟨by subst h; simp only [yZ4,h1,h2,Bool.and_false,Bool.false_and,Bool.true_and,Bool.and_true],rfl⟩
   ·simp -implicitDefEqProofs -dsimp only [go_sem,show decide ((op:Int) = 1) = false from dEf (by omega),show decide ((op:Int) = 2) = false from dEf (by omega),show decide ((op:Int) = 3) = false from dEf (by omega),show decide ((op:Int) = 10) = false from dEf (by omega),show decide ((op:Int) = 11) = false from dEf (by omega),show decide ((op:Int) = 12) = false from dEf (by omega),show decide ((op:Int) = 13) = true from dEt (by omega),fits,hxa.len,hxb.len,h1,di0,h2,di1]
    exact yQ0 ⟨by subst h; simp only [yZ4,h1,h2,Bool.and_false,Bool.false_and,Bool.true_and,Bool.and_true],rfl⟩
 ·cases h1:decide (n = ⟨#[]⟩)
  ·simp -implicitDefEqProofs -dsimp only [go_sem,show decide ((op:Int) = 1) = false from dEf (by omega),show decide ((op:Int) = 2) = false from dEf (by omega),show decide ((op:Int) = 3) = false from dEf (by omega),show decide ((op:Int) = 10) = false from dEf (by omega),show decide ((op:Int) = 11) = false from dEf (by omega),show decide ((op:Int) = 12) = false from dEf (by omega),show decide ((op:Int) = 13) = false from dEf (by omega),show decide ((op:Int) = 4) = false from dEf (by omega),show decide ((op:Int) = 5) = false from dEf (by omega),show decide ((op:Int) = 6) = false from dEf (by omega),show decide ((op:Int) = 7) = false from dEf (by omega),show decide ((op:Int) = 14) = true from dEt (by omega),fits,hxa.len,hxb.len,h1]
   exact yQ0 ⟨by subst h; simp [yZ4,h1],rfl⟩
  ·cases h2:decide (us.length = 0)
   ·simp -implicitDefEqProofs -dsimp only [go_sem,show decide ((op:Int) = 1) = false from dEf (by omega),show decide ((op:Int) = 2) = false from dEf (by omega),show decide ((op:Int) = 3) = false from dEf (by omega),show decide ((op:Int) = 10) = false from dEf (by omega),show decide ((op:Int) = 11) = false from dEf (by omega),show decide ((op:Int) = 12) = false from dEf (by omega),show decide ((op:Int) = 13) = false from dEf (by omega),show decide ((op:Int) = 4) = false from dEf (by omega),show decide ((op:Int) = 5) = false from dEf (by omega),show decide ((op:Int) = 6) = false from dEf (by omega),show decide ((op:Int) = 7) = false from dEf (by omega),show decide ((op:Int) = 14) = true from dEt (by omega),fits,hxa.len,hxb.len,h1,di0,h2]
    exact yQ0 ⟨by subst h; simp only [yZ4,h1,h2,Bool.and_false,Bool.false_and,Bool.true_and,Bool.and_true],rfl⟩
   ·simp -implicitDefEqProofs -dsimp only [go_sem,show decide ((op:Int) = 1) = false from dEf (by omega),show decide ((op:Int) = 2) = false from dEf (by omega),show decide ((op:Int) = 3) = false from dEf (by omega),show decide ((op:Int) = 10) = false from dEf (by omega),show decide ((op:Int) = 11) = false from dEf (by omega),show decide ((op:Int) = 12) = false from dEf (by omega),show decide ((op:Int) = 13) = false from dEf (by omega),show decide ((op:Int) = 4) = false from dEf (by omega),show decide ((op:Int) = 5) = false from dEf (by omega),show decide ((op:Int) = 6) = false from dEf (by omega),show decide ((op:Int) = 7) = false from dEf (by omega),show decide ((op:Int) = 14) = true from dEt (by omega),fits,hxa.len,hxb.len,h1,di0,h2,di2]
    exact yQ0 ⟨by subst h; simp only [yZ4,h1,h2,Bool.and_false,Bool.false_and,Bool.true_and,Bool.and_true],rfl⟩
 ·simp -implicitDefEqProofs -dsimp only [go_sem,show decide ((op:Int) = 1) = false from dEf (by omega),show decide ((op:Int) = 2) = false from dEf (by omega),show decide ((op:Int) = 3) = false from dEf (by omega),show decide ((op:Int) = 10) = false from dEf (by omega),show decide ((op:Int) = 11) = false from dEf (by omega),show decide ((op:Int) = 12) = false from dEf (by omega),show decide ((op:Int) = 13) = false from dEf (by omega),show decide ((op:Int) = 4) = false from dEf (by omega),show decide ((op:Int) = 5) = false from dEf (by omega),show decide ((op:Int) = 6) = false from dEf (by omega),show decide ((op:Int) = 7) = false from dEf (by omega),show decide ((op:Int) = 14) = false from dEf (by omega),show decide ((op:Int) = 8) = false from dEf (by omega),show decide ((op:Int) = 9) = false from dEf (by omega),show decide ((op:Int) = 15) = true from dEt (by omega),fits,hxa.len,hxb.len]
  exact yQ0 ⟨by rw [h]; rfl,rfl⟩
 ·simp -implicitDefEqProofs -dsimp only [go_sem,show decide ((op:Int) = 1) = false from dEf (by omega),show decide ((op:Int) = 2) = false from dEf (by omega),show decide ((op:Int) = 3) = false from dEf (by omega),show decide ((op:Int) = 10) = false from dEf (by omega),show decide ((op:Int) = 11) = false from dEf (by omega),show decide ((op:Int) = 12) = false from dEf (by omega),show decide ((op:Int) = 13) = false from dEf (by omega),show decide ((op:Int) = 4) = false from dEf (by omega),show decide ((op:Int) = 5) = false from dEf (by omega),show decide ((op:Int) = 6) = false from dEf (by omega),show decide ((op:Int) = 7) = false from dEf (by omega),show decide ((op:Int) = 14) = false from dEf (by omega),show decide ((op:Int) = 8) = false from dEf (by omega),show decide ((op:Int) = 9) = false from dEf (by omega),show decide ((op:Int) = 15) = false from dEf (by omega),show decide ((op:Int) = 16) = true from dEt (by omega),fits,hxa.len,hxb.len]
  exact yQ0 ⟨by rw [h]; rfl,rfl⟩
 ·simp -implicitDefEqProofs -dsimp only [go_sem,show decide ((op:Int) = 1) = false from dEf (by omega),show decide ((op:Int) = 2) = false from dEf (by omega),show decide ((op:Int) = 3) = false from dEf (by omega),show decide ((op:Int) = 10) = false from dEf (by omega),show decide ((op:Int) = 11) = false from dEf (by omega),show decide ((op:Int) = 12) = false from dEf (by omega),show decide ((op:Int) = 13) = false from dEf (by omega),show decide ((op:Int) = 4) = false from dEf (by omega),show decide ((op:Int) = 5) = false from dEf (by omega),show decide ((op:Int) = 6) = false from dEf (by omega),show decide ((op:Int) = 7) = false from dEf (by omega),show decide ((op:Int) = 14) = false from dEf (by omega),show decide ((op:Int) = 8) = false from dEf (by omega),show decide ((op:Int) = 9) = false from dEf (by omega),show decide ((op:Int) = 15) = false from dEf (by omega),show decide ((op:Int) = 16) = false from dEf (by omega),fits,hxa.len,hxb.len]
  exact yQ0 ⟨by rw [wXt h],rfl⟩
def RSz (us:List Tm):Prop:=∀ (tg:Tag) (xs:List IV) (_:okEs tg 3) (_:IsTms us xs) (_:yQ8 us ≤ 1099511627776) (st:ISt),
 ICall prog gl 214 [.sl tg xs] st (fun r st' => r = .raw (.int .i64 (yQ8 us)) ∧ st' = st)
theorem yU4:∀ (l m:List Tm),yQ8 (l ++ m) = yQ8 l + yQ8 m
 | [],m => by simp [yQ8]
 | a :: l,m => by simp only [List.cons_append,yQ8,yU4 l m]; omega
theorem zK5:∀ (l m:List Tm),yQj (l ++ m) = max (yQj l) (yQj m)
 | [],m => by simp [yQj]
 | a :: l,m => by simp only [List.cons_append,yQj,zK5 l m]; omega
theorem yU5:∀ (l m:List Fm),yQ7 (l ++ m) = yQ7 l + yQ7 m
 | [],m => by simp [yQ7]
 | a :: l,m => by simp only [List.cons_append,yQ7,yU5 l m]; omega
theorem zK6:∀ (l m:List Fm),yQr (l ++ m) = max (yQr l) (yQr m)
 | [],m => by simp [yQr]
 | a :: l,m => by simp only [List.cons_append,yQr,zK6 l m]; omega
theorem zUu:∀ (l m:List Fm),yKi (l ++ m) = (yKi l && yKi m)
 | [],m => by simp [yKi]
 | a :: l,m => by simp only [List.cons_append,yKi,zUu l m,Bool.and_assoc]
theorem yUt {us:List Tm} {k:Nat} {a:Tm} (h:us[k]? = some a):yQ8 (us.take (k + 1)) = yQ8 (us.take k) + a.size ∧ yQ8 (us.take k) + a.size ≤ yQ8 us:=by
 have h1:yQ8 (us.take (k + 1)) = yQ8 (us.take k) + a.size:=by rw [yQ5 h,yU4]; simp [yQ8]
 refine ⟨h1,?_⟩
 have h2:yQ8 us = yQ8 (us.take (k + 1)) + yQ8 (us.drop (k + 1)):=by rw [← yU4,List.take_append_drop]
 omega
theorem yXc {us:List Fm} {k:Nat} {a:Fm} (h:us[k]? = some a):yQ7 (us.take (k + 1)) = yQ7 (us.take k) + a.size ∧ yQ7 (us.take k) + a.size ≤ yQ7 us:=by
 have h1:yQ7 (us.take (k + 1)) = yQ7 (us.take k) + a.size:=by rw [yQ5 h,yU5]; simp [yQ7]
 refine ⟨h1,?_⟩
 have h2:yQ7 us = yQ7 (us.take (k + 1)) + yQ7 (us.drop (k + 1)):=by rw [← yU5,List.take_append_drop]
 omega
theorem yV1:∀ l:List Fm,l.length ≤ yQ7 l
 | [] => Nat.le_refl _
 | a :: l => by have:=yV1 l; have:=a.size_pos; simp only [List.length_cons,yQ7]; omega
mutual
theorem xQp:∀ t:Tm,t.deep ≤ t.size
 | .mk _ _ l => by have:=yXk l; simp only [Tm.deep,Tm.size]; omega
theorem yXk:∀ l:List Tm,yQj l ≤ yQ8 l
 | [] => Nat.le_refl _
 | a :: l => by have:=xQp a; have:=yXk l; simp only [yQj,yQ8]; omega
end
mutual
theorem zG4:∀ t:Fm,t.deep ≤ t.size
 | .mk _ _ l s => by have:=yXk l; have:=yVf s; simp only [Fm.deep,Fm.size]; omega
theorem yVf:∀ l:List Fm,yQr l ≤ yQ7 l
 | [] => Nat.le_refl _
 | a :: l => by have:=zG4 a; have:=yVf l; simp only [yQr,yQ7]; omega
end
theorem vW4 {a b:Nat} (h:a + b ≤ 281474976710656):IntKind.i64.wrap ((a:Int) + (b:Int)) = ((a + b:Nat):Int):=by rw [w64] <;> omega
theorem wUn {a b:Nat} (h:a + 1 + b ≤ 281474976710656):IntKind.i64.wrap (IntKind.i64.wrap ((a:Int) + 1) + (b:Int)) = ((a + (b + 1):Nat):Int):=by rw [w64,w64] <;> (try rw [w64]) <;> omega
theorem xW4 (us:List Tm) (IH:∀ v n l,Tm.mk v n l ∈ us → RSz gl l):RSz gl us:=by
 intro tg xs htg hxs hsz st
 have hlsz:=yZi us
 refine iI func214 rfl rfl (by kernel_rfl) ?_
 simp -implicitDefEqProofs -dsimp only [go_sem]
 refine LoopC.ctr us.length (fun k fr st' ds => fr 0 = .iv (.sl tg xs) ∧ fr 3 = .iv (.raw (.int .i64 (yQ8 (us.take k)))) ∧ fr 4 = .iv (.raw (.int .i64 k)) ∧ st' = st ∧ ds = []) ?_ ?_ ?_
 ·simp -implicitDefEqProofs -dsimp only [go_sem]
  first | rfl | exact ⟨rfl,rfl⟩
 ·rintro k fr st _ hlt ⟨f0,f3,f4,rfl,rfl⟩
  obtain ⟨⟨v,n,m⟩,ha⟩:=yQ3 hlt
  obtain ⟨y,hky,hy⟩:=hxs.get ha
  have hmem:=lMg ha
  obtain ⟨h1,h2⟩:=yUt ha
  obtain ⟨t3,x3,rfl,ht3,hx3⟩:=hy.mk
  simp only [Tm.size] at h1 h2
  simp -implicitDefEqProofs -dsimp only [go_sem,f0,f3,f4,hxs.len,lt_i hlt,yQ2 htg,iNn,hky,fits]
  intros
  refine (IH v n m hmem t3 x3 ht3 hx3 (by omega) _).mono ?_
  rintro _ st ⟨rfl,rfl⟩
  simp -implicitDefEqProofs -dsimp only [go_sem,f0,f3,f4,yQa hlt (show us.length ≤ 281474976710656 by omega),wUn (show yQ8 (us.take k) + 1 + yQ8 m ≤ 281474976710656 by omega),h1]
 ·rintro fr st _ ⟨f0,f3,f4,rfl,rfl⟩
  rw [lTl] at f3
  simp -implicitDefEqProofs -dsimp only [go_sem,f0,f3,f4,hxs.len,yQn (nLi _),fits]
  intros
  exact yQ0 ⟨rfl,rfl⟩
theorem zUb:∀ (k:Nat) (us:List Tm),SizeOf.sizeOf us < k → RSz gl us
 | 0,f,h => by omega
 | k + 1,us,h => xW4 gl us (fun v n l hm => zUb k l (by
   have:=lSm hm
   simp at this; omega))
theorem wWq (us:List Tm):RSz gl us:=zUb gl _ us (Nat.lt_succ_self _)
def RDp (us:List Tm):Prop:=∀ (tg:Tag) (xs:List IV) (_:okEs tg 3) (_:IsTms us xs) (_:yQ8 us ≤ 1099511627776) (st:ISt),
 ICall prog gl 215 [.sl tg xs] st (fun r st' => r = .raw (.int .i64 (yQj us)) ∧ st' = st)
theorem xW9 (us:List Tm) (IH:∀ v n l,Tm.mk v n l ∈ us → RDp gl l):RDp gl us:=by
 intro tg xs htg hxs hsz st
 have hlsz:=yZi us
 refine iI func215 rfl rfl (by kernel_rfl) ?_
 simp -implicitDefEqProofs -dsimp only [go_sem]
 refine LoopC.ctr us.length (fun k fr st' ds => fr 0 = .iv (.sl tg xs) ∧ fr 3 = .iv (.raw (.int .i64 (yQj (us.take k)))) ∧ fr 4 = .iv (.raw (.int .i64 k)) ∧ st' = st ∧ ds = []) ?_ ?_ ?_
 ·simp -implicitDefEqProofs -dsimp only [go_sem]
  first | rfl | exact ⟨rfl,rfl⟩
 ·rintro k fr st _ hlt ⟨f0,f3,f4,rfl,rfl⟩
  obtain ⟨⟨v,n,m⟩,ha⟩:=yQ3 hlt
  obtain ⟨y,hky,hy⟩:=hxs.get ha
  have hmem:=lMg ha
  have h1:yQj (us.take (k + 1)) = max (yQj (us.take k)) (yQj m + 1):=by rw [yQ5 ha,zK5]; simp [yQj,Tm.deep]
  have h2:=(yUt ha).2
  have h3:=yXk m
  have h4:=yXk (us.take k)
  obtain ⟨t3,x3,rfl,ht3,hx3⟩:=hy.mk
  simp only [Tm.size] at h2
  simp -implicitDefEqProofs -dsimp only [go_sem,f0,f3,f4,hxs.len,lt_i hlt,yQ2 htg,iNn,hky,fits]
  intros
  refine (IH v n m hmem t3 x3 ht3 hx3 (by omega) _).mono ?_
  rintro _ st ⟨rfl,rfl⟩
  have hw:IntKind.i64.wrap ((yQj m:Int) + 1) = ((yQj m + 1:Nat):Int):=by rw [w64] <;> omega
  by_cases hg:yQj (us.take k) < yQj m + 1
  ·simp -implicitDefEqProofs -dsimp only [go_sem,f0,f3,f4,hw,lt_i hg,yQa hlt (show us.length ≤ 281474976710656 by omega)]
   rw [h1,Nat.max_eq_right (by omega)]
  ·simp -implicitDefEqProofs -dsimp only [go_sem,f0,f3,f4,hw,yQn hg,yQa hlt (show us.length ≤ 281474976710656 by omega)]
   rw [h1,Nat.max_eq_left (by omega)]
 ·rintro fr st _ ⟨f0,f3,f4,rfl,rfl⟩
  rw [lTl] at f3
  simp -implicitDefEqProofs -dsimp only [go_sem,f0,f3,f4,hxs.len,yQn (nLi _),fits]
  intros
  exact yQ0 ⟨rfl,rfl⟩
theorem zUg:∀ (k:Nat) (us:List Tm),SizeOf.sizeOf us < k → RDp gl us
 | 0,f,h => by omega
 | k + 1,us,h => xW9 gl us (fun v n l hm => zUg k l (by
   have:=lSm hm
   simp at this; omega))
theorem wWw (us:List Tm):RDp gl us:=zUg gl _ us (Nat.lt_succ_self _)
def RNd (f:Fm):Prop:=∀ (x:IV) (_:IsFm f x) (_:f.size ≤ 1099511627776) (st:ISt),ICall prog gl 158 [x] st (fun r st' => r = .raw (.int .i64 f.size) ∧ st' = st)
theorem xX0 (op:Nat) (n:ByteArray) (us:List Tm) (sub:List Fm) (IH:∀ a ∈ sub,RNd gl a):RNd gl (.mk op n us sub):=by
 intro x hx hsz st
 obtain ⟨ta,xa,tb,xb,rfl,ho,hta,hxa,htb,hxb⟩:=hx.mk
 simp only [Fm.size] at hsz
 have hl1:=yZi us
 have hl2:=yV1 sub
 refine iI func158 rfl rfl (by kernel_rfl) ?_
 simp -implicitDefEqProofs -dsimp only [go_sem,fits]
 refine (wWq gl us ta xa hta hxa (by omega) _).mono ?_
 rintro _ st ⟨rfl,rfl⟩
 have hw1:IntKind.i64.wrap (1 + (yQ8 us:Int)) = ((yQ8 us + 1:Nat):Int):=by rw [w64] <;> omega
 simp -implicitDefEqProofs -dsimp only [go_sem,fits,hw1]
 refine LoopC.ctr sub.length (fun k fr st' ds => fr 1 = .box [.raw (.int .u8 op),.raw (.string n),.sl ta xa,.sl tb xb] ∧ fr 3 = .iv (.raw (.int .i64 ((yQ8 us + 1 + yQ7 (sub.take k):Nat):Int))) ∧ fr 4 = .iv (.raw (.int .i64 k)) ∧ st' = st ∧ ds = []) ?_ ?_ ?_
 ·simp -implicitDefEqProofs -dsimp only [go_sem]
  first | rfl | exact ⟨rfl,rfl⟩
 ·rintro k fr st _ hlt ⟨f1,f3,f4,rfl,rfl⟩
  obtain ⟨a,ha⟩:=yQ3 hlt
  obtain ⟨y,hky,hy⟩:=hxb.get ha
  have hmem:=lMg ha
  obtain ⟨h1,h2⟩:=yXc ha
  have hcall:=IH a hmem y hy (by omega)
  obtain ⟨o5,n5,us5,sub5⟩:=a
  obtain ⟨t3,x3,t4,x4,rfl,_⟩:=hy.mk
  simp -implicitDefEqProofs -dsimp only [go_sem,f1,f3,f4,hxb.len,lt_i hlt,yQ2 htb,iNn,hky,fits]
  intros
  refine (hcall _).mono ?_
  rintro _ st ⟨rfl,rfl⟩
  simp -implicitDefEqProofs -dsimp only [go_sem,f1,f3,f4,yQa hlt (show sub.length ≤ 281474976710656 by omega),vW4 (show (yQ8 us + 1 + yQ7 (sub.take k)) + (Fm.mk o5 n5 us5 sub5).size ≤ 281474976710656 by omega),h1]
  rw [Nat.add_assoc (yQ8 us + 1)]
 ·rintro fr st _ ⟨f1,f3,f4,rfl,rfl⟩
  rw [lTl] at f3
  simp -implicitDefEqProofs -dsimp only [go_sem,f1,f3,f4,hxb.len,yQn (nLi _),fits]
  intros
  exact yQ0 ⟨by rw [show (Fm.mk op n us sub).size = yQ8 us + 1 + yQ7 sub by simp only [Fm.size]; omega],rfl⟩
theorem zVr:∀ (k:Nat) (t:Fm),SizeOf.sizeOf t < k → RNd gl t
 | 0,f,h => by omega
 | k + 1,.mk o n us sub,h => xX0 gl o n us sub (fun a ha => zVr k a (by
   have:=lSm ha
   simp at h; omega))
theorem wXi (t:Fm):RNd gl t:=zVr gl _ t (Nat.lt_succ_self _)
def RDd (f:Fm):Prop:=∀ (x:IV) (_:IsFm f x) (_:f.size ≤ 1099511627776) (st:ISt),ICall prog gl 159 [x] st (fun r st' => r = .raw (.int .i64 f.deep) ∧ st' = st)
theorem xX1 (op:Nat) (n:ByteArray) (us:List Tm) (sub:List Fm) (IH:∀ a ∈ sub,RDd gl a):RDd gl (.mk op n us sub):=by
 intro x hx hsz st
 obtain ⟨ta,xa,tb,xb,rfl,ho,hta,hxa,htb,hxb⟩:=hx.mk
 simp only [Fm.size] at hsz
 have hl1:=yZi us
 have hl2:=yV1 sub
 have hd1:=yXk us
 have hd2:=yVf sub
 refine iI func159 rfl rfl (by kernel_rfl) ?_
 simp -implicitDefEqProofs -dsimp only [go_sem,fits]
 refine (wWw gl us ta xa hta hxa (by omega) _).mono ?_
 rintro _ st ⟨rfl,rfl⟩
 simp -implicitDefEqProofs -dsimp only [go_sem,fits]
 refine LoopC.ctr sub.length (fun k fr st' ds => fr 1 = .box [.raw (.int .u8 op),.raw (.string n),.sl ta xa,.sl tb xb] ∧ fr 3 = .iv (.raw (.int .i64 ((max (yQj us) (yQr (sub.take k)):Nat):Int))) ∧ fr 4 = .iv (.raw (.int .i64 k)) ∧ st' = st ∧ ds = []) ?_ ?_ ?_
 ·simp -implicitDefEqProofs -dsimp only [go_sem]
  rw [show max (yQj us) (yQr []) = yQj us by simp [yQr]]
  exact ⟨rfl,rfl⟩
 ·rintro k fr st _ hlt ⟨f1,f3,f4,rfl,rfl⟩
  obtain ⟨a,ha⟩:=yQ3 hlt
  obtain ⟨y,hky,hy⟩:=hxb.get ha
  have hmem:=lMg ha
  have h2:=(yXc ha).2
  have hcall:=IH a hmem y hy (by omega)
  have h1:yQr (sub.take (k + 1)) = max (yQr (sub.take k)) a.deep:=by rw [yQ5 ha,zK6]; simp [yQr]
  obtain ⟨o5,n5,us5,sub5⟩:=a
  obtain ⟨t3,x3,t4,x4,rfl,_⟩:=hy.mk
  simp -implicitDefEqProofs -dsimp only [go_sem,f1,f3,f4,hxb.len,lt_i hlt,yQ2 htb,iNn,hky,fits]
  intros
  refine (hcall _).mono ?_
  rintro _ st ⟨rfl,rfl⟩
  by_cases hg:max (yQj us) (yQr (sub.take k)) < (Fm.mk o5 n5 us5 sub5).deep
  ·simp -implicitDefEqProofs -dsimp only [go_sem,f1,f3,f4,lt_i hg,yQa hlt (show sub.length ≤ 281474976710656 by omega)]
   rw [h1,show max (yQj us) (max (yQr (sub.take k)) (Fm.mk o5 n5 us5 sub5).deep) = (Fm.mk o5 n5 us5 sub5).deep by omega]
  ·simp -implicitDefEqProofs -dsimp only [go_sem,f1,f3,f4,yQn hg,yQa hlt (show sub.length ≤ 281474976710656 by omega)]
   rw [h1,show max (yQj us) (max (yQr (sub.take k)) (Fm.mk o5 n5 us5 sub5).deep) = max (yQj us) (yQr (sub.take k)) by omega]
 ·rintro fr st _ ⟨f1,f3,f4,rfl,rfl⟩
  rw [lTl] at f3
  have hw:IntKind.i64.wrap (((max (yQj us) (yQr sub):Nat):Int) + 1) = ((max (yQj us) (yQr sub) + 1:Nat):Int):=by rw [w64] <;> omega
  simp -implicitDefEqProofs -dsimp only [go_sem,f1,f3,f4,hxb.len,yQn (nLi _),fits,hw]
  intros
  exact yQ0 ⟨by simp only [Fm.deep],rfl⟩
theorem zVs:∀ (k:Nat) (t:Fm),SizeOf.sizeOf t < k → RDd gl t
 | 0,f,h => by omega
 | k + 1,.mk o n us sub,h => xX1 gl o n us sub (fun a ha => zVs k a (by
   have:=lSm ha
   simp at h; omega))
theorem wXk (t:Fm):RDd gl t:=zVs gl _ t (Nat.lt_succ_self _)
theorem xU6 {l:List Fm} {a:Fm} (h:a ∈ l) (ha:a.ok = false):yKi l = false:=by
 induction l with
 | nil => cases h
 | cons b l ih =>
  simp only [yKi]
  rcases List.mem_cons.1 h with rfl | h
  ·simp [ha]
  ·simp [ih h]
def RRw (f:Fm):Prop:=∀ (x:IV) (_:IsFm f x) (_:f.size ≤ 1099511627776) (st:ISt),ICall prog gl 157 [x,.raw (.bool false)] st (fun r st' => r = .raw (.bool f.ok) ∧ st' = st)
theorem xW6 (op:Nat) (n:ByteArray) (us:List Tm) (sub:List Fm) (IH:∀ a ∈ sub,RRw gl a):RRw gl (.mk op n us sub):=by
 intro x hx hsz st
 have hrow:=fun st => vWj gl op n us sub x hx st
 obtain ⟨ta,xa,tb,xb,rfl,ho,hta,hxa,htb,hxb⟩:=hx.mk
 simp only [Fm.size] at hsz
 have hl1:=yZi us
 have hl2:=yV1 sub
 refine iI func157 rfl rfl (by kernel_rfl) ?_
 simp -implicitDefEqProofs -dsimp only [go_sem,fits]
 refine (hrow _).mono ?_
 rintro _ st ⟨rfl,rfl⟩
 cases hr:yZ4 op n us.length sub.length
 ·simp -implicitDefEqProofs -dsimp only [go_sem]
  exact yQ0 ⟨by simp [Fm.ok,hr],rfl⟩
 simp -implicitDefEqProofs -dsimp only [go_sem,fits]
 refine LoopC.ctr us.length (fun k fr st' ds => yXu (us.take k) = true ∧ fr 1 = .iv (.raw (.bool false)) ∧ fr 2 = .box [.raw (.int .u8 op),.raw (.string n),.sl ta xa,.sl tb xb] ∧ fr 5 = .iv (.raw (.int .i64 k)) ∧ st' = st ∧ ds = []) ?_ ?_ ?_
 ·simp -implicitDefEqProofs -dsimp only [go_sem]; exact ⟨rfl,rfl⟩
 ·rintro k fr st _ hlt ⟨hok,f1,f2,f5,rfl,rfl⟩
  obtain ⟨a,ha⟩:=yQ3 hlt
  obtain ⟨y,hky,hy⟩:=hxa.get ha
  have hmem:=lMg ha
  have hcall:=wWp gl a y hy (by have:=yWi hmem; omega) st
  obtain ⟨v3,n3,m3⟩:=a
  obtain ⟨t3,x3,rfl,_⟩:=hy.mk
  simp -implicitDefEqProofs -dsimp only [go_sem,f1,f2,f5,hxa.len,lt_i hlt,yQ2 hta,iNn,hky,fits]
  intros
  refine hcall.mono ?_
  rintro _ st ⟨rfl,rfl⟩
  cases hb:(Tm.mk v3 n3 m3).ok
  ·simp -implicitDefEqProofs -dsimp only [go_sem]
   exact yQ0 ⟨by simp [Fm.ok,zUs hmem hb],rfl⟩
  ·simp -implicitDefEqProofs -dsimp only [go_sem,f1,f2,f5,yQa hlt (show us.length ≤ 281474976710656 by omega)]
   rw [yQ5 ha,yKd,hok]
   simp [yXu,hb]
 ·rintro fr st _ ⟨hok,f1,f2,f5,rfl,rfl⟩
  rw [lTl] at hok
  simp -implicitDefEqProofs -dsimp only [go_sem,f1,f2,f5,hxa.len,yQn (nLi _),fits]
  intros
  refine LoopC.ctr sub.length (fun k fr st' ds => yKi (sub.take k) = true ∧ fr 1 = .iv (.raw (.bool false)) ∧ fr 2 = .box [.raw (.int .u8 op),.raw (.string n),.sl ta xa,.sl tb xb] ∧ fr 6 = .iv (.raw (.int .i64 k)) ∧ st' = st ∧ ds = []) ?_ ?_ ?_
  ·simp -implicitDefEqProofs -dsimp only [go_sem,f1,f2]; exact ⟨rfl,rfl⟩
  ·rintro k fr st _ hlt ⟨hok2,f1,f2,f6,rfl,rfl⟩
   obtain ⟨a,ha⟩:=yQ3 hlt
   obtain ⟨y,hky,hy⟩:=hxb.get ha
   have hmem:=lMg ha
   have h2:=(yXc ha).2
   have hcall:=IH a hmem y hy (by omega)
   obtain ⟨o5,n5,us5,sub5⟩:=a
   obtain ⟨t3,x3,t4,x4,rfl,_⟩:=hy.mk
   simp -implicitDefEqProofs -dsimp only [go_sem,f1,f2,f6,hxb.len,lt_i hlt,yQ2 htb,iNn,hky,fits]
   intros
   refine (hcall _).mono ?_
   rintro _ st ⟨rfl,rfl⟩
   cases hb:(Fm.mk o5 n5 us5 sub5).ok
   ·simp -implicitDefEqProofs -dsimp only [go_sem]
    exact yQ0 ⟨by rw [show (Fm.mk op n us sub).ok = false by simp only [Fm.ok,xU6 hmem hb,Bool.and_false]],rfl⟩
   ·simp -implicitDefEqProofs -dsimp only [go_sem,f1,f2,f6,yQa hlt (show sub.length ≤ 281474976710656 by omega)]
    rw [yQ5 ha,zUu,hok2]
    simp only [yKi,hb,Bool.and_self]
  ·rintro fr st _ ⟨hok2,f1,f2,f6,rfl,rfl⟩
   rw [lTl] at hok2
   simp -implicitDefEqProofs -dsimp only [go_sem,f1,f2,f6,hxb.len,yQn (nLi _),fits]
   intros
   exact yQ0 ⟨by simp only [Fm.ok,hr,hok,hok2,Bool.and_self],rfl⟩
theorem zUd:∀ (k:Nat) (t:Fm),SizeOf.sizeOf t < k → RRw gl t
 | 0,f,h => by omega
 | k + 1,.mk o n us sub,h => xW6 gl o n us sub (fun a ha => zUd k a (by
   have:=lSm ha
   simp at h; omega))
theorem wWx (t:Fm):RRw gl t:=zUd gl _ t (Nat.lt_succ_self _)
theorem zX8 (f:Fm) (x:IV) (hx:IsFm f x) (hs:f.size ≤ 1099511627776) (st:ISt):ICall prog gl 110 [x] st (fun r st' => r = .raw (.bool f.right) ∧ st' = st):=by
 have h1:=fun st => wWx gl f x hx hs st
 have h2:=fun st => wXi gl f x hx hs st
 have h3:=fun st => wXk gl f x hx hs st
 have hri:f.right = (f.ok && decide (f.size ≤ 400) && decide (f.deep ≤ 40)):=rfl
 obtain ⟨op,n,us,sub⟩:=f
 obtain ⟨ta,xa,tb,xb,rfl,_⟩:=hx.mk
 generalize Fm.mk op n us sub = f at *
 refine iI func110 rfl rfl (by kernel_rfl) ?_
 simp -implicitDefEqProofs -dsimp only [go_sem,fits]
 refine (h1 _).mono ?_
 rintro _ st ⟨rfl,rfl⟩
 cases hk:f.ok
 ·simp -implicitDefEqProofs -dsimp only [go_sem]
  exact yQ0 ⟨by simp [hri,hk],rfl⟩
 simp -implicitDefEqProofs -dsimp only [go_sem,fits]
 refine (h2 _).mono ?_
 rintro _ st ⟨rfl,rfl⟩
 by_cases hz:f.size ≤ 400
 ·simp -implicitDefEqProofs -dsimp only [go_sem,fits,show decide ((f.size:Int) ≤ 400) = true from dEt (by omega)]
  refine (h3 _).mono ?_
  rintro _ st ⟨rfl,rfl⟩
  simp -implicitDefEqProofs -dsimp only [go_sem,fits]
  refine yQ0 ⟨?_,rfl⟩
  rw [hri,hk,dEt hz]
  congr 3
  simp
  omega
 ·simp -implicitDefEqProofs -dsimp only [go_sem,fits,show decide ((f.size:Int) ≤ 400) = false from dEf (by omega)]
  exact yQ0 ⟨by simp [hri,hz],rfl⟩
end Go.Proofs.Tryz
