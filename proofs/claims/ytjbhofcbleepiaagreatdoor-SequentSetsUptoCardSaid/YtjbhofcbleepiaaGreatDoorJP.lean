/- Walks: depths. -/
import Derived.Test.YtjbhofcbleepiaaGreatDoorJO
set_option linter.all false
namespace Go.Proofs.Tryz
open Go Go.Iv
set_option maxRecDepth 4000
variable (gl:Nat → Option IV)
theorem xQq {l:List Tm} {k:Nat} {a:Tm} (h:l[k]? = some a):yQj (l.take (k + 1)) = max (yQj (l.take k)) a.deep ∧ a.deep ≤ yQj l:=by
 have h1:yQj (l.take (k + 1)) = max (yQj (l.take k)) a.deep:=by rw [yQ5 h,yVx]; simp [yQj]
 refine ⟨h1,?_⟩
 have:yQj l = max (yQj (l.take (k + 1))) (yQj (l.drop (k + 1))):=by conv => lhs; rw [← List.take_append_drop (k + 1) l,yVx]
 omega
theorem xQr {l:List Fm} {k:Nat} {a:Fm} (h:l[k]? = some a):yQr (l.take (k + 1)) = max (yQr (l.take k)) a.deep ∧ a.deep ≤ yQr l:=by
 have h1:yQr (l.take (k + 1)) = max (yQr (l.take k)) a.deep:=by rw [yQ5 h,yVy]; simp [yQr]
 refine ⟨h1,?_⟩
 have:yQr l = max (yQr (l.take (k + 1))) (yQr (l.drop (k + 1))):=by conv => lhs; rw [← List.take_append_drop (k + 1) l,yVy]
 omega
def TD (us:List Tm):Prop:=∀ (t:Tag) (xs:List IV) (_:okEs t 3) (_:IsTms us xs) (_:yQj us ≤ 4611686018427387904) (st:ISt),
 ICall prog gl 319 [.sl t xs] st (fun r st' => r = .raw (.int .i64 (yQj us)) ∧ st' = st)
theorem zXx (us:List Tm) (IH:∀ v n m,Tm.mk v n m ∈ us → TD gl m):TD gl us:=by
 intro tg xs htg hxs hd st
 refine iI func319 rfl rfl (by kernel_rfl) ?_
 simp -implicitDefEqProofs -dsimp only [go_sem,hxs.len]
 intro hlen
 refine LoopC.ctr us.length (fun k fr st' ds => fr 3 = .iv (.raw (.int .i64 (yQj (us.take k)))) ∧ fr 6 = .iv (.sl tg xs) ∧ fr 7 = .iv (.raw (.int .i64 us.length)) ∧ fr 8 = .iv (.raw (.int .i64 k)) ∧ st' = st ∧ ds = []) ?_ ?_ ?_
 ·simp -implicitDefEqProofs -dsimp only [go_sem]
  simp [yQj]
 ·rintro k fr _ _ hlt ⟨f3,f6,f7,f8,rfl,rfl⟩
  obtain ⟨a,ha⟩:=yQ3 hlt
  obtain ⟨x,hkx,hx⟩:=hxs.get ha
  obtain ⟨h1,h2⟩:=xQq ha
  obtain ⟨v2,n2,m⟩:=a
  obtain ⟨tx,cx,rfl,htx,hcx⟩:=hx.mk
  simp only [Tm.deep] at h1 h2
  simp -implicitDefEqProofs -dsimp only [go_sem,f3,f6,f7,f8,lt_i hlt,yQ2 htg,iNn,hkx]
  refine (IH _ _ _ (lMg ha) tx cx htx hcx (by omega) _).mono ?_
  rintro _ _ ⟨rfl,rfl⟩
  have hw:IntKind.i64.wrap (((yQj m:Nat):Int) + 1) = ((yQj m + 1:Nat):Int):=by rw [w64] <;> omega
  have hm:max ((yQj (us.take k):Nat):Int) ((yQj m + 1:Nat):Int) = ((yQj (us.take (k + 1)):Nat):Int):=by rw [h1]; omega
  simp -implicitDefEqProofs -dsimp only [go_sem,f3,f6,f7,f8,yQa hlt (show us.length ≤ 281474976710656 by omega),hw,hm]
 ·rintro fr _ _ ⟨f3,f6,f7,f8,rfl,rfl⟩
  simp -implicitDefEqProofs -dsimp only [go_sem,f3,f7,f8,yQn (nLi _)]
  rw [lTl]
  exact yQ0 ⟨rfl,rfl⟩
theorem yGs:∀ (k:Nat) (us:List Tm),SizeOf.sizeOf us < k → TD gl us
 | 0,f,h => by omega
 | k + 1,us,h => zXx gl us (fun v n m ha => yGs k m (by
   have:=lSm ha
   simp at this; omega))
theorem zGu (us:List Tm):TD gl us:=yGs gl _ us (Nat.lt_succ_self _)
def DF (f:Fm):Prop:=∀ (x:IV) (_:IsFm f x) (_:f.deep ≤ 4611686018427387904) (st:ISt),
 ICall prog gl 293 [x] st (fun r st' => r = .raw (.int .i64 f.deep) ∧ st' = st)
theorem xYi (op:Nat) (n:ByteArray) (us:List Tm) (sub:List Fm) (IH:∀ a ∈ sub,DF gl a):DF gl (.mk op n us sub):=by
 intro x hx hd st
 obtain ⟨tg,xs,tg',ys,rfl,hop,htg,hxs,htg',hys⟩:=hx.mk
 simp only [Fm.deep] at hd ⊢
 refine iI func293 rfl rfl (by kernel_rfl) ?_
 simp -implicitDefEqProofs -dsimp only [go_sem]
 refine (zGu gl us tg xs htg hxs (by omega) _).mono ?_
 rintro _ st ⟨rfl,rfl⟩
 simp -implicitDefEqProofs -dsimp only [go_sem,hys.len]
 intro hlen
 refine LoopC.ctr sub.length (fun k fr st' ds => fr 3 = .iv (.raw (.int .i64 (max (yQj us) (yQr (sub.take k)):Nat))) ∧ fr 10 = .iv (.sl tg' ys) ∧ fr 11 = .iv (.raw (.int .i64 sub.length)) ∧ fr 12 = .iv (.raw (.int .i64 k)) ∧ st' = st ∧ ds = []) ?_ ?_ ?_
 ·simp -implicitDefEqProofs -dsimp only [go_sem]
  simp [yQr]
 ·rintro k fr st _ hlt ⟨f3,f10,f11,f12,rfl,rfl⟩
  obtain ⟨a,ha⟩:=yQ3 hlt
  obtain ⟨x,hkx,hx⟩:=hys.get ha
  obtain ⟨h1,h2⟩:=xQr ha
  have hcall:=IH a (lMg ha) x hx (by omega) st
  have hm:max ((max (yQj us) (yQr (sub.take k)):Nat):Int) ((a.deep:Nat):Int) = ((max (yQj us) (yQr (sub.take (k + 1))):Nat):Int):=by rw [h1]; omega
  obtain ⟨o2,n2,u2,s2⟩:=a
  obtain ⟨t3,x3,t4,x4,rfl,_⟩:=hx.mk
  simp -implicitDefEqProofs -dsimp only [go_sem,f3,f10,f11,f12,lt_i hlt,yQ2 htg',iNn,hkx]
  refine hcall.mono ?_
  rintro _ _ ⟨rfl,rfl⟩
  simp -implicitDefEqProofs -dsimp only [go_sem,f3,f10,f11,f12,yQa hlt (show sub.length ≤ 281474976710656 by omega),hm]
 ·rintro fr _ _ ⟨f3,f10,f11,f12,rfl,rfl⟩
  have hw:IntKind.i64.wrap (((max (yQj us) (yQr sub):Nat):Int) + 1) = ((max (yQj us) (yQr sub) + 1:Nat):Int):=by rw [w64] <;> omega
  rw [lTl] at f3
  simp -implicitDefEqProofs -dsimp only [go_sem,f3,f11,f12,yQn (nLi _),hw]
  exact yQ0 ⟨rfl,rfl⟩
theorem xZa:∀ (k:Nat) (t:Fm),SizeOf.sizeOf t < k → DF gl t
 | 0,f,h => by omega
 | k + 1,.mk o n us sub,h => xYi gl o n us sub (fun a ha => xZa k a (by
   have:=lSm ha
   simp at h; omega))
theorem wGf (t:Fm):DF gl t:=xZa gl _ t (Nat.lt_succ_self _)
def cBox (n:Int):Option IObj:=some (.box [.raw (.int .i64 n)])
def bigI:IV:=.raw (.int .i64 9223372036854775807)
def xY8 (b:Nat):IV:=.fn (.func 333) [] [.raw (.pointer (some ⟨b,0,none⟩)),.cptr bigI]
theorem wJm (v:Bool) (n:ByteArray) (us:List Tm) (x:IV) (hx:IsTm (.mk v n us) x) (b:Nat) (st:ISt) (c:Nat) (hb:st b = cBox c) (hc:c + 1 ≤ 4611686018427387904) :
  ICall prog gl 333 [x,.raw (.pointer (some ⟨b,0,none⟩)),.cptr bigI] st (fun r st' => r = .raw (.bool true) ∧ st' = st.put b (cBox ((c + 1:Nat):Int))):=by
 obtain ⟨tx,cx,rfl,_⟩:=hx.mk
 refine iI func333 rfl rfl (by kernel_rfl) ?_
 have hw:IntKind.i64.wrap (((c:Nat):Int) + 1) = ((c + 1:Nat):Int):=by rw [w64] <;> omega
 have hle:decide (((c + 1:Nat):Int) ≤ 9223372036854775807) = true:=by simp; omega
 simp -implicitDefEqProofs -dsimp only [go_sem,hb,cBox,bigI,hw,ISt.put_same,hle]
 exact yQ0 ⟨rfl,rfl⟩
def CN (us:List Tm):Prop:=∀ (t:Tag) (xs:List IV) (_:okEs t 3) (_:IsTms us xs) (b:Nat) (st:ISt) (c:Nat) (_:st b = cBox c) (_:c + yQ8 us ≤ 4611686018427387904),
 ICall prog gl 166 [.sl t xs,xY8 b] st (fun r st' => r = .raw (.bool true) ∧ st' = st.put b (cBox ((c + yQ8 us:Nat):Int)))
theorem zXs (us:List Tm) (IH:∀ v n m,Tm.mk v n m ∈ us → CN gl m):CN gl us:=by
 intro tg xs htg hxs b st c hb hc
 refine iI func166 rfl rfl (by kernel_rfl) ?_
 simp -implicitDefEqProofs -dsimp only [go_sem,hxs.len,xY8]
 intro hlen
 refine LoopC.ctr us.length (fun k fr st' ds => st' = st.put b (cBox ((c + yQ8 (us.take k):Nat):Int)) ∧ fr 1 = .iv (xY8 b) ∧ fr 7 = .iv (.sl tg xs) ∧ fr 8 = .iv (.raw (.int .i64 us.length)) ∧ fr 9 = .iv (.raw (.int .i64 k)) ∧ ds = []) ?_ ?_ ?_
 ·simp -implicitDefEqProofs -dsimp only [go_sem,xY8]
  simp only [List.take_zero,yQ8,Nat.add_zero]
  exact ⟨(yXd hb).symm,rfl⟩
 ·rintro k fr _ _ hlt ⟨rfl,f1,f7,f8,f9,rfl⟩
  obtain ⟨a,ha⟩:=yQ3 hlt
  obtain ⟨x,hkx,hx⟩:=hxs.get ha
  obtain ⟨h1,h2⟩:=yZ9 ha
  obtain ⟨v2,n2,m⟩:=a
  have hcall:=fun st c => wJm gl v2 n2 m x hx b st c
  obtain ⟨tx,cx,rfl,htx,hcx⟩:=hx.mk
  simp only [Tm.size] at h1 h2
  simp -implicitDefEqProofs -dsimp only [go_sem,f1,f7,f8,f9,lt_i hlt,yQ2 htg,iNn,hkx,xY8]
  refine (hcall _ _ (ISt.put_same _ _ _) (by omega)).mono ?_
  rintro _ _ ⟨rfl,rfl⟩
  simp -implicitDefEqProofs -dsimp only [go_sem,f1,f7,f8,f9,xY8]
  refine (IH _ _ _ (lMg ha) tx cx htx hcx b _ (c + yQ8 (us.take k) + 1) (ISt.put_same _ _ _) (by omega)).mono ?_
  rintro _ _ ⟨rfl,rfl⟩
  simp -implicitDefEqProofs -dsimp only [go_sem,f1,f7,f8,f9,yQa hlt (show us.length ≤ 281474976710656 by omega)]
  simp only [yQd]
  rw [h1,show c + yQ8 (us.take k) + 1 + yQ8 m = c + (yQ8 (us.take k) + (yQ8 m + 1)) by omega]
  exact ⟨rfl,rfl⟩
 ·rintro fr _ _ ⟨rfl,f1,f7,f8,f9,rfl⟩
  simp -implicitDefEqProofs -dsimp only [go_sem,f7,f8,f9,yQn (nLi _)]
  rw [lTl]
  exact yQ0 ⟨rfl,rfl⟩
theorem yGr:∀ (k:Nat) (us:List Tm),SizeOf.sizeOf us < k → CN gl us
 | 0,f,h => by omega
 | k + 1,us,h => zXs gl us (fun v n m ha => yGr k m (by
   have:=lSm ha
   simp at this; omega))
theorem zGn (us:List Tm):CN gl us:=yGr gl _ us (Nat.lt_succ_self _)
mutual
def yVt:Fm → List Fm
 | .mk o n us sub => .mk o n us sub :: yZx sub
def yZx:List Fm → List Fm
 | [] => []
 | a :: l => yVt a ++ yZx l
end
theorem yVa:∀ (l m:List Fm),yZx (l ++ m) = yZx l ++ yZx m
 | [],m => by simp [yZx]
 | a :: l,m => by simp only [List.cons_append,yZx,yVa l m,List.append_assoc]
def FOk (y:IV) (I:Nat → ISt → Prop) (S:ISt → Prop) (k0:Nat) (l:List Fm):Prop :=
 ∀ i z x stu,l[i]? = some z → IsFm z x → I (k0 + i) stu → ICallV prog gl y [x] stu (xZd I S (k0 + i + 1))
theorem FOk.left {y:IV} {I:Nat → ISt → Prop} {S:ISt → Prop} {k0:Nat} {l m:List Fm} (h:FOk gl y I S k0 (l ++ m)):FOk gl y I S k0 l:=fun i z x stu hi hx hI =>
 h i z x stu (by rw [List.getElem?_append_left (lGs hi).1]; exact hi) hx hI
theorem FOk.right {y:IV} {I:Nat → ISt → Prop} {S:ISt → Prop} {k0:Nat} {l m:List Fm} (h:FOk gl y I S k0 (l ++ m)):FOk gl y I S (k0 + l.length) m:=fun i z x stu hi hx hI => by
 have:=h (l.length + i) z x stu (by rw [List.getElem?_append_right (by omega)]; simpa using hi) hx (by rw [← Nat.add_assoc]; exact hI)
 simpa only [Nat.add_assoc] using this
theorem FOk.head {y:IV} {I:Nat → ISt → Prop} {S:ISt → Prop} {k0:Nat} {z:Fm} {m:List Fm} (h:FOk gl y I S k0 (z :: m)) {x:IV} (hx:IsFm z x) {st:ISt} (hI:I k0 st):ICallV prog gl y [x] st (xZd I S (k0 + 1)):=h 0 z x st rfl hx hI
theorem FOk.tail {y:IV} {I:Nat → ISt → Prop} {S:ISt → Prop} {k0:Nat} {z:Fm} {m:List Fm} (h:FOk gl y I S k0 (z :: m)):FOk gl y I S (k0 + 1) m:=FOk.right gl (l:=[z]) h
def VV (f:Fm):Prop:=∀ (x:IV) (_:IsFm f x) (g:Fn) (fi ca:List IV) (_:fnOk g = true) (_:∀ i,g = .func i → entI prog i = true) (I:Nat → ISt → Prop) (S:ISt → Prop) (k0:Nat) (_:FOk gl (.fn g fi ca) I S k0 (yVt f)) (st:ISt) (_:I k0 st),
  ICall prog gl 222 [x,.fn g fi ca] st (xZd I S (k0 + (yVt f).length))
theorem xVp (op:Nat) (n:ByteArray) (us:List Tm) (sub:List Fm) (IH:∀ a ∈ sub,VV gl a):VV gl (.mk op n us sub):=by
 intro x hx g fi ca hfn hent I S k0 hy st hI
 have hx0:=hx
 obtain ⟨tg,xs,tg',ys,rfl,hop,htg,hxs,htg',hys⟩:=hx.mk
 simp only [yVt] at hy ⊢
 have hhead:=FOk.head gl hy hx0 hI
 have hy':=FOk.tail gl hy
 refine iI func222 rfl rfl (by kernel_rfl) ?_
 simp -implicitDefEqProofs -dsimp only [go_sem]
 refine yJ0 hent (hhead.mono ?_)
 rintro _ st (⟨rfl,h⟩ | ⟨rfl,h⟩)
 ·simp -implicitDefEqProofs -dsimp only [go_sem,hys.len]
  intro hlen
  refine LoopC.ctr sub.length (fun k fr st ds => I (k0 + 1 + (yZx (sub.take k)).length) st ∧ fr 1 = .iv (.fn g fi ca) ∧ fr 12 = .iv (.sl tg' ys) ∧ fr 13 = .iv (.raw (.int .i64 sub.length)) ∧ fr 14 = .iv (.raw (.int .i64 k)) ∧ ds = []) ?_ ?_ ?_
  ·simp -implicitDefEqProofs -dsimp only [go_sem]
   exact ⟨by simpa [yZx] using h,rfl⟩
  ·rintro k fr st _ hlt ⟨hst,f1,f12,f13,f14,rfl⟩
   obtain ⟨a,ha⟩:=yQ3 hlt
   obtain ⟨x,hkx,hx⟩:=hys.get ha
   have hsplit:yZx sub = yZx (sub.take k) ++ (yVt a ++ yZx (sub.drop (k + 1))):=by
    conv => lhs; rw [← List.take_append_drop k sub,List.drop_eq_getElem_cons hlt]
    rw [yVa,(lGs ha).2]; rfl
   have hya:=hy'
   rw [hsplit] at hya
   have hcall:=IH a (lMg ha) x hx g fi ca hfn hent I S _ (FOk.left gl (FOk.right gl hya)) st hst
   obtain ⟨o2,n2,u2,s2⟩:=a
   obtain ⟨t3,x3,t4,x4,rfl,_⟩:=hx.mk
   simp -implicitDefEqProofs -dsimp only [go_sem,f1,f12,f13,f14,lt_i hlt,yQ2 htg',iNn,hkx]
   refine hcall.mono ?_
   rintro _ st (⟨rfl,h⟩ | ⟨rfl,h⟩)
   ·simp -implicitDefEqProofs -dsimp only [go_sem,f1,f12,f13,f14,yQa hlt (show sub.length ≤ 281474976710656 by omega)]
    rw [yQ5 ha,yVa,lLa,← Nat.add_assoc]
    simpa [yZx] using h
   ·simp -implicitDefEqProofs -dsimp only [go_sem]
    exact yQ0 (.inr ⟨rfl,h⟩)
  ·rintro fr st _ ⟨hst,f1,f12,f13,f14,rfl⟩
   simp -implicitDefEqProofs -dsimp only [go_sem,f13,f14,yQn (nLi _)]
   rw [lTl] at hst
   refine yQ0 (.inl ⟨rfl,?_⟩)
   rw [show k0 + ((yZx sub).length + 1) = k0 + 1 + (yZx sub).length by omega]; exact hst
 ·simp -implicitDefEqProofs -dsimp only [go_sem]
  exact yQ0 (.inr ⟨rfl,h⟩)
theorem zGm:∀ (k:Nat) (t:Fm),SizeOf.sizeOf t < k → VV gl t
 | 0,f,h => by omega
 | k + 1,.mk o n us sub,h => xVp gl o n us sub (fun a ha => zGm k a (by
   have:=lSm ha
   simp at h; omega))
theorem wVu (t:Fm):VV gl t:=zGm gl _ t (Nat.lt_succ_self _)
def wY2 (f:Fm) (k:Nat) (a:List IV):Prop:=∃ z x,(yVt f)[k]? = some z ∧ IsFm z x ∧ a = [x]
theorem wVt (f:Fm) (x:IV) (hx:IsFm f x) (I:Nat → ISt → Prop):IterC prog gl 221 [] [.cptr x] (wY2 f) (yVt f).length I:=by
 have hx0:=hx
 obtain ⟨o,n,us,sub⟩:=f
 obtain ⟨t1,x1,t2,x2,rfl,_⟩:=hx.mk
 rintro y I' S' st ⟨g,fi,ca,rfl,hfn,hent⟩ _ hy h0
 change ICall prog gl _ [.fn g fi ca,_] st _
 refine iI func221 rfl rfl (by kernel_rfl) ?_
 simp -implicitDefEqProofs -dsimp only [go_sem,fits]
 refine (wVu gl _ _ hx0 g fi ca hfn hent I' S' 0 ?_ st h0).mono ?_
 ·intro i z x stu hi hz hI
  rw [Nat.zero_add] at hI ⊢
  exact hy i [x] stu ⟨z,x,hi,hz,rfl⟩ hI
 ·rintro _ st' h
  simp -implicitDefEqProofs -dsimp only [go_sem]
  refine yQ0 ?_
  rw [Nat.zero_add] at h
  exact h.imp And.right And.right
theorem wUm (x:IV) (st:ISt) (f:Fm) (hx:IsFm f x):ICall prog gl 164 [x] st (fun r st' => r = .fn (.func 221) [] [.cptr x] ∧ st' = st):=by
 obtain ⟨o,n,us,sub⟩:=f
 obtain ⟨t1,x1,t2,x2,rfl,_⟩:=hx.mk
 refine ICall.intro (c:=cf prog gl [] [] [1]) func164 rfl (by show _ ≤ 4; simp) (by kernel_rfl) ?_
 simp -implicitDefEqProofs -dsimp only [go_sem,fits]
 exact yQ0 ⟨rfl,rfl⟩
def xWg:Fm → Nat
 | .mk _ _ us _ => yQ8 us + 1
def sumW:List Fm → Nat
 | [] => 0
 | a :: l => xWg a + sumW l
theorem yWf:∀ (l m:List Fm),sumW (l ++ m) = sumW l + sumW m
 | [],m => by simp [sumW]
 | a :: l,m => by simp only [List.cons_append,sumW,yWf l m]; omega
mutual
theorem zVh:∀ f:Fm,sumW (yVt f) = f.size
 | .mk o n us sub => by simp only [yVt,sumW,xWg,Fm.size,zXz sub]; omega
theorem zXz:∀ l:List Fm,sumW (yZx l) = yQ7 l
 | [] => rfl
 | a :: l => by simp only [yZx,yWf,yQ7,zVh a,zXz l]
end
theorem xG2 {l:List Fm} {k:Nat} {a:Fm} (h:l[k]? = some a):sumW (l.take (k + 1)) = sumW (l.take k) + xWg a ∧ sumW (l.take k) + xWg a ≤ sumW l:=by
 have h1:sumW (l.take (k + 1)) = sumW (l.take k) + xWg a:=by rw [yQ5 h,yWf]; simp [sumW]
 refine ⟨h1,?_⟩
 rw [← h1]
 conv => rhs; rw [← List.take_append_drop (k + 1) l,yWf]
 omega
theorem wYz (f:Fm) (x:IV) (hx:IsFm f x) (hs:f.size ≤ 4611686018427387904) (st:ISt) :
  ICall prog gl 318 [x,bigI] st (fun r st' => r = .raw (.int .i64 f.size) ∧ st' = st):=by
 have hx0:=hx
 rw [← zVh f] at hs ⊢
 have hwalk:=fun st => wUm gl x st f hx0
 have hiter:=wVt gl f x hx0
 generalize hfw:yVt f = l at hs hiter ⊢
 have hX:∀ k a,wY2 f k a → ∃ z x,l[k]? = some z ∧ IsFm z x ∧ a = [x]:=fun k a h => by rw [← hfw]; exact h
 generalize wY2 f = X at hiter hX
 obtain ⟨o,n,us,sub⟩:=f
 obtain ⟨t1,x1,t2,x2,rfl,_⟩:=hx.mk
 refine ICall.intro (c:=cf prog gl [5] [] [3]) func318 rfl (by show _ ≤ 20; simp) (by kernel_rfl) ?_
 simp -implicitDefEqProofs -dsimp only [go_sem,bigI,fits]
 refine fun b => yQh fun hb => ?_
 refine (hwalk _).mono ?_
 rintro _ _ ⟨rfl,rfl⟩
 simp -implicitDefEqProofs -dsimp only [go_sem,fits]
 refine RangeC.intro X l.length (fun k st' => st' = st.put b (cBox ((sumW (l.take k):Nat):Int))) (fun _ _ => False) rfl ?_ ?_ ?_ (hiter _) ?_ (fun _ _ _ h => h.elim)
 ·intro k a ha
  obtain ⟨z,x,_,_,rfl⟩:=hX k a ha
  rfl
 ·rw [yQd]; rfl
 ·rintro k a _ hk rfl
  obtain ⟨z,x,hz,hzx,rfl⟩:=hX k a hk
  obtain ⟨h1,h2⟩:=xG2 hz
  obtain ⟨o2,n2,u2,s2⟩:=z
  obtain ⟨t3,x3,t4,x4,rfl,_,ht3,hx3,_⟩:=hzx.mk
  simp only [xWg] at h1 h2
  have hw:IntKind.i64.wrap (((sumW (l.take k):Nat):Int) + 1) = ((sumW (l.take k) + 1:Nat):Int):=by rw [w64] <;> omega
  simp -implicitDefEqProofs -dsimp only [go_sem,ISt.put_same,cBox,fits,hw]
  refine (zGn gl u2 t3 x3 ht3 hx3 b _ (sumW (l.take k) + 1) (ISt.put_same _ _ _) (by omega)).mono ?_
  rintro _ _ ⟨rfl,rfl⟩
  have hgt:decide ((9223372036854775807:Int) < ((sumW (l.take k) + 1 + yQ8 u2:Nat):Int)) = false:=by simp; omega
  simp -implicitDefEqProofs -dsimp only [go_sem,ISt.put_same,cBox,fits,hgt]
  rw [yQd,yQd,h1,show sumW (l.take k) + (yQ8 u2 + 1) = sumW (l.take k) + 1 + yQ8 u2 by omega]
 ·rintro _ r rfl
  simp -implicitDefEqProofs -dsimp only [go_sem,ISt.put_same,fits,cBox]
  rw [lTl]
  exact yQb (yQe hb) ⟨rfl,rfl⟩
theorem wGc (f:Fm) (x:IV) (hx:IsFm f x) (hs:f.size ≤ 4611686018427387904) (st:ISt) :
  ICall prog gl 292 [x] st (fun r st' => r = .raw (.int .i64 f.size) ∧ st' = st):=by
 have hcall:=fun st => wYz gl f x hx hs st
 generalize f.size = z at hcall ⊢
 obtain ⟨o,n,us,sub⟩:=f
 obtain ⟨t1,x1,t2,x2,rfl,_⟩:=hx.mk
 refine iI func292 rfl rfl (by kernel_rfl) ?_
 simp -implicitDefEqProofs -dsimp only [go_sem,fits]
 refine (hcall _).mono ?_
 rintro _ _ ⟨rfl,rfl⟩
 simp -implicitDefEqProofs -dsimp only [go_sem,fits]
 exact yQ0 ⟨rfl,rfl⟩
end Go.Proofs.Tryz
