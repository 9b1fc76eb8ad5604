/- Sequents and trees of sequents as plain data, and how ideal values read as them; the first wrong step of a tree.
   Walks: equality of terms, formulas, sequents and numbers, as lyceumkit has it.
   Walks: copies of terms, formulas and sequents, as lyceumkit makes them.
   The order of terms and formulas, in plain data. -/
import Derived.Test.YtckafgnkmnichaaGreatDoorJK
import Derived.Test.YtckafgnkmnichaaGreatDoorKF
import Derived.Test.YtckafgnkmnichaaGreatDoorKA
import Derived.Test.YtckafgnkmnichaaGreatDoorJW
set_option linter.all false
namespace Go.Iv
open Go

structure Sq where
  l:List Fm
  r:List Fm
inductive Tr where
  | mk (rule:Nat) (s:Sq) (main:Fm) (term:Tm) (name:ByteArray) (sub:List Tr)

def IsSq (s:Sq) (x:IV):Prop:=∃ t xs t' ys,x = .agg [.sl t xs,.sl t' ys] ∧ okEs t 4 ∧ IsFms s.l xs ∧ okEs t' 4 ∧ IsFms s.r ys
def IsSqs:List Sq → List IV → Prop
  | [],xs => xs = []
  | a :: aL,xs => ∃ y ys,xs = y :: ys ∧ IsSq a y ∧ IsSqs aL ys
mutual
def IsTr:Tr → IV → Prop
  | .mk rule s f u n sub,x => ∃ tl xl tr xr op fn ta xa tb xb v un tu xu ts xs,x = .agg [.raw (.int .u8 rule),.sl tl xl,.sl tr xr,.raw (.int .u8 op),.raw (.string fn),.sl ta xa,.sl tb xb,.raw (.bool v),.raw (.string un),.sl tu xu,.raw (.string n),.sl ts xs] ∧
    rule < 256 ∧ okEs tl 4 ∧ IsFms s.l xl ∧ okEs tr 4 ∧ IsFms s.r xr ∧ IsFm f (.agg [.raw (.int .u8 op),.raw (.string fn),.sl ta xa,.sl tb xb]) ∧ IsTm u (.agg [.raw (.bool v),.raw (.string un),.sl tu xu]) ∧ okEs ts 12 ∧ IsTrs sub xs
def IsTrs:List Tr → List IV → Prop
  | [],xs => xs = []
  | a :: aL,xs => ∃ y ys,xs = y :: ys ∧ IsTr a y ∧ IsTrs aL ys
end
theorem IsTr.mk {rule:Nat} {s:Sq} {f:Fm} {u:Tm} {n:ByteArray} {sub:List Tr} {x:IV} (h:IsTr (.mk rule s f u n sub) x):∃ tl xl tr xr op fn ta xa tb xb v un tu xu ts xs,x = .agg [.raw (.int .u8 rule),.sl tl xl,.sl tr xr,.raw (.int .u8 op),.raw (.string fn),.sl ta xa,.sl tb xb,.raw (.bool v),.raw (.string un),.sl tu xu,.raw (.string n),.sl ts xs] ∧
    rule < 256 ∧ okEs tl 4 ∧ IsFms s.l xl ∧ okEs tr 4 ∧ IsFms s.r xr ∧ IsFm f (.agg [.raw (.int .u8 op),.raw (.string fn),.sl ta xa,.sl tb xb]) ∧ IsTm u (.agg [.raw (.bool v),.raw (.string un),.sl tu xu]) ∧ okEs ts 12 ∧ IsTrs sub xs:=by
  simpa only [IsTr] using h
theorem IsSqs.len:∀ {aL:List Sq} {xs:List IV},IsSqs aL xs → xs.length = aL.length
  | [],xs,h => by simp only [IsSqs] at h; subst h; rfl
  | a :: aL,xs,h => by
    simp only [IsSqs] at h
    obtain ⟨y,ys,rfl,_,h⟩:=h
    simp [IsSqs.len h]
theorem IsSqs.get:∀ {aL:List Sq} {xs:List IV} {k:Nat} {a:Sq},IsSqs aL xs → aL[k]? = some a → ∃ x,xs[k]? = some x ∧ IsSq a x
  | [],xs,k,a,h,hk => by simp at hk
  | b :: aL,xs,k,a,h,hk => by
    simp only [IsSqs] at h
    obtain ⟨y,ys,rfl,hy,h⟩:=h
    cases k with
    | zero => simp at hk; subst hk; exact ⟨y,rfl,hy⟩
    | succ k => simpa using IsSqs.get h (by simpa using hk)
theorem IsSqs.append:∀ {aL bs:List Sq} {xs ys:List IV},IsSqs aL xs → IsSqs bs ys → IsSqs (aL ++ bs) (xs ++ ys)
  | [],bs,xs,ys,h,k => by simp only [IsSqs] at h; subst h; exact k
  | a :: aL,bs,xs,ys,h,k => by
    simp only [IsSqs] at h
    obtain ⟨y,zs,rfl,hy,h⟩:=h
    exact ⟨y,zs ++ ys,rfl,hy,IsSqs.append h k⟩
theorem IsTrs.len:∀ {aL:List Tr} {xs:List IV},IsTrs aL xs → xs.length = aL.length
  | [],xs,h => by simp only [IsTrs] at h; subst h; rfl
  | a :: aL,xs,h => by
    simp only [IsTrs] at h
    obtain ⟨y,ys,rfl,_,h⟩:=h
    simp [IsTrs.len h]
theorem IsTrs.get:∀ {aL:List Tr} {xs:List IV} {k:Nat} {a:Tr},IsTrs aL xs → aL[k]? = some a → ∃ x,xs[k]? = some x ∧ IsTr a x
  | [],xs,k,a,h,hk => by simp at hk
  | b :: aL,xs,k,a,h,hk => by
    simp only [IsTrs] at h
    obtain ⟨y,ys,rfl,hy,h⟩:=h
    cases k with
    | zero => simp at hk; subst hk; exact ⟨y,rfl,hy⟩
    | succ k => simpa using IsTrs.get h (by simpa using hk)
theorem IsTrs.append:∀ {aL bs:List Tr} {xs ys:List IV},IsTrs aL xs → IsTrs bs ys → IsTrs (aL ++ bs) (xs ++ ys)
  | [],bs,xs,ys,h,k => by simp only [IsTrs] at h; subst h; exact k
  | a :: aL,bs,xs,ys,h,k => by
    simp only [IsTrs] at h
    obtain ⟨y,zs,rfl,hy,h⟩:=h
    exact ⟨y,zs ++ ys,rfl,hy,IsTrs.append h k⟩

mutual
def Tr.steps:Tr → Nat
  | .mk _ _ _ _ _ sub => 1 + stepsTrs sub
def stepsTrs:List Tr → Nat
  | [] => 0
  | a :: l => a.steps + stepsTrs l
end
mutual
def Tr.height:Tr → Nat
  | .mk _ _ _ _ _ sub => 1 + heightTrs sub
def heightTrs:List Tr → Nat
  | [] => 0
  | a :: l => max a.height (heightTrs l)
end
mutual
def Tr.cuts:Tr → Nat
  | .mk rule _ _ _ _ sub => (if rule = 17 then 1 else 0) + cutsTrs sub
def cutsTrs:List Tr → Nat
  | [] => 0
  | a :: l => a.cuts + cutsTrs l
end
theorem stepsTrs_append:∀ l m:List Tr,stepsTrs (l ++ m) = stepsTrs l + stepsTrs m
  | [],m => by simp [stepsTrs]
  | a :: l,m => by simp only [List.cons_append,stepsTrs,stepsTrs_append l m]; omega
theorem cutsTrs_append:∀ l m:List Tr,cutsTrs (l ++ m) = cutsTrs l + cutsTrs m
  | [],m => by simp [cutsTrs]
  | a :: l,m => by simp only [List.cons_append,cutsTrs,cutsTrs_append l m]; omega
theorem heightTrs_append:∀ l m:List Tr,heightTrs (l ++ m) = max (heightTrs l) (heightTrs m)
  | [],m => by simp [heightTrs]
  | a :: l,m => by simp only [List.cons_append,heightTrs,heightTrs_append l m]; omega
theorem Tr.height_le_steps:∀ t:Tr,t.height ≤ t.steps:=by
  have key:∀ k:Nat,(∀ t:Tr,SizeOf.sizeOf t < k → t.height ≤ t.steps):=fun k => by
    induction k with
    | zero => intro t h; omega
    | succ k ih =>
      rintro ⟨rule,s,f,u,n,sub⟩ h
      have:∀ l:List Tr,SizeOf.sizeOf l < k + 1 → heightTrs l ≤ stepsTrs l:=fun l => by
        induction l with
        | nil => intro _; simp [heightTrs,stepsTrs]
        | cons a l ihl =>
          intro hl
          simp only [List.cons.sizeOf_spec] at hl
          have h1:=ih a (by omega)
          have h2:=ihl (by omega)
          simp only [heightTrs,stepsTrs]; omega
      simp only [Tr.mk.sizeOf_spec] at h
      have:=this sub (by omega)
      simp only [Tr.height,Tr.steps]; omega
  exact fun t => key _ t (Nat.lt_succ_self _)

mutual
def Tr.walk:List Nat → Tr → List (List Nat × Tr)
  | p,t@(.mk _ _ _ _ _ sub) => (p,t) :: walkTrs p 0 sub
def walkTrs:List Nat → Nat → List Tr → List (List Nat × Tr)
  | _,_,[] => []
  | p,i,a :: l => a.walk (p ++ [i]) ++ walkTrs p (i + 1) l
end
def firstBad (e:Tr → Nat):List (List Nat × Tr) → List Nat × Nat
  | [] => ([],0)
  | (p,t) :: l => if e t = 0 then firstBad e l else (p,e t)
theorem firstBad_append (e:Tr → Nat):∀ l m,firstBad e (l ++ m) = if (firstBad e l).2 = 0 then firstBad e m else firstBad e l
  | [],m => by simp [firstBad]
  | (p,t) :: l,m => by
    have ih:=firstBad_append e l m
    by_cases h:e t = 0
    · simp only [List.cons_append,firstBad,h,if_true,ih]
    · simp [firstBad,h]
theorem firstBad_none (e:Tr → Nat):∀ l,(firstBad e l).2 = 0 → firstBad e l = ([],0)
  | [],_ => rfl
  | (p,t) :: l,h => by
    simp only [firstBad] at h ⊢
    by_cases h':e t = 0
    · rw [if_pos h'] at h ⊢; exact firstBad_none e l h
    · rw [if_neg h'] at h; exact absurd h h'
def Fm.op:Fm → Nat
  | .mk op _ _ _ => op
def Fm.subs:Fm → List Fm
  | .mk _ _ _ sub => sub
def Fm.nm:Fm → ByteArray
  | .mk _ n _ _ => n
def Tr.sq:Tr → Sq
  | .mk _ s _ _ _ _ => s
def Sq.plus (s m:Sq):Sq:=⟨s.l ++ m.l,s.r ++ m.r⟩
end Go.Iv

open Nat renaming reduceEqDiff → zE,reduceBEq → zB,reduceAdd → zA,reduceMul → zM,reduceSub → zS,reduceLeDiff → zL
attribute [local go_sem] Go.Iv.cf Go.Iv.setAt List.all_cons List.all_nil Bool.and_self Bool.true_and Bool.and_true Bool.false_and Bool.and_false Bool.not_true Bool.not_false List.mem_nil_iff if_false if_true beq_self_eq_true Nat.zero_add Nat.add_zero List.getElem?_cons_zero List.getElem?_cons_succ Option.map_some List.mem_cons or_false false_or or_true true_or Nat.sub_zero forall_const Int.toNat_natCast List.length_cons List.length_nil List.map_cons List.map_nil List.take_succ_cons List.take_zero List.drop_zero List.drop_succ_cons List.cons_append List.nil_append List.append_nil and_true true_and and_self true_implies List.zip_cons_cons List.zip_nil_left
namespace Go.Proofs.Tryz
open Go Go.Iv
set_option maxRecDepth 4000
variable (gl:Nat → Option IV)

theorem kSameTerm_step (v w:Bool) (n m:ByteArray) (us ws:List Tm) (x y:IV) (hx:IsTm (.mk v n us) x) (hy:IsTm (.mk w m ws) y)
    (IH:∀ (t t':Tag) (xs ys:List IV),okEs t 3 → okEs t' 3 → IsTms us xs → IsTms ws ys → ∀ st,ICall prog gl 171 [.sl t xs,.sl t' ys] st (fun x st' => x = .raw (.bool (eqB us ws)) ∧ st' = st)) (st:ISt) :
    ICall prog gl 117 [x,y] st (fun r st' => r = .raw (.bool (eqB (Tm.mk v n us) (.mk w m ws))) ∧ st' = st):=by
  obtain ⟨tx,cx,rfl,htx,hcx⟩:=hx.mk
  obtain ⟨ty,cy,rfl,hty,hcy⟩:=hy.mk
  refine ICall.intro (c:=cf prog gl [] []) func117 rfl (by show _ ≤ 24; simp) (by kernel_rfl) ?_
  by_cases hv:v = w
  · subst hv
    by_cases hnm:n = m
    · subst hnm
      simp -implicitDefEqProofs -dsimp only [go_sem,↓reduceIte,zE,zB,zA,zM,zS,zL,reduceCtorEq,decide_true]
      refine (IH tx ty cx cy htx hty hcx hcy _).mono ?_
      rintro _ _ ⟨rfl,rfl⟩
      simp -implicitDefEqProofs -dsimp only [go_sem,↓reduceIte,zE,zB,zA,zM,zS,zL,reduceCtorEq]
      refine outK_self ⟨?_,rfl⟩
      by_cases hc:us = ws
      · subst hc; rw [eqB_true.2 rfl,eqB_true.2 rfl]
      · rw [eqB_false.2 hc,eqB_false.2 (by rintro ⟨⟩; exact hc rfl)]
    · simp -implicitDefEqProofs -dsimp only [go_sem,↓reduceIte,zE,zB,zA,zM,zS,zL,reduceCtorEq,decide_eq_false hnm,decide_true]
      exact outK_self ⟨by rw [eqB_false.2 (by rintro ⟨⟩; exact hnm rfl)],rfl⟩
  · simp -implicitDefEqProofs -dsimp only [go_sem,↓reduceIte,zE,zB,zA,zM,zS,zL,reduceCtorEq,beq_eq_false_iff_ne.2 hv]
    exact outK_self ⟨by rw [eqB_false.2 (by rintro ⟨⟩; exact hv rfl)],rfl⟩
theorem kSameTerms_c (t t':Tag) (us ws:List Tm) (xs ys:List IV) (ht:okEs t 3) (ht':okEs t' 3) (ha:IsTms us xs) (hb:IsTms ws ys) (st:ISt) :
    ICall prog gl 171 [.sl t xs,.sl t' ys] st (fun x st' => x = .raw (.bool (eqB us ws)) ∧ st' = st):=by
  refine ICall.intro (c:=cf prog gl [] []) func171 rfl (by show _ ≤ 27; simp) (by kernel_rfl) ?_
  simp -implicitDefEqProofs -dsimp only [go_sem,↓reduceIte,zE,zB,zA,zM,zS,zL,reduceCtorEq,ha.len,hb.len]
  intro hla hlb
  refine condV_intro (fun h => ?_) (fun h => ?_)
  · have hne:us ≠ ws:=by rintro rfl; simp at h
    simp -implicitDefEqProofs -dsimp only [go_sem,↓reduceIte,zE,zB,zA,zM,zS,zL,reduceCtorEq]
    exact outK_self ⟨by rw [eqB_false.2 hne],rfl⟩
  have hlen:us.length = ws.length:=by simp at h; omega
  refine LoopC.ctr us.length (fun k fr st' ds => us.take k = ws.take k ∧ fr 0 = .iv (.sl t xs) ∧ fr 1 = .iv (.sl t' ys) ∧ fr 5 = .iv (.raw (.int .i64 k)) ∧ st' = st ∧ ds = []) ?_ ?_ ?_
  · simp -implicitDefEqProofs -dsimp only [go_sem,↓reduceIte,zE,zB,zA,zM,zS,zL,reduceCtorEq]; rfl
  · rintro k fr st' ds hlt ⟨hn,h0,h1,h5,rfl,rfl⟩
    obtain ⟨a,hka⟩:=get_of_lt hlt
    obtain ⟨b,hkb⟩:=get_of_lt (hlen ▸ hlt)
    obtain ⟨x,hkx,hx⟩:=ha.get hka
    obtain ⟨y,hky,hy⟩:=hb.get hkb
    obtain ⟨v,n,cs⟩:=a
    obtain ⟨w,m,ds⟩:=b
    have hx0:=hx
    have hy0:=hy
    obtain ⟨tx,cx,rfl,htx,hcx⟩:=hx.mk
    obtain ⟨ty,cy,rfl,hty,hcy⟩:=hy.mk
    have hcall:=kSameTerm_step gl v w n m cs ds _ _ hx0 hy0 (fun t1 t2 x1 y1 q1 q2 q3 q4 st1 => kSameTerms_c t1 t2 cs ds x1 y1 q1 q2 q3 q4 st1) st'
    simp -implicitDefEqProofs -dsimp only [go_sem,↓reduceIte,zE,zB,zA,zM,zS,zL,reduceCtorEq,h0,h1,h5,ha.len,hb.len,lt_i hlt,w_succ hlt (show us.length ≤ 281474976710656 by omega),reTag_es ht,reTag_es ht',Int.natCast_nonneg,hkx,hky,fits]
    intro _
    refine hcall.mono ?_
    rintro _ _ ⟨rfl,rfl⟩
    by_cases hc:Tm.mk v n cs = .mk w m ds
    · simp -implicitDefEqProofs -dsimp only [go_sem,↓reduceIte,zE,zB,zA,zM,zS,zL,reduceCtorEq,h0,h1,h5,w_succ hlt (show us.length ≤ 281474976710656 by omega),eqB_true.2 hc]
      rw [take_get hka,take_get hkb,hn,hc]
    · have hne:us ≠ ws:=by
        rintro rfl
        rw [hka] at hkb
        exact hc (Option.some.inj hkb)
      simp -implicitDefEqProofs -dsimp only [go_sem,↓reduceIte,zE,zB,zA,zM,zS,zL,reduceCtorEq,h0,h1,h5,eqB_false.2 hc]
      exact outK_self ⟨by rw [eqB_false.2 hne],rfl⟩
  · rintro fr st' ds ⟨hn,h0,h1,h5,rfl,rfl⟩
    simp -implicitDefEqProofs -dsimp only [go_sem,↓reduceIte,zE,zB,zA,zM,zS,zL,reduceCtorEq,h0,h1,h5,ha.len,nlt_i (Nat.lt_irrefl _)]
    intro _
    have he:us = ws:=by rw [List.take_length] at hn; rw [hn,hlen,List.take_length]
    exact outK_self ⟨by rw [eqB_true.2 he],rfl⟩
termination_by SizeOf.sizeOf us
decreasing_by exact size_args2 (List.mem_of_getElem? hka)
theorem kSameTerm_c (a b:Tm) (x y:IV) (hx:IsTm a x) (hy:IsTm b y) (st:ISt):ICall prog gl 117 [x,y] st (fun r st' => r = .raw (.bool (eqB a b)) ∧ st' = st):=by
  obtain ⟨v,n,us⟩:=a
  obtain ⟨w,m,ws⟩:=b
  exact kSameTerm_step gl v w n m us ws x y hx hy (fun t t' xs ys h1 h2 h3 h4 st => kSameTerms_c gl t t' us ws xs ys h1 h2 h3 h4 st) st

def kSF (f:Fm):Prop:=∀ (g:Fm) (x y:IV) (_:IsFm f x) (_:IsFm g y) (st:ISt),ICall prog gl 116 [x,y] st (fun r st' => r = .raw (.bool (eqB f g)) ∧ st' = st)
theorem kSameForms_step (us ws:List Fm) (IH:∀ a ∈ us,kSF gl a) (t t':Tag) (xs ys:List IV) (ht:okEs t 4) (ht':okEs t' 4) (ha:IsFms us xs) (hb:IsFms ws ys) (st:ISt) :
    ICall prog gl 88 [.sl t xs,.sl t' ys] st (fun x st' => x = .raw (.bool (eqB us ws)) ∧ st' = st):=by
  refine ICall.intro (c:=cf prog gl [] []) func88 rfl (by show _ ≤ 27; simp) (by kernel_rfl) ?_
  simp -implicitDefEqProofs -dsimp only [go_sem,↓reduceIte,zE,zB,zA,zM,zS,zL,reduceCtorEq,ha.len,hb.len]
  intro hla hlb
  refine condV_intro (fun h => ?_) (fun h => ?_)
  · have hne:us ≠ ws:=by rintro rfl; simp at h
    simp -implicitDefEqProofs -dsimp only [go_sem,↓reduceIte,zE,zB,zA,zM,zS,zL,reduceCtorEq]
    exact outK_self ⟨by rw [eqB_false.2 hne],rfl⟩
  have hlen:us.length = ws.length:=by simp at h; omega
  refine LoopC.ctr us.length (fun k fr st' ds => us.take k = ws.take k ∧ fr 0 = .iv (.sl t xs) ∧ fr 1 = .iv (.sl t' ys) ∧ fr 5 = .iv (.raw (.int .i64 k)) ∧ st' = st ∧ ds = []) ?_ ?_ ?_
  · simp -implicitDefEqProofs -dsimp only [go_sem,↓reduceIte,zE,zB,zA,zM,zS,zL,reduceCtorEq]; rfl
  · rintro k fr st' ds hlt ⟨hn,h0,h1,h5,rfl,rfl⟩
    obtain ⟨a,hka⟩:=get_of_lt hlt
    obtain ⟨b,hkb⟩:=get_of_lt (hlen ▸ hlt)
    obtain ⟨x,hkx,hx⟩:=ha.get hka
    obtain ⟨y,hky,hy⟩:=hb.get hkb
    have hcall:=IH a (List.mem_of_getElem? hka) b x y hx hy st'
    obtain ⟨o,n,cs,sub⟩:=a
    obtain ⟨o',m,ds,sub'⟩:=b
    obtain ⟨tx,cx,sx,dx,rfl,_⟩:=hx.mk
    obtain ⟨ty,cy,sy,dy,rfl,_⟩:=hy.mk
    simp -implicitDefEqProofs -dsimp only [go_sem,↓reduceIte,zE,zB,zA,zM,zS,zL,reduceCtorEq,h0,h1,h5,ha.len,hb.len,lt_i hlt,w_succ hlt (show us.length ≤ 281474976710656 by omega),reTag_es ht,reTag_es ht',Int.natCast_nonneg,hkx,hky,fits]
    intro _
    refine hcall.mono ?_
    rintro _ _ ⟨rfl,rfl⟩
    by_cases hc:Fm.mk o n cs sub = .mk o' m ds sub'
    · simp -implicitDefEqProofs -dsimp only [go_sem,↓reduceIte,zE,zB,zA,zM,zS,zL,reduceCtorEq,h0,h1,h5,w_succ hlt (show us.length ≤ 281474976710656 by omega),eqB_true.2 hc]
      rw [take_get hka,take_get hkb,hn,hc]
    · have hne:us ≠ ws:=by
        rintro rfl
        rw [hka] at hkb
        exact hc (Option.some.inj hkb)
      simp -implicitDefEqProofs -dsimp only [go_sem,↓reduceIte,zE,zB,zA,zM,zS,zL,reduceCtorEq,h0,h1,h5,eqB_false.2 hc]
      exact outK_self ⟨by rw [eqB_false.2 hne],rfl⟩
  · rintro fr st' ds ⟨hn,h0,h1,h5,rfl,rfl⟩
    simp -implicitDefEqProofs -dsimp only [go_sem,↓reduceIte,zE,zB,zA,zM,zS,zL,reduceCtorEq,h0,h1,h5,ha.len,nlt_i (Nat.lt_irrefl _)]
    intro _
    have he:us = ws:=by rw [List.take_length] at hn; rw [hn,hlen,List.take_length]
    exact outK_self ⟨by rw [eqB_true.2 he],rfl⟩
theorem kSameForm_step (o:Nat) (n:ByteArray) (us:List Tm) (sub:List Fm) (IH:∀ a ∈ sub,kSF gl a):kSF gl (.mk o n us sub):=by
  intro g x y hx hy st
  obtain ⟨o',m,ws,sub'⟩:=g
  obtain ⟨tx,cx,sx,dx,rfl,ho,htx,hcx,hsx,hdx⟩:=hx.mk
  obtain ⟨ty,cy,sy,dy,rfl,ho',hty,hcy,hsy,hdy⟩:=hy.mk
  have hcall:=kSameForms_step gl sub sub' IH sx sy dx dy hsx hsy hdx hdy
  refine ICall.intro (c:=cf prog gl [] []) func116 rfl (by show _ ≤ 31; simp) (by kernel_rfl) ?_
  by_cases hv:o = o'
  · subst hv
    by_cases hnm:n = m
    · subst hnm
      simp -implicitDefEqProofs -dsimp only [go_sem,↓reduceIte,zE,zB,zA,zM,zS,zL,reduceCtorEq,decide_true]
      refine (kSameTerms_c gl tx ty us ws cx cy htx hty hcx hcy _).mono ?_
      rintro _ _ ⟨rfl,rfl⟩
      by_cases hc:us = ws
      · subst hc
        simp -implicitDefEqProofs -dsimp only [go_sem,↓reduceIte,zE,zB,zA,zM,zS,zL,reduceCtorEq,eqB_true.2 rfl]
        refine (hcall _).mono ?_
        rintro _ _ ⟨rfl,rfl⟩
        simp -implicitDefEqProofs -dsimp only [go_sem,↓reduceIte,zE,zB,zA,zM,zS,zL,reduceCtorEq]
        refine outK_self ⟨?_,rfl⟩
        by_cases hd:sub = sub'
        · subst hd; rw [eqB_true.2 rfl,eqB_true.2 rfl]
        · rw [eqB_false.2 hd,eqB_false.2 (by rintro ⟨⟩; exact hd rfl)]
      · simp -implicitDefEqProofs -dsimp only [go_sem,↓reduceIte,zE,zB,zA,zM,zS,zL,reduceCtorEq,eqB_false.2 hc]
        exact outK_self ⟨by rw [eqB_false.2 (by rintro ⟨⟩; exact hc rfl)],rfl⟩
    · simp -implicitDefEqProofs -dsimp only [go_sem,↓reduceIte,zE,zB,zA,zM,zS,zL,reduceCtorEq,decide_eq_false hnm,decide_true]
      exact outK_self ⟨by rw [eqB_false.2 (by rintro ⟨⟩; exact hnm rfl)],rfl⟩
  · have hv':decide ((o:Int) = (o':Int)) = false:=decide_eq_false (by omega)
    simp -implicitDefEqProofs -dsimp only [go_sem,↓reduceIte,zE,zB,zA,zM,zS,zL,reduceCtorEq,hv']
    exact outK_self ⟨by rw [eqB_false.2 (by rintro ⟨⟩; exact hv rfl)],rfl⟩
theorem kSameForm_all:∀ (k:Nat) (f:Fm),SizeOf.sizeOf f < k → kSF gl f
  | 0,f,h => by omega
  | k + 1,.mk o n us sub,h => kSameForm_step gl o n us sub (fun a ha => kSameForm_all k a (by
      have:=List.sizeOf_lt_of_mem ha
      simp only [Fm.mk.sizeOf_spec] at h
      omega))
theorem kSameForm_c (f:Fm):kSF gl f:=kSameForm_all gl _ f (Nat.lt_succ_self _)
theorem kSameForms_c (us ws:List Fm) (t t':Tag) (xs ys:List IV) (ht:okEs t 4) (ht':okEs t' 4) (ha:IsFms us xs) (hb:IsFms ws ys) (st:ISt) :
    ICall prog gl 88 [.sl t xs,.sl t' ys] st (fun x st' => x = .raw (.bool (eqB us ws)) ∧ st' = st):=kSameForms_step gl us ws (fun a _ => kSameForm_c gl a) t t' xs ys ht ht' ha hb st
theorem kSameSeq_c (a b:Sq) (x y:IV) (hx:IsSq a x) (hy:IsSq b y) (st:ISt):ICall prog gl 35 [x,y] st (fun r st' => r = .raw (.bool (eqB a b)) ∧ st' = st):=by
  obtain ⟨l,r⟩:=a
  obtain ⟨l',r'⟩:=b
  obtain ⟨t1,x1,t2,x2,rfl,h1,h2,h3,h4⟩:=hx
  obtain ⟨t3,x3,t4,x4,rfl,h5,h6,h7,h8⟩:=hy
  refine ICall.intro (c:=cf prog gl [] []) func35 rfl (by show _ ≤ 17; simp) (by kernel_rfl) ?_
  simp -implicitDefEqProofs -dsimp only [go_sem,↓reduceIte,zE,zB,zA,zM,zS,zL,reduceCtorEq]
  refine (kSameForms_c gl l l' t1 t3 x1 x3 h1 h5 h2 h6 _).mono ?_
  rintro _ _ ⟨rfl,rfl⟩
  by_cases hc:l = l'
  · subst hc
    simp -implicitDefEqProofs -dsimp only [go_sem,↓reduceIte,zE,zB,zA,zM,zS,zL,reduceCtorEq,eqB_true.2 rfl]
    refine (kSameForms_c gl r r' t2 t4 x2 x4 h3 h7 h4 h8 _).mono ?_
    rintro _ _ ⟨rfl,rfl⟩
    simp -implicitDefEqProofs -dsimp only [go_sem,↓reduceIte,zE,zB,zA,zM,zS,zL,reduceCtorEq]
    refine outK_self ⟨?_,rfl⟩
    by_cases hd:r = r'
    · subst hd; rw [eqB_true.2 rfl,eqB_true.2 rfl]
    · rw [eqB_false.2 hd,eqB_false.2 (by rintro ⟨⟩; exact hd rfl)]
  · simp -implicitDefEqProofs -dsimp only [go_sem,↓reduceIte,zE,zB,zA,zM,zS,zL,reduceCtorEq,eqB_false.2 hc]
    exact outK_self ⟨by rw [eqB_false.2 (by rintro ⟨⟩; exact hc rfl)],rfl⟩

def intI' (l:List Nat):List IV:=l.map fun (n:Nat) => .raw (.int .i64 (n:Int))
theorem intI'_length (l:List Nat):(intI' l).length = l.length:=by simp [intI']
theorem intI'_get {l:List Nat} {k n:Nat} (h:l[k]? = some n):(intI' l)[k]? = some (.raw (.int .i64 n)):=by simp [intI',h]
theorem SameInts_c (t t':Tag) (us ws:List Nat) (ht:okEs t 1) (ht':okEs t' 1) (st:ISt) :
    ICall prog gl 18 [.sl t (intI' us),.sl t' (intI' ws)] st (fun x st' => x = .raw (.bool (eqB us ws)) ∧ st' = st):=by
  refine ICall.intro (c:=cf prog gl [] []) func18 rfl (by show _ ≤ 26; simp) (by kernel_rfl) ?_
  simp -implicitDefEqProofs -dsimp only [go_sem,↓reduceIte,zE,zB,zA,zM,zS,zL,reduceCtorEq,intI'_length]
  intro hla hlb
  refine condV_intro (fun h => ?_) (fun h => ?_)
  · have hne:us ≠ ws:=by rintro rfl; simp at h
    simp -implicitDefEqProofs -dsimp only [go_sem,↓reduceIte,zE,zB,zA,zM,zS,zL,reduceCtorEq]
    exact outK_self ⟨by rw [eqB_false.2 hne],rfl⟩
  have hlen:us.length = ws.length:=by simp at h; omega
  refine LoopC.ctr us.length (fun k fr st' ds => us.take k = ws.take k ∧ fr 0 = .iv (.sl t (intI' us)) ∧ fr 1 = .iv (.sl t' (intI' ws)) ∧ fr 5 = .iv (.raw (.int .i64 k)) ∧ st' = st ∧ ds = []) ?_ ?_ ?_
  · simp -implicitDefEqProofs -dsimp only [go_sem,↓reduceIte,zE,zB,zA,zM,zS,zL,reduceCtorEq]; rfl
  · rintro k fr st' ds hlt ⟨hn,h0,h1,h5,rfl,rfl⟩
    obtain ⟨a,hka⟩:=get_of_lt hlt
    obtain ⟨b,hkb⟩:=get_of_lt (hlen ▸ hlt)
    have hkx:=intI'_get hka
    have hky:=intI'_get hkb
    by_cases hc:a = b
    · subst hc
      simp -implicitDefEqProofs -dsimp only [go_sem,↓reduceIte,zE,zB,zA,zM,zS,zL,reduceCtorEq,h0,h1,h5,intI'_length,lt_i hlt,w_succ hlt (show us.length ≤ 281474976710656 by omega),reTag_es ht,reTag_es ht',Int.natCast_nonneg,hkx,hky,fits,decide_true]
      intro _
      rw [take_get hka,take_get hkb,hn]
    · have hne:us ≠ ws:=by
        rintro rfl
        rw [hka] at hkb
        exact hc (Option.some.inj hkb)
      have hd:decide ((a:Int) = (b:Int)) = false:=decide_eq_false (by omega)
      simp -implicitDefEqProofs -dsimp only [go_sem,↓reduceIte,zE,zB,zA,zM,zS,zL,reduceCtorEq,h0,h1,h5,intI'_length,lt_i hlt,reTag_es ht,reTag_es ht',Int.natCast_nonneg,hkx,hky,fits,hd]
      intro _
      exact outK_self ⟨by rw [eqB_false.2 hne],rfl⟩
  · rintro fr st' ds ⟨hn,h0,h1,h5,rfl,rfl⟩
    simp -implicitDefEqProofs -dsimp only [go_sem,↓reduceIte,zE,zB,zA,zM,zS,zL,reduceCtorEq,h0,h1,h5,intI'_length,nlt_i (Nat.lt_irrefl _)]
    intro _
    have he:us = ws:=by rw [List.take_length] at hn; rw [hn,hlen,List.take_length]
    exact outK_self ⟨by rw [eqB_true.2 he],rfl⟩
end Go.Proofs.Tryz

namespace Go.Proofs.Tryz
open Go Go.Iv
set_option maxRecDepth 4000
variable (gl:Nat → Option IV)

def kCT (us:List Tm):Prop:=∀ (tg:Tag) (xs:List IV) (_:okEs tg 3) (_:IsTms us xs) (_:sizeTms us ≤ 1099511627776) (st:ISt),
  ICall prog gl 169 [.sl tg xs] st (fun r st' => ∃ tg' ys,r = .sl tg' ys ∧ okEs tg' 3 ∧ appT tg' ∧ IsTmsD us ys ∧ st' = st)
theorem kCopyTerm_step (v:Bool) (n:ByteArray) (us:List Tm) (IH:kCT gl us) (x:IV) (hx:IsTm (.mk v n us) x) (hs:(Tm.mk v n us).size ≤ 1099511627776) (st:ISt) :
    ICall prog gl 114 [x] st (fun r st' => IsTmD (.mk v n us) r ∧ st' = st):=by
  obtain ⟨tx,cx,rfl,htx,hcx⟩:=hx.mk
  simp only [Tm.size] at hs
  have hcall:=IH tx cx htx hcx (by omega) st
  refine ICall.intro (c:=cf prog gl [] []) func114 rfl (by show _ ≤ 8; simp) (by kernel_rfl) ?_
  simp -implicitDefEqProofs -dsimp only [go_sem,↓reduceIte,zE,zB,zA,zM,zS,zL,reduceCtorEq,fits]
  refine hcall.mono ?_
  rintro _ _ ⟨tg',ys,rfl,he,ha,hys,rfl⟩
  simp -implicitDefEqProofs -dsimp only [go_sem,↓reduceIte,zE,zB,zA,zM,zS,zL,reduceCtorEq,fits]
  exact outK_self ⟨IsTmD.intro he ha hys,rfl⟩
theorem kCopyTerms_step (us:List Tm) (IH:∀ v n l,Tm.mk v n l ∈ us → kCT gl l):kCT gl us:=by
  intro tg xs htg hxs hsz st
  have hlsz:=len_le_size us
  refine ICall.intro (c:=cf prog gl [] []) func169 rfl (by show _ ≤ 22; simp) (by kernel_rfl) ?_
  simp -implicitDefEqProofs -dsimp only [go_sem,↓reduceIte,zE,zB,zA,zM,zS,zL,reduceCtorEq]
  refine LoopC.ctr us.length (fun k fr st' ds => (∃ tg' ys,fr 3 = .iv (.sl tg' ys) ∧ IsTmsD (us.take k) ys ∧ appT tg' ∧ own st' tg' k 3 st ∧ subSt st st') ∧ fr 0 = .iv (.sl tg xs) ∧ fr 4 = .iv (.raw (.int .i64 k)) ∧ ds = []) ?_ ?_ ?_
  · simp -implicitDefEqProofs -dsimp only [go_sem,↓reduceIte,zE,zB,zA,zM,zS,zL,reduceCtorEq]
    exact ⟨⟨_,_,rfl,IsTmsD.nil,.inl rfl,own.nil _ _ _ _ _,subSt.refl _⟩,rfl⟩
  · rintro k fr st1 _ hlt ⟨⟨tg',ys,f3,hys,hap,hown,hsub⟩,f0,f4,rfl⟩
    obtain ⟨a,ha⟩:=get_of_lt hlt
    obtain ⟨x,hkx,hx⟩:=hxs.get ha
    obtain ⟨h1,h2⟩:=sizeTms_take ha
    have hlen2:ys.length = k:=by rw [hys.len,List.length_take]; omega
    obtain ⟨v2,n2,m⟩:=a
    have hcall:=kCopyTerm_step gl v2 n2 m (IH _ _ _ (List.mem_of_getElem? ha)) x hx (by omega) st1
    obtain ⟨tx,cx,rfl,htx,hcx⟩:=hx.mk
    simp -implicitDefEqProofs -dsimp only [go_sem,↓reduceIte,zE,zB,zA,zM,zS,zL,reduceCtorEq,f0,f3,f4,hxs.len,lt_i hlt,reTag_es htg,Int.natCast_nonneg,hkx,fits]
    intro _
    refine hcall.mono ?_
    rintro r _ ⟨hr,rfl⟩
    have hn:IsTmsD (us.take (k + 1)) (ys ++ [r]):=by
      rw [take_get ha]; exact hys.append (IsTmsD.one hr)
    obtain ⟨t3,x3,rfl,_⟩:=hr.mk
    simp -implicitDefEqProofs -dsimp only [go_sem,↓reduceIte,zE,zB,zA,zM,zS,zL,reduceCtorEq,f0,f3,f4,fits,inOrder_one]
    refine appV_ownD hown hlen2 hsub rfl (by simp [fits,IV.one]) (by simp only; omega) (by omega) fun tg2 st4 hown2 hsub4 _ hap2 => ?_
    simp -implicitDefEqProofs -dsimp only [go_sem,↓reduceIte,zE,zB,zA,zM,zS,zL,reduceCtorEq,f0,f3,f4,fits,w_succ hlt (show us.length ≤ 281474976710656 by omega)]
    exact ⟨tg2,_,rfl,hn,hap2,hown2,hsub4⟩
  · rintro fr st1 _ ⟨⟨tg',ys,f3,hys,hap,hown,hsub⟩,f0,f4,rfl⟩
    rw [List.take_length] at hys
    simp -implicitDefEqProofs -dsimp only [go_sem,↓reduceIte,zE,zB,zA,zM,zS,zL,reduceCtorEq,f0,f3,f4,hxs.len,nlt_i (Nat.lt_irrefl _),fits]
    intro _
    exact outK_sub (st':=st) hsub ⟨tg',ys,rfl,hown.es,hap,hys,rfl⟩
theorem kCopyTerms_all:∀ (k:Nat) (us:List Tm),SizeOf.sizeOf us < k → kCT gl us
  | 0,f,h => by omega
  | k + 1,us,h => kCopyTerms_step gl us (fun v n l ha => kCopyTerms_all k l (by
      have:=List.sizeOf_lt_of_mem ha
      simp at this; omega))
theorem kCopyTerms_c (us:List Tm):kCT gl us:=kCopyTerms_all gl _ us (Nat.lt_succ_self _)
theorem kCopyTerm_c (a:Tm) (x:IV) (hx:IsTm a x) (hs:a.size ≤ 1099511627776) (st:ISt):ICall prog gl 114 [x] st (fun r st' => IsTmD a r ∧ st' = st):=by
  obtain ⟨v,n,us⟩:=a
  exact kCopyTerm_step gl v n us (kCopyTerms_c gl us) x hx hs st

def kCF (f:Fm):Prop:=∀ (x:IV) (_:IsFm f x) (_:f.size ≤ 1099511627776) (st:ISt),ICall prog gl 113 [x] st (fun r st' => IsFmD f r ∧ st' = st)
theorem IsFmD.aggs {f:Fm} {r:IV} (h:IsFmD f r):∃ o n t x t' x',r = .agg [.raw (.int .u8 o),.raw (.string n),.sl t x,.sl t' x']:=by
  obtain ⟨o,n,us,sub⟩:=f
  obtain ⟨t,xs,t',ys,rfl,_⟩:=h.mk
  exact ⟨_,_,_,_,_,_,rfl⟩
theorem kCopyForms_step (us:List Fm) (IH:∀ a ∈ us,kCF gl a) (tg:Tag) (xs:List IV) (htg:okEs tg 4) (hxs:IsFms us xs) (hsz:sizeFms us ≤ 1099511627776) (st:ISt) :
    ICall prog gl 72 [.sl tg xs] st (fun r st' => ∃ tg' ys,r = .sl tg' ys ∧ okEs tg' 4 ∧ appT tg' ∧ IsFmsD us ys ∧ st' = st):=by
  have hlsz:=flen_le_size us
  refine ICall.intro (c:=cf prog gl [] []) func72 rfl (by show _ ≤ 22; simp) (by kernel_rfl) ?_
  simp -implicitDefEqProofs -dsimp only [go_sem,↓reduceIte,zE,zB,zA,zM,zS,zL,reduceCtorEq]
  refine LoopC.ctr us.length (fun k fr st' ds => (∃ tg' ys,fr 3 = .iv (.sl tg' ys) ∧ IsFmsD (us.take k) ys ∧ appT tg' ∧ own st' tg' k 4 st ∧ subSt st st') ∧ fr 0 = .iv (.sl tg xs) ∧ fr 4 = .iv (.raw (.int .i64 k)) ∧ ds = []) ?_ ?_ ?_
  · simp -implicitDefEqProofs -dsimp only [go_sem,↓reduceIte,zE,zB,zA,zM,zS,zL,reduceCtorEq]
    exact ⟨⟨_,_,rfl,IsFmsD.nil,.inl rfl,own.nil _ _ _ _ _,subSt.refl _⟩,rfl⟩
  · rintro k fr st1 _ hlt ⟨⟨tg',ys,f3,hys,hap,hown,hsub⟩,f0,f4,rfl⟩
    obtain ⟨a,ha⟩:=get_of_lt hlt
    obtain ⟨x,hkx,hx⟩:=hxs.get ha
    obtain ⟨h1,h2⟩:=sizeFms_take ha
    have hlen2:ys.length = k:=by rw [hys.len,List.length_take]; omega
    have hcall:=IH a (List.mem_of_getElem? ha) x hx (by omega) st1
    obtain ⟨o5,n5,t5,x5,t6,x6,rfl⟩:=hx.agg
    simp -implicitDefEqProofs -dsimp only [go_sem,↓reduceIte,zE,zB,zA,zM,zS,zL,reduceCtorEq,f0,f3,f4,hxs.len,lt_i hlt,reTag_es htg,Int.natCast_nonneg,hkx,fits]
    intro _
    refine hcall.mono ?_
    rintro r _ ⟨hr,rfl⟩
    have hn:IsFmsD (us.take (k + 1)) (ys ++ [r]):=by
      rw [take_get ha]; exact hys.append (IsFmsD.one hr)
    obtain ⟨o7,n7,t7,x7,t8,x8,rfl⟩:=IsFmD.aggs hr
    simp -implicitDefEqProofs -dsimp only [go_sem,↓reduceIte,zE,zB,zA,zM,zS,zL,reduceCtorEq,f0,f3,f4,fits,inOrder_one]
    refine appV_ownD hown hlen2 hsub rfl (by simp [fits,IV.one]) (by simp only; omega) (by omega) fun tg2 st4 hown2 hsub4 _ hap2 => ?_
    simp -implicitDefEqProofs -dsimp only [go_sem,↓reduceIte,zE,zB,zA,zM,zS,zL,reduceCtorEq,f0,f3,f4,fits,w_succ hlt (show us.length ≤ 281474976710656 by omega)]
    exact ⟨tg2,_,rfl,hn,hap2,hown2,hsub4⟩
  · rintro fr st1 _ ⟨⟨tg',ys,f3,hys,hap,hown,hsub⟩,f0,f4,rfl⟩
    rw [List.take_length] at hys
    simp -implicitDefEqProofs -dsimp only [go_sem,↓reduceIte,zE,zB,zA,zM,zS,zL,reduceCtorEq,f0,f3,f4,hxs.len,nlt_i (Nat.lt_irrefl _),fits]
    intro _
    exact outK_sub (st':=st) hsub ⟨tg',ys,rfl,hown.es,hap,hys,rfl⟩
theorem kCopyForm_step (o:Nat) (n:ByteArray) (us:List Tm) (sub:List Fm) (IH:∀ a ∈ sub,kCF gl a):kCF gl (.mk o n us sub):=by
  intro x hx hs st
  obtain ⟨t1,x1,t2,x2,rfl,ho,ht1,hx1,ht2,hx2⟩:=hx.mk
  simp only [Fm.size] at hs
  have hc1:=kCopyTerms_c gl us t1 x1 ht1 hx1 (by omega) st
  have hc2:=kCopyForms_step gl sub IH t2 x2 ht2 hx2 (by omega) st
  refine ICall.intro (c:=cf prog gl [] []) func113 rfl (by show _ ≤ 12; simp) (by kernel_rfl) ?_
  simp -implicitDefEqProofs -dsimp only [go_sem,↓reduceIte,zE,zB,zA,zM,zS,zL,reduceCtorEq,fits]
  refine hc1.mono ?_
  rintro _ _ ⟨tg',ys,rfl,he,ha,hys,rfl⟩
  simp -implicitDefEqProofs -dsimp only [go_sem,↓reduceIte,zE,zB,zA,zM,zS,zL,reduceCtorEq,fits]
  refine hc2.mono ?_
  rintro _ _ ⟨tg2,ys2,rfl,he2,ha2,hys2,rfl⟩
  simp -implicitDefEqProofs -dsimp only [go_sem,↓reduceIte,zE,zB,zA,zM,zS,zL,reduceCtorEq,fits]
  exact outK_self ⟨IsFmD.intro ho he ha hys he2 ha2 hys2,rfl⟩
theorem kCopyForm_all:∀ (k:Nat) (f:Fm),SizeOf.sizeOf f < k → kCF gl f
  | 0,f,h => by omega
  | k + 1,.mk o n us sub,h => kCopyForm_step gl o n us sub (fun a ha => kCopyForm_all k a (by
      have:=List.sizeOf_lt_of_mem ha
      simp only [Fm.mk.sizeOf_spec] at h
      omega))
theorem kCopyForm_c (f:Fm):kCF gl f:=kCopyForm_all gl _ f (Nat.lt_succ_self _)
theorem kCopyForms_c (us:List Fm) (tg:Tag) (xs:List IV) (htg:okEs tg 4) (hxs:IsFms us xs) (hsz:sizeFms us ≤ 1099511627776) (st:ISt) :
    ICall prog gl 72 [.sl tg xs] st (fun r st' => ∃ tg' ys,r = .sl tg' ys ∧ okEs tg' 4 ∧ appT tg' ∧ IsFmsD us ys ∧ st' = st):=kCopyForms_step gl us (fun a _ => kCopyForm_c gl a) tg xs htg hxs hsz st
theorem kCopySeq_c (s:Sq) (x:IV) (hx:IsSq s x) (h1:sizeFms s.l ≤ 1099511627776) (h2:sizeFms s.r ≤ 1099511627776) (st:ISt):ICall prog gl 25 [x] st (fun r st' =>
    (∃ t1 x1 t2 x2,r = .agg [.sl t1 x1,.sl t2 x2] ∧ okEs t1 4 ∧ appT t1 ∧ IsFmsD s.l x1 ∧ okEs t2 4 ∧ appT t2 ∧ IsFmsD s.r x2) ∧ st' = st):=by
  obtain ⟨t1,x1,t2,x2,rfl,e1,i1,e2,i2⟩:=hx
  have hc1:=kCopyForms_c gl s.l t1 x1 e1 i1 h1 st
  have hc2:=kCopyForms_c gl s.r t2 x2 e2 i2 h2 st
  refine ICall.intro (c:=cf prog gl [] []) func25 rfl (by show _ ≤ 12; simp) (by kernel_rfl) ?_
  simp -implicitDefEqProofs -dsimp only [go_sem,↓reduceIte,zE,zB,zA,zM,zS,zL,reduceCtorEq,fits]
  refine hc1.mono ?_
  rintro _ _ ⟨tg',ys,rfl,he,ha,hys,rfl⟩
  simp -implicitDefEqProofs -dsimp only [go_sem,↓reduceIte,zE,zB,zA,zM,zS,zL,reduceCtorEq,fits]
  refine hc2.mono ?_
  rintro _ _ ⟨tg2,ys2,rfl,he2,ha2,hys2,rfl⟩
  simp -implicitDefEqProofs -dsimp only [go_sem,↓reduceIte,zE,zB,zA,zM,zS,zL,reduceCtorEq,fits]
  exact outK_self ⟨⟨_,_,_,_,rfl,he,ha,hys,he2,ha2,hys2⟩,rfl⟩
end Go.Proofs.Tryz

namespace Go.Proofs.Tryz
open Go Go.Iv

def cmpN (a b:Nat):Int:=if a < b then -1 else if b < a then 1 else 0
noncomputable def cmpB (a b:ByteArray):Int:=if Op.bytesLess a.data.toList b.data.toList = true then -1 else if Op.bytesLess b.data.toList a.data.toList = true then 1 else 0
def lexI (x y:Int):Int:=if x = 0 then y else x
mutual
noncomputable def cmpTm:Tm → Tm → Int
  | .mk v n us,.mk v' n' us' => if v = v' then lexI (cmpB n n') (lexI (cmpN us.length us'.length) (cmpTms us us')) else if v = true then -1 else 1
noncomputable def cmpTms:List Tm → List Tm → Int
  | a :: l,b :: m => lexI (cmpTm a b) (cmpTms l m)
  | _,_ => 0
end
mutual
noncomputable def cmpFm:Fm → Fm → Int
  | .mk o n us sub,.mk o' n' us' sub' => lexI (cmpN o o') (lexI (cmpB n n') (lexI (lexI (cmpN us.length us'.length) (cmpTms us us')) (lexI (cmpN sub.length sub'.length) (cmpFms sub sub'))))
noncomputable def cmpFms:List Fm → List Fm → Int
  | a :: l,b :: m => lexI (cmpFm a b) (cmpFms l m)
  | _,_ => 0
end

structure Cp {α:Type} (f:α → α → Int) (a:α):Prop where
  eq:∀ b,f a b = 0 ↔ a = b
  neg:∀ b,f b a = - f a b
  tr:∀ b c,f a b < 0 → f b c < 0 → f a c < 0
theorem lexI_zero {x y:Int}:lexI x y = 0 ↔ x = 0 ∧ y = 0:=by
  unfold lexI; split
  · rename_i h; simp [h]
  · rename_i h; simp [h]
theorem lexI_neg (x y:Int):lexI (-x) (-y) = - lexI x y:=by
  unfold lexI
  by_cases h:x = 0
  · simp [h]
  · rw [if_neg (by omega),if_neg h]
theorem lexI_lt {x y:Int}:lexI x y < 0 ↔ x < 0 ∨ x = 0 ∧ y < 0:=by
  unfold lexI; split
  · rename_i h; simp [h]
  · rename_i h; simp [h]
theorem lex_tr {p q r p' q' r':Int} (h1:p < 0 → q < 0 → r < 0) (h2:p = 0 → q = r) (h3:q = 0 → p = r) (h4:p' < 0 → q' < 0 → r' < 0) (h:lexI p p' < 0) (k:lexI q q' < 0):lexI r r' < 0:=by
  rw [lexI_lt] at *
  rcases h with h | ⟨h,h'⟩
  · rcases k with k | ⟨k,_⟩
    · exact .inl (h1 h k)
    · exact .inl (by rw [← h3 k]; exact h)
  · rcases k with k | ⟨k,k'⟩
    · exact .inl (by rw [← h2 h]; exact k)
    · exact .inr ⟨by rw [← h2 h]; exact k,h4 h' k'⟩
theorem cmpN_cp (a:Nat):Cp cmpN a:=by
  refine ⟨fun b => ?_,fun b => ?_,fun b c => ?_⟩ <;> unfold cmpN <;> repeat' split
  all_goals (first | omega | simp_all | (constructor <;> intro <;> omega))
open Classical in
theorem cmpB_eq {a b:ByteArray}:cmpB a b = if ltN a b then -1 else if ltN b a then 1 else 0:=by
  unfold cmpB
  congr 1
  · exact propext less_ltN
  · congr 1; exact propext less_ltN
open Classical in
theorem cmpB_cp (a:ByteArray):Cp cmpB a:=by
  refine ⟨fun b => ?_,fun b => ?_,fun b c => ?_⟩
  · rw [cmpB_eq]
    by_cases h1:ltN a b
    · rw [if_pos h1]
      exact ⟨fun h => by omega,fun h => absurd h1 (by rw [h]; exact ltN_irr b)⟩
    · rw [if_neg h1]
      by_cases h2:ltN b a
      · rw [if_pos h2]
        exact ⟨fun h => by omega,fun h => absurd h2 (by rw [h]; exact ltN_irr b)⟩
      · rw [if_neg h2]
        exact ⟨fun _ => Classical.byContradiction fun hne => h2 (ltN_total h1 hne),fun _ => rfl⟩
  · rw [cmpB_eq,cmpB_eq]
    by_cases h1:ltN a b
    · rw [if_pos h1,if_neg (ltN_asymm h1),if_pos h1]; rfl
    · by_cases h2:ltN b a
      · rw [if_pos h2,if_neg h1,if_pos h2]
      · rw [if_neg h1,if_neg h2,if_neg h2,if_neg h1]; rfl
  · rw [cmpB_eq,cmpB_eq,cmpB_eq]
    have key:∀ x y:ByteArray,(if ltN x y then (-1:Int) else if ltN y x then 1 else 0) < 0 ↔ ltN x y:=fun x y => by
      by_cases h1:ltN x y
      · simp [h1]
      · by_cases h2:ltN y x <;> simp [h1,h2]
    rw [key,key,key]
    exact ltN_trans

section
variable {α:Type} {f:α → α → Int} {g:List α → List α → Int} (g0:g [] [] = 0) (g1:∀ a b l m,g (a :: l) (b :: m) = lexI (f a b) (g l m))
include g0 g1
theorem list_eq:∀ (l:List α),(∀ a ∈ l,∀ b,f a b = 0 ↔ a = b) → ∀ m,l.length = m.length → (g l m = 0 ↔ l = m)
  | [],_,m,hm => by
    obtain rfl:m = []:=List.eq_nil_of_length_eq_zero hm.symm
    simp [g0]
  | a :: l,hc,b :: m,hm => by
    rw [g1,lexI_zero,hc a (by simp),list_eq l (fun b hb => hc b (by simp [hb])) m (by simpa using hm),List.cons.injEq]
theorem list_neg:∀ (l:List α),(∀ a ∈ l,∀ b,f b a = - f a b) → ∀ m,l.length = m.length → g m l = - g l m
  | [],_,m,hm => by
    obtain rfl:m = []:=List.eq_nil_of_length_eq_zero hm.symm
    simp [g0]
  | a :: l,hc,b :: m,hm => by
    rw [g1,g1,hc a (by simp),list_neg l (fun b hb => hc b (by simp [hb])) m (by simpa using hm),lexI_neg]
theorem list_tr (he:∀ a b,f a b = 0 ↔ a = b):∀ (l:List α),(∀ a ∈ l,∀ b c,f a b < 0 → f b c < 0 → f a c < 0) → ∀ m n,l.length = m.length → m.length = n.length → g l m < 0 → g m n < 0 → g l n < 0
  | [],_,m,n,hm,hn,h,_ => by
    obtain rfl:m = []:=List.eq_nil_of_length_eq_zero hm.symm
    rw [g0] at h; omega
  | a :: l,hc,b :: m,c :: n,hm,hn,h,k => by
    rw [g1] at h k ⊢
    exact lex_tr (hc a (by simp) b c) (fun e => by rw [(he a b).1 e]) (fun e => by rw [(he b c).1 e]) (list_tr he l (fun b hb => hc b (by simp [hb])) m n (by simpa using hm) (by simpa using hn)) h k
end
def lenL {α:Type} (g:List α → List α → Int) (l m:List α):Int:=lexI (cmpN l.length m.length) (g l m)
theorem cmpN_zero {a b:Nat}:cmpN a b = 0 ↔ a = b:=(cmpN_cp a).eq b
section
variable {α:Type} {f:α → α → Int} {g:List α → List α → Int} (g0:g [] [] = 0) (g1:∀ a b l m,g (a :: l) (b :: m) = lexI (f a b) (g l m))
include g0 g1
theorem lenL_eq {l:List α} (h:∀ a ∈ l,∀ b,f a b = 0 ↔ a = b) (m:List α):lenL g l m = 0 ↔ l = m:=by
  unfold lenL
  rw [lexI_zero,cmpN_zero]
  constructor
  · rintro ⟨h1,h2⟩; exact (list_eq g0 g1 l h m h1).1 h2
  · rintro rfl; exact ⟨rfl,(list_eq g0 g1 l h l rfl).2 rfl⟩
theorem lenL_neg {l:List α} (h:∀ a ∈ l,∀ b,f b a = - f a b) (m:List α):lenL g m l = - lenL g l m:=by
  unfold lenL
  rw [(cmpN_cp l.length).neg]
  by_cases hl:l.length = m.length
  · rw [list_neg g0 g1 l h m hl,lexI_neg]
  · have:¬ cmpN l.length m.length = 0:=fun h => hl (cmpN_zero.1 h)
    unfold lexI
    rw [if_neg (by omega),if_neg this]
theorem lenL_tr (he:∀ a b,f a b = 0 ↔ a = b) {l:List α} (h:∀ a ∈ l,∀ b c,f a b < 0 → f b c < 0 → f a c < 0) (m n:List α) (h1:lenL g l m < 0) (h2:lenL g m n < 0):lenL g l n < 0:=by
  unfold lenL at *
  rw [lexI_lt] at h1 h2
  by_cases hl:l.length = m.length ∧ m.length = n.length
  · obtain ⟨hl,hm⟩:=hl
    have e1:¬ cmpN l.length m.length < 0:=by rw [cmpN_zero.2 hl]; omega
    have e2:¬ cmpN m.length n.length < 0:=by rw [cmpN_zero.2 hm]; omega
    have e3:cmpN l.length n.length = 0:=cmpN_zero.2 (hl.trans hm)
    rw [lexI_lt]
    exact .inr ⟨e3,list_tr g0 g1 he l h m n hl hm (h1.resolve_left e1).2 (h2.resolve_left e2).2⟩
  · rw [lexI_lt]
    left
    rcases h1 with h1 | ⟨h1,_⟩
    · rcases h2 with h2 | ⟨h2,_⟩
      · exact (cmpN_cp _).tr _ _ h1 h2
      · rw [← cmpN_zero.1 h2]; exact h1
    · rcases h2 with h2 | ⟨h2,_⟩
      · rw [cmpN_zero.1 h1]; exact h2
      · exact absurd ⟨cmpN_zero.1 h1,cmpN_zero.1 h2⟩ hl
end

theorem cmpTms0:cmpTms [] [] = 0:=by simp only [cmpTms]
theorem cmpTms1 (a b:Tm) (l m:List Tm):cmpTms (a :: l) (b :: m) = lexI (cmpTm a b) (cmpTms l m):=by simp only [cmpTms]
theorem cmpFms0:cmpFms [] [] = 0:=by simp only [cmpFms]
theorem cmpFms1 (a b:Fm) (l m:List Fm):cmpFms (a :: l) (b :: m) = lexI (cmpFm a b) (cmpFms l m):=by simp only [cmpFms]
theorem cmpTm_mk (v v':Bool) (n n':ByteArray) (us us':List Tm):cmpTm (.mk v n us) (.mk v' n' us') = if v = v' then lexI (cmpB n n') (lenL cmpTms us us') else if v = true then -1 else 1:=by simp only [cmpTm,lenL]
theorem cmpFm_mk (o o':Nat) (n n':ByteArray) (us us':List Tm) (sub sub':List Fm):cmpFm (.mk o n us sub) (.mk o' n' us' sub') = lexI (cmpN o o') (lexI (cmpB n n') (lexI (lenL cmpTms us us') (lenL cmpFms sub sub'))):=by simp only [cmpFm,lenL]
theorem tm_ind {p:Tm → Prop} (h:∀ v n us,(∀ a ∈ us,p a) → p (.mk v n us)) (t:Tm):p t:=by
  have key:∀ (k:Nat) (t:Tm),SizeOf.sizeOf t < k → p t:=fun k => by
    induction k with
    | zero => intro t ht; omega
    | succ k ih =>
      rintro ⟨v,n,us⟩ ht
      refine h v n us fun a ha => ih a ?_
      have:=List.sizeOf_lt_of_mem ha
      simp only [Tm.mk.sizeOf_spec] at ht
      omega
  exact key _ t (Nat.lt_succ_self _)
theorem fm_ind {p:Fm → Prop} (h:∀ o n us sub,(∀ a ∈ sub,p a) → p (.mk o n us sub)) (t:Fm):p t:=by
  have key:∀ (k:Nat) (t:Fm),SizeOf.sizeOf t < k → p t:=fun k => by
    induction k with
    | zero => intro t ht; omega
    | succ k ih =>
      rintro ⟨o,n,us,sub⟩ ht
      refine h o n us sub fun a ha => ih a ?_
      have:=List.sizeOf_lt_of_mem ha
      simp only [Fm.mk.sizeOf_spec] at ht
      omega
  exact key _ t (Nat.lt_succ_self _)
theorem cmpTm_eq (a b:Tm):cmpTm a b = 0 ↔ a = b:=by
  revert b
  refine tm_ind (p:=fun a => ∀ b,cmpTm a b = 0 ↔ a = b) (fun v n us ih b => ?_) a
  obtain ⟨v',n',us'⟩:=b
  rw [cmpTm_mk,Tm.mk.injEq]
  by_cases hv:v = v'
  · rw [if_pos hv,lexI_zero,(cmpB_cp n).eq,lenL_eq cmpTms0 cmpTms1 ih]
    simp [hv]
  · rw [if_neg hv]
    simp only [hv,false_and,iff_false]
    split <;> omega
theorem cmpTm_neg (a b:Tm):cmpTm b a = - cmpTm a b:=by
  revert b
  refine tm_ind (p:=fun a => ∀ b,cmpTm b a = - cmpTm a b) (fun v n us ih b => ?_) a
  obtain ⟨v',n',us'⟩:=b
  rw [cmpTm_mk,cmpTm_mk]
  by_cases hv:v = v'
  · rw [if_pos hv,if_pos hv.symm,(cmpB_cp n).neg,lenL_neg cmpTms0 cmpTms1 ih,lexI_neg]
  · rw [if_neg hv,if_neg (fun h => hv h.symm)]
    cases v <;> cases v' <;> simp_all
theorem cmpTm_tr (a b c:Tm):cmpTm a b < 0 → cmpTm b c < 0 → cmpTm a c < 0:=by
  revert b c
  refine tm_ind (p:=fun a => ∀ b c,cmpTm a b < 0 → cmpTm b c < 0 → cmpTm a c < 0) (fun v n us ih b c => ?_) a
  obtain ⟨v',n',us'⟩:=b
  obtain ⟨v'',n'',us''⟩:=c
  rw [cmpTm_mk,cmpTm_mk,cmpTm_mk]
  have hl:=fun (h:lexI (cmpB n n') (lenL cmpTms us us') < 0) (k:lexI (cmpB n' n'') (lenL cmpTms us' us'') < 0) =>
    lex_tr (r:=cmpB n n'') (r':=lenL cmpTms us us'') ((cmpB_cp n).tr n' n'') (fun e => by rw [((cmpB_cp n).eq n').1 e]) (fun e => by rw [((cmpB_cp n').eq n'').1 e]) (lenL_tr cmpTms0 cmpTms1 cmpTm_eq ih us' us'') h k
  cases v <;> cases v' <;> cases v'' <;> simp_all
theorem cmpFm_eq (a b:Fm):cmpFm a b = 0 ↔ a = b:=by
  revert b
  refine fm_ind (p:=fun a => ∀ b,cmpFm a b = 0 ↔ a = b) (fun o n us sub ih b => ?_) a
  obtain ⟨o',n',us',sub'⟩:=b
  rw [cmpFm_mk,Fm.mk.injEq,lexI_zero,lexI_zero,lexI_zero,cmpN_zero,(cmpB_cp n).eq,lenL_eq cmpTms0 cmpTms1 (fun a _ => cmpTm_eq a),lenL_eq cmpFms0 cmpFms1 ih]
theorem cmpFm_neg (a b:Fm):cmpFm b a = - cmpFm a b:=by
  revert b
  refine fm_ind (p:=fun a => ∀ b,cmpFm b a = - cmpFm a b) (fun o n us sub ih b => ?_) a
  obtain ⟨o',n',us',sub'⟩:=b
  rw [cmpFm_mk,cmpFm_mk,(cmpN_cp o).neg,(cmpB_cp n).neg,lenL_neg cmpTms0 cmpTms1 (fun a _ => cmpTm_neg a),lenL_neg cmpFms0 cmpFms1 ih,lexI_neg,lexI_neg,lexI_neg]
theorem cmpFm_tr (a b c:Fm):cmpFm a b < 0 → cmpFm b c < 0 → cmpFm a c < 0:=by
  revert b c
  refine fm_ind (p:=fun a => ∀ b c,cmpFm a b < 0 → cmpFm b c < 0 → cmpFm a c < 0) (fun o n us sub ih b c => ?_) a
  obtain ⟨o',n',us',sub'⟩:=b
  obtain ⟨o'',n'',us'',sub''⟩:=c
  rw [cmpFm_mk,cmpFm_mk,cmpFm_mk]
  refine lex_tr ((cmpN_cp o).tr o' o'') (fun e => by rw [cmpN_zero.1 e]) (fun e => by rw [cmpN_zero.1 e]) ?_
  refine lex_tr ((cmpB_cp n).tr n' n'') (fun e => by rw [((cmpB_cp n).eq n').1 e]) (fun e => by rw [((cmpB_cp n').eq n'').1 e]) ?_
  exact lex_tr (lenL_tr cmpTms0 cmpTms1 cmpTm_eq (fun a _ => cmpTm_tr a) us' us'') (fun e => by rw [(lenL_eq cmpTms0 cmpTms1 (fun a _ => cmpTm_eq a) us').1 e]) (fun e => by rw [(lenL_eq cmpTms0 cmpTms1 (fun a _ => cmpTm_eq a) us'').1 e])
    (lenL_tr cmpFms0 cmpFms1 cmpFm_eq ih sub' sub'')
def SetF (l r:List Fm):Prop:=r.Pairwise (fun a b => cmpFm a b < 0) ∧ ∀ f,f ∈ r ↔ f ∈ l
theorem cmpFm_irr (a:Fm):¬ cmpFm a a < 0:=by rw [(cmpFm_eq a a).2 rfl]; omega
theorem SetF.uniq:∀ {r r':List Fm},r.Pairwise (fun a b => cmpFm a b < 0) → r'.Pairwise (fun a b => cmpFm a b < 0) → (∀ x,x ∈ r ↔ x ∈ r') → r = r'
  | [],r',_,_,h => by
    cases r' with
    | nil => rfl
    | cons b r' => exact absurd ((h b).2 (List.mem_cons_self ..)) (by simp)
  | a :: r,[],_,_,h => absurd ((h a).1 (List.mem_cons_self ..)) (by simp)
  | a :: r,b :: r',h1,h2,h => by
    have p1:=List.pairwise_cons.1 h1
    have p2:=List.pairwise_cons.1 h2
    have hab:a = b:=by
      refine Classical.byContradiction fun hne => ?_
      have ha:a ∈ r':=by
        rcases List.mem_cons.1 ((h a).1 (List.mem_cons_self ..)) with e | e
        · exact absurd e hne
        · exact e
      have hb:b ∈ r:=by
        rcases List.mem_cons.1 ((h b).2 (List.mem_cons_self ..)) with e | e
        · exact absurd e.symm hne
        · exact e
      have h3:=p1.1 b hb
      have h4:=p2.1 a ha
      rw [cmpFm_neg] at h4
      omega
    subst hab
    congr 1
    refine SetF.uniq p1.2 p2.2 fun x => ?_
    constructor
    · intro hx
      rcases List.mem_cons.1 ((h x).1 (List.mem_cons_of_mem _ hx)) with e | e
      · subst e; exact absurd (p1.1 _ hx) (cmpFm_irr _)
      · exact e
    · intro hx
      rcases List.mem_cons.1 ((h x).2 (List.mem_cons_of_mem _ hx)) with e | e
      · subst e; exact absurd (p2.1 _ hx) (cmpFm_irr _)
      · exact e
theorem SetF.one {l r r':List Fm} (h:SetF l r) (h':SetF l r'):r = r':=SetF.uniq h.1 h'.1 fun x => (h.2 x).trans (h'.2 x).symm
end Go.Proofs.Tryz
