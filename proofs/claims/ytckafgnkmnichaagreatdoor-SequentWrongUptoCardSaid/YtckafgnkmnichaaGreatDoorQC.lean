/- Walks: formulas and sequents of a calculus; what is in a list; sequents within others.
   Walks: the rows of a calculus; what a rule with a row adds. -/
import Derived.Test.YtckafgnkmnichaaGreatDoorQB
import Derived.Test.YtckafgnkmnichaaGreatDoorJZ
set_option linter.all false
open Nat renaming reduceEqDiff → zE,reduceBEq → zB,reduceAdd → zA,reduceMul → zM,reduceSub → zS,reduceLeDiff → zL
attribute [local go_sem] Go.Iv.cf Go.Iv.setAt List.all_cons List.all_nil Bool.and_self Bool.true_and Bool.and_true Bool.false_and Bool.and_false Bool.not_true Bool.not_false List.mem_nil_iff if_false if_true beq_self_eq_true Nat.zero_add Nat.add_zero List.getElem?_cons_zero List.getElem?_cons_succ Option.map_some List.mem_cons or_false false_or or_true true_or Nat.sub_zero forall_const Int.toNat_natCast List.length_cons List.length_nil List.map_cons List.map_nil List.take_succ_cons List.take_zero List.drop_zero List.drop_succ_cons List.cons_append List.nil_append List.append_nil and_true true_and and_self true_implies List.zip_cons_cons List.zip_nil_left
namespace Go.Proofs.Tryz
open Go Go.Iv
set_option maxRecDepth 4000
variable (gl:Nat → Option IV)

def fitL (l:List Fm):Prop:=∀ f ∈ l,f.size ≤ 1000000
theorem known_c (ca:Nat) (st:ISt):ICall prog gl 59 [.raw (.int .u8 ca)] st (fun r st' => r = .raw (.bool (knownB ca)) ∧ st' = st):=by
  refine ICall.intro (c:=cf prog gl [] []) func59 rfl (by show _ ≤ 9; simp) (by kernel_rfl) ?_
  by_cases h1:1 ≤ ca
  · have e1:decide (1 ≤ (ca:Int)) = true:=decide_eq_true (by omega)
    by_cases h2:ca ≤ 3
    · have e2:decide ((ca:Int) ≤ 3) = true:=decide_eq_true (by omega)
      simp -implicitDefEqProofs -dsimp only [go_sem,↓reduceIte,zE,zB,zA,zM,zS,zL,reduceCtorEq,e1,e2]
      exact outK_self ⟨by simp [knownB,h1,h2],rfl⟩
    · have e2:decide ((ca:Int) ≤ 3) = false:=decide_eq_false (by omega)
      simp -implicitDefEqProofs -dsimp only [go_sem,↓reduceIte,zE,zB,zA,zM,zS,zL,reduceCtorEq,e1,e2]
      exact outK_self ⟨by simp [knownB,h2],rfl⟩
  · have e1:decide (1 ≤ (ca:Int)) = false:=decide_eq_false (by omega)
    simp -implicitDefEqProofs -dsimp only [go_sem,↓reduceIte,zE,zB,zA,zM,zS,zL,reduceCtorEq,e1]
    exact outK_self ⟨by simp [knownB,h1],rfl⟩
def sOp (f:Fm):Prop:=∀ (ca:Nat) (x:IV) (_:IsFm f x) (st:ISt),ICall prog gl 121 [.raw (.int .u8 ca),x] st (fun r st' => r = .raw (.bool (opsB ca f)) ∧ st' = st)
theorem opsBs_append (ca:Nat):∀ l m:List Fm,opsBs ca (l ++ m) = (opsBs ca l && opsBs ca m)
  | [],m => by simp [opsBs]
  | a :: l,m => by simp only [List.cons_append,opsBs,opsBs_append ca l m,Bool.and_assoc]
theorem opsBs_out {ca:Nat} {l:List Fm} {a:Fm} (ha:a ∈ l) (h:opsB ca a = false):opsBs ca l = false:=by
  obtain ⟨p,q,rfl⟩:=List.append_of_mem ha
  rw [opsBs_append]
  simp [opsBs,h]
theorem sOp_step (o:Nat) (n:ByteArray) (us:List Tm) (sub:List Fm) (IH:∀ a ∈ sub,sOp gl a):sOp gl (.mk o n us sub):=by
  intro ca x hx st
  obtain ⟨t1,x1,t2,x2,rfl,ho,ht1,hx1,ht2,hx2⟩:=hx.mk
  have loop:∀ (last:Nat) (hop:(decide (1 ≤ o) && decide (o ≤ if ca = 3 then 9 else 7) && (decide (ca = 3) || us.isEmpty)) = true),opsB ca (.mk o n us sub) = opsBs ca sub:=fun _ h => by
    simp only [opsB,h,Bool.true_and]
  refine ICall.intro (c:=cf prog gl [] []) func121 rfl (by show _ ≤ 41; simp) (by kernel_rfl) ?_
  by_cases h1:1 ≤ o
  · have e1:decide ((o:Int) < 1) = false:=decide_eq_false (by omega)
    by_cases hca:ca = 3
    · have e3:decide ((ca:Int) = 3) = true:=decide_eq_true (by omega)
      by_cases h2:o ≤ 9
      · have e2:decide ((9:Int) < (o:Int)) = false:=decide_eq_false (by omega)
        have hl:=loop 9 (by simp [h1,h2,hca])
        simp -implicitDefEqProofs -dsimp only [go_sem,↓reduceIte,zE,zB,zA,zM,zS,zL,reduceCtorEq,e1,e2,e3,hx2.len]
        intro _
        refine LoopC.ctr sub.length (fun k fr st' ds => opsBs ca (sub.take k) = true ∧ fr 0 = .iv (.raw (.int .u8 ca)) ∧ fr 30 = .iv (.sl t2 x2) ∧ fr 31 = .iv (.raw (.int .i64 sub.length)) ∧ fr 32 = .iv (.raw (.int .i64 k)) ∧ st' = st ∧ ds = []) ?_ ?_ ?_
        · simp -implicitDefEqProofs -dsimp only [go_sem,↓reduceIte,zE,zB,zA,zM,zS,zL,reduceCtorEq]
          simp [opsBs]
        · rintro k fr st1 _ hlt ⟨hn,f0,f30,f31,f32,rfl,rfl⟩
          obtain ⟨a,ha⟩:=get_of_lt hlt
          obtain ⟨y,hky,hy⟩:=hx2.get ha
          have hcall:=IH a (List.mem_of_getElem? ha) ca y hy st1
          obtain ⟨o5,n5,t5,x5,t6,x6,rfl⟩:=hy.agg
          simp -implicitDefEqProofs -dsimp only [go_sem,↓reduceIte,zE,zB,zA,zM,zS,zL,reduceCtorEq,f0,f30,f31,f32,lt_i hlt,reTag_es ht2,Int.natCast_nonneg,hky,fits]
          refine hcall.mono ?_
          rintro _ _ ⟨rfl,rfl⟩
          cases hr:opsB ca a
          · simp -implicitDefEqProofs -dsimp only [go_sem,↓reduceIte,zE,zB,zA,zM,zS,zL,reduceCtorEq]
            exact outK_self ⟨by rw [hl,opsBs_out (List.mem_of_getElem? ha) hr],rfl⟩
          · simp -implicitDefEqProofs -dsimp only [go_sem,↓reduceIte,zE,zB,zA,zM,zS,zL,reduceCtorEq,f0,f30,f31,f32,w_succ hlt (show sub.length ≤ 281474976710656 by omega)]
            rw [take_get ha,opsBs_append,hn]
            simp [opsBs,hr]
        · rintro fr st1 _ ⟨hn,f0,f30,f31,f32,rfl,rfl⟩
          rw [List.take_length] at hn
          simp -implicitDefEqProofs -dsimp only [go_sem,↓reduceIte,zE,zB,zA,zM,zS,zL,reduceCtorEq,f31,f32,nlt_i (Nat.lt_irrefl _)]
          exact outK_self ⟨by rw [hl,hn],rfl⟩
      · have e2:decide ((9:Int) < (o:Int)) = true:=decide_eq_true (by omega)
        simp -implicitDefEqProofs -dsimp only [go_sem,↓reduceIte,zE,zB,zA,zM,zS,zL,reduceCtorEq,e1,e2,e3,hx2.len]
        exact outK_self ⟨by simp [opsB,h2,hca],rfl⟩
    · have e3:decide ((ca:Int) = 3) = false:=decide_eq_false (by omega)
      by_cases h2:o ≤ 7
      · have e2:decide ((7:Int) < (o:Int)) = false:=decide_eq_false (by omega)
        by_cases hu:us = []
        · subst hu
          have e4:decide ((0:Int) < ((0:Nat):Int)) = false:=rfl
          have hl:=loop 7 (by simp [h1,h2,hca])
          simp -implicitDefEqProofs -dsimp only [go_sem,↓reduceIte,zE,zB,zA,zM,zS,zL,reduceCtorEq,e1,e2,e3,e4,hx1.len,hx2.len]
          intro _
          refine LoopC.ctr sub.length (fun k fr st' ds => opsBs ca (sub.take k) = true ∧ fr 0 = .iv (.raw (.int .u8 ca)) ∧ fr 30 = .iv (.sl t2 x2) ∧ fr 31 = .iv (.raw (.int .i64 sub.length)) ∧ fr 32 = .iv (.raw (.int .i64 k)) ∧ st' = st ∧ ds = []) ?_ ?_ ?_
          · simp -implicitDefEqProofs -dsimp only [go_sem,↓reduceIte,zE,zB,zA,zM,zS,zL,reduceCtorEq]
            simp [opsBs]
          · rintro k fr st1 _ hlt ⟨hn,f0,f30,f31,f32,rfl,rfl⟩
            obtain ⟨a,ha⟩:=get_of_lt hlt
            obtain ⟨y,hky,hy⟩:=hx2.get ha
            have hcall:=IH a (List.mem_of_getElem? ha) ca y hy st1
            obtain ⟨o5,n5,t5,x5,t6,x6,rfl⟩:=hy.agg
            simp -implicitDefEqProofs -dsimp only [go_sem,↓reduceIte,zE,zB,zA,zM,zS,zL,reduceCtorEq,f0,f30,f31,f32,lt_i hlt,reTag_es ht2,Int.natCast_nonneg,hky,fits]
            refine hcall.mono ?_
            rintro _ _ ⟨rfl,rfl⟩
            cases hr:opsB ca a
            · simp -implicitDefEqProofs -dsimp only [go_sem,↓reduceIte,zE,zB,zA,zM,zS,zL,reduceCtorEq]
              exact outK_self ⟨by rw [hl,opsBs_out (List.mem_of_getElem? ha) hr],rfl⟩
            · simp -implicitDefEqProofs -dsimp only [go_sem,↓reduceIte,zE,zB,zA,zM,zS,zL,reduceCtorEq,f0,f30,f31,f32,w_succ hlt (show sub.length ≤ 281474976710656 by omega)]
              rw [take_get ha,opsBs_append,hn]
              simp [opsBs,hr]
          · rintro fr st1 _ ⟨hn,f0,f30,f31,f32,rfl,rfl⟩
            rw [List.take_length] at hn
            simp -implicitDefEqProofs -dsimp only [go_sem,↓reduceIte,zE,zB,zA,zM,zS,zL,reduceCtorEq,f31,f32,nlt_i (Nat.lt_irrefl _)]
            exact outK_self ⟨by rw [hl,hn],rfl⟩
        · have hpos:0 < us.length:=List.length_pos_iff.2 hu
          have e4:decide ((0:Int) < (us.length:Int)) = true:=decide_eq_true (by omega)
          simp -implicitDefEqProofs -dsimp only [go_sem,↓reduceIte,zE,zB,zA,zM,zS,zL,reduceCtorEq,e1,e2,e3,e4,hx1.len,hx2.len]
          intro _
          exact outK_self ⟨by simp [opsB,hca,hu],rfl⟩
      · have e2:decide ((7:Int) < (o:Int)) = true:=decide_eq_true (by omega)
        simp -implicitDefEqProofs -dsimp only [go_sem,↓reduceIte,zE,zB,zA,zM,zS,zL,reduceCtorEq,e1,e2,e3,hx1.len,hx2.len]
        exact outK_self ⟨by simp [opsB,hca,h2],rfl⟩
  · have e1:decide ((o:Int) < 1) = true:=decide_eq_true (by omega)
    by_cases hca:ca = 3
    · have e3:decide ((ca:Int) = 3) = true:=decide_eq_true (by omega)
      simp -implicitDefEqProofs -dsimp only [go_sem,↓reduceIte,zE,zB,zA,zM,zS,zL,reduceCtorEq,e1,e3]
      exact outK_self ⟨by simp [opsB,h1],rfl⟩
    · have e3:decide ((ca:Int) = 3) = false:=decide_eq_false (by omega)
      simp -implicitDefEqProofs -dsimp only [go_sem,↓reduceIte,zE,zB,zA,zM,zS,zL,reduceCtorEq,e1,e3]
      exact outK_self ⟨by simp [opsB,h1],rfl⟩
theorem sOp_all:∀ (k:Nat) (f:Fm),SizeOf.sizeOf f < k → sOp gl f
  | 0,f,h => by omega
  | k + 1,.mk o n us sub,h => sOp_step gl o n us sub (fun a ha => sOp_all k a (by
      have:=List.sizeOf_lt_of_mem ha
      simp only [Fm.mk.sizeOf_spec] at h
      omega))
theorem operators_c (f:Fm):sOp gl f:=sOp_all gl _ f (Nat.lt_succ_self _)
theorem formula_c (G:Gl gl) (ca:Nat) (f:Fm) (x:IV) (hx:IsFm f x) (hs:f.size ≤ 1000000) (st:ISt) :
    ICall prog gl 69 [.raw (.int .u8 ca),x] st (fun r st' => r = .raw (.bool (fmB ca f)) ∧ st' = st):=by
  have h1:=fun st => Right_c gl G f x hx st hs
  have h2:=fun st => operators_c gl f ca x hx st
  obtain ⟨o5,n5,t5,x5,t6,x6,rfl⟩:=hx.agg
  refine ICall.intro (c:=cf prog gl [] []) func69 rfl (by show _ ≤ 12; simp) (by kernel_rfl) ?_
  simp -implicitDefEqProofs -dsimp only [go_sem,↓reduceIte,zE,zB,zA,zM,zS,zL,reduceCtorEq]
  refine (h1 _).mono ?_
  rintro _ _ ⟨rfl,rfl⟩
  cases hr:f.right
  · simp -implicitDefEqProofs -dsimp only [go_sem,↓reduceIte,zE,zB,zA,zM,zS,zL,reduceCtorEq]
    exact outK_self ⟨by simp [fmB,hr],rfl⟩
  · simp -implicitDefEqProofs -dsimp only [go_sem,↓reduceIte,zE,zB,zA,zM,zS,zL,reduceCtorEq]
    refine (h2 _).mono ?_
    rintro _ _ ⟨rfl,rfl⟩
    simp -implicitDefEqProofs -dsimp only [go_sem,↓reduceIte,zE,zB,zA,zM,zS,zL,reduceCtorEq]
    exact outK_self ⟨by simp [fmB,hr],rfl⟩
theorem equal_c (G:Gl gl) (f g:Fm) (x y:IV) (hx:IsFm f x) (hy:IsFm g y) (hs:f.size ≤ 1000000) (hs':g.size ≤ 1000000) (st:ISt) :
    ICall prog gl 70 [x,y] st (fun r st' => r = .raw (.bool (eqF f g)) ∧ st' = st):=by
  have h1:=fun st => Alpha_c gl G f g x y hx hy hs hs' st
  obtain ⟨o,n,us,sub⟩:=f
  obtain ⟨o',n',us',sub'⟩:=g
  obtain ⟨t1,x1,t2,x2,rfl,_⟩:=hx.mk
  obtain ⟨t3,x3,t4,x4,rfl,_⟩:=hy.mk
  refine ICall.intro (c:=cf prog gl [] []) func70 rfl (by show _ ≤ 15; simp) (by kernel_rfl) ?_
  by_cases ho:o = o'
  · subst ho
    simp -implicitDefEqProofs -dsimp only [go_sem,↓reduceIte,zE,zB,zA,zM,zS,zL,reduceCtorEq,decide_true]
    refine (h1 _).mono ?_
    rintro _ _ ⟨rfl,rfl⟩
    simp -implicitDefEqProofs -dsimp only [go_sem,↓reduceIte,zE,zB,zA,zM,zS,zL,reduceCtorEq]
    exact outK_self ⟨by simp [eqF,Fm.op],rfl⟩
  · have e:decide ((o:Int) = (o':Int)) = false:=decide_eq_false (by omega)
    simp -implicitDefEqProofs -dsimp only [go_sem,↓reduceIte,zE,zB,zA,zM,zS,zL,reduceCtorEq,e]
    exact outK_self ⟨by simp [eqF,Fm.op,ho],rfl⟩

theorem IndexFunc_c (g:FuncId) (caps:List IV) (he:entI prog g = true) (us:List Fm) (p:Fm → Bool) (hp:∀ a ∈ us,∀ x,IsFm a x → ∀ st,ICall prog gl g (x :: caps) st (fun r st' => r = .raw (.bool (p a)) ∧ st' = st))
    (tg:Tag) (xs:List IV) (htg:okEs tg 4) (hxs:IsFms us xs) (st:ISt) :
    ICall prog gl 155 [.sl tg xs,.fn (.func g) [] caps] st (fun r st' => (∃ n:Int,r = .raw (.int .i64 n) ∧ decide (0 ≤ n) = us.any p) ∧ st' = st):=by
  refine ICall.intro (c:=cf prog gl [] []) func155 rfl (by show _ ≤ 19; simp) (by kernel_rfl) ?_
  simp -implicitDefEqProofs -dsimp only [go_sem,↓reduceIte,zE,zB,zA,zM,zS,zL,reduceCtorEq,hxs.len]
  intro _
  refine LoopC.ctr us.length (fun k fr st' ds => (us.take k).any p = false ∧ fr 0 = .iv (.sl tg xs) ∧ fr 1 = .iv (.fn (.func g) [] caps) ∧ fr 7 = .iv (.raw (.int .i64 us.length)) ∧ fr 8 = .iv (.raw (.int .i64 k)) ∧ st' = st ∧ ds = []) ?_ ?_ ?_
  · simp -implicitDefEqProofs -dsimp only [go_sem,↓reduceIte,zE,zB,zA,zM,zS,zL,reduceCtorEq]
    exact ⟨rfl,rfl⟩
  · rintro k fr st1 _ hlt ⟨hn,f0,f1,f7,f8,rfl,rfl⟩
    obtain ⟨a,ha⟩:=get_of_lt hlt
    obtain ⟨y,hky,hy⟩:=hxs.get ha
    have hcall:=hp a (List.mem_of_getElem? ha) y hy st1
    obtain ⟨o5,n5,t5,x5,t6,x6,rfl⟩:=hy.agg
    simp -implicitDefEqProofs -dsimp only [go_sem,↓reduceIte,zE,zB,zA,zM,zS,zL,reduceCtorEq,f0,f1,f7,f8,lt_i hlt,reTag_es htg,Int.natCast_nonneg,hky,fits,he]
    refine hcall.mono ?_
    rintro _ _ ⟨rfl,rfl⟩
    cases hr:p a
    · simp -implicitDefEqProofs -dsimp only [go_sem,↓reduceIte,zE,zB,zA,zM,zS,zL,reduceCtorEq,f0,f1,f7,f8,w_succ hlt (show us.length ≤ 281474976710656 by omega)]
      rw [take_get ha,List.any_append,hn]
      simp [hr]
    · simp -implicitDefEqProofs -dsimp only [go_sem,↓reduceIte,zE,zB,zA,zM,zS,zL,reduceCtorEq]
      refine outK_self ⟨⟨_,rfl,?_⟩,rfl⟩
      rw [decide_eq_true (Int.natCast_nonneg k)]
      exact (List.any_eq_true.2 ⟨a,List.mem_of_getElem? ha,hr⟩).symm
  · rintro fr st1 _ ⟨hn,f0,f1,f7,f8,rfl,rfl⟩
    rw [List.take_length] at hn
    simp -implicitDefEqProofs -dsimp only [go_sem,↓reduceIte,zE,zB,zA,zM,zS,zL,reduceCtorEq,f7,f8,nlt_i (Nat.lt_irrefl _)]
    exact outK_self ⟨⟨_,rfl,by rw [hn]; rfl⟩,rfl⟩
theorem ContainsFunc_c (g:FuncId) (caps:List IV) (he:entI prog g = true) (us:List Fm) (p:Fm → Bool) (hp:∀ a ∈ us,∀ x,IsFm a x → ∀ st,ICall prog gl g (x :: caps) st (fun r st' => r = .raw (.bool (p a)) ∧ st' = st))
    (tg:Tag) (xs:List IV) (htg:okEs tg 4) (hxs:IsFms us xs) (st:ISt) :
    ICall prog gl 101 [.sl tg xs,.fn (.func g) [] caps] st (fun r st' => r = .raw (.bool (us.any p)) ∧ st' = st):=by
  refine ICall.intro (c:=cf prog gl [] []) func101 rfl (by show _ ≤ 9; simp) (by kernel_rfl) ?_
  simp -implicitDefEqProofs -dsimp only [go_sem,↓reduceIte,zE,zB,zA,zM,zS,zL,reduceCtorEq]
  refine (IndexFunc_c gl g caps he us p hp tg xs htg hxs _).mono ?_
  rintro _ _ ⟨⟨n,rfl,hn⟩,rfl⟩
  simp -implicitDefEqProofs -dsimp only [go_sem,↓reduceIte,zE,zB,zA,zM,zS,zL,reduceCtorEq,hn]
  exact outK_self ⟨rfl,rfl⟩
theorem Has1_c (G:Gl gl) (f g:Fm) (x y:IV) (hx:IsFm f x) (hy:IsFm g y) (hs:f.size ≤ 1000000) (hs':g.size ≤ 1000000) (st:ISt) :
    ICall prog gl 102 [y,.cptr x] st (fun r st' => r = .raw (.bool (eqF f g)) ∧ st' = st):=by
  have h1:=fun st => equal_c gl G f g x y hx hy hs hs' st
  obtain ⟨o5,n5,t5,x5,t6,x6,rfl⟩:=hx.agg
  obtain ⟨o7,n7,t7,x7,t8,x8,rfl⟩:=hy.agg
  refine ICall.intro (c:=cf prog gl [] []) func102 rfl (by show _ ≤ 7; simp) (by kernel_rfl) ?_
  simp -implicitDefEqProofs -dsimp only [go_sem,↓reduceIte,zE,zB,zA,zM,zS,zL,reduceCtorEq,fits]
  refine (h1 _).mono ?_
  rintro _ _ ⟨rfl,rfl⟩
  simp -implicitDefEqProofs -dsimp only [go_sem,↓reduceIte,zE,zB,zA,zM,zS,zL,reduceCtorEq]
  exact outK_self ⟨rfl,rfl⟩
theorem HasF_c (G:Gl gl) (l:List Fm) (f:Fm) (tg:Tag) (xs:List IV) (x:IV) (htg:okEs tg 4) (hxs:IsFms l xs) (hx:IsFm f x) (hl:fitL l) (hs:f.size ≤ 1000000) (st:ISt) :
    ICall prog gl 43 [.sl tg xs,x] st (fun r st' => r = .raw (.bool (hasF l f)) ∧ st' = st):=by
  have h1:=fun st => ContainsFunc_c gl 102 [.cptr x] (by simp only [go_sem]) l (eqF f) (fun a ha y hy st => Has1_c gl G f a x y hx hy hs (hl a ha) st) tg xs htg hxs st
  obtain ⟨o5,n5,t5,x5,t6,x6,rfl⟩:=hx.agg
  refine ICall.intro (c:=cf prog gl [] [] [3]) func43 rfl (by show _ ≤ 8; simp) (by kernel_rfl) ?_
  simp -implicitDefEqProofs -dsimp only [go_sem,↓reduceIte,zE,zB,zA,zM,zS,zL,reduceCtorEq,fits]
  refine (h1 _).mono ?_
  rintro _ _ ⟨rfl,rfl⟩
  simp -implicitDefEqProofs -dsimp only [go_sem,↓reduceIte,zE,zB,zA,zM,zS,zL,reduceCtorEq]
  exact outK_self ⟨rfl,rfl⟩
theorem all_c (G:Gl gl) (l m:List Fm) (t t':Tag) (xs ys:List IV) (ht:okEs t 4) (ht':okEs t' 4) (hxs:IsFms l xs) (hys:IsFms m ys) (hl:fitL l) (hm:fitL m) (st:ISt) :
    ICall prog gl 100 [.sl t xs,.sl t' ys] st (fun r st' => r = .raw (.bool (allF l m)) ∧ st' = st):=by
  refine ICall.intro (c:=cf prog gl [] []) func100 rfl (by show _ ≤ 18; simp) (by kernel_rfl) ?_
  simp -implicitDefEqProofs -dsimp only [go_sem,↓reduceIte,zE,zB,zA,zM,zS,zL,reduceCtorEq,hxs.len]
  intro _
  refine LoopC.ctr l.length (fun k fr st' ds => (l.take k).all (hasF m) = true ∧ fr 1 = .iv (.sl t' ys) ∧ fr 7 = .iv (.sl t xs) ∧ fr 8 = .iv (.raw (.int .i64 l.length)) ∧ fr 9 = .iv (.raw (.int .i64 k)) ∧ st' = st ∧ ds = []) ?_ ?_ ?_
  · simp -implicitDefEqProofs -dsimp only [go_sem,↓reduceIte,zE,zB,zA,zM,zS,zL,reduceCtorEq]
    rfl
  · rintro k fr st1 _ hlt ⟨hn,f1,f7,f8,f9,rfl,rfl⟩
    obtain ⟨a,ha⟩:=get_of_lt hlt
    obtain ⟨y,hky,hy⟩:=hxs.get ha
    have hcall:=HasF_c gl G m a t' ys y ht' hys hy hm (hl a (List.mem_of_getElem? ha)) st1
    obtain ⟨o5,n5,t5,x5,t6,x6,rfl⟩:=hy.agg
    simp -implicitDefEqProofs -dsimp only [go_sem,↓reduceIte,zE,zB,zA,zM,zS,zL,reduceCtorEq,f1,f7,f8,f9,lt_i hlt,reTag_es ht,Int.natCast_nonneg,hky,fits]
    refine hcall.mono ?_
    rintro _ _ ⟨rfl,rfl⟩
    cases hr:hasF m a
    · simp -implicitDefEqProofs -dsimp only [go_sem,↓reduceIte,zE,zB,zA,zM,zS,zL,reduceCtorEq]
      refine outK_self ⟨?_,rfl⟩
      have:allF l m = false:=by
        unfold allF
        rw [List.all_eq_false]
        exact ⟨a,List.mem_of_getElem? ha,by simp [hr]⟩
      rw [this]
    · simp -implicitDefEqProofs -dsimp only [go_sem,↓reduceIte,zE,zB,zA,zM,zS,zL,reduceCtorEq,f1,f7,f8,f9,w_succ hlt (show l.length ≤ 281474976710656 by omega)]
      rw [take_get ha,List.all_append,hn]
      simp [hr]
  · rintro fr st1 _ ⟨hn,f1,f7,f8,f9,rfl,rfl⟩
    rw [List.take_length] at hn
    simp -implicitDefEqProofs -dsimp only [go_sem,↓reduceIte,zE,zB,zA,zM,zS,zL,reduceCtorEq,f8,f9,nlt_i (Nat.lt_irrefl _)]
    exact outK_self ⟨by rw [show allF l m = true from hn],rfl⟩
def fitSq (s:Sq):Prop:=fitL s.l ∧ fitL s.r
theorem Within_c (G:Gl gl) (a b:Sq) (x y:IV) (hx:IsSq a x) (hy:IsSq b y) (ha:fitSq a) (hb:fitSq b) (st:ISt):ICall prog gl 40 [x,y] st (fun r st' => r = .raw (.bool (withinB a b)) ∧ st' = st):=by
  obtain ⟨t1,x1,t2,x2,rfl,e1,i1,e2,i2⟩:=hx
  obtain ⟨t3,x3,t4,x4,rfl,e3,i3,e4,i4⟩:=hy
  refine ICall.intro (c:=cf prog gl [] []) func40 rfl (by show _ ≤ 17; simp) (by kernel_rfl) ?_
  simp -implicitDefEqProofs -dsimp only [go_sem,↓reduceIte,zE,zB,zA,zM,zS,zL,reduceCtorEq]
  refine (all_c gl G a.l b.l t1 t3 x1 x3 e1 e3 i1 i3 ha.1 hb.1 _).mono ?_
  rintro _ _ ⟨rfl,rfl⟩
  cases hr:allF a.l b.l
  · simp -implicitDefEqProofs -dsimp only [go_sem,↓reduceIte,zE,zB,zA,zM,zS,zL,reduceCtorEq]
    exact outK_self ⟨by simp [withinB,hr],rfl⟩
  · simp -implicitDefEqProofs -dsimp only [go_sem,↓reduceIte,zE,zB,zA,zM,zS,zL,reduceCtorEq]
    refine (all_c gl G a.r b.r t2 t4 x2 x4 e2 e4 i2 i4 ha.2 hb.2 _).mono ?_
    rintro _ _ ⟨rfl,rfl⟩
    simp -implicitDefEqProofs -dsimp only [go_sem,↓reduceIte,zE,zB,zA,zM,zS,zL,reduceCtorEq]
    exact outK_self ⟨by simp [withinB,hr],rfl⟩
end Go.Proofs.Tryz

namespace Go.Proofs.Tryz
open Go Go.Iv
set_option maxRecDepth 4000
variable (gl:Nat → Option IV)

theorem findI_u8 (a b:Int) (v:IV):∀ es:List (Value × IV),findI (.int .u8 a) (updI (.int .u8 b) v es) = if a = b then some v else findI (.int .u8 a) es
  | [] => by
    simp only [updI,findI,keyEq]
    by_cases h:a = b <;> simp [h]
  | (x,u) :: es => by
    simp only [updI]
    by_cases hk:keyEq (.int .u8 b) x = true
    · rw [if_pos hk]
      have hx:∀ c,keyEq (.int .u8 c) x = decide (c = b):=fun c => by
        cases x <;> simp [keyEq] at hk ⊢
        rw [hk]
      have e:keyEq (.int .u8 a) (.int .u8 b) = decide (a = b):=rfl
      simp only [findI,e,hx]
      by_cases h:a = b <;> simp [h]
    · rw [if_neg hk]
      simp only [findI]
      rw [findI_u8 a b v es]
      by_cases h:a = b
      · subst h; simp [hk]
      · simp [h]
def addId (ca rule:Nat):Nat :=
  if ca = 2 ∧ rule = 18 then 149 else if ca = 2 ∧ rule = 8 then 147
  else if rule = 13 ∨ rule = 15 then 150 else if rule = 14 ∨ rule = 16 then 152
  else if rule = 1 then 204 else if rule = 2 then 205 else if rule = 3 then 206 else if rule = 4 then 207
  else if rule = 5 then 208 else if rule = 6 then 209 else if rule = 7 then 210 else if rule = 8 then 211
  else if rule = 9 then 212 else if rule = 10 then 213 else if rule = 11 then 214 else if rule = 12 then 216
  else 217
def rwI (ca rule:Nat) (r:Rw):IV:=.agg [.raw (.bool r.left),.raw (.bool r.right),.raw (.int .u8 r.op),.raw (.int .u8 r.asks),.fn (.func (addId ca rule)) [] []]
def rwL (a b:Bool) (op asks id:Nat):IV:=.agg [.raw (.bool a),.raw (.bool b),.raw (.int .u8 op),.raw (.int .u8 asks),.fn (.func id) [] []]
def plainE:List (Value × IV) :=
  updI (.int .u8 17) (rwL false false 0 0 217) <| updI (.int .u8 12) (rwL false true 7 0 216) <| updI (.int .u8 11) (rwL true false 7 0 214) <|
  updI (.int .u8 10) (rwL false true 6 0 213) <| updI (.int .u8 9) (rwL true false 6 0 212) <| updI (.int .u8 8) (rwL false true 5 0 211) <|
  updI (.int .u8 7) (rwL true false 5 0 210) <| updI (.int .u8 6) (rwL false true 4 0 209) <| updI (.int .u8 5) (rwL true false 4 0 208) <|
  updI (.int .u8 4) (rwL false true 3 0 207) <| updI (.int .u8 3) (rwL true false 3 0 206) <| updI (.int .u8 2) (rwL true false 2 0 205) <|
  updI (.int .u8 1) (rwL true true 0 0 204) []
def rulesE (ca:Nat):List (Value × IV) :=
  if ca = 2 then updI (.int .u8 18) (rwL false true 5 0 149) <| updI (.int .u8 8) (rwL false true 5 0 147) plainE
  else if ca = 3 then updI (.int .u8 16) (rwL false true 9 1 152) <| updI (.int .u8 15) (rwL true false 9 2 150) <| updI (.int .u8 14) (rwL false true 8 2 152) <|
    updI (.int .u8 13) (rwL true false 8 1 150) plainE
  else plainE
theorem plain_c (st:ISt):ICall prog gl 146 [] st (fun r st' => ∃ b,st b = none ∧ r = .raw (.map (some b)) ∧ st' = st.put b (some (.map (.int .u8) plainE))):=by
  refine ICall.intro (c:=cf prog gl [] []) func146 rfl (by show _ ≤ 16; simp) (by kernel_rfl) ?_
  simp -implicitDefEqProofs -dsimp only [go_sem,↓reduceIte,zE,zB,zA,zM,zS,zL,reduceCtorEq,fits]
  refine fun b => giv_intro fun hb => ?_
  simp -implicitDefEqProofs -dsimp only [go_sem,↓reduceIte,zE,zB,zA,zM,zS,zL,reduceCtorEq,fits,put_put_same]
  exact outK_self ⟨b,hb,rfl,rfl⟩
theorem rules_c (ca:Nat) (st:ISt):ICall prog gl 98 [.raw (.int .u8 ca)] st (fun r st' => ∃ b,st b = none ∧ r = .raw (.map (some b)) ∧ st' = st.put b (some (.map (.int .u8) (rulesE ca)))):=by
  refine ICall.intro (c:=cf prog gl [] []) func98 rfl (by show _ ≤ 29; simp) (by kernel_rfl) ?_
  simp -implicitDefEqProofs -dsimp only [go_sem,↓reduceIte,zE,zB,zA,zM,zS,zL,reduceCtorEq]
  refine (plain_c gl _).mono ?_
  rintro _ _ ⟨b,hb,rfl,rfl⟩
  by_cases h2:ca = 2
  · have e2:decide ((ca:Int) = 2) = true:=decide_eq_true (by omega)
    simp -implicitDefEqProofs -dsimp only [go_sem,↓reduceIte,zE,zB,zA,zM,zS,zL,reduceCtorEq,e2,fits,ISt.put_same,put_put_same]
    exact outK_self ⟨b,hb,rfl,by rw [rulesE,if_pos h2]; rfl⟩
  · have e2:decide ((ca:Int) = 2) = false:=decide_eq_false (by omega)
    by_cases h3:ca = 3
    · have e3:decide ((ca:Int) = 3) = true:=decide_eq_true (by omega)
      simp -implicitDefEqProofs -dsimp only [go_sem,↓reduceIte,zE,zB,zA,zM,zS,zL,reduceCtorEq,e2,e3,fits,ISt.put_same,put_put_same]
      exact outK_self ⟨b,hb,rfl,by rw [rulesE,if_neg h2,if_pos h3]; rfl⟩
    · have e3:decide ((ca:Int) = 3) = false:=decide_eq_false (by omega)
      simp -implicitDefEqProofs -dsimp only [go_sem,↓reduceIte,zE,zB,zA,zM,zS,zL,reduceCtorEq,e2,e3]
      exact outK_self ⟨b,hb,rfl,by rw [rulesE,if_neg h2,if_neg h3]⟩
theorem plainE_find (rule:Nat):findI (.int .u8 rule) plainE = (rowK rule).map fun r => .agg [.raw (.bool r.left),.raw (.bool r.right),.raw (.int .u8 r.op),.raw (.int .u8 r.asks),.fn (.func (addId 1 rule)) [] []]:=by
  unfold plainE
  simp only [findI_u8]
  by_cases h:rule ≤ 18
  · rcases (show rule = 0 ∨ rule = 1 ∨ rule = 2 ∨ rule = 3 ∨ rule = 4 ∨ rule = 5 ∨ rule = 6 ∨ rule = 7 ∨ rule = 8 ∨ rule = 9 ∨ rule = 10 ∨ rule = 11 ∨ rule = 12 ∨ rule = 13 ∨ rule = 14 ∨ rule = 15 ∨ rule = 16 ∨ rule = 17 ∨ rule = 18 by omega) with
      rfl | rfl | rfl | rfl | rfl | rfl | rfl | rfl | rfl | rfl | rfl | rfl | rfl | rfl | rfl | rfl | rfl | rfl | rfl <;> rfl
  · have hn:rowK rule = none:=by unfold rowK; repeat (rw [if_neg (by omega)])
    rw [hn]
    repeat (rw [if_neg (by omega)])
    rfl
theorem rulesE_find (ca rule:Nat):findI (.int .u8 rule) (rulesE ca) = (rowS ca rule).map (rwI ca rule):=by
  have hp:=plainE_find rule
  by_cases h:rule ≤ 18
  · have hr:rule = 0 ∨ rule = 1 ∨ rule = 2 ∨ rule = 3 ∨ rule = 4 ∨ rule = 5 ∨ rule = 6 ∨ rule = 7 ∨ rule = 8 ∨ rule = 9 ∨ rule = 10 ∨ rule = 11 ∨ rule = 12 ∨ rule = 13 ∨ rule = 14 ∨ rule = 15 ∨ rule = 16 ∨ rule = 17 ∨ rule = 18:=by omega
    by_cases h2:ca = 2
    · subst h2
      simp only [rulesE,if_true,findI_u8,hp]
      rcases hr with rfl | rfl | rfl | rfl | rfl | rfl | rfl | rfl | rfl | rfl | rfl | rfl | rfl | rfl | rfl | rfl | rfl | rfl | rfl <;> rfl
    · by_cases h3:ca = 3
      · subst h3
        simp only [rulesE,if_true,if_neg h2,findI_u8,hp]
        rcases hr with rfl | rfl | rfl | rfl | rfl | rfl | rfl | rfl | rfl | rfl | rfl | rfl | rfl | rfl | rfl | rfl | rfl | rfl | rfl <;> rfl
      · have hk:rowS ca rule = rowK rule:=by
          unfold rowS; rw [if_neg (by omega),if_neg (by omega),if_neg (by omega),if_neg (by omega),if_neg (by omega)]
        have hi:∀ r,rowK rule = some r → addId 1 rule = addId ca rule:=fun _ _ => by
          unfold addId
          rw [if_neg (by omega),if_neg (by omega)]
          conv => rhs; rw [if_neg (by omega),if_neg (by omega)]
        simp only [rulesE,if_neg h2,if_neg h3,hp,hk]
        cases hq:rowK rule with
        | none => rfl
        | some r => simp only [Option.map_some,rwI,hi r hq]
  · have hn:rowS ca rule = none:=by
      unfold rowS
      rw [if_neg (by omega),if_neg (by omega),if_neg (by omega),if_neg (by omega),if_neg (by omega)]
      unfold rowK; repeat (rw [if_neg (by omega)])
    have hk:rowK rule = none:=by unfold rowK; repeat (rw [if_neg (by omega)])
    rw [hk] at hp
    rw [hn]
    unfold rulesE
    split
    · simp only [findI_u8,hp]; repeat (rw [if_neg (by omega)])
      rfl
    · split
      · simp only [findI_u8,hp]; repeat (rw [if_neg (by omega)])
        rfl
      · rw [hp]; rfl
theorem addOk_of {ca rule:Nat} {r:Rw} (h:rowS ca rule = some r):AddOk gl (addId ca rule) (addS ca rule) ∧ entI prog (addId ca rule) = true:=by
  have hr:rule ≤ 18:=by
    refine Classical.byContradiction fun hc => ?_
    have hn:rowS ca rule = none:=by
      unfold rowS
      rw [if_neg (by omega),if_neg (by omega),if_neg (by omega),if_neg (by omega),if_neg (by omega)]
      unfold rowK; repeat (rw [if_neg (by omega)])
    rw [hn] at h; cases h
  have hcas:rule = 0 ∨ rule = 1 ∨ rule = 2 ∨ rule = 3 ∨ rule = 4 ∨ rule = 5 ∨ rule = 6 ∨ rule = 7 ∨ rule = 8 ∨ rule = 9 ∨ rule = 10 ∨ rule = 11 ∨ rule = 12 ∨ rule = 13 ∨ rule = 14 ∨ rule = 15 ∨ rule = 16 ∨ rule = 17 ∨ rule = 18:=by omega
  by_cases h2:ca = 2
  · subst h2
    rcases hcas with rfl | rfl | rfl | rfl | rfl | rfl | rfl | rfl | rfl | rfl | rfl | rfl | rfl | rfl | rfl | rfl | rfl | rfl | rfl
    all_goals first | (cases h; done) | exact ⟨add1_c gl,by kernel_rfl⟩ | exact ⟨add2_c gl,by kernel_rfl⟩ | exact ⟨add3_c gl,by kernel_rfl⟩ | exact ⟨add4_c gl,by kernel_rfl⟩ | exact ⟨add5_c gl,by kernel_rfl⟩ | exact ⟨add6_c gl,by kernel_rfl⟩ | exact ⟨add7_c gl,by kernel_rfl⟩ | exact ⟨add8_c gl,by kernel_rfl⟩ | exact ⟨add8j_c gl,by kernel_rfl⟩ | exact ⟨add9_c gl,by kernel_rfl⟩ | exact ⟨add10_c gl,by kernel_rfl⟩ | exact ⟨add11_c gl,by kernel_rfl⟩ | exact ⟨add12_c gl,by kernel_rfl⟩ | exact ⟨add17_c gl,by kernel_rfl⟩ | exact ⟨add18_c gl,by kernel_rfl⟩ | exact ⟨addL_c gl,by kernel_rfl⟩ | exact ⟨addR_c gl,by kernel_rfl⟩
  · by_cases h3:ca = 3
    · subst h3
      rcases hcas with rfl | rfl | rfl | rfl | rfl | rfl | rfl | rfl | rfl | rfl | rfl | rfl | rfl | rfl | rfl | rfl | rfl | rfl | rfl
      all_goals first | (cases h; done) | exact ⟨add1_c gl,by kernel_rfl⟩ | exact ⟨add2_c gl,by kernel_rfl⟩ | exact ⟨add3_c gl,by kernel_rfl⟩ | exact ⟨add4_c gl,by kernel_rfl⟩ | exact ⟨add5_c gl,by kernel_rfl⟩ | exact ⟨add6_c gl,by kernel_rfl⟩ | exact ⟨add7_c gl,by kernel_rfl⟩ | exact ⟨add8_c gl,by kernel_rfl⟩ | exact ⟨add8j_c gl,by kernel_rfl⟩ | exact ⟨add9_c gl,by kernel_rfl⟩ | exact ⟨add10_c gl,by kernel_rfl⟩ | exact ⟨add11_c gl,by kernel_rfl⟩ | exact ⟨add12_c gl,by kernel_rfl⟩ | exact ⟨add17_c gl,by kernel_rfl⟩ | exact ⟨add18_c gl,by kernel_rfl⟩ | exact ⟨addL_c gl,by kernel_rfl⟩ | exact ⟨addR_c gl,by kernel_rfl⟩
    · have hk:rowS ca rule = rowS 1 rule:=by
        unfold rowS
        rw [if_neg (by omega),if_neg (by omega),if_neg (by omega),if_neg (by omega),if_neg (by omega)]
        conv => rhs; rw [if_neg (by omega),if_neg (by omega),if_neg (by omega),if_neg (by omega),if_neg (by omega)]
      have hi:addId ca rule = addId 1 rule:=by
        unfold addId
        rw [if_neg (by omega),if_neg (by omega)]
        conv => rhs; rw [if_neg (by omega),if_neg (by omega)]
      have hs:addS ca rule = addS 1 rule:=by
        funext m a b
        unfold addS
        rw [if_neg h2,if_neg (show ¬ (1:Nat) = 2 by decide)]
      rw [hk] at h
      rw [hi,hs]
      rcases hcas with rfl | rfl | rfl | rfl | rfl | rfl | rfl | rfl | rfl | rfl | rfl | rfl | rfl | rfl | rfl | rfl | rfl | rfl | rfl
      all_goals first | (cases h; done) | exact ⟨add1_c gl,by kernel_rfl⟩ | exact ⟨add2_c gl,by kernel_rfl⟩ | exact ⟨add3_c gl,by kernel_rfl⟩ | exact ⟨add4_c gl,by kernel_rfl⟩ | exact ⟨add5_c gl,by kernel_rfl⟩ | exact ⟨add6_c gl,by kernel_rfl⟩ | exact ⟨add7_c gl,by kernel_rfl⟩ | exact ⟨add8_c gl,by kernel_rfl⟩ | exact ⟨add8j_c gl,by kernel_rfl⟩ | exact ⟨add9_c gl,by kernel_rfl⟩ | exact ⟨add10_c gl,by kernel_rfl⟩ | exact ⟨add11_c gl,by kernel_rfl⟩ | exact ⟨add12_c gl,by kernel_rfl⟩ | exact ⟨add17_c gl,by kernel_rfl⟩ | exact ⟨add18_c gl,by kernel_rfl⟩ | exact ⟨addL_c gl,by kernel_rfl⟩ | exact ⟨addR_c gl,by kernel_rfl⟩
end Go.Proofs.Tryz
