/- Walks: sequents of a calculus; free variables; what a rule and a step add. -/
import Derived.Test.YtckafgnkmnichaaGreatDoorQC
import Derived.Test.YtckafgnkmnichaaGreatDoorJY
import Derived.Test.YtckafgnkmnichaaGreatDoorKD
set_option linter.all false
namespace Go.Proofs.Tryz
open Go Go.Iv
set_option maxRecDepth 4000
open Nat renaming reduceEqDiff → zE,reduceBEq → zB,reduceAdd → zA,reduceMul → zM,reduceSub → zS,reduceLeDiff → zL
attribute [local go_sem] cf setAt List.all_cons List.all_nil Bool.and_self Bool.true_and Bool.and_true Bool.false_and Bool.and_false Bool.not_true Bool.not_false List.mem_nil_iff if_false if_true beq_self_eq_true Nat.zero_add Nat.add_zero List.getElem?_cons_zero List.getElem?_cons_succ Option.map_some List.mem_cons or_false false_or or_true true_or Nat.sub_zero forall_const Int.toNat_natCast List.length_cons List.length_nil List.map_cons List.map_nil List.take_succ_cons List.take_zero List.drop_zero List.drop_succ_cons List.cons_append List.nil_append List.append_nil and_true true_and and_self true_implies List.zip_cons_cons List.zip_nil_left
variable (gl:Nat → Option IV)

noncomputable def rB (ca:Nat) (a0 f:Fm):Bool:=fmB ca f && (decide (ca ≠ 2) || eqF f a0)
theorem rB_all (ca:Nat) (a0:Fm):∀ l:List Fm,l.all (rB ca a0) = (l.all (fmB ca) && (decide (ca ≠ 2) || l.all fun f => eqF f a0))
  | [] => by simp
  | f :: l => by
    simp only [List.all_cons,rB_all ca a0 l,rB]
    cases fmB ca f <;> cases l.all (fmB ca) <;> cases decide (ca ≠ 2) <;> simp
theorem validB_eq (ca:Nat) (s:Sq):validB ca s = (knownB ca && decide (s.l.length ≤ 64) && decide (s.r.length ≤ 64) && s.l.all (fmB ca) && s.r.all (rB ca (s.r.headD fm0))):=by
  rw [rB_all]
  unfold validB firstsB
  cases s.r with
  | nil => simp
  | cons a l => simp only [List.headD_cons,Bool.and_assoc]
theorem Valid_c (G:Gl gl) (ca:Nat) (s:Sq) (x:IV) (hx:IsSq s x) (hs:fitSq s) (st:ISt):ICall prog gl 22 [.raw (.int .u8 ca),x] st (fun r st' => r = .raw (.bool (validB ca s)) ∧ st' = st):=by
  obtain ⟨l,r⟩:=s
  obtain ⟨t1,x1,t2,x2,rfl,e1,i1,e2,i2⟩:=hx
  obtain ⟨hl,hr⟩:=hs
  simp only at i1 i2 hl hr
  rw [validB_eq]
  simp only
  refine ICall.intro (c:=cf prog gl [] []) func22 rfl (by show _ ≤ 61; simp) (by kernel_rfl) ?_
  simp -implicitDefEqProofs -dsimp only [go_sem,↓reduceIte,zE,zB,zA,zM,zS,zL,reduceCtorEq]
  refine (known_c gl ca _).mono ?_
  rintro _ st ⟨rfl,rfl⟩
  cases hk:knownB ca
  · simp -implicitDefEqProofs -dsimp only [go_sem,↓reduceIte,zE,zB,zA,zM,zS,zL,reduceCtorEq]
    exact outK_self ⟨by simp,rfl⟩
  by_cases h1:l.length ≤ 64
  case neg =>
    have e:decide ((64:Int) < (l.length:Int)) = true:=decide_eq_true (by omega)
    simp -implicitDefEqProofs -dsimp only [go_sem,↓reduceIte,zE,zB,zA,zM,zS,zL,reduceCtorEq,i1.len,e]
    intro _
    exact outK_self ⟨by simp [h1],rfl⟩
  by_cases h2:r.length ≤ 64
  case neg =>
    have e:decide ((64:Int) < (l.length:Int)) = false:=decide_eq_false (by omega)
    have e':decide ((64:Int) < (r.length:Int)) = true:=decide_eq_true (by omega)
    simp -implicitDefEqProofs -dsimp only [go_sem,↓reduceIte,zE,zB,zA,zM,zS,zL,reduceCtorEq,i1.len,i2.len,e,e']
    intro _ _
    exact outK_self ⟨by simp [h2],rfl⟩
  have e:decide ((64:Int) < (l.length:Int)) = false:=decide_eq_false (by omega)
  have e':decide ((64:Int) < (r.length:Int)) = false:=decide_eq_false (by omega)
  simp -implicitDefEqProofs -dsimp only [go_sem,↓reduceIte,zE,zB,zA,zM,zS,zL,reduceCtorEq,i1.len,i2.len,e,e']
  intros
  refine LoopC.ctr l.length (fun k fr st' ds => (l.take k).all (fmB ca) = true ∧ fr 0 = .iv (.raw (.int .u8 ca)) ∧ fr 3 = .box [.sl t1 x1,.sl t2 x2] ∧ fr 25 = .iv (.sl t1 x1) ∧ fr 26 = .iv (.raw (.int .i64 l.length)) ∧ fr 27 = .iv (.raw (.int .i64 k)) ∧ st' = st ∧ ds = []) ?_ ?_ ?_
  · simp -implicitDefEqProofs -dsimp only [go_sem,↓reduceIte,zE,zB,zA,zM,zS,zL,reduceCtorEq]
    first | rfl | exact ⟨rfl,rfl⟩
  · rintro k fr st1 _ hlt ⟨hn,f0,f3,f25,f26,f27,rfl,rfl⟩
    obtain ⟨a,ha⟩:=get_of_lt hlt
    obtain ⟨y,hky,hy⟩:=i1.get ha
    have hcall:=formula_c gl G ca a y hy (hl a (List.mem_of_getElem? ha)) st1
    obtain ⟨o5,n5,t5,x5,t6,x6,rfl⟩:=hy.agg
    simp -implicitDefEqProofs -dsimp only [go_sem,↓reduceIte,zE,zB,zA,zM,zS,zL,reduceCtorEq,f0,f3,f25,f26,f27,lt_i hlt,reTag_es e1,Int.natCast_nonneg,hky,fits]
    refine hcall.mono ?_
    rintro _ _ ⟨rfl,rfl⟩
    cases hr:fmB ca a
    · simp -implicitDefEqProofs -dsimp only [go_sem,↓reduceIte,zE,zB,zA,zM,zS,zL,reduceCtorEq]
      refine outK_self ⟨?_,rfl⟩
      have:l.all (fmB ca) = false:=List.all_eq_false.2 ⟨a,List.mem_of_getElem? ha,by simp [hr]⟩
      simp [this]
    · simp -implicitDefEqProofs -dsimp only [go_sem,↓reduceIte,zE,zB,zA,zM,zS,zL,reduceCtorEq,f0,f3,f25,f26,f27,w_succ hlt (show l.length ≤ 281474976710656 by omega)]
      rw [take_get ha,List.all_append,hn]
      simp [hr]
  · rintro fr st1 _ ⟨hn,f0,f3,f25,f26,f27,rfl,rfl⟩
    rw [List.take_length] at hn
    simp -implicitDefEqProofs -dsimp only [go_sem,↓reduceIte,zE,zB,zA,zM,zS,zL,reduceCtorEq,f0,f3,f25,f26,f27,i2.len,nlt_i (Nat.lt_irrefl _)]
    intro _
    refine LoopC.ctr r.length (fun k fr st' ds => (r.take k).all (rB ca (r.headD fm0)) = true ∧ fr 0 = .iv (.raw (.int .u8 ca)) ∧ fr 3 = .box [.sl t1 x1,.sl t2 x2] ∧ fr 37 = .iv (.sl t2 x2) ∧ fr 38 = .iv (.raw (.int .i64 r.length)) ∧ fr 39 = .iv (.raw (.int .i64 k)) ∧ st' = st1 ∧ ds = []) ?_ ?_ ?_
    · simp -implicitDefEqProofs -dsimp only [go_sem,↓reduceIte,zE,zB,zA,zM,zS,zL,reduceCtorEq,f0,f3]
      first | rfl | exact ⟨rfl,rfl⟩
    · rintro k fr st2 _ hlt ⟨hm,f0,f3,f37,f38,f39,rfl,rfl⟩
      obtain ⟨a,ha⟩:=get_of_lt hlt
      obtain ⟨y,hky,hy⟩:=i2.get ha
      obtain ⟨a0,ha0⟩:=get_of_lt (show 0 < r.length by omega)
      obtain ⟨y0,hky0,hy0⟩:=i2.get ha0
      have hd0:r.headD fm0 = a0:=by cases r with | nil => cases ha0 | cons b r => simpa using ha0
      have hcall:=formula_c gl G ca a y hy (hr a (List.mem_of_getElem? ha)) st2
      have heq:=fun st => equal_c gl G a a0 y y0 hy hy0 (hr a (List.mem_of_getElem? ha)) (hr a0 (List.mem_of_getElem? ha0)) st
      rw [hd0] at hm ⊢
      have hout:rB ca a0 a = false → r.all (rB ca a0) = false:=fun hb => List.all_eq_false.2 ⟨a,List.mem_of_getElem? ha,by simp [hb]⟩
      have hin:rB ca a0 a = true → (r.take (k + 1)).all (rB ca a0) = true:=fun hb => by
        rw [take_get ha,List.all_append,hm]
        simp [hb]
      obtain ⟨o5,n5,t5,x5,t6,x6,rfl⟩:=hy.agg
      obtain ⟨o7,n7,t7,x7,t8,x8,rfl⟩:=hy0.agg
      simp -implicitDefEqProofs -dsimp only [go_sem,↓reduceIte,zE,zB,zA,zM,zS,zL,reduceCtorEq,f0,f3,f37,f38,f39,lt_i hlt,reTag_es e2,Int.natCast_nonneg,hky,fits]
      refine hcall.mono ?_
      rintro _ _ ⟨rfl,rfl⟩
      cases hr:fmB ca a
      · simp -implicitDefEqProofs -dsimp only [go_sem,↓reduceIte,zE,zB,zA,zM,zS,zL,reduceCtorEq]
        exact outK_self ⟨by rw [hout (by simp [rB,hr])]; simp,rfl⟩
      by_cases hj:ca = 2
      · have ej:decide ((ca:Int) = 2) = true:=decide_eq_true (by omega)
        simp -implicitDefEqProofs -dsimp only [go_sem,↓reduceIte,zE,zB,zA,zM,zS,zL,reduceCtorEq,ej,f0,f3,reTag_es e2,hky0,fits,Int.le_refl,Int.toNat_zero]
        refine (heq _).mono ?_
        rintro _ _ ⟨rfl,rfl⟩
        cases hq:eqF a a0
        · simp -implicitDefEqProofs -dsimp only [go_sem,↓reduceIte,zE,zB,zA,zM,zS,zL,reduceCtorEq]
          exact outK_self ⟨by rw [hout (by simp [rB,hj,hq])]; simp,rfl⟩
        · simp -implicitDefEqProofs -dsimp only [go_sem,↓reduceIte,zE,zB,zA,zM,zS,zL,reduceCtorEq,f0,f3,f37,f38,f39,w_succ hlt (show r.length ≤ 281474976710656 by omega)]
          exact hin (by simp [rB,hr,hq])
      · have ej:decide ((ca:Int) = 2) = false:=decide_eq_false (by omega)
        simp -implicitDefEqProofs -dsimp only [go_sem,↓reduceIte,zE,zB,zA,zM,zS,zL,reduceCtorEq,ej,f0,f3,f37,f38,f39,w_succ hlt (show r.length ≤ 281474976710656 by omega)]
        exact hin (by simp [rB,hr,hj])
    · rintro fr st2 _ ⟨hm,f0,f3,f37,f38,f39,rfl,rfl⟩
      rw [List.take_length] at hm
      simp -implicitDefEqProofs -dsimp only [go_sem,↓reduceIte,zE,zB,zA,zM,zS,zL,reduceCtorEq,f38,f39,nlt_i (Nat.lt_irrefl _)]
      exact outK_self ⟨by rw [hn,hm]; simp [h1,h2],rfl⟩

theorem Contains_c (tg:Tag) (htg:okEs tg 1) (l:List ByteArray) (s:ByteArray) (st:ISt):ICall prog gl 200 [.sl tg (strI l),.raw (.string s)] st (fun r st' => r = .raw (.bool (memB l s)) ∧ st' = st):=by
  have hidx:ICall prog gl 270 [.sl tg (strI l),.raw (.string s)] st (fun r st' => (∃ n:Int,r = .raw (.int .i64 n) ∧ decide (0 ≤ n) = memB l s) ∧ st' = st):=by
    refine ICall.intro (c:=cf prog gl [] []) func270 rfl (by show _ ≤ 19; simp) (by kernel_rfl) ?_
    simp -implicitDefEqProofs -dsimp only [go_sem,↓reduceIte,zE,zB,zA,zM,zS,zL,reduceCtorEq,strI_length]
    intro _
    refine LoopC.ctr l.length (fun k fr st' ds => memB (l.take k) s = false ∧ fr 0 = .iv (.sl tg (strI l)) ∧ fr 1 = .iv (.raw (.string s)) ∧ fr 7 = .iv (.raw (.int .i64 l.length)) ∧ fr 8 = .iv (.raw (.int .i64 k)) ∧ st' = st ∧ ds = []) ?_ ?_ ?_
    · simp -implicitDefEqProofs -dsimp only [go_sem,↓reduceIte,zE,zB,zA,zM,zS,zL,reduceCtorEq]
      exact ⟨rfl,rfl⟩
    · rintro k fr st1 _ hlt ⟨hn,f0,f1,f7,f8,rfl,rfl⟩
      obtain ⟨a,ha⟩:=get_of_lt hlt
      by_cases hr:s = a
      · subst hr
        simp -implicitDefEqProofs -dsimp only [go_sem,↓reduceIte,zE,zB,zA,zM,zS,zL,reduceCtorEq,f0,f1,f7,f8,lt_i hlt,reTag_es htg,Int.natCast_nonneg,strI_get ha,fits,decide_true]
        refine outK_self ⟨⟨_,rfl,?_⟩,rfl⟩
        rw [decide_eq_true (Int.natCast_nonneg k)]
        exact (memB_iff.2 (List.mem_of_getElem? ha)).symm
      · simp -implicitDefEqProofs -dsimp only [go_sem,↓reduceIte,zE,zB,zA,zM,zS,zL,reduceCtorEq,f0,f1,f7,f8,lt_i hlt,reTag_es htg,Int.natCast_nonneg,strI_get ha,fits,decide_eq_false hr,w_succ hlt (show l.length ≤ 281474976710656 by omega)]
        rw [memB_not] at hn ⊢
        rw [take_get ha,List.mem_append,List.mem_singleton]
        rintro (h | h)
        · exact hn h
        · exact hr h
    · rintro fr st1 _ ⟨hn,f0,f1,f7,f8,rfl,rfl⟩
      rw [List.take_length] at hn
      simp -implicitDefEqProofs -dsimp only [go_sem,↓reduceIte,zE,zB,zA,zM,zS,zL,reduceCtorEq,f7,f8,nlt_i (Nat.lt_irrefl _)]
      exact outK_self ⟨⟨_,rfl,by rw [hn]; rfl⟩,rfl⟩
  refine ICall.intro (c:=cf prog gl [] []) func200 rfl (by show _ ≤ 9; simp) (by kernel_rfl) ?_
  simp -implicitDefEqProofs -dsimp only [go_sem,↓reduceIte,zE,zB,zA,zM,zS,zL,reduceCtorEq]
  refine hidx.mono ?_
  rintro _ _ ⟨⟨n,rfl,hn⟩,rfl⟩
  simp -implicitDefEqProofs -dsimp only [go_sem,↓reduceIte,zE,zB,zA,zM,zS,zL,reduceCtorEq,hn]
  exact outK_self ⟨rfl,rfl⟩
theorem free1_c (T:Gt gl) (f:Fm) (y:IV) (hy:IsFm f y) (hs:f.size ≤ 1000000) (hf:f.right = true) (s:ByteArray) (st:ISt) :
    ICall prog gl 199 [y,.cptr (.raw (.string s))] st (fun r st' => r = .raw (.bool (memB (frF f) s)) ∧ st' = st):=by
  have h1:=fun st => Free_c gl T f y hy (by omega) (fun q hq => by have:=nm_size (frF_ok f (right_ok hf).1 q hq); omega) st
  obtain ⟨o5,n5,t5,x5,t6,x6,rfl⟩:=hy.agg
  refine ICall.intro (c:=cf prog gl [] [(1,[0,2,1,3,4])]) func199 rfl (by show _ ≤ 8; simp) (by kernel_rfl) ?_
  simp -implicitDefEqProofs -dsimp only [go_sem,↓reduceIte,zE,zB,zA,zM,zS,zL,reduceCtorEq,fits]
  refine (h1 _).mono ?_
  rintro _ _ ⟨tg,l,rfl,htg,hl,rfl⟩
  simp -implicitDefEqProofs -dsimp only [go_sem,↓reduceIte,zE,zB,zA,zM,zS,zL,reduceCtorEq,fits]
  refine (Contains_c gl tg htg l s _).mono ?_
  rintro _ _ ⟨rfl,rfl⟩
  simp -implicitDefEqProofs -dsimp only [go_sem,↓reduceIte,zE,zB,zA,zM,zS,zL,reduceCtorEq]
  refine outK_self ⟨?_,rfl⟩
  have:memB l s = memB (frF f) s:=by
    rw [Bool.eq_iff_iff,memB_iff,memB_iff]; exact hl.2 s
  rw [this]
theorem free_c (T:Gt gl) (s:Sq) (x:IV) (hx:IsSq s x) (hs:fitSq s) (hr:(∀ f ∈ s.l,f.right = true) ∧ ∀ f ∈ s.r,f.right = true) (n:ByteArray) (st:ISt) :
    ICall prog gl 144 [x,.raw (.string n)] st (fun r st' => r = .raw (.bool (freeIn s n)) ∧ st' = st):=by
  obtain ⟨t1,x1,t2,x2,rfl,e1,i1,e2,i2⟩:=hx
  have h1:=fun st => ContainsFunc_c gl 199 [.cptr (.raw (.string n))] (by simp only [go_sem]) s.l (fun f => memB (frF f) n) (fun a ha y hy st => free1_c gl T a y hy (hs.1 a ha) (hr.1 a ha) n st) t1 x1 e1 i1 st
  have h2:=fun st => ContainsFunc_c gl 199 [.cptr (.raw (.string n))] (by simp only [go_sem]) s.r (fun f => memB (frF f) n) (fun a ha y hy st => free1_c gl T a y hy (hs.2 a ha) (hr.2 a ha) n st) t2 x2 e2 i2 st
  refine ICall.intro (c:=cf prog gl [] [] [3]) func144 rfl (by show _ ≤ 17; simp) (by kernel_rfl) ?_
  simp -implicitDefEqProofs -dsimp only [go_sem,↓reduceIte,zE,zB,zA,zM,zS,zL,reduceCtorEq,fits]
  refine (h1 _).mono ?_
  rintro _ _ ⟨rfl,rfl⟩
  cases hq:s.l.any fun f => memB (frF f) n
  · simp -implicitDefEqProofs -dsimp only [go_sem,↓reduceIte,zE,zB,zA,zM,zS,zL,reduceCtorEq]
    refine (h2 _).mono ?_
    rintro _ _ ⟨rfl,rfl⟩
    simp -implicitDefEqProofs -dsimp only [go_sem,↓reduceIte,zE,zB,zA,zM,zS,zL,reduceCtorEq]
    exact outK_self ⟨by simp [freeIn,hq],rfl⟩
  · simp -implicitDefEqProofs -dsimp only [go_sem,↓reduceIte,zE,zB,zA,zM,zS,zL,reduceCtorEq]
    exact outK_self ⟨by simp [freeIn,hq],rfl⟩

theorem puts_size7 (f:Fm) (l:Sb):(PutsS f l).1.size ≤ 400:=by
  unfold PutsS
  split
  · split
    · rename_i h
      simp only [Bool.and_eq_true,decide_eq_true_eq] at h
      exact h.1
    · show fm0.size ≤ 400
      decide
  · show fm0.size ≤ 400
    decide
theorem fm0_z:IsFm fm0 (.agg [.raw (.int .u8 0),.raw (.string ⟨#[]⟩),.sl ⟨true,.nil,0⟩ [],.sl ⟨true,.nil,0⟩ []]):=fm0_v _ _ (.inl rfl) (.inl rfl)
theorem subs_get {sub:List Fm} {xs:List IV} (h:IsFms sub xs) (k:Nat):∃ y,IsFm ((sub[k]?).getD fm0) y ∧ (sub.length ≤ k → y = .agg [.raw (.int .u8 0),.raw (.string ⟨#[]⟩),.sl ⟨true,.nil,0⟩ [],.sl ⟨true,.nil,0⟩ []]) ∧ (k < sub.length → xs[k]? = some y):=by
  by_cases hk:k < sub.length
  · obtain ⟨a,ha⟩:=get_of_lt hk
    obtain ⟨y,hy,hf⟩:=h.get ha
    exact ⟨y,by rw [ha]; exact hf,fun hc => by omega,fun _ => hy⟩
  · exact ⟨_,by rw [List.getElem?_eq_none (by omega)]; exact fm0_z,fun _ => rfl,fun hc => absurd hc hk⟩
def AdR (st:ISt) (q:List Sq × Nat) (r:IV) (st':ISt):Prop:=∃ tg xs,r = .tup [.sl tg xs,.raw (.int .i64 q.2)] ∧ okEs tg 2 ∧ IsSqs q.1 xs ∧ st' = st
theorem sub_size {o:Nat} {n:ByteArray} {us:List Tm} {sub:List Fm} (h:(Fm.mk o n us sub).size ≤ 1000000) (k:Nat):((sub[k]?).getD fm0).size ≤ 1000000:=by
  cases ha:sub[k]? with
  | none => show fm0.size ≤ 1000000; decide
  | some a =>
    have:=(sizeFms_take ha).2
    simp only [Fm.size] at h
    show a.size ≤ 1000000
    omega
theorem addsS_go {ca rule:Nat} {r:Rw} {main:Fm} {term:Tm} {name:ByteArray} (h:fmB ca main = true) (h':r.op = 0 ∨ main.op = r.op):addsS ca rule r main term name =
    if r.asks = 0 then (addS ca rule main ((main.subs[0]?).getD fm0) ((main.subs[1]?).getD fm0),0)
    else if !(if r.asks = 2 then Tm.mk true name [] else term).ok then ([],193)
    else if (PutsS ((main.subs[0]?).getD fm0) [(main.nm,if r.asks = 2 then Tm.mk true name [] else term)]).2 ≠ 0 then ([],193)
    else (addS ca rule main (PutsS ((main.subs[0]?).getD fm0) [(main.nm,if r.asks = 2 then Tm.mk true name [] else term)]).1 ((main.subs[1]?).getD fm0),0):=by
  have e:(!fmB ca main || (decide (r.op ≠ 0) && decide (main.op ≠ r.op))) = false:=by
    rw [h]
    rcases h' with h' | h' <;> simp [h']
  simp only [addsS,e,Bool.false_eq_true,if_false]
theorem adds_c (G:Gl gl) (T:Gt gl) (ca rule:Nat) (r:Rw) (hr:rowS ca rule = some r) (main:Fm) (y:IV) (hy:IsFm main y) (hm:main.size ≤ 1000000) (term:Tm) (z:IV) (hz:IsTm term z) (ht:term.size ≤ 1000000) (name:ByteArray) (st:ISt) :
    ICall prog gl 99 [rwI ca rule r,.raw (.int .u8 ca),y,z,.raw (.string name)] st (AdR st (addsS ca rule r main term name)):=by
  obtain ⟨hadd,hent⟩:=addOk_of gl hr
  have hf:=fun st => formula_c gl G ca main y hy hm st
  obtain ⟨rl,rr,op,asks⟩:=r
  obtain ⟨o,n,us,sub⟩:=main
  have hy0:=hy
  obtain ⟨t1,x1,t2,x2,rfl,ho,e1,i1,e2,i2⟩:=hy.mk
  obtain ⟨v,un,tz,xz,rfl⟩:∃ v un tz xz,z = .agg [.raw (.bool v),.raw (.string un),.sl tz xz]:=by
    obtain ⟨v,un,us⟩:=term
    obtain ⟨tz,xz,rfl,_⟩:=hz.mk
    exact ⟨_,_,_,_,rfl⟩
  obtain ⟨z1,hz1,hz1n,hz1s⟩:=subs_get i2 0
  obtain ⟨z2,hz2,hz2n,hz2s⟩:=subs_get i2 1
  have hE:fmB ca (.mk o n us sub) = false → addsS ca rule ⟨rl,rr,op,asks⟩ (.mk o n us sub) term name = ([],192):=fun h => by simp only [addsS,h]; rfl
  refine ICall.intro (c:=cf prog gl [] []) func99 rfl (by show _ ≤ 76; simp) (by kernel_rfl) ?_
  simp -implicitDefEqProofs -dsimp only [go_sem,↓reduceIte,zE,zB,zA,zM,zS,zL,reduceCtorEq,rwI,fits]
  refine (hf _).mono ?_
  rintro _ _ ⟨rfl,rfl⟩
  cases hfm:fmB ca (.mk o n us sub)
  · simp -implicitDefEqProofs -dsimp only [go_sem,↓reduceIte,zE,zB,zA,zM,zS,zL,reduceCtorEq]
    exact outK_self (by rw [hE hfm]; exact ⟨_,_,rfl,.inl rfl,rfl,rfl⟩)
  by_cases hop:op = 0 ∨ o = op
  case neg =>
    have hq:addsS ca rule ⟨rl,rr,op,asks⟩ (.mk o n us sub) term name = ([],192):=by
      have e:(!fmB ca (.mk o n us sub) || (decide (op ≠ 0) && decide ((Fm.mk o n us sub).op ≠ op))) = true:=by
        simp only [Fm.op,hfm]
        simp only [not_or] at hop
        simp [hop]
      simp only [addsS,e,if_true]
    simp only [not_or] at hop
    have d1:decide ((op:Int) = 0) = false:=decide_eq_false (by omega)
    have d2:decide ((o:Int) = (op:Int)) = false:=decide_eq_false (by omega)
    simp -implicitDefEqProofs -dsimp only [go_sem,↓reduceIte,zE,zB,zA,zM,zS,zL,reduceCtorEq,d1,d2,fits]
    exact outK_self (by rw [hq]; exact ⟨_,_,rfl,.inl rfl,rfl,rfl⟩)
  obtain ⟨dop,hdop⟩:∃ b,decide ((op:Int) = 0) = b:=⟨_,rfl⟩
  have hdo:dop = false → decide ((o:Int) = (op:Int)) = true:=fun h => by
    subst hdop
    have:=of_decide_eq_false h
    exact decide_eq_true (by omega)
  have hop0:=hop
  replace hop:(⟨rl,rr,op,asks⟩:Rw).op = 0 ∨ (Fm.mk o n us sub).op = (⟨rl,rr,op,asks⟩:Rw).op:=hop0
  by_cases hl0:0 < sub.length
  · have l0:decide ((0:Int) < (sub.length:Int)) = true:=decide_eq_true (by omega)
    have g0:=hz1s hl0
    obtain ⟨o3,n3,t3,x3,t4,x4,rfl⟩:=hz1.agg
    by_cases hl1:1 < sub.length
    · have l1:decide ((1:Int) < (sub.length:Int)) = true:=decide_eq_true (by omega)
      have g1:=hz2s hl1
      obtain ⟨o5,n5,t5,x5,t6,x6,rfl⟩:=hz2.agg
      cases dop
      · have hd2:=hdo rfl
        by_cases ha0:asks = 0
        · have d0:decide ((asks:Int) = 0) = true:=decide_eq_true (by omega)
          have hq:=addsS_go (rule:=rule) (r:=⟨rl,rr,op,asks⟩) (term:=term) (name:=name) hfm hop
          simp only [if_pos ha0,Fm.subs] at hq
          simp -implicitDefEqProofs -dsimp only [go_sem,↓reduceIte,zE,zB,zA,zM,zS,zL,reduceCtorEq,hdop,hd2,l0,l1,i2.len,g0,g1,reTag_es e2,Int.le_refl,Int.toNat_zero,(show (0:Int) ≤ 1 by decide),(show Int.toNat 1 = 1 from rfl),d0,fits,hent]
          intros
          refine (hadd _ _ _ _ _ _ hy0 hz1 hz2 hm (sub_size hm 0) (sub_size hm 1) _).mono ?_
          rintro _ _ ⟨tg,xs,rfl,he,hxs,rfl⟩
          simp -implicitDefEqProofs -dsimp only [go_sem,↓reduceIte,zE,zB,zA,zM,zS,zL,reduceCtorEq]
          exact outK_self (by rw [hq]; exact ⟨_,_,rfl,he,hxs,rfl⟩)
        · have d0:decide ((asks:Int) = 0) = false:=decide_eq_false (by omega)
          by_cases ha2:asks = 2
          · have d2:decide ((asks:Int) = 2) = true:=decide_eq_true (by omega)
            simp -implicitDefEqProofs -dsimp only [go_sem,↓reduceIte,zE,zB,zA,zM,zS,zL,reduceCtorEq,hdop,hd2,l0,l1,i2.len,g0,g1,reTag_es e2,Int.le_refl,Int.toNat_zero,(show (0:Int) ≤ 1 by decide),(show Int.toNat 1 = 1 from rfl),d0,d2,fits,hent]
            intros
            refine (Term_c gl (Tm.mk true name []) _ (show IsTm (Tm.mk true name []) _ from ⟨_,_,rfl,.inl rfl,rfl⟩) (by show 1 ≤ _; decide) _).mono ?_
            rintro _ _ ⟨rfl,rfl⟩
            cases hk:Tm.ok (Tm.mk true name [])
            · simp -implicitDefEqProofs -dsimp only [go_sem,↓reduceIte,zE,zB,zA,zM,zS,zL,reduceCtorEq]
              have hq:=addsS_go (rule:=rule) (r:=⟨rl,rr,op,asks⟩) (term:=term) (name:=name) hfm hop
              simp only [if_neg ha0,if_pos ha2,hk,Bool.not_false,if_true] at hq
              exact outK_self (by rw [hq]; exact ⟨_,_,rfl,.inl rfl,rfl,rfl⟩)
            simp -implicitDefEqProofs -dsimp only [go_sem,↓reduceIte,zE,zB,zA,zM,zS,zL,reduceCtorEq,fits]
            refine (Put_c gl G T _ _ hz1 (sub_size hm 0) n (Tm.mk true name []) _ (show IsTm (Tm.mk true name []) _ from ⟨_,_,rfl,.inl rfl,rfl⟩) (by show 1 ≤ _; decide) _).mono ?_
            rintro _ _ ⟨y3,rfl,hy3,rfl⟩
            have hy4:=hy3
            obtain ⟨o8,n8,t8,x8,t9,x9,rfl⟩:=hy3.agg
            by_cases he:(PutsS ((sub[0]?).getD fm0) [(n,(Tm.mk true name []))]).2 = 0
            · have hq:=addsS_go (rule:=rule) (r:=⟨rl,rr,op,asks⟩) (term:=term) (name:=name) hfm hop
              simp only [if_neg ha0,if_pos ha2,hk,Bool.not_true,Bool.false_eq_true,if_false,Fm.subs,Fm.nm,he,ne_eq,not_true_eq_false] at hq
              simp -implicitDefEqProofs -dsimp only [go_sem,↓reduceIte,zE,zB,zA,zM,zS,zL,reduceCtorEq,fits,he,hent,show decide (((0:Nat):Int) = 0) = true from rfl]
              refine (hadd _ _ _ _ _ _ hy0 hy4 hz2 hm (Nat.le_trans (puts_size7 _ _) (by decide)) (sub_size hm 1) _).mono ?_
              rintro _ _ ⟨tg,xs,rfl,he,hxs,rfl⟩
              simp -implicitDefEqProofs -dsimp only [go_sem,↓reduceIte,zE,zB,zA,zM,zS,zL,reduceCtorEq]
              exact outK_self (by rw [hq]; exact ⟨_,_,rfl,he,hxs,rfl⟩)
            · have hq:=addsS_go (rule:=rule) (r:=⟨rl,rr,op,asks⟩) (term:=term) (name:=name) hfm hop
              simp only [if_neg ha0,if_pos ha2,hk,Bool.not_true,Bool.false_eq_true,if_false,Fm.subs,Fm.nm,ne_eq,he,not_false_eq_true,if_true] at hq
              have hd:decide (((PutsS ((sub[0]?).getD fm0) [(n,(Tm.mk true name []))]).2:Int) = 0) = false:=decide_eq_false (by omega)
              simp -implicitDefEqProofs -dsimp only [go_sem,↓reduceIte,zE,zB,zA,zM,zS,zL,reduceCtorEq,fits,hd]
              exact outK_self (by rw [hq]; exact ⟨_,_,rfl,.inl rfl,rfl,rfl⟩)
          · have d2:decide ((asks:Int) = 2) = false:=decide_eq_false (by omega)
            simp -implicitDefEqProofs -dsimp only [go_sem,↓reduceIte,zE,zB,zA,zM,zS,zL,reduceCtorEq,hdop,hd2,l0,l1,i2.len,g0,g1,reTag_es e2,Int.le_refl,Int.toNat_zero,(show (0:Int) ≤ 1 by decide),(show Int.toNat 1 = 1 from rfl),d0,d2,fits,hent]
            intros
            refine (Term_c gl term _ hz ht _).mono ?_
            rintro _ _ ⟨rfl,rfl⟩
            cases hk:Tm.ok term
            · simp -implicitDefEqProofs -dsimp only [go_sem,↓reduceIte,zE,zB,zA,zM,zS,zL,reduceCtorEq]
              have hq:=addsS_go (rule:=rule) (r:=⟨rl,rr,op,asks⟩) (term:=term) (name:=name) hfm hop
              simp only [if_neg ha0,if_neg ha2,hk,Bool.not_false,if_true] at hq
              exact outK_self (by rw [hq]; exact ⟨_,_,rfl,.inl rfl,rfl,rfl⟩)
            simp -implicitDefEqProofs -dsimp only [go_sem,↓reduceIte,zE,zB,zA,zM,zS,zL,reduceCtorEq,fits]
            refine (Put_c gl G T _ _ hz1 (sub_size hm 0) n term _ hz ht _).mono ?_
            rintro _ _ ⟨y3,rfl,hy3,rfl⟩
            have hy4:=hy3
            obtain ⟨o8,n8,t8,x8,t9,x9,rfl⟩:=hy3.agg
            by_cases he:(PutsS ((sub[0]?).getD fm0) [(n,term)]).2 = 0
            · have hq:=addsS_go (rule:=rule) (r:=⟨rl,rr,op,asks⟩) (term:=term) (name:=name) hfm hop
              simp only [if_neg ha0,if_neg ha2,hk,Bool.not_true,Bool.false_eq_true,if_false,Fm.subs,Fm.nm,he,ne_eq,not_true_eq_false] at hq
              simp -implicitDefEqProofs -dsimp only [go_sem,↓reduceIte,zE,zB,zA,zM,zS,zL,reduceCtorEq,fits,he,hent,show decide (((0:Nat):Int) = 0) = true from rfl]
              refine (hadd _ _ _ _ _ _ hy0 hy4 hz2 hm (Nat.le_trans (puts_size7 _ _) (by decide)) (sub_size hm 1) _).mono ?_
              rintro _ _ ⟨tg,xs,rfl,he,hxs,rfl⟩
              simp -implicitDefEqProofs -dsimp only [go_sem,↓reduceIte,zE,zB,zA,zM,zS,zL,reduceCtorEq]
              exact outK_self (by rw [hq]; exact ⟨_,_,rfl,he,hxs,rfl⟩)
            · have hq:=addsS_go (rule:=rule) (r:=⟨rl,rr,op,asks⟩) (term:=term) (name:=name) hfm hop
              simp only [if_neg ha0,if_neg ha2,hk,Bool.not_true,Bool.false_eq_true,if_false,Fm.subs,Fm.nm,ne_eq,he,not_false_eq_true,if_true] at hq
              have hd:decide (((PutsS ((sub[0]?).getD fm0) [(n,term)]).2:Int) = 0) = false:=decide_eq_false (by omega)
              simp -implicitDefEqProofs -dsimp only [go_sem,↓reduceIte,zE,zB,zA,zM,zS,zL,reduceCtorEq,fits,hd]
              exact outK_self (by rw [hq]; exact ⟨_,_,rfl,.inl rfl,rfl,rfl⟩)
      · by_cases ha0:asks = 0
        · have d0:decide ((asks:Int) = 0) = true:=decide_eq_true (by omega)
          have hq:=addsS_go (rule:=rule) (r:=⟨rl,rr,op,asks⟩) (term:=term) (name:=name) hfm hop
          simp only [if_pos ha0,Fm.subs] at hq
          simp -implicitDefEqProofs -dsimp only [go_sem,↓reduceIte,zE,zB,zA,zM,zS,zL,reduceCtorEq,hdop,l0,l1,i2.len,g0,g1,reTag_es e2,Int.le_refl,Int.toNat_zero,(show (0:Int) ≤ 1 by decide),(show Int.toNat 1 = 1 from rfl),d0,fits,hent]
          intros
          refine (hadd _ _ _ _ _ _ hy0 hz1 hz2 hm (sub_size hm 0) (sub_size hm 1) _).mono ?_
          rintro _ _ ⟨tg,xs,rfl,he,hxs,rfl⟩
          simp -implicitDefEqProofs -dsimp only [go_sem,↓reduceIte,zE,zB,zA,zM,zS,zL,reduceCtorEq]
          exact outK_self (by rw [hq]; exact ⟨_,_,rfl,he,hxs,rfl⟩)
        · have d0:decide ((asks:Int) = 0) = false:=decide_eq_false (by omega)
          by_cases ha2:asks = 2
          · have d2:decide ((asks:Int) = 2) = true:=decide_eq_true (by omega)
            simp -implicitDefEqProofs -dsimp only [go_sem,↓reduceIte,zE,zB,zA,zM,zS,zL,reduceCtorEq,hdop,l0,l1,i2.len,g0,g1,reTag_es e2,Int.le_refl,Int.toNat_zero,(show (0:Int) ≤ 1 by decide),(show Int.toNat 1 = 1 from rfl),d0,d2,fits,hent]
            intros
            refine (Term_c gl (Tm.mk true name []) _ (show IsTm (Tm.mk true name []) _ from ⟨_,_,rfl,.inl rfl,rfl⟩) (by show 1 ≤ _; decide) _).mono ?_
            rintro _ _ ⟨rfl,rfl⟩
            cases hk:Tm.ok (Tm.mk true name [])
            · simp -implicitDefEqProofs -dsimp only [go_sem,↓reduceIte,zE,zB,zA,zM,zS,zL,reduceCtorEq]
              have hq:=addsS_go (rule:=rule) (r:=⟨rl,rr,op,asks⟩) (term:=term) (name:=name) hfm hop
              simp only [if_neg ha0,if_pos ha2,hk,Bool.not_false,if_true] at hq
              exact outK_self (by rw [hq]; exact ⟨_,_,rfl,.inl rfl,rfl,rfl⟩)
            simp -implicitDefEqProofs -dsimp only [go_sem,↓reduceIte,zE,zB,zA,zM,zS,zL,reduceCtorEq,fits]
            refine (Put_c gl G T _ _ hz1 (sub_size hm 0) n (Tm.mk true name []) _ (show IsTm (Tm.mk true name []) _ from ⟨_,_,rfl,.inl rfl,rfl⟩) (by show 1 ≤ _; decide) _).mono ?_
            rintro _ _ ⟨y3,rfl,hy3,rfl⟩
            have hy4:=hy3
            obtain ⟨o8,n8,t8,x8,t9,x9,rfl⟩:=hy3.agg
            by_cases he:(PutsS ((sub[0]?).getD fm0) [(n,(Tm.mk true name []))]).2 = 0
            · have hq:=addsS_go (rule:=rule) (r:=⟨rl,rr,op,asks⟩) (term:=term) (name:=name) hfm hop
              simp only [if_neg ha0,if_pos ha2,hk,Bool.not_true,Bool.false_eq_true,if_false,Fm.subs,Fm.nm,he,ne_eq,not_true_eq_false] at hq
              simp -implicitDefEqProofs -dsimp only [go_sem,↓reduceIte,zE,zB,zA,zM,zS,zL,reduceCtorEq,fits,he,hent,show decide (((0:Nat):Int) = 0) = true from rfl]
              refine (hadd _ _ _ _ _ _ hy0 hy4 hz2 hm (Nat.le_trans (puts_size7 _ _) (by decide)) (sub_size hm 1) _).mono ?_
              rintro _ _ ⟨tg,xs,rfl,he,hxs,rfl⟩
              simp -implicitDefEqProofs -dsimp only [go_sem,↓reduceIte,zE,zB,zA,zM,zS,zL,reduceCtorEq]
              exact outK_self (by rw [hq]; exact ⟨_,_,rfl,he,hxs,rfl⟩)
            · have hq:=addsS_go (rule:=rule) (r:=⟨rl,rr,op,asks⟩) (term:=term) (name:=name) hfm hop
              simp only [if_neg ha0,if_pos ha2,hk,Bool.not_true,Bool.false_eq_true,if_false,Fm.subs,Fm.nm,ne_eq,he,not_false_eq_true,if_true] at hq
              have hd:decide (((PutsS ((sub[0]?).getD fm0) [(n,(Tm.mk true name []))]).2:Int) = 0) = false:=decide_eq_false (by omega)
              simp -implicitDefEqProofs -dsimp only [go_sem,↓reduceIte,zE,zB,zA,zM,zS,zL,reduceCtorEq,fits,hd]
              exact outK_self (by rw [hq]; exact ⟨_,_,rfl,.inl rfl,rfl,rfl⟩)
          · have d2:decide ((asks:Int) = 2) = false:=decide_eq_false (by omega)
            simp -implicitDefEqProofs -dsimp only [go_sem,↓reduceIte,zE,zB,zA,zM,zS,zL,reduceCtorEq,hdop,l0,l1,i2.len,g0,g1,reTag_es e2,Int.le_refl,Int.toNat_zero,(show (0:Int) ≤ 1 by decide),(show Int.toNat 1 = 1 from rfl),d0,d2,fits,hent]
            intros
            refine (Term_c gl term _ hz ht _).mono ?_
            rintro _ _ ⟨rfl,rfl⟩
            cases hk:Tm.ok term
            · simp -implicitDefEqProofs -dsimp only [go_sem,↓reduceIte,zE,zB,zA,zM,zS,zL,reduceCtorEq]
              have hq:=addsS_go (rule:=rule) (r:=⟨rl,rr,op,asks⟩) (term:=term) (name:=name) hfm hop
              simp only [if_neg ha0,if_neg ha2,hk,Bool.not_false,if_true] at hq
              exact outK_self (by rw [hq]; exact ⟨_,_,rfl,.inl rfl,rfl,rfl⟩)
            simp -implicitDefEqProofs -dsimp only [go_sem,↓reduceIte,zE,zB,zA,zM,zS,zL,reduceCtorEq,fits]
            refine (Put_c gl G T _ _ hz1 (sub_size hm 0) n term _ hz ht _).mono ?_
            rintro _ _ ⟨y3,rfl,hy3,rfl⟩
            have hy4:=hy3
            obtain ⟨o8,n8,t8,x8,t9,x9,rfl⟩:=hy3.agg
            by_cases he:(PutsS ((sub[0]?).getD fm0) [(n,term)]).2 = 0
            · have hq:=addsS_go (rule:=rule) (r:=⟨rl,rr,op,asks⟩) (term:=term) (name:=name) hfm hop
              simp only [if_neg ha0,if_neg ha2,hk,Bool.not_true,Bool.false_eq_true,if_false,Fm.subs,Fm.nm,he,ne_eq,not_true_eq_false] at hq
              simp -implicitDefEqProofs -dsimp only [go_sem,↓reduceIte,zE,zB,zA,zM,zS,zL,reduceCtorEq,fits,he,hent,show decide (((0:Nat):Int) = 0) = true from rfl]
              refine (hadd _ _ _ _ _ _ hy0 hy4 hz2 hm (Nat.le_trans (puts_size7 _ _) (by decide)) (sub_size hm 1) _).mono ?_
              rintro _ _ ⟨tg,xs,rfl,he,hxs,rfl⟩
              simp -implicitDefEqProofs -dsimp only [go_sem,↓reduceIte,zE,zB,zA,zM,zS,zL,reduceCtorEq]
              exact outK_self (by rw [hq]; exact ⟨_,_,rfl,he,hxs,rfl⟩)
            · have hq:=addsS_go (rule:=rule) (r:=⟨rl,rr,op,asks⟩) (term:=term) (name:=name) hfm hop
              simp only [if_neg ha0,if_neg ha2,hk,Bool.not_true,Bool.false_eq_true,if_false,Fm.subs,Fm.nm,ne_eq,he,not_false_eq_true,if_true] at hq
              have hd:decide (((PutsS ((sub[0]?).getD fm0) [(n,term)]).2:Int) = 0) = false:=decide_eq_false (by omega)
              simp -implicitDefEqProofs -dsimp only [go_sem,↓reduceIte,zE,zB,zA,zM,zS,zL,reduceCtorEq,fits,hd]
              exact outK_self (by rw [hq]; exact ⟨_,_,rfl,.inl rfl,rfl,rfl⟩)
    · have l1:decide ((1:Int) < (sub.length:Int)) = false:=decide_eq_false (by omega)
      obtain rfl:=hz2n (by omega)
      cases dop
      · have hd2:=hdo rfl
        by_cases ha0:asks = 0
        · have d0:decide ((asks:Int) = 0) = true:=decide_eq_true (by omega)
          have hq:=addsS_go (rule:=rule) (r:=⟨rl,rr,op,asks⟩) (term:=term) (name:=name) hfm hop
          simp only [if_pos ha0,Fm.subs] at hq
          simp -implicitDefEqProofs -dsimp only [go_sem,↓reduceIte,zE,zB,zA,zM,zS,zL,reduceCtorEq,hdop,hd2,l0,l1,i2.len,g0,reTag_es e2,Int.le_refl,Int.toNat_zero,d0,fits,hent]
          intros
          refine (hadd _ _ _ _ _ _ hy0 hz1 hz2 hm (sub_size hm 0) (sub_size hm 1) _).mono ?_
          rintro _ _ ⟨tg,xs,rfl,he,hxs,rfl⟩
          simp -implicitDefEqProofs -dsimp only [go_sem,↓reduceIte,zE,zB,zA,zM,zS,zL,reduceCtorEq]
          exact outK_self (by rw [hq]; exact ⟨_,_,rfl,he,hxs,rfl⟩)
        · have d0:decide ((asks:Int) = 0) = false:=decide_eq_false (by omega)
          by_cases ha2:asks = 2
          · have d2:decide ((asks:Int) = 2) = true:=decide_eq_true (by omega)
            simp -implicitDefEqProofs -dsimp only [go_sem,↓reduceIte,zE,zB,zA,zM,zS,zL,reduceCtorEq,hdop,hd2,l0,l1,i2.len,g0,reTag_es e2,Int.le_refl,Int.toNat_zero,d0,d2,fits,hent]
            intros
            refine (Term_c gl (Tm.mk true name []) _ (show IsTm (Tm.mk true name []) _ from ⟨_,_,rfl,.inl rfl,rfl⟩) (by show 1 ≤ _; decide) _).mono ?_
            rintro _ _ ⟨rfl,rfl⟩
            cases hk:Tm.ok (Tm.mk true name [])
            · simp -implicitDefEqProofs -dsimp only [go_sem,↓reduceIte,zE,zB,zA,zM,zS,zL,reduceCtorEq]
              have hq:=addsS_go (rule:=rule) (r:=⟨rl,rr,op,asks⟩) (term:=term) (name:=name) hfm hop
              simp only [if_neg ha0,if_pos ha2,hk,Bool.not_false,if_true] at hq
              exact outK_self (by rw [hq]; exact ⟨_,_,rfl,.inl rfl,rfl,rfl⟩)
            simp -implicitDefEqProofs -dsimp only [go_sem,↓reduceIte,zE,zB,zA,zM,zS,zL,reduceCtorEq,fits]
            refine (Put_c gl G T _ _ hz1 (sub_size hm 0) n (Tm.mk true name []) _ (show IsTm (Tm.mk true name []) _ from ⟨_,_,rfl,.inl rfl,rfl⟩) (by show 1 ≤ _; decide) _).mono ?_
            rintro _ _ ⟨y3,rfl,hy3,rfl⟩
            have hy4:=hy3
            obtain ⟨o8,n8,t8,x8,t9,x9,rfl⟩:=hy3.agg
            by_cases he:(PutsS ((sub[0]?).getD fm0) [(n,(Tm.mk true name []))]).2 = 0
            · have hq:=addsS_go (rule:=rule) (r:=⟨rl,rr,op,asks⟩) (term:=term) (name:=name) hfm hop
              simp only [if_neg ha0,if_pos ha2,hk,Bool.not_true,Bool.false_eq_true,if_false,Fm.subs,Fm.nm,he,ne_eq,not_true_eq_false] at hq
              simp -implicitDefEqProofs -dsimp only [go_sem,↓reduceIte,zE,zB,zA,zM,zS,zL,reduceCtorEq,fits,he,hent,show decide (((0:Nat):Int) = 0) = true from rfl]
              refine (hadd _ _ _ _ _ _ hy0 hy4 hz2 hm (Nat.le_trans (puts_size7 _ _) (by decide)) (sub_size hm 1) _).mono ?_
              rintro _ _ ⟨tg,xs,rfl,he,hxs,rfl⟩
              simp -implicitDefEqProofs -dsimp only [go_sem,↓reduceIte,zE,zB,zA,zM,zS,zL,reduceCtorEq]
              exact outK_self (by rw [hq]; exact ⟨_,_,rfl,he,hxs,rfl⟩)
            · have hq:=addsS_go (rule:=rule) (r:=⟨rl,rr,op,asks⟩) (term:=term) (name:=name) hfm hop
              simp only [if_neg ha0,if_pos ha2,hk,Bool.not_true,Bool.false_eq_true,if_false,Fm.subs,Fm.nm,ne_eq,he,not_false_eq_true,if_true] at hq
              have hd:decide (((PutsS ((sub[0]?).getD fm0) [(n,(Tm.mk true name []))]).2:Int) = 0) = false:=decide_eq_false (by omega)
              simp -implicitDefEqProofs -dsimp only [go_sem,↓reduceIte,zE,zB,zA,zM,zS,zL,reduceCtorEq,fits,hd]
              exact outK_self (by rw [hq]; exact ⟨_,_,rfl,.inl rfl,rfl,rfl⟩)
          · have d2:decide ((asks:Int) = 2) = false:=decide_eq_false (by omega)
            simp -implicitDefEqProofs -dsimp only [go_sem,↓reduceIte,zE,zB,zA,zM,zS,zL,reduceCtorEq,hdop,hd2,l0,l1,i2.len,g0,reTag_es e2,Int.le_refl,Int.toNat_zero,d0,d2,fits,hent]
            intros
            refine (Term_c gl term _ hz ht _).mono ?_
            rintro _ _ ⟨rfl,rfl⟩
            cases hk:Tm.ok term
            · simp -implicitDefEqProofs -dsimp only [go_sem,↓reduceIte,zE,zB,zA,zM,zS,zL,reduceCtorEq]
              have hq:=addsS_go (rule:=rule) (r:=⟨rl,rr,op,asks⟩) (term:=term) (name:=name) hfm hop
              simp only [if_neg ha0,if_neg ha2,hk,Bool.not_false,if_true] at hq
              exact outK_self (by rw [hq]; exact ⟨_,_,rfl,.inl rfl,rfl,rfl⟩)
            simp -implicitDefEqProofs -dsimp only [go_sem,↓reduceIte,zE,zB,zA,zM,zS,zL,reduceCtorEq,fits]
            refine (Put_c gl G T _ _ hz1 (sub_size hm 0) n term _ hz ht _).mono ?_
            rintro _ _ ⟨y3,rfl,hy3,rfl⟩
            have hy4:=hy3
            obtain ⟨o8,n8,t8,x8,t9,x9,rfl⟩:=hy3.agg
            by_cases he:(PutsS ((sub[0]?).getD fm0) [(n,term)]).2 = 0
            · have hq:=addsS_go (rule:=rule) (r:=⟨rl,rr,op,asks⟩) (term:=term) (name:=name) hfm hop
              simp only [if_neg ha0,if_neg ha2,hk,Bool.not_true,Bool.false_eq_true,if_false,Fm.subs,Fm.nm,he,ne_eq,not_true_eq_false] at hq
              simp -implicitDefEqProofs -dsimp only [go_sem,↓reduceIte,zE,zB,zA,zM,zS,zL,reduceCtorEq,fits,he,hent,show decide (((0:Nat):Int) = 0) = true from rfl]
              refine (hadd _ _ _ _ _ _ hy0 hy4 hz2 hm (Nat.le_trans (puts_size7 _ _) (by decide)) (sub_size hm 1) _).mono ?_
              rintro _ _ ⟨tg,xs,rfl,he,hxs,rfl⟩
              simp -implicitDefEqProofs -dsimp only [go_sem,↓reduceIte,zE,zB,zA,zM,zS,zL,reduceCtorEq]
              exact outK_self (by rw [hq]; exact ⟨_,_,rfl,he,hxs,rfl⟩)
            · have hq:=addsS_go (rule:=rule) (r:=⟨rl,rr,op,asks⟩) (term:=term) (name:=name) hfm hop
              simp only [if_neg ha0,if_neg ha2,hk,Bool.not_true,Bool.false_eq_true,if_false,Fm.subs,Fm.nm,ne_eq,he,not_false_eq_true,if_true] at hq
              have hd:decide (((PutsS ((sub[0]?).getD fm0) [(n,term)]).2:Int) = 0) = false:=decide_eq_false (by omega)
              simp -implicitDefEqProofs -dsimp only [go_sem,↓reduceIte,zE,zB,zA,zM,zS,zL,reduceCtorEq,fits,hd]
              exact outK_self (by rw [hq]; exact ⟨_,_,rfl,.inl rfl,rfl,rfl⟩)
      · by_cases ha0:asks = 0
        · have d0:decide ((asks:Int) = 0) = true:=decide_eq_true (by omega)
          have hq:=addsS_go (rule:=rule) (r:=⟨rl,rr,op,asks⟩) (term:=term) (name:=name) hfm hop
          simp only [if_pos ha0,Fm.subs] at hq
          simp -implicitDefEqProofs -dsimp only [go_sem,↓reduceIte,zE,zB,zA,zM,zS,zL,reduceCtorEq,hdop,l0,l1,i2.len,g0,reTag_es e2,Int.le_refl,Int.toNat_zero,d0,fits,hent]
          intros
          refine (hadd _ _ _ _ _ _ hy0 hz1 hz2 hm (sub_size hm 0) (sub_size hm 1) _).mono ?_
          rintro _ _ ⟨tg,xs,rfl,he,hxs,rfl⟩
          simp -implicitDefEqProofs -dsimp only [go_sem,↓reduceIte,zE,zB,zA,zM,zS,zL,reduceCtorEq]
          exact outK_self (by rw [hq]; exact ⟨_,_,rfl,he,hxs,rfl⟩)
        · have d0:decide ((asks:Int) = 0) = false:=decide_eq_false (by omega)
          by_cases ha2:asks = 2
          · have d2:decide ((asks:Int) = 2) = true:=decide_eq_true (by omega)
            simp -implicitDefEqProofs -dsimp only [go_sem,↓reduceIte,zE,zB,zA,zM,zS,zL,reduceCtorEq,hdop,l0,l1,i2.len,g0,reTag_es e2,Int.le_refl,Int.toNat_zero,d0,d2,fits,hent]
            intros
            refine (Term_c gl (Tm.mk true name []) _ (show IsTm (Tm.mk true name []) _ from ⟨_,_,rfl,.inl rfl,rfl⟩) (by show 1 ≤ _; decide) _).mono ?_
            rintro _ _ ⟨rfl,rfl⟩
            cases hk:Tm.ok (Tm.mk true name [])
            · simp -implicitDefEqProofs -dsimp only [go_sem,↓reduceIte,zE,zB,zA,zM,zS,zL,reduceCtorEq]
              have hq:=addsS_go (rule:=rule) (r:=⟨rl,rr,op,asks⟩) (term:=term) (name:=name) hfm hop
              simp only [if_neg ha0,if_pos ha2,hk,Bool.not_false,if_true] at hq
              exact outK_self (by rw [hq]; exact ⟨_,_,rfl,.inl rfl,rfl,rfl⟩)
            simp -implicitDefEqProofs -dsimp only [go_sem,↓reduceIte,zE,zB,zA,zM,zS,zL,reduceCtorEq,fits]
            refine (Put_c gl G T _ _ hz1 (sub_size hm 0) n (Tm.mk true name []) _ (show IsTm (Tm.mk true name []) _ from ⟨_,_,rfl,.inl rfl,rfl⟩) (by show 1 ≤ _; decide) _).mono ?_
            rintro _ _ ⟨y3,rfl,hy3,rfl⟩
            have hy4:=hy3
            obtain ⟨o8,n8,t8,x8,t9,x9,rfl⟩:=hy3.agg
            by_cases he:(PutsS ((sub[0]?).getD fm0) [(n,(Tm.mk true name []))]).2 = 0
            · have hq:=addsS_go (rule:=rule) (r:=⟨rl,rr,op,asks⟩) (term:=term) (name:=name) hfm hop
              simp only [if_neg ha0,if_pos ha2,hk,Bool.not_true,Bool.false_eq_true,if_false,Fm.subs,Fm.nm,he,ne_eq,not_true_eq_false] at hq
              simp -implicitDefEqProofs -dsimp only [go_sem,↓reduceIte,zE,zB,zA,zM,zS,zL,reduceCtorEq,fits,he,hent,show decide (((0:Nat):Int) = 0) = true from rfl]
              refine (hadd _ _ _ _ _ _ hy0 hy4 hz2 hm (Nat.le_trans (puts_size7 _ _) (by decide)) (sub_size hm 1) _).mono ?_
              rintro _ _ ⟨tg,xs,rfl,he,hxs,rfl⟩
              simp -implicitDefEqProofs -dsimp only [go_sem,↓reduceIte,zE,zB,zA,zM,zS,zL,reduceCtorEq]
              exact outK_self (by rw [hq]; exact ⟨_,_,rfl,he,hxs,rfl⟩)
            · have hq:=addsS_go (rule:=rule) (r:=⟨rl,rr,op,asks⟩) (term:=term) (name:=name) hfm hop
              simp only [if_neg ha0,if_pos ha2,hk,Bool.not_true,Bool.false_eq_true,if_false,Fm.subs,Fm.nm,ne_eq,he,not_false_eq_true,if_true] at hq
              have hd:decide (((PutsS ((sub[0]?).getD fm0) [(n,(Tm.mk true name []))]).2:Int) = 0) = false:=decide_eq_false (by omega)
              simp -implicitDefEqProofs -dsimp only [go_sem,↓reduceIte,zE,zB,zA,zM,zS,zL,reduceCtorEq,fits,hd]
              exact outK_self (by rw [hq]; exact ⟨_,_,rfl,.inl rfl,rfl,rfl⟩)
          · have d2:decide ((asks:Int) = 2) = false:=decide_eq_false (by omega)
            simp -implicitDefEqProofs -dsimp only [go_sem,↓reduceIte,zE,zB,zA,zM,zS,zL,reduceCtorEq,hdop,l0,l1,i2.len,g0,reTag_es e2,Int.le_refl,Int.toNat_zero,d0,d2,fits,hent]
            intros
            refine (Term_c gl term _ hz ht _).mono ?_
            rintro _ _ ⟨rfl,rfl⟩
            cases hk:Tm.ok term
            · simp -implicitDefEqProofs -dsimp only [go_sem,↓reduceIte,zE,zB,zA,zM,zS,zL,reduceCtorEq]
              have hq:=addsS_go (rule:=rule) (r:=⟨rl,rr,op,asks⟩) (term:=term) (name:=name) hfm hop
              simp only [if_neg ha0,if_neg ha2,hk,Bool.not_false,if_true] at hq
              exact outK_self (by rw [hq]; exact ⟨_,_,rfl,.inl rfl,rfl,rfl⟩)
            simp -implicitDefEqProofs -dsimp only [go_sem,↓reduceIte,zE,zB,zA,zM,zS,zL,reduceCtorEq,fits]
            refine (Put_c gl G T _ _ hz1 (sub_size hm 0) n term _ hz ht _).mono ?_
            rintro _ _ ⟨y3,rfl,hy3,rfl⟩
            have hy4:=hy3
            obtain ⟨o8,n8,t8,x8,t9,x9,rfl⟩:=hy3.agg
            by_cases he:(PutsS ((sub[0]?).getD fm0) [(n,term)]).2 = 0
            · have hq:=addsS_go (rule:=rule) (r:=⟨rl,rr,op,asks⟩) (term:=term) (name:=name) hfm hop
              simp only [if_neg ha0,if_neg ha2,hk,Bool.not_true,Bool.false_eq_true,if_false,Fm.subs,Fm.nm,he,ne_eq,not_true_eq_false] at hq
              simp -implicitDefEqProofs -dsimp only [go_sem,↓reduceIte,zE,zB,zA,zM,zS,zL,reduceCtorEq,fits,he,hent,show decide (((0:Nat):Int) = 0) = true from rfl]
              refine (hadd _ _ _ _ _ _ hy0 hy4 hz2 hm (Nat.le_trans (puts_size7 _ _) (by decide)) (sub_size hm 1) _).mono ?_
              rintro _ _ ⟨tg,xs,rfl,he,hxs,rfl⟩
              simp -implicitDefEqProofs -dsimp only [go_sem,↓reduceIte,zE,zB,zA,zM,zS,zL,reduceCtorEq]
              exact outK_self (by rw [hq]; exact ⟨_,_,rfl,he,hxs,rfl⟩)
            · have hq:=addsS_go (rule:=rule) (r:=⟨rl,rr,op,asks⟩) (term:=term) (name:=name) hfm hop
              simp only [if_neg ha0,if_neg ha2,hk,Bool.not_true,Bool.false_eq_true,if_false,Fm.subs,Fm.nm,ne_eq,he,not_false_eq_true,if_true] at hq
              have hd:decide (((PutsS ((sub[0]?).getD fm0) [(n,term)]).2:Int) = 0) = false:=decide_eq_false (by omega)
              simp -implicitDefEqProofs -dsimp only [go_sem,↓reduceIte,zE,zB,zA,zM,zS,zL,reduceCtorEq,fits,hd]
              exact outK_self (by rw [hq]; exact ⟨_,_,rfl,.inl rfl,rfl,rfl⟩)
  · have l0:decide ((0:Int) < (sub.length:Int)) = false:=decide_eq_false (by omega)
    have l1:decide ((1:Int) < (sub.length:Int)) = false:=decide_eq_false (by omega)
    obtain rfl:=hz1n (by omega)
    obtain rfl:=hz2n (by omega)
    cases dop
    · have hd2:=hdo rfl
      by_cases ha0:asks = 0
      · have d0:decide ((asks:Int) = 0) = true:=decide_eq_true (by omega)
        have hq:=addsS_go (rule:=rule) (r:=⟨rl,rr,op,asks⟩) (term:=term) (name:=name) hfm hop
        simp only [if_pos ha0,Fm.subs] at hq
        simp -implicitDefEqProofs -dsimp only [go_sem,↓reduceIte,zE,zB,zA,zM,zS,zL,reduceCtorEq,hdop,hd2,l0,l1,i2.len,d0,fits,hent]
        intros
        refine (hadd _ _ _ _ _ _ hy0 hz1 hz2 hm (sub_size hm 0) (sub_size hm 1) _).mono ?_
        rintro _ _ ⟨tg,xs,rfl,he,hxs,rfl⟩
        simp -implicitDefEqProofs -dsimp only [go_sem,↓reduceIte,zE,zB,zA,zM,zS,zL,reduceCtorEq]
        exact outK_self (by rw [hq]; exact ⟨_,_,rfl,he,hxs,rfl⟩)
      · have d0:decide ((asks:Int) = 0) = false:=decide_eq_false (by omega)
        by_cases ha2:asks = 2
        · have d2:decide ((asks:Int) = 2) = true:=decide_eq_true (by omega)
          simp -implicitDefEqProofs -dsimp only [go_sem,↓reduceIte,zE,zB,zA,zM,zS,zL,reduceCtorEq,hdop,hd2,l0,l1,i2.len,d0,d2,fits,hent]
          intros
          refine (Term_c gl (Tm.mk true name []) _ (show IsTm (Tm.mk true name []) _ from ⟨_,_,rfl,.inl rfl,rfl⟩) (by show 1 ≤ _; decide) _).mono ?_
          rintro _ _ ⟨rfl,rfl⟩
          cases hk:Tm.ok (Tm.mk true name [])
          · simp -implicitDefEqProofs -dsimp only [go_sem,↓reduceIte,zE,zB,zA,zM,zS,zL,reduceCtorEq]
            have hq:=addsS_go (rule:=rule) (r:=⟨rl,rr,op,asks⟩) (term:=term) (name:=name) hfm hop
            simp only [if_neg ha0,if_pos ha2,hk,Bool.not_false,if_true] at hq
            exact outK_self (by rw [hq]; exact ⟨_,_,rfl,.inl rfl,rfl,rfl⟩)
          simp -implicitDefEqProofs -dsimp only [go_sem,↓reduceIte,zE,zB,zA,zM,zS,zL,reduceCtorEq,fits]
          refine (Put_c gl G T _ _ hz1 (sub_size hm 0) n (Tm.mk true name []) _ (show IsTm (Tm.mk true name []) _ from ⟨_,_,rfl,.inl rfl,rfl⟩) (by show 1 ≤ _; decide) _).mono ?_
          rintro _ _ ⟨y3,rfl,hy3,rfl⟩
          have hy4:=hy3
          obtain ⟨o8,n8,t8,x8,t9,x9,rfl⟩:=hy3.agg
          by_cases he:(PutsS ((sub[0]?).getD fm0) [(n,(Tm.mk true name []))]).2 = 0
          · have hq:=addsS_go (rule:=rule) (r:=⟨rl,rr,op,asks⟩) (term:=term) (name:=name) hfm hop
            simp only [if_neg ha0,if_pos ha2,hk,Bool.not_true,Bool.false_eq_true,if_false,Fm.subs,Fm.nm,he,ne_eq,not_true_eq_false] at hq
            simp -implicitDefEqProofs -dsimp only [go_sem,↓reduceIte,zE,zB,zA,zM,zS,zL,reduceCtorEq,fits,he,hent,show decide (((0:Nat):Int) = 0) = true from rfl]
            refine (hadd _ _ _ _ _ _ hy0 hy4 hz2 hm (Nat.le_trans (puts_size7 _ _) (by decide)) (sub_size hm 1) _).mono ?_
            rintro _ _ ⟨tg,xs,rfl,he,hxs,rfl⟩
            simp -implicitDefEqProofs -dsimp only [go_sem,↓reduceIte,zE,zB,zA,zM,zS,zL,reduceCtorEq]
            exact outK_self (by rw [hq]; exact ⟨_,_,rfl,he,hxs,rfl⟩)
          · have hq:=addsS_go (rule:=rule) (r:=⟨rl,rr,op,asks⟩) (term:=term) (name:=name) hfm hop
            simp only [if_neg ha0,if_pos ha2,hk,Bool.not_true,Bool.false_eq_true,if_false,Fm.subs,Fm.nm,ne_eq,he,not_false_eq_true,if_true] at hq
            have hd:decide (((PutsS ((sub[0]?).getD fm0) [(n,(Tm.mk true name []))]).2:Int) = 0) = false:=decide_eq_false (by omega)
            simp -implicitDefEqProofs -dsimp only [go_sem,↓reduceIte,zE,zB,zA,zM,zS,zL,reduceCtorEq,fits,hd]
            exact outK_self (by rw [hq]; exact ⟨_,_,rfl,.inl rfl,rfl,rfl⟩)
        · have d2:decide ((asks:Int) = 2) = false:=decide_eq_false (by omega)
          simp -implicitDefEqProofs -dsimp only [go_sem,↓reduceIte,zE,zB,zA,zM,zS,zL,reduceCtorEq,hdop,hd2,l0,l1,i2.len,d0,d2,fits,hent]
          intros
          refine (Term_c gl term _ hz ht _).mono ?_
          rintro _ _ ⟨rfl,rfl⟩
          cases hk:Tm.ok term
          · simp -implicitDefEqProofs -dsimp only [go_sem,↓reduceIte,zE,zB,zA,zM,zS,zL,reduceCtorEq]
            have hq:=addsS_go (rule:=rule) (r:=⟨rl,rr,op,asks⟩) (term:=term) (name:=name) hfm hop
            simp only [if_neg ha0,if_neg ha2,hk,Bool.not_false,if_true] at hq
            exact outK_self (by rw [hq]; exact ⟨_,_,rfl,.inl rfl,rfl,rfl⟩)
          simp -implicitDefEqProofs -dsimp only [go_sem,↓reduceIte,zE,zB,zA,zM,zS,zL,reduceCtorEq,fits]
          refine (Put_c gl G T _ _ hz1 (sub_size hm 0) n term _ hz ht _).mono ?_
          rintro _ _ ⟨y3,rfl,hy3,rfl⟩
          have hy4:=hy3
          obtain ⟨o8,n8,t8,x8,t9,x9,rfl⟩:=hy3.agg
          by_cases he:(PutsS ((sub[0]?).getD fm0) [(n,term)]).2 = 0
          · have hq:=addsS_go (rule:=rule) (r:=⟨rl,rr,op,asks⟩) (term:=term) (name:=name) hfm hop
            simp only [if_neg ha0,if_neg ha2,hk,Bool.not_true,Bool.false_eq_true,if_false,Fm.subs,Fm.nm,he,ne_eq,not_true_eq_false] at hq
            simp -implicitDefEqProofs -dsimp only [go_sem,↓reduceIte,zE,zB,zA,zM,zS,zL,reduceCtorEq,fits,he,hent,show decide (((0:Nat):Int) = 0) = true from rfl]
            refine (hadd _ _ _ _ _ _ hy0 hy4 hz2 hm (Nat.le_trans (puts_size7 _ _) (by decide)) (sub_size hm 1) _).mono ?_
            rintro _ _ ⟨tg,xs,rfl,he,hxs,rfl⟩
            simp -implicitDefEqProofs -dsimp only [go_sem,↓reduceIte,zE,zB,zA,zM,zS,zL,reduceCtorEq]
            exact outK_self (by rw [hq]; exact ⟨_,_,rfl,he,hxs,rfl⟩)
          · have hq:=addsS_go (rule:=rule) (r:=⟨rl,rr,op,asks⟩) (term:=term) (name:=name) hfm hop
            simp only [if_neg ha0,if_neg ha2,hk,Bool.not_true,Bool.false_eq_true,if_false,Fm.subs,Fm.nm,ne_eq,he,not_false_eq_true,if_true] at hq
            have hd:decide (((PutsS ((sub[0]?).getD fm0) [(n,term)]).2:Int) = 0) = false:=decide_eq_false (by omega)
            simp -implicitDefEqProofs -dsimp only [go_sem,↓reduceIte,zE,zB,zA,zM,zS,zL,reduceCtorEq,fits,hd]
            exact outK_self (by rw [hq]; exact ⟨_,_,rfl,.inl rfl,rfl,rfl⟩)
    · by_cases ha0:asks = 0
      · have d0:decide ((asks:Int) = 0) = true:=decide_eq_true (by omega)
        have hq:=addsS_go (rule:=rule) (r:=⟨rl,rr,op,asks⟩) (term:=term) (name:=name) hfm hop
        simp only [if_pos ha0,Fm.subs] at hq
        simp -implicitDefEqProofs -dsimp only [go_sem,↓reduceIte,zE,zB,zA,zM,zS,zL,reduceCtorEq,hdop,l0,l1,i2.len,d0,fits,hent]
        intros
        refine (hadd _ _ _ _ _ _ hy0 hz1 hz2 hm (sub_size hm 0) (sub_size hm 1) _).mono ?_
        rintro _ _ ⟨tg,xs,rfl,he,hxs,rfl⟩
        simp -implicitDefEqProofs -dsimp only [go_sem,↓reduceIte,zE,zB,zA,zM,zS,zL,reduceCtorEq]
        exact outK_self (by rw [hq]; exact ⟨_,_,rfl,he,hxs,rfl⟩)
      · have d0:decide ((asks:Int) = 0) = false:=decide_eq_false (by omega)
        by_cases ha2:asks = 2
        · have d2:decide ((asks:Int) = 2) = true:=decide_eq_true (by omega)
          simp -implicitDefEqProofs -dsimp only [go_sem,↓reduceIte,zE,zB,zA,zM,zS,zL,reduceCtorEq,hdop,l0,l1,i2.len,d0,d2,fits,hent]
          intros
          refine (Term_c gl (Tm.mk true name []) _ (show IsTm (Tm.mk true name []) _ from ⟨_,_,rfl,.inl rfl,rfl⟩) (by show 1 ≤ _; decide) _).mono ?_
          rintro _ _ ⟨rfl,rfl⟩
          cases hk:Tm.ok (Tm.mk true name [])
          · simp -implicitDefEqProofs -dsimp only [go_sem,↓reduceIte,zE,zB,zA,zM,zS,zL,reduceCtorEq]
            have hq:=addsS_go (rule:=rule) (r:=⟨rl,rr,op,asks⟩) (term:=term) (name:=name) hfm hop
            simp only [if_neg ha0,if_pos ha2,hk,Bool.not_false,if_true] at hq
            exact outK_self (by rw [hq]; exact ⟨_,_,rfl,.inl rfl,rfl,rfl⟩)
          simp -implicitDefEqProofs -dsimp only [go_sem,↓reduceIte,zE,zB,zA,zM,zS,zL,reduceCtorEq,fits]
          refine (Put_c gl G T _ _ hz1 (sub_size hm 0) n (Tm.mk true name []) _ (show IsTm (Tm.mk true name []) _ from ⟨_,_,rfl,.inl rfl,rfl⟩) (by show 1 ≤ _; decide) _).mono ?_
          rintro _ _ ⟨y3,rfl,hy3,rfl⟩
          have hy4:=hy3
          obtain ⟨o8,n8,t8,x8,t9,x9,rfl⟩:=hy3.agg
          by_cases he:(PutsS ((sub[0]?).getD fm0) [(n,(Tm.mk true name []))]).2 = 0
          · have hq:=addsS_go (rule:=rule) (r:=⟨rl,rr,op,asks⟩) (term:=term) (name:=name) hfm hop
            simp only [if_neg ha0,if_pos ha2,hk,Bool.not_true,Bool.false_eq_true,if_false,Fm.subs,Fm.nm,he,ne_eq,not_true_eq_false] at hq
            simp -implicitDefEqProofs -dsimp only [go_sem,↓reduceIte,zE,zB,zA,zM,zS,zL,reduceCtorEq,fits,he,hent,show decide (((0:Nat):Int) = 0) = true from rfl]
            refine (hadd _ _ _ _ _ _ hy0 hy4 hz2 hm (Nat.le_trans (puts_size7 _ _) (by decide)) (sub_size hm 1) _).mono ?_
            rintro _ _ ⟨tg,xs,rfl,he,hxs,rfl⟩
            simp -implicitDefEqProofs -dsimp only [go_sem,↓reduceIte,zE,zB,zA,zM,zS,zL,reduceCtorEq]
            exact outK_self (by rw [hq]; exact ⟨_,_,rfl,he,hxs,rfl⟩)
          · have hq:=addsS_go (rule:=rule) (r:=⟨rl,rr,op,asks⟩) (term:=term) (name:=name) hfm hop
            simp only [if_neg ha0,if_pos ha2,hk,Bool.not_true,Bool.false_eq_true,if_false,Fm.subs,Fm.nm,ne_eq,he,not_false_eq_true,if_true] at hq
            have hd:decide (((PutsS ((sub[0]?).getD fm0) [(n,(Tm.mk true name []))]).2:Int) = 0) = false:=decide_eq_false (by omega)
            simp -implicitDefEqProofs -dsimp only [go_sem,↓reduceIte,zE,zB,zA,zM,zS,zL,reduceCtorEq,fits,hd]
            exact outK_self (by rw [hq]; exact ⟨_,_,rfl,.inl rfl,rfl,rfl⟩)
        · have d2:decide ((asks:Int) = 2) = false:=decide_eq_false (by omega)
          simp -implicitDefEqProofs -dsimp only [go_sem,↓reduceIte,zE,zB,zA,zM,zS,zL,reduceCtorEq,hdop,l0,l1,i2.len,d0,d2,fits,hent]
          intros
          refine (Term_c gl term _ hz ht _).mono ?_
          rintro _ _ ⟨rfl,rfl⟩
          cases hk:Tm.ok term
          · simp -implicitDefEqProofs -dsimp only [go_sem,↓reduceIte,zE,zB,zA,zM,zS,zL,reduceCtorEq]
            have hq:=addsS_go (rule:=rule) (r:=⟨rl,rr,op,asks⟩) (term:=term) (name:=name) hfm hop
            simp only [if_neg ha0,if_neg ha2,hk,Bool.not_false,if_true] at hq
            exact outK_self (by rw [hq]; exact ⟨_,_,rfl,.inl rfl,rfl,rfl⟩)
          simp -implicitDefEqProofs -dsimp only [go_sem,↓reduceIte,zE,zB,zA,zM,zS,zL,reduceCtorEq,fits]
          refine (Put_c gl G T _ _ hz1 (sub_size hm 0) n term _ hz ht _).mono ?_
          rintro _ _ ⟨y3,rfl,hy3,rfl⟩
          have hy4:=hy3
          obtain ⟨o8,n8,t8,x8,t9,x9,rfl⟩:=hy3.agg
          by_cases he:(PutsS ((sub[0]?).getD fm0) [(n,term)]).2 = 0
          · have hq:=addsS_go (rule:=rule) (r:=⟨rl,rr,op,asks⟩) (term:=term) (name:=name) hfm hop
            simp only [if_neg ha0,if_neg ha2,hk,Bool.not_true,Bool.false_eq_true,if_false,Fm.subs,Fm.nm,he,ne_eq,not_true_eq_false] at hq
            simp -implicitDefEqProofs -dsimp only [go_sem,↓reduceIte,zE,zB,zA,zM,zS,zL,reduceCtorEq,fits,he,hent,show decide (((0:Nat):Int) = 0) = true from rfl]
            refine (hadd _ _ _ _ _ _ hy0 hy4 hz2 hm (Nat.le_trans (puts_size7 _ _) (by decide)) (sub_size hm 1) _).mono ?_
            rintro _ _ ⟨tg,xs,rfl,he,hxs,rfl⟩
            simp -implicitDefEqProofs -dsimp only [go_sem,↓reduceIte,zE,zB,zA,zM,zS,zL,reduceCtorEq]
            exact outK_self (by rw [hq]; exact ⟨_,_,rfl,he,hxs,rfl⟩)
          · have hq:=addsS_go (rule:=rule) (r:=⟨rl,rr,op,asks⟩) (term:=term) (name:=name) hfm hop
            simp only [if_neg ha0,if_neg ha2,hk,Bool.not_true,Bool.false_eq_true,if_false,Fm.subs,Fm.nm,ne_eq,he,not_false_eq_true,if_true] at hq
            have hd:decide (((PutsS ((sub[0]?).getD fm0) [(n,term)]).2:Int) = 0) = false:=decide_eq_false (by omega)
            simp -implicitDefEqProofs -dsimp only [go_sem,↓reduceIte,zE,zB,zA,zM,zS,zL,reduceCtorEq,fits,hd]
            exact outK_self (by rw [hq]; exact ⟨_,_,rfl,.inl rfl,rfl,rfl⟩)
end Go.Proofs.Tryz
