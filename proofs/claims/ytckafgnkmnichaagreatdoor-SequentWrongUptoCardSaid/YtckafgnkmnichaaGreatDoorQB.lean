/- Walks: the order of formulas.
   Walks: copies of formulas, as the package of formulas makes them; lists of copies.
   What the sequent package computes, in plain data: valid sequents, what rules add, steps, the check of a tree.
   Walks: what rules add; the rows of a calculus. -/
import Derived.Test.YtckafgnkmnichaaGreatDoorQA
import Derived.Lib.Bytealg
import Derived.Laws.Externs
import Derived.WalkKit
import Derived.Shelf.Abstract
import Derived.Test.YtckafgnkmnichaaGreatDoorKB
import Derived.Test.YtckafgnkmnichaaGreatDoorJU
set_option linter.all false
open Nat renaming reduceEqDiff → zE,reduceBEq → zB,reduceAdd → zA,reduceMul → zM,reduceSub → zS,reduceLeDiff → zL
attribute [local go_sem] Go.Iv.cf Go.Iv.setAt List.all_cons List.all_nil Bool.and_self Bool.true_and Bool.and_true Bool.false_and Bool.and_false Bool.not_true Bool.not_false List.mem_nil_iff if_false if_true beq_self_eq_true Nat.zero_add Nat.add_zero List.getElem?_cons_zero List.getElem?_cons_succ Option.map_some List.mem_cons or_false false_or or_true true_or Nat.sub_zero forall_const Int.toNat_natCast List.length_cons List.length_nil List.map_cons List.map_nil List.take_succ_cons List.take_zero List.drop_zero List.drop_succ_cons List.cons_append List.nil_append List.append_nil and_true true_and and_self true_implies List.zip_cons_cons List.zip_nil_left
namespace Go.Proofs.Tryz
open Go Go.Iv Go.Shelf Go.RowKit
set_option maxRecDepth 4000
variable (gl:Nat → Option IV)

theorem CompareString_run (a b:ByteArray) (w:World):Calls prog 267 #[.string a,.string b] w fun e w' => e = .returned (.int .i64 (Lib.compareBytes a.data.toList b.data.toList)) ∧ w' = w:=by
  have t9:prog.underlying 9 = some .string:=by kernel_rfl
  have a9:∀ w,(isAgg 9).run prog w = .ok false w:=run_isAgg_plain t9 rfl
  have t3:prog.underlying 3 = some (.int .i64):=by kernel_rfl
  have a3:∀ w,(isAgg 3).run prog w = .ok false w:=run_isAgg_plain t3 rfl
  go_enter func267,(show _ = _ from rfl)
  go_wp2
  rw [run_callFunc_extern func308 (by kernel_rfl) (by kernel_rfl) (by kernel_rfl) (e:=Extern.BytealgCompare.compare) (by kernel_rfl),Lib.run_compareString]
  simp only [Result.andThen]
  rw [Oper.upon_value]
  go_wp2
  go_ret
  exact ⟨rfl,rfl⟩
theorem compareBytes_eq:∀ x y:List UInt8,Lib.compareBytes x y = if Op.bytesLess x y = true then -1 else if Op.bytesLess y x = true then 1 else 0
  | [],[] => by simp [Lib.compareBytes,Op.bytesLess]
  | [],_ :: _ => by simp [Lib.compareBytes,Op.bytesLess]
  | _ :: _,[] => by simp [Lib.compareBytes,Op.bytesLess]
  | a :: x,b :: y => by
    have ih:=compareBytes_eq x y
    unfold Lib.compareBytes Op.bytesLess
    by_cases h1:a < b
    · have h2:¬ b < a:=fun h => UInt8.lt_irrefl _ (UInt8.lt_trans h1 h)
      simp [h1]
    · by_cases h2:b < a
      · have h3:a ≠ b:=by rintro rfl; exact UInt8.lt_irrefl _ h2
        simp [h1,h2,h3]
      · have:a = b:=UInt8.le_antisymm (UInt8.not_lt.1 h2) (UInt8.not_lt.1 h1)
        subst this
        simp [h1,ih]
theorem CompareString_c (a b:ByteArray) (st:ISt):ICall prog gl 267 [.raw (.string a),.raw (.string b)] st (fun r st' => r = .raw (.int .i64 (cmpB a b)) ∧ st' = st):=by
  intro B X rs hg hst hv
  have hr:rs = [.string a,.string b]:=by
    match rs,hv with
    | [r,r'],hv => rw [V.raw_inv (hv.2 0 r _ rfl rfl),V.raw_inv (hv.2 1 r' _ rfl rfl)]
    | [],hv => cases hv.1
    | [_],hv => cases hv.1
    | _ :: _ :: _ :: _,hv => cases hv.1
  subst hr
  refine Calls.mono (CompareString_run a b X.w) ?_
  rintro e w' ⟨rfl,rfl⟩
  refine ⟨_,rfl,X,.raw (.int .i64 (cmpB a b)),rfl,hg,Ext.refl X,?_,rfl,hst⟩
  rw [compareBytes_eq]
  exact .raw _ trivial
theorem Compare_c (a b:ByteArray) (st:ISt):ICall prog gl 193 [.raw (.string a),.raw (.string b)] st (fun r st' => r = .raw (.int .i64 (cmpB a b)) ∧ st' = st):=by
  refine ICall.intro (c:=cf prog gl [] []) func193 rfl (by show _ ≤ 8; simp) (by kernel_rfl) ?_
  simp -implicitDefEqProofs -dsimp only [go_sem,↓reduceIte,zE,zB,zA,zM,zS,zL,reduceCtorEq]
  refine (CompareString_c gl a b _).mono ?_
  rintro _ _ ⟨rfl,rfl⟩
  simp -implicitDefEqProofs -dsimp only [go_sem,↓reduceIte,zE,zB,zA,zM,zS,zL,reduceCtorEq]
  exact outK_self ⟨rfl,rfl⟩
theorem uint8NaN_c (a:Nat) (st:ISt):ICall prog gl 266 [.raw (.int .u8 a)] st (fun r st' => r = .raw (.bool false) ∧ st' = st):=by
  refine ICall.intro (c:=cf prog gl [] []) func266 rfl (by show _ ≤ 6; simp) (by kernel_rfl) ?_
  simp -implicitDefEqProofs -dsimp only [go_sem,↓reduceIte,zE,zB,zA,zM,zS,zL,reduceCtorEq,show decide ((a:Int) = (a:Int)) = true from decide_eq_true rfl]
  exact outK_self ⟨rfl,rfl⟩
theorem uint8Cmp_c (a b:Nat) (st:ISt):ICall prog gl 192 [.raw (.int .u8 a),.raw (.int .u8 b)] st (fun r st' => r = .raw (.int .i64 (cmpN a b)) ∧ st' = st):=by
  refine ICall.intro (c:=cf prog gl [] []) func192 rfl (by show _ ≤ 20; simp) (by kernel_rfl) ?_
  simp -implicitDefEqProofs -dsimp only [go_sem,↓reduceIte,zE,zB,zA,zM,zS,zL,reduceCtorEq]
  refine (uint8NaN_c gl a _).mono ?_
  rintro _ _ ⟨rfl,rfl⟩
  simp -implicitDefEqProofs -dsimp only [go_sem,↓reduceIte,zE,zB,zA,zM,zS,zL,reduceCtorEq]
  refine (uint8NaN_c gl b _).mono ?_
  rintro _ _ ⟨rfl,rfl⟩
  unfold cmpN
  by_cases h1:a < b
  · simp -implicitDefEqProofs -dsimp only [go_sem,↓reduceIte,zE,zB,zA,zM,zS,zL,reduceCtorEq,lt_i h1]
    exact outK_self ⟨by rw [if_pos h1],rfl⟩
  · by_cases h2:b < a
    · simp -implicitDefEqProofs -dsimp only [go_sem,↓reduceIte,zE,zB,zA,zM,zS,zL,reduceCtorEq,nlt_i h1,lt_i h2]
      exact outK_self ⟨by rw [if_neg h1,if_pos h2],rfl⟩
    · simp -implicitDefEqProofs -dsimp only [go_sem,↓reduceIte,zE,zB,zA,zM,zS,zL,reduceCtorEq,nlt_i h1,nlt_i h2]
      exact outK_self ⟨by rw [if_neg h1,if_neg h2],rfl⟩
theorem intNaN_c (a:Nat) (st:ISt):ICall prog gl 309 [.raw (.int .i64 a)] st (fun r st' => r = .raw (.bool false) ∧ st' = st):=by
  refine ICall.intro (c:=cf prog gl [] []) func309 rfl (by show _ ≤ 6; simp) (by kernel_rfl) ?_
  simp -implicitDefEqProofs -dsimp only [go_sem,↓reduceIte,zE,zB,zA,zM,zS,zL,reduceCtorEq,show decide ((a:Int) = (a:Int)) = true from decide_eq_true rfl]
  exact outK_self ⟨rfl,rfl⟩
theorem intCmp_c (a b:Nat) (st:ISt):ICall prog gl 268 [.raw (.int .i64 a),.raw (.int .i64 b)] st (fun r st' => r = .raw (.int .i64 (cmpN a b)) ∧ st' = st):=by
  refine ICall.intro (c:=cf prog gl [] []) func268 rfl (by show _ ≤ 20; simp) (by kernel_rfl) ?_
  simp -implicitDefEqProofs -dsimp only [go_sem,↓reduceIte,zE,zB,zA,zM,zS,zL,reduceCtorEq]
  refine (intNaN_c gl a _).mono ?_
  rintro _ _ ⟨rfl,rfl⟩
  simp -implicitDefEqProofs -dsimp only [go_sem,↓reduceIte,zE,zB,zA,zM,zS,zL,reduceCtorEq]
  refine (intNaN_c gl b _).mono ?_
  rintro _ _ ⟨rfl,rfl⟩
  unfold cmpN
  by_cases h1:a < b
  · simp -implicitDefEqProofs -dsimp only [go_sem,↓reduceIte,zE,zB,zA,zM,zS,zL,reduceCtorEq,lt_i h1]
    exact outK_self ⟨by rw [if_pos h1],rfl⟩
  · by_cases h2:b < a
    · simp -implicitDefEqProofs -dsimp only [go_sem,↓reduceIte,zE,zB,zA,zM,zS,zL,reduceCtorEq,nlt_i h1,lt_i h2]
      exact outK_self ⟨by rw [if_neg h1,if_pos h2],rfl⟩
    · simp -implicitDefEqProofs -dsimp only [go_sem,↓reduceIte,zE,zB,zA,zM,zS,zL,reduceCtorEq,nlt_i h1,nlt_i h2]
      exact outK_self ⟨by rw [if_neg h1,if_neg h2],rfl⟩
theorem tmAgg {t:Tm} {x:IV} (h:IsTm t x):∃ v n tg xs,x = .agg [.raw (.bool v),.raw (.string n),.sl tg xs]:=by
  obtain ⟨v,n,us⟩:=t
  obtain ⟨tg,xs,rfl,_⟩:=h.mk
  exact ⟨_,_,_,_,rfl⟩
theorem list_app {α:Type} {f:α → α → Int} {g:List α → List α → Int} (g0:g [] [] = 0) (g1:∀ a b l m,g (a :: l) (b :: m) = lexI (f a b) (g l m)):∀ (l m l' m':List α),l.length = m.length → g (l ++ l') (m ++ m') = lexI (g l m) (g l' m')
  | [],[],l',m',_ => by rw [g0]; simp [lexI]
  | a :: l,b :: m,l',m',h => by
    rw [List.cons_append,List.cons_append,g1,g1,list_app g0 g1 l m l' m' (by simpa using h)]
    unfold lexI
    by_cases h1:f a b = 0
    · simp [h1]
    · simp [h1]
  | [],_ :: _,_,_,h => by simp at h
  | _ :: _,[],_,_,h => by simp at h
theorem i0 (x:Int) (h:x = 0):decide (x = 0) = true:=decide_eq_true h
theorem i1 (x:Int) (h:¬ x = 0):decide (x = 0) = false:=decide_eq_false h
def CmpT (a:Tm):Prop:=∀ (b:Tm) (x y:IV) (_:IsTm a x) (_:IsTm b y) (st:ISt),ICall prog gl 195 [x,y] st (fun r st' => r = .raw (.int .i64 (cmpTm a b)) ∧ st' = st)
def CmpF (a:Fm):Prop:=∀ (b:Fm) (x y:IV) (_:IsFm a x) (_:IsFm b y) (st:ISt),ICall prog gl 137 [x,y] st (fun r st' => r = .raw (.int .i64 (cmpFm a b)) ∧ st' = st)
theorem cmpTms_c (us:List Tm) (IH:∀ a ∈ us,CmpT gl a) (ws:List Tm) (t t':Tag) (xs ys:List IV) (ht:okEs t 3) (ht':okEs t' 3) (ha:IsTms us xs) (hb:IsTms ws ys) (st:ISt) :
    ICall prog gl 194 [.sl t xs,.sl t' ys,.fn (.func 195) [] []] st (fun r st' => r = .raw (.int .i64 (lenL cmpTms us ws)) ∧ st' = st):=by
  refine ICall.intro (c:=cf prog gl [] []) func194 rfl (by show _ ≤ 37; simp) (by kernel_rfl) ?_
  simp -implicitDefEqProofs -dsimp only [go_sem,↓reduceIte,zE,zB,zA,zM,zS,zL,reduceCtorEq,ha.len,hb.len]
  intro hla hlb
  refine (intCmp_c gl us.length ws.length _).mono ?_
  rintro _ st ⟨rfl,rfl⟩
  unfold lenL
  by_cases h0:cmpN us.length ws.length = 0
  · have hlen:=cmpN_zero.1 h0
    simp -implicitDefEqProofs -dsimp only [go_sem,↓reduceIte,zE,zB,zA,zM,zS,zL,reduceCtorEq,i0 _ h0,ha.len]
    intro _
    refine LoopC.ctr us.length (fun k fr st' ds => cmpTms (us.take k) (ws.take k) = 0 ∧ fr 0 = .iv (.sl t xs) ∧ fr 1 = .iv (.sl t' ys) ∧ fr 2 = .iv (.fn (.func 195) [] []) ∧ fr 19 = .iv (.raw (.int .i64 us.length)) ∧ fr 20 = .iv (.raw (.int .i64 k)) ∧ st' = st ∧ ds = []) ?_ ?_ ?_
    · simp -implicitDefEqProofs -dsimp only [go_sem,↓reduceIte,zE,zB,zA,zM,zS,zL,reduceCtorEq]
      exact ⟨cmpTms0,rfl⟩
    · rintro k fr st1 _ hlt ⟨hn,f0,f1,f2,f19,f20,rfl,rfl⟩
      obtain ⟨a,hka⟩:=get_of_lt hlt
      obtain ⟨b,hkb⟩:=get_of_lt (l:=ws) (k:=k) (by omega)
      obtain ⟨x,hkx,hx⟩:=ha.get hka
      obtain ⟨y,hky,hy⟩:=hb.get hkb
      have hcall:=IH a (List.mem_of_getElem? hka) b x y hx hy st1
      have htl:(us.take k).length = (ws.take k).length:=by rw [List.length_take,List.length_take]; omega
      obtain ⟨x1,x2,x3,x4,rfl⟩:=tmAgg hx
      obtain ⟨y1,y2,y3,y4,rfl⟩:=tmAgg hy
      simp -implicitDefEqProofs -dsimp only [go_sem,↓reduceIte,zE,zB,zA,zM,zS,zL,reduceCtorEq,f0,f1,f2,f19,f20,lt_i hlt,reTag_es ht,reTag_es ht',Int.natCast_nonneg,hkx,hky,fits]
      refine hcall.mono ?_
      rintro _ _ ⟨rfl,rfl⟩
      by_cases hc:cmpTm a b = 0
      · simp -implicitDefEqProofs -dsimp only [go_sem,↓reduceIte,zE,zB,zA,zM,zS,zL,reduceCtorEq,i0 _ hc,f0,f1,f2,f19,f20,w_succ hlt (show us.length ≤ 281474976710656 by omega)]
        rw [take_get hka,take_get hkb,list_app cmpTms0 cmpTms1 _ _ _ _ htl,hn,cmpTms1,cmpTms0,hc]
        simp [lexI]
      · simp -implicitDefEqProofs -dsimp only [go_sem,↓reduceIte,zE,zB,zA,zM,zS,zL,reduceCtorEq,i1 _ hc]
        refine outK_self ⟨?_,rfl⟩
        rw [h0]
        have h2:cmpTms us ws = cmpTm a b:=by
          conv => lhs; rw [← List.take_append_drop k us,← List.take_append_drop k ws]
          rw [List.drop_eq_getElem_cons hlt,List.drop_eq_getElem_cons (show k < ws.length by omega),list_app cmpTms0 cmpTms1 _ _ _ _ htl,hn,cmpTms1,(List.getElem?_eq_some_iff.1 hka).2,(List.getElem?_eq_some_iff.1 hkb).2]
          simp [lexI,hc]
        rw [h2]; simp [lexI]
    · rintro fr st1 _ ⟨hn,f0,f1,f2,f19,f20,rfl,rfl⟩
      rw [List.take_length,show ws.take us.length = ws by rw [hlen,List.take_length]] at hn
      simp -implicitDefEqProofs -dsimp only [go_sem,↓reduceIte,zE,zB,zA,zM,zS,zL,reduceCtorEq,f19,f20,nlt_i (Nat.lt_irrefl _)]
      exact outK_self ⟨by rw [h0,hn]; simp [lexI],rfl⟩
  · simp -implicitDefEqProofs -dsimp only [go_sem,↓reduceIte,zE,zB,zA,zM,zS,zL,reduceCtorEq,i1 _ h0]
    exact outK_self ⟨by simp [lexI,h0],rfl⟩
theorem cmpTerm_step (v:Bool) (n:ByteArray) (us:List Tm) (IH:∀ a ∈ us,CmpT gl a):CmpT gl (.mk v n us):=by
  rintro ⟨w,m,ws⟩ x y hx hy st
  obtain ⟨tx,cx,rfl,htx,hcx⟩:=hx.mk
  obtain ⟨ty,cy,rfl,hty,hcy⟩:=hy.mk
  have hl:=fun st => cmpTms_c gl us IH ws tx ty cx cy htx hty hcx hcy st
  simp only [cmpTm]
  refine ICall.intro (c:=cf prog gl [] []) func195 rfl (by show _ ≤ 26; simp) (by kernel_rfl) ?_
  by_cases hv:v = w
  · subst hv
    simp -implicitDefEqProofs -dsimp only [go_sem,↓reduceIte,zE,zB,zA,zM,zS,zL,reduceCtorEq,beq_self_eq_true]
    refine (Compare_c gl n m _).mono ?_
    rintro _ _ ⟨rfl,rfl⟩
    by_cases h0:cmpB n m = 0
    · simp -implicitDefEqProofs -dsimp only [go_sem,↓reduceIte,zE,zB,zA,zM,zS,zL,reduceCtorEq,i0 _ h0]
      refine (hl _).mono ?_
      rintro _ _ ⟨rfl,rfl⟩
      simp -implicitDefEqProofs -dsimp only [go_sem,↓reduceIte,zE,zB,zA,zM,zS,zL,reduceCtorEq]
      exact outK_self ⟨by simp [lexI,h0,lenL],rfl⟩
    · simp -implicitDefEqProofs -dsimp only [go_sem,↓reduceIte,zE,zB,zA,zM,zS,zL,reduceCtorEq,i1 _ h0]
      exact outK_self ⟨by simp [lexI,h0],rfl⟩
  · cases v <;> cases w <;> first | exact absurd rfl hv | skip
    all_goals
      simp -implicitDefEqProofs -dsimp only [go_sem,↓reduceIte,zE,zB,zA,zM,zS,zL,reduceCtorEq,beq_eq_false_iff_ne.2 hv]
      exact outK_self ⟨by simp,rfl⟩
theorem cmpTerm_all:∀ (k:Nat) (t:Tm),SizeOf.sizeOf t < k → CmpT gl t
  | 0,t,h => by omega
  | k + 1,.mk v n us,h => cmpTerm_step gl v n us (fun a ha => cmpTerm_all k a (by
      have:=List.sizeOf_lt_of_mem ha
      simp at h; omega))
theorem cmpTerm_c (t:Tm):CmpT gl t:=cmpTerm_all gl _ t (Nat.lt_succ_self _)
theorem cmpFms_c (us:List Fm) (IH:∀ a ∈ us,CmpF gl a) (ws:List Fm) (t t':Tag) (xs ys:List IV) (ht:okEs t 4) (ht':okEs t' 4) (ha:IsFms us xs) (hb:IsFms ws ys) (st:ISt) :
    ICall prog gl 196 [.sl t xs,.sl t' ys,.fn (.func 137) [] []] st (fun r st' => r = .raw (.int .i64 (lenL cmpFms us ws)) ∧ st' = st):=by
  refine ICall.intro (c:=cf prog gl [] []) func196 rfl (by show _ ≤ 37; simp) (by kernel_rfl) ?_
  simp -implicitDefEqProofs -dsimp only [go_sem,↓reduceIte,zE,zB,zA,zM,zS,zL,reduceCtorEq,ha.len,hb.len]
  intro hla hlb
  refine (intCmp_c gl us.length ws.length _).mono ?_
  rintro _ st ⟨rfl,rfl⟩
  unfold lenL
  by_cases h0:cmpN us.length ws.length = 0
  · have hlen:=cmpN_zero.1 h0
    simp -implicitDefEqProofs -dsimp only [go_sem,↓reduceIte,zE,zB,zA,zM,zS,zL,reduceCtorEq,i0 _ h0,ha.len]
    intro _
    refine LoopC.ctr us.length (fun k fr st' ds => cmpFms (us.take k) (ws.take k) = 0 ∧ fr 0 = .iv (.sl t xs) ∧ fr 1 = .iv (.sl t' ys) ∧ fr 2 = .iv (.fn (.func 137) [] []) ∧ fr 19 = .iv (.raw (.int .i64 us.length)) ∧ fr 20 = .iv (.raw (.int .i64 k)) ∧ st' = st ∧ ds = []) ?_ ?_ ?_
    · simp -implicitDefEqProofs -dsimp only [go_sem,↓reduceIte,zE,zB,zA,zM,zS,zL,reduceCtorEq]
      exact ⟨cmpFms0,rfl⟩
    · rintro k fr st1 _ hlt ⟨hn,f0,f1,f2,f19,f20,rfl,rfl⟩
      obtain ⟨a,hka⟩:=get_of_lt hlt
      obtain ⟨b,hkb⟩:=get_of_lt (l:=ws) (k:=k) (by omega)
      obtain ⟨x,hkx,hx⟩:=ha.get hka
      obtain ⟨y,hky,hy⟩:=hb.get hkb
      have hcall:=IH a (List.mem_of_getElem? hka) b x y hx hy st1
      have htl:(us.take k).length = (ws.take k).length:=by rw [List.length_take,List.length_take]; omega
      obtain ⟨x1,x2,x3,x4,x5,x6,rfl⟩:=hx.agg
      obtain ⟨y1,y2,y3,y4,y5,y6,rfl⟩:=hy.agg
      simp -implicitDefEqProofs -dsimp only [go_sem,↓reduceIte,zE,zB,zA,zM,zS,zL,reduceCtorEq,f0,f1,f2,f19,f20,lt_i hlt,reTag_es ht,reTag_es ht',Int.natCast_nonneg,hkx,hky,fits]
      refine hcall.mono ?_
      rintro _ _ ⟨rfl,rfl⟩
      by_cases hc:cmpFm a b = 0
      · simp -implicitDefEqProofs -dsimp only [go_sem,↓reduceIte,zE,zB,zA,zM,zS,zL,reduceCtorEq,i0 _ hc,f0,f1,f2,f19,f20,w_succ hlt (show us.length ≤ 281474976710656 by omega)]
        rw [take_get hka,take_get hkb,list_app cmpFms0 cmpFms1 _ _ _ _ htl,hn,cmpFms1,cmpFms0,hc]
        simp [lexI]
      · simp -implicitDefEqProofs -dsimp only [go_sem,↓reduceIte,zE,zB,zA,zM,zS,zL,reduceCtorEq,i1 _ hc]
        refine outK_self ⟨?_,rfl⟩
        rw [h0]
        have h2:cmpFms us ws = cmpFm a b:=by
          conv => lhs; rw [← List.take_append_drop k us,← List.take_append_drop k ws]
          rw [List.drop_eq_getElem_cons hlt,List.drop_eq_getElem_cons (show k < ws.length by omega),list_app cmpFms0 cmpFms1 _ _ _ _ htl,hn,cmpFms1,(List.getElem?_eq_some_iff.1 hka).2,(List.getElem?_eq_some_iff.1 hkb).2]
          simp [lexI,hc]
        rw [h2]; simp [lexI]
    · rintro fr st1 _ ⟨hn,f0,f1,f2,f19,f20,rfl,rfl⟩
      rw [List.take_length,show ws.take us.length = ws by rw [hlen,List.take_length]] at hn
      simp -implicitDefEqProofs -dsimp only [go_sem,↓reduceIte,zE,zB,zA,zM,zS,zL,reduceCtorEq,f19,f20,nlt_i (Nat.lt_irrefl _)]
      exact outK_self ⟨by rw [h0,hn]; simp [lexI],rfl⟩
  · simp -implicitDefEqProofs -dsimp only [go_sem,↓reduceIte,zE,zB,zA,zM,zS,zL,reduceCtorEq,i1 _ h0]
    exact outK_self ⟨by simp [lexI,h0],rfl⟩
theorem cmpForm_step (o:Nat) (n:ByteArray) (us:List Tm) (sub:List Fm) (IH:∀ a ∈ sub,CmpF gl a):CmpF gl (.mk o n us sub):=by
  rintro ⟨w,m,ws,sub'⟩ x y hx hy st
  obtain ⟨t1,x1,t2,x2,rfl,_,e1,i1',e2,i2⟩:=hx.mk
  obtain ⟨t3,x3,t4,x4,rfl,_,e3,i3,e4,i4⟩:=hy.mk
  have hl1:=fun st => cmpTms_c gl us (fun a _ => cmpTerm_c gl a) ws t1 t3 x1 x3 e1 e3 i1' i3 st
  have hl2:=fun st => cmpFms_c gl sub IH sub' t2 t4 x2 x4 e2 e4 i2 i4 st
  simp only [cmpFm]
  refine ICall.intro (c:=cf prog gl [] []) func137 rfl (by show _ ≤ 37; simp) (by kernel_rfl) ?_
  simp -implicitDefEqProofs -dsimp only [go_sem,↓reduceIte,zE,zB,zA,zM,zS,zL,reduceCtorEq]
  refine (uint8Cmp_c gl o w _).mono ?_
  rintro _ _ ⟨rfl,rfl⟩
  by_cases h0:cmpN o w = 0
  · simp -implicitDefEqProofs -dsimp only [go_sem,↓reduceIte,zE,zB,zA,zM,zS,zL,reduceCtorEq,i0 _ h0]
    refine (Compare_c gl n m _).mono ?_
    rintro _ _ ⟨rfl,rfl⟩
    by_cases h1:cmpB n m = 0
    · simp -implicitDefEqProofs -dsimp only [go_sem,↓reduceIte,zE,zB,zA,zM,zS,zL,reduceCtorEq,i0 _ h1]
      refine (hl1 _).mono ?_
      rintro _ _ ⟨rfl,rfl⟩
      by_cases h2:lenL cmpTms us ws = 0
      · simp -implicitDefEqProofs -dsimp only [go_sem,↓reduceIte,zE,zB,zA,zM,zS,zL,reduceCtorEq,i0 _ h2]
        refine (hl2 _).mono ?_
        rintro _ _ ⟨rfl,rfl⟩
        simp -implicitDefEqProofs -dsimp only [go_sem,↓reduceIte,zE,zB,zA,zM,zS,zL,reduceCtorEq]
        refine outK_self ⟨?_,rfl⟩
        unfold lenL at h2 ⊢
        rw [h0,h1,h2]; simp [lexI]
      · simp -implicitDefEqProofs -dsimp only [go_sem,↓reduceIte,zE,zB,zA,zM,zS,zL,reduceCtorEq,i1 _ h2]
        refine outK_self ⟨?_,rfl⟩
        unfold lenL at h2 ⊢
        rw [h0,h1]
        generalize lexI (cmpN us.length ws.length) (cmpTms us ws) = q at h2 ⊢
        simp [lexI,h2]
    · simp -implicitDefEqProofs -dsimp only [go_sem,↓reduceIte,zE,zB,zA,zM,zS,zL,reduceCtorEq,i1 _ h1]
      exact outK_self ⟨by rw [h0]; simp [lexI,h1],rfl⟩
  · simp -implicitDefEqProofs -dsimp only [go_sem,↓reduceIte,zE,zB,zA,zM,zS,zL,reduceCtorEq,i1 _ h0]
    exact outK_self ⟨by simp [lexI,h0],rfl⟩
theorem cmpForm_all:∀ (k:Nat) (t:Fm),SizeOf.sizeOf t < k → CmpF gl t
  | 0,t,h => by omega
  | k + 1,.mk o n us sub,h => cmpForm_step gl o n us sub (fun a ha => cmpForm_all k a (by
      have:=List.sizeOf_lt_of_mem ha
      simp at h; omega))
theorem cmpForm_c (t:Fm):CmpF gl t:=cmpForm_all gl _ t (Nat.lt_succ_self _)
theorem sSame_c (a b:Fm) (x y:IV) (hx:IsFm a x) (hy:IsFm b y) (st:ISt):ICall prog gl 139 [x,y] st (fun r st' => r = .raw (.bool (decide (cmpFm a b = 0))) ∧ st' = st):=by
  have hc:=fun st => cmpForm_c gl a b x y hx hy st
  obtain ⟨x1,x2,x3,x4,x5,x6,rfl⟩:=hx.agg
  obtain ⟨y1,y2,y3,y4,y5,y6,rfl⟩:=hy.agg
  refine ICall.intro (c:=cf prog gl [] []) func139 rfl (by show _ ≤ 9; simp) (by kernel_rfl) ?_
  simp -implicitDefEqProofs -dsimp only [go_sem,↓reduceIte,zE,zB,zA,zM,zS,zL,reduceCtorEq,fits]
  refine (hc _).mono ?_
  rintro _ _ ⟨rfl,rfl⟩
  simp -implicitDefEqProofs -dsimp only [go_sem,↓reduceIte,zE,zB,zA,zM,zS,zL,reduceCtorEq]
  exact outK_self ⟨rfl,rfl⟩
end Go.Proofs.Tryz

namespace Go.Proofs.Tryz
open Go Go.Iv
set_option maxRecDepth 4000
variable (gl:Nat → Option IV)

def sCT (us:List Tm):Prop:=∀ (tg:Tag) (xs:List IV) (_:okEs tg 3) (_:IsTms us xs) (_:sizeTms us ≤ 1099511627776) (st:ISt),
  ICall prog gl 201 [.sl tg xs,.fn (.func 202) [] []] st (fun r st' => ∃ tg' ys,r = .sl tg' ys ∧ okEs tg' 3 ∧ appT tg' ∧ IsTmsD us ys ∧ st' = st)
theorem sCopyTerm_step (v:Bool) (n:ByteArray) (us:List Tm) (IH:sCT gl us) (x:IV) (hx:IsTm (.mk v n us) x) (hs:(Tm.mk v n us).size ≤ 1099511627776) (st:ISt) :
    ICall prog gl 202 [x] st (fun r st' => IsTmD (.mk v n us) r ∧ st' = st):=by
  obtain ⟨tx,cx,rfl,htx,hcx⟩:=hx.mk
  simp only [Tm.size] at hs
  have hcall:=IH tx cx htx hcx (by omega) st
  refine ICall.intro (c:=cf prog gl [] []) func202 rfl (by show _ ≤ 11; simp) (by kernel_rfl) ?_
  simp -implicitDefEqProofs -dsimp only [go_sem,↓reduceIte,zE,zB,zA,zM,zS,zL,reduceCtorEq,fits]
  refine hcall.mono ?_
  rintro _ _ ⟨tg',ys,rfl,he,ha,hys,rfl⟩
  simp -implicitDefEqProofs -dsimp only [go_sem,↓reduceIte,zE,zB,zA,zM,zS,zL,reduceCtorEq,fits]
  exact outK_self ⟨IsTmD.intro he ha hys,rfl⟩
theorem sCopyTerms_step (us:List Tm) (IH:∀ v n l,Tm.mk v n l ∈ us → sCT gl l):sCT gl us:=by
  intro tg xs htg hxs hsz st
  have hlsz:=len_le_size us
  refine ICall.intro (c:=cf prog gl [] []) func201 rfl (by show _ ≤ 28; simp) (by kernel_rfl) ?_
  simp -implicitDefEqProofs -dsimp only [go_sem,↓reduceIte,zE,zB,zA,zM,zS,zL,reduceCtorEq,hxs.len]
  intro _
  refine condV_intro (fun h => ?_) (fun h => ?_)
  · obtain rfl:us = []:=List.eq_nil_of_length_eq_zero (by simpa using h)
    simp -implicitDefEqProofs -dsimp only [go_sem,↓reduceIte,zE,zB,zA,zM,zS,zL,reduceCtorEq]
    exact outK_self ⟨_,_,rfl,.inl rfl,.inl rfl,IsTmsD.nil,rfl⟩
  simp -implicitDefEqProofs -dsimp only [go_sem,↓reduceIte,zE,zB,zA,zM,zS,zL,reduceCtorEq,hxs.len]
  intro _
  refine chk_intro ⟨Int.natCast_nonneg _,by omega,by omega⟩ fun g => giv_intro fun hg => ?_
  intro _
  refine LoopC.ctr us.length (fun k fr st' ds => (∃ tg' ys,fr 5 = .iv (.sl tg' ys) ∧ IsTmsD (us.take k) ys ∧ appT tg' ∧ own st' tg' k 3 st ∧ subSt st st') ∧ fr 1 = .iv (.fn (.func 202) [] []) ∧
    fr 14 = .iv (.sl tg xs) ∧ fr 15 = .iv (.raw (.int .i64 us.length)) ∧ fr 16 = .iv (.raw (.int .i64 k)) ∧ ds = []) ?_ ?_ ?_
  · simp -implicitDefEqProofs -dsimp only [go_sem,↓reduceIte,zE,zB,zA,zM,zS,zL,reduceCtorEq]
    exact ⟨⟨_,_,rfl,IsTmsD.nil,.inr ⟨rfl,g,rfl⟩,.inr (.inr ⟨g,rfl,ISt.put_same _ _ _,hg⟩),subSt_put2 (subSt.refl _) hg⟩,rfl⟩
  · rintro k fr st1 _ hlt ⟨⟨tg',ys,f5,hys,hap,hown,hsub⟩,f1,f14,f15,f16,rfl⟩
    obtain ⟨a,ha⟩:=get_of_lt hlt
    obtain ⟨x,hkx,hx⟩:=hxs.get ha
    obtain ⟨h1,h2⟩:=sizeTms_take ha
    have hlen2:ys.length = k:=by rw [hys.len,List.length_take]; omega
    obtain ⟨v2,n2,m⟩:=a
    have hcall:=sCopyTerm_step gl v2 n2 m (IH _ _ _ (List.mem_of_getElem? ha)) x hx (by omega) st1
    obtain ⟨tx,cx,rfl,htx,hcx⟩:=hx.mk
    simp -implicitDefEqProofs -dsimp only [go_sem,↓reduceIte,zE,zB,zA,zM,zS,zL,reduceCtorEq,f1,f5,f14,f15,f16,lt_i hlt,reTag_es htg,Int.natCast_nonneg,hkx,fits]
    refine hcall.mono ?_
    rintro r _ ⟨hr,rfl⟩
    have hn:IsTmsD (us.take (k + 1)) (ys ++ [r]):=by
      rw [take_get ha]; exact hys.append (IsTmsD.one hr)
    obtain ⟨t3,x3,rfl,_⟩:=IsTmD.mk hr
    simp -implicitDefEqProofs -dsimp only [go_sem,↓reduceIte,zE,zB,zA,zM,zS,zL,reduceCtorEq,f1,f5,f14,f15,f16,fits,inOrder_one]
    refine appV_ownD hown hlen2 hsub rfl (by simp [fits,IV.one]) (by simp only; omega) (by omega) fun tg2 st4 hown2 hsub4 _ hap2 => ?_
    simp -implicitDefEqProofs -dsimp only [go_sem,↓reduceIte,zE,zB,zA,zM,zS,zL,reduceCtorEq,f1,f5,f14,f15,f16,fits,w_succ hlt (show us.length ≤ 281474976710656 by omega)]
    exact ⟨tg2,_,rfl,hn,hap2,hown2,hsub4⟩
  · rintro fr st1 _ ⟨⟨tg',ys,f5,hys,hap,hown,hsub⟩,f1,f14,f15,f16,rfl⟩
    rw [List.take_length] at hys
    simp -implicitDefEqProofs -dsimp only [go_sem,↓reduceIte,zE,zB,zA,zM,zS,zL,reduceCtorEq,f5,f15,f16,nlt_i (Nat.lt_irrefl _),fits]
    exact outK_sub (st':=st) hsub ⟨tg',ys,rfl,hown.es,hap,hys,rfl⟩
theorem sCopyTerms_all:∀ (k:Nat) (us:List Tm),SizeOf.sizeOf us < k → sCT gl us
  | 0,f,h => by omega
  | k + 1,us,h => sCopyTerms_step gl us (fun v n l ha => sCopyTerms_all k l (by
      have:=List.sizeOf_lt_of_mem ha
      simp at this; omega))
theorem sCopyTerms_c (us:List Tm):sCT gl us:=sCopyTerms_all gl _ us (Nat.lt_succ_self _)

def sCF (f:Fm):Prop:=∀ (x:IV) (_:IsFm f x) (_:f.size ≤ 1099511627776) (st:ISt),ICall prog gl 145 [x] st (fun r st' => IsFmD f r ∧ st' = st)
theorem sCopyForms_step (us:List Fm) (IH:∀ a ∈ us,sCF gl a) (tg:Tag) (xs:List IV) (htg:okEs tg 4) (hxs:IsFms us xs) (hsz:sizeFms us ≤ 1099511627776) (st:ISt) :
    ICall prog gl 203 [.sl tg xs,.fn (.func 145) [] []] st (fun r st' => ∃ tg' ys,r = .sl tg' ys ∧ okEs tg' 4 ∧ appT tg' ∧ IsFmsD us ys ∧ st' = st):=by
  have hlsz:=flen_le_size us
  refine ICall.intro (c:=cf prog gl [] []) func203 rfl (by show _ ≤ 28; simp) (by kernel_rfl) ?_
  simp -implicitDefEqProofs -dsimp only [go_sem,↓reduceIte,zE,zB,zA,zM,zS,zL,reduceCtorEq,hxs.len]
  intro _
  refine condV_intro (fun h => ?_) (fun h => ?_)
  · obtain rfl:us = []:=List.eq_nil_of_length_eq_zero (by simpa using h)
    simp -implicitDefEqProofs -dsimp only [go_sem,↓reduceIte,zE,zB,zA,zM,zS,zL,reduceCtorEq]
    exact outK_self ⟨_,_,rfl,.inl rfl,.inl rfl,IsFmsD.nil,rfl⟩
  simp -implicitDefEqProofs -dsimp only [go_sem,↓reduceIte,zE,zB,zA,zM,zS,zL,reduceCtorEq,hxs.len]
  intro _
  refine chk_intro ⟨Int.natCast_nonneg _,by omega,by omega⟩ fun g => giv_intro fun hg => ?_
  intro _
  refine LoopC.ctr us.length (fun k fr st' ds => (∃ tg' ys,fr 5 = .iv (.sl tg' ys) ∧ IsFmsD (us.take k) ys ∧ appT tg' ∧ own st' tg' k 4 st ∧ subSt st st') ∧ fr 1 = .iv (.fn (.func 145) [] []) ∧
    fr 14 = .iv (.sl tg xs) ∧ fr 15 = .iv (.raw (.int .i64 us.length)) ∧ fr 16 = .iv (.raw (.int .i64 k)) ∧ ds = []) ?_ ?_ ?_
  · simp -implicitDefEqProofs -dsimp only [go_sem,↓reduceIte,zE,zB,zA,zM,zS,zL,reduceCtorEq]
    exact ⟨⟨_,_,rfl,IsFmsD.nil,.inr ⟨rfl,g,rfl⟩,.inr (.inr ⟨g,rfl,ISt.put_same _ _ _,hg⟩),subSt_put2 (subSt.refl _) hg⟩,rfl⟩
  · rintro k fr st1 _ hlt ⟨⟨tg',ys,f5,hys,hap,hown,hsub⟩,f1,f14,f15,f16,rfl⟩
    obtain ⟨a,ha⟩:=get_of_lt hlt
    obtain ⟨x,hkx,hx⟩:=hxs.get ha
    obtain ⟨h1,h2⟩:=sizeFms_take ha
    have hlen2:ys.length = k:=by rw [hys.len,List.length_take]; omega
    have hcall:=IH a (List.mem_of_getElem? ha) x hx (by omega) st1
    obtain ⟨o5,n5,t5,x5,t6,x6,rfl⟩:=hx.agg
    simp -implicitDefEqProofs -dsimp only [go_sem,↓reduceIte,zE,zB,zA,zM,zS,zL,reduceCtorEq,f1,f5,f14,f15,f16,lt_i hlt,reTag_es htg,Int.natCast_nonneg,hkx,fits]
    refine hcall.mono ?_
    rintro r _ ⟨hr,rfl⟩
    have hn:IsFmsD (us.take (k + 1)) (ys ++ [r]):=by
      rw [take_get ha]; exact hys.append (IsFmsD.one hr)
    obtain ⟨o7,n7,t7,x7,t8,x8,rfl⟩:=IsFmD.aggs hr
    simp -implicitDefEqProofs -dsimp only [go_sem,↓reduceIte,zE,zB,zA,zM,zS,zL,reduceCtorEq,f1,f5,f14,f15,f16,fits,inOrder_one]
    refine appV_ownD hown hlen2 hsub rfl (by simp [fits,IV.one]) (by simp only; omega) (by omega) fun tg2 st4 hown2 hsub4 _ hap2 => ?_
    simp -implicitDefEqProofs -dsimp only [go_sem,↓reduceIte,zE,zB,zA,zM,zS,zL,reduceCtorEq,f1,f5,f14,f15,f16,fits,w_succ hlt (show us.length ≤ 281474976710656 by omega)]
    exact ⟨tg2,_,rfl,hn,hap2,hown2,hsub4⟩
  · rintro fr st1 _ ⟨⟨tg',ys,f5,hys,hap,hown,hsub⟩,f1,f14,f15,f16,rfl⟩
    rw [List.take_length] at hys
    simp -implicitDefEqProofs -dsimp only [go_sem,↓reduceIte,zE,zB,zA,zM,zS,zL,reduceCtorEq,f5,f15,f16,nlt_i (Nat.lt_irrefl _),fits]
    exact outK_sub (st':=st) hsub ⟨tg',ys,rfl,hown.es,hap,hys,rfl⟩
theorem sCopy_step (o:Nat) (n:ByteArray) (us:List Tm) (sub:List Fm) (IH:∀ a ∈ sub,sCF gl a):sCF gl (.mk o n us sub):=by
  intro x hx hs st
  obtain ⟨t1,x1,t2,x2,rfl,ho,ht1,hx1,ht2,hx2⟩:=hx.mk
  simp only [Fm.size] at hs
  have hc1:=sCopyTerms_c gl us t1 x1 ht1 hx1 (by omega) st
  have hc2:=sCopyForms_step gl sub IH t2 x2 ht2 hx2 (by omega) st
  refine ICall.intro (c:=cf prog gl [] [(1,[0,1,2,3,4,5,7,8,6,9,10,11])]) func145 rfl (by show _ ≤ 14; simp) (by kernel_rfl) ?_
  simp -implicitDefEqProofs -dsimp only [go_sem,↓reduceIte,zE,zB,zA,zM,zS,zL,reduceCtorEq,fits]
  refine hc1.mono ?_
  rintro _ _ ⟨tg',ys,rfl,he,ha,hys,rfl⟩
  simp -implicitDefEqProofs -dsimp only [go_sem,↓reduceIte,zE,zB,zA,zM,zS,zL,reduceCtorEq,fits]
  refine hc2.mono ?_
  rintro _ _ ⟨tg2,ys2,rfl,he2,ha2,hys2,rfl⟩
  simp -implicitDefEqProofs -dsimp only [go_sem,↓reduceIte,zE,zB,zA,zM,zS,zL,reduceCtorEq,fits]
  exact outK_self ⟨IsFmD.intro ho he ha hys he2 ha2 hys2,rfl⟩
theorem sCopy_all:∀ (k:Nat) (f:Fm),SizeOf.sizeOf f < k → sCF gl f
  | 0,f,h => by omega
  | k + 1,.mk o n us sub,h => sCopy_step gl o n us sub (fun a ha => sCopy_all k a (by
      have:=List.sizeOf_lt_of_mem ha
      simp only [Fm.mk.sizeOf_spec] at h
      omega))
theorem sCopy_c (f:Fm):sCF gl f:=sCopy_all gl _ f (Nat.lt_succ_self _)

theorem forms_c (us:List Fm) (tg:Tag) (xs:List IV) (htg:okEs tg 4) (hxs:IsFms us xs) (hsz:sizeFms us ≤ 1099511627776) (st:ISt) :
    ICall prog gl 97 [.sl tg xs] st (fun r st' => ∃ tg' ys,r = .sl tg' ys ∧ okEs tg' 4 ∧ (appT tg' ∧ tg'.fresh = true) ∧ IsFmsD us ys ∧ own st' tg' us.length 4 st ∧ subSt st st'):=by
  have hlsz:=flen_le_size us
  refine ICall.intro (c:=cf prog gl [] []) func97 rfl (by show _ ≤ 19; simp) (by kernel_rfl) ?_
  simp -implicitDefEqProofs -dsimp only [go_sem,↓reduceIte,zE,zB,zA,zM,zS,zL,reduceCtorEq,hxs.len]
  intro _
  refine LoopC.ctr us.length (fun k fr st' ds => (∃ tg' ys,fr 3 = .iv (.sl tg' ys) ∧ IsFmsD (us.take k) ys ∧ (appT tg' ∧ tg'.fresh = true) ∧ own st' tg' k 4 st ∧ subSt st st') ∧
    fr 6 = .iv (.sl tg xs) ∧ fr 7 = .iv (.raw (.int .i64 us.length)) ∧ fr 8 = .iv (.raw (.int .i64 k)) ∧ ds = []) ?_ ?_ ?_
  · simp -implicitDefEqProofs -dsimp only [go_sem,↓reduceIte,zE,zB,zA,zM,zS,zL,reduceCtorEq]
    exact ⟨⟨_,_,rfl,IsFmsD.nil,⟨.inl rfl,rfl⟩,own.nil _ _ _ _ _,subSt.refl _⟩,rfl⟩
  · rintro k fr st1 _ hlt ⟨⟨tg',ys,f3,hys,hap,hown,hsub⟩,f6,f7,f8,rfl⟩
    obtain ⟨a,ha⟩:=get_of_lt hlt
    obtain ⟨x,hkx,hx⟩:=hxs.get ha
    obtain ⟨h1,h2⟩:=sizeFms_take ha
    have hlen2:ys.length = k:=by rw [hys.len,List.length_take]; omega
    have hcall:=sCopy_c gl a x hx (by omega) st1
    obtain ⟨o5,n5,t5,x5,t6,x6,rfl⟩:=hx.agg
    simp -implicitDefEqProofs -dsimp only [go_sem,↓reduceIte,zE,zB,zA,zM,zS,zL,reduceCtorEq,f3,f6,f7,f8,lt_i hlt,reTag_es htg,Int.natCast_nonneg,hkx,fits]
    refine hcall.mono ?_
    rintro r _ ⟨hr,rfl⟩
    have hn:IsFmsD (us.take (k + 1)) (ys ++ [r]):=by
      rw [take_get ha]; exact hys.append (IsFmsD.one hr)
    obtain ⟨o7,n7,t7,x7,t8,x8,rfl⟩:=IsFmD.aggs hr
    simp -implicitDefEqProofs -dsimp only [go_sem,↓reduceIte,zE,zB,zA,zM,zS,zL,reduceCtorEq,f3,f6,f7,f8,fits,inOrder_one]
    refine appV_ownD hown hlen2 hsub rfl (by simp [fits,IV.one]) (by simp only; omega) (by omega) fun tg2 st4 hown2 hsub4 _ hap2 => ?_
    simp -implicitDefEqProofs -dsimp only [go_sem,↓reduceIte,zE,zB,zA,zM,zS,zL,reduceCtorEq,f3,f6,f7,f8,fits,w_succ hlt (show us.length ≤ 281474976710656 by omega)]
    exact ⟨tg2,_,rfl,hn,⟨hap2,by
      rcases hown2 with ⟨h0,_⟩ | rfl | ⟨_,rfl,_⟩
      · omega
      · rfl
      · rfl⟩,hown2,hsub4⟩
  · rintro fr st1 _ ⟨⟨tg',ys,f3,hys,hap,hown,hsub⟩,f6,f7,f8,rfl⟩
    rw [List.take_length] at hys
    simp -implicitDefEqProofs -dsimp only [go_sem,↓reduceIte,zE,zB,zA,zM,zS,zL,reduceCtorEq,f3,f6,f7,f8,nlt_i (Nat.lt_irrefl _),fits]
    exact outK_self ⟨tg',ys,rfl,hown.es,hap,hys,hown,hsub⟩
end Go.Proofs.Tryz

namespace Go.Proofs.Tryz
open Go Go.Iv

mutual
def opsB (ca:Nat):Fm → Bool
  | .mk op _ us sub => decide (1 ≤ op) && decide (op ≤ if ca = 3 then 9 else 7) && (decide (ca = 3) || us.isEmpty) && opsBs ca sub
def opsBs (ca:Nat):List Fm → Bool
  | [] => true
  | a :: l => opsB ca a && opsBs ca l
end
def fmB (ca:Nat) (f:Fm):Bool:=f.right && opsB ca f
def knownB (ca:Nat):Bool:=decide (1 ≤ ca) && decide (ca ≤ 3)
noncomputable def eqF (a b:Fm):Bool:=decide (a.op = b.op) && alphaB a b
noncomputable def hasF (l:List Fm) (f:Fm):Bool:=l.any (eqF f)
noncomputable def allF (l m:List Fm):Bool:=l.all (hasF m)
noncomputable def withinB (a b:Sq):Bool:=allF a.l b.l && allF a.r b.r
noncomputable def firstsB:List Fm → Bool
  | [] => true
  | a :: l => (a :: l).all fun f => eqF f a
noncomputable def validB (ca:Nat) (s:Sq):Bool :=
  knownB ca && decide (s.l.length ≤ 64) && decide (s.r.length ≤ 64) && s.l.all (fmB ca) && s.r.all (fmB ca) && (decide (ca ≠ 2) || firstsB s.r)

structure Rw where
  left:Bool
  right:Bool
  op:Nat
  asks:Nat
def rowK (rule:Nat):Option Rw :=
  if rule = 1 then some ⟨true,true,0,0⟩ else if rule = 2 then some ⟨true,false,2,0⟩ else if rule = 3 then some ⟨true,false,3,0⟩ else if rule = 4 then some ⟨false,true,3,0⟩
  else if rule = 5 then some ⟨true,false,4,0⟩ else if rule = 6 then some ⟨false,true,4,0⟩ else if rule = 7 then some ⟨true,false,5,0⟩ else if rule = 8 then some ⟨false,true,5,0⟩
  else if rule = 9 then some ⟨true,false,6,0⟩ else if rule = 10 then some ⟨false,true,6,0⟩ else if rule = 11 then some ⟨true,false,7,0⟩ else if rule = 12 then some ⟨false,true,7,0⟩
  else if rule = 17 then some ⟨false,false,0,0⟩ else none
def rowS (ca rule:Nat):Option Rw :=
  if ca = 2 ∧ rule = 18 then some ⟨false,true,5,0⟩
  else if ca = 3 ∧ rule = 13 then some ⟨true,false,8,1⟩ else if ca = 3 ∧ rule = 14 then some ⟨false,true,8,2⟩
  else if ca = 3 ∧ rule = 15 then some ⟨true,false,9,2⟩ else if ca = 3 ∧ rule = 16 then some ⟨false,true,9,1⟩ else rowK rule
def bE:ByteArray:=⟨#[]⟩
def impF (a b:Fm):Fm:=.mk 6 bE [] [a,b]
def addS (ca rule:Nat) (main a b:Fm):List Sq :=
  if rule = 3 then [⟨[],[a]⟩] else if rule = 4 then [⟨[a],[]⟩] else if rule = 5 then [⟨[a,b],[]⟩] else if rule = 6 then [⟨[],[a]⟩,⟨[],[b]⟩]
  else if rule = 7 then [⟨[a],[]⟩,⟨[b],[]⟩] else if rule = 8 then (if ca = 2 then [⟨[],[a]⟩] else [⟨[],[a,b]⟩]) else if rule = 9 then [⟨[],[a]⟩,⟨[b],[]⟩]
  else if rule = 10 then [⟨[a],[b]⟩] else if rule = 11 then [⟨[impF a b,impF b a],[]⟩] else if rule = 12 then [⟨[a],[b]⟩,⟨[b],[a]⟩]
  else if rule = 13 then [⟨[a],[]⟩] else if rule = 14 then [⟨[],[a]⟩] else if rule = 15 then [⟨[a],[]⟩] else if rule = 16 then [⟨[],[a]⟩]
  else if rule = 17 then [⟨[],[main]⟩,⟨[main],[]⟩] else if rule = 18 then [⟨[],[b]⟩] else []
noncomputable def addsS (ca rule:Nat) (r:Rw) (main:Fm) (term:Tm) (name:ByteArray):List Sq × Nat :=
  if !fmB ca main || (decide (r.op ≠ 0) && decide (main.op ≠ r.op)) then ([],192)
  else
    let a:=(main.subs[0]?).getD fm0
    let b:=(main.subs[1]?).getD fm0
    if r.asks = 0 then (addS ca rule main a b,0)
    else
      let t:=if r.asks = 2 then .mk true name [] else term
      if !t.ok then ([],193)
      else if (PutsS a [(main.nm,t)]).2 ≠ 0 then ([],193) else (addS ca rule main (PutsS a [(main.nm,t)]).1 b,0)
noncomputable def freeIn (s:Sq) (n:ByteArray):Bool:=s.l.any (fun f => memB (frF f) n) || s.r.any (fun f => memB (frF f) n)
noncomputable def stepS (ca:Nat) (s:Sq) (rule:Nat) (main:Fm) (term:Tm) (name:ByteArray):List Sq × Nat :=
  if !validB ca s then ([],190)
  else match rowS ca rule with
    | none => ([],191)
    | some r =>
      if decide ((addsS ca rule r main term name).2 = 192) || (r.left && !hasF s.l main) || (r.right && !hasF s.r main) then ([],192)
      else if (addsS ca rule r main term name).2 ≠ 0 then ([],(addsS ca rule r main term name).2)
      else if decide (r.asks = 2) && freeIn s name then ([],193)
      else ((addsS ca rule r main term name).1,0)
noncomputable def premsB (s:Sq):List Sq → List Tr → Bool
  | m :: l,t :: ts => withinB t.sq (s.plus m) && premsB s l ts
  | _,_ => true
noncomputable def checkS (ca:Nat):Tr → Nat
  | .mk rule s main term name sub =>
    if (stepS ca s rule main term name).2 ≠ 0 then (stepS ca s rule main term name).2
    else if sub.length ≠ (stepS ca s rule main term name).1.length then 194
    else if premsB s (stepS ca s rule main term name).1 sub then 0 else 195
noncomputable def CheckS (ca:Nat) (t:Tr):List Nat × Nat :=
  if !knownB ca then ([],2) else if 300 < t.steps then ([],5) else firstBad (checkS ca) (t.walk [])

mutual
theorem walk_pre (p q:List Nat):∀ t:Tr,t.walk (p ++ q) = (t.walk q).map fun x => (p ++ x.1,x.2)
  | .mk _ _ _ _ _ sub => by simp only [Tr.walk,List.map_cons,walkTrs_pre p q 0 sub]
theorem walkTrs_pre (p q:List Nat):∀ (i:Nat) (l:List Tr),walkTrs (p ++ q) i l = (walkTrs q i l).map fun x => (p ++ x.1,x.2)
  | _,[] => rfl
  | i,a :: l => by
    simp only [walkTrs,List.map_append,walkTrs_pre p q (i + 1) l]
    rw [List.append_assoc,walk_pre p (q ++ [i]) a]
end
theorem firstBad_map (e:Tr → Nat) (p:List Nat):∀ l,firstBad e (l.map fun x => (p ++ x.1,x.2)) = if (firstBad e l).2 = 0 then ([],0) else (p ++ (firstBad e l).1,(firstBad e l).2)
  | [] => by simp [firstBad]
  | (q,t) :: l => by
    have ih:=firstBad_map e p l
    by_cases h:e t = 0
    · simp only [List.map_cons,firstBad,h,if_true,ih]
    · simp [firstBad,h]
def firstSub (e:Tr → Nat):Nat → List Tr → List Nat × Nat
  | _,[] => ([],0)
  | i,a :: l => if (firstBad e (a.walk [])).2 = 0 then firstSub e (i + 1) l else (i :: (firstBad e (a.walk [])).1,(firstBad e (a.walk [])).2)
theorem firstBad_walks (e:Tr → Nat):∀ (i:Nat) (l:List Tr),firstBad e (walkTrs [] i l) = firstSub e i l
  | _,[] => rfl
  | i,a :: l => by
    have h1:=walk_pre [i] [] a
    rw [List.append_nil] at h1
    simp only [walkTrs,List.nil_append,firstSub]
    rw [h1,firstBad_append,firstBad_map,firstBad_walks e (i + 1) l]
    by_cases h:(firstBad e (a.walk [])).2 = 0
    · simp [h]
    · simp [h]
theorem firstBad_tree (e:Tr → Nat) (rule:Nat) (s:Sq) (f:Fm) (u:Tm) (n:ByteArray) (sub:List Tr) :
    firstBad e ((Tr.mk rule s f u n sub).walk []) = if e (.mk rule s f u n sub) = 0 then firstSub e 0 sub else ([],e (.mk rule s f u n sub)):=by
  simp only [Tr.walk,firstBad,firstBad_walks]
end Go.Proofs.Tryz

namespace Go.Iv
open Go
theorem ICall.give {P:Program} {gl:Nat → Option IV} {f:FuncId} {args:List IV} {st:ISt} {K:IV → ISt → Prop} (h:ICall P gl f args st (fun r st' => ∃ st0,subSt st0 st' ∧ K r st0)):ICall P gl f args st K:=by
  intro B X rs hg hst hv
  refine (h B X rs hg hst hv).mono ?_
  rintro e w' ⟨v,rfl,X',x,rfl,h2,h3,h4,st0,hs,hK⟩
  obtain ⟨hg1,he1⟩:=h2.sub hs
  exact ⟨v,rfl,{ X' with st:=st0 },x,rfl,hg1,h3.trans he1,he1.v h4,hK⟩
end Go.Iv
namespace Go.Proofs.Tryz
open Go Go.Iv
set_option maxRecDepth 4000
variable (gl:Nat → Option IV)

theorem forms0_c (us:List Fm) (tg:Tag) (xs:List IV) (htg:okEs tg 4) (hxs:IsFms us xs) (hsz:sizeFms us ≤ 1099511627776) (st:ISt) :
    ICall prog gl 97 [.sl tg xs] st (fun r st' => ∃ tg' ys,r = .sl tg' ys ∧ okEs tg' 4 ∧ IsFms us ys ∧ st' = st) :=
  ICall.give ((forms_c gl us tg xs htg hxs hsz st).mono fun r st' h => by
    obtain ⟨tg',ys,rfl,he,_,hys,_,hsub⟩:=h
    exact ⟨st,hsub,tg',ys,rfl,he,hys.1,rfl⟩)
theorem IsSq.two {s:Sq} {x:IV} (h:IsSq s x):∃ t xs t' ys,x = .agg [.sl t xs,.sl t' ys]:=by
  obtain ⟨t,xs,t',ys,rfl,_⟩:=h
  exact ⟨_,_,_,_,rfl⟩
theorem left_c (us:List Fm) (tg:Tag) (xs:List IV) (htg:okEs tg 4) (hxs:IsFms us xs) (hsz:sizeFms us ≤ 1099511627776) (st:ISt) :
    ICall prog gl 151 [.sl tg xs] st (fun r st' => IsSq ⟨us,[]⟩ r ∧ st' = st):=by
  refine ICall.intro (c:=cf prog gl [] []) func151 rfl (by show _ ≤ 6; simp) (by kernel_rfl) ?_
  simp -implicitDefEqProofs -dsimp only [go_sem,↓reduceIte,zE,zB,zA,zM,zS,zL,reduceCtorEq]
  refine (forms0_c gl us tg xs htg hxs hsz _).mono ?_
  rintro _ _ ⟨tg',ys,rfl,he,hys,rfl⟩
  simp -implicitDefEqProofs -dsimp only [go_sem,↓reduceIte,zE,zB,zA,zM,zS,zL,reduceCtorEq,fits]
  exact outK_self ⟨⟨_,_,_,_,rfl,he,hys,.inl rfl,rfl⟩,rfl⟩
theorem right_c (us:List Fm) (tg:Tag) (xs:List IV) (htg:okEs tg 4) (hxs:IsFms us xs) (hsz:sizeFms us ≤ 1099511627776) (st:ISt) :
    ICall prog gl 148 [.sl tg xs] st (fun r st' => IsSq ⟨[],us⟩ r ∧ st' = st):=by
  refine ICall.intro (c:=cf prog gl [] []) func148 rfl (by show _ ≤ 6; simp) (by kernel_rfl) ?_
  simp -implicitDefEqProofs -dsimp only [go_sem,↓reduceIte,zE,zB,zA,zM,zS,zL,reduceCtorEq]
  refine (forms0_c gl us tg xs htg hxs hsz _).mono ?_
  rintro _ _ ⟨tg',ys,rfl,he,hys,rfl⟩
  simp -implicitDefEqProofs -dsimp only [go_sem,↓reduceIte,zE,zB,zA,zM,zS,zL,reduceCtorEq,fits]
  exact outK_self ⟨⟨_,_,_,_,rfl,.inl rfl,rfl,he,hys⟩,rfl⟩
theorem inOrder_2 (x y:Operand):inOrder 2 [(0,x),(1,y)] = true:=rfl
theorem imp_c (a b:Fm) (x y:IV) (hx:IsFm a x) (hy:IsFm b y) (st:ISt):ICall prog gl 215 [x,y] st (fun r st' => IsFm (impF a b) r ∧ st' = st):=by
  have h1:IsFms [a,b] [x,y]:=⟨_,_,rfl,hx,_,_,rfl,hy,rfl⟩
  obtain ⟨o5,n5,t5,x5,t6,x6,rfl⟩:=hx.agg
  obtain ⟨o7,n7,t7,x7,t8,x8,rfl⟩:=hy.agg
  refine ICall.intro (c:=cf prog gl [] []) func215 rfl (by show _ ≤ 9; simp) (by kernel_rfl) ?_
  simp -implicitDefEqProofs -dsimp only [go_sem,↓reduceIte,zE,zB,zA,zM,zS,zL,reduceCtorEq,fits,inOrder_2]
  exact outK_self ⟨⟨_,_,_,_,rfl,by decide,.inl rfl,rfl,.inr rfl,h1⟩,rfl⟩

def AddOk (id:Nat) (F:Fm → Fm → Fm → List Sq):Prop:=∀ (m a b:Fm) (x y z:IV) (_:IsFm m x) (_:IsFm a y) (_:IsFm b z) (_:m.size ≤ 1000000) (_:a.size ≤ 1000000) (_:b.size ≤ 1000000) (st:ISt),
  ICall prog gl id [x,y,z] st (fun r st' => ∃ tg xs,r = .sl tg xs ∧ okEs tg 2 ∧ IsSqs (F m a b) xs ∧ st' = st)
theorem sq1 {s:Sq} {x:IV} (h:IsSq s x):IsSqs [s] [x]:=⟨_,_,rfl,h,rfl⟩
theorem sq2 {s s':Sq} {x x':IV} (h:IsSq s x) (h':IsSq s' x'):IsSqs [s,s'] [x,x']:=⟨_,_,rfl,h,_,_,rfl,h',rfl⟩
theorem add1_c:AddOk gl 204 (fun _ _ _ => []):=by
  intro m a b x y z hx hy hz hm ha hb st
  obtain ⟨o1,n1,t1,x1,t2,x2,rfl⟩:=hx.agg
  obtain ⟨o3,n3,t3,x3,t4,x4,rfl⟩:=hy.agg
  obtain ⟨o5,n5,t5,x5,t6,x6,rfl⟩:=hz.agg
  refine ICall.intro (c:=cf prog gl [] []) func204 rfl (by show _ ≤ 7; simp) (by kernel_rfl) ?_
  simp -implicitDefEqProofs -dsimp only [go_sem,↓reduceIte,zE,zB,zA,zM,zS,zL,reduceCtorEq]
  exact outK_self ⟨_,_,rfl,.inl rfl,rfl,rfl⟩
theorem add2_c:AddOk gl 205 (fun _ _ _ => []):=by
  intro m a b x y z hx hy hz hm ha hb st
  obtain ⟨o1,n1,t1,x1,t2,x2,rfl⟩:=hx.agg
  obtain ⟨o3,n3,t3,x3,t4,x4,rfl⟩:=hy.agg
  obtain ⟨o5,n5,t5,x5,t6,x6,rfl⟩:=hz.agg
  refine ICall.intro (c:=cf prog gl [] []) func205 rfl (by show _ ≤ 7; simp) (by kernel_rfl) ?_
  simp -implicitDefEqProofs -dsimp only [go_sem,↓reduceIte,zE,zB,zA,zM,zS,zL,reduceCtorEq]
  exact outK_self ⟨_,_,rfl,.inl rfl,rfl,rfl⟩
theorem add3_c:AddOk gl 206 (fun m a b => [⟨[],[a]⟩]):=by
  intro m a b x y z hx hy hz hm ha hb st
  have hx0:=hx
  have hy0:=hy
  have hz0:=hz
  obtain ⟨o1,n1,t1,x1,t2,x2,rfl⟩:=hx.agg
  obtain ⟨o3,n3,t3,x3,t4,x4,rfl⟩:=hy.agg
  obtain ⟨o5,n5,t5,x5,t6,x6,rfl⟩:=hz.agg
  have ia:=IsFms.one hy0
  have ib:=IsFms.one hz0
  have im:=IsFms.one hx0
  have iab:IsFms [a,b] [_,_]:=⟨_,_,rfl,hy0,ib⟩
  refine ICall.intro (c:=cf prog gl [] []) func206 rfl (by show _ ≤ 11; simp) (by kernel_rfl) ?_
  simp -implicitDefEqProofs -dsimp only [go_sem,↓reduceIte,zE,zB,zA,zM,zS,zL,reduceCtorEq,fits,inOrder_one,inOrder_2]
  refine (right_c gl _ _ _ (.inr rfl) ia (by simp only [sizeFms]; omega) _).mono ?_
  rintro r _ ⟨hr,rfl⟩
  have h1:=sq1 hr
  obtain ⟨_,_,_,_,rfl⟩:=IsSq.two hr
  simp -implicitDefEqProofs -dsimp only [go_sem,↓reduceIte,zE,zB,zA,zM,zS,zL,reduceCtorEq,fits,inOrder_one]
  exact outK_self ⟨_,_,rfl,.inr rfl,h1,rfl⟩
theorem add4_c:AddOk gl 207 (fun m a b => [⟨[a],[]⟩]):=by
  intro m a b x y z hx hy hz hm ha hb st
  have hx0:=hx
  have hy0:=hy
  have hz0:=hz
  obtain ⟨o1,n1,t1,x1,t2,x2,rfl⟩:=hx.agg
  obtain ⟨o3,n3,t3,x3,t4,x4,rfl⟩:=hy.agg
  obtain ⟨o5,n5,t5,x5,t6,x6,rfl⟩:=hz.agg
  have ia:=IsFms.one hy0
  have ib:=IsFms.one hz0
  have im:=IsFms.one hx0
  have iab:IsFms [a,b] [_,_]:=⟨_,_,rfl,hy0,ib⟩
  refine ICall.intro (c:=cf prog gl [] []) func207 rfl (by show _ ≤ 11; simp) (by kernel_rfl) ?_
  simp -implicitDefEqProofs -dsimp only [go_sem,↓reduceIte,zE,zB,zA,zM,zS,zL,reduceCtorEq,fits,inOrder_one,inOrder_2]
  refine (left_c gl _ _ _ (.inr rfl) ia (by simp only [sizeFms]; omega) _).mono ?_
  rintro r _ ⟨hr,rfl⟩
  have h1:=sq1 hr
  obtain ⟨_,_,_,_,rfl⟩:=IsSq.two hr
  simp -implicitDefEqProofs -dsimp only [go_sem,↓reduceIte,zE,zB,zA,zM,zS,zL,reduceCtorEq,fits,inOrder_one]
  exact outK_self ⟨_,_,rfl,.inr rfl,h1,rfl⟩
theorem add5_c:AddOk gl 208 (fun m a b => [⟨[a,b],[]⟩]):=by
  intro m a b x y z hx hy hz hm ha hb st
  have hx0:=hx
  have hy0:=hy
  have hz0:=hz
  obtain ⟨o1,n1,t1,x1,t2,x2,rfl⟩:=hx.agg
  obtain ⟨o3,n3,t3,x3,t4,x4,rfl⟩:=hy.agg
  obtain ⟨o5,n5,t5,x5,t6,x6,rfl⟩:=hz.agg
  have ia:=IsFms.one hy0
  have ib:=IsFms.one hz0
  have im:=IsFms.one hx0
  have iab:IsFms [a,b] [_,_]:=⟨_,_,rfl,hy0,ib⟩
  refine ICall.intro (c:=cf prog gl [] []) func208 rfl (by show _ ≤ 12; simp) (by kernel_rfl) ?_
  simp -implicitDefEqProofs -dsimp only [go_sem,↓reduceIte,zE,zB,zA,zM,zS,zL,reduceCtorEq,fits,inOrder_one,inOrder_2]
  refine (left_c gl _ _ _ (.inr rfl) iab (by simp only [sizeFms]; omega) _).mono ?_
  rintro r _ ⟨hr,rfl⟩
  have h1:=sq1 hr
  obtain ⟨_,_,_,_,rfl⟩:=IsSq.two hr
  simp -implicitDefEqProofs -dsimp only [go_sem,↓reduceIte,zE,zB,zA,zM,zS,zL,reduceCtorEq,fits,inOrder_one]
  exact outK_self ⟨_,_,rfl,.inr rfl,h1,rfl⟩
theorem add6_c:AddOk gl 209 (fun m a b => [⟨[],[a]⟩,⟨[],[b]⟩]):=by
  intro m a b x y z hx hy hz hm ha hb st
  have hx0:=hx
  have hy0:=hy
  have hz0:=hz
  obtain ⟨o1,n1,t1,x1,t2,x2,rfl⟩:=hx.agg
  obtain ⟨o3,n3,t3,x3,t4,x4,rfl⟩:=hy.agg
  obtain ⟨o5,n5,t5,x5,t6,x6,rfl⟩:=hz.agg
  have ia:=IsFms.one hy0
  have ib:=IsFms.one hz0
  have im:=IsFms.one hx0
  have iab:IsFms [a,b] [_,_]:=⟨_,_,rfl,hy0,ib⟩
  refine ICall.intro (c:=cf prog gl [] [(1,[0,1,3,4,2,5,6,7])]) func209 rfl (by show _ ≤ 14; simp) (by kernel_rfl) ?_
  simp -implicitDefEqProofs -dsimp only [go_sem,↓reduceIte,zE,zB,zA,zM,zS,zL,reduceCtorEq,fits,inOrder_one,inOrder_2]
  refine (right_c gl _ _ _ (.inr rfl) ia (by simp only [sizeFms]; omega) _).mono ?_
  rintro r _ ⟨hr,rfl⟩
  have hr0:=hr
  obtain ⟨_,_,_,_,rfl⟩:=IsSq.two hr
  simp -implicitDefEqProofs -dsimp only [go_sem,↓reduceIte,zE,zB,zA,zM,zS,zL,reduceCtorEq,fits,inOrder_one,inOrder_2]
  refine (right_c gl _ _ _ (.inr rfl) ib (by simp only [sizeFms]; omega) _).mono ?_
  rintro r _ ⟨hr,rfl⟩
  have h1:=sq2 hr0 hr
  obtain ⟨_,_,_,_,rfl⟩:=IsSq.two hr
  simp -implicitDefEqProofs -dsimp only [go_sem,↓reduceIte,zE,zB,zA,zM,zS,zL,reduceCtorEq,fits,inOrder_one,inOrder_2]
  exact outK_self ⟨_,_,rfl,.inr rfl,h1,rfl⟩
theorem add7_c:AddOk gl 210 (fun m a b => [⟨[a],[]⟩,⟨[b],[]⟩]):=by
  intro m a b x y z hx hy hz hm ha hb st
  have hx0:=hx
  have hy0:=hy
  have hz0:=hz
  obtain ⟨o1,n1,t1,x1,t2,x2,rfl⟩:=hx.agg
  obtain ⟨o3,n3,t3,x3,t4,x4,rfl⟩:=hy.agg
  obtain ⟨o5,n5,t5,x5,t6,x6,rfl⟩:=hz.agg
  have ia:=IsFms.one hy0
  have ib:=IsFms.one hz0
  have im:=IsFms.one hx0
  have iab:IsFms [a,b] [_,_]:=⟨_,_,rfl,hy0,ib⟩
  refine ICall.intro (c:=cf prog gl [] [(1,[0,1,3,4,2,5,6,7])]) func210 rfl (by show _ ≤ 14; simp) (by kernel_rfl) ?_
  simp -implicitDefEqProofs -dsimp only [go_sem,↓reduceIte,zE,zB,zA,zM,zS,zL,reduceCtorEq,fits,inOrder_one,inOrder_2]
  refine (left_c gl _ _ _ (.inr rfl) ia (by simp only [sizeFms]; omega) _).mono ?_
  rintro r _ ⟨hr,rfl⟩
  have hr0:=hr
  obtain ⟨_,_,_,_,rfl⟩:=IsSq.two hr
  simp -implicitDefEqProofs -dsimp only [go_sem,↓reduceIte,zE,zB,zA,zM,zS,zL,reduceCtorEq,fits,inOrder_one,inOrder_2]
  refine (left_c gl _ _ _ (.inr rfl) ib (by simp only [sizeFms]; omega) _).mono ?_
  rintro r _ ⟨hr,rfl⟩
  have h1:=sq2 hr0 hr
  obtain ⟨_,_,_,_,rfl⟩:=IsSq.two hr
  simp -implicitDefEqProofs -dsimp only [go_sem,↓reduceIte,zE,zB,zA,zM,zS,zL,reduceCtorEq,fits,inOrder_one,inOrder_2]
  exact outK_self ⟨_,_,rfl,.inr rfl,h1,rfl⟩
theorem add8_c:AddOk gl 211 (fun m a b => [⟨[],[a,b]⟩]):=by
  intro m a b x y z hx hy hz hm ha hb st
  have hx0:=hx
  have hy0:=hy
  have hz0:=hz
  obtain ⟨o1,n1,t1,x1,t2,x2,rfl⟩:=hx.agg
  obtain ⟨o3,n3,t3,x3,t4,x4,rfl⟩:=hy.agg
  obtain ⟨o5,n5,t5,x5,t6,x6,rfl⟩:=hz.agg
  have ia:=IsFms.one hy0
  have ib:=IsFms.one hz0
  have im:=IsFms.one hx0
  have iab:IsFms [a,b] [_,_]:=⟨_,_,rfl,hy0,ib⟩
  refine ICall.intro (c:=cf prog gl [] []) func211 rfl (by show _ ≤ 12; simp) (by kernel_rfl) ?_
  simp -implicitDefEqProofs -dsimp only [go_sem,↓reduceIte,zE,zB,zA,zM,zS,zL,reduceCtorEq,fits,inOrder_one,inOrder_2]
  refine (right_c gl _ _ _ (.inr rfl) iab (by simp only [sizeFms]; omega) _).mono ?_
  rintro r _ ⟨hr,rfl⟩
  have h1:=sq1 hr
  obtain ⟨_,_,_,_,rfl⟩:=IsSq.two hr
  simp -implicitDefEqProofs -dsimp only [go_sem,↓reduceIte,zE,zB,zA,zM,zS,zL,reduceCtorEq,fits,inOrder_one]
  exact outK_self ⟨_,_,rfl,.inr rfl,h1,rfl⟩
theorem add9_c:AddOk gl 212 (fun m a b => [⟨[],[a]⟩,⟨[b],[]⟩]):=by
  intro m a b x y z hx hy hz hm ha hb st
  have hx0:=hx
  have hy0:=hy
  have hz0:=hz
  obtain ⟨o1,n1,t1,x1,t2,x2,rfl⟩:=hx.agg
  obtain ⟨o3,n3,t3,x3,t4,x4,rfl⟩:=hy.agg
  obtain ⟨o5,n5,t5,x5,t6,x6,rfl⟩:=hz.agg
  have ia:=IsFms.one hy0
  have ib:=IsFms.one hz0
  have im:=IsFms.one hx0
  have iab:IsFms [a,b] [_,_]:=⟨_,_,rfl,hy0,ib⟩
  refine ICall.intro (c:=cf prog gl [] [(1,[0,1,3,4,2,5,6,7])]) func212 rfl (by show _ ≤ 14; simp) (by kernel_rfl) ?_
  simp -implicitDefEqProofs -dsimp only [go_sem,↓reduceIte,zE,zB,zA,zM,zS,zL,reduceCtorEq,fits,inOrder_one,inOrder_2]
  refine (right_c gl _ _ _ (.inr rfl) ia (by simp only [sizeFms]; omega) _).mono ?_
  rintro r _ ⟨hr,rfl⟩
  have hr0:=hr
  obtain ⟨_,_,_,_,rfl⟩:=IsSq.two hr
  simp -implicitDefEqProofs -dsimp only [go_sem,↓reduceIte,zE,zB,zA,zM,zS,zL,reduceCtorEq,fits,inOrder_one,inOrder_2]
  refine (left_c gl _ _ _ (.inr rfl) ib (by simp only [sizeFms]; omega) _).mono ?_
  rintro r _ ⟨hr,rfl⟩
  have h1:=sq2 hr0 hr
  obtain ⟨_,_,_,_,rfl⟩:=IsSq.two hr
  simp -implicitDefEqProofs -dsimp only [go_sem,↓reduceIte,zE,zB,zA,zM,zS,zL,reduceCtorEq,fits,inOrder_one,inOrder_2]
  exact outK_self ⟨_,_,rfl,.inr rfl,h1,rfl⟩
theorem add17_c:AddOk gl 217 (fun m a b => [⟨[],[m]⟩,⟨[m],[]⟩]):=by
  intro m a b x y z hx hy hz hm ha hb st
  have hx0:=hx
  have hy0:=hy
  have hz0:=hz
  obtain ⟨o1,n1,t1,x1,t2,x2,rfl⟩:=hx.agg
  obtain ⟨o3,n3,t3,x3,t4,x4,rfl⟩:=hy.agg
  obtain ⟨o5,n5,t5,x5,t6,x6,rfl⟩:=hz.agg
  have ia:=IsFms.one hy0
  have ib:=IsFms.one hz0
  have im:=IsFms.one hx0
  have iab:IsFms [a,b] [_,_]:=⟨_,_,rfl,hy0,ib⟩
  refine ICall.intro (c:=cf prog gl [] [(1,[0,1,3,4,2,5,6,7])]) func217 rfl (by show _ ≤ 14; simp) (by kernel_rfl) ?_
  simp -implicitDefEqProofs -dsimp only [go_sem,↓reduceIte,zE,zB,zA,zM,zS,zL,reduceCtorEq,fits,inOrder_one,inOrder_2]
  refine (right_c gl _ _ _ (.inr rfl) im (by simp only [sizeFms]; omega) _).mono ?_
  rintro r _ ⟨hr,rfl⟩
  have hr0:=hr
  obtain ⟨_,_,_,_,rfl⟩:=IsSq.two hr
  simp -implicitDefEqProofs -dsimp only [go_sem,↓reduceIte,zE,zB,zA,zM,zS,zL,reduceCtorEq,fits,inOrder_one,inOrder_2]
  refine (left_c gl _ _ _ (.inr rfl) im (by simp only [sizeFms]; omega) _).mono ?_
  rintro r _ ⟨hr,rfl⟩
  have h1:=sq2 hr0 hr
  obtain ⟨_,_,_,_,rfl⟩:=IsSq.two hr
  simp -implicitDefEqProofs -dsimp only [go_sem,↓reduceIte,zE,zB,zA,zM,zS,zL,reduceCtorEq,fits,inOrder_one,inOrder_2]
  exact outK_self ⟨_,_,rfl,.inr rfl,h1,rfl⟩
theorem add8j_c:AddOk gl 147 (fun m a b => [⟨[],[a]⟩]):=by
  intro m a b x y z hx hy hz hm ha hb st
  have hx0:=hx
  have hy0:=hy
  have hz0:=hz
  obtain ⟨o1,n1,t1,x1,t2,x2,rfl⟩:=hx.agg
  obtain ⟨o3,n3,t3,x3,t4,x4,rfl⟩:=hy.agg
  obtain ⟨o5,n5,t5,x5,t6,x6,rfl⟩:=hz.agg
  have ia:=IsFms.one hy0
  have ib:=IsFms.one hz0
  have im:=IsFms.one hx0
  have iab:IsFms [a,b] [_,_]:=⟨_,_,rfl,hy0,ib⟩
  refine ICall.intro (c:=cf prog gl [] []) func147 rfl (by show _ ≤ 11; simp) (by kernel_rfl) ?_
  simp -implicitDefEqProofs -dsimp only [go_sem,↓reduceIte,zE,zB,zA,zM,zS,zL,reduceCtorEq,fits,inOrder_one,inOrder_2]
  refine (right_c gl _ _ _ (.inr rfl) ia (by simp only [sizeFms]; omega) _).mono ?_
  rintro r _ ⟨hr,rfl⟩
  have h1:=sq1 hr
  obtain ⟨_,_,_,_,rfl⟩:=IsSq.two hr
  simp -implicitDefEqProofs -dsimp only [go_sem,↓reduceIte,zE,zB,zA,zM,zS,zL,reduceCtorEq,fits,inOrder_one]
  exact outK_self ⟨_,_,rfl,.inr rfl,h1,rfl⟩
theorem add18_c:AddOk gl 149 (fun m a b => [⟨[],[b]⟩]):=by
  intro m a b x y z hx hy hz hm ha hb st
  have hx0:=hx
  have hy0:=hy
  have hz0:=hz
  obtain ⟨o1,n1,t1,x1,t2,x2,rfl⟩:=hx.agg
  obtain ⟨o3,n3,t3,x3,t4,x4,rfl⟩:=hy.agg
  obtain ⟨o5,n5,t5,x5,t6,x6,rfl⟩:=hz.agg
  have ia:=IsFms.one hy0
  have ib:=IsFms.one hz0
  have im:=IsFms.one hx0
  have iab:IsFms [a,b] [_,_]:=⟨_,_,rfl,hy0,ib⟩
  refine ICall.intro (c:=cf prog gl [] []) func149 rfl (by show _ ≤ 11; simp) (by kernel_rfl) ?_
  simp -implicitDefEqProofs -dsimp only [go_sem,↓reduceIte,zE,zB,zA,zM,zS,zL,reduceCtorEq,fits,inOrder_one,inOrder_2]
  refine (right_c gl _ _ _ (.inr rfl) ib (by simp only [sizeFms]; omega) _).mono ?_
  rintro r _ ⟨hr,rfl⟩
  have h1:=sq1 hr
  obtain ⟨_,_,_,_,rfl⟩:=IsSq.two hr
  simp -implicitDefEqProofs -dsimp only [go_sem,↓reduceIte,zE,zB,zA,zM,zS,zL,reduceCtorEq,fits,inOrder_one]
  exact outK_self ⟨_,_,rfl,.inr rfl,h1,rfl⟩
theorem addL_c:AddOk gl 150 (fun m a b => [⟨[a],[]⟩]):=by
  intro m a b x y z hx hy hz hm ha hb st
  have hx0:=hx
  have hy0:=hy
  have hz0:=hz
  obtain ⟨o1,n1,t1,x1,t2,x2,rfl⟩:=hx.agg
  obtain ⟨o3,n3,t3,x3,t4,x4,rfl⟩:=hy.agg
  obtain ⟨o5,n5,t5,x5,t6,x6,rfl⟩:=hz.agg
  have ia:=IsFms.one hy0
  have ib:=IsFms.one hz0
  have im:=IsFms.one hx0
  have iab:IsFms [a,b] [_,_]:=⟨_,_,rfl,hy0,ib⟩
  refine ICall.intro (c:=cf prog gl [] []) func150 rfl (by show _ ≤ 11; simp) (by kernel_rfl) ?_
  simp -implicitDefEqProofs -dsimp only [go_sem,↓reduceIte,zE,zB,zA,zM,zS,zL,reduceCtorEq,fits,inOrder_one,inOrder_2]
  refine (left_c gl _ _ _ (.inr rfl) ia (by simp only [sizeFms]; omega) _).mono ?_
  rintro r _ ⟨hr,rfl⟩
  have h1:=sq1 hr
  obtain ⟨_,_,_,_,rfl⟩:=IsSq.two hr
  simp -implicitDefEqProofs -dsimp only [go_sem,↓reduceIte,zE,zB,zA,zM,zS,zL,reduceCtorEq,fits,inOrder_one]
  exact outK_self ⟨_,_,rfl,.inr rfl,h1,rfl⟩
theorem addR_c:AddOk gl 152 (fun m a b => [⟨[],[a]⟩]):=by
  intro m a b x y z hx hy hz hm ha hb st
  have hx0:=hx
  have hy0:=hy
  have hz0:=hz
  obtain ⟨o1,n1,t1,x1,t2,x2,rfl⟩:=hx.agg
  obtain ⟨o3,n3,t3,x3,t4,x4,rfl⟩:=hy.agg
  obtain ⟨o5,n5,t5,x5,t6,x6,rfl⟩:=hz.agg
  have ia:=IsFms.one hy0
  have ib:=IsFms.one hz0
  have im:=IsFms.one hx0
  have iab:IsFms [a,b] [_,_]:=⟨_,_,rfl,hy0,ib⟩
  refine ICall.intro (c:=cf prog gl [] []) func152 rfl (by show _ ≤ 11; simp) (by kernel_rfl) ?_
  simp -implicitDefEqProofs -dsimp only [go_sem,↓reduceIte,zE,zB,zA,zM,zS,zL,reduceCtorEq,fits,inOrder_one,inOrder_2]
  refine (right_c gl _ _ _ (.inr rfl) ia (by simp only [sizeFms]; omega) _).mono ?_
  rintro r _ ⟨hr,rfl⟩
  have h1:=sq1 hr
  obtain ⟨_,_,_,_,rfl⟩:=IsSq.two hr
  simp -implicitDefEqProofs -dsimp only [go_sem,↓reduceIte,zE,zB,zA,zM,zS,zL,reduceCtorEq,fits,inOrder_one]
  exact outK_self ⟨_,_,rfl,.inr rfl,h1,rfl⟩
theorem add10_c:AddOk gl 213 (fun m a b => [⟨[a],[b]⟩]):=by
  intro m a b x y z hx hy hz hm ha hb st
  have hx0:=hx
  have hy0:=hy
  have hz0:=hz
  obtain ⟨o1,n1,t1,x1,t2,x2,rfl⟩:=hx.agg
  obtain ⟨o3,n3,t3,x3,t4,x4,rfl⟩:=hy.agg
  obtain ⟨o5,n5,t5,x5,t6,x6,rfl⟩:=hz.agg
  have ia:=IsFms.one hy0
  have ib:=IsFms.one hz0
  have im:=IsFms.one hx0
  have iab:IsFms [a,b] [_,_]:=⟨_,_,rfl,hy0,ib⟩
  refine ICall.intro (c:=cf prog gl [] [(1,[0,1,3,4,2,5,6,7,8])]) func213 rfl (by show _ ≤ 15; simp) (by kernel_rfl) ?_
  simp -implicitDefEqProofs -dsimp only [go_sem,↓reduceIte,zE,zB,zA,zM,zS,zL,reduceCtorEq,fits,inOrder_one]
  refine (forms0_c gl _ _ _ (.inr rfl) ia (by simp only [sizeFms]; omega) _).mono ?_
  rintro _ _ ⟨tg1,ys1,rfl,he1,hys1,rfl⟩
  simp -implicitDefEqProofs -dsimp only [go_sem,↓reduceIte,zE,zB,zA,zM,zS,zL,reduceCtorEq,fits,inOrder_one]
  refine (forms0_c gl _ _ _ (.inr rfl) ib (by simp only [sizeFms]; omega) _).mono ?_
  rintro _ _ ⟨tg2,ys2,rfl,he2,hys2,rfl⟩
  simp -implicitDefEqProofs -dsimp only [go_sem,↓reduceIte,zE,zB,zA,zM,zS,zL,reduceCtorEq,fits,inOrder_one]
  exact outK_self ⟨_,_,rfl,.inr rfl,sq1 ⟨_,_,_,_,rfl,he1,hys1,he2,hys2⟩,rfl⟩
theorem add12_c:AddOk gl 216 (fun m a b => [⟨[a],[b]⟩,⟨[b],[a]⟩]):=by
  intro m a b x y z hx hy hz hm ha hb st
  have hx0:=hx
  have hy0:=hy
  have hz0:=hz
  obtain ⟨o1,n1,t1,x1,t2,x2,rfl⟩:=hx.agg
  obtain ⟨o3,n3,t3,x3,t4,x4,rfl⟩:=hy.agg
  obtain ⟨o5,n5,t5,x5,t6,x6,rfl⟩:=hz.agg
  have ia:=IsFms.one hy0
  have ib:=IsFms.one hz0
  have im:=IsFms.one hx0
  have iab:IsFms [a,b] [_,_]:=⟨_,_,rfl,hy0,ib⟩
  refine ICall.intro (c:=cf prog gl [] [(1,[0,1,3,4,7,8,10,11,2,5,6,9,12,13,14,15])]) func216 rfl (by show _ ≤ 22; simp) (by kernel_rfl) ?_
  simp -implicitDefEqProofs -dsimp only [go_sem,↓reduceIte,zE,zB,zA,zM,zS,zL,reduceCtorEq,fits,inOrder_one]
  refine (forms0_c gl _ _ _ (.inr rfl) ia (by simp only [sizeFms]; omega) _).mono ?_
  rintro _ _ ⟨tg1,ys1,rfl,he1,hys1,rfl⟩
  simp -implicitDefEqProofs -dsimp only [go_sem,↓reduceIte,zE,zB,zA,zM,zS,zL,reduceCtorEq,fits,inOrder_one]
  refine (forms0_c gl _ _ _ (.inr rfl) ib (by simp only [sizeFms]; omega) _).mono ?_
  rintro _ _ ⟨tg2,ys2,rfl,he2,hys2,rfl⟩
  simp -implicitDefEqProofs -dsimp only [go_sem,↓reduceIte,zE,zB,zA,zM,zS,zL,reduceCtorEq,fits,inOrder_one]
  refine (forms0_c gl _ _ _ (.inr rfl) ib (by simp only [sizeFms]; omega) _).mono ?_
  rintro _ _ ⟨tg3,ys3,rfl,he3,hys3,rfl⟩
  simp -implicitDefEqProofs -dsimp only [go_sem,↓reduceIte,zE,zB,zA,zM,zS,zL,reduceCtorEq,fits,inOrder_one]
  refine (forms0_c gl _ _ _ (.inr rfl) ia (by simp only [sizeFms]; omega) _).mono ?_
  rintro _ _ ⟨tg4,ys4,rfl,he4,hys4,rfl⟩
  simp -implicitDefEqProofs -dsimp only [go_sem,↓reduceIte,zE,zB,zA,zM,zS,zL,reduceCtorEq,fits,inOrder_2]
  exact outK_self ⟨_,_,rfl,.inr rfl,sq2 ⟨_,_,_,_,rfl,he1,hys1,he2,hys2⟩ ⟨_,_,_,_,rfl,he3,hys3,he4,hys4⟩,rfl⟩
theorem add11_c:AddOk gl 214 (fun m a b => [⟨[impF a b,impF b a],[]⟩]):=by
  intro m a b x y z hx hy hz hm ha hb st
  have hx0:=hx
  have hy0:=hy
  have hz0:=hz
  obtain ⟨o1,n1,t1,x1,t2,x2,rfl⟩:=hx.agg
  obtain ⟨o3,n3,t3,x3,t4,x4,rfl⟩:=hy.agg
  obtain ⟨o5,n5,t5,x5,t6,x6,rfl⟩:=hz.agg
  have ia:=IsFms.one hy0
  have ib:=IsFms.one hz0
  have im:=IsFms.one hx0
  have iab:IsFms [a,b] [_,_]:=⟨_,_,rfl,hy0,ib⟩
  refine ICall.intro (c:=cf prog gl [] [(1,[0,1,3,4,2,5,6,7,8,9])]) func214 rfl (by show _ ≤ 16; simp) (by kernel_rfl) ?_
  simp -implicitDefEqProofs -dsimp only [go_sem,↓reduceIte,zE,zB,zA,zM,zS,zL,reduceCtorEq,fits]
  refine (imp_c gl a b _ _ hy0 hz0 _).mono ?_
  rintro r _ ⟨hr,rfl⟩
  have hr0:=hr
  obtain ⟨_,_,_,_,_,_,rfl⟩:=hr.agg
  simp -implicitDefEqProofs -dsimp only [go_sem,↓reduceIte,zE,zB,zA,zM,zS,zL,reduceCtorEq,fits]
  refine (imp_c gl b a _ _ hz0 hy0 _).mono ?_
  rintro r _ ⟨hr,rfl⟩
  have hr1:IsFms [impF a b,impF b a] [_,_]:=⟨_,_,rfl,hr0,IsFms.one hr⟩
  obtain ⟨_,_,_,_,_,_,rfl⟩:=hr.agg
  simp -implicitDefEqProofs -dsimp only [go_sem,↓reduceIte,zE,zB,zA,zM,zS,zL,reduceCtorEq,fits,inOrder_2]
  refine (left_c gl _ _ _ (.inr rfl) hr1 (by simp only [sizeFms,impF,Fm.size,sizeTms]; omega) _).mono ?_
  rintro r _ ⟨hr,rfl⟩
  have h1:=sq1 hr
  obtain ⟨_,_,_,_,rfl⟩:=IsSq.two hr
  simp -implicitDefEqProofs -dsimp only [go_sem,↓reduceIte,zE,zB,zA,zM,zS,zL,reduceCtorEq,fits,inOrder_one]
  exact outK_self ⟨_,_,rfl,.inr rfl,h1,rfl⟩
end Go.Proofs.Tryz
