/- Walks: lists of names; equality of terms and formulas.
   Walks: equality of terms and formulas.
   Walks: names. -/
import Derived.Test.YtckafgnkmnichaaGreatDoorJJ
import Derived.Test.YtckafgnkmnichaaGreatDoorJK
set_option linter.all false
open Nat renaming reduceEqDiff → zE,reduceBEq → zB,reduceAdd → zA,reduceMul → zM,reduceSub → zS,reduceLeDiff → zL
attribute [local go_sem] Go.Iv.cf Go.Iv.setAt List.all_cons List.all_nil Bool.and_self Bool.true_and Bool.and_true Bool.false_and Bool.and_false Bool.not_true Bool.not_false List.mem_nil_iff if_false if_true beq_self_eq_true Nat.zero_add Nat.add_zero List.getElem?_cons_zero List.getElem?_cons_succ Option.map_some List.mem_cons or_false false_or or_true true_or Nat.sub_zero forall_const Int.toNat_natCast List.length_cons List.length_nil List.map_cons List.map_nil List.take_succ_cons List.take_zero List.drop_zero List.drop_succ_cons List.cons_append List.nil_append List.append_nil and_true true_and and_self true_implies List.zip_cons_cons List.zip_nil_left
namespace Go.Proofs.Tryz
open Go Go.Iv
set_option maxRecDepth 4000

open Classical in
noncomputable def hasB (l:List ByteArray) (s:ByteArray):Bool:=decide (s ∈ l)

theorem Has_c (gl:Nat → Option IV) (t:Tag) (l:List ByteArray) (s:ByteArray) (ht:okEs t 1) (hl:l.length ≤ 140737488355328) (st:ISt) :
    ICall prog gl 269 [.sl t (strI l),.raw (.string s)] st (fun x st' => x = .raw (.bool (hasB l s)) ∧ st' = st):=by
  refine ICall.intro (c:=cf prog gl [] []) func269 rfl (by show _ ≤ 18; simp) (by kernel_rfl) ?_
  simp -implicitDefEqProofs -dsimp only [go_sem,↓reduceIte,zE,zB,zA,zM,zS,zL,reduceCtorEq]
  refine LoopC.ctr l.length (fun k fr st' ds => s ∉ l.take k ∧ fr 0 = .iv (.sl t (strI l)) ∧ fr 1 = .iv (.raw (.string s)) ∧ fr 5 = .iv (.raw (.int .i64 k)) ∧ st' = st ∧ ds = []) ?_ ?_ ?_
  · simp -implicitDefEqProofs -dsimp only [go_sem,↓reduceIte,zE,zB,zA,zM,zS,zL,reduceCtorEq,List.take_zero,List.not_mem_nil,not_false_eq_true]; rfl
  · rintro k fr st' ds hlt ⟨hn,h0,h1,h5,rfl,rfl⟩
    obtain ⟨x,hx⟩:=get_of_lt hlt
    simp -implicitDefEqProofs -dsimp only [go_sem,↓reduceIte,zE,zB,zA,zM,zS,zL,reduceCtorEq,h0,h1,h5,strI_length,lt_i hlt,reTag_es ht,Int.natCast_nonneg,strI_get hx,w_succ hlt (by omega)]
    intro _
    refine condV_intro (fun h => ?_) (fun h => ?_)
    · have hm:s ∈ l:=by rw [← of_decide_eq_true h]; exact List.mem_of_getElem? hx
      simp -implicitDefEqProofs -dsimp only [go_sem,↓reduceIte,zE,zB,zA,zM,zS,zL,reduceCtorEq,h0,h1,h5]
      exact outK_self ⟨by simp [hasB,hm],rfl⟩
    · simp -implicitDefEqProofs -dsimp only [go_sem,↓reduceIte,zE,zB,zA,zM,zS,zL,reduceCtorEq,h0,h1,h5,w_succ hlt (by omega)]
      rw [take_get hx]
      simp only [List.mem_append,List.mem_singleton,not_or]
      exact ⟨hn,fun he => of_decide_eq_false h he.symm⟩
  · rintro fr st' ds ⟨hn,h0,h1,h5,rfl,rfl⟩
    simp -implicitDefEqProofs -dsimp only [go_sem,↓reduceIte,zE,zB,zA,zM,zS,zL,reduceCtorEq,h0,h1,h5,strI_length,nlt_i (Nat.lt_irrefl _)]
    intro _
    have hm:s ∉ l:=by rw [List.take_length] at hn; exact hn
    exact outK_self ⟨by simp [hasB,hm],rfl⟩
end Go.Proofs.Tryz

namespace Go.Proofs.Tryz
open Go Go.Iv
set_option maxRecDepth 4000

open Classical in
noncomputable def eqB {α:Type} (a b:α):Bool:=decide (a = b)
theorem eqB_true {α:Type} {a b:α}:eqB a b = true ↔ a = b:=by simp [eqB]
theorem eqB_false {α:Type} {a b:α}:eqB a b = false ↔ a ≠ b:=by simp [eqB]
theorem size_args2 {v:Bool} {n:ByteArray} {us:List Tm} {l:List Tm} (h:Tm.mk v n us ∈ l):SizeOf.sizeOf us < SizeOf.sizeOf l:=by
  have:=List.sizeOf_lt_of_mem h
  simp at this; omega

end Go.Proofs.Tryz

namespace Go.Proofs.Tryz
open Go Go.Iv
set_option maxRecDepth 4000
variable (gl:Nat → Option IV)

theorem digit_c (c:UInt8) (st:ISt):ICall prog gl 298 [.raw (.int .u8 c.toNat)] st (fun x st' => x = .raw (.bool (isDigit c)) ∧ st' = st):=by
  refine ICall.intro (c:=cf prog gl [] []) func298 rfl (by show _ ≤ 9; simp) (by kernel_rfl) ?_
  simp -implicitDefEqProofs -dsimp only [go_sem,↓reduceIte,zE,zB,zA,zM,zS,zL,reduceCtorEq]
  refine guardV_intro (fun h => ?_) (fun h => ?_)
  · have h':(48:Nat) ≤ c.toNat:=by simp at h; omega
    simp -implicitDefEqProofs -dsimp only [go_sem,↓reduceIte,zE,zB,zA,zM,zS,zL,reduceCtorEq]
    exact outK_self ⟨by congr 3; simp [isDigit,inB,h']; omega,rfl⟩
  · have h':¬ (48:Nat) ≤ c.toNat:=by simp at h; omega
    simp -implicitDefEqProofs -dsimp only [go_sem,↓reduceIte,zE,zB,zA,zM,zS,zL,reduceCtorEq]
    exact outK_self ⟨by simp [isDigit,inB,h'],rfl⟩
theorem small_c (c:UInt8) (st:ISt):ICall prog gl 327 [.raw (.int .u8 c.toNat)] st (fun x st' => x = .raw (.bool (isSmall c)) ∧ st' = st):=by
  refine ICall.intro (c:=cf prog gl [] []) func327 rfl (by show _ ≤ 9; simp) (by kernel_rfl) ?_
  simp -implicitDefEqProofs -dsimp only [go_sem,↓reduceIte,zE,zB,zA,zM,zS,zL,reduceCtorEq]
  refine guardV_intro (fun h => ?_) (fun h => ?_)
  · have h':(97:Nat) ≤ c.toNat:=by simp at h; omega
    simp -implicitDefEqProofs -dsimp only [go_sem,↓reduceIte,zE,zB,zA,zM,zS,zL,reduceCtorEq]
    exact outK_self ⟨by congr 3; simp [isSmall,inB,h']; omega,rfl⟩
  · have h':¬ (97:Nat) ≤ c.toNat:=by simp at h; omega
    simp -implicitDefEqProofs -dsimp only [go_sem,↓reduceIte,zE,zB,zA,zM,zS,zL,reduceCtorEq]
    exact outK_self ⟨by simp [isSmall,inB,h'],rfl⟩
theorem capital_c (c:UInt8) (st:ISt):ICall prog gl 295 [.raw (.int .u8 c.toNat)] st (fun x st' => x = .raw (.bool (isCapital c)) ∧ st' = st):=by
  refine ICall.intro (c:=cf prog gl [] []) func295 rfl (by show _ ≤ 9; simp) (by kernel_rfl) ?_
  simp -implicitDefEqProofs -dsimp only [go_sem,↓reduceIte,zE,zB,zA,zM,zS,zL,reduceCtorEq]
  refine guardV_intro (fun h => ?_) (fun h => ?_)
  · have h':(65:Nat) ≤ c.toNat:=by simp at h; omega
    simp -implicitDefEqProofs -dsimp only [go_sem,↓reduceIte,zE,zB,zA,zM,zS,zL,reduceCtorEq]
    exact outK_self ⟨by congr 3; simp [isCapital,inB,h']; omega,rfl⟩
  · have h':¬ (65:Nat) ≤ c.toNat:=by simp at h; omega
    simp -implicitDefEqProofs -dsimp only [go_sem,↓reduceIte,zE,zB,zA,zM,zS,zL,reduceCtorEq]
    exact outK_self ⟨by simp [isCapital,inB,h'],rfl⟩
theorem var1_c (c:UInt8) (st:ISt):ICall prog gl 297 [.raw (.int .u8 c.toNat)] st (fun x st' => x = .raw (.bool (inB 117 122 c)) ∧ st' = st):=by
  refine ICall.intro (c:=cf prog gl [] []) func297 rfl (by show _ ≤ 9; simp) (by kernel_rfl) ?_
  simp -implicitDefEqProofs -dsimp only [go_sem,↓reduceIte,zE,zB,zA,zM,zS,zL,reduceCtorEq]
  refine guardV_intro (fun h => ?_) (fun h => ?_)
  · have h':(117:Nat) ≤ c.toNat:=by simp at h; omega
    simp -implicitDefEqProofs -dsimp only [go_sem,↓reduceIte,zE,zB,zA,zM,zS,zL,reduceCtorEq]
    exact outK_self ⟨by congr 3; simp [inB,h']; omega,rfl⟩
  · have h':¬ (117:Nat) ≤ c.toNat:=by simp at h; omega
    simp -implicitDefEqProofs -dsimp only [go_sem,↓reduceIte,zE,zB,zA,zM,zS,zL,reduceCtorEq]
    exact outK_self ⟨by simp [inB,h'],rfl⟩
theorem fun1_c (c:UInt8) (st:ISt):ICall prog gl 310 [.raw (.int .u8 c.toNat)] st (fun x st' => x = .raw (.bool (inB 97 116 c)) ∧ st' = st):=by
  refine ICall.intro (c:=cf prog gl [] []) func310 rfl (by show _ ≤ 9; simp) (by kernel_rfl) ?_
  simp -implicitDefEqProofs -dsimp only [go_sem,↓reduceIte,zE,zB,zA,zM,zS,zL,reduceCtorEq]
  refine guardV_intro (fun h => ?_) (fun h => ?_)
  · have h':(97:Nat) ≤ c.toNat:=by simp at h; omega
    simp -implicitDefEqProofs -dsimp only [go_sem,↓reduceIte,zE,zB,zA,zM,zS,zL,reduceCtorEq]
    exact outK_self ⟨by congr 3; simp [inB,h']; omega,rfl⟩
  · have h':¬ (97:Nat) ≤ c.toNat:=by simp at h; omega
    simp -implicitDefEqProofs -dsimp only [go_sem,↓reduceIte,zE,zB,zA,zM,zS,zL,reduceCtorEq]
    exact outK_self ⟨by simp [inB,h'],rfl⟩
theorem alnum_c (c:UInt8) (st:ISt):ICall prog gl 296 [.raw (.int .u8 c.toNat)] st (fun x st' => x = .raw (.bool (isAlnum c)) ∧ st' = st):=by
  refine ICall.intro (c:=cf prog gl [] []) func296 rfl (by show _ ≤ 13; simp) (by kernel_rfl) ?_
  simp -implicitDefEqProofs -dsimp only [go_sem,↓reduceIte,zE,zB,zA,zM,zS,zL,reduceCtorEq]
  refine (small_c gl c _).mono ?_
  rintro _ _ ⟨rfl,rfl⟩
  cases h1:isSmall c
  · simp -implicitDefEqProofs -dsimp only [go_sem,↓reduceIte,zE,zB,zA,zM,zS,zL,reduceCtorEq]
    refine (capital_c gl c _).mono ?_
    rintro _ _ ⟨rfl,rfl⟩
    cases h2:isCapital c
    · simp -implicitDefEqProofs -dsimp only [go_sem,↓reduceIte,zE,zB,zA,zM,zS,zL,reduceCtorEq]
      refine (digit_c gl c _).mono ?_
      rintro _ _ ⟨rfl,rfl⟩
      simp -implicitDefEqProofs -dsimp only [go_sem,↓reduceIte,zE,zB,zA,zM,zS,zL,reduceCtorEq]
      exact outK_self ⟨by simp [isAlnum,h1,h2],rfl⟩
    · simp -implicitDefEqProofs -dsimp only [go_sem,↓reduceIte,zE,zB,zA,zM,zS,zL,reduceCtorEq]
      exact outK_self ⟨by simp [isAlnum,h1,h2],rfl⟩
  · simp -implicitDefEqProofs -dsimp only [go_sem,↓reduceIte,zE,zB,zA,zM,zS,zL,reduceCtorEq]
    exact outK_self ⟨by simp [isAlnum,h1],rfl⟩
end Go.Proofs.Tryz
