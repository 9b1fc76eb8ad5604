/- Walks: checkers of names.
   Walks: right terms. -/
import Derived.Test.YtckafgnkmnichaaGreatDoorKF
set_option linter.all false
open Nat renaming reduceEqDiff → zE,reduceBEq → zB,reduceAdd → zA,reduceMul → zM,reduceSub → zS,reduceLeDiff → zL
attribute [local go_sem] Go.Iv.cf Go.Iv.setAt List.all_cons List.all_nil Bool.and_self Bool.true_and Bool.and_true Bool.false_and Bool.and_false Bool.not_true Bool.not_false List.mem_nil_iff if_false if_true beq_self_eq_true Nat.zero_add Nat.add_zero List.getElem?_cons_zero List.getElem?_cons_succ Option.map_some List.mem_cons or_false false_or or_true true_or Nat.sub_zero forall_const Int.toNat_natCast List.length_cons List.length_nil List.map_cons List.map_nil List.take_succ_cons List.take_zero List.drop_zero List.drop_succ_cons List.cons_append List.nil_append List.append_nil and_true true_and and_self true_implies List.zip_cons_cons List.zip_nil_left
namespace Go.Proofs.Tryz
open Go Go.Iv
set_option maxRecDepth 4000
variable (gl:Nat → Option IV)

theorem reserved_c (s:ByteArray) (st:ISt):ICall prog gl 326 [.raw (.string s)] st (fun x st' => x = .raw (.bool (isReserved s)) ∧ st' = st):=by
  refine ICall.intro (c:=cf prog gl [] []) func326 rfl (by show _ ≤ 11; simp) (by kernel_rfl) ?_
  simp -implicitDefEqProofs -dsimp only [go_sem,↓reduceIte,zE,zB,zA,zM,zS,zL,reduceCtorEq]
  refine condV_intro (fun h => ?_) (fun h => ?_)
  · simp -implicitDefEqProofs -dsimp only [go_sem,↓reduceIte,zE,zB,zA,zM,zS,zL,reduceCtorEq,h]
    exact outK_self ⟨by rw [show s = wAll from of_decide_eq_true h]; rfl,rfl⟩
  have h1:s ≠ wAll:=of_decide_eq_false h
  simp -implicitDefEqProofs -dsimp only [go_sem,↓reduceIte,zE,zB,zA,zM,zS,zL,reduceCtorEq,h]
  refine condV_intro (fun h => ?_) (fun h => ?_)
  · simp -implicitDefEqProofs -dsimp only [go_sem,↓reduceIte,zE,zB,zA,zM,zS,zL,reduceCtorEq,h]
    exact outK_self ⟨by rw [show s = wSome from of_decide_eq_true h]; rfl,rfl⟩
  have h2:s ≠ wSome:=of_decide_eq_false h
  simp -implicitDefEqProofs -dsimp only [go_sem,↓reduceIte,zE,zB,zA,zM,zS,zL,reduceCtorEq,h]
  refine condV_intro (fun h => ?_) (fun h => ?_)
  · simp -implicitDefEqProofs -dsimp only [go_sem,↓reduceIte,zE,zB,zA,zM,zS,zL,reduceCtorEq,h]
    exact outK_self ⟨by rw [show s = wFalse from of_decide_eq_true h]; rfl,rfl⟩
  have h3:s ≠ wFalse:=of_decide_eq_false h
  simp -implicitDefEqProofs -dsimp only [go_sem,↓reduceIte,zE,zB,zA,zM,zS,zL,reduceCtorEq,h]
  refine condV_intro (fun h => ?_) (fun h => ?_)
  · simp -implicitDefEqProofs -dsimp only [go_sem,↓reduceIte,zE,zB,zA,zM,zS,zL,reduceCtorEq,h]
    exact outK_self ⟨by rw [show s = wNext from of_decide_eq_true h]; rfl,rfl⟩
  have h4:s ≠ wNext:=of_decide_eq_false h
  simp -implicitDefEqProofs -dsimp only [go_sem,↓reduceIte,zE,zB,zA,zM,zS,zL,reduceCtorEq,h]
  refine condV_intro (fun h => ?_) (fun h => ?_)
  · simp -implicitDefEqProofs -dsimp only [go_sem,↓reduceIte,zE,zB,zA,zM,zS,zL,reduceCtorEq,h]
    exact outK_self ⟨by rw [show s = wAlways from of_decide_eq_true h]; rfl,rfl⟩
  have h5:s ≠ wAlways:=of_decide_eq_false h
  simp -implicitDefEqProofs -dsimp only [go_sem,↓reduceIte,zE,zB,zA,zM,zS,zL,reduceCtorEq,h]
  refine condV_intro (fun h => ?_) (fun h => ?_)
  · simp -implicitDefEqProofs -dsimp only [go_sem,↓reduceIte,zE,zB,zA,zM,zS,zL,reduceCtorEq,h]
    exact outK_self ⟨by rw [show s = wUntil from of_decide_eq_true h]; rfl,rfl⟩
  have h6:s ≠ wUntil:=of_decide_eq_false h
  simp -implicitDefEqProofs -dsimp only [go_sem,↓reduceIte,zE,zB,zA,zM,zS,zL,reduceCtorEq,h]
  exact outK_self ⟨by rw [show isReserved s = false by unfold isReserved; rw [decide_eq_false h1,decide_eq_false h2,decide_eq_false h3,decide_eq_false h4,decide_eq_false h5,decide_eq_false h6]; rfl],rfl⟩

theorem size_list (s:ByteArray):s.size = s.data.toList.length:=Array.length_toList.symm
theorem strAt_of {s:ByteArray} {k:Nat} {c:UInt8} (h:s.data.toList[k]? = some c):strAt s (k:Int) = some c:=by
  unfold strAt
  rw [if_pos (by omega)]
  have hk:k < s.size:=by rw [size_list]; exact (List.getElem?_eq_some_iff.1 h).1
  rw [Int.toNat_natCast]
  rw [getElem?_pos s k hk]
  have h2:=(List.getElem?_eq_some_iff.1 h).2
  rw [← h2]; rfl
theorem strAt_zero {s:ByteArray} {c:UInt8} {cs:List UInt8} (h:s.data.toList = c :: cs):strAt s 0 = some c:=strAt_of (k:=0) (by rw [h]; rfl)

theorem checker1_c (p q:FuncId) (P Q:UInt8 → Bool) (ep:entI prog p = true) (eq:entI prog q = true)
    (hp:∀ c st,ICall prog gl p [.raw (.int .u8 (UInt8.toNat c))] st (fun x st' => x = .raw (.bool (P c)) ∧ st' = st))
    (hq:∀ c st,ICall prog gl q [.raw (.int .u8 (UInt8.toNat c))] st (fun x st' => x = .raw (.bool (Q c)) ∧ st' = st)) (s:ByteArray) (st:ISt) :
    ICall prog gl 325 [.raw (.string s),.cptr (.fn (.func p) [] []),.cptr (.fn (.func q) [] [])] st (fun x st' => x = .raw (.bool (nameOf P Q s)) ∧ st' = st):=by
  refine ICall.intro (c:=cf prog gl [] []) func325 rfl (by show _ ≤ 37; simp) (by kernel_rfl) ?_
  have hsz:=size_list s
  cases hl:s.data.toList with
  | nil =>
    rw [hl] at hsz
    have h1:decide (((s.size:Nat):Int) < 1) = true:=by rw [hsz]; rfl
    simp -implicitDefEqProofs -dsimp only [go_sem,↓reduceIte,zE,zB,zA,zM,zS,zL,reduceCtorEq,h1]
    exact outK_self ⟨by simp [nameOf,hl],rfl⟩
  | cons c cs =>
    rw [hl] at hsz
    have h1:decide (((s.size:Nat):Int) < 1) = false:=by rw [hsz]; simp; omega
    by_cases h16:cs.length < 16
    · have h2:decide ((16:Int) < ((s.size:Nat):Int)) = false:=by rw [hsz]; simp; omega
      simp -implicitDefEqProofs -dsimp only [go_sem,↓reduceIte,zE,zB,zA,zM,zS,zL,reduceCtorEq,h1,h2]
      refine (reserved_c gl s _).mono ?_
      rintro _ st ⟨rfl,rfl⟩
      cases h3:isReserved s
      · simp -implicitDefEqProofs -dsimp only [go_sem,↓reduceIte,zE,zB,zA,zM,zS,zL,reduceCtorEq,strAt_zero hl,fits,ep]
        refine (hp c _).mono ?_
        rintro _ st ⟨rfl,rfl⟩
        cases h4:P c
        · simp -implicitDefEqProofs -dsimp only [go_sem,↓reduceIte,zE,zB,zA,zM,zS,zL,reduceCtorEq]
          exact outK_self ⟨by simp [nameOf,hl,h4],rfl⟩
        · simp -implicitDefEqProofs -dsimp only [go_sem,↓reduceIte,zE,zB,zA,zM,zS,zL,reduceCtorEq]
          refine LoopC.ctr cs.length (fun k fr st' ds => (cs.take k).all Q = true ∧ fr 0 = .iv (.raw (.string s)) ∧ fr 2 = .iv (.cptr (.fn (.func q) [] [])) ∧ fr 5 = .iv (.raw (.int .i64 ((k + 1:Nat):Int))) ∧ st' = st ∧ ds = []) ?_ ?_ ?_
          · simp -implicitDefEqProofs -dsimp only [go_sem,↓reduceIte,zE,zB,zA,zM,zS,zL,reduceCtorEq]; rfl
          · rintro k fr st' ds hlt ⟨hn,h0,h2',h5,rfl,rfl⟩
            obtain ⟨x,hx⟩:=get_of_lt hlt
            have hlt':decide (((k + 1:Nat):Int) < ((s.size:Nat):Int)) = true:=by rw [hsz]; simp; omega
            have hx':strAt s ((k + 1:Nat):Int) = some x:=strAt_of (by rw [hl]; simpa using hx)
            have hw:IntKind.i64.wrap (((k + 1:Nat):Int) + 1) = ((k + 1 + 1:Nat):Int):=by rw [w64] <;> omega
            simp -implicitDefEqProofs -dsimp only [go_sem,↓reduceIte,zE,zB,zA,zM,zS,zL,reduceCtorEq,h0,h2',h5,hlt',hx',fits,eq]
            intro _
            refine (hq x _).mono ?_
            rintro _ st ⟨rfl,rfl⟩
            cases h6:Q x
            · simp -implicitDefEqProofs -dsimp only [go_sem,↓reduceIte,zE,zB,zA,zM,zS,zL,reduceCtorEq]
              exact outK_self ⟨by
                have:cs.all Q = false:=by rw [List.all_eq_false]; exact ⟨x,List.mem_of_getElem? hx,by simp [h6]⟩
                simp [nameOf,hl,this],rfl⟩
            · simp -implicitDefEqProofs -dsimp only [go_sem,↓reduceIte,zE,zB,zA,zM,zS,zL,reduceCtorEq,h0,h2',h5,hw]
              rw [take_get hx,List.all_append,hn]; simp [h6]
          · rintro fr st' ds ⟨hn,h0,h2',h5,rfl,rfl⟩
            have hlt':decide (((cs.length + 1:Nat):Int) < ((s.size:Nat):Int)) = false:=by rw [hsz]; simp
            simp -implicitDefEqProofs -dsimp only [go_sem,↓reduceIte,zE,zB,zA,zM,zS,zL,reduceCtorEq,h0,h5,hlt']
            intro _
            rw [List.take_length] at hn
            exact outK_self ⟨by simp [nameOf,hl,h3,h4,h16,hn],rfl⟩
      · simp -implicitDefEqProofs -dsimp only [go_sem,↓reduceIte,zE,zB,zA,zM,zS,zL,reduceCtorEq]
        exact outK_self ⟨by simp [nameOf,hl,h3],rfl⟩
    · have h2:decide ((16:Int) < ((s.size:Nat):Int)) = true:=by rw [hsz]; simp; omega
      simp -implicitDefEqProofs -dsimp only [go_sem,↓reduceIte,zE,zB,zA,zM,zS,zL,reduceCtorEq,h1,h2]
      exact outK_self ⟨by simp [nameOf,hl,h16],rfl⟩
end Go.Proofs.Tryz

namespace Go.Proofs.Tryz
open Go Go.Iv
set_option maxRecDepth 4000
variable (gl:Nat → Option IV)

theorem checker_c (p q:FuncId) (st:ISt):ICall prog gl 294 [.fn (.func p) [] [],.fn (.func q) [] []] st
    (fun x st' => x = .fn (.func 325) [] [.cptr (.fn (.func p) [] []),.cptr (.fn (.func q) [] [])] ∧ st' = st):=by
  refine ICall.intro (c:=cf prog gl [] [] [2,3]) func294 rfl (by show _ ≤ 6; simp) (by kernel_rfl) ?_
  simp -implicitDefEqProofs -dsimp only [go_sem,↓reduceIte,zE,zB,zA,zM,zS,zL,reduceCtorEq]
  exact outK_self ⟨rfl,rfl⟩
theorem Variable_c (s:ByteArray) (st:ISt):ICall prog gl 244 [.raw (.string s)] st (fun x st' => x = .raw (.bool (nmVar s)) ∧ st' = st):=by
  refine ICall.intro (c:=cf prog gl [] []) func244 rfl (by show _ ≤ 6; simp) (by kernel_rfl) ?_
  simp -implicitDefEqProofs -dsimp only [go_sem,↓reduceIte,zE,zB,zA,zM,zS,zL,reduceCtorEq]
  refine (checker_c gl _ _ _).mono ?_
  rintro _ st ⟨rfl,rfl⟩
  simp -implicitDefEqProofs -dsimp only [go_sem,↓reduceIte,zE,zB,zA,zM,zS,zL,reduceCtorEq]
  refine (checker1_c gl _ _ (inB 117 122) isDigit (by simp only [go_sem]) (by simp only [go_sem]) (var1_c gl) (digit_c gl) s _).mono ?_
  rintro _ st ⟨rfl,rfl⟩
  simp -implicitDefEqProofs -dsimp only [go_sem,↓reduceIte,zE,zB,zA,zM,zS,zL,reduceCtorEq]
  exact outK_self ⟨rfl,rfl⟩
theorem Function_c (s:ByteArray) (st:ISt):ICall prog gl 271 [.raw (.string s)] st (fun x st' => x = .raw (.bool (nmFun s)) ∧ st' = st):=by
  refine ICall.intro (c:=cf prog gl [] []) func271 rfl (by show _ ≤ 6; simp) (by kernel_rfl) ?_
  simp -implicitDefEqProofs -dsimp only [go_sem,↓reduceIte,zE,zB,zA,zM,zS,zL,reduceCtorEq]
  refine (checker_c gl _ _ _).mono ?_
  rintro _ st ⟨rfl,rfl⟩
  simp -implicitDefEqProofs -dsimp only [go_sem,↓reduceIte,zE,zB,zA,zM,zS,zL,reduceCtorEq]
  refine (checker1_c gl _ _ (inB 97 116) isAlnum (by simp only [go_sem]) (by simp only [go_sem]) (fun1_c gl) (alnum_c gl) s _).mono ?_
  rintro _ st ⟨rfl,rfl⟩
  simp -implicitDefEqProofs -dsimp only [go_sem,↓reduceIte,zE,zB,zA,zM,zS,zL,reduceCtorEq]
  exact outK_self ⟨rfl,rfl⟩
theorem Predicate_c (s:ByteArray) (st:ISt):ICall prog gl 243 [.raw (.string s)] st (fun x st' => x = .raw (.bool (nmPred s)) ∧ st' = st):=by
  refine ICall.intro (c:=cf prog gl [] []) func243 rfl (by show _ ≤ 6; simp) (by kernel_rfl) ?_
  simp -implicitDefEqProofs -dsimp only [go_sem,↓reduceIte,zE,zB,zA,zM,zS,zL,reduceCtorEq]
  refine (checker_c gl _ _ _).mono ?_
  rintro _ st ⟨rfl,rfl⟩
  simp -implicitDefEqProofs -dsimp only [go_sem,↓reduceIte,zE,zB,zA,zM,zS,zL,reduceCtorEq]
  refine (checker1_c gl _ _ isCapital isAlnum (by simp only [go_sem]) (by simp only [go_sem]) (capital_c gl) (alnum_c gl) s _).mono ?_
  rintro _ st ⟨rfl,rfl⟩
  simp -implicitDefEqProofs -dsimp only [go_sem,↓reduceIte,zE,zB,zA,zM,zS,zL,reduceCtorEq]
  exact outK_self ⟨rfl,rfl⟩
def namedB (k:Nat) (s:ByteArray):Bool:=match k with | 1 => nmPred s | 2 => nmVar s | _ => decide (s = ⟨#[]⟩)
theorem named_c (k:Nat) (hk:k ≤ 2) (s:ByteArray) (st:ISt):ICall prog gl 182 [.raw (.int .u8 k),.raw (.string s)] st (fun x st' => x = .raw (.bool (namedB k s)) ∧ st' = st):=by
  refine ICall.intro (c:=cf prog gl [] []) func182 rfl (by show _ ≤ 20; simp) (by kernel_rfl) ?_
  match k,hk with
  | 0,_ =>
    simp -implicitDefEqProofs -dsimp only [go_sem,↓reduceIte,zE,zB,zA,zM,zS,zL,reduceCtorEq,show decide (((0:Nat):Int) = 1) = false from rfl,show decide (((0:Nat):Int) = 2) = false from rfl,show decide (((0:Nat):Int) = 3) = false from rfl]
    exact outK_self ⟨rfl,rfl⟩
  | 1,_ =>
    simp -implicitDefEqProofs -dsimp only [go_sem,↓reduceIte,zE,zB,zA,zM,zS,zL,reduceCtorEq,show decide (((1:Nat):Int) = 1) = true from rfl]
    refine (Predicate_c gl s _).mono ?_
    rintro _ st ⟨rfl,rfl⟩
    simp -implicitDefEqProofs -dsimp only [go_sem,↓reduceIte,zE,zB,zA,zM,zS,zL,reduceCtorEq]
    exact outK_self ⟨rfl,rfl⟩
  | 2,_ =>
    simp -implicitDefEqProofs -dsimp only [go_sem,↓reduceIte,zE,zB,zA,zM,zS,zL,reduceCtorEq,show decide (((2:Nat):Int) = 1) = false from rfl,show decide (((2:Nat):Int) = 2) = true from rfl]
    refine (Variable_c gl s _).mono ?_
    rintro _ st ⟨rfl,rfl⟩
    simp -implicitDefEqProofs -dsimp only [go_sem,↓reduceIte,zE,zB,zA,zM,zS,zL,reduceCtorEq]
    exact outK_self ⟨rfl,rfl⟩

def jBox (l d:Int):Option IObj:=some (.box [.raw (.bool false),.raw (.int .i64 l),.raw (.int .i64 d)])

theorem node_c (b:Nat) (st:ISt) (l d dep:Int) (hb:st b = jBox l d) (h0:0 ≤ l) (h1:l ≤ 9223372036854775807) :
    ICall prog gl 181 [.raw (.pointer (some ⟨b,0,none⟩)),.raw (.int .i64 dep)] st (fun x st' => x = .raw (.bool (decide (1 ≤ l) && decide (dep ≤ d))) ∧ st' = st.put b (jBox (l - 1) d)):=by
  refine ICall.intro (c:=cf prog gl [] []) func181 rfl (by show _ ≤ 25; simp) (by kernel_rfl) ?_
  have hw:IntKind.i64.wrap (l - 1) = l - 1:=w64 (by omega) (by omega)
  simp -implicitDefEqProofs -dsimp only [go_sem,↓reduceIte,zE,zB,zA,zM,zS,zL,reduceCtorEq,hb,jBox,hw]
  refine guardV_intro (fun h => ?_) (fun h => ?_)
  · have h':1 ≤ l:=by simp at h; omega
    simp -implicitDefEqProofs -dsimp only [go_sem,↓reduceIte,zE,zB,zA,zM,zS,zL,reduceCtorEq]
    exact outK_self ⟨by simp [h'],rfl⟩
  · have h':¬ 1 ≤ l:=by simp at h; omega
    simp -implicitDefEqProofs -dsimp only [go_sem,↓reduceIte,zE,zB,zA,zM,zS,zL,reduceCtorEq]
    exact outK_self ⟨by simp [h'],rfl⟩

def jPost (b:Nat) (st:ISt) (l d:Int) (r:Bool) (sz:Nat) (x:IV) (st':ISt):Prop:=x = .raw (.bool r) ∧ ∃ l',st' = st.put b (jBox l' d) ∧ (r = true → l' = l - sz)
def tmR (t:Tm) (l d dep:Int):Bool:=decide ((t.size:Int) ≤ l) && decide (dep + t.deep ≤ d + 1) && t.ok
def tmsR (t:List Tm) (l d dep:Int):Bool:=decide ((sizeTms t:Int) ≤ l) && decide (deepTms t = 0 ∨ dep + deepTms t ≤ d + 1) && okTms t
theorem tmsR_cons (a:Tm) (m:List Tm) (l d dep:Int):tmsR (a :: m) l d dep = (tmR a l d dep && tmsR m (l - a.size) d dep):=by
  rw [Bool.eq_iff_iff]
  have h1:=a.deep_pos
  simp only [tmsR,tmR,Bool.and_eq_true,decide_eq_true_eq]
  simp only [sizeTms,deepTms,okTms,Bool.and_eq_true]
  constructor
  · rintro ⟨⟨h2,h3⟩,h4,h5⟩
    refine ⟨⟨⟨by omega,by omega⟩,h4⟩,⟨by omega,by omega⟩,h5⟩
  · rintro ⟨⟨⟨h2,h3⟩,h4⟩,⟨h5,h6⟩,h7⟩
    exact ⟨⟨by omega,by omega⟩,h4,h7⟩

theorem tmsR_append (a m:List Tm) (l d dep:Int):tmsR (a ++ m) l d dep = (tmsR a l d dep && tmsR m (l - sizeTms a) d dep):=by
  induction a generalizing l with
  | nil =>
    simp only [List.nil_append,sizeTms,Int.natCast_zero,Int.sub_zero]
    rw [Bool.eq_iff_iff]
    simp only [tmsR,Bool.and_eq_true,decide_eq_true_eq]
    simp only [sizeTms,deepTms,okTms]
    constructor
    · rintro ⟨⟨h1,h2⟩,h3⟩
      exact ⟨⟨⟨by omega,by simp⟩,trivial⟩,⟨h1,h2⟩,h3⟩
    · rintro ⟨_,⟨h1,h2⟩,h3⟩
      exact ⟨⟨h1,h2⟩,h3⟩
  | cons x a ih =>
    rw [List.cons_append,tmsR_cons,ih,tmsR_cons,Bool.and_assoc]
    congr 3
    simp only [sizeTms]; omega
theorem tmR_fun (n:ByteArray) (m:List Tm) (l d dep:Int):tmR (.mk false n m) l d dep = (((decide (1 ≤ l) && decide (dep ≤ d)) && decide (m.length ≤ 4) && nmFun n) && tmsR m (l - 1) d (dep + 1)):=by
  rw [Bool.eq_iff_iff]
  simp only [tmsR,tmR,Bool.and_eq_true,decide_eq_true_eq]
  simp only [Tm.size,Tm.deep,Tm.ok,Bool.and_eq_true,decide_eq_true_eq]
  constructor
  · rintro ⟨⟨h2,h3⟩,⟨h4,h5⟩,h6⟩
    refine ⟨⟨⟨⟨by omega,by omega⟩,h4⟩,h5⟩,⟨by omega,by omega⟩,h6⟩
  · rintro ⟨⟨⟨⟨h1,h2⟩,h3⟩,h4⟩,⟨h5,h6⟩,h7⟩
    exact ⟨⟨by omega,by omega⟩,⟨h3,h4⟩,h7⟩
theorem tmR_var (n:ByteArray) (m:List Tm) (l d dep:Int):tmR (.mk true n m) l d dep = (((decide (1 ≤ l) && decide (dep ≤ d)) && decide (m.length = 0)) && nmVar n):=by
  rw [Bool.eq_iff_iff]
  cases m with
  | nil =>
    simp only [tmR,Bool.and_eq_true,decide_eq_true_eq]
    simp only [Tm.size,Tm.deep,Tm.ok,sizeTms,deepTms,List.isEmpty,Bool.and_eq_true,List.length_nil]
    constructor
    · rintro ⟨⟨h1,h2⟩,_,h4⟩
      exact ⟨⟨⟨by omega,by omega⟩,trivial⟩,h4⟩
    · rintro ⟨⟨⟨h1,h2⟩,_⟩,h4⟩
      exact ⟨⟨by omega,by omega⟩,by trivial,h4⟩
  | cons a m => simp [tmR,Tm.ok]

theorem size_args {v:Bool} {n:ByteArray} {us:List Tm} {l:List Tm} (h:Tm.mk v n us ∈ l):SizeOf.sizeOf us < SizeOf.sizeOf l:=by
  have:=List.sizeOf_lt_of_mem h
  simp at this; omega

mutual
theorem jterm_c (v:Bool) (n:ByteArray) (us:List Tm) (x:IV) (hx:IsTm (.mk v n us) x) (b:Nat) (st:ISt) (l d dep:Int) (hb:st b = jBox l d) (h0:0 ≤ l) (h1:l ≤ 9223372036854775807) (h2:0 ≤ dep) (h3:dep + (Tm.mk v n us).size ≤ 4611686018427387904) :
    ICall prog gl 218 [.raw (.pointer (some ⟨b,0,none⟩)),x,.raw (.int .i64 dep)] st (jPost b st l d (tmR (.mk v n us) l d dep) (Tm.mk v n us).size):=by
  obtain ⟨tg,xs,rfl,htg,hxs⟩:=hx.mk
  refine ICall.intro (c:=cf prog gl [] []) func218 rfl (by show _ ≤ 50; simp) (by kernel_rfl) ?_
  simp -implicitDefEqProofs -dsimp only [go_sem,↓reduceIte,zE,zB,zA,zM,zS,zL,reduceCtorEq]
  refine (node_c gl b _ l d dep hb h0 h1).mono ?_
  rintro _ _ ⟨rfl,rfl⟩
  cases hn:(decide (1 ≤ l) && decide (dep ≤ d))
  · simp -implicitDefEqProofs -dsimp only [go_sem,↓reduceIte,zE,zB,zA,zM,zS,zL,reduceCtorEq]
    refine outK_self ⟨?_,_,rfl,?_⟩ <;> cases v <;> simp [tmR_fun,tmR_var,hn]
  · have hn':1 ≤ l ∧ dep ≤ d:=by simpa using hn
    cases v
    · simp only [Tm.size] at h3
      have hw:IntKind.i64.wrap (dep + 1) = dep + 1:=w64 (by omega) (by omega)
      by_cases h4:us.length ≤ 4
      · have h4':decide ((us.length:Int) ≤ 4) = true:=by simp; omega
        simp -implicitDefEqProofs -dsimp only [go_sem,↓reduceIte,zE,zB,zA,zM,zS,zL,reduceCtorEq,hxs.len,h4']
        intro _
        refine (Function_c gl n _).mono ?_
        rintro _ _ ⟨rfl,rfl⟩
        cases hf:nmFun n
        · simp -implicitDefEqProofs -dsimp only [go_sem,↓reduceIte,zE,zB,zA,zM,zS,zL,reduceCtorEq]
          refine outK_self ⟨?_,_,rfl,?_⟩ <;> simp [tmR_fun,hf]
        · simp -implicitDefEqProofs -dsimp only [go_sem,↓reduceIte,zE,zB,zA,zM,zS,zL,reduceCtorEq,hw]
          refine (jterms_c us tg xs htg hxs b _ (l - 1) d (dep + 1) (ISt.put_same _ _ _) (by omega) (by omega) (by omega) (by omega)).mono ?_
          rintro _ _ ⟨rfl,l',rfl,hl'⟩
          simp -implicitDefEqProofs -dsimp only [go_sem,↓reduceIte,zE,zB,zA,zM,zS,zL,reduceCtorEq]
          refine outK_self ⟨by simp [tmR_fun,hn,hf,h4],l',put_put_same _ _ _ _,?_⟩
          intro hr
          rw [tmR_fun] at hr
          simp only [Bool.and_eq_true] at hr
          have:=hl' hr.2
          simp only [Tm.size]; omega
      · have h4':decide ((us.length:Int) ≤ 4) = false:=by simp; omega
        simp -implicitDefEqProofs -dsimp only [go_sem,↓reduceIte,zE,zB,zA,zM,zS,zL,reduceCtorEq,hxs.len,h4']
        intro _
        refine outK_self ⟨?_,_,rfl,?_⟩ <;> simp [tmR_fun,h4]
    · by_cases h4:us.length = 0
      · have h4':decide ((us.length:Int) = 0) = true:=decide_eq_true (by omega)
        simp -implicitDefEqProofs -dsimp only [go_sem,↓reduceIte,zE,zB,zA,zM,zS,zL,reduceCtorEq,hxs.len,h4']
        intro _
        refine (Variable_c gl n _).mono ?_
        rintro _ _ ⟨rfl,rfl⟩
        cases hf:nmVar n
        · simp -implicitDefEqProofs -dsimp only [go_sem,↓reduceIte,zE,zB,zA,zM,zS,zL,reduceCtorEq,ISt.put_same,jBox]
          refine outK_self ⟨?_,_,rfl,?_⟩ <;> simp [tmR_var,hf]
        · simp -implicitDefEqProofs -dsimp only [go_sem,↓reduceIte,zE,zB,zA,zM,zS,zL,reduceCtorEq]
          refine outK_self ⟨?_,_,rfl,?_⟩
          · simp [tmR_var,hf,hn,h4]
          · intro _
            have:us = []:=List.eq_nil_of_length_eq_zero h4
            subst this
            simp [Tm.size,sizeTms]
      · have h4':decide ((us.length:Int) = 0) = false:=decide_eq_false (by omega)
        simp -implicitDefEqProofs -dsimp only [go_sem,↓reduceIte,zE,zB,zA,zM,zS,zL,reduceCtorEq,hxs.len,h4']
        intro _
        refine outK_self ⟨?_,_,rfl,?_⟩ <;> simp [tmR_var,h4]
termination_by 2 * SizeOf.sizeOf us + 1
decreasing_by all_goals omega
theorem jterms_c (us:List Tm) (tg:Tag) (xs:List IV) (htg:okEs tg 3) (hxs:IsTms us xs) (b:Nat) (st:ISt) (l d dep:Int) (hb:st b = jBox l d) (h0:0 ≤ l) (h1:l ≤ 9223372036854775807) (h2:0 ≤ dep)
    (h3:dep + sizeTms us ≤ 4611686018427387904) :
    ICall prog gl 184 [.raw (.pointer (some ⟨b,0,none⟩)),.sl tg xs,.raw (.int .i64 dep)] st (jPost b st l d (tmsR us l d dep) (sizeTms us)):=by
  refine ICall.intro (c:=cf prog gl [] []) func184 rfl (by show _ ≤ 21; simp) (by kernel_rfl) ?_
  simp -implicitDefEqProofs -dsimp only [go_sem,↓reduceIte,zE,zB,zA,zM,zS,zL,reduceCtorEq,hxs.len]
  intro hlen
  refine LoopC.ctr us.length (fun k fr st' ds => tmsR (us.take k) l d dep = true ∧ fr 0 = .iv (.raw (.pointer (some ⟨b,0,none⟩))) ∧ fr 2 = .iv (.raw (.int .i64 dep)) ∧ fr 9 = .iv (.sl tg xs) ∧
    fr 10 = .iv (.raw (.int .i64 us.length)) ∧ fr 11 = .iv (.raw (.int .i64 k)) ∧ st' = st.put b (jBox (l - sizeTms (us.take k)) d) ∧ ds = []) ?_ ?_ ?_
  · have:l - (sizeTms ([]:List Tm):Int) = l:=by simp [sizeTms]
    simp -implicitDefEqProofs -dsimp only [go_sem,↓reduceIte,zE,zB,zA,zM,zS,zL,reduceCtorEq,this,put_self hb]
    simp [tmsR,sizeTms,deepTms,okTms,h0]
  · rintro k fr _ ds hlt ⟨hn,f0,f2,f9,f10,f11,rfl,rfl⟩
    obtain ⟨a,ha⟩:=get_of_lt hlt
    obtain ⟨x,hkx,hx⟩:=hxs.get ha
    obtain ⟨hs1,hs2⟩:=sizeTms_take ha
    obtain ⟨v,n,m⟩:=a
    obtain ⟨tx,cx,rfl,_⟩:=hx.mk
    have hle:(sizeTms (us.take k):Int) ≤ l:=by
      simp only [tmsR,Bool.and_eq_true,decide_eq_true_eq] at hn; exact hn.1.1
    simp -implicitDefEqProofs -dsimp only [go_sem,↓reduceIte,zE,zB,zA,zM,zS,zL,reduceCtorEq,f0,f2,f9,f10,f11,lt_i hlt,reTag_es htg,Int.natCast_nonneg,hkx,w_succ hlt (by omega)]
    refine (jterm_c v n m _ hx b _ (l - sizeTms (us.take k)) d dep (ISt.put_same _ _ _) (by omega) (by omega) h2 (by omega)).mono ?_
    rintro _ _ ⟨rfl,l',rfl,hl'⟩
    cases hr:tmR (.mk v n m) (l - sizeTms (us.take k)) d dep
    · simp -implicitDefEqProofs -dsimp only [go_sem,↓reduceIte,zE,zB,zA,zM,zS,zL,reduceCtorEq]
      refine outK_self ⟨?_,l',put_put_same _ _ _ _,?_⟩
      all_goals
        have hf:tmsR us l d dep = false:=by
          rw [← List.take_append_drop k us,List.drop_eq_getElem_cons hlt]
          rw [tmsR_append,(List.getElem?_eq_some_iff.1 ha).2,tmsR_cons,hr]; simp
        simp [hf]
    · have hl2:=hl' hr
      subst hl2
      simp -implicitDefEqProofs -dsimp only [go_sem,↓reduceIte,zE,zB,zA,zM,zS,zL,reduceCtorEq,f0,f2,f9,f10,f11,w_succ hlt (by omega),put_put_same]
      refine ⟨?_,?_⟩
      · rw [take_get ha,tmsR_append,hn,tmsR_cons,hr]; simp only [tmR,Bool.and_eq_true,decide_eq_true_eq] at hr; simp [tmsR,sizeTms,deepTms,okTms]; omega
      · rw [hs1]; congr 2; omega
  · rintro fr _ ds ⟨hn,f0,f2,f9,f10,f11,rfl,rfl⟩
    simp -implicitDefEqProofs -dsimp only [go_sem,↓reduceIte,zE,zB,zA,zM,zS,zL,reduceCtorEq,f10,f11,nlt_i (Nat.lt_irrefl _)]
    rw [List.take_length] at hn
    refine outK_self ⟨by rw [hn],_,rfl,?_⟩
    rw [List.take_length]; intro _; rfl
termination_by 2 * SizeOf.sizeOf us
decreasing_by have:=size_args (List.mem_of_getElem? ha); omega
end
end Go.Proofs.Tryz
