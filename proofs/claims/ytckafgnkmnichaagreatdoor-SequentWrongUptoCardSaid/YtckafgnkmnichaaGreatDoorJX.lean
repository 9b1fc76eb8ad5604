/- Walks: least. -/
import Derived.Test.YtckafgnkmnichaaGreatDoorJW
set_option linter.all false
namespace Go.Proofs.Tryz
open Go Go.Iv
set_option maxRecDepth 4000
open Nat renaming reduceEqDiff → zE,reduceBEq → zB,reduceAdd → zA,reduceMul → zM,reduceSub → zS,reduceLeDiff → zL
attribute [local go_sem] cf setAt List.all_cons List.all_nil Bool.and_self Bool.true_and Bool.and_true Bool.false_and Bool.and_false Bool.not_true Bool.not_false List.mem_nil_iff if_false if_true beq_self_eq_true Nat.zero_add Nat.add_zero List.getElem?_cons_zero List.getElem?_cons_succ Option.map_some List.mem_cons or_false false_or or_true true_or Nat.sub_zero forall_const Int.toNat_natCast List.length_cons List.length_nil List.map_cons List.map_nil List.take_succ_cons List.take_zero List.drop_zero List.drop_succ_cons List.cons_append List.nil_append List.append_nil and_true true_and and_self true_implies List.zip_cons_cons List.zip_nil_left
variable (gl:Nat → Option IV)

def SetOk (es:List (Value × IV)) (l:List ByteArray):Prop:=∀ s,(findI (.string s) es).getD (.raw (.bool false)) = .raw (.bool (memB l s))
theorem SetOk.look {es:List (Value × IV)} {l:List ByteArray} (h:SetOk es l) (s:ByteArray):lookI false (findI (.string s) es) (.raw (.bool false)) = some (.raw (.bool (memB l s))):=by
  unfold lookI
  simp only [Bool.false_eq_true,if_false,h s]
theorem memB_append (l m:List ByteArray) (n:ByteArray):memB (l ++ m) n = (memB l n || memB m n):=by simp [memB]
theorem SetOk.upd {es:List (Value × IV)} {l:List ByteArray} (h:SetOk es l) (n:ByteArray):SetOk (updI (.string n) (.raw (.bool true)) es) (l ++ [n]):=fun s => by
  rw [findI_updI,memB_append]
  by_cases hs:s = n
  · subst hs; simp [memB]
  · rw [if_neg hs,h s]
    have:memB [n] s = false:=by simp [hs]
    rw [this,Bool.or_false]
theorem SetOk.nil:SetOk [] []:=fun _ => rfl
theorem SetOk.ofE (l:List ByteArray):SetOk (setE l) l:=by
  suffices h:∀ (l m:List ByteArray) (es:List (Value × IV)),SetOk es m → SetOk (l.foldl (fun es s => updI (.string s) (.raw (.bool true)) es) es) (m ++ l) by
    have:=h l [] [] SetOk.nil
    rw [List.nil_append] at this
    exact this
  intro l
  induction l with
  | nil => intro m es h; simpa using h
  | cons a l ih =>
    intro m es h
    have:=ih (m ++ [a]) _ (h.upd a)
    simpa using this

abbrev Ms:=List (Nat × List ByteArray)
def msI (ms:Ms):List IV:=ms.map fun p => .raw (.map (some p.1))
def MsOk (ms:Ms) (st:ISt):Prop:=∀ p ∈ ms,∃ es,st p.1 = some (.map .str es) ∧ SetOk es p.2
def allM (ms:Ms):List ByteArray:=ms.flatMap (·.2)
theorem msI_length (ms:Ms):(msI ms).length = ms.length:=by simp [msI]
theorem msI_get {ms:Ms} {k:Nat} {p:Nat × List ByteArray} (h:ms[k]? = some p):(msI ms)[k]? = some (.raw (.map (some p.1))):=by simp [msI,h]
theorem xName_eq (n:Nat):(⟨#[120]⟩:ByteArray) ++ ⟨(Lib.decDigits n).toArray⟩ = xName n:=by
  apply ba_ext
  simp [xName]
theorem least_c (G:Gt gl) (ms:Ms) (tg:Tag) (htg:okEs tg 1) (hl:(allM ms).length ≤ 1099511627776) (st:ISt) (hm:MsOk ms st) :
    ICall prog gl 257 [.sl tg (msI ms)] st (fun r st' => r = .raw (.string (leastN (allM ms))) ∧ st' = st):=by
  obtain ⟨hk1,hk2,hk3,hk4⟩:=leastK_spec (allM ms)
  obtain ⟨K,hK⟩:∃ K,leastK (allM ms) = K + 1:=⟨leastK (allM ms) - 1,by omega⟩
  have hdl:∀ k,k ≤ 1099511627777 → 1 + (Lib.decDigits k).length ≤ 281474976710656:=fun k hk => by
    rw [Lib.decDigits_length]
    have:=nDigits_le 14 k (by omega)
    omega
  refine ICall.intro (c:=cf prog gl [] []) func257 rfl (by show _ ≤ 23; simp) (by kernel_rfl) ?_
  simp -implicitDefEqProofs -dsimp only [go_sem,↓reduceIte,zE,zB,zA,zM,zS,zL,reduceCtorEq]
  refine LoopC.ctr K (fun k fr st' ds => fr 0 = .iv (.sl tg (msI ms)) ∧ fr 3 = .iv (.raw (.int .i64 k)) ∧ st' = st ∧ ds = []) ?_ ?_ ?_
  · simp -implicitDefEqProofs -dsimp only [go_sem,↓reduceIte,zE,zB,zA,zM,zS,zL,reduceCtorEq]
    rfl
  · rintro k fr st _ hlt ⟨f0,f3,rfl,rfl⟩
    have hw:IntKind.i64.wrap ((k:Int) + 1) = ((k + 1:Nat):Int):=by rw [w64] <;> omega
    have hin:=hk4 (k + 1) (by omega) (by omega)
    simp -implicitDefEqProofs -dsimp only [go_sem,↓reduceIte,zE,zB,zA,zM,zS,zL,reduceCtorEq,f0,f3,hw]
    refine (Itoa_c gl G (k + 1) (by omega) _).mono ?_
    rintro _ st ⟨rfl,rfl⟩
    simp -implicitDefEqProofs -dsimp only [go_sem,↓reduceIte,zE,zB,zA,zM,zS,zL,reduceCtorEq,f0,f3,hw,bsize_mk,hdl (k + 1) (by omega),xName_eq,msI_length]
    intros
    refine LoopC.ctr ms.length (fun j fr st' ds => (∀ p ∈ ms.take j,xName (k + 1) ∉ p.2) ∧ fr 0 = .iv (.sl tg (msI ms)) ∧ fr 3 = .iv (.raw (.int .i64 (k + 1:Nat))) ∧ fr 4 = .iv (.raw (.string (xName (k + 1)))) ∧
      fr 12 = .iv (.sl tg (msI ms)) ∧ fr 13 = .iv (.raw (.int .i64 ms.length)) ∧ fr 14 = .iv (.raw (.int .i64 j)) ∧ st' = st ∧ ds = []) ?_ ?_ ?_
    · simp -implicitDefEqProofs -dsimp only [go_sem,↓reduceIte,zE,zB,zA,zM,zS,zL,reduceCtorEq,f0,f3]
      exact ⟨fun _ h => (by simp at h),rfl⟩
    · rintro j fr st _ hlt2 ⟨hn,g0,g3,g4,g12,g13,g14,rfl,rfl⟩
      obtain ⟨p,hp⟩:=get_of_lt hlt2
      obtain ⟨es,he1,he2⟩:=hm p (List.mem_of_getElem? hp)
      cases hq:memB p.2 (xName (k + 1))
      · simp -implicitDefEqProofs -dsimp only [go_sem,↓reduceIte,zE,zB,zA,zM,zS,zL,reduceCtorEq,g0,g3,g4,g12,g13,g14,lt_i hlt2,reTag_es htg,Int.natCast_nonneg,msI_get hp,he1,he2.look,hq,w_succ hlt2 (show ms.length ≤ 281474976710656 by omega)]
        intro q hqm
        rw [take_get hp] at hqm
        rcases List.mem_append.1 hqm with h | h
        · exact hn q h
        · rw [List.mem_singleton] at h
          subst h
          exact memB_not.1 hq
      · simp -implicitDefEqProofs -dsimp only [go_sem,↓reduceIte,zE,zB,zA,zM,zS,zL,reduceCtorEq,g0,g3,g4,g12,g13,g14,lt_i hlt2,reTag_es htg,Int.natCast_nonneg,msI_get hp,he1,he2.look,hq]
    · rintro fr st _ ⟨hn,g0,g3,g4,g12,g13,g14,rfl,rfl⟩
      rw [List.take_length] at hn
      exfalso
      obtain ⟨p,hp,hpm⟩:=List.mem_flatMap.1 hin
      exact hn p hp hpm
  · rintro fr st _ ⟨f0,f3,rfl,rfl⟩
    have hw:IntKind.i64.wrap ((K:Int) + 1) = ((K + 1:Nat):Int):=by rw [w64] <;> omega
    simp -implicitDefEqProofs -dsimp only [go_sem,↓reduceIte,zE,zB,zA,zM,zS,zL,reduceCtorEq,f0,f3,hw]
    refine (Itoa_c gl G (K + 1) (by omega) _).mono ?_
    rintro _ st ⟨rfl,rfl⟩
    simp -implicitDefEqProofs -dsimp only [go_sem,↓reduceIte,zE,zB,zA,zM,zS,zL,reduceCtorEq,f0,f3,hw,bsize_mk,hdl (K + 1) (by omega),xName_eq,msI_length]
    intros
    refine LoopC.ctr ms.length (fun j fr st' ds => (∀ p ∈ ms.take j,xName (K + 1) ∉ p.2) ∧ fr 0 = .iv (.sl tg (msI ms)) ∧ fr 3 = .iv (.raw (.int .i64 (K + 1:Nat))) ∧ fr 4 = .iv (.raw (.string (xName (K + 1)))) ∧
      fr 12 = .iv (.sl tg (msI ms)) ∧ fr 13 = .iv (.raw (.int .i64 ms.length)) ∧ fr 14 = .iv (.raw (.int .i64 j)) ∧ st' = st ∧ ds = []) ?_ ?_ ?_
    · simp -implicitDefEqProofs -dsimp only [go_sem,↓reduceIte,zE,zB,zA,zM,zS,zL,reduceCtorEq,f0,f3]
      exact ⟨fun _ h => (by simp at h),rfl⟩
    · rintro j fr st _ hlt2 ⟨hn,g0,g3,g4,g12,g13,g14,rfl,rfl⟩
      obtain ⟨p,hp⟩:=get_of_lt hlt2
      obtain ⟨es,he1,he2⟩:=hm p (List.mem_of_getElem? hp)
      cases hq:memB p.2 (xName (K + 1))
      · simp -implicitDefEqProofs -dsimp only [go_sem,↓reduceIte,zE,zB,zA,zM,zS,zL,reduceCtorEq,g0,g3,g4,g12,g13,g14,lt_i hlt2,reTag_es htg,Int.natCast_nonneg,msI_get hp,he1,he2.look,hq,w_succ hlt2 (show ms.length ≤ 281474976710656 by omega)]
        intro q hqm
        rw [take_get hp] at hqm
        rcases List.mem_append.1 hqm with h | h
        · exact hn q h
        · rw [List.mem_singleton] at h
          subst h
          exact memB_not.1 hq
      · exfalso
        refine hk3 ?_
        rw [hK]
        exact List.mem_flatMap.2 ⟨p,List.mem_of_getElem? hp,memB_iff.1 hq⟩
    · rintro fr st _ ⟨hn,g0,g3,g4,g12,g13,g14,rfl,rfl⟩
      rw [List.take_length] at hn
      simp -implicitDefEqProofs -dsimp only [go_sem,↓reduceIte,zE,zB,zA,zM,zS,zL,reduceCtorEq,g4,g13,g14,nlt_i (Nat.lt_irrefl _)]
      exact outK_self ⟨by rw [leastN,hK],rfl⟩
end Go.Proofs.Tryz
