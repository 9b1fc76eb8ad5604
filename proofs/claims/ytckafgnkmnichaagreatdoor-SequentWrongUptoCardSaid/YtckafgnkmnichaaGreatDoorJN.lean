/- Walks: equality of formulas and of lists of names; makers of terms and formulas.
   Walks: the variables of terms, as they are visited. -/
import Derived.Test.YtckafgnkmnichaaGreatDoorJM
set_option linter.all false
namespace Go.Proofs.Tryz
open Go Go.Iv
set_option maxRecDepth 4000
variable (gl:Nat → Option IV)

end Go.Proofs.Tryz

open Nat renaming reduceEqDiff → zE,reduceBEq → zB,reduceAdd → zA,reduceMul → zM,reduceSub → zS,reduceLeDiff → zL
attribute [local go_sem] Go.Iv.cf Go.Iv.setAt List.all_cons List.all_nil Bool.and_self Bool.true_and Bool.and_true Bool.false_and Bool.and_false Bool.not_true Bool.not_false List.mem_nil_iff if_false if_true beq_self_eq_true Nat.zero_add Nat.add_zero List.getElem?_cons_zero List.getElem?_cons_succ Option.map_some List.mem_cons or_false false_or or_true true_or Nat.sub_zero forall_const Int.toNat_natCast List.length_cons List.length_nil List.map_cons List.map_nil List.take_succ_cons List.take_zero List.drop_zero List.drop_succ_cons List.cons_append List.nil_append List.append_nil and_true true_and and_self true_implies List.zip_cons_cons List.zip_nil_left
namespace Go.Proofs.Tryz
open Go Go.Iv
set_option maxRecDepth 4000

mutual
def namesTm:Tm → List ByteArray
  | .mk true n l => n :: namesTms l
  | .mk false _ l => namesTms l
def namesTms:List Tm → List ByteArray
  | [] => []
  | a :: l => namesTm a ++ namesTms l
end
theorem namesTms_append:∀ (l m:List Tm),namesTms (l ++ m) = namesTms l ++ namesTms m
  | [],m => by simp [namesTms]
  | a :: l,m => by simp only [List.cons_append,namesTms,namesTms_append l m,List.append_assoc]

variable (gl:Nat → Option IV)
def yPost (I:Nat → ISt → Prop) (S:ISt → Prop) (k:Nat) (r:IV) (st':ISt):Prop:=(r = .raw (.bool true) ∧ I k st') ∨ (r = .raw (.bool false) ∧ S st')
def YOk (y:IV) (I:Nat → ISt → Prop) (S:ISt → Prop) (k0:Nat) (l:List ByteArray):Prop :=
  ∀ i nm stu,l[i]? = some nm → I (k0 + i) stu → ICallV prog gl y [.raw (.string nm)] stu (yPost I S (k0 + i + 1))
theorem YOk.left {y:IV} {I:Nat → ISt → Prop} {S:ISt → Prop} {k0:Nat} {l m:List ByteArray} (h:YOk gl y I S k0 (l ++ m)):YOk gl y I S k0 l:=fun i nm stu hi hI =>
  h i nm stu (by rw [List.getElem?_append_left (List.getElem?_eq_some_iff.1 hi).1]; exact hi) hI
theorem YOk.right {y:IV} {I:Nat → ISt → Prop} {S:ISt → Prop} {k0:Nat} {l m:List ByteArray} (h:YOk gl y I S k0 (l ++ m)):YOk gl y I S (k0 + l.length) m:=fun i nm stu hi hI => by
  have:=h (l.length + i) nm stu (by rw [List.getElem?_append_right (by omega)]; simpa using hi) (by rw [← Nat.add_assoc]; exact hI)
  simpa only [Nat.add_assoc] using this
theorem YOk.head {y:IV} {I:Nat → ISt → Prop} {S:ISt → Prop} {k0:Nat} {n:ByteArray} {m:List ByteArray} (h:YOk gl y I S k0 (n :: m)) {st:ISt} (hI:I k0 st):ICallV prog gl y [.raw (.string n)] st (yPost I S (k0 + 1)):=h 0 n st rfl hI
theorem YOk.tail {y:IV} {I:Nat → ISt → Prop} {S:ISt → Prop} {k0:Nat} {n:ByteArray} {m:List ByteArray} (h:YOk gl y I S k0 (n :: m)):YOk gl y I S (k0 + 1) m:=YOk.right gl (l:=[n]) h

def VT (t:Tm):Prop:=∀ (x:IV) (_:IsTm t x) (f:Fn) (fi ca:List IV) (_:fnOk f = true) (_:∀ g,f = .func g → entI prog g = true) (I:Nat → ISt → Prop) (S:ISt → Prop) (k0:Nat) (_:YOk gl (.fn f fi ca) I S k0 (namesTm t)) (st:ISt) (_:I k0 st),
    ICall prog gl 178 [x,.fn f fi ca] st (yPost I S (k0 + (namesTm t).length))

theorem visitTerm_step (v:Bool) (n:ByteArray) (us:List Tm) (IH:∀ a ∈ us,VT gl a):VT gl (.mk v n us):=by
  intro x hx f fi ca hfn hent I S k0 hy st hI
  obtain ⟨tg,xs,rfl,htg,hxs⟩:=hx.mk
  refine ICall.intro (c:=cf prog gl [] []) func178 rfl (by show _ ≤ 28; simp) (by kernel_rfl) ?_
  have go:∀ (k1:Nat),YOk gl (.fn f fi ca) I S k1 (namesTms us) → k1 + (namesTms us).length = k0 + (namesTm (.mk v n us)).length → ∀ (k:Nat) (fr:Fr) (st:ISt),k < us.length → us.length ≤ 140737488355328 → I (k1 + (namesTms (us.take k)).length) st →
      ICall prog gl 178 [(xs[k]?).getD .junk,.fn f fi ca] st (yPost I S (k1 + (namesTms (us.take (k + 1))).length)):=by
    intro k1 hy' _ k _ st hlt _ hIk
    obtain ⟨a,ha⟩:=get_of_lt hlt
    obtain ⟨x,hkx,hx⟩:=hxs.get ha
    rw [hkx,Option.getD_some]
    have hsplit:namesTms us = namesTms (us.take k) ++ (namesTm a ++ namesTms (us.drop (k + 1))):=by
      conv => lhs; rw [← List.take_append_drop k us,List.drop_eq_getElem_cons hlt]
      rw [namesTms_append,(List.getElem?_eq_some_iff.1 ha).2]; rfl
    rw [hsplit] at hy'
    have:=IH a (List.mem_of_getElem? ha) x hx f fi ca hfn hent I S _ (YOk.left gl (YOk.right gl hy')) st hIk
    rw [take_get ha,namesTms_append]
    simpa only [namesTms,List.append_nil,List.length_append,Nat.add_assoc] using this
  cases v
  · simp only [namesTm] at hy ⊢
    simp -implicitDefEqProofs -dsimp only [go_sem,↓reduceIte,zE,zB,zA,zM,zS,zL,reduceCtorEq,hxs.len]
    intro hlen
    refine LoopC.ctr us.length (fun k fr st ds => I (k0 + (namesTms (us.take k)).length) st ∧ fr 1 = .iv (.fn f fi ca) ∧ fr 17 = .iv (.sl tg xs) ∧ fr 18 = .iv (.raw (.int .i64 us.length)) ∧ fr 19 = .iv (.raw (.int .i64 k)) ∧ ds = []) ?_ ?_ ?_
    · simp -implicitDefEqProofs -dsimp only [go_sem,↓reduceIte,zE,zB,zA,zM,zS,zL,reduceCtorEq]
      exact ⟨by simpa [namesTms] using hI,rfl⟩
    · rintro k fr st _ hlt ⟨h1,f1,f17,f18,f19,rfl⟩
      obtain ⟨a,ha⟩:=get_of_lt hlt
      obtain ⟨x,hkx,hx⟩:=hxs.get ha
      have hgo:=go k0 hy rfl k fr st hlt hlen h1
      rw [hkx,Option.getD_some] at hgo
      obtain ⟨v2,n2,m⟩:=a
      obtain ⟨tx,cx,rfl,_⟩:=hx.mk
      simp -implicitDefEqProofs -dsimp only [go_sem,↓reduceIte,zE,zB,zA,zM,zS,zL,reduceCtorEq,f1,f17,f18,f19,lt_i hlt,reTag_es htg,Int.natCast_nonneg,hkx]
      refine hgo.mono ?_
      rintro _ st (⟨rfl,h⟩ | ⟨rfl,h⟩)
      · simp -implicitDefEqProofs -dsimp only [go_sem,↓reduceIte,zE,zB,zA,zM,zS,zL,reduceCtorEq,f1,f17,f18,f19,w_succ hlt (show us.length ≤ 281474976710656 by omega)]
        exact h
      · simp -implicitDefEqProofs -dsimp only [go_sem,↓reduceIte,zE,zB,zA,zM,zS,zL,reduceCtorEq]
        exact outK_self (.inr ⟨rfl,h⟩)
    · rintro fr st _ ⟨h1,f1,f17,f18,f19,rfl⟩
      simp -implicitDefEqProofs -dsimp only [go_sem,↓reduceIte,zE,zB,zA,zM,zS,zL,reduceCtorEq,f18,f19,nlt_i (Nat.lt_irrefl _)]
      rw [List.take_length] at h1
      exact outK_self (.inl ⟨rfl,h1⟩)
  · simp only [namesTm] at hy ⊢
    simp -implicitDefEqProofs -dsimp only [go_sem,↓reduceIte,zE,zB,zA,zM,zS,zL,reduceCtorEq]
    refine callV_of_ICallV hent ((YOk.head gl hy hI).mono ?_)
    rintro _ st (⟨rfl,h⟩ | ⟨rfl,h⟩)
    · simp -implicitDefEqProofs -dsimp only [go_sem,↓reduceIte,zE,zB,zA,zM,zS,zL,reduceCtorEq,hxs.len]
      intro hlen
      refine LoopC.ctr us.length (fun k fr st ds => I (k0 + 1 + (namesTms (us.take k)).length) st ∧ fr 1 = .iv (.fn f fi ca) ∧ fr 17 = .iv (.sl tg xs) ∧ fr 18 = .iv (.raw (.int .i64 us.length)) ∧ fr 19 = .iv (.raw (.int .i64 k)) ∧ ds = []) ?_ ?_ ?_
      · simp -implicitDefEqProofs -dsimp only [go_sem,↓reduceIte,zE,zB,zA,zM,zS,zL,reduceCtorEq]
        exact ⟨by simpa [namesTms] using h,rfl⟩
      · rintro k fr st _ hlt ⟨h1,f1,f17,f18,f19,rfl⟩
        obtain ⟨a,ha⟩:=get_of_lt hlt
        obtain ⟨x,hkx,hx⟩:=hxs.get ha
        have hgo:=go (k0 + 1) (YOk.tail gl hy) (by simp [namesTm]; omega) k fr st hlt hlen h1
        rw [hkx,Option.getD_some] at hgo
        obtain ⟨v2,n2,m⟩:=a
        obtain ⟨tx,cx,rfl,_⟩:=hx.mk
        simp -implicitDefEqProofs -dsimp only [go_sem,↓reduceIte,zE,zB,zA,zM,zS,zL,reduceCtorEq,f1,f17,f18,f19,lt_i hlt,reTag_es htg,Int.natCast_nonneg,hkx]
        refine hgo.mono ?_
        rintro _ st (⟨rfl,h⟩ | ⟨rfl,h⟩)
        · simp -implicitDefEqProofs -dsimp only [go_sem,↓reduceIte,zE,zB,zA,zM,zS,zL,reduceCtorEq,f1,f17,f18,f19,w_succ hlt (show us.length ≤ 281474976710656 by omega)]
          exact h
        · simp -implicitDefEqProofs -dsimp only [go_sem,↓reduceIte,zE,zB,zA,zM,zS,zL,reduceCtorEq]
          exact outK_self (.inr ⟨rfl,h⟩)
      · rintro fr st _ ⟨h1,f1,f17,f18,f19,rfl⟩
        simp -implicitDefEqProofs -dsimp only [go_sem,↓reduceIte,zE,zB,zA,zM,zS,zL,reduceCtorEq,f18,f19,nlt_i (Nat.lt_irrefl _)]
        rw [List.take_length] at h1
        refine outK_self (.inl ⟨rfl,?_⟩)
        rw [show k0 + ((namesTms us).length + 1) = k0 + 1 + (namesTms us).length by omega]; exact h1
    · simp -implicitDefEqProofs -dsimp only [go_sem,↓reduceIte,zE,zB,zA,zM,zS,zL,reduceCtorEq]
      exact outK_self (.inr ⟨rfl,h⟩)
theorem visitTerm_all:∀ (k:Nat) (t:Tm),SizeOf.sizeOf t < k → VT gl t
  | 0,f,h => by omega
  | k + 1,.mk v n us,h => visitTerm_step gl v n us (fun a ha => visitTerm_all k a (by
      have:=List.sizeOf_lt_of_mem ha
      simp at h; omega))
theorem visitTerm_c (t:Tm):VT gl t:=visitTerm_all gl _ t (Nat.lt_succ_self _)
end Go.Proofs.Tryz
