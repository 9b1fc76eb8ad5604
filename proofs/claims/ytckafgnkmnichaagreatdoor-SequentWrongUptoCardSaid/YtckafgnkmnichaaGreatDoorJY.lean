/- Walks: Free, FreeTerm, Bound, Fresh. -/
import Derived.Test.YtckafgnkmnichaaGreatDoorJX
set_option linter.all false
namespace Go.Proofs.Tryz
open Go Go.Iv
set_option maxRecDepth 4000
open Nat renaming reduceEqDiff → zE,reduceBEq → zB,reduceAdd → zA,reduceMul → zM,reduceSub → zS,reduceLeDiff → zL
attribute [local go_sem] cf setAt List.all_cons List.all_nil Bool.and_self Bool.true_and Bool.and_true Bool.false_and Bool.and_false Bool.not_true Bool.not_false List.mem_nil_iff if_false if_true beq_self_eq_true Nat.zero_add Nat.add_zero List.getElem?_cons_zero List.getElem?_cons_succ Option.map_some List.mem_cons or_false false_or or_true true_or Nat.sub_zero forall_const Int.toNat_natCast List.length_cons List.length_nil List.map_cons List.map_nil List.take_succ_cons List.take_zero List.drop_zero List.drop_succ_cons List.cons_append List.nil_append List.append_nil and_true true_and and_self true_implies List.zip_cons_cons List.zip_nil_left
variable (gl:Nat → Option IV)

theorem Free_c (G:Gt gl) (f:Fm) (x:IV) (hx:IsFm f x) (hs:f.size ≤ 1099511627776) (hn:∀ s ∈ frF f,s.size ≤ 281474976710656) (st:ISt) :
    ICall prog gl 27 [x] st (fun r st' => ∃ tg l,r = .sl tg (strI l) ∧ okEs tg 1 ∧ SortedOf (frF f) l ∧ st' = st):=by
  have hnames:=fun st => freeNames_c gl f x hx st
  have hset:=fun st => set_c gl 126 [.cptr x] (freeB f) st (by simp only [go_sem]) (fun I => freeNames1_c gl f x hx (by omega) I)
  rw [freeB_eq] at hset
  obtain ⟨ks,hk1,hk2,hk3⟩:=keys_setE (frF f)
  have hfl:=frF_le f
  obtain ⟨o,n,us,sub⟩:=f
  obtain ⟨t1,x1,t2,x2,rfl,_⟩:=hx.mk
  refine ICall.intro (c:=cf prog gl [] []) func27 rfl (by show _ ≤ 8; simp) (by kernel_rfl) ?_
  simp -implicitDefEqProofs -dsimp only [go_sem,↓reduceIte,zE,zB,zA,zM,zS,zL,reduceCtorEq,fits]
  refine (hnames _).mono ?_
  rintro _ st ⟨rfl,rfl⟩
  simp -implicitDefEqProofs -dsimp only [go_sem,↓reduceIte,zE,zB,zA,zM,zS,zL,reduceCtorEq,fits]
  refine (hset _).mono ?_
  rintro _ _ ⟨m,hm,rfl,rfl⟩
  simp -implicitDefEqProofs -dsimp only [go_sem,↓reduceIte,zE,zB,zA,zM,zS,zL,reduceCtorEq,fits]
  refine (Keys_c gl m _).mono ?_
  rintro _ _ ⟨b,hb,rfl,rfl⟩
  have hbm:m ≠ b:=ne_of_st (ISt.put_same st m _) hb
  have hc:=Sorted_c gl G m b _ ks hk1 (fun k h => hn k ((hk2 k).1 h)) (by omega) _ (ISt.put_same (st.put m _) b _) (by rw [put_ne hbm,ISt.put_same])
  unfold keyFn at hc ⊢
  simp -implicitDefEqProofs -dsimp only [go_sem,↓reduceIte,zE,zB,zA,zM,zS,zL,reduceCtorEq,fits]
  refine hc.mono ?_
  rintro _ _ ⟨tg,l,rfl,htg,hl,rfl⟩
  simp -implicitDefEqProofs -dsimp only [go_sem,↓reduceIte,zE,zB,zA,zM,zS,zL,reduceCtorEq,fits]
  refine outK_sub (st':=st) ?_ ⟨tg,l,rfl,htg,⟨hl.1,fun y => (hl.2 y).trans (hk2 y)⟩,rfl⟩
  exact (subSt_put hm).trans (subSt_put hb)
def addE (es:List (Value × IV)) (l:List ByteArray):List (Value × IV):=l.foldl (fun es s => updI (.string s) (.raw (.bool true)) es) es
theorem addE_append (es:List (Value × IV)) (l m:List ByteArray):addE es (l ++ m) = addE (addE es l) m:=by simp [addE]
end Go.Proofs.Tryz
