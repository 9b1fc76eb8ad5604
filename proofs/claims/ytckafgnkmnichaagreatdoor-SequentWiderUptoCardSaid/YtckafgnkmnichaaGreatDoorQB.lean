/- Walks: copies of formulas, as the package of formulas makes them; lists of copies.
   What the sequent package computes, in plain data: valid sequents, what rules add, steps, the check of a tree.
   Walks: what rules add; the rows of a calculus.
   Walks: formulas and sequents of a calculus; what is in a list; sequents within others. -/
import Derived.Test.YtckafgnkmnichaaGreatDoorQA
import Derived.Test.YtckafgnkmnichaaGreatDoorKB
import Derived.Test.YtckafgnkmnichaaGreatDoorJU
import Derived.Test.YtckafgnkmnichaaGreatDoorJZ
set_option linter.all false
open Nat renaming reduceEqDiff → zE,reduceBEq → zB,reduceAdd → zA,reduceMul → zM,reduceSub → zS,reduceLeDiff → zL
attribute [local go_sem] Go.Iv.cf Go.Iv.setAt List.all_cons List.all_nil Bool.and_self Bool.true_and Bool.and_true Bool.false_and Bool.and_false Bool.not_true Bool.not_false List.mem_nil_iff if_false if_true beq_self_eq_true Nat.zero_add Nat.add_zero List.getElem?_cons_zero List.getElem?_cons_succ Option.map_some List.mem_cons or_false false_or or_true true_or Nat.sub_zero forall_const Int.toNat_natCast List.length_cons List.length_nil List.map_cons List.map_nil List.take_succ_cons List.take_zero List.drop_zero List.drop_succ_cons List.cons_append List.nil_append List.append_nil and_true true_and and_self true_implies List.zip_cons_cons List.zip_nil_left
namespace Go.Proofs.Tryz
open Go Go.Iv
set_option maxRecDepth 4000
variable (gl:Nat → Option IV)

def sCT (us:List Tm):Prop:=∀ (tg:Tag) (xs:List IV) (_:okEs tg 3) (_:IsTms us xs) (_:sizeTms us ≤ 1099511627776) (st:ISt),
  ICall prog gl 201 [.sl tg xs,.fn (.func 202) [] []] st (fun r st' => ∃ tg' ys,r = .sl tg' ys ∧ okEs tg' 3 ∧ appT tg' ∧ IsTmsD us ys ∧ st' = st)
theorem sCopyTerm_step (v:Bool) (n:ByteArray) (us:List Tm) (IH:sCT gl us) (x:IV) (hx:IsTm (.mk v n us) x) (hs:(Tm.mk v n us).size ≤ 1099511627776) (st:ISt) :
    ICall prog gl 202 [x] st (fun r st' => IsTmD (.mk v n us) r ∧ st' = st):=by
  obtain ⟨tx,cx,rfl,htx,hcx⟩:=hx.mk
  simp only [Tm.size] at hs
  have hcall:=IH tx cx htx hcx (by omega) st
  refine ICall.intro (c:=cf prog gl [] []) func202 rfl (by show _ ≤ 11; simp) (by kernel_rfl) ?_
  simp -implicitDefEqProofs -dsimp only [go_sem,↓reduceIte,zE,zB,zA,zM,zS,zL,reduceCtorEq,fits]
  refine hcall.mono ?_
  rintro _ _ ⟨tg',ys,rfl,he,ha,hys,rfl⟩
  simp -implicitDefEqProofs -dsimp only [go_sem,↓reduceIte,zE,zB,zA,zM,zS,zL,reduceCtorEq,fits]
  exact outK_self ⟨IsTmD.intro he ha hys,rfl⟩
theorem sCopyTerms_step (us:List Tm) (IH:∀ v n l,Tm.mk v n l ∈ us → sCT gl l):sCT gl us:=by
  intro tg xs htg hxs hsz st
  have hlsz:=len_le_size us
  refine ICall.intro (c:=cf prog gl [] []) func201 rfl (by show _ ≤ 28; simp) (by kernel_rfl) ?_
  simp -implicitDefEqProofs -dsimp only [go_sem,↓reduceIte,zE,zB,zA,zM,zS,zL,reduceCtorEq,hxs.len]
  intro _
  refine condV_intro (fun h => ?_) (fun h => ?_)
  · obtain rfl:us = []:=List.eq_nil_of_length_eq_zero (by simpa using h)
    simp -implicitDefEqProofs -dsimp only [go_sem,↓reduceIte,zE,zB,zA,zM,zS,zL,reduceCtorEq]
    exact outK_self ⟨_,_,rfl,.inl rfl,.inl rfl,IsTmsD.nil,rfl⟩
  simp -implicitDefEqProofs -dsimp only [go_sem,↓reduceIte,zE,zB,zA,zM,zS,zL,reduceCtorEq,hxs.len]
  intro _
  refine chk_intro ⟨Int.natCast_nonneg _,by omega,by omega⟩ fun g => giv_intro fun hg => ?_
  intro _
  refine LoopC.ctr us.length (fun k fr st' ds => (∃ tg' ys,fr 5 = .iv (.sl tg' ys) ∧ IsTmsD (us.take k) ys ∧ appT tg' ∧ own st' tg' k 3 st ∧ subSt st st') ∧ fr 1 = .iv (.fn (.func 202) [] []) ∧
    fr 14 = .iv (.sl tg xs) ∧ fr 15 = .iv (.raw (.int .i64 us.length)) ∧ fr 16 = .iv (.raw (.int .i64 k)) ∧ ds = []) ?_ ?_ ?_
  · simp -implicitDefEqProofs -dsimp only [go_sem,↓reduceIte,zE,zB,zA,zM,zS,zL,reduceCtorEq]
    exact ⟨⟨_,_,rfl,IsTmsD.nil,.inr ⟨rfl,g,rfl⟩,.inr (.inr ⟨g,rfl,ISt.put_same _ _ _,hg⟩),subSt_put2 (subSt.refl _) hg⟩,rfl⟩
  · rintro k fr st1 _ hlt ⟨⟨tg',ys,f5,hys,hap,hown,hsub⟩,f1,f14,f15,f16,rfl⟩
    obtain ⟨a,ha⟩:=get_of_lt hlt
    obtain ⟨x,hkx,hx⟩:=hxs.get ha
    obtain ⟨h1,h2⟩:=sizeTms_take ha
    have hlen2:ys.length = k:=by rw [hys.len,List.length_take]; omega
    obtain ⟨v2,n2,m⟩:=a
    have hcall:=sCopyTerm_step gl v2 n2 m (IH _ _ _ (List.mem_of_getElem? ha)) x hx (by omega) st1
    obtain ⟨tx,cx,rfl,htx,hcx⟩:=hx.mk
    simp -implicitDefEqProofs -dsimp only [go_sem,↓reduceIte,zE,zB,zA,zM,zS,zL,reduceCtorEq,f1,f5,f14,f15,f16,lt_i hlt,reTag_es htg,Int.natCast_nonneg,hkx,fits]
    refine hcall.mono ?_
    rintro r _ ⟨hr,rfl⟩
    have hn:IsTmsD (us.take (k + 1)) (ys ++ [r]):=by
      rw [take_get ha]; exact hys.append (IsTmsD.one hr)
    obtain ⟨t3,x3,rfl,_⟩:=IsTmD.mk hr
    simp -implicitDefEqProofs -dsimp only [go_sem,↓reduceIte,zE,zB,zA,zM,zS,zL,reduceCtorEq,f1,f5,f14,f15,f16,fits,inOrder_one]
    refine appV_ownD hown hlen2 hsub rfl (by simp [fits,IV.one]) (by simp only; omega) (by omega) fun tg2 st4 hown2 hsub4 _ hap2 => ?_
    simp -implicitDefEqProofs -dsimp only [go_sem,↓reduceIte,zE,zB,zA,zM,zS,zL,reduceCtorEq,f1,f5,f14,f15,f16,fits,w_succ hlt (show us.length ≤ 281474976710656 by omega)]
    exact ⟨tg2,_,rfl,hn,hap2,hown2,hsub4⟩
  · rintro fr st1 _ ⟨⟨tg',ys,f5,hys,hap,hown,hsub⟩,f1,f14,f15,f16,rfl⟩
    rw [List.take_length] at hys
    simp -implicitDefEqProofs -dsimp only [go_sem,↓reduceIte,zE,zB,zA,zM,zS,zL,reduceCtorEq,f5,f15,f16,nlt_i (Nat.lt_irrefl _),fits]
    exact outK_sub (st':=st) hsub ⟨tg',ys,rfl,hown.es,hap,hys,rfl⟩
theorem sCopyTerms_all:∀ (k:Nat) (us:List Tm),SizeOf.sizeOf us < k → sCT gl us
  | 0,f,h => by omega
  | k + 1,us,h => sCopyTerms_step gl us (fun v n l ha => sCopyTerms_all k l (by
      have:=List.sizeOf_lt_of_mem ha
      simp at this; omega))
theorem sCopyTerms_c (us:List Tm):sCT gl us:=sCopyTerms_all gl _ us (Nat.lt_succ_self _)

def sCF (f:Fm):Prop:=∀ (x:IV) (_:IsFm f x) (_:f.size ≤ 1099511627776) (st:ISt),ICall prog gl 145 [x] st (fun r st' => IsFmD f r ∧ st' = st)
theorem sCopyForms_step (us:List Fm) (IH:∀ a ∈ us,sCF gl a) (tg:Tag) (xs:List IV) (htg:okEs tg 4) (hxs:IsFms us xs) (hsz:sizeFms us ≤ 1099511627776) (st:ISt) :
    ICall prog gl 203 [.sl tg xs,.fn (.func 145) [] []] st (fun r st' => ∃ tg' ys,r = .sl tg' ys ∧ okEs tg' 4 ∧ appT tg' ∧ IsFmsD us ys ∧ st' = st):=by
  have hlsz:=flen_le_size us
  refine ICall.intro (c:=cf prog gl [] []) func203 rfl (by show _ ≤ 28; simp) (by kernel_rfl) ?_
  simp -implicitDefEqProofs -dsimp only [go_sem,↓reduceIte,zE,zB,zA,zM,zS,zL,reduceCtorEq,hxs.len]
  intro _
  refine condV_intro (fun h => ?_) (fun h => ?_)
  · obtain rfl:us = []:=List.eq_nil_of_length_eq_zero (by simpa using h)
    simp -implicitDefEqProofs -dsimp only [go_sem,↓reduceIte,zE,zB,zA,zM,zS,zL,reduceCtorEq]
    exact outK_self ⟨_,_,rfl,.inl rfl,.inl rfl,IsFmsD.nil,rfl⟩
  simp -implicitDefEqProofs -dsimp only [go_sem,↓reduceIte,zE,zB,zA,zM,zS,zL,reduceCtorEq,hxs.len]
  intro _
  refine chk_intro ⟨Int.natCast_nonneg _,by omega,by omega⟩ fun g => giv_intro fun hg => ?_
  intro _
  refine LoopC.ctr us.length (fun k fr st' ds => (∃ tg' ys,fr 5 = .iv (.sl tg' ys) ∧ IsFmsD (us.take k) ys ∧ appT tg' ∧ own st' tg' k 4 st ∧ subSt st st') ∧ fr 1 = .iv (.fn (.func 145) [] []) ∧
    fr 14 = .iv (.sl tg xs) ∧ fr 15 = .iv (.raw (.int .i64 us.length)) ∧ fr 16 = .iv (.raw (.int .i64 k)) ∧ ds = []) ?_ ?_ ?_
  · simp -implicitDefEqProofs -dsimp only [go_sem,↓reduceIte,zE,zB,zA,zM,zS,zL,reduceCtorEq]
    exact ⟨⟨_,_,rfl,IsFmsD.nil,.inr ⟨rfl,g,rfl⟩,.inr (.inr ⟨g,rfl,ISt.put_same _ _ _,hg⟩),subSt_put2 (subSt.refl _) hg⟩,rfl⟩
  · rintro k fr st1 _ hlt ⟨⟨tg',ys,f5,hys,hap,hown,hsub⟩,f1,f14,f15,f16,rfl⟩
    obtain ⟨a,ha⟩:=get_of_lt hlt
    obtain ⟨x,hkx,hx⟩:=hxs.get ha
    obtain ⟨h1,h2⟩:=sizeFms_take ha
    have hlen2:ys.length = k:=by rw [hys.len,List.length_take]; omega
    have hcall:=IH a (List.mem_of_getElem? ha) x hx (by omega) st1
    obtain ⟨o5,n5,t5,x5,t6,x6,rfl⟩:=hx.agg
    simp -implicitDefEqProofs -dsimp only [go_sem,↓reduceIte,zE,zB,zA,zM,zS,zL,reduceCtorEq,f1,f5,f14,f15,f16,lt_i hlt,reTag_es htg,Int.natCast_nonneg,hkx,fits]
    refine hcall.mono ?_
    rintro r _ ⟨hr,rfl⟩
    have hn:IsFmsD (us.take (k + 1)) (ys ++ [r]):=by
      rw [take_get ha]; exact hys.append (IsFmsD.one hr)
    obtain ⟨o7,n7,t7,x7,t8,x8,rfl⟩:=IsFmD.aggs hr
    simp -implicitDefEqProofs -dsimp only [go_sem,↓reduceIte,zE,zB,zA,zM,zS,zL,reduceCtorEq,f1,f5,f14,f15,f16,fits,inOrder_one]
    refine appV_ownD hown hlen2 hsub rfl (by simp [fits,IV.one]) (by simp only; omega) (by omega) fun tg2 st4 hown2 hsub4 _ hap2 => ?_
    simp -implicitDefEqProofs -dsimp only [go_sem,↓reduceIte,zE,zB,zA,zM,zS,zL,reduceCtorEq,f1,f5,f14,f15,f16,fits,w_succ hlt (show us.length ≤ 281474976710656 by omega)]
    exact ⟨tg2,_,rfl,hn,hap2,hown2,hsub4⟩
  · rintro fr st1 _ ⟨⟨tg',ys,f5,hys,hap,hown,hsub⟩,f1,f14,f15,f16,rfl⟩
    rw [List.take_length] at hys
    simp -implicitDefEqProofs -dsimp only [go_sem,↓reduceIte,zE,zB,zA,zM,zS,zL,reduceCtorEq,f5,f15,f16,nlt_i (Nat.lt_irrefl _),fits]
    exact outK_sub (st':=st) hsub ⟨tg',ys,rfl,hown.es,hap,hys,rfl⟩
theorem sCopy_step (o:Nat) (n:ByteArray) (us:List Tm) (sub:List Fm) (IH:∀ a ∈ sub,sCF gl a):sCF gl (.mk o n us sub):=by
  intro x hx hs st
  obtain ⟨t1,x1,t2,x2,rfl,ho,ht1,hx1,ht2,hx2⟩:=hx.mk
  simp only [Fm.size] at hs
  have hc1:=sCopyTerms_c gl us t1 x1 ht1 hx1 (by omega) st
  have hc2:=sCopyForms_step gl sub IH t2 x2 ht2 hx2 (by omega) st
  refine ICall.intro (c:=cf prog gl [] [(1,[0,1,2,3,4,5,7,8,6,9,10,11])]) func145 rfl (by show _ ≤ 14; simp) (by kernel_rfl) ?_
  simp -implicitDefEqProofs -dsimp only [go_sem,↓reduceIte,zE,zB,zA,zM,zS,zL,reduceCtorEq,fits]
  refine hc1.mono ?_
  rintro _ _ ⟨tg',ys,rfl,he,ha,hys,rfl⟩
  simp -implicitDefEqProofs -dsimp only [go_sem,↓reduceIte,zE,zB,zA,zM,zS,zL,reduceCtorEq,fits]
  refine hc2.mono ?_
  rintro _ _ ⟨tg2,ys2,rfl,he2,ha2,hys2,rfl⟩
  simp -implicitDefEqProofs -dsimp only [go_sem,↓reduceIte,zE,zB,zA,zM,zS,zL,reduceCtorEq,fits]
  exact outK_self ⟨IsFmD.intro ho he ha hys he2 ha2 hys2,rfl⟩
theorem sCopy_all:∀ (k:Nat) (f:Fm),SizeOf.sizeOf f < k → sCF gl f
  | 0,f,h => by omega
  | k + 1,.mk o n us sub,h => sCopy_step gl o n us sub (fun a ha => sCopy_all k a (by
      have:=List.sizeOf_lt_of_mem ha
      simp only [Fm.mk.sizeOf_spec] at h
      omega))
theorem sCopy_c (f:Fm):sCF gl f:=sCopy_all gl _ f (Nat.lt_succ_self _)

theorem forms_c (us:List Fm) (tg:Tag) (xs:List IV) (htg:okEs tg 4) (hxs:IsFms us xs) (hsz:sizeFms us ≤ 1099511627776) (st:ISt) :
    ICall prog gl 97 [.sl tg xs] st (fun r st' => ∃ tg' ys,r = .sl tg' ys ∧ okEs tg' 4 ∧ (appT tg' ∧ tg'.fresh = true) ∧ IsFmsD us ys ∧ own st' tg' us.length 4 st ∧ subSt st st'):=by
  have hlsz:=flen_le_size us
  refine ICall.intro (c:=cf prog gl [] []) func97 rfl (by show _ ≤ 19; simp) (by kernel_rfl) ?_
  simp -implicitDefEqProofs -dsimp only [go_sem,↓reduceIte,zE,zB,zA,zM,zS,zL,reduceCtorEq,hxs.len]
  intro _
  refine LoopC.ctr us.length (fun k fr st' ds => (∃ tg' ys,fr 3 = .iv (.sl tg' ys) ∧ IsFmsD (us.take k) ys ∧ (appT tg' ∧ tg'.fresh = true) ∧ own st' tg' k 4 st ∧ subSt st st') ∧
    fr 6 = .iv (.sl tg xs) ∧ fr 7 = .iv (.raw (.int .i64 us.length)) ∧ fr 8 = .iv (.raw (.int .i64 k)) ∧ ds = []) ?_ ?_ ?_
  · simp -implicitDefEqProofs -dsimp only [go_sem,↓reduceIte,zE,zB,zA,zM,zS,zL,reduceCtorEq]
    exact ⟨⟨_,_,rfl,IsFmsD.nil,⟨.inl rfl,rfl⟩,own.nil _ _ _ _ _,subSt.refl _⟩,rfl⟩
  · rintro k fr st1 _ hlt ⟨⟨tg',ys,f3,hys,hap,hown,hsub⟩,f6,f7,f8,rfl⟩
    obtain ⟨a,ha⟩:=get_of_lt hlt
    obtain ⟨x,hkx,hx⟩:=hxs.get ha
    obtain ⟨h1,h2⟩:=sizeFms_take ha
    have hlen2:ys.length = k:=by rw [hys.len,List.length_take]; omega
    have hcall:=sCopy_c gl a x hx (by omega) st1
    obtain ⟨o5,n5,t5,x5,t6,x6,rfl⟩:=hx.agg
    simp -implicitDefEqProofs -dsimp only [go_sem,↓reduceIte,zE,zB,zA,zM,zS,zL,reduceCtorEq,f3,f6,f7,f8,lt_i hlt,reTag_es htg,Int.natCast_nonneg,hkx,fits]
    refine hcall.mono ?_
    rintro r _ ⟨hr,rfl⟩
    have hn:IsFmsD (us.take (k + 1)) (ys ++ [r]):=by
      rw [take_get ha]; exact hys.append (IsFmsD.one hr)
    obtain ⟨o7,n7,t7,x7,t8,x8,rfl⟩:=IsFmD.aggs hr
    simp -implicitDefEqProofs -dsimp only [go_sem,↓reduceIte,zE,zB,zA,zM,zS,zL,reduceCtorEq,f3,f6,f7,f8,fits,inOrder_one]
    refine appV_ownD hown hlen2 hsub rfl (by simp [fits,IV.one]) (by simp only; omega) (by omega) fun tg2 st4 hown2 hsub4 _ hap2 => ?_
    simp -implicitDefEqProofs -dsimp only [go_sem,↓reduceIte,zE,zB,zA,zM,zS,zL,reduceCtorEq,f3,f6,f7,f8,fits,w_succ hlt (show us.length ≤ 281474976710656 by omega)]
    exact ⟨tg2,_,rfl,hn,⟨hap2,by
      rcases hown2 with ⟨h0,_⟩ | rfl | ⟨_,rfl,_⟩
      · omega
      · rfl
      · rfl⟩,hown2,hsub4⟩
  · rintro fr st1 _ ⟨⟨tg',ys,f3,hys,hap,hown,hsub⟩,f6,f7,f8,rfl⟩
    rw [List.take_length] at hys
    simp -implicitDefEqProofs -dsimp only [go_sem,↓reduceIte,zE,zB,zA,zM,zS,zL,reduceCtorEq,f3,f6,f7,f8,nlt_i (Nat.lt_irrefl _),fits]
    exact outK_self ⟨tg',ys,rfl,hown.es,hap,hys,hown,hsub⟩
end Go.Proofs.Tryz

namespace Go.Proofs.Tryz
open Go Go.Iv

mutual
def opsB (ca:Nat):Fm → Bool
  | .mk op _ us sub => decide (1 ≤ op) && decide (op ≤ if ca = 3 then 9 else 7) && (decide (ca = 3) || us.isEmpty) && opsBs ca sub
def opsBs (ca:Nat):List Fm → Bool
  | [] => true
  | a :: l => opsB ca a && opsBs ca l
end
def fmB (ca:Nat) (f:Fm):Bool:=f.right && opsB ca f
def knownB (ca:Nat):Bool:=decide (1 ≤ ca) && decide (ca ≤ 3)
noncomputable def eqF (a b:Fm):Bool:=decide (a.op = b.op) && alphaB a b
noncomputable def hasF (l:List Fm) (f:Fm):Bool:=l.any (eqF f)
noncomputable def allF (l m:List Fm):Bool:=l.all (hasF m)
noncomputable def withinB (a b:Sq):Bool:=allF a.l b.l && allF a.r b.r
noncomputable def firstsB:List Fm → Bool
  | [] => true
  | a :: l => (a :: l).all fun f => eqF f a
noncomputable def validB (ca:Nat) (s:Sq):Bool :=
  knownB ca && decide (s.l.length ≤ 64) && decide (s.r.length ≤ 64) && s.l.all (fmB ca) && s.r.all (fmB ca) && (decide (ca ≠ 2) || firstsB s.r)

structure Rw where
  left:Bool
  right:Bool
  op:Nat
  asks:Nat
def rowK (rule:Nat):Option Rw :=
  if rule = 1 then some ⟨true,true,0,0⟩ else if rule = 2 then some ⟨true,false,2,0⟩ else if rule = 3 then some ⟨true,false,3,0⟩ else if rule = 4 then some ⟨false,true,3,0⟩
  else if rule = 5 then some ⟨true,false,4,0⟩ else if rule = 6 then some ⟨false,true,4,0⟩ else if rule = 7 then some ⟨true,false,5,0⟩ else if rule = 8 then some ⟨false,true,5,0⟩
  else if rule = 9 then some ⟨true,false,6,0⟩ else if rule = 10 then some ⟨false,true,6,0⟩ else if rule = 11 then some ⟨true,false,7,0⟩ else if rule = 12 then some ⟨false,true,7,0⟩
  else if rule = 17 then some ⟨false,false,0,0⟩ else none
def rowS (ca rule:Nat):Option Rw :=
  if ca = 2 ∧ rule = 18 then some ⟨false,true,5,0⟩
  else if ca = 3 ∧ rule = 13 then some ⟨true,false,8,1⟩ else if ca = 3 ∧ rule = 14 then some ⟨false,true,8,2⟩
  else if ca = 3 ∧ rule = 15 then some ⟨true,false,9,2⟩ else if ca = 3 ∧ rule = 16 then some ⟨false,true,9,1⟩ else rowK rule
def bE:ByteArray:=⟨#[]⟩
def impF (a b:Fm):Fm:=.mk 6 bE [] [a,b]
def addS (ca rule:Nat) (main a b:Fm):List Sq :=
  if rule = 3 then [⟨[],[a]⟩] else if rule = 4 then [⟨[a],[]⟩] else if rule = 5 then [⟨[a,b],[]⟩] else if rule = 6 then [⟨[],[a]⟩,⟨[],[b]⟩]
  else if rule = 7 then [⟨[a],[]⟩,⟨[b],[]⟩] else if rule = 8 then (if ca = 2 then [⟨[],[a]⟩] else [⟨[],[a,b]⟩]) else if rule = 9 then [⟨[],[a]⟩,⟨[b],[]⟩]
  else if rule = 10 then [⟨[a],[b]⟩] else if rule = 11 then [⟨[impF a b,impF b a],[]⟩] else if rule = 12 then [⟨[a],[b]⟩,⟨[b],[a]⟩]
  else if rule = 13 then [⟨[a],[]⟩] else if rule = 14 then [⟨[],[a]⟩] else if rule = 15 then [⟨[a],[]⟩] else if rule = 16 then [⟨[],[a]⟩]
  else if rule = 17 then [⟨[],[main]⟩,⟨[main],[]⟩] else if rule = 18 then [⟨[],[b]⟩] else []
noncomputable def addsS (ca rule:Nat) (r:Rw) (main:Fm) (term:Tm) (name:ByteArray):List Sq × Nat :=
  if !fmB ca main || (decide (r.op ≠ 0) && decide (main.op ≠ r.op)) then ([],192)
  else
    let a:=(main.subs[0]?).getD fm0
    let b:=(main.subs[1]?).getD fm0
    if r.asks = 0 then (addS ca rule main a b,0)
    else
      let t:=if r.asks = 2 then .mk true name [] else term
      if !t.ok then ([],193)
      else if (PutsS a [(main.nm,t)]).2 ≠ 0 then ([],193) else (addS ca rule main (PutsS a [(main.nm,t)]).1 b,0)
noncomputable def freeIn (s:Sq) (n:ByteArray):Bool:=s.l.any (fun f => memB (frF f) n) || s.r.any (fun f => memB (frF f) n)
noncomputable def stepS (ca:Nat) (s:Sq) (rule:Nat) (main:Fm) (term:Tm) (name:ByteArray):List Sq × Nat :=
  if !validB ca s then ([],190)
  else match rowS ca rule with
    | none => ([],191)
    | some r =>
      if decide ((addsS ca rule r main term name).2 = 192) || (r.left && !hasF s.l main) || (r.right && !hasF s.r main) then ([],192)
      else if (addsS ca rule r main term name).2 ≠ 0 then ([],(addsS ca rule r main term name).2)
      else if decide (r.asks = 2) && freeIn s name then ([],193)
      else ((addsS ca rule r main term name).1,0)
noncomputable def premsB (s:Sq):List Sq → List Tr → Bool
  | m :: l,t :: ts => withinB t.sq (s.plus m) && premsB s l ts
  | _,_ => true
noncomputable def checkS (ca:Nat):Tr → Nat
  | .mk rule s main term name sub =>
    if (stepS ca s rule main term name).2 ≠ 0 then (stepS ca s rule main term name).2
    else if sub.length ≠ (stepS ca s rule main term name).1.length then 194
    else if premsB s (stepS ca s rule main term name).1 sub then 0 else 195
noncomputable def CheckS (ca:Nat) (t:Tr):List Nat × Nat :=
  if !knownB ca then ([],2) else if 300 < t.steps then ([],5) else firstBad (checkS ca) (t.walk [])

mutual
theorem walk_pre (p q:List Nat):∀ t:Tr,t.walk (p ++ q) = (t.walk q).map fun x => (p ++ x.1,x.2)
  | .mk _ _ _ _ _ sub => by simp only [Tr.walk,List.map_cons,walkTrs_pre p q 0 sub]
theorem walkTrs_pre (p q:List Nat):∀ (i:Nat) (l:List Tr),walkTrs (p ++ q) i l = (walkTrs q i l).map fun x => (p ++ x.1,x.2)
  | _,[] => rfl
  | i,a :: l => by
    simp only [walkTrs,List.map_append,walkTrs_pre p q (i + 1) l]
    rw [List.append_assoc,walk_pre p (q ++ [i]) a]
end
theorem firstBad_map (e:Tr → Nat) (p:List Nat):∀ l,firstBad e (l.map fun x => (p ++ x.1,x.2)) = if (firstBad e l).2 = 0 then ([],0) else (p ++ (firstBad e l).1,(firstBad e l).2)
  | [] => by simp [firstBad]
  | (q,t) :: l => by
    have ih:=firstBad_map e p l
    by_cases h:e t = 0
    · simp only [List.map_cons,firstBad,h,if_true,ih]
    · simp [firstBad,h]
def firstSub (e:Tr → Nat):Nat → List Tr → List Nat × Nat
  | _,[] => ([],0)
  | i,a :: l => if (firstBad e (a.walk [])).2 = 0 then firstSub e (i + 1) l else (i :: (firstBad e (a.walk [])).1,(firstBad e (a.walk [])).2)
theorem firstBad_walks (e:Tr → Nat):∀ (i:Nat) (l:List Tr),firstBad e (walkTrs [] i l) = firstSub e i l
  | _,[] => rfl
  | i,a :: l => by
    have h1:=walk_pre [i] [] a
    rw [List.append_nil] at h1
    simp only [walkTrs,List.nil_append,firstSub]
    rw [h1,firstBad_append,firstBad_map,firstBad_walks e (i + 1) l]
    by_cases h:(firstBad e (a.walk [])).2 = 0
    · simp [h]
    · simp [h]
theorem firstBad_tree (e:Tr → Nat) (rule:Nat) (s:Sq) (f:Fm) (u:Tm) (n:ByteArray) (sub:List Tr) :
    firstBad e ((Tr.mk rule s f u n sub).walk []) = if e (.mk rule s f u n sub) = 0 then firstSub e 0 sub else ([],e (.mk rule s f u n sub)):=by
  simp only [Tr.walk,firstBad,firstBad_walks]
end Go.Proofs.Tryz

namespace Go.Iv
open Go
theorem ICall.give {P:Program} {gl:Nat → Option IV} {f:FuncId} {args:List IV} {st:ISt} {K:IV → ISt → Prop} (h:ICall P gl f args st (fun r st' => ∃ st0,subSt st0 st' ∧ K r st0)):ICall P gl f args st K:=by
  intro B X rs hg hst hv
  refine (h B X rs hg hst hv).mono ?_
  rintro e w' ⟨v,rfl,X',x,rfl,h2,h3,h4,st0,hs,hK⟩
  obtain ⟨hg1,he1⟩:=h2.sub hs
  exact ⟨v,rfl,{ X' with st:=st0 },x,rfl,hg1,h3.trans he1,he1.v h4,hK⟩
end Go.Iv
namespace Go.Proofs.Tryz
open Go Go.Iv
set_option maxRecDepth 4000
variable (gl:Nat → Option IV)

theorem forms0_c (us:List Fm) (tg:Tag) (xs:List IV) (htg:okEs tg 4) (hxs:IsFms us xs) (hsz:sizeFms us ≤ 1099511627776) (st:ISt) :
    ICall prog gl 97 [.sl tg xs] st (fun r st' => ∃ tg' ys,r = .sl tg' ys ∧ okEs tg' 4 ∧ IsFms us ys ∧ st' = st) :=
  ICall.give ((forms_c gl us tg xs htg hxs hsz st).mono fun r st' h => by
    obtain ⟨tg',ys,rfl,he,_,hys,_,hsub⟩:=h
    exact ⟨st,hsub,tg',ys,rfl,he,hys.1,rfl⟩)
theorem IsSq.two {s:Sq} {x:IV} (h:IsSq s x):∃ t xs t' ys,x = .agg [.sl t xs,.sl t' ys]:=by
  obtain ⟨t,xs,t',ys,rfl,_⟩:=h
  exact ⟨_,_,_,_,rfl⟩
theorem left_c (us:List Fm) (tg:Tag) (xs:List IV) (htg:okEs tg 4) (hxs:IsFms us xs) (hsz:sizeFms us ≤ 1099511627776) (st:ISt) :
    ICall prog gl 151 [.sl tg xs] st (fun r st' => IsSq ⟨us,[]⟩ r ∧ st' = st):=by
  refine ICall.intro (c:=cf prog gl [] []) func151 rfl (by show _ ≤ 6; simp) (by kernel_rfl) ?_
  simp -implicitDefEqProofs -dsimp only [go_sem,↓reduceIte,zE,zB,zA,zM,zS,zL,reduceCtorEq]
  refine (forms0_c gl us tg xs htg hxs hsz _).mono ?_
  rintro _ _ ⟨tg',ys,rfl,he,hys,rfl⟩
  simp -implicitDefEqProofs -dsimp only [go_sem,↓reduceIte,zE,zB,zA,zM,zS,zL,reduceCtorEq,fits]
  exact outK_self ⟨⟨_,_,_,_,rfl,he,hys,.inl rfl,rfl⟩,rfl⟩
theorem right_c (us:List Fm) (tg:Tag) (xs:List IV) (htg:okEs tg 4) (hxs:IsFms us xs) (hsz:sizeFms us ≤ 1099511627776) (st:ISt) :
    ICall prog gl 148 [.sl tg xs] st (fun r st' => IsSq ⟨[],us⟩ r ∧ st' = st):=by
  refine ICall.intro (c:=cf prog gl [] []) func148 rfl (by show _ ≤ 6; simp) (by kernel_rfl) ?_
  simp -implicitDefEqProofs -dsimp only [go_sem,↓reduceIte,zE,zB,zA,zM,zS,zL,reduceCtorEq]
  refine (forms0_c gl us tg xs htg hxs hsz _).mono ?_
  rintro _ _ ⟨tg',ys,rfl,he,hys,rfl⟩
  simp -implicitDefEqProofs -dsimp only [go_sem,↓reduceIte,zE,zB,zA,zM,zS,zL,reduceCtorEq,fits]
  exact outK_self ⟨⟨_,_,_,_,rfl,.inl rfl,rfl,he,hys⟩,rfl⟩
theorem inOrder_2 (x y:Operand):inOrder 2 [(0,x),(1,y)] = true:=rfl
theorem imp_c (a b:Fm) (x y:IV) (hx:IsFm a x) (hy:IsFm b y) (st:ISt):ICall prog gl 215 [x,y] st (fun r st' => IsFm (impF a b) r ∧ st' = st):=by
  have h1:IsFms [a,b] [x,y]:=⟨_,_,rfl,hx,_,_,rfl,hy,rfl⟩
  obtain ⟨o5,n5,t5,x5,t6,x6,rfl⟩:=hx.agg
  obtain ⟨o7,n7,t7,x7,t8,x8,rfl⟩:=hy.agg
  refine ICall.intro (c:=cf prog gl [] []) func215 rfl (by show _ ≤ 9; simp) (by kernel_rfl) ?_
  simp -implicitDefEqProofs -dsimp only [go_sem,↓reduceIte,zE,zB,zA,zM,zS,zL,reduceCtorEq,fits,inOrder_2]
  exact outK_self ⟨⟨_,_,_,_,rfl,by decide,.inl rfl,rfl,.inr rfl,h1⟩,rfl⟩

def AddOk (id:Nat) (F:Fm → Fm → Fm → List Sq):Prop:=∀ (m a b:Fm) (x y z:IV) (_:IsFm m x) (_:IsFm a y) (_:IsFm b z) (_:m.size ≤ 1000000) (_:a.size ≤ 1000000) (_:b.size ≤ 1000000) (st:ISt),
  ICall prog gl id [x,y,z] st (fun r st' => ∃ tg xs,r = .sl tg xs ∧ okEs tg 2 ∧ IsSqs (F m a b) xs ∧ st' = st)
theorem sq1 {s:Sq} {x:IV} (h:IsSq s x):IsSqs [s] [x]:=⟨_,_,rfl,h,rfl⟩
theorem sq2 {s s':Sq} {x x':IV} (h:IsSq s x) (h':IsSq s' x'):IsSqs [s,s'] [x,x']:=⟨_,_,rfl,h,_,_,rfl,h',rfl⟩
theorem add1_c:AddOk gl 204 (fun _ _ _ => []):=by
  intro m a b x y z hx hy hz hm ha hb st
  obtain ⟨o1,n1,t1,x1,t2,x2,rfl⟩:=hx.agg
  obtain ⟨o3,n3,t3,x3,t4,x4,rfl⟩:=hy.agg
  obtain ⟨o5,n5,t5,x5,t6,x6,rfl⟩:=hz.agg
  refine ICall.intro (c:=cf prog gl [] []) func204 rfl (by show _ ≤ 7; simp) (by kernel_rfl) ?_
  simp -implicitDefEqProofs -dsimp only [go_sem,↓reduceIte,zE,zB,zA,zM,zS,zL,reduceCtorEq]
  exact outK_self ⟨_,_,rfl,.inl rfl,rfl,rfl⟩
theorem add2_c:AddOk gl 205 (fun _ _ _ => []):=by
  intro m a b x y z hx hy hz hm ha hb st
  obtain ⟨o1,n1,t1,x1,t2,x2,rfl⟩:=hx.agg
  obtain ⟨o3,n3,t3,x3,t4,x4,rfl⟩:=hy.agg
  obtain ⟨o5,n5,t5,x5,t6,x6,rfl⟩:=hz.agg
  refine ICall.intro (c:=cf prog gl [] []) func205 rfl (by show _ ≤ 7; simp) (by kernel_rfl) ?_
  simp -implicitDefEqProofs -dsimp only [go_sem,↓reduceIte,zE,zB,zA,zM,zS,zL,reduceCtorEq]
  exact outK_self ⟨_,_,rfl,.inl rfl,rfl,rfl⟩
theorem add3_c:AddOk gl 206 (fun m a b => [⟨[],[a]⟩]):=by
  intro m a b x y z hx hy hz hm ha hb st
  have hx0:=hx
  have hy0:=hy
  have hz0:=hz
  obtain ⟨o1,n1,t1,x1,t2,x2,rfl⟩:=hx.agg
  obtain ⟨o3,n3,t3,x3,t4,x4,rfl⟩:=hy.agg
  obtain ⟨o5,n5,t5,x5,t6,x6,rfl⟩:=hz.agg
  have ia:=IsFms.one hy0
  have ib:=IsFms.one hz0
  have im:=IsFms.one hx0
  have iab:IsFms [a,b] [_,_]:=⟨_,_,rfl,hy0,ib⟩
  refine ICall.intro (c:=cf prog gl [] []) func206 rfl (by show _ ≤ 11; simp) (by kernel_rfl) ?_
  simp -implicitDefEqProofs -dsimp only [go_sem,↓reduceIte,zE,zB,zA,zM,zS,zL,reduceCtorEq,fits,inOrder_one,inOrder_2]
  refine (right_c gl _ _ _ (.inr rfl) ia (by simp only [sizeFms]; omega) _).mono ?_
  rintro r _ ⟨hr,rfl⟩
  have h1:=sq1 hr
  obtain ⟨_,_,_,_,rfl⟩:=IsSq.two hr
  simp -implicitDefEqProofs -dsimp only [go_sem,↓reduceIte,zE,zB,zA,zM,zS,zL,reduceCtorEq,fits,inOrder_one]
  exact outK_self ⟨_,_,rfl,.inr rfl,h1,rfl⟩
theorem add4_c:AddOk gl 207 (fun m a b => [⟨[a],[]⟩]):=by
  intro m a b x y z hx hy hz hm ha hb st
  have hx0:=hx
  have hy0:=hy
  have hz0:=hz
  obtain ⟨o1,n1,t1,x1,t2,x2,rfl⟩:=hx.agg
  obtain ⟨o3,n3,t3,x3,t4,x4,rfl⟩:=hy.agg
  obtain ⟨o5,n5,t5,x5,t6,x6,rfl⟩:=hz.agg
  have ia:=IsFms.one hy0
  have ib:=IsFms.one hz0
  have im:=IsFms.one hx0
  have iab:IsFms [a,b] [_,_]:=⟨_,_,rfl,hy0,ib⟩
  refine ICall.intro (c:=cf prog gl [] []) func207 rfl (by show _ ≤ 11; simp) (by kernel_rfl) ?_
  simp -implicitDefEqProofs -dsimp only [go_sem,↓reduceIte,zE,zB,zA,zM,zS,zL,reduceCtorEq,fits,inOrder_one,inOrder_2]
  refine (left_c gl _ _ _ (.inr rfl) ia (by simp only [sizeFms]; omega) _).mono ?_
  rintro r _ ⟨hr,rfl⟩
  have h1:=sq1 hr
  obtain ⟨_,_,_,_,rfl⟩:=IsSq.two hr
  simp -implicitDefEqProofs -dsimp only [go_sem,↓reduceIte,zE,zB,zA,zM,zS,zL,reduceCtorEq,fits,inOrder_one]
  exact outK_self ⟨_,_,rfl,.inr rfl,h1,rfl⟩
theorem add5_c:AddOk gl 208 (fun m a b => [⟨[a,b],[]⟩]):=by
  intro m a b x y z hx hy hz hm ha hb st
  have hx0:=hx
  have hy0:=hy
  have hz0:=hz
  obtain ⟨o1,n1,t1,x1,t2,x2,rfl⟩:=hx.agg
  obtain ⟨o3,n3,t3,x3,t4,x4,rfl⟩:=hy.agg
  obtain ⟨o5,n5,t5,x5,t6,x6,rfl⟩:=hz.agg
  have ia:=IsFms.one hy0
  have ib:=IsFms.one hz0
  have im:=IsFms.one hx0
  have iab:IsFms [a,b] [_,_]:=⟨_,_,rfl,hy0,ib⟩
  refine ICall.intro (c:=cf prog gl [] []) func208 rfl (by show _ ≤ 12; simp) (by kernel_rfl) ?_
  simp -implicitDefEqProofs -dsimp only [go_sem,↓reduceIte,zE,zB,zA,zM,zS,zL,reduceCtorEq,fits,inOrder_one,inOrder_2]
  refine (left_c gl _ _ _ (.inr rfl) iab (by simp only [sizeFms]; omega) _).mono ?_
  rintro r _ ⟨hr,rfl⟩
  have h1:=sq1 hr
  obtain ⟨_,_,_,_,rfl⟩:=IsSq.two hr
  simp -implicitDefEqProofs -dsimp only [go_sem,↓reduceIte,zE,zB,zA,zM,zS,zL,reduceCtorEq,fits,inOrder_one]
  exact outK_self ⟨_,_,rfl,.inr rfl,h1,rfl⟩
theorem add6_c:AddOk gl 209 (fun m a b => [⟨[],[a]⟩,⟨[],[b]⟩]):=by
  intro m a b x y z hx hy hz hm ha hb st
  have hx0:=hx
  have hy0:=hy
  have hz0:=hz
  obtain ⟨o1,n1,t1,x1,t2,x2,rfl⟩:=hx.agg
  obtain ⟨o3,n3,t3,x3,t4,x4,rfl⟩:=hy.agg
  obtain ⟨o5,n5,t5,x5,t6,x6,rfl⟩:=hz.agg
  have ia:=IsFms.one hy0
  have ib:=IsFms.one hz0
  have im:=IsFms.one hx0
  have iab:IsFms [a,b] [_,_]:=⟨_,_,rfl,hy0,ib⟩
  refine ICall.intro (c:=cf prog gl [] [(1,[0,1,3,4,2,5,6,7])]) func209 rfl (by show _ ≤ 14; simp) (by kernel_rfl) ?_
  simp -implicitDefEqProofs -dsimp only [go_sem,↓reduceIte,zE,zB,zA,zM,zS,zL,reduceCtorEq,fits,inOrder_one,inOrder_2]
  refine (right_c gl _ _ _ (.inr rfl) ia (by simp only [sizeFms]; omega) _).mono ?_
  rintro r _ ⟨hr,rfl⟩
  have hr0:=hr
  obtain ⟨_,_,_,_,rfl⟩:=IsSq.two hr
  simp -implicitDefEqProofs -dsimp only [go_sem,↓reduceIte,zE,zB,zA,zM,zS,zL,reduceCtorEq,fits,inOrder_one,inOrder_2]
  refine (right_c gl _ _ _ (.inr rfl) ib (by simp only [sizeFms]; omega) _).mono ?_
  rintro r _ ⟨hr,rfl⟩
  have h1:=sq2 hr0 hr
  obtain ⟨_,_,_,_,rfl⟩:=IsSq.two hr
  simp -implicitDefEqProofs -dsimp only [go_sem,↓reduceIte,zE,zB,zA,zM,zS,zL,reduceCtorEq,fits,inOrder_one,inOrder_2]
  exact outK_self ⟨_,_,rfl,.inr rfl,h1,rfl⟩
theorem add7_c:AddOk gl 210 (fun m a b => [⟨[a],[]⟩,⟨[b],[]⟩]):=by
  intro m a b x y z hx hy hz hm ha hb st
  have hx0:=hx
  have hy0:=hy
  have hz0:=hz
  obtain ⟨o1,n1,t1,x1,t2,x2,rfl⟩:=hx.agg
  obtain ⟨o3,n3,t3,x3,t4,x4,rfl⟩:=hy.agg
  obtain ⟨o5,n5,t5,x5,t6,x6,rfl⟩:=hz.agg
  have ia:=IsFms.one hy0
  have ib:=IsFms.one hz0
  have im:=IsFms.one hx0
  have iab:IsFms [a,b] [_,_]:=⟨_,_,rfl,hy0,ib⟩
  refine ICall.intro (c:=cf prog gl [] [(1,[0,1,3,4,2,5,6,7])]) func210 rfl (by show _ ≤ 14; simp) (by kernel_rfl) ?_
  simp -implicitDefEqProofs -dsimp only [go_sem,↓reduceIte,zE,zB,zA,zM,zS,zL,reduceCtorEq,fits,inOrder_one,inOrder_2]
  refine (left_c gl _ _ _ (.inr rfl) ia (by simp only [sizeFms]; omega) _).mono ?_
  rintro r _ ⟨hr,rfl⟩
  have hr0:=hr
  obtain ⟨_,_,_,_,rfl⟩:=IsSq.two hr
  simp -implicitDefEqProofs -dsimp only [go_sem,↓reduceIte,zE,zB,zA,zM,zS,zL,reduceCtorEq,fits,inOrder_one,inOrder_2]
  refine (left_c gl _ _ _ (.inr rfl) ib (by simp only [sizeFms]; omega) _).mono ?_
  rintro r _ ⟨hr,rfl⟩
  have h1:=sq2 hr0 hr
  obtain ⟨_,_,_,_,rfl⟩:=IsSq.two hr
  simp -implicitDefEqProofs -dsimp only [go_sem,↓reduceIte,zE,zB,zA,zM,zS,zL,reduceCtorEq,fits,inOrder_one,inOrder_2]
  exact outK_self ⟨_,_,rfl,.inr rfl,h1,rfl⟩
theorem add8_c:AddOk gl 211 (fun m a b => [⟨[],[a,b]⟩]):=by
  intro m a b x y z hx hy hz hm ha hb st
  have hx0:=hx
  have hy0:=hy
  have hz0:=hz
  obtain ⟨o1,n1,t1,x1,t2,x2,rfl⟩:=hx.agg
  obtain ⟨o3,n3,t3,x3,t4,x4,rfl⟩:=hy.agg
  obtain ⟨o5,n5,t5,x5,t6,x6,rfl⟩:=hz.agg
  have ia:=IsFms.one hy0
  have ib:=IsFms.one hz0
  have im:=IsFms.one hx0
  have iab:IsFms [a,b] [_,_]:=⟨_,_,rfl,hy0,ib⟩
  refine ICall.intro (c:=cf prog gl [] []) func211 rfl (by show _ ≤ 12; simp) (by kernel_rfl) ?_
  simp -implicitDefEqProofs -dsimp only [go_sem,↓reduceIte,zE,zB,zA,zM,zS,zL,reduceCtorEq,fits,inOrder_one,inOrder_2]
  refine (right_c gl _ _ _ (.inr rfl) iab (by simp only [sizeFms]; omega) _).mono ?_
  rintro r _ ⟨hr,rfl⟩
  have h1:=sq1 hr
  obtain ⟨_,_,_,_,rfl⟩:=IsSq.two hr
  simp -implicitDefEqProofs -dsimp only [go_sem,↓reduceIte,zE,zB,zA,zM,zS,zL,reduceCtorEq,fits,inOrder_one]
  exact outK_self ⟨_,_,rfl,.inr rfl,h1,rfl⟩
theorem add9_c:AddOk gl 212 (fun m a b => [⟨[],[a]⟩,⟨[b],[]⟩]):=by
  intro m a b x y z hx hy hz hm ha hb st
  have hx0:=hx
  have hy0:=hy
  have hz0:=hz
  obtain ⟨o1,n1,t1,x1,t2,x2,rfl⟩:=hx.agg
  obtain ⟨o3,n3,t3,x3,t4,x4,rfl⟩:=hy.agg
  obtain ⟨o5,n5,t5,x5,t6,x6,rfl⟩:=hz.agg
  have ia:=IsFms.one hy0
  have ib:=IsFms.one hz0
  have im:=IsFms.one hx0
  have iab:IsFms [a,b] [_,_]:=⟨_,_,rfl,hy0,ib⟩
  refine ICall.intro (c:=cf prog gl [] [(1,[0,1,3,4,2,5,6,7])]) func212 rfl (by show _ ≤ 14; simp) (by kernel_rfl) ?_
  simp -implicitDefEqProofs -dsimp only [go_sem,↓reduceIte,zE,zB,zA,zM,zS,zL,reduceCtorEq,fits,inOrder_one,inOrder_2]
  refine (right_c gl _ _ _ (.inr rfl) ia (by simp only [sizeFms]; omega) _).mono ?_
  rintro r _ ⟨hr,rfl⟩
  have hr0:=hr
  obtain ⟨_,_,_,_,rfl⟩:=IsSq.two hr
  simp -implicitDefEqProofs -dsimp only [go_sem,↓reduceIte,zE,zB,zA,zM,zS,zL,reduceCtorEq,fits,inOrder_one,inOrder_2]
  refine (left_c gl _ _ _ (.inr rfl) ib (by simp only [sizeFms]; omega) _).mono ?_
  rintro r _ ⟨hr,rfl⟩
  have h1:=sq2 hr0 hr
  obtain ⟨_,_,_,_,rfl⟩:=IsSq.two hr
  simp -implicitDefEqProofs -dsimp only [go_sem,↓reduceIte,zE,zB,zA,zM,zS,zL,reduceCtorEq,fits,inOrder_one,inOrder_2]
  exact outK_self ⟨_,_,rfl,.inr rfl,h1,rfl⟩
theorem add17_c:AddOk gl 217 (fun m a b => [⟨[],[m]⟩,⟨[m],[]⟩]):=by
  intro m a b x y z hx hy hz hm ha hb st
  have hx0:=hx
  have hy0:=hy
  have hz0:=hz
  obtain ⟨o1,n1,t1,x1,t2,x2,rfl⟩:=hx.agg
  obtain ⟨o3,n3,t3,x3,t4,x4,rfl⟩:=hy.agg
  obtain ⟨o5,n5,t5,x5,t6,x6,rfl⟩:=hz.agg
  have ia:=IsFms.one hy0
  have ib:=IsFms.one hz0
  have im:=IsFms.one hx0
  have iab:IsFms [a,b] [_,_]:=⟨_,_,rfl,hy0,ib⟩
  refine ICall.intro (c:=cf prog gl [] [(1,[0,1,3,4,2,5,6,7])]) func217 rfl (by show _ ≤ 14; simp) (by kernel_rfl) ?_
  simp -implicitDefEqProofs -dsimp only [go_sem,↓reduceIte,zE,zB,zA,zM,zS,zL,reduceCtorEq,fits,inOrder_one,inOrder_2]
  refine (right_c gl _ _ _ (.inr rfl) im (by simp only [sizeFms]; omega) _).mono ?_
  rintro r _ ⟨hr,rfl⟩
  have hr0:=hr
  obtain ⟨_,_,_,_,rfl⟩:=IsSq.two hr
  simp -implicitDefEqProofs -dsimp only [go_sem,↓reduceIte,zE,zB,zA,zM,zS,zL,reduceCtorEq,fits,inOrder_one,inOrder_2]
  refine (left_c gl _ _ _ (.inr rfl) im (by simp only [sizeFms]; omega) _).mono ?_
  rintro r _ ⟨hr,rfl⟩
  have h1:=sq2 hr0 hr
  obtain ⟨_,_,_,_,rfl⟩:=IsSq.two hr
  simp -implicitDefEqProofs -dsimp only [go_sem,↓reduceIte,zE,zB,zA,zM,zS,zL,reduceCtorEq,fits,inOrder_one,inOrder_2]
  exact outK_self ⟨_,_,rfl,.inr rfl,h1,rfl⟩
theorem add8j_c:AddOk gl 147 (fun m a b => [⟨[],[a]⟩]):=by
  intro m a b x y z hx hy hz hm ha hb st
  have hx0:=hx
  have hy0:=hy
  have hz0:=hz
  obtain ⟨o1,n1,t1,x1,t2,x2,rfl⟩:=hx.agg
  obtain ⟨o3,n3,t3,x3,t4,x4,rfl⟩:=hy.agg
  obtain ⟨o5,n5,t5,x5,t6,x6,rfl⟩:=hz.agg
  have ia:=IsFms.one hy0
  have ib:=IsFms.one hz0
  have im:=IsFms.one hx0
  have iab:IsFms [a,b] [_,_]:=⟨_,_,rfl,hy0,ib⟩
  refine ICall.intro (c:=cf prog gl [] []) func147 rfl (by show _ ≤ 11; simp) (by kernel_rfl) ?_
  simp -implicitDefEqProofs -dsimp only [go_sem,↓reduceIte,zE,zB,zA,zM,zS,zL,reduceCtorEq,fits,inOrder_one,inOrder_2]
  refine (right_c gl _ _ _ (.inr rfl) ia (by simp only [sizeFms]; omega) _).mono ?_
  rintro r _ ⟨hr,rfl⟩
  have h1:=sq1 hr
  obtain ⟨_,_,_,_,rfl⟩:=IsSq.two hr
  simp -implicitDefEqProofs -dsimp only [go_sem,↓reduceIte,zE,zB,zA,zM,zS,zL,reduceCtorEq,fits,inOrder_one]
  exact outK_self ⟨_,_,rfl,.inr rfl,h1,rfl⟩
theorem add18_c:AddOk gl 149 (fun m a b => [⟨[],[b]⟩]):=by
  intro m a b x y z hx hy hz hm ha hb st
  have hx0:=hx
  have hy0:=hy
  have hz0:=hz
  obtain ⟨o1,n1,t1,x1,t2,x2,rfl⟩:=hx.agg
  obtain ⟨o3,n3,t3,x3,t4,x4,rfl⟩:=hy.agg
  obtain ⟨o5,n5,t5,x5,t6,x6,rfl⟩:=hz.agg
  have ia:=IsFms.one hy0
  have ib:=IsFms.one hz0
  have im:=IsFms.one hx0
  have iab:IsFms [a,b] [_,_]:=⟨_,_,rfl,hy0,ib⟩
  refine ICall.intro (c:=cf prog gl [] []) func149 rfl (by show _ ≤ 11; simp) (by kernel_rfl) ?_
  simp -implicitDefEqProofs -dsimp only [go_sem,↓reduceIte,zE,zB,zA,zM,zS,zL,reduceCtorEq,fits,inOrder_one,inOrder_2]
  refine (right_c gl _ _ _ (.inr rfl) ib (by simp only [sizeFms]; omega) _).mono ?_
  rintro r _ ⟨hr,rfl⟩
  have h1:=sq1 hr
  obtain ⟨_,_,_,_,rfl⟩:=IsSq.two hr
  simp -implicitDefEqProofs -dsimp only [go_sem,↓reduceIte,zE,zB,zA,zM,zS,zL,reduceCtorEq,fits,inOrder_one]
  exact outK_self ⟨_,_,rfl,.inr rfl,h1,rfl⟩
theorem addL_c:AddOk gl 150 (fun m a b => [⟨[a],[]⟩]):=by
  intro m a b x y z hx hy hz hm ha hb st
  have hx0:=hx
  have hy0:=hy
  have hz0:=hz
  obtain ⟨o1,n1,t1,x1,t2,x2,rfl⟩:=hx.agg
  obtain ⟨o3,n3,t3,x3,t4,x4,rfl⟩:=hy.agg
  obtain ⟨o5,n5,t5,x5,t6,x6,rfl⟩:=hz.agg
  have ia:=IsFms.one hy0
  have ib:=IsFms.one hz0
  have im:=IsFms.one hx0
  have iab:IsFms [a,b] [_,_]:=⟨_,_,rfl,hy0,ib⟩
  refine ICall.intro (c:=cf prog gl [] []) func150 rfl (by show _ ≤ 11; simp) (by kernel_rfl) ?_
  simp -implicitDefEqProofs -dsimp only [go_sem,↓reduceIte,zE,zB,zA,zM,zS,zL,reduceCtorEq,fits,inOrder_one,inOrder_2]
  refine (left_c gl _ _ _ (.inr rfl) ia (by simp only [sizeFms]; omega) _).mono ?_
  rintro r _ ⟨hr,rfl⟩
  have h1:=sq1 hr
  obtain ⟨_,_,_,_,rfl⟩:=IsSq.two hr
  simp -implicitDefEqProofs -dsimp only [go_sem,↓reduceIte,zE,zB,zA,zM,zS,zL,reduceCtorEq,fits,inOrder_one]
  exact outK_self ⟨_,_,rfl,.inr rfl,h1,rfl⟩
theorem addR_c:AddOk gl 152 (fun m a b => [⟨[],[a]⟩]):=by
  intro m a b x y z hx hy hz hm ha hb st
  have hx0:=hx
  have hy0:=hy
  have hz0:=hz
  obtain ⟨o1,n1,t1,x1,t2,x2,rfl⟩:=hx.agg
  obtain ⟨o3,n3,t3,x3,t4,x4,rfl⟩:=hy.agg
  obtain ⟨o5,n5,t5,x5,t6,x6,rfl⟩:=hz.agg
  have ia:=IsFms.one hy0
  have ib:=IsFms.one hz0
  have im:=IsFms.one hx0
  have iab:IsFms [a,b] [_,_]:=⟨_,_,rfl,hy0,ib⟩
  refine ICall.intro (c:=cf prog gl [] []) func152 rfl (by show _ ≤ 11; simp) (by kernel_rfl) ?_
  simp -implicitDefEqProofs -dsimp only [go_sem,↓reduceIte,zE,zB,zA,zM,zS,zL,reduceCtorEq,fits,inOrder_one,inOrder_2]
  refine (right_c gl _ _ _ (.inr rfl) ia (by simp only [sizeFms]; omega) _).mono ?_
  rintro r _ ⟨hr,rfl⟩
  have h1:=sq1 hr
  obtain ⟨_,_,_,_,rfl⟩:=IsSq.two hr
  simp -implicitDefEqProofs -dsimp only [go_sem,↓reduceIte,zE,zB,zA,zM,zS,zL,reduceCtorEq,fits,inOrder_one]
  exact outK_self ⟨_,_,rfl,.inr rfl,h1,rfl⟩
theorem add10_c:AddOk gl 213 (fun m a b => [⟨[a],[b]⟩]):=by
  intro m a b x y z hx hy hz hm ha hb st
  have hx0:=hx
  have hy0:=hy
  have hz0:=hz
  obtain ⟨o1,n1,t1,x1,t2,x2,rfl⟩:=hx.agg
  obtain ⟨o3,n3,t3,x3,t4,x4,rfl⟩:=hy.agg
  obtain ⟨o5,n5,t5,x5,t6,x6,rfl⟩:=hz.agg
  have ia:=IsFms.one hy0
  have ib:=IsFms.one hz0
  have im:=IsFms.one hx0
  have iab:IsFms [a,b] [_,_]:=⟨_,_,rfl,hy0,ib⟩
  refine ICall.intro (c:=cf prog gl [] [(1,[0,1,3,4,2,5,6,7,8])]) func213 rfl (by show _ ≤ 15; simp) (by kernel_rfl) ?_
  simp -implicitDefEqProofs -dsimp only [go_sem,↓reduceIte,zE,zB,zA,zM,zS,zL,reduceCtorEq,fits,inOrder_one]
  refine (forms0_c gl _ _ _ (.inr rfl) ia (by simp only [sizeFms]; omega) _).mono ?_
  rintro _ _ ⟨tg1,ys1,rfl,he1,hys1,rfl⟩
  simp -implicitDefEqProofs -dsimp only [go_sem,↓reduceIte,zE,zB,zA,zM,zS,zL,reduceCtorEq,fits,inOrder_one]
  refine (forms0_c gl _ _ _ (.inr rfl) ib (by simp only [sizeFms]; omega) _).mono ?_
  rintro _ _ ⟨tg2,ys2,rfl,he2,hys2,rfl⟩
  simp -implicitDefEqProofs -dsimp only [go_sem,↓reduceIte,zE,zB,zA,zM,zS,zL,reduceCtorEq,fits,inOrder_one]
  exact outK_self ⟨_,_,rfl,.inr rfl,sq1 ⟨_,_,_,_,rfl,he1,hys1,he2,hys2⟩,rfl⟩
theorem add12_c:AddOk gl 216 (fun m a b => [⟨[a],[b]⟩,⟨[b],[a]⟩]):=by
  intro m a b x y z hx hy hz hm ha hb st
  have hx0:=hx
  have hy0:=hy
  have hz0:=hz
  obtain ⟨o1,n1,t1,x1,t2,x2,rfl⟩:=hx.agg
  obtain ⟨o3,n3,t3,x3,t4,x4,rfl⟩:=hy.agg
  obtain ⟨o5,n5,t5,x5,t6,x6,rfl⟩:=hz.agg
  have ia:=IsFms.one hy0
  have ib:=IsFms.one hz0
  have im:=IsFms.one hx0
  have iab:IsFms [a,b] [_,_]:=⟨_,_,rfl,hy0,ib⟩
  refine ICall.intro (c:=cf prog gl [] [(1,[0,1,3,4,7,8,10,11,2,5,6,9,12,13,14,15])]) func216 rfl (by show _ ≤ 22; simp) (by kernel_rfl) ?_
  simp -implicitDefEqProofs -dsimp only [go_sem,↓reduceIte,zE,zB,zA,zM,zS,zL,reduceCtorEq,fits,inOrder_one]
  refine (forms0_c gl _ _ _ (.inr rfl) ia (by simp only [sizeFms]; omega) _).mono ?_
  rintro _ _ ⟨tg1,ys1,rfl,he1,hys1,rfl⟩
  simp -implicitDefEqProofs -dsimp only [go_sem,↓reduceIte,zE,zB,zA,zM,zS,zL,reduceCtorEq,fits,inOrder_one]
  refine (forms0_c gl _ _ _ (.inr rfl) ib (by simp only [sizeFms]; omega) _).mono ?_
  rintro _ _ ⟨tg2,ys2,rfl,he2,hys2,rfl⟩
  simp -implicitDefEqProofs -dsimp only [go_sem,↓reduceIte,zE,zB,zA,zM,zS,zL,reduceCtorEq,fits,inOrder_one]
  refine (forms0_c gl _ _ _ (.inr rfl) ib (by simp only [sizeFms]; omega) _).mono ?_
  rintro _ _ ⟨tg3,ys3,rfl,he3,hys3,rfl⟩
  simp -implicitDefEqProofs -dsimp only [go_sem,↓reduceIte,zE,zB,zA,zM,zS,zL,reduceCtorEq,fits,inOrder_one]
  refine (forms0_c gl _ _ _ (.inr rfl) ia (by simp only [sizeFms]; omega) _).mono ?_
  rintro _ _ ⟨tg4,ys4,rfl,he4,hys4,rfl⟩
  simp -implicitDefEqProofs -dsimp only [go_sem,↓reduceIte,zE,zB,zA,zM,zS,zL,reduceCtorEq,fits,inOrder_2]
  exact outK_self ⟨_,_,rfl,.inr rfl,sq2 ⟨_,_,_,_,rfl,he1,hys1,he2,hys2⟩ ⟨_,_,_,_,rfl,he3,hys3,he4,hys4⟩,rfl⟩
theorem add11_c:AddOk gl 214 (fun m a b => [⟨[impF a b,impF b a],[]⟩]):=by
  intro m a b x y z hx hy hz hm ha hb st
  have hx0:=hx
  have hy0:=hy
  have hz0:=hz
  obtain ⟨o1,n1,t1,x1,t2,x2,rfl⟩:=hx.agg
  obtain ⟨o3,n3,t3,x3,t4,x4,rfl⟩:=hy.agg
  obtain ⟨o5,n5,t5,x5,t6,x6,rfl⟩:=hz.agg
  have ia:=IsFms.one hy0
  have ib:=IsFms.one hz0
  have im:=IsFms.one hx0
  have iab:IsFms [a,b] [_,_]:=⟨_,_,rfl,hy0,ib⟩
  refine ICall.intro (c:=cf prog gl [] [(1,[0,1,3,4,2,5,6,7,8,9])]) func214 rfl (by show _ ≤ 16; simp) (by kernel_rfl) ?_
  simp -implicitDefEqProofs -dsimp only [go_sem,↓reduceIte,zE,zB,zA,zM,zS,zL,reduceCtorEq,fits]
  refine (imp_c gl a b _ _ hy0 hz0 _).mono ?_
  rintro r _ ⟨hr,rfl⟩
  have hr0:=hr
  obtain ⟨_,_,_,_,_,_,rfl⟩:=hr.agg
  simp -implicitDefEqProofs -dsimp only [go_sem,↓reduceIte,zE,zB,zA,zM,zS,zL,reduceCtorEq,fits]
  refine (imp_c gl b a _ _ hz0 hy0 _).mono ?_
  rintro r _ ⟨hr,rfl⟩
  have hr1:IsFms [impF a b,impF b a] [_,_]:=⟨_,_,rfl,hr0,IsFms.one hr⟩
  obtain ⟨_,_,_,_,_,_,rfl⟩:=hr.agg
  simp -implicitDefEqProofs -dsimp only [go_sem,↓reduceIte,zE,zB,zA,zM,zS,zL,reduceCtorEq,fits,inOrder_2]
  refine (left_c gl _ _ _ (.inr rfl) hr1 (by simp only [sizeFms,impF,Fm.size,sizeTms]; omega) _).mono ?_
  rintro r _ ⟨hr,rfl⟩
  have h1:=sq1 hr
  obtain ⟨_,_,_,_,rfl⟩:=IsSq.two hr
  simp -implicitDefEqProofs -dsimp only [go_sem,↓reduceIte,zE,zB,zA,zM,zS,zL,reduceCtorEq,fits,inOrder_one]
  exact outK_self ⟨_,_,rfl,.inr rfl,h1,rfl⟩
end Go.Proofs.Tryz

namespace Go.Proofs.Tryz
open Go Go.Iv
set_option maxRecDepth 4000
variable (gl:Nat → Option IV)

def fitL (l:List Fm):Prop:=∀ f ∈ l,f.size ≤ 1000000
theorem known_c (ca:Nat) (st:ISt):ICall prog gl 59 [.raw (.int .u8 ca)] st (fun r st' => r = .raw (.bool (knownB ca)) ∧ st' = st):=by
  refine ICall.intro (c:=cf prog gl [] []) func59 rfl (by show _ ≤ 9; simp) (by kernel_rfl) ?_
  by_cases h1:1 ≤ ca
  · have e1:decide (1 ≤ (ca:Int)) = true:=decide_eq_true (by omega)
    by_cases h2:ca ≤ 3
    · have e2:decide ((ca:Int) ≤ 3) = true:=decide_eq_true (by omega)
      simp -implicitDefEqProofs -dsimp only [go_sem,↓reduceIte,zE,zB,zA,zM,zS,zL,reduceCtorEq,e1,e2]
      exact outK_self ⟨by simp [knownB,h1,h2],rfl⟩
    · have e2:decide ((ca:Int) ≤ 3) = false:=decide_eq_false (by omega)
      simp -implicitDefEqProofs -dsimp only [go_sem,↓reduceIte,zE,zB,zA,zM,zS,zL,reduceCtorEq,e1,e2]
      exact outK_self ⟨by simp [knownB,h2],rfl⟩
  · have e1:decide (1 ≤ (ca:Int)) = false:=decide_eq_false (by omega)
    simp -implicitDefEqProofs -dsimp only [go_sem,↓reduceIte,zE,zB,zA,zM,zS,zL,reduceCtorEq,e1]
    exact outK_self ⟨by simp [knownB,h1],rfl⟩
def sOp (f:Fm):Prop:=∀ (ca:Nat) (x:IV) (_:IsFm f x) (st:ISt),ICall prog gl 121 [.raw (.int .u8 ca),x] st (fun r st' => r = .raw (.bool (opsB ca f)) ∧ st' = st)
theorem opsBs_append (ca:Nat):∀ l m:List Fm,opsBs ca (l ++ m) = (opsBs ca l && opsBs ca m)
  | [],m => by simp [opsBs]
  | a :: l,m => by simp only [List.cons_append,opsBs,opsBs_append ca l m,Bool.and_assoc]
theorem opsBs_out {ca:Nat} {l:List Fm} {a:Fm} (ha:a ∈ l) (h:opsB ca a = false):opsBs ca l = false:=by
  obtain ⟨p,q,rfl⟩:=List.append_of_mem ha
  rw [opsBs_append]
  simp [opsBs,h]
theorem sOp_step (o:Nat) (n:ByteArray) (us:List Tm) (sub:List Fm) (IH:∀ a ∈ sub,sOp gl a):sOp gl (.mk o n us sub):=by
  intro ca x hx st
  obtain ⟨t1,x1,t2,x2,rfl,ho,ht1,hx1,ht2,hx2⟩:=hx.mk
  have loop:∀ (last:Nat) (hop:(decide (1 ≤ o) && decide (o ≤ if ca = 3 then 9 else 7) && (decide (ca = 3) || us.isEmpty)) = true),opsB ca (.mk o n us sub) = opsBs ca sub:=fun _ h => by
    simp only [opsB,h,Bool.true_and]
  refine ICall.intro (c:=cf prog gl [] []) func121 rfl (by show _ ≤ 41; simp) (by kernel_rfl) ?_
  by_cases h1:1 ≤ o
  · have e1:decide ((o:Int) < 1) = false:=decide_eq_false (by omega)
    by_cases hca:ca = 3
    · have e3:decide ((ca:Int) = 3) = true:=decide_eq_true (by omega)
      by_cases h2:o ≤ 9
      · have e2:decide ((9:Int) < (o:Int)) = false:=decide_eq_false (by omega)
        have hl:=loop 9 (by simp [h1,h2,hca])
        simp -implicitDefEqProofs -dsimp only [go_sem,↓reduceIte,zE,zB,zA,zM,zS,zL,reduceCtorEq,e1,e2,e3,hx2.len]
        intro _
        refine LoopC.ctr sub.length (fun k fr st' ds => opsBs ca (sub.take k) = true ∧ fr 0 = .iv (.raw (.int .u8 ca)) ∧ fr 30 = .iv (.sl t2 x2) ∧ fr 31 = .iv (.raw (.int .i64 sub.length)) ∧ fr 32 = .iv (.raw (.int .i64 k)) ∧ st' = st ∧ ds = []) ?_ ?_ ?_
        · simp -implicitDefEqProofs -dsimp only [go_sem,↓reduceIte,zE,zB,zA,zM,zS,zL,reduceCtorEq]
          simp [opsBs]
        · rintro k fr st1 _ hlt ⟨hn,f0,f30,f31,f32,rfl,rfl⟩
          obtain ⟨a,ha⟩:=get_of_lt hlt
          obtain ⟨y,hky,hy⟩:=hx2.get ha
          have hcall:=IH a (List.mem_of_getElem? ha) ca y hy st1
          obtain ⟨o5,n5,t5,x5,t6,x6,rfl⟩:=hy.agg
          simp -implicitDefEqProofs -dsimp only [go_sem,↓reduceIte,zE,zB,zA,zM,zS,zL,reduceCtorEq,f0,f30,f31,f32,lt_i hlt,reTag_es ht2,Int.natCast_nonneg,hky,fits]
          refine hcall.mono ?_
          rintro _ _ ⟨rfl,rfl⟩
          cases hr:opsB ca a
          · simp -implicitDefEqProofs -dsimp only [go_sem,↓reduceIte,zE,zB,zA,zM,zS,zL,reduceCtorEq]
            exact outK_self ⟨by rw [hl,opsBs_out (List.mem_of_getElem? ha) hr],rfl⟩
          · simp -implicitDefEqProofs -dsimp only [go_sem,↓reduceIte,zE,zB,zA,zM,zS,zL,reduceCtorEq,f0,f30,f31,f32,w_succ hlt (show sub.length ≤ 281474976710656 by omega)]
            rw [take_get ha,opsBs_append,hn]
            simp [opsBs,hr]
        · rintro fr st1 _ ⟨hn,f0,f30,f31,f32,rfl,rfl⟩
          rw [List.take_length] at hn
          simp -implicitDefEqProofs -dsimp only [go_sem,↓reduceIte,zE,zB,zA,zM,zS,zL,reduceCtorEq,f31,f32,nlt_i (Nat.lt_irrefl _)]
          exact outK_self ⟨by rw [hl,hn],rfl⟩
      · have e2:decide ((9:Int) < (o:Int)) = true:=decide_eq_true (by omega)
        simp -implicitDefEqProofs -dsimp only [go_sem,↓reduceIte,zE,zB,zA,zM,zS,zL,reduceCtorEq,e1,e2,e3,hx2.len]
        exact outK_self ⟨by simp [opsB,h2,hca],rfl⟩
    · have e3:decide ((ca:Int) = 3) = false:=decide_eq_false (by omega)
      by_cases h2:o ≤ 7
      · have e2:decide ((7:Int) < (o:Int)) = false:=decide_eq_false (by omega)
        by_cases hu:us = []
        · subst hu
          have e4:decide ((0:Int) < ((0:Nat):Int)) = false:=rfl
          have hl:=loop 7 (by simp [h1,h2,hca])
          simp -implicitDefEqProofs -dsimp only [go_sem,↓reduceIte,zE,zB,zA,zM,zS,zL,reduceCtorEq,e1,e2,e3,e4,hx1.len,hx2.len]
          intro _
          refine LoopC.ctr sub.length (fun k fr st' ds => opsBs ca (sub.take k) = true ∧ fr 0 = .iv (.raw (.int .u8 ca)) ∧ fr 30 = .iv (.sl t2 x2) ∧ fr 31 = .iv (.raw (.int .i64 sub.length)) ∧ fr 32 = .iv (.raw (.int .i64 k)) ∧ st' = st ∧ ds = []) ?_ ?_ ?_
          · simp -implicitDefEqProofs -dsimp only [go_sem,↓reduceIte,zE,zB,zA,zM,zS,zL,reduceCtorEq]
            simp [opsBs]
          · rintro k fr st1 _ hlt ⟨hn,f0,f30,f31,f32,rfl,rfl⟩
            obtain ⟨a,ha⟩:=get_of_lt hlt
            obtain ⟨y,hky,hy⟩:=hx2.get ha
            have hcall:=IH a (List.mem_of_getElem? ha) ca y hy st1
            obtain ⟨o5,n5,t5,x5,t6,x6,rfl⟩:=hy.agg
            simp -implicitDefEqProofs -dsimp only [go_sem,↓reduceIte,zE,zB,zA,zM,zS,zL,reduceCtorEq,f0,f30,f31,f32,lt_i hlt,reTag_es ht2,Int.natCast_nonneg,hky,fits]
            refine hcall.mono ?_
            rintro _ _ ⟨rfl,rfl⟩
            cases hr:opsB ca a
            · simp -implicitDefEqProofs -dsimp only [go_sem,↓reduceIte,zE,zB,zA,zM,zS,zL,reduceCtorEq]
              exact outK_self ⟨by rw [hl,opsBs_out (List.mem_of_getElem? ha) hr],rfl⟩
            · simp -implicitDefEqProofs -dsimp only [go_sem,↓reduceIte,zE,zB,zA,zM,zS,zL,reduceCtorEq,f0,f30,f31,f32,w_succ hlt (show sub.length ≤ 281474976710656 by omega)]
              rw [take_get ha,opsBs_append,hn]
              simp [opsBs,hr]
          · rintro fr st1 _ ⟨hn,f0,f30,f31,f32,rfl,rfl⟩
            rw [List.take_length] at hn
            simp -implicitDefEqProofs -dsimp only [go_sem,↓reduceIte,zE,zB,zA,zM,zS,zL,reduceCtorEq,f31,f32,nlt_i (Nat.lt_irrefl _)]
            exact outK_self ⟨by rw [hl,hn],rfl⟩
        · have hpos:0 < us.length:=List.length_pos_iff.2 hu
          have e4:decide ((0:Int) < (us.length:Int)) = true:=decide_eq_true (by omega)
          simp -implicitDefEqProofs -dsimp only [go_sem,↓reduceIte,zE,zB,zA,zM,zS,zL,reduceCtorEq,e1,e2,e3,e4,hx1.len,hx2.len]
          intro _
          exact outK_self ⟨by simp [opsB,hca,hu],rfl⟩
      · have e2:decide ((7:Int) < (o:Int)) = true:=decide_eq_true (by omega)
        simp -implicitDefEqProofs -dsimp only [go_sem,↓reduceIte,zE,zB,zA,zM,zS,zL,reduceCtorEq,e1,e2,e3,hx1.len,hx2.len]
        exact outK_self ⟨by simp [opsB,hca,h2],rfl⟩
  · have e1:decide ((o:Int) < 1) = true:=decide_eq_true (by omega)
    by_cases hca:ca = 3
    · have e3:decide ((ca:Int) = 3) = true:=decide_eq_true (by omega)
      simp -implicitDefEqProofs -dsimp only [go_sem,↓reduceIte,zE,zB,zA,zM,zS,zL,reduceCtorEq,e1,e3]
      exact outK_self ⟨by simp [opsB,h1],rfl⟩
    · have e3:decide ((ca:Int) = 3) = false:=decide_eq_false (by omega)
      simp -implicitDefEqProofs -dsimp only [go_sem,↓reduceIte,zE,zB,zA,zM,zS,zL,reduceCtorEq,e1,e3]
      exact outK_self ⟨by simp [opsB,h1],rfl⟩
theorem sOp_all:∀ (k:Nat) (f:Fm),SizeOf.sizeOf f < k → sOp gl f
  | 0,f,h => by omega
  | k + 1,.mk o n us sub,h => sOp_step gl o n us sub (fun a ha => sOp_all k a (by
      have:=List.sizeOf_lt_of_mem ha
      simp only [Fm.mk.sizeOf_spec] at h
      omega))
theorem operators_c (f:Fm):sOp gl f:=sOp_all gl _ f (Nat.lt_succ_self _)
theorem formula_c (G:Gl gl) (ca:Nat) (f:Fm) (x:IV) (hx:IsFm f x) (hs:f.size ≤ 1000000) (st:ISt) :
    ICall prog gl 69 [.raw (.int .u8 ca),x] st (fun r st' => r = .raw (.bool (fmB ca f)) ∧ st' = st):=by
  have h1:=fun st => Right_c gl G f x hx st hs
  have h2:=fun st => operators_c gl f ca x hx st
  obtain ⟨o5,n5,t5,x5,t6,x6,rfl⟩:=hx.agg
  refine ICall.intro (c:=cf prog gl [] []) func69 rfl (by show _ ≤ 12; simp) (by kernel_rfl) ?_
  simp -implicitDefEqProofs -dsimp only [go_sem,↓reduceIte,zE,zB,zA,zM,zS,zL,reduceCtorEq]
  refine (h1 _).mono ?_
  rintro _ _ ⟨rfl,rfl⟩
  cases hr:f.right
  · simp -implicitDefEqProofs -dsimp only [go_sem,↓reduceIte,zE,zB,zA,zM,zS,zL,reduceCtorEq]
    exact outK_self ⟨by simp [fmB,hr],rfl⟩
  · simp -implicitDefEqProofs -dsimp only [go_sem,↓reduceIte,zE,zB,zA,zM,zS,zL,reduceCtorEq]
    refine (h2 _).mono ?_
    rintro _ _ ⟨rfl,rfl⟩
    simp -implicitDefEqProofs -dsimp only [go_sem,↓reduceIte,zE,zB,zA,zM,zS,zL,reduceCtorEq]
    exact outK_self ⟨by simp [fmB,hr],rfl⟩
theorem equal_c (G:Gl gl) (f g:Fm) (x y:IV) (hx:IsFm f x) (hy:IsFm g y) (hs:f.size ≤ 1000000) (hs':g.size ≤ 1000000) (st:ISt) :
    ICall prog gl 70 [x,y] st (fun r st' => r = .raw (.bool (eqF f g)) ∧ st' = st):=by
  have h1:=fun st => Alpha_c gl G f g x y hx hy hs hs' st
  obtain ⟨o,n,us,sub⟩:=f
  obtain ⟨o',n',us',sub'⟩:=g
  obtain ⟨t1,x1,t2,x2,rfl,_⟩:=hx.mk
  obtain ⟨t3,x3,t4,x4,rfl,_⟩:=hy.mk
  refine ICall.intro (c:=cf prog gl [] []) func70 rfl (by show _ ≤ 15; simp) (by kernel_rfl) ?_
  by_cases ho:o = o'
  · subst ho
    simp -implicitDefEqProofs -dsimp only [go_sem,↓reduceIte,zE,zB,zA,zM,zS,zL,reduceCtorEq,decide_true]
    refine (h1 _).mono ?_
    rintro _ _ ⟨rfl,rfl⟩
    simp -implicitDefEqProofs -dsimp only [go_sem,↓reduceIte,zE,zB,zA,zM,zS,zL,reduceCtorEq]
    exact outK_self ⟨by simp [eqF,Fm.op],rfl⟩
  · have e:decide ((o:Int) = (o':Int)) = false:=decide_eq_false (by omega)
    simp -implicitDefEqProofs -dsimp only [go_sem,↓reduceIte,zE,zB,zA,zM,zS,zL,reduceCtorEq,e]
    exact outK_self ⟨by simp [eqF,Fm.op,ho],rfl⟩

theorem IndexFunc_c (g:FuncId) (caps:List IV) (he:entI prog g = true) (us:List Fm) (p:Fm → Bool) (hp:∀ a ∈ us,∀ x,IsFm a x → ∀ st,ICall prog gl g (x :: caps) st (fun r st' => r = .raw (.bool (p a)) ∧ st' = st))
    (tg:Tag) (xs:List IV) (htg:okEs tg 4) (hxs:IsFms us xs) (st:ISt) :
    ICall prog gl 155 [.sl tg xs,.fn (.func g) [] caps] st (fun r st' => (∃ n:Int,r = .raw (.int .i64 n) ∧ decide (0 ≤ n) = us.any p) ∧ st' = st):=by
  refine ICall.intro (c:=cf prog gl [] []) func155 rfl (by show _ ≤ 19; simp) (by kernel_rfl) ?_
  simp -implicitDefEqProofs -dsimp only [go_sem,↓reduceIte,zE,zB,zA,zM,zS,zL,reduceCtorEq,hxs.len]
  intro _
  refine LoopC.ctr us.length (fun k fr st' ds => (us.take k).any p = false ∧ fr 0 = .iv (.sl tg xs) ∧ fr 1 = .iv (.fn (.func g) [] caps) ∧ fr 7 = .iv (.raw (.int .i64 us.length)) ∧ fr 8 = .iv (.raw (.int .i64 k)) ∧ st' = st ∧ ds = []) ?_ ?_ ?_
  · simp -implicitDefEqProofs -dsimp only [go_sem,↓reduceIte,zE,zB,zA,zM,zS,zL,reduceCtorEq]
    exact ⟨rfl,rfl⟩
  · rintro k fr st1 _ hlt ⟨hn,f0,f1,f7,f8,rfl,rfl⟩
    obtain ⟨a,ha⟩:=get_of_lt hlt
    obtain ⟨y,hky,hy⟩:=hxs.get ha
    have hcall:=hp a (List.mem_of_getElem? ha) y hy st1
    obtain ⟨o5,n5,t5,x5,t6,x6,rfl⟩:=hy.agg
    simp -implicitDefEqProofs -dsimp only [go_sem,↓reduceIte,zE,zB,zA,zM,zS,zL,reduceCtorEq,f0,f1,f7,f8,lt_i hlt,reTag_es htg,Int.natCast_nonneg,hky,fits,he]
    refine hcall.mono ?_
    rintro _ _ ⟨rfl,rfl⟩
    cases hr:p a
    · simp -implicitDefEqProofs -dsimp only [go_sem,↓reduceIte,zE,zB,zA,zM,zS,zL,reduceCtorEq,f0,f1,f7,f8,w_succ hlt (show us.length ≤ 281474976710656 by omega)]
      rw [take_get ha,List.any_append,hn]
      simp [hr]
    · simp -implicitDefEqProofs -dsimp only [go_sem,↓reduceIte,zE,zB,zA,zM,zS,zL,reduceCtorEq]
      refine outK_self ⟨⟨_,rfl,?_⟩,rfl⟩
      rw [decide_eq_true (Int.natCast_nonneg k)]
      exact (List.any_eq_true.2 ⟨a,List.mem_of_getElem? ha,hr⟩).symm
  · rintro fr st1 _ ⟨hn,f0,f1,f7,f8,rfl,rfl⟩
    rw [List.take_length] at hn
    simp -implicitDefEqProofs -dsimp only [go_sem,↓reduceIte,zE,zB,zA,zM,zS,zL,reduceCtorEq,f7,f8,nlt_i (Nat.lt_irrefl _)]
    exact outK_self ⟨⟨_,rfl,by rw [hn]; rfl⟩,rfl⟩
theorem ContainsFunc_c (g:FuncId) (caps:List IV) (he:entI prog g = true) (us:List Fm) (p:Fm → Bool) (hp:∀ a ∈ us,∀ x,IsFm a x → ∀ st,ICall prog gl g (x :: caps) st (fun r st' => r = .raw (.bool (p a)) ∧ st' = st))
    (tg:Tag) (xs:List IV) (htg:okEs tg 4) (hxs:IsFms us xs) (st:ISt) :
    ICall prog gl 101 [.sl tg xs,.fn (.func g) [] caps] st (fun r st' => r = .raw (.bool (us.any p)) ∧ st' = st):=by
  refine ICall.intro (c:=cf prog gl [] []) func101 rfl (by show _ ≤ 9; simp) (by kernel_rfl) ?_
  simp -implicitDefEqProofs -dsimp only [go_sem,↓reduceIte,zE,zB,zA,zM,zS,zL,reduceCtorEq]
  refine (IndexFunc_c gl g caps he us p hp tg xs htg hxs _).mono ?_
  rintro _ _ ⟨⟨n,rfl,hn⟩,rfl⟩
  simp -implicitDefEqProofs -dsimp only [go_sem,↓reduceIte,zE,zB,zA,zM,zS,zL,reduceCtorEq,hn]
  exact outK_self ⟨rfl,rfl⟩
theorem Has1_c (G:Gl gl) (f g:Fm) (x y:IV) (hx:IsFm f x) (hy:IsFm g y) (hs:f.size ≤ 1000000) (hs':g.size ≤ 1000000) (st:ISt) :
    ICall prog gl 102 [y,.cptr x] st (fun r st' => r = .raw (.bool (eqF f g)) ∧ st' = st):=by
  have h1:=fun st => equal_c gl G f g x y hx hy hs hs' st
  obtain ⟨o5,n5,t5,x5,t6,x6,rfl⟩:=hx.agg
  obtain ⟨o7,n7,t7,x7,t8,x8,rfl⟩:=hy.agg
  refine ICall.intro (c:=cf prog gl [] []) func102 rfl (by show _ ≤ 7; simp) (by kernel_rfl) ?_
  simp -implicitDefEqProofs -dsimp only [go_sem,↓reduceIte,zE,zB,zA,zM,zS,zL,reduceCtorEq,fits]
  refine (h1 _).mono ?_
  rintro _ _ ⟨rfl,rfl⟩
  simp -implicitDefEqProofs -dsimp only [go_sem,↓reduceIte,zE,zB,zA,zM,zS,zL,reduceCtorEq]
  exact outK_self ⟨rfl,rfl⟩
theorem HasF_c (G:Gl gl) (l:List Fm) (f:Fm) (tg:Tag) (xs:List IV) (x:IV) (htg:okEs tg 4) (hxs:IsFms l xs) (hx:IsFm f x) (hl:fitL l) (hs:f.size ≤ 1000000) (st:ISt) :
    ICall prog gl 43 [.sl tg xs,x] st (fun r st' => r = .raw (.bool (hasF l f)) ∧ st' = st):=by
  have h1:=fun st => ContainsFunc_c gl 102 [.cptr x] (by simp only [go_sem]) l (eqF f) (fun a ha y hy st => Has1_c gl G f a x y hx hy hs (hl a ha) st) tg xs htg hxs st
  obtain ⟨o5,n5,t5,x5,t6,x6,rfl⟩:=hx.agg
  refine ICall.intro (c:=cf prog gl [] [] [3]) func43 rfl (by show _ ≤ 8; simp) (by kernel_rfl) ?_
  simp -implicitDefEqProofs -dsimp only [go_sem,↓reduceIte,zE,zB,zA,zM,zS,zL,reduceCtorEq,fits]
  refine (h1 _).mono ?_
  rintro _ _ ⟨rfl,rfl⟩
  simp -implicitDefEqProofs -dsimp only [go_sem,↓reduceIte,zE,zB,zA,zM,zS,zL,reduceCtorEq]
  exact outK_self ⟨rfl,rfl⟩
theorem all_c (G:Gl gl) (l m:List Fm) (t t':Tag) (xs ys:List IV) (ht:okEs t 4) (ht':okEs t' 4) (hxs:IsFms l xs) (hys:IsFms m ys) (hl:fitL l) (hm:fitL m) (st:ISt) :
    ICall prog gl 100 [.sl t xs,.sl t' ys] st (fun r st' => r = .raw (.bool (allF l m)) ∧ st' = st):=by
  refine ICall.intro (c:=cf prog gl [] []) func100 rfl (by show _ ≤ 18; simp) (by kernel_rfl) ?_
  simp -implicitDefEqProofs -dsimp only [go_sem,↓reduceIte,zE,zB,zA,zM,zS,zL,reduceCtorEq,hxs.len]
  intro _
  refine LoopC.ctr l.length (fun k fr st' ds => (l.take k).all (hasF m) = true ∧ fr 1 = .iv (.sl t' ys) ∧ fr 7 = .iv (.sl t xs) ∧ fr 8 = .iv (.raw (.int .i64 l.length)) ∧ fr 9 = .iv (.raw (.int .i64 k)) ∧ st' = st ∧ ds = []) ?_ ?_ ?_
  · simp -implicitDefEqProofs -dsimp only [go_sem,↓reduceIte,zE,zB,zA,zM,zS,zL,reduceCtorEq]
    rfl
  · rintro k fr st1 _ hlt ⟨hn,f1,f7,f8,f9,rfl,rfl⟩
    obtain ⟨a,ha⟩:=get_of_lt hlt
    obtain ⟨y,hky,hy⟩:=hxs.get ha
    have hcall:=HasF_c gl G m a t' ys y ht' hys hy hm (hl a (List.mem_of_getElem? ha)) st1
    obtain ⟨o5,n5,t5,x5,t6,x6,rfl⟩:=hy.agg
    simp -implicitDefEqProofs -dsimp only [go_sem,↓reduceIte,zE,zB,zA,zM,zS,zL,reduceCtorEq,f1,f7,f8,f9,lt_i hlt,reTag_es ht,Int.natCast_nonneg,hky,fits]
    refine hcall.mono ?_
    rintro _ _ ⟨rfl,rfl⟩
    cases hr:hasF m a
    · simp -implicitDefEqProofs -dsimp only [go_sem,↓reduceIte,zE,zB,zA,zM,zS,zL,reduceCtorEq]
      refine outK_self ⟨?_,rfl⟩
      have:allF l m = false:=by
        unfold allF
        rw [List.all_eq_false]
        exact ⟨a,List.mem_of_getElem? ha,by simp [hr]⟩
      rw [this]
    · simp -implicitDefEqProofs -dsimp only [go_sem,↓reduceIte,zE,zB,zA,zM,zS,zL,reduceCtorEq,f1,f7,f8,f9,w_succ hlt (show l.length ≤ 281474976710656 by omega)]
      rw [take_get ha,List.all_append,hn]
      simp [hr]
  · rintro fr st1 _ ⟨hn,f1,f7,f8,f9,rfl,rfl⟩
    rw [List.take_length] at hn
    simp -implicitDefEqProofs -dsimp only [go_sem,↓reduceIte,zE,zB,zA,zM,zS,zL,reduceCtorEq,f8,f9,nlt_i (Nat.lt_irrefl _)]
    exact outK_self ⟨by rw [show allF l m = true from hn],rfl⟩
def fitSq (s:Sq):Prop:=fitL s.l ∧ fitL s.r
theorem Within_c (G:Gl gl) (a b:Sq) (x y:IV) (hx:IsSq a x) (hy:IsSq b y) (ha:fitSq a) (hb:fitSq b) (st:ISt):ICall prog gl 40 [x,y] st (fun r st' => r = .raw (.bool (withinB a b)) ∧ st' = st):=by
  obtain ⟨t1,x1,t2,x2,rfl,e1,i1,e2,i2⟩:=hx
  obtain ⟨t3,x3,t4,x4,rfl,e3,i3,e4,i4⟩:=hy
  refine ICall.intro (c:=cf prog gl [] []) func40 rfl (by show _ ≤ 17; simp) (by kernel_rfl) ?_
  simp -implicitDefEqProofs -dsimp only [go_sem,↓reduceIte,zE,zB,zA,zM,zS,zL,reduceCtorEq]
  refine (all_c gl G a.l b.l t1 t3 x1 x3 e1 e3 i1 i3 ha.1 hb.1 _).mono ?_
  rintro _ _ ⟨rfl,rfl⟩
  cases hr:allF a.l b.l
  · simp -implicitDefEqProofs -dsimp only [go_sem,↓reduceIte,zE,zB,zA,zM,zS,zL,reduceCtorEq]
    exact outK_self ⟨by simp [withinB,hr],rfl⟩
  · simp -implicitDefEqProofs -dsimp only [go_sem,↓reduceIte,zE,zB,zA,zM,zS,zL,reduceCtorEq]
    refine (all_c gl G a.r b.r t2 t4 x2 x4 e2 e4 i2 i4 ha.2 hb.2 _).mono ?_
    rintro _ _ ⟨rfl,rfl⟩
    simp -implicitDefEqProofs -dsimp only [go_sem,↓reduceIte,zE,zB,zA,zM,zS,zL,reduceCtorEq]
    exact outK_self ⟨by simp [withinB,hr],rfl⟩
end Go.Proofs.Tryz
