/- A call to which boxes are lent, that hands back a list of numbers in new memory.
   Walks: SequentWrong, the third defect: a premise with another formula.
   From a row's reading to ideal values, part 7: sequents and trees.
   From a row's reading to ideal values, part 8: for the Sequent seat: the tables; the world in which a law is called; what a law's call ends in.
   SequentWrong, whole. -/
import Derived.Test.YtckafgnkmnichaaGreatDoorJI
import Derived.Test.YtckafgnkmnichaaGreatDoorQI
import Derived.Test.YtckafgnkmnichaaGreatDoorKE
import Derived.Test.YtckafgnkmnichaaGreatDoorJM
import Derived.Test.YtckafgnkmnichaaGreatDoorJW
import Derived.OpenShut
import Derived.WalkKit
import Derived.ProofKit
import Derived.Deep.DeepHandedRow
import Derived.Lib.LaidTab
import Derived.Carry
import Derived.RowKit
import Derived.RowKitTokens
import Derived.FnData
set_option linter.all false
namespace Go.Iv
open Go
theorem V.newer {M B:Nat} {L L':Nat → Nat} {w:World} {r:Value} {t:Tag} {xs:List IV} (hL:∀ b,M ≤ b → L' b = L b) (hB:B ≤ M) (ht:t.cap = .nil ∨ t.fresh = true) (hx:∀ x ∈ xs,∃ v,x = .raw v) (h:V M L w r (.sl t xs)):V B L' w r (.sl t xs):=by
  cases h with
  | sl a cap t xs T vs hcap hlen hcl hs hvl hroom hfresh hplace h =>
    have hraw:∀ (i:Nat) (r:Value) (c:IV),vs[i]? = some r → (xs.flatMap IV.cells)[i]? = some c → V B L' w r c:=fun i r c hr hc => by
      have hcm:=List.mem_of_getElem? hc
      obtain ⟨x,hxm,hcx⟩:=List.mem_flatMap.1 hcm
      obtain ⟨v,rfl⟩:=hx x hxm
      simp only [IV.cells,List.mem_singleton] at hcx
      subst hcx
      cases h i r _ hr hc with
      | raw _ hv => exact .raw _ hv
    rcases ht with ht | ht
    · have hxe:xs = []:=by
        rw [ht] at hcap
        exact List.eq_nil_of_length_eq_zero hcap.2.1
      exact .sl a cap t xs T vs hcap hlen hcl hs hvl hroom (fun hf ad ha => by have:=hfresh hf ad ha; exact ⟨by omega,this.2⟩) (fun hne => absurd hxe hne) hraw
    · refine .sl a cap t xs T vs hcap hlen hcl hs hvl hroom (fun hf ad ha => by have:=hfresh hf ad ha; exact ⟨by omega,this.2⟩) (fun hne => ?_) hraw
      obtain ⟨ad,ha,h1,h2,h3⟩:=hplace hne
      exact ⟨ad,ha,h1,by rw [hL _ (hfresh ht ad ha).1]; exact h2,h3⟩
section
variable {P:Program} {gl:Nat → Option IV} {f:FuncId} {args args':List IV} {st:ISt}
theorem ICall.lentN {K:IV → Prop} (hf:∀ b o,st b = some o → (∃ cs,o = .box cs) ∨ flatO o) (hgl:∀ g x,gl g = some x → age x = x) (hl:Lents st args args') (h:ICall P gl f (ages args') (noBox st) (fun r st' => st' = noBox st ∧ (∃ t xs v,r = .tup [.sl t xs,.raw v] ∧ (t.cap = .nil ∨ t.fresh = true) ∧ ∀ x ∈ xs,∃ v,x = .raw v) ∧ K r)) :
    ICall P gl f args st (fun r st' => st' = st ∧ K r):=by
  intro B X rs hg hst hv
  subst hst
  have hgl':=hg.lend
  have hg1:Good ⟨P,gl,X.w.heap.size⟩ X.lend:=⟨fun b o hb => (hgl'.ok b o hb).flat (by
      have hb':noBox X.st b = some o:=hb
      rcases hf b o (noBox_sub X.st b o hb') with ⟨cs,rfl⟩ | hfl
      · rw [noBox_box (noBox_sub X.st b _ hb')] at hb'; cases hb'
      · exact hfl) rfl rfl,fun g x hx => by
      have h1:=hgl g x hx
      have h2:=(hgl'.gl g x hx).aged (B':=X.w.heap.size)
      simp only [age,h1] at h2
      exact h2,Nat.le_refl _,hgl'.Lnew,hgl'.gsh,hgl'.dr⟩
  have hva:Cx.vl ⟨P,gl,X.w.heap.size⟩ X.lend rs (ages args'):=VL.aged (hl.v hg hv)
  refine (h X.w.heap.size X.lend rs hg1 rfl hva).mono ?_
  rintro e w' ⟨v,rfl,X',x,rfl,h2,h3,h4,h5,⟨t,xs,u,rfl,ht,hxs⟩,h7⟩
  have hlt:∀ {b o},X.st b = some o → b < X.w.heap.size:=fun hb => hg.lt hb
  let Y:WS:={ w:=X'.w,L:=fun b => match X.st b with | some (.box _) => 0 | _ => X'.L b,st:=X.st,d:=X'.d }
  have hYb:∀ {b cs},X.st b = some (.box cs) → Y.L b = 0:=fun hb => by simp only [Y,hb]
  have hYk:∀ {b},(∀ cs,X.st b ≠ some (.box cs)) → Y.L b = X'.L b:=fun {b} hb => by
    simp only [Y]
    try split
    all_goals first | rfl | (rename_i cs hc; exact absurd hc (hb _))
  have heap:∀ {b cs},X.st b = some (.box cs) → X'.w.heap[b]? = X.w.heap[b]?:=fun {b cs} hb => (h3.keep b (hlt hb) (noBox_box hb)).1
  have he:Ext X Y:=by
    refine ⟨h3.os,h3.tape,h3.output,h3.size,fun b => ?_,fun b i hi => ?_,fun b hb hs => ?_,fun b _ hs => hs,h3.shape,h3.d⟩
    · by_cases hb:∃ cs,X.st b = some (.box cs)
      · obtain ⟨cs,hb⟩:=hb
        rw [(hg.ok b _ hb).1]; exact Nat.zero_le _
      · rw [hYk fun cs hc => hb ⟨cs,hc⟩]; exact Nat.le_trans (hg.lend_ext.lmono b) (h3.lmono b)
    · exact h3.cells b i (Nat.lt_of_lt_of_le hi (hg.lend_ext.lmono b))
    · have hne:∀ cs,X.st b ≠ some (.box cs):=fun cs hc => by rw [hs] at hc; cases hc
      obtain ⟨k1,k2⟩:=h3.keep b hb ((noBox_keep hne).trans hs)
      exact ⟨k1,by rw [hYk hne,k2,lend_keep hne]⟩
  have hnew:∀ b,X.w.heap.size ≤ b → Y.L b = X'.L b:=fun b hb => hYk fun cs hc => by have:=hlt hc; omega
  have h4':V B Y.L Y.w v (.tup [.sl t xs,.raw u]):=by
    cases h4 with
    | tup rs cs hl h =>
      refine .tup rs _ hl fun i r c hr hc => ?_
      match i,hc with
      | 0,hc =>
        cases hc
        exact V.newer hnew hg.B ht hxs (h 0 r _ hr rfl)
      | 1,hc =>
        cases hc
        cases h 1 r _ hr rfl with
        | raw _ hv => exact .raw _ hv
  refine ⟨v,rfl,Y,_,rfl,⟨fun b o hb => ?_,fun g x hgx => he.v (hg.gl g x hgx),Nat.le_trans hg.B h3.size,fun b hb => ?_,fun g x hgx => ?_,h2.dr⟩,he,h4',rfl,h7⟩
  · by_cases hbx:∃ cs,X.st b = some (.box cs)
    · obtain ⟨cs,hbx⟩:=hbx
      have hb':X.st b = some o:=hb
      rw [hbx] at hb'; cases hb'
      exact (hg.ok b _ hbx).mono (heap hbx) (by rw [hYb hbx,(hg.ok b _ hbx).1]) (fun _ _ hv => he.vl hv)
    · have hne:∀ cs,X.st b ≠ some (.box cs):=fun cs hc => hbx ⟨cs,hc⟩
      have h1:X'.st b = some o:=by rw [h5]; exact (noBox_keep hne).trans hb
      exact (h2.ok b o h1).flat ((hf b o hb).resolve_left fun ⟨cs,hc⟩ => hbx ⟨cs,hb.trans (congrArg some hc)⟩) rfl (hYk hne)
  · have hne:∀ cs,X.st b ≠ some (.box cs):=fun cs hc => by
      have:=hlt hc
      have h9:X'.w.heap.size ≤ b:=hb
      have h8:X.w.heap.size ≤ X'.w.heap.size:=h3.size
      omega
    rw [hYk hne]; exact h2.Lnew b hb
  · exact h2.gsh g x hgx
end
end Go.Iv

open Nat renaming reduceEqDiff → zE,reduceBEq → zB,reduceAdd → zA,reduceMul → zM,reduceSub → zS,reduceLeDiff → zL
attribute [local go_sem] Go.Iv.cf Go.Iv.setAt List.all_cons List.all_nil Bool.and_self Bool.true_and Bool.and_true Bool.false_and Bool.and_false Bool.not_true Bool.not_false List.mem_nil_iff if_false if_true beq_self_eq_true Nat.zero_add Nat.add_zero List.getElem?_cons_zero List.getElem?_cons_succ Option.map_some List.mem_cons or_false false_or or_true true_or Nat.sub_zero forall_const Int.toNat_natCast List.length_cons List.length_nil List.map_cons List.map_nil List.take_succ_cons List.take_zero List.drop_zero List.drop_succ_cons List.cons_append List.nil_append List.append_nil and_true true_and and_self true_implies List.zip_cons_cons List.zip_nil_left
namespace Go.Proofs.Tryz
open Go Go.Iv
set_option maxRecDepth 4000
variable (gl:Nat → Option IV)

theorem tree_flat {l:List Tr} {xs:List IV} (h:IsTrs l xs):(xs.flatMap IV.cells).length = xs.length * 12:=by
  induction l generalizing xs with
  | nil => simp only [IsTrs] at h; subst h; rfl
  | cons a l ih =>
    simp only [IsTrs] at h
    obtain ⟨y,ys,rfl,hy,h⟩:=h
    obtain ⟨rule',tl',xl',tr',xr',op',fn',ta',xa',tb',xb',v',un',tu',xu',n',ts',xs',rfl⟩:=trAgg hy
    simp only [List.flatMap_cons,List.length_append,ih h,IV.cells,List.length_cons,List.length_nil]; omega
theorem tree_cells:∀ {l:List Tr} {xs:List IV},IsTrs l xs → ∀ x ∈ xs,x.cells.length = 12
  | [],xs,h,x,hx => by simp only [IsTrs] at h; subst h; cases hx
  | a :: l,xs,h,x,hx => by
    simp only [IsTrs] at h
    obtain ⟨y,ys,rfl,hy,h⟩:=h
    rcases List.mem_cons.1 hx with rfl | hx
    · obtain ⟨rule',tl',xl',tr',xr',op',fn',ta',xa',tb',xb',v',un',tu',xu',n',ts',xs',rfl⟩:=trAgg hy
      rfl
    · exact tree_cells h x hx
theorem CheckS_other {ca rule:Nat} {s:Sq} {f:Fm} {u:Tm} {n:ByteArray} {r0:Nat} {s0:Sq} {f0:Fm} {u0:Tm} {n0:ByteArray} {sub0:List Tr} {rest:List Tr}
    (h:(CheckS ca (.mk rule s f u n (.mk r0 s0 f0 u0 n0 sub0 :: rest))).2 = 0) (g:Fm) (hg:hasF s.l g = false) (hfr:frF g = []) (h1:s0.l.length < 64) (h2:s0.r.length < 64) :
    CheckS ca (.mk rule s f u n (.mk r0 ⟨s0.l ++ [g],s0.r⟩ f0 u0 n0 sub0 :: rest)) = ([],195) ∨
      ((CheckS ca (.mk rule s f u n (.mk r0 ⟨s0.l ++ [g],s0.r⟩ f0 u0 n0 sub0 :: rest))).2 ≠ 195 ∧ ∃ m l,(AddedS ca rule f u n).1 = m :: l ∧ hasF m.l g = true ∧ shortSq m):=by
  rcases CheckS_more h g hg with ⟨m,l,ha,hm⟩ | hr
  · obtain ⟨hk,hs,hc,hz⟩:=CheckS_zero h
    have hch:=(CheckS_ok h).2 _ (List.mem_cons_self ..)
    obtain ⟨r,_,hrow,hadz,_,_,_,hst⟩:=stepS_zero (checkS_step hc).1
    have hsh:shortSq m:=by
      refine addsS_fit (ca:=ca) (rule:=rule) (r:=r) (main:=f) (term:=u) (name:=n) (ad:=m :: l) ?_ m (List.mem_cons_self ..)
      rw [← ha,hst]
      exact Prod.ext rfl hadz
    have hA:(AddedS ca rule f u n).1 = m :: l:=by
      unfold AddedS
      rw [hk,hrow,← ha,hst]
      rfl
    have hadd:addSq ca false s0 g = ⟨s0.l ++ [g],s0.r⟩:=by simp [addSq]
    have hW:=CheckS_unfold (t:=.mk rule s f u n (.mk r0 ⟨s0.l ++ [g],s0.r⟩ f0 u0 n0 sub0 :: rest)) hk hs
    rw [firstBad_tree] at hW
    by_cases hroot:checkS ca (.mk rule s f u n (.mk r0 ⟨s0.l ++ [g],s0.r⟩ f0 u0 n0 sub0 :: rest)) = 0
    · refine .inr ⟨?_,m,l,hA,hm,hsh⟩
      rw [hW,if_pos hroot]
      obtain ⟨_,hs0,_,_⟩:=CheckS_zero hch
      have hz2:(firstSub (checkS ca) 1 rest).2 = 0:=by
        have hq:=hch
        rw [CheckS_unfold hk hs0] at hq
        simp only [firstSub,hq,if_true] at hz
        exact hz
      have hW0:=CheckS_unfold (t:=.mk r0 ⟨s0.l ++ [g],s0.r⟩ f0 u0 n0 sub0) hk hs0
      have hval:(CheckS ca (.mk r0 ⟨s0.l ++ [g],s0.r⟩ f0 u0 n0 sub0)).2 = 0 ∨ (CheckS ca (.mk r0 ⟨s0.l ++ [g],s0.r⟩ f0 u0 n0 sub0)).2 = 190:=by
        cases hgf:fmB ca g
        · have:=CheckS_wide_bad hch h1 h2 false g hgf
          rw [hadd] at this
          exact .inr (by rw [this])
        · have:=CheckS_wide hch h1 h2 false g hgf (fun _ _ _ => by rw [hfr]; rfl)
          rw [hadd] at this
          exact .inl this
      rw [hW0] at hval
      rcases hval with hv | hv
      · simp only [firstSub,hv,if_true,hz2]; decide
      · simp only [firstSub,hv]; rw [if_neg (by decide)]; show 190 ≠ 195; decide
    · rw [if_neg hroot] at hW
      by_cases h195:checkS ca (.mk rule s f u n (.mk r0 ⟨s0.l ++ [g],s0.r⟩ f0 u0 n0 sub0 :: rest)) = 195
      · exact .inl (by rw [hW,h195])
      · exact .inr ⟨by rw [hW]; exact h195,m,l,hA,hm,hsh⟩
  · exact .inl hr
def no4F:Fm:=.mk 3 ⟨#[]⟩ [] [.mk 3 ⟨#[]⟩ [] [.mk 3 ⟨#[]⟩ [] [.mk 3 ⟨#[]⟩ [] [.mk 1 ⟨#[79,116,104,101,114]⟩ [] []]]]]
theorem no4_free:frF no4F = []:=by decide
mutual
theorem IsTr.aged:∀ {t:Tr} {x:IV},IsTr t x → IsTr t (age x)
  | .mk rule s f u n sub,x,h => by
    simp only [IsTr] at h
    obtain ⟨tl,xl,tr,xr,op,fn,ta,xa,tb,xb,v,un,tu,xu,ts,xs,rfl,hr,e1,i1,e2,i2,hf,hu,e3,i3⟩:=h
    have hf':=hf.aged
    have hu':=hu.aged
    simp only [age,ages] at hf' hu' ⊢
    simp only [IsTr]
    exact ⟨_,_,_,_,_,_,_,_,_,_,_,_,_,_,_,_,rfl,hr,okEs_age e1,IsFms.aged i1,okEs_age e2,IsFms.aged i2,hf',hu',okEs_age e3,IsTrs.aged i3⟩
theorem IsTrs.aged:∀ {l:List Tr} {xs:List IV},IsTrs l xs → IsTrs l (ages xs)
  | [],xs,h => by simp only [IsTrs] at h; subst h; rfl
  | a :: l,xs,h => by
    simp only [IsTrs] at h
    obtain ⟨y,ys,rfl,hy,h⟩:=h
    simp only [ages,IsTrs]
    exact ⟨_,_,rfl,IsTr.aged hy,IsTrs.aged h⟩
end
theorem Check_box (G:Gl gl) (T:Gt gl) (hgl:∀ g x,gl g = some x → age x = x) (ca g cap:Nat) (t:Tr) (zs:List IV) (c:IV) (xs ds:List IV) (hx:IsTr t (.agg (zs ++ [.sl ⟨true,.app g,12⟩ (c :: xs)]))) (hfit:fitTr t) (hc:c.cells.length = 12) (hxs:∀ x ∈ xs,x.cells.length = 12)
    (hds:ds.take (xs.length * 12) = xs.flatMap IV.cells) (hcap:xs.length + 1 ≤ cap) (hlen:cap * 12 ≤ ds.length + 12) (hl:xs.length + 1 ≤ 140737488355328) (st:ISt) (hst:st g = some (.box (c.cells ++ ds))) :
    ICall prog gl 17 [.raw (.int .u8 ca),.agg (zs ++ [.raw (.slice (some ⟨g,0,none⟩) (xs.length + 1) cap)])] st
      (fun r st' => (∃ tg,r = .tup [.sl tg (plI (CheckS ca t).1),.raw (.int .i64 (CheckS ca t).2)] ∧ okN tg) ∧ st' g = some (.box (c.cells ++ ds))):=by
  have hsub:subSt (emp.put g (some (.box (c.cells ++ ds)))) st:=fun b o hb => by
    rw [ISt.put_apply] at hb
    split at hb
    · rename_i h; subst h; rw [hst]; exact hb
    · cases hb
  have e:(c.cells ++ ds).take ((xs.length + 1) * 12) = (c :: xs).flatMap IV.cells:=by
    rw [List.flatMap_cons,← hds,show (xs.length + 1) * 12 = c.cells.length + xs.length * 12 by omega,List.take_length_add_append]
  have hlent:Lents (emp.put g (some (.box (c.cells ++ ds)))) [.raw (.int .u8 ca),.agg (zs ++ [.raw (.slice (some ⟨g,0,none⟩) (xs.length + 1) cap)])] [.raw (.int .u8 ca),age (.agg (zs ++ [.sl ⟨true,.app g,12⟩ (c :: xs)]))]:=by
    refine ⟨_,_,rfl,.inl rfl,_,_,rfl,.inr ⟨_,.agg _ _ (by simp) fun i r y hr hy => ?_,rfl⟩,rfl⟩
    by_cases hi:i < zs.length
    · rw [List.getElem?_append_left hi] at hr hy
      rw [hr] at hy; cases hy; exact .refl _
    · rw [List.getElem?_append_right (by omega)] at hr hy
      have h0:i - zs.length = 0:=by
        have:=(List.getElem?_eq_some_iff.1 hr).1
        simpa using this
      rw [h0] at hr hy
      cases hr; cases hy
      refine .sl g cap ⟨true,.app g,12⟩ (c :: xs) (c.cells ++ ds) rfl hl hcap (fun x hx => ?_) (ISt.put_same ..) (by rw [List.length_append,hc]; show cap * 12 ≤ _; omega) fun i r y hr hy => ?_
      · rcases List.mem_cons.1 hx with rfl | hx
        · exact hc
        · exact hxs x hx
      · rw [← e,List.getElem?_take] at hy
        split at hy
        · rw [hr] at hy; cases hy; exact .refl _
        · cases hy
  have key:=ICall.lentN (K:=fun r => ∃ tg,r = .tup [.sl tg (plI (CheckS ca t).1),.raw (.int .i64 (CheckS ca t).2)] ∧ okN tg) (fun b o hb => by
    rw [ISt.put_apply] at hb
    split at hb
    · cases hb; exact .inl ⟨_,rfl⟩
    · cases hb) hgl hlent (by
      have ea:ages [.raw (.int .u8 ca),age (.agg (zs ++ [.sl ⟨true,.app g,12⟩ (c :: xs)]))] = [.raw (.int .u8 ca),age (age (.agg (zs ++ [.sl ⟨true,.app g,12⟩ (c :: xs)])))]:=rfl
      rw [ea]
      refine (Check_cd gl G T ca t _ (IsTr.aged (IsTr.aged hx)) hfit _).mono ?_
      rintro _ _ ⟨⟨tg,rfl,hn⟩,rfl⟩
      exact ⟨rfl,⟨tg,_,_,rfl,hn.2,fun x hx => by obtain ⟨i,_,rfl⟩:=List.mem_map.1 hx; exact ⟨_,rfl⟩⟩,tg,rfl,hn⟩)
  refine (ICall.sub key hsub).mono ?_
  rintro _ _ ⟨rfl,h⟩
  exact ⟨h,ISt.put_same ..⟩
set_option maxHeartbeats 4000000 in
theorem SequentWrong_b (G:Gl gl) (T:Gt gl) (hgl:∀ g x,gl g = some x → age x = x) (ca:Nat) (t:Tr) (x:IV) (hx:IsTr t x) (hw:wTr t ≤ 1099511627776) (hst0:t.steps ≤ 1099511627776) (w:Nat) (hw8:w < 256) (hw3:w % 6 = 3) :
    ICall prog gl 11 [.raw (.int .u8 ca),x,.raw (.int .u8 w)] (fun _ => none) (fun r st' => r = .raw (.bool true) ∧ st' = fun _ => none):=by
  generalize hst00:(fun _ => none:ISt) = st
  have hA:=fun st => qawake_c gl G T st
  have hS:=fun st => QSmall_c gl t x hx hw st
  have hR:=fun st => room_c gl t x hx hst0 st
  have hx0:=hx
  obtain ⟨rule,s,m,u,n,sub⟩:=t
  obtain ⟨tl,xl,tr,xr,op,fn,ta,xa,tb,xb,v,un,tu,xu,ts,xs,rfl,hru,e1,i1,e2,i2,hy,hz,e3,i3⟩:=hx.mk
  refine ICall.intro (c:=cf prog gl [39,169,175] []) func11 rfl (by show _ ≤ 190; simp) (by kernel_rfl) ?_
  simp -implicitDefEqProofs -dsimp only [go_sem,↓reduceIte,zE,zB,zA,zM,zS,zL,reduceCtorEq,fits]
  refine (hA _).mono ?_
  rintro _ st ⟨rfl,rfl⟩
  simp -implicitDefEqProofs -dsimp only [go_sem,↓reduceIte,zE,zB,zA,zM,zS,zL,reduceCtorEq,fits]
  refine (hS _).mono ?_
  rintro _ st ⟨rfl,rfl⟩
  by_cases hsm:(okT (.mk rule s m u n sub) && decide ((Tr.mk rule s m u n sub).steps ≤ 60)) = true
  case neg =>
    have hsm':(okT (.mk rule s m u n sub) && decide ((Tr.mk rule s m u n sub).steps ≤ 60)) = false:=by simpa using hsm
    simp -implicitDefEqProofs -dsimp only [go_sem,↓reduceIte,zE,zB,zA,zM,zS,zL,reduceCtorEq,hsm',fits]
    exact outK_self ⟨rfl,rfl⟩
  simp -implicitDefEqProofs -dsimp only [go_sem,↓reduceIte,zE,zB,zA,zM,zS,zL,reduceCtorEq,hsm,fits]
  rw [Bool.and_eq_true,decide_eq_true_eq] at hsm
  obtain ⟨hok,hst⟩:=hsm
  refine (hR _).mono ?_
  rintro _ st ⟨rfl,rfl⟩
  cases hroom:roomB (.mk rule s m u n sub)
  · simp -implicitDefEqProofs -dsimp only [go_sem,↓reduceIte,zE,zB,zA,zM,zS,zL,reduceCtorEq,fits]
    exact outK_self ⟨rfl,rfl⟩
  simp -implicitDefEqProofs -dsimp only [go_sem,↓reduceIte,zE,zB,zA,zM,zS,zL,reduceCtorEq,fits]
  have hNA:=okT_NA hok
  have hC:=fun st => Check_c gl G T ca _ _ hx0 (NA_fit hNA (by omega)) st
  refine (hC _).mono ?_
  rintro _ st ⟨⟨tg,rfl,htg⟩,rfl⟩
  by_cases hzero:(CheckS ca (.mk rule s m u n sub)).2 = 0
  case neg =>
    have he0:decide ((((CheckS ca (.mk rule s m u n sub)).2:Nat):Int) = 0) = false:=decide_eq_false (by omega)
    simp -implicitDefEqProofs -dsimp only [go_sem,↓reduceIte,zE,zB,zA,zM,zS,zL,reduceCtorEq,fits,he0]
    exact outK_self ⟨rfl,rfl⟩
  have he0:decide ((((CheckS ca (.mk rule s m u n sub)).2:Nat):Int) = 0) = true:=decide_eq_true (by omega)
  have hNA':=hNA
  simp only [NA] at hNA'
  obtain ⟨hfs,hms,hus,hNs⟩:=hNA'
  have hsq0:IsSq s (.agg [.sl tl xl,.sl tr xr]):=⟨tl,xl,tr,xr,rfl,e1,i1,e2,i2⟩
  have hnode:wFms s.l + wFms s.r ≤ 300:=by
    simp only [okT,Bool.and_eq_true] at hok
    exact (nodeB_true hok.1).1
  have hq1:=size_wFms s.l
  have hq2:=size_wFms s.r
  have hst2:1 + stepsTrs sub ≤ 60:=hst
  have hlsub:=len_le_steps sub
  have hlr:s.l.length < 64 ∧ s.r.length < 64:=by
    simp only [roomB,Bool.and_eq_true,decide_eq_true_eq] at hroom
    exact hroom.1
  have hCp:=fun st => kCopySeq_p gl s _ hsq0 (by omega) (by omega) st
  simp -implicitDefEqProofs -dsimp only [go_sem,↓reduceIte,zE,zB,zA,zM,zS,zL,reduceCtorEq,fits,he0]
  refine (hCp _).mono ?_
  rintro _ st3 ⟨c1,y1,c2,y2,rfl,ho1,hy1,ho2,hy2,hs3⟩
  have hlen1:y1.length = s.l.length:=hy1.1.len
  have hlen2:y2.length = s.r.length:=hy2.1.len
  have hj:((w:Nat):Int).tmod 6 = 3:=by rw [Int.tmod_eq_emod_of_nonneg (by omega)]; omega
  have hz6:((6:Int) = 0) = False:=by simp
  simp -implicitDefEqProofs -dsimp only [go_sem,↓reduceIte,zE,zB,zA,zM,zS,zL,reduceCtorEq,fits,inOrder_one,show inOrder 0 [] = true from rfl]
  intro b
  refine giv_intro fun hb => ?_
  have hflat:(xs.flatMap IV.cells).length = xs.length * 12:=tree_flat i3
  have hxl:xs.length = sub.length:=i3.len
  refine appO_intro _ _ _ (cs:=[]) (ISt.put_same ..) (tree_fits i3) (by simp only; omega) ⟨Nat.le_refl _,by simp⟩ hflat fun g cap cs hg hcap hcl htk => ?_
  simp only [Nat.zero_add,Nat.zero_mul,List.take_zero,List.nil_append,List.take_nil] at hcap htk hcl ⊢
  generalize hst4:((st3.put b (some (.box (List.flatMap IV.cells [])))).put b none).put g (some (.box cs)) = st4
  have hg4:st4 g = some (.box cs):=by rw [← hst4]; exact ISt.put_same _ _ _
  by_cases h0:sub.length = 0
  · have k0:decide (((sub.length:Nat):Int) = 0) = true:=decide_eq_true (by omega)
    simp -implicitDefEqProofs -dsimp only [go_sem,↓reduceIte,zE,zB,zA,zM,zS,zL,reduceCtorEq,fits,IV.one,hj,hz6,inOrder_one,Int.reduceEq,decide_true,decide_false,hxl,k0]
    intros
    exact outK_sub (st':=fun _ => none) (fun b o h => by cases h) ⟨rfl,hst00⟩
  have k0:decide (((sub.length:Nat):Int) = 0) = false:=decide_eq_false (by omega)
  obtain ⟨q,rest,rfl⟩:∃ b l,sub = b :: l:=by
    cases sub with
    | nil => simp at h0
    | cons b l => exact ⟨b,l,rfl⟩
  have hi3:=i3
  simp only [IsTrs] at hi3
  obtain ⟨zq,xs',rfl,hq0,hxs'⟩:=hi3
  obtain ⟨qr,qs,qm,qu,qn,qsub⟩:=q
  have hq1':=hq0
  obtain ⟨ql,qxl,qrt,qxr,qop,qfn,qta,qxa,qtb,qxb,qv,qun,qtu,qxu,qts,qxs,rfl,hqru,qe1,qi1,qe2,qi2,qhy,qhz,qe3,qi3⟩:=hq0.mk
  have k0:decide (((rest.length + 1:Nat):Int) = 0) = false:=decide_eq_false (by omega)
  have hcs:∃ ds,cs = .raw (.int .u8 qr) :: .sl ql qxl :: .sl qrt qxr :: .raw (.int .u8 qop) :: .raw (.string qfn) :: .sl qta qxa :: .sl qtb qxb :: .raw (.bool qv) :: .raw (.string qun) :: .sl qtu qxu :: .raw (.string qn) :: .sl qts qxs :: ds ∧ ds.take (xs'.length * 12) = xs'.flatMap IV.cells:=by
    have e1:cs = cs.take ((xs'.length + 1) * 12) ++ cs.drop ((xs'.length + 1) * 12):=(List.take_append_drop _ _).symm
    have e2:cs.take ((xs'.length + 1) * 12) = _:=htk
    rw [e2] at e1
    exact ⟨xs'.flatMap IV.cells ++ cs.drop ((xs'.length + 1) * 12),e1.trans (by simp [IV.cells]),List.take_left' (tree_flat hxs')⟩
  obtain ⟨ds,rfl,hds⟩:=hcs
  have t0:Int.toNat 0 = 0:=rfl
  have t1:((0:Int) ≤ 0) = True:=eq_true (Int.le_refl 0)
  have t2:(0 < rest.length + 1) = True:=eq_true (Nat.succ_pos _)
  have t3:List.take 12 (.raw (.int .u8 qr) :: .sl ql qxl :: .sl qrt qxr :: .raw (.int .u8 qop) :: .raw (.string qfn) :: .sl qta qxa :: .sl qtb qxb :: .raw (.bool qv) :: .raw (.string qun) :: .sl qtu qxu :: .raw (.string qn) :: .sl qts qxs :: ds) = [.raw (.int .u8 qr),.sl ql qxl,.sl qrt qxr,.raw (.int .u8 qop),.raw (.string qfn),.sl qta qxa,.sl qtb qxb,.raw (.bool qv),.raw (.string qun),.sl qtu qxu,.raw (.string qn),.sl qts qxs]:=rfl
  simp -implicitDefEqProofs -dsimp only [go_sem,↓reduceIte,zE,zB,zA,zM,zS,zL,reduceCtorEq,fits,IV.one,hj,hz6,inOrder_one,Int.reduceEq,decide_true,decide_false,hxl,k0,hg4]
  intros
  simp -implicitDefEqProofs -dsimp only [go_sem,↓reduceIte,zE,zB,zA,zM,zS,zL,reduceCtorEq,fits,IV.one,hj,hz6,inOrder_one,Int.reduceEq,decide_true,decide_false,hxl,k0,hg4,t0,t1,t2,t3,Nat.zero_mul,List.drop_zero,true_and,Nat.zero_le,IV.cells]
  have hqs:IsSq qs (.agg [.sl ql qxl,.sl qrt qxr]):=⟨ql,qxl,qrt,qxr,rfl,qe1,qi1,qe2,qi2⟩
  have hok2:=hok
  simp only [okT,okTs,Bool.and_eq_true] at hok2
  have hqnode:wFms qs.l + wFms qs.r ≤ 300:=(nodeB_true hok2.2.1.1).1
  have hqw1:=size_wFms qs.l
  have hqw2:=size_wFms qs.r
  have hroom2:qs.l.length < 64 ∧ qs.r.length < 64:=by
    simp only [roomB,roomBs,Bool.and_eq_true,decide_eq_true_eq] at hroom
    exact hroom.2.1.1
  refine (kCopySeq_p gl qs _ hqs (by omega) (by omega) _).mono ?_
  rintro _ st5 ⟨c5,y5,c6,y6,rfl,ho5,hy5,ho6,hy6,hs5⟩
  have hlen5:y5.length = qs.l.length:=hy5.1.len
  have hg5:st5 g = _:=hs5 _ _ hg4
  simp -implicitDefEqProofs -dsimp only [go_sem,↓reduceIte,zE,zB,zA,zM,zS,zL,reduceCtorEq,fits,IV.one,hj,hz6,inOrder_one,Int.reduceEq,decide_true,decide_false,bsize_mk]
  refine (q_p gl _ _ _ _).mono ?_
  rintro _ _ ⟨rfl,rfl⟩
  simp -implicitDefEqProofs -dsimp only [go_sem,↓reduceIte,zE,zB,zA,zM,zS,zL,reduceCtorEq,fits,IV.one,hj,hz6,inOrder_one,Int.reduceEq,decide_true,decide_false,bsize_mk]
  refine (q_no gl _ _ _ _ _ _ _).mono ?_
  rintro _ _ ⟨rfl,rfl⟩
  simp -implicitDefEqProofs -dsimp only [go_sem,↓reduceIte,zE,zB,zA,zM,zS,zL,reduceCtorEq,fits,IV.one,hj,hz6,inOrder_one,Int.reduceEq,decide_true,decide_false,bsize_mk]
  refine (q_no gl _ _ _ _ _ _ _).mono ?_
  rintro _ _ ⟨rfl,rfl⟩
  simp -implicitDefEqProofs -dsimp only [go_sem,↓reduceIte,zE,zB,zA,zM,zS,zL,reduceCtorEq,fits,IV.one,hj,hz6,inOrder_one,Int.reduceEq,decide_true,decide_false,bsize_mk]
  refine (q_no gl _ _ _ _ _ _ _).mono ?_
  rintro _ _ ⟨rfl,rfl⟩
  simp -implicitDefEqProofs -dsimp only [go_sem,↓reduceIte,zE,zB,zA,zM,zS,zL,reduceCtorEq,fits,IV.one,hj,hz6,inOrder_one,Int.reduceEq,decide_true,decide_false,bsize_mk]
  refine (q_no gl _ _ _ _ _ _ _).mono ?_
  rintro _ _ ⟨rfl,rfl⟩
  simp -implicitDefEqProofs -dsimp only [go_sem,↓reduceIte,zE,zB,zA,zM,zS,zL,reduceCtorEq,fits,IV.one,hj,hz6,inOrder_one,Int.reduceEq,decide_true,decide_false,bsize_mk]
  refine appV_own ho5 hlen5 hs5 rfl (by simp [fits,IV.one]) (by simp only; omega) (by omega) fun tg7 st7 hown7 hsub7 _ => ?_
  have hg7:st7 g = _:=hsub7 _ _ hg4
  simp -implicitDefEqProofs -dsimp only [go_sem,↓reduceIte,zE,zB,zA,zM,zS,zL,reduceCtorEq,fits,IV.one,hj,hz6,inOrder_one,Int.reduceEq,decide_true,decide_false,bsize_mk,hg7]
  have hes7:(reTag 4 tg7).es = 4:=reTag_es hown7.es
  have hlast:∀ z:IV,IntKind.i64.wrap ((((y5 ++ [z]).length:Nat):Int) - 1) = ((qs.l.length:Nat):Int):=fun z => by
    rw [List.length_append,hlen5]
    rw [IntWalk.i64_in _ (by simp only [List.length_cons,List.length_nil]; omega)]
    simp only [List.length_cons,List.length_nil]; omega
  have hget:∀ z:IV,(y5 ++ [z])[qs.l.length]? = some z:=fun z => by rw [← hlen5]; simp
  have hnn:((0:Int) ≤ ((qs.l.length:Nat):Int)) = True:=eq_true (Int.natCast_nonneg _)
  have t4:∀ k:Nat,(0 ≤ k) = True:=fun k => eq_true (Nat.zero_le k)
  simp -implicitDefEqProofs -dsimp only [go_sem,↓reduceIte,zE,zB,zA,zM,zS,zL,reduceCtorEq,fits,IV.one,hj,hz6,inOrder_one,Int.reduceEq,decide_true,decide_false,bsize_mk,hes7,hlast,hget,hnn,Int.toNat_natCast,t0,t1,t2,t3,t4,Nat.zero_mul,List.drop_zero,List.take_zero,List.nil_append,Nat.zero_add]
  generalize hz4:IV.agg [.raw (.int .u8 3),.raw (.string ⟨#[]⟩),.sl ⟨true,.nil,0⟩ [],.sl ⟨true,.full,4⟩ [IV.agg [.raw (.int .u8 3),.raw (.string ⟨#[]⟩),.sl ⟨true,.nil,0⟩ [],.sl ⟨true,.full,4⟩ [IV.agg [.raw (.int .u8 3),.raw (.string ⟨#[]⟩),.sl ⟨true,.nil,0⟩ [],.sl ⟨true,.full,4⟩ [IV.agg [.raw (.int .u8 3),.raw (.string ⟨#[]⟩),.sl ⟨true,.nil,0⟩ [],.sl ⟨true,.full,4⟩ [IV.agg [.raw (.int .u8 1),.raw (.string ⟨#[79,116,104,101,114]⟩),.sl ⟨true,.nil,0⟩ [],.sl ⟨true,.nil,0⟩ []]]]]]]]]] = z4
  have hz4I:IsFm no4F z4:=by
    rw [← hz4]
    exact ⟨_,_,_,_,rfl,by omega,.inl rfl,rfl,.inr rfl,⟨_,_,rfl,⟨_,_,_,_,rfl,by omega,.inl rfl,rfl,.inr rfl,⟨_,_,rfl,⟨_,_,_,_,rfl,by omega,.inl rfl,rfl,.inr rfl,⟨_,_,rfl,⟨_,_,_,_,rfl,by omega,.inl rfl,rfl,.inr rfl,⟨_,_,rfl,⟨_,_,_,_,rfl,by omega,.inl rfl,rfl,.inl rfl,rfl⟩,rfl⟩⟩,rfl⟩⟩,rfl⟩⟩,rfl⟩⟩
  refine (HasF_c gl G s.l no4F tl xl z4 e1 i1 hz4I hfs.1 (by decide) _).mono ?_
  rintro _ _ ⟨rfl,rfl⟩
  cases hh:hasF s.l no4F
  case true =>
    simp -implicitDefEqProofs -dsimp only [go_sem,↓reduceIte,zE,zB,zA,zM,zS,zL,reduceCtorEq,fits,IV.one,hj,hz6,inOrder_one,Int.reduceEq,decide_true,decide_false,bsize_mk,hes7,hlast,hget,hnn,Int.toNat_natCast,t0,t1,t2,t4,Nat.zero_mul,List.drop_zero,List.take_zero,List.nil_append,Nat.zero_add,show decide ((0:Int) = 0) = true from rfl]
    intros
    exact outK_sub (st':=fun _ => none) (fun b o h => by cases h) ⟨rfl,hst00⟩
  simp -implicitDefEqProofs -dsimp only [go_sem,↓reduceIte,zE,zB,zA,zM,zS,zL,reduceCtorEq,fits,IV.one,hj,hz6,inOrder_one,Int.reduceEq,decide_true,decide_false,bsize_mk,hes7,hlast,hget,hnn,Int.toNat_natCast,t0,t1,t2,t4,Nat.zero_mul,List.drop_zero,List.take_zero,List.nil_append,Nat.zero_add]
  intros
  have hchild:IsTr (.mk qr ⟨qs.l ++ [no4F],qs.r⟩ qm qu qn qsub) (.agg [.raw (.int .u8 qr),.sl tg7 (y5 ++ [z4]),.sl c6 y6,.raw (.int .u8 qop),.raw (.string qfn),.sl qta qxa,.sl qtb qxb,.raw (.bool qv),.raw (.string qun),.sl qtu qxu,.raw (.string qn),.sl qts qxs]):=by
    simp only [IsTr]
    exact ⟨_,_,_,_,_,_,_,_,_,_,_,_,_,_,_,_,rfl,hqru,hown7.es,hy5.1.append (IsFms.one hz4I),ho6.es,hy6.1,qhy,qhz,qe3,qi3⟩
  have hxw:IsTr (.mk rule s m u n (.mk qr ⟨qs.l ++ [no4F],qs.r⟩ qm qu qn qsub :: rest)) (.agg ([.raw (.int .u8 rule),.sl c1 y1,.sl c2 y2,.raw (.int .u8 op),.raw (.string fn),.sl ta xa,.sl tb xb,.raw (.bool v),.raw (.string un),.sl tu xu,.raw (.string n)] ++
      [.sl ⟨true,.app g,12⟩ (.agg [.raw (.int .u8 qr),.sl tg7 (y5 ++ [z4]),.sl c6 y6,.raw (.int .u8 qop),.raw (.string qfn),.sl qta qxa,.sl qtb qxb,.raw (.bool qv),.raw (.string qun),.sl qtu qxu,.raw (.string qn),.sl qts qxs] :: xs')])):=by
    simp only [List.cons_append,List.nil_append,IsTr]
    exact ⟨_,_,_,_,_,_,_,_,_,_,_,_,_,_,_,_,rfl,hru,ho1.es,hy1.1,ho2.es,hy2.1,hy,hz,.inr rfl,_,_,rfl,hchild,hxs'⟩
  have hNq:=hNs.1
  simp only [NA] at hNq
  have hNw:NA (.mk rule s m u n (.mk qr ⟨qs.l ++ [no4F],qs.r⟩ qm qu qn qsub :: rest)):=⟨hfs,hms,hus,⟨⟨fun f hf => (List.mem_append.1 hf).elim (hNq.1.1 f) fun h => by rw [List.mem_singleton.1 h]; decide,hNq.1.2⟩,hNq.2⟩,hNs.2⟩
  have hCb:=fun st hst => Check_box gl G T hgl ca g cap _ _ _ xs' ds hxw (NA_fit hNw (by show 1 + stepsTrs (.mk qr qs qm qu qn qsub :: rest) ≤ _; omega)) rfl (fun x hx => tree_cells hxs' x hx) hds (by have:=hxs'.len; simp only [List.length_cons] at hcap; omega) (by simp only [List.length_cons] at hcl; omega) (by have:=hxs'.len; simp only [stepsTrs] at hst2; have:=len_le_steps rest; omega) st hst
  simp only [List.cons_append,List.nil_append,IV.cells,hxs'.len] at hCb
  refine (hCb _ (ISt.put_same ..)).mono ?_
  rintro _ st9 ⟨⟨tg9,rfl,htg9⟩,hg9⟩
  rcases CheckS_other hzero no4F hh no4_free hroom2.1 hroom2.2 with hres | ⟨hne,m',l',hA,hm',hsh⟩
  · simp only [hres]
    simp -implicitDefEqProofs -dsimp only [go_sem,↓reduceIte,zE,zB,zA,zM,zS,zL,reduceCtorEq,fits,IV.one,hj,hz6,inOrder_one,Int.reduceEq,decide_true,decide_false,bsize_mk,hes7,hlast,hget,hnn,Int.toNat_natCast,t0,t1,t2,t4,Nat.zero_mul,List.drop_zero,List.take_zero,List.nil_append,Nat.zero_add,show plI [] = [] from rfl,show decide (((195:Nat):Int) = 195) = true from rfl]
    intros
    exact outK_sub (st':=fun _ => none) (fun b o h => by cases h) ⟨rfl,hst00⟩
  · have hd:decide ((((CheckS ca (.mk rule s m u n (.mk qr ⟨qs.l ++ [no4F],qs.r⟩ qm qu qn qsub :: rest))).2:Nat):Int) = 195) = false:=decide_eq_false (by omega)
    simp -implicitDefEqProofs -dsimp only [go_sem,↓reduceIte,zE,zB,zA,zM,zS,zL,reduceCtorEq,fits,IV.one,hj,hz6,inOrder_one,Int.reduceEq,decide_true,decide_false,bsize_mk,hes7,hlast,hget,hnn,Int.toNat_natCast,t0,t1,t2,t4,Nat.zero_mul,List.drop_zero,List.take_zero,List.nil_append,Nat.zero_add,hd]
    refine (Added_c gl G T ca rule m _ hy hms u _ hz hus n _).mono ?_
    rintro _ _ ⟨tgA,xsA,rfl,heA,hxsA,rfl⟩
    rw [hA] at hxsA
    simp only [IsSqs] at hxsA
    have hesA:(reTag 2 tgA).es = 2:=reTag_es heA
    obtain ⟨_,ysA,rfl,⟨tA1,xA1,tA2,xA2,rfl,eA1,iA1,eA2,iA2⟩,hysA⟩:=hxsA
    have k1:decide ((0:Int) < ((ysA.length + 1:Nat):Int)) = true:=decide_eq_true (by omega)
    simp -implicitDefEqProofs -dsimp only [go_sem,↓reduceIte,zE,zB,zA,zM,zS,zL,reduceCtorEq,fits,IV.one,hj,hz6,inOrder_one,Int.reduceEq,decide_true,decide_false,bsize_mk,hes7,hlast,hget,hnn,Int.toNat_natCast,t0,t1,t2,t4,Nat.zero_mul,List.drop_zero,List.take_zero,List.nil_append,Nat.zero_add,hg9,k1,hesA,List.getElem?_cons_zero]
    subst hz4
    simp -implicitDefEqProofs -dsimp only [go_sem,↓reduceIte,zE,zB,zA,zM,zS,zL,reduceCtorEq,fits,IV.one,decide_true,decide_false]
    refine (HasF_c gl G m'.l no4F tA1 xA1 _ eA1 iA1 hz4I hsh.1.1 (by decide) _).mono ?_
    rintro _ _ ⟨rfl,rfl⟩
    rw [hm']
    simp -implicitDefEqProofs -dsimp only [go_sem,↓reduceIte,zE,zB,zA,zM,zS,zL,reduceCtorEq,fits,IV.one,decide_true,decide_false]
    intros
    exact outK_sub (st':=fun _ => none) (fun b o h => by cases h) ⟨rfl,hst00⟩
end Go.Proofs.Tryz

namespace Go.Proofs.Tryz
open Go Go.Iv Go.ChangeShapes
open Go.Proofs.YtckafgnkmnichaaGreatDoor.Rows (uptoBulk uptoBulkAll)
set_option maxRecDepth 4000

theorem uSeq:prog.underlying 24 = some (.struct #[⟨ "Left",22,0,false, "", "",0⟩,⟨ "Right",22,1,false, "", "",24⟩]):=by kernel_rfl
theorem uTree:prog.underlying 32 = some (.struct #[⟨ "Rule",5,0,false, "", "",0⟩,⟨ "Seq",24,1,false, "", "",8⟩,⟨ "Main",27,3,false, "", "",56⟩,⟨ "Term",29,7,false, "", "",128⟩,⟨ "Name",9,10,false, "", "",176⟩,⟨ "Sub",30,11,false, "", "",192⟩]):=by kernel_rfl
theorem uTrees:prog.underlying 30 = some (.slice 32):=by kernel_rfl
theorem nSeq:prog.cellsOf 24 = 2:=by kernel_rfl
theorem nTree:prog.cellsOf 32 = 12:=by kernel_rfl
theorem nTrees:prog.cellsOf 30 = 1:=by kernel_rfl

mutual
theorem wTm_bulk:∀ t:Tm,wTm t ≤ 2 * bulkT t
  | .mk _ n us => by have:=wTms_bulk us; simp only [wTm,bulkT]; omega
theorem wTms_bulk:∀ l:List Tm,wTms l ≤ 2 * bulkTs l
  | [] => Nat.le_refl _
  | a :: l => by have:=wTm_bulk a; have:=wTms_bulk l; simp only [wTms,bulkTs]; omega
end
mutual
theorem wFm_bulk:∀ f:Fm,wFm f ≤ 2 * bulkF f
  | .mk _ n us sub => by have:=wTms_bulk us; have:=wFms_bulk sub; simp only [wFm,bulkF]; omega
theorem wFms_bulk:∀ l:List Fm,wFms l ≤ 2 * bulkFs l
  | [] => Nat.le_refl _
  | a :: l => by have:=wFm_bulk a; have:=wFms_bulk l; simp only [wFms,bulkFs]; omega
end

section
variable {H:Type} {enc:TypeId × Value → H} {w:World} {spare:Nat → Bool} {held:Bool}
def RQ (d:DataW H) (s:Sq) (x:IV):Prop:=IsSq s x ∧ wFms s.l + wFms s.r ≤ 2 * uptoBulk d
theorem seq_of (fuel:Nat) (cs:List Value) (y:DataW H × List MemPlace) (h:DataW.trod enc prog w 0 spare held fuel 24 cs = some y) (hb:uptoBulk y.1 ≤ 1048576):∃ s x,VL 0 (L0 w) w cs x.cells ∧ RQ y.1 s x:=by
  obtain ⟨ys,n,rfl,rfl,hl,hlen,hf⟩:=DataW.trod_struct uSeq h
  match ys,hlen with
  | [y0,y1],_ =>
    rw [nSeq] at hl
    match cs,hl with
    | [c0,c1],_ =>
      have h0:=hf 0 _ rfl
      have h1:=hf 1 _ rfl
      simp only [nForms,List.drop_zero,List.drop_succ_cons,List.take_succ_cons,List.take_zero,List.getElem?_cons_zero,List.getElem?_cons_succ] at h0 h1
      simp only [List.map_cons,List.map_nil,uptoBulk,uptoBulkAll] at hb
      obtain ⟨v0,tg0,xs0,l0,e0,hv0,ht0,hl0,hb0⟩:=forms_of h0 (by omega) (fun m _ => form_of m)
      obtain ⟨v1,tg1,xs1,l1,e1,hv1,ht1,hl1,hb1⟩:=forms_of h1 (by omega) (fun m _ => form_of m)
      cases e0; cases e1
      refine ⟨⟨l0,l1⟩,.agg [.sl tg0 xs0,.sl tg1 xs1],VL.cons hv0 (VL.cons hv1 VL.nil),⟨tg0,xs0,tg1,xs1,rfl,ht0,hl0,ht1,hl1⟩,?_⟩
      have:=wFms_bulk l0
      have:=wFms_bulk l1
      simp only [List.map_cons,List.map_nil,uptoBulk,uptoBulkAll]
      omega
theorem isTrs_get:∀ {us:List Tr} {xs:List IV},us.length = xs.length → (∀ (i:Nat) (a:Tr) (x:IV),us[i]? = some a → xs[i]? = some x → IsTr a x) → IsTrs us xs
  | [],xs,h,_ => by simpa [IsTrs] using h.symm
  | a :: us,[],h,_ => by simp at h
  | a :: us,x :: xs,h,hh => ⟨x,xs,rfl,hh 0 a x rfl rfl,isTrs_get (by simpa using h) (fun i b y hb hy => hh (i + 1) b y (by simpa using hb) (by simpa using hy))⟩
theorem wTrs_sum:∀ {us:List Tr} {ds:List (DataW H)},us.length = ds.length → (∀ (i:Nat) (a:Tr) (d:DataW H),us[i]? = some a → ds[i]? = some d → wTr a + a.steps ≤ 2 * uptoBulk d) → wTrs us + stepsTrs us ≤ 2 * uptoBulkAll ds
  | [],ds,h,_ => by simp [wTrs,stepsTrs]
  | a :: us,[],h,_ => by simp at h
  | a :: us,x :: xs,h,hh => by
    have h1:=hh 0 a x rfl rfl
    have h2:=wTrs_sum (us:=us) (ds:=xs) (by simpa using h) (fun i b y hb hy => hh (i + 1) b y (by simpa using hb) (by simpa using hy))
    simp only [wTrs,stepsTrs,uptoBulkAll]; omega
def RR (d:DataW H) (t:Tr) (x:IV):Prop:=IsTr t x ∧ wTr t + t.steps ≤ 2 * uptoBulk d
theorem RR.cells {d:DataW H} {t:Tr} {x:IV} (h:RR d t x):x.cells.length = 12:=by
  obtain ⟨_,_,_,_,_,_,_,_,_,_,_,_,_,_,_,_,_,_,rfl⟩:=trAgg h.1; rfl
theorem trees_of {fuel:Nat} {cs:List Value} {y:DataW H × List MemPlace} (h:DataW.trod enc prog w 0 spare held fuel 30 cs = some y) (hb:uptoBulk y.1 ≤ 1048576)
    (IH:∀ (n:Nat),n < fuel → ∀ (cs:List Value) (y:DataW H × List MemPlace),DataW.trod enc prog w 0 spare held n 32 cs = some y → uptoBulk y.1 ≤ 1048576 → ∃ t x,VL 0 (L0 w) w cs x.cells ∧ RR y.1 t x) :
    ∃ v tg xs ts,cs = [v] ∧ V 0 (L0 w) w v (.sl tg xs) ∧ okEs tg 12 ∧ IsTrs ts xs ∧ wTrs ts + stepsTrs ts + 1 ≤ 2 * uptoBulk y.1:=by
  obtain ⟨v,tg,xs,ts,rfl,hv,htg,hl,hc⟩:=open_sl (H:=H) (P:=prog) (d:=y.1) (p:=y.2) RR uTrees nTree (by decide) h (fun elems sp e => by
      have:=slice_le elems sp; have:=length_le elems; rw [← e] at *; omega) (fun d t x h => h.cells) (fun n hn cs' z q ⟨elems,sp,he,hm⟩ hz => by
      have:=slice_le elems sp
      have:=part_le hm
      rw [he] at hb
      exact IH n (by omega) cs' (z,q) hz (show uptoBulk z ≤ 1048576 by omega))
  refine ⟨v,tg,xs,ts,rfl,hv,htg,?_⟩
  rcases hc with ⟨hd,rfl⟩ | ⟨elems,sp,hd,hel,hr⟩
  · obtain rfl:ts = []:=List.length_eq_zero_iff.1 (by simpa using hl)
    exact ⟨rfl,by rw [hd]; simp [wTrs,stepsTrs,uptoBulk]⟩
  · have hi:∀ (i:Nat) (a:Tr),ts[i]? = some a → ∃ x d,xs[i]? = some x ∧ elems[i]? = some d ∧ RR d a x:=fun i a ha => by
      have hi:=(List.getElem?_eq_some_iff.1 ha).1
      exact ⟨_,_,List.getElem?_eq_getElem (by omega),List.getElem?_eq_getElem (by omega),hr i _ _ _ (List.getElem?_eq_getElem (by omega)) ha (List.getElem?_eq_getElem (by omega))⟩
    refine ⟨isTrs_get hl (fun i a x ha hx => ?_),?_⟩
    · obtain ⟨x',d,h1,h2,h3⟩:=hi i a ha
      rw [hx] at h1; cases h1
      exact h3.1
    · have:=wTrs_sum (us:=ts) (ds:=elems) (by omega) (fun i a d ha hd' => by
        obtain ⟨x',d',h1,h2,h3⟩:=hi i a ha
        rw [hd'] at h2; cases h2
        exact h3.2)
      have:=slice_le elems sp
      rw [hd]
      omega
theorem cs12 {cs:List Value} (h:cs.length = 12):∃ a b c d e f g h i j k l,cs = [a,b,c,d,e,f,g,h,i,j,k,l]:=by
  match cs,h with
  | [a,b,c,d,e,f,g,h,i,j,k,l],_ => exact ⟨a,b,c,d,e,f,g,h,i,j,k,l,rfl⟩
theorem tree_of:∀ (fuel:Nat) (cs:List Value) (y:DataW H × List MemPlace),DataW.trod enc prog w 0 spare held fuel 32 cs = some y → uptoBulk y.1 ≤ 1048576 → ∃ t x,VL 0 (L0 w) w cs x.cells ∧ RR y.1 t x:=by
  intro fuel
  induction fuel using Nat.strongRecOn with
  | ind fuel IH =>
    intro cs y h hb
    obtain ⟨ys,n,rfl,rfl,hl,hlen,hf⟩:=DataW.trod_struct uTree h
    match ys,hlen with
    | [y0,y1,y2,y3,y4,y5],_ =>
      rw [nTree] at hl
      obtain ⟨c0,c1,c2,c3,c4,c5,c6,c7,c8,c9,c10,c11,rfl⟩:=cs12 hl
      have h0:=hf 0 _ rfl
      have h1:=hf 1 _ rfl
      have h2:=hf 2 _ rfl
      have h3:=hf 3 _ rfl
      have h4:=hf 4 _ rfl
      have h5:=hf 5 _ rfl
      simp only [nU8,nString,nSeq,nForm,nTerm,nTrees,List.drop_zero,List.drop_succ_cons,List.take_succ_cons,List.take_zero,List.getElem?_cons_zero,List.getElem?_cons_succ] at h0 h1 h2 h3 h4 h5
      simp only [List.map_cons,List.map_nil,uptoBulk,uptoBulkAll] at hb
      obtain ⟨op,e0,rfl,hop⟩:=DataW.trod_int uU8 h0
      obtain ⟨s,xs,hvs,hs1,hs2⟩:=seq_of n _ _ h1 (by omega)
      obtain ⟨f,xf,hvf,hf1,hf2⟩:=form_of n _ _ h2 (by omega)
      obtain ⟨t,xt,hvt,ht1,ht2⟩:=term_of n _ _ h3 (by omega)
      obtain ⟨nm,e4,hn,hn2⟩:=str_of h4 (by omega)
      obtain ⟨v,tg,xb,ts,e5,hv,htg,hts,hbk⟩:=trees_of h5 (by omega) (fun m hm => IH m (by omega))
      cases e0; cases e4; cases e5
      have hop:0 ≤ op ∧ op < 256:=by
        simp only [Lit.wf,IntKind.min,IntKind.max,IntKind.signed,IntKind.bits,Bool.and_eq_true,decide_eq_true_eq] at hop
        exact ⟨of_decide_eq_true hop.1,by have:=of_decide_eq_true hop.2; simp at this; omega⟩
      obtain ⟨k,rfl⟩:=Int.eq_ofNat_of_zero_le hop.1
      obtain ⟨tl,xl,tr,xr,rfl,k1,k2,k3,k4⟩:=hs1
      have hf0:=hf1
      have ht0:=ht1
      obtain ⟨o,fn,us,sub⟩:=f
      obtain ⟨ta,xa,tb,xb',rfl,_⟩:=hf1.mk
      obtain ⟨b,un,uu⟩:=t
      obtain ⟨tu,xu,rfl,_⟩:=ht1.mk
      refine ⟨.mk k s (.mk o fn us sub) (.mk b un uu) nm ts,.agg [.raw (.int .u8 k),.sl tl xl,.sl tr xr,.raw (.int .u8 o),.raw (.string fn),.sl ta xa,.sl tb xb',.raw (.bool b),.raw (.string un),.sl tu xu,.raw (.string nm),.sl tg xb],
        VL.cons (.raw _ trivial) (hvs.append (hvf.append (hvt.append (VL.cons hn (VL.cons hv VL.nil))))),?_,?_⟩
      · simp only [IsTr]
        exact ⟨tl,xl,tr,xr,o,fn,ta,xa,tb,xb',b,un,tu,xu,tg,xb,rfl,by omega,k1,k2,k3,k4,hf0,ht0,htg,hts⟩
      · have:=wFm_bulk (.mk o fn us sub)
        have:=wTm_bulk (.mk b un uu)
        simp only [List.map_cons,List.map_nil,uptoBulk,uptoBulkAll,wTr,Tr.steps]
        omega
end
end Go.Proofs.Tryz

namespace Go.Proofs.Tryz
open Go Go.Iv Go.ChangeShapes Go.RowKit
open Go.Proofs.YtckafgnkmnichaaGreatDoor
set_option maxRecDepth 8000

theorem uRow:prog.underlying 193 = some (.struct #[⟨ "right",4,0,false, "", "lyceum/syntax",0⟩,⟨ "schema",4,1,false, "", "lyceum/syntax",1⟩,⟨ "name",5,2,false, "", "lyceum/syntax",2⟩,⟨ "args",3,3,false, "", "lyceum/syntax",8⟩,⟨ "subs",3,4,false, "", "lyceum/syntax",16⟩]):=by kernel_rfl
theorem uRows:prog.underlying 194 = some (.array 17 193):=by kernel_rfl
theorem uInt:prog.underlying 3 = some (.int .i64):=by kernel_rfl
theorem nRow:prog.cellsOf 193 = 5:=by kernel_rfl
theorem nRows:prog.cellsOf 194 = 85:=by kernel_rfl
theorem nInt:prog.cellsOf 3 = 1:=by kernel_rfl
theorem gRows:prog.globalNamed "lyceum/syntax.rows" = some 0:=by kernel_rfl
theorem gRowsT:(prog.globals[0]?).map (·.type) = some 194:=by kernel_rfl
theorem gPow:prog.globalNamed "internal/strconv.uint64pow10" = some 2:=by kernel_rfl
theorem gPowT:(prog.globals[2]?).map (·.type) = some 320:=by kernel_rfl
theorem uPow:prog.underlying 320 = some (.array 20 246):=by kernel_rfl
theorem uU64:prog.underlying 246 = some (.int .u64):=by kernel_rfl
theorem nPow:prog.cellsOf 320 = 20:=by kernel_rfl
theorem nU64:prog.cellsOf 246 = 1:=by kernel_rfl

section
variable {H:Type} {enc:TypeId × Value → H} {w:World} {spare:Nat → Bool} {held:Bool}

def rowD (op:Nat):DataW H:=.agg [.lit (.bool (rowRight op)),.lit (.bool (rowSchema op)),.lit (.int .u8 (rowName op)),.lit (.int .i64 (rowArgs op)),.lit (.int .i64 (rowSubs op))]
def rowV (op:Nat):List Value:=[.bool (rowRight op),.bool (rowSchema op),.int .u8 (rowName op),.int .i64 (rowArgs op),.int .i64 (rowSubs op)]
theorem row_cells {fuel:Nat} {cs:List Value} {op:Nat} {p:List MemPlace} (h:DataW.trod enc prog w 0 spare held fuel 193 cs = some (rowD op,p)):cs = rowV op:=by
  obtain ⟨ys,n,rfl,he,hl,hlen,hf⟩:=DataW.trod_struct uRow h
  match ys,hlen with
  | [y0,y1,y2,y3,y4],_ =>
    rw [nRow] at hl
    match cs,hl with
    | [c0,c1,c2,c3,c4],_ =>
      have h0:=hf 0 _ rfl
      have h1:=hf 1 _ rfl
      have h2:=hf 2 _ rfl
      have h3:=hf 3 _ rfl
      have h4:=hf 4 _ rfl
      simp only [nBool,nU8,nInt,List.drop_zero,List.drop_succ_cons,List.take_succ_cons,List.take_zero,List.getElem?_cons_zero,List.getElem?_cons_succ] at h0 h1 h2 h3 h4
      obtain ⟨b0,e0,rfl⟩:=DataW.trod_bool uBool h0
      obtain ⟨b1,e1,rfl⟩:=DataW.trod_bool uBool h1
      obtain ⟨b2,e2,rfl,_⟩:=DataW.trod_int uU8 h2
      obtain ⟨b3,e3,rfl,_⟩:=DataW.trod_int uInt h3
      obtain ⟨b4,e4,rfl,_⟩:=DataW.trod_int uInt h4
      cases e0; cases e1; cases e2; cases e3; cases e4
      have he1:=congrArg Prod.fst he
      simp only [rowD,List.map_cons,List.map_nil,DataW.agg.injEq,List.cons.injEq,DataW.lit.injEq,Lit.bool.injEq,Lit.int.injEq,true_and,and_true] at he1
      obtain ⟨rfl,rfl,rfl,rfl,rfl⟩:=he1
      rfl
theorem rows_data:(Rows.laid_lyceum_syntax_rows:DataW H) = .agg ((List.range 17).map rowD):=by rfl
theorem rows_cells {fuel:Nat} {cs:List Value} {p:List MemPlace} (h:DataW.trod enc prog w 0 spare held fuel 194 cs = some (Rows.laid_lyceum_syntax_rows,p)) :
    cs.length = 85 ∧ ∀ op,op < 17 → (cs.drop (op * 5)).take 5 = rowV op:=by
  obtain ⟨ys,n,rfl,he,hl,hlen,hf⟩:=DataW.trod_array uRows h
  rw [nRows] at hl
  refine ⟨hl,fun op hop => ?_⟩
  have h1:=hf op hop
  rw [nRow] at h1
  have he1:=congrArg Prod.fst he
  rw [rows_data] at he1
  simp only [DataW.agg.injEq] at he1
  have h2:(ys.map (·.1))[op]? = some (rowD op):=by
    rw [← he1,List.getElem?_map,List.getElem?_range hop]; rfl
  rw [List.getElem?_map] at h2
  obtain ⟨y,hy,hy2⟩:=Option.map_eq_some_iff.1 h2
  rw [hy] at h1
  obtain ⟨y1,y2⟩:=y
  simp only at hy2
  subst hy2
  exact row_cells h1
end

def gl0:Nat → Option IV
  | 0 => some (.agg rowsL)
  | 2 => some (.agg pow10L)
  | _ => none
theorem G0:Gl gl0:=⟨rfl⟩
theorem T0:Gt gl0:=⟨rfl⟩
def X0 (w:World):WS:={ w:=w,L:=L0 w,st:=fun _ => none,d:=0 }

theorem rowsL_cells {cs:List Value} (hl:cs.length = 85) (h:∀ op,op < 17 → (cs.drop (op * 5)).take 5 = rowV op) (i:Nat) (r:Value) (c:IV) (hr:cs[i]? = some r) (hc:rowsL[i]? = some c):c = .raw r ∧ rawOk r:=by
  have hi:i < 85:=by have:=(List.getElem?_eq_some_iff.1 hr).1; omega
  have hop:i / 5 < 17:=by omega
  have e:i = i / 5 * 5 + i % 5:=by omega
  have hm:i % 5 < 5:=Nat.mod_lt _ (by decide)
  have h1:(rowV (i / 5))[i % 5]? = some r:=by
    rw [← h _ hop,List.getElem?_take,if_pos hm,List.getElem?_drop,← e]; exact hr
  have h2:(rowI (i / 5))[i % 5]? = some c:=by
    rw [← (rowsL_take _ hop).2,List.getElem?_take,if_pos hm,List.getElem?_drop,← e]; exact hc
  generalize i % 5 = k at h1 h2 hm
  match k,hm with
  | 0,_ => cases h1; cases h2; exact ⟨rfl,trivial⟩
  | 1,_ => cases h1; cases h2; exact ⟨rfl,trivial⟩
  | 2,_ => cases h1; cases h2; exact ⟨rfl,trivial⟩
  | 3,_ => cases h1; cases h2; exact ⟨rfl,trivial⟩
  | 4,_ => cases h1; cases h2; exact ⟨rfl,trivial⟩

theorem good0 {W:World} (hL:laidMetH prog Rows.sequentPartsUptoRow.laid W):Go.Iv.Good ⟨prog,gl0,0⟩ (X0 W):=by
  obtain ⟨ps,hlv,_⟩:=(show laidMet prog _ W from hL)
  obtain ⟨_,_,_,_,_,_,_,_,_,_,hlv,_⟩:=hlv
  obtain ⟨_,_,_,_,_,_,_,_,_,_,hlv,_⟩:=hlv
  obtain ⟨g1,t1,cs1,f1,p1,q1,hg1,ht1,hv1,hd1,hlv,_⟩:=hlv
  obtain ⟨g2,t2,cs2,f2,p2,q2,hg2,ht2,hv2,hd2,_,_⟩:=hlv
  obtain rfl:=Option.some.inj (gPow.symm.trans hg1)
  obtain rfl:=Option.some.inj (gPowT.symm.trans ht1)
  obtain rfl:=Option.some.inj (gRows.symm.trans hg2)
  obtain rfl:=Option.some.inj (gRowsT.symm.trans ht2)
  have hc1:=Lib.cells_of_tab (zs:=Lib.pow10Tab) uPow uU64 nU64 nPow hd1
  have hc2:=rows_cells hd2
  have hb:∀ (n:String) (g:Nat) (cs:Array Value),prog.globalNamed n = some g → W.var? prog n = some cs → ∃ T f,W.heap[g]? = some (.cells cs T f):=by
    intro n g cs hn hv
    unfold World.var? at hv
    rw [hn,Option.bind_some] at hv
    split at hv
    · rename_i c t f hh
      cases hv
      exact ⟨_,_,hh⟩
    · cases hv
  obtain ⟨T1,fr1,hh1⟩:=hb _ _ _ gPow hv1
  obtain ⟨T2,fr2,hh2⟩:=hb _ _ _ gRows hv2
  have row:∀ (g:Nat) (cs:Array Value) (T:TypeId) (f:Nat × Nat) (xs:List IV),W.heap[g]? = some (.cells cs T f) → cs.size = xs.length → (∀ (i:Nat) (r:Value) (c:IV),cs.toList[i]? = some r → xs[i]? = some c → c = .raw r ∧ rawOk r) →
      V 0 (L0 W) W (.pointer (some ⟨g,0,none⟩)) (.cptr (.agg xs)):=by
    intro g cs T f xs hh hl h
    refine .cptr _ _ cs.toList rfl (by simpa [IV.cells] using hl) ?_ (fun i r hr => ?_) (fun i r c hr hc => ?_)
    · show 0 + cs.toList.length ≤ L0 W g
      simp [L0,hh]
    · show W.cell? ⟨g,0 + i,none⟩ = some r
      simp only [World.cell?,hh,Nat.zero_add]
      simpa using hr
    · obtain ⟨rfl,hk⟩:=h i r c hr hc
      exact .raw _ hk
  have hp:∀ (i:Nat) (r:Value) (c:IV),cs1.toList[i]? = some r → pow10L[i]? = some c → c = .raw r ∧ rawOk r:=by
    intro i r c hr hc
    rw [hc1,List.getElem?_map] at hr
    unfold pow10L at hc
    rw [List.getElem?_map] at hc
    obtain ⟨z,hz,rfl⟩:=Option.map_eq_some_iff.1 hr
    rw [hz] at hc
    cases hc
    exact ⟨rfl,trivial⟩
  have hs1:cs1.size = pow10L.length:=by
    rw [← Array.length_toList,hc1]; simp [pow10L]
  have hs2:cs2.size = rowsL.length:=by
    rw [← Array.length_toList,hc2.1]; rfl
  refine ⟨fun b o h => (by cases h),fun g x hx => ?_,Nat.zero_le _,fun b hb => ?_,fun g x hx => ?_,fun _ => Nat.zero_le _⟩
  · match g,hx with
    | 0,hx => cases hx; exact row 0 cs2 T2 fr2 _ hh2 hs2 (fun i r c hr hc => rowsL_cells hc2.1 hc2.2 i r c hr hc)
    | 2,hx => cases hx; exact row 2 cs1 T1 fr1 _ hh1 hs1 hp
  · show L0 W b = 0
    unfold L0
    rw [Array.getElem?_eq_none (show W.heap.size ≤ b from hb)]
  · match g,hx with
    | 0,hx => cases hx; exact ⟨T2,fr2 == (0,0),by show shq W 0 = _; simp [shq,hh2,hs2,IV.cells]⟩
    | 2,hx => cases hx; exact ⟨T1,fr1 == (0,0),by show shq W 2 = _; simp [shq,hh1,hs1,IV.cells]⟩

theorem below_of_ext {W:World} {X':WS} (h:Ext (X0 W) X'):Below W.heap.size W X'.w :=
  ⟨h.os,h.tape,h.output,h.size,fun k hk => (h.keep k hk rfl).1⟩
theorem laidOut:laidOutB prog = true:=by kernel_rfl
theorem trodAll_below {H:Type} {enc:TypeId × Value → H} {W W':World} (hb:Below W.heap.size W W') (sp:Nat → Bool):∀ {ts:List TypeId} {vs:List Value} {ds:List (DataW H)} {ps:List MemPlace},
    (∀ t ∈ ts,prog.readableRec t = true ∧ t < prog.types.size) → DataW.TrodAll enc prog W 0 (fun _ => true) true ts vs ds ps → (∀ p ∈ ps,p.block < W.heap.size) → (∀ p ∈ ps,sp p.block = true) →
    DataW.TrodAll enc prog W' 0 sp true ts vs ds ps
  | [],vs,ds,ps,_,h,_,_ => by
    obtain ⟨rfl,rfl,rfl⟩:=trodAll_nil h
    rfl
  | t :: ts,vs,ds,ps,ht,h,hlt,hsp => by
    obtain ⟨v,vs1,d,ds1,a,b,rfl,rfl,rfl,h1,h2⟩:=trodAll_cons h
    refine ⟨a,b,WideElems.Trod_stays laidOut (ht t (by simp)).1 (ht t (by simp)).2 h1 (fun p hp => hb.same (hlt p (by simp [hp]))) (fun p hp => hsp p (by simp [hp])),?_,rfl⟩
    exact trodAll_below hb sp (fun t h => ht t (by simp [h])) h2 (fun p hp => hlt p (by simp [hp])) (fun p hp => hsp p (by simp [hp]))

theorem law_post {H:Type} {enc:TypeId × Value → H} {f:Func} {s:ChangeSpec} {fid:FuncId} {W:World} {args:Array Value} {ds gs:List (DataW H)} {before:List MemPlace} {ivs:List IV}
    (hvars:s.vars = []) (hW:DataW.Whole enc prog f.params.toList s.vars false W args.toList ds gs before) (hfn:s.fn H (ds ++ gs) = { results:=[.lit (.bool true)],args:=ds })
    (hres:f.resultTypes = #[4]) (hread:∀ t ∈ f.params.toList,prog.readableRec t = true ∧ t < prog.types.size) (hg:Go.Iv.Good ⟨prog,gl0,0⟩ (X0 W)) (hv:VL 0 (L0 W) W args.toList ivs)
    (hc:ICall prog gl0 fid ivs (fun _ => none) (fun r st' => r = .raw (.bool true) ∧ st' = fun _ => none)) :
    Calls prog fid args W fun e W' => ∃ v,e = .returned v ∧ s.post enc prog f false true false false W args v W':=by
  refine (hc 0 (X0 W) args.toList hg rfl hv).mono ?_
  rintro e W' ⟨v,rfl,X',x,rfl,hg',he,hx,rfl,_⟩
  obtain rfl:=V.raw_inv hx
  have hb:=below_of_ext he
  refine ⟨_,rfl,?_⟩
  have hW':=hW
  obtain ⟨p,q,hA,hV,rfl,hz,_⟩:=hW
  rw [hvars] at hV
  have hgs:gs = [] ∧ q = []:=by
    cases gs with
    | nil => exact ⟨rfl,hV⟩
    | cons _ _ => exact absurd hV (by simp [DataW.TrodVars])
  obtain ⟨rfl,rfl⟩:=hgs
  have hlt:∀ x ∈ p,x.block < W.heap.size:=fun x hx => by simpa using hW'.lt x (by simpa using hx)
  have hargs:∀ sp:Nat → Bool,(∀ x ∈ p,sp x.block = true) → DataW.TrodAll enc prog X'.w 0 sp true f.params.toList args.toList (s.fn H (ds ++ [])).args p:=fun sp hsp => by
    rw [hfn]
    exact trodAll_below hb sp hread hA hlt hsp
  have hr:∀ (b:Nat) (sp:Nat → Bool) (hd:Bool),DataW.TrodAll enc prog X'.w b sp hd f.resultTypes.toList ((Value.bool true).resultList f.resultTypes.size) (s.fn H (ds ++ [])).results []:=fun _ _ _ => by
    rw [hfn,hres]
    exact trodAll_cons_mk (shut_bool uBool _) trodAll_mk0
  have hvs:∀ sp:Nat → Bool,DataW.TrodVars enc prog X'.w sp s.vars (s.fn H (ds ++ [])).vars []:=fun _ => by
    rw [hvars,hfn]; rfl
  have hsz:∀ x ∈ p,(fun b => decide (b < W.heap.size)) x.block = true:=fun x hx => by simpa using hlt x hx
  refine ⟨ds,[],p ++ [],[],p,[],hW',hr _ _ _,hargs _ hsz,hvs _,World.keptBut_mono (fun x hx => ⟨hx,Or.inr (by simpa using hx)⟩) (hb.frame (· ∈ p ++ [])),fun _ => ⟨ok_one hres rfl (okWide_bool_mk uBool _),_,_,([] ++ p) ++ [],
    ⟨[] ++ p,[],trodAll_append (hargs _ (fun _ _ => rfl)) (hr _ _ _),hvs _,rfl,?_,fun h => by cases h⟩,fun x hx _ => by simpa using hx⟩⟩
  intro b off hp
  rw [hb.frozen (p:=⟨b,off,none⟩) (hlt (.cell b off) (by simpa using hp))]
  exact hz b off (by simpa using hp)

theorem form_val {W:World} {base:Nat} {v:Value} {f:Fm} {x:IV} (h:Value.okWide prog W .any base 27 v) (hx:VL 0 (L0 W) W v.cells.toList x.cells) (hf:IsFm f x):V 0 (L0 W) W v x:=by
  obtain ⟨cs,rfl,_⟩:=WideShapes.okWide_struct uForm h
  cases f with
  | mk op n us sub =>
    obtain ⟨tg,xs,tg',ys,rfl,_⟩:=IsFm.mk hf
    cases cs
    exact hx.agg
theorem tree_val {W:World} {base:Nat} {v:Value} {t:Tr} {x:IV} (h:Value.okWide prog W .any base 32 v) (hx:VL 0 (L0 W) W v.cells.toList x.cells) (hf:IsTr t x):V 0 (L0 W) W v x:=by
  obtain ⟨cs,rfl,_⟩:=WideShapes.okWide_struct uTree h
  obtain ⟨_,_,_,_,_,_,_,_,_,_,_,_,_,_,_,_,_,_,rfl⟩:=trAgg hf
  cases cs
  exact hx.agg
theorem byte_val {α:Prop} {W:World} {base:Nat} {v:Value} (h:Value.okWide prog W .any base 5 v) (_:α):∃ b:Nat,v = .int .u8 b ∧ V 0 (L0 W) W (.int .u8 b) (.raw (.int .u8 b)) ∧ b < 256:=by
  simp only [Value.okWide,uU8,Cell.okWide] at h
  cases v <;> simp_all [Cell.ok]
  rename_i k n
  obtain ⟨rfl,h1,h2⟩:=h
  have e1:IntKind.u8.min = 0:=by decide
  have e2:IntKind.u8.max = 255:=by decide
  rw [e1] at h1
  rw [e2] at h2
  refine ⟨n.toNat,?_,?_,?_⟩
  · omega
  · exact .raw _ trivial
  · omega
theorem bool_val {W:World} {base:Nat} {v:Value} (h:Value.okWide prog W .any base 4 v):∃ b:Bool,v = .bool b ∧ V 0 (L0 W) W (.bool b) (.raw (.bool b)):=by
  simp only [Value.okWide,uBool,Cell.okWide] at h
  cases v <;> simp_all [Cell.ok]
  exact .raw _ trivial

def tab32:List Int:=[0,1,28,2,29,14,24,3,30,22,20,15,25,17,4,8,31,27,13,23,21,19,16,7,26,12,18,6,11,5,10,9]
def tab64:List Int:=[0,1,56,2,57,49,28,3,61,58,42,50,38,29,17,4,62,47,59,36,45,43,51,22,53,39,33,30,24,18,12,5,63,55,48,27,60,41,37,16,46,35,44,21,52,32,23,11,54,26,40,15,34,20,31,10,25,14,19,9,13,8,7,6]
def lay (cs:List Value):Obj → Obj
  | .cells _ t frozen => .cells cs.toArray t frozen
  | o => o
noncomputable def laidWorld (os:Os):World :=
  { World.holding prog os ⟨#[],#[],[]⟩ with heap:=((((World.holding prog os ⟨#[],#[],[]⟩).heap.modify 0 (lay ((List.range 17).flatMap rowV))).modify 2 (lay (Lib.pow10Tab.map fun z => .int .u64 z))).modify 3 (lay (tab32.map fun z => .int .u8 z))).modify 4 (lay (tab64.map fun z => .int .u8 z)) }
theorem laid_met (os:Os) (args:Array Value):laidMet prog Rows.sequentPartsUptoRow.laid ((laidWorld os).forCall (fun _ _ => 0) ⟨#[],args,[]⟩).memory :=
  laidMet_of_run' 8 (by kernel_rfl) (by kernel_rfl)
end Go.Proofs.Tryz

namespace Go.Proofs.Tryz
open Go Go.Iv
theorem ages_raws:∀ l:List IV,(∀ x ∈ l,∃ v,x = .raw v) → ages l = l
  | [],_ => rfl
  | x :: l,h => by
    obtain ⟨v,rfl⟩:=h x (by simp)
    simp only [ages,age,ages_raws l fun y hy => h y (by simp [hy])]
theorem aged_gl0:∀ g x,gl0 g = some x → age x = x:=by
  intro g x hx
  match g,hx with
  | 0,hx =>
    cases hx
    simp only [age]
    rw [ages_raws _ fun y hy => ?_]
    obtain ⟨op,_,hy⟩:=List.mem_flatMap.1 hy
    unfold rowI at hy
    simp only [List.mem_cons,List.not_mem_nil,or_false] at hy
    rcases hy with rfl | rfl | rfl | rfl | rfl <;> exact ⟨_,rfl⟩
  | 2,hx =>
    cases hx
    simp only [age]
    rw [ages_raws _ fun y hy => ?_]
    obtain ⟨z,_,rfl⟩:=List.mem_map.1 hy
    exact ⟨_,rfl⟩
theorem SequentWrong_c (ca:Nat) (t:Tr) (x:IV) (hx:IsTr t x) (hw:wTr t ≤ 1099511627776) (hst0:t.steps ≤ 1099511627776) (w:Nat) (hw8:w < 256) :
    ICall prog gl0 11 [.raw (.int .u8 ca),x,.raw (.int .u8 w)] (fun _ => none) (fun r st' => r = .raw (.bool true) ∧ st' = fun _ => none):=by
  by_cases h3:w % 6 = 3
  · exact SequentWrong_b gl0 G0 T0 aged_gl0 ca t x hx hw hst0 w hw8 h3
  · exact SequentWrong_a gl0 G0 T0 ca t x hx hw hst0 w hw8 h3 _
end Go.Proofs.Tryz
