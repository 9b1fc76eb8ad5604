/- Walks: copies whose memory the caller keeps; SequentWider.
   From a row's reading to ideal values, part 7: sequents and trees. -/
import Derived.Test.YtckafgnkmnichaaGreatDoorQH
import Derived.Test.YtckafgnkmnichaaGreatDoorQI
import Derived.Test.YtckafgnkmnichaaGreatDoorKE
set_option linter.all false
open Nat renaming reduceEqDiff → zE,reduceBEq → zB,reduceAdd → zA,reduceMul → zM,reduceSub → zS,reduceLeDiff → zL
attribute [local go_sem] Go.Iv.cf Go.Iv.setAt List.all_cons List.all_nil Bool.and_self Bool.true_and Bool.and_true Bool.false_and Bool.and_false Bool.not_true Bool.not_false List.mem_nil_iff if_false if_true beq_self_eq_true Nat.zero_add Nat.add_zero List.getElem?_cons_zero List.getElem?_cons_succ Option.map_some List.mem_cons or_false false_or or_true true_or Nat.sub_zero forall_const Int.toNat_natCast List.length_cons List.length_nil List.map_cons List.map_nil List.take_succ_cons List.take_zero List.drop_zero List.drop_succ_cons List.cons_append List.nil_append List.append_nil and_true true_and and_self true_implies List.zip_cons_cons List.zip_nil_left
namespace Go.Proofs.Tryz
open Go Go.Iv
set_option maxRecDepth 4000
variable (gl:Nat → Option IV)

theorem kCopyForms_o (us:List Fm) (tg:Tag) (xs:List IV) (htg:okEs tg 4) (hxs:IsFms us xs) (hsz:sizeFms us ≤ 1099511627776) (st:ISt) :
    ICall prog gl 72 [.sl tg xs] st (fun r st' => ∃ tg' ys,r = .sl tg' ys ∧ own st' tg' us.length 4 st ∧ IsFmsD us ys ∧ subSt st st'):=by
  have hlsz:=flen_le_size us
  refine ICall.intro (c:=cf prog gl [] []) func72 rfl (by show _ ≤ 22; simp) (by kernel_rfl) ?_
  simp -implicitDefEqProofs -dsimp only [go_sem,↓reduceIte,zE,zB,zA,zM,zS,zL,reduceCtorEq]
  refine LoopC.ctr us.length (fun k fr st' ds => (∃ tg' ys,fr 3 = .iv (.sl tg' ys) ∧ IsFmsD (us.take k) ys ∧ appT tg' ∧ own st' tg' k 4 st ∧ subSt st st') ∧ fr 0 = .iv (.sl tg xs) ∧ fr 4 = .iv (.raw (.int .i64 k)) ∧ ds = []) ?_ ?_ ?_
  · simp -implicitDefEqProofs -dsimp only [go_sem,↓reduceIte,zE,zB,zA,zM,zS,zL,reduceCtorEq]
    exact ⟨⟨_,_,rfl,IsFmsD.nil,.inl rfl,own.nil _ _ _ _ _,subSt.refl _⟩,rfl⟩
  · rintro k fr st1 _ hlt ⟨⟨tg',ys,f3,hys,hap,hown,hsub⟩,f0,f4,rfl⟩
    obtain ⟨a,ha⟩:=get_of_lt hlt
    obtain ⟨x,hkx,hx⟩:=hxs.get ha
    obtain ⟨h1,h2⟩:=sizeFms_take ha
    have hlen2:ys.length = k:=by rw [hys.len,List.length_take]; omega
    have hcall:=kCopyForm_c gl a x hx (by omega) st1
    obtain ⟨o5,n5,t5,x5,t6,x6,rfl⟩:=hx.agg
    simp -implicitDefEqProofs -dsimp only [go_sem,↓reduceIte,zE,zB,zA,zM,zS,zL,reduceCtorEq,f0,f3,f4,hxs.len,lt_i hlt,reTag_es htg,Int.natCast_nonneg,hkx,fits]
    intro _
    refine hcall.mono ?_
    rintro r _ ⟨hr,rfl⟩
    have hn:IsFmsD (us.take (k + 1)) (ys ++ [r]):=by
      rw [take_get ha]; exact hys.append (IsFmsD.one hr)
    obtain ⟨o7,n7,t7,x7,t8,x8,rfl⟩:=IsFmD.aggs hr
    simp -implicitDefEqProofs -dsimp only [go_sem,↓reduceIte,zE,zB,zA,zM,zS,zL,reduceCtorEq,f0,f3,f4,fits,inOrder_one]
    refine appV_ownD hown hlen2 hsub rfl (by simp [fits,IV.one]) (by simp only; omega) (by omega) fun tg2 st4 hown2 hsub4 _ hap2 => ?_
    simp -implicitDefEqProofs -dsimp only [go_sem,↓reduceIte,zE,zB,zA,zM,zS,zL,reduceCtorEq,f0,f3,f4,fits,w_succ hlt (show us.length ≤ 281474976710656 by omega)]
    exact ⟨tg2,_,rfl,hn,hap2,hown2,hsub4⟩
  · rintro fr st1 _ ⟨⟨tg',ys,f3,hys,hap,hown,hsub⟩,f0,f4,rfl⟩
    rw [List.take_length] at hys
    simp -implicitDefEqProofs -dsimp only [go_sem,↓reduceIte,zE,zB,zA,zM,zS,zL,reduceCtorEq,f0,f3,f4,hxs.len,nlt_i (Nat.lt_irrefl _),fits]
    intro _
    exact outK_self ⟨tg',ys,rfl,hown,hys,hsub⟩
theorem own_s0 {st S0 S1:ISt} {tg:Tag} {n s:Nat} (h:own st tg n s S1) (hs:subSt S0 S1):own st tg n s S0:=by
  rcases h with h | h | ⟨g,h1,h2,h3⟩
  · exact .inl h
  · exact .inr (.inl h)
  · exact .inr (.inr ⟨g,h1,h2,none_sub hs h3⟩)
theorem kCopySeq_o (s:Sq) (x:IV) (hx:IsSq s x) (h1:sizeFms s.l ≤ 1099511627776) (h2:sizeFms s.r ≤ 1099511627776) (st:ISt):ICall prog gl 25 [x] st (fun r st' =>
    ∃ t1 x1 t2 x2,r = .agg [.sl t1 x1,.sl t2 x2] ∧ own st' t1 s.l.length 4 st ∧ IsFmsD s.l x1 ∧ own st' t2 s.r.length 4 st ∧ IsFmsD s.r x2 ∧ subSt st st'):=by
  obtain ⟨t1,x1,t2,x2,rfl,e1,i1,e2,i2⟩:=hx
  have hc1:=kCopyForms_o gl s.l t1 x1 e1 i1 h1 st
  have hc2:=fun st => kCopyForms_o gl s.r t2 x2 e2 i2 h2 st
  refine ICall.intro (c:=cf prog gl [] []) func25 rfl (by show _ ≤ 12; simp) (by kernel_rfl) ?_
  simp -implicitDefEqProofs -dsimp only [go_sem,↓reduceIte,zE,zB,zA,zM,zS,zL,reduceCtorEq,fits]
  refine hc1.mono ?_
  rintro _ st1 ⟨tg',ys,rfl,ho,hys,hs⟩
  simp -implicitDefEqProofs -dsimp only [go_sem,↓reduceIte,zE,zB,zA,zM,zS,zL,reduceCtorEq,fits]
  refine (hc2 _).mono ?_
  rintro _ st2 ⟨tg2,ys2,rfl,ho2,hys2,hs2⟩
  simp -implicitDefEqProofs -dsimp only [go_sem,↓reduceIte,zE,zB,zA,zM,zS,zL,reduceCtorEq,fits]
  exact outK_self ⟨_,_,_,_,rfl,ho.mono fun g hg _ => hs2 g _ hg,hys,own_s0 ho2 hs,hys2,hs.trans hs2⟩
theorem fmB_right' {ca:Nat} {f:Fm} (h:fmB ca f = true):f.right = true:=by
  unfold fmB at h
  simp only [Bool.and_eq_true] at h
  exact h.1
theorem validB_one {ca:Nat} {f:Fm} (h:knownB ca = true):validB ca ⟨[f],[]⟩ = fmB ca f:=by
  unfold validB
  simp [h,firstsB]
theorem row_asks2 {ca rule:Nat} (h:rule = 14 ∨ rule = 15):∀ r,rowS ca rule = some r → r.asks = 2:=fun r hr => by
  rcases h with rfl | rfl <;> rcases row_cases hr with ⟨h,q⟩ | ⟨h,q⟩ | ⟨h,q⟩ | ⟨h,q⟩ | ⟨h,q⟩ | ⟨h,q⟩ | ⟨h,q⟩ | ⟨h,q⟩ | ⟨h,q⟩ | ⟨h,q⟩ | ⟨h,q⟩ | ⟨h,q⟩ | ⟨h,q⟩ | ⟨h,q⟩ | ⟨h,q⟩ | ⟨h,q⟩ | ⟨h,q⟩ | ⟨h,q⟩ <;> first | (rw [q]; done) | (subst q; rfl) | omega
theorem row_asks14 {ca rule:Nat} {r:Rw} (hr:rowS ca rule = some r) (h:r.asks = 2):rule = 14 ∨ rule = 15:=by
  rcases row_cases hr with ⟨rfl,rfl⟩ | ⟨rfl,rfl⟩ | ⟨rfl,rfl⟩ | ⟨rfl,rfl⟩ | ⟨rfl,rfl⟩ | ⟨rfl,rfl⟩ | ⟨rfl,rfl⟩ | ⟨rfl,rfl⟩ | ⟨rfl,rfl⟩ | ⟨rfl,rfl⟩ | ⟨rfl,rfl⟩ | ⟨rfl,rfl⟩ | ⟨rfl,rfl⟩ | ⟨rfl,rfl⟩ | ⟨rfl,rfl⟩ | ⟨rfl,rfl⟩ | ⟨rfl,rfl⟩ | ⟨rfl,rfl⟩ <;> first | exact .inl rfl | exact .inr rfl | (simp at h; done)
theorem row_side {ca rule:Nat} (hn:rule ≠ 17):∀ r,rowS ca rule = some r → r.left = true ∨ r.right = true:=fun r hr => by
  rcases row_cases hr with ⟨h,rfl⟩ | ⟨h,rfl⟩ | ⟨h,rfl⟩ | ⟨h,rfl⟩ | ⟨h,rfl⟩ | ⟨h,rfl⟩ | ⟨h,rfl⟩ | ⟨h,rfl⟩ | ⟨h,rfl⟩ | ⟨h,rfl⟩ | ⟨h,rfl⟩ | ⟨h,rfl⟩ | ⟨h,rfl⟩ | ⟨h,rfl⟩ | ⟨h,rfl⟩ | ⟨h,rfl⟩ | ⟨h,rfl⟩ | ⟨h,rfl⟩ <;> first | exact .inl rfl | exact .inr rfl | exact absurd h hn

set_option maxHeartbeats 2000000 in
theorem SequentWider_c (G:Gl gl) (T:Gt gl) (ca:Nat) (t:Tr) (x:IV) (hx:IsTr t x) (hw:wTr t ≤ 1099511627776) (g:Fm) (y:IV) (hg:IsFm g y) (hwg:wFm g ≤ 1099511627776) (rt:Bool) (st:ISt) :
    ICall prog gl 5 [.raw (.int .u8 ca),x,y,.raw (.bool rt)] st (fun r st' => r = .raw (.bool true) ∧ st' = st):=by
  have hA:=fun st => qawake_c gl G T st
  have hS:=fun st => QSmall_c gl t x hx hw st
  have hx0:=hx
  have hg0:=hg
  obtain ⟨rule,s,m,u,n,sub⟩:=t
  obtain ⟨tl,xl,tr,xr,op,fn,ta,xa,tb,xb,v,un,tu,xu,ts,xs,rfl,hru,e1,i1,e2,i2,hy,hz,e3,i3⟩:=hx.mk
  obtain ⟨o9,n9,t9,x9,t8,x8,rfl⟩:=hg.agg
  have hsz:=fun st => qsize_c gl [g] ⟨true,.full,4⟩ [.agg [.raw (.int .u8 o9),.raw (.string n9),.sl t9 x9,.sl t8 x8]] (.inr rfl) ⟨_,_,rfl,hg0,rfl⟩ 300 ⟨by omega,by omega⟩ (by simp only [wFms]; omega) st
  have d1:decide ((64:Int) ≤ ((s.l.length:Nat):Int)) = !decide (s.l.length < 64):=by
    rw [← decide_not,decide_eq_decide]; omega
  have d2:decide ((64:Int) ≤ ((s.r.length:Nat):Int)) = !decide (s.r.length < 64):=by
    rw [← decide_not,decide_eq_decide]; omega
  refine ICall.intro (c:=cf prog gl [] []) func5 rfl (by show _ ≤ 156; simp) (by kernel_rfl) ?_
  simp -implicitDefEqProofs -dsimp only [go_sem,↓reduceIte,zE,zB,zA,zM,zS,zL,reduceCtorEq,fits]
  refine (hA _).mono ?_
  rintro _ st ⟨rfl,rfl⟩
  simp -implicitDefEqProofs -dsimp only [go_sem,↓reduceIte,zE,zB,zA,zM,zS,zL,reduceCtorEq,fits]
  refine (hS _).mono ?_
  rintro _ st ⟨rfl,rfl⟩
  by_cases hsm:(okT (.mk rule s m u n sub) && decide ((Tr.mk rule s m u n sub).steps ≤ 60)) = true
  case neg =>
    have hsm':(okT (.mk rule s m u n sub) && decide ((Tr.mk rule s m u n sub).steps ≤ 60)) = false:=by simpa using hsm
    simp -implicitDefEqProofs -dsimp only [go_sem,↓reduceIte,zE,zB,zA,zM,zS,zL,reduceCtorEq,hsm',fits]
    exact outK_self ⟨rfl,rfl⟩
  simp -implicitDefEqProofs -dsimp only [go_sem,↓reduceIte,zE,zB,zA,zM,zS,zL,reduceCtorEq,hsm,fits,inOrder_one]
  rw [Bool.and_eq_true,decide_eq_true_eq] at hsm
  obtain ⟨hok,hst⟩:=hsm
  refine (q_fs gl _ _ _).mono ?_
  rintro _ st ⟨rfl,rfl⟩
  simp -implicitDefEqProofs -dsimp only [go_sem,↓reduceIte,zE,zB,zA,zM,zS,zL,reduceCtorEq,fits]
  refine (hsz _).mono ?_
  rintro _ st ⟨hSm,rfl⟩
  obtain ⟨mm,rfl,hd⟩:=hSm.gt
  rw [show wFms [g] = wFm g from by simp [wFms]] at hd
  cases q2:decide (300 < wFm g)
  case true =>
    rw [q2] at hd
    simp -implicitDefEqProofs -dsimp only [go_sem,↓reduceIte,zE,zB,zA,zM,zS,zL,reduceCtorEq,fits,hd]
    exact outK_self ⟨rfl,rfl⟩
  rw [q2] at hd
  have hwg3:wFm g ≤ 300:=by have:=of_decide_eq_false q2; omega
  cases q3:decide (s.l.length < 64)
  · rw [q3] at d1
    simp -implicitDefEqProofs -dsimp only [go_sem,↓reduceIte,zE,zB,zA,zM,zS,zL,reduceCtorEq,fits,hd,i1.len,d1]
    intros
    exact outK_self ⟨rfl,rfl⟩
  rw [q3] at d1
  cases q4:decide (s.r.length < 64)
  · rw [q4] at d2
    simp -implicitDefEqProofs -dsimp only [go_sem,↓reduceIte,zE,zB,zA,zM,zS,zL,reduceCtorEq,fits,hd,i1.len,i2.len,d1,d2]
    intros
    exact outK_self ⟨rfl,rfl⟩
  rw [q4] at d2
  have l64:=of_decide_eq_true q3
  have r64:=of_decide_eq_true q4
  have hNA:=okT_NA hok
  have hC:=fun st => Check_c gl G T ca _ _ hx0 (NA_fit hNA (by omega)) st
  simp -implicitDefEqProofs -dsimp only [go_sem,↓reduceIte,zE,zB,zA,zM,zS,zL,reduceCtorEq,fits,hd,i1.len,i2.len,d1,d2]
  intros
  refine (hC _).mono ?_
  rintro _ st ⟨⟨tg,rfl,htg⟩,rfl⟩
  by_cases hzero:(CheckS ca (.mk rule s m u n sub)).2 = 0
  case neg =>
    have he0:decide ((((CheckS ca (.mk rule s m u n sub)).2:Nat):Int) = 0) = false:=decide_eq_false (by omega)
    simp -implicitDefEqProofs -dsimp only [go_sem,↓reduceIte,zE,zB,zA,zM,zS,zL,reduceCtorEq,fits,he0]
    exact outK_self ⟨rfl,rfl⟩
  have he0:decide ((((CheckS ca (.mk rule s m u n sub)).2:Nat):Int) = 0) = true:=decide_eq_true (by omega)
  have hknown:knownB ca = true:=validB_known (CheckS_ok hzero).1
  have hfs:=NA_sq hNA
  simp only [Tr.sq] at hfs
  have hgs:g.size ≤ 1000000:=by have:=size_wFm g; omega
  have hsq0:IsSq s (.agg [.sl tl xl,.sl tr xr]):=⟨tl,xl,tr,xr,rfl,e1,i1,e2,i2⟩
  have hnode:wFms s.l + wFms s.r ≤ 300:=by
    simp only [okT,Bool.and_eq_true] at hok
    exact (nodeB_true hok.1).1
  have hq1:=size_wFms s.l
  have hq2:=size_wFms s.r
  have hCp:=fun st => kCopySeq_o gl s _ hsq0 (by omega) (by omega) st
  have hxb:IsTr (.mk rule ⟨[],[]⟩ m u n sub) (.agg [.raw (.int .u8 rule),.sl ⟨true,.nil,0⟩ [],.sl ⟨true,.nil,0⟩ [],.raw (.int .u8 op),.raw (.string fn),.sl ta xa,.sl tb xb,.raw (.bool v),.raw (.string un),.sl tu xu,.raw (.string n),.sl ts xs]):=by
    simp only [IsTr]
    exact ⟨_,_,_,_,_,_,_,_,_,_,_,_,_,_,_,_,rfl,hru,.inl rfl,rfl,.inl rfl,rfl,hy,hz,e3,i3⟩
  have hNAb:NA (.mk rule ⟨[],[]⟩ m u n sub):=by
    simp only [NA] at hNA ⊢
    exact ⟨⟨fun f hf => (by cases hf),fun f hf => (by cases hf)⟩,hNA.2⟩
  have hCb:=fun st => Check_c gl G T ca _ _ hxb (NA_fit hNAb (by show 1 + stepsTrs sub ≤ _; simp only [Tr.steps] at hst; omega)) st
  have hVf:=fun st => Valid_c gl G ca ⟨[g],[]⟩ (.agg [.sl ⟨true,.full,4⟩ [.agg [.raw (.int .u8 o9),.raw (.string n9),.sl t9 x9,.sl t8 x8]],.sl ⟨true,.nil,0⟩ []]) ⟨_,_,_,_,rfl,.inr rfl,⟨_,_,rfl,hg0,rfl⟩,.inl rfl,rfl⟩ ⟨fun f hf => by rw [List.mem_singleton.1 hf]; exact hgs,fun f hf => by cases hf⟩ st
  simp only [validB_one hknown] at hVf
  simp -implicitDefEqProofs -dsimp only [go_sem,↓reduceIte,zE,zB,zA,zM,zS,zL,reduceCtorEq,fits,he0]
  refine (hCp _).mono ?_
  rintro _ st3 ⟨c1,y1,c2,y2,rfl,ho1,hy1,ho2,hy2,hs3⟩
  have hNAw:∀ b,NA (.mk rule (addSq ca b s g) m u n sub):=fun b => by
    simp only [NA] at hNA ⊢
    refine ⟨?_,hNA.2⟩
    unfold addSq
    split
    · exact ⟨hNA.1.1,fun f hf => (List.mem_append.1 hf).elim (hNA.1.2 f) (fun h => by rw [List.mem_singleton.1 h]; exact hgs)⟩
    · exact ⟨fun f hf => (List.mem_append.1 hf).elim (hNA.1.1 f) (fun h => by rw [List.mem_singleton.1 h]; exact hgs),hNA.1.2⟩
  have d3:decide (((ca:Nat):Int) = 2) = decide (ca = 2):=by rw [decide_eq_decide]; omega
  have hlen1:y1.length = s.l.length:=hy1.1.len
  have hlen2:y2.length = s.r.length:=hy2.1.len
  cases rt
  · have hca:True:=trivial
    simp -implicitDefEqProofs -dsimp only [go_sem,↓reduceIte,zE,zB,zA,zM,zS,zL,reduceCtorEq,fits,inOrder_one,hca]
    refine appV_ownD ho1 hlen1 hs3 rfl (by simp [fits,IV.one]) (by simp only; omega) (by omega) fun tg4 st4 ho4 hsub5 _ _ => ?_
    simp -implicitDefEqProofs -dsimp only [go_sem,↓reduceIte,zE,zB,zA,zM,zS,zL,reduceCtorEq,fits]
    have hxw:IsTr (.mk rule (addSq ca false s g) m u n sub) (.agg [.raw (.int .u8 rule),.sl tg4 (y1 ++ [.agg [.raw (.int .u8 o9),.raw (.string n9),.sl t9 x9,.sl t8 x8]]),.sl c2 y2,.raw (.int .u8 op),.raw (.string fn),.sl ta xa,.sl tb xb,.raw (.bool v),.raw (.string un),.sl tu xu,.raw (.string n),.sl ts xs]):=by
      have:addSq ca false s g = ⟨s.l ++ [g],s.r⟩:=by simp [addSq,hca]
      rw [this]
      simp only [IsTr]
      exact ⟨_,_,_,_,_,_,_,_,_,_,_,_,_,_,_,_,rfl,hru,ho4.es,hy1.1.append (IsFms.one hg0),ho2.es,hy2.1,hy,hz,e3,i3⟩
    have hCw:=fun st => Check_c gl G T ca _ _ hxw (NA_fit (hNAw false) (by show 1 + stepsTrs sub ≤ _; simp only [Tr.steps] at hst; omega)) st
    -- what the check says of the wider tree
    refine (hCw _).mono ?_
    rintro _ st5 ⟨⟨tg5,rfl,htg5⟩,rfl⟩
    simp -implicitDefEqProofs -dsimp only [go_sem,↓reduceIte,zE,zB,zA,zM,zS,zL,reduceCtorEq,fits,inOrder_one]
    refine (q_fs gl _ _ _).mono ?_
    rintro _ st5 ⟨rfl,rfl⟩
    simp -implicitDefEqProofs -dsimp only [go_sem,↓reduceIte,zE,zB,zA,zM,zS,zL,reduceCtorEq,fits]
    refine (q_sq gl _ _ _ _ _).mono ?_
    rintro _ st5 ⟨rfl,rfl⟩
    simp -implicitDefEqProofs -dsimp only [go_sem,↓reduceIte,zE,zB,zA,zM,zS,zL,reduceCtorEq,fits]
    refine (hVf _).mono ?_
    rintro _ st5 ⟨rfl,rfl⟩
    cases hgf:fmB ca g
    · rw [CheckS_wide_bad hzero l64 r64 false g hgf]
      simp -implicitDefEqProofs -dsimp only [go_sem,↓reduceIte,zE,zB,zA,zM,zS,zL,reduceCtorEq,fits,show plI [] = [] from rfl,decide_true,show decide (((190:Nat):Int) = 190) = true from rfl,show decide (((0:Nat):Int) = 0) = true from rfl]
      intros
      exact outK_sub hsub5 ⟨rfl,rfl⟩
    have hq5:∀ h:memB (frF g) n = false ∨ ¬ (rule = 14 ∨ rule = 15),decide ((((CheckS ca (.mk rule (addSq ca false s g) m u n sub)).2:Nat):Int) = 0) = true:=fun h => by
      have:=CheckS_wide hzero l64 r64 false g hgf (fun r hr h2 => h.resolve_right fun h3 => h3 (row_asks14 hr h2))
      exact decide_eq_true (by omega)
    have hgr:=fmB_right' hgf
    have hFree:=fun st => Free_c gl T g _ hg0 (by omega) (fun q hq => by have:=nm_size (frF_ok g (right_ok hgr).1 q hq); omega) st
    have d14:decide (((rule:Nat):Int) = 14) = decide (rule = 14):=by rw [decide_eq_decide]; omega
    have d15:decide (((rule:Nat):Int) = 15) = decide (rule = 15):=by rw [decide_eq_decide]; omega
    cases q14:decide (rule = 14)
    · cases q15:decide (rule = 15)
      · rw [q14] at d14
        rw [q15] at d15
        have hno:¬ (rule = 14 ∨ rule = 15):=fun h => h.elim (of_decide_eq_false q14) (of_decide_eq_false q15)
        have hq5:=hq5 (.inr hno)
        simp -implicitDefEqProofs -dsimp only [go_sem,↓reduceIte,zE,zB,zA,zM,zS,zL,reduceCtorEq,fits,d14,d15]
        refine (hCb _).mono ?_
        rintro _ st7 ⟨⟨tg7,rfl,htg7⟩,rfl⟩
        by_cases hr17:rule = 17
        · have d17:decide (((rule:Nat):Int) = 17) = true:=decide_eq_true (by omega)
          simp -implicitDefEqProofs -dsimp only [go_sem,↓reduceIte,zE,zB,zA,zM,zS,zL,reduceCtorEq,fits,fits,d17,hq5]
          exact outK_sub hsub5 ⟨rfl,rfl⟩
        · have d17:decide (((rule:Nat):Int) = 17) = false:=decide_eq_false (by omega)
          rw [CheckS_bare hzero (row_side hr17)]
          simp -implicitDefEqProofs -dsimp only [go_sem,↓reduceIte,zE,zB,zA,zM,zS,zL,reduceCtorEq,fits,fits,d17,hq5,show plI [] = [] from rfl,decide_true,show decide (((192:Nat):Int) = 192) = true from rfl,show decide (((0:Nat):Int) = 0) = true from rfl]
          intros
          exact outK_sub hsub5 ⟨rfl,rfl⟩
      · rw [q14] at d14
        rw [q15] at d15
        have hyes:rule = 14 ∨ rule = 15:=.inr (of_decide_eq_true q15)
        simp -implicitDefEqProofs -dsimp only [go_sem,↓reduceIte,zE,zB,zA,zM,zS,zL,reduceCtorEq,fits,d14,d15]
        refine (hFree _).mono ?_
        rintro _ st6 ⟨tgf,l,rfl,htgf,hso,rfl⟩
        cases hmb:memB (frF g) n
        · have hq5:=hq5 (.inl hmb)
          have hnl:n ∉ l:=fun h => by
            have:=memB_iff.2 ((hso.2 n).1 h)
            rw [hmb] at this; cases this
          generalize CheckS ca (.mk rule (addSq ca false s g) m u n sub) = q at hq5
          simp -implicitDefEqProofs -dsimp only [go_sem,↓reduceIte,zE,zB,zA,zM,zS,zL,reduceCtorEq,fits]
          have hll:l.length ≤ 281474976710656:=by
            have h1:=sorted_len hso.1 (fun x hx => (hso.2 x).1 hx)
            have h2:=frF_le g
            omega
          refine LoopC.ctr l.length (fun k fr st' ds => n ∉ l.take k ∧ fr 0 = .iv (.raw (.int .u8 ca)) ∧ fr 5 = .box [.raw (.int .u8 rule),.sl tl xl,.sl tr xr,.raw (.int .u8 op),.raw (.string fn),.sl ta xa,.sl tb xb,.raw (.bool v),.raw (.string un),.sl tu xu,.raw (.string n),.sl ts xs] ∧
            fr 12 = .iv (.sl tg5 (plI q.1)) ∧ fr 13 = .iv (.raw (.int .i64 (((q.2:Nat):Int)))) ∧ fr 14 = .iv (.sl tgf (strI l)) ∧ fr 15 = .iv (.raw (.int .i64 k)) ∧ st' = st6 ∧ ds = []) ?_ ?_ ?_
          · simp -implicitDefEqProofs -dsimp only [go_sem,↓reduceIte,zE,zB,zA,zM,zS,zL,reduceCtorEq]
            simp
          · rintro k fr st1 _ hlt ⟨hnk,f0,f5,f12,f13,f14,f15,rfl,rfl⟩
            obtain ⟨a,ha⟩:=get_of_lt hlt
            have hne:decide (a = n) = false:=decide_eq_false fun h => hnl (h ▸ List.mem_of_getElem? ha)
            simp -implicitDefEqProofs -dsimp only [go_sem,↓reduceIte,zE,zB,zA,zM,zS,zL,reduceCtorEq,f0,f5,f12,f13,f14,f15,fits,strI_length,lt_i hlt,reTag_es htgf,Int.natCast_nonneg,strI_get ha,hne,w_succ hlt hll]
            intros
            exact fun h => hnl (List.mem_of_mem_take h)
          · rintro fr st1 _ ⟨hnk,f0,f5,f12,f13,f14,f15,rfl,rfl⟩
            simp -implicitDefEqProofs -dsimp only [go_sem,↓reduceIte,zE,zB,zA,zM,zS,zL,reduceCtorEq,f0,f5,f12,f13,f14,f15,fits,strI_length,nlt_i (Nat.lt_irrefl _)]
            intros
            refine (hCb _).mono ?_
            rintro _ st7 ⟨⟨tg7,rfl,htg7⟩,rfl⟩
            by_cases hr17:rule = 17
            · have d17:decide (((rule:Nat):Int) = 17) = true:=decide_eq_true (by omega)
              simp -implicitDefEqProofs -dsimp only [go_sem,↓reduceIte,zE,zB,zA,zM,zS,zL,reduceCtorEq,f0,f5,f12,f13,f14,f15,fits,d17,hq5]
              exact outK_sub hsub5 ⟨rfl,rfl⟩
            · have d17:decide (((rule:Nat):Int) = 17) = false:=decide_eq_false (by omega)
              rw [CheckS_bare hzero (row_side hr17)]
              simp -implicitDefEqProofs -dsimp only [go_sem,↓reduceIte,zE,zB,zA,zM,zS,zL,reduceCtorEq,f0,f5,f12,f13,f14,f15,fits,d17,hq5,show plI [] = [] from rfl,decide_true,show decide (((192:Nat):Int) = 192) = true from rfl,show decide (((0:Nat):Int) = 0) = true from rfl]
              intros
              exact outK_sub hsub5 ⟨rfl,rfl⟩
        · have hnl:n ∈ l:=(hso.2 n).2 (memB_iff.1 hmb)
          rw [CheckS_wide_free hzero l64 r64 false g hgf (row_asks2 hyes) hmb]
          rw [show plI [] = [] from rfl]
          simp -implicitDefEqProofs -dsimp only [go_sem,↓reduceIte,zE,zB,zA,zM,zS,zL,reduceCtorEq,fits]
          have hll:l.length ≤ 281474976710656:=by
            have h1:=sorted_len hso.1 (fun x hx => (hso.2 x).1 hx)
            have h2:=frF_le g
            omega
          refine LoopC.ctr l.length (fun k fr st' ds => n ∉ l.take k ∧ fr 0 = .iv (.raw (.int .u8 ca)) ∧ fr 5 = .box [.raw (.int .u8 rule),.sl tl xl,.sl tr xr,.raw (.int .u8 op),.raw (.string fn),.sl ta xa,.sl tb xb,.raw (.bool v),.raw (.string un),.sl tu xu,.raw (.string n),.sl ts xs] ∧
            fr 12 = .iv (.sl tg5 []) ∧ fr 13 = .iv (.raw (.int .i64 (193))) ∧ fr 14 = .iv (.sl tgf (strI l)) ∧ fr 15 = .iv (.raw (.int .i64 k)) ∧ st' = st6 ∧ ds = []) ?_ ?_ ?_
          · simp -implicitDefEqProofs -dsimp only [go_sem,↓reduceIte,zE,zB,zA,zM,zS,zL,reduceCtorEq]
            simp
          · rintro k fr st1 _ hlt ⟨hnk,f0,f5,f12,f13,f14,f15,rfl,rfl⟩
            obtain ⟨a,ha⟩:=get_of_lt hlt
            by_cases han:a = n
            · have hne:decide (a = n) = true:=decide_eq_true han
              simp -implicitDefEqProofs -dsimp only [go_sem,↓reduceIte,zE,zB,zA,zM,zS,zL,reduceCtorEq,f0,f5,f12,f13,f14,f15,fits,strI_length,lt_i hlt,reTag_es htgf,Int.natCast_nonneg,strI_get ha,hne,decide_true,show decide (((0:Nat):Int) = 0) = true from rfl]
              intros
              exact outK_sub hsub5 ⟨rfl,rfl⟩
            · have hne:decide (a = n) = false:=decide_eq_false han
              simp -implicitDefEqProofs -dsimp only [go_sem,↓reduceIte,zE,zB,zA,zM,zS,zL,reduceCtorEq,f0,f5,f12,f13,f14,f15,fits,strI_length,lt_i hlt,reTag_es htgf,Int.natCast_nonneg,strI_get ha,hne,w_succ hlt hll]
              intros
              rw [take_get ha]
              simp [hnk,Ne.symm han]
          · rintro fr st1 _ ⟨hnk,f0,f5,f12,f13,f14,f15,rfl,rfl⟩
            rw [List.take_length] at hnk
            exact absurd hnl hnk
    · rw [q14] at d14
      have hyes:rule = 14 ∨ rule = 15:=.inl (of_decide_eq_true q14)
      simp -implicitDefEqProofs -dsimp only [go_sem,↓reduceIte,zE,zB,zA,zM,zS,zL,reduceCtorEq,fits,d14,d15]
      refine (hFree _).mono ?_
      rintro _ st6 ⟨tgf,l,rfl,htgf,hso,rfl⟩
      cases hmb:memB (frF g) n
      · have hq5:=hq5 (.inl hmb)
        have hnl:n ∉ l:=fun h => by
          have:=memB_iff.2 ((hso.2 n).1 h)
          rw [hmb] at this; cases this
        generalize CheckS ca (.mk rule (addSq ca false s g) m u n sub) = q at hq5
        simp -implicitDefEqProofs -dsimp only [go_sem,↓reduceIte,zE,zB,zA,zM,zS,zL,reduceCtorEq,fits]
        have hll:l.length ≤ 281474976710656:=by
          have h1:=sorted_len hso.1 (fun x hx => (hso.2 x).1 hx)
          have h2:=frF_le g
          omega
        refine LoopC.ctr l.length (fun k fr st' ds => n ∉ l.take k ∧ fr 0 = .iv (.raw (.int .u8 ca)) ∧ fr 5 = .box [.raw (.int .u8 rule),.sl tl xl,.sl tr xr,.raw (.int .u8 op),.raw (.string fn),.sl ta xa,.sl tb xb,.raw (.bool v),.raw (.string un),.sl tu xu,.raw (.string n),.sl ts xs] ∧
          fr 12 = .iv (.sl tg5 (plI q.1)) ∧ fr 13 = .iv (.raw (.int .i64 (((q.2:Nat):Int)))) ∧ fr 14 = .iv (.sl tgf (strI l)) ∧ fr 15 = .iv (.raw (.int .i64 k)) ∧ st' = st6 ∧ ds = []) ?_ ?_ ?_
        · simp -implicitDefEqProofs -dsimp only [go_sem,↓reduceIte,zE,zB,zA,zM,zS,zL,reduceCtorEq]
          simp
        · rintro k fr st1 _ hlt ⟨hnk,f0,f5,f12,f13,f14,f15,rfl,rfl⟩
          obtain ⟨a,ha⟩:=get_of_lt hlt
          have hne:decide (a = n) = false:=decide_eq_false fun h => hnl (h ▸ List.mem_of_getElem? ha)
          simp -implicitDefEqProofs -dsimp only [go_sem,↓reduceIte,zE,zB,zA,zM,zS,zL,reduceCtorEq,f0,f5,f12,f13,f14,f15,fits,strI_length,lt_i hlt,reTag_es htgf,Int.natCast_nonneg,strI_get ha,hne,w_succ hlt hll]
          intros
          exact fun h => hnl (List.mem_of_mem_take h)
        · rintro fr st1 _ ⟨hnk,f0,f5,f12,f13,f14,f15,rfl,rfl⟩
          simp -implicitDefEqProofs -dsimp only [go_sem,↓reduceIte,zE,zB,zA,zM,zS,zL,reduceCtorEq,f0,f5,f12,f13,f14,f15,fits,strI_length,nlt_i (Nat.lt_irrefl _)]
          intros
          refine (hCb _).mono ?_
          rintro _ st7 ⟨⟨tg7,rfl,htg7⟩,rfl⟩
          by_cases hr17:rule = 17
          · have d17:decide (((rule:Nat):Int) = 17) = true:=decide_eq_true (by omega)
            simp -implicitDefEqProofs -dsimp only [go_sem,↓reduceIte,zE,zB,zA,zM,zS,zL,reduceCtorEq,f0,f5,f12,f13,f14,f15,fits,d17,hq5]
            exact outK_sub hsub5 ⟨rfl,rfl⟩
          · have d17:decide (((rule:Nat):Int) = 17) = false:=decide_eq_false (by omega)
            rw [CheckS_bare hzero (row_side hr17)]
            simp -implicitDefEqProofs -dsimp only [go_sem,↓reduceIte,zE,zB,zA,zM,zS,zL,reduceCtorEq,f0,f5,f12,f13,f14,f15,fits,d17,hq5,show plI [] = [] from rfl,decide_true,show decide (((192:Nat):Int) = 192) = true from rfl,show decide (((0:Nat):Int) = 0) = true from rfl]
            intros
            exact outK_sub hsub5 ⟨rfl,rfl⟩
      · have hnl:n ∈ l:=(hso.2 n).2 (memB_iff.1 hmb)
        rw [CheckS_wide_free hzero l64 r64 false g hgf (row_asks2 hyes) hmb]
        rw [show plI [] = [] from rfl]
        simp -implicitDefEqProofs -dsimp only [go_sem,↓reduceIte,zE,zB,zA,zM,zS,zL,reduceCtorEq,fits]
        have hll:l.length ≤ 281474976710656:=by
          have h1:=sorted_len hso.1 (fun x hx => (hso.2 x).1 hx)
          have h2:=frF_le g
          omega
        refine LoopC.ctr l.length (fun k fr st' ds => n ∉ l.take k ∧ fr 0 = .iv (.raw (.int .u8 ca)) ∧ fr 5 = .box [.raw (.int .u8 rule),.sl tl xl,.sl tr xr,.raw (.int .u8 op),.raw (.string fn),.sl ta xa,.sl tb xb,.raw (.bool v),.raw (.string un),.sl tu xu,.raw (.string n),.sl ts xs] ∧
          fr 12 = .iv (.sl tg5 []) ∧ fr 13 = .iv (.raw (.int .i64 (193))) ∧ fr 14 = .iv (.sl tgf (strI l)) ∧ fr 15 = .iv (.raw (.int .i64 k)) ∧ st' = st6 ∧ ds = []) ?_ ?_ ?_
        · simp -implicitDefEqProofs -dsimp only [go_sem,↓reduceIte,zE,zB,zA,zM,zS,zL,reduceCtorEq]
          simp
        · rintro k fr st1 _ hlt ⟨hnk,f0,f5,f12,f13,f14,f15,rfl,rfl⟩
          obtain ⟨a,ha⟩:=get_of_lt hlt
          by_cases han:a = n
          · have hne:decide (a = n) = true:=decide_eq_true han
            simp -implicitDefEqProofs -dsimp only [go_sem,↓reduceIte,zE,zB,zA,zM,zS,zL,reduceCtorEq,f0,f5,f12,f13,f14,f15,fits,strI_length,lt_i hlt,reTag_es htgf,Int.natCast_nonneg,strI_get ha,hne,decide_true,show decide (((0:Nat):Int) = 0) = true from rfl]
            intros
            exact outK_sub hsub5 ⟨rfl,rfl⟩
          · have hne:decide (a = n) = false:=decide_eq_false han
            simp -implicitDefEqProofs -dsimp only [go_sem,↓reduceIte,zE,zB,zA,zM,zS,zL,reduceCtorEq,f0,f5,f12,f13,f14,f15,fits,strI_length,lt_i hlt,reTag_es htgf,Int.natCast_nonneg,strI_get ha,hne,w_succ hlt hll]
            intros
            rw [take_get ha]
            simp [hnk,Ne.symm han]
        · rintro fr st1 _ ⟨hnk,f0,f5,f12,f13,f14,f15,rfl,rfl⟩
          rw [List.take_length] at hnk
          exact absurd hnl hnk
  · by_cases hca:ca = 2
    · have d4:decide (((ca:Nat):Int) = 2) = true:=decide_eq_true (by omega)
      simp -implicitDefEqProofs -dsimp only [go_sem,↓reduceIte,zE,zB,zA,zM,zS,zL,reduceCtorEq,fits,inOrder_one,d4]
      refine appV_ownD ho1 hlen1 hs3 rfl (by simp [fits,IV.one]) (by simp only; omega) (by omega) fun tg4 st4 ho4 hsub5 _ _ => ?_
      simp -implicitDefEqProofs -dsimp only [go_sem,↓reduceIte,zE,zB,zA,zM,zS,zL,reduceCtorEq,fits]
      have hxw:IsTr (.mk rule (addSq ca true s g) m u n sub) (.agg [.raw (.int .u8 rule),.sl tg4 (y1 ++ [.agg [.raw (.int .u8 o9),.raw (.string n9),.sl t9 x9,.sl t8 x8]]),.sl c2 y2,.raw (.int .u8 op),.raw (.string fn),.sl ta xa,.sl tb xb,.raw (.bool v),.raw (.string un),.sl tu xu,.raw (.string n),.sl ts xs]):=by
        have:addSq ca true s g = ⟨s.l ++ [g],s.r⟩:=by simp [addSq,hca]
        rw [this]
        simp only [IsTr]
        exact ⟨_,_,_,_,_,_,_,_,_,_,_,_,_,_,_,_,rfl,hru,ho4.es,hy1.1.append (IsFms.one hg0),ho2.es,hy2.1,hy,hz,e3,i3⟩
      have hCw:=fun st => Check_c gl G T ca _ _ hxw (NA_fit (hNAw true) (by show 1 + stepsTrs sub ≤ _; simp only [Tr.steps] at hst; omega)) st
      -- what the check says of the wider tree
      refine (hCw _).mono ?_
      rintro _ st5 ⟨⟨tg5,rfl,htg5⟩,rfl⟩
      simp -implicitDefEqProofs -dsimp only [go_sem,↓reduceIte,zE,zB,zA,zM,zS,zL,reduceCtorEq,fits,inOrder_one]
      refine (q_fs gl _ _ _).mono ?_
      rintro _ st5 ⟨rfl,rfl⟩
      simp -implicitDefEqProofs -dsimp only [go_sem,↓reduceIte,zE,zB,zA,zM,zS,zL,reduceCtorEq,fits]
      refine (q_sq gl _ _ _ _ _).mono ?_
      rintro _ st5 ⟨rfl,rfl⟩
      simp -implicitDefEqProofs -dsimp only [go_sem,↓reduceIte,zE,zB,zA,zM,zS,zL,reduceCtorEq,fits]
      refine (hVf _).mono ?_
      rintro _ st5 ⟨rfl,rfl⟩
      cases hgf:fmB ca g
      · rw [CheckS_wide_bad hzero l64 r64 true g hgf]
        simp -implicitDefEqProofs -dsimp only [go_sem,↓reduceIte,zE,zB,zA,zM,zS,zL,reduceCtorEq,fits,show plI [] = [] from rfl,decide_true,show decide (((190:Nat):Int) = 190) = true from rfl,show decide (((0:Nat):Int) = 0) = true from rfl]
        intros
        exact outK_sub hsub5 ⟨rfl,rfl⟩
      have hq5:∀ h:memB (frF g) n = false ∨ ¬ (rule = 14 ∨ rule = 15),decide ((((CheckS ca (.mk rule (addSq ca true s g) m u n sub)).2:Nat):Int) = 0) = true:=fun h => by
        have:=CheckS_wide hzero l64 r64 true g hgf (fun r hr h2 => h.resolve_right fun h3 => h3 (row_asks14 hr h2))
        exact decide_eq_true (by omega)
      have hgr:=fmB_right' hgf
      have hFree:=fun st => Free_c gl T g _ hg0 (by omega) (fun q hq => by have:=nm_size (frF_ok g (right_ok hgr).1 q hq); omega) st
      have d14:decide (((rule:Nat):Int) = 14) = decide (rule = 14):=by rw [decide_eq_decide]; omega
      have d15:decide (((rule:Nat):Int) = 15) = decide (rule = 15):=by rw [decide_eq_decide]; omega
      cases q14:decide (rule = 14)
      · cases q15:decide (rule = 15)
        · rw [q14] at d14
          rw [q15] at d15
          have hno:¬ (rule = 14 ∨ rule = 15):=fun h => h.elim (of_decide_eq_false q14) (of_decide_eq_false q15)
          have hq5:=hq5 (.inr hno)
          simp -implicitDefEqProofs -dsimp only [go_sem,↓reduceIte,zE,zB,zA,zM,zS,zL,reduceCtorEq,fits,d14,d15]
          refine (hCb _).mono ?_
          rintro _ st7 ⟨⟨tg7,rfl,htg7⟩,rfl⟩
          by_cases hr17:rule = 17
          · have d17:decide (((rule:Nat):Int) = 17) = true:=decide_eq_true (by omega)
            simp -implicitDefEqProofs -dsimp only [go_sem,↓reduceIte,zE,zB,zA,zM,zS,zL,reduceCtorEq,fits,fits,d17,hq5]
            exact outK_sub hsub5 ⟨rfl,rfl⟩
          · have d17:decide (((rule:Nat):Int) = 17) = false:=decide_eq_false (by omega)
            rw [CheckS_bare hzero (row_side hr17)]
            simp -implicitDefEqProofs -dsimp only [go_sem,↓reduceIte,zE,zB,zA,zM,zS,zL,reduceCtorEq,fits,fits,d17,hq5,show plI [] = [] from rfl,decide_true,show decide (((192:Nat):Int) = 192) = true from rfl,show decide (((0:Nat):Int) = 0) = true from rfl]
            intros
            exact outK_sub hsub5 ⟨rfl,rfl⟩
        · rw [q14] at d14
          rw [q15] at d15
          have hyes:rule = 14 ∨ rule = 15:=.inr (of_decide_eq_true q15)
          simp -implicitDefEqProofs -dsimp only [go_sem,↓reduceIte,zE,zB,zA,zM,zS,zL,reduceCtorEq,fits,d14,d15]
          refine (hFree _).mono ?_
          rintro _ st6 ⟨tgf,l,rfl,htgf,hso,rfl⟩
          cases hmb:memB (frF g) n
          · have hq5:=hq5 (.inl hmb)
            have hnl:n ∉ l:=fun h => by
              have:=memB_iff.2 ((hso.2 n).1 h)
              rw [hmb] at this; cases this
            generalize CheckS ca (.mk rule (addSq ca true s g) m u n sub) = q at hq5
            simp -implicitDefEqProofs -dsimp only [go_sem,↓reduceIte,zE,zB,zA,zM,zS,zL,reduceCtorEq,fits]
            have hll:l.length ≤ 281474976710656:=by
              have h1:=sorted_len hso.1 (fun x hx => (hso.2 x).1 hx)
              have h2:=frF_le g
              omega
            refine LoopC.ctr l.length (fun k fr st' ds => n ∉ l.take k ∧ fr 0 = .iv (.raw (.int .u8 ca)) ∧ fr 5 = .box [.raw (.int .u8 rule),.sl tl xl,.sl tr xr,.raw (.int .u8 op),.raw (.string fn),.sl ta xa,.sl tb xb,.raw (.bool v),.raw (.string un),.sl tu xu,.raw (.string n),.sl ts xs] ∧
              fr 12 = .iv (.sl tg5 (plI q.1)) ∧ fr 13 = .iv (.raw (.int .i64 (((q.2:Nat):Int)))) ∧ fr 14 = .iv (.sl tgf (strI l)) ∧ fr 15 = .iv (.raw (.int .i64 k)) ∧ st' = st6 ∧ ds = []) ?_ ?_ ?_
            · simp -implicitDefEqProofs -dsimp only [go_sem,↓reduceIte,zE,zB,zA,zM,zS,zL,reduceCtorEq]
              simp
            · rintro k fr st1 _ hlt ⟨hnk,f0,f5,f12,f13,f14,f15,rfl,rfl⟩
              obtain ⟨a,ha⟩:=get_of_lt hlt
              have hne:decide (a = n) = false:=decide_eq_false fun h => hnl (h ▸ List.mem_of_getElem? ha)
              simp -implicitDefEqProofs -dsimp only [go_sem,↓reduceIte,zE,zB,zA,zM,zS,zL,reduceCtorEq,f0,f5,f12,f13,f14,f15,fits,strI_length,lt_i hlt,reTag_es htgf,Int.natCast_nonneg,strI_get ha,hne,w_succ hlt hll]
              intros
              exact fun h => hnl (List.mem_of_mem_take h)
            · rintro fr st1 _ ⟨hnk,f0,f5,f12,f13,f14,f15,rfl,rfl⟩
              simp -implicitDefEqProofs -dsimp only [go_sem,↓reduceIte,zE,zB,zA,zM,zS,zL,reduceCtorEq,f0,f5,f12,f13,f14,f15,fits,strI_length,nlt_i (Nat.lt_irrefl _)]
              intros
              refine (hCb _).mono ?_
              rintro _ st7 ⟨⟨tg7,rfl,htg7⟩,rfl⟩
              by_cases hr17:rule = 17
              · have d17:decide (((rule:Nat):Int) = 17) = true:=decide_eq_true (by omega)
                simp -implicitDefEqProofs -dsimp only [go_sem,↓reduceIte,zE,zB,zA,zM,zS,zL,reduceCtorEq,f0,f5,f12,f13,f14,f15,fits,d17,hq5]
                exact outK_sub hsub5 ⟨rfl,rfl⟩
              · have d17:decide (((rule:Nat):Int) = 17) = false:=decide_eq_false (by omega)
                rw [CheckS_bare hzero (row_side hr17)]
                simp -implicitDefEqProofs -dsimp only [go_sem,↓reduceIte,zE,zB,zA,zM,zS,zL,reduceCtorEq,f0,f5,f12,f13,f14,f15,fits,d17,hq5,show plI [] = [] from rfl,decide_true,show decide (((192:Nat):Int) = 192) = true from rfl,show decide (((0:Nat):Int) = 0) = true from rfl]
                intros
                exact outK_sub hsub5 ⟨rfl,rfl⟩
          · have hnl:n ∈ l:=(hso.2 n).2 (memB_iff.1 hmb)
            rw [CheckS_wide_free hzero l64 r64 true g hgf (row_asks2 hyes) hmb]
            rw [show plI [] = [] from rfl]
            simp -implicitDefEqProofs -dsimp only [go_sem,↓reduceIte,zE,zB,zA,zM,zS,zL,reduceCtorEq,fits]
            have hll:l.length ≤ 281474976710656:=by
              have h1:=sorted_len hso.1 (fun x hx => (hso.2 x).1 hx)
              have h2:=frF_le g
              omega
            refine LoopC.ctr l.length (fun k fr st' ds => n ∉ l.take k ∧ fr 0 = .iv (.raw (.int .u8 ca)) ∧ fr 5 = .box [.raw (.int .u8 rule),.sl tl xl,.sl tr xr,.raw (.int .u8 op),.raw (.string fn),.sl ta xa,.sl tb xb,.raw (.bool v),.raw (.string un),.sl tu xu,.raw (.string n),.sl ts xs] ∧
              fr 12 = .iv (.sl tg5 []) ∧ fr 13 = .iv (.raw (.int .i64 (193))) ∧ fr 14 = .iv (.sl tgf (strI l)) ∧ fr 15 = .iv (.raw (.int .i64 k)) ∧ st' = st6 ∧ ds = []) ?_ ?_ ?_
            · simp -implicitDefEqProofs -dsimp only [go_sem,↓reduceIte,zE,zB,zA,zM,zS,zL,reduceCtorEq]
              simp
            · rintro k fr st1 _ hlt ⟨hnk,f0,f5,f12,f13,f14,f15,rfl,rfl⟩
              obtain ⟨a,ha⟩:=get_of_lt hlt
              by_cases han:a = n
              · have hne:decide (a = n) = true:=decide_eq_true han
                simp -implicitDefEqProofs -dsimp only [go_sem,↓reduceIte,zE,zB,zA,zM,zS,zL,reduceCtorEq,f0,f5,f12,f13,f14,f15,fits,strI_length,lt_i hlt,reTag_es htgf,Int.natCast_nonneg,strI_get ha,hne,decide_true,show decide (((0:Nat):Int) = 0) = true from rfl]
                intros
                exact outK_sub hsub5 ⟨rfl,rfl⟩
              · have hne:decide (a = n) = false:=decide_eq_false han
                simp -implicitDefEqProofs -dsimp only [go_sem,↓reduceIte,zE,zB,zA,zM,zS,zL,reduceCtorEq,f0,f5,f12,f13,f14,f15,fits,strI_length,lt_i hlt,reTag_es htgf,Int.natCast_nonneg,strI_get ha,hne,w_succ hlt hll]
                intros
                rw [take_get ha]
                simp [hnk,Ne.symm han]
            · rintro fr st1 _ ⟨hnk,f0,f5,f12,f13,f14,f15,rfl,rfl⟩
              rw [List.take_length] at hnk
              exact absurd hnl hnk
      · rw [q14] at d14
        have hyes:rule = 14 ∨ rule = 15:=.inl (of_decide_eq_true q14)
        simp -implicitDefEqProofs -dsimp only [go_sem,↓reduceIte,zE,zB,zA,zM,zS,zL,reduceCtorEq,fits,d14,d15]
        refine (hFree _).mono ?_
        rintro _ st6 ⟨tgf,l,rfl,htgf,hso,rfl⟩
        cases hmb:memB (frF g) n
        · have hq5:=hq5 (.inl hmb)
          have hnl:n ∉ l:=fun h => by
            have:=memB_iff.2 ((hso.2 n).1 h)
            rw [hmb] at this; cases this
          generalize CheckS ca (.mk rule (addSq ca true s g) m u n sub) = q at hq5
          simp -implicitDefEqProofs -dsimp only [go_sem,↓reduceIte,zE,zB,zA,zM,zS,zL,reduceCtorEq,fits]
          have hll:l.length ≤ 281474976710656:=by
            have h1:=sorted_len hso.1 (fun x hx => (hso.2 x).1 hx)
            have h2:=frF_le g
            omega
          refine LoopC.ctr l.length (fun k fr st' ds => n ∉ l.take k ∧ fr 0 = .iv (.raw (.int .u8 ca)) ∧ fr 5 = .box [.raw (.int .u8 rule),.sl tl xl,.sl tr xr,.raw (.int .u8 op),.raw (.string fn),.sl ta xa,.sl tb xb,.raw (.bool v),.raw (.string un),.sl tu xu,.raw (.string n),.sl ts xs] ∧
            fr 12 = .iv (.sl tg5 (plI q.1)) ∧ fr 13 = .iv (.raw (.int .i64 (((q.2:Nat):Int)))) ∧ fr 14 = .iv (.sl tgf (strI l)) ∧ fr 15 = .iv (.raw (.int .i64 k)) ∧ st' = st6 ∧ ds = []) ?_ ?_ ?_
          · simp -implicitDefEqProofs -dsimp only [go_sem,↓reduceIte,zE,zB,zA,zM,zS,zL,reduceCtorEq]
            simp
          · rintro k fr st1 _ hlt ⟨hnk,f0,f5,f12,f13,f14,f15,rfl,rfl⟩
            obtain ⟨a,ha⟩:=get_of_lt hlt
            have hne:decide (a = n) = false:=decide_eq_false fun h => hnl (h ▸ List.mem_of_getElem? ha)
            simp -implicitDefEqProofs -dsimp only [go_sem,↓reduceIte,zE,zB,zA,zM,zS,zL,reduceCtorEq,f0,f5,f12,f13,f14,f15,fits,strI_length,lt_i hlt,reTag_es htgf,Int.natCast_nonneg,strI_get ha,hne,w_succ hlt hll]
            intros
            exact fun h => hnl (List.mem_of_mem_take h)
          · rintro fr st1 _ ⟨hnk,f0,f5,f12,f13,f14,f15,rfl,rfl⟩
            simp -implicitDefEqProofs -dsimp only [go_sem,↓reduceIte,zE,zB,zA,zM,zS,zL,reduceCtorEq,f0,f5,f12,f13,f14,f15,fits,strI_length,nlt_i (Nat.lt_irrefl _)]
            intros
            refine (hCb _).mono ?_
            rintro _ st7 ⟨⟨tg7,rfl,htg7⟩,rfl⟩
            by_cases hr17:rule = 17
            · have d17:decide (((rule:Nat):Int) = 17) = true:=decide_eq_true (by omega)
              simp -implicitDefEqProofs -dsimp only [go_sem,↓reduceIte,zE,zB,zA,zM,zS,zL,reduceCtorEq,f0,f5,f12,f13,f14,f15,fits,d17,hq5]
              exact outK_sub hsub5 ⟨rfl,rfl⟩
            · have d17:decide (((rule:Nat):Int) = 17) = false:=decide_eq_false (by omega)
              rw [CheckS_bare hzero (row_side hr17)]
              simp -implicitDefEqProofs -dsimp only [go_sem,↓reduceIte,zE,zB,zA,zM,zS,zL,reduceCtorEq,f0,f5,f12,f13,f14,f15,fits,d17,hq5,show plI [] = [] from rfl,decide_true,show decide (((192:Nat):Int) = 192) = true from rfl,show decide (((0:Nat):Int) = 0) = true from rfl]
              intros
              exact outK_sub hsub5 ⟨rfl,rfl⟩
        · have hnl:n ∈ l:=(hso.2 n).2 (memB_iff.1 hmb)
          rw [CheckS_wide_free hzero l64 r64 true g hgf (row_asks2 hyes) hmb]
          rw [show plI [] = [] from rfl]
          simp -implicitDefEqProofs -dsimp only [go_sem,↓reduceIte,zE,zB,zA,zM,zS,zL,reduceCtorEq,fits]
          have hll:l.length ≤ 281474976710656:=by
            have h1:=sorted_len hso.1 (fun x hx => (hso.2 x).1 hx)
            have h2:=frF_le g
            omega
          refine LoopC.ctr l.length (fun k fr st' ds => n ∉ l.take k ∧ fr 0 = .iv (.raw (.int .u8 ca)) ∧ fr 5 = .box [.raw (.int .u8 rule),.sl tl xl,.sl tr xr,.raw (.int .u8 op),.raw (.string fn),.sl ta xa,.sl tb xb,.raw (.bool v),.raw (.string un),.sl tu xu,.raw (.string n),.sl ts xs] ∧
            fr 12 = .iv (.sl tg5 []) ∧ fr 13 = .iv (.raw (.int .i64 (193))) ∧ fr 14 = .iv (.sl tgf (strI l)) ∧ fr 15 = .iv (.raw (.int .i64 k)) ∧ st' = st6 ∧ ds = []) ?_ ?_ ?_
          · simp -implicitDefEqProofs -dsimp only [go_sem,↓reduceIte,zE,zB,zA,zM,zS,zL,reduceCtorEq]
            simp
          · rintro k fr st1 _ hlt ⟨hnk,f0,f5,f12,f13,f14,f15,rfl,rfl⟩
            obtain ⟨a,ha⟩:=get_of_lt hlt
            by_cases han:a = n
            · have hne:decide (a = n) = true:=decide_eq_true han
              simp -implicitDefEqProofs -dsimp only [go_sem,↓reduceIte,zE,zB,zA,zM,zS,zL,reduceCtorEq,f0,f5,f12,f13,f14,f15,fits,strI_length,lt_i hlt,reTag_es htgf,Int.natCast_nonneg,strI_get ha,hne,decide_true,show decide (((0:Nat):Int) = 0) = true from rfl]
              intros
              exact outK_sub hsub5 ⟨rfl,rfl⟩
            · have hne:decide (a = n) = false:=decide_eq_false han
              simp -implicitDefEqProofs -dsimp only [go_sem,↓reduceIte,zE,zB,zA,zM,zS,zL,reduceCtorEq,f0,f5,f12,f13,f14,f15,fits,strI_length,lt_i hlt,reTag_es htgf,Int.natCast_nonneg,strI_get ha,hne,w_succ hlt hll]
              intros
              rw [take_get ha]
              simp [hnk,Ne.symm han]
          · rintro fr st1 _ ⟨hnk,f0,f5,f12,f13,f14,f15,rfl,rfl⟩
            rw [List.take_length] at hnk
            exact absurd hnl hnk
    · have d4:decide (((ca:Nat):Int) = 2) = false:=decide_eq_false (by omega)
      simp -implicitDefEqProofs -dsimp only [go_sem,↓reduceIte,zE,zB,zA,zM,zS,zL,reduceCtorEq,fits,inOrder_one,d4]
      refine appV_ownD ho2 hlen2 hs3 rfl (by simp [fits,IV.one]) (by simp only; omega) (by omega) fun tg4 st4 ho4 hsub5 _ _ => ?_
      simp -implicitDefEqProofs -dsimp only [go_sem,↓reduceIte,zE,zB,zA,zM,zS,zL,reduceCtorEq,fits]
      have hxw:IsTr (.mk rule (addSq ca true s g) m u n sub) (.agg [.raw (.int .u8 rule),.sl c1 y1,.sl tg4 (y2 ++ [.agg [.raw (.int .u8 o9),.raw (.string n9),.sl t9 x9,.sl t8 x8]]),.raw (.int .u8 op),.raw (.string fn),.sl ta xa,.sl tb xb,.raw (.bool v),.raw (.string un),.sl tu xu,.raw (.string n),.sl ts xs]):=by
        have:addSq ca true s g = ⟨s.l,s.r ++ [g]⟩:=by simp [addSq,hca]
        rw [this]
        simp only [IsTr]
        exact ⟨_,_,_,_,_,_,_,_,_,_,_,_,_,_,_,_,rfl,hru,ho1.es,hy1.1,ho4.es,hy2.1.append (IsFms.one hg0),hy,hz,e3,i3⟩
      have hCw:=fun st => Check_c gl G T ca _ _ hxw (NA_fit (hNAw true) (by show 1 + stepsTrs sub ≤ _; simp only [Tr.steps] at hst; omega)) st
      -- what the check says of the wider tree
      refine (hCw _).mono ?_
      rintro _ st5 ⟨⟨tg5,rfl,htg5⟩,rfl⟩
      simp -implicitDefEqProofs -dsimp only [go_sem,↓reduceIte,zE,zB,zA,zM,zS,zL,reduceCtorEq,fits,inOrder_one]
      refine (q_fs gl _ _ _).mono ?_
      rintro _ st5 ⟨rfl,rfl⟩
      simp -implicitDefEqProofs -dsimp only [go_sem,↓reduceIte,zE,zB,zA,zM,zS,zL,reduceCtorEq,fits]
      refine (q_sq gl _ _ _ _ _).mono ?_
      rintro _ st5 ⟨rfl,rfl⟩
      simp -implicitDefEqProofs -dsimp only [go_sem,↓reduceIte,zE,zB,zA,zM,zS,zL,reduceCtorEq,fits]
      refine (hVf _).mono ?_
      rintro _ st5 ⟨rfl,rfl⟩
      cases hgf:fmB ca g
      · rw [CheckS_wide_bad hzero l64 r64 true g hgf]
        simp -implicitDefEqProofs -dsimp only [go_sem,↓reduceIte,zE,zB,zA,zM,zS,zL,reduceCtorEq,fits,show plI [] = [] from rfl,decide_true,show decide (((190:Nat):Int) = 190) = true from rfl,show decide (((0:Nat):Int) = 0) = true from rfl]
        intros
        exact outK_sub hsub5 ⟨rfl,rfl⟩
      have hq5:∀ h:memB (frF g) n = false ∨ ¬ (rule = 14 ∨ rule = 15),decide ((((CheckS ca (.mk rule (addSq ca true s g) m u n sub)).2:Nat):Int) = 0) = true:=fun h => by
        have:=CheckS_wide hzero l64 r64 true g hgf (fun r hr h2 => h.resolve_right fun h3 => h3 (row_asks14 hr h2))
        exact decide_eq_true (by omega)
      have hgr:=fmB_right' hgf
      have hFree:=fun st => Free_c gl T g _ hg0 (by omega) (fun q hq => by have:=nm_size (frF_ok g (right_ok hgr).1 q hq); omega) st
      have d14:decide (((rule:Nat):Int) = 14) = decide (rule = 14):=by rw [decide_eq_decide]; omega
      have d15:decide (((rule:Nat):Int) = 15) = decide (rule = 15):=by rw [decide_eq_decide]; omega
      cases q14:decide (rule = 14)
      · cases q15:decide (rule = 15)
        · rw [q14] at d14
          rw [q15] at d15
          have hno:¬ (rule = 14 ∨ rule = 15):=fun h => h.elim (of_decide_eq_false q14) (of_decide_eq_false q15)
          have hq5:=hq5 (.inr hno)
          simp -implicitDefEqProofs -dsimp only [go_sem,↓reduceIte,zE,zB,zA,zM,zS,zL,reduceCtorEq,fits,d14,d15]
          refine (hCb _).mono ?_
          rintro _ st7 ⟨⟨tg7,rfl,htg7⟩,rfl⟩
          by_cases hr17:rule = 17
          · have d17:decide (((rule:Nat):Int) = 17) = true:=decide_eq_true (by omega)
            simp -implicitDefEqProofs -dsimp only [go_sem,↓reduceIte,zE,zB,zA,zM,zS,zL,reduceCtorEq,fits,fits,d17,hq5]
            exact outK_sub hsub5 ⟨rfl,rfl⟩
          · have d17:decide (((rule:Nat):Int) = 17) = false:=decide_eq_false (by omega)
            rw [CheckS_bare hzero (row_side hr17)]
            simp -implicitDefEqProofs -dsimp only [go_sem,↓reduceIte,zE,zB,zA,zM,zS,zL,reduceCtorEq,fits,fits,d17,hq5,show plI [] = [] from rfl,decide_true,show decide (((192:Nat):Int) = 192) = true from rfl,show decide (((0:Nat):Int) = 0) = true from rfl]
            intros
            exact outK_sub hsub5 ⟨rfl,rfl⟩
        · rw [q14] at d14
          rw [q15] at d15
          have hyes:rule = 14 ∨ rule = 15:=.inr (of_decide_eq_true q15)
          simp -implicitDefEqProofs -dsimp only [go_sem,↓reduceIte,zE,zB,zA,zM,zS,zL,reduceCtorEq,fits,d14,d15]
          refine (hFree _).mono ?_
          rintro _ st6 ⟨tgf,l,rfl,htgf,hso,rfl⟩
          cases hmb:memB (frF g) n
          · have hq5:=hq5 (.inl hmb)
            have hnl:n ∉ l:=fun h => by
              have:=memB_iff.2 ((hso.2 n).1 h)
              rw [hmb] at this; cases this
            generalize CheckS ca (.mk rule (addSq ca true s g) m u n sub) = q at hq5
            simp -implicitDefEqProofs -dsimp only [go_sem,↓reduceIte,zE,zB,zA,zM,zS,zL,reduceCtorEq,fits]
            have hll:l.length ≤ 281474976710656:=by
              have h1:=sorted_len hso.1 (fun x hx => (hso.2 x).1 hx)
              have h2:=frF_le g
              omega
            refine LoopC.ctr l.length (fun k fr st' ds => n ∉ l.take k ∧ fr 0 = .iv (.raw (.int .u8 ca)) ∧ fr 5 = .box [.raw (.int .u8 rule),.sl tl xl,.sl tr xr,.raw (.int .u8 op),.raw (.string fn),.sl ta xa,.sl tb xb,.raw (.bool v),.raw (.string un),.sl tu xu,.raw (.string n),.sl ts xs] ∧
              fr 12 = .iv (.sl tg5 (plI q.1)) ∧ fr 13 = .iv (.raw (.int .i64 (((q.2:Nat):Int)))) ∧ fr 14 = .iv (.sl tgf (strI l)) ∧ fr 15 = .iv (.raw (.int .i64 k)) ∧ st' = st6 ∧ ds = []) ?_ ?_ ?_
            · simp -implicitDefEqProofs -dsimp only [go_sem,↓reduceIte,zE,zB,zA,zM,zS,zL,reduceCtorEq]
              simp
            · rintro k fr st1 _ hlt ⟨hnk,f0,f5,f12,f13,f14,f15,rfl,rfl⟩
              obtain ⟨a,ha⟩:=get_of_lt hlt
              have hne:decide (a = n) = false:=decide_eq_false fun h => hnl (h ▸ List.mem_of_getElem? ha)
              simp -implicitDefEqProofs -dsimp only [go_sem,↓reduceIte,zE,zB,zA,zM,zS,zL,reduceCtorEq,f0,f5,f12,f13,f14,f15,fits,strI_length,lt_i hlt,reTag_es htgf,Int.natCast_nonneg,strI_get ha,hne,w_succ hlt hll]
              intros
              exact fun h => hnl (List.mem_of_mem_take h)
            · rintro fr st1 _ ⟨hnk,f0,f5,f12,f13,f14,f15,rfl,rfl⟩
              simp -implicitDefEqProofs -dsimp only [go_sem,↓reduceIte,zE,zB,zA,zM,zS,zL,reduceCtorEq,f0,f5,f12,f13,f14,f15,fits,strI_length,nlt_i (Nat.lt_irrefl _)]
              intros
              refine (hCb _).mono ?_
              rintro _ st7 ⟨⟨tg7,rfl,htg7⟩,rfl⟩
              by_cases hr17:rule = 17
              · have d17:decide (((rule:Nat):Int) = 17) = true:=decide_eq_true (by omega)
                simp -implicitDefEqProofs -dsimp only [go_sem,↓reduceIte,zE,zB,zA,zM,zS,zL,reduceCtorEq,f0,f5,f12,f13,f14,f15,fits,d17,hq5]
                exact outK_sub hsub5 ⟨rfl,rfl⟩
              · have d17:decide (((rule:Nat):Int) = 17) = false:=decide_eq_false (by omega)
                rw [CheckS_bare hzero (row_side hr17)]
                simp -implicitDefEqProofs -dsimp only [go_sem,↓reduceIte,zE,zB,zA,zM,zS,zL,reduceCtorEq,f0,f5,f12,f13,f14,f15,fits,d17,hq5,show plI [] = [] from rfl,decide_true,show decide (((192:Nat):Int) = 192) = true from rfl,show decide (((0:Nat):Int) = 0) = true from rfl]
                intros
                exact outK_sub hsub5 ⟨rfl,rfl⟩
          · have hnl:n ∈ l:=(hso.2 n).2 (memB_iff.1 hmb)
            rw [CheckS_wide_free hzero l64 r64 true g hgf (row_asks2 hyes) hmb]
            rw [show plI [] = [] from rfl]
            simp -implicitDefEqProofs -dsimp only [go_sem,↓reduceIte,zE,zB,zA,zM,zS,zL,reduceCtorEq,fits]
            have hll:l.length ≤ 281474976710656:=by
              have h1:=sorted_len hso.1 (fun x hx => (hso.2 x).1 hx)
              have h2:=frF_le g
              omega
            refine LoopC.ctr l.length (fun k fr st' ds => n ∉ l.take k ∧ fr 0 = .iv (.raw (.int .u8 ca)) ∧ fr 5 = .box [.raw (.int .u8 rule),.sl tl xl,.sl tr xr,.raw (.int .u8 op),.raw (.string fn),.sl ta xa,.sl tb xb,.raw (.bool v),.raw (.string un),.sl tu xu,.raw (.string n),.sl ts xs] ∧
              fr 12 = .iv (.sl tg5 []) ∧ fr 13 = .iv (.raw (.int .i64 (193))) ∧ fr 14 = .iv (.sl tgf (strI l)) ∧ fr 15 = .iv (.raw (.int .i64 k)) ∧ st' = st6 ∧ ds = []) ?_ ?_ ?_
            · simp -implicitDefEqProofs -dsimp only [go_sem,↓reduceIte,zE,zB,zA,zM,zS,zL,reduceCtorEq]
              simp
            · rintro k fr st1 _ hlt ⟨hnk,f0,f5,f12,f13,f14,f15,rfl,rfl⟩
              obtain ⟨a,ha⟩:=get_of_lt hlt
              by_cases han:a = n
              · have hne:decide (a = n) = true:=decide_eq_true han
                simp -implicitDefEqProofs -dsimp only [go_sem,↓reduceIte,zE,zB,zA,zM,zS,zL,reduceCtorEq,f0,f5,f12,f13,f14,f15,fits,strI_length,lt_i hlt,reTag_es htgf,Int.natCast_nonneg,strI_get ha,hne,decide_true,show decide (((0:Nat):Int) = 0) = true from rfl]
                intros
                exact outK_sub hsub5 ⟨rfl,rfl⟩
              · have hne:decide (a = n) = false:=decide_eq_false han
                simp -implicitDefEqProofs -dsimp only [go_sem,↓reduceIte,zE,zB,zA,zM,zS,zL,reduceCtorEq,f0,f5,f12,f13,f14,f15,fits,strI_length,lt_i hlt,reTag_es htgf,Int.natCast_nonneg,strI_get ha,hne,w_succ hlt hll]
                intros
                rw [take_get ha]
                simp [hnk,Ne.symm han]
            · rintro fr st1 _ ⟨hnk,f0,f5,f12,f13,f14,f15,rfl,rfl⟩
              rw [List.take_length] at hnk
              exact absurd hnl hnk
      · rw [q14] at d14
        have hyes:rule = 14 ∨ rule = 15:=.inl (of_decide_eq_true q14)
        simp -implicitDefEqProofs -dsimp only [go_sem,↓reduceIte,zE,zB,zA,zM,zS,zL,reduceCtorEq,fits,d14,d15]
        refine (hFree _).mono ?_
        rintro _ st6 ⟨tgf,l,rfl,htgf,hso,rfl⟩
        cases hmb:memB (frF g) n
        · have hq5:=hq5 (.inl hmb)
          have hnl:n ∉ l:=fun h => by
            have:=memB_iff.2 ((hso.2 n).1 h)
            rw [hmb] at this; cases this
          generalize CheckS ca (.mk rule (addSq ca true s g) m u n sub) = q at hq5
          simp -implicitDefEqProofs -dsimp only [go_sem,↓reduceIte,zE,zB,zA,zM,zS,zL,reduceCtorEq,fits]
          have hll:l.length ≤ 281474976710656:=by
            have h1:=sorted_len hso.1 (fun x hx => (hso.2 x).1 hx)
            have h2:=frF_le g
            omega
          refine LoopC.ctr l.length (fun k fr st' ds => n ∉ l.take k ∧ fr 0 = .iv (.raw (.int .u8 ca)) ∧ fr 5 = .box [.raw (.int .u8 rule),.sl tl xl,.sl tr xr,.raw (.int .u8 op),.raw (.string fn),.sl ta xa,.sl tb xb,.raw (.bool v),.raw (.string un),.sl tu xu,.raw (.string n),.sl ts xs] ∧
            fr 12 = .iv (.sl tg5 (plI q.1)) ∧ fr 13 = .iv (.raw (.int .i64 (((q.2:Nat):Int)))) ∧ fr 14 = .iv (.sl tgf (strI l)) ∧ fr 15 = .iv (.raw (.int .i64 k)) ∧ st' = st6 ∧ ds = []) ?_ ?_ ?_
          · simp -implicitDefEqProofs -dsimp only [go_sem,↓reduceIte,zE,zB,zA,zM,zS,zL,reduceCtorEq]
            simp
          · rintro k fr st1 _ hlt ⟨hnk,f0,f5,f12,f13,f14,f15,rfl,rfl⟩
            obtain ⟨a,ha⟩:=get_of_lt hlt
            have hne:decide (a = n) = false:=decide_eq_false fun h => hnl (h ▸ List.mem_of_getElem? ha)
            simp -implicitDefEqProofs -dsimp only [go_sem,↓reduceIte,zE,zB,zA,zM,zS,zL,reduceCtorEq,f0,f5,f12,f13,f14,f15,fits,strI_length,lt_i hlt,reTag_es htgf,Int.natCast_nonneg,strI_get ha,hne,w_succ hlt hll]
            intros
            exact fun h => hnl (List.mem_of_mem_take h)
          · rintro fr st1 _ ⟨hnk,f0,f5,f12,f13,f14,f15,rfl,rfl⟩
            simp -implicitDefEqProofs -dsimp only [go_sem,↓reduceIte,zE,zB,zA,zM,zS,zL,reduceCtorEq,f0,f5,f12,f13,f14,f15,fits,strI_length,nlt_i (Nat.lt_irrefl _)]
            intros
            refine (hCb _).mono ?_
            rintro _ st7 ⟨⟨tg7,rfl,htg7⟩,rfl⟩
            by_cases hr17:rule = 17
            · have d17:decide (((rule:Nat):Int) = 17) = true:=decide_eq_true (by omega)
              simp -implicitDefEqProofs -dsimp only [go_sem,↓reduceIte,zE,zB,zA,zM,zS,zL,reduceCtorEq,f0,f5,f12,f13,f14,f15,fits,d17,hq5]
              exact outK_sub hsub5 ⟨rfl,rfl⟩
            · have d17:decide (((rule:Nat):Int) = 17) = false:=decide_eq_false (by omega)
              rw [CheckS_bare hzero (row_side hr17)]
              simp -implicitDefEqProofs -dsimp only [go_sem,↓reduceIte,zE,zB,zA,zM,zS,zL,reduceCtorEq,f0,f5,f12,f13,f14,f15,fits,d17,hq5,show plI [] = [] from rfl,decide_true,show decide (((192:Nat):Int) = 192) = true from rfl,show decide (((0:Nat):Int) = 0) = true from rfl]
              intros
              exact outK_sub hsub5 ⟨rfl,rfl⟩
        · have hnl:n ∈ l:=(hso.2 n).2 (memB_iff.1 hmb)
          rw [CheckS_wide_free hzero l64 r64 true g hgf (row_asks2 hyes) hmb]
          rw [show plI [] = [] from rfl]
          simp -implicitDefEqProofs -dsimp only [go_sem,↓reduceIte,zE,zB,zA,zM,zS,zL,reduceCtorEq,fits]
          have hll:l.length ≤ 281474976710656:=by
            have h1:=sorted_len hso.1 (fun x hx => (hso.2 x).1 hx)
            have h2:=frF_le g
            omega
          refine LoopC.ctr l.length (fun k fr st' ds => n ∉ l.take k ∧ fr 0 = .iv (.raw (.int .u8 ca)) ∧ fr 5 = .box [.raw (.int .u8 rule),.sl tl xl,.sl tr xr,.raw (.int .u8 op),.raw (.string fn),.sl ta xa,.sl tb xb,.raw (.bool v),.raw (.string un),.sl tu xu,.raw (.string n),.sl ts xs] ∧
            fr 12 = .iv (.sl tg5 []) ∧ fr 13 = .iv (.raw (.int .i64 (193))) ∧ fr 14 = .iv (.sl tgf (strI l)) ∧ fr 15 = .iv (.raw (.int .i64 k)) ∧ st' = st6 ∧ ds = []) ?_ ?_ ?_
          · simp -implicitDefEqProofs -dsimp only [go_sem,↓reduceIte,zE,zB,zA,zM,zS,zL,reduceCtorEq]
            simp
          · rintro k fr st1 _ hlt ⟨hnk,f0,f5,f12,f13,f14,f15,rfl,rfl⟩
            obtain ⟨a,ha⟩:=get_of_lt hlt
            by_cases han:a = n
            · have hne:decide (a = n) = true:=decide_eq_true han
              simp -implicitDefEqProofs -dsimp only [go_sem,↓reduceIte,zE,zB,zA,zM,zS,zL,reduceCtorEq,f0,f5,f12,f13,f14,f15,fits,strI_length,lt_i hlt,reTag_es htgf,Int.natCast_nonneg,strI_get ha,hne,decide_true,show decide (((0:Nat):Int) = 0) = true from rfl]
              intros
              exact outK_sub hsub5 ⟨rfl,rfl⟩
            · have hne:decide (a = n) = false:=decide_eq_false han
              simp -implicitDefEqProofs -dsimp only [go_sem,↓reduceIte,zE,zB,zA,zM,zS,zL,reduceCtorEq,f0,f5,f12,f13,f14,f15,fits,strI_length,lt_i hlt,reTag_es htgf,Int.natCast_nonneg,strI_get ha,hne,w_succ hlt hll]
              intros
              rw [take_get ha]
              simp [hnk,Ne.symm han]
          · rintro fr st1 _ ⟨hnk,f0,f5,f12,f13,f14,f15,rfl,rfl⟩
            rw [List.take_length] at hnk
            exact absurd hnl hnk
end Go.Proofs.Tryz

namespace Go.Proofs.Tryz
open Go Go.Iv Go.ChangeShapes
open Go.Proofs.YtckafgnkmnichaaGreatDoor.Rows (uptoBulk uptoBulkAll)
set_option maxRecDepth 4000

theorem uSeq:prog.underlying 24 = some (.struct #[⟨ "Left",22,0,false, "", "",0⟩,⟨ "Right",22,1,false, "", "",24⟩]):=by kernel_rfl
theorem uTree:prog.underlying 32 = some (.struct #[⟨ "Rule",5,0,false, "", "",0⟩,⟨ "Seq",24,1,false, "", "",8⟩,⟨ "Main",27,3,false, "", "",56⟩,⟨ "Term",29,7,false, "", "",128⟩,⟨ "Name",9,10,false, "", "",176⟩,⟨ "Sub",30,11,false, "", "",192⟩]):=by kernel_rfl
theorem uTrees:prog.underlying 30 = some (.slice 32):=by kernel_rfl
theorem nSeq:prog.cellsOf 24 = 2:=by kernel_rfl
theorem nTree:prog.cellsOf 32 = 12:=by kernel_rfl
theorem nTrees:prog.cellsOf 30 = 1:=by kernel_rfl

mutual
theorem wTm_bulk:∀ t:Tm,wTm t ≤ 2 * bulkT t
  | .mk _ n us => by have:=wTms_bulk us; simp only [wTm,bulkT]; omega
theorem wTms_bulk:∀ l:List Tm,wTms l ≤ 2 * bulkTs l
  | [] => Nat.le_refl _
  | a :: l => by have:=wTm_bulk a; have:=wTms_bulk l; simp only [wTms,bulkTs]; omega
end
mutual
theorem wFm_bulk:∀ f:Fm,wFm f ≤ 2 * bulkF f
  | .mk _ n us sub => by have:=wTms_bulk us; have:=wFms_bulk sub; simp only [wFm,bulkF]; omega
theorem wFms_bulk:∀ l:List Fm,wFms l ≤ 2 * bulkFs l
  | [] => Nat.le_refl _
  | a :: l => by have:=wFm_bulk a; have:=wFms_bulk l; simp only [wFms,bulkFs]; omega
end

section
variable {H:Type} {enc:TypeId × Value → H} {w:World} {spare:Nat → Bool} {held:Bool}
def RQ (d:DataW H) (s:Sq) (x:IV):Prop:=IsSq s x ∧ wFms s.l + wFms s.r ≤ 2 * uptoBulk d
theorem seq_of (fuel:Nat) (cs:List Value) (y:DataW H × List MemPlace) (h:DataW.trod enc prog w 0 spare held fuel 24 cs = some y) (hb:uptoBulk y.1 ≤ 1048576):∃ s x,VL 0 (L0 w) w cs x.cells ∧ RQ y.1 s x:=by
  obtain ⟨ys,n,rfl,rfl,hl,hlen,hf⟩:=DataW.trod_struct uSeq h
  match ys,hlen with
  | [y0,y1],_ =>
    rw [nSeq] at hl
    match cs,hl with
    | [c0,c1],_ =>
      have h0:=hf 0 _ rfl
      have h1:=hf 1 _ rfl
      simp only [nForms,List.drop_zero,List.drop_succ_cons,List.take_succ_cons,List.take_zero,List.getElem?_cons_zero,List.getElem?_cons_succ] at h0 h1
      simp only [List.map_cons,List.map_nil,uptoBulk,uptoBulkAll] at hb
      obtain ⟨v0,tg0,xs0,l0,e0,hv0,ht0,hl0,hb0⟩:=forms_of h0 (by omega) (fun m _ => form_of m)
      obtain ⟨v1,tg1,xs1,l1,e1,hv1,ht1,hl1,hb1⟩:=forms_of h1 (by omega) (fun m _ => form_of m)
      cases e0; cases e1
      refine ⟨⟨l0,l1⟩,.agg [.sl tg0 xs0,.sl tg1 xs1],VL.cons hv0 (VL.cons hv1 VL.nil),⟨tg0,xs0,tg1,xs1,rfl,ht0,hl0,ht1,hl1⟩,?_⟩
      have:=wFms_bulk l0
      have:=wFms_bulk l1
      simp only [List.map_cons,List.map_nil,uptoBulk,uptoBulkAll]
      omega
theorem isTrs_get:∀ {us:List Tr} {xs:List IV},us.length = xs.length → (∀ (i:Nat) (a:Tr) (x:IV),us[i]? = some a → xs[i]? = some x → IsTr a x) → IsTrs us xs
  | [],xs,h,_ => by simpa [IsTrs] using h.symm
  | a :: us,[],h,_ => by simp at h
  | a :: us,x :: xs,h,hh => ⟨x,xs,rfl,hh 0 a x rfl rfl,isTrs_get (by simpa using h) (fun i b y hb hy => hh (i + 1) b y (by simpa using hb) (by simpa using hy))⟩
theorem wTrs_sum:∀ {us:List Tr} {ds:List (DataW H)},us.length = ds.length → (∀ (i:Nat) (a:Tr) (d:DataW H),us[i]? = some a → ds[i]? = some d → wTr a + a.steps ≤ 2 * uptoBulk d) → wTrs us + stepsTrs us ≤ 2 * uptoBulkAll ds
  | [],ds,h,_ => by simp [wTrs,stepsTrs]
  | a :: us,[],h,_ => by simp at h
  | a :: us,x :: xs,h,hh => by
    have h1:=hh 0 a x rfl rfl
    have h2:=wTrs_sum (us:=us) (ds:=xs) (by simpa using h) (fun i b y hb hy => hh (i + 1) b y (by simpa using hb) (by simpa using hy))
    simp only [wTrs,stepsTrs,uptoBulkAll]; omega
def RR (d:DataW H) (t:Tr) (x:IV):Prop:=IsTr t x ∧ wTr t + t.steps ≤ 2 * uptoBulk d
theorem RR.cells {d:DataW H} {t:Tr} {x:IV} (h:RR d t x):x.cells.length = 12:=by
  obtain ⟨_,_,_,_,_,_,_,_,_,_,_,_,_,_,_,_,_,_,rfl⟩:=trAgg h.1; rfl
theorem trees_of {fuel:Nat} {cs:List Value} {y:DataW H × List MemPlace} (h:DataW.trod enc prog w 0 spare held fuel 30 cs = some y) (hb:uptoBulk y.1 ≤ 1048576)
    (IH:∀ (n:Nat),n < fuel → ∀ (cs:List Value) (y:DataW H × List MemPlace),DataW.trod enc prog w 0 spare held n 32 cs = some y → uptoBulk y.1 ≤ 1048576 → ∃ t x,VL 0 (L0 w) w cs x.cells ∧ RR y.1 t x) :
    ∃ v tg xs ts,cs = [v] ∧ V 0 (L0 w) w v (.sl tg xs) ∧ okEs tg 12 ∧ IsTrs ts xs ∧ wTrs ts + stepsTrs ts + 1 ≤ 2 * uptoBulk y.1:=by
  obtain ⟨v,tg,xs,ts,rfl,hv,htg,hl,hc⟩:=open_sl (H:=H) (P:=prog) (d:=y.1) (p:=y.2) RR uTrees nTree (by decide) h (fun elems sp e => by
      have:=slice_le elems sp; have:=length_le elems; rw [← e] at *; omega) (fun d t x h => h.cells) (fun n hn cs' z q ⟨elems,sp,he,hm⟩ hz => by
      have:=slice_le elems sp
      have:=part_le hm
      rw [he] at hb
      exact IH n (by omega) cs' (z,q) hz (show uptoBulk z ≤ 1048576 by omega))
  refine ⟨v,tg,xs,ts,rfl,hv,htg,?_⟩
  rcases hc with ⟨hd,rfl⟩ | ⟨elems,sp,hd,hel,hr⟩
  · obtain rfl:ts = []:=List.length_eq_zero_iff.1 (by simpa using hl)
    exact ⟨rfl,by rw [hd]; simp [wTrs,stepsTrs,uptoBulk]⟩
  · have hi:∀ (i:Nat) (a:Tr),ts[i]? = some a → ∃ x d,xs[i]? = some x ∧ elems[i]? = some d ∧ RR d a x:=fun i a ha => by
      have hi:=(List.getElem?_eq_some_iff.1 ha).1
      exact ⟨_,_,List.getElem?_eq_getElem (by omega),List.getElem?_eq_getElem (by omega),hr i _ _ _ (List.getElem?_eq_getElem (by omega)) ha (List.getElem?_eq_getElem (by omega))⟩
    refine ⟨isTrs_get hl (fun i a x ha hx => ?_),?_⟩
    · obtain ⟨x',d,h1,h2,h3⟩:=hi i a ha
      rw [hx] at h1; cases h1
      exact h3.1
    · have:=wTrs_sum (us:=ts) (ds:=elems) (by omega) (fun i a d ha hd' => by
        obtain ⟨x',d',h1,h2,h3⟩:=hi i a ha
        rw [hd'] at h2; cases h2
        exact h3.2)
      have:=slice_le elems sp
      rw [hd]
      omega
theorem cs12 {cs:List Value} (h:cs.length = 12):∃ a b c d e f g h i j k l,cs = [a,b,c,d,e,f,g,h,i,j,k,l]:=by
  match cs,h with
  | [a,b,c,d,e,f,g,h,i,j,k,l],_ => exact ⟨a,b,c,d,e,f,g,h,i,j,k,l,rfl⟩
theorem tree_of:∀ (fuel:Nat) (cs:List Value) (y:DataW H × List MemPlace),DataW.trod enc prog w 0 spare held fuel 32 cs = some y → uptoBulk y.1 ≤ 1048576 → ∃ t x,VL 0 (L0 w) w cs x.cells ∧ RR y.1 t x:=by
  intro fuel
  induction fuel using Nat.strongRecOn with
  | ind fuel IH =>
    intro cs y h hb
    obtain ⟨ys,n,rfl,rfl,hl,hlen,hf⟩:=DataW.trod_struct uTree h
    match ys,hlen with
    | [y0,y1,y2,y3,y4,y5],_ =>
      rw [nTree] at hl
      obtain ⟨c0,c1,c2,c3,c4,c5,c6,c7,c8,c9,c10,c11,rfl⟩:=cs12 hl
      have h0:=hf 0 _ rfl
      have h1:=hf 1 _ rfl
      have h2:=hf 2 _ rfl
      have h3:=hf 3 _ rfl
      have h4:=hf 4 _ rfl
      have h5:=hf 5 _ rfl
      simp only [nU8,nString,nSeq,nForm,nTerm,nTrees,List.drop_zero,List.drop_succ_cons,List.take_succ_cons,List.take_zero,List.getElem?_cons_zero,List.getElem?_cons_succ] at h0 h1 h2 h3 h4 h5
      simp only [List.map_cons,List.map_nil,uptoBulk,uptoBulkAll] at hb
      obtain ⟨op,e0,rfl,hop⟩:=DataW.trod_int uU8 h0
      obtain ⟨s,xs,hvs,hs1,hs2⟩:=seq_of n _ _ h1 (by omega)
      obtain ⟨f,xf,hvf,hf1,hf2⟩:=form_of n _ _ h2 (by omega)
      obtain ⟨t,xt,hvt,ht1,ht2⟩:=term_of n _ _ h3 (by omega)
      obtain ⟨nm,e4,hn,hn2⟩:=str_of h4 (by omega)
      obtain ⟨v,tg,xb,ts,e5,hv,htg,hts,hbk⟩:=trees_of h5 (by omega) (fun m hm => IH m (by omega))
      cases e0; cases e4; cases e5
      have hop:0 ≤ op ∧ op < 256:=by
        simp only [Lit.wf,IntKind.min,IntKind.max,IntKind.signed,IntKind.bits,Bool.and_eq_true,decide_eq_true_eq] at hop
        exact ⟨of_decide_eq_true hop.1,by have:=of_decide_eq_true hop.2; simp at this; omega⟩
      obtain ⟨k,rfl⟩:=Int.eq_ofNat_of_zero_le hop.1
      obtain ⟨tl,xl,tr,xr,rfl,k1,k2,k3,k4⟩:=hs1
      have hf0:=hf1
      have ht0:=ht1
      obtain ⟨o,fn,us,sub⟩:=f
      obtain ⟨ta,xa,tb,xb',rfl,_⟩:=hf1.mk
      obtain ⟨b,un,uu⟩:=t
      obtain ⟨tu,xu,rfl,_⟩:=ht1.mk
      refine ⟨.mk k s (.mk o fn us sub) (.mk b un uu) nm ts,.agg [.raw (.int .u8 k),.sl tl xl,.sl tr xr,.raw (.int .u8 o),.raw (.string fn),.sl ta xa,.sl tb xb',.raw (.bool b),.raw (.string un),.sl tu xu,.raw (.string nm),.sl tg xb],
        VL.cons (.raw _ trivial) (hvs.append (hvf.append (hvt.append (VL.cons hn (VL.cons hv VL.nil))))),?_,?_⟩
      · simp only [IsTr]
        exact ⟨tl,xl,tr,xr,o,fn,ta,xa,tb,xb',b,un,tu,xu,tg,xb,rfl,by omega,k1,k2,k3,k4,hf0,ht0,htg,hts⟩
      · have:=wFm_bulk (.mk o fn us sub)
        have:=wTm_bulk (.mk b un uu)
        simp only [List.map_cons,List.map_nil,uptoBulk,uptoBulkAll,wTr,Tr.steps]
        omega
end
end Go.Proofs.Tryz
