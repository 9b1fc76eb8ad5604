/- Walks: Given, Taken, SameTree, checks, S -/
import Derived.Test.YtckafgnkmnichaaGreatDoorQF
import Derived.Test.YtckafgnkmnichaaGreatDoorKE
import Derived.Test.YtckafgnkmnichaaGreatDoorQE
import Derived.Test.YtckafgnkmnichaaGreatDoorJM
import Derived.Test.YtckafgnkmnichaaGreatDoorJW
import Derived.OpenShut
import Derived.WalkKit
import Derived.ProofKit
import Derived.Deep.DeepHandedRow
import Derived.Lib.LaidTab
import Derived.Carry
import Derived.RowKit
import Derived.RowKitTokens
import Derived.FnData
set_option linter.all false
namespace Go.Proofs.Tryz
open Go Go.Iv
set_option maxRecDepth 4000
variable (gl:Nat → Option IV)
theorem xKt {a:Tr} {x:IV} (h:IsTr a x):IsTrs [a] [x]:=by simp only [IsTrs]; exact ⟨x,[],rfl,h,rfl⟩
def wQo (t:Tr):Prop:=∀ (x:IV) (_:IsTr t x) (_:okT t = true) (_:t.steps ≤ 1000) (st:ISt),ICall prog gl 51 [x] st (fun r st' => IsTr t r ∧ st' = st)
theorem xY9 (rule:Nat) (s:Sq) (f:Fm) (u:Tm) (n:ByteArray) (sub:List Tr) (IH:∀ a ∈ sub,wQo gl a):wQo gl (.mk rule s f u n sub):=by
 intro x hx hok hst st
 obtain ⟨tl,xl,tr,xr,op,fn,ta,xa,tb,xb,v,un,tu,xu,ts,xs,rfl,hru,e1,i1,e2,i2,hy,hz,e3,i3⟩:=hx.mk
 simp only [Tr.steps] at hst
 have hlsub:=yZu sub
 have hok2:okTs sub = true:=by
  simp only [okT,bAt] at hok
  exact hok.2
 have hnode:wFms s.l + wFms s.r ≤ 300 ∧ wFm f ≤ 300 ∧ wTm u ≤ 300:=by
  simp only [okT,bAt] at hok
  exact ⟨(yXx hok.1).1,(yXx hok.1).2.1,(yXx hok.1).2.2.1⟩
 have h1:=fun st => zW6 gl s (.agg [.sl tl xl,.sl tr xr]) ⟨tl,xl,tr,xr,rfl,e1,i1,e2,i2⟩ (by have:=yJp s.l; omega) (by have:=yJp s.r; omega) st
 have h2:=fun st => yUg gl f _ hy (by have:=zX3 f; omega) st
 have h3:=fun st => zJo gl u _ hz (by have:=yUw u; omega) st
 refine ICall.intro (c:=cf prog gl [] [(1,[0,1,2,3,5,6,8,9,11,12,14,4,7,10,13,15])]) func51 rfl (by show _ ≤ 38; simp) (by kernel_rfl) ?_
 simp -implicitDefEqProofs -dsimp only [go_sem,fits]
 refine (h1 _).mono ?_
 rintro _ st ⟨⟨c1,y1,c2,y2,rfl,g1,_,k1,g2,_,k2⟩,rfl⟩
 simp -implicitDefEqProofs -dsimp only [go_sem,fits]
 refine (h2 _).mono ?_
 rintro r2 st ⟨hr2,rfl⟩
 obtain ⟨o2,n2,ta2,xa2,tb2,xb2,rfl⟩:=IsFmD.aggs hr2
 simp -implicitDefEqProofs -dsimp only [go_sem,fits]
 refine (h3 _).mono ?_
 rintro r3 st ⟨hr3,rfl⟩
 obtain ⟨v3,n3,t3,x3,rfl⟩:=hr3.agg
 simp -implicitDefEqProofs -dsimp only [go_sem,fits]
 refine LoopC.ctr sub.length (fun k fr st' ds => (∃ tg' ys,fr 3 = .box [.raw (.int .u8 rule),.sl c1 y1,.sl c2 y2,.raw (.int .u8 o2),.raw (.string n2),.sl ta2 xa2,.sl tb2 xb2,.raw (.bool v3),.raw (.string n3),.sl t3 x3,.raw (.string n),.sl tg' ys] ∧ IsTrs (sub.take k) ys ∧ own st' tg' k 12 st ∧ subSt st st') ∧
  fr 1 = .box [.raw (.int .u8 rule),.sl tl xl,.sl tr xr,.raw (.int .u8 op),.raw (.string fn),.sl ta xa,.sl tb xb,.raw (.bool v),.raw (.string un),.sl tu xu,.raw (.string n),.sl ts xs] ∧
  fr 2 = .box [.raw (.int .u8 0),.sl ⟨true,.nil,0⟩ [],.sl ⟨true,.nil,0⟩ [],.raw (.int .u8 0),.raw (.string ⟨#[]⟩),.sl ⟨true,.nil,0⟩ [],.sl ⟨true,.nil,0⟩ [],.raw (.bool false),.raw (.string ⟨#[]⟩),.sl ⟨true,.nil,0⟩ [],.raw (.string ⟨#[]⟩),.sl ⟨true,.nil,0⟩ []] ∧ fr 4 = .iv (.raw (.int .i64 k)) ∧ ds = []) ?_ ?_ ?_
 ·simp -implicitDefEqProofs -dsimp only [go_sem]
  exact ⟨⟨_,_,rfl,rfl,own.nil _ _ _ _ _,subSt.refl _⟩,rfl⟩
 ·rintro k fr st1 _ hlt ⟨⟨tg',ys,f3,hys,hown,hsub⟩,f1,f2,f4,rfl⟩
  obtain ⟨a,ha⟩:=yQ3 hlt
  have ham:=lMg ha
  obtain ⟨z,hkz,hzz⟩:=i3.get ha
  have hlen2:ys.length = k:=by rw [hys.len,List.length_take]; omega
  have hcall:=fun st => IH a ham z hzz (yGb hok2 ham) (by have:=yZi ham; omega) st
  obtain ⟨rule',tl',xl',tr',xr',op',fn',ta',xa',tb',xb',v',un',tu',xu',n',ts',xs',rfl⟩:=yKd hzz
  simp -implicitDefEqProofs -dsimp only [go_sem,f1,f3,f4,i3.len,lt_i hlt,yQ2 e3,iNn,hkz,fits]
  intro _
  refine (hcall _).mono ?_
  rintro r _ ⟨hr,rfl⟩
  have hn:IsTrs (sub.take (k + 1)) (ys ++ [r]):=by
   rw [yQ4 ha]; exact hys.append (xKt hr)
  obtain ⟨rule',tl',xl',tr',xr',op',fn',ta',xa',tb',xb',v',un',tu',xu',n',ts',xs',rfl⟩:=yKd hr
  simp -implicitDefEqProofs -dsimp only [go_sem,f1,f3,f4,fits,yQ1]
  refine yXd hown hlen2 hsub rfl (by simp [fits,IV.one]) (by simp only; omega) (by omega) fun tg2 st4 hown2 hsub4 _ hap2 => ?_
  simp -implicitDefEqProofs -dsimp only [go_sem,f1,f2,f3,f4,fits,yQ9 hlt (show sub.length ≤ 281474976710656 by omega)]
  exact ⟨tg2,_,rfl,hn,hown2,hsub4⟩
 ·rintro fr st1 _ ⟨⟨tg',ys,f3,hys,hown,hsub⟩,f1,f2,f4,rfl⟩
  rw [lTl] at hys
  simp -implicitDefEqProofs -dsimp only [go_sem,f1,f2,f3,f4,i3.len,yQm (nLi _),fits]
  intro _
  refine yQb (st':=st) hsub ⟨?_,rfl⟩
  simp only [IsTr]
  exact ⟨_,_,_,_,_,_,_,_,_,_,_,_,_,_,_,_,rfl,hru,g1,k1.1,g2,k2.1,hr2.1,hr3.1,hown.es,hys⟩
theorem xQ9:∀ (k:Nat) (t:Tr),SizeOf.sizeOf t < k → wQo gl t
 | 0,t,h => by omega
 | k + 1,.mk r sq f u n sub,h => xY9 gl r sq f u n sub (fun a ha => xQ9 k a (by
   have:=lSm ha
   simp at h; omega))
def xGe (t:Tr):Prop:=∀ (x:IV) (_:IsTr t x) (_:okT t = true) (_:t.steps ≤ 1000) (st:ISt),ICall prog gl 52 [x] st (fun r st' => IsTr t r ∧ st' = st)
theorem xVy (rule:Nat) (s:Sq) (f:Fm) (u:Tm) (n:ByteArray) (sub:List Tr) (IH:∀ a ∈ sub,xGe gl a):xGe gl (.mk rule s f u n sub):=by
 intro x hx hok hst st
 obtain ⟨tl,xl,tr,xr,op,fn,ta,xa,tb,xb,v,un,tu,xu,ts,xs,rfl,hru,e1,i1,e2,i2,hy,hz,e3,i3⟩:=hx.mk
 simp only [Tr.steps] at hst
 have hlsub:=yZu sub
 have hok2:okTs sub = true:=by
  simp only [okT,bAt] at hok
  exact hok.2
 have hnode:wFms s.l + wFms s.r ≤ 300 ∧ wFm f ≤ 300 ∧ wTm u ≤ 300:=by
  simp only [okT,bAt] at hok
  exact ⟨(yXx hok.1).1,(yXx hok.1).2.1,(yXx hok.1).2.2.1⟩
 have h1:=fun st => zW6 gl s (.agg [.sl tl xl,.sl tr xr]) ⟨tl,xl,tr,xr,rfl,e1,i1,e2,i2⟩ (by have:=yJp s.l; omega) (by have:=yJp s.r; omega) st
 have h2:=fun st => yUg gl f _ hy (by have:=zX3 f; omega) st
 have h3:=fun st => zJo gl u _ hz (by have:=yUw u; omega) st
 refine ICall.intro (c:=cf prog gl [] [(1,[0,1,2,3,5,6,8,9,11,12,14,4,7,10,13,15])]) func52 rfl (by show _ ≤ 38; simp) (by kernel_rfl) ?_
 simp -implicitDefEqProofs -dsimp only [go_sem,fits]
 refine (h1 _).mono ?_
 rintro _ st ⟨⟨c1,y1,c2,y2,rfl,g1,_,k1,g2,_,k2⟩,rfl⟩
 simp -implicitDefEqProofs -dsimp only [go_sem,fits]
 refine (h2 _).mono ?_
 rintro r2 st ⟨hr2,rfl⟩
 obtain ⟨o2,n2,ta2,xa2,tb2,xb2,rfl⟩:=IsFmD.aggs hr2
 simp -implicitDefEqProofs -dsimp only [go_sem,fits]
 refine (h3 _).mono ?_
 rintro r3 st ⟨hr3,rfl⟩
 obtain ⟨v3,n3,t3,x3,rfl⟩:=hr3.agg
 simp -implicitDefEqProofs -dsimp only [go_sem,fits]
 refine LoopC.ctr sub.length (fun k fr st' ds => (∃ tg' ys,fr 3 = .box [.raw (.int .u8 rule),.sl c1 y1,.sl c2 y2,.raw (.int .u8 o2),.raw (.string n2),.sl ta2 xa2,.sl tb2 xb2,.raw (.bool v3),.raw (.string n3),.sl t3 x3,.raw (.string n),.sl tg' ys] ∧ IsTrs (sub.take k) ys ∧ own st' tg' k 12 st ∧ subSt st st') ∧
  fr 1 = .box [.raw (.int .u8 rule),.sl tl xl,.sl tr xr,.raw (.int .u8 op),.raw (.string fn),.sl ta xa,.sl tb xb,.raw (.bool v),.raw (.string un),.sl tu xu,.raw (.string n),.sl ts xs] ∧
  fr 2 = .box [.raw (.int .u8 0),.sl ⟨true,.nil,0⟩ [],.sl ⟨true,.nil,0⟩ [],.raw (.int .u8 0),.raw (.string ⟨#[]⟩),.sl ⟨true,.nil,0⟩ [],.sl ⟨true,.nil,0⟩ [],.raw (.bool false),.raw (.string ⟨#[]⟩),.sl ⟨true,.nil,0⟩ [],.raw (.string ⟨#[]⟩),.sl ⟨true,.nil,0⟩ []] ∧ fr 4 = .iv (.raw (.int .i64 k)) ∧ ds = []) ?_ ?_ ?_
 ·simp -implicitDefEqProofs -dsimp only [go_sem]
  exact ⟨⟨_,_,rfl,rfl,own.nil _ _ _ _ _,subSt.refl _⟩,rfl⟩
 ·rintro k fr st1 _ hlt ⟨⟨tg',ys,f3,hys,hown,hsub⟩,f1,f2,f4,rfl⟩
  obtain ⟨a,ha⟩:=yQ3 hlt
  have ham:=lMg ha
  obtain ⟨z,hkz,hzz⟩:=i3.get ha
  have hlen2:ys.length = k:=by rw [hys.len,List.length_take]; omega
  have hcall:=fun st => IH a ham z hzz (yGb hok2 ham) (by have:=yZi ham; omega) st
  obtain ⟨rule',tl',xl',tr',xr',op',fn',ta',xa',tb',xb',v',un',tu',xu',n',ts',xs',rfl⟩:=yKd hzz
  simp -implicitDefEqProofs -dsimp only [go_sem,f1,f3,f4,i3.len,lt_i hlt,yQ2 e3,iNn,hkz,fits]
  intro _
  refine (hcall _).mono ?_
  rintro r _ ⟨hr,rfl⟩
  have hn:IsTrs (sub.take (k + 1)) (ys ++ [r]):=by
   rw [yQ4 ha]; exact hys.append (xKt hr)
  obtain ⟨rule',tl',xl',tr',xr',op',fn',ta',xa',tb',xb',v',un',tu',xu',n',ts',xs',rfl⟩:=yKd hr
  simp -implicitDefEqProofs -dsimp only [go_sem,f1,f3,f4,fits,yQ1]
  refine yXd hown hlen2 hsub rfl (by simp [fits,IV.one]) (by simp only; omega) (by omega) fun tg2 st4 hown2 hsub4 _ hap2 => ?_
  simp -implicitDefEqProofs -dsimp only [go_sem,f1,f2,f3,f4,fits,yQ9 hlt (show sub.length ≤ 281474976710656 by omega)]
  exact ⟨tg2,_,rfl,hn,hown2,hsub4⟩
 ·rintro fr st1 _ ⟨⟨tg',ys,f3,hys,hown,hsub⟩,f1,f2,f4,rfl⟩
  rw [lTl] at hys
  simp -implicitDefEqProofs -dsimp only [go_sem,f1,f2,f3,f4,i3.len,yQm (nLi _),fits]
  intro _
  refine yQb (st':=st) hsub ⟨?_,rfl⟩
  simp only [IsTr]
  exact ⟨_,_,_,_,_,_,_,_,_,_,_,_,_,_,_,_,rfl,hru,g1,k1.1,g2,k2.1,hr2.1,hr3.1,hown.es,hys⟩
theorem zGl:∀ (k:Nat) (t:Tr),SizeOf.sizeOf t < k → xGe gl t
 | 0,t,h => by omega
 | k + 1,.mk r sq f u n sub,h => xVy gl r sq f u n sub (fun a ha => zGl k a (by
   have:=lSm ha
   simp at h; omega))
def wWy (t:Tr):Prop:=∀ (x y:IV) (_:IsTr t x) (_:IsTr t y) (_:t.steps ≤ 1099511627776) (st:ISt),ICall prog gl 57 [x,y] st (fun r st' => r = .raw (.bool true) ∧ st' = st)
theorem xGw (rule:Nat) (s:Sq) (f:Fm) (u:Tm) (n:ByteArray) (sub:List Tr) (IH:∀ a ∈ sub,wWy gl a):wWy gl (.mk rule s f u n sub):=by
 intro x y hx hy hst st
 obtain ⟨tl,xl,tr,xr,op,fn,ta,xa,tb,xb,v,un,tu,xu,ts,xs,rfl,hru,e1,i1,e2,i2,hyf,hz,e3,i3⟩:=hx.mk
 obtain ⟨tl2,xl2,tr2,xr2,op2,fn2,ta2,xa2,tb2,xb2,v2,un2,tu2,xu2,ts2,xs2,rfl,hru2,e12,i12,e22,i22,hyf2,hz2,e32,i32⟩:=hy.mk
 simp only [Tr.steps] at hst
 have hlsub:=yZu sub
 have h1:=fun st => zZ5 gl s s (.agg [.sl tl xl,.sl tr xr]) (.agg [.sl tl2 xl2,.sl tr2 xr2]) ⟨_,_,_,_,rfl,e1,i1,e2,i2⟩ ⟨_,_,_,_,rfl,e12,i12,e22,i22⟩ st
 have h2:=fun st => zJm gl f f _ _ hyf hyf2 st
 have h3:=fun st => xXm gl u u _ _ hz hz2 st
 have hs1:eqB s s = true:=yQp.2 rfl
 have hs2:eqB f f = true:=yQp.2 rfl
 have hs3:eqB u u = true:=yQp.2 rfl
 refine iI func57 rfl rfl (by kernel_rfl) ?_
 simp -implicitDefEqProofs -dsimp only [go_sem,fits,decide_true]
 refine (h1 _).mono ?_
 rintro _ st ⟨rfl,rfl⟩
 simp -implicitDefEqProofs -dsimp only [go_sem,fits,hs1]
 refine (h2 _).mono ?_
 rintro _ st ⟨rfl,rfl⟩
 simp -implicitDefEqProofs -dsimp only [go_sem,fits,hs2]
 refine (h3 _).mono ?_
 rintro _ st ⟨rfl,rfl⟩
 simp -implicitDefEqProofs -dsimp only [go_sem,fits,hs3,decide_true,i3.len,i32.len]
 intros
 refine LoopC.ctr sub.length (fun k fr st' ds => fr 2 = .box [.raw (.int .u8 rule),.sl tl xl,.sl tr xr,.raw (.int .u8 op),.raw (.string fn),.sl ta xa,.sl tb xb,.raw (.bool v),.raw (.string un),.sl tu xu,.raw (.string n),.sl ts xs] ∧
  fr 3 = .box [.raw (.int .u8 rule),.sl tl2 xl2,.sl tr2 xr2,.raw (.int .u8 op2),.raw (.string fn2),.sl ta2 xa2,.sl tb2 xb2,.raw (.bool v2),.raw (.string un2),.sl tu2 xu2,.raw (.string n),.sl ts2 xs2] ∧ fr 5 = .iv (.raw (.int .i64 k)) ∧ st' = st ∧ ds = []) ?_ ?_ ?_
 ·simp -implicitDefEqProofs -dsimp only [go_sem]
  rfl
 ·rintro k fr st1 _ hlt ⟨f2,f3,f5,rfl,rfl⟩
  obtain ⟨a,ha⟩:=yQ3 hlt
  have ham:=lMg ha
  obtain ⟨z,hkz,hzz⟩:=i3.get ha
  obtain ⟨z2,hkz2,hzz2⟩:=i32.get ha
  have hcall:=fun st => IH a ham z z2 hzz hzz2 (by have:=yZi ham; omega) st
  obtain ⟨rule',tl',xl',tr',xr',op',fn',ta',xa',tb',xb',v',un',tu',xu',n',ts',xs',rfl⟩:=yKd hzz
  obtain ⟨rule',tl',xl',tr',xr',op',fn',ta',xa',tb',xb',v',un',tu',xu',n',ts',xs',rfl⟩:=yKd hzz2
  simp -implicitDefEqProofs -dsimp only [go_sem,f2,f3,f5,i3.len,i32.len,lt_i hlt,yQ2 e3,yQ2 e32,iNn,hkz,hkz2,fits]
  intros
  refine (hcall _).mono ?_
  rintro _ st2 ⟨rfl,rfl⟩
  simp -implicitDefEqProofs -dsimp only [go_sem,f2,f3,f5,fits,yQ9 hlt (show sub.length ≤ 281474976710656 by omega)]
 ·rintro fr st1 _ ⟨f2,f3,f5,rfl,rfl⟩
  simp -implicitDefEqProofs -dsimp only [go_sem,f2,f3,f5,i3.len,yQm (nLi _)]
  intros
  exact yQ0 ⟨rfl,rfl⟩
theorem xJx:∀ (k:Nat) (t:Tr),SizeOf.sizeOf t < k → wWy gl t
 | 0,t,h => by omega
 | k + 1,.mk r sq f u n sub,h => xGw gl r sq f u n sub (fun a ha => xJx k a (by
   have:=lSm ha
   simp at h; omega))
set_option maxHeartbeats 1000000 in
theorem wK5 (G:Gl gl) (T:Gt gl) (ca:Nat) (t:Tr) (x:IV) (hx:IsTr t x) (hok:okT t = true) (hst:t.steps ≤ 60) (st:ISt) :
  ICall prog gl 15 [.raw (.int .u8 ca),x] st (fun r st' => r = .raw (.bool true) ∧ st' = st):=by
 have hG:=fun st => xQ9 gl _ t (Nat.lt_succ_self _) x hx hok (by omega) st
 have hx0:=hx
 obtain ⟨rule',tl',xl',tr',xr',op',fn',ta',xa',tb',xb',v',un',tu',xu',n',ts',xs',rfl⟩:=yKd hx
 refine ICall.intro (c:=cf prog gl [] [(5,[0,1,2,3,4,5,6,7,8,9,11,10,12,13,14,15,16,18,17,19,20,21,22,23,25,24,26,27,28,29,30,31,32,33,34])]) func15 rfl (by show _ ≤ 61; simp) (by kernel_rfl) ?_
 simp -implicitDefEqProofs -dsimp only [go_sem,fits]
 refine (hG _).mono ?_
 rintro r st ⟨hr,rfl⟩
 have hT:=fun st => zGl gl _ t (Nat.lt_succ_self _) r hr hok (by omega) st
 have hC2:=fun st => wXx gl G ca t r hr hok (by omega) st
 have hS2:=fun st => xK2 gl t r hr (by omega) st
 have hH2:=fun st => xU8 gl t r hr (by omega) st
 have hU2:=fun st => wY9 gl t r hr (by omega) st
 obtain ⟨rule2,tl2,xl2,tr2,xr2,op2,fn2,ta2,xa2,tb2,xb2,v2,un2,tu2,xu2,n2,ts2,xs2,rfl⟩:=yKd hr
 simp -implicitDefEqProofs -dsimp only [go_sem,fits]
 refine (hT _).mono ?_
 rintro q st ⟨hq,rfl⟩
 have hC1:=fun st => zKs gl G T ca t q hq (vJ0 (xUm hok) (by omega)) st
 have hS1:=fun st => wX0 gl t q hq (by omega) st
 have hH1:=fun st => xVq gl t q hq (by omega) st
 have hU1:=fun st => wW2 gl t q hq (by omega) st
 have hM:=fun st => xJx gl _ t (Nat.lt_succ_self _) q _ hq hx0 (by omega) st
 obtain ⟨rule3,tl3,xl3,tr3,xr3,op3,fn3,ta3,xa3,tb3,xb3,v3,un3,tu3,xu3,n3,ts3,xs3,rfl⟩:=yKd hq
 simp -implicitDefEqProofs -dsimp only [go_sem,fits]
 refine (hC1 _).mono ?_
 rintro _ st ⟨⟨g1,rfl,hg1⟩,rfl⟩
 simp -implicitDefEqProofs -dsimp only [go_sem,fits]
 refine (hC2 _).mono ?_
 rintro _ st ⟨⟨g2,rfl,hg2⟩,rfl⟩
 generalize yXe ca t = w
 obtain ⟨p,e⟩:=w
 have hSI:=fun st => xYs gl g1 g2 p p hg1 hg2 st
 simp -implicitDefEqProofs -dsimp only [go_sem,fits]
 refine (hSI _).mono ?_
 rintro _ st ⟨rfl,rfl⟩
 have hp:eqB p p = true:=yQp.2 rfl
 simp -implicitDefEqProofs -dsimp only [go_sem,fits,hp,decide_true]
 refine (hS1 _).mono ?_
 rintro _ st ⟨rfl,rfl⟩
 simp -implicitDefEqProofs -dsimp only [go_sem,fits,decide_true]
 refine (hS2 _).mono ?_
 rintro _ st ⟨rfl,rfl⟩
 simp -implicitDefEqProofs -dsimp only [go_sem,fits,decide_true]
 refine (hH1 _).mono ?_
 rintro _ st ⟨rfl,rfl⟩
 simp -implicitDefEqProofs -dsimp only [go_sem,fits,decide_true]
 refine (hH2 _).mono ?_
 rintro _ st ⟨rfl,rfl⟩
 simp -implicitDefEqProofs -dsimp only [go_sem,fits,decide_true]
 refine (hU1 _).mono ?_
 rintro _ st ⟨rfl,rfl⟩
 simp -implicitDefEqProofs -dsimp only [go_sem,fits,decide_true]
 refine (hU2 _).mono ?_
 rintro _ st ⟨rfl,rfl⟩
 simp -implicitDefEqProofs -dsimp only [go_sem,fits,decide_true]
 refine (hM _).mono ?_
 rintro _ st ⟨rfl,rfl⟩
 simp -implicitDefEqProofs -dsimp only [go_sem,fits]
 exact yQ0 ⟨rfl,rfl⟩
theorem zVc (G:Gl gl) (T:Gt gl) (ca:Nat) (t:Tr) (x:IV) (hx:IsTr t x) (hw:wTr t ≤ 1099511627776) (st:ISt) :
  ICall prog gl 3 [.raw (.int .u8 ca),x] st (fun r st' => r = .raw (.bool true) ∧ st' = st):=by
 have hA:=fun st => wJ0 gl G T st
 have hS:=fun st => wKp gl t x hx hw st
 have hK:=fun hok hst st => wK5 gl G T ca t x hx hok hst st
 obtain ⟨rule',tl',xl',tr',xr',op',fn',ta',xa',tb',xb',v',un',tu',xu',n',ts',xs',rfl⟩:=yKd hx
 refine iI func3 rfl rfl (by kernel_rfl) ?_
 simp -implicitDefEqProofs -dsimp only [go_sem,fits]
 refine (hS _).mono ?_
 rintro _ st ⟨rfl,rfl⟩
 cases hsm:(okT t && decide (t.steps ≤ 60))
 ·simp -implicitDefEqProofs -dsimp only [go_sem,fits]
  refine (hA _).mono ?_
  rintro _ st ⟨rfl,rfl⟩
  simp -implicitDefEqProofs -dsimp only [go_sem,fits]
  exact yQ0 ⟨rfl,rfl⟩
 ·rw [bAt,dTe] at hsm
  simp -implicitDefEqProofs -dsimp only [go_sem,fits]
  refine (hK hsm.1 hsm.2 _).mono ?_
  rintro _ st ⟨rfl,rfl⟩
  simp -implicitDefEqProofs -dsimp only [go_sem,fits]
  refine (hA _).mono ?_
  rintro _ st ⟨rfl,rfl⟩
  simp -implicitDefEqProofs -dsimp only [go_sem,fits]
  exact yQ0 ⟨rfl,rfl⟩
end Go.Proofs.Tryz
namespace Go.Proofs.Tryz
open Go Go.Iv Go.ChangeShapes
open Go.Proofs.YtckafgnkmnichaaGreatDoor.Rows (uptoBulk uptoBulkAll)
set_option maxRecDepth 4000
theorem uSeq:prog.underlying 24 = some (.struct #[⟨ "Left",22,0,false, "", "",0⟩,⟨ "Right",22,1,false, "", "",24⟩]):=by kernel_rfl
theorem vQ9:prog.underlying 32 = some (.struct #[⟨ "Rule",5,0,false, "", "",0⟩,⟨ "Seq",24,1,false, "", "",8⟩,⟨ "Main",27,3,false, "", "",56⟩,⟨ "Term",29,7,false, "", "",128⟩,⟨ "Name",9,10,false, "", "",176⟩,⟨ "Sub",30,11,false, "", "",192⟩]):=by kernel_rfl
theorem vQ8:prog.underlying 30 = some (.slice 32):=by kernel_rfl
theorem nSeq:prog.cellsOf 24 = 2:=by kernel_rfl
theorem vZ7:prog.cellsOf 32 = 12:=by kernel_rfl
theorem vZ6:prog.cellsOf 30 = 1:=by kernel_rfl
mutual
theorem xJk:∀ t:Tm,wTm t ≤ 2 * xYm t
 | .mk _ n us => by have:=zXm us; simp only [wTm,xYm]; omega
theorem zXm:∀ l:List Tm,wTms l ≤ 2 * yU0 l
 | [] => Nat.le_refl _
 | a :: l => by have:=xJk a; have:=zXm l; simp only [wTms,yU0]; omega
end
mutual
theorem xJl:∀ f:Fm,wFm f ≤ 2 * xYn f
 | .mk _ n us sub => by have:=zXm us; have:=yUq sub; simp only [wFm,xYn]; omega
theorem yUq:∀ l:List Fm,wFms l ≤ 2 * zQp l
 | [] => Nat.le_refl _
 | a :: l => by have:=xJl a; have:=yUq l; simp only [wFms,zQp]; omega
end
section
variable {H:Type} {enc:TypeId × Value → H} {w:World} {spare:Nat → Bool} {held:Bool}
def RQ (d:DataW H) (s:Sq) (x:IV):Prop:=IsSq s x ∧ wFms s.l + wFms s.r ≤ 2 * uptoBulk d
theorem vQk (fuel:Nat) (cs:List Value) (y:DataW H × List MemPlace) (h:DataW.trod enc prog w 0 spare held fuel 24 cs = some y) (hb:uptoBulk y.1 ≤ 1048576):∃ s x,VL 0 (L0 w) w cs x.cells ∧ RQ y.1 s x:=by
 obtain ⟨ys,n,rfl,rfl,hl,hlen,hf⟩:=DataW.trod_struct uSeq h
 match ys,hlen with
 | [y0,y1],_ =>
  rw [nSeq] at hl
  match cs,hl with
  | [c0,c1],_ =>
   have h0:=hf 0 _ rfl
   have h1:=hf 1 _ rfl
   simp only [wVk,List.drop_zero,List.drop_succ_cons,List.take_succ_cons,List.take_zero,List.getElem?_cons_zero,List.getElem?_cons_succ] at h0 h1
   simp only [List.map_cons,List.map_nil,uptoBulk,uptoBulkAll] at hb
   obtain ⟨v0,tg0,xs0,l0,e0,hv0,ht0,hl0,hb0⟩:=zYw h0 (by omega) (fun m _ => xXw m)
   obtain ⟨v1,tg1,xs1,l1,e1,hv1,ht1,hl1,hb1⟩:=zYw h1 (by omega) (fun m _ => xXw m)
   cases e0; cases e1
   refine ⟨⟨l0,l1⟩,.agg [.sl tg0 xs0,.sl tg1 xs1],VL.cons hv0 (VL.cons hv1 VL.nil),⟨tg0,xs0,tg1,xs1,rfl,ht0,hl0,ht1,hl1⟩,?_⟩
   have:=yUq l0
   have:=yUq l1
   simp only [List.map_cons,List.map_nil,uptoBulk,uptoBulkAll]
   omega
theorem xQ1:∀ {us:List Tr} {xs:List IV},us.length = xs.length → (∀ (i:Nat) (a:Tr) (x:IV),us[i]? = some a → xs[i]? = some x → IsTr a x) → IsTrs us xs
 | [],xs,h,_ => by simpa [IsTrs] using h.symm
 | a :: us,[],h,_ => by simp at h
 | a :: us,x :: xs,h,hh => ⟨x,xs,rfl,hh 0 a x rfl rfl,xQ1 (by simpa using h) (fun i b y hb hy => hh (i + 1) b y (by simpa using hb) (by simpa using hy))⟩
theorem xJi:∀ {us:List Tr} {ds:List (DataW H)},us.length = ds.length → (∀ (i:Nat) (a:Tr) (d:DataW H),us[i]? = some a → ds[i]? = some d → wTr a + a.steps ≤ 2 * uptoBulk d) → wTrs us + yQo us ≤ 2 * uptoBulkAll ds
 | [],ds,h,_ => by simp [wTrs,yQo]
 | a :: us,[],h,_ => by simp at h
 | a :: us,x :: xs,h,hh => by
  have h1:=hh 0 a x rfl rfl
  have h2:=xJi (us:=us) (ds:=xs) (by simpa using h) (fun i b y hb hy => hh (i + 1) b y (by simpa using hb) (by simpa using hy))
  simp only [wTrs,yQo,uptoBulkAll]; omega
def RR (d:DataW H) (t:Tr) (x:IV):Prop:=IsTr t x ∧ wTr t + t.steps ≤ 2 * uptoBulk d
theorem RR.cells {d:DataW H} {t:Tr} {x:IV} (h:RR d t x):x.cells.length = 12:=by
 obtain ⟨_,_,_,_,_,_,_,_,_,_,_,_,_,_,_,_,_,_,rfl⟩:=yKd h.1; rfl
theorem wXd {fuel:Nat} {cs:List Value} {y:DataW H × List MemPlace} (h:DataW.trod enc prog w 0 spare held fuel 30 cs = some y) (hb:uptoBulk y.1 ≤ 1048576)
  (IH:∀ (n:Nat),n < fuel → ∀ (cs:List Value) (y:DataW H × List MemPlace),DataW.trod enc prog w 0 spare held n 32 cs = some y → uptoBulk y.1 ≤ 1048576 → ∃ t x,VL 0 (L0 w) w cs x.cells ∧ RR y.1 t x) :
  ∃ v tg xs ts,cs = [v] ∧ V 0 (L0 w) w v (.sl tg xs) ∧ okEs tg 12 ∧ IsTrs ts xs ∧ wTrs ts + yQo ts + 1 ≤ 2 * uptoBulk y.1:=by
 obtain ⟨v,tg,xs,ts,rfl,hv,htg,hl,hc⟩:=xX5 (H:=H) (P:=prog) (d:=y.1) (p:=y.2) RR vQ8 vZ7 (by decide) h (fun elems sp e => by
   have:=yV5 elems sp; have:=zQ8 elems; rw [← e] at *; omega) (fun d t x h => h.cells) (fun n hn cs' z q ⟨elems,sp,he,hm⟩ hz => by
   have:=yV5 elems sp
   have:=zYg hm
   rw [he] at hb
   exact IH n (by omega) cs' (z,q) hz (show uptoBulk z ≤ 1048576 by omega))
 refine ⟨v,tg,xs,ts,rfl,hv,htg,?_⟩
 rcases hc with ⟨hd,rfl⟩ | ⟨elems,sp,hd,hel,hr⟩
 ·obtain rfl:ts = []:=List.length_eq_zero_iff.1 (by simpa using hl)
  exact ⟨rfl,by rw [hd]; simp [wTrs,yQo,uptoBulk]⟩
 ·have hi:∀ (i:Nat) (a:Tr),ts[i]? = some a → ∃ x d,xs[i]? = some x ∧ elems[i]? = some d ∧ RR d a x:=fun i a ha => by
   have hi:=(lGs ha).1
   exact ⟨_,_,List.getElem?_eq_getElem (by omega),List.getElem?_eq_getElem (by omega),hr i _ _ _ (List.getElem?_eq_getElem (by omega)) ha (List.getElem?_eq_getElem (by omega))⟩
  refine ⟨xQ1 hl (fun i a x ha hx => ?_),?_⟩
  ·obtain ⟨x',d,h1,h2,h3⟩:=hi i a ha
   rw [hx] at h1; cases h1
   exact h3.1
  ·have:=xJi (us:=ts) (ds:=elems) (by omega) (fun i a d ha hd' => by
    obtain ⟨x',d',h1,h2,h3⟩:=hi i a ha
    rw [hd'] at h2; cases h2
    exact h3.2)
   have:=yV5 elems sp
   rw [hd]
   omega
theorem cs12 {cs:List Value} (h:cs.length = 12):∃ a b c d e f g h i j k l,cs = [a,b,c,d,e,f,g,h,i,j,k,l]:=by
 match cs,h with
 | [a,b,c,d,e,f,g,h,i,j,k,l],_ => exact ⟨a,b,c,d,e,f,g,h,i,j,k,l,rfl⟩
theorem wWd:∀ (fuel:Nat) (cs:List Value) (y:DataW H × List MemPlace),DataW.trod enc prog w 0 spare held fuel 32 cs = some y → uptoBulk y.1 ≤ 1048576 → ∃ t x,VL 0 (L0 w) w cs x.cells ∧ RR y.1 t x:=by
 intro fuel
 induction fuel using Nat.strongRecOn with
 | ind fuel IH =>
  intro cs y h hb
  obtain ⟨ys,n,rfl,rfl,hl,hlen,hf⟩:=DataW.trod_struct vQ9 h
  match ys,hlen with
  | [y0,y1,y2,y3,y4,y5],_ =>
   rw [vZ7] at hl
   obtain ⟨c0,c1,c2,c3,c4,c5,c6,c7,c8,c9,c10,c11,rfl⟩:=cs12 hl
   have h0:=hf 0 _ rfl
   have h1:=hf 1 _ rfl
   have h2:=hf 2 _ rfl
   have h3:=hf 3 _ rfl
   have h4:=hf 4 _ rfl
   have h5:=hf 5 _ rfl
   simp only [nU8,xXb,nSeq,wYk,wYj,vZ6,List.drop_zero,List.drop_succ_cons,List.take_succ_cons,List.take_zero,List.getElem?_cons_zero,List.getElem?_cons_succ] at h0 h1 h2 h3 h4 h5
   simp only [List.map_cons,List.map_nil,uptoBulk,uptoBulkAll] at hb
   obtain ⟨op,e0,rfl,hop⟩:=DataW.trod_int uU8 h0
   obtain ⟨s,xs,hvs,hs1,hs2⟩:=vQk n _ _ h1 (by omega)
   obtain ⟨f,xf,hvf,hf1,hf2⟩:=xXw n _ _ h2 (by omega)
   obtain ⟨t,xt,hvt,ht1,ht2⟩:=xGd n _ _ h3 (by omega)
   obtain ⟨nm,e4,hn,hn2⟩:=xGj h4 (by omega)
   obtain ⟨v,tg,xb,ts,e5,hv,htg,hts,hbk⟩:=wXd h5 (by omega) (fun m hm => IH m (by omega))
   cases e0; cases e4; cases e5
   have hop:0 ≤ op ∧ op < 256:=by
    simp only [Lit.wf,IntKind.min,IntKind.max,IntKind.signed,IntKind.bits,bAt,dTe] at hop
    exact ⟨of_decide_eq_true hop.1,by have:=of_decide_eq_true hop.2; simp at this; omega⟩
   obtain ⟨k,rfl⟩:=Int.eq_ofNat_of_zero_le hop.1
   obtain ⟨tl,xl,tr,xr,rfl,k1,k2,k3,k4⟩:=hs1
   have hf0:=hf1
   have ht0:=ht1
   obtain ⟨o,fn,us,sub⟩:=f
   obtain ⟨ta,xa,tb,xb',rfl,_⟩:=hf1.mk
   obtain ⟨b,un,uu⟩:=t
   obtain ⟨tu,xu,rfl,_⟩:=ht1.mk
   refine ⟨.mk k s (.mk o fn us sub) (.mk b un uu) nm ts,.agg [.raw (.int .u8 k),.sl tl xl,.sl tr xr,.raw (.int .u8 o),.raw (.string fn),.sl ta xa,.sl tb xb',.raw (.bool b),.raw (.string un),.sl tu xu,.raw (.string nm),.sl tg xb],
    VL.cons (.raw _ trivial) (hvs.append (hvf.append (hvt.append (VL.cons hn (VL.cons hv VL.nil))))),?_,?_⟩
   ·simp only [IsTr]
    exact ⟨tl,xl,tr,xr,o,fn,ta,xa,tb,xb',b,un,tu,xu,tg,xb,rfl,by omega,k1,k2,k3,k4,hf0,ht0,htg,hts⟩
   ·have:=xJl (.mk o fn us sub)
    have:=xJk (.mk b un uu)
    simp only [List.map_cons,List.map_nil,uptoBulk,uptoBulkAll,wTr,Tr.steps]
    omega
end
end Go.Proofs.Tryz
namespace Go.Proofs.Tryz
open Go Go.Iv Go.ChangeShapes Go.RowKit
open Go.Proofs.YtckafgnkmnichaaGreatDoor
set_option maxRecDepth 8000
theorem uRow:prog.underlying 193 = some (.struct #[⟨ "right",4,0,false, "", "lyceum/syntax",0⟩,⟨ "schema",4,1,false, "", "lyceum/syntax",1⟩,⟨ "name",5,2,false, "", "lyceum/syntax",2⟩,⟨ "args",3,3,false, "", "lyceum/syntax",8⟩,⟨ "subs",3,4,false, "", "lyceum/syntax",16⟩]):=by kernel_rfl
theorem vWn:prog.underlying 194 = some (.array 17 193):=by kernel_rfl
theorem uInt:prog.underlying 3 = some (.int .i64):=by kernel_rfl
theorem nRow:prog.cellsOf 193 = 5:=by kernel_rfl
theorem uZ3:prog.cellsOf 194 = 85:=by kernel_rfl
theorem nInt:prog.cellsOf 3 = 1:=by kernel_rfl
theorem gRows:prog.globalNamed "lyceum/syntax.rows" = some 0:=by kernel_rfl
theorem gRowsT:(prog.globals[0]?).map (·.type) = some 194:=by kernel_rfl
theorem gPow:prog.globalNamed "internal/strconv.uint64pow10" = some 2:=by kernel_rfl
theorem gPowT:(prog.globals[2]?).map (·.type) = some 320:=by kernel_rfl
theorem uPow:prog.underlying 320 = some (.array 20 246):=by kernel_rfl
theorem uU64:prog.underlying 246 = some (.int .u64):=by kernel_rfl
theorem nPow:prog.cellsOf 320 = 20:=by kernel_rfl
theorem nU64:prog.cellsOf 246 = 1:=by kernel_rfl
section
variable {H:Type} {enc:TypeId × Value → H} {w:World} {spare:Nat → Bool} {held:Bool}
def rowD (op:Nat):DataW H:=.agg [.lit (.bool (yZc op)),.lit (.bool (zJ7 op)),.lit (.int .u8 (yXm op)),.lit (.int .i64 (yXg op)),.lit (.int .i64 (yXf op))]
def rowV (op:Nat):List Value:=[.bool (yZc op),.bool (zJ7 op),.int .u8 (yXm op),.int .i64 (yXg op),.int .i64 (yXf op)]
theorem xU2 {fuel:Nat} {cs:List Value} {op:Nat} {p:List MemPlace} (h:DataW.trod enc prog w 0 spare held fuel 193 cs = some (rowD op,p)):cs = rowV op:=by
 obtain ⟨ys,n,rfl,he,hl,hlen,hf⟩:=DataW.trod_struct uRow h
 match ys,hlen with
 | [y0,y1,y2,y3,y4],_ =>
  rw [nRow] at hl
  match cs,hl with
  | [c0,c1,c2,c3,c4],_ =>
   have h0:=hf 0 _ rfl
   have h1:=hf 1 _ rfl
   have h2:=hf 2 _ rfl
   have h3:=hf 3 _ rfl
   have h4:=hf 4 _ rfl
   simp only [vZ8,nU8,nInt,List.drop_zero,List.drop_succ_cons,List.take_succ_cons,List.take_zero,List.getElem?_cons_zero,List.getElem?_cons_succ] at h0 h1 h2 h3 h4
   obtain ⟨b0,e0,rfl⟩:=DataW.trod_bool xG9 h0
   obtain ⟨b1,e1,rfl⟩:=DataW.trod_bool xG9 h1
   obtain ⟨b2,e2,rfl,_⟩:=DataW.trod_int uU8 h2
   obtain ⟨b3,e3,rfl,_⟩:=DataW.trod_int uInt h3
   obtain ⟨b4,e4,rfl,_⟩:=DataW.trod_int uInt h4
   cases e0; cases e1; cases e2; cases e3; cases e4
   have he1:=congrArg Prod.fst he
   simp only [rowD,List.map_cons,List.map_nil,DataW.agg.injEq,List.cons.injEq,DataW.lit.injEq,Lit.bool.injEq,Lit.int.injEq,true_and,and_true] at he1
   obtain ⟨rfl,rfl,rfl,rfl,rfl⟩:=he1
   rfl
theorem xU1:(Rows.laid_lyceum_syntax_rows:DataW H) = .agg ((List.range 17).map rowD):=by rfl
theorem xWg {fuel:Nat} {cs:List Value} {p:List MemPlace} (h:DataW.trod enc prog w 0 spare held fuel 194 cs = some (Rows.laid_lyceum_syntax_rows,p)) :
  cs.length = 85 ∧ ∀ op,op < 17 → (cs.drop (op * 5)).take 5 = rowV op:=by
 obtain ⟨ys,n,rfl,he,hl,hlen,hf⟩:=DataW.trod_array vWn h
 rw [uZ3] at hl
 refine ⟨hl,fun op hop => ?_⟩
 have h1:=hf op hop
 rw [nRow] at h1
 have he1:=congrArg Prod.fst he
 rw [xU1] at he1
 simp only [DataW.agg.injEq] at he1
 have h2:(ys.map (·.1))[op]? = some (rowD op):=by
  rw [← he1,List.getElem?_map,List.getElem?_range hop]; rfl
 rw [List.getElem?_map] at h2
 obtain ⟨y,hy,hy2⟩:=Option.map_eq_some_iff.1 h2
 rw [hy] at h1
 obtain ⟨y1,y2⟩:=y
 simp only at hy2
 subst hy2
 exact xU2 h1
end
def gl0:Nat → Option IV
 | 0 => some (.agg rowsL)
 | 2 => some (.agg pow10L)
 | _ => none
theorem G0:Gl gl0:=⟨rfl⟩
theorem T0:Gt gl0:=⟨rfl⟩
def X0 (w:World):WS:={ w:=w,L:=L0 w,st:=fun _ => none,d:=0 }
theorem xZt {cs:List Value} (hl:cs.length = 85) (h:∀ op,op < 17 → (cs.drop (op * 5)).take 5 = rowV op) (i:Nat) (r:Value) (c:IV) (hr:cs[i]? = some r) (hc:rowsL[i]? = some c):c = .raw r ∧ zYa r:=by
 have hi:i < 85:=by have:=(lGs hr).1; omega
 have hop:i / 5 < 17:=by omega
 have e:i = i / 5 * 5 + i % 5:=by omega
 have hm:i % 5 < 5:=Nat.mod_lt _ (by decide)
 have h1:(rowV (i / 5))[i % 5]? = some r:=by
  rw [← h _ hop,List.getElem?_take,if_pos hm,List.getElem?_drop,← e]; exact hr
 have h2:(rowI (i / 5))[i % 5]? = some c:=by
  rw [← (zVm _ hop).2,List.getElem?_take,if_pos hm,List.getElem?_drop,← e]; exact hc
 generalize i % 5 = k at h1 h2 hm
 match k,hm with
 | 0,_ => cases h1; cases h2; exact ⟨rfl,trivial⟩
 | 1,_ => cases h1; cases h2; exact ⟨rfl,trivial⟩
 | 2,_ => cases h1; cases h2; exact ⟨rfl,trivial⟩
 | 3,_ => cases h1; cases h2; exact ⟨rfl,trivial⟩
 | 4,_ => cases h1; cases h2; exact ⟨rfl,trivial⟩
theorem uZl {W:World} (hL:laidMetH prog Rows.sequentPartsUptoRow.laid W):Go.Iv.Good ⟨prog,gl0,0⟩ (X0 W):=by
 obtain ⟨ps,hlv,_⟩:=(show laidMet prog _ W from hL)
 obtain ⟨_,_,_,_,_,_,_,_,_,_,hlv,_⟩:=hlv
 obtain ⟨_,_,_,_,_,_,_,_,_,_,hlv,_⟩:=hlv
 obtain ⟨g1,t1,cs1,f1,p1,q1,hg1,ht1,hv1,hd1,hlv,_⟩:=hlv
 obtain ⟨g2,t2,cs2,f2,p2,q2,hg2,ht2,hv2,hd2,_,_⟩:=hlv
 obtain rfl:=Option.some.inj (gPow.symm.trans hg1)
 obtain rfl:=Option.some.inj (gPowT.symm.trans ht1)
 obtain rfl:=Option.some.inj (gRows.symm.trans hg2)
 obtain rfl:=Option.some.inj (gRowsT.symm.trans ht2)
 have hc1:=Lib.cells_of_tab (zs:=Lib.pow10Tab) uPow uU64 nU64 nPow hd1
 have hc2:=xWg hd2
 have hb:∀ (n:String) (g:Nat) (cs:Array Value),prog.globalNamed n = some g → W.var? prog n = some cs → ∃ T f,W.heap[g]? = some (.cells cs T f):=by
  intro n g cs hn hv
  unfold World.var? at hv
  rw [hn,Option.bind_some] at hv
  split at hv
  ·rename_i c t f hh
   cases hv
   exact ⟨_,_,hh⟩
  ·cases hv
 obtain ⟨T1,fr1,hh1⟩:=hb _ _ _ gPow hv1
 obtain ⟨T2,fr2,hh2⟩:=hb _ _ _ gRows hv2
 have row:∀ (g:Nat) (cs:Array Value) (T:TypeId) (f:Nat × Nat) (xs:List IV),W.heap[g]? = some (.cells cs T f) → cs.size = xs.length → (∀ (i:Nat) (r:Value) (c:IV),cs.toList[i]? = some r → xs[i]? = some c → c = .raw r ∧ zYa r) →
   V 0 (L0 W) W (.pointer (some ⟨g,0,none⟩)) (.cptr (.agg xs)):=by
  intro g cs T f xs hh hl h
  refine .cptr _ _ cs.toList rfl (by simpa [IV.cells] using hl) ?_ (fun i r hr => ?_) (fun i r c hr hc => ?_)
  ·show 0 + cs.toList.length ≤ L0 W g
   simp [L0,hh]
  ·show W.cell? ⟨g,0 + i,none⟩ = some r
   simp only [World.cell?,hh,Nat.zero_add]
   simpa using hr
  ·obtain ⟨rfl,hk⟩:=h i r c hr hc
   exact .raw _ hk
 have hp:∀ (i:Nat) (r:Value) (c:IV),cs1.toList[i]? = some r → pow10L[i]? = some c → c = .raw r ∧ zYa r:=by
  intro i r c hr hc
  rw [hc1,List.getElem?_map] at hr
  unfold pow10L at hc
  rw [List.getElem?_map] at hc
  obtain ⟨z,hz,rfl⟩:=Option.map_eq_some_iff.1 hr
  rw [hz] at hc
  cases hc
  exact ⟨rfl,trivial⟩
 have hs1:cs1.size = pow10L.length:=by
  rw [← Array.length_toList,hc1]; simp [pow10L]
 have hs2:cs2.size = rowsL.length:=by
  rw [← Array.length_toList,hc2.1]; rfl
 refine ⟨fun b o h => (by cases h),fun g x hx => ?_,Nat.zero_le _,fun b hb => ?_,fun g x hx => ?_,fun _ => Nat.zero_le _⟩
 ·match g,hx with
  | 0,hx => cases hx; exact row 0 cs2 T2 fr2 _ hh2 hs2 (fun i r c hr hc => xZt hc2.1 hc2.2 i r c hr hc)
  | 2,hx => cases hx; exact row 2 cs1 T1 fr1 _ hh1 hs1 hp
 ·show L0 W b = 0
  unfold L0
  rw [Array.getElem?_eq_none (show W.heap.size ≤ b from hb)]
 ·match g,hx with
  | 0,hx => cases hx; exact ⟨T2,fr2 == (0,0),by show shq W 0 = _; simp [shq,hh2,hs2,IV.cells]⟩
  | 2,hx => cases hx; exact ⟨T1,fr1 == (0,0),by show shq W 2 = _; simp [shq,hh1,hs1,IV.cells]⟩
theorem xQz {W:World} {X':WS} (h:Ext (X0 W) X'):Below W.heap.size W X'.w :=
 ⟨h.os,h.tape,h.output,h.size,fun k hk => (h.keep k hk rfl).1⟩
theorem wYr:laidOutB prog = true:=by kernel_rfl
theorem yUt {H:Type} {enc:TypeId × Value → H} {W W':World} (hb:Below W.heap.size W W') (sp:Nat → Bool):∀ {ts:List TypeId} {vs:List Value} {ds:List (DataW H)} {ps:List MemPlace},
  (∀ t ∈ ts,prog.readableRec t = true ∧ t < prog.types.size) → DataW.TrodAll enc prog W 0 (fun _ => true) true ts vs ds ps → (∀ p ∈ ps,p.block < W.heap.size) → (∀ p ∈ ps,sp p.block = true) →
  DataW.TrodAll enc prog W' 0 sp true ts vs ds ps
 | [],vs,ds,ps,_,h,_,_ => by
  obtain ⟨rfl,rfl,rfl⟩:=trodAll_nil h
  rfl
 | t :: ts,vs,ds,ps,ht,h,hlt,hsp => by
  obtain ⟨v,vs1,d,ds1,a,b,rfl,rfl,rfl,h1,h2⟩:=trodAll_cons h
  refine ⟨a,b,WideElems.Trod_stays wYr (ht t (by simp)).1 (ht t (by simp)).2 h1 (fun p hp => hb.same (hlt p (by simp [hp]))) (fun p hp => hsp p (by simp [hp])),?_,rfl⟩
  exact yUt hb sp (fun t h => ht t (by simp [h])) h2 (fun p hp => hlt p (by simp [hp])) (fun p hp => hsp p (by simp [hp]))
theorem wJn {H:Type} {enc:TypeId × Value → H} {f:Func} {s:ChangeSpec} {fid:FuncId} {W:World} {args:Array Value} {ds gs:List (DataW H)} {before:List MemPlace} {ivs:List IV}
  (hvars:s.vars = []) (hW:DataW.Whole enc prog f.params.toList s.vars false W args.toList ds gs before) (hfn:s.fn H (ds ++ gs) = { results:=[.lit (.bool true)],args:=ds })
  (hres:f.resultTypes = #[4]) (hread:∀ t ∈ f.params.toList,prog.readableRec t = true ∧ t < prog.types.size) (hg:Go.Iv.Good ⟨prog,gl0,0⟩ (X0 W)) (hv:VL 0 (L0 W) W args.toList ivs)
  (hc:ICall prog gl0 fid ivs (fun _ => none) (fun r st' => r = .raw (.bool true) ∧ st' = fun _ => none)) :
  Calls prog fid args W fun e W' => ∃ v,e = .returned v ∧ s.post enc prog f false true false false W args v W':=by
 refine (hc 0 (X0 W) args.toList hg rfl hv).mono ?_
 rintro e W' ⟨v,rfl,X',x,rfl,hg',he,hx,rfl,_⟩
 obtain rfl:=V.raw_inv hx
 have hb:=xQz he
 refine ⟨_,rfl,?_⟩
 have hW':=hW
 obtain ⟨p,q,hA,hV,rfl,hz,_⟩:=hW
 rw [hvars] at hV
 have hgs:gs = [] ∧ q = []:=by
  cases gs with
  | nil => exact ⟨rfl,hV⟩
  | cons _ _ => exact absurd hV (by simp [DataW.TrodVars])
 obtain ⟨rfl,rfl⟩:=hgs
 have hlt:∀ x ∈ p,x.block < W.heap.size:=fun x hx => by simpa using hW'.lt x (by simpa using hx)
 have hargs:∀ sp:Nat → Bool,(∀ x ∈ p,sp x.block = true) → DataW.TrodAll enc prog X'.w 0 sp true f.params.toList args.toList (s.fn H (ds ++ [])).args p:=fun sp hsp => by
  rw [hfn]
  exact yUt hb sp hread hA hlt hsp
 have hr:∀ (b:Nat) (sp:Nat → Bool) (hd:Bool),DataW.TrodAll enc prog X'.w b sp hd f.resultTypes.toList ((Value.bool true).resultList f.resultTypes.size) (s.fn H (ds ++ [])).results []:=fun _ _ _ => by
  rw [hfn,hres]
  exact trodAll_cons_mk (shut_bool xG9 _) trodAll_mk0
 have hvs:∀ sp:Nat → Bool,DataW.TrodVars enc prog X'.w sp s.vars (s.fn H (ds ++ [])).vars []:=fun _ => by
  rw [hvars,hfn]; rfl
 have hsz:∀ x ∈ p,(fun b => decide (b < W.heap.size)) x.block = true:=fun x hx => by simpa using hlt x hx
 refine ⟨ds,[],p ++ [],[],p,[],hW',hr _ _ _,hargs _ hsz,hvs _,World.keptBut_mono (fun x hx => ⟨hx,Or.inr (by simpa using hx)⟩) (hb.frame (· ∈ p ++ [])),fun _ => ⟨ok_one hres rfl (okWide_bool_mk xG9 _),_,_,([] ++ p) ++ [],
  ⟨[] ++ p,[],trodAll_append (hargs _ (fun _ _ => rfl)) (hr _ _ _),hvs _,rfl,?_,fun h => by cases h⟩,fun x hx _ => by simpa using hx⟩⟩
 intro b off hp
 rw [hb.frozen (p:=⟨b,off,none⟩) (hlt (.cell b off) (by simpa using hp))]
 exact hz b off (by simpa using hp)
theorem wXe {W:World} {base:Nat} {v:Value} {t:Tr} {x:IV} (h:Value.okWide prog W .any base 32 v) (hx:VL 0 (L0 W) W v.cells.toList x.cells) (hf:IsTr t x):V 0 (L0 W) W v x:=by
 obtain ⟨cs,rfl,_⟩:=WideShapes.okWide_struct vQ9 h
 obtain ⟨_,_,_,_,_,_,_,_,_,_,_,_,_,_,_,_,_,_,rfl⟩:=yKd hf
 cases cs
 exact hx.agg
theorem wKg {α:Prop} {W:World} {base:Nat} {v:Value} (h:Value.okWide prog W .any base 5 v) (_:α):∃ b:Nat,v = .int .u8 b ∧ V 0 (L0 W) W (.int .u8 b) (.raw (.int .u8 b)) ∧ b < 256:=by
 simp only [Value.okWide,uU8,Cell.okWide] at h
 cases v <;> simp_all [Cell.ok]
 rename_i k n
 obtain ⟨rfl,h1,h2⟩:=h
 have e1:IntKind.u8.min = 0:=by decide
 have e2:IntKind.u8.max = 255:=by decide
 rw [e1] at h1
 rw [e2] at h2
 refine ⟨n.toNat,?_,?_,?_⟩
 ·omega
 ·exact .raw _ trivial
 ·omega
def tab32:List Int:=[0,1,28,2,29,14,24,3,30,22,20,15,25,17,4,8,31,27,13,23,21,19,16,7,26,12,18,6,11,5,10,9]
def tab64:List Int:=[0,1,56,2,57,49,28,3,61,58,42,50,38,29,17,4,62,47,59,36,45,43,51,22,53,39,33,30,24,18,12,5,63,55,48,27,60,41,37,16,46,35,44,21,52,32,23,11,54,26,40,15,34,20,31,10,25,14,19,9,13,8,7,6]
def lay (cs:List Value):Obj → Obj
 | .cells _ t frozen => .cells cs.toArray t frozen
 | o => o
noncomputable def zJl (os:Os):World :=
 { World.holding prog os ⟨#[],#[],[]⟩ with heap:=((((World.holding prog os ⟨#[],#[],[]⟩).heap.modify 0 (lay ((List.range 17).flatMap rowV))).modify 2 (lay (Lib.pow10Tab.map fun z => .int .u64 z))).modify 3 (lay (tab32.map fun z => .int .u8 z))).modify 4 (lay (tab64.map fun z => .int .u8 z)) }
theorem wJo (os:Os) (args:Array Value):laidMet prog Rows.sequentPartsUptoRow.laid ((zJl os).forCall (fun _ _ => 0) ⟨#[],args,[]⟩).memory :=
 laidMet_of_run' 8 (by kernel_rfl) (by kernel_rfl)
end Go.Proofs.Tryz
