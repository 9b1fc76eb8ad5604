/- Walks: the steps of a tree, one after th -/
import Derived.Test.YtjbhofcbleepiaaGreatDoorQA
import Derived.Test.YtjbhofcbleepiaaGreatDoorJI
import Derived.Test.YtjbhofcbleepiaaGreatDoorQB
import Derived.Test.YtjbhofcbleepiaaGreatDoorQD
import Derived.Test.YtjbhofcbleepiaaGreatDoorQC
import Derived.Test.YtjbhofcbleepiaaGreatDoorLD
import Derived.Test.YtjbhofcbleepiaaGreatDoorKE
import Derived.Test.YtjbhofcbleepiaaGreatDoorJM
import Derived.Test.YtjbhofcbleepiaaGreatDoorJW
import Derived.OpenShut
import Derived.WalkKit
import Derived.ProofKit
import Derived.Deep.DeepHandedRow
import Derived.Lib.LaidTab
import Derived.Carry
import Derived.RowKit
import Derived.RowKitTokens
import Derived.FnData
set_option linter.all false
namespace Go.Proofs.Tryz
open Go Go.Iv
set_option maxRecDepth 4000
variable (gl:Nat → Option IV)
def plI (p:List Nat):List IV:=p.map fun (i:Nat) => .raw (.int .i64 (i:Int))
theorem yV9 (p:List Nat):(plI p).length = p.length:=by simp [plI]
def emp:ISt:=fun _ => none
def PlV (p:List Nat) (a:IV) (e:ISt):Prop :=
 (∃ t,a = .sl t [] ∧ t.cap = .nil ∧ p = [] ∧ e = emp) ∨
 ∃ g cap cs,a = .raw (.slice (some ⟨g,0,none⟩) p.length cap) ∧ e = emp.put g (some (.box cs)) ∧ p.length ≤ cap ∧ cap ≤ cs.length ∧ cs.take p.length = plI p
def lkT (l:List (List Nat × Tr)) (k:Nat) (zs:List IV) (e:ISt):Prop:=∃ p t a x,l[k]? = some (p,t) ∧ IsTr t x ∧ PlV p a e ∧ zs = [a,.cptr x]
def xXw (b2 b3 b4:Nat):IV:=.fn (.func 117) [] [.raw (.pointer (some ⟨b2,0,none⟩)),.raw (.pointer (some ⟨b3,0,none⟩)),.raw (.pointer (some ⟨b4,0,none⟩))]
def ownF (b2 b3 b4:Nat) (fy a:IV):ISt:=((emp.put b2 (some (.box [fy]))).put b3 (some (.box [a]))).put b4 (some (.box [xXw b2 b3 b4]))
section
variable {b2 b3 b4:Nat} {fy a:IV}
theorem wV1 (h3:b2 ≠ b3) (h4:b2 ≠ b4):ownF b2 b3 b4 fy a b2 = some (.box [fy]):=by simp only [ownF,ISt.put_apply,if_neg h3,if_neg h4,if_true]
theorem yGu (h4:b3 ≠ b4):ownF b2 b3 b4 fy a b3 = some (.box [a]):=by simp only [ownF,ISt.put_apply,if_neg h4,if_true]
theorem zUo:ownF b2 b3 b4 fy a b4 = some (.box [xXw b2 b3 b4]):=by simp only [ownF,ISt.put_apply,if_true]
theorem xKb {c:Nat} (h2:c ≠ b2) (h3:c ≠ b3) (h4:c ≠ b4):ownF b2 b3 b4 fy a c = none:=by simp only [ownF,ISt.put_apply,if_neg h2,if_neg h3,if_neg h4,emp]
theorem zX9 {c:Nat} (a':IV):ownF b2 b3 b4 fy a c = none ↔ ownF b2 b3 b4 fy a' c = none:=by
 simp only [ownF,ISt.put_apply]
 by_cases h4:c = b4
 ·simp [h4]
 ·by_cases h3:c = b3
  ·subst h3; simp only [if_neg h4,if_true,reduceCtorEq]
  ·simp [h4,h3]
end
def xZ9 (b2 b3 b4:Nat) (fy:IV) (p:List Nat) (s stt:ISt):Prop:=∃ a e,PlV p a e ∧ disj s e ∧ disj (join s e) (ownF b2 b3 b4 fy a) ∧ stt = join (join s e) (ownF b2 b3 b4 fy a)
def FOkL (y:IV) (I:Nat → ISt → Prop) (S:ISt → Prop) (k0:Nat) (l:List (List Nat × Tr)):Prop :=
 ∀ i p t x a e stu,l[i]? = some (p,t) → IsTr t x → PlV p a e → disj stu e → I (k0 + i) stu →
  ICallV prog gl y [a,.cptr x] (join stu e) fun r st' => (r = .raw (.bool true) ∧ ∃ s1,I (k0 + i + 1) s1 ∧ disj s1 e ∧ st' = join s1 e) ∨ (r = .raw (.bool false) ∧ S st')
section
variable {gl} {y:IV} {I:Nat → ISt → Prop} {S:ISt → Prop} {k0:Nat}
theorem FOkL.left {l m:List (List Nat × Tr)} (h:FOkL gl y I S k0 (l ++ m)):FOkL gl y I S k0 l:=fun i p t x a e stu hi =>
 h i p t x a e stu (by rw [List.getElem?_append_left (lGs hi).1]; exact hi)
theorem FOkL.right {l m:List (List Nat × Tr)} (h:FOkL gl y I S k0 (l ++ m)):FOkL gl y I S (k0 + l.length) m:=fun i p t x a e stu hi hx hp hd hI => by
 have:=h (l.length + i) p t x a e stu (by rw [List.getElem?_append_right (by omega)]; simpa using hi) hx hp hd (by rw [← Nat.add_assoc]; exact hI)
 simpa only [Nat.add_assoc] using this
theorem FOkL.tail {z:List Nat × Tr} {m:List (List Nat × Tr)} (h:FOkL gl y I S k0 (z :: m)):FOkL gl y I S (k0 + 1) m:=FOkL.right (l:=[z]) h
end
section
variable {b2 b3 b4:Nat} {fy a a':IV} {p:List Nat} {s:ISt} {g:Nat}
theorem zYg {c:Nat} (h:c ≠ b3):ownF b2 b3 b4 fy a c = ownF b2 b3 b4 fy a' c:=by simp only [ownF,ISt.put_apply,if_neg h]
theorem xGw {cs:List IV} (h34:b3 ≠ b4) (hs:disj s (ownF b2 b3 b4 fy a)) (hg1:s g = none) (hg2:ownF b2 b3 b4 fy a g = none) (hp:PlV p a' (emp.put g (some (.box cs)))) :
  xZ9 b2 b3 b4 fy p s (((join s (ownF b2 b3 b4 fy a)).put g (some (.box cs))).put b3 (some (.box [a']))):=by
 have hg3:ownF b2 b3 b4 fy a' g = none:=(zX9 a').1 hg2
 refine ⟨a',_,hp,fun b hb => ?_,fun b hb => ?_,?_⟩
 ·rw [ISt.put_apply] at hb
  split at hb
  ·rename_i h; rw [h]; exact hg1
  ·exact absurd rfl hb
 ·have hbg:b ≠ g:=by rintro rfl; exact hb hg3
  have he:(emp.put g (some (.box cs))) b = none:=by rw [ISt.put_apply,if_neg hbg]; rfl
  rw [yZ1 he]
  exact hs b fun h => hb ((zX9 a').1 h)
 ·funext c
  by_cases h3:c = b3
  ·rw [ISt.put_apply,if_pos h3,h3,yQw (yGu h34)]
  ·rw [ISt.put_apply,if_neg h3,ISt.put_apply]
   by_cases hc:c = g
   ·rw [if_pos hc,hc,yZ1 hg3,yQw (ISt.put_same ..)]
   ·rw [if_neg hc]
    have he:(emp.put g (some (.box cs))) c = none:=by rw [ISt.put_apply,if_neg hc]; rfl
    cases ho:ownF b2 b3 b4 fy a c with
    | some o => rw [yQw ho,yQw ((zYg h3).symm.trans ho)]
    | none => rw [yZ1 ho,yZ1 ((zYg h3).symm.trans ho),yZ1 he]
theorem wYs {cs:List IV} (hd1:s g = none) (hd2:ownF b2 b3 b4 fy a g = none):(join (join s (emp.put g (some (.box cs)))) (ownF b2 b3 b4 fy a)).put g none = join s (ownF b2 b3 b4 fy a):=by
 funext c
 rw [ISt.put_apply]
 split
 ·rename_i h; rw [h,yZ1 hd2,hd1]
 ·rename_i h
  have he:(emp.put g (some (.box cs))) c = none:=by rw [ISt.put_apply,if_neg h]; rfl
  cases ho:ownF b2 b3 b4 fy a c with
  | some o => rw [yQw ho,yQw ho]
  | none => rw [yZ1 ho,yZ1 ho,yZ1 he]
end
theorem PlV.cons {p:List Nat} {k:Nat} {a:IV} {e:ISt} (h:PlV (p ++ [k]) a e):∃ g cap cs,a = .raw (.slice (some ⟨g,0,none⟩) (p.length + 1) cap) ∧ e = emp.put g (some (.box cs)) ∧ p.length + 1 ≤ cap ∧ cap ≤ cs.length ∧ cs.take p.length = plI p:=by
 rcases h with ⟨t,_,_,h,_⟩ | ⟨g,cap,cs,rfl,rfl,h1,h2,h3⟩
 ·simp at h
 ·rw [lLa] at h1 h3 ⊢
  refine ⟨g,cap,cs,rfl,rfl,h1,h2,?_⟩
  have:=congrArg (List.take p.length) h3
  rw [List.take_take,show min p.length (p.length + [k].length) = p.length by omega] at this
  rw [this]
  unfold plI
  rw [List.map_append,List.take_left' (by simp)]
theorem wKv {b2 b3 b4:Nat} {fy a a':IV} {X:ISt} (h34:b3 ≠ b4):(join X (ownF b2 b3 b4 fy a)).put b3 (some (.box [a'])) = join X (ownF b2 b3 b4 fy a'):=by
 funext c
 rw [ISt.put_apply]
 split
 ·rename_i h; rw [h,yQw (yGu h34)]
 ·rename_i h
  cases ho:ownF b2 b3 b4 fy a c with
  | some o => rw [yQw ho,yQw ((zYg h).symm.trans ho)]
  | none => rw [yZ1 ho,yZ1 ((zYg h).symm.trans ho)]
theorem zVm {n m:Nat} (h:n + 1 ≤ m):yXa none (some ((n:Nat):Int)) m = some (0,n):=by
 simp only [yXa,Option.getD_none,Option.getD_some]
 rw [if_pos ⟨Int.le_refl _,by omega,by omega⟩]; simp
theorem zW9:∀ {l:List Tr} {t:Tr},t ∈ l → t.height ≤ yX7 l
 | a :: l,t,h => by
  simp only [yX7]
  rcases List.mem_cons.1 h with rfl | h
  ·omega
  ·have:=zW9 h; omega
theorem zJr (x:Operand):yKn 1 [(0,x)] = true:=rfl
theorem yK8 (p:List Nat):∀ (i:Nat) (l m:List Tr),yZv p i (l ++ m) = yZv p i l ++ yZv p (i + l.length) m
 | i,[],m => by simp [yZv]
 | i,a :: l,m => by
  simp only [List.cons_append,yZv,yK8 p (i + 1) l m,List.append_assoc,List.length_cons]
  rw [show i + 1 + l.length = i + (l.length + 1) by omega]
def FF (t:Tr):Prop:=∀ (x:IV) (_:IsTr t x) (b2 b3 b4:Nat) (_:b2 ≠ b3) (_:b2 ≠ b4) (_:b3 ≠ b4) (g:Fn) (fi ca:List IV) (_:fnOk g = true) (_:∀ i,g = .func i → entI prog i = true) (I:Nat → ISt → Prop) (S:ISt → Prop) (k0:Nat) (p:List Nat)
  (_:FOkL gl (.fn g fi ca) I S k0 (t.walk p)) (_:p.length + t.height ≤ 1099511627776) (s stt:ISt) (_:I k0 s) (_:xZ9 b2 b3 b4 (.fn g fi ca) p s stt),
  ICall prog gl 117 [.cptr x,.raw (.pointer (some ⟨b2,0,none⟩)),.raw (.pointer (some ⟨b3,0,none⟩)),.raw (.pointer (some ⟨b4,0,none⟩))] stt
   (fun r st' => (r = .raw (.bool true) ∧ ∃ s1,I (k0 + (t.walk p).length) s1 ∧ xZ9 b2 b3 b4 (.fn g fi ca) p s1 st') ∨ (r = .raw (.bool false) ∧ ∃ s1,S s1 ∧ subSt s1 st'))
theorem wQc (rule:Nat) (sq:Sq) (f:Fm) (u:Tm) (n:ByteArray) (sub:List Tr) (IH:∀ a ∈ sub,FF gl a):FF gl (.mk rule sq f u n sub):=by
 intro x hx b2 b3 b4 h23 h24 h34 g fi ca hfn hent I S k0 p hy hdeep s stt hI hst
 have hx0:=hx
 obtain ⟨tl,xl,tr,xr,op,fn,ta,xa,tb,xb,v,un,tu,xu,ts,xs,hxe,hru,_,_,_,_,_,_,e3,i3⟩:=hx.mk
 obtain ⟨a,e,hp,hd1,hd2,rfl⟩:=hst
 simp only [Tr.walk] at hy ⊢
 have hhead:=hy 0 p _ _ a e s rfl hx0 hp hd1 hI
 have hy':=FOkL.tail hy
 have r2:join (join s e) (ownF b2 b3 b4 (.fn g fi ca) a) b2 = some (.box [.fn g fi ca]):=yQw (wV1 h23 h24)
 have r3:join (join s e) (ownF b2 b3 b4 (.fn g fi ca) a) b3 = some (.box [a]):=yQw (yGu h34)
 refine ICall.intro (c:=cf prog gl [23,24] []) func117 rfl (by show _ ≤ 39; simp) (by kernel_rfl) ?_
 have hiv:ivOf (.iv a) = some a:=by rcases hp with ⟨t,rfl,_⟩ | ⟨g,cap,cs,rfl,_⟩ <;> rfl
 rw [hxe] at hhead
 simp -implicitDefEqProofs -dsimp only [go_sem,r2,r3,hiv,hxe]
 refine yJ0 hent (hhead.frame hd2 |>.mono ?_)
 rintro r stt ⟨s2,hd3,rfl,(⟨rfl,s3,hI3,hd4,rfl⟩ | ⟨rfl,hS⟩)⟩
 ·simp -implicitDefEqProofs -dsimp only [go_sem,i3.len,hxe]
  intro hlen
  refine LoopC.ctr sub.length (fun k fr st' ds => (∃ s,I (k0 + 1 + (yZv p 0 (sub.take k)).length) s ∧ xZ9 b2 b3 b4 (.fn g fi ca) p s st') ∧ fr 0 = .iv (.cptr x) ∧ fr 1 = .iv (.raw (.pointer (some ⟨b2,0,none⟩))) ∧ fr 2 = .iv (.raw (.pointer (some ⟨b3,0,none⟩))) ∧ fr 3 = .iv (.raw (.pointer (some ⟨b4,0,none⟩))) ∧ fr 16 = .iv (.raw (.int .i64 sub.length)) ∧ fr 17 = .iv (.raw (.int .i64 k)) ∧ ds = []) ?_ ?_ ?_
  ·simp -implicitDefEqProofs -dsimp only [go_sem,hxe]
   exact ⟨⟨s3,by simpa [yZv] using hI3,a,e,hp,hd4,hd3,rfl⟩,rfl⟩
  ·rintro k fr st1 _ hlt ⟨⟨s,hI,a,e,hp,hd1,hd2,rfl⟩,f0,f1,f2,f3,f16,f17,rfl⟩
   rw [hxe] at f0
   obtain ⟨t,ht⟩:=yQ3 hlt
   obtain ⟨z,hkz,hz⟩:=i3.get ht
   have r3:join (join s e) (ownF b2 b3 b4 (.fn g fi ca) a) b3 = some (.box [a]):=yQw (yGu h34)
   have hth:=zW9 (lMg ht)
   simp only [Tr.height] at hdeep
   have hsplit:yZv p 0 sub = yZv p 0 (sub.take k) ++ (t.walk (p ++ [k]) ++ yZv p (k + 1) (sub.drop (k + 1))):=by
    conv => lhs; rw [← List.take_append_drop k sub,List.drop_eq_getElem_cons hlt]
    rw [yK8,(lGs ht).2,show (sub.take k).length = k by rw [List.length_take]; omega]
    simp only [yZv,Nat.zero_add]
   have hya:=hy'
   rw [hsplit] at hya
   have hcall:=fun stt hF => IH t (lMg ht) z hz b2 b3 b4 h23 h24 h34 g fi ca hfn hent I S _ (p ++ [k]) (FOkL.left (FOkL.right hya)) (by rw [lLa]; simp only [List.length_singleton]; omega) s stt hI hF
   have wcut:IntKind.i64.wrap (((p.length + 1:Nat):Int) - 1) = (p.length:Nat):=by rw [w64 (by omega) (by omega)]; omega
   have hz':∃ c0 c1 c2 c3 c4 c5 c6 c7 c8 c9 c10 c11,z = .agg [c0,c1,c2,c3,c4,c5,c6,c7,c8,c9,c10,c11]:=by
    obtain ⟨r',s',m',t',n',b'⟩:=t
    obtain ⟨tl',xl',tr',xr',op',fn',ta',xa',tb',xb',v',un',tu',xu',ts',xs',rfl,_⟩:=hz.mk
    exact ⟨_,_,_,_,_,_,_,_,_,_,_,_,rfl⟩
   obtain ⟨c0,c1,c2,c3,c4,c5,c6,c7,c8,c9,c10,c11,rfl⟩:=hz'
   rcases hp with ⟨t0,rfl,hta,hp0,rfl⟩ | ⟨g',cap,cs,rfl,rfl,hc1,hc2,hc3⟩
   ·obtain ⟨fs,c,es⟩:=t0
    obtain rfl:c = .nil:=hta
    have hje:join s emp = s:=rfl
    rw [hje] at r3 hd2 ⊢
    simp -implicitDefEqProofs -dsimp only [go_sem,f0,f1,f2,f3,f16,f17,lt_i hlt,r3,hxe,zJr]
    intro g' cap
    refine yQh fun hg => ?_
    obtain ⟨hg,hcap⟩:=hg
    change join s (ownF b2 b3 b4 (.fn g fi ca) (.sl ⟨fs,.nil,es⟩ [])) g' = none at hg
    have hd2':disj s (ownF b2 b3 b4 (.fn g fi ca) (.sl ⟨fs,.nil,es⟩ [])):=hd2
    have hg2:ownF b2 b3 b4 (.fn g fi ca) (.sl ⟨fs,.nil,es⟩ []) g' = none:=by
     cases ho:ownF b2 b3 b4 (.fn g fi ca) (.sl ⟨fs,.nil,es⟩ []) g' with
     | none => rfl
     | some o => rw [yQw ho] at hg; cases hg
    have hg1:s g' = none:=by rw [← yZ1 (stu:=s) hg2]; exact hg
    have hb3:b3 ≠ g':=by rintro rfl; rw [yGu h34] at hg2; cases hg2
    have hF:=xGw (fy:=.fn g fi ca) (p:=p ++ [k]) (a':=.raw (.slice (some ⟨g',0,none⟩) 1 cap)) (cs:=.raw (.int .i64 k) :: List.replicate (cap - 1) .junk) h34 hd2' hg1 hg2 (.inr ⟨g',cap,_,by rw [hp0]; rfl,rfl,by simpa [hp0] using hcap,by simp; omega,by simp [plI,hp0]⟩)
    have hb4:b4 ≠ g':=by rintro rfl; rw [zUo] at hg2; cases hg2
    have r3':∀ o,((join s (ownF b2 b3 b4 (.fn g fi ca) (.sl ⟨fs,.nil,es⟩ []))).put g' o) b3 = some (.box [.sl ⟨fs,.nil,es⟩ []]):=fun o => by rw [ISt.put_apply,if_neg hb3]; exact r3
    have r4':∀ o o',(((join s (ownF b2 b3 b4 (.fn g fi ca) (.sl ⟨fs,.nil,es⟩ []))).put g' o).put b3 o') b4 = some (.box [xXw b2 b3 b4]):=fun o o' => by rw [ISt.put_apply,if_neg h34.symm,ISt.put_apply,if_neg hb4]; exact yQw zUo
    simp -implicitDefEqProofs -dsimp only [go_sem,IV.one,List.flatMap_cons,List.flatMap_nil,IV.cells,Nat.mul_one,r3',r4',f0,f1,f2,f3,f16,f17,hxe,hkz,yQ2 e3,lt_i hlt,iNn,fits,xXw]
    refine (hcall _ hF).mono ?_
    rintro _ st2 (⟨rfl,s1,hI1,hF1⟩ | ⟨rfl,s1,hS1,hsub1⟩)
    ·obtain ⟨a2,e2,hp2,hd5,hd6,rfl⟩:=hF1
     obtain ⟨g3,cap3,cs3,rfl,rfl,hc4,hc5,hc6⟩:=hp2.cons
     have r6:join (join s1 (emp.put g3 (some (.box cs3)))) (ownF b2 b3 b4 (.fn g fi ca) (.raw (.slice (some ⟨g3,0,none⟩) (p.length + 1) cap3))) b3 = some (.box [.raw (.slice (some ⟨g3,0,none⟩) (p.length + 1) cap3)]):=yQw (yGu h34)
     simp -implicitDefEqProofs -dsimp only [go_sem,IV.one,r6,f0,f1,f2,f3,f16,f17,wcut,zVm hc4,ite_self,Nat.zero_mul,hc4,yQa hlt (show sub.length ≤ 281474976710656 by omega)]
     refine ⟨s1,?_,?_⟩
     ·rw [yQ5 ht,yK8,lLa,show (sub.take k).length = k by rw [List.length_take]; omega]
      simp only [yZv,List.append_nil,Nat.zero_add]
      rw [← Nat.add_assoc]; exact hI1
     ·rw [wKv h34]
      exact ⟨_,_,.inr ⟨g3,cap3,cs3,rfl,rfl,by omega,hc5,hc6⟩,hd5,fun b hb => hd6 b fun h => hb ((zX9 _).1 h),rfl⟩
    ·simp -implicitDefEqProofs -dsimp only [go_sem]
     exact yQ0 (.inr ⟨rfl,s1,hS1,hsub1⟩)
   ·have ho:ownF b2 b3 b4 (.fn g fi ca) (.raw (.slice (some ⟨g',0,none⟩) p.length cap)) g' = none:=by
     cases ho:ownF b2 b3 b4 (.fn g fi ca) (.raw (.slice (some ⟨g',0,none⟩) p.length cap)) g' with
     | none => rfl
     | some o =>
      have:=hd2 g' (by rw [ho]; simp)
      rw [yQw (ISt.put_same ..)] at this
      cases this
    have hs1:s g' = none:=hd1 g' (by rw [ISt.put_same]; simp)
    have r5:join (join s (emp.put g' (some (.box cs)))) (ownF b2 b3 b4 (.fn g fi ca) (.raw (.slice (some ⟨g',0,none⟩) p.length cap))) g' = some (.box cs):=by
     rw [yZ1 ho,yQw (ISt.put_same ..)]
    simp -implicitDefEqProofs -dsimp only [go_sem,f0,f1,f2,f3,f16,f17,lt_i hlt,r3,hxe,zJr]
    refine zZc _ _ _ r5 (by simp [fits,IV.one]) ⟨by show (_ + 1) * 8 ≤ _; omega,by show _ + 1 ≤ _; omega⟩ ⟨hc1,by show _ * 1 ≤ _; omega⟩ (by simp [IV.cells]) ?_
    intro g2 cap2 cs2 hg2 k1 k2 k3
    rw [wYs hs1 ho]
    have hgo:s g2 = none ∧ ownF b2 b3 b4 (.fn g fi ca) (.raw (.slice (some ⟨g',0,none⟩) p.length cap)) g2 = none:=by
     rcases hg2 with rfl | hg2
     ·exact ⟨hs1,ho⟩
     ·cases hq:ownF b2 b3 b4 (.fn g fi ca) (.raw (.slice (some ⟨g',0,none⟩) p.length cap)) g2 with
      | some o => rw [yQw hq] at hg2; cases hg2
      | none =>
       rw [yZ1 hq] at hg2
       refine ⟨?_,rfl⟩
       cases hz:s g2 with
       | none => rfl
       | some o => rw [yJe hd1 g2 o hz] at hg2; cases hg2
    have hs2:disj s (ownF b2 b3 b4 (.fn g fi ca) (.raw (.slice (some ⟨g',0,none⟩) p.length cap))):=fun b hb => by
     have:=hd2 b hb
     cases hz:s b with
     | none => rfl
     | some o => rw [yJe hd1 b o hz] at this; cases this
    have hF:=xGw (fy:=.fn g fi ca) (p:=p ++ [k]) (a':=.raw (.slice (some ⟨g2,0,none⟩) (p.length + 1) cap2)) (cs:=cs2) h34 hs2 hgo.1 hgo.2 (.inr ⟨g2,cap2,cs2,by simp,rfl,by simpa using k1,by simpa using k2,by
     simp only [Nat.mul_one] at k3
     rw [lLa]
     exact k3.trans (by rw [hc3]; simp [plI,IV.cells])⟩)
    have hb3:b3 ≠ g2:=by rintro rfl; have:=hgo.2; rw [yGu h34] at this; cases this
    have hb4:b4 ≠ g2:=by rintro rfl; have:=hgo.2; rw [zUo] at this; cases this
    have r3':∀ o,((join s (ownF b2 b3 b4 (.fn g fi ca) (.raw (.slice (some ⟨g',0,none⟩) p.length cap)))).put g2 o) b3 = some (.box [.raw (.slice (some ⟨g',0,none⟩) p.length cap)]):=fun o => by rw [ISt.put_apply,if_neg hb3]; exact yQw (yGu h34)
    have r4':∀ o o',(((join s (ownF b2 b3 b4 (.fn g fi ca) (.raw (.slice (some ⟨g',0,none⟩) p.length cap)))).put g2 o).put b3 o') b4 = some (.box [xXw b2 b3 b4]):=fun o o' => by rw [ISt.put_apply,if_neg h34.symm,ISt.put_apply,if_neg hb4]; exact yQw zUo
    simp -implicitDefEqProofs -dsimp only [go_sem,IV.one,List.flatMap_cons,List.flatMap_nil,IV.cells,Nat.mul_one,r3',r4',f0,f1,f2,f3,f16,f17,hxe,hkz,yQ2 e3,lt_i hlt,iNn,fits,xXw]
    refine (hcall _ hF).mono ?_
    rintro _ st2 (⟨rfl,s1,hI1,hF1⟩ | ⟨rfl,s1,hS1,hsub1⟩)
    ·obtain ⟨a2,e2,hp2,hd5,hd6,rfl⟩:=hF1
     obtain ⟨g3,cap3,cs3,rfl,rfl,hc4,hc5,hc6⟩:=hp2.cons
     have r6:join (join s1 (emp.put g3 (some (.box cs3)))) (ownF b2 b3 b4 (.fn g fi ca) (.raw (.slice (some ⟨g3,0,none⟩) (p.length + 1) cap3))) b3 = some (.box [.raw (.slice (some ⟨g3,0,none⟩) (p.length + 1) cap3)]):=yQw (yGu h34)
     simp -implicitDefEqProofs -dsimp only [go_sem,IV.one,r6,f0,f1,f2,f3,f16,f17,wcut,zVm hc4,ite_self,Nat.zero_mul,hc4,yQa hlt (show sub.length ≤ 281474976710656 by omega)]
     refine ⟨s1,?_,?_⟩
     ·rw [yQ5 ht,yK8,lLa,show (sub.take k).length = k by rw [List.length_take]; omega]
      simp only [yZv,List.append_nil,Nat.zero_add]
      rw [← Nat.add_assoc]; exact hI1
     ·rw [wKv h34]
      exact ⟨_,_,.inr ⟨g3,cap3,cs3,rfl,rfl,by omega,hc5,hc6⟩,hd5,fun b hb => hd6 b fun h => hb ((zX9 _).1 h),rfl⟩
    ·simp -implicitDefEqProofs -dsimp only [go_sem]
     exact yQ0 (.inr ⟨rfl,s1,hS1,hsub1⟩)
  ·rintro fr st1 _ ⟨⟨s,hI,hF⟩,f0,f1,f2,f3,f16,f17,rfl⟩
   rw [lTl] at hI
   simp -implicitDefEqProofs -dsimp only [go_sem,f16,f17,yQn (nLi _)]
   refine yQ0 (.inl ⟨rfl,s,?_,hF⟩)
   rw [show k0 + ((yZv p 0 sub).length + 1) = k0 + 1 + (yZv p 0 sub).length by omega]
   exact hI
 ·simp -implicitDefEqProofs -dsimp only [go_sem]
  exact yQ0 (.inr ⟨rfl,s2,hS,yJe hd3⟩)
theorem xV3:∀ (k:Nat) (t:Tr),SizeOf.sizeOf t < k → FF gl t
 | 0,t,h => by omega
 | k + 1,.mk r sq f u n sub,h => wQc gl r sq f u n sub (fun a ha => xV3 k a (by
   have:=lSm ha
   simp at h; omega))
theorem vZd (t:Tr):FF gl t:=xV3 gl _ t (Nat.lt_succ_self _)
theorem wZx (t:Tr) (x:IV) (hx:IsTr t x) (hd:t.height ≤ 1099511627776) (I:Nat → ISt → Prop):wKc prog gl 116 [] [.cptr (.cptr x)] (lkT (t.walk [])) (t.walk []).length I:=by
 rintro y I' S' st ⟨g,fi,ca,rfl,hfn,hent⟩ _ hy h0
 have hfrom:=vZd gl t x hx
 have hok:FOkL gl (.fn g fi ca) I' S' 0 (t.walk []):=fun i p t x a e stu hi ht hp hdj hI => by
  rw [Nat.zero_add] at hI ⊢
  exact hy i [a,.cptr x] e stu ⟨p,t,a,x,hi,ht,hp,rfl⟩ hdj hI
 have hz':∃ c0 c1 c2 c3 c4 c5 c6 c7 c8 c9 c10 c11,x = .agg [c0,c1,c2,c3,c4,c5,c6,c7,c8,c9,c10,c11]:=by
  obtain ⟨r',s',m',t',n',b'⟩:=t
  obtain ⟨tl',xl',tr',xr',op',fn',ta',xa',tb',xb',v',un',tu',xu',ts',xs',rfl,_⟩:=hx.mk
  exact ⟨_,_,_,_,_,_,_,_,_,_,_,_,rfl⟩
 obtain ⟨c0,c1,c2,c3,c4,c5,c6,c7,c8,c9,c10,c11,rfl⟩:=hz'
 change ICall prog gl _ [.fn g fi ca,_] st _
 refine ICall.intro (c:=cf prog gl [2,3,4] []) func116 rfl (by show _ ≤ 9; simp) (by kernel_rfl) ?_
 simp -implicitDefEqProofs -dsimp only [go_sem,fits]
 intro b2
 refine yQh fun hb2 => ?_
 intro b3
 refine yQh fun hb3 => ?_
 intro b4
 refine yQh fun hb4 => ?_
 have h23:b2 ≠ b3:=by rintro rfl; rw [ISt.put_same] at hb3; cases hb3
 have h34:b3 ≠ b4:=by rintro rfl; rw [ISt.put_same] at hb4; cases hb4
 have h24:b2 ≠ b4:=by rintro rfl; rw [ISt.put_apply,if_neg h23,ISt.put_same] at hb4; cases hb4
 rw [ISt.put_apply,if_neg h23.symm] at hb3
 rw [ISt.put_apply,if_neg h34.symm,ISt.put_apply,if_neg h24.symm] at hb4
 have hF:xZ9 b2 b3 b4 (.fn g fi ca) [] st ((((st.put b2 (some (.box [.fn g fi ca]))).put b3 (some (.box [.sl ⟨true,.nil,0⟩ []]))).put b4 (some (.box [.raw .nilFunc]))).put b4 (some (.box [xXw b2 b3 b4]))):=by
  refine ⟨_,emp,.inl ⟨⟨true,.nil,0⟩,rfl,rfl,rfl,rfl⟩,fun b hb => absurd rfl hb,fun b hb => ?_,?_⟩
  ·show st b = none
   by_cases q4:b = b4
   ·rw [q4]; exact hb4
   ·by_cases q3:b = b3
    ·rw [q3]; exact hb3
    ·by_cases q2:b = b2
     ·rw [q2]; exact hb2
     ·exact absurd (xKb q2 q3 q4) hb
  ·funext c
   by_cases q4:c = b4
   ·rw [q4,ISt.put_same,yQw zUo]
   ·rw [ISt.put_apply,if_neg q4,ISt.put_apply,if_neg q4]
    by_cases q3:c = b3
    ·rw [q3,ISt.put_same,yQw (yGu h34)]
    ·rw [ISt.put_apply,if_neg q3]
     by_cases q2:c = b2
     ·rw [q2,ISt.put_same,yQw (wV1 h23 h24)]
     ·rw [ISt.put_apply,if_neg q2,yZ1 (xKb q2 q3 q4)]; rfl
 refine (hfrom b2 b3 b4 h23 h24 h34 g fi ca hfn hent I' S' 0 [] hok (by simpa using hd) st _ h0 hF).mono ?_
 rintro r stt (⟨rfl,s1,hI1,a,e,_,hd1,hd2,rfl⟩ | ⟨rfl,s1,hS1,hsub⟩)
 ·simp -implicitDefEqProofs -dsimp only [go_sem]
  rw [Nat.zero_add] at hI1
  exact yQb ((yJe hd1).trans (yJe hd2)) (.inl hI1)
 ·simp -implicitDefEqProofs -dsimp only [go_sem]
  exact yQb hsub (.inr hS1)
theorem wW8 (x:IV) (st:ISt) (t:Tr) (hx:IsTr t x):ICall prog gl 71 [.cptr x] st (fun r st' => r = .fn (.func 116) [] [.cptr (.cptr x)] ∧ st' = st):=by
 have hz':∃ c0 c1 c2 c3 c4 c5 c6 c7 c8 c9 c10 c11,x = .agg [c0,c1,c2,c3,c4,c5,c6,c7,c8,c9,c10,c11]:=by
  obtain ⟨r',s',m',t',n',b'⟩:=t
  obtain ⟨tl',xl',tr',xr',op',fn',ta',xa',tb',xb',v',un',tu',xu',ts',xs',rfl,_⟩:=hx.mk
  exact ⟨_,_,_,_,_,_,_,_,_,_,_,_,rfl⟩
 obtain ⟨c0,c1,c2,c3,c4,c5,c6,c7,c8,c9,c10,c11,rfl⟩:=hz'
 refine ICall.intro (c:=cf prog gl [] [] [1]) func71 rfl (by show _ ≤ 4; simp) (by kernel_rfl) ?_
 simp -implicitDefEqProofs -dsimp only [go_sem,fits]
 exact yQ0 ⟨rfl,rfl⟩
theorem wZp (t:Tag) (ht:t.cap = .nil) (st:ISt):ICall prog gl 73 [.sl t []] st (fun r st' => (∃ t',r = .sl t' (plI []) ∧ okEs t' 1) ∧ st' = st):=by
 obtain ⟨fs,c,es⟩:=t
 obtain rfl:c = .nil:=ht
 refine iI func73 rfl rfl (by kernel_rfl) ?_
 have hb:binV prog 50 .eql (.sl ⟨fs,.nil,es⟩ []) (.sl ⟨true,.nil,0⟩ []) = some (.raw (.bool true)):=by
  have:zQ7 prog 50 = true:=by kernel_rfl
  simp [binV,zKy,this]
 simp -implicitDefEqProofs -dsimp only [go_sem,fits,hb]
 exact yQ0 ⟨⟨_,rfl,.inl rfl⟩,rfl⟩
theorem wZq (g:Nat) (p:List Nat) (hp:p ≠ []) (hl:p.length ≤ 1099511627776) (st:ISt):ICall prog gl 73 [.sl ⟨false,.app g,1⟩ (plI p)] st (fun r st' => (∃ t',r = .sl t' (plI p) ∧ okEs t' 1) ∧ st' = st):=by
 obtain ⟨i,p,rfl⟩:∃ i q,p = i :: q:=by
  cases p with
  | nil => exact absurd rfl hp
  | cons i q => exact ⟨i,q,rfl⟩
 refine iI func73 rfl rfl (by kernel_rfl) ?_
 have hb:binV prog 50 .eql (.sl ⟨false,.app g,1⟩ (plI (i :: p))) (.sl ⟨true,.nil,0⟩ []) = some (.raw (.bool false)):=by
  have:zQ7 prog 50 = true:=by kernel_rfl
  simp [binV,zKy,plI,this]
 have hf:(plI (i :: p)).all (fits false 1) = true:=by simp [plI,fits,IV.one]
 simp only [List.length_cons] at hl
 have he:plI (i :: p) = .raw (.int .i64 (i:Int)) :: plI p:=rfl
 have hpl:=yV9 p
 have hf':(plI p).all (fits false 1) = true:=by simp [plI,fits,IV.one]
 rw [he] at hb hf ⊢
 simp -implicitDefEqProofs -dsimp only [go_sem,fits,hb]
 exact yQt rfl (yQt hf' (yQt ⟨by omega,by omega⟩ fun g' => yQh fun hg => yQb (yQe hg) ⟨⟨_,rfl,.inr rfl⟩,rfl⟩))
theorem xYb {R:Rt} {st:ISt} {ds:List Dfd} (esc:List Nat) (dst:Option Nat) (e:TypeId × Bool × Nat × Nat) (fs:Bool) (es:Nat) (xs:List IV):appV esc dst e ⟨fs,.full,es⟩ xs [] R st ds =
 chk (([]:List IV).all (fits e.2.1 e.2.2.1) = true) (chk ((xs.length + 0) * e.2.2.2 ≤ 140737488355328 ∧ xs.length + 0 ≤ 140737488355328) (chk (es = e.2.2.1) (R (.val (.sl ⟨fs,.full,es⟩ xs)) st ds))):=rfl
theorem xYk (g:Nat) (st:ISt):ICall prog gl 73 [.sl ⟨false,.app g,1⟩ (plI [])] st (fun r st' => (∃ t',r = .sl t' (plI []) ∧ okEs t' 1) ∧ st' = st):=by
 have hb:binV prog 50 .eql (.sl ⟨false,.app g,1⟩ (plI [])) (.sl ⟨true,.nil,0⟩ []) = some (.raw (.bool false)):=by
  have:zQ7 prog 50 = true:=by kernel_rfl
  simp [binV,zKy,plI,this]
 rw [show plI [] = [] from rfl] at hb ⊢
 refine iI func73 rfl rfl (by kernel_rfl) ?_
 simp -implicitDefEqProofs -dsimp only [go_sem,fits,hb,xYb]
 exact yQt rfl (yQ0 ⟨⟨_,rfl,.inr rfl⟩,rfl⟩)
theorem wQ0 {s e:ISt} (h:disj s e):join s e = join e s:=by
 funext b
 cases he:e b with
 | none =>
  rw [yZ1 he]
  cases hs:s b with
  | none => rw [yZ1 hs,he]
  | some o => rw [yQw hs]
 | some o => rw [yQw he,yZ1 (h b (by rw [he]; simp)),he]
theorem xVi:∀ p:List Nat,ages (plI p) = plI p
 | [] => by simp only [plI,List.map_nil,ages]
 | i :: p => by
  have:=xVi p
  simp only [plI,List.map_cons,ages,age] at this ⊢
  rw [this]
theorem xK8:∀ p:List Nat,(plI p).flatMap IV.cells = plI p
 | [] => rfl
 | i :: p => by
  have:=xK8 p
  simp only [plI,List.map_cons,List.flatMap_cons,IV.cells,List.singleton_append] at this ⊢
  rw [this]
theorem wGg (p:List Nat) (a:IV) (e s:ISt) (hp:PlV p a e) (hl:p.length ≤ 1099511627776) (hd:disj s e):ICall prog gl 73 [a] (join s e) (fun r st' => (∃ t',r = .sl t' (plI p) ∧ okEs t' 1) ∧ st' = s):=by
 have key:ICall prog gl 73 [a] e (fun r st' => (∃ t',r = .sl t' (plI p) ∧ okEs t' 1) ∧ st' = emp):=by
  rcases hp with ⟨t,rfl,ht,rfl,rfl⟩ | ⟨g,cap,cs,rfl,rfl,h1,h2,h3⟩
  ·exact wZp gl t ht emp
  ·have hnb:yYj (emp.put g (some (.box cs))) = emp:=by
    funext b
    by_cases hb:b = g
    ·rw [hb,zQ2 (ISt.put_same ..)]; rfl
    ·have:(emp.put g (some (.box cs))) b = none:=by rw [ISt.put_apply,if_neg hb]; rfl
     rw [yW2 (fun cs' h => by rw [this] at h; cases h),this]; rfl
   refine ICall.freeze (args':=[.sl ⟨false,.app g,1⟩ (plI p)]) ⟨_,_,rfl,.inr ⟨.sl ⟨true,.app g,1⟩ (plI p),?_,?_⟩,rfl⟩ ?_
   ·rw [← yV9 p]
    refine .sl g cap ⟨true,.app g,1⟩ (plI p) cs rfl (by rw [yV9]; omega) (by rw [yV9]; exact h1) (fun x hx => ?_) (ISt.put_same ..) (by simpa using h2) fun i r c hr hc => ?_
    ·obtain ⟨i,_,rfl⟩:=List.mem_map.1 hx
     rfl
    ·rw [xK8 p] at hc
     have hi:i < p.length:=by
      have:=(lGs hc).1
      rwa [yV9] at this
     have:(cs.take p.length)[i]? = cs[i]?:=by rw [List.getElem?_take,if_pos hi]
     rw [h3,hc,hr] at this
     cases this
     exact .refl _
   ·simp only [age,xVi]
   ·rw [hnb]
    by_cases hpn:p = []
    ·subst hpn; exact xYk gl g emp
    ·exact wZq gl g p hpn hl emp
 have h1:=key.frame (own:=s) (fun b hb => by
  cases he:e b with
  | none => rfl
  | some o => exact absurd (hd b (by rw [he]; simp)) hb)
 rw [wQ0 hd]
 refine h1.mono ?_
 rintro r st' ⟨stu,_,rfl,hr,rfl⟩
 refine ⟨hr,?_⟩
 funext b
 cases hs:s b with
 | none => rw [yZ1 hs]; rfl
 | some o => rw [yQw hs]
def xU9:Tr → Prop
 | .mk _ s m u _ sub => yVd s ∧ m.size ≤ 1000000 ∧ u.size ≤ 1000000 ∧ ∀ a ∈ sub,yVd a.sq
def wJh (t:Tr):Prop:=(∀ q ∈ t.walk [],xU9 q.2) ∧ t.height ≤ 1099511627776
theorem wJz (G:Gl gl) (T:Gt gl) (ca:Nat) (t:Tr) (x:IV) (hx:IsTr t x) (hn:xU9 t) (st:ISt):ICall prog gl 72 [.raw (.int .u8 ca),.cptr x] st (fun r st' => r = .raw (.int .i64 (yXz ca t)) ∧ st' = st):=by
 obtain ⟨rule,s,m,u,n,sub⟩:=t
 exact wG3 gl G T ca rule s m u n sub x hx hn.1 hn.2.1 hn.2.2.1 hn.2.2.2 st
theorem zGs {t:Tr} {x:IV} (h:IsTr t x):∃ (rule:Nat) (tl:Tag) (xl:List IV) (tr:Tag) (xr:List IV) (op:Int) (fn:ByteArray) (ta:Tag) (xa:List IV) (tb:Tag) (xb:List IV) (v:Bool) (un:ByteArray) (tu:Tag) (xu:List IV) (n:ByteArray) (ts:Tag) (xs:List IV),
  x = .agg [.raw (.int .u8 rule),.sl tl xl,.sl tr xr,.raw (.int .u8 op),.raw (.string fn),.sl ta xa,.sl tb xb,.raw (.bool v),.raw (.string un),.sl tu xu,.raw (.string n),.sl ts xs]:=by
 obtain ⟨r',s',m',t',n',b'⟩:=t
 obtain ⟨tl',xl',tr',xr',op',fn',ta',xa',tb',xb',v',un',tu',xu',ts',xs',rfl,_⟩:=h.mk
 exact ⟨_,_,_,_,_,_,_,_,_,_,_,_,_,_,_,_,_,_,rfl⟩
mutual
theorem zWs:∀ (p:List Nat) (t:Tr),(t.walk p).length = t.steps
 | p,.mk _ _ _ _ _ sub => by simp only [Tr.walk,Tr.steps,List.length_cons,zXp p 0 sub]; omega
theorem zXp:∀ (p:List Nat) (i:Nat) (l:List Tr),(yZv p i l).length = yX4 l
 | _,_,[] => rfl
 | p,i,a :: l => by simp only [yZv,yX4,lLa,zWs (p ++ [i]) a,zXp p (i + 1) l]
end
mutual
theorem zGk:∀ (q:List Nat) (t:Tr) (x:List Nat × Tr),x ∈ t.walk q → x.1.length + 1 ≤ q.length + t.height
 | q,.mk _ _ _ _ _ sub,x,h => by
  simp only [Tr.walk,List.mem_cons] at h
  simp only [Tr.height]
  rcases h with rfl | h
  ·simp only; omega
  ·have:=zZg q 0 sub x h; omega
theorem zZg:∀ (q:List Nat) (i:Nat) (l:List Tr) (x:List Nat × Tr),x ∈ yZv q i l → x.1.length ≤ q.length + yX7 l
 | _,_,[],x,h => by simp [yZv] at h
 | q,i,a :: l,x,h => by
  simp only [yZv,List.mem_append] at h
  simp only [yX7]
  rcases h with h | h
  ·have:=zGk (q ++ [i]) a x h
   rw [lLa] at this
   simp only [List.length_singleton] at this
   omega
  ·have:=zZg q (i + 1) l x h; omega
end
def CkI (st:ISt) (b2 b4 b5 b6 ca c:Nat) (s:ISt):Prop:=s b2 = some (.box [.raw (.int .u8 ca)]) ∧ s b4 = some (.box [.sl ⟨true,.nil,0⟩ []]) ∧ s b5 = some (.box [.raw (.int .i64 0)]) ∧ s b6 = some (.box [.raw (.int .i64 c)]) ∧ subSt st s
def CkS (st:ISt) (b4 b5:Nat) (q:List Nat × Nat) (e:Exit) (s:ISt):Prop:=e = .ret ∧ (∃ tg,s b4 = some (.box [.sl tg (plI q.1)]) ∧ okEs tg 1) ∧ s b5 = some (.box [.raw (.int .i64 q.2)]) ∧ subSt st s
theorem zGj (G:Gl gl) (T:Gt gl) (ca:Nat) (t:Tr) (x:IV) (hx:IsTr t x) (hfit:wJh t) (st:ISt):ICall prog gl 24 [.raw (.int .u8 ca),x] st (fun r st' => (∃ tg,r = .tup [.sl tg (plI (yJl ca t).1),.raw (.int .i64 (yJl ca t).2)] ∧ okEs tg 1) ∧ st' = st):=by
 have hst:=fun st => wW8 gl x st t hx
 have hit:=fun I => wZx gl t x hx hfit.2 I
 have hkn:=fun st => xXp gl ca st
 obtain ⟨rule,tl,xl,tr,xr,op,fn,ta,xa,tb,xb,v,un,tu,xu,n,ts,xs,rfl⟩:=zGs hx
 refine ICall.intro (c:=cf prog gl [2,4,5,6] [] [3]) func24 rfl (by show _ ≤ 31; simp) (by kernel_rfl) ?_
 simp -implicitDefEqProofs -dsimp only [go_sem,fits,IV.one]
 intro b2
 refine yQh fun hb2 => ?_
 intro b4
 refine yQh fun hb4 => ?_
 intro b5
 refine yQh fun hb5 => ?_
 have h24:b2 ≠ b4:=by rintro rfl; rw [ISt.put_same] at hb4; cases hb4
 have h45:b4 ≠ b5:=by rintro rfl; rw [ISt.put_same] at hb5; cases hb5
 have h25:b2 ≠ b5:=by rintro rfl; rw [ISt.put_apply,if_neg h24,ISt.put_same] at hb5; cases hb5
 rw [ISt.put_apply,if_neg h24.symm] at hb4
 rw [ISt.put_apply,if_neg h45.symm,ISt.put_apply,if_neg h25.symm] at hb5
 obtain ⟨s1,hs1,f2,f4,f5,hsub⟩:∃ s1,s1 = ((st.put b2 (some (.box [.raw (.int .u8 ca)]))).put b4 (some (.box [.sl ⟨true,.nil,0⟩ []]))).put b5 (some (.box [.raw (.int .i64 0)])) ∧ s1 b2 = some (.box [.raw (.int .u8 ca)]) ∧ s1 b4 = some (.box [.sl ⟨true,.nil,0⟩ []]) ∧ s1 b5 = some (.box [.raw (.int .i64 0)]) ∧ subSt st s1 :=
  ⟨_,rfl,by simp only [ISt.put_apply,if_neg h24,if_neg h25,if_true],by simp only [ISt.put_apply,if_neg h45,if_true],by simp only [ISt.put_apply,if_true],yZ7 (yZ7 (yZ7 (subSt.refl st) hb2) hb4) hb5⟩
 rw [← hs1]
 simp -implicitDefEqProofs -dsimp only [go_sem,f2,fits]
 refine (hkn _).mono ?_
 rintro _ s1' ⟨rfl,rfl⟩
 have g5:∀ (s:ISt) o,(s.put b4 o) b5 = s b5:=fun s o => by rw [ISt.put_apply,if_neg h45.symm]
 have g4:∀ (s:ISt) o o',((s.put b4 o).put b5 o') b4 = o:=fun s o o' => by rw [ISt.put_apply,if_neg h45,ISt.put_same]
 have hsub':∀ (s:ISt) o o',subSt st s → subSt st ((s.put b4 o).put b5 o'):=fun s o o' h => yZ7 (yZ7 h hb4) hb5
 cases hk:yJi ca
 ·have hq:yJl ca t = ([],2):=by unfold yJl; rw [hk]; rfl
  simp -implicitDefEqProofs -dsimp only [go_sem,f4,f5,fits,g5,g4,ISt.put_same]
  exact yQb (hsub' _ _ _ hsub) ⟨⟨_,by rw [hq]; rfl,.inl rfl⟩,rfl⟩
 ·simp -implicitDefEqProofs -dsimp only [go_sem,f4,f5,fits]
  intro b6
  refine yQh fun hb6 => ?_
  rw [yQd]
  refine (hst _).mono ?_
  rintro _ _ ⟨rfl,rfl⟩
  have h26:b2 ≠ b6:=by rintro rfl; rw [f2] at hb6; cases hb6
  have h46:b4 ≠ b6:=by rintro rfl; rw [f4] at hb6; cases hb6
  have h56:b5 ≠ b6:=by rintro rfl; rw [f5] at hb6; cases hb6
  have hb6':st b6 = none:=by
   cases hq:st b6 with
   | none => rfl
   | some o => rw [hsub b6 o hq] at hb6; cases hb6
  have hI0:CkI st b2 b4 b5 b6 ca 0 (s1'.put b6 (some (.box [.raw (.int .i64 0)]))):=⟨by rw [ISt.put_apply,if_neg h26]; exact f2,by rw [ISt.put_apply,if_neg h46]; exact f4,by rw [ISt.put_apply,if_neg h56]; exact f5,ISt.put_same ..,yZ7 hsub hb6'⟩
  generalize s1'.put b6 (some (.box [.raw (.int .i64 0)])) = s2 at hI0 ⊢
  simp -implicitDefEqProofs -dsimp only [go_sem,fits]
  refine RangeL.intro (lkT (t.walk [])) (t.walk []).length (fun k s => CkI st b2 b4 b5 b6 ca k s ∧ k ≤ 300) (fun e s => CkS st b4 b5 ([],5) e s ∧ 300 < t.steps) rfl ?_ ?_ ?_ (hit _) ?_ ?_
  ·rintro k a e ⟨p,u,a,y,_,_,_,rfl⟩; rfl
  ·exact ⟨hI0,by omega⟩
  ·rintro k _ e s ⟨p,z,a,y,hkz,hz,hp,rfl⟩ hd ⟨⟨c2,c4,c5,c6,hss⟩,hk3⟩
   have hd':disj s e:=hd
   have r6:=yJe hd' _ _ c6
   have r4:=yJe hd' _ _ c4
   have r5:=yJe hd' _ _ c5
   have e6:e b6 = none:=ISt.disj.off hd c6
   have hw:IntKind.i64.wrap ((k:Int) + 1) = ((k + 1:Nat):Int):=by rw [w64] <;> omega
   have q4:∀ o,((join s e).put b6 o) b4 = some (.box [.sl ⟨true,.nil,0⟩ []]):=fun o => by rw [yZ0 h46]; exact r4
   have q5:∀ o o',(((join s e).put b6 o).put b4 o') b5 = some (.box [.raw (.int .i64 0)]):=fun o o' => by rw [yZ0 h45.symm,yZ0 h56]; exact r5
   by_cases hbig:300 < k + 1
   ·have hb:decide ((300:Int) < ((k + 1:Nat):Int)) = true:=dEt (by omega)
    simp -implicitDefEqProofs -dsimp only [go_sem,r6,hw,ISt.put_same,hb,q4,q5,fits]
    refine ⟨⟨rfl,⟨⟨true,.nil,0⟩,?_,.inl rfl⟩,ISt.put_same ..,yZ7 (yZ7 (yZ7 (hss.trans (yJe hd')) hb6') hb4) hb5⟩,?_⟩
    ·rw [yZ0 h45,ISt.put_same]; rfl
    ·have:=(lGs hkz).1
     rw [zWs] at this
     omega
   ·have hb:decide ((300:Int) < ((k + 1:Nat):Int)) = false:=dEf (by omega)
    simp -implicitDefEqProofs -dsimp only [go_sem,r6,hw,ISt.put_same,hb,q4,q5,fits]
    refine ⟨s.put b6 (some (.box [.raw (.int .i64 ((k + 1:Nat):Int))])),⟨⟨by rw [yZ0 h26]; exact c2,by rw [yZ0 h46]; exact c4,by rw [yZ0 h56]; exact c5,ISt.put_same ..,yZ7 hss hb6'⟩,by omega⟩,ISt.disj.put hd e6,ISt.put_add e6⟩
  ·rintro s r ⟨⟨c2,c4,c5,c6,hss⟩,hk3⟩
   rw [zWs] at hk3
   have hq:yJl ca t = yZt (yXz ca) (t.walk []):=by
    unfold yJl
    rw [hk]
    simp only [Bool.not_true,bFt,if_false]
    rw [if_neg (by omega)]
   simp -implicitDefEqProofs -dsimp only [go_sem]
   refine (hst _).mono ?_
   rintro _ _ ⟨rfl,rfl⟩
   simp -implicitDefEqProofs -dsimp only [go_sem,fits]
   refine RangeL.intro (lkT (t.walk [])) (t.walk []).length (fun k s => (s b2 = some (.box [.raw (.int .u8 ca)]) ∧ s b4 = some (.box [.sl ⟨true,.nil,0⟩ []]) ∧ s b5 = some (.box [.raw (.int .i64 0)]) ∧ subSt st s) ∧ yZt (yXz ca) ((t.walk []).take k) = ([],0)) (fun e s => CkS st b4 b5 (yJl ca t) e s) rfl ?_ ?_ ?_ (hit _) ?_ ?_
   ·rintro k a e ⟨p,u,a,y,_,_,_,rfl⟩; rfl
   ·exact ⟨⟨c2,c4,c5,hss⟩,by simp [yZt]⟩
   ·rintro k _ e s ⟨p,z,a,y,hkz,hz,hp,rfl⟩ hd ⟨⟨c2,c4,c5,hss⟩,hf⟩
    have hd':disj s e:=hd
    have r2:=yJe hd' _ _ c2
    have hpl:=zGk [] t _ (lMg hkz)
    have hfd:=hfit.2
    simp only [List.length_nil] at hpl
    have hck:=fun st => wJz gl G T ca z y hz (hfit.1 _ (lMg hkz)) st
    have hcl:=wGg gl p a e s hp (by omega) hd'
    have hiv:ivOf (.iv a) = some a:=by rcases hp with ⟨t,rfl,_⟩ | ⟨g,cap,cs,rfl,_⟩ <;> rfl
    obtain ⟨rule',tl',xl',tr',xr',op',fn',ta',xa',tb',xb',v',un',tu',xu',n',ts',xs',rfl⟩:=zGs hz
    simp -implicitDefEqProofs -dsimp only [go_sem,r2,hiv,fits]
    refine (hck _).mono ?_
    rintro _ _ ⟨rfl,rfl⟩
    by_cases h0:yXz ca z = 0
    ·have d0:decide (((yXz ca z:Nat):Int) = 0) = true:=dEt (by omega)
     simp -implicitDefEqProofs -dsimp only [go_sem,d0,fits]
     refine ⟨s,⟨⟨c2,c4,c5,hss⟩,?_⟩,hd,rfl⟩
     rw [yQ5 hkz,yVe,hf]
     simp [yZt,h0]
    ·have d0:decide (((yXz ca z:Nat):Int) = 0) = false:=dEf (by omega)
     have hv:yJl ca t = (p,yXz ca z):=by
      rw [hq]
      conv => lhs; rw [← List.take_append_drop k (t.walk [])]
      rw [List.drop_eq_getElem_cons (lGs hkz).1,(lGs hkz).2,yVe,hf]
      simp [yZt,h0]
     simp -implicitDefEqProofs -dsimp only [go_sem,d0,hiv,fits]
     refine hcl.mono ?_
     rintro _ _ ⟨⟨t',rfl,ht'⟩,rfl⟩
     simp -implicitDefEqProofs -dsimp only [go_sem,c4,c5,fits,g5,g4,ISt.put_same]
     refine ⟨rfl,⟨t',?_,ht'⟩,?_,hsub' _ _ _ hss⟩
     ·rw [g4,hv]
     ·rw [ISt.put_same,hv]
   ·rintro s r ⟨⟨c2,c4,c5,hss⟩,hf⟩
    rw [lTl,← hq] at hf
    simp -implicitDefEqProofs -dsimp only [go_sem,c4,c5,fits,g5,g4,ISt.put_same]
    exact yQb (hsub' _ _ _ hss) ⟨⟨_,by rw [hf]; rfl,.inl rfl⟩,rfl⟩
   ·rintro e s r ⟨rfl,⟨tg,c4,ht⟩,c5,hss⟩
    simp -implicitDefEqProofs -dsimp only [go_sem,c4,c5,fits]
    exact yQb hss ⟨⟨_,rfl,ht⟩,rfl⟩
  ·rintro e s r ⟨⟨rfl,⟨tg,c4,ht⟩,c5,hss⟩,hb⟩
   have hq:yJl ca t = ([],5):=by unfold yJl; rw [hk,if_pos hb]; rfl
   simp -implicitDefEqProofs -dsimp only [go_sem,c4,c5,fits]
   exact yQb hss ⟨⟨_,by rw [hq],ht⟩,rfl⟩
theorem xX9 {p:List Nat} {k a:Nat} (h:p[k]? = some a):(plI p)[k]? = some (.raw (.int .i64 (a:Int))):=by simp [plI,List.getElem?_map,h]
theorem zVv (p q:List Nat):plI (p ++ q) = plI p ++ plI q:=by simp [plI]
def sumN:List Nat → Nat
 | [] => 0
 | a :: l => a + sumN l
theorem yU3:∀ l m:List Nat,sumN (l ++ m) = sumN l + sumN m
 | [],m => by simp [sumN]
 | a :: l,m => by simp only [List.cons_append,sumN,yU3 l m]; omega
theorem xG3 (l:List Nat) (k:Nat):sumN (l.take k) ≤ sumN l:=by
 conv => rhs; rw [← List.take_append_drop k l]
 rw [yU3]; omega
def maxN:List Nat → Nat
 | [] => 0
 | a :: l => max a (maxN l)
theorem yUa:∀ l m:List Nat,maxN (l ++ m) = max (maxN l) (maxN m)
 | [],m => by simp [maxN]
 | a :: l,m => by simp only [List.cons_append,maxN,yUa l m]; omega
theorem vQ3 (tg:Tag) (l:List Nat) (htg:okEs tg 1) (hs:sumN l ≤ 4611686018427387904) (st:ISt):ICall prog gl 93 [.sl tg (plI l)] st (fun r st' => r = .raw (.int .i64 (sumN l)) ∧ st' = st):=by
 refine iI func93 rfl rfl (by kernel_rfl) ?_
 simp -implicitDefEqProofs -dsimp only [go_sem,yV9]
 intro _
 refine LoopC.ctr l.length (fun k fr st' ds => fr 3 = .iv (.raw (.int .i64 (sumN (l.take k)))) ∧ fr 6 = .iv (.sl tg (plI l)) ∧ fr 7 = .iv (.raw (.int .i64 l.length)) ∧ fr 8 = .iv (.raw (.int .i64 k)) ∧ st' = st ∧ ds = []) ?_ ?_ ?_
 ·simp -implicitDefEqProofs -dsimp only [go_sem]
  simp [sumN]
 ·rintro k fr st1 _ hlt ⟨f3,f6,f7,f8,rfl,rfl⟩
  obtain ⟨a,ha⟩:=yQ3 hlt
  have h1:=xG3 l (k + 1)
  have h2:sumN (l.take (k + 1)) = sumN (l.take k) + a:=by rw [yQ5 ha,yU3]; rfl
  have h3:IntKind.i64.wrap (((sumN (l.take k):Nat):Int) + (a:Int)) = ((sumN (l.take (k + 1)):Nat):Int):=by rw [w64] <;> omega
  simp -implicitDefEqProofs -dsimp only [go_sem,f3,f6,f7,f8,lt_i hlt,yQ2 htg,iNn,xX9 ha,fits,h3,yQa hlt (show l.length ≤ 281474976710656 by omega)]
 ·rintro fr st1 _ ⟨f3,f6,f7,f8,rfl,rfl⟩
  rw [lTl] at f3
  simp -implicitDefEqProofs -dsimp only [go_sem,f3,f6,f7,f8,yQn (nLi _)]
  exact yQ0 ⟨rfl,rfl⟩
theorem uQy (a b:Nat):max (a:Int) (b:Int) = ((max a b:Nat):Int):=by omega
theorem uVr (tg:Tag) (l:List Nat) (htg:okEs tg 1) (hl:0 < l.length) (st:ISt):ICall prog gl 95 [.sl tg (plI l)] st (fun r st' => r = .raw (.int .i64 (maxN l)) ∧ st' = st):=by
 obtain ⟨a0,ha0⟩:=yQ3 hl
 have d1:decide (((l.length:Nat):Int) < 1) = false:=dEf (by omega)
 have t1:l.take 1 = [a0]:=by
  have:=yQ5 ha0
  simpa using this
 refine iI func95 rfl rfl (by kernel_rfl) ?_
 simp -implicitDefEqProofs -dsimp only [go_sem,yV9]
 intro hlen
 simp -implicitDefEqProofs -dsimp only [go_sem,d1,yQ2 htg,Int.le_refl,Int.toNat_zero,xX9 ha0,fits]
 refine LoopC.ctr (l.length - 1) (fun k fr st' ds => fr 3 = .iv (.raw (.int .i64 (maxN (l.take (k + 1))))) ∧ fr 0 = .iv (.sl tg (plI l)) ∧ fr 4 = .iv (.raw (.int .i64 ((k + 1:Nat):Int))) ∧ st' = st ∧ ds = []) ?_ ?_ ?_
 ·simp -implicitDefEqProofs -dsimp only [go_sem,t1]
  simp [maxN]
 ·rintro k fr st1 _ hlt ⟨f3,f0,f4,rfl,rfl⟩
  obtain ⟨a,ha⟩:=yQ3 (l:=l) (k:=k + 1) (by omega)
  have h2:maxN (l.take (k + 1 + 1)) = max (maxN (l.take (k + 1))) a:=by rw [yQ5 ha,yUa]; simp [maxN]
  simp -implicitDefEqProofs -dsimp only [go_sem,f3,f0,f4,yV9,lt_i (show k + 1 < l.length by omega),yQ2 htg,iNn,xX9 ha,fits,uQy,yQa (show k + 1 < l.length by omega) (show l.length ≤ 281474976710656 by omega)]
  intro _
  rw [h2]
 ·rintro fr st1 _ ⟨f3,f0,f4,rfl,rfl⟩
  rw [show l.length - 1 + 1 = l.length by omega] at f3 f4
  rw [lTl] at f3
  simp -implicitDefEqProofs -dsimp only [go_sem,f3,f0,f4,yV9,yQn (nLi _)]
  intro _
  exact yQ0 ⟨rfl,rfl⟩
def wZw:Tr → List Tr
 | .mk _ _ _ _ _ sub => sub
def zWo (g:Nat) (v:Tr → Nat):Prop:=∀ (t:Tr) (l:List Nat) (x:IV) (tg:Tag) (st0 st:ISt),IsTr t x → t.steps ≤ 1099511627776 → l = (wZw t).map v → own st tg l.length 1 st0 → subSt st0 st →
 ICall prog gl g [x,.sl tg (plI l)] st (fun r st' => r = .raw (.int .i64 (v t)) ∧ subSt st0 st')
theorem zGz:∀ {l:List Tr} {t:Tr},t ∈ l → t.steps ≤ yX4 l
 | a :: l,t,h => by
  simp only [yX4]
  rcases List.mem_cons.1 h with rfl | h
  ·omega
  ·have:=zGz h; omega
theorem yYo:∀ l:List Tr,l.length ≤ yX4 l
 | [] => Nat.le_refl _
 | .mk _ _ _ _ _ s :: l => by
  have:=yYo l
  simp only [List.length_cons,yX4,Tr.steps]; omega
def wKe (v:Tr → Nat) (g:Nat) (t:Tr):Prop:=∀ (x:IV) (_:IsTr t x) (_:t.steps ≤ 1099511627776) (st:ISt),ICall prog gl 91 [x,.fn (.func g) [] []] st (fun r st' => r = .raw (.int .i64 (v t)) ∧ st' = st)
theorem wQg (v:Tr → Nat) (g:Nat) (hent:entI prog g = true) (hg:zWo gl g v) (rule:Nat) (sq:Sq) (f:Fm) (u:Tm) (n:ByteArray) (sub:List Tr) (IH:∀ a ∈ sub,wKe gl v g a):wKe gl v g (.mk rule sq f u n sub):=by
 intro x hx hs st
 have hx0:=hx
 obtain ⟨tl,xl,tr,xr,op,fn,ta,xa,tb,xb,vb,un,tu,xu,ts,xs,rfl,hru,_,_,_,_,_,_,e3,i3⟩:=hx.mk
 have hs0:=hs
 simp only [Tr.steps] at hs
 have hll:=yYo sub
 refine iI func91 rfl rfl (by kernel_rfl) ?_
 simp -implicitDefEqProofs -dsimp only [go_sem,fits,i3.len]
 intro _
 refine LoopC.ctr sub.length (fun k fr st' ds => (∃ tg',fr 5 = .iv (.sl tg' (plI ((sub.take k).map v))) ∧ own st' tg' k 1 st ∧ subSt st st') ∧ fr 1 = .iv (.fn (.func g) [] []) ∧ fr 2 = .box [.raw (.int .u8 rule),.sl tl xl,.sl tr xr,.raw (.int .u8 op),.raw (.string fn),.sl ta xa,.sl tb xb,.raw (.bool vb),.raw (.string un),.sl tu xu,.raw (.string n),.sl ts xs] ∧
  fr 9 = .iv (.sl ts xs) ∧ fr 10 = .iv (.raw (.int .i64 sub.length)) ∧ fr 11 = .iv (.raw (.int .i64 k)) ∧ ds = []) ?_ ?_ ?_
 ·simp -implicitDefEqProofs -dsimp only [go_sem]
  exact ⟨⟨_,rfl,.inl ⟨rfl,rfl⟩,subSt.refl _⟩,rfl⟩
 ·rintro k fr st1 _ hlt ⟨⟨tg',f5,hown,hsub⟩,f1,f2,f9,f10,f11,rfl⟩
  obtain ⟨a,ha⟩:=yQ3 hlt
  obtain ⟨z,hkz,hz⟩:=i3.get ha
  have hst:=zGz (lMg ha)
  have hcall:=IH a (lMg ha) z hz (by omega) st1
  obtain ⟨rule',tl',xl',tr',xr',op',fn',ta',xa',tb',xb',v',un',tu',xu',n',ts',xs',rfl⟩:=zGs hz
  simp -implicitDefEqProofs -dsimp only [go_sem,f1,f2,f5,f9,f10,f11,lt_i hlt,yQ2 e3,iNn,hkz,fits]
  refine hcall.mono ?_
  rintro _ _ ⟨rfl,rfl⟩
  simp -implicitDefEqProofs -dsimp only [go_sem,f1,f2,f5,f9,f10,f11,fits,zJr]
  refine yK3 hown (by rw [yV9,List.length_map,List.length_take]; omega) hsub rfl (by simp [fits,IV.one]) (by simp only; omega) (by omega) fun tg2 st4 hown2 hsub4 _ _ => ?_
  simp -implicitDefEqProofs -dsimp only [go_sem,f1,f2,f5,f9,f10,f11,fits,yQa hlt (show sub.length ≤ 281474976710656 by omega)]
  exact ⟨tg2,by rw [yQ5 ha,List.map_append,zVv]; rfl,hown2,hsub4⟩
 ·rintro fr st1 _ ⟨⟨tg',f5,hown,hsub⟩,f1,f2,f9,f10,f11,rfl⟩
  rw [lTl] at f5
  have hcall:=hg _ (sub.map v) _ tg' st st1 hx0 hs0 rfl (by rw [List.length_map]; exact hown) hsub
  simp -implicitDefEqProofs -dsimp only [go_sem,f1,f2,f5,f10,f11,yQn (nLi _),fits,hent]
  refine hcall.mono ?_
  rintro _ st2 ⟨rfl,hsub2⟩
  simp -implicitDefEqProofs -dsimp only [go_sem,fits]
  exact yQb hsub2 ⟨rfl,rfl⟩
theorem xV5 (v:Tr → Nat) (g:Nat) (hent:entI prog g = true) (hg:zWo gl g v):∀ (k:Nat) (t:Tr),SizeOf.sizeOf t < k → wKe gl v g t
 | 0,t,h => by omega
 | k + 1,.mk r sq f u n sub,h => wQg gl v g hent hg r sq f u n sub (fun a ha => xV5 v g hent hg k a (by
   have:=lSm ha
   simp at h; omega))
theorem wQh (v:Tr → Nat) (g:Nat) (hent:entI prog g = true) (hg:zWo gl g v) (t:Tr):wKe gl v g t:=xV5 gl v g hent hg _ t (Nat.lt_succ_self _)
theorem zXy:∀ l:List Tr,sumN (l.map Tr.steps) = yX4 l
 | [] => rfl
 | a :: l => by simp only [List.map_cons,sumN,yX4,zXy l]
theorem zWw:∀ l:List Tr,sumN (l.map Tr.cuts) = yYy l
 | [] => rfl
 | a :: l => by simp only [List.map_cons,sumN,yYy,zWw l]
theorem zJh:∀ l:List Tr,maxN (l.map Tr.height) = yX7 l
 | [] => rfl
 | a :: l => by simp only [List.map_cons,maxN,yX7,zJh l]
mutual
theorem wYx:∀ t:Tr,t.cuts ≤ t.steps
 | .mk _ _ _ _ _ sub => by
  have:=zZ8 sub
  simp only [Tr.cuts,Tr.steps]
  split <;> omega
theorem zZ8:∀ l:List Tr,yYy l ≤ yX4 l
 | [] => Nat.le_refl _
 | a :: l => by
  have:=wYx a
  have:=zZ8 l
  simp only [yYy,yX4]; omega
end
mutual
theorem wQb:∀ t:Tr,t.height ≤ t.steps
 | .mk _ _ _ _ _ sub => by
  have:=yYu sub
  simp only [Tr.height,Tr.steps]; omega
theorem yYu:∀ l:List Tr,yX7 l ≤ yX4 l
 | [] => Nat.le_refl _
 | a :: l => by
  have:=wQb a
  have:=yYu l
  simp only [yX7,yX4]; omega
end
theorem wQi:zWo gl 92 Tr.steps:=by
 rintro ⟨rule,s,m,u,n,sub⟩ l x tg st0 st hx hs rfl hown hsub
 simp only [wZw] at hown ⊢
 simp only [Tr.steps] at hs
 have hsum:=fun st => vQ3 gl tg (sub.map Tr.steps) hown.es (by rw [zXy]; omega) st
 have hw:IntKind.i64.wrap (1 + ((yX4 sub:Nat):Int)) = ((1 + yX4 sub:Nat):Int):=by rw [w64] <;> omega
 rw [zXy] at hsum
 obtain ⟨rule',tl',xl',tr',xr',op',fn',ta',xa',tb',xb',v',un',tu',xu',n',ts',xs',rfl⟩:=zGs hx
 refine iI func92 rfl rfl (by kernel_rfl) ?_
 simp -implicitDefEqProofs -dsimp only [go_sem,fits]
 refine (hsum _).mono ?_
 rintro _ _ ⟨rfl,rfl⟩
 simp -implicitDefEqProofs -dsimp only [go_sem,hw,fits]
 exact yQ0 ⟨by simp only [Tr.steps],hsub⟩
theorem wJf:zWo gl 96 Tr.cuts:=by
 rintro ⟨rule,s,m,u,n,sub⟩ l x tg st0 st hx hs rfl hown hsub
 simp only [wZw] at hown ⊢
 simp only [Tr.steps] at hs
 have hcs:=zZ8 sub
 have hsum:=fun st => vQ3 gl tg (sub.map Tr.cuts) hown.es (by rw [zWw]; omega) st
 have hw:IntKind.i64.wrap (1 + ((yYy sub:Nat):Int)) = ((1 + yYy sub:Nat):Int):=by rw [w64] <;> omega
 rw [zWw] at hsum
 obtain ⟨tl',xl',tr',xr',op',fn',ta',xa',tb',xb',v',un',tu',xu',ts',xs',rfl,_⟩:=hx.mk
 refine iI func96 rfl rfl (by kernel_rfl) ?_
 by_cases h:rule = 17
 ·have d:decide ((rule:Int) = 17) = true:=dEt (by omega)
  simp -implicitDefEqProofs -dsimp only [go_sem,fits,d]
  refine (hsum _).mono ?_
  rintro _ _ ⟨rfl,rfl⟩
  simp -implicitDefEqProofs -dsimp only [go_sem,hw,fits]
  exact yQ0 ⟨by simp only [Tr.cuts,if_pos h],hsub⟩
 ·have d:decide ((rule:Int) = 17) = false:=dEf (by omega)
  simp -implicitDefEqProofs -dsimp only [go_sem,fits,d]
  refine (hsum _).mono ?_
  rintro _ _ ⟨rfl,rfl⟩
  simp -implicitDefEqProofs -dsimp only [go_sem,fits]
  exact yQ0 ⟨by simp only [Tr.cuts,if_neg h,Nat.zero_add],hsub⟩
theorem xY0:zWo gl 94 Tr.height:=by
 rintro ⟨rule,s,m,u,n,sub⟩ l x tg st0 st hx hs rfl hown hsub
 simp only [wZw] at hown ⊢
 simp only [Tr.steps] at hs
 have hcs:=yYu sub
 have hll:=yYo sub
 have hw:IntKind.i64.wrap (1 + ((yX7 sub:Nat):Int)) = ((1 + yX7 sub:Nat):Int):=by rw [w64] <;> omega
 have hm:maxN (sub.map Tr.height ++ [0]) = yX7 sub:=by rw [yUa,zJh]; simp [maxN]
 obtain ⟨rule',tl',xl',tr',xr',op',fn',ta',xa',tb',xb',v',un',tu',xu',n',ts',xs',rfl⟩:=zGs hx
 refine iI func94 rfl rfl (by kernel_rfl) ?_
 simp -implicitDefEqProofs -dsimp only [go_sem,fits,yQ1]
 refine yK3 hown (by rw [yV9]) hsub rfl (by simp [fits,IV.one]) (by simp only [List.length_map]; omega) (by simp only [List.length_map]; omega) fun tg2 st4 hown2 hsub4 _ _ => ?_
 have hmax:=fun st => uVr gl tg2 (sub.map Tr.height ++ [0]) hown2.es (by simp) st
 rw [hm,zVv] at hmax
 simp -implicitDefEqProofs -dsimp only [go_sem,fits]
 refine (hmax _).mono ?_
 rintro _ _ ⟨rfl,rfl⟩
 simp -implicitDefEqProofs -dsimp only [go_sem,hw,fits]
 exact yQ0 ⟨by simp only [Tr.height],hsub4⟩
theorem wGb (t:Tr) (x:IV) (hx:IsTr t x) (hs:t.steps ≤ 1099511627776) (st:ISt):ICall prog gl 41 [x] st (fun r st' => r = .raw (.int .i64 (t.steps)) ∧ st' = st):=by
 have hf:=fun st => wQh gl Tr.steps 92 (by simp only [go_sem]) (wQi gl) t x hx hs st
 obtain ⟨rule',tl',xl',tr',xr',op',fn',ta',xa',tb',xb',v',un',tu',xu',n',ts',xs',rfl⟩:=zGs hx
 refine iI func41 rfl rfl (by kernel_rfl) ?_
 simp -implicitDefEqProofs -dsimp only [go_sem,fits]
 refine (hf _).mono ?_
 rintro _ _ ⟨rfl,rfl⟩
 simp -implicitDefEqProofs -dsimp only [go_sem,fits]
 exact yQ0 ⟨rfl,rfl⟩
theorem wKd (t:Tr) (x:IV) (hx:IsTr t x) (hs:t.steps ≤ 1099511627776) (st:ISt):ICall prog gl 42 [x] st (fun r st' => r = .raw (.int .i64 (t.height)) ∧ st' = st):=by
 have hf:=fun st => wQh gl Tr.height 94 (by simp only [go_sem]) (xY0 gl) t x hx hs st
 obtain ⟨rule',tl',xl',tr',xr',op',fn',ta',xa',tb',xb',v',un',tu',xu',n',ts',xs',rfl⟩:=zGs hx
 refine iI func42 rfl rfl (by kernel_rfl) ?_
 simp -implicitDefEqProofs -dsimp only [go_sem,fits]
 refine (hf _).mono ?_
 rintro _ _ ⟨rfl,rfl⟩
 simp -implicitDefEqProofs -dsimp only [go_sem,fits]
 exact yQ0 ⟨rfl,rfl⟩
theorem vJ4 (t:Tr) (x:IV) (hx:IsTr t x) (hs:t.steps ≤ 1099511627776) (st:ISt):ICall prog gl 43 [x] st (fun r st' => r = .raw (.int .i64 (t.cuts)) ∧ st' = st):=by
 have hf:=fun st => wQh gl Tr.cuts 96 (by simp only [go_sem]) (wJf gl) t x hx hs st
 obtain ⟨rule',tl',xl',tr',xr',op',fn',ta',xa',tb',xb',v',un',tu',xu',n',ts',xs',rfl⟩:=zGs hx
 refine iI func43 rfl rfl (by kernel_rfl) ?_
 simp -implicitDefEqProofs -dsimp only [go_sem,fits]
 refine (hf _).mono ?_
 rintro _ _ ⟨rfl,rfl⟩
 simp -implicitDefEqProofs -dsimp only [go_sem,fits]
 exact yQ0 ⟨rfl,rfl⟩
def uQw (s:Sq) (f:Fm) (u:Tm) (n:ByteArray):Bool:=decide (wFms s.l + wFms s.r ≤ 300) && !decide (300 < wFm f) && !decide (300 < wTm u) && !decide (100 < n.size)
mutual
def okT:Tr → Bool
 | .mk _ s f u n sub => uQw s f u n && okTs sub
def okTs:List Tr → Bool
 | [] => true
 | a :: l => okT a && okTs l
end
theorem Sum.gt {w:Nat} {r:IV} (h:Sum w 300 r):∃ n:Nat,r = .raw (.int .i64 n) ∧ decide ((300:Int) < (n:Int)) = decide (300 < w):=by
 obtain ⟨n,rfl,h1,h2⟩:=h
 refine ⟨n,rfl,?_⟩
 rw [decide_eq_decide]
 constructor
 ·intro h; omega
 ·intro h
  rcases Int.lt_or_le 300 (n:Int) with hn | hn
  ·exact hn
  ·have:=h2 hn; omega
def Left (t:Tr) (left:Int) (r:Int):Prop:=-1 ≤ r ∧ r ≤ left ∧ (0 ≤ r ↔ okT t = true ∧ (t.steps:Int) ≤ left) ∧ (0 ≤ r → r = left - t.steps)
end Go.Proofs.Tryz
namespace Go.Proofs.Tryz
open Go Go.Iv
set_option maxRecDepth 8000
theorem yK9 {ca:Nat} {s:Sq} {rule:Nat} {main:Fm} {term:Tm} {name:ByteArray} {r:Rw} {ad:List Sq} (h1:yXn ca s = true) (h2:rowS ca rule = some r) (h3:yKw ca rule r main term name = (ad,0))
  (h4:r.left = true → hasF s.l main = true) (h5:r.right = true → hasF s.r main = true) (h6:r.asks ≠ 2):yJ3 ca s rule main term name = (ad,0):=by
 unfold yJ3
 rw [h1,h2]
 simp only [Bool.not_true,bFt,if_false,h3]
 obtain ⟨rl,rr,op,asks⟩:=r
 simp only at h4 h5 h6 ⊢
 have e1:(rl && !hasF s.l main) = false:=by
  cases rl
  ·rfl
  ·rw [h4 rfl]; rfl
 have e2:(rr && !hasF s.r main) = false:=by
  cases rr
  ·rfl
  ·rw [h5 rfl]; rfl
 rw [e1,e2,dEf h6]
 rfl
theorem yXm {l:List Fm} {f:Fm} (h:f ∈ l) (hr:f.right = true):hasF l f = true:=xQg.2 ⟨f,h,xVe hr⟩
def zP:Fm:=.mk 1 ⟨#[80]⟩ [] []
def zQ:Fm:=.mk 1 ⟨#[81]⟩ [] []
def zI:Fm:=.mk 6 ⟨#[]⟩ [] [zP,zQ]
def tm0:Tm:=.mk false ⟨#[]⟩ []
def trP:Tr:=.mk 1 ⟨[zP,zI],[zP]⟩ zP tm0 ⟨#[]⟩ []
def trQ:Tr:=.mk 1 ⟨[zP,zQ],[zQ]⟩ zQ tm0 ⟨#[]⟩ []
def trA:Tr:=.mk 9 ⟨[zP,zI],[zQ]⟩ zI tm0 ⟨#[]⟩ [trP,trQ]
def row1:Rw:=⟨true,true,0,0⟩
def row9:Rw:=⟨true,false,6,0⟩
theorem yGf {f:Fm} (h:f.right = true):zZ6 [f] = true:=by simp [zZ6,xVe h]
theorem zQp {s:Sq} (h:(decide (s.l.length ≤ 64) && decide (s.r.length ≤ 64) && s.l.all (fmB 1) && s.r.all (fmB 1)) = true):yXn 1 s = true:=by
 unfold yXn
 rw [show yJi 1 = true from rfl,Bool.true_and,h]; rfl
theorem zWt {s:Sq} (h:(decide (s.l.length ≤ 64) && decide (s.r.length ≤ 64) && s.l.all (fmB 2) && s.r.all (fmB 2)) = true) (h2:zZ6 s.r = true):yXn 2 s = true:=by
 unfold yXn
 rw [show yJi 2 = true from rfl,Bool.true_and,h,h2]; rfl
theorem wWd:yJ3 1 ⟨[zP,zI],[zP]⟩ 1 zP tm0 ⟨#[]⟩ = ([],0):=yK9 (r:=row1) (zQp (by decide)) rfl (by rfl) (fun _ => yXm (by simp) (by decide)) (fun _ => yXm (by simp) (by decide)) (by decide)
theorem wWc:yJ3 2 ⟨[zP,zI],[zP]⟩ 1 zP tm0 ⟨#[]⟩ = ([],0):=yK9 (r:=row1) (zWt (by decide) (yGf (by decide))) rfl (by rfl) (fun _ => yXm (by simp) (by decide)) (fun _ => yXm (by simp) (by decide)) (by decide)
theorem wWb:yJ3 1 ⟨[zP,zQ],[zQ]⟩ 1 zQ tm0 ⟨#[]⟩ = ([],0):=yK9 (r:=row1) (zQp (by decide)) rfl (by rfl) (fun _ => yXm (by simp) (by decide)) (fun _ => yXm (by simp) (by decide)) (by decide)
theorem wWa:yJ3 2 ⟨[zP,zQ],[zQ]⟩ 1 zQ tm0 ⟨#[]⟩ = ([],0):=yK9 (r:=row1) (zWt (by decide) (yGf (by decide))) rfl (by rfl) (fun _ => yXm (by simp) (by decide)) (fun _ => yXm (by simp) (by decide)) (by decide)
theorem wWi:yJ3 1 ⟨[zP,zI],[zQ]⟩ 9 zI tm0 ⟨#[]⟩ = ([⟨[],[zP]⟩,⟨[zQ],[]⟩],0):=yK9 (r:=row9) (zQp (by decide)) rfl (by rfl) (fun _ => yXm (by simp) (by decide)) (fun h => by cases h) (by decide)
theorem wWh:yJ3 2 ⟨[zP,zI],[zQ]⟩ 9 zI tm0 ⟨#[]⟩ = ([⟨[],[zP]⟩,⟨[zQ],[]⟩],0):=yK9 (r:=row9) (zWt (by decide) (yGf (by decide))) rfl (by rfl) (fun _ => yXm (by simp) (by decide)) (fun h => by cases h) (by decide)
theorem yUj {l m:List Fm} (h:∀ f ∈ l,f ∈ m ∧ f.right = true):allF l m = true:=List.all_eq_true.2 fun f hf => yXm (h f hf).1 (h f hf).2
theorem yK2 {ca rule:Nat} {s:Sq} {main:Fm} {term:Tm} {name:ByteArray} {sub:List Tr} {ad:List Sq} (h:yJ3 ca s rule main term name = (ad,0)) (hl:sub.length = ad.length) (hp:yJq s ad sub = true):yXz ca (.mk rule s main term name sub) = 0:=by
 simp only [yXz]
 rw [h]
 simp only [ne_eq,nTf,if_false,hl,hp,if_true]
theorem zQt:zP.right = true:=by decide
theorem xGr:zQ.right = true:=by decide
theorem wWt:zI.right = true:=by decide
theorem xGy:yJq ⟨[zP,zI],[zQ]⟩ [⟨[],[zP]⟩,⟨[zQ],[]⟩] [trP,trQ] = true:=by
 have a1:allF [zP,zI] [zP,zI] = true:=yUj fun f hf => by
  simp only [List.mem_cons,List.not_mem_nil,or_false] at hf
  rcases hf with rfl | rfl
  ·exact ⟨by simp,zQt⟩
  ·exact ⟨by simp,wWt⟩
 have a2:allF [zP] [zQ,zP] = true:=yUj fun f hf => by
  simp only [List.mem_cons,List.not_mem_nil,or_false] at hf
  subst hf
  exact ⟨by simp,zQt⟩
 have a3:allF [zP,zQ] [zP,zI,zQ] = true:=yUj fun f hf => by
  simp only [List.mem_cons,List.not_mem_nil,or_false] at hf
  rcases hf with rfl | rfl
  ·exact ⟨by simp,zQt⟩
  ·exact ⟨by simp,xGr⟩
 have a4:allF [zQ] [zQ] = true:=yUj fun f hf => by
  simp only [List.mem_cons,List.not_mem_nil,or_false] at hf
  subst hf
  exact ⟨by simp,xGr⟩
 simp only [yJq,trP,trQ,Tr.sq,Sq.plus,yJ7,List.append_nil,List.cons_append,List.nil_append,a1,a2,a3,a4,Bool.and_self]
theorem wJy:yXz 1 trA = 0:=yK2 wWi rfl xGy
theorem wJx:yXz 2 trA = 0:=yK2 wWh rfl xGy
theorem wJt:yXz 1 trP = 0:=yK2 wWd rfl rfl
theorem wJs:yXz 2 trP = 0:=yK2 wWc rfl rfl
theorem wJr:yXz 1 trQ = 0:=yK2 wWb rfl rfl
theorem wJq:yXz 2 trQ = 0:=yK2 wWa rfl rfl
theorem wKl:trA.walk [] = [([],trA),([0],trP),([1],trQ)]:=rfl
theorem wKj:yJl 1 trA = ([],0):=by
 unfold yJl
 rw [wKl]
 simp only [yZt,wJy,wJt,wJr,if_true]
 rfl
theorem wKi:yJl 2 trA = ([],0):=by
 unfold yJl
 rw [wKl]
 simp only [yZt,wJx,wJs,wJq,if_true]
 rfl
theorem wW9:trA.steps = 3:=rfl
theorem wJb:trA.height = 2:=rfl
theorem vXa:trA.cuts = 0:=rfl
def zN:Fm:=.mk 3 ⟨#[]⟩ [] [zP]
def zO:Fm:=.mk 5 ⟨#[]⟩ [] [zP,zN]
def trE1:Tr:=.mk 1 ⟨[zP],[zP]⟩ zP tm0 ⟨#[]⟩ []
def trE2:Tr:=.mk 4 ⟨[],[zP,zN]⟩ zN tm0 ⟨#[]⟩ [trE1]
def trE:Tr:=.mk 8 ⟨[],[zO]⟩ zO tm0 ⟨#[]⟩ [trE2]
theorem wWg:yJ3 1 ⟨[zP],[zP]⟩ 1 zP tm0 ⟨#[]⟩ = ([],0):=yK9 (r:=row1) (zQp (by decide)) rfl (by rfl) (fun _ => yXm (by simp) (by decide)) (fun _ => yXm (by simp) (by decide)) (by decide)
theorem wWf:yJ3 1 ⟨[],[zP,zN]⟩ 4 zN tm0 ⟨#[]⟩ = ([⟨[zP],[]⟩],0):=yK9 (r:=⟨false,true,3,0⟩) (zQp (by decide)) rfl (by rfl) (fun h => by cases h) (fun _ => yXm (by simp) (by decide)) (by decide)
theorem vQ5:yJ3 1 ⟨[],[zO]⟩ 8 zO tm0 ⟨#[]⟩ = ([⟨[],[zP,zN]⟩],0):=yK9 (r:=⟨false,true,5,0⟩) (zQp (by decide)) rfl (by rfl) (fun h => by cases h) (fun _ => yXm (by simp) (by decide)) (by decide)
theorem wWe:yJ3 2 ⟨[],[zO]⟩ 8 zO tm0 ⟨#[]⟩ = ([⟨[],[zP]⟩],0):=yK9 (r:=⟨false,true,5,0⟩) (zWt (by decide) (yGf (by decide))) rfl (by rfl) (fun h => by cases h) (fun _ => yXm (by simp) (by decide)) (by decide)
theorem wWs:zN.right = true:=by decide
theorem vXq (l:List Fm):allF [zP,zN] (l ++ [zP,zN]) = true:=yUj fun f hf => by
 simp only [List.mem_cons,List.not_mem_nil,or_false] at hf
 rcases hf with rfl | rfl
 ·exact ⟨by simp,zQt⟩
 ·exact ⟨by simp,wWs⟩
theorem wJw:yXz 1 trE1 = 0:=yK2 wWg rfl rfl
theorem wJv:yXz 1 trE2 = 0:=yK2 wWf rfl (by
 have a1:allF [zP] [zP] = true:=yUj fun f hf => by
  simp only [List.mem_cons,List.not_mem_nil,or_false] at hf
  subst hf
  exact ⟨by simp,zQt⟩
 have a2:allF [zP] [zP,zN] = true:=yUj fun f hf => by
  simp only [List.mem_cons,List.not_mem_nil,or_false] at hf
  subst hf
  exact ⟨by simp,zQt⟩
 simp only [yJq,trE1,Tr.sq,Sq.plus,yJ7,List.append_nil,List.nil_append,a1,a2,Bool.and_self])
theorem wG4:yXz 1 trE = 0:=yK2 vQ5 rfl (by
 have a1:allF [] [] = true:=rfl
 simp only [yJq,trE2,Tr.sq,Sq.plus,yJ7,List.nil_append,a1,vXq [zO],Bool.and_self])
theorem wKk:trE.walk [] = [([],trE),([0],trE2),([0,0],trE1)]:=rfl
theorem wKh:yJl 1 trE = ([],0):=by
 unfold yJl
 rw [wKk]
 simp only [yZt,wG4,wJw,wJv,if_true]
 rfl
theorem wJu:yXz 2 trE = 195:=by
 have h1:hasF [zO,zP] zN = false:=by
  simp [hasF,eqF,zN,zO,zP,Fm.op]
 have h2:yJq ⟨[],[zO]⟩ [⟨[],[zP]⟩] [trE2] = false:=by
  have h3:allF [zP,zN] [zO,zP] = false:=List.all_eq_false.2 ⟨zN,by simp,by rw [h1]; simp⟩
  simp only [yJq,trE2,Tr.sq,Sq.plus,yJ7,List.cons_append,List.nil_append,h3,Bool.and_false,Bool.false_and]
 unfold trE
 simp only [yXz]
 rw [wWe]
 simp only [h2]
 rfl
theorem wKg:yJl 2 trE = ([],195):=by
 unfold yJl
 rw [wKk]
 simp only [yZt,wJu]
 rfl
theorem xJy {ca:Nat} {s:Sq} {rule:Nat} {main:Fm} {term:Tm} {name:ByteArray} {r:Rw} {ad:List Sq} (h1:yXn ca s = true) (h2:rowS ca rule = some r) (h3:yKw ca rule r main term name = (ad,0))
  (h4:r.left = true → hasF s.l main = true) (h5:r.right = true → hasF s.r main = true) (h6:r.asks = 2):yJ3 ca s rule main term name = if yY0 s name then ([],193) else (ad,0):=by
 unfold yJ3
 rw [h1,h2]
 simp only [Bool.not_true,bFt,if_false,h3]
 obtain ⟨rl,rr,op,asks⟩:=r
 simp only at h4 h5 h6 ⊢
 have e1:(rl && !hasF s.l main) = false:=by
  cases rl
  ·rfl
  ·rw [h4 rfl]; rfl
 have e2:(rr && !hasF s.r main) = false:=by
  cases rr
  ·rfl
  ·rw [h5 rfl]; rfl
 rw [e1,e2,dEt h6,Bool.true_and]
 rfl
def qx:ByteArray:=⟨#[120]⟩
def qy:ByteArray:=⟨#[121]⟩
def qu:ByteArray:=⟨#[117]⟩
def zX:Fm:=.mk 8 qx [] [.mk 1 ⟨#[81]⟩ [.mk true qx []] []]
def zY:Fm:=.mk 9 qy [] [.mk 1 ⟨#[82]⟩ [.mk true qy [],.mk true qu []] []]
def zU:Fm:=.mk 1 ⟨#[81]⟩ [.mk true qu []] []
theorem wVp:yKw 3 14 ⟨false,true,8,2⟩ zX tm0 qu = ([⟨[],[zU]⟩],0):=rfl
theorem xYs {s:Sq} (h:(decide (s.l.length ≤ 64) && decide (s.r.length ≤ 64) && s.l.all (fmB 3) && s.r.all (fmB 3)) = true):yXn 3 s = true:=by
 unfold yXn
 rw [show yJi 3 = true from rfl,Bool.true_and,h]; rfl
theorem vJ6:xYl 3 ⟨[zP],[zX]⟩ 14 zX tm0 qu = ([⟨[zP],[zX,zU]⟩],0):=by
 have h:=xJy (ca:=3) (s:=⟨[zP],[zX]⟩) (rule:=14) (main:=zX) (term:=tm0) (name:=qu) (xYs (by decide)) rfl wVp (fun h => by cases h) (fun _ => yXm (by simp) (by decide)) rfl
 have hf:yY0 ⟨[zP],[zX]⟩ qu = false:=by decide
 rw [hf] at h
 unfold xYl
 rw [h]
 rfl
theorem vJ5:xYl 3 ⟨[zY],[zX]⟩ 14 zX tm0 qu = ([],193):=by
 have h:=xJy (ca:=3) (s:=⟨[zY],[zX]⟩) (rule:=14) (main:=zX) (term:=tm0) (name:=qu) (xYs (by decide)) rfl wVp (fun h => by cases h) (fun _ => yXm (by simp) (by decide)) rfl
 have hf:yY0 ⟨[zY],[zX]⟩ qu = true:=by decide
 rw [hf] at h
 unfold xYl
 rw [h]
 rfl
def zD:Fm:=.mk 4 ⟨#[]⟩ [] [zP,zQ]
theorem vQq:yXf zP = zP:=rfl
theorem vQr:yXf zD = zD:=rfl
theorem uVp:SetS ⟨[zD,zD,zP],[]⟩ = (⟨[zP,zD],[]⟩,0):=by
 have hs:SetF [zD,zD,zP] [zP,zD]:=by
  refine ⟨?_,fun f => ?_⟩
  ·refine List.pairwise_cons.2 ⟨fun f hf => ?_,List.pairwise_singleton ..⟩
   obtain rfl:=List.mem_singleton.1 hf
   simp [zP,zD,yZd,cmpN,lexI]
  ·simp only [List.mem_cons,List.not_mem_nil,or_false]
   constructor
   ·rintro (h | h)
    ·exact .inr (.inr h)
    ·exact .inl h
   ·rintro (h | h | h)
    ·exact .inr h
    ·exact .inr h
    ·exact .inl h
 have h1:yZb [zD,zD,zP] = ([zP,zD],0):=by
  unfold yZb
  rw [show [zD,zD,zP].all Fm.right = true by decide]
  simp only [if_true,List.map_cons,List.map_nil,vQq,vQr,zQs hs]
 have h2:yZb [] = ([],0):=by
  unfold yZb
  simp only [List.all_nil,if_true,List.map_nil,xK2]
 unfold SetS
 simp only [h1,h2,ne_eq,nTf,if_false]
end Go.Proofs.Tryz
namespace Go.Proofs.Tryz
open Go Go.Iv
set_option maxRecDepth 4000
def tagR:List Tr → Tag
 | [] => ⟨true,.nil,0⟩
 | _ :: _ => ⟨true,.full,12⟩
theorem wW6 (l:List Tr):okEs (tagR l) 12:=by cases l <;> simp [tagR,okEs]
mutual
def trI:Tr → IV
 | .mk rule s (.mk o fn us fs) (.mk v un ts) n sub => .agg [.raw (.int .u8 rule),.sl (tagF s.l) (fmsI s.l),.sl (tagF s.r) (fmsI s.r),.raw (.int .u8 o),.raw (.string fn),.sl (tagT us) (tmsI us),.sl (tagF fs) (fmsI fs),.raw (.bool v),.raw (.string un),.sl (tagT ts) (tmsI ts),.raw (.string n),.sl (tagR sub) (trsI sub)]
def trsI:List Tr → List IV
 | [] => []
 | a :: l => trI a :: trsI l
end
mutual
def bytT:Tr → Bool
 | .mk rule s f _ _ sub => decide (rule < 256) && zVz s.l && zVz s.r && wXs f && wK1 sub
def wK1:List Tr → Bool
 | [] => true
 | a :: l => bytT a && wK1 l
end
mutual
theorem xYx:∀ t:Tr,bytT t = true → IsTr t (trI t)
 | .mk rule s (.mk o fn us fs) (.mk v un ts) n sub,h => by
  simp only [bytT,bAt,dTe] at h
  obtain ⟨⟨⟨⟨h1,h2⟩,h3⟩,h4⟩,h5⟩:=h
  have hf:=xV7 (.mk o fn us fs) h4
  have ht:=xJu (.mk v un ts)
  simp only [fmI] at hf
  simp only [tmI] at ht
  simp only [IsTr]
  exact ⟨tagF s.l,fmsI s.l,tagF s.r,fmsI s.r,o,fn,tagT us,tmsI us,tagF fs,fmsI fs,v,un,tagT ts,tmsI ts,tagR sub,trsI sub,by simp only [trI],h1,yK6 _,yJz _ h2,yK6 _,yJz _ h3,hf,ht,wW6 _,xYw sub h5⟩
theorem xYw:∀ l:List Tr,wK1 l = true → IsTrs l (trsI l)
 | [],_ => rfl
 | a :: l,h => by
  simp only [wK1,bAt] at h
  exact ⟨_,_,by simp only [trsI],xYx a h.1,xYw l h.2⟩
end
def fitB (l:List Fm):Bool:=l.all fun f => decide (f.size ≤ 1000000)
theorem zV6 {l:List Fm} (h:fitB l = true):fitL l:=fun g hg => of_decide_eq_true (List.all_eq_true.1 h g hg)
def xUa:Tr → Bool
 | .mk _ s m u _ sub => fitB s.l && fitB s.r && decide (m.size ≤ 1000000) && decide (u.size ≤ 1000000) && sub.all fun a => fitB a.sq.l && fitB a.sq.r
theorem vQs {t:Tr} (h:xUa t = true):xU9 t:=by
 obtain ⟨rule,s,m,u,n,sub⟩:=t
 simp only [xUa,bAt,dTe,List.all_eq_true] at h
 obtain ⟨⟨⟨⟨h1,h2⟩,h3⟩,h4⟩,h5⟩:=h
 exact ⟨⟨zV6 h1,zV6 h2⟩,h3,h4,fun a ha => ⟨zV6 (h5 a ha).1,zV6 (h5 a ha).2⟩⟩
theorem wQn {t:Tr} (h:(t.walk []).all (fun q => xUa q.2) = true) (hh:t.height ≤ 1099511627776):wJh t:=⟨fun q hq => vQs (List.all_eq_true.1 h q hq),hh⟩
theorem vX7:wJh trA:=wQn (by decide) (by decide)
theorem vX6:wJh trE:=wQn (by decide) (by decide)
theorem is_A:IsTr trA (trI trA):=xYx trA (by decide)
theorem is_E:IsTr trE (trI trE):=xYx trE (by decide)
end Go.Proofs.Tryz
namespace Go.Proofs.Tryz
open Go Go.Iv
set_option maxRecDepth 4000
variable (gl:Nat → Option IV)
theorem yQm (x y z:Operand):yKn 3 [(0,x),(1,y),(2,z)] = true:=rfl
theorem wXm (G:Gl gl) (T:Gt gl) (st:ISt):ICall prog gl 11 [] st (fun r st' => r = .raw (.bool true) ∧ st' = st):=by
 have hA1:=fun st => zGj gl G T 1 trA (trI trA) is_A vX7 st
 have hA2:=fun st => zGj gl G T 2 trA (trI trA) is_A vX7 st
 have hE1:=fun st => zGj gl G T 1 trE (trI trE) is_E vX6 st
 have hE2:=fun st => zGj gl G T 2 trE (trI trE) is_E vX6 st
 simp only [wKj] at hA1
 simp only [wKi] at hA2
 simp only [wKh] at hE1
 simp only [wKg] at hE2
 refine ICall.intro (c:=cf prog gl [] [(2,[2,10,0,1,3,4,5,6,7,8,9,11]),(4,[0,2,9,10,11,13,1,3,4,5,6,7,8,12,14]),(9,[8,9,11,0,1,2,3,4,5,6,7,10,12]),(10,[0,1,2,5,6,8,3,4,7,9]),(18,[3,4,7,8,0,1,2,5,6,9,10,11,12,13,14]),(19,[0,1,3,4,7,8,2,5,6,9,10,11,12,13,14]),(21,[0,1,10,2,3,4,5,6,7,8,9,11,12]),(22,[0,1,2,3,4,5,6,7,8,9,10,14,15,11,12,13,16,17,18,19,20,21,22,23,24,25,26,27,28,29,30,31,32,33,35,34,36,37,38,39,40,41])]) func11 rfl (by show _ ≤ 241; simp) (by kernel_rfl) ?_
 simp -implicitDefEqProofs -dsimp only [go_sem,fits,yQg]
 repeat (first
  | (refine (q_p gl _ _ _ _).mono ?_; rintro _ st ⟨rfl,rfl⟩; simp -implicitDefEqProofs -dsimp only [go_sem,fits,yQ1,yQ9,yQm,yQg,decide_true,fits])
  | (refine (q_no gl _ _ _ _ _ _ _).mono ?_; rintro _ st ⟨rfl,rfl⟩; simp -implicitDefEqProofs -dsimp only [go_sem,fits,yQ1,yQ9,yQm,yQg,decide_true,fits])
  | (refine (xX7 gl _ _ _ _ _ _ _ _ _ _ _ _ _ _).mono ?_; rintro _ st ⟨rfl,rfl⟩; simp -implicitDefEqProofs -dsimp only [go_sem,fits,yQ1,yQ9,yQm,yQg,decide_true,fits])
  | (refine (q_fs gl _ _ _).mono ?_; rintro _ st ⟨rfl,rfl⟩; simp -implicitDefEqProofs -dsimp only [go_sem,fits,yQ1,yQ9,yQm,yQg,decide_true,fits])
  | (refine (q_sq gl _ _ _ _ _).mono ?_; rintro _ st ⟨rfl,rfl⟩; simp -implicitDefEqProofs -dsimp only [go_sem,fits,yQ1,yQ9,yQm,yQg,decide_true,fits])
  | (refine (q_v gl _ _).mono ?_; rintro _ st ⟨rfl,rfl⟩; simp -implicitDefEqProofs -dsimp only [go_sem,fits,yQ1,yQ9,yQm,yQg,decide_true,fits]))
 refine (hA1 _).mono ?_
 rintro _ st ⟨⟨tg1,rfl,ht1⟩,rfl⟩
 simp -implicitDefEqProofs -dsimp only [go_sem,fits,yQg]
 refine (hA2 _).mono ?_
 rintro _ st ⟨⟨tg2,rfl,ht2⟩,rfl⟩
 simp -implicitDefEqProofs -dsimp only [go_sem,fits,yQg]
 repeat (first
  | (refine (q_p gl _ _ _ _).mono ?_; rintro _ st ⟨rfl,rfl⟩; simp -implicitDefEqProofs -dsimp only [go_sem,fits,yQ1,yQ9,yQm,yQg,decide_true,fits])
  | (refine (q_no gl _ _ _ _ _ _ _).mono ?_; rintro _ st ⟨rfl,rfl⟩; simp -implicitDefEqProofs -dsimp only [go_sem,fits,yQ1,yQ9,yQm,yQg,decide_true,fits])
  | (refine (xX7 gl _ _ _ _ _ _ _ _ _ _ _ _ _ _).mono ?_; rintro _ st ⟨rfl,rfl⟩; simp -implicitDefEqProofs -dsimp only [go_sem,fits,yQ1,yQ9,yQm,yQg,decide_true,fits])
  | (refine (q_fs gl _ _ _).mono ?_; rintro _ st ⟨rfl,rfl⟩; simp -implicitDefEqProofs -dsimp only [go_sem,fits,yQ1,yQ9,yQm,yQg,decide_true,fits])
  | (refine (q_sq gl _ _ _ _ _).mono ?_; rintro _ st ⟨rfl,rfl⟩; simp -implicitDefEqProofs -dsimp only [go_sem,fits,yQ1,yQ9,yQm,yQg,decide_true,fits])
  | (refine (q_v gl _ _).mono ?_; rintro _ st ⟨rfl,rfl⟩; simp -implicitDefEqProofs -dsimp only [go_sem,fits,yQ1,yQ9,yQm,yQg,decide_true,fits]))
 refine (hE1 _).mono ?_
 rintro _ st ⟨⟨tg3,rfl,ht3⟩,rfl⟩
 simp -implicitDefEqProofs -dsimp only [go_sem,fits,yQg]
 refine (hE2 _).mono ?_
 rintro _ st ⟨⟨tg4,rfl,ht4⟩,rfl⟩
 have hz1:IntKind.i64.wrap (((0:Nat):Int) + ((0:Nat):Int)) = 0:=rfl
 have hz2:IntKind.i64.wrap ((0:Int) + ((0:Nat):Int)) = 0:=rfl
 have hz3:decide ((0:Int) = 0) = true:=rfl
 have hz4:decide (((195:Nat):Int) = 195) = true:=rfl
 have hz5:plI [] = []:=rfl
 have hS:=fun st => wGb gl trA (trI trA) is_A (by decide) st
 have hH:=fun st => wKd gl trA (trI trA) is_A (by decide) st
 have hC:=fun st => vJ4 gl trA (trI trA) is_A (by decide) st
 simp only [wW9] at hS
 simp only [wJb] at hH
 simp only [vXa] at hC
 simp -implicitDefEqProofs -dsimp only [go_sem,fits,yQg,hz1,hz2,hz3,hz4,hz5,decide_true,show decide (((0:Nat):Int) = 0) = true from rfl]
 intros
 refine (hS _).mono ?_
 rintro _ st ⟨rfl,rfl⟩
 simp -implicitDefEqProofs -dsimp only [go_sem,fits,yQg,decide_true,show decide (((3:Nat):Int) = 3) = true from rfl]
 refine (hH _).mono ?_
 rintro _ st ⟨rfl,rfl⟩
 simp -implicitDefEqProofs -dsimp only [go_sem,fits,yQg,decide_true,show decide (((2:Nat):Int) = 2) = true from rfl]
 refine (hC _).mono ?_
 rintro _ st ⟨rfl,rfl⟩
 simp -implicitDefEqProofs -dsimp only [go_sem,fits,yQg,decide_true,show decide (((0:Nat):Int) = 0) = true from rfl]
 repeat (first
  | (refine (q_p gl _ _ _ _).mono ?_; rintro _ st ⟨rfl,rfl⟩; simp -implicitDefEqProofs -dsimp only [go_sem,fits,yQ1,yQ9,yQm,yQg,decide_true,fits])
  | (refine (q_no gl _ _ _ _ _ _ _).mono ?_; rintro _ st ⟨rfl,rfl⟩; simp -implicitDefEqProofs -dsimp only [go_sem,fits,yQ1,yQ9,yQm,yQg,decide_true,fits])
  | (refine (xX7 gl _ _ _ _ _ _ _ _ _ _ _ _ _ _).mono ?_; rintro _ st ⟨rfl,rfl⟩; simp -implicitDefEqProofs -dsimp only [go_sem,fits,yQ1,yQ9,yQm,yQg,decide_true,fits])
  | (refine (q_fs gl _ _ _).mono ?_; rintro _ st ⟨rfl,rfl⟩; simp -implicitDefEqProofs -dsimp only [go_sem,fits,yQ1,yQ9,yQm,yQg,decide_true,fits])
  | (refine (q_sq gl _ _ _ _ _).mono ?_; rintro _ st ⟨rfl,rfl⟩; simp -implicitDefEqProofs -dsimp only [go_sem,fits,yQ1,yQ9,yQm,yQg,decide_true,fits])
  | (refine (q_v gl _ _).mono ?_; rintro _ st ⟨rfl,rfl⟩; simp -implicitDefEqProofs -dsimp only [go_sem,fits,yQ1,yQ9,yQm,yQg,decide_true,fits]))
 have hB1:=fun st => wVs gl G T 3 ⟨[zP],[zX]⟩ (.agg [.sl (tagF [zP]) (fmsI [zP]),.sl (tagF [zX]) (fmsI [zX])]) ⟨_,_,_,_,rfl,yK6 _,yJz _ (by decide),yK6 _,yJz _ (by decide)⟩ ⟨zV6 (by decide),zV6 (by decide)⟩ 14 zX (fmI zX) (xV7 zX (by decide)) (by decide) tm0 (tmI tm0) (xJu tm0) (by decide) qu st
 simp only [vJ6] at hB1
 refine (hB1 _).mono ?_
 rintro _ st ⟨tg5,xs5,rfl,ht5,hx5,rfl⟩
 obtain ⟨w5,_,rfl,hw5,rfl⟩:=hx5
 simp -implicitDefEqProofs -dsimp only [go_sem,fits,yQ1,yQg,decide_true]
 repeat (first
  | (refine (q_p gl _ _ _ _).mono ?_; rintro _ st ⟨rfl,rfl⟩; simp -implicitDefEqProofs -dsimp only [go_sem,fits,yQ1,yQ9,yQm,yQg,decide_true,fits])
  | (refine (q_no gl _ _ _ _ _ _ _).mono ?_; rintro _ st ⟨rfl,rfl⟩; simp -implicitDefEqProofs -dsimp only [go_sem,fits,yQ1,yQ9,yQm,yQg,decide_true,fits])
  | (refine (xX7 gl _ _ _ _ _ _ _ _ _ _ _ _ _ _).mono ?_; rintro _ st ⟨rfl,rfl⟩; simp -implicitDefEqProofs -dsimp only [go_sem,fits,yQ1,yQ9,yQm,yQg,decide_true,fits])
  | (refine (q_fs gl _ _ _).mono ?_; rintro _ st ⟨rfl,rfl⟩; simp -implicitDefEqProofs -dsimp only [go_sem,fits,yQ1,yQ9,yQm,yQg,decide_true,fits])
  | (refine (q_sq gl _ _ _ _ _).mono ?_; rintro _ st ⟨rfl,rfl⟩; simp -implicitDefEqProofs -dsimp only [go_sem,fits,yQ1,yQ9,yQm,yQg,decide_true,fits])
  | (refine (q_v gl _ _).mono ?_; rintro _ st ⟨rfl,rfl⟩; simp -implicitDefEqProofs -dsimp only [go_sem,fits,yQ1,yQ9,yQm,yQg,decide_true,fits]))
 have hB2:=fun st => wVs gl G T 3 ⟨[zY],[zX]⟩ (.agg [.sl (tagF [zY]) (fmsI [zY]),.sl (tagF [zX]) (fmsI [zX])]) ⟨_,_,_,_,rfl,yK6 _,yJz _ (by decide),yK6 _,yJz _ (by decide)⟩ ⟨zV6 (by decide),zV6 (by decide)⟩ 14 zX (fmI zX) (xV7 zX (by decide)) (by decide) tm0 (tmI tm0) (xJu tm0) (by decide) qu st
 simp only [vJ5] at hB2
 refine (hB2 _).mono ?_
 rintro _ st ⟨tg6,xs6,rfl,ht6,hx6,rfl⟩
 simp -implicitDefEqProofs -dsimp only [go_sem,fits,yQ1,yQg,decide_true]
 repeat (first
  | (refine (q_p gl _ _ _ _).mono ?_; rintro _ st ⟨rfl,rfl⟩; simp -implicitDefEqProofs -dsimp only [go_sem,fits,yQ1,yQ9,yQm,yQg,decide_true,fits])
  | (refine (q_no gl _ _ _ _ _ _ _).mono ?_; rintro _ st ⟨rfl,rfl⟩; simp -implicitDefEqProofs -dsimp only [go_sem,fits,yQ1,yQ9,yQm,yQg,decide_true,fits])
  | (refine (xX7 gl _ _ _ _ _ _ _ _ _ _ _ _ _ _).mono ?_; rintro _ st ⟨rfl,rfl⟩; simp -implicitDefEqProofs -dsimp only [go_sem,fits,yQ1,yQ9,yQm,yQg,decide_true,fits])
  | (refine (q_fs gl _ _ _).mono ?_; rintro _ st ⟨rfl,rfl⟩; simp -implicitDefEqProofs -dsimp only [go_sem,fits,yQ1,yQ9,yQm,yQg,decide_true,fits])
  | (refine (q_sq gl _ _ _ _ _).mono ?_; rintro _ st ⟨rfl,rfl⟩; simp -implicitDefEqProofs -dsimp only [go_sem,fits,yQ1,yQ9,yQm,yQg,decide_true,fits])
  | (refine (q_v gl _ _).mono ?_; rintro _ st ⟨rfl,rfl⟩; simp -implicitDefEqProofs -dsimp only [go_sem,fits,yQ1,yQ9,yQm,yQg,decide_true,fits]))
 have hD:=fun st => uVo gl G T ⟨[zD,zD,zP],[]⟩ (.agg [.sl (tagF [zD,zD,zP]) (fmsI [zD,zD,zP]),.sl (tagF []) (fmsI [])]) ⟨_,_,_,_,rfl,yK6 _,yJz _ (by decide),yK6 _,yJz _ (by decide)⟩ ⟨zV6 (by decide),zV6 (by decide)⟩ (by decide) st
 simp only [uVp] at hD
 refine (hD _).mono ?_
 rintro _ st ⟨⟨y,rfl,hy⟩,rfl⟩
 obtain ⟨ty1,xy1,ty2,xy2,rfl,ey1,iy1,ey2,iy2⟩:=hy
 obtain ⟨tw1,xw1,tw2,xw2,rfl,ew1,iw1,ew2,iw2⟩:=hw5
 have z1:decide (((1:Nat):Int) = 1) = true:=rfl
 have z2:decide (((193:Nat):Int) = 193) = true:=rfl
 have z3:decide (((0:Nat):Int) = 0) = true:=rfl
 simp -implicitDefEqProofs -dsimp only [go_sem,fits,yQ1,yQg,decide_true,yQ2 ht5,Int.le_refl,Int.toNat_zero,z1,z2,z3]
 repeat (first
  | (refine (q_p gl _ _ _ _).mono ?_; rintro _ st ⟨rfl,rfl⟩; simp -implicitDefEqProofs -dsimp only [go_sem,fits,yQ1,yQ9,yQm,yQg,decide_true,fits])
  | (refine (q_no gl _ _ _ _ _ _ _).mono ?_; rintro _ st ⟨rfl,rfl⟩; simp -implicitDefEqProofs -dsimp only [go_sem,fits,yQ1,yQ9,yQm,yQg,decide_true,fits])
  | (refine (xX7 gl _ _ _ _ _ _ _ _ _ _ _ _ _ _).mono ?_; rintro _ st ⟨rfl,rfl⟩; simp -implicitDefEqProofs -dsimp only [go_sem,fits,yQ1,yQ9,yQm,yQg,decide_true,fits])
  | (refine (q_fs gl _ _ _).mono ?_; rintro _ st ⟨rfl,rfl⟩; simp -implicitDefEqProofs -dsimp only [go_sem,fits,yQ1,yQ9,yQm,yQg,decide_true,fits])
  | (refine (q_sq gl _ _ _ _ _).mono ?_; rintro _ st ⟨rfl,rfl⟩; simp -implicitDefEqProofs -dsimp only [go_sem,fits,yQ1,yQ9,yQm,yQg,decide_true,fits])
  | (refine (q_v gl _ _).mono ?_; rintro _ st ⟨rfl,rfl⟩; simp -implicitDefEqProofs -dsimp only [go_sem,fits,yQ1,yQ9,yQm,yQg,decide_true,fits]))
 have hS1:=fun st => yGd gl ⟨[zP],[zX,zU]⟩ ⟨[zP],[zX,zU]⟩ (.agg [.sl tw1 xw1,.sl tw2 xw2]) (.agg [.sl (tagF [zP]) (fmsI [zP]),.sl (tagF [zX,zU]) (fmsI [zX,zU])]) ⟨_,_,_,_,rfl,ew1,iw1,ew2,iw2⟩ ⟨_,_,_,_,rfl,yK6 _,yJz _ (by decide),yK6 _,yJz _ (by decide)⟩ st
 have hS2:=fun st => yGd gl ⟨[zP,zD],[]⟩ ⟨[zP,zD],[]⟩ (.agg [.sl ty1 xy1,.sl ty2 xy2]) (.agg [.sl (tagF [zP,zD]) (fmsI [zP,zD]),.sl (tagF []) (fmsI [])]) ⟨_,_,_,_,rfl,ey1,iy1,ey2,iy2⟩ ⟨_,_,_,_,rfl,yK6 _,yJz _ (by decide),yK6 _,yJz _ (by decide)⟩ st
 refine (hS1 _).mono ?_
 rintro _ st ⟨rfl,rfl⟩
 simp -implicitDefEqProofs -dsimp only [go_sem,fits,yQ1,yQ9,yQg,decide_true,show ∀ s:Sq,eqB s s = true from fun s => yQo.2 rfl,z1,z2,z3]
 repeat (first
  | (refine (q_p gl _ _ _ _).mono ?_; rintro _ st ⟨rfl,rfl⟩; simp -implicitDefEqProofs -dsimp only [go_sem,fits,yQ1,yQ9,yQm,yQg,decide_true,fits])
  | (refine (q_no gl _ _ _ _ _ _ _).mono ?_; rintro _ st ⟨rfl,rfl⟩; simp -implicitDefEqProofs -dsimp only [go_sem,fits,yQ1,yQ9,yQm,yQg,decide_true,fits])
  | (refine (xX7 gl _ _ _ _ _ _ _ _ _ _ _ _ _ _).mono ?_; rintro _ st ⟨rfl,rfl⟩; simp -implicitDefEqProofs -dsimp only [go_sem,fits,yQ1,yQ9,yQm,yQg,decide_true,fits])
  | (refine (q_fs gl _ _ _).mono ?_; rintro _ st ⟨rfl,rfl⟩; simp -implicitDefEqProofs -dsimp only [go_sem,fits,yQ1,yQ9,yQm,yQg,decide_true,fits])
  | (refine (q_sq gl _ _ _ _ _).mono ?_; rintro _ st ⟨rfl,rfl⟩; simp -implicitDefEqProofs -dsimp only [go_sem,fits,yQ1,yQ9,yQm,yQg,decide_true,fits])
  | (refine (q_v gl _ _).mono ?_; rintro _ st ⟨rfl,rfl⟩; simp -implicitDefEqProofs -dsimp only [go_sem,fits,yQ1,yQ9,yQm,yQg,decide_true,fits]))
 refine (hS2 _).mono ?_
 rintro _ st ⟨rfl,rfl⟩
 simp -implicitDefEqProofs -dsimp only [go_sem,fits,yQ1,yQ9,yQg,decide_true,show ∀ s:Sq,eqB s s = true from fun s => yQo.2 rfl,z1,z2,z3]
 exact yQ0 ⟨rfl,rfl⟩
end Go.Proofs.Tryz
namespace Go.Proofs.Tryz
open Go Go.Iv
mutual
theorem wX0:∀ t:Tm,t.size ≤ wTm t
 | .mk _ n us => by have:=zJ4 us; simp only [wTm,Tm.size]; omega
theorem zJ4:∀ l:List Tm,yQ8 l ≤ wTms l
 | [] => Nat.le_refl _
 | a :: l => by have:=wX0 a; have:=zJ4 l; simp only [wTms,yQ8]; omega
end
mutual
theorem wX1:∀ f:Fm,f.size ≤ wFm f
 | .mk _ n us sub => by have:=zJ4 us; have:=yV6 sub; simp only [wFm,Fm.size]; omega
theorem yV6:∀ l:List Fm,yQ7 l ≤ wFms l
 | [] => Nat.le_refl _
 | a :: l => by have:=wX1 a; have:=yV6 l; simp only [wFms,yQ7]; omega
end
end Go.Proofs.Tryz
namespace Go.Proofs.Tryz
open Go Go.Iv
set_option maxRecDepth 4000
variable (gl:Nat → Option IV)
theorem Lents.nil (st:ISt):Lents st [] []:=rfl
theorem Lents.self {st:ISt} {y:IV} {ys xs:List IV} (h:Lents st ys xs):Lents st (y :: ys) (y :: xs):=⟨_,_,rfl,.inl rfl,h⟩
theorem Lents.lent {st:ISt} {y x0:IV} {ys xs:List IV} (ho:OI st y x0) (h:Lents st ys xs):Lents st (y :: ys) (age x0 :: xs):=⟨_,_,rfl,.inr ⟨x0,ho,rfl⟩,h⟩
theorem _root_.Go.Iv.OI.sub {T st:ISt} {y x:IV} (h:OI T y x) (hs:subSt T st):OI st y x:=h.mono fun _ _ k => hs _ _ k
variable {gl} in
theorem yYn {f:FuncId} {args args':List IV} {b:Bool} {st:ISt} (hf:flatSt st) (hl:Lents st args args') (h:∀ st,ICall prog gl f args' st (fun r st' => r = .raw (.bool b) ∧ st' = st)) :
  ICall prog gl f args st (fun r st' => r = .raw (.bool b) ∧ st' = st) :=
 (ICall.lent (K:=fun r => r = .raw (.bool b)) (xUt hf) hl ((h (yYj st)).mono fun r st' k => ⟨k.2,by rw [k.1]; trivial,k.1⟩)).mono fun r st' k => ⟨k.2,k.1⟩
theorem xK0 {t:Tag} {xs:List IV} {l:List Fm} (ha:appT l.length t) (h:IsFmsD l xs):dfr (.sl t xs):=by
 simp only [dfr]
 exact ⟨ha.to h.len,h.2,h.1.cells_one⟩
theorem IsSqD.dfr {s:Sq} {x:IV} (h:IsSqD s x):dfr x:=by
 obtain ⟨t1,x1,t2,x2,rfl,_,a1,i1,_,a2,i2⟩:=h
 simp only [Go.Iv.dfr,dfrs,and_true]
 refine ⟨⟨?_,?_⟩,fun c hc => ?_⟩
 ·have:=xK0 a1 i1; simpa only [Go.Iv.dfr] using this
 ·have:=xK0 a2 i2; simpa only [Go.Iv.dfr] using this
 ·simp only [List.mem_cons,List.not_mem_nil,or_false] at hc
  rcases hc with rfl | rfl <;> rfl
theorem wY4 {N:ISt} (hraw:wXg N) {s:Sq} {y x:IV} (hx:IsSqD s x) (ho:OI N y x) (hy:rawY y):∃ u w d,y = .agg [u,w] ∧ u.one = true ∧ u.def_ ∧ w.one = true ∧ w.def_ ∧ OK (fun b => N b ≠ none) d 4 N u ∧ OK (fun b => N b ≠ none) d 4 N w:=by
 obtain ⟨t1,x1,t2,x2,rfl,e1,a1,i1,e2,a2,i2⟩:=hx
 cases ho with
 | refl => simp only [rawY,xX2] at hy; exact hy.1.elim
 | agg rs _ hl h =>
  simp only [rawY] at hy
  match rs,hl with
  | [u,w],_ =>
   have o1:=h 0 _ _ rfl rfl
   have o2:=h 1 _ _ rfl rfl
   have y1:=yYf hy (show u ∈ [u,w] by simp)
   have y2:=yYf hy (show w ∈ [u,w] by simp)
   have q1:(∃ v,u = .raw v) ∧ u.one = true:=by cases o1 with | refl => exact y1.elim | nil => exact ⟨⟨_,rfl⟩,rfl⟩ | sl => exact ⟨⟨_,rfl⟩,rfl⟩
   have q2:(∃ v,w = .raw v) ∧ w.one = true:=by cases o2 with | refl => exact y2.elim | nil => exact ⟨⟨_,rfl⟩,rfl⟩ | sl => exact ⟨⟨_,rfl⟩,rfl⟩
   obtain ⟨d,hd⟩:=zYi hraw _ s.l (Nat.lt_succ_self _) _ _ _ q1.1 o1 e1 i1.1 (xK0 a1 i1)
   obtain ⟨e,he⟩:=zYi hraw _ s.r (Nat.lt_succ_self _) _ _ _ q2.1 o2 e2 i2.1 (xK0 a2 i2)
   refine ⟨u,w,d + e,rfl,q1.2,?_,q2.2,?_,hd.le (by omega),he.le (by omega)⟩
   ·obtain ⟨⟨v,rfl⟩,_⟩:=q1; exact fun h => by cases h
   ·obtain ⟨⟨v,rfl⟩,_⟩:=q2; exact fun h => by cases h
theorem vQ9 (G:Gl gl) (T:Gt gl) (hgl:vXr gl) (ca:Nat) (a b:Sq) (x y:IV) (hx:IsSq a x) (hy:IsSq b y) (f:Fm) (z:IV) (hz:IsFm f z) (ha:yVd a) (hb:yVd b) (hf:f.size ≤ 1000000)
  (hs:yQ7 a.l ≤ 1000000 ∧ yQ7 a.r ≤ 1000000 ∧ yQ7 b.l ≤ 1000000 ∧ yQ7 b.r ≤ 1000000) (st:ISt) (hfl:flatSt st) :
  ICall prog gl 10 [.raw (.int .u8 ca),x,y,z] st (fun r st' => r = .raw (.bool true) ∧ st' = st):=by
 have l1:=yQx a.l
 have l2:=yQx a.r
 have l3:=yQx b.l
 have l4:=yQx b.r
 have hLa:=fun st hfl => xZ7 gl a x hx (by omega) (by omega) st hfl
 have hLb:=fun st hfl => xZ7 gl b y hy (by omega) (by omega) st hfl
 have hRs:=fun st => vQe gl a x hx ha ⟨by omega,by omega⟩ st
 have hW1:=fun st => zUi gl G a b x y hx hy ha hb ⟨by omega,by omega,by omega,by omega⟩ st
 have hW2:=fun st => zUi gl G b a y x hy hx hb ha ⟨by omega,by omega,by omega,by omega⟩ st
 have hRv:=fun st => wXh gl ca a x hx ha st
 have hKa:=fun w st hfl hw => xZ8 gl a x w hx (by omega) (by omega) st hfl hw
 have hKb:=fun w st hfl hw => xZ8 gl b y w hy (by omega) (by omega) st hfl hw
 have hx0:=hx
 have hy0:=hy
 have hz0:=hz
 obtain ⟨t1,x1,t2,x2,rfl,e1,i1,e2,i2⟩:=hx
 obtain ⟨t3,x3,t4,x4,rfl,e3,i3,e4,i4⟩:=hy
 obtain ⟨o5,n5,t5,x5,t6,x6,rfl⟩:=hz.agg
 have hRh:=fun st => xGv gl G a.l t1 x1 e1 i1 f _ hz0 ha.1 hf (by omega) st
 refine ICall.intro (c:=cf prog gl [] [(1,[0,2,4,5,1,3,6,7]),(4,[0,1,3,4,2,5,6,7]),(5,[0,1,3,4,2,5,6,7,8,9,10,12,13,14,11,15,16,17,18,19,20,22,21,23,24,25,26,27,29,28,30,31,32,33,34,35,36,37,38,39,40,41,42,43,44,45])]) func10 rfl (by show _ ≤ 93; simp) (by kernel_rfl) ?_
 simp -implicitDefEqProofs -dsimp only [go_sem,fits]
 refine (hLa _ hfl).mono ?_
 rintro xa st1 ⟨hxa,hs1,hf1⟩
 obtain ⟨za,hza,hoa⟩:=hxa.oi (by omega) (by omega)
 simp -implicitDefEqProofs -dsimp only [go_sem,fits]
 refine (hLb _ hf1).mono ?_
 rintro xb st2 ⟨hxb,hs2,hf2⟩
 obtain ⟨zb,hzb,hob⟩:=hxb.oi (by omega) (by omega)
 have hA2:LSq st2 a xa:=hxa.mono fun c o hc => hs2 _ _ (yKj hc).2
 have hB2:LSq st2 b xb:=hxb.mono fun c o hc => (yKj hc).2
 have ho2:OI st2 xa za:=hoa.sub fun c o hc => hs2 _ _ (yKj hc).2
 have ho2b:OI st2 xb zb:=hob.sub fun c o hc => (yKj hc).2
 have hS:=ICall.lentOwn hf2 hgl (Lents.lent ho2 (Lents.nil _)) (K:=fun r => ∃ y,r = .tup [y,.raw (.int .i64 (SetS a).2)] ∧ IsSqD (SetS a).1 y)
  ((vXu gl G T a (age (age za)) hza.aged.aged ha ⟨by omega,by omega⟩ (yYj st2)).mono fun r st' ⟨⟨y,h1,h2⟩,h3⟩ => ⟨h3,by rw [h1]; exact ⟨h2.dfr,trivial,trivial⟩,y,h1,h2⟩)
 obtain ⟨pa,ca1,qa,da,rfl,ga1,ga2,ga3,ga4⟩:=hxa
 obtain ⟨pb,cb1,qb,db,rfl,gb1,gb2,gb3,gb4⟩:=hxb
 simp -implicitDefEqProofs -dsimp only [go_sem,fits]
 refine hS.mono ?_
 rintro _ st3 ⟨hs3,hf3,_,N,⟨yi,rfl,hyi⟩,hoN,hrY,hrN,hN3,hNd⟩
 obtain ⟨ys,rfl,hoys,hrys⟩:=wXp hoN hrY
 obtain ⟨u,w,d,rfl,hu1,hu2,hw1,hw2,hOu,hOw⟩:=wY4 hrN hyi hoys hrys
 simp -implicitDefEqProofs -dsimp only [go_sem,fits,hu1,hw1]
 refine (hRs _).mono ?_
 rintro _ st3 ⟨⟨yr,rfl,hyr⟩,rfl⟩
 have hyr0:=hyr
 obtain ⟨t7,x7,t8,x8,rfl,_⟩:=hyr
 simp -implicitDefEqProofs -dsimp only [go_sem,fits]
 refine (hW1 _).mono ?_
 rintro _ st3 ⟨rfl,rfl⟩
 simp -implicitDefEqProofs -dsimp only [go_sem,fits]
 refine (hW2 _).mono ?_
 rintro _ st3 ⟨rfl,rfl⟩
 have ho3:=ho2.sub hs3
 have ho3b:=ho2b.sub hs3
 have hV:=yYn (gl:=gl) hf3 (Lents.self (y:=.raw (.int .u8 ca)) (Lents.lent ho3 (Lents.nil _))) (fun st => wZk gl G ca a _ hza.aged ha st)
 have hxl:LFc st3 a.l ca1 ∧ st3 pa = some (.box (ca1 ++ mksF 12)):=⟨ga2.mono fun c o hc => hs3 _ _ (hs2 _ _ (yKj hc).2),hs3 _ _ (hs2 _ _ (yKj ga1).2)⟩
 obtain ⟨zl,hzl,hol⟩:=hxl.1.sl hxl.2 (by omega)
 have hH:=yYn (gl:=gl) hf3 (Lents.lent hol (Lents.self (y:=.agg [.raw (.int .u8 o5),.raw (.string n5),.sl t5 x5,.sl t6 x6]) (Lents.nil _))) (fun st => by
  simp only [age]
  exact xVm gl G a.l f _ _ _ (.inr rfl) hzl.aged hz0 ha.1 hf st)
 have hWi:=yYn (gl:=gl) hf3 (Lents.lent ho3 (Lents.lent ho3b (Lents.nil _))) (fun st => zXo gl G a b _ _ hza.aged hzb.aged ha hb st)
 have hSa:=yYn (gl:=gl) hf3 (Lents.lent ho3 (Lents.lent ho3b (Lents.nil _))) (fun st => wK9 gl G a b _ _ hza.aged hzb.aged ha hb st)
 have hSs:=yYn (gl:=gl) hf3 (Lents.lent (hoys.sub hN3) (Lents.self (y:=.agg [.sl t7 x7,.sl t8 x8]) (Lents.nil _))) (fun st => yGd gl _ _ _ _ hyi.w.aged hyr0 st)
 rw [yQo.2 rfl] at hSs
 have hO:=xWv gl hu1 hu2 hw1 hw2 (hOu.mono hN3) (hOw.mono hN3)
 have hKa2:=hKa _ st2 hf2 hA2
 have hKb2:=hKb _ st2 hf2 hB2
 simp -implicitDefEqProofs -dsimp only [go_sem,fits]
 refine hV.mono ?_
 rintro _ st3 ⟨rfl,rfl⟩
 simp -implicitDefEqProofs -dsimp only [go_sem,fits]
 refine (hRv _).mono ?_
 rintro _ st3 ⟨rfl,rfl⟩
 simp -implicitDefEqProofs -dsimp only [go_sem,fits]
 refine hH.mono ?_
 rintro _ st3 ⟨rfl,rfl⟩
 simp -implicitDefEqProofs -dsimp only [go_sem,fits]
 refine (hRh _).mono ?_
 rintro _ st3 ⟨rfl,rfl⟩
 simp -implicitDefEqProofs -dsimp only [go_sem,fits]
 refine hWi.mono ?_
 rintro _ st3 ⟨rfl,rfl⟩
 simp -implicitDefEqProofs -dsimp only [go_sem,fits]
 refine hSa.mono ?_
 rintro _ st3 ⟨rfl,rfl⟩
 cases yJ7 a b <;> cases yJ7 b a
 all_goals
  simp -implicitDefEqProofs -dsimp only [go_sem,fits,decide_true]
  refine hSs.mono ?_
  rintro _ st3 ⟨rfl,rfl⟩
  simp -implicitDefEqProofs -dsimp only [go_sem,fits]
  refine hO.mono ?_
  rintro _ st4 hov
  have hs4:subSt st2 st4:=fun c o hc => by
   rw [hov.dom c fun hD => by rw [hNd c hD] at hc; cases hc]
   exact hs3 _ _ hc
  simp -implicitDefEqProofs -dsimp only [go_sem,fits]
  refine (ICall.sub hKa2 hs4).mono ?_
  rintro _ st5 ⟨rfl,rfl⟩
  simp -implicitDefEqProofs -dsimp only [go_sem,fits]
  refine hKb2.mono ?_
  rintro _ st5 ⟨rfl,rfl⟩
  simp -implicitDefEqProofs -dsimp only [go_sem,fits]
  exact yQb (fun c o hc => hs2 _ _ (hs1 _ _ hc)) ⟨rfl,rfl⟩
theorem yYx:∀ {l:List Fm},yQ7 l ≤ 1000000 → fitL l
 | [],_,f,hf => by cases hf
 | a :: l,h,f,hf => by
  simp only [yQ7] at h
  rcases List.mem_cons.1 hf with rfl | hf
  ·omega
  ·exact yYx (l:=l) (by omega) f hf
theorem zGe (G:Gl gl) (T:Gt gl) (hgl:vXr gl) (ca:Nat) (a b:Sq) (x y:IV) (hx:IsSq a x) (hy:IsSq b y) (f:Fm) (z:IV) (hz:IsFm f z)
  (ha:wFms a.l ≤ 1099511627776 ∧ wFms a.r ≤ 1099511627776) (hb:wFms b.l ≤ 1099511627776 ∧ wFms b.r ≤ 1099511627776) (hf:wFm f ≤ 1099511627776) (st:ISt) (hfl:flatSt st) :
  ICall prog gl 3 [.raw (.int .u8 ca),x,y,z] st (fun r st' => r = .raw (.bool true) ∧ st' = st):=by
 have hA:=fun st => wXm gl G T st
 have h1:=fun st => vJ3 gl a x hx ha st
 have h2:=fun st => vJ3 gl b y hy hb st
 have s1:=yV6 a.l
 have s2:=yV6 a.r
 have s3:=yV6 b.l
 have s4:=yV6 b.r
 have s5:=yV6 [f]
 simp only [yQ7,wFms] at s5
 have hS:=fun q1 q2 q3 q4 q5 st => vQ9 gl G T hgl ca a b x y hx hy f z hz ⟨yYx q1,yYx q2⟩ ⟨yYx q3,yYx q4⟩ q5 ⟨q1,q2,q3,q4⟩ st
 have hz0:=hz
 obtain ⟨t1,x1,t2,x2,rfl,_⟩:=hx
 obtain ⟨t3,x3,t4,x4,rfl,_⟩:=hy
 obtain ⟨o9,n9,t9,x9,t8,x8,rfl⟩:=hz.agg
 have hsz:=fun st => xX6 gl [f] ⟨true,.full,4⟩ [.agg [.raw (.int .u8 o9),.raw (.string n9),.sl t9 x9,.sl t8 x8]] (.inr rfl) ⟨_,_,rfl,hz0,rfl⟩ 300 ⟨by omega,by omega⟩ (by simp only [wFms]; omega) st
 refine iI func3 rfl rfl (by kernel_rfl) ?_
 simp -implicitDefEqProofs -dsimp only [go_sem,fits]
 refine (h1 _).mono ?_
 rintro _ st ⟨rfl,rfl⟩
 by_cases q1:wFms a.l + wFms a.r ≤ 300
 case neg =>
  simp -implicitDefEqProofs -dsimp only [go_sem,fits,dEf q1]
  refine (hA _).mono ?_
  rintro _ st ⟨rfl,rfl⟩
  simp -implicitDefEqProofs -dsimp only [go_sem,fits]
  exact yQ0 ⟨rfl,rfl⟩
 simp -implicitDefEqProofs -dsimp only [go_sem,fits,dEt q1]
 refine (h2 _).mono ?_
 rintro _ st ⟨rfl,rfl⟩
 by_cases q2:wFms b.l + wFms b.r ≤ 300
 case neg =>
  simp -implicitDefEqProofs -dsimp only [go_sem,fits,dEf q2]
  refine (hA _).mono ?_
  rintro _ st ⟨rfl,rfl⟩
  simp -implicitDefEqProofs -dsimp only [go_sem,fits]
  exact yQ0 ⟨rfl,rfl⟩
 simp -implicitDefEqProofs -dsimp only [go_sem,fits,dEt q2,yQ1]
 refine (q_fs gl _ _ _).mono ?_
 rintro _ st ⟨rfl,rfl⟩
 simp -implicitDefEqProofs -dsimp only [go_sem,fits]
 refine (hsz _).mono ?_
 rintro _ st ⟨hSm,rfl⟩
 obtain ⟨mm,rfl,hd⟩:=hSm.gt
 rw [show wFms [f] = wFm f from by simp [wFms]] at hd
 cases q3:decide (300 < wFm f)
 case true =>
  rw [q3] at hd
  simp -implicitDefEqProofs -dsimp only [go_sem,fits,hd]
  refine (hA _).mono ?_
  rintro _ st ⟨rfl,rfl⟩
  simp -implicitDefEqProofs -dsimp only [go_sem,fits]
  exact yQ0 ⟨rfl,rfl⟩
 rw [q3] at hd
 have q4:wFm f ≤ 300:=by have:=of_decide_eq_false q3; omega
 simp -implicitDefEqProofs -dsimp only [go_sem,fits,hd]
 refine (hS (by omega) (by omega) (by omega) (by omega) (by omega) _ hfl).mono ?_
 rintro _ st ⟨rfl,rfl⟩
 simp -implicitDefEqProofs -dsimp only [go_sem,fits]
 refine (hA _).mono ?_
 rintro _ st ⟨rfl,rfl⟩
 simp -implicitDefEqProofs -dsimp only [go_sem,fits]
 exact yQ0 ⟨rfl,rfl⟩
end Go.Proofs.Tryz
namespace Go.Proofs.Tryz
open Go Go.Iv Go.ChangeShapes
open Go.Proofs.YtjbhofcbleepiaaGreatDoor.Rows (uptoBulk uptoBulkAll)
set_option maxRecDepth 4000
theorem uSeq:prog.underlying 24 = some (.struct #[⟨ "Left",22,0,false, "", "",0⟩,⟨ "Right",22,1,false, "", "",24⟩]):=by kernel_rfl
theorem nSeq:prog.cellsOf 24 = 2:=by kernel_rfl
mutual
theorem wZr:∀ t:Tm,wTm t ≤ 2 * xYa t
 | .mk _ n us => by have:=zXq us; simp only [wTm,xYa]; omega
theorem zXq:∀ l:List Tm,wTms l ≤ 2 * yGx l
 | [] => Nat.le_refl _
 | a :: l => by have:=wZr a; have:=zXq l; simp only [wTms,yGx]; omega
end
mutual
theorem xJq:∀ f:Fm,wFm f ≤ 2 * xJb f
 | .mk _ n us sub => by have:=zXq us; have:=yUm sub; simp only [wFm,xJb]; omega
theorem yUm:∀ l:List Fm,wFms l ≤ 2 * zQk l
 | [] => Nat.le_refl _
 | a :: l => by have:=xJq a; have:=yUm l; simp only [wFms,zQk]; omega
end
section
variable {H:Type} {enc:TypeId × Value → H} {w:World} {spare:Nat → Bool} {held:Bool}
def RQ (d:DataW H) (s:Sq) (x:IV):Prop:=IsSq s x ∧ wFms s.l + wFms s.r ≤ 2 * uptoBulk d
theorem wKw (fuel:Nat) (cs:List Value) (y:DataW H × List MemPlace) (h:DataW.trod enc prog w 0 spare held fuel 24 cs = some y) (hb:uptoBulk y.1 ≤ 1048576):∃ s x,VL 0 (L0 w) w cs x.cells ∧ RQ y.1 s x:=by
 obtain ⟨ys,n,rfl,rfl,hl,hlen,hf⟩:=DataW.trod_struct uSeq h
 match ys,hlen with
 | [y0,y1],_ =>
  rw [nSeq] at hl
  match cs,hl with
  | [c0,c1],_ =>
   have h0:=hf 0 _ rfl
   have h1:=hf 1 _ rfl
   simp only [wV9,List.drop_zero,List.drop_succ_cons,List.take_succ_cons,List.take_zero,List.getElem?_cons_zero,List.getElem?_cons_succ] at h0 h1
   simp only [List.map_cons,List.map_nil,uptoBulk,uptoBulkAll] at hb
   obtain ⟨v0,tg0,xs0,l0,e0,hv0,ht0,hl0,hb0⟩:=zYy h0 (by omega) (fun m _ => xJ1 m)
   obtain ⟨v1,tg1,xs1,l1,e1,hv1,ht1,hl1,hb1⟩:=zYy h1 (by omega) (fun m _ => xJ1 m)
   cases e0; cases e1
   refine ⟨⟨l0,l1⟩,.agg [.sl tg0 xs0,.sl tg1 xs1],VL.cons hv0 (VL.cons hv1 VL.nil),⟨tg0,xs0,tg1,xs1,rfl,ht0,hl0,ht1,hl1⟩,?_⟩
   have:=yUm l0
   have:=yUm l1
   simp only [List.map_cons,List.map_nil,uptoBulk,uptoBulkAll]
   omega
end
end Go.Proofs.Tryz
namespace Go.Proofs.Tryz
open Go Go.Iv Go.ChangeShapes Go.RowKit
open Go.Proofs.YtjbhofcbleepiaaGreatDoor
set_option maxRecDepth 8000
theorem uRow:prog.underlying 250 = some (.struct #[⟨ "right",4,0,false, "", "lyceum/syntax",0⟩,⟨ "schema",4,1,false, "", "lyceum/syntax",1⟩,⟨ "name",5,2,false, "", "lyceum/syntax",2⟩,⟨ "args",3,3,false, "", "lyceum/syntax",8⟩,⟨ "subs",3,4,false, "", "lyceum/syntax",16⟩]):=by kernel_rfl
theorem vWe:prog.underlying 251 = some (.array 17 250):=by kernel_rfl
theorem uInt:prog.underlying 3 = some (.int .i64):=by kernel_rfl
theorem nRow:prog.cellsOf 250 = 5:=by kernel_rfl
theorem uQx:prog.cellsOf 251 = 85:=by kernel_rfl
theorem nInt:prog.cellsOf 3 = 1:=by kernel_rfl
theorem gRows:prog.globalNamed "lyceum/syntax.rows" = some 0:=by kernel_rfl
theorem gRowsT:(prog.globals[0]?).map (·.type) = some 251:=by kernel_rfl
theorem gPow:prog.globalNamed "internal/strconv.uint64pow10" = some 2:=by kernel_rfl
theorem gPowT:(prog.globals[2]?).map (·.type) = some 314:=by kernel_rfl
theorem uPow:prog.underlying 314 = some (.array 20 246):=by kernel_rfl
theorem uU64:prog.underlying 246 = some (.int .u64):=by kernel_rfl
theorem nPow:prog.cellsOf 314 = 20:=by kernel_rfl
theorem nU64:prog.cellsOf 246 = 1:=by kernel_rfl
section
variable {H:Type} {enc:TypeId × Value → H} {w:World} {spare:Nat → Bool} {held:Bool}
def rowD (op:Nat):DataW H:=.agg [.lit (.bool (yZ8 op)),.lit (.bool (zJa op)),.lit (.int .u8 (yX6 op)),.lit (.int .i64 (yX1 op)),.lit (.int .i64 (yX0 op))]
def rowV (op:Nat):List Value:=[.bool (yZ8 op),.bool (zJa op),.int .u8 (yX6 op),.int .i64 (yX1 op),.int .i64 (yX0 op)]
theorem xGo {fuel:Nat} {cs:List Value} {op:Nat} {p:List MemPlace} (h:DataW.trod enc prog w 0 spare held fuel 250 cs = some (rowD op,p)):cs = rowV op:=by
 obtain ⟨ys,n,rfl,he,hl,hlen,hf⟩:=DataW.trod_struct uRow h
 match ys,hlen with
 | [y0,y1,y2,y3,y4],_ =>
  rw [nRow] at hl
  match cs,hl with
  | [c0,c1,c2,c3,c4],_ =>
   have h0:=hf 0 _ rfl
   have h1:=hf 1 _ rfl
   have h2:=hf 2 _ rfl
   have h3:=hf 3 _ rfl
   have h4:=hf 4 _ rfl
   simp only [vQx,nU8,nInt,List.drop_zero,List.drop_succ_cons,List.take_succ_cons,List.take_zero,List.getElem?_cons_zero,List.getElem?_cons_succ] at h0 h1 h2 h3 h4
   obtain ⟨b0,e0,rfl⟩:=DataW.trod_bool xYv h0
   obtain ⟨b1,e1,rfl⟩:=DataW.trod_bool xYv h1
   obtain ⟨b2,e2,rfl,_⟩:=DataW.trod_int uU8 h2
   obtain ⟨b3,e3,rfl,_⟩:=DataW.trod_int uInt h3
   obtain ⟨b4,e4,rfl,_⟩:=DataW.trod_int uInt h4
   cases e0; cases e1; cases e2; cases e3; cases e4
   have he1:=congrArg Prod.fst he
   simp only [rowD,List.map_cons,List.map_nil,DataW.agg.injEq,List.cons.injEq,DataW.lit.injEq,Lit.bool.injEq,Lit.int.injEq,true_and,and_true] at he1
   obtain ⟨rfl,rfl,rfl,rfl,rfl⟩:=he1
   rfl
theorem xGn:(Rows.laid_lyceum_syntax_rows:DataW H) = .agg ((List.range 17).map rowD):=by rfl
theorem xW7 {fuel:Nat} {cs:List Value} {p:List MemPlace} (h:DataW.trod enc prog w 0 spare held fuel 251 cs = some (Rows.laid_lyceum_syntax_rows,p)) :
  cs.length = 85 ∧ ∀ op,op < 17 → (cs.drop (op * 5)).take 5 = rowV op:=by
 obtain ⟨ys,n,rfl,he,hl,hlen,hf⟩:=DataW.trod_array vWe h
 rw [uQx] at hl
 refine ⟨hl,fun op hop => ?_⟩
 have h1:=hf op hop
 rw [nRow] at h1
 have he1:=congrArg Prod.fst he
 rw [xGn] at he1
 simp only [DataW.agg.injEq] at he1
 have h2:(ys.map (·.1))[op]? = some (rowD op):=by
  rw [← he1,List.getElem?_map,List.getElem?_range hop]; rfl
 rw [List.getElem?_map] at h2
 obtain ⟨y,hy,hy2⟩:=Option.map_eq_some_iff.1 h2
 rw [hy] at h1
 obtain ⟨y1,y2⟩:=y
 simp only at hy2
 subst hy2
 exact xGo h1
end
def gl0:Nat → Option IV
 | 0 => some (.agg rowsL)
 | 2 => some (.agg pow10L)
 | _ => none
theorem G0:Gl gl0:=⟨rfl⟩
theorem T0:Gt gl0:=⟨rfl⟩
def X0 (w:World):WS:={ w:=w,L:=L0 w,st:=fun _ => none,d:=0 }
theorem xZz {cs:List Value} (hl:cs.length = 85) (h:∀ op,op < 17 → (cs.drop (op * 5)).take 5 = rowV op) (i:Nat) (r:Value) (c:IV) (hr:cs[i]? = some r) (hc:rowsL[i]? = some c):c = .raw r ∧ zQu r:=by
 have hi:i < 85:=by have:=(lGs hr).1; omega
 have hop:i / 5 < 17:=by omega
 have e:i = i / 5 * 5 + i % 5:=by omega
 have hm:i % 5 < 5:=Nat.mod_lt _ (by decide)
 have h1:(rowV (i / 5))[i % 5]? = some r:=by
  rw [← h _ hop,List.getElem?_take,if_pos hm,List.getElem?_drop,← e]; exact hr
 have h2:(rowI (i / 5))[i % 5]? = some c:=by
  rw [← (zVp _ hop).2,List.getElem?_take,if_pos hm,List.getElem?_drop,← e]; exact hc
 generalize i % 5 = k at h1 h2 hm
 match k,hm with
 | 0,_ => cases h1; cases h2; exact ⟨rfl,trivial⟩
 | 1,_ => cases h1; cases h2; exact ⟨rfl,trivial⟩
 | 2,_ => cases h1; cases h2; exact ⟨rfl,trivial⟩
 | 3,_ => cases h1; cases h2; exact ⟨rfl,trivial⟩
 | 4,_ => cases h1; cases h2; exact ⟨rfl,trivial⟩
theorem uZe {W:World} (hL:laidMetH prog Rows.sequentSetsUptoRow.laid W):Go.Iv.Good ⟨prog,gl0,0⟩ (X0 W):=by
 obtain ⟨ps,hlv,_⟩:=(show laidMet prog _ W from hL)
 obtain ⟨_,_,_,_,_,_,_,_,_,_,hlv,_⟩:=hlv
 obtain ⟨_,_,_,_,_,_,_,_,_,_,hlv,_⟩:=hlv
 obtain ⟨g1,t1,cs1,f1,p1,q1,hg1,ht1,hv1,hd1,hlv,_⟩:=hlv
 obtain ⟨g2,t2,cs2,f2,p2,q2,hg2,ht2,hv2,hd2,_,_⟩:=hlv
 obtain rfl:=Option.some.inj (gPow.symm.trans hg1)
 obtain rfl:=Option.some.inj (gPowT.symm.trans ht1)
 obtain rfl:=Option.some.inj (gRows.symm.trans hg2)
 obtain rfl:=Option.some.inj (gRowsT.symm.trans ht2)
 have hc1:=Lib.cells_of_tab (zs:=Lib.pow10Tab) uPow uU64 nU64 nPow hd1
 have hc2:=xW7 hd2
 have hb:∀ (n:String) (g:Nat) (cs:Array Value),prog.globalNamed n = some g → W.var? prog n = some cs → ∃ T f,W.heap[g]? = some (.cells cs T f):=by
  intro n g cs hn hv
  unfold World.var? at hv
  rw [hn,Option.bind_some] at hv
  split at hv
  ·rename_i c t f hh
   cases hv
   exact ⟨_,_,hh⟩
  ·cases hv
 obtain ⟨T1,fr1,hh1⟩:=hb _ _ _ gPow hv1
 obtain ⟨T2,fr2,hh2⟩:=hb _ _ _ gRows hv2
 have row:∀ (g:Nat) (cs:Array Value) (T:TypeId) (f:Nat × Nat) (xs:List IV),W.heap[g]? = some (.cells cs T f) → cs.size = xs.length → (∀ (i:Nat) (r:Value) (c:IV),cs.toList[i]? = some r → xs[i]? = some c → c = .raw r ∧ zQu r) →
   V 0 (L0 W) W (.pointer (some ⟨g,0,none⟩)) (.cptr (.agg xs)):=by
  intro g cs T f xs hh hl h
  refine .cptr _ _ cs.toList rfl (by simpa [IV.cells] using hl) ?_ (fun i r hr => ?_) (fun i r c hr hc => ?_)
  ·show 0 + cs.toList.length ≤ L0 W g
   simp [L0,hh]
  ·show W.cell? ⟨g,0 + i,none⟩ = some r
   simp only [World.cell?,hh,Nat.zero_add]
   simpa using hr
  ·obtain ⟨rfl,hk⟩:=h i r c hr hc
   exact .raw _ hk
 have hp:∀ (i:Nat) (r:Value) (c:IV),cs1.toList[i]? = some r → pow10L[i]? = some c → c = .raw r ∧ zQu r:=by
  intro i r c hr hc
  rw [hc1,List.getElem?_map] at hr
  unfold pow10L at hc
  rw [List.getElem?_map] at hc
  obtain ⟨z,hz,rfl⟩:=Option.map_eq_some_iff.1 hr
  rw [hz] at hc
  cases hc
  exact ⟨rfl,trivial⟩
 have hs1:cs1.size = pow10L.length:=by
  rw [← Array.length_toList,hc1]; simp [pow10L]
 have hs2:cs2.size = rowsL.length:=by
  rw [← Array.length_toList,hc2.1]; rfl
 refine ⟨fun b o h => (by cases h),fun g x hx => ?_,Nat.zero_le _,fun b hb => ?_,fun g x hx => ?_,fun _ => Nat.zero_le _⟩
 ·match g,hx with
  | 0,hx => cases hx; exact row 0 cs2 T2 fr2 _ hh2 hs2 (fun i r c hr hc => xZz hc2.1 hc2.2 i r c hr hc)
  | 2,hx => cases hx; exact row 2 cs1 T1 fr1 _ hh1 hs1 hp
 ·show L0 W b = 0
  unfold L0
  rw [Array.getElem?_eq_none (show W.heap.size ≤ b from hb)]
 ·match g,hx with
  | 0,hx => cases hx; exact ⟨T2,fr2 == (0,0),by show shq W 0 = _; simp [shq,hh2,hs2,IV.cells]⟩
  | 2,hx => cases hx; exact ⟨T1,fr1 == (0,0),by show shq W 2 = _; simp [shq,hh1,hs1,IV.cells]⟩
theorem xZ3 {W:World} {X':WS} (h:Ext (X0 W) X'):Below W.heap.size W X'.w :=
 ⟨h.os,h.tape,h.output,h.size,fun k hk => (h.keep k hk rfl).1⟩
theorem wYe:laidOutB prog = true:=by kernel_rfl
theorem yUp {H:Type} {enc:TypeId × Value → H} {W W':World} (hb:Below W.heap.size W W') (sp:Nat → Bool):∀ {ts:List TypeId} {vs:List Value} {ds:List (DataW H)} {ps:List MemPlace},
  (∀ t ∈ ts,prog.readableRec t = true ∧ t < prog.types.size) → DataW.TrodAll enc prog W 0 (fun _ => true) true ts vs ds ps → (∀ p ∈ ps,p.block < W.heap.size) → (∀ p ∈ ps,sp p.block = true) →
  DataW.TrodAll enc prog W' 0 sp true ts vs ds ps
 | [],vs,ds,ps,_,h,_,_ => by
  obtain ⟨rfl,rfl,rfl⟩:=trodAll_nil h
  rfl
 | t :: ts,vs,ds,ps,ht,h,hlt,hsp => by
  obtain ⟨v,vs1,d,ds1,a,b,rfl,rfl,rfl,h1,h2⟩:=trodAll_cons h
  refine ⟨a,b,WideElems.Trod_stays wYe (ht t (by simp)).1 (ht t (by simp)).2 h1 (fun p hp => hb.same (hlt p (by simp [hp]))) (fun p hp => hsp p (by simp [hp])),?_,rfl⟩
  exact yUp hb sp (fun t h => ht t (by simp [h])) h2 (fun p hp => hlt p (by simp [hp])) (fun p hp => hsp p (by simp [hp]))
theorem wJ7 {H:Type} {enc:TypeId × Value → H} {f:Func} {s:ChangeSpec} {fid:FuncId} {W:World} {args:Array Value} {ds gs:List (DataW H)} {before:List MemPlace} {ivs:List IV}
  (hvars:s.vars = []) (hW:DataW.Whole enc prog f.params.toList s.vars false W args.toList ds gs before) (hfn:s.fn H (ds ++ gs) = { results:=[.lit (.bool true)],args:=ds })
  (hres:f.resultTypes = #[4]) (hread:∀ t ∈ f.params.toList,prog.readableRec t = true ∧ t < prog.types.size) (hg:Go.Iv.Good ⟨prog,gl0,0⟩ (X0 W)) (hv:VL 0 (L0 W) W args.toList ivs)
  (hc:ICall prog gl0 fid ivs (fun _ => none) (fun r st' => r = .raw (.bool true) ∧ st' = fun _ => none)) :
  Calls prog fid args W fun e W' => ∃ v,e = .returned v ∧ s.post enc prog f false true false false W args v W':=by
 refine (hc 0 (X0 W) args.toList hg rfl hv).mono ?_
 rintro e W' ⟨v,rfl,X',x,rfl,hg',he,hx,rfl,_⟩
 obtain rfl:=V.raw_inv hx
 have hb:=xZ3 he
 refine ⟨_,rfl,?_⟩
 have hW':=hW
 obtain ⟨p,q,hA,hV,rfl,hz,_⟩:=hW
 rw [hvars] at hV
 have hgs:gs = [] ∧ q = []:=by
  cases gs with
  | nil => exact ⟨rfl,hV⟩
  | cons _ _ => exact absurd hV (by simp [DataW.TrodVars])
 obtain ⟨rfl,rfl⟩:=hgs
 have hlt:∀ x ∈ p,x.block < W.heap.size:=fun x hx => by simpa using hW'.lt x (by simpa using hx)
 have hargs:∀ sp:Nat → Bool,(∀ x ∈ p,sp x.block = true) → DataW.TrodAll enc prog X'.w 0 sp true f.params.toList args.toList (s.fn H (ds ++ [])).args p:=fun sp hsp => by
  rw [hfn]
  exact yUp hb sp hread hA hlt hsp
 have hr:∀ (b:Nat) (sp:Nat → Bool) (hd:Bool),DataW.TrodAll enc prog X'.w b sp hd f.resultTypes.toList ((Value.bool true).resultList f.resultTypes.size) (s.fn H (ds ++ [])).results []:=fun _ _ _ => by
  rw [hfn,hres]
  exact trodAll_cons_mk (shut_bool xYv _) trodAll_mk0
 have hvs:∀ sp:Nat → Bool,DataW.TrodVars enc prog X'.w sp s.vars (s.fn H (ds ++ [])).vars []:=fun _ => by
  rw [hvars,hfn]; rfl
 have hsz:∀ x ∈ p,(fun b => decide (b < W.heap.size)) x.block = true:=fun x hx => by simpa using hlt x hx
 refine ⟨ds,[],p ++ [],[],p,[],hW',hr _ _ _,hargs _ hsz,hvs _,World.keptBut_mono (fun x hx => ⟨hx,Or.inr (by simpa using hx)⟩) (hb.frame (· ∈ p ++ [])),fun _ => ⟨ok_one hres rfl (okWide_bool_mk xYv _),_,_,([] ++ p) ++ [],
  ⟨[] ++ p,[],trodAll_append (hargs _ (fun _ _ => rfl)) (hr _ _ _),hvs _,rfl,?_,fun h => by cases h⟩,fun x hx _ => by simpa using hx⟩⟩
 intro b off hp
 rw [hb.frozen (p:=⟨b,off,none⟩) (hlt (.cell b off) (by simpa using hp))]
 exact hz b off (by simpa using hp)
theorem wJe {W:World} {base:Nat} {v:Value} {f:Fm} {x:IV} (h:Value.okWide prog W .any base 27 v) (hx:VL 0 (L0 W) W v.cells.toList x.cells) (hf:IsFm f x):V 0 (L0 W) W v x:=by
 obtain ⟨cs,rfl,_⟩:=WideShapes.okWide_struct wUz h
 cases f with
 | mk op n us sub =>
  obtain ⟨tg,xs,tg',ys,rfl,_⟩:=IsFm.mk hf
  cases cs
  exact hx.agg
theorem xGi {W:World} {base:Nat} {v:Value} {s:Sq} {x:IV} (h:Value.okWide prog W .any base 24 v) (hx:VL 0 (L0 W) W v.cells.toList x.cells) (hf:IsSq s x):V 0 (L0 W) W v x:=by
 obtain ⟨cs,rfl,_⟩:=WideShapes.okWide_struct uSeq h
 obtain ⟨_,_,_,_,rfl,_⟩:=hf
 cases cs
 exact hx.agg
theorem wK0 {α:Prop} {W:World} {base:Nat} {v:Value} (h:Value.okWide prog W .any base 5 v) (_:α):∃ b:Nat,v = .int .u8 b ∧ V 0 (L0 W) W (.int .u8 b) (.raw (.int .u8 b)) ∧ b < 256:=by
 simp only [Value.okWide,uU8,Cell.okWide] at h
 cases v <;> simp_all [Cell.ok]
 rename_i k n
 obtain ⟨rfl,h1,h2⟩:=h
 have e1:IntKind.u8.min = 0:=by decide
 have e2:IntKind.u8.max = 255:=by decide
 rw [e1] at h1
 rw [e2] at h2
 refine ⟨n.toNat,?_,?_,?_⟩
 ·omega
 ·exact .raw _ trivial
 ·omega
def tab32:List Int:=[0,1,28,2,29,14,24,3,30,22,20,15,25,17,4,8,31,27,13,23,21,19,16,7,26,12,18,6,11,5,10,9]
def tab64:List Int:=[0,1,56,2,57,49,28,3,61,58,42,50,38,29,17,4,62,47,59,36,45,43,51,22,53,39,33,30,24,18,12,5,63,55,48,27,60,41,37,16,46,35,44,21,52,32,23,11,54,26,40,15,34,20,31,10,25,14,19,9,13,8,7,6]
def lay (cs:List Value):Obj → Obj
 | .cells _ t frozen => .cells cs.toArray t frozen
 | o => o
noncomputable def zJl (os:Os):World :=
 { World.holding prog os ⟨#[],#[],[]⟩ with heap:=((((World.holding prog os ⟨#[],#[],[]⟩).heap.modify 0 (lay ((List.range 17).flatMap rowV))).modify 2 (lay (Lib.pow10Tab.map fun z => .int .u64 z))).modify 3 (lay (tab32.map fun z => .int .u8 z))).modify 4 (lay (tab64.map fun z => .int .u8 z)) }
theorem wJ8 (os:Os) (args:Array Value):laidMet prog Rows.sequentSetsUptoRow.laid ((zJl os).forCall (fun _ _ => 0) ⟨#[],args,[]⟩).memory :=
 laidMet_of_run' 8 (by kernel_rfl) (by kernel_rfl)
end Go.Proofs.Tryz
namespace Go.Proofs.Tryz
open Go Go.Iv
set_option maxRecDepth 4000
theorem zKn:∀ l:List IV,(∀ x ∈ l,∃ v,x = .raw v) → ages l = l
 | [],_ => rfl
 | x :: l,h => by
  obtain ⟨v,rfl⟩:=h x (by simp)
  simp only [ages,age,zKn l fun y hy => h y (by simp [hy])]
theorem wK6:∀ g x,gl0 g = some x → age x = x:=by
 intro g x hx
 match g,hx with
 | 0,hx =>
  cases hx
  simp only [age]
  rw [zKn _ fun y hy => ?_]
  obtain ⟨op,_,hy⟩:=List.mem_flatMap.1 hy
  unfold rowI at hy
  simp only [List.mem_cons,List.not_mem_nil,or_false] at hy
  rcases hy with rfl | rfl | rfl | rfl | rfl <;> exact ⟨_,rfl⟩
 | 2,hx =>
  cases hx
  simp only [age]
  rw [zKn _ fun y hy => ?_]
  obtain ⟨z,_,rfl⟩:=List.mem_map.1 hy
  exact ⟨_,rfl⟩
end Go.Proofs.Tryz
