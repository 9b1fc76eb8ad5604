/- Walks: the steps of a tree, one after th -/
import Derived.Test.YtjbhofcbleepiaaGreatDoorQA
import Derived.Test.YtjbhofcbleepiaaGreatDoorJI
import Derived.Test.YtjbhofcbleepiaaGreatDoorQB
import Derived.Test.YtjbhofcbleepiaaGreatDoorQD
import Derived.Test.YtjbhofcbleepiaaGreatDoorQC
import Derived.Test.YtjbhofcbleepiaaGreatDoorLD
set_option linter.all false
namespace Go.Proofs.Tryz
open Go Go.Iv
set_option maxRecDepth 4000
variable (gl:Nat→Option IV)
def plI (p:List Nat):List IV:=p.map fun (i:Nat)=>.raw (.int .i64 (i:Int))
theorem yVk (p:List Nat):(plI p).length=p.length:=by simp[plI]
def emp:ISt:=fun _=>none
def PlV (p:List Nat)(a:IV)(e:ISt):Prop :=
 (∃ t,a=.sl t []∧t.cap=.nil∧p=[]∧e=emp) ∨
 ∃ g cap cs,a=.raw (.slice (some ⟨g,0,none⟩) p.length cap)∧e=emp.put g (some (.box cs))∧p.length≤cap∧cap≤cs.length∧cs.take p.length=plI p
def lkT (l:List (List Nat×Tr))(k:Nat)(zs:List IV)(e:ISt):Prop:=∃ p t a x,l[k]?=some (p,t)∧IsTr t x∧PlV p a e∧zs=[a,.cptr x]
def xK7 (b2 b3 b4:Nat):IV:=.fn (.func 117) [] [.raw (.pointer (some ⟨b2,0,none⟩)),.raw (.pointer (some ⟨b3,0,none⟩)),.raw (.pointer (some ⟨b4,0,none⟩))]
def ownF (b2 b3 b4:Nat)(fy a:IV):ISt:=((emp.put b2 (some (.box [fy]))).put b3 (some (.box [a]))).put b4 (some (.box [xK7 b2 b3 b4]))
section
variable {b2 b3 b4:Nat}{fy a:IV}
theorem wWz (h3:b2≠b3)(h4:b2≠b4):ownF b2 b3 b4 fy a b2=some (.box [fy]):=by simp only[ownF,ISt.put_apply,if_neg h3,if_neg h4,if_true]
theorem yUb (h4:b3≠b4):ownF b2 b3 b4 fy a b3=some (.box [a]):=by simp only[ownF,ISt.put_apply,if_neg h4,if_true]
theorem xQv:ownF b2 b3 b4 fy a b4=some (.box [xK7 b2 b3 b4]):=by simp only[ownF,ISt.put_apply,if_true]
theorem xVt {c:Nat}(h2:c≠b2)(h3:c≠b3)(h4:c≠b4):ownF b2 b3 b4 fy a c=none:=by simp only[ownF,ISt.put_apply,if_neg h2,if_neg h3,if_neg h4,emp]
theorem zJ3 {c:Nat}(a':IV):ownF b2 b3 b4 fy a c=none↔ownF b2 b3 b4 fy a' c=none:=by
 simp only[ownF,ISt.put_apply]
 by_cases h4:c=b4
 ·simp[h4]
 ·by_cases h3:c=b3
  ·subst h3; simp only[if_neg h4,if_true,reduceCtorEq]
  ·simp[h4,h3]
end
def xXh (b2 b3 b4:Nat)(fy:IV)(p:List Nat)(s stt:ISt):Prop:=∃ a e,PlV p a e∧disj s e∧disj (join s e) (ownF b2 b3 b4 fy a)∧stt=join (join s e) (ownF b2 b3 b4 fy a)
def FOkL (y:IV)(I:Nat→ISt→Prop)(S:ISt→Prop)(k0:Nat)(l:List (List Nat×Tr)):Prop :=
 ∀ i p t x a e stu,l[i]?=some (p,t)→IsTr t x→PlV p a e→disj stu e→I (k0+i) stu →
  ICallV prog gl y [a,.cptr x] (join stu e) fun r st'=>(r=.raw (.bool true)∧∃ s1,I (k0+i+1) s1∧disj s1 e∧st'=join s1 e)∨(r=.raw (.bool false)∧S st')
section
variable {gl}{y:IV}{I:Nat→ISt→Prop}{S:ISt→Prop}{k0:Nat}
theorem FOkL.left {l m:List (List Nat×Tr)}(h:FOkL gl y I S k0 (l++m)):FOkL gl y I S k0 l:=fun i p t x a e stu hi =>
 h i p t x a e stu (by rw[List.getElem?_append_left (lGs hi).1]; exact hi)
theorem FOkL.right {l m:List (List Nat×Tr)}(h:FOkL gl y I S k0 (l++m)):FOkL gl y I S (k0+l.length) m:=fun i p t x a e stu hi hx hp hd hI=>by
 have:=h (l.length+i) p t x a e stu (by rw[List.getElem?_append_right (by omega)]; simpa using hi) hx hp hd (by rw[← Nat.add_assoc]; exact hI)
 simpa only[Nat.add_assoc] using this
theorem FOkL.tail {z:List Nat×Tr}{m:List (List Nat×Tr)}(h:FOkL gl y I S k0 (z::m)):FOkL gl y I S (k0+1) m:=FOkL.right (l:=[z]) h
end
section
variable {b2 b3 b4:Nat}{fy a a':IV}{p:List Nat}{s:ISt}{g:Nat}
theorem zGo {c:Nat}(h:c≠b3):ownF b2 b3 b4 fy a c=ownF b2 b3 b4 fy a' c:=by simp only[ownF,ISt.put_apply,if_neg h]
theorem wQp {cs:List IV}(h34:b3≠b4)(hs:disj s (ownF b2 b3 b4 fy a))(hg1:s g=none)(hg2:ownF b2 b3 b4 fy a g=none)(hp:PlV p a' (emp.put g (some (.box cs)))) :
  xXh b2 b3 b4 fy p s (((join s (ownF b2 b3 b4 fy a)).put g (some (.box cs))).put b3 (some (.box [a']))):=by
 have hg3:ownF b2 b3 b4 fy a' g=none:=(zJ3 a').1 hg2
 refine⟨a',_,hp,fun b hb=>?_,fun b hb=>?_,?_⟩
 ·rw[ISt.put_apply] at hb
  split at hb
  ·rename_i h; rw[h]; exact hg1
  ·exact absurd rfl hb
 ·have hbg:b≠g:=by rintro rfl; exact hb hg3
  have he:(emp.put g (some (.box cs))) b=none:=by rw[ISt.put_apply,if_neg hbg]; rfl
  rw[yZ4 he]
  exact hs b fun h=>hb ((zJ3 a').1 h)
 ·funext c
  by_cases h3:c=b3
  ·rw[ISt.put_apply,if_pos h3,h3,yZ0 (yUb h34)]
  ·rw[ISt.put_apply,if_neg h3,ISt.put_apply]
   by_cases hc:c=g
   ·rw[if_pos hc,hc,yZ4 hg3,yZ0 (ISt.put_same ..)]
   ·rw[if_neg hc]
    have he:(emp.put g (some (.box cs))) c=none:=by rw[ISt.put_apply,if_neg hc]; rfl
    cases ho:ownF b2 b3 b4 fy a c with
    | some o=>rw[yZ0 ho,yZ0 ((zGo h3).symm.trans ho)]
    | none=>rw[yZ4 ho,yZ4 ((zGo h3).symm.trans ho),yZ4 he]
theorem wUy {cs:List IV}(hd1:s g=none)(hd2:ownF b2 b3 b4 fy a g=none):(join (join s (emp.put g (some (.box cs)))) (ownF b2 b3 b4 fy a)).put g none=join s (ownF b2 b3 b4 fy a):=by
 funext c
 rw[ISt.put_apply]
 split
 ·rename_i h; rw[h,yZ4 hd2,hd1]
 ·rename_i h
  have he:(emp.put g (some (.box cs))) c=none:=by rw[ISt.put_apply,if_neg h]; rfl
  cases ho:ownF b2 b3 b4 fy a c with
  | some o=>rw[yZ0 ho,yZ0 ho]
  | none=>rw[yZ4 ho,yZ4 ho,yZ4 he]
end
theorem PlV.cons {p:List Nat}{k:Nat}{a:IV}{e:ISt}(h:PlV (p++[k]) a e):∃ g cap cs,a=.raw (.slice (some ⟨g,0,none⟩) (p.length+1) cap)∧e=emp.put g (some (.box cs))∧p.length+1≤cap∧cap≤cs.length∧cs.take p.length=plI p:=by
 rcases h with⟨t,_,_,h,_⟩ | ⟨g,cap,cs,rfl,rfl,h1,h2,h3⟩
 ·simp at h
 ·rw[lLa] at h1 h3 ⊢
  refine⟨g,cap,cs,rfl,rfl,h1,h2,?_⟩
  have:=congrArg (List.take p.length) h3
  rw[List.take_take,show min p.length (p.length+[k].length)=p.length by omega] at this
  rw[this]
  unfold plI
  rw[List.map_append,List.take_left' (by simp)]
theorem wWt {b2 b3 b4:Nat}{fy a a':IV}{X:ISt}(h34:b3≠b4):(join X (ownF b2 b3 b4 fy a)).put b3 (some (.box [a']))=join X (ownF b2 b3 b4 fy a'):=by
 funext c
 rw[ISt.put_apply]
 split
 ·rename_i h; rw[h,yZ0 (yUb h34)]
 ·rename_i h
  cases ho:ownF b2 b3 b4 fy a c with
  | some o=>rw[yZ0 ho,yZ0 ((zGo h).symm.trans ho)]
  | none=>rw[yZ4 ho,yZ4 ((zGo h).symm.trans ho)]
theorem zWo {n m:Nat}(h:n+1≤m):yX4 none (some ((n:Nat):Int)) m=some (0,n):=by
 simp only[yX4,Option.getD_none,Option.getD_some]
 rw[if_pos ⟨Int.le_refl _,by omega,by omega⟩]; simp
theorem zYc:∀ {l:List Tr}{t:Tr},t∈l→t.height≤yXo l
 | a::l,t,h=>by
  simp only[yXo]
  rcases List.mem_cons.1 h with rfl | h
  ·omega
  ·have:=zYc h; omega
theorem zKn (x:Operand):yJc 1 [(0,x)]=true:=rfl
theorem yKk (p:List Nat):∀ (i:Nat) (l m:List Tr),yX6 p i (l++m)=yX6 p i l++yX6 p (i+l.length) m
 | i,[],m=>by simp[yX6]
 | i,a::l,m=>by
  simp only[List.cons_append,yX6,yKk p (i+1) l m,List.append_assoc,List.length_cons]
  rw[show i+1+l.length=i+(l.length+1) by omega]
def FF (t:Tr):Prop:=∀ (x:IV) (_:IsTr t x) (b2 b3 b4:Nat) (_:b2≠b3) (_:b2≠b4) (_:b3≠b4) (g:Fn) (fi ca:List IV) (_:fnOk g=true) (_:∀ i,g=.func i→entI prog i=true) (I:Nat→ISt→Prop) (S:ISt→Prop) (k0:Nat) (p:List Nat)
  (_:FOkL gl (.fn g fi ca) I S k0 (t.walk p)) (_:p.length+t.height≤1099511627776) (s stt:ISt) (_:I k0 s) (_:xXh b2 b3 b4 (.fn g fi ca) p s stt),
  ICall prog gl 117 [.cptr x,.raw (.pointer (some ⟨b2,0,none⟩)),.raw (.pointer (some ⟨b3,0,none⟩)),.raw (.pointer (some ⟨b4,0,none⟩))] stt
   (fun r st'=>(r=.raw (.bool true)∧∃ s1,I (k0+(t.walk p).length) s1∧xXh b2 b3 b4 (.fn g fi ca) p s1 st')∨(r=.raw (.bool false)∧∃ s1,S s1∧subSt s1 st'))
theorem wX3 (rule:Nat)(sq:Sq)(f:Fm)(u:Tm)(n:ByteArray)(sub:List Tr)(IH:∀ a∈sub,FF gl a):FF gl (.mk rule sq f u n sub):=by
 intro x hx b2 b3 b4 h23 h24 h34 g fi ca hfn hent I S k0 p hy hdeep s stt hI hst
 have hx0:=hx
 obtain⟨tl,xl,tr,xr,op,fn,ta,xa,tb,xb,v,un,tu,xu,ts,xs,hxe,hru,_,_,_,_,_,_,e3,i3⟩:=hx.mk
 obtain⟨a,e,hp,hd1,hd2,rfl⟩:=hst
 simp only[Tr.walk] at hy ⊢
 have hhead:=hy 0 p _ _ a e s rfl hx0 hp hd1 hI
 have hy':=FOkL.tail hy
 have r2:join (join s e) (ownF b2 b3 b4 (.fn g fi ca) a) b2=some (.box [.fn g fi ca]):=yZ0 (wWz h23 h24)
 have r3:join (join s e) (ownF b2 b3 b4 (.fn g fi ca) a) b3=some (.box [a]):=yZ0 (yUb h34)
 refine ICall.intro (c:=cf prog gl [23,24] []) func117 rfl (by show _≤39; simp) (by kernel_rfl) ?_
 have hiv:ivOf (.iv a)=some a:=by rcases hp with⟨t,rfl,_⟩ | ⟨g,cap,cs,rfl,_⟩<;>rfl
 rw[hxe] at hhead
 simp(config:=zzC)only[go_sem,r2,r3,hiv,hxe]
 refine yJg hent (hhead.frame hd2 |>.mono ?_)
 rintro r stt ⟨s2,hd3,rfl,(⟨rfl,s3,hI3,hd4,rfl⟩ | ⟨rfl,hS⟩)⟩
 ·simp(config:=zzC)only[go_sem,i3.len,hxe]
  intro hlen
  refine LoopC.ctr sub.length (fun k fr st' ds=>(∃ s,I (k0+1+(yX6 p 0 (sub.take k)).length) s∧xXh b2 b3 b4 (.fn g fi ca) p s st')∧fr 0=.iv (.cptr x)∧fr 1=.iv (.raw (.pointer (some ⟨b2,0,none⟩)))∧fr 2=.iv (.raw (.pointer (some ⟨b3,0,none⟩)))∧fr 3=.iv (.raw (.pointer (some ⟨b4,0,none⟩)))∧fr 16=.iv (.raw (.int .i64 sub.length))∧fr 17=.iv (.raw (.int .i64 k))∧ds=[]) ?_ ?_ ?_
  ·simp(config:=zzC)only[go_sem,hxe]
   exact⟨⟨s3,by simpa[yX6] using hI3,a,e,hp,hd4,hd3,rfl⟩,rfl⟩
  ·rintro k fr st1 _ hlt ⟨⟨s,hI,a,e,hp,hd1,hd2,rfl⟩,f0,f1,f2,f3,f16,f17,rfl⟩
   rw[hxe] at f0
   obtain⟨t,ht⟩:=yQ3 hlt
   obtain⟨z,hkz,hz⟩:=i3.get ht
   have r3:join (join s e) (ownF b2 b3 b4 (.fn g fi ca) a) b3=some (.box [a]):=yZ0 (yUb h34)
   have hth:=zYc (lMg ht)
   simp only[Tr.height] at hdeep
   have hsplit:yX6 p 0 sub=yX6 p 0 (sub.take k)++(t.walk (p++[k])++yX6 p (k+1) (sub.drop (k+1))):=by
    conv=>lhs; rw[← List.take_append_drop k sub,List.drop_eq_getElem_cons hlt]
    rw[yKk,(lGs ht).2,show (sub.take k).length=k by rw[List.length_take]; omega]
    simp only[yX6,Nat.zero_add]
   have hya:=hy'
   rw[hsplit] at hya
   have hcall:=fun stt hF=>IH t (lMg ht) z hz b2 b3 b4 h23 h24 h34 g fi ca hfn hent I S _ (p++[k]) (FOkL.left (FOkL.right hya)) (by rw[lLa]; simp only[List.length_singleton]; omega) s stt hI hF
   have wcut:IntKind.i64.wrap (((p.length+1:Nat):Int) - 1)=(p.length:Nat):=by rw[w64 (by omega) (by omega)]; omega
   have hz':∃ c0 c1 c2 c3 c4 c5 c6 c7 c8 c9 c10 c11,z=.agg [c0,c1,c2,c3,c4,c5,c6,c7,c8,c9,c10,c11]:=by
    obtain⟨r',s',m',t',n',b'⟩:=t
    obtain⟨tl',xl',tr',xr',op',fn',ta',xa',tb',xb',v',un',tu',xu',ts',xs',rfl,_⟩:=hz.mk
    exact⟨_,_,_,_,_,_,_,_,_,_,_,_,rfl⟩
   obtain⟨c0,c1,c2,c3,c4,c5,c6,c7,c8,c9,c10,c11,rfl⟩:=hz'
   rcases hp with⟨t0,rfl,hta,hp0,rfl⟩ | ⟨g',cap,cs,rfl,rfl,hc1,hc2,hc3⟩
   ·obtain⟨fs,c,es⟩:=t0
    obtain rfl:c=.nil:=hta
    have hje:join s emp=s:=rfl
    rw[hje] at r3 hd2 ⊢
    simp(config:=zzC)only[go_sem,f0,f1,f2,f3,f16,f17,lt_i hlt,r3,hxe,zKn]
    intro g' cap
    refine yQc fun hg=>?_
    obtain⟨hg,hcap⟩:=hg
    change join s (ownF b2 b3 b4 (.fn g fi ca) (.sl ⟨fs,.nil,es⟩ [])) g'=none at hg
    have hd2':disj s (ownF b2 b3 b4 (.fn g fi ca) (.sl ⟨fs,.nil,es⟩ [])):=hd2
    have hg2:ownF b2 b3 b4 (.fn g fi ca) (.sl ⟨fs,.nil,es⟩ []) g'=none:=by
     cases ho:ownF b2 b3 b4 (.fn g fi ca) (.sl ⟨fs,.nil,es⟩ []) g' with
     | none=>rfl
     | some o=>rw[yZ0 ho] at hg; cases hg
    have hg1:s g'=none:=by rw[← yZ4 (stu:=s) hg2]; exact hg
    have hb3:b3≠g':=by rintro rfl; rw[yUb h34] at hg2; cases hg2
    have hF:=wQp (fy:=.fn g fi ca) (p:=p++[k]) (a':=.raw (.slice (some ⟨g',0,none⟩) 1 cap)) (cs:=.raw (.int .i64 k)::List.replicate (cap - 1) .junk) h34 hd2' hg1 hg2 (.inr ⟨g',cap,_,by rw[hp0]; rfl,rfl,by simpa[hp0] using hcap,by simp; omega,by simp[plI,hp0]⟩)
    have hb4:b4≠g':=by rintro rfl; rw[xQv] at hg2; cases hg2
    have r3':∀ o,((join s (ownF b2 b3 b4 (.fn g fi ca) (.sl ⟨fs,.nil,es⟩ []))).put g' o) b3=some (.box [.sl ⟨fs,.nil,es⟩ []]):=fun o=>by rw[ISt.put_apply,if_neg hb3]; exact r3
    have r4':∀ o o',(((join s (ownF b2 b3 b4 (.fn g fi ca) (.sl ⟨fs,.nil,es⟩ []))).put g' o).put b3 o') b4=some (.box [xK7 b2 b3 b4]):=fun o o'=>by rw[ISt.put_apply,if_neg h34.symm,ISt.put_apply,if_neg hb4]; exact yZ0 xQv
    simp(config:=zzC)only[go_sem,IV.one,List.flatMap_cons,List.flatMap_nil,IV.cells,Nat.mul_one,r3',r4',f0,f1,f2,f3,f16,f17,hxe,hkz,yQ2 e3,lt_i hlt,iNn,fits,xK7]
    refine (hcall _ hF).mono ?_
    rintro _ st2 (⟨rfl,s1,hI1,hF1⟩ | ⟨rfl,s1,hS1,hsub1⟩)
    ·obtain⟨a2,e2,hp2,hd5,hd6,rfl⟩:=hF1
     obtain⟨g3,cap3,cs3,rfl,rfl,hc4,hc5,hc6⟩:=hp2.cons
     have r6:join (join s1 (emp.put g3 (some (.box cs3)))) (ownF b2 b3 b4 (.fn g fi ca) (.raw (.slice (some ⟨g3,0,none⟩) (p.length+1) cap3))) b3=some (.box [.raw (.slice (some ⟨g3,0,none⟩) (p.length+1) cap3)]):=yZ0 (yUb h34)
     simp(config:=zzC)only[go_sem,IV.one,r6,f0,f1,f2,f3,f16,f17,wcut,zWo hc4,ite_self,Nat.zero_mul,hc4,yQa hlt (show sub.length≤281474976710656 by omega)]
     refine⟨s1,?_,?_⟩
     ·rw[yQ4 ht,yKk,lLa,show (sub.take k).length=k by rw[List.length_take]; omega]
      simp only[yX6,List.append_nil,Nat.zero_add]
      rw[← Nat.add_assoc]; exact hI1
     ·rw[wWt h34]
      exact⟨_,_,.inr ⟨g3,cap3,cs3,rfl,rfl,by omega,hc5,hc6⟩,hd5,fun b hb=>hd6 b fun h=>hb ((zJ3 _).1 h),rfl⟩
    ·simp(config:=zzC)only[go_sem]
     exact yQ0 (.inr ⟨rfl,s1,hS1,hsub1⟩)
   ·have ho:ownF b2 b3 b4 (.fn g fi ca) (.raw (.slice (some ⟨g',0,none⟩) p.length cap)) g'=none:=by
     cases ho:ownF b2 b3 b4 (.fn g fi ca) (.raw (.slice (some ⟨g',0,none⟩) p.length cap)) g' with
     | none=>rfl
     | some o =>
      have:=hd2 g' (by rw[ho]; simp)
      rw[yZ0 (ISt.put_same ..)] at this
      cases this
    have hs1:s g'=none:=hd1 g' (by rw[ISt.put_same]; simp)
    have r5:join (join s (emp.put g' (some (.box cs)))) (ownF b2 b3 b4 (.fn g fi ca) (.raw (.slice (some ⟨g',0,none⟩) p.length cap))) g'=some (.box cs):=by
     rw[yZ4 ho,yZ0 (ISt.put_same ..)]
    simp(config:=zzC)only[go_sem,f0,f1,f2,f3,f16,f17,lt_i hlt,r3,hxe,zKn]
    refine zX3 _ _ _ r5 (by simp[fits,IV.one]) ⟨by show (_+1)*8≤_; omega,by show _+1≤_; omega⟩ ⟨hc1,by show _*1≤_; omega⟩ (by simp[IV.cells]) ?_
    intro g2 cap2 cs2 hg2 k1 k2 k3
    rw[wUy hs1 ho]
    have hgo:s g2=none∧ownF b2 b3 b4 (.fn g fi ca) (.raw (.slice (some ⟨g',0,none⟩) p.length cap)) g2=none:=by
     rcases hg2 with rfl | hg2
     ·exact⟨hs1,ho⟩
     ·cases hq:ownF b2 b3 b4 (.fn g fi ca) (.raw (.slice (some ⟨g',0,none⟩) p.length cap)) g2 with
      | some o=>rw[yZ0 hq] at hg2; cases hg2
      | none =>
       rw[yZ4 hq] at hg2
       refine⟨?_,rfl⟩
       cases hz:s g2 with
       | none=>rfl
       | some o=>rw[yJq hd1 g2 o hz] at hg2; cases hg2
    have hs2:disj s (ownF b2 b3 b4 (.fn g fi ca) (.raw (.slice (some ⟨g',0,none⟩) p.length cap))):=fun b hb=>by
     have:=hd2 b hb
     cases hz:s b with
     | none=>rfl
     | some o=>rw[yJq hd1 b o hz] at this; cases this
    have hF:=wQp (fy:=.fn g fi ca) (p:=p++[k]) (a':=.raw (.slice (some ⟨g2,0,none⟩) (p.length+1) cap2)) (cs:=cs2) h34 hs2 hgo.1 hgo.2 (.inr ⟨g2,cap2,cs2,by simp,rfl,by simpa using k1,by simpa using k2,by
     simp only[Nat.mul_one] at k3
     rw[lLa]
     exact k3.trans (by rw[hc3]; simp[plI,IV.cells])⟩)
    have hb3:b3≠g2:=by rintro rfl; have:=hgo.2; rw[yUb h34] at this; cases this
    have hb4:b4≠g2:=by rintro rfl; have:=hgo.2; rw[xQv] at this; cases this
    have r3':∀ o,((join s (ownF b2 b3 b4 (.fn g fi ca) (.raw (.slice (some ⟨g',0,none⟩) p.length cap)))).put g2 o) b3=some (.box [.raw (.slice (some ⟨g',0,none⟩) p.length cap)]):=fun o=>by rw[ISt.put_apply,if_neg hb3]; exact yZ0 (yUb h34)
    have r4':∀ o o',(((join s (ownF b2 b3 b4 (.fn g fi ca) (.raw (.slice (some ⟨g',0,none⟩) p.length cap)))).put g2 o).put b3 o') b4=some (.box [xK7 b2 b3 b4]):=fun o o'=>by rw[ISt.put_apply,if_neg h34.symm,ISt.put_apply,if_neg hb4]; exact yZ0 xQv
    simp(config:=zzC)only[go_sem,IV.one,List.flatMap_cons,List.flatMap_nil,IV.cells,Nat.mul_one,r3',r4',f0,f1,f2,f3,f16,f17,hxe,hkz,yQ2 e3,lt_i hlt,iNn,fits,xK7]
    refine (hcall _ hF).mono ?_
    rintro _ st2 (⟨rfl,s1,hI1,hF1⟩ | ⟨rfl,s1,hS1,hsub1⟩)
    ·obtain⟨a2,e2,hp2,hd5,hd6,rfl⟩:=hF1
     obtain⟨g3,cap3,cs3,rfl,rfl,hc4,hc5,hc6⟩:=hp2.cons
     have r6:join (join s1 (emp.put g3 (some (.box cs3)))) (ownF b2 b3 b4 (.fn g fi ca) (.raw (.slice (some ⟨g3,0,none⟩) (p.length+1) cap3))) b3=some (.box [.raw (.slice (some ⟨g3,0,none⟩) (p.length+1) cap3)]):=yZ0 (yUb h34)
     simp(config:=zzC)only[go_sem,IV.one,r6,f0,f1,f2,f3,f16,f17,wcut,zWo hc4,ite_self,Nat.zero_mul,hc4,yQa hlt (show sub.length≤281474976710656 by omega)]
     refine⟨s1,?_,?_⟩
     ·rw[yQ4 ht,yKk,lLa,show (sub.take k).length=k by rw[List.length_take]; omega]
      simp only[yX6,List.append_nil,Nat.zero_add]
      rw[← Nat.add_assoc]; exact hI1
     ·rw[wWt h34]
      exact⟨_,_,.inr ⟨g3,cap3,cs3,rfl,rfl,by omega,hc5,hc6⟩,hd5,fun b hb=>hd6 b fun h=>hb ((zJ3 _).1 h),rfl⟩
    ·simp(config:=zzC)only[go_sem]
     exact yQ0 (.inr ⟨rfl,s1,hS1,hsub1⟩)
  ·rintro fr st1 _ ⟨⟨s,hI,hF⟩,f0,f1,f2,f3,f16,f17,rfl⟩
   rw[lTl] at hI
   simp(config:=zzC)only[go_sem,f16,f17,yQm (nLi _)]
   refine yQ0 (.inl ⟨rfl,s,?_,hF⟩)
   rw[show k0+((yX6 p 0 sub).length+1)=k0+1+(yX6 p 0 sub).length by omega]
   exact hI
 ·simp(config:=zzC)only[go_sem]
  exact yQ0 (.inr ⟨rfl,s2,hS,yJq hd3⟩)
theorem xWm:∀ (k:Nat)(t:Tr),SizeOf.sizeOf t<k→FF gl t
 | 0,t,h=>by omega
 | k+1,.mk r sq f u n sub,h=>wX3 gl r sq f u n sub (fun a ha=>xWm k a (by
   have:=lSm ha
   simp at h; omega))
theorem vJo (t:Tr):FF gl t:=xWm gl _ t (Nat.lt_succ_self _)
theorem wJv (t:Tr)(x:IV)(hx:IsTr t x)(hd:t.height≤1099511627776)(I:Nat→ISt→Prop):wWc prog gl 116 [] [.cptr (.cptr x)] (lkT (t.walk [])) (t.walk []).length I:=by
 rintro y I' S' st ⟨g,fi,ca,rfl,hfn,hent⟩ _ hy h0
 have hfrom:=vJo gl t x hx
 have hok:FOkL gl (.fn g fi ca) I' S' 0 (t.walk []):=fun i p t x a e stu hi ht hp hdj hI=>by
  rw[Nat.zero_add] at hI ⊢
  exact hy i [a,.cptr x] e stu ⟨p,t,a,x,hi,ht,hp,rfl⟩ hdj hI
 have hz':∃ c0 c1 c2 c3 c4 c5 c6 c7 c8 c9 c10 c11,x=.agg [c0,c1,c2,c3,c4,c5,c6,c7,c8,c9,c10,c11]:=by
  obtain⟨r',s',m',t',n',b'⟩:=t
  obtain⟨tl',xl',tr',xr',op',fn',ta',xa',tb',xb',v',un',tu',xu',ts',xs',rfl,_⟩:=hx.mk
  exact⟨_,_,_,_,_,_,_,_,_,_,_,_,rfl⟩
 obtain⟨c0,c1,c2,c3,c4,c5,c6,c7,c8,c9,c10,c11,rfl⟩:=hz'
 change ICall prog gl _ [.fn g fi ca,_] st _
 refine ICall.intro (c:=cf prog gl [2,3,4] []) func116 rfl (by show _≤9; simp) (by kernel_rfl) ?_
 simp(config:=zzC)only[go_sem,fits]
 intro b2
 refine yQc fun hb2=>?_
 intro b3
 refine yQc fun hb3=>?_
 intro b4
 refine yQc fun hb4=>?_
 have h23:b2≠b3:=by rintro rfl; rw[ISt.put_same] at hb3; cases hb3
 have h34:b3≠b4:=by rintro rfl; rw[ISt.put_same] at hb4; cases hb4
 have h24:b2≠b4:=by rintro rfl; rw[ISt.put_apply,if_neg h23,ISt.put_same] at hb4; cases hb4
 rw[ISt.put_apply,if_neg h23.symm] at hb3
 rw[ISt.put_apply,if_neg h34.symm,ISt.put_apply,if_neg h24.symm] at hb4
 have hF:xXh b2 b3 b4 (.fn g fi ca) [] st ((((st.put b2 (some (.box [.fn g fi ca]))).put b3 (some (.box [.sl ⟨true,.nil,0⟩ []]))).put b4 (some (.box [.raw .nilFunc]))).put b4 (some (.box [xK7 b2 b3 b4]))):=by
  refine⟨_,emp,.inl ⟨⟨true,.nil,0⟩,rfl,rfl,rfl,rfl⟩,fun b hb=>absurd rfl hb,fun b hb=>?_,?_⟩
  ·show st b=none
   by_cases q4:b=b4
   ·rw[q4]; exact hb4
   ·by_cases q3:b=b3
    ·rw[q3]; exact hb3
    ·by_cases q2:b=b2
     ·rw[q2]; exact hb2
     ·exact absurd (xVt q2 q3 q4) hb
  ·funext c
   by_cases q4:c=b4
   ·rw[q4,ISt.put_same,yZ0 xQv]
   ·rw[ISt.put_apply,if_neg q4,ISt.put_apply,if_neg q4]
    by_cases q3:c=b3
    ·rw[q3,ISt.put_same,yZ0 (yUb h34)]
    ·rw[ISt.put_apply,if_neg q3]
     by_cases q2:c=b2
     ·rw[q2,ISt.put_same,yZ0 (wWz h23 h24)]
     ·rw[ISt.put_apply,if_neg q2,yZ4 (xVt q2 q3 q4)]; rfl
 refine (hfrom b2 b3 b4 h23 h24 h34 g fi ca hfn hent I' S' 0 [] hok (by simpa using hd) st _ h0 hF).mono ?_
 rintro r stt (⟨rfl,s1,hI1,a,e,_,hd1,hd2,rfl⟩ | ⟨rfl,s1,hS1,hsub⟩)
 ·simp(config:=zzC)only[go_sem]
  rw[Nat.zero_add] at hI1
  exact yQ9 ((yJq hd1).trans (yJq hd2)) (.inl hI1)
 ·simp(config:=zzC)only[go_sem]
  exact yQ9 hsub (.inr hS1)
theorem wGb (x:IV)(st:ISt)(t:Tr)(hx:IsTr t x):ICall prog gl 71 [.cptr x] st (fun r st'=>r=.fn (.func 116) [] [.cptr (.cptr x)]∧st'=st):=by
 have hz':∃ c0 c1 c2 c3 c4 c5 c6 c7 c8 c9 c10 c11,x=.agg [c0,c1,c2,c3,c4,c5,c6,c7,c8,c9,c10,c11]:=by
  obtain⟨r',s',m',t',n',b'⟩:=t
  obtain⟨tl',xl',tr',xr',op',fn',ta',xa',tb',xb',v',un',tu',xu',ts',xs',rfl,_⟩:=hx.mk
  exact⟨_,_,_,_,_,_,_,_,_,_,_,_,rfl⟩
 obtain⟨c0,c1,c2,c3,c4,c5,c6,c7,c8,c9,c10,c11,rfl⟩:=hz'
 refine ICall.intro (c:=cf prog gl [] [] [1]) func71 rfl (by show _≤4; simp) (by kernel_rfl) ?_
 simp(config:=zzC)only[go_sem,fits]
 exact yQ0 ⟨rfl,rfl⟩
theorem wJk (t:Tag)(ht:t.cap=.nil)(st:ISt):ICall prog gl 73 [.sl t []] st (fun r st'=>(∃ t',r=.sl t' (plI [])∧okEs t' 1)∧st'=st):=by
 obtain⟨fs,c,es⟩:=t
 obtain rfl:c=.nil:=ht
 refine iI func73 rfl rfl (by kernel_rfl) ?_
 have hb:binV prog 50 .eql (.sl ⟨fs,.nil,es⟩ []) (.sl ⟨true,.nil,0⟩ [])=some (.raw (.bool true)):=by
  have:zQx prog 50=true:=by kernel_rfl
  simp[binV,zW1,this]
 simp(config:=zzC)only[go_sem,fits,hb]
 exact yQ0 ⟨⟨_,rfl,.inl rfl⟩,rfl⟩
theorem wJl (g:Nat)(p:List Nat)(hp:p≠[])(hl:p.length≤1099511627776)(st:ISt):ICall prog gl 73 [.sl ⟨false,.app g,1⟩ (plI p)] st (fun r st'=>(∃ t',r=.sl t' (plI p)∧okEs t' 1)∧st'=st):=by
 obtain⟨i,p,rfl⟩:∃ i q,p=i::q:=by
  cases p with
  | nil=>exact absurd rfl hp
  | cons i q=>exact⟨i,q,rfl⟩
 refine iI func73 rfl rfl (by kernel_rfl) ?_
 have hb:binV prog 50 .eql (.sl ⟨false,.app g,1⟩ (plI (i::p))) (.sl ⟨true,.nil,0⟩ [])=some (.raw (.bool false)):=by
  have:zQx prog 50=true:=by kernel_rfl
  simp[binV,zW1,plI,this]
 have hf:(plI (i::p)).all (fits false 1)=true:=by simp[plI,fits,IV.one]
 simp only[List.length_cons] at hl
 have he:plI (i::p)=.raw (.int .i64 (i:Int))::plI p:=rfl
 have hpl:=yVk p
 have hf':(plI p).all (fits false 1)=true:=by simp[plI,fits,IV.one]
 rw[he] at hb hf ⊢
 simp(config:=zzC)only[go_sem,fits,hb]
 exact yQu rfl (yQu hf' (yQu ⟨by omega,by omega⟩ fun g'=>yQc fun hg=>yQ9 (yQd hg) ⟨⟨_,rfl,.inr rfl⟩,rfl⟩))
theorem xU1 {R:Rt}{st:ISt}{ds:List Dfd}(esc:List Nat)(dst:Option Nat)(e:TypeId×Bool×Nat×Nat)(fs:Bool)(es:Nat)(xs:List IV):appV esc dst e ⟨fs,.full,es⟩ xs [] R st ds =
 chk (([]:List IV).all (fits e.2.1 e.2.2.1)=true) (chk ((xs.length+0)*e.2.2.2≤140737488355328∧xs.length+0≤140737488355328) (chk (es=e.2.2.1) (R (.val (.sl ⟨fs,.full,es⟩ xs)) st ds))):=rfl
theorem xUb (g:Nat)(st:ISt):ICall prog gl 73 [.sl ⟨false,.app g,1⟩ (plI [])] st (fun r st'=>(∃ t',r=.sl t' (plI [])∧okEs t' 1)∧st'=st):=by
 have hb:binV prog 50 .eql (.sl ⟨false,.app g,1⟩ (plI [])) (.sl ⟨true,.nil,0⟩ [])=some (.raw (.bool false)):=by
  have:zQx prog 50=true:=by kernel_rfl
  simp[binV,zW1,plI,this]
 rw[show plI []=[] from rfl] at hb ⊢
 refine iI func73 rfl rfl (by kernel_rfl) ?_
 simp(config:=zzC)only[go_sem,fits,hb,xU1]
 exact yQu rfl (yQ0 ⟨⟨_,rfl,.inr rfl⟩,rfl⟩)
theorem wZr {s e:ISt}(h:disj s e):join s e=join e s:=by
 funext b
 cases he:e b with
 | none =>
  rw[yZ4 he]
  cases hs:s b with
  | none=>rw[yZ4 hs,he]
  | some o=>rw[yZ0 hs]
 | some o=>rw[yZ0 he,yZ4 (h b (by rw[he]; simp)),he]
theorem xY3:∀ p:List Nat,ages (plI p)=plI p
 | []=>by simp only[plI,List.map_nil,ages]
 | i::p=>by
  have:=xY3 p
  simp only[plI,List.map_cons,ages,age] at this ⊢
  rw[this]
theorem xVo:∀ p:List Nat,(plI p).flatMap IV.cells=plI p
 | []=>rfl
 | i::p=>by
  have:=xVo p
  simp only[plI,List.map_cons,List.flatMap_cons,IV.cells,List.singleton_append] at this ⊢
  rw[this]
theorem vQo (p:List Nat)(a:IV)(e s:ISt)(hp:PlV p a e)(hl:p.length≤1099511627776)(hd:disj s e):ICall prog gl 73 [a] (join s e) (fun r st'=>(∃ t',r=.sl t' (plI p)∧okEs t' 1)∧st'=s):=by
 have key:ICall prog gl 73 [a] e (fun r st'=>(∃ t',r=.sl t' (plI p)∧okEs t' 1)∧st'=emp):=by
  rcases hp with⟨t,rfl,ht,rfl,rfl⟩ | ⟨g,cap,cs,rfl,rfl,h1,h2,h3⟩
  ·exact wJk gl t ht emp
  ·have hnb:yWg (emp.put g (some (.box cs)))=emp:=by
    funext b
    by_cases hb:b=g
    ·rw[hb,zQn (ISt.put_same ..)]; rfl
    ·have:(emp.put g (some (.box cs))) b=none:=by rw[ISt.put_apply,if_neg hb]; rfl
     rw[yWf (fun cs' h=>by rw[this] at h; cases h),this]; rfl
   refine ICall.freeze (args':=[.sl ⟨false,.app g,1⟩ (plI p)]) ⟨_,_,rfl,.inr ⟨.sl ⟨true,.app g,1⟩ (plI p),?_,?_⟩,rfl⟩ ?_
   ·rw[← yVk p]
    refine .sl g cap ⟨true,.app g,1⟩ (plI p) cs rfl (by rw[yVk]; omega) (by rw[yVk]; exact h1) (fun x hx=>?_) (ISt.put_same ..) (by simpa using h2) fun i r c hr hc=>?_
    ·obtain⟨i,_,rfl⟩:=List.mem_map.1 hx
     rfl
    ·rw[xVo p] at hc
     have hi:i<p.length:=by
      have:=(lGs hc).1
      rwa [yVk] at this
     have:(cs.take p.length)[i]?=cs[i]?:=by rw[List.getElem?_take,if_pos hi]
     rw[h3,hc,hr] at this
     cases this
     exact .refl _
   ·simp only[age,xY3]
   ·rw[hnb]
    by_cases hpn:p=[]
    ·subst hpn; exact xUb gl g emp
    ·exact wJl gl g p hpn hl emp
 have h1:=key.frame (own:=s) (fun b hb=>by
  cases he:e b with
  | none=>rfl
  | some o=>exact absurd (hd b (by rw[he]; simp)) hb)
 rw[wZr hd]
 refine h1.mono ?_
 rintro r st' ⟨stu,_,rfl,hr,rfl⟩
 refine⟨hr,?_⟩
 funext b
 cases hs:s b with
 | none=>rw[yZ4 hs]; rfl
 | some o=>rw[yZ0 hs]
def xW1:Tr→Prop
 | .mk _ s m u _ sub=>yW9 s∧m.size≤1000000∧u.size≤1000000∧∀ a∈sub,yW9 a.sq
def wVe (t:Tr):Prop:=(∀ q∈t.walk [],xW1 q.2)∧t.height≤1099511627776
theorem wVy (G:Gl gl)(T:Gt gl)(ca:Nat)(t:Tr)(x:IV)(hx:IsTr t x)(hn:xW1 t)(st:ISt):ICall prog gl 72 [.raw (.int .u8 ca),.cptr x] st (fun r st'=>r=.raw (.int .i64 (yJf ca t))∧st'=st):=by
 obtain⟨rule,s,m,u,n,sub⟩:=t
 exact vQ9 gl G T ca rule s m u n sub x hx hn.1 hn.2.1 hn.2.2.1 hn.2.2.2 st
theorem yUm {t:Tr}{x:IV}(h:IsTr t x):∃ (rule:Nat) (tl:Tag) (xl:List IV) (tr:Tag) (xr:List IV) (op:Int) (fn:ByteArray) (ta:Tag) (xa:List IV) (tb:Tag) (xb:List IV) (v:Bool) (un:ByteArray) (tu:Tag) (xu:List IV) (n:ByteArray) (ts:Tag) (xs:List IV),
  x=.agg [.raw (.int .u8 rule),.sl tl xl,.sl tr xr,.raw (.int .u8 op),.raw (.string fn),.sl ta xa,.sl tb xb,.raw (.bool v),.raw (.string un),.sl tu xu,.raw (.string n),.sl ts xs]:=by
 obtain⟨r',s',m',t',n',b'⟩:=t
 obtain⟨tl',xl',tr',xr',op',fn',ta',xa',tb',xb',v',un',tu',xu',ts',xs',rfl,_⟩:=h.mk
 exact⟨_,_,_,_,_,_,_,_,_,_,_,_,_,_,_,_,_,_,rfl⟩
mutual
theorem zG1:∀ (p:List Nat)(t:Tr),(t.walk p).length=t.steps
 | p,.mk _ _ _ _ _ sub=>by simp only[Tr.walk,Tr.steps,List.length_cons,zJk p 0 sub]; omega
theorem zJk:∀ (p:List Nat)(i:Nat)(l:List Tr),(yX6 p i l).length=yQv l
 | _,_,[]=>rfl
 | p,i,a::l=>by simp only[yX6,yQv,lLa,zG1 (p++[i]) a,zJk p (i+1) l]
end
mutual
theorem zUt:∀ (q:List Nat)(t:Tr)(x:List Nat×Tr),x∈t.walk q→x.1.length+1≤q.length+t.height
 | q,.mk _ _ _ _ _ sub,x,h=>by
  simp only[Tr.walk,List.mem_cons] at h
  simp only[Tr.height]
  rcases h with rfl | h
  ·simp only; omega
  ·have:=zX7 q 0 sub x h; omega
theorem zX7:∀ (q:List Nat)(i:Nat)(l:List Tr)(x:List Nat×Tr),x∈yX6 q i l→x.1.length≤q.length+yXo l
 | _,_,[],x,h=>by simp[yX6] at h
 | q,i,a::l,x,h=>by
  simp only[yX6,List.mem_append] at h
  simp only[yXo]
  rcases h with h | h
  ·have:=zUt (q++[i]) a x h
   rw[lLa] at this
   simp only[List.length_singleton] at this
   omega
  ·have:=zX7 q (i+1) l x h; omega
end
def CkI (st:ISt)(b2 b4 b5 b6 ca c:Nat)(s:ISt):Prop:=s b2=some (.box [.raw (.int .u8 ca)])∧s b4=some (.box [.sl ⟨true,.nil,0⟩ []])∧s b5=some (.box [.raw (.int .i64 0)])∧s b6=some (.box [.raw (.int .i64 c)])∧subSt st s
def CkS (st:ISt)(b4 b5:Nat)(q:List Nat×Nat)(e:Exit)(s:ISt):Prop:=e=.ret∧(∃ tg,s b4=some (.box [.sl tg (plI q.1)])∧okEs tg 1)∧s b5=some (.box [.raw (.int .i64 q.2)])∧subSt st s
theorem zUr (G:Gl gl)(T:Gt gl)(ca:Nat)(t:Tr)(x:IV)(hx:IsTr t x)(hfit:wVe t)(st:ISt):ICall prog gl 24 [.raw (.int .u8 ca),x] st (fun r st'=>(∃ tg,r=.tup [.sl tg (plI (yJv ca t).1),.raw (.int .i64 (yJv ca t).2)]∧okEs tg 1)∧st'=st):=by
 have hst:=fun st=>wGb gl x st t hx
 have hit:=fun I=>wJv gl t x hx hfit.2 I
 have hkn:=fun st=>zU4 gl ca st
 obtain⟨rule,tl,xl,tr,xr,op,fn,ta,xa,tb,xb,v,un,tu,xu,n,ts,xs,rfl⟩:=yUm hx
 refine ICall.intro (c:=cf prog gl [2,4,5,6] [] [3]) func24 rfl (by show _≤31; simp) (by kernel_rfl) ?_
 simp(config:=zzC)only[go_sem,fits,IV.one]
 intro b2
 refine yQc fun hb2=>?_
 intro b4
 refine yQc fun hb4=>?_
 intro b5
 refine yQc fun hb5=>?_
 have h24:b2≠b4:=by rintro rfl; rw[ISt.put_same] at hb4; cases hb4
 have h45:b4≠b5:=by rintro rfl; rw[ISt.put_same] at hb5; cases hb5
 have h25:b2≠b5:=by rintro rfl; rw[ISt.put_apply,if_neg h24,ISt.put_same] at hb5; cases hb5
 rw[ISt.put_apply,if_neg h24.symm] at hb4
 rw[ISt.put_apply,if_neg h45.symm,ISt.put_apply,if_neg h25.symm] at hb5
 obtain⟨s1,hs1,f2,f4,f5,hsub⟩:∃ s1,s1=((st.put b2 (some (.box [.raw (.int .u8 ca)]))).put b4 (some (.box [.sl ⟨true,.nil,0⟩ []]))).put b5 (some (.box [.raw (.int .i64 0)]))∧s1 b2=some (.box [.raw (.int .u8 ca)])∧s1 b4=some (.box [.sl ⟨true,.nil,0⟩ []])∧s1 b5=some (.box [.raw (.int .i64 0)])∧subSt st s1 :=
  ⟨_,rfl,by simp only[ISt.put_apply,if_neg h24,if_neg h25,if_true],by simp only[ISt.put_apply,if_neg h45,if_true],by simp only[ISt.put_apply,if_true],yZb (yZb (yZb (subSt.refl st) hb2) hb4) hb5⟩
 rw[← hs1]
 simp(config:=zzC)only[go_sem,f2,fits]
 refine (hkn _).mono ?_
 rintro _ s1' ⟨rfl,rfl⟩
 have g5:∀ (s:ISt) o,(s.put b4 o) b5=s b5:=fun s o=>by rw[ISt.put_apply,if_neg h45.symm]
 have g4:∀ (s:ISt) o o',((s.put b4 o).put b5 o') b4=o:=fun s o o'=>by rw[ISt.put_apply,if_neg h45,ISt.put_same]
 have hsub':∀ (s:ISt) o o',subSt st s→subSt st ((s.put b4 o).put b5 o'):=fun s o o' h=>yZb (yZb h hb4) hb5
 cases hk:yX0 ca
 ·have hq:yJv ca t=([],2):=by unfold yJv; rw[hk]; rfl
  simp(config:=zzC)only[go_sem,f4,f5,fits,g5,g4,ISt.put_same]
  exact yQ9 (hsub' _ _ _ hsub) ⟨⟨_,by rw[hq]; rfl,.inl rfl⟩,rfl⟩
 ·simp(config:=zzC)only[go_sem,f4,f5,fits]
  intro b6
  refine yQc fun hb6=>?_
  rw[yQf]
  refine (hst _).mono ?_
  rintro _ _ ⟨rfl,rfl⟩
  have h26:b2≠b6:=by rintro rfl; rw[f2] at hb6; cases hb6
  have h46:b4≠b6:=by rintro rfl; rw[f4] at hb6; cases hb6
  have h56:b5≠b6:=by rintro rfl; rw[f5] at hb6; cases hb6
  have hb6':st b6=none:=by
   cases hq:st b6 with
   | none=>rfl
   | some o=>rw[hsub b6 o hq] at hb6; cases hb6
  have hI0:CkI st b2 b4 b5 b6 ca 0 (s1'.put b6 (some (.box [.raw (.int .i64 0)]))):=⟨by rw[ISt.put_apply,if_neg h26]; exact f2,by rw[ISt.put_apply,if_neg h46]; exact f4,by rw[ISt.put_apply,if_neg h56]; exact f5,ISt.put_same ..,yZb hsub hb6'⟩
  generalize s1'.put b6 (some (.box [.raw (.int .i64 0)]))=s2 at hI0 ⊢
  simp(config:=zzC)only[go_sem,fits]
  refine RangeL.intro (lkT (t.walk [])) (t.walk []).length (fun k s=>CkI st b2 b4 b5 b6 ca k s∧k≤300) (fun e s=>CkS st b4 b5 ([],5) e s∧300<t.steps) rfl ?_ ?_ ?_ (hit _) ?_ ?_
  ·rintro k a e ⟨p,u,a,y,_,_,_,rfl⟩; rfl
  ·exact⟨hI0,by omega⟩
  ·rintro k _ e s ⟨p,z,a,y,hkz,hz,hp,rfl⟩ hd ⟨⟨c2,c4,c5,c6,hss⟩,hk3⟩
   have hd':disj s e:=hd
   have r6:=yJq hd' _ _ c6
   have r4:=yJq hd' _ _ c4
   have r5:=yJq hd' _ _ c5
   have e6:e b6=none:=ISt.disj.off hd c6
   have hw:IntKind.i64.wrap ((k:Int)+1)=((k+1:Nat):Int):=by rw[w64]<;>omega
   have q4:∀ o,((join s e).put b6 o) b4=some (.box [.sl ⟨true,.nil,0⟩ []]):=fun o=>by rw[yZ2 h46]; exact r4
   have q5:∀ o o',(((join s e).put b6 o).put b4 o') b5=some (.box [.raw (.int .i64 0)]):=fun o o'=>by rw[yZ2 h45.symm,yZ2 h56]; exact r5
   by_cases hbig:300<k+1
   ·have hb:decide ((300:Int)<((k+1:Nat):Int))=true:=dEt (by omega)
    simp(config:=zzC)only[go_sem,r6,hw,ISt.put_same,hb,q4,q5,fits]
    refine⟨⟨rfl,⟨⟨true,.nil,0⟩,?_,.inl rfl⟩,ISt.put_same ..,yZb (yZb (yZb (hss.trans (yJq hd')) hb6') hb4) hb5⟩,?_⟩
    ·rw[yZ2 h45,ISt.put_same]; rfl
    ·have:=(lGs hkz).1
     rw[zG1] at this
     omega
   ·have hb:decide ((300:Int)<((k+1:Nat):Int))=false:=dEf (by omega)
    simp(config:=zzC)only[go_sem,r6,hw,ISt.put_same,hb,q4,q5,fits]
    refine⟨s.put b6 (some (.box [.raw (.int .i64 ((k+1:Nat):Int))])),⟨⟨by rw[yZ2 h26]; exact c2,by rw[yZ2 h46]; exact c4,by rw[yZ2 h56]; exact c5,ISt.put_same ..,yZb hss hb6'⟩,by omega⟩,ISt.disj.put hd e6,ISt.put_add e6⟩
  ·rintro s r ⟨⟨c2,c4,c5,c6,hss⟩,hk3⟩
   rw[zG1] at hk3
   have hq:yJv ca t=yX3 (yJf ca) (t.walk []):=by
    unfold yJv
    rw[hk]
    simp only[Bool.not_true,bFt,if_false]
    rw[if_neg (by omega)]
   simp(config:=zzC)only[go_sem]
   refine (hst _).mono ?_
   rintro _ _ ⟨rfl,rfl⟩
   simp(config:=zzC)only[go_sem,fits]
   refine RangeL.intro (lkT (t.walk [])) (t.walk []).length (fun k s=>(s b2=some (.box [.raw (.int .u8 ca)])∧s b4=some (.box [.sl ⟨true,.nil,0⟩ []])∧s b5=some (.box [.raw (.int .i64 0)])∧subSt st s)∧yX3 (yJf ca) ((t.walk []).take k)=([],0)) (fun e s=>CkS st b4 b5 (yJv ca t) e s) rfl ?_ ?_ ?_ (hit _) ?_ ?_
   ·rintro k a e ⟨p,u,a,y,_,_,_,rfl⟩; rfl
   ·exact⟨⟨c2,c4,c5,hss⟩,by simp[yX3]⟩
   ·rintro k _ e s ⟨p,z,a,y,hkz,hz,hp,rfl⟩ hd ⟨⟨c2,c4,c5,hss⟩,hf⟩
    have hd':disj s e:=hd
    have r2:=yJq hd' _ _ c2
    have hpl:=zUt [] t _ (lMg hkz)
    have hfd:=hfit.2
    simp only[List.length_nil] at hpl
    have hck:=fun st=>wVy gl G T ca z y hz (hfit.1 _ (lMg hkz)) st
    have hcl:=vQo gl p a e s hp (by omega) hd'
    have hiv:ivOf (.iv a)=some a:=by rcases hp with⟨t,rfl,_⟩ | ⟨g,cap,cs,rfl,_⟩<;>rfl
    obtain⟨rule',tl',xl',tr',xr',op',fn',ta',xa',tb',xb',v',un',tu',xu',n',ts',xs',rfl⟩:=yUm hz
    simp(config:=zzC)only[go_sem,r2,hiv,fits]
    refine (hck _).mono ?_
    rintro _ _ ⟨rfl,rfl⟩
    by_cases h0:yJf ca z=0
    ·have d0:decide (((yJf ca z:Nat):Int)=0)=true:=dEt (by omega)
     simp(config:=zzC)only[go_sem,d0,fits]
     refine⟨s,⟨⟨c2,c4,c5,hss⟩,?_⟩,hd,rfl⟩
     rw[yQ4 hkz,yVq,hf]
     simp[yX3,h0]
    ·have d0:decide (((yJf ca z:Nat):Int)=0)=false:=dEf (by omega)
     have hv:yJv ca t=(p,yJf ca z):=by
      rw[hq]
      conv=>lhs; rw[← List.take_append_drop k (t.walk [])]
      rw[List.drop_eq_getElem_cons (lGs hkz).1,(lGs hkz).2,yVq,hf]
      simp[yX3,h0]
     simp(config:=zzC)only[go_sem,d0,hiv,fits]
     refine hcl.mono ?_
     rintro _ _ ⟨⟨t',rfl,ht'⟩,rfl⟩
     simp(config:=zzC)only[go_sem,c4,c5,fits,g5,g4,ISt.put_same]
     refine⟨rfl,⟨t',?_,ht'⟩,?_,hsub' _ _ _ hss⟩
     ·rw[g4,hv]
     ·rw[ISt.put_same,hv]
   ·rintro s r ⟨⟨c2,c4,c5,hss⟩,hf⟩
    rw[lTl,← hq] at hf
    simp(config:=zzC)only[go_sem,c4,c5,fits,g5,g4,ISt.put_same]
    exact yQ9 (hsub' _ _ _ hss) ⟨⟨_,by rw[hf]; rfl,.inl rfl⟩,rfl⟩
   ·rintro e s r ⟨rfl,⟨tg,c4,ht⟩,c5,hss⟩
    simp(config:=zzC)only[go_sem,c4,c5,fits]
    exact yQ9 hss ⟨⟨_,rfl,ht⟩,rfl⟩
  ·rintro e s r ⟨⟨rfl,⟨tg,c4,ht⟩,c5,hss⟩,hb⟩
   have hq:yJv ca t=([],5):=by unfold yJv; rw[hk,if_pos hb]; rfl
   simp(config:=zzC)only[go_sem,c4,c5,fits]
   exact yQ9 hss ⟨⟨_,by rw[hq],ht⟩,rfl⟩
theorem xJi {p:List Nat}{k a:Nat}(h:p[k]?=some a):(plI p)[k]?=some (.raw (.int .i64 (a:Int))):=by simp[plI,List.getElem?_map,h]
theorem zWv (p q:List Nat):plI (p++q)=plI p++plI q:=by simp[plI]
def sumN:List Nat→Nat
 | []=>0
 | a::l=>a+sumN l
theorem yUn:∀ l m:List Nat,sumN (l++m)=sumN l+sumN m
 | [],m=>by simp[sumN]
 | a::l,m=>by simp only[List.cons_append,sumN,yUn l m]; omega
theorem xUu (l:List Nat)(k:Nat):sumN (l.take k)≤sumN l:=by
 conv=>rhs; rw[← List.take_append_drop k l]
 rw[yUn]; omega
def maxN:List Nat→Nat
 | []=>0
 | a::l=>max a (maxN l)
theorem yUt:∀ l m:List Nat,maxN (l++m)=max (maxN l) (maxN m)
 | [],m=>by simp[maxN]
 | a::l,m=>by simp only[List.cons_append,maxN,yUt l m]; omega
theorem vXc (tg:Tag)(l:List Nat)(htg:okEs tg 1)(hs:sumN l≤4611686018427387904)(st:ISt):ICall prog gl 93 [.sl tg (plI l)] st (fun r st'=>r=.raw (.int .i64 (sumN l))∧st'=st):=by
 refine iI func93 rfl rfl (by kernel_rfl) ?_
 simp(config:=zzC)only[go_sem,yVk]
 intro _
 refine LoopC.ctr l.length (fun k fr st' ds=>fr 3=.iv (.raw (.int .i64 (sumN (l.take k))))∧fr 6=.iv (.sl tg (plI l))∧fr 7=.iv (.raw (.int .i64 l.length))∧fr 8=.iv (.raw (.int .i64 k))∧st'=st∧ds=[]) ?_ ?_ ?_
 ·simp(config:=zzC)only[go_sem]
  simp[sumN]
 ·rintro k fr st1 _ hlt ⟨f3,f6,f7,f8,rfl,rfl⟩
  obtain⟨a,ha⟩:=yQ3 hlt
  have h1:=xUu l (k+1)
  have h2:sumN (l.take (k+1))=sumN (l.take k)+a:=by rw[yQ4 ha,yUn]; rfl
  have h3:IntKind.i64.wrap (((sumN (l.take k):Nat):Int)+(a:Int))=((sumN (l.take (k+1)):Nat):Int):=by rw[w64]<;>omega
  simp(config:=zzC)only[go_sem,f3,f6,f7,f8,lt_i hlt,yQ2 htg,iNn,xJi ha,fits,h3,yQa hlt (show l.length≤281474976710656 by omega)]
 ·rintro fr st1 _ ⟨f3,f6,f7,f8,rfl,rfl⟩
  rw[lTl] at f3
  simp(config:=zzC)only[go_sem,f3,f6,f7,f8,yQm (nLi _)]
  exact yQ0 ⟨rfl,rfl⟩
theorem uJa (a b:Nat):max (a:Int) (b:Int)=((max a b:Nat):Int):=by omega
theorem uG6 (tg:Tag)(l:List Nat)(htg:okEs tg 1)(hl:0<l.length)(st:ISt):ICall prog gl 95 [.sl tg (plI l)] st (fun r st'=>r=.raw (.int .i64 (maxN l))∧st'=st):=by
 obtain⟨a0,ha0⟩:=yQ3 hl
 have d1:decide (((l.length:Nat):Int)<1)=false:=dEf (by omega)
 have t1:l.take 1=[a0]:=by
  have:=yQ4 ha0
  simpa using this
 refine iI func95 rfl rfl (by kernel_rfl) ?_
 simp(config:=zzC)only[go_sem,yVk]
 intro hlen
 simp(config:=zzC)only[go_sem,d1,yQ2 htg,Int.le_refl,Int.toNat_zero,xJi ha0,fits]
 refine LoopC.ctr (l.length - 1) (fun k fr st' ds=>fr 3=.iv (.raw (.int .i64 (maxN (l.take (k+1)))))∧fr 0=.iv (.sl tg (plI l))∧fr 4=.iv (.raw (.int .i64 ((k+1:Nat):Int)))∧st'=st∧ds=[]) ?_ ?_ ?_
 ·simp(config:=zzC)only[go_sem,t1]
  simp[maxN]
 ·rintro k fr st1 _ hlt ⟨f3,f0,f4,rfl,rfl⟩
  obtain⟨a,ha⟩:=yQ3 (l:=l) (k:=k+1) (by omega)
  have h2:maxN (l.take (k+1+1))=max (maxN (l.take (k+1))) a:=by rw[yQ4 ha,yUt]; simp[maxN]
  simp(config:=zzC)only[go_sem,f3,f0,f4,yVk,lt_i (show k+1<l.length by omega),yQ2 htg,iNn,xJi ha,fits,uJa,yQa (show k+1<l.length by omega) (show l.length≤281474976710656 by omega)]
  intro _
  rw[h2]
 ·rintro fr st1 _ ⟨f3,f0,f4,rfl,rfl⟩
  rw[show l.length - 1+1=l.length by omega] at f3 f4
  rw[lTl] at f3
  simp(config:=zzC)only[go_sem,f3,f0,f4,yVk,yQm (nLi _)]
  intro _
  exact yQ0 ⟨rfl,rfl⟩
def wJu:Tr→List Tr
 | .mk _ _ _ _ _ sub=>sub
def zYx (g:Nat)(v:Tr→Nat):Prop:=∀ (t:Tr) (l:List Nat) (x:IV) (tg:Tag) (st0 st:ISt),IsTr t x→t.steps≤1099511627776→l=(wJu t).map v→own st tg l.length 1 st0→subSt st0 st →
 ICall prog gl g [x,.sl tg (plI l)] st (fun r st'=>r=.raw (.int .i64 (v t))∧subSt st0 st')
theorem xQ7:∀ {l:List Tr}{t:Tr},t∈l→t.steps≤yQv l
 | a::l,t,h=>by
  simp only[yQv]
  rcases List.mem_cons.1 h with rfl | h
  ·omega
  ·have:=xQ7 h; omega
theorem yVz:∀ l:List Tr,l.length≤yQv l
 | []=>Nat.le_refl _
 | .mk _ _ _ _ _ s::l=>by
  have:=yVz l
  simp only[List.length_cons,yQv,Tr.steps]; omega
def wWe (v:Tr→Nat)(g:Nat)(t:Tr):Prop:=∀ (x:IV) (_:IsTr t x) (_:t.steps≤1099511627776) (st:ISt),ICall prog gl 91 [x,.fn (.func g) [] []] st (fun r st'=>r=.raw (.int .i64 (v t))∧st'=st)
theorem wX7 (v:Tr→Nat)(g:Nat)(hent:entI prog g=true)(hg:zYx gl g v)(rule:Nat)(sq:Sq)(f:Fm)(u:Tm)(n:ByteArray)(sub:List Tr)(IH:∀ a∈sub,wWe gl v g a):wWe gl v g (.mk rule sq f u n sub):=by
 intro x hx hs st
 have hx0:=hx
 obtain⟨tl,xl,tr,xr,op,fn,ta,xa,tb,xb,vb,un,tu,xu,ts,xs,rfl,hru,_,_,_,_,_,_,e3,i3⟩:=hx.mk
 have hs0:=hs
 simp only[Tr.steps] at hs
 have hll:=yVz sub
 refine iI func91 rfl rfl (by kernel_rfl) ?_
 simp(config:=zzC)only[go_sem,fits,i3.len]
 intro _
 refine LoopC.ctr sub.length (fun k fr st' ds=>(∃ tg',fr 5=.iv (.sl tg' (plI ((sub.take k).map v)))∧own st' tg' k 1 st∧subSt st st')∧fr 1=.iv (.fn (.func g) [] [])∧fr 2=.box [.raw (.int .u8 rule),.sl tl xl,.sl tr xr,.raw (.int .u8 op),.raw (.string fn),.sl ta xa,.sl tb xb,.raw (.bool vb),.raw (.string un),.sl tu xu,.raw (.string n),.sl ts xs] ∧
  fr 9=.iv (.sl ts xs)∧fr 10=.iv (.raw (.int .i64 sub.length))∧fr 11=.iv (.raw (.int .i64 k))∧ds=[]) ?_ ?_ ?_
 ·simp(config:=zzC)only[go_sem]
  exact⟨⟨_,rfl,.inl ⟨rfl,rfl⟩,subSt.refl _⟩,rfl⟩
 ·rintro k fr st1 _ hlt ⟨⟨tg',f5,hown,hsub⟩,f1,f2,f9,f10,f11,rfl⟩
  obtain⟨a,ha⟩:=yQ3 hlt
  obtain⟨z,hkz,hz⟩:=i3.get ha
  have hst:=xQ7 (lMg ha)
  have hcall:=IH a (lMg ha) z hz (by omega) st1
  obtain⟨rule',tl',xl',tr',xr',op',fn',ta',xa',tb',xb',v',un',tu',xu',n',ts',xs',rfl⟩:=yUm hz
  simp(config:=zzC)only[go_sem,f1,f2,f5,f9,f10,f11,lt_i hlt,yQ2 e3,iNn,hkz,fits]
  refine hcall.mono ?_
  rintro _ _ ⟨rfl,rfl⟩
  simp(config:=zzC)only[go_sem,f1,f2,f5,f9,f10,f11,fits,zKn]
  refine yX1 hown (by rw[yVk,List.length_map,List.length_take]; omega) hsub rfl (by simp[fits,IV.one]) (by simp only; omega) (by omega) fun tg2 st4 hown2 hsub4 _ _=>?_
  simp(config:=zzC)only[go_sem,f1,f2,f5,f9,f10,f11,fits,yQa hlt (show sub.length≤281474976710656 by omega)]
  exact⟨tg2,by rw[yQ4 ha,List.map_append,zWv]; rfl,hown2,hsub4⟩
 ·rintro fr st1 _ ⟨⟨tg',f5,hown,hsub⟩,f1,f2,f9,f10,f11,rfl⟩
  rw[lTl] at f5
  have hcall:=hg _ (sub.map v) _ tg' st st1 hx0 hs0 rfl (by rw[List.length_map]; exact hown) hsub
  simp(config:=zzC)only[go_sem,f1,f2,f5,f10,f11,yQm (nLi _),fits,hent]
  refine hcall.mono ?_
  rintro _ st2 ⟨rfl,hsub2⟩
  simp(config:=zzC)only[go_sem,fits]
  exact yQ9 hsub2 ⟨rfl,rfl⟩
theorem xWp (v:Tr→Nat)(g:Nat)(hent:entI prog g=true)(hg:zYx gl g v):∀ (k:Nat) (t:Tr),SizeOf.sizeOf t<k→wWe gl v g t
 | 0,t,h=>by omega
 | k+1,.mk r sq f u n sub,h=>wX7 gl v g hent hg r sq f u n sub (fun a ha=>xWp v g hent hg k a (by
   have:=lSm ha
   simp at h; omega))
theorem wX8 (v:Tr→Nat)(g:Nat)(hent:entI prog g=true)(hg:zYx gl g v)(t:Tr):wWe gl v g t:=xWp gl v g hent hg _ t (Nat.lt_succ_self _)
theorem zJt:∀ l:List Tr,sumN (l.map Tr.steps)=yQv l
 | []=>rfl
 | a::l=>by simp only[List.map_cons,sumN,yQv,zJt l]
theorem zG5:∀ l:List Tr,sumN (l.map Tr.cuts)=yGa l
 | []=>rfl
 | a::l=>by simp only[List.map_cons,sumN,yGa,zG5 l]
theorem zKe:∀ l:List Tr,maxN (l.map Tr.height)=yXo l
 | []=>rfl
 | a::l=>by simp only[List.map_cons,maxN,yXo,zKe l]
mutual
theorem vQ3:∀ t:Tr,t.cuts≤t.steps
 | .mk _ _ _ _ _ sub=>by
  have:=zZz sub
  simp only[Tr.cuts,Tr.steps]
  split<;>omega
theorem zZz:∀ l:List Tr,yGa l≤yQv l
 | []=>Nat.le_refl _
 | a::l=>by
  have:=vQ3 a
  have:=zZz l
  simp only[yGa,yQv]; omega
end
mutual
theorem wX1:∀ t:Tr,t.height≤t.steps
 | .mk _ _ _ _ _ sub=>by
  have:=yG7 sub
  simp only[Tr.height,Tr.steps]; omega
theorem yG7:∀ l:List Tr,yXo l≤yQv l
 | []=>Nat.le_refl _
 | a::l=>by
  have:=wX1 a
  have:=yG7 l
  simp only[yXo,yQv]; omega
end
theorem wX9:zYx gl 92 Tr.steps:=by
 rintro⟨rule,s,m,u,n,sub⟩ l x tg st0 st hx hs rfl hown hsub
 simp only[wJu] at hown ⊢
 simp only[Tr.steps] at hs
 have hsum:=fun st=>vXc gl tg (sub.map Tr.steps) hown.es (by rw[zJt]; omega) st
 have hw:IntKind.i64.wrap (1+((yQv sub:Nat):Int))=((1+yQv sub:Nat):Int):=by rw[w64]<;>omega
 rw[zJt] at hsum
 obtain⟨rule',tl',xl',tr',xr',op',fn',ta',xa',tb',xb',v',un',tu',xu',n',ts',xs',rfl⟩:=yUm hx
 refine iI func92 rfl rfl (by kernel_rfl) ?_
 simp(config:=zzC)only[go_sem,fits]
 refine (hsum _).mono ?_
 rintro _ _ ⟨rfl,rfl⟩
 simp(config:=zzC)only[go_sem,hw,fits]
 exact yQ0 ⟨by simp only[Tr.steps],hsub⟩
theorem wVc:zYx gl 96 Tr.cuts:=by
 rintro⟨rule,s,m,u,n,sub⟩ l x tg st0 st hx hs rfl hown hsub
 simp only[wJu] at hown ⊢
 simp only[Tr.steps] at hs
 have hcs:=zZz sub
 have hsum:=fun st=>vXc gl tg (sub.map Tr.cuts) hown.es (by rw[zG5]; omega) st
 have hw:IntKind.i64.wrap (1+((yGa sub:Nat):Int))=((1+yGa sub:Nat):Int):=by rw[w64]<;>omega
 rw[zG5] at hsum
 obtain⟨tl',xl',tr',xr',op',fn',ta',xa',tb',xb',v',un',tu',xu',ts',xs',rfl,_⟩:=hx.mk
 refine iI func96 rfl rfl (by kernel_rfl) ?_
 by_cases h:rule=17
 ·have d:decide ((rule:Int)=17)=true:=dEt (by omega)
  simp(config:=zzC)only[go_sem,fits,d]
  refine (hsum _).mono ?_
  rintro _ _ ⟨rfl,rfl⟩
  simp(config:=zzC)only[go_sem,hw,fits]
  exact yQ0 ⟨by simp only[Tr.cuts,if_pos h],hsub⟩
 ·have d:decide ((rule:Int)=17)=false:=dEf (by omega)
  simp(config:=zzC)only[go_sem,fits,d]
  refine (hsum _).mono ?_
  rintro _ _ ⟨rfl,rfl⟩
  simp(config:=zzC)only[go_sem,fits]
  exact yQ0 ⟨by simp only[Tr.cuts,if_neg h,Nat.zero_add],hsub⟩
theorem xGp:zYx gl 94 Tr.height:=by
 rintro⟨rule,s,m,u,n,sub⟩ l x tg st0 st hx hs rfl hown hsub
 simp only[wJu] at hown ⊢
 simp only[Tr.steps] at hs
 have hcs:=yG7 sub
 have hll:=yVz sub
 have hw:IntKind.i64.wrap (1+((yXo sub:Nat):Int))=((1+yXo sub:Nat):Int):=by rw[w64]<;>omega
 have hm:maxN (sub.map Tr.height++[0])=yXo sub:=by rw[yUt,zKe]; simp[maxN]
 obtain⟨rule',tl',xl',tr',xr',op',fn',ta',xa',tb',xb',v',un',tu',xu',n',ts',xs',rfl⟩:=yUm hx
 refine iI func94 rfl rfl (by kernel_rfl) ?_
 simp(config:=zzC)only[go_sem,fits,yQ1]
 refine yX1 hown (by rw[yVk]) hsub rfl (by simp[fits,IV.one]) (by simp only[List.length_map]; omega) (by simp only[List.length_map]; omega) fun tg2 st4 hown2 hsub4 _ _=>?_
 have hmax:=fun st=>uG6 gl tg2 (sub.map Tr.height++[0]) hown2.es (by simp) st
 rw[hm,zWv] at hmax
 simp(config:=zzC)only[go_sem,fits]
 refine (hmax _).mono ?_
 rintro _ _ ⟨rfl,rfl⟩
 simp(config:=zzC)only[go_sem,hw,fits]
 exact yQ0 ⟨by simp only[Tr.height],hsub4⟩
theorem vQj (t:Tr)(x:IV)(hx:IsTr t x)(hs:t.steps≤1099511627776)(st:ISt):ICall prog gl 41 [x] st (fun r st'=>r=.raw (.int .i64 (t.steps))∧st'=st):=by
 have hf:=fun st=>wX8 gl Tr.steps 92 (by simp only[go_sem]) (wX9 gl) t x hx hs st
 obtain⟨rule',tl',xl',tr',xr',op',fn',ta',xa',tb',xb',v',un',tu',xu',n',ts',xs',rfl⟩:=yUm hx
 refine iI func41 rfl rfl (by kernel_rfl) ?_
 simp(config:=zzC)only[go_sem,fits]
 refine (hf _).mono ?_
 rintro _ _ ⟨rfl,rfl⟩
 simp(config:=zzC)only[go_sem,fits]
 exact yQ0 ⟨rfl,rfl⟩
theorem wWd (t:Tr)(x:IV)(hx:IsTr t x)(hs:t.steps≤1099511627776)(st:ISt):ICall prog gl 42 [x] st (fun r st'=>r=.raw (.int .i64 (t.height))∧st'=st):=by
 have hf:=fun st=>wX8 gl Tr.height 94 (by simp only[go_sem]) (xGp gl) t x hx hs st
 obtain⟨rule',tl',xl',tr',xr',op',fn',ta',xa',tb',xb',v',un',tu',xu',n',ts',xs',rfl⟩:=yUm hx
 refine iI func42 rfl rfl (by kernel_rfl) ?_
 simp(config:=zzC)only[go_sem,fits]
 refine (hf _).mono ?_
 rintro _ _ ⟨rfl,rfl⟩
 simp(config:=zzC)only[go_sem,fits]
 exact yQ0 ⟨rfl,rfl⟩
theorem vV8 (t:Tr)(x:IV)(hx:IsTr t x)(hs:t.steps≤1099511627776)(st:ISt):ICall prog gl 43 [x] st (fun r st'=>r=.raw (.int .i64 (t.cuts))∧st'=st):=by
 have hf:=fun st=>wX8 gl Tr.cuts 96 (by simp only[go_sem]) (wVc gl) t x hx hs st
 obtain⟨rule',tl',xl',tr',xr',op',fn',ta',xa',tb',xb',v',un',tu',xu',n',ts',xs',rfl⟩:=yUm hx
 refine iI func43 rfl rfl (by kernel_rfl) ?_
 simp(config:=zzC)only[go_sem,fits]
 refine (hf _).mono ?_
 rintro _ _ ⟨rfl,rfl⟩
 simp(config:=zzC)only[go_sem,fits]
 exact yQ0 ⟨rfl,rfl⟩
mutual
def wTr:Tr→Nat
 | .mk _ s f u n sub=>wFms s.l+wFms s.r+wFm f+wTm u+n.size+wTrs sub
def wTrs:List Tr→Nat
 | []=>0
 | a::l=>wTr a+wTrs l
end
def xJp (s:Sq)(f:Fm)(u:Tm)(n:ByteArray):Bool:=decide (wFms s.l+wFms s.r≤300)&&!decide (300<wFm f)&&!decide (300<wTm u)&&!decide (100<n.size)
mutual
def okT:Tr→Bool
 | .mk _ s f u n sub=>xJp s f u n&&okTs sub
def okTs:List Tr→Bool
 | []=>true
 | a::l=>okT a&&okTs l
end
theorem yUs:∀ l m:List Tr,okTs (l++m)=(okTs l&&okTs m)
 | [],m=>by simp[okTs]
 | a::l,m=>by simp only[List.cons_append,okTs,yUs l m,Bool.and_assoc]
theorem wQx {l:List Tr}{k:Nat}{a:Tr}(h:l[k]?=some a):okTs (l.take (k+1))=(okTs (l.take k)&&okT a):=by
 rw[yQ4 h,yUs]; simp[okTs]
theorem wU7 (l:List Tr)(k:Nat)(h:okTs l=true):okTs (l.take k)=true:=by
 rw[← List.take_append_drop k l,yUs,bAt] at h
 exact h.1
theorem xXu {l:List Tr}{k:Nat}{a:Tr}(h:l[k]?=some a):yQv (l.take (k+1))=yQv (l.take k)+a.steps:=by
 rw[yQ4 h,yVh]; simp[yQv]
theorem xUw (l:List Tr)(k:Nat):yQv (l.take k)≤yQv l:=by
 conv=>rhs; rw[← List.take_append_drop k l]
 rw[yVh]; omega
theorem xKy:∀ {l:List Tr}{t:Tr},t∈l→wTr t≤wTrs l
 | a::l,t,h=>by
  simp only[wTrs]
  rcases List.mem_cons.1 h with rfl | h
  ·omega
  ·have:=xKy h; omega
theorem Sum.gt {w:Nat}{r:IV}(h:Sum w 300 r):∃ n:Nat,r=.raw (.int .i64 n)∧decide ((300:Int)<(n:Int))=decide (300<w):=by
 obtain⟨n,rfl,h1,h2⟩:=h
 refine⟨n,rfl,?_⟩
 rw[decide_eq_decide]
 constructor
 ·intro h; omega
 ·intro h
  rcases Int.lt_or_le 300 (n:Int) with hn | hn
  ·exact hn
  ·have:=h2 hn; omega
def Left (t:Tr)(left:Int)(r:Int):Prop:=-1≤r∧r≤left∧(0≤r↔okT t=true∧(t.steps:Int)≤left)∧(0≤r→r=left - t.steps)
def sC (t:Tr):Prop:=∀ (x:IV) (_:IsTr t x) (left:Int) (_:0≤left∧left≤1000) (_:wTr t≤1099511627776) (st:ISt),
 ICall prog gl 46 [x,.raw (.int .i64 left)] st (fun r st'=>(∃ n:Int,r=.raw (.int .i64 n)∧Left t left n)∧st'=st)
theorem xYl (rule:Nat)(s:Sq)(f:Fm)(u:Tm)(n:ByteArray)(sub:List Tr)(IH:∀ a∈sub,sC gl a):sC gl (.mk rule s f u n sub):=by
 intro x hx left hl hw st
 obtain⟨tl,xl,tr,xr,op,fn,ta,xa,tb,xb,v,un,tu,xu,ts,xs,rfl,hru,e1,i1,e2,i2,hy,hz,e3,i3⟩:=hx.mk
 simp only[wTr] at hw
 have hfew:=fun st=>uG7 gl s _ ⟨tl,xl,tr,xr,rfl,e1,i1,e2,i2⟩ ⟨by omega,by omega⟩ st
 have hsz:=fun st=>xJe gl [f] ⟨true,.full,4⟩ _ (.inr rfl) ⟨_,_,rfl,hy,rfl⟩ 300 ⟨by omega,by omega⟩ (by simp only[wFms]; omega) st
 have htm:=fun st=>xVn gl [u] ⟨true,.full,3⟩ _ (.inr rfl) ⟨_,_,rfl,hz,rfl⟩ 300 ⟨by omega,by omega⟩ (by simp only[wTms]; omega) st
 have hbad:xJp s f u n=false→Left (.mk rule s f u n sub) left (-1):=fun h=>by
  refine⟨by omega,by omega,⟨fun h=>by omega,fun h'=>?_⟩,fun h=>by omega⟩
  simp only[okT,h,Bool.false_and,bFt,false_and] at h'
 refine iI func46 rfl rfl (by kernel_rfl) ?_
 simp(config:=zzC)only[go_sem,fits]
 refine (hfew _).mono ?_
 rintro _ st ⟨rfl,rfl⟩
 unfold xJp at hbad
 cases q1:decide (wFms s.l+wFms s.r≤300)
 ·simp(config:=zzC)only[go_sem,fits,q1]
  exact yQ0 ⟨⟨-1,rfl,hbad (by rw[q1]; rfl)⟩,rfl⟩
 simp(config:=zzC)only[go_sem,fits,q1,yQ1]
 refine (hsz _).mono ?_
 rintro _ st ⟨hS,rfl⟩
 obtain⟨m,rfl,hd⟩:=hS.gt
 rw[show wFms [f]=wFm f from by simp[wFms]] at hd
 cases q2:decide (300<wFm f)
 case true =>
  rw[q2] at hd
  simp(config:=zzC)only[go_sem,fits,hd]
  exact yQ0 ⟨⟨-1,rfl,hbad (by rw[q1,q2]; rfl)⟩,rfl⟩
 rw[q2] at hd
 simp(config:=zzC)only[go_sem,fits,hd,yQ1]
 refine (htm _).mono ?_
 rintro _ st ⟨hS2,rfl⟩
 obtain⟨m2,rfl,hd2⟩:=hS2.gt
 rw[show wTms [u]=wTm u from by simp[wTms]] at hd2
 cases q3:decide (300<wTm u)
 case true =>
  rw[q3] at hd2
  simp(config:=zzC)only[go_sem,fits,hd2]
  exact yQ0 ⟨⟨-1,rfl,hbad (by rw[q1,q2,q3]; rfl)⟩,rfl⟩
 rw[q3] at hd2
 have hdn:decide ((100:Int)<((n.size:Nat):Int))=decide (100<n.size):=by rw[decide_eq_decide]; omega
 cases q4:decide (100<n.size)
 case true =>
  rw[q4] at hdn
  simp(config:=zzC)only[go_sem,fits,hd2,hdn]
  intro _
  exact yQ0 ⟨⟨-1,rfl,hbad (by rw[q1,q2,q3,q4]; rfl)⟩,rfl⟩
 rw[q4] at hdn
 have hnode:xJp s f u n=true:=by unfold xJp; rw[q1,q2,q3,q4]; rfl
 have wl:IntKind.i64.wrap (left - 1)=left - 1:=w64 (by omega) (by omega)
 simp(config:=zzC)only[go_sem,fits,hd2,hdn,wl]
 intro _
 refine LoopC.ctr sub.length (fun k fr st' ds=>(∃ l:Int,fr 1=.iv (.raw (.int .i64 l)) ∧ -1≤l∧l≤left - 1∧(0≤l↔okTs (sub.take k)=true∧((yQv (sub.take k):Nat):Int)+1≤left)∧(0≤l→l=left - 1 - (yQv (sub.take k):Nat))) ∧
  fr 2=.box [.raw (.int .u8 rule),.sl tl xl,.sl tr xr,.raw (.int .u8 op),.raw (.string fn),.sl ta xa,.sl tb xb,.raw (.bool v),.raw (.string un),.sl tu xu,.raw (.string n),.sl ts xs]∧fr 5=.iv (.raw (.int .i64 k))∧st'=st∧ds=[]) ?_ ?_ ?_
 ·simp(config:=zzC)only[go_sem]
  exact⟨⟨left - 1,rfl,by omega,by omega,⟨fun h=>⟨rfl,by simp only[yQv]; omega⟩,fun h=>by have:=h.2; simp only[yQv] at this; omega⟩,fun _=>by simp only[yQv]; omega⟩,rfl⟩
 ·rintro k fr st1 _ hlt ⟨⟨l,f1,hl1,hl2,hl3,hl4⟩,f2,f5,rfl,rfl⟩
  obtain⟨a,ha⟩:=yQ3 hlt
  obtain⟨z,hkz,hzz⟩:=i3.get ha
  have hoks:=wQx ha
  have hst:=xXu ha
  by_cases hle:(0:Int)≤l
  ·have hcall:=fun st=>IH a (lMg ha) z hzz l ⟨hle,by omega⟩ (by have:=xKy (lMg ha); omega) st
   obtain⟨rule',tl',xl',tr',xr',op',fn',ta',xa',tb',xb',v',un',tu',xu',n',ts',xs',rfl⟩:=yUm hzz
   simp(config:=zzC)only[go_sem,f1,f2,f5,i3.len,lt_i hlt,dEt hle,yQ2 e3,iNn,hkz,fits]
   intro _
   refine (hcall _).mono ?_
   rintro _ st2 ⟨⟨r,rfl,hr1,hr2,hr3,hr4⟩,rfl⟩
   simp(config:=zzC)only[go_sem,f1,f2,f5,fits,yQa hlt (show sub.length≤281474976710656 by omega)]
   have g3:=hl3.1 hle
   have g4:=hl4 hle
   refine⟨r,rfl,hr1,by omega,?_,fun h=>by have:=hr4 h; rw[hst]; omega⟩
   rw[hoks,hst,g3.1,Bool.true_and]
   constructor
   ·intro h
    have:=hr3.1 h
    exact⟨this.1,by omega⟩
   ·intro h
    exact hr3.2 ⟨h.1,by have:=h.2; omega⟩
  ·simp(config:=zzC)only[go_sem,f1,f2,f5,i3.len,lt_i hlt,dEf hle]
   intro _
   refine yQ0 ⟨⟨l,rfl,hl1,by omega,⟨fun h=>absurd h hle,fun h=>?_⟩,fun h=>absurd h hle⟩,rfl⟩
   have h1:=h.1
   have h2:=h.2
   simp only[okT,hnode,Bool.true_and] at h1
   simp only[Tr.steps] at h2
   have h3:=xUw sub k
   exact absurd (hl3.2 ⟨wU7 sub k h1,by omega⟩) hle
 ·rintro fr st1 _ ⟨⟨l,f1,hl1,hl2,hl3,hl4⟩,f2,f5,rfl,rfl⟩
  rw[lTl] at hl3 hl4
  simp(config:=zzC)only[go_sem,f1,f2,f5,i3.len,yQm (nLi _)]
  intro _
  refine yQ0 ⟨⟨l,rfl,hl1,by omega,?_,fun h=>by have:=hl4 h; simp only[Tr.steps]; omega⟩,rfl⟩
  simp only[okT,hnode,Bool.true_and,Tr.steps]
  constructor
  ·intro h
   have:=hl3.1 h
   exact⟨this.1,by omega⟩
  ·intro h
   exact hl3.2 ⟨h.1,by have:=h.2; omega⟩
theorem xQd:∀ (k:Nat)(t:Tr),SizeOf.sizeOf t<k→sC gl t
 | 0,t,h=>by omega
 | k+1,.mk r sq f u n sub,h=>xYl gl r sq f u n sub (fun a ha=>xQd k a (by
   have:=lSm ha
   simp at h; omega))
theorem wKe (t:Tr):sC gl t:=xQd gl _ t (Nat.lt_succ_self _)
theorem wW9 (t:Tr)(x:IV)(hx:IsTr t x)(hw:wTr t≤1099511627776)(st:ISt):ICall prog gl 12 [x] st (fun r st'=>r=.raw (.bool (okT t&&decide (t.steps≤60)))∧st'=st):=by
 have hs:=fun st=>wKe gl t x hx 60 ⟨by omega,by omega⟩ hw st
 obtain⟨rule',tl',xl',tr',xr',op',fn',ta',xa',tb',xb',v',un',tu',xu',n',ts',xs',rfl⟩:=yUm hx
 refine iI func12 rfl rfl (by kernel_rfl) ?_
 simp(config:=zzC)only[go_sem,fits]
 refine (hs _).mono ?_
 rintro _ st ⟨⟨r,rfl,h1,h2,h3,h4⟩,rfl⟩
 have hd:decide ((0:Int)≤r)=(okT t&&decide (t.steps≤60)):=by
  rw[Bool.eq_iff_iff,dTe,h3,bAt,dTe]
  constructor<;>intro h<;>exact⟨h.1,by have:=h.2; omega⟩
 simp(config:=zzC)only[go_sem,hd]
 exact yQ0 ⟨rfl,rfl⟩
end Go.Proofs.Tryz
namespace Go.Proofs.Tryz
open Go Go.Iv
set_option maxRecDepth 8000
theorem yKl {ca:Nat}{s:Sq}{rule:Nat}{main:Fm}{term:Tm}{name:ByteArray}{r:Rw}{ad:List Sq}(h1:yXl ca s=true)(h2:rowS ca rule=some r)(h3:yZm ca rule r main term name=(ad,0))
  (h4:r.left=true→hasF s.l main=true) (h5:r.right=true→hasF s.r main=true) (h6:r.asks≠2):yXe ca s rule main term name=(ad,0):=by
 unfold yXe
 rw[h1,h2]
 simp only[Bool.not_true,bFt,if_false,h3]
 obtain⟨rl,rr,op,asks⟩:=r
 simp only at h4 h5 h6 ⊢
 have e1:(rl&&!hasF s.l main)=false:=by
  cases rl
  ·rfl
  ·rw[h4 rfl]; rfl
 have e2:(rr&&!hasF s.r main)=false:=by
  cases rr
  ·rfl
  ·rw[h5 rfl]; rfl
 rw[e1,e2,dEf h6]
 rfl
theorem yJ0 {l:List Fm}{f:Fm}(h:f∈l)(hr:f.right=true):hasF l f=true:=xZo.2 ⟨f,h,xWz hr⟩
def zP:Fm:=.mk 1 ⟨#[80]⟩ [] []
def zQ:Fm:=.mk 1 ⟨#[81]⟩ [] []
def zI:Fm:=.mk 6 ⟨#[]⟩ [] [zP,zQ]
def tm0:Tm:=.mk false ⟨#[]⟩ []
def trP:Tr:=.mk 1 ⟨[zP,zI],[zP]⟩ zP tm0 ⟨#[]⟩ []
def trQ:Tr:=.mk 1 ⟨[zP,zQ],[zQ]⟩ zQ tm0 ⟨#[]⟩ []
def trA:Tr:=.mk 9 ⟨[zP,zI],[zQ]⟩ zI tm0 ⟨#[]⟩ [trP,trQ]
def row1:Rw:=⟨true,true,0,0⟩
def row9:Rw:=⟨true,false,6,0⟩
theorem yGu {f:Fm}(h:f.right=true):zZx [f]=true:=by simp[zZx,xWz h]
theorem zZg {s:Sq}(h:(decide (s.l.length≤64)&&decide (s.r.length≤64)&&s.l.all (fmB 1)&&s.r.all (fmB 1))=true):yXl 1 s=true:=by
 unfold yXl
 rw[show yX0 1=true from rfl,Bool.true_and,h]; rfl
theorem zG2 {s:Sq}(h:(decide (s.l.length≤64)&&decide (s.r.length≤64)&&s.l.all (fmB 2)&&s.r.all (fmB 2))=true)(h2:zZx s.r=true):yXl 2 s=true:=by
 unfold yXl
 rw[show yX0 2=true from rfl,Bool.true_and,h,h2]; rfl
theorem wGg:yXe 1 ⟨[zP,zI],[zP]⟩ 1 zP tm0 ⟨#[]⟩=([],0):=yKl (r:=row1) (zZg (by decide)) rfl (by rfl) (fun _=>yJ0 (by simp) (by decide)) (fun _=>yJ0 (by simp) (by decide)) (by decide)
theorem wGf:yXe 2 ⟨[zP,zI],[zP]⟩ 1 zP tm0 ⟨#[]⟩=([],0):=yKl (r:=row1) (zG2 (by decide) (yGu (by decide))) rfl (by rfl) (fun _=>yJ0 (by simp) (by decide)) (fun _=>yJ0 (by simp) (by decide)) (by decide)
theorem wGe:yXe 1 ⟨[zP,zQ],[zQ]⟩ 1 zQ tm0 ⟨#[]⟩=([],0):=yKl (r:=row1) (zZg (by decide)) rfl (by rfl) (fun _=>yJ0 (by simp) (by decide)) (fun _=>yJ0 (by simp) (by decide)) (by decide)
theorem wGd:yXe 2 ⟨[zP,zQ],[zQ]⟩ 1 zQ tm0 ⟨#[]⟩=([],0):=yKl (r:=row1) (zG2 (by decide) (yGu (by decide))) rfl (by rfl) (fun _=>yJ0 (by simp) (by decide)) (fun _=>yJ0 (by simp) (by decide)) (by decide)
theorem wGl:yXe 1 ⟨[zP,zI],[zQ]⟩ 9 zI tm0 ⟨#[]⟩=([⟨[],[zP]⟩,⟨[zQ],[]⟩],0):=yKl (r:=row9) (zZg (by decide)) rfl (by rfl) (fun _=>yJ0 (by simp) (by decide)) (fun h=>by cases h) (by decide)
theorem wGk:yXe 2 ⟨[zP,zI],[zQ]⟩ 9 zI tm0 ⟨#[]⟩=([⟨[],[zP]⟩,⟨[zQ],[]⟩],0):=yKl (r:=row9) (zG2 (by decide) (yGu (by decide))) rfl (by rfl) (fun _=>yJ0 (by simp) (by decide)) (fun h=>by cases h) (by decide)
theorem zQ4 {l m:List Fm}(h:∀ f∈l,f∈m∧f.right=true):allF l m=true:=List.all_eq_true.2 fun f hf=>yJ0 (h f hf).1 (h f hf).2
theorem yK9 {ca rule:Nat}{s:Sq}{main:Fm}{term:Tm}{name:ByteArray}{sub:List Tr}{ad:List Sq}(h:yXe ca s rule main term name=(ad,0))(hl:sub.length=ad.length)(hp:yK0 s ad sub=true):yJf ca (.mk rule s main term name sub)=0:=by
 simp only[yJf]
 rw[h]
 simp only[ne_eq,nTf,if_false,hl,hp,if_true]
theorem zZm:zP.right=true:=by decide
theorem wQi:zQ.right=true:=by decide
theorem wGv:zI.right=true:=by decide
theorem wQr:yK0 ⟨[zP,zI],[zQ]⟩ [⟨[],[zP]⟩,⟨[zQ],[]⟩] [trP,trQ]=true:=by
 have a1:allF [zP,zI] [zP,zI]=true:=zQ4 fun f hf=>by
  simp only[List.mem_cons,List.not_mem_nil,or_false] at hf
  rcases hf with rfl | rfl
  ·exact⟨by simp,zZm⟩
  ·exact⟨by simp,wGv⟩
 have a2:allF [zP] [zQ,zP]=true:=zQ4 fun f hf=>by
  simp only[List.mem_cons,List.not_mem_nil,or_false] at hf
  subst hf
  exact⟨by simp,zZm⟩
 have a3:allF [zP,zQ] [zP,zI,zQ]=true:=zQ4 fun f hf=>by
  simp only[List.mem_cons,List.not_mem_nil,or_false] at hf
  rcases hf with rfl | rfl
  ·exact⟨by simp,zZm⟩
  ·exact⟨by simp,wQi⟩
 have a4:allF [zQ] [zQ]=true:=zQ4 fun f hf=>by
  simp only[List.mem_cons,List.not_mem_nil,or_false] at hf
  subst hf
  exact⟨by simp,wQi⟩
 simp only[yK0,trP,trQ,Tr.sq,Sq.plus,yWs,List.append_nil,List.cons_append,List.nil_append,a1,a2,a3,a4,Bool.and_self]
theorem wVx:yJf 1 trA=0:=yK9 wGl rfl wQr
theorem wVw:yJf 2 trA=0:=yK9 wGk rfl wQr
theorem wVs:yJf 1 trP=0:=yK9 wGg rfl rfl
theorem wVr:yJf 2 trP=0:=yK9 wGf rfl rfl
theorem wVq:yJf 1 trQ=0:=yK9 wGe rfl rfl
theorem wVp:yJf 2 trQ=0:=yK9 wGd rfl rfl
theorem wWl:trA.walk []=[([],trA),([0],trP),([1],trQ)]:=rfl
theorem wWj:yJv 1 trA=([],0):=by
 unfold yJv
 rw[wWl]
 simp only[yX3,wVx,wVs,wVq,if_true]
 rfl
theorem wWi:yJv 2 trA=([],0):=by
 unfold yJv
 rw[wWl]
 simp only[yX3,wVw,wVr,wVp,if_true]
 rfl
theorem wGc:trA.steps=3:=rfl
theorem wV9:trA.height=2:=rfl
theorem vKk:trA.cuts=0:=rfl
def zN:Fm:=.mk 3 ⟨#[]⟩ [] [zP]
def zO:Fm:=.mk 5 ⟨#[]⟩ [] [zP,zN]
def trE1:Tr:=.mk 1 ⟨[zP],[zP]⟩ zP tm0 ⟨#[]⟩ []
def trE2:Tr:=.mk 4 ⟨[],[zP,zN]⟩ zN tm0 ⟨#[]⟩ [trE1]
def trE:Tr:=.mk 8 ⟨[],[zO]⟩ zO tm0 ⟨#[]⟩ [trE2]
theorem wGj:yXe 1 ⟨[zP],[zP]⟩ 1 zP tm0 ⟨#[]⟩=([],0):=yKl (r:=row1) (zZg (by decide)) rfl (by rfl) (fun _=>yJ0 (by simp) (by decide)) (fun _=>yJ0 (by simp) (by decide)) (by decide)
theorem wGi:yXe 1 ⟨[],[zP,zN]⟩ 4 zN tm0 ⟨#[]⟩=([⟨[zP],[]⟩],0):=yKl (r:=⟨false,true,3,0⟩) (zZg (by decide)) rfl (by rfl) (fun h=>by cases h) (fun _=>yJ0 (by simp) (by decide)) (by decide)
theorem vXf:yXe 1 ⟨[],[zO]⟩ 8 zO tm0 ⟨#[]⟩=([⟨[],[zP,zN]⟩],0):=yKl (r:=⟨false,true,5,0⟩) (zZg (by decide)) rfl (by rfl) (fun h=>by cases h) (fun _=>yJ0 (by simp) (by decide)) (by decide)
theorem wGh:yXe 2 ⟨[],[zO]⟩ 8 zO tm0 ⟨#[]⟩=([⟨[],[zP]⟩],0):=yKl (r:=⟨false,true,5,0⟩) (zG2 (by decide) (yGu (by decide))) rfl (by rfl) (fun h=>by cases h) (fun _=>yJ0 (by simp) (by decide)) (by decide)
theorem wGu:zN.right=true:=by decide
theorem vKz (l:List Fm):allF [zP,zN] (l++[zP,zN])=true:=zQ4 fun f hf=>by
 simp only[List.mem_cons,List.not_mem_nil,or_false] at hf
 rcases hf with rfl | rfl
 ·exact⟨by simp,zZm⟩
 ·exact⟨by simp,wGu⟩
theorem wVv:yJf 1 trE1=0:=yK9 wGj rfl rfl
theorem wVu:yJf 1 trE2=0:=yK9 wGi rfl (by
 have a1:allF [zP] [zP]=true:=zQ4 fun f hf=>by
  simp only[List.mem_cons,List.not_mem_nil,or_false] at hf
  subst hf
  exact⟨by simp,zZm⟩
 have a2:allF [zP] [zP,zN]=true:=zQ4 fun f hf=>by
  simp only[List.mem_cons,List.not_mem_nil,or_false] at hf
  subst hf
  exact⟨by simp,zZm⟩
 simp only[yK0,trE1,Tr.sq,Sq.plus,yWs,List.append_nil,List.nil_append,a1,a2,Bool.and_self])
theorem vQa:yJf 1 trE=0:=yK9 vXf rfl (by
 have a1:allF [] []=true:=rfl
 simp only[yK0,trE2,Tr.sq,Sq.plus,yWs,List.nil_append,a1,vKz [zO],Bool.and_self])
theorem wWk:trE.walk []=[([],trE),([0],trE2),([0,0],trE1)]:=rfl
theorem wWh:yJv 1 trE=([],0):=by
 unfold yJv
 rw[wWk]
 simp only[yX3,vQa,wVv,wVu,if_true]
 rfl
theorem wVt:yJf 2 trE=195:=by
 have h1:hasF [zO,zP] zN=false:=by
  simp[hasF,eqF,zN,zO,zP,Fm.op]
 have h2:yK0 ⟨[],[zO]⟩ [⟨[],[zP]⟩] [trE2]=false:=by
  have h3:allF [zP,zN] [zO,zP]=false:=List.all_eq_false.2 ⟨zN,by simp,by rw[h1]; simp⟩
  simp only[yK0,trE2,Tr.sq,Sq.plus,yWs,List.cons_append,List.nil_append,h3,Bool.and_false,Bool.false_and]
 unfold trE
 simp only[yJf]
 rw[wGh]
 simp only[h2]
 rfl
theorem wWg:yJv 2 trE=([],195):=by
 unfold yJv
 rw[wWk]
 simp only[yX3,wVt]
 rfl
theorem xV8 {ca:Nat}{s:Sq}{rule:Nat}{main:Fm}{term:Tm}{name:ByteArray}{r:Rw}{ad:List Sq}(h1:yXl ca s=true)(h2:rowS ca rule=some r)(h3:yZm ca rule r main term name=(ad,0))
  (h4:r.left=true→hasF s.l main=true) (h5:r.right=true→hasF s.r main=true) (h6:r.asks=2):yXe ca s rule main term name=if yVp s name then ([],193) else (ad,0):=by
 unfold yXe
 rw[h1,h2]
 simp only[Bool.not_true,bFt,if_false,h3]
 obtain⟨rl,rr,op,asks⟩:=r
 simp only at h4 h5 h6 ⊢
 have e1:(rl&&!hasF s.l main)=false:=by
  cases rl
  ·rfl
  ·rw[h4 rfl]; rfl
 have e2:(rr&&!hasF s.r main)=false:=by
  cases rr
  ·rfl
  ·rw[h5 rfl]; rfl
 rw[e1,e2,dEt h6,Bool.true_and]
 rfl
def qx:ByteArray:=⟨#[120]⟩
def qy:ByteArray:=⟨#[121]⟩
def qu:ByteArray:=⟨#[117]⟩
def zX:Fm:=.mk 8 qx [] [.mk 1 ⟨#[81]⟩ [.mk true qx []] []]
def zY:Fm:=.mk 9 qy [] [.mk 1 ⟨#[82]⟩ [.mk true qy [],.mk true qu []] []]
def zU:Fm:=.mk 1 ⟨#[81]⟩ [.mk true qu []] []
theorem wYr:yZm 3 14 ⟨false,true,8,2⟩ zX tm0 qu=([⟨[],[zU]⟩],0):=rfl
theorem xUj {s:Sq}(h:(decide (s.l.length≤64)&&decide (s.r.length≤64)&&s.l.all (fmB 3)&&s.r.all (fmB 3))=true):yXl 3 s=true:=by
 unfold yXl
 rw[show yX0 3=true from rfl,Bool.true_and,h]; rfl
theorem vVa:zUs 3 ⟨[zP],[zX]⟩ 14 zX tm0 qu=([⟨[zP],[zX,zU]⟩],0):=by
 have h:=xV8 (ca:=3) (s:=⟨[zP],[zX]⟩) (rule:=14) (main:=zX) (term:=tm0) (name:=qu) (xUj (by decide)) rfl wYr (fun h=>by cases h) (fun _=>yJ0 (by simp) (by decide)) rfl
 have hf:yVp ⟨[zP],[zX]⟩ qu=false:=by decide
 rw[hf] at h
 unfold zUs
 rw[h]
 rfl
theorem vV9:zUs 3 ⟨[zY],[zX]⟩ 14 zX tm0 qu=([],193):=by
 have h:=xV8 (ca:=3) (s:=⟨[zY],[zX]⟩) (rule:=14) (main:=zX) (term:=tm0) (name:=qu) (xUj (by decide)) rfl wYr (fun h=>by cases h) (fun _=>yJ0 (by simp) (by decide)) rfl
 have hf:yVp ⟨[zY],[zX]⟩ qu=true:=by decide
 rw[hf] at h
 unfold zUs
 rw[h]
 rfl
def zD:Fm:=.mk 4 ⟨#[]⟩ [] [zP,zQ]
theorem vJ1:zXu zP=zP:=rfl
theorem vJ2:zXu zD=zD:=rfl
theorem uG4:SetS ⟨[zD,zD,zP],[]⟩=(⟨[zP,zD],[]⟩,0):=by
 have hs:SetF [zD,zD,zP] [zP,zD]:=by
  refine⟨?_,fun f=>?_⟩
  ·refine List.pairwise_cons.2 ⟨fun f hf=>?_,List.pairwise_singleton ..⟩
   obtain rfl:=List.mem_singleton.1 hf
   simp[zP,zD,yXk,cmpN,lexI]
  ·simp only[List.mem_cons,List.not_mem_nil,or_false]
   constructor
   ·rintro (h | h)
    ·exact .inr (.inr h)
    ·exact .inl h
   ·rintro (h | h | h)
    ·exact .inr h
    ·exact .inr h
    ·exact .inl h
 have h1:yZz [zD,zD,zP]=([zP,zD],0):=by
  unfold yZz
  rw[show[zD,zD,zP].all Fm.right=true by decide]
  simp only[if_true,List.map_cons,List.map_nil,vJ1,vJ2,zK1 hs]
 have h2:yZz []=([],0):=by
  unfold yZz
  simp only[List.all_nil,if_true,List.map_nil,xVd]
 unfold SetS
 simp only[h1,h2,ne_eq,nTf,if_false]
end Go.Proofs.Tryz
namespace Go.Proofs.Tryz
open Go Go.Iv
set_option maxRecDepth 4000
def tagR:List Tr→Tag
 | []=>⟨true,.nil,0⟩
 | _::_=>⟨true,.full,12⟩
theorem wG9 (l:List Tr):okEs (tagR l) 12:=by cases l<;>simp[tagR,okEs]
mutual
def trI:Tr→IV
 | .mk rule s (.mk o fn us fs) (.mk v un ts) n sub=>.agg [.raw (.int .u8 rule),.sl (tagF s.l) (fmsI s.l),.sl (tagF s.r) (fmsI s.r),.raw (.int .u8 o),.raw (.string fn),.sl (tagT us) (tmsI us),.sl (tagF fs) (fmsI fs),.raw (.bool v),.raw (.string un),.sl (tagT ts) (tmsI ts),.raw (.string n),.sl (tagR sub) (trsI sub)]
def trsI:List Tr→List IV
 | []=>[]
 | a::l=>trI a::trsI l
end
mutual
def bytT:Tr→Bool
 | .mk rule s f _ _ sub=>decide (rule<256)&&zWz s.l&&zWz s.r&&wKn f&&wW0 sub
def wW0:List Tr→Bool
 | []=>true
 | a::l=>bytT a&&wW0 l
end
mutual
theorem xUo:∀ t:Tr,bytT t=true→IsTr t (trI t)
 | .mk rule s (.mk o fn us fs) (.mk v un ts) n sub,h=>by
  simp only[bytT,bAt,dTe] at h
  obtain⟨⟨⟨⟨h1,h2⟩,h3⟩,h4⟩,h5⟩:=h
  have hf:=xWr (.mk o fn us fs) h4
  have ht:=xV4 (.mk v un ts)
  simp only[fmI] at hf
  simp only[tmI] at ht
  simp only[IsTr]
  exact⟨tagF s.l,fmsI s.l,tagF s.r,fmsI s.r,o,fn,tagT us,tmsI us,tagF fs,fmsI fs,v,un,tagT ts,tmsI ts,tagR sub,trsI sub,by simp only[trI],h1,yKd _,yK6 _ h2,yKd _,yK6 _ h3,hf,ht,wG9 _,xUn sub h5⟩
theorem xUn:∀ l:List Tr,wW0 l=true→IsTrs l (trsI l)
 | [],_=>rfl
 | a::l,h=>by
  simp only[wW0,bAt] at h
  exact⟨_,_,by simp only[trsI],xUo a h.1,xUn l h.2⟩
end
def fitB (l:List Fm):Bool:=l.all fun f=>decide (f.size≤1000000)
theorem zWa {l:List Fm}(h:fitB l=true):fitL l:=fun g hg=>of_decide_eq_true (List.all_eq_true.1 h g hg)
def wZ1:Tr→Bool
 | .mk _ s m u _ sub=>fitB s.l&&fitB s.r&&decide (m.size≤1000000)&&decide (u.size≤1000000)&&sub.all fun a=>fitB a.sq.l&&fitB a.sq.r
theorem vJ3 {t:Tr}(h:wZ1 t=true):xW1 t:=by
 obtain⟨rule,s,m,u,n,sub⟩:=t
 simp only[wZ1,bAt,dTe,List.all_eq_true] at h
 obtain⟨⟨⟨⟨h1,h2⟩,h3⟩,h4⟩,h5⟩:=h
 exact⟨⟨zWa h1,zWa h2⟩,h3,h4,fun a ha=>⟨zWa (h5 a ha).1,zWa (h5 a ha).2⟩⟩
theorem wXe {t:Tr}(h:(t.walk []).all (fun q=>wZ1 q.2)=true)(hh:t.height≤1099511627776):wVe t:=⟨fun q hq=>vJ3 (List.all_eq_true.1 h q hq),hh⟩
theorem vKh:wVe trA:=wXe (by decide) (by decide)
theorem vKg:wVe trE:=wXe (by decide) (by decide)
theorem is_A:IsTr trA (trI trA):=xUo trA (by decide)
theorem is_E:IsTr trE (trI trE):=xUo trE (by decide)
end Go.Proofs.Tryz
namespace Go.Proofs.Tryz
open Go Go.Iv
set_option maxRecDepth 4000
variable (gl:Nat→Option IV)
theorem yQl (x y z:Operand):yJc 3 [(0,x),(1,y),(2,z)]=true:=rfl
theorem wKf (G:Gl gl)(T:Gt gl)(st:ISt):ICall prog gl 11 [] st (fun r st'=>r=.raw (.bool true)∧st'=st):=by
 have hA1:=fun st=>zUr gl G T 1 trA (trI trA) is_A vKh st
 have hA2:=fun st=>zUr gl G T 2 trA (trI trA) is_A vKh st
 have hE1:=fun st=>zUr gl G T 1 trE (trI trE) is_E vKg st
 have hE2:=fun st=>zUr gl G T 2 trE (trI trE) is_E vKg st
 simp only[wWj] at hA1
 simp only[wWi] at hA2
 simp only[wWh] at hE1
 simp only[wWg] at hE2
 refine ICall.intro (c:=cf prog gl [] [(2,[2,10,0,1,3,4,5,6,7,8,9,11]),(4,[0,2,9,10,11,13,1,3,4,5,6,7,8,12,14]),(9,[8,9,11,0,1,2,3,4,5,6,7,10,12]),(10,[0,1,2,5,6,8,3,4,7,9]),(18,[3,4,7,8,0,1,2,5,6,9,10,11,12,13,14]),(19,[0,1,3,4,7,8,2,5,6,9,10,11,12,13,14]),(21,[0,1,10,2,3,4,5,6,7,8,9,11,12]),(22,[0,1,2,3,4,5,6,7,8,9,10,14,15,11,12,13,16,17,18,19,20,21,22,23,24,25,26,27,28,29,30,31,32,33,35,34,36,37,38,39,40,41])]) func11 rfl (by show _≤241; simp) (by kernel_rfl) ?_
 simp(config:=zzC)only[go_sem,fits,yQh]
 repeat (first
  | (refine (q_p gl _ _ _ _).mono ?_; rintro _ st ⟨rfl,rfl⟩; simp(config:=zzC)only[go_sem,fits,yQ1,yQb,yQl,yQh,decide_true,fits])
  | (refine (q_no gl _ _ _ _ _ _ _).mono ?_; rintro _ st ⟨rfl,rfl⟩; simp(config:=zzC)only[go_sem,fits,yQ1,yQb,yQl,yQh,decide_true,fits])
  | (refine (xJf gl _ _ _ _ _ _ _ _ _ _ _ _ _ _).mono ?_; rintro _ st ⟨rfl,rfl⟩; simp(config:=zzC)only[go_sem,fits,yQ1,yQb,yQl,yQh,decide_true,fits])
  | (refine (q_fs gl _ _ _).mono ?_; rintro _ st ⟨rfl,rfl⟩; simp(config:=zzC)only[go_sem,fits,yQ1,yQb,yQl,yQh,decide_true,fits])
  | (refine (q_sq gl _ _ _ _ _).mono ?_; rintro _ st ⟨rfl,rfl⟩; simp(config:=zzC)only[go_sem,fits,yQ1,yQb,yQl,yQh,decide_true,fits])
  | (refine (q_v gl _ _).mono ?_; rintro _ st ⟨rfl,rfl⟩; simp(config:=zzC)only[go_sem,fits,yQ1,yQb,yQl,yQh,decide_true,fits]))
 refine (hA1 _).mono ?_
 rintro _ st ⟨⟨tg1,rfl,ht1⟩,rfl⟩
 simp(config:=zzC)only[go_sem,fits,yQh]
 refine (hA2 _).mono ?_
 rintro _ st ⟨⟨tg2,rfl,ht2⟩,rfl⟩
 simp(config:=zzC)only[go_sem,fits,yQh]
 repeat (first
  | (refine (q_p gl _ _ _ _).mono ?_; rintro _ st ⟨rfl,rfl⟩; simp(config:=zzC)only[go_sem,fits,yQ1,yQb,yQl,yQh,decide_true,fits])
  | (refine (q_no gl _ _ _ _ _ _ _).mono ?_; rintro _ st ⟨rfl,rfl⟩; simp(config:=zzC)only[go_sem,fits,yQ1,yQb,yQl,yQh,decide_true,fits])
  | (refine (xJf gl _ _ _ _ _ _ _ _ _ _ _ _ _ _).mono ?_; rintro _ st ⟨rfl,rfl⟩; simp(config:=zzC)only[go_sem,fits,yQ1,yQb,yQl,yQh,decide_true,fits])
  | (refine (q_fs gl _ _ _).mono ?_; rintro _ st ⟨rfl,rfl⟩; simp(config:=zzC)only[go_sem,fits,yQ1,yQb,yQl,yQh,decide_true,fits])
  | (refine (q_sq gl _ _ _ _ _).mono ?_; rintro _ st ⟨rfl,rfl⟩; simp(config:=zzC)only[go_sem,fits,yQ1,yQb,yQl,yQh,decide_true,fits])
  | (refine (q_v gl _ _).mono ?_; rintro _ st ⟨rfl,rfl⟩; simp(config:=zzC)only[go_sem,fits,yQ1,yQb,yQl,yQh,decide_true,fits]))
 refine (hE1 _).mono ?_
 rintro _ st ⟨⟨tg3,rfl,ht3⟩,rfl⟩
 simp(config:=zzC)only[go_sem,fits,yQh]
 refine (hE2 _).mono ?_
 rintro _ st ⟨⟨tg4,rfl,ht4⟩,rfl⟩
 have hz1:IntKind.i64.wrap (((0:Nat):Int)+((0:Nat):Int))=0:=rfl
 have hz2:IntKind.i64.wrap ((0:Int)+((0:Nat):Int))=0:=rfl
 have hz3:decide ((0:Int)=0)=true:=rfl
 have hz4:decide (((195:Nat):Int)=195)=true:=rfl
 have hz5:plI []=[]:=rfl
 have hS:=fun st=>vQj gl trA (trI trA) is_A (by decide) st
 have hH:=fun st=>wWd gl trA (trI trA) is_A (by decide) st
 have hC:=fun st=>vV8 gl trA (trI trA) is_A (by decide) st
 simp only[wGc] at hS
 simp only[wV9] at hH
 simp only[vKk] at hC
 simp(config:=zzC)only[go_sem,fits,yQh,hz1,hz2,hz3,hz4,hz5,decide_true,show decide (((0:Nat):Int)=0)=true from rfl]
 intros
 refine (hS _).mono ?_
 rintro _ st ⟨rfl,rfl⟩
 simp(config:=zzC)only[go_sem,fits,yQh,decide_true,show decide (((3:Nat):Int)=3)=true from rfl]
 refine (hH _).mono ?_
 rintro _ st ⟨rfl,rfl⟩
 simp(config:=zzC)only[go_sem,fits,yQh,decide_true,show decide (((2:Nat):Int)=2)=true from rfl]
 refine (hC _).mono ?_
 rintro _ st ⟨rfl,rfl⟩
 simp(config:=zzC)only[go_sem,fits,yQh,decide_true,show decide (((0:Nat):Int)=0)=true from rfl]
 repeat (first
  | (refine (q_p gl _ _ _ _).mono ?_; rintro _ st ⟨rfl,rfl⟩; simp(config:=zzC)only[go_sem,fits,yQ1,yQb,yQl,yQh,decide_true,fits])
  | (refine (q_no gl _ _ _ _ _ _ _).mono ?_; rintro _ st ⟨rfl,rfl⟩; simp(config:=zzC)only[go_sem,fits,yQ1,yQb,yQl,yQh,decide_true,fits])
  | (refine (xJf gl _ _ _ _ _ _ _ _ _ _ _ _ _ _).mono ?_; rintro _ st ⟨rfl,rfl⟩; simp(config:=zzC)only[go_sem,fits,yQ1,yQb,yQl,yQh,decide_true,fits])
  | (refine (q_fs gl _ _ _).mono ?_; rintro _ st ⟨rfl,rfl⟩; simp(config:=zzC)only[go_sem,fits,yQ1,yQb,yQl,yQh,decide_true,fits])
  | (refine (q_sq gl _ _ _ _ _).mono ?_; rintro _ st ⟨rfl,rfl⟩; simp(config:=zzC)only[go_sem,fits,yQ1,yQb,yQl,yQh,decide_true,fits])
  | (refine (q_v gl _ _).mono ?_; rintro _ st ⟨rfl,rfl⟩; simp(config:=zzC)only[go_sem,fits,yQ1,yQb,yQl,yQh,decide_true,fits]))
 have hB1:=fun st=>wYv gl G T 3 ⟨[zP],[zX]⟩ (.agg [.sl (tagF [zP]) (fmsI [zP]),.sl (tagF [zX]) (fmsI [zX])]) ⟨_,_,_,_,rfl,yKd _,yK6 _ (by decide),yKd _,yK6 _ (by decide)⟩ ⟨zWa (by decide),zWa (by decide)⟩ 14 zX (fmI zX) (xWr zX (by decide)) (by decide) tm0 (tmI tm0) (xV4 tm0) (by decide) qu st
 simp only[vVa] at hB1
 refine (hB1 _).mono ?_
 rintro _ st ⟨tg5,xs5,rfl,ht5,hx5,rfl⟩
 obtain⟨w5,_,rfl,hw5,rfl⟩:=hx5
 simp(config:=zzC)only[go_sem,fits,yQ1,yQh,decide_true]
 repeat (first
  | (refine (q_p gl _ _ _ _).mono ?_; rintro _ st ⟨rfl,rfl⟩; simp(config:=zzC)only[go_sem,fits,yQ1,yQb,yQl,yQh,decide_true,fits])
  | (refine (q_no gl _ _ _ _ _ _ _).mono ?_; rintro _ st ⟨rfl,rfl⟩; simp(config:=zzC)only[go_sem,fits,yQ1,yQb,yQl,yQh,decide_true,fits])
  | (refine (xJf gl _ _ _ _ _ _ _ _ _ _ _ _ _ _).mono ?_; rintro _ st ⟨rfl,rfl⟩; simp(config:=zzC)only[go_sem,fits,yQ1,yQb,yQl,yQh,decide_true,fits])
  | (refine (q_fs gl _ _ _).mono ?_; rintro _ st ⟨rfl,rfl⟩; simp(config:=zzC)only[go_sem,fits,yQ1,yQb,yQl,yQh,decide_true,fits])
  | (refine (q_sq gl _ _ _ _ _).mono ?_; rintro _ st ⟨rfl,rfl⟩; simp(config:=zzC)only[go_sem,fits,yQ1,yQb,yQl,yQh,decide_true,fits])
  | (refine (q_v gl _ _).mono ?_; rintro _ st ⟨rfl,rfl⟩; simp(config:=zzC)only[go_sem,fits,yQ1,yQb,yQl,yQh,decide_true,fits]))
 have hB2:=fun st=>wYv gl G T 3 ⟨[zY],[zX]⟩ (.agg [.sl (tagF [zY]) (fmsI [zY]),.sl (tagF [zX]) (fmsI [zX])]) ⟨_,_,_,_,rfl,yKd _,yK6 _ (by decide),yKd _,yK6 _ (by decide)⟩ ⟨zWa (by decide),zWa (by decide)⟩ 14 zX (fmI zX) (xWr zX (by decide)) (by decide) tm0 (tmI tm0) (xV4 tm0) (by decide) qu st
 simp only[vV9] at hB2
 refine (hB2 _).mono ?_
 rintro _ st ⟨tg6,xs6,rfl,ht6,hx6,rfl⟩
 simp(config:=zzC)only[go_sem,fits,yQ1,yQh,decide_true]
 repeat (first
  | (refine (q_p gl _ _ _ _).mono ?_; rintro _ st ⟨rfl,rfl⟩; simp(config:=zzC)only[go_sem,fits,yQ1,yQb,yQl,yQh,decide_true,fits])
  | (refine (q_no gl _ _ _ _ _ _ _).mono ?_; rintro _ st ⟨rfl,rfl⟩; simp(config:=zzC)only[go_sem,fits,yQ1,yQb,yQl,yQh,decide_true,fits])
  | (refine (xJf gl _ _ _ _ _ _ _ _ _ _ _ _ _ _).mono ?_; rintro _ st ⟨rfl,rfl⟩; simp(config:=zzC)only[go_sem,fits,yQ1,yQb,yQl,yQh,decide_true,fits])
  | (refine (q_fs gl _ _ _).mono ?_; rintro _ st ⟨rfl,rfl⟩; simp(config:=zzC)only[go_sem,fits,yQ1,yQb,yQl,yQh,decide_true,fits])
  | (refine (q_sq gl _ _ _ _ _).mono ?_; rintro _ st ⟨rfl,rfl⟩; simp(config:=zzC)only[go_sem,fits,yQ1,yQb,yQl,yQh,decide_true,fits])
  | (refine (q_v gl _ _).mono ?_; rintro _ st ⟨rfl,rfl⟩; simp(config:=zzC)only[go_sem,fits,yQ1,yQb,yQl,yQh,decide_true,fits]))
 have hD:=fun st=>uG3 gl G T ⟨[zD,zD,zP],[]⟩ (.agg [.sl (tagF [zD,zD,zP]) (fmsI [zD,zD,zP]),.sl (tagF []) (fmsI [])]) ⟨_,_,_,_,rfl,yKd _,yK6 _ (by decide),yKd _,yK6 _ (by decide)⟩ ⟨zWa (by decide),zWa (by decide)⟩ (by decide) st
 simp only[uG4] at hD
 refine (hD _).mono ?_
 rintro _ st ⟨⟨y,rfl,hy⟩,rfl⟩
 obtain⟨ty1,xy1,ty2,xy2,rfl,ey1,iy1,ey2,iy2⟩:=hy
 obtain⟨tw1,xw1,tw2,xw2,rfl,ew1,iw1,ew2,iw2⟩:=hw5
 have z1:decide (((1:Nat):Int)=1)=true:=rfl
 have z2:decide (((193:Nat):Int)=193)=true:=rfl
 have z3:decide (((0:Nat):Int)=0)=true:=rfl
 simp(config:=zzC)only[go_sem,fits,yQ1,yQh,decide_true,yQ2 ht5,Int.le_refl,Int.toNat_zero,z1,z2,z3]
 repeat (first
  | (refine (q_p gl _ _ _ _).mono ?_; rintro _ st ⟨rfl,rfl⟩; simp(config:=zzC)only[go_sem,fits,yQ1,yQb,yQl,yQh,decide_true,fits])
  | (refine (q_no gl _ _ _ _ _ _ _).mono ?_; rintro _ st ⟨rfl,rfl⟩; simp(config:=zzC)only[go_sem,fits,yQ1,yQb,yQl,yQh,decide_true,fits])
  | (refine (xJf gl _ _ _ _ _ _ _ _ _ _ _ _ _ _).mono ?_; rintro _ st ⟨rfl,rfl⟩; simp(config:=zzC)only[go_sem,fits,yQ1,yQb,yQl,yQh,decide_true,fits])
  | (refine (q_fs gl _ _ _).mono ?_; rintro _ st ⟨rfl,rfl⟩; simp(config:=zzC)only[go_sem,fits,yQ1,yQb,yQl,yQh,decide_true,fits])
  | (refine (q_sq gl _ _ _ _ _).mono ?_; rintro _ st ⟨rfl,rfl⟩; simp(config:=zzC)only[go_sem,fits,yQ1,yQb,yQl,yQh,decide_true,fits])
  | (refine (q_v gl _ _).mono ?_; rintro _ st ⟨rfl,rfl⟩; simp(config:=zzC)only[go_sem,fits,yQ1,yQb,yQl,yQh,decide_true,fits]))
 have hS1:=fun st=>yGs gl ⟨[zP],[zX,zU]⟩ ⟨[zP],[zX,zU]⟩ (.agg [.sl tw1 xw1,.sl tw2 xw2]) (.agg [.sl (tagF [zP]) (fmsI [zP]),.sl (tagF [zX,zU]) (fmsI [zX,zU])]) ⟨_,_,_,_,rfl,ew1,iw1,ew2,iw2⟩ ⟨_,_,_,_,rfl,yKd _,yK6 _ (by decide),yKd _,yK6 _ (by decide)⟩ st
 have hS2:=fun st=>yGs gl ⟨[zP,zD],[]⟩ ⟨[zP,zD],[]⟩ (.agg [.sl ty1 xy1,.sl ty2 xy2]) (.agg [.sl (tagF [zP,zD]) (fmsI [zP,zD]),.sl (tagF []) (fmsI [])]) ⟨_,_,_,_,rfl,ey1,iy1,ey2,iy2⟩ ⟨_,_,_,_,rfl,yKd _,yK6 _ (by decide),yKd _,yK6 _ (by decide)⟩ st
 refine (hS1 _).mono ?_
 rintro _ st ⟨rfl,rfl⟩
 simp(config:=zzC)only[go_sem,fits,yQ1,yQb,yQh,decide_true,show ∀ s:Sq,eqB s s=true from fun s=>yQn.2 rfl,z1,z2,z3]
 repeat (first
  | (refine (q_p gl _ _ _ _).mono ?_; rintro _ st ⟨rfl,rfl⟩; simp(config:=zzC)only[go_sem,fits,yQ1,yQb,yQl,yQh,decide_true,fits])
  | (refine (q_no gl _ _ _ _ _ _ _).mono ?_; rintro _ st ⟨rfl,rfl⟩; simp(config:=zzC)only[go_sem,fits,yQ1,yQb,yQl,yQh,decide_true,fits])
  | (refine (xJf gl _ _ _ _ _ _ _ _ _ _ _ _ _ _).mono ?_; rintro _ st ⟨rfl,rfl⟩; simp(config:=zzC)only[go_sem,fits,yQ1,yQb,yQl,yQh,decide_true,fits])
  | (refine (q_fs gl _ _ _).mono ?_; rintro _ st ⟨rfl,rfl⟩; simp(config:=zzC)only[go_sem,fits,yQ1,yQb,yQl,yQh,decide_true,fits])
  | (refine (q_sq gl _ _ _ _ _).mono ?_; rintro _ st ⟨rfl,rfl⟩; simp(config:=zzC)only[go_sem,fits,yQ1,yQb,yQl,yQh,decide_true,fits])
  | (refine (q_v gl _ _).mono ?_; rintro _ st ⟨rfl,rfl⟩; simp(config:=zzC)only[go_sem,fits,yQ1,yQb,yQl,yQh,decide_true,fits]))
 refine (hS2 _).mono ?_
 rintro _ st ⟨rfl,rfl⟩
 simp(config:=zzC)only[go_sem,fits,yQ1,yQb,yQh,decide_true,show ∀ s:Sq,eqB s s=true from fun s=>yQn.2 rfl,z1,z2,z3]
 exact yQ0 ⟨rfl,rfl⟩
end Go.Proofs.Tryz
namespace Go.Proofs.Tryz
open Go Go.Iv
mutual
theorem zQd:∀ t:Tm,t.size≤wTm t
 | .mk _ n us=>by have:=zJz us; simp only[wTm,Tm.size]; omega
theorem zJz:∀ l:List Tm,yQ8 l≤wTms l
 | []=>Nat.le_refl _
 | a::l=>by have:=zQd a; have:=zJz l; simp only[wTms,yQ8]; omega
end
mutual
theorem zJ1:∀ f:Fm,f.size≤wFm f
 | .mk _ n us sub=>by have:=zJz us; have:=yKn sub; simp only[wFm,Fm.size]; omega
theorem yKn:∀ l:List Fm,yQ7 l≤wFms l
 | []=>Nat.le_refl _
 | a::l=>by have:=zJ1 a; have:=yKn l; simp only[wFms,yQ7]; omega
end
theorem yKf {s:Sq}{f:Fm}{u:Tm}{n:ByteArray}(h:xJp s f u n=true):wFms s.l+wFms s.r≤300∧wFm f≤300∧wTm u≤300∧n.size≤100:=by
 unfold xJp at h
 simp only[bAt,dTe,Bool.not_eq_true',decide_eq_false_iff_not] at h
 omega
theorem zUd {s:Sq}(h:wFms s.l+wFms s.r≤300):yW9 s:=by
 have:=yKn s.l
 have:=yKn s.r
 exact⟨fun f hf=>by have:=yGm hf; omega,fun f hf=>by have:=yGm hf; omega⟩
theorem zGr:∀ {l:List Tr}{a:Tr},okTs l=true→a∈l→okT a=true
 | b::l,a,h,ha=>by
  simp only[okTs,bAt] at h
  rcases List.mem_cons.1 ha with rfl | ha
  ·exact h.1
  ·exact zGr h.2 ha
theorem wKp:∀ {t:Tr},okT t=true→xW1 t
 | .mk rule s m u n sub,h=>by
  simp only[okT,bAt] at h
  obtain⟨h1,h2,h3,_⟩:=yKf h.1
  have:=zJ1 m
  have:=zQd u
  refine⟨zUd h1,by omega,by omega,fun a ha=>?_⟩
  have:=zGr h.2 ha
  obtain⟨rule',s',m',u',n',sub'⟩:=a
  simp only[okT,bAt] at this
  exact zUd (yKf this.1).1
end Go.Proofs.Tryz
namespace Go.Proofs.Tryz
open Go Go.Iv
set_option maxRecDepth 4000
variable (gl:Nat→Option IV)
theorem Lents.nil (st:ISt):Lents st [] []:=rfl
theorem Lents.self {st:ISt}{y:IV}{ys xs:List IV}(h:Lents st ys xs):Lents st (y::ys) (y::xs):=⟨_,_,rfl,.inl rfl,h⟩
theorem Lents.lent {st:ISt}{y x0:IV}{ys xs:List IV}(ho:OI st y x0)(h:Lents st ys xs):Lents st (y::ys) (age x0::xs):=⟨_,_,rfl,.inr ⟨x0,ho,rfl⟩,h⟩
theorem _root_.Go.Iv.OI.sub {T st:ISt}{y x:IV}(h:OI T y x)(hs:subSt T st):OI st y x:=h.mono fun _ _ k=>hs _ _ k
variable {gl} in
theorem xZe {f:FuncId}{args args':List IV}{b:Bool}{st:ISt}(hf:flatSt st)(hl:Lents st args args')(h:∀ st,ICall prog gl f args' st (fun r st'=>r=.raw (.bool b)∧st'=st)) :
  ICall prog gl f args st (fun r st'=>r=.raw (.bool b)∧st'=st) :=
 (ICall.lent (K:=fun r=>r=.raw (.bool b)) (wZk hf) hl ((h (yWg st)).mono fun r st' k=>⟨k.2,by rw[k.1]; trivial,k.1⟩)).mono fun r st' k=>⟨k.2,k.1⟩
end Go.Proofs.Tryz
