/-  -/
import Derived.Test.YtebjhmlmdjnkgaaGreatDoorQB
set_option linter.all false
open Nat renaming reduceEqDiff → zE,reduceBEq → zB,reduceAdd → zA,reduceMul → zM,reduceSub → zS,reduceLeDiff → zL
namespace Go.Proofs.Tryz
open Go Go.Iv
set_option maxRecDepth 4000
variable (gl:Nat->Option IV)
def plI (p:List Nat):List IV:=p.map λ(i:Nat)=>.raw (.int .i64 (i:Int))
theorem yWj (p:List Nat):(plI p).length=p.length:=by simp[plI]
def emp:ISt:=λ_=>none
def PlV (p:List Nat)(a:IV)(e:ISt):Prop :=
 (∃t,a=.sl t []/\t.cap=.nil/\p=[]/\e=emp) \/
 ∃g cap cs,a=.raw (.slice (some ⟨g,0,none⟩) p.length cap)/\e=emp.put g (some (.box cs))/\p.length<=cap/\cap<=cs.length/\cs.take p.length=plI p
def lkW (w:IV->IV)(l:List (List Nat×Tr))(k:Nat)(zs:List IV)(e:ISt):Prop:=∃p t a x,l[k]?=some (p,t)/\IsTr t x/\PlV p a e/\zs=[a,w x]
abbrev lkT:=lkW .cptr
def xX6 (F b2 b3 b4:Nat):IV:=.fn (.func F) [] [.raw (.pointer (some ⟨b2,0,none⟩)),.raw (.pointer (some ⟨b3,0,none⟩)),.raw (.pointer (some ⟨b4,0,none⟩))]
def ownF (F b2 b3 b4:Nat)(fy a:IV):ISt:=((emp.put b2 (some (.box [fy]))).put b3 (some (.box [a]))).put b4 (some (.box [xX6 F b2 b3 b4]))
section
variable {F b2 b3 b4:Nat}{fy a:IV}
theorem wWf (h3:b2≠b3)(h4:b2≠b4):ownF F b2 b3 b4 fy a b2=some (.box [fy]):=by simp only[ownF,ISt.put_apply,if_neg h3,if_neg h4,if_true]
theorem yGh (h4:b3≠b4):ownF F b2 b3 b4 fy a b3=some (.box [a]):=by simp only[ownF,ISt.put_apply,if_neg h4,if_true]
theorem zUc:ownF F b2 b3 b4 fy a b4=some (.box [xX6 F b2 b3 b4]):=by simp only[ownF,ISt.put_apply,if_true]
theorem xK5 {c:Nat}(h2:c≠b2)(h3:c≠b3)(h4:c≠b4):ownF F b2 b3 b4 fy a c=none:=by simp only[ownF,ISt.put_apply,if_neg h2,if_neg h3,if_neg h4,emp]
theorem zZu {c:Nat}(a':IV):ownF F b2 b3 b4 fy a c=none↔ownF F b2 b3 b4 fy a' c=none:=by
 simp only[ownF,ISt.put_apply];by_cases h4:c=b4
 ·simp[h4]
 ·by_cases h3:c=b3
  ·subst h3;simp only[if_neg h4,if_true,reduceCtorEq]
  ·simp[h4,h3]
end
def xQq (F b2 b3 b4:Nat)(fy:IV)(p:List Nat)(s stt:ISt):Prop:=∃a e,PlV p a e/\disj s e/\disj (join s e) (ownF F b2 b3 b4 fy a)/\stt=join (join s e) (ownF F b2 b3 b4 fy a)
def FOkL (w:IV->IV)(y:IV)(I:Nat->ISt->Prop)(S:ISt->Prop)(k0:Nat)(l:List (List Nat×Tr)):Prop :=
 ∀i p t x a e stu,l[i]?=some (p,t)->IsTr t x->PlV p a e->disj stu e->I (k0+i) stu →
  ICallV prog gl y [a,w x] (join stu e) λr st'=>(r=.raw (.bool true)/\∃s1,I (k0+i+1) s1/\disj s1 e/\st'=join s1 e)\/(r=.raw (.bool false)/\S st')
section
variable {gl}{w:IV->IV}{y:IV}{I:Nat->ISt->Prop}{S:ISt->Prop}{k0:Nat}
theorem FOkL.left {l m:List (List Nat×Tr)}(h:FOkL gl w y I S k0 (l++m)):FOkL gl w y I S k0 l:=λi p t x a e stu hi =>
 h i p t x a e stu (by rw[List.getElem?_append_left (lGs hi).1];exact hi)
theorem FOkL.right {l m:List (List Nat×Tr)}(h:FOkL gl w y I S k0 (l++m)):FOkL gl w y I S (k0+l.length) m:=λi p t x a e stu hi hx hp hd hI=>by
 have:=h (l.length+i) p t x a e stu (by rw[List.getElem?_append_right (by omega)];simpa using hi) hx hp hd (by rw[<- Nat.add_assoc];exact hI);simpa only[Nat.add_assoc] using this
theorem FOkL.tail {z:List Nat×Tr}{m:List (List Nat×Tr)}(h:FOkL gl w y I S k0 (z::m)):FOkL gl w y I S (k0+1) m:=FOkL.right (l:=[z]) h
end
section
variable {F b2 b3 b4:Nat}{fy a a':IV}{p:List Nat}{s:ISt}{g:Nat}
theorem zWu {c:Nat}(h:c≠b3):ownF F b2 b3 b4 fy a c=ownF F b2 b3 b4 fy a' c:=by simp only[ownF,ISt.put_apply,if_neg h]
theorem xU2 {cs:List IV}(h34:b3≠b4)(hs:disj s (ownF F b2 b3 b4 fy a))(hg1:s g=none)(hg2:ownF F b2 b3 b4 fy a g=none)(hp:PlV p a' (emp.put g (some (.box cs)))) :
  xQq F b2 b3 b4 fy p s (((join s (ownF F b2 b3 b4 fy a)).put g (some (.box cs))).put b3 (some (.box [a']))):=by
 have hg3:ownF F b2 b3 b4 fy a' g=none:=(zZu a').1 hg2;refine⟨a',_,hp,λb hb=>?_,λb hb=>?_,?_⟩
 ·rw[ISt.put_apply] at hb;split at hb
  ·rename_i h;rw[h];exact hg1
  ·exact absurd rfl hb
 ·have hbg:b≠g:=by rintro rfl;exact hb hg3
  have he:(emp.put g (some (.box cs))) b=none:=by rw[ISt.put_apply,if_neg hbg];rfl
  rw[yQw he];exact hs b λh=>hb ((zZu a').1 h)
 ·funext c;by_cases h3:c=b3
  ·rw[ISt.put_apply,if_pos h3,h3,yQt (yGh h34)]
  ·rw[ISt.put_apply,if_neg h3,ISt.put_apply];by_cases hc:c=g
   ·rw[if_pos hc,hc,yQw hg3,yQt (ISt.put_same ..)]
   ·rw[if_neg hc];have he:(emp.put g (some (.box cs))) c=none:=by rw[ISt.put_apply,if_neg hc];rfl
    cases ho:ownF F b2 b3 b4 fy a c with
    | some o=>rw[yQt ho,yQt ((zWu h3).symm.trans ho)]
    | none=>rw[yQw ho,yQw ((zWu h3).symm.trans ho),yQw he]
theorem vQb {cs:List IV}(hd1:s g=none)(hd2:ownF F b2 b3 b4 fy a g=none):(join (join s (emp.put g (some (.box cs)))) (ownF F b2 b3 b4 fy a)).put g none=join s (ownF F b2 b3 b4 fy a):=by
 funext c;rw[ISt.put_apply];split
 ·rename_i h;rw[h,yQw hd2,hd1]
 ·rename_i h;have he:(emp.put g (some (.box cs))) c=none:=by rw[ISt.put_apply,if_neg h];rfl
  cases ho:ownF F b2 b3 b4 fy a c with
  | some o=>rw[yQt ho,yQt ho]
  | none=>rw[yQw ho,yQw ho,yQw he]
end
theorem PlV.cons {p:List Nat}{k:Nat}{a:IV}{e:ISt}(h:PlV (p++[k]) a e):∃g cap cs,a=.raw (.slice (some ⟨g,0,none⟩) (p.length+1) cap)/\e=emp.put g (some (.box cs))/\p.length+1<=cap/\cap<=cs.length/\cs.take p.length=plI p:=by
 rcases h with⟨t,_,_,h,_⟩|⟨g,cap,cs,rfl,rfl,h1,h2,h3⟩
 ·simp at h
 ·rw[lLa] at h1 h3 ⊢;refine⟨g,cap,cs,rfl,rfl,h1,h2,?_⟩;have:=congrArg (List.take p.length) h3;rw[List.take_take,show min p.length (p.length+[k].length)=p.length by omega] at this;rw[this];unfold plI;rw[List.map_append,List.take_left' (by simp)]
theorem wW0 {F b2 b3 b4:Nat}{fy a a':IV}{X:ISt}(h34:b3≠b4):(join X (ownF F b2 b3 b4 fy a)).put b3 (some (.box [a']))=join X (ownF F b2 b3 b4 fy a'):=by
 funext c;rw[ISt.put_apply];split
 ·rename_i h;rw[h,yQt (yGh h34)]
 ·rename_i h;cases ho:ownF F b2 b3 b4 fy a c with
  | some o=>rw[yQt ho,yQt ((zWu h).symm.trans ho)]
  | none=>rw[yQw ho,yQw ((zWu h).symm.trans ho)]
theorem zV2 {n m:Nat}(h:n+1<=m):yXu none (some ((n:Nat):Int)) m=some (0,n):=by
 simp only[yXu,Option.getD_none,Option.getD_some];rw[if_pos ⟨Int.le_refl _,by omega,by omega⟩];simp
theorem zVr:∀ {l:List Tr}{t:Tr},t∈l->t.height<=yJv l
 | a::l,t,h=>by
  simp only[yJv];rcases List.mem_cons.1 h with rfl|h
  ·omega
  ·have:=zVr h;omega
theorem zJm (x:Operand):yZk 1 [(0,x)]=true:=rfl
theorem yK8 (p:List Nat):∀(i:Nat) (l m:List Tr),yQs p i (l++m)=yQs p i l++yQs p (i+l.length) m
 | i,[],m=>by simp[yQs]
 | i,a::l,m=>by
  simp only[List.cons_append,yQs,yK8 p (i+1) l m,List.append_assoc,List.length_cons];rw[show i+1+l.length=i+(l.length+1) by omega]
def FF (t:Tr):Prop:=∀(x:IV) (_:IsTr t x) (b2 b3 b4:Nat) (_:b2≠b3) (_:b2≠b4) (_:b3≠b4) (g:Fn) (fi ca:List IV) (_:fnOk g=true) (_:∀i,g=.func i->entI prog i=true) (I:Nat->ISt->Prop) (S:ISt->Prop) (k0:Nat) (p:List Nat)
  (_:FOkL gl .cptr (.fn g fi ca) I S k0 (t.walk p)) (_:p.length+t.height<=1099511627776) (s stt:ISt) (_:I k0 s) (_:xQq 182 b2 b3 b4 (.fn g fi ca) p s stt),
  ICall prog gl 182 [.cptr x,.raw (.pointer (some ⟨b2,0,none⟩)),.raw (.pointer (some ⟨b3,0,none⟩)),.raw (.pointer (some ⟨b4,0,none⟩))] stt
   (λr st'=>(r=.raw (.bool true)/\∃s1,I (k0+(t.walk p).length) s1/\xQq 182 b2 b3 b4 (.fn g fi ca) p s1 st')\/(r=.raw (.bool false)/\∃s1,S s1/\subSt s1 st'))
theorem wQs (rule:Nat)(sq:Sq)(f:Fm)(u:Tm)(n:ByteArray)(sub:List Tr)(IH:∀a∈sub,FF gl a):FF gl (.mk rule sq f u n sub):=by
 intro x hx b2 b3 b4 h23 h24 h34 g fi ca hfn hent I S k0 p hy hdeep s stt hI hst;have hx0:=hx;obtain⟨tl,xl,tr,xr,op,fn,ta,xa,tb,xb,v,un,tu,xu,ts,xs,hxe,hru,_,_,_,_,_,_,e3,i3⟩:=hx.mk;obtain⟨a,e,hp,hd1,hd2,rfl⟩:=hst;simp only[Tr.walk] at hy ⊢;have hhead:=hy 0 p _ _ a e s rfl hx0 hp hd1 hI;have hy':=FOkL.tail hy;have r2:join (join s e) (ownF 182 b2 b3 b4 (.fn g fi ca) a) b2=some (.box [.fn g fi ca]):=yQt (wWf h23 h24);have r3:join (join s e) (ownF 182 b2 b3 b4 (.fn g fi ca) a) b3=some (.box [a]):=yQt (yGh h34);refine ICall.intro (c:=cf prog gl [23,24] []) func182 rfl (by show _<=39;simp) (by kernel_rfl) ?_;have hiv:ivOf (.iv a)=some a:=by rcases hp with⟨t,rfl,_⟩|⟨g,cap,cs,rfl,_⟩<;>rfl
 rw[hxe] at hhead;simp only[go_sem,zE,reduceCtorEq,r2,r3,hiv,hxe];refine yYu hent (hhead.frame hd2 |>.mono ?_);rintro r stt ⟨s2,hd3,rfl,(⟨rfl,s3,hI3,hd4,rfl⟩|⟨rfl,hS⟩)⟩
 ·simp only[go_sem,reduceCtorEq,i3.len];intro hlen;refine LoopC.ctr sub.length (λk fr st' ds=>(∃s,I (k0+1+(yQs p 0 (sub.take k)).length) s/\xQq 182 b2 b3 b4 (.fn g fi ca) p s st')/\fr 0=.iv (.cptr x)/\fr 1=.iv (.raw (.pointer (some ⟨b2,0,none⟩)))/\fr 2=.iv (.raw (.pointer (some ⟨b3,0,none⟩)))/\fr 3=.iv (.raw (.pointer (some ⟨b4,0,none⟩)))/\fr 16=.iv (.raw (.int .i64 sub.length))/\fr 17=.iv (.raw (.int .i64 k))/\ds=[]) ?_ ?_ ?_
  ·simp only[go_sem,zE,reduceCtorEq,hxe];exact⟨⟨s3,by simpa[yQs] using hI3,a,e,hp,hd4,hd3,rfl⟩,rfl⟩
  ·rintro k fr st1 _ hlt ⟨⟨s,hI,a,e,hp,hd1,hd2,rfl⟩,f0,f1,f2,f3,f16,f17,rfl⟩;rw[hxe] at f0;obtain⟨t,ht⟩:=yQ3 hlt;obtain⟨z,hkz,hz⟩:=i3.get ht;have r3:join (join s e) (ownF 182 b2 b3 b4 (.fn g fi ca) a) b3=some (.box [a]):=yQt (yGh h34);have hth:=zVr (lMg ht);simp only[Tr.height] at hdeep;have hsplit:yQs p 0 sub=yQs p 0 (sub.take k)++(t.walk (p++[k])++yQs p (k+1) (sub.drop (k+1))):=by
    conv=>lhs;rw[<- List.take_append_drop k sub,List.drop_eq_getElem_cons hlt]
    rw[yK8,(lGs ht).2,show (sub.take k).length=k by rw[List.length_take];omega];simp only[yQs,Nat.zero_add]
   have hya:=hy';rw[hsplit] at hya;have hcall:=λstt hF=>IH t (lMg ht) z hz b2 b3 b4 h23 h24 h34 g fi ca hfn hent I S _ (p++[k]) (FOkL.left (FOkL.right hya)) (by rw[lLa];simp only[List.length_singleton];omega) s stt hI hF;have wcut:IntKind.i64.wrap (((p.length+1:Nat):Int)-1)=(p.length:Nat):=by rw[w64 (by omega) (by omega)];omega
   have hz':∃c0 c1 c2 c3 c4 c5 c6 c7 c8 c9 c10 c11,z=.agg [c0,c1,c2,c3,c4,c5,c6,c7,c8,c9,c10,c11]:=by
    obtain⟨r',s',m',t',n',b'⟩:=t;obtain⟨tl',xl',tr',xr',op',fn',ta',xa',tb',xb',v',un',tu',xu',ts',xs',rfl,_⟩:=hz.mk;exact⟨_,_,_,_,_,_,_,_,_,_,_,_,rfl⟩
   obtain⟨c0,c1,c2,c3,c4,c5,c6,c7,c8,c9,c10,c11,rfl⟩:=hz';rcases hp with⟨t0,rfl,hta,hp0,rfl⟩|⟨g',cap,cs,rfl,rfl,hc1,hc2,hc3⟩
   ·obtain⟨fs,c,es⟩:=t0;obtain rfl:c=.nil:=hta;have hje:join s emp=s:=rfl;rw[hje] at r3 hd2 ⊢;simp only[go_sem,zE,zA,zM,zL,reduceCtorEq,f0,f2,f3,f16,f17,lt_i hlt,r3,hxe,zJm];intro g' cap;refine yQf λhg=>?_;obtain⟨hg,hcap⟩:=hg;change join s (ownF 182 b2 b3 b4 (.fn g fi ca) (.sl ⟨fs,.nil,es⟩ [])) g'=none at hg;have hd2':disj s (ownF 182 b2 b3 b4 (.fn g fi ca) (.sl ⟨fs,.nil,es⟩ [])):=hd2;have hg2:ownF 182 b2 b3 b4 (.fn g fi ca) (.sl ⟨fs,.nil,es⟩ []) g'=none:=by
     cases ho:ownF 182 b2 b3 b4 (.fn g fi ca) (.sl ⟨fs,.nil,es⟩ []) g' with
     | none=>rfl
     | some o=>rw[yQt ho] at hg;cases hg
    have hg1:s g'=none:=by rw[<- yQw (stu:=s) hg2];exact hg
    have hb3:b3≠g':=by rintro rfl;rw[yGh h34] at hg2;cases hg2
    have hF:=xU2 (fy:=.fn g fi ca) (p:=p++[k]) (a':=.raw (.slice (some ⟨g',0,none⟩) 1 cap)) (cs:=.raw (.int .i64 k)::List.replicate (cap-1) .junk) h34 hd2' hg1 hg2 (.inr ⟨g',cap,_,by rw[hp0];rfl,rfl,by simpa[hp0] using hcap,by simp;omega,by simp[plI,hp0]⟩);have hb4:b4≠g':=by rintro rfl;rw[zUc] at hg2;cases hg2
    have r3':∀o,((join s (ownF 182 b2 b3 b4 (.fn g fi ca) (.sl ⟨fs,.nil,es⟩ []))).put g' o) b3=some (.box [.sl ⟨fs,.nil,es⟩ []]):=λo=>by rw[ISt.put_apply,if_neg hb3];exact r3
    have r4':∀o o',(((join s (ownF 182 b2 b3 b4 (.fn g fi ca) (.sl ⟨fs,.nil,es⟩ []))).put g' o).put b3 o') b4=some (.box [xX6 182 b2 b3 b4]):=λo o'=>by rw[ISt.put_apply,if_neg h34.symm,ISt.put_apply,if_neg hb4];exact yQt zUc
    simp only[go_sem,zL,IV.one,List.flatMap_cons,List.flatMap_nil,IV.cells,Nat.mul_one,r3',r4',hkz,yQ2 e3,iNn,xX6];refine (hcall _ hF).mono ?_;rintro _ st2 (⟨rfl,s1,hI1,hF1⟩|⟨rfl,s1,hS1,hsub1⟩)
    ·obtain⟨a2,e2,hp2,hd5,hd6,rfl⟩:=hF1;obtain⟨g3,cap3,cs3,rfl,rfl,hc4,hc5,hc6⟩:=hp2.cons;have r6:join (join s1 (emp.put g3 (some (.box cs3)))) (ownF 182 b2 b3 b4 (.fn g fi ca) (.raw (.slice (some ⟨g3,0,none⟩) (p.length+1) cap3))) b3=some (.box [.raw (.slice (some ⟨g3,0,none⟩) (p.length+1) cap3)]):=yQt (yGh h34);simp only[go_sem,zE,zL,reduceCtorEq,IV.one,r6,f0,f1,f2,f3,f16,f17,wcut,zV2 hc4,ite_self,Nat.zero_mul,hc4,yQa hlt (show sub.length<=281474976710656 by omega)];refine⟨s1,?_,?_⟩
     ·rw[yQ8 ht,yK8,lLa,show (sub.take k).length=k by rw[List.length_take];omega];simp only[yQs,List.append_nil,Nat.zero_add];rw[<- Nat.add_assoc];exact hI1
     ·rw[wW0 h34];exact⟨_,_,.inr ⟨g3,cap3,cs3,rfl,rfl,by omega,hc5,hc6⟩,hd5,λb hb=>hd6 b λh=>hb ((zZu _).1 h),rfl⟩
    ·simp only[go_sem];exact yQ0 (.inr ⟨rfl,s1,hS1,hsub1⟩)
   ·have ho:ownF 182 b2 b3 b4 (.fn g fi ca) (.raw (.slice (some ⟨g',0,none⟩) p.length cap)) g'=none:=by
     cases ho:ownF 182 b2 b3 b4 (.fn g fi ca) (.raw (.slice (some ⟨g',0,none⟩) p.length cap)) g' with
     | none=>rfl
     | some o =>
      have:=hd2 g' (by rw[ho];simp);rw[yQt (ISt.put_same ..)] at this;cases this
    have hs1:s g'=none:=hd1 g' (by rw[ISt.put_same];simp);have r5:join (join s (emp.put g' (some (.box cs)))) (ownF 182 b2 b3 b4 (.fn g fi ca) (.raw (.slice (some ⟨g',0,none⟩) p.length cap))) g'=some (.box cs):=by
     rw[yQw ho,yQt (ISt.put_same ..)]
    simp only[go_sem,zE,zA,zM,zL,f2,f16,f17,lt_i hlt,r3,hxe,zJm];refine yKy _ _ _ r5 (by simp[fits,IV.one]) ⟨by show (_+1)*8<=_;omega,by show _+1<=_;omega⟩ ⟨hc1,by show _*1<=_;omega⟩ (by simp[IV.cells]) ?_;intro g2 cap2 cs2 hg2 k1 k2 k3;rw[vQb hs1 ho];have hgo:s g2=none/\ownF 182 b2 b3 b4 (.fn g fi ca) (.raw (.slice (some ⟨g',0,none⟩) p.length cap)) g2=none:=by
     rcases hg2 with rfl|hg2
     ·exact⟨hs1,ho⟩
     ·cases hq:ownF 182 b2 b3 b4 (.fn g fi ca) (.raw (.slice (some ⟨g',0,none⟩) p.length cap)) g2 with
      | some o=>rw[yQt hq] at hg2;cases hg2
      | none =>
       rw[yQw hq] at hg2;refine⟨?_,rfl⟩;cases hz:s g2 with
       | none=>rfl
       | some o=>rw[yJh hd1 g2 o hz] at hg2;cases hg2
    have hs2:disj s (ownF 182 b2 b3 b4 (.fn g fi ca) (.raw (.slice (some ⟨g',0,none⟩) p.length cap))):=λb hb=>by
     have:=hd2 b hb;cases hz:s b with
     | none=>rfl
     | some o=>rw[yJh hd1 b o hz] at this;cases this
    have hF:=xU2 (fy:=.fn g fi ca) (p:=p++[k]) (a':=.raw (.slice (some ⟨g2,0,none⟩) (p.length+1) cap2)) (cs:=cs2) h34 hs2 hgo.1 hgo.2 (.inr ⟨g2,cap2,cs2,by simp,rfl,by simpa using k1,by simpa using k2,by
     simp only[Nat.mul_one] at k3;rw[lLa];exact k3.trans (by rw[hc3];simp[plI,IV.cells])⟩)
    have hb3:b3≠g2:=by rintro rfl;have:=hgo.2;rw[yGh h34] at this;cases this
    have hb4:b4≠g2:=by rintro rfl;have:=hgo.2;rw[zUc] at this;cases this
    have r3':∀o,((join s (ownF 182 b2 b3 b4 (.fn g fi ca) (.raw (.slice (some ⟨g',0,none⟩) p.length cap)))).put g2 o) b3=some (.box [.raw (.slice (some ⟨g',0,none⟩) p.length cap)]):=λo=>by rw[ISt.put_apply,if_neg hb3];exact yQt (yGh h34)
    have r4':∀o o',(((join s (ownF 182 b2 b3 b4 (.fn g fi ca) (.raw (.slice (some ⟨g',0,none⟩) p.length cap)))).put g2 o).put b3 o') b4=some (.box [xX6 182 b2 b3 b4]):=λo o'=>by rw[ISt.put_apply,if_neg h34.symm,ISt.put_apply,if_neg hb4];exact yQt zUc
    simp only[go_sem,zE,zL,reduceCtorEq,IV.one,IV.cells,r3',r4',f0,f2,f3,hkz,yQ2 e3,iNn,fits,xX6];refine (hcall _ hF).mono ?_;rintro _ st2 (⟨rfl,s1,hI1,hF1⟩|⟨rfl,s1,hS1,hsub1⟩)
    ·obtain⟨a2,e2,hp2,hd5,hd6,rfl⟩:=hF1;obtain⟨g3,cap3,cs3,rfl,rfl,hc4,hc5,hc6⟩:=hp2.cons;have r6:join (join s1 (emp.put g3 (some (.box cs3)))) (ownF 182 b2 b3 b4 (.fn g fi ca) (.raw (.slice (some ⟨g3,0,none⟩) (p.length+1) cap3))) b3=some (.box [.raw (.slice (some ⟨g3,0,none⟩) (p.length+1) cap3)]):=yQt (yGh h34);simp only[go_sem,zE,zL,reduceCtorEq,IV.one,r6,f0,f1,f2,f3,f16,f17,wcut,zV2 hc4,ite_self,Nat.zero_mul,hc4,yQa hlt (show sub.length<=281474976710656 by omega)];refine⟨s1,?_,?_⟩
     ·rw[yQ8 ht,yK8,lLa,show (sub.take k).length=k by rw[List.length_take];omega];simp only[yQs,List.append_nil,Nat.zero_add];rw[<- Nat.add_assoc];exact hI1
     ·rw[wW0 h34];exact⟨_,_,.inr ⟨g3,cap3,cs3,rfl,rfl,by omega,hc5,hc6⟩,hd5,λb hb=>hd6 b λh=>hb ((zZu _).1 h),rfl⟩
    ·simp only[go_sem];exact yQ0 (.inr ⟨rfl,s1,hS1,hsub1⟩)
  ·rintro fr st1 _ ⟨⟨s,hI,hF⟩,f0,f1,f2,f3,f16,f17,rfl⟩;rw[lTl] at hI;simp only[go_sem,f16,f17,yQk (nLi _)];refine yQ0 (.inl ⟨rfl,s,?_,hF⟩);rw[show k0+((yQs p 0 sub).length+1)=k0+1+(yQs p 0 sub).length by omega];exact hI
 ·simp only[go_sem];exact yQ0 (.inr ⟨rfl,s2,hS,yJh hd3⟩)
theorem xV4:∀(k:Nat)(t:Tr),SizeOf.sizeOf t<k->FF gl t
 | 0,t,h=>by omega
 | k+1,.mk r sq f u n sub,h=>wQs gl r sq f u n sub (λa ha=>xV4 k a (by
   have:=lSm ha;simp at h;omega))
theorem vKd (t:Tr):FF gl t:=xV4 gl _ t (Nat.lt_succ_self _)
theorem wXt (t:Tr)(x:IV)(hx:IsTr t x)(hd:t.height<=1099511627776)(I:Nat->ISt->Prop):IterL prog gl 181 [] [.cptr (.cptr x)] (lkT (t.walk [])) (t.walk []).length I:=by
 rintro y I' S' st ⟨g,fi,ca,rfl,hfn,hent⟩ _ hy h0;have hfrom:=vKd gl t x hx;have hok:FOkL gl .cptr (.fn g fi ca) I' S' 0 (t.walk []):=λi p t x a e stu hi ht hp hdj hI=>by
  rw[Nat.zero_add] at hI ⊢;exact hy i [a,.cptr x] e stu ⟨p,t,a,x,hi,ht,hp,rfl⟩ hdj hI
 have hz':∃c0 c1 c2 c3 c4 c5 c6 c7 c8 c9 c10 c11,x=.agg [c0,c1,c2,c3,c4,c5,c6,c7,c8,c9,c10,c11]:=by
  obtain⟨r',s',m',t',n',b'⟩:=t;obtain⟨tl',xl',tr',xr',op',fn',ta',xa',tb',xb',v',un',tu',xu',ts',xs',rfl,_⟩:=hx.mk;exact⟨_,_,_,_,_,_,_,_,_,_,_,_,rfl⟩
 obtain⟨c0,c1,c2,c3,c4,c5,c6,c7,c8,c9,c10,c11,rfl⟩:=hz';change ICall prog gl _ [.fn g fi ca,_] st _;refine ICall.intro (c:=cf prog gl [2,3,4] []) func181 rfl (by show _<=9;simp) (by kernel_rfl) ?_;simp only[go_sem,zE,zL,fits];intro b2;refine yQf λhb2=>?_;intro b3;refine yQf λhb3=>?_;intro b4;refine yQf λhb4=>?_;have h23:b2≠b3:=by rintro rfl;rw[ISt.put_same] at hb3;cases hb3
 have h34:b3≠b4:=by rintro rfl;rw[ISt.put_same] at hb4;cases hb4
 have h24:b2≠b4:=by rintro rfl;rw[ISt.put_apply,if_neg h23,ISt.put_same] at hb4;cases hb4
 rw[ISt.put_apply,if_neg h23.symm] at hb3;rw[ISt.put_apply,if_neg h34.symm,ISt.put_apply,if_neg h24.symm] at hb4;have hF:xQq 182 b2 b3 b4 (.fn g fi ca) [] st ((((st.put b2 (some (.box [.fn g fi ca]))).put b3 (some (.box [.sl ⟨true,.nil,0⟩ []]))).put b4 (some (.box [.raw .nilFunc]))).put b4 (some (.box [xX6 182 b2 b3 b4]))):=by
  refine⟨_,emp,.inl ⟨⟨true,.nil,0⟩,rfl,rfl,rfl,rfl⟩,λb hb=>absurd rfl hb,λb hb=>?_,?_⟩
  ·show st b=none;by_cases q4:b=b4
   ·rw[q4];exact hb4
   ·by_cases q3:b=b3
    ·rw[q3];exact hb3
    ·by_cases q2:b=b2
     ·rw[q2];exact hb2
     ·exact absurd (xK5 q2 q3 q4) hb
  ·funext c;by_cases q4:c=b4
   ·rw[q4,ISt.put_same,yQt zUc]
   ·rw[ISt.put_apply,if_neg q4,ISt.put_apply,if_neg q4];by_cases q3:c=b3
    ·rw[q3,ISt.put_same,yQt (yGh h34)]
    ·rw[ISt.put_apply,if_neg q3];by_cases q2:c=b2
     ·rw[q2,ISt.put_same,yQt (wWf h23 h24)]
     ·rw[ISt.put_apply,if_neg q2,yQw (xK5 q2 q3 q4)];rfl
 refine (hfrom b2 b3 b4 h23 h24 h34 g fi ca hfn hent I' S' 0 [] hok (by simpa using hd) st _ h0 hF).mono ?_;rintro r stt (⟨rfl,s1,hI1,a,e,_,hd1,hd2,rfl⟩|⟨rfl,s1,hS1,hsub⟩)
 ·simp only[go_sem];rw[Nat.zero_add] at hI1;exact yQb ((yJh hd1).trans (yJh hd2)) (.inl hI1)
 ·simp only[go_sem];exact yQb hsub (.inr hS1)
theorem wG5 (x:IV)(st:ISt)(t:Tr)(hx:IsTr t x):ICall prog gl 118 [.cptr x] st (λr st'=>r=.fn (.func 181) [] [.cptr (.cptr x)]/\st'=st):=by
 have hz':∃c0 c1 c2 c3 c4 c5 c6 c7 c8 c9 c10 c11,x=.agg [c0,c1,c2,c3,c4,c5,c6,c7,c8,c9,c10,c11]:=by
  obtain⟨r',s',m',t',n',b'⟩:=t;obtain⟨tl',xl',tr',xr',op',fn',ta',xa',tb',xb',v',un',tu',xu',ts',xs',rfl,_⟩:=hx.mk;exact⟨_,_,_,_,_,_,_,_,_,_,_,_,rfl⟩
 obtain⟨c0,c1,c2,c3,c4,c5,c6,c7,c8,c9,c10,c11,rfl⟩:=hz';refine ICall.intro (c:=cf prog gl [] [] [1]) func118 rfl (by show _<=4;simp) (by kernel_rfl) ?_;simp only[go_sem,zE];exact yQ0 ⟨rfl,rfl⟩
def fitL (l:List Fm):Prop:=∀f∈l,f.size<=1000000
theorem xZy (ca:Nat)(st:ISt):ICall prog gl 86 [.raw (.int .u8 ca)] st (λr st'=>r=.raw (.bool (yXo ca))/\st'=st):=by
 refine iI func86 ?_;by_cases h1:1<=ca
 ·have e1:decide (1<=(ca:Int))=true:=dEt (by omega);by_cases h2:ca<=3
  ·have e2:decide ((ca:Int)<=3)=true:=dEt (by omega);simp only[go_sem,zE,reduceCtorEq,e1,e2];exact yQ0 ⟨by simp[yXo,h1,h2],rfl⟩
  ·have e2:decide ((ca:Int)<=3)=false:=dEf (by omega);simp only[go_sem,zE,reduceCtorEq,e1,e2];exact yQ0 ⟨by simp[yXo,h2],rfl⟩
 ·have e1:decide (1<=(ca:Int))=false:=dEf (by omega);simp only[go_sem,zE,reduceCtorEq,e1];exact yQ0 ⟨by simp[yXo,h1],rfl⟩
def sOp (f:Fm):Prop:=∀(ca:Nat) (x:IV) (_:IsFm f x) (st:ISt),ICall prog gl 210 [.raw (.int .u8 ca),x] st (λr st'=>r=.raw (.bool (opsB ca f))/\st'=st)
theorem yKb (ca:Nat):∀l m:List Fm,yJn ca (l++m)=(yJn ca l&&yJn ca m)
 | [],m=>by simp[yJn]
 | a::l,m=>by simp only[List.cons_append,yJn,yKb ca l m,Bool.and_assoc]
theorem zJ2 {ca:Nat}{l:List Fm}{a:Fm}(ha:a∈l)(h:opsB ca a=false):yJn ca l=false:=by
 obtain⟨p,q,rfl⟩:=List.append_of_mem ha;rw[yKb];simp[yJn,h]
theorem wJ4 (o:Nat)(n:ByteArray)(us:List Tm)(sub:List Fm)(IH:∀a∈sub,sOp gl a):sOp gl (.mk o n us sub):=by
 intro ca x hx st;obtain⟨t1,x1,t2,x2,rfl,ho,ht1,hx1,ht2,hx2⟩:=hx.mk;have loop:∀(last:Nat) (hop:(decide (1<=o)&&decide (o<=if ca=3 then 9 else 7)&&(decide (ca=3) || us.isEmpty))=true),opsB ca (.mk o n us sub)=yJn ca sub:=λ_ h=>by
  simp only[opsB,h,Bool.true_and]
 refine iI func210 ?_;by_cases h1:1<=o
 ·have e1:decide ((o:Int)<1)=false:=dEf (by omega);by_cases hca:ca=3
  ·have e3:decide ((ca:Int)=3)=true:=dEt (by omega);by_cases h2:o<=9
   ·have e2:decide ((9:Int)<(o:Int))=false:=dEf (by omega);have hl:=loop 9 (by simp[h1,h2,hca]);simp only[go_sem,zE,zA,reduceCtorEq,e1,e2,e3,hx2.len];intro _;refine LoopC.ctr sub.length (λk fr st' ds=>yJn ca (sub.take k)=true/\fr 0=.iv (.raw (.int .u8 ca))/\fr 30=.iv (.sl t2 x2)/\fr 31=.iv (.raw (.int .i64 sub.length))/\fr 32=.iv (.raw (.int .i64 k))/\st'=st/\ds=[]) ?_ ?_ ?_
    ·simp only[go_sem,zE,reduceCtorEq];simp[yJn]
    ·rintro k fr st1 _ hlt ⟨hn,f0,f30,f31,f32,rfl,rfl⟩;obtain⟨a,ha⟩:=yQ3 hlt;obtain⟨y,hky,hy⟩:=hx2.get ha;have hcall:=IH a (lMg ha) ca y hy st1;obtain⟨o5,n5,t5,x5,t6,x6,rfl⟩:=hy.agg;simp only[go_sem,zE,zB,zA,zL,reduceCtorEq,f0,f30,f31,f32,lt_i hlt,yQ2 ht2,iNn,hky,fits];refine hcall.mono ?_;rintro _ _ ⟨rfl,rfl⟩;cases hr:opsB ca a
     ·simp only[go_sem];exact yQ0 ⟨by rw[hl,zJ2 (lMg ha) hr],rfl⟩
     ·simp only[go_sem,zE,reduceCtorEq,f0,f30,f31,f32,yQa hlt (show sub.length<=281474976710656 by omega)];rw[yQ8 ha,yKb,hn];simp[yJn,hr]
    ·rintro fr st1 _ ⟨hn,f0,f30,f31,f32,rfl,rfl⟩;rw[lTl] at hn;simp only[go_sem,f31,f32,yQk (nLi _)];exact yQ0 ⟨by rw[hl,hn],rfl⟩
   ·have e2:decide ((9:Int)<(o:Int))=true:=dEt (by omega);simp only[go_sem,zE,zA,reduceCtorEq,e1,e2,e3];exact yQ0 ⟨by simp[opsB,h2,hca],rfl⟩
  ·have e3:decide ((ca:Int)=3)=false:=dEf (by omega);by_cases h2:o<=7
   ·have e2:decide ((7:Int)<(o:Int))=false:=dEf (by omega);by_cases hu:us=[]
    ·subst hu;have e4:decide ((0:Int)<((0:Nat):Int))=false:=rfl;have hl:=loop 7 (by simp[h1,h2,hca]);simp only[go_sem,zE,zA,zL,reduceCtorEq,e1,e2,e3,e4,hx1.len,hx2.len];intro _;refine LoopC.ctr sub.length (λk fr st' ds=>yJn ca (sub.take k)=true/\fr 0=.iv (.raw (.int .u8 ca))/\fr 30=.iv (.sl t2 x2)/\fr 31=.iv (.raw (.int .i64 sub.length))/\fr 32=.iv (.raw (.int .i64 k))/\st'=st/\ds=[]) ?_ ?_ ?_
     ·simp only[go_sem,zE,reduceCtorEq];simp[yJn]
     ·rintro k fr st1 _ hlt ⟨hn,f0,f30,f31,f32,rfl,rfl⟩;obtain⟨a,ha⟩:=yQ3 hlt;obtain⟨y,hky,hy⟩:=hx2.get ha;have hcall:=IH a (lMg ha) ca y hy st1;obtain⟨o5,n5,t5,x5,t6,x6,rfl⟩:=hy.agg;simp only[go_sem,zE,zB,zA,zL,reduceCtorEq,f0,f30,f31,f32,lt_i hlt,yQ2 ht2,iNn,hky,fits];refine hcall.mono ?_;rintro _ _ ⟨rfl,rfl⟩;cases hr:opsB ca a
      ·simp only[go_sem];exact yQ0 ⟨by rw[hl,zJ2 (lMg ha) hr],rfl⟩
      ·simp only[go_sem,zE,reduceCtorEq,f0,f30,f31,f32,yQa hlt (show sub.length<=281474976710656 by omega)];rw[yQ8 ha,yKb,hn];simp[yJn,hr]
     ·rintro fr st1 _ ⟨hn,f0,f30,f31,f32,rfl,rfl⟩;rw[lTl] at hn;simp only[go_sem,f31,f32,yQk (nLi _)];exact yQ0 ⟨by rw[hl,hn],rfl⟩
    ·have hpos:0<us.length:=List.length_pos_iff.2 hu;have e4:decide ((0:Int)<(us.length:Int))=true:=dEt (by omega);simp only[go_sem,zE,zA,reduceCtorEq,e1,e2,e3,e4,hx1.len];intro _;exact yQ0 ⟨by simp[opsB,hca,hu],rfl⟩
   ·have e2:decide ((7:Int)<(o:Int))=true:=dEt (by omega);simp only[go_sem,zE,zA,reduceCtorEq,e1,e2,e3];exact yQ0 ⟨by simp[opsB,hca,h2],rfl⟩
 ·have e1:decide ((o:Int)<1)=true:=dEt (by omega);by_cases hca:ca=3
  ·have e3:decide ((ca:Int)=3)=true:=dEt (by omega);simp only[go_sem,zE,zA,reduceCtorEq,e1,e3];exact yQ0 ⟨by simp[opsB,h1],rfl⟩
  ·have e3:decide ((ca:Int)=3)=false:=dEf (by omega);simp only[go_sem,zE,zA,reduceCtorEq,e1,e3];exact yQ0 ⟨by simp[opsB,h1],rfl⟩
theorem xGm:∀(k:Nat)(f:Fm),SizeOf.sizeOf f<k->sOp gl f
 | 0,f,h=>by omega
 | k+1,.mk o n us sub,h=>wJ4 gl o n us sub (λa ha=>xGm k a (by
   have:=lSm ha;simp only[Fm.mk.sizeOf_spec] at h;omega))
theorem xZj (f:Fm):sOp gl f:=xGm gl _ f (Nat.lt_succ_self _)
theorem zJq (G:Gl gl)(ca:Nat)(f:Fm)(x:IV)(hx:IsFm f x)(hs:f.size<=1000000)(st:ISt) :
  ICall prog gl 140 [.raw (.int .u8 ca),x] st (λr st'=>r=.raw (.bool (fmB ca f))/\st'=st):=by
 have h1:=λst=>zYt gl G f x hx st hs;have h2:=λst=>xZj gl f ca x hx st;obtain⟨o5,n5,t5,x5,t6,x6,rfl⟩:=hx.agg;refine iI func140 ?_;simp only[go_sem,zE,zA,zL];refine (h1 _).mono ?_;rintro _ _ ⟨rfl,rfl⟩;cases hr:f.right
 ·simp only[go_sem,zE];exact yQ0 ⟨by simp[fmB,hr],rfl⟩
 ·simp only[go_sem,zE,zA,zL,reduceCtorEq];refine (h2 _).mono ?_;rintro _ _ ⟨rfl,rfl⟩;simp only[go_sem,zE];exact yQ0 ⟨by simp[fmB,hr],rfl⟩
theorem wQy (G:Gl gl)(f g:Fm)(x y:IV)(hx:IsFm f x)(hy:IsFm g y)(hs:f.size<=1000000)(hs':g.size<=1000000)(st:ISt) :
  ICall prog gl 261 [x,y] st (λr st'=>r=.raw (.bool (eqF f g))/\st'=st):=by
 have h1:=λst=>vZ4 gl G f g x y hx hy hs hs' st;obtain⟨o,n,us,sub⟩:=f;obtain⟨o',n',us',sub'⟩:=g;obtain⟨t1,x1,t2,x2,rfl,_⟩:=hx.mk;obtain⟨t3,x3,t4,x4,rfl,_⟩:=hy.mk;refine iI func261 ?_;by_cases ho:o=o'
 ·subst ho;simp only[go_sem,zE,zA,zL,decide_true];refine (h1 _).mono ?_;rintro _ _ ⟨rfl,rfl⟩;simp only[go_sem,zE];exact yQ0 ⟨by simp[eqF,Fm.op],rfl⟩
 ·have e:decide ((o:Int)=(o':Int))=false:=dEf (by omega);simp only[go_sem,zE,zA,e];exact yQ0 ⟨by simp[eqF,Fm.op,ho],rfl⟩
theorem xXu (g:FuncId)(caps:List IV)(he:entI prog g=true)(us:List Fm)(p:Fm->Bool)(hp:∀a∈us,∀x,IsFm a x->∀st,ICall prog gl g (x::caps) st (λr st'=>r=.raw (.bool (p a))/\st'=st))
  (tg:Tag) (xs:List IV) (htg:okEs tg 4) (hxs:IsFms us xs) (st:ISt) :
  ICall prog gl 300 [.sl tg xs,.fn (.func g) [] caps] st (λr st'=>(∃n:Int,r=.raw (.int .i64 n)/\decide (0<=n)=us.any p)/\st'=st):=by
 refine iI func300 ?_;simp only[go_sem,reduceCtorEq,hxs.len];intro _;refine LoopC.ctr us.length (λk fr st' ds=>(us.take k).any p=false/\fr 0=.iv (.sl tg xs)/\fr 1=.iv (.fn (.func g) [] caps)/\fr 7=.iv (.raw (.int .i64 us.length))/\fr 8=.iv (.raw (.int .i64 k))/\st'=st/\ds=[]) ?_ ?_ ?_
 ·simp only[go_sem,zE,reduceCtorEq];exact⟨rfl,rfl⟩
 ·rintro k fr st1 _ hlt ⟨hn,f0,f1,f7,f8,rfl,rfl⟩;obtain⟨a,ha⟩:=yQ3 hlt;obtain⟨y,hky,hy⟩:=hxs.get ha;have hcall:=hp a (lMg ha) y hy st1;obtain⟨o5,n5,t5,x5,t6,x6,rfl⟩:=hy.agg;simp only[go_sem,zE,zB,zA,reduceCtorEq,f0,f1,f7,f8,lt_i hlt,yQ2 htg,iNn,hky,fits,he];refine hcall.mono ?_;rintro _ _ ⟨rfl,rfl⟩;cases hr:p a
  ·simp only[go_sem,zE,reduceCtorEq,f0,f1,f7,f8,yQa hlt (show us.length<=281474976710656 by omega)];rw[yQ8 ha,List.any_append,hn];simp[hr]
  ·simp only[go_sem,zE];refine yQ0 ⟨⟨_,rfl,?_⟩,rfl⟩;rw[dEt (iNn k)];exact (List.any_eq_true.2 ⟨a,lMg ha,hr⟩).symm
 ·rintro fr st1 _ ⟨hn,f0,f1,f7,f8,rfl,rfl⟩;rw[lTl] at hn;simp only[go_sem,f7,f8,yQk (nLi _)];exact yQ0 ⟨⟨_,rfl,by rw[hn];rfl⟩,rfl⟩
theorem zKq (g:FuncId)(caps:List IV)(he:entI prog g=true)(us:List Fm)(p:Fm->Bool)(hp:∀a∈us,∀x,IsFm a x->∀st,ICall prog gl g (x::caps) st (λr st'=>r=.raw (.bool (p a))/\st'=st))
  (tg:Tag) (xs:List IV) (htg:okEs tg 4) (hxs:IsFms us xs) (st:ISt) :
  ICall prog gl 262 [.sl tg xs,.fn (.func g) [] caps] st (λr st'=>r=.raw (.bool (us.any p))/\st'=st):=by
 refine iI func262 ?_;simp only[go_sem,zE,zA,reduceCtorEq];refine (xXu gl g caps he us p hp tg xs htg hxs _).mono ?_;rintro _ _ ⟨⟨n,rfl,hn⟩,rfl⟩;simp only[go_sem,hn];exact yQ0 ⟨rfl,rfl⟩
theorem vWc (G:Gl gl)(f g:Fm)(x y:IV)(hx:IsFm f x)(hy:IsFm g y)(hs:f.size<=1000000)(hs':g.size<=1000000)(st:ISt) :
  ICall prog gl 263 [y,.cptr x] st (λr st'=>r=.raw (.bool (eqF f g))/\st'=st):=by
 have h1:=λst=>wQy gl G f g x y hx hy hs hs' st;obtain⟨o5,n5,t5,x5,t6,x6,rfl⟩:=hx.agg;obtain⟨o7,n7,t7,x7,t8,x8,rfl⟩:=hy.agg;refine iI func263 ?_;simp only[go_sem,zE,zA,zL,fits];refine (h1 _).mono ?_;rintro _ _ ⟨rfl,rfl⟩;simp only[go_sem];exact yQ0 ⟨rfl,rfl⟩
theorem wX7 (G:Gl gl)(l:List Fm)(f:Fm)(tg:Tag)(xs:List IV)(x:IV)(htg:okEs tg 4)(hxs:IsFms l xs)(hx:IsFm f x)(hl:fitL l)(hs:f.size<=1000000)(st:ISt) :
  ICall prog gl 230 [.sl tg xs,x] st (λr st'=>r=.raw (.bool (hasF l f))/\st'=st):=by
 have h1:=λst=>zKq gl 263 [.cptr x] (by simp only[go_sem]) l (eqF f) (λa ha y hy st=>vWc gl G f a x y hx hy hs (hl a ha) st) tg xs htg hxs st;obtain⟨o5,n5,t5,x5,t6,x6,rfl⟩:=hx.agg;refine ICall.intro (c:=cf prog gl [] [] [3]) func230 rfl (by show _<=8;simp) (by kernel_rfl) ?_;simp only[go_sem,zE,zA,reduceCtorEq];refine (h1 _).mono ?_;rintro _ _ ⟨rfl,rfl⟩;simp only[go_sem];exact yQ0 ⟨rfl,rfl⟩
theorem vW4 (G:Gl gl)(l m:List Fm)(t t':Tag)(xs ys:List IV)(ht:okEs t 4)(ht':okEs t' 4)(hxs:IsFms l xs)(hys:IsFms m ys)(hl:fitL l)(hm:fitL m)(st:ISt) :
  ICall prog gl 232 [.sl t xs,.sl t' ys] st (λr st'=>r=.raw (.bool (allF l m))/\st'=st):=by
 refine iI func232 ?_;simp only[go_sem,reduceCtorEq,hxs.len];intro _;refine LoopC.ctr l.length (λk fr st' ds=>(l.take k).all (hasF m)=true/\fr 1=.iv (.sl t' ys)/\fr 7=.iv (.sl t xs)/\fr 8=.iv (.raw (.int .i64 l.length))/\fr 9=.iv (.raw (.int .i64 k))/\st'=st/\ds=[]) ?_ ?_ ?_
 ·simp only[go_sem,zE];rfl
 ·rintro k fr st1 _ hlt ⟨hn,f1,f7,f8,f9,rfl,rfl⟩;obtain⟨a,ha⟩:=yQ3 hlt;obtain⟨y,hky,hy⟩:=hxs.get ha;have hcall:=wX7 gl G m a t' ys y ht' hys hy hm (hl a (lMg ha)) st1;obtain⟨o5,n5,t5,x5,t6,x6,rfl⟩:=hy.agg;simp only[go_sem,zE,zB,zA,zL,f1,f7,f8,f9,lt_i hlt,yQ2 ht,iNn,hky,fits];refine hcall.mono ?_;rintro _ _ ⟨rfl,rfl⟩;cases hr:hasF m a
  ·simp only[go_sem];refine yQ0 ⟨?_,rfl⟩;have:allF l m=false:=by
    unfold allF;rw[List.all_eq_false];exact⟨a,lMg ha,by simp[hr]⟩
   rw[this]
  ·simp only[go_sem,zE,f1,f7,f8,f9,yQa hlt (show l.length<=281474976710656 by omega)];rw[yQ8 ha,List.all_append,hn];simp[hr]
 ·rintro fr st1 _ ⟨hn,f1,f7,f8,f9,rfl,rfl⟩;rw[lTl] at hn;simp only[go_sem,f8,f9,yQk (nLi _)];exact yQ0 ⟨by rw[show allF l m=true from hn],rfl⟩
def yVt (s:Sq):Prop:=fitL s.l/\fitL s.r
theorem wV3 (G:Gl gl)(a b:Sq)(x y:IV)(hx:IsSq a x)(hy:IsSq b y)(ha:yVt a)(hb:yVt b)(st:ISt):ICall prog gl 184 [x,y] st (λr st'=>r=.raw (.bool (yXj a b))/\st'=st):=by
 obtain⟨t1,x1,t2,x2,rfl,e1,i1,e2,i2⟩:=hx;obtain⟨t3,x3,t4,x4,rfl,e3,i3,e4,i4⟩:=hy;refine iI func184 ?_;simp only[go_sem,zE,zA];refine (vW4 gl G a.l b.l t1 t3 x1 x3 e1 e3 i1 i3 ha.1 hb.1 _).mono ?_;rintro _ _ ⟨rfl,rfl⟩;cases hr:allF a.l b.l
 ·simp only[go_sem,zE];exact yQ0 ⟨by simp[yXj,hr],rfl⟩
 ·simp only[go_sem,zE,zA];refine (vW4 gl G a.r b.r t2 t4 x2 x4 e2 e4 i2 i4 ha.2 hb.2 _).mono ?_;rintro _ _ ⟨rfl,rfl⟩;simp only[go_sem,zE];exact yQ0 ⟨by simp[yXj,hr],rfl⟩
theorem yJx (a b:Int)(v:IV):∀es:List (Value×IV),yXl (.int .u8 a) (updI (.int .u8 b) v es)=if a=b then some v else yXl (.int .u8 a) es
 | []=>by
  simp only[updI,yXl,yKs];by_cases h:a=b<;>simp[h]
 | (x,u)::es=>by
  simp only[updI];by_cases hk:yKs (.int .u8 b) x=true
  ·rw[if_pos hk];have hx:∀c,yKs (.int .u8 c) x=decide (c=b):=λc=>by
    cases x<;>simp[yKs] at hk ⊢;rw[hk]
   have e:yKs (.int .u8 a) (.int .u8 b)=decide (a=b):=rfl;simp only[yXl,e,hx];by_cases h:a=b<;>simp[h]
  ·rw[if_neg hk];simp only[yXl];rw[yJx a b v es];by_cases h:a=b
   ·subst h;simp[hk]
   ·simp[h]
def zKp (ca rule:Nat):Nat :=
 if ca=2/\rule=18 then 136 else if ca=2/\rule=8 then 134
 else if rule=13\/rule=15 then 137 else if rule=14\/rule=16 then 139
 else if rule=1 then 195 else if rule=2 then 196 else if rule=3 then 197 else if rule=4 then 198
 else if rule=5 then 199 else if rule=6 then 200 else if rule=7 then 201 else if rule=8 then 202
 else if rule=9 then 203 else if rule=10 then 204 else if rule=11 then 206 else if rule=12 then 208
 else 209
def rwI (ca rule:Nat)(r:Rw):IV:=.agg [.raw (.bool r.left),.raw (.bool r.right),.raw (.int .u8 r.op),.raw (.int .u8 r.asks),.fn (.func (zKp ca rule)) [] []]
def rwL (a b:Bool)(op asks id:Nat):IV:=.agg [.raw (.bool a),.raw (.bool b),.raw (.int .u8 op),.raw (.int .u8 asks),.fn (.func id) [] []]
def zVb:List (Value×IV) :=
 updI (.int .u8 17) (rwL false false 0 0 209) <| updI (.int .u8 12) (rwL false true 7 0 208) <| updI (.int .u8 11) (rwL true false 7 0 206) <|
 updI (.int .u8 10) (rwL false true 6 0 204) <| updI (.int .u8 9) (rwL true false 6 0 203) <| updI (.int .u8 8) (rwL false true 5 0 202) <|
 updI (.int .u8 7) (rwL true false 5 0 201) <| updI (.int .u8 6) (rwL false true 4 0 200) <| updI (.int .u8 5) (rwL true false 4 0 199) <|
 updI (.int .u8 4) (rwL false true 3 0 198) <| updI (.int .u8 3) (rwL true false 3 0 197) <| updI (.int .u8 2) (rwL true false 2 0 196) <|
 updI (.int .u8 1) (rwL true true 0 0 195) []
def yUa (ca:Nat):List (Value×IV) :=
 if ca=2 then updI (.int .u8 18) (rwL false true 5 0 136) <| updI (.int .u8 8) (rwL false true 5 0 134) zVb
 else if ca=3 then updI (.int .u8 16) (rwL false true 9 1 139) <| updI (.int .u8 15) (rwL true false 9 2 137) <| updI (.int .u8 14) (rwL false true 8 2 139) <|
  updI (.int .u8 13) (rwL true false 8 1 137) zVb
 else zVb
theorem wGx (st:ISt):ICall prog gl 133 [] st (λr st'=>∃b,st b=none/\r=.raw (.map (some b))/\st'=st.put b (some (.map (.int .u8) zVb))):=by
 refine iI func133 ?_;simp only[go_sem,zE,zA,zL,fits];refine λb=>yQf λhb=>?_;simp only[go_sem,yQh];exact yQ0 ⟨b,hb,rfl,rfl⟩
theorem xGn (ca:Nat)(st:ISt):ICall prog gl 87 [.raw (.int .u8 ca)] st (λr st'=>∃b,st b=none/\r=.raw (.map (some b))/\st'=st.put b (some (.map (.int .u8) (yUa ca)))):=by
 refine iI func87 ?_;simp only[go_sem,zA];refine (wGx gl _).mono ?_;rintro _ _ ⟨b,hb,rfl,rfl⟩;by_cases h2:ca=2
 ·have e2:decide ((ca:Int)=2)=true:=dEt (by omega);simp only[go_sem,zE,zA,zL,reduceCtorEq,e2,fits,ISt.put_same,yQh];exact yQ0 ⟨b,hb,rfl,by rw[yUa,if_pos h2];rfl⟩
 ·have e2:decide ((ca:Int)=2)=false:=dEf (by omega);by_cases h3:ca=3
  ·have e3:decide ((ca:Int)=3)=true:=dEt (by omega);simp only[go_sem,zE,zA,zL,reduceCtorEq,e2,e3,fits,ISt.put_same,yQh];exact yQ0 ⟨b,hb,rfl,by rw[yUa,if_neg h2,if_pos h3];rfl⟩
  ·have e3:decide ((ca:Int)=3)=false:=dEf (by omega);simp only[go_sem,zE,reduceCtorEq,e2,e3];exact yQ0 ⟨b,hb,rfl,by rw[yUa,if_neg h2,if_neg h3]⟩
theorem xZh (rule:Nat):yXl (.int .u8 rule) zVb=(rowK rule).map λr=>.agg [.raw (.bool r.left),.raw (.bool r.right),.raw (.int .u8 r.op),.raw (.int .u8 r.asks),.fn (.func (zKp 1 rule)) [] []]:=by
 unfold zVb;simp only[yJx];by_cases h:rule<=18
 ·rcases (show rule=0\/rule=1\/rule=2\/rule=3\/rule=4\/rule=5\/rule=6\/rule=7\/rule=8\/rule=9\/rule=10\/rule=11\/rule=12\/rule=13\/rule=14\/rule=15\/rule=16\/rule=17\/rule=18 by omega) with
   rfl|rfl|rfl|rfl|rfl|rfl|rfl|rfl|rfl|rfl|rfl|rfl|rfl|rfl|rfl|rfl|rfl|rfl|rfl<;>rfl
 ·have hn:rowK rule=none:=by unfold rowK;repeat (rw[if_neg (by omega)])
  rw[hn]
  repeat (rw[if_neg (by omega)])
  rfl
theorem yWf (ca rule:Nat):yXl (.int .u8 rule) (yUa ca)=(rowS ca rule).map (rwI ca rule):=by
 have hp:=xZh rule;by_cases h:rule<=18
 ·have hr:rule=0\/rule=1\/rule=2\/rule=3\/rule=4\/rule=5\/rule=6\/rule=7\/rule=8\/rule=9\/rule=10\/rule=11\/rule=12\/rule=13\/rule=14\/rule=15\/rule=16\/rule=17\/rule=18:=by omega
  by_cases h2:ca=2
  ·subst h2;simp only[yUa,if_true,yJx,hp];rcases hr with rfl|rfl|rfl|rfl|rfl|rfl|rfl|rfl|rfl|rfl|rfl|rfl|rfl|rfl|rfl|rfl|rfl|rfl|rfl<;>rfl
  ·by_cases h3:ca=3
   ·subst h3;simp only[yUa,if_true,if_neg h2,yJx,hp];rcases hr with rfl|rfl|rfl|rfl|rfl|rfl|rfl|rfl|rfl|rfl|rfl|rfl|rfl|rfl|rfl|rfl|rfl|rfl|rfl<;>rfl
   ·have hk:rowS ca rule=rowK rule:=by
     unfold rowS;rw[if_neg (by omega),if_neg (by omega),if_neg (by omega),if_neg (by omega),if_neg (by omega)]
    have hi:∀r,rowK rule=some r->zKp 1 rule=zKp ca rule:=λ_ _=>by
     unfold zKp;rw[if_neg (by omega),if_neg (by omega)]
     conv=>rhs;rw[if_neg (by omega),if_neg (by omega)]
    simp only[yUa,if_neg h2,if_neg h3,hp,hk];cases hq:rowK rule with
    | none=>rfl
    | some r=>simp only[Option.map_some,rwI,hi r hq]
 ·have hn:rowS ca rule=none:=by
   unfold rowS;rw[if_neg (by omega),if_neg (by omega),if_neg (by omega),if_neg (by omega),if_neg (by omega)];unfold rowK;repeat (rw[if_neg (by omega)])
  have hk:rowK rule=none:=by unfold rowK;repeat (rw[if_neg (by omega)])
  rw[hk] at hp;rw[hn];unfold yUa;split
  ·simp only[yJx,hp];repeat (rw[if_neg (by omega)])
   rfl
  ·split
   ·simp only[yJx,hp];repeat (rw[if_neg (by omega)])
    rfl
   ·rw[hp];rfl
theorem wV2 {ca rule:Nat}{r:Rw}(h:rowS ca rule=some r):AddOk gl (zKp ca rule) (addS ca rule)/\entI prog (zKp ca rule)=true:=by
 have hr:rule<=18:=by
  refine Classical.byContradiction λhc=>?_;have hn:rowS ca rule=none:=by
   unfold rowS;rw[if_neg (by omega),if_neg (by omega),if_neg (by omega),if_neg (by omega),if_neg (by omega)];unfold rowK;repeat (rw[if_neg (by omega)])
  rw[hn] at h;cases h
 have hcas:rule=0\/rule=1\/rule=2\/rule=3\/rule=4\/rule=5\/rule=6\/rule=7\/rule=8\/rule=9\/rule=10\/rule=11\/rule=12\/rule=13\/rule=14\/rule=15\/rule=16\/rule=17\/rule=18:=by omega
 by_cases h2:ca=2
 ·subst h2;rcases hcas with rfl|rfl|rfl|rfl|rfl|rfl|rfl|rfl|rfl|rfl|rfl|rfl|rfl|rfl|rfl|rfl|rfl|rfl|rfl
  all_goals first|(cases h;done)|exact⟨wZy gl,by kernel_rfl⟩|exact⟨wZx gl,by kernel_rfl⟩|exact⟨wZw gl,by kernel_rfl⟩|exact⟨wZv gl,by kernel_rfl⟩|exact⟨wZu gl,by kernel_rfl⟩|exact⟨wZt gl,by kernel_rfl⟩|exact⟨wZs gl,by kernel_rfl⟩|exact⟨wZr gl,by kernel_rfl⟩|exact⟨xXi gl,by kernel_rfl⟩|exact⟨wZq gl,by kernel_rfl⟩|exact⟨xXn gl,by kernel_rfl⟩|exact⟨xXm gl,by kernel_rfl⟩|exact⟨xXl gl,by kernel_rfl⟩|exact⟨xXk gl,by kernel_rfl⟩|exact⟨xXj gl,by kernel_rfl⟩|exact⟨wZp gl,by kernel_rfl⟩|exact⟨wZo gl,by kernel_rfl⟩
 ·by_cases h3:ca=3
  ·subst h3;rcases hcas with rfl|rfl|rfl|rfl|rfl|rfl|rfl|rfl|rfl|rfl|rfl|rfl|rfl|rfl|rfl|rfl|rfl|rfl|rfl
   all_goals first|(cases h;done)|exact⟨wZy gl,by kernel_rfl⟩|exact⟨wZx gl,by kernel_rfl⟩|exact⟨wZw gl,by kernel_rfl⟩|exact⟨wZv gl,by kernel_rfl⟩|exact⟨wZu gl,by kernel_rfl⟩|exact⟨wZt gl,by kernel_rfl⟩|exact⟨wZs gl,by kernel_rfl⟩|exact⟨wZr gl,by kernel_rfl⟩|exact⟨xXi gl,by kernel_rfl⟩|exact⟨wZq gl,by kernel_rfl⟩|exact⟨xXn gl,by kernel_rfl⟩|exact⟨xXm gl,by kernel_rfl⟩|exact⟨xXl gl,by kernel_rfl⟩|exact⟨xXk gl,by kernel_rfl⟩|exact⟨xXj gl,by kernel_rfl⟩|exact⟨wZp gl,by kernel_rfl⟩|exact⟨wZo gl,by kernel_rfl⟩
  ·have hk:rowS ca rule=rowS 1 rule:=by
    unfold rowS;rw[if_neg (by omega),if_neg (by omega),if_neg (by omega),if_neg (by omega),if_neg (by omega)]
    conv=>rhs;rw[if_neg (by omega),if_neg (by omega),if_neg (by omega),if_neg (by omega),if_neg (by omega)]
   have hi:zKp ca rule=zKp 1 rule:=by
    unfold zKp;rw[if_neg (by omega),if_neg (by omega)]
    conv=>rhs;rw[if_neg (by omega),if_neg (by omega)]
   have hs:addS ca rule=addS 1 rule:=by
    funext m a b;unfold addS;rw[if_neg h2,if_neg (show ¬ (1:Nat)=2 by decide)]
   rw[hk] at h;rw[hi,hs];rcases hcas with rfl|rfl|rfl|rfl|rfl|rfl|rfl|rfl|rfl|rfl|rfl|rfl|rfl|rfl|rfl|rfl|rfl|rfl|rfl
   all_goals first|(cases h;done)|exact⟨wZy gl,by kernel_rfl⟩|exact⟨wZx gl,by kernel_rfl⟩|exact⟨wZw gl,by kernel_rfl⟩|exact⟨wZv gl,by kernel_rfl⟩|exact⟨wZu gl,by kernel_rfl⟩|exact⟨wZt gl,by kernel_rfl⟩|exact⟨wZs gl,by kernel_rfl⟩|exact⟨wZr gl,by kernel_rfl⟩|exact⟨xXi gl,by kernel_rfl⟩|exact⟨wZq gl,by kernel_rfl⟩|exact⟨xXn gl,by kernel_rfl⟩|exact⟨xXm gl,by kernel_rfl⟩|exact⟨xXl gl,by kernel_rfl⟩|exact⟨xXk gl,by kernel_rfl⟩|exact⟨xXj gl,by kernel_rfl⟩|exact⟨wZp gl,by kernel_rfl⟩|exact⟨wZo gl,by kernel_rfl⟩
noncomputable def rB (ca:Nat)(a0 f:Fm):Bool:=fmB ca f&&(decide (ca≠2) || eqF f a0)
theorem wWc (ca:Nat)(a0:Fm):∀l:List Fm,l.all (rB ca a0)=(l.all (fmB ca)&&(decide (ca≠2) || l.all λf=>eqF f a0))
 | []=>by simp
 | f::l=>by
  simp only[List.all_cons,wWc ca a0 l,rB];cases fmB ca f<;>cases l.all (fmB ca)<;>cases decide (ca≠2)<;>simp
theorem xYo (ca:Nat)(s:Sq):yXs ca s=(yXo ca&&decide (s.l.length<=64)&&decide (s.r.length<=64)&&s.l.all (fmB ca)&&s.r.all (rB ca (s.r.headD fm0))):=by
 rw[wWc];unfold yXs xX8;cases s.r with
 | nil=>simp
 | cons a l=>simp only[List.headD_cons,Bool.and_assoc]
theorem vQw (G:Gl gl)(ca:Nat)(s:Sq)(x:IV)(hx:IsSq s x)(hs:yVt s)(st:ISt):ICall prog gl 229 [.raw (.int .u8 ca),x] st (λr st'=>r=.raw (.bool (yXs ca s))/\st'=st):=by
 obtain⟨l,r⟩:=s;obtain⟨t1,x1,t2,x2,rfl,e1,i1,e2,i2⟩:=hx;obtain⟨hl,hr⟩:=hs;simp only at i1 i2 hl hr;rw[xYo];simp only;refine iI func229 ?_;simp only[go_sem,zE,zB,zA,zM,zS,zL,reduceCtorEq];refine (xZy gl ca _).mono ?_;rintro _ st ⟨rfl,rfl⟩;cases hk:yXo ca
 ·simp only[go_sem,zE,zB,zA,zM,zS,zL,reduceCtorEq];exact yQ0 ⟨by simp,rfl⟩
 by_cases h1:l.length<=64
 case neg =>
  have e:decide ((64:Int)<(l.length:Int))=true:=dEt (by omega);simp only[go_sem,zE,zB,zA,zM,zS,zL,reduceCtorEq,i1.len,e];intro _;exact yQ0 ⟨by simp[h1],rfl⟩
 by_cases h2:r.length<=64
 case neg =>
  have e:decide ((64:Int)<(l.length:Int))=false:=dEf (by omega);have e':decide ((64:Int)<(r.length:Int))=true:=dEt (by omega);simp only[go_sem,zE,zB,zA,zM,zS,zL,reduceCtorEq,i1.len,i2.len,e,e'];intro _ _;exact yQ0 ⟨by simp[h2],rfl⟩
 have e:decide ((64:Int)<(l.length:Int))=false:=dEf (by omega);have e':decide ((64:Int)<(r.length:Int))=false:=dEf (by omega);simp only[go_sem,zE,zB,zA,zM,zS,zL,reduceCtorEq,i1.len,i2.len,e,e'];intros;refine LoopC.ctr l.length (λk fr st' ds=>(l.take k).all (fmB ca)=true/\fr 0=.iv (.raw (.int .u8 ca))/\fr 3=.box [.sl t1 x1,.sl t2 x2]/\fr 25=.iv (.sl t1 x1)/\fr 26=.iv (.raw (.int .i64 l.length))/\fr 27=.iv (.raw (.int .i64 k))/\st'=st/\ds=[]) ?_ ?_ ?_
 ·simp only[go_sem,zE,zB,zA,zM,zS,zL,reduceCtorEq]
  first|rfl|exact⟨rfl,rfl⟩
 ·rintro k fr st1 _ hlt ⟨hn,f0,f3,f25,f26,f27,rfl,rfl⟩;obtain⟨a,ha⟩:=yQ3 hlt;obtain⟨y,hky,hy⟩:=i1.get ha;have hcall:=zJq gl G ca a y hy (hl a (lMg ha)) st1;obtain⟨o5,n5,t5,x5,t6,x6,rfl⟩:=hy.agg;simp only[go_sem,zE,zB,zA,zM,zS,zL,reduceCtorEq,f0,f3,f25,f26,f27,lt_i hlt,yQ2 e1,iNn,hky,fits];refine hcall.mono ?_;rintro _ _ ⟨rfl,rfl⟩;cases hr:fmB ca a
  ·simp only[go_sem,zE,zB,zA,zM,zS,zL,reduceCtorEq];refine yQ0 ⟨?_,rfl⟩;have:l.all (fmB ca)=false:=List.all_eq_false.2 ⟨a,lMg ha,by simp[hr]⟩;simp[this]
  ·simp only[go_sem,zE,zB,zA,zM,zS,zL,reduceCtorEq,f0,f3,f25,f26,f27,yQa hlt (show l.length<=281474976710656 by omega)];rw[yQ8 ha,List.all_append,hn];simp[hr]
 ·rintro fr st1 _ ⟨hn,f0,f3,f25,f26,f27,rfl,rfl⟩;rw[lTl] at hn;simp only[go_sem,zE,zB,zA,zM,zS,zL,reduceCtorEq,f0,f3,f25,f26,f27,i2.len,yQk (nLi _)];intro _;refine LoopC.ctr r.length (λk fr st' ds=>(r.take k).all (rB ca (r.headD fm0))=true/\fr 0=.iv (.raw (.int .u8 ca))/\fr 3=.box [.sl t1 x1,.sl t2 x2]/\fr 37=.iv (.sl t2 x2)/\fr 38=.iv (.raw (.int .i64 r.length))/\fr 39=.iv (.raw (.int .i64 k))/\st'=st1/\ds=[]) ?_ ?_ ?_
  ·simp only[go_sem,zE,zB,zA,zM,zS,zL,reduceCtorEq,f0,f3]
   first|rfl|exact⟨rfl,rfl⟩
  ·rintro k fr st2 _ hlt ⟨hm,f0,f3,f37,f38,f39,rfl,rfl⟩;obtain⟨a,ha⟩:=yQ3 hlt;obtain⟨y,hky,hy⟩:=i2.get ha;obtain⟨a0,ha0⟩:=yQ3 (show 0<r.length by omega);obtain⟨y0,hky0,hy0⟩:=i2.get ha0;have hd0:r.headD fm0=a0:=by cases r with|nil=>cases ha0|cons b r=>simpa using ha0
   have hcall:=zJq gl G ca a y hy (hr a (lMg ha)) st2;have heq:=λst=>wQy gl G a a0 y y0 hy hy0 (hr a (lMg ha)) (hr a0 (lMg ha0)) st;rw[hd0] at hm ⊢;have hout:rB ca a0 a=false->r.all (rB ca a0)=false:=λhb=>List.all_eq_false.2 ⟨a,lMg ha,by simp[hb]⟩;have hin:rB ca a0 a=true->(r.take (k+1)).all (rB ca a0)=true:=λhb=>by
    rw[yQ8 ha,List.all_append,hm];simp[hb]
   obtain⟨o5,n5,t5,x5,t6,x6,rfl⟩:=hy.agg;obtain⟨o7,n7,t7,x7,t8,x8,rfl⟩:=hy0.agg;simp only[go_sem,zE,zB,zA,zM,zS,zL,reduceCtorEq,f0,f3,f37,f38,f39,lt_i hlt,yQ2 e2,iNn,hky,fits];refine hcall.mono ?_;rintro _ _ ⟨rfl,rfl⟩;cases hr:fmB ca a
   ·simp only[go_sem,zE,zB,zA,zM,zS,zL,reduceCtorEq];exact yQ0 ⟨by rw[hout (by simp[rB,hr])];simp,rfl⟩
   by_cases hj:ca=2
   ·have ej:decide ((ca:Int)=2)=true:=dEt (by omega);simp only[go_sem,zE,zB,zA,zM,zS,zL,reduceCtorEq,ej,f0,f3,yQ2 e2,hky0,fits,Int.le_refl,Int.toNat_zero];refine (heq _).mono ?_;rintro _ _ ⟨rfl,rfl⟩;cases hq:eqF a a0
    ·simp only[go_sem,zE,zB,zA,zM,zS,zL,reduceCtorEq];exact yQ0 ⟨by rw[hout (by simp[rB,hj,hq])];simp,rfl⟩
    ·simp only[go_sem,zE,zB,zA,zM,zS,zL,reduceCtorEq,f0,f3,f37,f38,f39,yQa hlt (show r.length<=281474976710656 by omega)];exact hin (by simp[rB,hr,hq])
   ·have ej:decide ((ca:Int)=2)=false:=dEf (by omega);simp only[go_sem,zE,zB,zA,zM,zS,zL,reduceCtorEq,ej,f0,f3,f37,f38,f39,yQa hlt (show r.length<=281474976710656 by omega)];exact hin (by simp[rB,hr,hj])
  ·rintro fr st2 _ ⟨hm,f0,f3,f37,f38,f39,rfl,rfl⟩;rw[lTl] at hm;simp only[go_sem,zE,zB,zA,zM,zS,zL,reduceCtorEq,f38,f39,yQk (nLi _)];exact yQ0 ⟨by rw[hn,hm];simp[h1,h2],rfl⟩
theorem vQ4:IsFm fm0 (.agg [.raw (.int .u8 0),.raw (.string ⟨#[]⟩),.sl ⟨true,.nil,0⟩ [],.sl ⟨true,.nil,0⟩ []]):=⟨_,_,_,_,rfl,by decide,.inl rfl,rfl,.inl rfl,rfl⟩
theorem xJf {sub:List Fm}{xs:List IV}(h:IsFms sub xs)(k:Nat):∃y,IsFm ((sub[k]?).getD fm0) y/\(sub.length<=k->y=.agg [.raw (.int .u8 0),.raw (.string ⟨#[]⟩),.sl ⟨true,.nil,0⟩ [],.sl ⟨true,.nil,0⟩ []])/\(k<sub.length->xs[k]?=some y):=by
 by_cases hk:k<sub.length
 ·obtain⟨a,ha⟩:=yQ3 hk;obtain⟨y,hy,hf⟩:=h.get ha;exact⟨y,by rw[ha];exact hf,λhc=>by omega,λ_=>hy⟩
 ·exact⟨_,by rw[List.getElem?_eq_none (by omega)];exact vQ4,λ_=>rfl,λhc=>absurd hc hk⟩
def AdR (st:ISt)(q:List Sq×Nat)(r:IV)(st':ISt):Prop:=∃tg xs,r=.tup [.sl tg xs,.raw (.int .i64 q.2)]/\okEs tg 2/\IsSqs q.1 xs/\st'=st
def AdRD (st:ISt)(q:List Sq×Nat)(r:IV)(st':ISt):Prop:=∃tg xs,r=.tup [.sl tg xs,.raw (.int .i64 q.2)]/\okEs tg 2/\appT q.1.length tg/\IsSqsD q.1 xs/\st'=st
theorem AdRD.w {st:ISt}{q:List Sq×Nat}(r:IV)(st':ISt):AdRD st q r st'->AdR st q r st':=λ⟨tg,xs,h1,h2,_,h4,h5⟩=>⟨tg,xs,h1,h2,h4.w,h5⟩
theorem xJg {o:Nat}{n:ByteArray}{us:List Tm}{sub:List Fm}(h:(Fm.mk o n us sub).size<=1000000)(k:Nat):((sub[k]?).getD fm0).size<=1000000:=by
 cases ha:sub[k]? with
 | none=>show fm0.size<=1000000;decide
 | some a =>
  have:=(yZ5 ha).2;simp only[Fm.size] at h;show a.size<=1000000;omega
theorem xVi {ca rule:Nat}{r:Rw}{main:Fm}{term:Tm}{name:ByteArray}(h:fmB ca main=true)(h':r.op=0\/main.op=r.op):yJ6 ca rule r main term name =
  (addS ca rule main ((main.subs[0]?).getD fm0) ((main.subs[1]?).getD fm0),0):=by
 have e:(!fmB ca main || (decide (r.op≠0)&&decide (main.op≠r.op)))=false:=by
  rw[h];rcases h' with h'|h'<;>simp[h']
 simp only[yJ6,e,bFt,if_false]
theorem xJt {ca rule:Nat}{r:Rw}(h:rowS ca rule=some r):r.asks=0\/8<=r.op:=by
 rcases zU1 h with⟨_,rfl⟩|⟨_,rfl⟩|⟨_,rfl⟩|⟨_,rfl⟩|⟨_,rfl⟩|⟨_,rfl⟩|⟨_,rfl⟩|⟨_,rfl⟩|⟨_,rfl⟩|⟨_,rfl⟩|⟨_,rfl⟩|⟨_,rfl⟩|⟨_,rfl⟩|⟨_,rfl⟩|⟨_,rfl⟩|⟨_,rfl⟩|⟨_,rfl⟩|⟨_,rfl⟩
 all_goals first|exact .inl rfl|exact .inr (by decide)
set_option maxHeartbeats 2000000 in
theorem wYe (G:Gl gl)(ca rule:Nat)(r:Rw)(hr:rowS ca rule=some r)(main:Fm)(y:IV)(hy:IsFm main y)(hm:main.size<=1000000)(term:Tm)(z:IV)(hz:IsTm term z)(name:ByteArray)(st:ISt) :
  ICall prog gl 88 [rwI ca rule r,.raw (.int .u8 ca),y,z,.raw (.string name)] st (AdRD st (yJ6 ca rule r main term name)):=by
 obtain⟨hadd,hent⟩:=wV2 gl hr;have hf:=λst=>zJq gl G ca main y hy hm st;obtain⟨rl,rr,op,asks⟩:=r;obtain⟨o,n,us,sub⟩:=main;have hy0:=hy;obtain⟨t1,x1,t2,x2,rfl,ho,e1,i1,e2,i2⟩:=hy.mk;obtain⟨v,un,tz,xz,rfl⟩:=hz.agg;obtain⟨z1,hz1,hz1n,hz1s⟩:=xJf i2 0;obtain⟨z2,hz2,hz2n,hz2s⟩:=xJf i2 1;have hask:op=0\/o=op->decide ((asks:Int)=0)=true:=λh=>by
  rcases xJt hr with h'|h'
  ·exact dEt (by simp only at h';omega)
  ·simp only at h';omega
 have hE:fmB ca (.mk o n us sub)=false->yJ6 ca rule ⟨rl,rr,op,asks⟩ (.mk o n us sub) term name=([],192):=λh=>by simp only[yJ6,h];rfl
 refine iI func88 ?_;simp only[go_sem,zE,zB,zA,zM,zS,zL,reduceCtorEq,rwI,fits];refine (hf _).mono ?_;rintro _ _ ⟨rfl,rfl⟩;cases hfm:fmB ca (.mk o n us sub)
 ·simp only[go_sem,zE,zB,zA,zM,zS,zL,reduceCtorEq];exact yQ0 (by rw[hE hfm];exact⟨_,_,rfl,.inl rfl,.inl rfl,rfl,rfl⟩)
 by_cases hop:op=0\/o=op
 case neg =>
  have hq:yJ6 ca rule ⟨rl,rr,op,asks⟩ (.mk o n us sub) term name=([],192):=by
   have e:(!fmB ca (.mk o n us sub) || (decide (op≠0)&&decide ((Fm.mk o n us sub).op≠op)))=true:=by
    simp only[Fm.op,hfm];simp only[not_or] at hop;simp[hop]
   simp only[yJ6,e,if_true]
  simp only[not_or] at hop;have d1:decide ((op:Int)=0)=false:=dEf (by omega);have d2:decide ((o:Int)=(op:Int))=false:=dEf (by omega);simp only[go_sem,zE,zB,zA,zM,zS,zL,reduceCtorEq,d1,d2,fits];exact yQ0 (by rw[hq];exact⟨_,_,rfl,.inl rfl,.inl rfl,rfl,rfl⟩)
 obtain⟨dop,hdop⟩:∃b,decide ((op:Int)=0)=b:=⟨_,rfl⟩
 have hdo:dop=false->decide ((o:Int)=(op:Int))=true:=λh=>by
  subst hdop;have:=of_decide_eq_false h;exact dEt (by omega)
 have hop0:=hop;replace hop:(⟨rl,rr,op,asks⟩:Rw).op=0\/(Fm.mk o n us sub).op=(⟨rl,rr,op,asks⟩:Rw).op:=hop0;by_cases hl0:0<sub.length
 rotate_left
 have l0:decide ((0:Int)<(sub.length:Int))=false:=dEf (by omega);have l1:decide ((1:Int)<(sub.length:Int))=false:=dEf (by omega);have g0:=l0;have g1:=l0;obtain rfl:=hz1n (by omega);obtain rfl:=hz2n (by omega)
 rotate_left
 have l0:decide ((0:Int)<(sub.length:Int))=true:=dEt (by omega);have g0:=hz1s hl0;obtain⟨o3,n3,t3,x3,t4,x4,rfl⟩:=hz1.agg;by_cases hl1:1<sub.length;have l1:decide ((1:Int)<(sub.length:Int))=true:=dEt (by omega);have g1:=hz2s hl1;obtain⟨o5,n5,t5,x5,t6,x6,rfl⟩:=hz2.agg
 rotate_left
 have l1:decide ((1:Int)<(sub.length:Int))=false:=dEf (by omega);have g1:=g0;obtain rfl:=hz2n (by omega)
 all_goals cases dop
 all_goals (first|have hd2:=hdo rfl|have hd2:=hdop)
 all_goals
  have hq:=xVi (rule:=rule) (r:=⟨rl,rr,op,asks⟩) (term:=term) (name:=name) hfm hop;have d0:decide ((asks:Int)=0)=true:=hask hop0;simp only[Fm.subs] at hq;simp only[go_sem,zE,zB,zA,zM,zS,zL,reduceCtorEq,hdop,hd2,l0,l1,i2.len,g0,g1,yQ2 e2,Int.le_refl,Int.toNat_zero,(show (0:Int)<=1 by decide),(show Int.toNat 1=1 from rfl),d0,fits,hent];intros;refine (hadd _ _ _ _ _ _ hy0 hz1 hz2 hm (xJg hm 0) (xJg hm 1) _).mono ?_;rintro _ _ ⟨tg,xs,rfl,he,hap,hxs,rfl⟩;simp only[go_sem,zE,zB,zA,zM,zS,zL,reduceCtorEq];exact yQ0 (by rw[hq];exact⟨_,_,rfl,he,hap,hxs,rfl⟩)
theorem zGa {ca:Nat}{s:Sq}(h:yXs ca s=true):(∀f∈s.l,f.right=true)/\∀f∈s.r,f.right=true:=by
 unfold yXs at h;simp only[bAt,List.all_eq_true] at h;obtain⟨⟨⟨_,h4⟩,h5⟩,_⟩:=h;have key:∀f,fmB ca f=true->f.right=true:=λf hf=>by
  unfold fmB at hf;simp only[bAt] at hf;exact hf.1
 exact⟨λf hf=>key f (h4 f hf),λf hf=>key f (h5 f hf)⟩
theorem vXs (G:Gl gl)(ca:Nat)(s:Sq)(x:IV)(hx:IsSq s x)(hs:yVt s)(rule:Nat)(main:Fm)(y:IV)(hy:IsFm main y)(hm:main.size<=1000000)(term:Tm)(z:IV)(hz:IsTm term z)(name:ByteArray)(st:ISt) :
  ICall prog gl 183 [.raw (.int .u8 ca),x,.raw (.int .u8 rule),y,z,.raw (.string name)] st (AdRD st (yXt ca s rule main term name)):=by
 have hV:=λst=>vQw gl G ca s x hx hs st;obtain⟨t1,x1,t2,x2,rfl,e1,i1,e2,i2⟩:=hx;have hH1:=λst=>wX7 gl G s.l main t1 x1 y e1 i1 hy hs.1 hm st;have hH2:=λst=>wX7 gl G s.r main t2 x2 y e2 i2 hy hs.2 hm st;have hA:=λr hr st=>wYe gl G ca rule r hr main y hy hm term z hz name st;obtain⟨o3,n3,us3,sub3⟩:=main;obtain⟨t3,x3,t4,x4,rfl,ho3,_⟩:=hy.mk;obtain⟨v,un,tz,xz,rfl⟩:=hz.agg;refine iI func183 ?_;simp only[go_sem,zE,zB,zA,zM,zS,zL,reduceCtorEq,fits];refine (hV _).mono ?_;rintro _ st ⟨rfl,rfl⟩;cases hv:yXs ca s
 ·simp only[go_sem,zE,zB,zA,zM,zS,zL,reduceCtorEq];exact yQ0 (by unfold yXt;rw[hv];exact⟨_,_,rfl,.inl rfl,.inl rfl,rfl,rfl⟩)
 have hright:=zGa hv;simp only[go_sem,zE,zB,zA,zM,zS,zL,reduceCtorEq];refine (xGn gl ca _).mono ?_;rintro _ _ ⟨b,hb,rfl,rfl⟩;cases hr:rowS ca rule with
 | none =>
  have hq:yXt ca s rule (.mk o3 n3 us3 sub3) term name=([],191):=by unfold yXt;rw[hv,hr];rfl
  simp only[go_sem,zE,zB,zA,zM,zS,zL,reduceCtorEq,ISt.put_same,yWf,hr,Option.map_none,zQb,fits];exact yQb (yQz hb) (by rw[hq];exact⟨_,_,rfl,.inl rfl,.inl rfl,rfl,rfl⟩)
 | some r =>
  have hcall:=hA r hr;obtain⟨rl,rr,op,asks⟩:=r;have hq:yXt ca s rule (.mk o3 n3 us3 sub3) term name=if decide ((yJ6 ca rule ⟨rl,rr,op,asks⟩ (.mk o3 n3 us3 sub3) term name).2=192) || (rl&&!hasF s.l (.mk o3 n3 us3 sub3)) || (rr&&!hasF s.r (.mk o3 n3 us3 sub3)) then ([],192)
    else if (yJ6 ca rule ⟨rl,rr,op,asks⟩ (.mk o3 n3 us3 sub3) term name).2≠0 then ([],(yJ6 ca rule ⟨rl,rr,op,asks⟩ (.mk o3 n3 us3 sub3) term name).2) else ((yJ6 ca rule ⟨rl,rr,op,asks⟩ (.mk o3 n3 us3 sub3) term name).1,0):=by unfold yXt;rw[hv,hr];rfl
  have hask:(yJ6 ca rule ⟨rl,rr,op,asks⟩ (.mk o3 n3 us3 sub3) term name).2=0->asks=0:=λh=>by
   rcases xJt hr with h'|h'
   ·exact h'
   ·simp only at h';unfold yJ6 at h;rw[if_pos (by
     show (!fmB ca _ || (decide (op≠0)&&decide (o3≠op)))=true;rw[dEt (by omega),dEt (by omega),Bool.and_self,Bool.or_true])] at h
    cases h
  generalize yJ6 ca rule ⟨rl,rr,op,asks⟩ (.mk o3 n3 us3 sub3) term name=q at hq hcall hask;obtain⟨qs,qe⟩:=q;simp only at hq;simp only[go_sem,zE,zB,zA,zM,zS,zL,reduceCtorEq,ISt.put_same,yWf,hr,Option.map_some,yG8,rwI,fits];refine (hcall _).mono ?_;rintro _ _ ⟨tg,xs,rfl,he,hap,hxs,rfl⟩;by_cases h192:qe=192
  ·have d:decide ((qe:Int)=192)=true:=dEt (by omega);have hq':yXt ca s rule (.mk o3 n3 us3 sub3) term name=([],192):=by rw[hq,h192];rfl
   simp only[go_sem,zE,zB,zA,zM,zS,zL,reduceCtorEq,d,fits];exact yQb (yQz hb) (by rw[hq'];exact⟨_,_,rfl,.inl rfl,.inl rfl,rfl,rfl⟩)
  have d:decide ((qe:Int)=192)=false:=dEf (by omega);have h192':decide (qe=192)=false:=dEf h192;rw[h192',Bool.false_or] at hq;cases rl
  rotate_left
  simp only[go_sem,zE,zB,zA,zM,zS,zL,reduceCtorEq,d,fits];refine (hH1 _).mono ?_;rintro _ _ ⟨rfl,rfl⟩;cases h4:hasF s.l (.mk o3 n3 us3 sub3)
  ·simp only[go_sem,zE,zB,zA,zM,zS,zL,reduceCtorEq,fits];rw[h4] at hq;exact yQb (yQz hb) (by rw[hq];exact⟨_,_,rfl,.inl rfl,.inl rfl,rfl,rfl⟩)
  rw[h4] at hq
  rotate_left
  all_goals cases rr
  all_goals try
   simp only[go_sem,zE,zB,zA,zM,zS,zL,reduceCtorEq,d,fits];refine (hH2 _).mono ?_;rintro _ _ ⟨rfl,rfl⟩;cases h5:hasF s.r (.mk o3 n3 us3 sub3)
   ·simp only[go_sem,zE,zB,zA,zM,zS,zL,reduceCtorEq,fits];rw[h5] at hq;exact yQb (yQz hb) (by rw[hq];exact⟨_,_,rfl,.inl rfl,.inl rfl,rfl,rfl⟩)
   rw[h5] at hq
  all_goals
   simp only[Bool.false_and,Bool.true_and,Bool.and_false,Bool.not_true,Bool.or_false,bFt,if_false] at hq;by_cases h0:qe=0
   ·subst h0;simp only[ne_eq,nTf,if_false] at hq;have da:decide ((asks:Int)=2)=false:=dEf (by
     have:=hask rfl;omega)
    simp only[go_sem,zE,zB,zA,zM,zS,zL,reduceCtorEq,d,da,fits,show decide (((0:Nat):Int)=0)=true from rfl];exact yQb (yQz hb) (by rw[hq];exact⟨_,_,rfl,he,hap,hxs,rfl⟩)
   ·have d0:decide ((qe:Int)=0)=false:=dEf (by omega);rw[if_pos h0] at hq;simp only[go_sem,zE,zB,zA,zM,zS,zL,reduceCtorEq,d,d0,fits];exact yQb (yQz hb) (by rw[hq];exact⟨_,_,rfl,.inl rfl,.inl rfl,rfl,rfl⟩)
theorem vXt (G:Gl gl)(ca:Nat)(s:Sq)(x:IV)(hx:IsSq s x)(hs:yVt s)(rule:Nat)(main:Fm)(y:IV)(hy:IsFm main y)(hm:main.size<=1000000)(term:Tm)(z:IV)(hz:IsTm term z)(name:ByteArray)(st:ISt) :
  ICall prog gl 183 [.raw (.int .u8 ca),x,.raw (.int .u8 rule),y,z,.raw (.string name)] st (AdR st (yXt ca s rule main term name)) :=
 (vXs gl G ca s x hx hs rule main y hy hm term z hz name st).mono AdRD.w
theorem wK1:lenI prog 3=none:=by kernel_rfl
theorem zV1 (n:Nat):yXu none (some 0) n=some (0,0):=by simp[yXu]
theorem xZ9 (n:Nat):yXu none (some ((0:Nat):Int)) n=some (0,0):=zV1 n
theorem vWd (n:Nat)(hn:n<=1099511627776)(st:ISt):ICall prog gl 143 [.sl ⟨true,.nil,0⟩ [],.raw (.int .i64 n)] st (λr st' =>
  (n=0/\r=.sl ⟨true,.nil,0⟩ []/\st'=st)\/(∃g cap,st g=none/\n<=cap/\r=.raw (.slice (some ⟨g,0,none⟩) 0 cap)/\st'=st.put g (some (.box (List.replicate (cap*4) .junk))))):=by
 have h1:decide ((n:Int)<0)=false:=dEf (by omega);have h2:IntKind.i64.wrap ((0:Int)-((0:Nat):Int))=0:=rfl;have h3:IntKind.i64.wrap ((n:Int)-0)=n:=w64 (by omega) (by omega);refine iI func143 ?_;by_cases hz:n=0
 ·subst hz;simp only[go_sem,zE,zL,reduceCtorEq,h1,h2,h3,show decide ((0:Int)<((0:Nat):Int))=false from rfl];refine yQ0 (.inl ?_);simp
 ·have h4:decide ((0:Int)<(n:Int))=true:=dEt (by omega);simp only[go_sem,zE,zL,reduceCtorEq,h1,h2,h3,h4,zV1,wK1];refine yZg ⟨rfl,by omega,by show (n:Int)*72<=_;omega,by omega,by decide⟩ λg cap=>yQf λhg=>?_;obtain⟨hg,hc⟩:=hg;rw[Int.toNat_natCast] at hc;simp only[go_sem,zE,zL,reduceCtorEq,Int.toNat_natCast,xZ9,ite_self,Nat.zero_mul,hc];exact yQ0 (.inr ⟨g,cap,hg,hc,rfl,rfl⟩)
def catL (l:List (Tag×List IV)):List IV:=l.flatMap (·.2)
def catI (l:List (Tag×List IV)):List IV:=l.map λp=>.sl p.1 p.2
theorem zYl {l:List (Tag×List IV)}{k:Nat}{p:Tag×List IV}(h:l[k]?=some p):(catI l)[k]?=some (.sl p.1 p.2):=by simp[catI,List.getElem?_map,h]
theorem yVe {l:List (Tag×List IV)}{k:Nat}{p:Tag×List IV}(h:l[k]?=some p):catL (l.take (k+1))=catL (l.take k)++p.2:=by
 rw[yQ8 h];simp[catL]
theorem zYk (l:List (Tag×List IV))(k:Nat):(catL (l.take k)).length<=(catL l).length:=by
 conv=>rhs;rw[<- List.take_append_drop k l]
 unfold catL;rw[List.flatMap_append,lLa];omega
theorem yWs:∀ {l:List Fm}{xs:List IV},IsFms l xs->∀y∈xs,fits true 4 y=true
 | [],_,rfl,y,h=>by cases h
 | a::l,_,⟨x,xs,rfl,hx,hl⟩,y,h=>by
  rcases List.mem_cons.1 h with rfl|h
  ·obtain⟨o,n,t,x,t',x',rfl⟩:=hx.agg;simp[fits,IV.one]
  ·exact yWs hl y h
theorem wKf {y:IV}(h:fits true 4 y=true):y.cells.length=4:=(yJ8 h).2.1
theorem uWx {l:List IV}(h:∀y∈l,fits true 4 y=true):(l.flatMap IV.cells).length=l.length*4:=yZp l λx hx=>wKf (h x hx)
theorem wVg (l:List (Tag×List IV))(tt:Tag)(htt:okEs tt 1)(hfit:∀p∈l,∀y∈p.2,fits true 4 y=true)(hlen:(catL l).length<=1099511627776)(st:ISt) :
  ICall prog gl 89 [.sl tt (catI l)] st (λr st'=>(∃t,r=.sl t []/\okEs t 4/\catL l=[]/\st'=st) \/
   ∃g cap cs,st g=none/\(catL l).length<=cap/\cap*4<=cs.length/\cs.take ((catL l).length*4)=(catL l).flatMap IV.cells/\r=.raw (.slice (some ⟨g,0,none⟩) (catL l).length cap)/\st'=st.put g (some (.box cs))):=by
 have hli:(catI l).length=l.length:=by simp[catI]
 have hfc:∀y∈catL l,fits true 4 y=true:=λy hy=>by
  obtain⟨p,hp,hy⟩:=List.mem_flatMap.1 hy;exact hfit p hp y hy
 refine iI func89 ?_;simp only[go_sem,reduceCtorEq,hli];intro hl;refine LoopC.ctr l.length (λk fr st' ds=>fr 0=.iv (.sl tt (catI l))/\fr 3=.iv (.raw (.int .i64 (catL (l.take k)).length))/\fr 9=.iv (.sl tt (catI l))/\fr 10=.iv (.raw (.int .i64 l.length))/\fr 11=.iv (.raw (.int .i64 k))/\st'=st/\ds=[]) ?_ ?_ ?_
 ·simp only[go_sem,zE,reduceCtorEq];simp[catL]
 ·rintro k fr st1 _ hlt ⟨f0,f3,f9,f10,f11,rfl,rfl⟩;obtain⟨p,hp⟩:=yQ3 hlt;have h1:=zYk l k;have h2:=zYk l (k+1);rw[yVe hp,lLa] at h2;have h3:IntKind.i64.wrap ((((catL (l.take k)).length:Nat):Int)+((p.2.length:Nat):Int))=((catL (l.take (k+1))).length:Nat):=by
   rw[w64 (by omega) (by omega),yVe hp,lLa];omega
  have h4:decide ((((catL (l.take (k+1))).length:Nat):Int)<0)=false:=dEf (by omega);simp only[go_sem,zE,f3,f9,f10,f11,lt_i hlt,yQ2 htt,iNn,zYl hp,fits,h3];intro hpl;simp only[go_sem,zE,reduceCtorEq,h3,h4,f0,f9,f10,f11,yQa hlt (show l.length<=281474976710656 by omega)]
 ·rintro fr st1 _ ⟨f0,f3,f9,f10,f11,rfl,rfl⟩;rw[lTl] at f3;simp only[go_sem,zE,zA,f3,f10,f11,yQk (nLi _)];refine (vWd gl (catL l).length hlen _).mono ?_;have loop:∀(I:Nat->IV->ISt->Prop),True:=λ_=>trivial;rintro r st2 (⟨hz,rfl,rfl⟩|⟨g,cap,hg,hcap,rfl,rfl⟩)
  ·have hnil:catL l=[]:=List.eq_nil_of_length_eq_zero hz;simp only[go_sem,reduceCtorEq,f0,hli];intro _;refine LoopC.ctr l.length (λk fr st' ds=>(∃t,fr 6=.iv (.sl t [])/\t.cap=.nil)/\fr 25=.iv (.sl tt (catI l))/\fr 26=.iv (.raw (.int .i64 l.length))/\fr 27=.iv (.raw (.int .i64 k))/\st'=st2/\ds=[]) ?_ ?_ ?_
   ·simp only[go_sem,zE];exact⟨⟨_,rfl,rfl⟩,rfl⟩
   ·rintro k fr st1 _ hlt ⟨⟨t,f6,ht⟩,f25,f26,f27,rfl,rfl⟩;obtain⟨p,hp⟩:=yQ3 hlt;have hp0:p.2=[]:=by
     have:=yVe hp;have h2:=zYk l (k+1);rw[this,lLa,hnil,List.length_nil] at h2;exact List.eq_nil_of_length_eq_zero (by omega)
    obtain⟨fs,c,es⟩:=t;obtain rfl:c=.nil:=ht;simp only[go_sem,zE,zA,zM,zL,f6,f25,f26,f27,lt_i hlt,yQ2 htt,iNn,zYl hp,fits,hp0,yQa hlt (show l.length<=281474976710656 by omega)];exact⟨_,rfl,rfl⟩
   ·rintro fr st1 _ ⟨⟨t,f6,ht⟩,f25,f26,f27,rfl,rfl⟩;simp only[go_sem,zE,f6,f26,f27,yQk (nLi _)];exact yQ0 (.inl ⟨_,rfl,.inl ht,hnil,rfl⟩)
  ·simp only[go_sem,reduceCtorEq,f0,hli];intro _;refine LoopC.ctr l.length (λk fr st' ds=>(∃g cap cs,st1 g=none/\(catL (l.take k)).length<=cap/\cap*4<=cs.length/\cs.take ((catL (l.take k)).length*4)=(catL (l.take k)).flatMap IV.cells/\fr 6=.iv (.raw (.slice (some ⟨g,0,none⟩) (catL (l.take k)).length cap))/\st'=st1.put g (some (.box cs)))/\fr 25=.iv (.sl tt (catI l))/\fr 26=.iv (.raw (.int .i64 l.length))/\fr 27=.iv (.raw (.int .i64 k))/\ds=[]) ?_ ?_ ?_
   ·simp only[go_sem,zE];exact⟨⟨g,cap,_,hg,by simp[catL],by simp,by simp[catL],by simp[catL],rfl⟩,rfl⟩
   ·rintro k fr st' _ hlt ⟨⟨g,cap,cs,hg,hc1,hc2,hc3,f6,rfl⟩,f25,f26,f27,rfl⟩;obtain⟨p,hp⟩:=yQ3 hlt;have h2:=zYk l (k+1);rw[yVe hp,lLa] at h2;have hpf:=hfit p (lMg hp);simp only[go_sem,zE,zA,f6,f25,f26,f27,lt_i hlt,yQ2 htt,iNn,zYl hp,fits];refine yKy _ _ _ (ISt.put_same ..) (List.all_eq_true.2 hpf) ⟨by show _*72<=_;omega,by omega⟩ ⟨hc1,hc2⟩ (uWx hpf) ?_;intro g' cap' cs' hg' k1 k2 k3;simp only[go_sem,zE,f25,f26,f27,yQa hlt (show l.length<=281474976710656 by omega)];have hst':((st1.put g (some (.box cs))).put g none).put g' (some (.box cs'))=st1.put g' (some (.box cs')):=by
     funext c;simp only[ISt.put_apply];split
     ·rfl
     ·split
      ·subst_vars;exact hg.symm
      ·rfl
    have hg1:st1 g'=none:=by
     rcases hg' with rfl|h
     ·exact hg
     ·rw[ISt.put_apply] at h;split at h
      ·cases h
      ·exact h
    refine⟨g',cap',cs',hg1,?_,k2,?_,?_,hst'⟩
    ·rw[yVe hp,lLa];exact k1
    ·rw[yVe hp,lLa,List.flatMap_append,<- hc3];exact k3
    ·rw[yVe hp,lLa]
   ·rintro fr st' _ ⟨⟨g,cap,cs,hg,hc1,hc2,hc3,f6,rfl⟩,f25,f26,f27,rfl⟩;rw[lTl] at *;simp only[go_sem,zE,f6,f26,f27,yQk (nLi _)];exact yQ0 (.inr ⟨g,cap,cs,hg,hc1,hc2,hc3,rfl,rfl⟩)
theorem zYx (l1 l2:List Fm)(t1 t2 tt:Tag)(x1 x2:List IV)(htt:okEs tt 1)(h1:IsFms l1 x1)(h2:IsFms l2 x2)(hlen:l1.length+l2.length<=1099511627776)(st:ISt) :
  ICall prog gl 89 [.sl tt [.sl t1 x1,.sl t2 x2]] st (λr st'=>∃t ys,r=.sl t ys/\okEs t 4/\IsFms (l1++l2) ys/\st'=st):=by
 have hc:catL [(t1,x1),(t2,x2)]=x1++x2:=by simp[catL]
 have hf:=h1.append h2;have hlx:(x1++x2).length<=1099511627776:=by rw[hf.len,lLa];exact hlen
 have key:=wVg gl [(t1,x1),(t2,x2)] tt htt (λp hp y hy=>by
  rcases List.mem_cons.1 hp with rfl|hp
  ·exact yWs h1 y hy
  ·obtain rfl:=List.mem_singleton.1 hp;exact yWs h2 y hy) (by rw[hc];exact hlx) st
 rw[hc] at key;refine ICall.fix (key.mono λr st' h=>?_);rcases h with⟨t,rfl,ht,hn,rfl⟩|⟨g,cap,cs,hg,hc1,hc2,hc3,rfl,rfl⟩
 ·exact⟨.sl t [],(λ_=>none),st',LendOk.mk (λb o h=>by cases h) (subSt.refl _) (λb cs h=>by cases h),.refl _,⟨false,t.cap,t.es⟩,[],by simp only[age,ages],ht,hn▸hf,rfl⟩
 ·have hcell:∀y∈x1++x2,y.cells.length=4:=λy hy=>wKf (yWs hf y hy);refine⟨.sl ⟨true,.app g,4⟩ (x1++x2),ISt.put (λ_=>none) g (some (.box cs)),st,⟨λb o h=>?_,yQz hg,λb cs' h=>?_⟩,.sl g cap ⟨true,.app g,4⟩ (x1++x2) cs rfl (by omega) hc1 hcell (ISt.put_same ..) hc2 λi r c hr hx=>?_,⟨false,.app g,4⟩,ages (x1++x2),by simp only[age],.inr rfl,hf.aged,rfl⟩
  ·rw[ISt.put_apply] at h ⊢;split at h
   ·rename_i hb;rw[if_pos hb];exact h
   ·cases h
  ·rw[ISt.put_apply] at h;split at h
   ·rename_i hb;rw[hb];exact hg
   ·cases h
  ·have hi:i<(x1++x2).length*4:=by
    have:=(lGs hx).1
    rwa [yZp _ hcell] at this
   have:(cs.take ((x1++x2).length*4))[i]?=cs[i]?:=by rw[List.getElem?_take,if_pos hi]
   rw[hc3,hx,hr] at this;cases this;exact .refl _
theorem wG6 {ca:Nat}{s:Sq}{rule:Nat}{main:Fm}{term:Tm}{name:ByteArray}{ad:List Sq}(h:yXt ca s rule main term name=(ad,0)) :
  yXs ca s=true/\∃r,(yJ6 ca rule r main term name)=(ad,0):=by
 unfold yXt at h;split at h
 ·simp at h
 ·rename_i hv;split at h
  ·simp at h
  ·rename_i r _;split at h
   ·simp at h
   ·split at h
    ·rename_i h1 h2;injection h with h3 h4;exact absurd h4 h2
    ·rename_i h1 h2;injection h with h3 h4;refine⟨by simpa using hv,r,?_⟩;rw[<- h3];exact Prod.ext rfl (by simpa using h2)
theorem yX1:fitL []:=λf h=>by cases h
theorem zYd {f:Fm}(h:f.size<=1000):fitL [f]:=λg hg=>by obtain rfl:=List.mem_singleton.1 hg;omega
theorem xV6 {f g:Fm}(h:f.size<=1000)(h':g.size<=1000):fitL [f,g]:=λk hk=>by
 rcases List.mem_cons.1 hk with rfl|hk
 ·omega
 ·obtain rfl:=List.mem_singleton.1 hk;omega
theorem yJ1 {c:Prop} [Decidable c]{A B:List Sq}{P:Sq->Prop}(h1:∀s∈A,P s)(h2:∀s∈B,P s):∀s∈(if c then A else B),P s:=by split<;>assumption
def yYd (s:Sq):Prop:=yVt s/\s.l.length<=64/\s.r.length<=64
theorem wV1 {ca rule:Nat}{main a b:Fm}(hm:main.size<=400)(ha:a.size<=400)(hb:b.size<=400):∀s∈addS ca rule main a b,yYd s:=by
 have hi:(impF a b).size<=1000:=by simp only[impF,Fm.size,yQy,yQ7];omega
 have hi':(impF b a).size<=1000:=by simp only[impF,Fm.size,yQy,yQ7];omega
 have l1:=zYd (show main.size<=1000 by omega);have l2:=zYd (show a.size<=1000 by omega);have l3:=zYd (show b.size<=1000 by omega);have l4:=xV6 (show a.size<=1000 by omega) (show b.size<=1000 by omega);have l5:=xV6 hi hi';have q0:∀s∈([]:List Sq),yYd s:=λs hs=>by cases hs
 have q1:∀ {x:Sq},yYd x->∀s∈[x],yYd s:=λhx s hs=>by obtain rfl:=List.mem_singleton.1 hs;exact hx
 have q2:∀ {x y:Sq},yYd x->yYd y->∀s∈[x,y],yYd s:=λhx hy s hs=>by
  rcases List.mem_cons.1 hs with rfl|hs
  ·exact hx
  ·obtain rfl:=List.mem_singleton.1 hs;exact hy
 have c0:([]:List Fm).length<=64:=Nat.zero_le _;have c1:∀f:Fm,[f].length<=64:=λ_=>by simp
 have c2:∀f g:Fm,[f,g].length<=64:=λ_ _=>by simp
 unfold addS;refine yJ1 (q1 ⟨⟨yX1,l2⟩,c0,c1 _⟩) (yJ1 (q1 ⟨⟨l2,yX1⟩,c1 _,c0⟩) (yJ1 (q1 ⟨⟨l4,yX1⟩,c2 _ _,c0⟩) (yJ1 (q2 ⟨⟨yX1,l2⟩,c0,c1 _⟩ ⟨⟨yX1,l3⟩,c0,c1 _⟩) (yJ1 (q2 ⟨⟨l2,yX1⟩,c1 _,c0⟩ ⟨⟨l3,yX1⟩,c1 _,c0⟩)
  (yJ1 (yJ1 (q1 ⟨⟨yX1,l2⟩,c0,c1 _⟩) (q1 ⟨⟨yX1,l4⟩,c0,c2 _ _⟩)) (yJ1 (q2 ⟨⟨yX1,l2⟩,c0,c1 _⟩ ⟨⟨l3,yX1⟩,c1 _,c0⟩) (yJ1 (q1 ⟨⟨l2,l3⟩,c1 _,c1 _⟩) (yJ1 (q1 ⟨⟨l5,yX1⟩,c2 _ _,c0⟩) (yJ1 (q2 ⟨⟨l2,l3⟩,c1 _,c1 _⟩ ⟨⟨l3,l2⟩,c1 _,c1 _⟩)
  (yJ1 (q1 ⟨⟨l2,yX1⟩,c1 _,c0⟩) (yJ1 (q1 ⟨⟨yX1,l2⟩,c0,c1 _⟩) (yJ1 (q1 ⟨⟨l2,yX1⟩,c1 _,c0⟩) (yJ1 (q1 ⟨⟨yX1,l2⟩,c0,c1 _⟩) (yJ1 (q2 ⟨⟨yX1,l1⟩,c0,c1 _⟩ ⟨⟨l1,yX1⟩,c1 _,c0⟩) (yJ1 (q1 ⟨⟨yX1,l3⟩,c0,c1 _⟩) q0)))))))))))))))
theorem yXe:∀ {l:List Fm}{g:Fm},g∈l->g.size<=yQ7 l
 | a::l,g,h=>by
  simp only[yQ7];rcases List.mem_cons.1 h with rfl|h
  ·omega
  ·have:=yXe h;omega
theorem wKa {l:List Fm}{n:Nat}(h:yQ7 l<=n)(hn:1<=n)(k:Nat):((l[k]?).getD fm0).size<=n:=by
 cases hk:l[k]? with
 | none=>exact hn
 | some a=>exact Nat.le_trans (yXe (lMg hk)) h
theorem wZm {ca rule:Nat}{r:Rw}{main:Fm}{term:Tm}{name:ByteArray}{ad:List Sq}(h:yJ6 ca rule r main term name=(ad,0)):∀s∈ad,yYd s:=by
 unfold yJ6 at h;by_cases hc:(!fmB ca main || (decide (r.op≠0)&&decide (main.op≠r.op)))=true
 ·rw[if_pos hc] at h;cases (Prod.mk.inj h).2
 ·rw[if_neg hc] at h;have hf:fmB ca main=true:=by
   cases hq:fmB ca main
   ·simp[hq] at hc
   ·rfl
  have hm:main.size<=400:=by
   unfold fmB at hf;simp only[bAt] at hf;exact (xJv hf.1).2.1
  have hs:∀k,((main.subs[k]?).getD fm0).size<=400:=λk=>wKa (by
   obtain⟨o,n,us,sub⟩:=main;simp only[Fm.size] at hm;show yQ7 sub<=400;omega) (by omega) k
  rw[<- (Prod.mk.inj h).1];exact wV1 hm (hs 0) (hs 1)
theorem yWi (s:Sq):∀(l l':List Sq) (ts ts':List Tr),l.length=ts.length->yXm s (l++l') (ts++ts')=(yXm s l ts&&yXm s l' ts')
 | [],l',[],ts',_=>by simp[yXm]
 | a::l,l',t::ts,ts',h=>by
  simp only[List.cons_append,yXm,yWi s l l' ts ts' (by simpa using h),Bool.and_assoc]
 | [],_,_::_,_,h=>by simp at h
 | _::_,_,[],_,h=>by simp at h
theorem zJt {l l':List Fm}(h:fitL l)(h':fitL l'):fitL (l++l'):=λf hf=>(List.mem_append.1 hf).elim (h f) (h' f)
theorem vQm (G:Gl gl)(ca rule:Nat)(s:Sq)(main:Fm)(term:Tm)(name:ByteArray)(sub:List Tr)(x:IV)(hx:IsTr (.mk rule s main term name sub) x)(hs:yVt s)(hm:main.size<=1000000)(ht:term.size<=1000000)
  (hsub:∀a∈sub,yVt a.sq) (st:ISt):ICall prog gl 119 [.raw (.int .u8 ca),.cptr x] st (λr st'=>r=.raw (.int .i64 (yZh ca (.mk rule s main term name sub)))/\st'=st):=by
 obtain⟨tl,xl,tr,xr,op,fn,ta,xa,tb,xb,v,un,tu,xu,ts,xs,rfl,hru,e1,i1,e2,i2,hy,hz,e3,i3⟩:=hx.mk;have hstep:=λst=>vXt gl G ca s _ ⟨tl,xl,tr,xr,rfl,e1,i1,e2,i2⟩ hs rule main _ hy hm term _ hz name st;unfold yZh;refine ICall.intro (c:=cf prog gl [] [(9,[0,1,2,3,4,5,6,7,9,10,11,12,13,14,15,16,19,8,17,18,20])]) func119 rfl (by show _<=84;simp) (by kernel_rfl) ?_;simp only[go_sem,zE,zB,zA,zM,zS,zL,reduceCtorEq,fits];refine (hstep _).mono ?_;rintro _ st ⟨tg,ys,rfl,he,hys,rfl⟩;generalize hq:yXt ca s rule main term name=q at hys ⊢;obtain⟨ad,er⟩:=q;simp only at hys ⊢;by_cases h0:er=0
 ·subst h0;obtain⟨hv,r,hr⟩:=wG6 hq;have hfit:=wZm hr;simp only[go_sem,zE,zB,zA,zM,zS,zL,reduceCtorEq,show decide (((0:Nat):Int)=0)=true from rfl,i3.len,hys.len,fits];intro _ _;by_cases hl:sub.length=ad.length
  ·have dl:decide ((sub.length:Int)=(ad.length:Int))=true:=dEt (by omega);simp only[go_sem,zE,zB,zA,zM,zS,zL,reduceCtorEq,dl,hys.len];intro _;refine LoopC.ctr ad.length (λk fr st' ds=>yXm s (ad.take k) (sub.take k)=true/\fr 0=.iv (.raw (.int .u8 ca))/\fr 1=.iv (.cptr (.agg [.raw (.int .u8 rule),.sl tl xl,.sl tr xr,.raw (.int .u8 op),.raw (.string fn),.sl ta xa,.sl tb xb,.raw (.bool v),.raw (.string un),.sl tu xu,.raw (.string name),.sl ts xs]))/\fr 46=.iv (.sl tg ys)/\fr 47=.iv (.raw (.int .i64 ad.length))/\fr 48=.iv (.raw (.int .i64 k))/\st'=st/\ds=[]) ?_ ?_ ?_
   ·simp only[go_sem,zE,zB,zA,zM,zS,zL,reduceCtorEq];simp[yXm]
   ·rintro k fr st1 _ hlt ⟨hn,f0,f1,f46,f47,f48,rfl,rfl⟩;obtain⟨a,ha⟩:=yQ3 hlt;obtain⟨w,hkw,hw⟩:=hys.get ha;obtain⟨b,hb⟩:=yQ3 (l:=sub) (k:=k) (by omega);obtain⟨z,hkz,hz⟩:=i3.get hb;have hza:=hfit a (lMg ha);have hvl:s.l.length<=64/\s.r.length<=64:=by
     unfold yXs at hv;simp only[bAt,dTe] at hv;exact⟨hv.1.1.1.1.2,hv.1.1.1.2⟩
    obtain⟨t1,x1,t2,x2,rfl,k1,j1,k2,j2⟩:=hw;have hC1:=λst=>zYx gl s.l a.l tl t1 ⟨true,.full,1⟩ xl x1 (.inr rfl) i1 j1 (by have:=hza.2.1;omega) st;have hC2:=λst=>zYx gl s.r a.r tr t2 ⟨true,.full,1⟩ xr x2 (.inr rfl) i2 j2 (by have:=hza.2.2;omega) st;have hsb:=hsub b (lMg hb);obtain⟨br,bs,bm,bt,bn,bsub⟩:=b;obtain⟨tl',xl',tr',xr',op',fn',ta',xa',tb',xb',v',un',tu',xu',ts',xs',rfl,_,g1,m1,g2,m2,_⟩:=hz.mk;have hlen1:(ad.take k).length=(sub.take k).length:=by rw[List.length_take,List.length_take];omega
    have hpl:yVt (s.plus a):=⟨zJt hs.1 hza.1.1,zJt hs.2 hza.1.2⟩
    simp only[go_sem,zE,zB,zA,zM,zS,zL,reduceCtorEq,f0,f1,f46,f47,f48,lt_i hlt,yQ2 he,yQ2 e3,iNn,hkw,hkz,fits,yQe];refine (hC1 _).mono ?_;rintro _ st2 ⟨t3,y1,rfl,g3,m3,rfl⟩;simp only[go_sem,zE,zB,zA,zM,zS,zL,reduceCtorEq,f0,f1,f46,f47,f48,lt_i hlt,yQ2 he,yQ2 e3,iNn,hkw,hkz,fits,yQe];refine (hC2 _).mono ?_;rintro _ st2 ⟨t4,y2,rfl,g4,m4,rfl⟩;simp only[go_sem,zE,zB,zA,zM,zS,zL,reduceCtorEq,f0,f1,f46,f47,f48,lt_i hlt,yQ2 he,yQ2 e3,iNn,hkw,hkz,fits,yQe];refine (wV3 gl G bs (s.plus a) _ _ ⟨_,_,_,_,rfl,g1,m1,g2,m2⟩ ⟨_,_,_,_,rfl,g3,m3,g4,m4⟩ hsb hpl _).mono ?_;rintro _ st2 ⟨rfl,rfl⟩;cases hw:yXj bs (s.plus a)
    ·simp only[go_sem,zE,zB,zA,zM,zS,zL,reduceCtorEq];refine yQ0 ⟨?_,rfl⟩;have hp:yXm s ad sub=false:=by
      conv=>lhs;rw[<- List.take_append_drop k ad,<- List.take_append_drop k sub]
      rw[List.drop_eq_getElem_cons hlt,List.drop_eq_getElem_cons (show k<sub.length by omega),yWi s _ _ _ _ hlen1,(lGs ha).2,(lGs hb).2];simp only[yXm,Tr.sq,hw,Bool.false_and,Bool.and_false]
     rw[if_neg (by omega),if_neg (by omega),hp];rfl
    ·simp only[go_sem,zE,zB,zA,zM,zS,zL,reduceCtorEq,f0,f1,f46,f47,f48,yQa hlt (show ad.length<=281474976710656 by omega)];rw[yQ8 ha,yQ8 hb,yWi s _ _ _ _ hlen1,hn];simp only[yXm,Tr.sq,hw,Bool.true_and]
   ·rintro fr st1 _ ⟨hn,f0,f1,f46,f47,f48,rfl,rfl⟩;rw[lTl,show sub.take ad.length=sub by rw[<- hl,lTl]] at hn;simp only[go_sem,zE,zB,zA,zM,zS,zL,reduceCtorEq,f47,f48,yQk (nLi _)];refine yQ0 ⟨?_,rfl⟩;rw[if_neg (by omega),if_neg (by omega),hn];rfl
  ·have dl:decide ((sub.length:Int)=(ad.length:Int))=false:=dEf (by omega);simp only[go_sem,zE,zB,zA,zM,zS,zL,reduceCtorEq,dl];refine yQ0 ⟨?_,rfl⟩;rw[if_neg (by omega),if_pos hl];rfl
 ·have d0:decide ((er:Int)=0)=false:=dEf (by omega);simp only[go_sem,zE,zB,zA,zM,zS,zL,reduceCtorEq,d0];refine yQ0 ⟨?_,rfl⟩;rw[if_pos h0]
theorem xQr (t:Tag)(ht:t.cap=.nil)(st:ISt):ICall prog gl 113 [.sl t []] st (λr st'=>(∃t',r=.sl t' (plI [])/\okEs t' 1)/\st'=st):=by
 obtain⟨fs,c,es⟩:=t;obtain rfl:c=.nil:=ht;refine iI func113 ?_;have hb:binV prog 59 .eql (.sl ⟨fs,.nil,es⟩ []) (.sl ⟨true,.nil,0⟩ [])=some (.raw (.bool true)):=by
  have:yVj prog 59=true:=by kernel_rfl
  simp[binV,zQ0,this]
 simp only[go_sem,reduceCtorEq,hb];exact yQ0 ⟨⟨_,rfl,.inl rfl⟩,rfl⟩
theorem wXa (g:Nat)(p:List Nat)(hp:p≠[])(hl:p.length<=1099511627776)(st:ISt):ICall prog gl 113 [.sl ⟨false,.app g,1⟩ (plI p)] st (λr st'=>(∃t',r=.sl t' (plI p)/\okEs t' 1)/\st'=st):=by
 obtain⟨i,p,rfl⟩:∃i q,p=i::q:=by
  cases p with
  | nil=>exact absurd rfl hp
  | cons i q=>exact⟨i,q,rfl⟩
 refine iI func113 ?_;have hb:binV prog 59 .eql (.sl ⟨false,.app g,1⟩ (plI (i::p))) (.sl ⟨true,.nil,0⟩ [])=some (.raw (.bool false)):=by
  have:yVj prog 59=true:=by kernel_rfl
  simp[binV,zQ0,this]
 have hf:(plI (i::p)).all (fits false 1)=true:=by simp[plI,fits,IV.one]
 simp only[List.length_cons] at hl;have he:plI (i::p)=.raw (.int .i64 (i:Int))::plI p:=rfl;have hpl:=yWj p;have hf':(plI p).all (fits false 1)=true:=by simp[plI,fits,IV.one]
 rw[he] at hb hf ⊢;simp only[go_sem,zE,zA,zM,zL,reduceCtorEq,fits,hb];exact yZg rfl (yZg hf' (yZg ⟨by omega,by omega⟩ λg'=>yQf λhg=>yQb (yQz hg) ⟨⟨_,rfl,.inr rfl⟩,rfl⟩))
theorem xY8 {R:Rt}{st:ISt}{ds:List Dfd}(esc:List Nat)(dst:Option Nat)(e:TypeId×Bool×Nat×Nat)(fs:Bool)(es:Nat)(xs:List IV):appV esc dst e ⟨fs,.full,es⟩ xs [] R st ds =
 chk (([]:List IV).all (fits e.2.1 e.2.2.1)=true) (chk ((xs.length+0)*e.2.2.2<=140737488355328/\xs.length+0<=140737488355328) (chk (es=e.2.2.1) (R (.val (.sl ⟨fs,.full,es⟩ xs)) st ds))):=rfl
theorem xYe (g:Nat)(st:ISt):ICall prog gl 113 [.sl ⟨false,.app g,1⟩ (plI [])] st (λr st'=>(∃t',r=.sl t' (plI [])/\okEs t' 1)/\st'=st):=by
 have hb:binV prog 59 .eql (.sl ⟨false,.app g,1⟩ (plI [])) (.sl ⟨true,.nil,0⟩ [])=some (.raw (.bool false)):=by
  have:yVj prog 59=true:=by kernel_rfl
  simp[binV,zQ0,this]
 rw[show plI []=[] from rfl] at hb ⊢;refine iI func113 ?_;simp only[go_sem,zE,zA,zM,zL,reduceCtorEq,hb,xY8];exact yZg rfl (yQ0 ⟨⟨_,rfl,.inr rfl⟩,rfl⟩)
theorem wQa {s e:ISt}(h:disj s e):join s e=join e s:=by
 funext b;cases he:e b with
 | none =>
  rw[yQw he];cases hs:s b with
  | none=>rw[yQw hs,he]
  | some o=>rw[yQt hs]
 | some o=>rw[yQt he,yQw (h b (by rw[he];simp)),he]
theorem xVf:∀p:List Nat,ages (plI p)=plI p
 | []=>by simp only[plI,List.map_nil,ages]
 | i::p=>by
  have:=xVf p;simp only[plI,List.map_cons,ages,age] at this ⊢;rw[this]
theorem xK0:∀p:List Nat,(plI p).flatMap IV.cells=plI p
 | []=>rfl
 | i::p=>by
  have:=xK0 p;simp only[plI,List.map_cons,List.flatMap_cons,IV.cells,List.singleton_append] at this ⊢;rw[this]
theorem wX9 (p:List Nat)(a:IV)(e s:ISt)(hp:PlV p a e)(hl:p.length<=1099511627776)(hd:disj s e):ICall prog gl 113 [a] (join s e) (λr st'=>(∃t',r=.sl t' (plI p)/\okEs t' 1)/\st'=s):=by
 have key:ICall prog gl 113 [a] e (λr st'=>(∃t',r=.sl t' (plI p)/\okEs t' 1)/\st'=emp):=by
  rcases hp with⟨t,rfl,ht,rfl,rfl⟩|⟨g,cap,cs,rfl,rfl,h1,h2,h3⟩
  ·exact xQr gl t ht emp
  ·have hnb:yKk (emp.put g (some (.box cs)))=emp:=by
    funext b;by_cases hb:b=g
    ·rw[hb,yUe (ISt.put_same ..)];rfl
    ·have:(emp.put g (some (.box cs))) b=none:=by rw[ISt.put_apply,if_neg hb];rfl
     rw[yW2 (λcs' h=>by rw[this] at h;cases h),this];rfl
   refine ICall.freeze (args':=[.sl ⟨false,.app g,1⟩ (plI p)]) ⟨_,_,rfl,.inr ⟨.sl ⟨true,.app g,1⟩ (plI p),?_,?_⟩,rfl⟩ ?_
   ·rw[<- yWj p];refine .sl g cap ⟨true,.app g,1⟩ (plI p) cs rfl (by rw[yWj];omega) (by rw[yWj];exact h1) (λx hx=>?_) (ISt.put_same ..) (by simpa using h2) λi r c hr hc=>?_
    ·obtain⟨i,_,rfl⟩:=List.mem_map.1 hx;rfl
    ·rw[xK0 p] at hc;have hi:i<p.length:=by
      have:=(lGs hc).1
      rwa [yWj] at this
     have:(cs.take p.length)[i]?=cs[i]?:=by rw[List.getElem?_take,if_pos hi]
     rw[h3,hc,hr] at this;cases this;exact .refl _
   ·simp only[age,xVf]
   ·rw[hnb];by_cases hpn:p=[]
    ·subst hpn;exact xYe gl g emp
    ·exact wXa gl g p hpn hl emp
 have h1:=key.frame (own:=s) (λb hb=>by
  cases he:e b with
  | none=>rfl
  | some o=>exact absurd (hd b (by rw[he];simp)) hb)
 rw[wQa hd];refine h1.mono ?_;rintro r st' ⟨stu,_,rfl,hr,rfl⟩;refine⟨hr,?_⟩;funext b;cases hs:s b with
 | none=>rw[yQw hs];rfl
 | some o=>rw[yQt hs]
def xKg:Tr->Prop
 | .mk _ s m u _ sub=>yVt s/\m.size<=1000000/\u.size<=1000000/\∀a∈sub,yVt a.sq
def vVa (t:Tr):Prop:=(∀q∈t.walk [],xKg q.2)/\t.height<=1099511627776
theorem wKq (G:Gl gl)(ca:Nat)(t:Tr)(x:IV)(hx:IsTr t x)(hn:xKg t)(st:ISt):ICall prog gl 119 [.raw (.int .u8 ca),.cptr x] st (λr st'=>r=.raw (.int .i64 (yZh ca t))/\st'=st):=by
 obtain⟨rule,s,m,u,n,sub⟩:=t;exact vQm gl G ca rule s m u n sub x hx hn.1 hn.2.1 hn.2.2.1 hn.2.2.2 st
theorem yX4 {t:Tr}{x:IV}(h:IsTr t x):∃(rule:Nat) (tl:Tag) (xl:List IV) (tr:Tag) (xr:List IV) (op:Int) (fn:ByteArray) (ta:Tag) (xa:List IV) (tb:Tag) (xb:List IV) (v:Bool) (un:ByteArray) (tu:Tag) (xu:List IV) (n:ByteArray) (ts:Tag) (xs:List IV),
  x=.agg [.raw (.int .u8 rule),.sl tl xl,.sl tr xr,.raw (.int .u8 op),.raw (.string fn),.sl ta xa,.sl tb xb,.raw (.bool v),.raw (.string un),.sl tu xu,.raw (.string n),.sl ts xs]:=by
 obtain⟨r',s',m',t',n',b'⟩:=t;obtain⟨tl',xl',tr',xr',op',fn',ta',xa',tb',xb',v',un',tu',xu',ts',xs',rfl,_⟩:=h.mk;exact⟨_,_,_,_,_,_,_,_,_,_,_,_,_,_,_,_,_,_,rfl⟩
mutual
theorem zW5:∀(p:List Nat)(t:Tr),(t.walk p).length=t.steps
 | p,.mk _ _ _ _ _ sub=>by simp only[Tr.walk,Tr.steps,List.length_cons,zXf p 0 sub];omega
theorem zXf:∀(p:List Nat)(i:Nat)(l:List Tr),(yQs p i l).length=yQm l
 | _,_,[]=>rfl
 | p,i,a::l=>by simp only[yQs,yQm,lLa,zW5 (p++[i]) a,zXf p (i+1) l]
end
mutual
theorem zG2:∀(q:List Nat)(t:Tr)(x:List Nat×Tr),x∈t.walk q->x.1.length+1<=q.length+t.height
 | q,.mk _ _ _ _ _ sub,x,h=>by
  simp only[Tr.walk,List.mem_cons] at h;simp only[Tr.height];rcases h with rfl|h
  ·simp only;omega
  ·have:=zQv q 0 sub x h;omega
theorem zQv:∀(q:List Nat)(i:Nat)(l:List Tr)(x:List Nat×Tr),x∈yQs q i l->x.1.length<=q.length+yJv l
 | _,_,[],x,h=>by simp[yQs] at h
 | q,i,a::l,x,h=>by
  simp only[yQs,List.mem_append] at h;simp only[yJv];rcases h with h|h
  ·have:=zG2 (q++[i]) a x h;rw[lLa] at this;simp only[List.length_singleton] at this;omega
  ·have:=zQv q (i+1) l x h;omega
end
def CkI (st:ISt)(b2 b4 b5 b6 ca c:Nat)(s:ISt):Prop:=s b2=some (.box [.raw (.int .u8 ca)])/\s b4=some (.box [.sl ⟨true,.nil,0⟩ []])/\s b5=some (.box [.raw (.int .i64 0)])/\s b6=some (.box [.raw (.int .i64 c)])/\subSt st s
def CkS (st:ISt)(b4 b5:Nat)(q:List Nat×Nat)(e:Exit)(s:ISt):Prop:=e=.ret/\(∃tg,s b4=some (.box [.sl tg (plI q.1)])/\okEs tg 1)/\s b5=some (.box [.raw (.int .i64 q.2)])/\subSt st s
theorem wXb (G:Gl gl)(ca:Nat)(t:Tr)(x:IV)(hx:IsTr t x)(hfit:vVa t)(st:ISt):ICall prog gl 73 [.raw (.int .u8 ca),x] st (λr st'=>(∃tg,r=.tup [.sl tg (plI (yXc ca t).1),.raw (.int .i64 (yXc ca t).2)]/\okEs tg 1)/\st'=st):=by
 have hst:=λst=>wG5 gl x st t hx;have hit:=λI=>wXt gl t x hx hfit.2 I;have hkn:=λst=>xZy gl ca st;obtain⟨rule,tl,xl,tr,xr,op,fn,ta,xa,tb,xb,v,un,tu,xu,n,ts,xs,rfl⟩:=yX4 hx;refine ICall.intro (c:=cf prog gl [2,4,5,6] [] [3]) func73 rfl (by show _<=31;simp) (by kernel_rfl) ?_;simp only[go_sem,zE,zB,zA,zM,zS,zL,reduceCtorEq,fits,IV.one];intro b2;refine yQf λhb2=>?_;intro b4;refine yQf λhb4=>?_;intro b5;refine yQf λhb5=>?_;have h24:b2≠b4:=by rintro rfl;rw[ISt.put_same] at hb4;cases hb4
 have h45:b4≠b5:=by rintro rfl;rw[ISt.put_same] at hb5;cases hb5
 have h25:b2≠b5:=by rintro rfl;rw[ISt.put_apply,if_neg h24,ISt.put_same] at hb5;cases hb5
 rw[ISt.put_apply,if_neg h24.symm] at hb4;rw[ISt.put_apply,if_neg h45.symm,ISt.put_apply,if_neg h25.symm] at hb5;obtain⟨s1,hs1,f2,f4,f5,hsub⟩:∃s1,s1=((st.put b2 (some (.box [.raw (.int .u8 ca)]))).put b4 (some (.box [.sl ⟨true,.nil,0⟩ []]))).put b5 (some (.box [.raw (.int .i64 0)]))/\s1 b2=some (.box [.raw (.int .u8 ca)])/\s1 b4=some (.box [.sl ⟨true,.nil,0⟩ []])/\s1 b5=some (.box [.raw (.int .i64 0)])/\subSt st s1 :=
  ⟨_,rfl,by simp only[ISt.put_apply,if_neg h24,if_neg h25,if_true],by simp only[ISt.put_apply,if_neg h45,if_true],by simp only[ISt.put_apply,if_true],yQq (yQq (yQq (subSt.refl st) hb2) hb4) hb5⟩
 rw[<- hs1];simp only[go_sem,zE,zB,zA,zM,zS,zL,reduceCtorEq,f2,fits];refine (hkn _).mono ?_;rintro _ s1' ⟨rfl,rfl⟩;have g5:∀(s:ISt) o,(s.put b4 o) b5=s b5:=λs o=>by rw[ISt.put_apply,if_neg h45.symm]
 have g4:∀(s:ISt) o o',((s.put b4 o).put b5 o') b4=o:=λs o o'=>by rw[ISt.put_apply,if_neg h45,ISt.put_same]
 have hsub':∀(s:ISt) o o',subSt st s->subSt st ((s.put b4 o).put b5 o'):=λs o o' h=>yQq (yQq h hb4) hb5;cases hk:yXo ca
 ·have hq:yXc ca t=([],2):=by unfold yXc;rw[hk];rfl
  simp only[go_sem,zE,zB,zA,zM,zS,zL,reduceCtorEq,f4,f5,fits,g5,g4,ISt.put_same];exact yQb (hsub' _ _ _ hsub) ⟨⟨_,by rw[hq];rfl,.inl rfl⟩,rfl⟩
 ·simp only[go_sem,zE,zB,zA,zM,zS,zL,reduceCtorEq,f4,f5,fits];intro b6;refine yQf λhb6=>?_;rw[yQh];refine (hst _).mono ?_;rintro _ _ ⟨rfl,rfl⟩;have h26:b2≠b6:=by rintro rfl;rw[f2] at hb6;cases hb6
  have h46:b4≠b6:=by rintro rfl;rw[f4] at hb6;cases hb6
  have h56:b5≠b6:=by rintro rfl;rw[f5] at hb6;cases hb6
  have hb6':st b6=none:=by
   cases hq:st b6 with
   | none=>rfl
   | some o=>rw[hsub b6 o hq] at hb6;cases hb6
  have hI0:CkI st b2 b4 b5 b6 ca 0 (s1'.put b6 (some (.box [.raw (.int .i64 0)]))):=⟨by rw[ISt.put_apply,if_neg h26];exact f2,by rw[ISt.put_apply,if_neg h46];exact f4,by rw[ISt.put_apply,if_neg h56];exact f5,ISt.put_same ..,yQq hsub hb6'⟩
  generalize s1'.put b6 (some (.box [.raw (.int .i64 0)]))=s2 at hI0 ⊢;simp only[go_sem,zE,zB,zA,zM,zS,zL,reduceCtorEq,fits];refine RangeL.intro (lkT (t.walk [])) (t.walk []).length (λk s=>CkI st b2 b4 b5 b6 ca k s/\k<=300) (λe s=>CkS st b4 b5 ([],5) e s/\300<t.steps) rfl ?_ ?_ ?_ (hit _) ?_ ?_
  ·rintro k a e ⟨p,u,a,y,_,_,_,rfl⟩;rfl
  ·exact⟨hI0,by omega⟩
  ·rintro k _ e s ⟨p,z,a,y,hkz,hz,hp,rfl⟩ hd ⟨⟨c2,c4,c5,c6,hss⟩,hk3⟩;have hd':disj s e:=hd;have r6:=yJh hd' _ _ c6;have r4:=yJh hd' _ _ c4;have r5:=yJh hd' _ _ c5;have e6:e b6=none:=ISt.disj.off hd c6;have hw:IntKind.i64.wrap ((k:Int)+1)=((k+1:Nat):Int):=by rw[w64]<;>omega
   have q4:∀o,((join s e).put b6 o) b4=some (.box [.sl ⟨true,.nil,0⟩ []]):=λo=>by rw[yQ9 h46];exact r4
   have q5:∀o o',(((join s e).put b6 o).put b4 o') b5=some (.box [.raw (.int .i64 0)]):=λo o'=>by rw[yQ9 h45.symm,yQ9 h56];exact r5
   by_cases hbig:300<k+1
   ·have hb:decide ((300:Int)<((k+1:Nat):Int))=true:=dEt (by omega);simp only[go_sem,zE,zB,zA,zM,zS,zL,reduceCtorEq,r6,hw,ISt.put_same,hb,q4,q5,fits];refine⟨⟨rfl,⟨⟨true,.nil,0⟩,?_,.inl rfl⟩,ISt.put_same ..,yQq (yQq (yQq (hss.trans (yJh hd')) hb6') hb4) hb5⟩,?_⟩
    ·rw[yQ9 h45,ISt.put_same];rfl
    ·have:=(lGs hkz).1;rw[zW5] at this;omega
   ·have hb:decide ((300:Int)<((k+1:Nat):Int))=false:=dEf (by omega);simp only[go_sem,zE,zB,zA,zM,zS,zL,reduceCtorEq,r6,hw,ISt.put_same,hb,q4,q5,fits];refine⟨s.put b6 (some (.box [.raw (.int .i64 ((k+1:Nat):Int))])),⟨⟨by rw[yQ9 h26];exact c2,by rw[yQ9 h46];exact c4,by rw[yQ9 h56];exact c5,ISt.put_same ..,yQq hss hb6'⟩,by omega⟩,ISt.disj.put hd e6,ISt.put_add e6⟩
  ·rintro s r ⟨⟨c2,c4,c5,c6,hss⟩,hk3⟩;rw[zW5] at hk3;have hq:yXc ca t=yQr (yZh ca) (t.walk []):=by
    unfold yXc;rw[hk];simp only[Bool.not_true,bFt,if_false];rw[if_neg (by omega)]
   simp only[go_sem,zE,zB,zA,zM,zS,zL,reduceCtorEq];refine (hst _).mono ?_;rintro _ _ ⟨rfl,rfl⟩;simp only[go_sem,zE,zB,zA,zM,zS,zL,reduceCtorEq,fits];refine RangeL.intro (lkT (t.walk [])) (t.walk []).length (λk s=>(s b2=some (.box [.raw (.int .u8 ca)])/\s b4=some (.box [.sl ⟨true,.nil,0⟩ []])/\s b5=some (.box [.raw (.int .i64 0)])/\subSt st s)/\yQr (yZh ca) ((t.walk []).take k)=([],0)) (λe s=>CkS st b4 b5 (yXc ca t) e s) rfl ?_ ?_ ?_ (hit _) ?_ ?_
   ·rintro k a e ⟨p,u,a,y,_,_,_,rfl⟩;rfl
   ·exact⟨⟨c2,c4,c5,hss⟩,by simp[yQr]⟩
   ·rintro k _ e s ⟨p,z,a,y,hkz,hz,hp,rfl⟩ hd ⟨⟨c2,c4,c5,hss⟩,hf⟩;have hd':disj s e:=hd;have r2:=yJh hd' _ _ c2;have hpl:=zG2 [] t _ (lMg hkz);have hfd:=hfit.2;simp only[List.length_nil] at hpl;have hck:=λst=>wKq gl G ca z y hz (hfit.1 _ (lMg hkz)) st;have hcl:=wX9 gl p a e s hp (by omega) hd';have hiv:ivOf (.iv a)=some a:=by rcases hp with⟨t,rfl,_⟩|⟨g,cap,cs,rfl,_⟩<;>rfl
    obtain⟨rule',tl',xl',tr',xr',op',fn',ta',xa',tb',xb',v',un',tu',xu',n',ts',xs',rfl⟩:=yX4 hz;simp only[go_sem,zE,zB,zA,zM,zS,zL,reduceCtorEq,r2,hiv,fits];refine (hck _).mono ?_;rintro _ _ ⟨rfl,rfl⟩;by_cases h0:yZh ca z=0
    ·have d0:decide (((yZh ca z:Nat):Int)=0)=true:=dEt (by omega);simp only[go_sem,zE,zB,zA,zM,zS,zL,reduceCtorEq,d0,fits];refine⟨s,⟨⟨c2,c4,c5,hss⟩,?_⟩,hd,rfl⟩;rw[yQ8 hkz,yX7,hf];simp[yQr,h0]
    ·have d0:decide (((yZh ca z:Nat):Int)=0)=false:=dEf (by omega);have hv:yXc ca t=(p,yZh ca z):=by
      rw[hq]
      conv=>lhs;rw[<- List.take_append_drop k (t.walk [])]
      rw[List.drop_eq_getElem_cons (lGs hkz).1,(lGs hkz).2,yX7,hf];simp[yQr,h0]
     simp only[go_sem,zE,zB,zA,zM,zS,zL,reduceCtorEq,d0,hiv,fits];refine hcl.mono ?_;rintro _ _ ⟨⟨t',rfl,ht'⟩,rfl⟩;simp only[go_sem,zE,zB,zA,zM,zS,zL,reduceCtorEq,c4,c5,fits,g5,g4,ISt.put_same];refine⟨rfl,⟨t',?_,ht'⟩,?_,hsub' _ _ _ hss⟩
     ·rw[g4,hv]
     ·rw[ISt.put_same,hv]
   ·rintro s r ⟨⟨c2,c4,c5,hss⟩,hf⟩;rw[lTl,<- hq] at hf;simp only[go_sem,zE,zB,zA,zM,zS,zL,reduceCtorEq,c4,c5,fits,g5,g4,ISt.put_same];exact yQb (hsub' _ _ _ hss) ⟨⟨_,by rw[hf];rfl,.inl rfl⟩,rfl⟩
   ·rintro e s r ⟨rfl,⟨tg,c4,ht⟩,c5,hss⟩;simp only[go_sem,zE,zB,zA,zM,zS,zL,reduceCtorEq,c4,c5,fits];exact yQb hss ⟨⟨_,rfl,ht⟩,rfl⟩
  ·rintro e s r ⟨⟨rfl,⟨tg,c4,ht⟩,c5,hss⟩,hb⟩;have hq:yXc ca t=([],5):=by unfold yXc;rw[hk,if_pos hb];rfl
   simp only[go_sem,zE,zB,zA,zM,zS,zL,reduceCtorEq,c4,c5,fits];exact yQb hss ⟨⟨_,by rw[hq],ht⟩,rfl⟩
theorem xUa {l:List Mk}(hl:GoodT l){m:Mk}(hm:m∈l):m.f.op<=7:=by
 have h:=(yXi.1 (hl m hm).1).2.2.2;obtain⟨is,w,⟨o,n,us,sub⟩⟩:=m;simp only[opsB,bAt,dTe] at h;have:=h.1.1.2;show o<=7;simpa using this
theorem xZz {m:Mk}(h:m.f.op<=7):(yZd m).1<=2:=by
 by_cases h0:(yZd m).1=0
 ·omega
 ·obtain⟨r,hr,_,hT⟩:=yKf h0;have:=(yUv (gl:=λ_=>none) hr h).2.2.1;rw[hT];omega
theorem wYo (l:List Mk)(hl:GoodT l)(tb:Nat)(x:IV)(hx:IsBr l tb x)(m:Mk)(c:Bool)(w:Int)(sub:List Nd)(z:IV)(hz:IsNd (.mk m c w sub) z)(st:ISt)(es:List (Value×IV))(hb:st tb=some (.map .sg es))(ht:zZn es) :
  ICall prog gl 112 [.cptr x,.cptr z] st (λr st'=>r=.raw (.int .i64 (yV0 l m c w sub.length))/\st'=st):=by
 obtain⟨o,n,t1,x1,t2,x2,ts,zs,rfl,hf,hts,hzs⟩:=hz.mk;have hy:IsMk m _:=⟨_,_,_,_,_,_,rfl,hf⟩
 have hfind:=λst hb=>zXm gl m _ hy st tb es hb ht;have hhas:=λst=>wZ8 gl l tb x hx m _ hy st;have hcl:=λst=>xQj gl l tb x hx m _ hy st;obtain⟨t,xs,t',v,rfl,_⟩:=hx;unfold brI at hhas hcl ⊢;unfold yV0;refine iI func112 ?_;simp only[go_sem,zE,zB,zA,zL,reduceCtorEq,fits];refine (hfind _ hb).mono ?_;rintro _ st ⟨rfl,rfl⟩;simp only[go_sem,zE,zB,zA,zL,reduceCtorEq,rowF,fits];refine (hhas _).mono ?_;rintro _ st ⟨rfl,rfl⟩;cases hh:hasT l m
 ·simp only[go_sem,zE];exact yQ0 ⟨by simp,rfl⟩
 have hop:=xUa hl (yUn.1 hh);have hk2:=xZz hop;have hlist:=λst hb=>zJd gl m _ hy hop w st tb es hb ht;have d3:decide (((yZd m).1:Int)=3)=false:=dEf (by omega);have d4:decide (((yZd m).1:Int)=4)=false:=dEf (by omega);cases c
 ·by_cases hk:(yZd m).1=0
  ·have d0:decide (((yZd m).1:Int)=0)=true:=dEt (by omega);simp only[go_sem,zE,reduceCtorEq,d0];exact yQ0 ⟨by simp[hk],rfl⟩
  have d0:decide (((yZd m).1:Int)=0)=false:=dEf (by omega);by_cases hw:w=0
  ·subst hw;simp only[go_sem,zE,zB,zA,zL,reduceCtorEq,d0,d3,d4,decide_true,fits];refine (hlist _ hb).mono ?_;rintro _ st ⟨tg,ls,rfl,htg,hls,rfl⟩;by_cases hlen:sub.length=(yQi m 0).length
   ·have dl:decide ((sub.length:Int)=((yQi m 0).length:Int))=true:=dEt (by omega);simp only[go_sem,zE,hls.len,hzs.len,dl,fits];intros;exact yQ0 ⟨by simp[hk,hlen],rfl⟩
   ·have dl:decide ((sub.length:Int)=((yQi m 0).length:Int))=false:=dEf (by omega);simp only[go_sem,zE,hls.len,hzs.len,dl,fits];intros;exact yQ0 ⟨by simp[hk,hlen],rfl⟩
  ·have dw:decide (w=0)=false:=dEf hw;simp only[go_sem,zE,reduceCtorEq,d0,d3,d4,dw,fits];exact yQ0 ⟨by simp[hk,hw],rfl⟩
 ·simp only[go_sem,zE,zB,zA,zL,reduceCtorEq,fits];refine (hcl _).mono ?_;rintro _ st ⟨rfl,rfl⟩;cases hc:yKn l m
  ·simp only[go_sem,zE];exact yQ0 ⟨by simp,rfl⟩
  by_cases hw:w=0
  ·subst hw;by_cases hlen:sub.length=0
   ·have dl:decide ((sub.length:Int)=0)=true:=dEt (by omega);simp only[go_sem,zE,hzs.len,dl,decide_true,fits];intros;exact yQ0 ⟨by simp[hlen],rfl⟩
   ·have dl:decide ((sub.length:Int)=0)=false:=dEf (by omega);simp only[go_sem,zE,hzs.len,dl,decide_true,fits];intros;exact yQ0 ⟨by simp[hlen],rfl⟩
  ·have dw:decide (w=0)=false:=dEf hw;simp only[go_sem,zE,dw,fits];exact yQ0 ⟨by simp[hw],rfl⟩
def PlI (p:List Nat)(a:IV)(st:ISt):Prop:=(∃t,a=.sl t []/\t.cap=.nil/\p=[]) \/
 ∃g cap cs,a=.raw (.slice (some ⟨g,0,none⟩) p.length cap)/\st g=some (.box cs)/\p.length<=cap/\cap<=cs.length/\cs.take p.length=plI p
def offP (a:IV)(st:ISt):ISt:=match a with
 | .raw (.slice (some ad) _ _)=>st.put ad.block none
 | _=>st
theorem wU4 (a:IV)(st:ISt):subSt (offP a st) st:=by
 unfold offP;split
 ·intro c o hc;rw[ISt.put_apply] at hc;split at hc
  ·cases hc
  ·exact hc
 ·exact subSt.refl _
theorem wGy (p:List Nat)(a:IV)(st:ISt)(h:PlI p a st)(hl:p.length<=1099511627776):ICall prog gl 113 [a] st (λr st'=>(∃t',r=.sl t' (plI p)/\okEs t' 1)/\st'=offP a st):=by
 rcases h with⟨t,rfl,ht,rfl⟩|⟨g,cap,cs,rfl,hg,h1,h2,h3⟩
 ·exact xQr gl t ht st
 ·have hj:join (st.put g none) (emp.put g (some (.box cs)))=st:=by
   funext b;by_cases hb:b=g
   ·subst hb;rw[yQt (ISt.put_same ..)];exact hg.symm
   ·rw[yQw (by rw[yQ9 hb];rfl),yQ9 hb]
  have:=wX9 gl p (.raw (.slice (some ⟨g,0,none⟩) p.length cap)) (emp.put g (some (.box cs))) (st.put g none) (.inr ⟨g,cap,cs,rfl,rfl,h1,h2,h3⟩) hl (λb hb=>by
   by_cases hbg:b=g
   ·subst hbg;exact ISt.put_same ..
   ·rw[yQ9 hbg] at hb;exact absurd rfl hb)
  rw[hj] at this;exact this
theorem IsMks.aged:∀ {l:List Mk}{xs:List IV},IsMks l xs->IsMks l (ages xs)
 | [],_,rfl=>rfl
 | a::l,_,⟨y,ys,rfl,hy,h⟩=>by
  obtain⟨o,n,t,xs,t',ys',rfl,hf⟩:=hy;have h1:=hf.aged;simp only[age,ages] at h1;refine⟨age _,ages ys,rfl,?_,h.aged⟩;simp only[age,ages];exact⟨o,n,_,_,_,_,rfl,h1⟩
theorem IsBr.aged {l:List Mk}{tb:Nat}{t:Tag}{xs:List IV}{t':Tag}{v:Int}(h:IsBr l tb (.agg (brI tb t xs t' v))):IsBr l tb (.agg (ages (brI tb t xs t' v))):=by
 obtain⟨t1,x1,t2,v2,he,h1,h2,h3,h4,h5⟩:=h;simp only[brI,IV.agg.injEq,List.cons.injEq,IV.sl.injEq,IV.raw.injEq,Value.int.injEq,true_and,and_true] at he;obtain⟨⟨rfl,rfl⟩,rfl,rfl⟩:=he;exact⟨⟨false,t.cap,t.es⟩,ages xs,⟨false,t'.cap,t'.es⟩,v,by simp only[brI,ages,age],yXh h1,h2,h3.aged,yXh h4,h5⟩
theorem zWr (p:List Nat)(k:Nat):plI (p++[k])=plI p++[.raw (.int .i64 (k:Int))]:=by simp[plI]
theorem PlI.back {p:List Nat}{k g cap:Nat}{st:ISt}{n:Nat}(hn:n=p.length+1)(h:PlI (p++[k]) (.raw (.slice (some ⟨g,0,none⟩) n cap)) st):PlI p (.raw (.slice (some ⟨g,0,none⟩) p.length cap)) st:=by
 rcases h with⟨t,h,_⟩|⟨g',cap',cs,h,h1,h2,h3,h4⟩
 ·cases h
 ·simp only[IV.raw.injEq,Value.slice.injEq,Option.some.injEq,Addr.mk.injEq,and_true,lLa,List.length_singleton] at h;obtain⟨rfl,_,rfl⟩:=h;rw[lLa,List.length_singleton] at h2 h4;refine .inr ⟨g,cap,cs,rfl,h1,by omega,h3,?_⟩;have:=congrArg (List.take p.length) h4;rw[List.take_take,Nat.min_eq_left (by omega),zWr,List.take_left' (by simp[plI])] at this;exact this
def CkOk (n:Nd):Prop:=∀(l:List Mk) (tb:Nat) (x:IV) (p:List Nat) (a z:IV) (st:ISt) (es:List (Value×IV)),GoodT l->IsBr l tb x->IsNd n z->l.length+2*n.nodes<=900000->p.length+n.nodes<=900000->PlI p a st->(offP a st) tb=some (.map .sg es)->zZn es →
 ICall prog gl 66 [.cptr x,.cptr z,a] st (λr st'=>(∃tg,r=.tup [.sl tg (plI (yZi l p n).1),.raw (.int .i64 (yZi l p n).2)]/\okEs tg 1)/\subSt (offP a st) st'/\((yZi l p n).2=0->PlI p a st'))
theorem yXg:∀ {l:List Nd}{a:Nd},a∈l->a.nodes<=yQg l
 | b::l,a,h=>by
  simp only[yQg];rcases List.mem_cons.1 h with rfl|h
  ·omega
  ·have:=yXg h;omega
theorem xY3 (m:Mk)(c:Bool)(w:Int)(sub:List Nd)(IH:∀a∈sub,CkOk gl a):CkOk gl (.mk m c w sub):=by
 intro l tb x p a z st es hl hx hz hb1 hb2 hp htb hes;have hoff:=wU4 a st;have hw:=wYo gl l hl tb x hx m c w sub z hz st es (hoff _ _ htb) hes;obtain⟨o,n,t1,x1,t2,x2,ts,zs,rfl,hf,hts,hzs⟩:=hz.mk;have hy:IsMk m _:=⟨_,_,_,_,_,_,rfl,hf⟩
 simp only[Nd.nodes] at hb1 hb2;have hpo:∀k,plOf k (.iv a)=none:=λk=>by rcases hp with⟨t,rfl,_⟩|⟨g,cap,cs,rfl,_⟩<;>rfl
 have hio:ivOf (.iv a)=some a:=by rcases hp with⟨t,rfl,_⟩|⟨g,cap,cs,rfl,_⟩<;>rfl
 unfold yZi;refine ICall.intro (c:=cf prog gl [11,63] [(6,[0,1,2,3,4,5,6,7,8,9,10,11,12,15,13,14])]) func66 rfl (by show _<=72;simp) (by kernel_rfl) ?_;simp only[go_sem,zE,zA,reduceCtorEq];refine hw.mono ?_;rintro _ st ⟨rfl,rfl⟩;by_cases h0:yV0 l m c w sub.length=0
 case neg =>
  have d0:decide (((yV0 l m c w sub.length:Nat):Int)=0)=false:=dEf (by omega);simp only[go_sem,zE,zA,d0,hio];refine (wGy gl p a st hp (by omega)).mono ?_;rintro _ st' ⟨⟨t',rfl,ht'⟩,rfl⟩;simp only[go_sem,zE];rw[if_pos h0];exact yQ0 ⟨⟨_,rfl,ht'⟩,subSt.refl _,λhc=>absurd hc h0⟩
 rw[if_neg (by simpa using h0)];obtain⟨hm,_,hfi,rfl,hlen⟩:=yJj h0;rw[h0];cases c
 case true =>
  simp only[go_sem,zE,show decide (((0:Nat):Int)=0)=true from rfl,fits];exact yQ0 ⟨⟨_,rfl,.inl rfl⟩,hoff,hp⟩
 have hop:=xUa hl hm;have hlist:=λst hb=>zJd gl m _ hy hop 0 st tb es hb hes;obtain⟨_,_,hgood,_⟩:=yWy (hl m hm).1 (hfi rfl) 0;have hmw:=(hl m hm).2;simp only[bFt,if_false] at hlen ⊢;obtain⟨t,xs,t',v,hxe,hxr⟩:=id hx;simp only[go_sem,zE,zB,zA,zL,reduceCtorEq,show decide (((0:Nat):Int)=0)=true from rfl,fits,hxe,brI];refine (hlist _ (hoff _ _ htb)).mono ?_;rintro _ st ⟨tg,ls,rfl,htg,hls,rfl⟩;simp only[go_sem,hls.len];obtain⟨S,hS⟩:∃S,S=offP a st:=⟨_,rfl⟩
 rw[<- hS] at htb hoff ⊢;refine LoopC.ctr (yQi m 0).length (λk fr st' ds=>(yX2 l p 0 (yQi m 0) sub=yX2 l p k ((yQi m 0).drop k) (sub.drop k))/\subSt S st'/\PlI p a st'/\fr 0=.iv (.cptr x)/\fr 1=.iv (.cptr (.agg [.raw (.bool m.is),.raw (.int .i64 m.w),.raw (.int .u8 o),.raw (.string n),.sl t1 x1,.sl t2 x2,.raw (.bool false),.raw (.int .i64 0),.sl ts zs]))/\fr 2=.iv a/\fr 39=.iv (.sl tg ls)/\fr 40=.iv (.raw (.int .i64 (yQi m 0).length))/\fr 41=.iv (.raw (.int .i64 k))/\ds=[]) ?_ ?_ ?_
 ·simp only[go_sem,zE,reduceCtorEq,hxe,brI];exact⟨hoff,hp,rfl⟩
 ·rintro k fr st1 _ hlt ⟨hck,hsub,hp,f0,f1,f2,f39,f40,f41,rfl⟩;obtain⟨q,hq⟩:=yQ3 hlt;obtain⟨tq,zq,hkq,htq,hzq⟩:=hls.get hq;obtain⟨nk,hnk⟩:=yQ3 (l:=sub) (k:=k) (by omega);obtain⟨zk,hkk,hzk⟩:=hzs.get hnk;have hq2:=yJr m 0 q (lMg hq);have hbel:=λst hb=>wZc gl l tb x hx m _ hy hop q tq zq htq hzq (by omega) st es hb hes;simp only[go_sem,zE,zB,zA,zL,reduceCtorEq,f0,f1,f39,f40,f41,lt_i hlt,yQ2 htg,iNn,hkq,fits];refine (hbel _ (hsub _ _ htb)).mono ?_;rintro _ st1 ⟨hbr,rfl⟩;obtain⟨t4,x4,t5,v5,rfl,hbr5⟩:=id hbr;unfold brI;simp only[go_sem,zE,zA,zL];refine λb=>yQf λhbn=>?_;have hplen:(plI p).length=p.length:=by simp[plI]
  rcases hp with⟨ta,rfl,hta,hp0⟩|⟨g0,cap,cs,rfl,hg0,hc1,hc2,hc3⟩
  ·obtain⟨fs,ca,ea⟩:=ta;obtain rfl:ca=.nil:=hta;simp only[go_sem,zE,zA,zM,zL,f1,f2,fits,yQ2 hts,iNn,hkk,yQh,yQ1];refine λg cap'=>yQf λhg=>?_;obtain⟨hg,hcap⟩:=hg;have hgb:g≠b:=λhq=>by rw[hq,ISt.put_same] at hg;cases hg
   have hg1:st1 g=none:=by rw[yQ9 hgb] at hg;exact hg
   have hb4:((st1.put b (some (.box (brI tb t4 x4 t5 v5)))).put g (some (.box (List.flatMap IV.cells [IV.raw (.int .i64 (k:Int))]++List.replicate ((cap' - 1)*1) IV.junk)))) b=some (.box (brI tb t4 x4 t5 v5)):=by rw[yQ9 hgb.symm,ISt.put_same]
   have hPl:PlI (p++[k]) (.raw (.slice (some ⟨g,0,none⟩) 1 cap')) (((st1.put b (some (.box (brI tb t4 x4 t5 v5)))).put g (some (.box (List.flatMap IV.cells [IV.raw (.int .i64 (k:Int))]++List.replicate ((cap' - 1)*1) IV.junk)))).put b none) :=
    .inr ⟨g,cap',_,by rw[hp0];rfl,by rw[yQ9 hgb,ISt.put_same],by rw[hp0];exact hcap,by simp[IV.cells];omega,by rw[hp0];rfl⟩
   have hst4:∀c o',c≠b->c≠g->st1 c=some o'->((st1.put b (some (.box (brI tb t4 x4 t5 v5)))).put g (some (.box (List.flatMap IV.cells [IV.raw (.int .i64 (k:Int))]++List.replicate ((cap' - 1)*1) IV.junk)))) c=some o':=λc o' h1 h2 h3=>by rw[yQ9 h2,yQ9 h1];exact h3
   unfold brI at hb4 hPl hst4;generalize (st1.put b _).put g _=st4 at hb4 hPl hst4 ⊢;have hS4:subSt S (offP (.raw (.slice (some ⟨g,0,none⟩) 1 cap')) (st4.put b none)):=λc o' hc=>by
    have hc1:=hsub c o' hc;have hcb:c≠b:=λhq=>by rw[hq,hbn] at hc1;cases hc1
    have hcg:c≠g:=(λhq=>by rw[hq,hg1] at hc1;cases hc1)
    show ((st4.put b none).put g none) c=_;rw[yQ9 hcg,yQ9 hcb];exact hst4 c o' hcb hcg hc1
   have hcall:=IH nk (lMg hnk) (yQu l q) tb _ (p++[k]) _ zk (st4.put b none) es (hl.adds λy hy=>⟨(hgood q (lMg hq) y hy).1,(hgood q (lMg hq) y hy).2.trans hmw⟩) hbr.aged hzk
    (by have h8:=yZc q l;have h9:=yXg (lMg hnk);omega) (by rw[lLa,List.length_singleton];have h9:=yXg (lMg hnk);omega) hPl (hS4 _ _ htb) hes
   refine (ICall.frz1 hb4 hcall).mono ?_;rintro _ st5 ⟨⟨tg5,rfl,htg5⟩,hsub5,hok5⟩;have hkey:yX2 l p k ((yQi m 0).drop k) (sub.drop k)=if (yZi (yQu l q) (p++[k]) nk).2≠0 then yZi (yQu l q) (p++[k]) nk else yX2 l p (k+1) ((yQi m 0).drop (k+1)) (sub.drop (k+1)):=by
    rw[List.drop_eq_getElem_cons hlt,List.drop_eq_getElem_cons (show k<sub.length by omega),(lGs hq).2,(lGs hnk).2];simp only[yX2]
   by_cases he:(yZi (yQu l q) (p++[k]) nk).2=0
   ·have d:decide (((yZi (yQu l q) (p++[k]) nk).2:Int)=0)=true:=dEt (by omega);simp only[go_sem,zE,reduceCtorEq,f0,f1,f2,f39,f40,f41,d,yQa hlt (show (yQi m 0).length<=281474976710656 by have:=yXz m 0;omega)];refine⟨?_,hS4.trans hsub5,(.inl ⟨_,rfl,rfl,hp0⟩)⟩;rw[hck,hkey,if_neg (by simpa using he)]
   ·have d:decide (((yZi (yQu l q) (p++[k]) nk).2:Int)=0)=false:=dEf (by omega);simp only[go_sem,zE,d];rw[hck,hkey,if_pos he];exact yQ0 ⟨⟨tg5,rfl,htg5⟩,hS4.trans hsub5,λhc=>absurd hc he⟩
  ·have hgb0:g0≠b:=λhq=>by rw[hq,hbn] at hg0;cases hg0
   have hS0:S g0=none:=by rw[hS];exact ISt.put_same ..
   simp only[go_sem,zE,zA,zM,zL,f1,f2,fits,yQ2 hts,iNn,hkk,yQh,yQ1];refine wZi _ _ _ (cs:=cs) (by rw[yQ9 hgb0];exact hg0) (by simp[fits,IV.one]) ⟨by simp only[List.length_singleton];omega,by simp only[List.length_singleton];omega⟩ ⟨hc1,by simp only;omega⟩ (by simp[IV.cells]) ?_;intro g cap' cs' hg hn hcap htk;simp only[List.length_singleton] at hn htk;have hgb:g≠b:=λhq=>by
    rcases hg with⟨h,_⟩|h
    ·exact hgb0 (h▸hq)
    ·rw[hq,ISt.put_same] at h;cases h
   simp only[go_sem,zE,zA];have hb4:((st1.put b (some (.box (brI tb t4 x4 t5 v5)))).put g (some (.box cs'))) b=some (.box (brI tb t4 x4 t5 v5)):=by rw[yQ9 hgb.symm,ISt.put_same]
   have hPl:PlI (p++[k]) (.raw (.slice (some ⟨g,0,none⟩) (p.length+1) cap')) (((st1.put b (some (.box (brI tb t4 x4 t5 v5)))).put g (some (.box cs'))).put b none) :=
    .inr ⟨g,cap',cs',by rw[lLa];rfl,by rw[yQ9 hgb,ISt.put_same],by rw[lLa];exact hn,by simpa using hcap,by
     rw[lLa,zWr,<- hc3];simpa[IV.cells] using htk⟩
   have hst4:∀c o',c≠b->c≠g->st1 c=some o'->((st1.put b (some (.box (brI tb t4 x4 t5 v5)))).put g (some (.box cs'))) c=some o':=λc o' h1 h2 h3=>by rw[yQ9 h2,yQ9 h1];exact h3
   have hg':(g=g0/\cap'=cap)\/(g≠g0/\st1 g=none):=by
    rcases hg with h|h
    ·exact .inl h
    ·rw[yQ9 hgb] at h;exact .inr ⟨λhq=>(by rw[hq,hg0] at h;cases h),h⟩
   unfold brI at hb4 hPl hst4;generalize (st1.put b _).put g _=st4 at hb4 hPl hst4 ⊢;have hcg0:∀c o',S c=some o'->st1 c=some o'->c≠g:=λc o' h1 h2 hq=>by
    rcases hg' with⟨rfl,_⟩|⟨_,h⟩
    ·rw[hq,hS0] at h1;cases h1
    ·rw[hq,h] at h2;cases h2
   have hback:∀st5,PlI (p++[k]) (.raw (.slice (some ⟨g,0,none⟩) (p.length+1) cap')) st5->subSt (offP (.raw (.slice (some ⟨g,0,none⟩) (p.length+1) cap')) (st4.put b none)) st5->PlI p (.raw (.slice (some ⟨g0,0,none⟩) p.length cap)) st5:=λst5 h hs=>by
    have h5:=h.back rfl;rcases hg' with⟨rfl,rfl⟩|⟨hne,_⟩
    ·exact h5
    ·exact .inr ⟨g0,cap,cs,rfl,hs g0 _ (by show ((st4.put b none).put g none) g0=_;rw[yQ9 hne.symm,yQ9 hgb0];exact hst4 g0 _ hgb0 hne.symm hg0),hc1,hc2,hc3⟩
   have hS4:subSt S (offP (.raw (.slice (some ⟨g,0,none⟩) (p.length+1) cap')) (st4.put b none)):=λc o' hc=>by
    have hc1:=hsub c o' hc;have hcb:c≠b:=λhq=>by rw[hq,hbn] at hc1;cases hc1
    have hcg:c≠g:=(hcg0 c o' hc hc1)
    show ((st4.put b none).put g none) c=_;rw[yQ9 hcg,yQ9 hcb];exact hst4 c o' hcb hcg hc1
   have hcall:=IH nk (lMg hnk) (yQu l q) tb _ (p++[k]) _ zk (st4.put b none) es (hl.adds λy hy=>⟨(hgood q (lMg hq) y hy).1,(hgood q (lMg hq) y hy).2.trans hmw⟩) hbr.aged hzk
    (by have h8:=yZc q l;have h9:=yXg (lMg hnk);omega) (by rw[lLa,List.length_singleton];have h9:=yXg (lMg hnk);omega) hPl (hS4 _ _ htb) hes
   refine (ICall.frz1 hb4 hcall).mono ?_;rintro _ st5 ⟨⟨tg5,rfl,htg5⟩,hsub5,hok5⟩;have hkey:yX2 l p k ((yQi m 0).drop k) (sub.drop k)=if (yZi (yQu l q) (p++[k]) nk).2≠0 then yZi (yQu l q) (p++[k]) nk else yX2 l p (k+1) ((yQi m 0).drop (k+1)) (sub.drop (k+1)):=by
    rw[List.drop_eq_getElem_cons hlt,List.drop_eq_getElem_cons (show k<sub.length by omega),(lGs hq).2,(lGs hnk).2];simp only[yX2]
   by_cases he:(yZi (yQu l q) (p++[k]) nk).2=0
   ·have d:decide (((yZi (yQu l q) (p++[k]) nk).2:Int)=0)=true:=dEt (by omega);simp only[go_sem,zE,reduceCtorEq,f0,f1,f2,f39,f40,f41,d,yQa hlt (show (yQi m 0).length<=281474976710656 by have:=yXz m 0;omega)];refine⟨?_,hS4.trans hsub5,(hback st5 (hok5 he) hsub5)⟩;rw[hck,hkey,if_neg (by simpa using he)]
   ·have d:decide (((yZi (yQu l q) (p++[k]) nk).2:Int)=0)=false:=dEf (by omega);simp only[go_sem,zE,d];rw[hck,hkey,if_pos he];exact yQ0 ⟨⟨tg5,rfl,htg5⟩,hS4.trans hsub5,λhc=>absurd hc he⟩
 ·rintro fr st1 _ ⟨hck,hsub,hp,f0,f1,f2,f39,f40,f41,rfl⟩;simp only[go_sem,zE,f40,f41,yQk (nLi _)];rw[hck,List.drop_length,List.drop_eq_nil_of_le (by omega)];exact yQ0 ⟨⟨_,rfl,.inl rfl⟩,hsub,λ_=>hp⟩
