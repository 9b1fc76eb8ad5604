/- Walks: the steps of a tree, one after th -/
import Derived.Test.YtclkffdkahljeaaGreatDoorQF
import Derived.Test.YtclkffdkahljeaaGreatDoorKE
import Derived.Deep.DeepHandedRow
set_option linter.all false
open Nat renaming reduceEqDiff → zE,reduceBEq → zB,reduceAdd → zA,reduceMul → zM,reduceLeDiff → zL
namespace Go.Proofs.Tryz
open Go Go.Iv
set_option maxRecDepth 4000
variable (gl:Nat->Option IV)
def plI (p:List Nat):List IV:=p.map λ(i:Nat)=>.raw (.int .i64 (i:Int))
theorem yU1 (p:List Nat):(plI p).length=p.length:=by simp[plI]
def emp:ISt:=λ_=>none
def PlV (p:List Nat)(a:IV)(e:ISt):Prop :=
 (∃t,a=.sl t []/\t.cap=.nil/\p=[]/\e=emp) \/
 ∃g cap cs,a=.raw (.slice (some ⟨g,0,none⟩) p.length cap)/\e=emp.put g (some (.box cs))/\p.length<=cap/\cap<=cs.length/\cs.take p.length=plI p
def lkT (l:List (List Nat×Tr))(k:Nat)(zs:List IV)(e:ISt):Prop:=∃p t a x,l[k]?=some (p,t)/\IsTr t x/\PlV p a e/\zs=[a,.cptr x]
def xJj (b2 b3 b4:Nat):IV:=.fn (.func 95) [] [.raw (.pointer (some ⟨b2,0,none⟩)),.raw (.pointer (some ⟨b3,0,none⟩)),.raw (.pointer (some ⟨b4,0,none⟩))]
def ownF (b2 b3 b4:Nat)(fy a:IV):ISt:=((emp.put b2 (some (.box [fy]))).put b3 (some (.box [a]))).put b4 (some (.box [xJj b2 b3 b4]))
section
variable {b2 b3 b4:Nat}{fy a:IV}
theorem wYv (D:b2≠b3)(A:b2≠b4):ownF b2 b3 b4 fy a b2=some (.box [fy]):=by simp only[ownF,ISt.put_apply,if_neg D,if_neg A,if_true]
theorem yGu (A:b3≠b4):ownF b2 b3 b4 fy a b3=some (.box [a]):=by simp only[ownF,ISt.put_apply,if_neg A,if_true]
theorem xQ5:ownF b2 b3 b4 fy a b4=some (.box [xJj b2 b3 b4]):=by simp only[ownF,ISt.put_apply,if_true]
theorem xVb {c:Nat}(h2:c≠b2)(D:c≠b3)(A:c≠b4):ownF b2 b3 b4 fy a c=none:=by simp only[ownF,ISt.put_apply,if_neg h2,if_neg D,if_neg A,emp]
theorem zXj {c:Nat}(a':IV):ownF b2 b3 b4 fy a c=none↔ownF b2 b3 b4 fy a' c=none:=by
 simp only[ownF,ISt.put_apply];by_cases A:c=b4
 ·simp[A]
 ·by_cases D:c=b3
  ·subst D;simp only[if_neg A,if_true,reduceCtorEq]
  ·simp[A,D]
end
def xZo (b2 b3 b4:Nat)(fy:IV)(p:List Nat)(s A:ISt):Prop:=∃a e,PlV p a e/\disj s e/\disj (join s e) (ownF b2 b3 b4 fy a)/\A=join (join s e) (ownF b2 b3 b4 fy a)
def FOkL (y:IV)(I:Nat->ISt->Prop)(S:ISt->Prop)(k0:Nat)(l:List (List Nat×Tr)):Prop :=
 ∀i p t x a e stu,l[i]?=some (p,t)->IsTr t x->PlV p a e->disj stu e->I (k0+i) stu →
  ICallV prog gl y [a,.cptr x] (join stu e) λr st'=>(r=.raw (.bool true)/\∃s1,I (k0+i+1) s1/\disj s1 e/\st'=join s1 e)\/(r=.raw (.bool false)/\S st')
section
variable {gl}{y:IV}{I:Nat->ISt->Prop}{S:ISt->Prop}{k0:Nat}
theorem FOkL.left {l m:List (List Nat×Tr)}(h:FOkL gl y I S k0 (l++m)):FOkL gl y I S k0 l:=λi p t x a e stu A =>
 h i p t x a e stu (by rw[List.getElem?_append_left (lGs A).1];exact A)
theorem FOkL.right {l m:List (List Nat×Tr)}(h:FOkL gl y I S k0 (l++m)):FOkL gl y I S (k0+l.length) m:=λi p t x a e stu A hx hp hd D=>by
 have:=h (l.length+i) p t x a e stu (by rw[List.getElem?_append_right (by omega)];simpa using A) hx hp hd (by rw[<- Nat.add_assoc];exact D);simpa only[Nat.add_assoc] using this
theorem FOkL.tail {z:List Nat×Tr}{m:List (List Nat×Tr)}(h:FOkL gl y I S k0 (z::m)):FOkL gl y I S (k0+1) m:=FOkL.right (l:=[z]) h
end
section
variable {b2 b3 b4:Nat}{fy a a':IV}{p:List Nat}{s:ISt}{g:Nat}
theorem zYx {c:Nat}(h:c≠b3):ownF b2 b3 b4 fy a c=ownF b2 b3 b4 fy a' c:=by simp only[ownF,ISt.put_apply,if_neg h]
theorem wQv {cs:List IV}(ac:b3≠b4)(hs:disj s (ownF b2 b3 b4 fy a))(U:s g=none)(O:ownF b2 b3 b4 fy a g=none)(hp:PlV p a' (emp.put g (some (.box cs)))) :
  xZo b2 b3 b4 fy p s (((join s (ownF b2 b3 b4 fy a)).put g (some (.box cs))).put b3 (some (.box [a']))):=by
 have D:ownF b2 b3 b4 fy a' g=none:=(zXj a').1 O;refine⟨a',_,hp,λb A=>?_,λb A=>?_,?_⟩
 ·rw[ISt.put_apply] at A;split at A
  ·rename_i h;rw[h];exact U
  ·exact absurd rfl A
 ·have ab:b≠g:=by rintro rfl;exact A D
  have he:(emp.put g (some (.box cs))) b=none:=by rw[ISt.put_apply,if_neg ab];rfl
  rw[yQy he];exact hs b λh=>A ((zXj a').1 h)
 ·funext c;by_cases E:c=b3
  ·rw[ISt.put_apply,if_pos E,E,yQu (yGu ac)]
  ·rw[ISt.put_apply,if_neg E,ISt.put_apply];by_cases hc:c=g
   ·rw[if_pos hc,hc,yQy D,yQu (ISt.put_same ..)]
   ·rw[if_neg hc];have he:(emp.put g (some (.box cs))) c=none:=by rw[ISt.put_apply,if_neg hc];rfl
    cases J:ownF b2 b3 b4 fy a c with
    | some o=>rw[yQu J,yQu ((zYx E).symm.trans J)]
    | none=>rw[yQy J,yQy ((zYx E).symm.trans J),yQy he]
theorem vZ0 {cs:List IV}(E:s g=none)(D:ownF b2 b3 b4 fy a g=none):(join (join s (emp.put g (some (.box cs)))) (ownF b2 b3 b4 fy a)).put g none=join s (ownF b2 b3 b4 fy a):=by
 funext c;rw[ISt.put_apply];split
 ·rename_i h;rw[h,yQy D,E]
 ·rename_i h;have J:(emp.put g (some (.box cs))) c=none:=by rw[ISt.put_apply,if_neg h];rfl
  cases A:ownF b2 b3 b4 fy a c with
  | some o=>rw[yQu A,yQu A]
  | none=>rw[yQy A,yQy A,yQy J]
end
theorem PlV.cons {p:List Nat}{k:Nat}{a:IV}{e:ISt}(h:PlV (p++[k]) a e):∃g cap cs,a=.raw (.slice (some ⟨g,0,none⟩) (p.length+1) cap)/\e=emp.put g (some (.box cs))/\p.length+1<=cap/\cap<=cs.length/\cs.take p.length=plI p:=by
 rcases h with⟨t,_,_,h,_⟩|⟨g,cap,cs,rfl,rfl,h1,h2,A⟩
 ·simp at h
 ·rw[lLa] at h1 A ⊢;refine⟨g,cap,cs,rfl,rfl,h1,h2,?_⟩;have:=congrArg (List.take p.length) A;rw[List.take_take,show min p.length (p.length+[k].length)=p.length by omega] at this;rw[this];unfold plI;rw[List.map_append,List.take_left' (by simp)]
theorem wYp {b2 b3 b4:Nat}{fy a a':IV}{X:ISt}(D:b3≠b4):(join X (ownF b2 b3 b4 fy a)).put b3 (some (.box [a']))=join X (ownF b2 b3 b4 fy a'):=by
 funext c;rw[ISt.put_apply];split
 ·rename_i h;rw[h,yQu (yGu D)]
 ·rename_i h;cases A:ownF b2 b3 b4 fy a c with
  | some o=>rw[yQu A,yQu ((zYx h).symm.trans A)]
  | none=>rw[yQy A,yQy ((zYx h).symm.trans A)]
theorem zVu {n m:Nat}(h:n+1<=m):yXl none (some ((n:Nat):Int)) m=some (0,n):=by
 simp only[yXl,Option.getD_none,Option.getD_some];rw[if_pos ⟨Int.le_refl _,by omega,by omega⟩];simp
theorem zWi:∀ {l:List Tr}{t:Tr},t∈l->t.height<=yZv l
 | a::l,t,h=>by
  simp only[yZv];rcases List.mem_cons.1 h with rfl|h
  ·omega
  ·have:=zWi h;omega
theorem zK6 (x:Operand):yJx 1 [(0,x)]=true:=rfl
theorem yJz (p:List Nat):∀(i:Nat) (l m:List Tr),yZd p i (l++m)=yZd p i l++yZd p (i+l.length) m
 | i,[],m=>by simp[yZd]
 | i,a::l,m=>by
  simp only[List.cons_append,yZd,yJz p (i+1) l m,List.append_assoc,List.length_cons];rw[show i+1+l.length=i+(l.length+1) by omega]
def FF (t:Tr):Prop:=∀(x:IV) (_:IsTr t x) (b2 b3 b4:Nat) (_:b2≠b3) (_:b2≠b4) (_:b3≠b4) (g:Fn) (D ca:List IV) (_:fnOk g=true) (_:∀i,g=.func i->entI prog i=true) (I:Nat->ISt->Prop) (S:ISt->Prop) (k0:Nat) (p:List Nat)
  (_:FOkL gl (.fn g D ca) I S k0 (t.walk p)) (_:p.length+t.height<=1099511627776) (s A:ISt) (_:I k0 s) (_:xZo b2 b3 b4 (.fn g D ca) p s A),
  ICall prog gl 95 [.cptr x,.raw (.pointer (some ⟨b2,0,none⟩)),.raw (.pointer (some ⟨b3,0,none⟩)),.raw (.pointer (some ⟨b4,0,none⟩))] A
   (λr st'=>(r=.raw (.bool true)/\∃s1,I (k0+(t.walk p).length) s1/\xZo b2 b3 b4 (.fn g D ca) p s1 st')\/(r=.raw (.bool false)/\∃s1,S s1/\subSt s1 st'))
theorem wXl (rule:Nat)(sq:Sq)(f:Fm)(u:Tm)(n:ByteArray)(sub:List Tr)(IH:∀a∈sub,FF gl a):FF gl (.mk rule sq f u n sub):=by
 intro x hx b2 b3 b4 aX aW D g J ca bj an I S k0 p hy ay s aq hI be;have bd:=hx;obtain⟨tl,xl,tr,xr,op,fn,ta,xa,tb,xb,v,un,tu,xu,ts,xs,aa,bV,_,_,_,_,_,_,e3,i3⟩:=hx.mk;obtain⟨a,e,hp,af,ac,rfl⟩:=be;simp only[Tr.walk] at hy ⊢;have ae:=hy 0 p _ _ a e s rfl bd hp af hI;have bb:=FOkL.tail hy;have r2:join (join s e) (ownF b2 b3 b4 (.fn g J ca) a) b2=some (.box [.fn g J ca]):=yQu (wYv aX aW);have r3:join (join s e) (ownF b2 b3 b4 (.fn g J ca) a) b3=some (.box [a]):=yQu (yGu D);refine ICall.intro (c:=cf prog gl [23,24] []) func95 rfl (by show _<=39;simp) (by kernel_rfl) ?_;have bh:ivOf (.iv a)=some a:=by rcases hp with⟨t,rfl,_⟩|⟨g,cap,cs,rfl,_⟩<;>rfl
 rw[aa] at ae;simp only[go_sem,zE,reduceCtorEq,r2,r3,bh,aa];refine yZ4 an (ae.frame ac |>.mono ?_);rintro r aq ⟨s2,aS,rfl,(⟨rfl,s3,bn,bk,rfl⟩|⟨rfl,hS⟩)⟩
 ·simp only[go_sem,reduceCtorEq,i3.len];intro bq;refine LoopC.ctr sub.length (λk fr st' ds=>(∃s,I (k0+1+(yZd p 0 (sub.take k)).length) s/\xZo b2 b3 b4 (.fn g J ca) p s st')/\fr 0=.iv (.cptr x)/\fr 1=.iv (.raw (.pointer (some ⟨b2,0,none⟩)))/\fr 2=.iv (.raw (.pointer (some ⟨b3,0,none⟩)))/\fr 3=.iv (.raw (.pointer (some ⟨b4,0,none⟩)))/\fr 16=.iv (.raw (.int .i64 sub.length))/\fr 17=.iv (.raw (.int .i64 k))/\ds=[]) ?_ ?_ ?_
  ·simp only[go_sem,zE,reduceCtorEq,aa];exact⟨⟨s3,by simpa[yZd] using bn,a,e,hp,bk,aS,rfl⟩,rfl⟩
  ·rintro k fr a7 _ ab ⟨⟨s,hI,a,e,hp,af,ac,rfl⟩,f0,f1,f2,f3,f16,f17,rfl⟩;rw[aa] at f0;obtain⟨t,ht⟩:=yQ1 ab;obtain⟨z,aQ,hz⟩:=i3.get ht;have r3:join (join s e) (ownF b2 b3 b4 (.fn g J ca) a) b3=some (.box [a]):=yQu (yGu D);have bU:=zWi (lMg ht);simp only[Tr.height] at ay;have aj:yZd p 0 sub=yZd p 0 (sub.take k)++(t.walk (p++[k])++yZd p (k+1) (sub.drop (k+1))):=by
    conv=>lhs;rw[<- List.take_append_drop k sub,List.drop_eq_getElem_cons ab]
    rw[yJz,(lGs ht).2,show (sub.take k).length=k by rw[List.length_take];omega];simp only[yZd,Nat.zero_add]
   have aN:=bb;rw[aj] at aN;have ag:=λaq hF=>IH t (lMg ht) z hz b2 b3 b4 aX aW D g J ca bj an I S _ (p++[k]) (FOkL.left (FOkL.right aN)) (by rw[lLa];simp only[List.length_singleton];omega) s aq hI hF;have am:IntKind.i64.wrap (((p.length+1:Nat):Int)-1)=(p.length:Nat):=by rw[w64 (by omega) (by omega)];omega
   have ba:∃c0 c1 c2 c3 c4 c5 c6 c7 c8 c9 a1 aZ,z=.agg [c0,c1,c2,c3,c4,c5,c6,c7,c8,c9,a1,aZ]:=by
    obtain⟨r',s',m',t',n',b'⟩:=t;obtain⟨bK,bC,bJ,bB,bR,bX,bM,bF,bL,bD,v',bG,bH,bx,bI,bA,rfl,_⟩:=hz.mk;exact⟨_,_,_,_,_,_,_,_,_,_,_,_,rfl⟩
   obtain⟨c0,c1,c2,c3,c4,c5,c6,c7,c8,c9,a1,aZ,rfl⟩:=ba;rcases hp with⟨t0,rfl,hta,aw,rfl⟩|⟨E,cap,cs,rfl,rfl,bm,bW,bl⟩
   ·obtain⟨fs,c,es⟩:=t0;obtain rfl:c=.nil:=hta;have bg:join s emp=s:=rfl;rw[bg] at r3 ac ⊢;simp only[go_sem,zE,zA,zM,zL,reduceCtorEq,f0,f2,f3,f16,f17,lt_i ab,r3,aa,zK6];intro E cap;refine yQ8 λhg=>?_;obtain⟨hg,aU⟩:=hg;change join s (ownF b2 b3 b4 (.fn g J ca) (.sl ⟨fs,.nil,es⟩ [])) E=none at hg;have aT:disj s (ownF b2 b3 b4 (.fn g J ca) (.sl ⟨fs,.nil,es⟩ [])):=ac;have A:ownF b2 b3 b4 (.fn g J ca) (.sl ⟨fs,.nil,es⟩ []) E=none:=by
     cases ho:ownF b2 b3 b4 (.fn g J ca) (.sl ⟨fs,.nil,es⟩ []) E with
     | none=>rfl
     | some o=>rw[yQu ho] at hg;cases hg
    have bi:s E=none:=by rw[<- yQy (stu:=s) A];exact hg
    have aE:b3≠E:=by rintro rfl;rw[yGu D] at A;cases A
    have hF:=wQv (fy:=.fn g J ca) (p:=p++[k]) (a':=.raw (.slice (some ⟨E,0,none⟩) 1 cap)) (cs:=.raw (.int .i64 k)::List.replicate (cap-1) .junk) D aT bi A (.inr ⟨E,cap,_,by rw[aw];rfl,rfl,by simpa[aw] using aU,by simp;omega,by simp[plI,aw]⟩);have aD:b4≠E:=by rintro rfl;rw[xQ5] at A;cases A
    have av:∀o,((join s (ownF b2 b3 b4 (.fn g J ca) (.sl ⟨fs,.nil,es⟩ []))).put E o) b3=some (.box [.sl ⟨fs,.nil,es⟩ []]):=λo=>by rw[ISt.put_apply,if_neg aE];exact r3
    have au:∀o o',(((join s (ownF b2 b3 b4 (.fn g J ca) (.sl ⟨fs,.nil,es⟩ []))).put E o).put b3 o') b4=some (.box [xJj b2 b3 b4]):=λo o'=>by rw[ISt.put_apply,if_neg D.symm,ISt.put_apply,if_neg aD];exact yQu xQ5
    simp only[go_sem,zL,IV.one,List.flatMap_cons,List.flatMap_nil,IV.cells,Nat.mul_one,av,au,aQ,yQ3 e3,iNn,xJj];refine (ag _ hF).mono ?_;rintro _ a6 (⟨rfl,s1,aG,aH⟩|⟨rfl,s1,aF,U⟩)
    ·obtain⟨a2,e2,hp2,aA,az,rfl⟩:=aH;obtain⟨g3,O,cs3,rfl,rfl,ah,aC,aB⟩:=hp2.cons;have r6:join (join s1 (emp.put g3 (some (.box cs3)))) (ownF b2 b3 b4 (.fn g J ca) (.raw (.slice (some ⟨g3,0,none⟩) (p.length+1) O))) b3=some (.box [.raw (.slice (some ⟨g3,0,none⟩) (p.length+1) O)]):=yQu (yGu D);simp only[go_sem,zE,zL,reduceCtorEq,IV.one,r6,f0,f1,f2,f3,f16,f17,am,zVu ah,ite_self,Nat.zero_mul,ah,yQc ab (show sub.length<=281474976710656 by omega)];refine⟨s1,?_,?_⟩
     ·rw[yQ7 ht,yJz,lLa,show (sub.take k).length=k by rw[List.length_take];omega];simp only[yZd,List.append_nil,Nat.zero_add];rw[<- Nat.add_assoc];exact aG
     ·rw[wYp D];exact⟨_,_,.inr ⟨g3,O,cs3,rfl,rfl,by omega,aC,aB⟩,aA,λb hb=>az b λh=>hb ((zXj _).1 h),rfl⟩
    ·simp only[go_sem];exact yQ0 (.inr ⟨rfl,s1,aF,U⟩)
   ·have ho:ownF b2 b3 b4 (.fn g J ca) (.raw (.slice (some ⟨E,0,none⟩) p.length cap)) E=none:=by
     cases ho:ownF b2 b3 b4 (.fn g J ca) (.raw (.slice (some ⟨E,0,none⟩) p.length cap)) E with
     | none=>rfl
     | some o =>
      have:=ac E (by rw[ho];simp);rw[yQu (ISt.put_same ..)] at this;cases this
    have aO:s E=none:=af E (by rw[ISt.put_same];simp);have r5:join (join s (emp.put E (some (.box cs)))) (ownF b2 b3 b4 (.fn g J ca) (.raw (.slice (some ⟨E,0,none⟩) p.length cap))) E=some (.box cs):=by
     rw[yQy ho,yQu (ISt.put_same ..)]
    simp only[go_sem,zE,zA,zM,zL,f2,f16,f17,lt_i ab,r3,aa,zK6];refine yX3 _ _ _ r5 (by simp[fits,IV.one]) ⟨by show (_+1)*8<=_;omega,by show _+1<=_;omega⟩ ⟨bm,by show _*1<=_;omega⟩ (by simp[IV.cells]) ?_;intro g2 ao aY A k1 k2 k3;rw[vZ0 aO ho];have ak:s g2=none/\ownF b2 b3 b4 (.fn g J ca) (.raw (.slice (some ⟨E,0,none⟩) p.length cap)) g2=none:=by
     rcases A with rfl|A
     ·exact⟨aO,ho⟩
     ·cases hq:ownF b2 b3 b4 (.fn g J ca) (.raw (.slice (some ⟨E,0,none⟩) p.length cap)) g2 with
      | some o=>rw[yQu hq] at A;cases A
      | none =>
       rw[yQy hq] at A;refine⟨?_,rfl⟩;cases hz:s g2 with
       | none=>rfl
       | some o=>rw[yJ3 af g2 o hz] at A;cases A
    have bf:disj s (ownF b2 b3 b4 (.fn g J ca) (.raw (.slice (some ⟨E,0,none⟩) p.length cap))):=λb hb=>by
     have:=ac b hb;cases hz:s b with
     | none=>rfl
     | some o=>rw[yJ3 af b o hz] at this;cases this
    have hF:=wQv (fy:=.fn g J ca) (p:=p++[k]) (a':=.raw (.slice (some ⟨g2,0,none⟩) (p.length+1) ao)) (cs:=aY) D bf ak.1 ak.2 (.inr ⟨g2,ao,aY,by simp,rfl,by simpa using k1,by simpa using k2,by
     simp only[Nat.mul_one] at k3;rw[lLa];exact k3.trans (by rw[bl];simp[plI,IV.cells])⟩)
    have aE:b3≠g2:=by rintro rfl;have:=ak.2;rw[yGu D] at this;cases this
    have aD:b4≠g2:=by rintro rfl;have:=ak.2;rw[xQ5] at this;cases this
    have av:∀o,((join s (ownF b2 b3 b4 (.fn g J ca) (.raw (.slice (some ⟨E,0,none⟩) p.length cap)))).put g2 o) b3=some (.box [.raw (.slice (some ⟨E,0,none⟩) p.length cap)]):=λo=>by rw[ISt.put_apply,if_neg aE];exact yQu (yGu D)
    have au:∀o o',(((join s (ownF b2 b3 b4 (.fn g J ca) (.raw (.slice (some ⟨E,0,none⟩) p.length cap)))).put g2 o).put b3 o') b4=some (.box [xJj b2 b3 b4]):=λo o'=>by rw[ISt.put_apply,if_neg D.symm,ISt.put_apply,if_neg aD];exact yQu xQ5
    simp only[go_sem,zE,zL,reduceCtorEq,IV.one,IV.cells,av,au,f0,f2,f3,aQ,yQ3 e3,iNn,fits,xJj];refine (ag _ hF).mono ?_;rintro _ a6 (⟨rfl,s1,aG,aH⟩|⟨rfl,s1,aF,U⟩)
    ·obtain⟨a2,e2,hp2,aA,az,rfl⟩:=aH;obtain⟨g3,O,cs3,rfl,rfl,ah,aC,aB⟩:=hp2.cons;have r6:join (join s1 (emp.put g3 (some (.box cs3)))) (ownF b2 b3 b4 (.fn g J ca) (.raw (.slice (some ⟨g3,0,none⟩) (p.length+1) O))) b3=some (.box [.raw (.slice (some ⟨g3,0,none⟩) (p.length+1) O)]):=yQu (yGu D);simp only[go_sem,zE,zL,reduceCtorEq,IV.one,r6,f0,f1,f2,f3,f16,f17,am,zVu ah,ite_self,Nat.zero_mul,ah,yQc ab (show sub.length<=281474976710656 by omega)];refine⟨s1,?_,?_⟩
     ·rw[yQ7 ht,yJz,lLa,show (sub.take k).length=k by rw[List.length_take];omega];simp only[yZd,List.append_nil,Nat.zero_add];rw[<- Nat.add_assoc];exact aG
     ·rw[wYp D];exact⟨_,_,.inr ⟨g3,O,cs3,rfl,rfl,by omega,aC,aB⟩,aA,λb hb=>az b λh=>hb ((zXj _).1 h),rfl⟩
    ·simp only[go_sem];exact yQ0 (.inr ⟨rfl,s1,aF,U⟩)
  ·rintro fr a7 _ ⟨⟨s,hI,hF⟩,f0,f1,f2,f3,f16,f17,rfl⟩;rw[lTl] at hI;simp only[go_sem,f16,f17,yQi (nLi _)];refine yQ0 (.inl ⟨rfl,s,?_,hF⟩);rw[show k0+((yZd p 0 sub).length+1)=k0+1+(yZd p 0 sub).length by omega];exact hI
 ·simp only[go_sem];exact yQ0 (.inr ⟨rfl,s2,hS,yJ3 aS⟩)
theorem xWa:∀(k:Nat)(t:Tr),SizeOf.sizeOf t<k->FF gl t
 | 0,t,h=>by omega
 | k+1,.mk r sq f u n sub,h=>wXl gl r sq f u n sub (λa A=>xWa k a (by
   have:=lSm A;simp at h;omega))
theorem vV9 (t:Tr):FF gl t:=xWa gl _ t (Nat.lt_succ_self _)
theorem wKu (t:Tr)(x:IV)(hx:IsTr t x)(hd:t.height<=1099511627776)(I:Nat->ISt->Prop):IterL prog gl 94 [] [.cptr (.cptr x)] (lkT (t.walk [])) (t.walk []).length I:=by
 rintro y I' S' st ⟨g,fi,ca,rfl,am,af⟩ _ hy h0;have O:=vV9 gl t x hx;have al:FOkL gl (.fn g fi ca) I' S' 0 (t.walk []):=λi p t x a e stu hi ht hp an hI=>by
  rw[Nat.zero_add] at hI ⊢;exact hy i [a,.cptr x] e stu ⟨p,t,a,x,hi,ht,hp,rfl⟩ an hI
 have ak:∃c0 c1 c2 c3 c4 c5 c6 c7 c8 c9 aj ai,x=.agg [c0,c1,c2,c3,c4,c5,c6,c7,c8,c9,aj,ai]:=by
  obtain⟨r',s',m',t',n',b'⟩:=t;obtain⟨aM,aF,aL,aE,aS,aV,aO,aH,aN,aG,v',aI,aJ,aC,aK,aD,rfl,_⟩:=hx.mk;exact⟨_,_,_,_,_,_,_,_,_,_,_,_,rfl⟩
 obtain⟨c0,c1,c2,c3,c4,c5,c6,c7,c8,c9,aj,ai,rfl⟩:=ak;change ICall prog gl _ [.fn g fi ca,_] st _;refine ICall.intro (c:=cf prog gl [2,3,4] []) func94 rfl (by show _<=9;simp) (by kernel_rfl) ?_;simp only[go_sem,zE,zL,fits];intro b2;refine yQ8 λau=>?_;intro b3;refine yQ8 λD=>?_;intro b4;refine yQ8 λA=>?_;have E:b2≠b3:=by rintro rfl;rw[ISt.put_same] at D;cases D
 have U:b3≠b4:=by rintro rfl;rw[ISt.put_same] at A;cases A
 have aa:b2≠b4:=by rintro rfl;rw[ISt.put_apply,if_neg E,ISt.put_same] at A;cases A
 rw[ISt.put_apply,if_neg E.symm] at D;rw[ISt.put_apply,if_neg U.symm,ISt.put_apply,if_neg aa.symm] at A;have hF:xZo b2 b3 b4 (.fn g fi ca) [] st ((((st.put b2 (some (.box [.fn g fi ca]))).put b3 (some (.box [.sl ⟨true,.nil,0⟩ []]))).put b4 (some (.box [.raw .nilFunc]))).put b4 (some (.box [xJj b2 b3 b4]))):=by
  refine⟨_,emp,.inl ⟨⟨true,.nil,0⟩,rfl,rfl,rfl,rfl⟩,λb hb=>absurd rfl hb,λb hb=>?_,?_⟩
  ·show st b=none;by_cases J:b=b4
   ·rw[J];exact A
   ·by_cases q3:b=b3
    ·rw[q3];exact D
    ·by_cases q2:b=b2
     ·rw[q2];exact au
     ·exact absurd (xVb q2 q3 J) hb
  ·funext c;by_cases J:c=b4
   ·rw[J,ISt.put_same,yQu xQ5]
   ·rw[ISt.put_apply,if_neg J,ISt.put_apply,if_neg J];by_cases q3:c=b3
    ·rw[q3,ISt.put_same,yQu (yGu U)]
    ·rw[ISt.put_apply,if_neg q3];by_cases q2:c=b2
     ·rw[q2,ISt.put_same,yQu (wYv E aa)]
     ·rw[ISt.put_apply,if_neg q2,yQy (xVb q2 q3 J)];rfl
 refine (O b2 b3 b4 E aa U g fi ca am af I' S' 0 [] al (by simpa using hd) st _ h0 hF).mono ?_;rintro r aQ (⟨rfl,s1,ag,a,e,_,aq,ao,rfl⟩|⟨rfl,s1,aw,ae⟩)
 ·simp only[go_sem];rw[Nat.zero_add] at ag;exact yQf ((yJ3 aq).trans (yJ3 ao)) (.inl ag)
 ·simp only[go_sem];exact yQf ae (.inr aw)
theorem wUh (x:IV)(st:ISt)(t:Tr)(hx:IsTr t x):ICall prog gl 54 [.cptr x] st (λr st'=>r=.fn (.func 94) [] [.cptr (.cptr x)]/\st'=st):=by
 have E:∃c0 c1 c2 c3 c4 c5 c6 U O J D A,x=.agg [c0,c1,c2,c3,c4,c5,c6,U,O,J,D,A]:=by
  obtain⟨r',s',m',t',n',b'⟩:=t;obtain⟨am,af,al,ae,aq,au,ao,ah,an,ag,v',ai,aj,ab,ak,ac,rfl,_⟩:=hx.mk;exact⟨_,_,_,_,_,_,_,_,_,_,_,_,rfl⟩
 obtain⟨c0,c1,c2,c3,c4,c5,c6,U,O,J,D,A,rfl⟩:=E;refine ICall.intro (c:=cf prog gl [] [] [1]) func54 rfl (by show _<=4;simp) (by kernel_rfl) ?_;simp only[go_sem,zE];exact yQ0 ⟨rfl,rfl⟩
theorem wKi (t:Tag)(ht:t.cap=.nil)(st:ISt):ICall prog gl 56 [.sl t []] st (λr st'=>(∃A,r=.sl A (plI [])/\okEs A 1)/\st'=st):=by
 obtain⟨E,c,es⟩:=t;obtain rfl:c=.nil:=ht;refine iI func56 ?_;have D:binV prog 51 .eql (.sl ⟨E,.nil,es⟩ []) (.sl ⟨true,.nil,0⟩ [])=some (.raw (.bool true)):=by
  have:zQ4 prog 51=true:=by kernel_rfl
  simp[binV,zVb,this]
 simp only[go_sem,reduceCtorEq,D];exact yQ0 ⟨⟨_,rfl,.inl rfl⟩,rfl⟩
theorem wKj (g:Nat)(p:List Nat)(hp:p≠[])(hl:p.length<=1099511627776)(st:ISt):ICall prog gl 56 [.sl ⟨false,.app g,1⟩ (plI p)] st (λr st'=>(∃D,r=.sl D (plI p)/\okEs D 1)/\st'=st):=by
 obtain⟨i,p,rfl⟩:∃i q,p=i::q:=by
  cases p with
  | nil=>exact absurd rfl hp
  | cons i q=>exact⟨i,q,rfl⟩
 refine iI func56 ?_;have E:binV prog 51 .eql (.sl ⟨false,.app g,1⟩ (plI (i::p))) (.sl ⟨true,.nil,0⟩ [])=some (.raw (.bool false)):=by
  have:zQ4 prog 51=true:=by kernel_rfl
  simp[binV,zVb,this]
 have U:(plI (i::p)).all (fits false 1)=true:=by simp[plI,fits,IV.one]
 simp only[List.length_cons] at hl;have he:plI (i::p)=.raw (.int .i64 (i:Int))::plI p:=rfl;have J:=yU1 p;have A:(plI p).all (fits false 1)=true:=by simp[plI,fits,IV.one]
 rw[he] at E U ⊢;simp only[go_sem,zE,zA,zM,zL,reduceCtorEq,fits,E];exact yQj rfl (yQj A (yQj ⟨by omega,by omega⟩ λg'=>yQ8 λO=>yQf (yQa O) ⟨⟨_,rfl,.inr rfl⟩,rfl⟩))
theorem xU0 {R:Rt}{st:ISt}{ds:List Dfd}(esc:List Nat)(dst:Option Nat)(e:TypeId×Bool×Nat×Nat)(D:Bool)(es:Nat)(A:List IV):appV esc dst e ⟨D,.full,es⟩ A [] R st ds =
 chk (([]:List IV).all (fits e.2.1 e.2.2.1)=true) (chk ((A.length+0)*e.2.2.2<=140737488355328/\A.length+0<=140737488355328) (chk (es=e.2.2.1) (R (.val (.sl ⟨D,.full,es⟩ A)) st ds))):=rfl
theorem xUb (g:Nat)(st:ISt):ICall prog gl 56 [.sl ⟨false,.app g,1⟩ (plI [])] st (λr st'=>(∃A,r=.sl A (plI [])/\okEs A 1)/\st'=st):=by
 have D:binV prog 51 .eql (.sl ⟨false,.app g,1⟩ (plI [])) (.sl ⟨true,.nil,0⟩ [])=some (.raw (.bool false)):=by
  have:zQ4 prog 51=true:=by kernel_rfl
  simp[binV,zVb,this]
 rw[show plI []=[] from rfl] at D ⊢;refine iI func56 ?_;simp only[go_sem,zE,zA,zM,zL,reduceCtorEq,D,xU0];exact yQj rfl (yQ0 ⟨⟨_,rfl,.inr rfl⟩,rfl⟩)
theorem wX9 {s e:ISt}(h:disj s e):join s e=join e s:=by
 funext b;cases A:e b with
 | none =>
  rw[yQy A];cases hs:s b with
  | none=>rw[yQy hs,A]
  | some o=>rw[yQu hs]
 | some o=>rw[yQu A,yQy (h b (by rw[A];simp)),A]
theorem xY1:∀p:List Nat,ages (plI p)=plI p
 | []=>by simp only[plI,List.map_nil,ages]
 | i::p=>by
  have:=xY1 p;simp only[plI,List.map_cons,ages,age] at this ⊢;rw[this]
theorem xV7:∀p:List Nat,(plI p).flatMap IV.cells=plI p
 | []=>rfl
 | i::p=>by
  have:=xV7 p;simp only[plI,List.map_cons,List.flatMap_cons,IV.cells,List.singleton_append] at this ⊢;rw[this]
theorem vZt (p:List Nat)(a:IV)(e s:ISt)(hp:PlV p a e)(hl:p.length<=1099511627776)(hd:disj s e):ICall prog gl 56 [a] (join s e) (λr st'=>(∃A,r=.sl A (plI p)/\okEs A 1)/\st'=s):=by
 have key:ICall prog gl 56 [a] e (λr st'=>(∃A,r=.sl A (plI p)/\okEs A 1)/\st'=emp):=by
  rcases hp with⟨t,rfl,ht,rfl,rfl⟩|⟨g,cap,cs,rfl,rfl,h1,h2,h3⟩
  ·exact wKi gl t ht emp
  ·have O:zVf (emp.put g (some (.box cs)))=emp:=by
    funext b;by_cases E:b=g
    ·rw[E,xQb (ISt.put_same ..)];rfl
    ·have:(emp.put g (some (.box cs))) b=none:=by rw[ISt.put_apply,if_neg E];rfl
     rw[xYz (λcs' h=>by rw[this] at h;cases h),this];rfl
   refine ICall.freeze (args':=[.sl ⟨false,.app g,1⟩ (plI p)]) ⟨_,_,rfl,.inr ⟨.sl ⟨true,.app g,1⟩ (plI p),?_,?_⟩,rfl⟩ ?_
   ·rw[<- yU1 p];refine .sl g cap ⟨true,.app g,1⟩ (plI p) cs rfl (by rw[yU1];omega) (by rw[yU1];exact h1) (λx hx=>?_) (ISt.put_same ..) (by simpa using h2) λi r c J hc=>?_
    ·obtain⟨i,_,rfl⟩:=List.mem_map.1 hx;rfl
    ·rw[xV7 p] at hc;have U:i<p.length:=by
      have:=(lGs hc).1
      rwa [yU1] at this
     have:(cs.take p.length)[i]?=cs[i]?:=by rw[List.getElem?_take,if_pos U]
     rw[h3,hc,J] at this;cases this;exact .refl _
   ·simp only[age,xY1]
   ·rw[O];by_cases D:p=[]
    ·subst D;exact xUb gl g emp
    ·exact wKj gl g p D hl emp
 have h1:=key.frame (own:=s) (λb E=>by
  cases he:e b with
  | none=>rfl
  | some o=>exact absurd (hd b (by rw[he];simp)) E)
 rw[wX9 hd];refine h1.mono ?_;rintro r st' ⟨stu,_,rfl,J,rfl⟩;refine⟨J,?_⟩;funext b;cases hs:s b with
 | none=>rw[yQy hs];rfl
 | some o=>rw[yQu hs]
def wZ7:Tr->Prop
 | .mk _ s m u _ sub=>yXx s/\m.size<=1000000/\u.size<=1000000/\∀a∈sub,yXx a.sq
def vQt (t:Tr):Prop:=(∀q∈t.walk [],wZ7 q.2)/\t.height<=1099511627776
theorem wWy (G:Gl gl)(T:Gt gl)(ca:Nat)(t:Tr)(x:IV)(hx:IsTr t x)(A:wZ7 t)(st:ISt):ICall prog gl 55 [.raw (.int .u8 ca),.cptr x] st (λr st'=>r=.raw (.int .i64 (yJm ca t))/\st'=st):=by
 obtain⟨rule,s,m,u,n,sub⟩:=t;exact vZa gl G T ca rule s m u n sub x hx A.1 A.2.1 A.2.2.1 A.2.2.2 st
theorem xZz {t:Tr}{x:IV}(h:IsTr t x):∃(rule:Nat) (tl:Tag) (xl:List IV) (tr:Tag) (U:List IV) (op:Int) (fn:ByteArray) (ta:Tag) (xa:List IV) (tb:Tag) (xb:List IV) (v:Bool) (un:ByteArray) (tu:Tag) (D:List IV) (n:ByteArray) (ts:Tag) (J:List IV),
  x=.agg [.raw (.int .u8 rule),.sl tl xl,.sl tr U,.raw (.int .u8 op),.raw (.string fn),.sl ta xa,.sl tb xb,.raw (.bool v),.raw (.string un),.sl tu D,.raw (.string n),.sl ts J]:=by
 obtain⟨r',s',m',t',n',b'⟩:=t;obtain⟨an,aa,am,O,av,aw,au,ae,ao,ab,v',ag,ai,A,ak,E,rfl,_⟩:=h.mk;exact⟨_,_,_,_,_,_,_,_,_,_,_,_,_,_,_,_,_,_,rfl⟩
mutual
theorem zY7:∀(p:List Nat)(t:Tr),(t.walk p).length=t.steps
 | p,.mk _ _ _ _ _ sub=>by simp only[Tr.walk,Tr.steps,List.length_cons,zJ1 p 0 sub];omega
theorem zJ1:∀(p:List Nat)(i:Nat)(l:List Tr),(yZd p i l).length=yZq l
 | _,_,[]=>rfl
 | p,i,a::l=>by simp only[yZd,yZq,lLa,zY7 (p++[i]) a,zJ1 p (i+1) l]
end
mutual
theorem zUb:∀(q:List Nat)(t:Tr)(x:List Nat×Tr),x∈t.walk q->x.1.length+1<=q.length+t.height
 | q,.mk _ _ _ _ _ sub,x,h=>by
  simp only[Tr.walk,List.mem_cons] at h;simp only[Tr.height];rcases h with rfl|h
  ·simp only;omega
  ·have:=zZu q 0 sub x h;omega
theorem zZu:∀(q:List Nat)(i:Nat)(l:List Tr)(x:List Nat×Tr),x∈yZd q i l->x.1.length<=q.length+yZv l
 | _,_,[],x,h=>by simp[yZd] at h
 | q,i,a::l,x,h=>by
  simp only[yZd,List.mem_append] at h;simp only[yZv];rcases h with h|h
  ·have:=zUb (q++[i]) a x h;rw[lLa] at this;simp only[List.length_singleton] at this;omega
  ·have:=zZu q (i+1) l x h;omega
end
def CkI (st:ISt)(b2 b4 D A ca c:Nat)(s:ISt):Prop:=s b2=some (.box [.raw (.int .u8 ca)])/\s b4=some (.box [.sl ⟨true,.nil,0⟩ []])/\s D=some (.box [.raw (.int .i64 0)])/\s A=some (.box [.raw (.int .i64 c)])/\subSt st s
def CkS (st:ISt)(b4 D:Nat)(q:List Nat×Nat)(e:Exit)(s:ISt):Prop:=e=.ret/\(∃A,s b4=some (.box [.sl A (plI q.1)])/\okEs A 1)/\s D=some (.box [.raw (.int .i64 q.2)])/\subSt st s
theorem vZu (G:Gl gl)(T:Gt gl)(ca:Nat)(t:Tr)(x:IV)(hx:IsTr t x)(ag:vQt t)(st:ISt):ICall prog gl 27 [.raw (.int .u8 ca),x] st (λr st'=>(∃tg,r=.tup [.sl tg (plI (yJq ca t).1),.raw (.int .i64 (yJq ca t).2)]/\okEs tg 1)/\st'=st):=by
 have an:=λst=>wUh gl x st t hx;have au:=λI=>wKu gl t x hx ag.2 I;have aG:=λst=>xJb gl ca st;obtain⟨rule,tl,xl,tr,xr,op,fn,ta,xa,tb,xb,v,un,tu,xu,n,ts,xs,rfl⟩:=xZz hx;refine ICall.intro (c:=cf prog gl [2,4,5,6] [] [3]) func27 rfl (by show _<=31;simp) (by kernel_rfl) ?_;simp only[go_sem,zE,zA,IV.one];intro b2;refine yQ8 λaK=>?_;intro b4;refine yQ8 λac=>?_;intro b5;refine yQ8 λE=>?_;have al:b2≠b4:=by rintro rfl;rw[ISt.put_same] at ac;cases ac
 have ae:b4≠b5:=by rintro rfl;rw[ISt.put_same] at E;cases E
 have az:b2≠b5:=by rintro rfl;rw[ISt.put_apply,if_neg al,ISt.put_same] at E;cases E
 rw[ISt.put_apply,if_neg al.symm] at ac;rw[ISt.put_apply,if_neg ae.symm,ISt.put_apply,if_neg az.symm] at E;obtain⟨s1,aE,f2,f4,f5,af⟩:∃s1,s1=((st.put b2 (some (.box [.raw (.int .u8 ca)]))).put b4 (some (.box [.sl ⟨true,.nil,0⟩ []]))).put b5 (some (.box [.raw (.int .i64 0)]))/\s1 b2=some (.box [.raw (.int .u8 ca)])/\s1 b4=some (.box [.sl ⟨true,.nil,0⟩ []])/\s1 b5=some (.box [.raw (.int .i64 0)])/\subSt st s1 :=
  ⟨_,rfl,by simp only[ISt.put_apply,if_neg al,if_neg az,if_true],by simp only[ISt.put_apply,if_neg ae,if_true],by simp only[ISt.put_apply,if_true],yQb (yQb (yQb (subSt.refl st) aK) ac) E⟩
 rw[<- aE];simp only[go_sem,f2];refine (aG _).mono ?_;rintro _ am ⟨rfl,rfl⟩;have g5:∀(s:ISt) o,(s.put b4 o) b5=s b5:=λs o=>by rw[ISt.put_apply,if_neg ae.symm]
 have g4:∀(s:ISt) o o',((s.put b4 o).put b5 o') b4=o:=λs o o'=>by rw[ISt.put_apply,if_neg ae,ISt.put_same]
 have J:∀(s:ISt) o o',subSt st s->subSt st ((s.put b4 o).put b5 o'):=λs o o' h=>yQb (yQb h ac) E;cases hk:yJ8 ca
 ·have hq:yJq ca t=([],2):=by unfold yJq;rw[hk];rfl
  simp only[go_sem,zE,zL,f4,f5,g5,g4,ISt.put_same];exact yQf (J _ _ _ af) ⟨⟨_,by rw[hq];rfl,.inl rfl⟩,rfl⟩
 ·simp only[go_sem,zE,zA,zL];intro b6;refine yQ8 λD=>?_;rw[yQ9];refine (an _).mono ?_;rintro _ _ ⟨rfl,rfl⟩;have ay:b2≠b6:=by rintro rfl;rw[f2] at D;cases D
  have ak:b4≠b6:=by rintro rfl;rw[f4] at D;cases D
  have aj:b5≠b6:=by rintro rfl;rw[f5] at D;cases D
  have ah:st b6=none:=by
   cases hq:st b6 with
   | none=>rfl
   | some o=>rw[af b6 o hq] at D;cases D
  have ax:CkI st b2 b4 b5 b6 ca 0 (am.put b6 (some (.box [.raw (.int .i64 0)]))):=⟨by rw[ISt.put_apply,if_neg ay];exact f2,by rw[ISt.put_apply,if_neg ak];exact f4,by rw[ISt.put_apply,if_neg aj];exact f5,ISt.put_same ..,yQb af ah⟩
  generalize am.put b6 (some (.box [.raw (.int .i64 0)]))=s2 at ax ⊢;simp only[go_sem,reduceCtorEq];refine RangeL.intro (lkT (t.walk [])) (t.walk []).length (λk s=>CkI st b2 b4 b5 b6 ca k s/\k<=300) (λe s=>CkS st b4 b5 ([],5) e s/\300<t.steps) rfl ?_ ?_ ?_ (au _) ?_ ?_
  ·rintro k a e ⟨p,u,a,y,_,_,_,rfl⟩;rfl
  ·exact⟨ax,by omega⟩
  ·rintro k _ e s ⟨p,z,a,y,O,hz,hp,rfl⟩ hd ⟨⟨c2,c4,c5,c6,A⟩,ao⟩;have U:disj s e:=hd;have r6:=yJ3 U _ _ c6;have r4:=yJ3 U _ _ c4;have r5:=yJ3 U _ _ c5;have e6:e b6=none:=ISt.disj.off hd c6;have hw:IntKind.i64.wrap ((k:Int)+1)=((k+1:Nat):Int):=by rw[w64]<;>omega
   have q4:∀o,((join s e).put b6 o) b4=some (.box [.sl ⟨true,.nil,0⟩ []]):=λo=>by rw[yQ5 ak];exact r4
   have q5:∀o o',(((join s e).put b6 o).put b4 o') b5=some (.box [.raw (.int .i64 0)]):=λo o'=>by rw[yQ5 ae.symm,yQ5 aj];exact r5
   by_cases aQ:300<k+1
   ·have hb:decide ((300:Int)<((k+1:Nat):Int))=true:=dEt (by omega);simp only[go_sem,zE,zL,r6,hw,ISt.put_same,hb,q4,q5];refine⟨⟨rfl,⟨⟨true,.nil,0⟩,?_,.inl rfl⟩,ISt.put_same ..,yQb (yQb (yQb (A.trans (yJ3 U)) ah) ac) E⟩,?_⟩
    ·rw[yQ5 ae,ISt.put_same];rfl
    ·have:=(lGs O).1;rw[zY7] at this;omega
   ·have hb:decide ((300:Int)<((k+1:Nat):Int))=false:=dEf (by omega);simp only[go_sem,zE,zL,r6,hw,ISt.put_same,hb];refine⟨s.put b6 (some (.box [.raw (.int .i64 ((k+1:Nat):Int))])),⟨⟨by rw[yQ5 ay];exact c2,by rw[yQ5 ak];exact c4,by rw[yQ5 aj];exact c5,ISt.put_same ..,yQb A ah⟩,by omega⟩,ISt.disj.put hd e6,ISt.put_add e6⟩
  ·rintro s r ⟨⟨c2,c4,c5,c6,A⟩,ao⟩;rw[zY7] at ao;have hq:yJq ca t=yZx (yJm ca) (t.walk []):=by
    unfold yJq;rw[hk];simp only[Bool.not_true,bFt,if_false];rw[if_neg (by omega)]
   simp only[go_sem,zE,zA];refine (an _).mono ?_;rintro _ _ ⟨rfl,rfl⟩;simp only[go_sem,reduceCtorEq];refine RangeL.intro (lkT (t.walk [])) (t.walk []).length (λk s=>(s b2=some (.box [.raw (.int .u8 ca)])/\s b4=some (.box [.sl ⟨true,.nil,0⟩ []])/\s b5=some (.box [.raw (.int .i64 0)])/\subSt st s)/\yZx (yJm ca) ((t.walk []).take k)=([],0)) (λe s=>CkS st b4 b5 (yJq ca t) e s) rfl ?_ ?_ ?_ (au _) ?_ ?_
   ·rintro k a e ⟨p,u,a,y,_,_,_,rfl⟩;rfl
   ·exact⟨⟨c2,c4,c5,A⟩,by simp[yZx]⟩
   ·rintro k _ e s ⟨p,z,a,y,O,hz,hp,rfl⟩ hd ⟨⟨c2,c4,c5,A⟩,hf⟩;have U:disj s e:=hd;have r2:=yJ3 U _ _ c2;have aF:=zUb [] t _ (lMg O);have bj:=ag.2;simp only[List.length_nil] at aF;have aJ:=λst=>wWy gl G T ca z y hz (ag.1 _ (lMg O)) st;have aI:=vZt gl p a e s hp (by omega) U;have aq:ivOf (.iv a)=some a:=by rcases hp with⟨t,rfl,_⟩|⟨g,cap,cs,rfl,_⟩<;>rfl
    obtain⟨aB,a8,aW,a7,aV,bi,bk,bb,aY,ba,aX,v',aZ,a1,aT,n',a6,aU,rfl⟩:=xZz hz;simp only[go_sem,zE,zA,r2,aq];refine (aJ _).mono ?_;rintro _ _ ⟨rfl,rfl⟩;by_cases h0:yJm ca z=0
    ·have d0:decide (((yJm ca z:Nat):Int)=0)=true:=dEt (by omega);simp only[go_sem,d0];refine⟨s,⟨⟨c2,c4,c5,A⟩,?_⟩,hd,rfl⟩;rw[yQ7 O,yJl,hf];simp[yZx,h0]
    ·have d0:decide (((yJm ca z:Nat):Int)=0)=false:=dEf (by omega);have hv:yJq ca t=(p,yJm ca z):=by
      rw[hq]
      conv=>lhs;rw[<- List.take_append_drop k (t.walk [])]
      rw[List.drop_eq_getElem_cons (lGs O).1,(lGs O).2,yJl,hf];simp[yZx,h0]
     simp only[go_sem,zE,zA,d0,aq];refine aI.mono ?_;rintro _ _ ⟨⟨t',rfl,aD⟩,rfl⟩;simp only[go_sem,zE,zL,c4,c5,g5];refine⟨rfl,⟨t',?_,aD⟩,?_,J _ _ _ A⟩
     ·rw[g4,hv]
     ·rw[ISt.put_same,hv]
   ·rintro s r ⟨⟨c2,c4,c5,A⟩,hf⟩;rw[lTl,<- hq] at hf;simp only[go_sem,zE,zL,c4,c5,g5,g4,ISt.put_same];exact yQf (J _ _ _ A) ⟨⟨_,by rw[hf];rfl,.inl rfl⟩,rfl⟩
   ·rintro e s r ⟨rfl,⟨tg,c4,ht⟩,c5,A⟩;simp only[go_sem,zE,c4,c5];exact yQf A ⟨⟨_,rfl,ht⟩,rfl⟩
  ·rintro e s r ⟨⟨rfl,⟨tg,c4,ht⟩,c5,A⟩,hb⟩;have hq:yJq ca t=([],5):=by unfold yJq;rw[hk,if_pos hb];rfl
   simp only[go_sem,zE,c4,c5];exact yQf A ⟨⟨_,by rw[hq],ht⟩,rfl⟩
open Classical in
theorem xWk {W:List Fm}(O:Srt W){r:List Nat}:∀ {l:List Nat},(∀i∈l,i<W.length)->(fmW W l).find? (λf=>decide (f∈fmW W r))=(l.find? λi=>decide (i∈r)).map λi=>(W[i]?).getD fm0
 | [],_=>rfl
 | i::l,h=>by
  obtain⟨f,D⟩:=yQ1 (h i (.head _));rw[zQa D,List.find?_cons,List.find?_cons];have e:(f∈fmW W r)↔i∈r:=by
   rw[yZg];constructor
   ·rintro⟨k,J,E⟩;rw[zYh O D E];exact J
   ·intro A;exact⟨i,A,D⟩
  by_cases A:i∈r
  ·rw[dEt (e.2 A),dEt A];simp[D]
  ·rw[dEf (λh=>A (e.1 h)),dEf A];exact xWk O λk J=>h k (.tail _ J)
theorem wJp {W:List Fm}(P:Fm->Bool):∀ {l:List Nat},(∀i∈l,i<W.length)->(fmW W l).any P=l.any λi=>P ((W[i]?).getD fm0)
 | [],_=>rfl
 | i::l,h=>by
  obtain⟨f,A⟩:=yQ1 (h i (.head _));rw[zQa A,List.any_cons,List.any_cons,wJp P λk D=>h k (.tail _ D),A];rfl
theorem vY9 {W:List Fm}(D:Srt W){ln:Ln}(h:LnOk W ln):axW W ln=axF (lnW W ln):=by
 unfold axW axF lnW;dsimp only;rw[wJp zK3 h.1.2];have A:=xWk D (r:=ln.2) h.1.2;rw[A];cases E:ln.1.find? (λi=>decide (i∈ln.2)) with
 | some i=>rfl
 | none=>rfl
theorem xW8 {j:Bool}{s:Sn}(hc:¬ ClF s.1 s.2)(h:0<hF j s):2<=hF j s:=by
 have hp:=zWl h;rcases Nat.lt_or_ge 1 (hF j s) with D|D
 ·exact D
 ·exfalso;rw[show hF j s=0+1 by omega] at hp;rcases yK1.1 hp with A|⟨m,E,A⟩
  ·exact hc A
  ·obtain⟨p,hp⟩:=List.exists_mem_of_ne_nil _ (wZd E);exact A p hp
theorem yGl {j:Bool}{s:Sn}{m:Nat×Fm×List Sn}(hc:¬ ClF s.1 s.2)(h:0<hF j s)(D:zU2 j s=some m):∀p∈m.2.2,0<hF j p/\hF j p+1<=hF j s:=by
 have h2:=xW8 hc h;have h1:mstS j m.2.2+1=hF j s:=of_decide_eq_true (List.find?_some (p:=λm:Nat×Fm×List Sn=>decide (mstS j m.2.2+1=hF j s)) D);have E:mstS j m.2.2=(hF j s-2)+1:=by omega
 obtain⟨A,_⟩:=zJx.1 E;exact λp hp=>⟨(A p hp).1,by have:=(A p hp).2;omega⟩
section
variable {ca m:Nat}{W:List Fm}{tw:Tag}{xw:List IV}{lines:List Ln}{links:List (List Lk)}{hs:List Nat}{tl tk:Tag}{xl xk:List IV}{mN rb gH:Nat}
theorem Sttl.sub {st st':ISt}(h:Sttl ca m W tw xw lines links hs tl tk xl xk mN rb gH st)(A:subSt st st'):Sttl ca m W tw xw lines links hs tl tk xl xk mN rb gH st' :=
 { h with rbx:=A _ _ h.rbx,hts:=A _ _ h.hts }
def trC (r:IV)(s1 A o n a b:IV)(sub:IV):List IV:=[r,s1,A,o,n,a,b,.raw (.bool false),.raw (.string noN),.sl ⟨true,.nil,0⟩ [],.raw (.string noN),sub]
abbrev nilS:IV:=.sl ⟨true,.nil,0⟩ []
abbrev u0:IV:=.raw (.int .u8 0)
abbrev nmZ:IV:=.raw (.string noN)
def TrJ (rule s1 E o n a b:IV)(D:ISt)(A:Array Bool):Kt:=λad fr st ds=>(∀s,s≠40->s≠41->ad s=none)/\st=D/\ds=[]/\fr 4=.box (trC u0 nilS nilS u0 nmZ nilS nilS nilS)/\fr 7=.iv rule/\fr 8=.box [o,n,a,b] /\
 (A.getD 0 false=true->fr 38=.iv rule)/\(A.getD 1 false=true->fr 39=.iv (.agg [o,n,a,b]))/\(A.getD 2 false=true->ad 40=some (6,0))/\(A.getD 4 false=true->ad 41=some (6,3)) /\
 fr 6=.box (trC (if A.getD 3 false=true then rule else u0) s1 E (if A.getD 5 false=true then o else u0) (if A.getD 5 false=true then n else nmZ) (if A.getD 5 false=true then a else nilS) (if A.getD 5 false=true then b else nilS) nilS)
theorem xUr:∀(n:Nat){st:ISt}(_:Sttl ca m W tw xw lines links hs tl tk xl xk mN rb gH st){i:Nat}{ln:Ln}(_:lines[i]?=some ln)(_:0<Tryz.hF (calJ ca) (lnW W ln))(_:Tryz.hF (calJ ca) (lnW W ln)<=n),
  ICall prog gl 46 [ptr rb,.raw (.int .i32 (i:Int))] st (λr st'=>IsTr (tF (calJ ca) n (lnW W ln)) r/\st'=st)
 | 0,_,_,_,_,_,h0,hn=>by omega
 | n+1,st,h,i,ln,ac,h0,hn=>by
  have an:=h.all.ok _ (lMg ac);have bY:=(lGs ac).1;have bu:=h.hxl.1;obtain⟨z,hz,ah⟩:=h.hxl.2 i ln ac;have aA:=λst=>zU3 gl ca m W h.sp tw xw h.htw h.hxw ln an z ah st;have bb:=λst=>vJy gl ca m W h.sp tw xw h.htw h.hxw ln an z ah st;rw[vY9 h.sp.srt an] at aA;have ak:=h.rbx;have bZ:=h.hts;obtain⟨ta,tb,rfl,ea,eb⟩:=id ah;rw[tF];refine ICall.intro (c:=cf prog gl [23,31,51] [(2,[0,1,2,4,7,3,5,6,8]),(3,[0,1,2,4,10,3,5,6,7,8,9,11,12,13]),(5,[]),(8,[0,1,2,3,4,9,10,14,5,6,7,8,11,12,13,15,16,17])]) func46 rfl (by show _<=79;simp) (by kernel_rfl) ?_;simp only[go_sem,zE,zB,zA,zL,reduceCtorEq,fits,ak,yQ3 h.htl,iNn,hz];refine (bb _).mono ?_;rintro _ st ⟨⟨t1,x1,t2,x2,rfl,e1,i1,e2,i2⟩,rfl⟩;simp only[go_sem,zE,zA,zL,reduceCtorEq,fits,ak];refine (aA _).mono ?_;rintro _ st ⟨⟨zf,rfl,E⟩,rfl⟩;cases ha:axF (lnW W ln) with
  | some p =>
   obtain⟨rr,f⟩:=p;rw[ha] at E;simp only[Option.getD_some,Option.isSome_some] at E ⊢;have aq:=E;obtain⟨o1,n1,q1,z1,q2,z2,rfl⟩:=E.agg;simp only[go_sem,zE,zA,zL];rw[xZ2];refine zY2 (TrJ (.raw (.int .u8 (rr:Int))) (.sl t1 x1) (.sl t2 x2) (.raw (.int .u8 (o1:Int))) (.raw (.string n1)) (.sl q1 z1) (.sl q2 z2) st) ?_ ?_ _ _ _ _ _ _ rfl ?_
   ·intro A ad fr U ds ab hJ i5 be;replace ab:A.size=6:=ab;obtain⟨aB,o,ho,O⟩:=mem_ready.1 be;have bX:i5<6:=(Array.getElem?_eq_some_iff.1 ho).1;have b0:A.getD i5 false=false:=by
     rw[Array.getD_eq_getD_getElem?,Array.getElem?_eq_getElem (by omega)] at aB ⊢;exact aB
    have e:∀j,i5≠j->(A.setIfInBounds i5 true).getD j false=A.getD j false:=λj hj=>by rw[xQv (by omega),if_neg hj]
    have ei:(A.setIfInBounds i5 true).getD i5 false=true:=by rw[xQv (by omega),if_pos rfl]
    obtain⟨D,rfl,rfl,f4,f7,f8,g0,g1,g2,g4,f6⟩:=hJ;have a7:=D 7 (by decide) (by decide);have a8:=D 8 (by decide) (by decide);have a6:=D 6 (by decide) (by decide);have b2:=D 38 (by decide) (by decide);have a39:=D 39 (by decide) (by decide);rcases (show i5=0\/i5=1\/i5=2\/i5=3\/i5=4\/i5=5 by omega) with rfl|rfl|rfl|rfl|rfl|rfl
    all_goals obtain rfl:_=o:=Option.some.inj ho
    ·simp only[go_sem,yJs,f7];exact⟨(λs h1 h2=>by rw[Ad.put_apply,D s h1 h2];split<;>first|rfl|(rename_i hs;first|exact absurd hs h1|exact absurd hs h2)),rfl,rfl,f4,f7,f8,λ_=>rfl,λh=>g1 (by rwa [e 1 (by decide)] at h),(λh=>by rw[Ad.put_apply,g2 (by rwa [e 2 (by decide)] at h)];rfl),(λh=>by rw[Ad.put_apply,g4 (by rwa [e 4 (by decide)] at h)];rfl),by rw[e 3 (by decide),e 5 (by decide)];exact f6⟩
    ·simp only[go_sem,zA,zL,yJs,a8,f8];exact⟨(λs h1 h2=>by rw[Ad.put_apply,D s h1 h2];split<;>first|rfl|(rename_i hs;first|exact absurd hs h1|exact absurd hs h2)),rfl,rfl,f4,f7,f8,λh=>g0 (by rwa [e 0 (by decide)] at h),λ_=>rfl,(λh=>by rw[Ad.put_apply,g2 (by rwa [e 2 (by decide)] at h)];rfl),(λh=>by rw[Ad.put_apply,g4 (by rwa [e 4 (by decide)] at h)];rfl),by rw[e 3 (by decide),e 5 (by decide)];exact f6⟩
    ·simp only[go_sem,zE,yJs,a6,f6,trC];exact⟨(λs h1 h2=>by rw[Ad.put_apply,D s h1 h2];split<;>first|rfl|(rename_i hs;first|exact absurd hs h1|exact absurd hs h2)),rfl,rfl,f4,f7,f8,λh=>g0 (by rwa [e 0 (by decide)] at h),λh=>g1 (by rwa [e 1 (by decide)] at h),λ_=>rfl,(λh=>by rw[Ad.put_apply,g4 (by rwa [e 4 (by decide)] at h)];rfl),by rw[e 3 (by decide),e 5 (by decide)];exact f6⟩
    ·replace g0:=g0 (O ⟨0,.data⟩ (by simp) rfl);replace g2:=g2 (O ⟨2,.data⟩ (by simp) rfl);simp only[go_sem,zA,zL,yJs,g0,g2,f6,trC];exact⟨D,rfl,rfl,f4,f7,f8,λ_=>g0,λh=>g1 (by rwa [e 1 (by decide)] at h),λ_=>g2,λh=>g4 (by rwa [e 4 (by decide)] at h),by rw[ei,e 5 (by decide)];rfl⟩
    ·simp only[go_sem,zE,yJs,a6,f6,trC];exact⟨(λs h1 h2=>by rw[Ad.put_apply,D s h1 h2];split<;>first|rfl|(rename_i hs;first|exact absurd hs h1|exact absurd hs h2)),rfl,rfl,f4,f7,f8,λh=>g0 (by rwa [e 0 (by decide)] at h),λh=>g1 (by rwa [e 1 (by decide)] at h),(λh=>by rw[Ad.put_apply,g2 (by rwa [e 2 (by decide)] at h)];rfl),λ_=>rfl,by rw[e 3 (by decide),e 5 (by decide)];exact f6⟩
    ·replace g1:=g1 (O ⟨1,.data⟩ (by simp) rfl);replace g4:=g4 (O ⟨4,.data⟩ (by simp) rfl);simp only[go_sem,zA,zL,yJs,g1,g4,f6,trC];exact⟨D,rfl,rfl,f4,f7,f8,λh=>g0 (by rwa [e 0 (by decide)] at h),λ_=>g1,λh=>g2 (by rwa [e 2 (by decide)] at h),λ_=>g4,by rw[ei,e 3 (by decide)];rfl⟩
   ·intro A ad fr U ds ab hr hJ;have hl:=xXr (by decide) ab hr;obtain⟨D,rfl,rfl,f4,f7,f8,g0,g1,g2,g4,f6⟩:=hJ;rw[if_pos (hl 3 (by decide)),if_pos (hl 5 (by decide)),if_pos (hl 5 (by decide)),if_pos (hl 5 (by decide)),if_pos (hl 5 (by decide))] at f6;unfold trC at f4 f6;simp only[go_sem,zE,zA,zL,f4,f6];have bc:rr<256:=by rcases wJk ha with⟨rfl,_⟩|⟨rfl,_⟩<;>decide
    exact yQ0 ⟨⟨_,_,_,_,_,_,_,_,_,_,_,_,_,_,_,_,rfl,bc,e1,i1,e2,i2,aq,⟨_,_,rfl,.inl rfl,rfl⟩,.inl rfl,rfl⟩,rfl⟩
   ·exact⟨λ_ _ _=>rfl,rfl,rfl,rfl,rfl,rfl,(λh=>nomatch h),(λh=>nomatch h),(λh=>nomatch h),(λh=>nomatch h),rfl⟩
  | none =>
   have hc:=zZn.1 ha;have h2:=xW8 hc h0;have ay:=wGs gl h ac hc h2;rw[ha] at E;simp only[Option.getD_none,Option.isSome_none] at E ⊢;obtain⟨o1,n1,q1,z1,q2,z2,rfl⟩:=E.agg;simp only[go_sem,zE,zA,zL,reduceCtorEq];refine ay.mono ?_;rintro r st ⟨⟨k,hk,az,k2,k3,k4,k5⟩,rfl⟩;have bj:=yGl hc h0 az;rw[az];have ba:=λst=>to_c gl k r hk k2 st;obtain⟨f,hf⟩:=yQ1 k4;obtain⟨zm,aY,ax⟩:=h.hxw.get hf;have bi:=λst=>zQx gl f zm ax (Nat.le_trans (h.sp.size (lMg hf)) (by omega)) st;obtain⟨pp,qq,rfl,aw⟩:=id hk;obtain⟨om,nm,p1,r1,p2,r2,rfl⟩:=ax.agg;simp only[go_sem,zE,zB,zA,zL,reduceCtorEq,fits,ak,yQ3 h.htw,iNn,aY,yV9];refine (bi _).mono ?_;rintro r U ⟨hr,rfl⟩;obtain⟨aW,aX,p3,r3,p4,r4,rfl⟩:=IsFmD.aggs hr;simp only[go_sem,zE,zA,zL];refine (ba _).mono ?_;rintro _ U ⟨⟨tt,rfl,a1⟩,rfl⟩;simp only[go_sem,yVf];intro _;refine LoopC.ctr k.2.2.length (λp fr st' ds=>(∃t y,fr 6=.box [.raw (.int .u8 (k.1:Int)),.sl t1 x1,.sl t2 x2,.raw (.int .u8 (aW:Int)),.raw (.string aX),.sl p3 r3,.sl p4 r4,.raw (.bool false),.raw (.string noN),.sl ⟨true,.nil,0⟩ [],.raw (.string noN),.sl t y]/\own st' t p 12 U/\subSt U st'/\IsTrs ((k.2.2.take p).map λq=>tF (calJ ca) n (((lines[q]?).map (lnW W)).getD ([],[]))) y/\y.length=p) /\
    fr 0=.iv (ptr rb)/\fr 63=.iv (.sl tt (i32I k.2.2))/\fr 64=.iv (.raw (.int .i64 (k.2.2.length:Int)))/\fr 65=.iv (.raw (.int .i64 (p:Int)))/\fr 4=.box (trC u0 nilS nilS u0 nmZ nilS nilS nilS)/\ds=[]) ?_ ?_ ?_
   ·simp only[go_sem,zE,reduceCtorEq,trC];exact⟨⟨_,_,rfl,own.nil ..,subSt.refl _,rfl,rfl⟩,rfl⟩
   ·rintro p fr ao _ am ⟨⟨t,y,f6,aa,J,hy,ai⟩,f0,f63,f64,f65,f4,rfl⟩;obtain⟨q,hq⟩:=yQ1 am;have bd:=k5 q (lMg hq);obtain⟨lq,al⟩:=yQ1 bd;have aw:=bj (lnW W lq) (List.mem_map.2 ⟨q,lMg hq,by rw[al];rfl⟩);have av:=xUr n (h.sub J) al aw.1 (by omega);simp only[go_sem,zE,zA,reduceCtorEq,f6,f0,f63,f64,f65,fits,lt_i am,yQ3 a1,iNn,yGa hq,yV9];refine av.mono ?_;rintro rt ao ⟨au,rfl⟩;obtain⟨ag,aS,aJ,aQ,aI,aV,bl,aU,aL,aT,aK,v',aM,aN,aG,n',aO,aH,rfl⟩:=xZz au;simp only[go_sem,zE,zA,zM,zL,fits,yQ4];refine yZy aa ai J rfl (by simp[fits,IV.one]) (by simp only;omega) (by omega) λt' bL w1 w2 w3=>?_;simp only[go_sem,zE,zA,zL,reduceCtorEq,f6,f0,f63,f64,f65,f4,yQc am (show k.2.2.length<=281474976710656 by omega)];have aZ:IsTrs ((k.2.2.take (p+1)).map λq=>tF (calJ ca) n (((lines[q]?).map (lnW W)).getD ([],[]))) (y++[.agg [.raw (.int .u8 ag),.sl aS aJ,.sl aQ aI,.raw (.int .u8 aV),.raw (.string bl),.sl aU aL,.sl aT aK,.raw (.bool v'),.raw (.string aM),.sl aN aG,.raw (.string n'),.sl aO aH]]):=by
     rw[yQ7 hq,List.map_append,List.map_singleton,al];refine hy.append ?_;simp only[IsTrs];exact⟨_,[],rfl,au,rfl⟩
    exact⟨t',_,rfl,w1,w2,aZ,by rw[lLa,ai];rfl⟩
   ·rintro fr ao _ ⟨⟨t,y,f6,aa,J,hy,ai⟩,f0,f63,f64,f65,f4,rfl⟩;rw[lTl] at hy;have bh:=aa.es;unfold trC at f4;simp only[go_sem,zE,zA,zL,f6,f64,f65,f4,yQi (nLi _)];refine yQf J ⟨?_,rfl⟩;have aj:(lkM W lines k).2.2.map (tF (calJ ca) n)=k.2.2.map λq=>tF (calJ ca) n (((lines[q]?).map (lnW W)).getD ([],[])):=by
     unfold lkM;rw[List.map_map];rfl
    rw[aj];have bf:(lkM W lines k).2.1=f:=by unfold lkM;simp only[hf];rfl
    rw[bf];simp only[IsTr];exact⟨_,_,_,_,_,_,_,_,_,_,_,_,_,_,_,_,rfl,k3,e1,i1,e2,i2,hr.1,⟨_,_,rfl,.inl rfl,rfl⟩,bh,hy⟩
end
end Go.Proofs.Tryz
namespace Go.Proofs.Tryz
open Go Go.Iv
set_option maxRecDepth 4000
variable (gl:Nat->Option IV)
theorem xUw {j:Bool}:∀(n m:Nat) {s:Sn},0<hF j s->hF j s<=n->hF j s<=m->tF j n s=tF j m s
 | 0,_,_,h0,D,_=>by omega
 | n+1,0,_,h0,_,E=>by omega
 | n+1,m+1,s,h0,D,E=>by
  rw[tF,tF];cases O:axF s with
  | some p=>rfl
  | none =>
   have hc:=zZn.1 O;cases J:zU2 j s with
   | none=>rfl
   | some v =>
    have hp:=yGl hc h0 J;simp only;congr 1;exact List.map_congr_left λp A=>by
     have:=hp p A;exact xUw n m this.1 (by omega) (by omega)
noncomputable def tS (j:Bool)(s:Sn):Nat:=(tF j (hF j s) s).steps
noncomputable def stN (j:Bool)(s:Sn):Nat:=min (tS j s) 301
theorem zUn {j:Bool}{n:Nat}:∀ {ps:List Sn},(∀p∈ps,0<hF j p/\hF j p<=n)->yZq (ps.map (tF j n))=(ps.map (tS j)).sum
 | [],_=>rfl
 | p::ps,h=>by
  have:=h p (.head _);rw[List.map_cons,yZq,List.map_cons,List.sum_cons,zUn λq A=>h q (.tail _ A)];congr 1;unfold tS;rw[xUw n (hF j p) this.1 this.2 (Nat.le_refl _)]
theorem vV2 {j:Bool}{s:Sn}(h:hF j s=1):ClF s.1 s.2:=by
 apply Classical.byContradiction;intro hc;have:=xW8 (j:=j) hc (by omega);omega
theorem vJm {j:Bool}{s:Sn}(h:hF j s=1):tS j s=1:=by
 have hc:=vV2 h;unfold tS;rw[h,tF];cases A:axF s with
 | some p=>rfl
 | none=>exact (zZn.1 A hc).elim
theorem wUf {j:Bool}{s:Sn}(hc:¬ ClF s.1 s.2)(h0:0<hF j s){m:Nat×Fm×List Sn}(D:zU2 j s=some m):tS j s=1+(m.2.2.map (tS j)).sum:=by
 have hp:=yGl hc h0 D;obtain⟨n,E⟩:∃n,hF j s=n+1:=⟨hF j s-1,by omega⟩
 rw[tS,E,tF,zZn.2 hc];simp only[D];rw[Tr.steps,zUn λp A=>by have:=hp p A;omega]
section
variable {ca m:Nat}{W:List Fm}{tw:Tag}{xw:List IV}{lines:List Ln}{links:List (List Lk)}{hs:List Nat}{tl tk:Tag}{xl xk:List IV}{mN rb gH:Nat}
def KnOk (ca:Nat)(W:List Fm)(lines:List Ln)(es:List (Value×IV)):Prop:=∀p∈es,∃(q:Nat) (A:Ln),lines[q]?=some A/\p.1=.int .i32 (q:Int)/\p.2=.raw (.int .i64 (stN (calJ ca) (lnW W A):Int))
theorem KnOk.find {es:List (Value×IV)}(h:KnOk ca W lines es){i:Nat}{ln:Ln}(D:lines[i]?=some ln){y:IV}(A:yXo (.int .i32 (i:Int)) es=some y):y=.raw (.int .i64 (stN (calJ ca) (lnW W ln):Int)):=by
 induction es with
 | nil=>simp[yXo] at A
 | cons p es J =>
  obtain⟨x,v⟩:=p;unfold yXo at A;split at A
  ·rename_i O;cases A;obtain⟨q,U,h1,h2,E⟩:=h _ (.head _);simp only at h2 E;subst h2;have:i=q:=by have:=of_decide_eq_true O;omega
   subst this;rw[D] at h1;cases h1;exact E
  ·exact J (λp hp=>h p (.tail _ hp)) A
theorem KnOk.upd {es:List (Value×IV)}(h:KnOk ca W lines es){i:Nat}{ln:Ln}(A:lines[i]?=some ln):KnOk ca W lines (updI (.int .i32 (i:Int)) (.raw (.int .i64 (stN (calJ ca) (lnW W ln):Int))) es):=λp hp=>by
 rcases zYa hp with rfl|hp
 ·exact⟨i,ln,A,rfl,rfl⟩
 ·exact h p hp
theorem Sttl.put {st:ISt}(h:Sttl ca m W tw xw lines links hs tl tk xl xk mN rb gH st){b:Nat}{kk:KeyK}{es es':List (Value×IV)}(A:st b=some (.map kk es)):Sttl ca m W tw xw lines links hs tl tk xl xk mN rb gH (st.put b (some (.map kk es'))) :=
 { h with rbx:=by rw[yQ5 (by rintro rfl;have:=h.rbx;rw[A] at this;cases this)];exact h.rbx,hts:=by rw[yQ5 (by rintro rfl;have:=h.hts;rw[A] at this;cases this)];exact h.hts }
theorem xKs:∀(n:Nat){st:ISt}(_:Sttl ca m W tw xw lines links hs tl tk xl xk mN rb gH st){mk:Nat}{es:List (Value×IV)}(_:st mk=some (.map (.int .i32) es))(_:KnOk ca W lines es){i:Nat}{ln:Ln}(_:lines[i]?=some ln)(_:0<Tryz.hF (calJ ca) (lnW W ln))(_:Tryz.hF (calJ ca) (lnW W ln)<=n),
  ICall prog gl 45 [ptr rb,.raw (.int .i32 (i:Int)),.raw (.map (some mk))] st (λr st'=>r=.raw (.int .i64 (stN (calJ ca) (lnW W ln):Int))/\∃es',KnOk ca W lines es'/\st'=st.put mk (some (.map (.int .i32) es')))
 | 0,_,_,_,_,_,_,_,_,_,h0,hn=>by omega
 | n+1,st,h,mk,es,A,J,i,ln,D,h0,hn=>by
  have aq:=h.rbx;have aw:=h.hts;have av:=(lGs D).1;have hH:=h.hF D;refine iI func45 ?_;cases hf:yXo (.int .i32 (i:Int)) es with
  | some y =>
   have hy:=J.find D hf;subst hy;simp only[go_sem,zE,A,hf,yG9];exact yQ0 ⟨rfl,es,J,(yZm A).symm⟩
  | none =>
   simp only[go_sem,zE,reduceCtorEq,fits,A,hf,yW5,aq,aw,iNn,Nat.mul_one,av,yZ8 hH,IV.one];by_cases h1:Tryz.hF (calJ ca) (lnW W ln)=1
   ·have au:stN (calJ ca) (lnW W ln)=1:=by unfold stN;rw[vJm h1];rfl
    have U:=J.upd (i:=i) D;rw[au] at U ⊢;simp only[go_sem,zE,A,dEf (show ¬ (1:Int)<((Tryz.hF (calJ ca) (lnW W ln):Nat):Int) by omega)];exact yQ0 ⟨rfl,_,U,rfl⟩
   ·have h2:2<=Tryz.hF (calJ ca) (lnW W ln):=by omega
    have hc:¬ ClF (lnW W ln).1 (lnW W ln).2:=λhc=>h1 (zQ5 hc);have ag:=wGs gl h D hc h2;simp only[go_sem,zE,zA,reduceCtorEq,dEt (show (1:Int)<((Tryz.hF (calJ ca) (lnW W ln):Nat):Int) by omega)];refine ag.mono ?_;rintro r st ⟨⟨k,hk,ah,k2,k3,k4,k5⟩,rfl⟩;have ay:=yGl hc h0 ah;have an:=λst=>to_c gl k r hk k2 st;obtain⟨pp,qq,rfl,ac⟩:=id hk;simp only[go_sem,zA];refine (an _).mono ?_;rintro _ ak ⟨⟨tt,rfl,am⟩,rfl⟩;simp only[go_sem,yVf];intro _;refine LoopC.ctr k.2.2.length (λp fr st' ds=>(∃es',KnOk ca W lines es'/\st'=ak.put mk (some (.map (.int .i32) es')))/\fr 9=.iv (.raw (.int .i64 (min (1+((k.2.2.take p).map λq=>tS (calJ ca) (((lines[q]?).map (lnW W)).getD ([],[]))).sum) 301:Nat))) /\
     fr 0=.iv (ptr rb)/\fr 1=.iv (.raw (.int .i32 (i:Int)))/\fr 2=.iv (.raw (.map (some mk)))/\fr 31=.iv (.sl tt (i32I k.2.2))/\fr 32=.iv (.raw (.int .i64 (k.2.2.length:Int)))/\fr 33=.iv (.raw (.int .i64 (p:Int)))/\ds=[]) ?_ ?_ ?_
    ·simp only[go_sem,zE,reduceCtorEq];exact⟨⟨es,J,(yZm A).symm⟩,rfl,rfl⟩
    ·rintro p fr aj _ ae ⟨⟨es',E,rfl⟩,f9,f0,f1,f2,f31,f32,f33,rfl⟩;obtain⟨q,hq⟩:=yQ1 ae;obtain⟨lq,O⟩:=yQ1 (k5 q (lMg hq));have ac:=ay (lnW W lq) (List.mem_map.2 ⟨q,lMg hq,by rw[O];rfl⟩);have ab:=xKs n (h.put (es':=es') A) (ISt.put_same ..) E O ac.1 (by omega);simp only[go_sem,zE,zA,reduceCtorEq,f9,f0,f2,f31,f32,f33,fits,lt_i ae,yQ3 am,iNn,yGa hq,yV9];refine ab.mono ?_;rintro _ _ ⟨rfl,az,af,rfl⟩;have aG:stN (calJ ca) (lnW W lq)<=301:=Nat.min_le_right _ _;simp only[go_sem,zE,reduceCtorEq,f0,f1,f2,f31,f32,f33,yQ9];have aa:((k.2.2.take (p+1)).map λq=>tS (calJ ca) (((lines[q]?).map (lnW W)).getD ([],[]))).sum=((k.2.2.take p).map λq=>tS (calJ ca) (((lines[q]?).map (lnW W)).getD ([],[]))).sum+tS (calJ ca) (lnW W lq):=by
      rw[List.take_succ,hq,List.map_append,List.sum_append];simp[O]
     rw[aa,w64 (n:=((min _ _:Nat):Int)+_) (by omega) (by omega),w64 (by omega) (by omega)];refine⟨⟨az,af,rfl⟩,?_,rfl⟩;congr 3;unfold stN;omega
    ·rintro fr aj _ ⟨⟨es',E,rfl⟩,f9,f0,f1,f2,f31,f32,f33,rfl⟩;rw[lTl] at f9;have ao:stN (calJ ca) (lnW W ln)=min (1+(k.2.2.map λq=>tS (calJ ca) (((lines[q]?).map (lnW W)).getD ([],[]))).sum) 301:=by
      unfold stN;rw[wUf hc h0 ah];unfold lkM;rw[List.map_map];rfl
     rw[<- ao] at f9;simp only[go_sem,zE,f9,f1,f2,f32,f33,yQi (nLi _),ISt.put_same];rw[yQ9];exact yQ0 ⟨rfl,_,E.upd D,rfl⟩
end
noncomputable def tP (ca:Nat)(s:Sn):Tr:=tF (calJ ca) (hF (calJ ca) s) (nf s)
def PrvR (ca:Nat)(s:Sq)(bound:Int)(r:IV):Prop :=
 (∃e,BadR ca s e/\r=.tup [zT,.raw (.int .i64 (e:Int))])\/((ca=1\/ca=2)/\yQo ca s=true/\∃K:List Sn,ReachOk (calJ ca) (nf (s.l,s.r)) K /\
  (((hF (calJ ca) (s.l,s.r)=0\/bound<(hF (calJ ca) (s.l,s.r):Int))/\r=.tup [zT,.raw (.int .i64 6)]) \/
   (0<hF (calJ ca) (s.l,s.r)/\(hF (calJ ca) (s.l,s.r):Int)<=bound/\((300<(tP ca (s.l,s.r)).steps/\r=.tup [zT,.raw (.int .i64 5)]) \/
    ((tP ca (s.l,s.r)).steps<=300/\∃z,IsTr (tP ca (s.l,s.r)) z/\r=.tup [z,.raw (.int .i64 0)])))))
theorem wQy (G:Gl gl)(T:Gt gl)(ca:Nat)(s:Sq)(x:IV)(hx:IsSq s x)(hs:yXx s)(bound:Int)(st:ISt) :
  ICall prog gl 19 [.raw (.int .u8 (ca:Int)),x,.raw (.int .i64 bound)] st (λr st'=>st'=st/\PrvR ca s bound r):=by
 have he:=zQd gl G T ca s x hx hs;obtain⟨t1,x1,t2,x2,rfl,e1,i1,e2,i2⟩:=hx;refine iI func19 ?_;simp only[go_sem,zE,zA,zL,reduceCtorEq];refine (he _).mono ?_;rintro r aB hr;rcases hr.split with⟨e,hb,rfl,rfl⟩|⟨hc,hv,m,tw,xw,rb,mN,lines,links,htw,hxw,rfl,hR,hE,hl⟩
 ·have h0:decide ((e:Int)=0)=false:=dEf (by have:=hb.ne;omega);simp only[go_sem,zE,zA,zL,h0];exact yQ0 ⟨rfl,.inl ⟨e,hb,rfl⟩⟩
 ·obtain⟨hS,_,aw,aJ⟩:=yKi hc hv;obtain⟨tl,xl,tk,xk,aD,hxl,an,hxk,ao⟩:=hR.ex;have hA:=hE.all hl;have hK:=hE.reach hS hR.nd (Nat.le_of_eq hl.symm);have aC:=zYo gl ca m (spW s) hS tw xw htw hxw aw lines links hA hE.len tl tk xl xk mN rb hxl hxk an.es ao.es st aB aD hR.off.1 hR.base;simp only[go_sem,zE,zA,decide_true];refine aC.mono ?_;rintro _ J ⟨rfl,gH,am,D,ab,av,ac,A⟩;obtain⟨ln,U,O⟩:=hE.start;have ag:=(lGs U).1;have hT:Sttl ca m (spW s) tw xw lines links am tl tk xl xk mN rb gH J:=⟨hS,htw,hxw,aw,hA,hxl,hxk,an.es,ao.es,av,hE.len,λx hx=>by
   obtain⟨i,hi⟩:=List.mem_iff_getElem?.1 hx;obtain⟨lq,au⟩:=yQ1 (l:=lines) (k:=i) (by have:=(lGs hi).1;omega);have:=hA.hF hS au (ac i x hi);rw[<- this];exact Nat.le_trans (hK.height ((hK.mem _).1 (List.mem_map.2 ⟨lq,lMg au,rfl⟩))) hK.len,ac,D,ab⟩
  have E:=hT.hF U;rw[O,xJi] at E;generalize aa:hF (calJ ca) (s.l,s.r)=h at E;by_cases hz:h=0
  ·subst hz;simp only[go_sem,zE,zA,zL,D,ab,fits,ag,yZ8 E,Nat.zero_mul,Nat.add_zero,show ((0:Int)<=0)=True from eq_true (by decide),show Int.toNat 0=0 from rfl,IV.one,show decide (((0:Nat):Int)=0)=true from rfl];exact⟨st,A,rfl,.inr ⟨hc,hv,_,hK,.inl ⟨.inl aa,rfl⟩⟩⟩
  ·have ai:decide ((h:Int)=0)=false:=dEf (by omega);by_cases hb:bound<(h:Int)
   ·have af:decide ((h:Int) > bound)=true:=dEt hb;simp only[go_sem,zE,zA,zL,D,ab,fits,ag,yZ8 E,Nat.zero_mul,Nat.add_zero,show ((0:Int)<=0)=True from eq_true (by decide),show Int.toNat 0=0 from rfl,IV.one,ai,af];exact⟨st,A,rfl,.inr ⟨hc,hv,_,hK,.inl ⟨.inr (by rw[aa];exact hb),rfl⟩⟩⟩
   ·have af:decide ((h:Int) > bound)=false:=dEf hb;have av:hF (calJ ca) (lnW (spW s) ln)=h:=by rw[O,xJi,aa]
    simp only[go_sem,zE,zA,D,ab,fits,ag,yZ8 E,Nat.zero_mul,Nat.add_zero,show ((0:Int)<=0)=True from eq_true (by decide),show Int.toNat 0=0 from rfl,IV.one,ai,af];intro mk;refine yQ8 λaq=>?_;have ax:=hT.sub (st':=J.put mk (some (.map (.int .i32) []))) (yQb (λ_ _ h=>h) aq);refine (xKs gl h ax (ISt.put_same ..) (λp hp=>nomatch hp) U (by omega) (by omega)).mono ?_;rintro _ _ ⟨rfl,es',_,rfl⟩;have ak:stN (calJ ca) (lnW (spW s) ln)=min (tP ca (s.l,s.r)).steps 301:=by
     unfold stN tS tP;rw[O,xJi]
    have aE:Sttl ca m (spW s) tw xw lines links am tl tk xl xk mN rb gH ((J.put mk (some (.map (.int .i32) []))).put mk (some (.map (.int .i32) es'))):=ax.put (ISt.put_same ..);have al:subSt st ((J.put mk (some (.map (.int .i32) []))).put mk (some (.map (.int .i32) es'))):=by
     rw[yQ9];exact yQb A (yXi A aq)
    by_cases h3:300<(tP ca (s.l,s.r)).steps
    ·simp only[go_sem,zE,zA,zL,ak,dEt (show ((min (tP ca (s.l,s.r)).steps 301:Nat):Int) > 300 by omega)];exact⟨st,al,rfl,.inr ⟨hc,hv,_,hK,.inr ⟨by omega,by omega,.inl ⟨h3,rfl⟩⟩⟩⟩
    ·simp only[go_sem,zE,zA,ak,dEf (show ¬ ((min (tP ca (s.l,s.r)).steps 301:Nat):Int) > 300 by omega)];refine (xUr gl h aE U (by omega) (by omega)).mono ?_;rintro z _ ⟨hz,rfl⟩;rw[O] at hz;have ae:IsTr (tP ca (s.l,s.r)) z:=by rw[tP,aa];exact hz
     cases aj:tP ca (s.l,s.r) with
     | mk q1 q2 q3 q4 q5 q6 =>
      rw[aj] at ae;obtain⟨_,_,_,_,_,_,_,_,_,_,_,_,_,_,_,_,rfl,_⟩:=ae.mk;simp only[go_sem,zE,zA,zL];exact⟨st,al,rfl,.inr ⟨hc,hv,_,hK,.inr ⟨by omega,by omega,.inr ⟨by omega,_,by rw[aj];exact ae,rfl⟩⟩⟩⟩
end Go.Proofs.Tryz
namespace Go.Proofs.Tryz
open Go Go.Iv
end Go.Proofs.Tryz
namespace Go.Proofs.Tryz
open Go Go.Iv
set_option maxRecDepth 4000
variable (gl:Nat->Option IV)
theorem vQ2 {p:List Nat}{k a:Nat}(h:p[k]?=some a):(plI p)[k]?=some (.raw (.int .i64 (a:Int))):=by simp[plI,List.getElem?_map,h]
theorem xYx (p q:List Nat):plI (p++q)=plI p++plI q:=by simp[plI]
def sumN:List Nat->Nat
 | []=>0
 | a::l=>a+sumN l
theorem yGz:∀l m:List Nat,sumN (l++m)=sumN l+sumN m
 | [],m=>by simp[sumN]
 | a::l,m=>by simp only[List.cons_append,sumN,yGz l m];omega
theorem xUz (l:List Nat)(k:Nat):sumN (l.take k)<=sumN l:=by
 conv=>rhs;rw[<- List.take_append_drop k l]
 rw[yGz];omega
theorem uX8 (D:Tag)(l:List Nat)(J:okEs D 1)(hs:sumN l<=4611686018427387904)(st:ISt):ICall prog gl 59 [.sl D (plI l)] st (λr st'=>r=.raw (.int .i64 (sumN l))/\st'=st):=by
 refine iI func59 ?_;simp only[go_sem,reduceCtorEq,yU1];intro _;refine LoopC.ctr l.length (λk fr st' ds=>fr 3=.iv (.raw (.int .i64 (sumN (l.take k))))/\fr 6=.iv (.sl D (plI l))/\fr 7=.iv (.raw (.int .i64 l.length))/\fr 8=.iv (.raw (.int .i64 k))/\st'=st/\ds=[]) ?_ ?_ ?_
 ·simp only[go_sem,zE];simp[sumN]
 ·rintro k fr E _ A ⟨f3,f6,f7,f8,rfl,rfl⟩;obtain⟨a,O⟩:=yQ1 A;have h1:=xUz l (k+1);have h2:sumN (l.take (k+1))=sumN (l.take k)+a:=by rw[yQ7 O,yGz];rfl
  have U:IntKind.i64.wrap (((sumN (l.take k):Nat):Int)+(a:Int))=((sumN (l.take (k+1)):Nat):Int):=by rw[w64]<;>omega
  simp only[go_sem,zE,f3,f6,f7,f8,lt_i A,yQ3 J,iNn,vQ2 O,fits,U,yQc A (show l.length<=281474976710656 by omega)]
 ·rintro fr E _ ⟨f3,f6,f7,f8,rfl,rfl⟩;rw[lTl] at f3;simp only[go_sem,zE,f3,f7,f8,yQi (nLi _)];exact yQ0 ⟨rfl,rfl⟩
def vJp:Tr->List Tr
 | .mk _ _ _ _ _ sub=>sub
def xY9 (g:Nat)(v:Tr->Nat):Prop:=∀(t:Tr) (l:List Nat) (x:IV) (D:Tag) (A st:ISt),IsTr t x->t.steps<=1099511627776->l=(vJp t).map v->own st D l.length 1 A->subSt A st →
 ICall prog gl g [x,.sl D (plI l)] st (λr st'=>r=.raw (.int .i64 (v t))/\subSt A st')
theorem zUm:∀ {l:List Tr}{t:Tr},t∈l->t.steps<=yZq l
 | a::l,t,h=>by
  simp only[yZq];rcases List.mem_cons.1 h with rfl|h
  ·omega
  ·have:=zUm h;omega
theorem zX1:∀l:List Tr,l.length<=yZq l
 | []=>Nat.le_refl _
 | .mk _ _ _ _ _ s::l=>by
  have:=zX1 l;simp only[List.length_cons,yZq,Tr.steps];omega
def wYc (v:Tr->Nat)(g:Nat)(t:Tr):Prop:=∀(x:IV) (_:IsTr t x) (_:t.steps<=1099511627776) (st:ISt),ICall prog gl 57 [x,.fn (.func g) [] []] st (λr st'=>r=.raw (.int .i64 (v t))/\st'=st)
theorem wXq (v:Tr->Nat)(g:Nat)(ae:entI prog g=true)(hg:xY9 gl g v)(rule:Nat)(sq:Sq)(f:Fm)(u:Tm)(n:ByteArray)(sub:List Tr)(IH:∀a∈sub,wYc gl v g a):wYc gl v g (.mk rule sq f u n sub):=by
 intro x hx hs st;have ai:=hx;obtain⟨tl,xl,tr,xr,op,fn,ta,xa,tb,xb,vb,un,tu,xu,ts,xs,rfl,aS,_,_,_,_,_,_,e3,i3⟩:=hx.mk;have aj:=hs;simp only[Tr.steps] at hs;have hll:=zX1 sub;refine iI func57 ?_;simp only[go_sem,zE,i3.len];intro _;refine LoopC.ctr sub.length (λk fr st' ds=>(∃D,fr 5=.iv (.sl D (plI ((sub.take k).map v)))/\own st' D k 1 st/\subSt st st')/\fr 1=.iv (.fn (.func g) [] [])/\fr 2=.box [.raw (.int .u8 rule),.sl tl xl,.sl tr xr,.raw (.int .u8 op),.raw (.string fn),.sl ta xa,.sl tb xb,.raw (.bool vb),.raw (.string un),.sl tu xu,.raw (.string n),.sl ts xs] /\
  fr 9=.iv (.sl ts xs)/\fr 10=.iv (.raw (.int .i64 sub.length))/\fr 11=.iv (.raw (.int .i64 k))/\ds=[]) ?_ ?_ ?_
 ·simp only[go_sem,zE];exact⟨⟨_,rfl,.inl ⟨rfl,rfl⟩,subSt.refl _⟩,rfl⟩
 ·rintro k fr O _ ac ⟨⟨D,f5,J,E⟩,f1,f2,f9,f10,f11,rfl⟩;obtain⟨a,ha⟩:=yQ1 ac;obtain⟨z,ak,hz⟩:=i3.get ha;have aQ:=zUm (lMg ha);have A:=IH a (lMg ha) z hz (by omega) O;obtain⟨ah,aJ,ax,aI,av,aO,aU,aM,aA,aK,ay,v',aD,aF,ao,n',aH,au,rfl⟩:=xZz hz;simp only[go_sem,zE,zB,zA,zL,f1,f5,f9,f10,f11,lt_i ac,yQ3 e3,iNn,ak,fits];refine A.mono ?_;rintro _ _ ⟨rfl,rfl⟩;simp only[go_sem,zE,zA,zM,zL,fits,zK6];refine yK7 J (by rw[yU1,List.length_map,List.length_take];omega) E rfl (by simp[fits,IV.one]) (by simp only;omega) (by omega) λag st4 ab U _ _=>?_;simp only[go_sem,zE,f1,f2,f9,f10,f11,yQc ac (show sub.length<=281474976710656 by omega)];exact⟨ag,by rw[yQ7 ha,List.map_append,xYx];rfl,ab,U⟩
 ·rintro fr O _ ⟨⟨D,f5,J,E⟩,f1,f2,f9,f10,f11,rfl⟩;rw[lTl] at f5;have A:=hg _ (sub.map v) _ D st O ai aj rfl (by rw[List.length_map];exact J) E;simp only[go_sem,zE,zA,zL,f1,f2,f5,f10,f11,yQi (nLi _),ae];refine A.mono ?_;rintro _ aN ⟨rfl,aa⟩;simp only[go_sem];exact yQf aa ⟨rfl,rfl⟩
theorem xWd (v:Tr->Nat)(g:Nat)(A:entI prog g=true)(D:xY9 gl g v):∀(k:Nat) (t:Tr),SizeOf.sizeOf t<k->wYc gl v g t
 | 0,t,h=>by omega
 | k+1,.mk r sq f u n sub,h=>wXq gl v g A D r sq f u n sub (λa E=>xWd v g A D k a (by
   have:=lSm E;simp at h;omega))
theorem vVe (v:Tr->Nat)(g:Nat)(A:entI prog g=true)(D:xY9 gl g v)(t:Tr):wYc gl v g t:=xWd gl v g A D _ t (Nat.lt_succ_self _)
theorem zJ8:∀l:List Tr,sumN (l.map Tr.steps)=yZq l
 | []=>rfl
 | a::l=>by simp only[List.map_cons,sumN,yZq,zJ8 l]
theorem wXr:xY9 gl 58 Tr.steps:=by
 rintro⟨rule,s,m,u,n,sub⟩ l x tg an st hx hs rfl D E;simp only[vJp] at D ⊢;simp only[Tr.steps] at hs;have A:=λst=>uX8 gl tg (sub.map Tr.steps) D.es (by rw[zJ8];omega) st;have hw:IntKind.i64.wrap (1+((yZq sub:Nat):Int))=((1+yZq sub:Nat):Int):=by rw[w64]<;>omega
 rw[zJ8] at A;obtain⟨J,aj,ab,ai,aa,ao,au,am,ae,al,ac,v',af,ag,O,n',ah,U,rfl⟩:=xZz hx;refine iI func58 ?_;simp only[go_sem,zE,zA];refine (A _).mono ?_;rintro _ _ ⟨rfl,rfl⟩;simp only[go_sem,hw];exact yQ0 ⟨by simp only[Tr.steps],E⟩
theorem vZk (t:Tr)(x:IV)(hx:IsTr t x)(hs:t.steps<=1099511627776)(st:ISt):ICall prog gl 28 [x] st (λr st'=>r=.raw (.int .i64 (t.steps))/\st'=st):=by
 have hf:=λst=>vVe gl Tr.steps 58 (by simp only[go_sem]) (wXr gl) t x hx hs st;obtain⟨A,ag,O,af,J,aj,al,ai,aa,ah,U,v',ab,ac,D,n',ae,E,rfl⟩:=xZz hx;refine iI func28 ?_;simp only[go_sem,zE,zA,zL];refine (hf _).mono ?_;rintro _ _ ⟨rfl,rfl⟩;simp only[go_sem];exact yQ0 ⟨rfl,rfl⟩
end Go.Proofs.Tryz
namespace Go.Proofs.Tryz
open Go Go.Iv
end Go.Proofs.Tryz
namespace Go.Proofs.Tryz
open Go Go.Iv
mutual
def NA:Tr->Prop
 | .mk _ s m u _ sub=>yXx s/\m.size<=1000000/\u.size<=1000000/\NAs sub
def NAs:List Tr->Prop
 | []=>True
 | a::l=>NA a/\NAs l
end
theorem kQf:∀ {t:Tr},NA t->yXx t.sq
 | .mk _ _ _ _ _ _,h=>by simp only[NA] at h;exact h.1
theorem wKc:∀ {l:List Tr}{a:Tr},NAs l->a∈l->NA a
 | b::l,a,h,A=>by
  simp only[NAs] at h;rcases List.mem_cons.1 A with rfl|A
  ·exact h.1
  ·exact wKc h.2 A
theorem wKb:∀ {l:List Tr},(∀a∈l,NA a)->NAs l
 | [],_=>trivial
 | b::l,h=>⟨h b (by simp),wKb λa A=>h a (by simp[A])⟩
theorem vZm:∀ {t:Tr},NA t->wZ7 t
 | .mk _ _ _ _ _ _,h=>by
  simp only[NA] at h;exact⟨h.1,h.2.1,h.2.2.1,λa A=>kQf (wKc h.2.2.2 A)⟩
mutual
theorem wKd:∀(p:List Nat)(t:Tr),NA t->∀q∈t.walk p,NA q.2
 | p,.mk rule s m u n sub,h,q,A=>by
  simp only[Tr.walk,List.mem_cons] at A;rcases A with rfl|A
  ·exact h
  ·simp only[NA] at h;exact xY7 p 0 sub h.2.2.2 q A
theorem xY7:∀(p:List Nat)(i:Nat)(l:List Tr),NAs l->∀q∈yZd p i l,NA q.2
 | _,_,[],_,q,A=>by cases A
 | p,i,a::l,h,q,A=>by
  simp only[NAs] at h;simp only[yZd,List.mem_append] at A;rcases A with A|A
  ·exact wKd _ a h.1 q A
  ·exact xY7 p (i+1) l h.2 q A
end
theorem vYf {t:Tr}(h:NA t)(hs:t.steps<=1099511627776):vQt t:=⟨λq A=>vZm (wKd [] t h q A),Nat.le_trans t.height_le_steps hs⟩
end Go.Proofs.Tryz
namespace Go.Proofs.Tryz
open Go Go.Iv
theorem xVw {o:Nat}(h:o<=7):isQ o=false:=by
 rcases (show o=0\/o=1\/o=2\/o=3\/o=4\/o=5\/o=6\/o=7 by omega) with rfl|rfl|rfl|rfl|rfl|rfl|rfl|rfl<;>rfl
theorem wVk {f:Fm}(h:PF f)(fr:List ByteArray)(ar:Ar):zXb fr ar f=f:=by
 induction h with
 | atom n=>simp[zXb,yJf,yX5,xVw (o:=1) (by omega)]
 | fls=>simp[zXb,yJf,yX5,xVw (o:=2) (by omega)]
 | neg h E=>simp[zXb,yJf,yX5,xVw (o:=3) (by omega),E]
 | bin O J _ _ D A=>simp[zXb,yJf,yX5,xVw J,D,A]
theorem vJw {ca:Nat}(hc:ca=1\/ca=2){s:Sq}(hv:yQo ca s=true):SetS s=(sqOf (nf (s.l,s.r)),0):=by
 have D:=yVx hv;have key:∀l:List Fm,(∀f∈l,fmB ca f=true)->yXb l=(setF l,0):=λl hl=>by
  unfold yXb;rw[if_pos (List.all_eq_true.2 λf A=>yX2 (hl f A))];have:l.map zJu=l:=by
   conv=>rhs;rw[<- List.map_id l]
   exact List.map_congr_left λf A=>wVk (zJn (by omega) (hl f A)) _ _
  rw[this]
 unfold SetS;rw[key s.l λf A=>D f (List.mem_append_left _ A),key s.r λf A=>D f (List.mem_append_right _ A)];rfl
theorem yYu {ca:Nat}{s:Sq}(hv:yQo ca s=true):yXx s:=by
 have A:=yVx hv;exact⟨λf D=>by have:=yJe (yX2 (A f (List.mem_append_left _ D)));omega,λf D=>by have:=yJe (yX2 (A f (List.mem_append_right _ D)));omega⟩
theorem NAc.na {ca:Nat}{t:Tr}(h:NAc ca t):NA t:=by
 induction h with
 | mk h1 h2 J D E A =>
  have:=yJe (yX2 h2);simp only[NA];exact⟨yYu h1,by omega,D,wKb A⟩
section
variable {ca:Nat}(hc:ca=1\/ca=2){s0:Sq}(hv:yQo ca s0=true){K:List Sn}(hK:ReachOk (calJ ca) (nf (s0.l,s0.r)) K)
include hc hv hK
end
end Go.Proofs.Tryz
namespace Go.Proofs.Tryz
open Go Go.Iv
noncomputable def bstN (j:Bool)(b:Nat)(m:Nat×Fm×List Sn):Nat:=if mstS j m.2.2=0 then b else if b=0\/mstS j m.2.2+1<b then mstS j m.2.2+1 else b
theorem xWx (j:Bool):∀(ms:List (Nat×Fm×List Sn)) (b:Nat),(ms.foldl (bstN j) b=b\/∃m∈ms,mstS j m.2.2≠0/\ms.foldl (bstN j) b=mstS j m.2.2+1) /\
  (∀m∈ms,mstS j m.2.2≠0->ms.foldl (bstN j) b≠0/\ms.foldl (bstN j) b<=mstS j m.2.2+1)/\(b≠0->ms.foldl (bstN j) b≠0/\ms.foldl (bstN j) b<=b)
 | [],b=>⟨.inl rfl,nofun,λh=>⟨h,Nat.le_refl _⟩⟩
 | m::ms,b=>by
  obtain⟨h1,h2,h3⟩:=xWx j ms (bstN j b m);rw[List.foldl_cons];have E:bstN j b m=b\/(mstS j m.2.2≠0/\bstN j b m=mstS j m.2.2+1):=by unfold bstN;grind
  have hm:mstS j m.2.2≠0->bstN j b m≠0/\bstN j b m<=mstS j m.2.2+1:=by unfold bstN;grind
  have U:b≠0->bstN j b m≠0/\bstN j b m<=b:=by unfold bstN;grind
  refine⟨?_,λq D A=>?_,λh=>?_⟩
  ·rcases h1 with h1|⟨q,D,O,J⟩
   ·rcases E with E|⟨h6,E⟩
    ·exact .inl (by rw[h1,E])
    ·exact .inr ⟨m,.head _,h6,by rw[h1,E]⟩
   ·exact .inr ⟨q,.tail _ D,O,J⟩
  ·rcases List.mem_cons.1 D with rfl|D
   ·have O:=hm A;have J:=h3 O.1;exact⟨J.1,by omega⟩
   ·exact h2 q D A
  ·have O:=U h;have J:=h3 O.1;exact⟨J.1,by omega⟩
theorem wG0 {j:Bool}{s:Sn}{m:Nat×Fm×List Sn}(D:m∈mvF j s)(h:mstS j m.2.2≠0):0<hF j s/\hF j s<=mstS j m.2.2+1:=by
 obtain⟨n,A⟩:∃n,mstS j m.2.2=n+1:=⟨mstS j m.2.2-1,by omega⟩
 obtain⟨h1,_⟩:=zJx.1 A;have J:=zK9 (j:=j) (s:=s) (n:=n+2) (yK1.2 (.inr ⟨m,D,λp hp=>by
  obtain⟨h2,E⟩:=h1 p hp;exact HtF.up (zWl h2) E⟩))
 omega
theorem vY2 {j:Bool}{s:Sn}(hc:¬ ClF s.1 s.2):(mvF j s).foldl (bstN j) 0=hF j s:=by
 obtain⟨h1,h2,_⟩:=xWx j (mvF j s) 0;rcases Nat.eq_zero_or_pos (hF j s) with h0|h0
 ·rcases h1 with h1|⟨m,A,O,_⟩
  ·rw[h1,h0]
  ·have:=wG0 A O;omega
 ·have h4:=xW8 hc h0;obtain⟨m,_,A,h5⟩:=zKv (j:=j) (n:=hF j s-2) hc (by omega);obtain⟨J,h7⟩:=h2 m A (by omega);rcases h1 with h1|⟨q,D,E,U⟩
  ·exact (J h1).elim
  ·have:=wG0 D E;omega
noncomputable def uP (ca:Nat)(p:Sn):Tr:=if 0<hF (calJ ca) p/\(tP ca p).steps<=300 then tP ca p else trZ0
theorem wKp {ca:Nat}{p:Sn}:(uP ca p).steps<=300:=by
 unfold uP;split
 ·rename_i h;exact h.2
 ·decide
theorem zUj {ca:Nat}:∀ps:List Sn,yZq (ps.map (uP ca))<=300*ps.length
 | []=>Nat.le_refl _
 | p::ps=>by
  have:=wKp (ca:=ca) (p:=p);have:=zUj (ca:=ca) ps;rw[List.map_cons,yZq,List.length_cons];omega
theorem vYc {j r:Bool}{f:Fm}{t:Nat×List Sn}(h:t∈addF j f r):t.2.length<=2:=by
 unfold addF at h;split at h
 case h_5=>split at h<;>simp at h<;>(try rcases h with rfl|rfl)<;>(try subst h)<;>simp
 all_goals (first|(simp at h;subst h;simp)|(simp at h))
theorem vKq {j:Bool}{s:Sn}{m:Nat×Fm×List Sn}(h:m∈mvF j s):m.2.2.length<=2:=by
 have key:∀(r:Bool) (f:Fm),m∈yUy j s r f->m.2.2.length<=2:=λr f A=>by
  obtain⟨t,ht,rfl⟩:=List.mem_map.1 A;have:=vYc ht;simpa using this
 rcases List.mem_append.1 h with h|h
 ·obtain⟨f,_,h⟩:=List.mem_flatMap.1 h;exact key false f h
 ·obtain⟨f,_,h⟩:=List.mem_flatMap.1 h;exact key true f h
theorem FewS.nolong {ca:Nat}{s:Sq}(h:FewS ca s 8){s':Sn}(hr:Rch (calJ ca) (nf (s.l,s.r)) s'):¬ zG7 (calJ ca) s':=by
 obtain⟨hc,hl,hv,l,hnd,ab,ac⟩:=h;have A:∀f∈s.l++s.r,PF f:=λf hf=>zJn (by omega) (yVx hv f hf);rintro⟨f,r,hf,t,ht,p,hp,E⟩;obtain⟨⟨n1,n2⟩,m1,m2⟩:=wQt (s:=(s.l,s.r)) A hr;have hw:wtFs (s.l++s.r)<=8:=by
  unfold yYn at hl;simp only[bAt,dTe] at hl;rw[yKq];exact hl.2
 have J:∀g∈yZb (s.l++s.r),g∈l.map (λn=>Fm.mk 1 n [] [])++(.mk 2 noN [] []::naFs (s.l++s.r)):=λg O=>by
  obtain⟨f0,D,U⟩:=yJ6.1 O;rcases xWw (A f0 D) g U with h|rfl|⟨n,rfl,h⟩
  ·exact List.mem_append_right _ (.tail _ (zG2 D h))
  ·exact List.mem_append_right _ (.head _)
  ·exact List.mem_append_left _ (List.mem_map.2 ⟨n,(ab n).2 ⟨f0,D,0,h⟩,rfl⟩)
 have aa:(l.map (λn=>Fm.mk 1 n [] [])++(.mk 2 noN [] []::naFs (s.l++s.r))).length<=17:=by
  rw[lLa,List.length_map,List.length_cons,zG3 A];omega
 have c1:=yK9 n1 λg O=>J g (m1 g O);have c2:=yK9 n2 λg O=>J g (m2 g O);have hs:=zZq ht p hp;rcases E with h|h
 ·omega
 ·split at h<;>omega
section
variable {ca:Nat}(hc:ca=1\/ca=2){s0:Sq}(hv:yQo ca s0=true){K:List Sn}(hK:ReachOk (calJ ca) (nf (s0.l,s0.r)) K)
include hc hv hK
theorem tP_r {p:Sn}(A:Rch (calJ ca) (nf (s0.l,s0.r)) p)(h0:0<hF (calJ ca) p):TreeR ca (hF (calJ ca) p) p (tP ca p):=by
 have:=wYn hc hv hK _ _ p A rfl h0 (Nat.le_refl _);unfold tP;rw[(yYg hc hv hK A).2.1];exact this
theorem uX5 {p:Sn}(A:Rch (calJ ca) (nf (s0.l,s0.r)) p):NA (uP ca p):=by
 unfold uP;split
 ·rename_i h;exact (tP_r hc hv hK A h.1).byt.na
 ·simp only[NA,NAs];exact⟨⟨nofun,nofun⟩,by decide,by decide,trivial⟩
theorem vWv (ab:¬ ClF (nf (s0.l,s0.r)).1 (nf (s0.l,s0.r)).2){m:Nat×Fm×List Sn}(hm:m∈mvF (calJ ca) (nf (s0.l,s0.r))) :
  m.1<256/\vQt (.mk m.1 (sqOf (nf (s0.l,s0.r))) m.2.1 tmZ noN (m.2.2.map (uP ca)))/\(Tr.mk m.1 (sqOf (nf (s0.l,s0.r))) m.2.1 tmZ noN (m.2.2.map (uP ca))).steps<=1099511627776 /\
  ((∀p∈m.2.2,0<hF (calJ ca) p)->(yJq ca (.mk m.1 (sqOf (nf (s0.l,s0.r))) m.2.1 tmZ noN (m.2.2.map (uP ca)))).2=0\/(yJq ca (.mk m.1 (sqOf (nf (s0.l,s0.r))) m.2.1 tmZ noN (m.2.2.map (uP ca)))).2=5\/trZ0∈m.2.2.map (uP ca)):=by
 obtain⟨A,aj,_,g1,g2⟩:=yYg hc hv hK .refl;have O:∀p∈m.2.2,Rch (calJ ca) (nf (s0.l,s0.r)) p:=λp hp=>.step .refl ab hm hp;have J:((m.2.2.map λp=>Tr.mk 0 (sqOf p) fm0 tmZ noN []).map Tr.sq)=m.2.2.map sqOf:=by rw[List.map_map];rfl
 obtain⟨_,c2,_,c4⟩:=zQr hc A g1 g2 hm J;have ae:=vKq hm;have E:(Tr.mk m.1 (sqOf (nf (s0.l,s0.r))) m.2.1 tmZ noN (m.2.2.map (uP ca))).steps<=1099511627776:=by
  have:=zUj (ca:=ca) m.2.2;simp only[Tr.steps];omega
 refine⟨c2,vYf ?_ E,E,λU=>?_⟩
 ·have:=yJe (yX2 c4);simp only[NA];exact⟨yYu A,by omega,by decide,wKb λt ht=>by obtain⟨p,hp,rfl⟩:=List.mem_map.1 ht;exact uX5 hc hv hK (O p hp)⟩
 ·by_cases hz:trZ0∈m.2.2.map (uP ca)
  ·exact .inr (.inr hz)
  have hu:∀p∈m.2.2,uP ca p=tP ca p:=λp hp=>by
   have h:uP ca p≠trZ0:=λh=>hz (h▸List.mem_map_of_mem hp);unfold uP at h ⊢;split
   ·rfl
   ·rename_i hq;rw[if_neg hq] at h;exact (h rfl).elim
  rw[List.map_congr_left hu];have hT:∀p∈m.2.2,TreeR ca (hF (calJ ca) p) p (tP ca p):=λp hp=>tP_r hc hv hK (O p hp) (U p hp);have D:(m.2.2.map (tP ca)).map Tr.sq=m.2.2.map sqOf:=by
   rw[List.map_map];exact List.map_congr_left λp hp=>(hT p hp).sq
  obtain⟨c1,_⟩:=zQr hc A g1 g2 hm D;by_cases h3:(Tr.mk m.1 (sqOf (nf (s0.l,s0.r))) m.2.1 tmZ noN (m.2.2.map (tP ca))).steps<=300
  ·refine .inl (xUc.2 ⟨by rcases hc with rfl|rfl<;>rfl,h3,?_⟩);simp only[zYz,c1,decide_true,Bool.true_and];exact zJr λt ht=>by obtain⟨p,hp,rfl⟩:=List.mem_map.1 ht;exact (hT p hp).ok
  ·refine .inr (.inl ?_);unfold yJq;rw[if_neg (by rcases hc with rfl|rfl<;>decide),if_pos (by omega)]
end
end Go.Proofs.Tryz
namespace Go.Proofs.Tryz
open Go Go.Iv
set_option maxRecDepth 4000
variable (gl:Nat->Option IV)
end Go.Proofs.Tryz
namespace Go.Proofs.Tryz
open Go Go.Iv
set_option maxRecDepth 8000
variable (gl:Nat->Option IV)
theorem wGt {ca:Nat}{s:Sq}(hc:ca=1\/ca=2)(hv:yQo ca s=true){K:List Sn}(hK:ReachOk (calJ ca) (nf (s.l,s.r)) K){e:Nat}(h:BadR ca s e):False:=by
 rcases h with⟨h,_⟩|⟨_,h,_⟩|⟨_,_,h⟩
 ·exact h hc
 ·rw[hv] at h;cases h
 ·exact hK.no .refl h
section
variable (G:Gl gl)(T:Gt gl){ca:Nat}{s:Sq}(hc:ca=1\/ca=2)(hv:yQo ca s=true){K:List Sn}(hK:ReachOk (calJ ca) (nf (s.l,s.r)) K)(x:IV)(hx:IsSq s x)(bound:Int)
include G T hc hv hK hx
theorem wVh (A:hF (calJ ca) (s.l,s.r)=0\/bound<(hF (calJ ca) (s.l,s.r):Int)) (st:ISt) :
  ICall prog gl 19 [.raw (.int .u8 (ca:Int)),x,.raw (.int .i64 bound)] st (λr st'=>r=.tup [zT,.raw (.int .i64 6)]/\st'=st) :=
 (wQy gl G T ca s x hx (yYu hv) bound st).mono λr st' ⟨h1,h2⟩=>by
  rcases h2 with⟨e,h,_⟩|⟨_,_,_,_,⟨_,h⟩|⟨E,D,_⟩⟩
  ·exact (wGt hc hv hK h).elim
  ·exact⟨h,h1⟩
  ·omega
theorem wQx (h0:0<hF (calJ ca) (s.l,s.r))(A:(hF (calJ ca) (s.l,s.r):Int)<=bound) (st:ISt) :
  ICall prog gl 19 [.raw (.int .u8 (ca:Int)),x,.raw (.int .i64 bound)] st (λr st'=>((300<(tP ca (s.l,s.r)).steps/\r=.tup [zT,.raw (.int .i64 5)])\/((tP ca (s.l,s.r)).steps<=300/\∃z,IsTr (tP ca (s.l,s.r)) z/\r=.tup [z,.raw (.int .i64 0)]))/\st'=st) :=
 (wQy gl G T ca s x hx (yYu hv) bound st).mono λr st' ⟨h1,h2⟩=>by
  rcases h2 with⟨e,h,_⟩|⟨_,_,_,_,⟨h,_⟩|⟨_,_,h⟩⟩
  ·exact (wGt hc hv hK h).elim
  ·omega
  ·exact⟨h,h1⟩
end
end Go.Proofs.Tryz
namespace Go.Proofs.Tryz
open Go Go.Iv
set_option maxRecDepth 8000
variable (gl:Nat->Option IV)
theorem vJ5:IsTr trZ0 zT:=⟨_,_,_,_,_,_,_,_,_,_,_,_,_,_,_,_,rfl,by decide,.inl rfl,rfl,.inl rfl,rfl,vVi,⟨_,_,rfl,.inl rfl,rfl⟩,.inl rfl,rfl⟩
theorem wUz (G:Gl gl)(T:Gt gl){ca:Nat}(hc:ca=1\/ca=2){p:Sn}(hv:yQo ca (sqOf p)=true){K:List Sn}(hK:ReachOk (calJ ca) (nf p) K)(x:IV)(hx:IsSq (sqOf p) x)(st:ISt) :
  ICall prog gl 19 [.raw (.int .u8 (ca:Int)),x,.raw (.int .i64 (hF (calJ ca) p:Int))] st (λr st'=>(∃(z:IV) (e:Int),IsTr (uP ca p) z/\r=.tup [z,.raw (.int .i64 e)])/\st'=st):=by
 by_cases h0:0<hF (calJ ca) p
 ·refine (wQx gl G T hc hv hK x hx (hF (calJ ca) p) h0 (Int.le_refl _) st).mono ?_;rintro r st' ⟨⟨h1,rfl⟩|⟨h1,z,A,rfl⟩,rfl⟩
  ·have h1:300<(tP ca p).steps:=h1;have:uP ca p=trZ0:=by unfold uP;rw[if_neg (by omega)]
   exact⟨⟨zT,5,by rw[this];exact vJ5,rfl⟩,rfl⟩
  ·have:uP ca p=tP ca p:=by unfold uP;exact if_pos ⟨h0,h1⟩
   exact⟨⟨z,0,by rw[this];exact A,rfl⟩,rfl⟩
 ·refine (wVh gl G T hc hv hK x hx (hF (calJ ca) p) (.inl (by show hF (calJ ca) p=0;omega)) st).mono ?_;rintro r st' ⟨rfl,rfl⟩;have:uP ca p=trZ0:=by unfold uP;rw[if_neg (by omega)]
  exact⟨⟨zT,6,by rw[this];exact vJ5,rfl⟩,rfl⟩
theorem vQy (rule:Nat)(s:Sq)(f:Fm)(u:Tm)(n:ByteArray)(sub:List Tr)(x:IV)(hx:IsTr (.mk rule s f u n sub) x)(st:ISt) :
  ICall prog gl 29 [x] st (λr st'=>(∃b:Bool,r=.raw (.bool b)/\(trZ0∈sub->b=true))/\st'=st):=by
 obtain⟨tl,xl,tr,xr,op,fn,ta,xa,tb,xb,v,un,tu,xu,ts,xs,rfl,aJ,e3,i3,e4,i4,aL,aH,e5,i5⟩:=hx.mk;refine iI func29 ?_;simp only[go_sem];refine LoopC.ctr sub.length (λk fr st' ds=>(∀i,i<k->sub[i]?≠some trZ0)/\fr 1=.box [.raw (.int .u8 rule),.sl tl xl,.sl tr xr,.raw (.int .u8 op),.raw (.string fn),.sl ta xa,.sl tb xb,.raw (.bool v),.raw (.string un),.sl tu xu,.raw (.string n),.sl ts xs] /\
  fr 3=.iv (.raw (.int .i64 k))/\st'=st/\ds=[]) ?_ ?_ ?_
 ·simp only[go_sem,zE];exact⟨nofun,rfl⟩
 ·rintro k fr O _ A ⟨D,f1,f3,rfl,rfl⟩;obtain⟨a,ha⟩:=yQ1 A;obtain⟨w,E,aa⟩:=i5.get ha;obtain⟨U,qa,fa,ua,na,sa⟩:=a;obtain⟨aC,am,aB,ak,aG,aM,aF,aq,aD,an,v',av,ax,ag,az,ai,rfl,_⟩:=aa.mk;by_cases h0:U=0
  ·simp only[go_sem,zE,f1,f3,i5.len,lt_i A,yQ3 e5,iNn,E,fits,dEt (show (U:Int)=0 by omega)];intros;exact yQ0 ⟨⟨_,rfl,λ_=>rfl⟩,rfl⟩
  ·simp only[go_sem,zE,f1,f3,i5.len,lt_i A,yQ3 e5,iNn,E,fits,dEf (show ¬ (U:Int)=0 by omega)];intro aI;simp only[go_sem,yQc A (show sub.length<=281474976710656 by omega)];refine λi hi he=>?_;rcases Nat.lt_or_ge i k with J|J
   ·exact D i J he
   ·obtain rfl:i=k:=by omega
    rw[ha] at he;cases he;exact h0 rfl
 ·rintro fr O _ ⟨D,f1,f3,rfl,rfl⟩;simp only[go_sem,zE,f1,f3,i5.len,yQi (nLi _)];intros;exact yQ0 ⟨⟨_,rfl,λhm=>by obtain⟨i,hi⟩:=List.mem_iff_getElem?.1 hm;exact (D i (lGs hi).1 hi).elim⟩,rfl⟩
set_option maxHeartbeats 4000000 in
theorem zU8 (G:Gl gl)(T:Gt gl)(b:Bool)(s:Sq)(x:IV)(hx:IsSq s x)(hw:wFms s.l<=1099511627776/\wFms s.r<=1099511627776)(st:ISt) :
  ICall prog gl 8 [.raw (.bool b),x] st (λr st'=>r=.raw (.bool true)/\st'=st):=by
 have hA:=λst=>wWb gl G T st;have ae:=hx;obtain⟨t1,x1,t2,x2,rfl,e1,i1,e2,i2⟩:=hx;have bS:=yWg s.l;have bR:=yWg s.r;have bW:=yZk s.l;have bV:=yZk s.r;have d0:decide (((0:Nat):Int)=0)=true:=rfl;have br:=λca st=>vK5 gl G ca s _ ae hw ((8:Nat):Int) st;refine iI func8 ?_;simp only[go_sem,zA];refine (hA _).mono ?_;rintro _ st ⟨rfl,rfl⟩;obtain⟨ca,aT,D⟩:∃ca:Nat,Value.int .u8 (if b=true then 2 else 1)=.int .u8 (ca:Int)/\(ca=1\/ca=2):=by
  cases b
  ·exact⟨1,rfl,.inl rfl⟩
  ·exact⟨2,rfl,.inr rfl⟩
 cases b
 all_goals
  simp only[go_sem,zE,zA,zL,reduceCtorEq];simp only[bFt,if_false,if_true] at aT;rw[aT];refine (br ca _).mono ?_;rintro _ st ⟨⟨p,rfl,hp⟩,rfl⟩;cases p
  ·simp only[go_sem];exact yQ0 ⟨rfl,rfl⟩
  have aa:=hp rfl;have hv:=aa.2.2.1;have am:=xJq aa.w;have hL:=λst=>wX2 gl G T ca s _ ae am st;have bt:=λst=>xWv gl G T ca s _ ae am st;have bo:=λst=>wZe gl G T ca s D hv (aa.nolong .refl) _ ae am st;simp only[go_sem,zE,zA,zL];refine (hL _).mono ?_;rintro _ st ⟨⟨h,e,rfl,hh⟩,rfl⟩;simp only[go_sem,zE,zA,zL];refine (bt _).mono ?_;rintro _ st ⟨rfl,h1|⟨_,h1,_⟩|⟨_,_,c,aS,rfl⟩⟩
  ·exact (h1.1 D).elim
  ·rw[hv] at h1;cases h1
  simp only[go_sem,zE,zA,zL];refine (bo _).mono ?_;rintro _ st ⟨⟨tm,ys,htm,hys,rfl⟩,rfl⟩;have hz:IntKind.i64.wrap ((0:Int)+(0:Int))=0:=rfl;rcases hh with⟨he,rfl,aj⟩|⟨rfl,rfl,K,hK⟩
  ·obtain rfl:=aa.short aj;simp only[go_sem,zE,hz,decide_true,show decide ((((4:Nat):Int))=0)=false from rfl,show decide ((((4:Nat):Int))=4)=true from rfl];exact yQ0 ⟨rfl,rfl⟩
  have aQ:c=true↔ClF (nf (s.l,s.r)).1 (nf (s.l,s.r)).2:=by rw[aS,wJj]
  have bH:=(hK.height .refl)
  have bG:=hK.len;cases c
  rotate_left
  ·have h1:hF (calJ ca) (s.l,s.r)=1:=zQ5 (aS.1 rfl);simp only[go_sem,zE,hz,d0,decide_true,h1,show decide (((1:Nat):Int)=1)=true from rfl];exact yQ0 ⟨rfl,rfl⟩
  have al:¬ ClF (nf (s.l,s.r)).1 (nf (s.l,s.r)).2:=λh=>by have:=aQ.2 h;cases this
  have ai:=vY2 (j:=calJ ca) al;rw[xJi] at ai;have bQ:=(yYg D hv hK .refl).1;have aV:=λst=>kQc gl G T s _ ae am ⟨by omega,by omega⟩ st;rw[vJw D hv] at aV;simp only[go_sem,zE,zA,zL,hz,d0,decide_true];refine (aV _).mono ?_;rintro _ st ⟨⟨y,rfl,hy⟩,rfl⟩;obtain⟨t3,x3,t4,x4,rfl,e6,i6,e7,i7⟩:=hy;have av:=hys.1;obtain⟨ms,hms⟩:∃ms,mvF (calJ ca) (nf (s.l,s.r))=ms:=⟨_,rfl⟩
  rw[hms] at hys ai av;simp only[go_sem,zE,zA,zL];refine LoopC.ctr ms.length (λi fr st' ds=>subSt st st'/\fr 5=.iv (.raw (.int .u8 (ca:Int)))/\fr 6=.iv (.raw (.int .i64 (hF (calJ ca) (s.l,s.r):Int)))/\fr 10=.iv (.sl tm ys)/\fr 12=.box [.sl t3 x3,.sl t4 x4]/\fr 14=.iv (.raw (.int .i64 ((ms.take i).foldl (bstN (calJ ca)) 0:Nat)))/\fr 15=.iv (.raw (.int .i64 (i:Int)))/\ds=[]) ?_ ?_ ?_
  ·simp only[go_sem,zE];exact⟨subSt.refl _,rfl,rfl⟩
  ·rintro i fr a7 _ O ⟨ay,f5,f6,f10,f12,f14,f15,rfl⟩;obtain⟨m,hm⟩:=yQ1 O;have ag:m∈mvF (calJ ca) (nf (s.l,s.r)):=hms▸lMg hm;obtain⟨w,ah,o,n,q1,z1,q2,z2,q3,z3,rfl,bg,aM,aG⟩:=hys.2 i m hm;obtain⟨az,bl,bk,aD⟩:=vWv D hv hK al ag;have bU:=vKq ag;have aA:=aG.1;simp only[go_sem,zE,zB,zA,zL,f10,f12,f15,av,lt_i O,yQ3 htm,iNn,ah,fits];intro hml;refine LoopC.ctr m.2.2.length (λk fr st' ds=>subSt st st'/\(∃tg zs,own st' tg k 12 st/\IsTrs ((m.2.2.take k).map (uP ca)) zs/\fr 18=.box [.raw (.int .u8 (m.1:Int)),.sl t3 x3,.sl t4 x4,.raw (.int .u8 o),.raw (.string n),.sl q1 z1,.sl q2 z2,.raw (.bool false),.raw (.string noN),nilS,.raw (.string noN),.sl tg zs]) /\
    fr 16=.iv (.raw (.int .i64 ((m.2.2.take k).foldl (λa p=>max a (hF (calJ ca) p)) 0:Nat)))/\fr 17=.iv (.raw (.bool (!(m.2.2.take k).any λp=>decide (hF (calJ ca) p=0))))/\fr 5=.iv (.raw (.int .u8 (ca:Int)))/\fr 6=.iv (.raw (.int .i64 (hF (calJ ca) (s.l,s.r):Int)))/\fr 10=.iv (.sl tm ys)/\fr 12=.box [.sl t3 x3,.sl t4 x4] /\
    fr 14=.iv (.raw (.int .i64 ((ms.take i).foldl (bstN (calJ ca)) 0:Nat)))/\fr 15=.iv (.raw (.int .i64 (i:Int)))/\fr 19=.iv (.raw (.int .i64 (k:Int)))/\ds=[]) ?_ ?_ ?_
   ·simp only[go_sem,zE,f5,f6,f10,f12,f14,f15];exact⟨ay,⟨_,_,own.nil ..,rfl,rfl⟩,rfl,rfl,rfl⟩
   ·rintro k fr J _ aC ⟨A,⟨tg,zs,af,hzs,f18⟩,f16,f17,f5,f6,f10,f12,f14,f15,f19,rfl⟩;obtain⟨p,hp⟩:=yQ1 aC;have bd:=lMg hp;obtain⟨y,aO,hy⟩:=aG.2 k p hp;have aL:=Rch.step .refl al ag bd;obtain⟨aw,bf,_⟩:=yYg D hv hK aL;have bq:=λst=>wX2 gl G T ca (sqOf p) y hy (yYu aw) st;have bn:=λK' aE st=>wUz gl G T D aw (K:=K') aE y hy st;obtain⟨ta,xa,tb,xb,rfl,_⟩:=id hy;simp only[go_sem,zE,zB,zA,f5,f10,f15,f19,aA,lt_i aC,yQ3 htm,yQ3 aM,iNn,ah,aO,fits];intros;refine (bq _).mono ?_;rintro _ J ⟨⟨h',e',rfl,bi⟩,rfl⟩;rcases bi with⟨_,_,aj⟩|⟨rfl,bc,K',aE⟩
    ·rcases aj with⟨hb,_⟩|⟨_,hb,_⟩|⟨_,_,hb⟩
     ·exact (hb D).elim
     ·rw[aw] at hb;cases hb
     ·have hb:yUf (calJ ca) (nf p) _:=hb;rw[bf] at hb;exact (hK.no aL hb).elim
    obtain rfl:h'=hF (calJ ca) p:=bc;obtain⟨ab,aU⟩:∃b,(!(m.2.2.take k).any λp=>decide (hF (calJ ca) p=0))=b:=⟨_,rfl⟩
    rw[aU] at f17;have ba:zs.length=k:=by rw[hzs.len,List.length_map,List.length_take];omega
    cases ab
    all_goals
     simp only[go_sem,zE,zB,zA,f5,f10,f15,f16,f17,f19,d0,yQ3 htm,yQ3 aM,iNn,ah,aO,fits];refine (bn K' aE _).mono ?_;rintro _ J ⟨⟨z,e2,aI,rfl⟩,rfl⟩;have aH:=aI;obtain⟨_,_,_,_,_,_,_,_,_,_,_,_,_,_,_,_,_,_,rfl⟩:=xZz aI;simp only[go_sem,zE,zA,zM,zL,f18,yQ4,fits];refine yZy af ba A rfl (by simp[fits,IV.one]) (by simp only;omega) (by omega) λbL bM aB aK _=>?_;simp only[go_sem,zE,zA,zL,f5,f6,f10,f12,f14,f15,f18,f19,yQc aC (show m.2.2.length<=281474976710656 by omega)];have htk:m.2.2.take (k+1)=m.2.2.take k++[p]:=by rw[List.take_succ,hp];rfl
     rw[htk];have a8:IsTrs [uP ca p] [_]:=⟨_,_,rfl,aH,rfl⟩
     refine⟨aK,⟨_,_,aB,by rw[List.map_append];exact hzs.append a8,rfl⟩,?_⟩;simp only[List.foldl_append,List.foldl_cons,List.foldl_nil,List.any_append,List.any_cons,List.any_nil,Bool.or_false];refine⟨by congr 3;omega,?_⟩;have bj:(!decide (hF (calJ ca) p=0))=decide ((hF (calJ ca) p:Int) > 0):=by
      rw[<- decide_not];exact decide_eq_decide.2 (by omega)
     rw[Bool.not_or,aU,bj];rfl
   ·rintro fr J _ ⟨A,⟨tg,zs,af,hzs,f18⟩,f16,f17,f5,f6,f10,f12,f14,f15,f19,rfl⟩;rw[lTl] at hzs f16 f17;have U:(ms.take (i+1)).foldl (bstN (calJ ca)) 0=bstN (calJ ca) ((ms.take i).foldl (bstN (calJ ca)) 0) m:=by
     rw[List.take_succ,hm,List.foldl_append];rfl
    generalize (ms.take i).foldl (bstN (calJ ca)) 0=B at f14 U;cases E:m.2.2.any λp=>decide (hF (calJ ca) p=0)
    rotate_left
    ·have hN:bstN (calJ ca) B m=B:=by unfold bstN mstS;rw[if_pos E];rfl
     rw[E] at f17;simp only[go_sem,zE,f5,f6,f10,f12,f14,f15,f17,f19,aA,yQi (nLi _),yQ3 htm,iNn,ah,fits,yQc O (show ms.length<=281474976710656 by omega)];intros;exact⟨A,by rw[U,hN]⟩
    ·rw[E] at f17;have ao:∀p∈m.2.2,0<hF (calJ ca) p:=λp hp=>by
      have:=List.any_eq_false.1 E p hp;simp only[dTe] at this;omega
     have aq:m.2.2.foldl (λa p=>max a (hF (calJ ca) p)) 0=mstS (calJ ca) m.2.2:=by unfold mstS;rw[E];rfl
     rw[aq] at f16;obtain⟨p0,aN⟩:=List.exists_mem_of_ne_nil _ (wZd ag);have aW:mstS (calJ ca) m.2.2≠0:=λh=>by
      have h1:=(zGq (hF (calJ ca)) m.2.2 0).2.1 p0 aN;have h2:=ao p0 aN;rw[aq,h] at h1;omega
     have bp:mstS (calJ ca) m.2.2<=20000:=by
      obtain⟨q,hq,he⟩:=(zJx (n:=mstS (calJ ca) m.2.2-1) (j:=calJ ca) (ps:=m.2.2)).1 (by omega) |>.2;have:=hK.height (.step .refl al ag hq);omega
     have hN:bstN (calJ ca) B m=if B=0\/mstS (calJ ca) m.2.2+1<B then mstS (calJ ca) m.2.2+1 else B:=by unfold bstN;rw[if_neg aW]
     generalize mstS (calJ ca) m.2.2=M at f16 aW bp hN;have w1:IntKind.i64.wrap ((M:Int)+1)=((M+1:Nat):Int):=w64 (by omega) (by omega);have ax:IsTr (.mk m.1 (sqOf (nf (s.l,s.r))) m.2.1 tmZ noN (m.2.2.map (uP ca))) (.agg [.raw (.int .u8 (m.1:Int)),.sl t3 x3,.sl t4 x4,.raw (.int .u8 o),.raw (.string n),.sl q1 z1,.sl q2 z2,.raw (.bool false),.raw (.string noN),nilS,.raw (.string noN),.sl tg zs]):=⟨_,_,_,_,_,_,_,_,_,_,_,_,_,_,_,_,rfl,az,e6,i6,e7,i7,bg,⟨_,_,rfl,.inl rfl,rfl⟩,af.es,hzs⟩
     have au:=λst=>vZu gl G T ca _ _ ax bl st;have ak:=λst=>vZk gl _ _ ax bk st;have bs:=λst=>vQy gl _ _ _ _ _ _ _ ax st;have aD:=aD ao;generalize yJq ca _=ck at au aD;generalize Tr.steps _=sn at ak;have bw:(B=0/\bstN (calJ ca) B m=M+1)\/(B≠0/\M+1<B/\bstN (calJ ca) B m=M+1)\/(B≠0/\¬ M+1<B/\bstN (calJ ca) B m=B):=by
      rw[hN];grind
     have bu:ck.2=0\/(ck.2≠0/\ck.2=5)\/(ck.2≠0/\ck.2≠5/\300<sn)\/(ck.2≠0/\ck.2≠5/\sn<=300/\trZ0∈m.2.2.map (uP ca)):=by
      grind
     rcases bw with⟨b1,b2⟩|⟨b1,b3,b2⟩|⟨b1,b3,b2⟩
     have d1:decide ((B:Int)=0)=true:=dEt (by omega);have d2:=d1
     rotate_left
     have d1:decide ((B:Int)=0)=false:=dEf (by omega);have d2:decide (((M+1:Nat):Int)<(B:Int))=true:=dEt (by omega)
     rotate_left
     have d1:decide ((B:Int)=0)=false:=dEf (by omega);have d2:decide (((M+1:Nat):Int)<(B:Int))=false:=dEf (by omega)
     all_goals
      rw[b2] at U;simp only[go_sem,zE,zA,zL,f5,f10,f15,f17,f18,f19,aA,yQi (nLi _),yQ3 htm,iNn,ah,fits];intros;refine (au _).mono ?_;rintro _ J ⟨⟨bK,rfl,bF⟩,rfl⟩;rcases bu with c|⟨c,c'⟩|⟨c,c',bx⟩|⟨c,c',bx,c4⟩
      ·simp only[go_sem,zE,dEt (show (ck.2:Int)=0 by omega),f5,f6,f10,f12,f14,f15,f16,d1,d2,w1,yQc O (show ms.length<=281474976710656 by omega)];exact⟨A,by rw[U]⟩
      ·simp only[go_sem,zE,dEf (show ¬ (ck.2:Int)=0 by omega),dEt (show (ck.2:Int)=5 by omega),f5,f6,f10,f12,f14,f15,f16,d1,d2,w1,yQc O (show ms.length<=281474976710656 by omega)];exact⟨A,by rw[U]⟩
      ·simp only[go_sem,zE,zA,zL,dEf (show ¬ (ck.2:Int)=0 by omega),dEf (show ¬ (ck.2:Int)=5 by omega),f18];refine (ak _).mono ?_;rintro _ J ⟨rfl,rfl⟩;simp only[go_sem,zE,dEf (show ¬ (sn:Int)<=300 by omega),f5,f6,f10,f12,f14,f15,f16,d1,d2,w1,yQc O (show ms.length<=281474976710656 by omega)];exact⟨A,by rw[U]⟩
      ·simp only[go_sem,zE,zA,zL,dEf (show ¬ (ck.2:Int)=0 by omega),dEf (show ¬ (ck.2:Int)=5 by omega),f18];refine (ak _).mono ?_;rintro _ J ⟨rfl,rfl⟩;simp only[go_sem,zE,zA,zL,dEt (show (sn:Int)<=300 by omega),f18];refine (bs _).mono ?_;rintro _ J ⟨⟨be,rfl,bm⟩,rfl⟩;obtain rfl:=bm c4;simp only[go_sem,zE,f5,f6,f10,f12,f14,f15,f16,d1,d2,w1,yQc O (show ms.length<=281474976710656 by omega)];exact⟨A,by rw[U]⟩
  ·rintro fr a7 _ ⟨ay,f5,f6,f10,f12,f14,f15,rfl⟩;rw[lTl,ai] at f14;simp only[go_sem,zE,f6,f10,f14,f15,av,yQi (nLi _),decide_true];intros;exact yQf ay ⟨rfl,rfl⟩
end Go.Proofs.Tryz
namespace Go.Proofs.Tryz
open Go Go.Iv Go.ChangeShapes
open Go.Proofs.YtclkffdkahljeaaGreatDoor.Rows (uptoBulk uptoBulkAll)
set_option maxRecDepth 4000
theorem uSeq:prog.underlying 24=some (.struct #[⟨ "Left",22,0,false, "", "",0⟩,⟨ "Right",22,1,false, "", "",24⟩]):=by kernel_rfl
theorem nSeq:prog.cellsOf 24=2:=by kernel_rfl
mutual
theorem wKl:∀t:Tm,wTm t<=2*xGx t
 | .mk _ n us=>by have:=zJ2 us;simp only[wTm,xGx];omega
theorem zJ2:∀l:List Tm,wTms l<=2*yGw l
 | []=>Nat.le_refl _
 | a::l=>by have:=wKl a;have:=zJ2 l;simp only[wTms,yGw];omega
end
mutual
theorem wKn:∀f:Fm,wFm f<=2*xGy f
 | .mk _ n us sub=>by have:=zJ2 us;have:=yUh sub;simp only[wFm,xGy];omega
theorem yUh:∀l:List Fm,wFms l<=2*zQk l
 | []=>Nat.le_refl _
 | a::l=>by have:=wKn a;have:=yUh l;simp only[wFms,zQk];omega
end
section
variable {H:Type}{enc:TypeId×Value->H}{w:World}{spare:Nat->Bool}{held:Bool}
def RQ (d:DataW H)(s:Sq)(x:IV):Prop:=IsSq s x/\wFms s.l+wFms s.r<=2*uptoBulk d
theorem vJx (U:Nat)(cs:List Value)(y:DataW H×List MemPlace)(h:DataW.trod enc prog w 0 spare held U 24 cs=some y)(hb:uptoBulk y.1<=1048576):∃s x,VL 0 (L0 w) w cs x.cells/\RQ y.1 s x:=by
 obtain⟨ys,n,rfl,rfl,hl,O,hf⟩:=DataW.trod_struct uSeq h
 match ys,O with
 | [y0,y1],_ =>
  rw[nSeq] at hl
  match cs,hl with
  | [c0,c1],_ =>
   have h0:=hf 0 _ rfl;have h1:=hf 1 _ rfl;simp only[List.getElem?_cons_zero,List.getElem?_cons_succ] at h0 h1;simp only[List.map_cons,List.map_nil,uptoBulk,uptoBulkAll] at hb;obtain⟨v0,J,D,l0,e0,ab,ae,ag,al⟩:=zGp h0 (by omega) (λm _=>wXp m);obtain⟨v1,E,A,l1,e1,aa,ac,af,ak⟩:=zGp h1 (by omega) (λm _=>wXp m);cases e0;cases e1;refine⟨⟨l0,l1⟩,.agg [.sl J D,.sl E A],VL.cons ab (VL.cons aa VL.nil),⟨J,D,E,A,rfl,ae,ag,ac,af⟩,?_⟩;have:=yUh l0;have:=yUh l1;simp only[List.map_cons,List.map_nil,uptoBulk,uptoBulkAll];omega
end
end Go.Proofs.Tryz
namespace Go.Proofs.Tryz
open Go Go.Iv Go.ChangeShapes Go.RowKit
open Go.Proofs.YtclkffdkahljeaaGreatDoor
set_option maxRecDepth 8000
theorem uRow:prog.underlying 239=some (.struct #[⟨ "right",4,0,false, "", "lyceum/syntax",0⟩,⟨ "schema",4,1,false, "", "lyceum/syntax",1⟩,⟨ "name",5,2,false, "", "lyceum/syntax",2⟩,⟨ "args",3,3,false, "", "lyceum/syntax",8⟩,⟨ "subs",3,4,false, "", "lyceum/syntax",16⟩]):=by kernel_rfl
theorem uX4:prog.underlying 240=some (.array 17 239):=by kernel_rfl
theorem uInt:prog.underlying 3=some (.int .i64):=by kernel_rfl
theorem nRow:prog.cellsOf 239=5:=by kernel_rfl
theorem uVs:prog.cellsOf 240=85:=by kernel_rfl
theorem gRows:prog.globalNamed "lyceum/syntax.rows" = some 0:=by kernel_rfl
theorem gRowsT:(prog.globals[0]?).map (·.type)=some 240:=by kernel_rfl
theorem gPow:prog.globalNamed "internal/strconv.uint64pow10" = some 2:=by kernel_rfl
theorem gPowT:(prog.globals[2]?).map (·.type)=some 347:=by kernel_rfl
theorem uPow:prog.underlying 347=some (.array 20 264):=by kernel_rfl
theorem uU64:prog.underlying 264=some (.int .u64):=by kernel_rfl
theorem nPow:prog.cellsOf 347=20:=by kernel_rfl
theorem nU64:prog.cellsOf 264=1:=by kernel_rfl
section
variable {H:Type}{enc:TypeId×Value->H}{w:World}{spare:Nat->Bool}{held:Bool}
def rowD (op:Nat):DataW H:=.agg [.lit (.bool (yZ5 op)),.lit (.bool (zJj op)),.lit (.int .u8 (yXc op)),.lit (.int .i64 (yXa op)),.lit (.int .i64 (yX9 op))]
def rowV (op:Nat):List Value:=[.bool (yZ5 op),.bool (zJj op),.int .u8 (yXc op),.int .i64 (yXa op),.int .i64 (yX9 op)]
theorem wQn {J:Nat}{cs:List Value}{op:Nat}{p:List MemPlace}(h:DataW.trod enc prog w 0 spare held J 239 cs=some (rowD op,p)):cs=rowV op:=by
 obtain⟨ys,n,rfl,he,hl,A,D⟩:=DataW.trod_struct uRow h
 match ys,A with
 | [y0,y1,y2,y3,y4],_ =>
  rw[nRow] at hl
  match cs,hl with
  | [c0,c1,c2,c3,c4],_ =>
   have h0:=D 0 _ rfl;have h1:=D 1 _ rfl;have h2:=D 2 _ rfl;have U:=D 3 _ rfl;have O:=D 4 _ rfl;simp only[List.getElem?_cons_zero,List.getElem?_cons_succ] at h0 h1 h2 U O;obtain⟨b0,e0,rfl⟩:=DataW.trod_bool xYd h0;obtain⟨b1,e1,rfl⟩:=DataW.trod_bool xYd h1;obtain⟨b2,e2,rfl,_⟩:=DataW.trod_int uU8 h2;obtain⟨b3,e3,rfl,_⟩:=DataW.trod_int uInt U;obtain⟨b4,e4,rfl,_⟩:=DataW.trod_int uInt O;cases e0;cases e1;cases e2;cases e3;cases e4;have E:=congrArg Prod.fst he;simp only[rowD,List.map_cons,List.map_nil,DataW.agg.injEq,List.cons.injEq,DataW.lit.injEq,Lit.bool.injEq,Lit.int.injEq,true_and,and_true] at E;obtain⟨rfl,rfl,rfl,rfl,rfl⟩:=E;rfl
theorem wQm:(Rows.laid_lyceum_syntax_rows:DataW H)=.agg ((List.range 17).map rowD):=by rfl
theorem xYt {J:Nat}{cs:List Value}{p:List MemPlace}(h:DataW.trod enc prog w 0 spare held J 240 cs=some (Rows.laid_lyceum_syntax_rows,p)) :
  cs.length=85/\∀op,op<17->(cs.drop (op*5)).take 5=rowV op:=by
 obtain⟨ys,n,rfl,he,hl,O,hf⟩:=DataW.trod_array uX4 h;rw[uVs] at hl;refine⟨hl,λop E=>?_⟩;have h1:=hf op E;rw[nRow] at h1;have A:=congrArg Prod.fst he;rw[wQm] at A;simp only[DataW.agg.injEq] at A;have h2:(ys.map (·.1))[op]?=some (rowD op):=by
  rw[<- A,List.getElem?_map,List.getElem?_range E];rfl
 rw[List.getElem?_map] at h2;obtain⟨y,U,D⟩:=Option.map_eq_some_iff.1 h2;rw[U] at h1;obtain⟨y1,y2⟩:=y;simp only at D;subst D;exact wQn h1
end
def gl0:Nat->Option IV
 | 0=>some (.agg rowsL)
 | 2=>some (.agg pow10L)
 | _=>none
theorem G0:Gl gl0:=⟨rfl⟩
theorem T0:Gt gl0:=⟨rfl⟩
def X0 (w:World):WS:={ w:=w,L:=L0 w,st:=λ_=>none,d:=0 }
theorem xXq {cs:List Value}(hl:cs.length=85)(h:∀op,op<17->(cs.drop (op*5)).take 5=rowV op)(i:Nat)(r:Value)(c:IV)(E:cs[i]?=some r)(hc:rowsL[i]?=some c):c=.raw r/\zYt r:=by
 have J:i<85:=by have:=(lGs E).1;omega
 have A:i / 5<17:=by omega
 have e:i=i / 5*5+i%5:=by omega
 have D:i%5<5:=Nat.mod_lt _ (by decide);have h1:(rowV (i / 5))[i%5]?=some r:=by
  rw[<- h _ A,List.getElem?_take,if_pos D,List.getElem?_drop,<- e];exact E
 have h2:(rowI (i / 5))[i%5]?=some c:=by
  rw[<- (zVw _ A).2,List.getElem?_take,if_pos D,List.getElem?_drop,<- e];exact hc
 generalize i%5=k at h1 h2 D
 match k,D with
 | 0,_=>cases h1;cases h2;exact⟨rfl,trivial⟩
 | 1,_=>cases h1;cases h2;exact⟨rfl,trivial⟩
 | 2,_=>cases h1;cases h2;exact⟨rfl,trivial⟩
 | 3,_=>cases h1;cases h2;exact⟨rfl,trivial⟩
 | 4,_=>cases h1;cases h2;exact⟨rfl,trivial⟩
theorem uWm {W:World}(hL:laidMetH prog Rows.searchWrongUptoRow.laid W):Go.Iv.Good ⟨prog,gl0,0⟩ (X0 W):=by
 obtain⟨ps,A,_⟩:=(show laidMet prog _ W from hL)
 obtain⟨_,_,_,_,_,_,_,_,_,_,A,_⟩:=A;obtain⟨_,_,_,_,_,_,_,_,_,_,A,_⟩:=A;obtain⟨g1,t1,J,f1,p1,q1,aq,an,al,av,A,_⟩:=A;obtain⟨g2,t2,ag,f2,p2,q2,ao,am,ak,au,_,_⟩:=A;obtain rfl:=Option.some.inj (gPow.symm.trans aq);obtain rfl:=Option.some.inj (gPowT.symm.trans an);obtain rfl:=Option.some.inj (gRows.symm.trans ao);obtain rfl:=Option.some.inj (gRowsT.symm.trans am);have ac:=Lib.cells_of_tab (zs:=Lib.pow10Tab) uPow uU64 nU64 nPow av;have E:=xYt au;have hb:∀(n:String) (g:Nat) (cs:Array Value),prog.globalNamed n=some g->W.var? prog n=some cs->∃T f,W.heap[g]?=some (.cells cs T f):=by
  intro n g cs hn hv;unfold World.var? at hv;rw[hn,Option.bind_some] at hv;split at hv
  ·rename_i c t f hh;cases hv;exact⟨_,_,hh⟩
  ·cases hv
 obtain⟨T1,af,ab⟩:=hb _ _ _ gPow al;obtain⟨T2,ae,aa⟩:=hb _ _ _ gRows ak;have row:∀(g:Nat) (cs:Array Value) (T:TypeId) (f:Nat×Nat) (xs:List IV),W.heap[g]?=some (.cells cs T f)->cs.size=xs.length->(∀(i:Nat) (r:Value) (c:IV),cs.toList[i]?=some r->xs[i]?=some c->c=.raw r/\zYt r) →
   V 0 (L0 W) W (.pointer (some ⟨g,0,none⟩)) (.cptr (.agg xs)):=by
  intro g cs T f xs hh hl h;refine .cptr _ _ cs.toList rfl (by simpa[IV.cells] using hl) ?_ (λi r D=>?_) (λi r c D hc=>?_)
  ·show 0+cs.toList.length<=L0 W g;simp[L0,hh]
  ·show W.cell? ⟨g,0+i,none⟩=some r;simp only[World.cell?,hh,Nat.zero_add];simpa using D
  ·obtain⟨rfl,hk⟩:=h i r c D hc;exact .raw _ hk
 have hp:∀(i:Nat) (r:Value) (c:IV),J.toList[i]?=some r->pow10L[i]?=some c->c=.raw r/\zYt r:=by
  intro i r c D hc;rw[ac,List.getElem?_map] at D;unfold pow10L at hc;rw[List.getElem?_map] at hc;obtain⟨z,hz,rfl⟩:=Option.map_eq_some_iff.1 D;rw[hz] at hc;cases hc;exact⟨rfl,trivial⟩
 have U:J.size=pow10L.length:=by
  rw[<- Array.length_toList,ac];simp[pow10L]
 have O:ag.size=rowsL.length:=by
  rw[<- Array.length_toList,E.1];rfl
 refine⟨λb o h=>(by cases h),λg x hx=>?_,Nat.zero_le _,λb hb=>?_,λg x hx=>?_,λ_=>Nat.zero_le _⟩
 ·match g,hx with
  | 0,hx=>cases hx;exact row 0 ag T2 ae _ aa O (λi r c D hc=>xXq E.1 E.2 i r c D hc)
  | 2,hx=>cases hx;exact row 2 J T1 af _ ab U hp
 ·show L0 W b=0;unfold L0;rw[Array.getElem?_eq_none (show W.heap.size<=b from hb)]
 ·match g,hx with
  | 0,hx=>cases hx;exact⟨T2,ae == (0,0),by show shq W 0=_;simp[shq,aa,O,IV.cells]⟩
  | 2,hx=>cases hx;exact⟨T1,af == (0,0),by show shq W 2=_;simp[shq,ab,U,IV.cells]⟩
theorem xZg {W:World}{X':WS}(h:Ext (X0 W) X'):Below W.heap.size W X'.w :=
 ⟨h.os,h.tape,h.output,h.size,λk A=>(h.keep k A rfl).1⟩
theorem vQi:laidOutB prog=true:=by kernel_rfl
theorem yUl {H:Type}{enc:TypeId×Value->H}{W W':World}(J:Below W.heap.size W W')(sp:Nat->Bool):∀ {E:List TypeId} {vs:List Value} {ds:List (DataW H)} {ps:List MemPlace},
  (∀t∈E,prog.readableRec t=true/\t<prog.types.size)->DataW.TrodAll enc prog W 0 (λ_=>true) true E vs ds ps->(∀p∈ps,p.block<W.heap.size)->(∀p∈ps,sp p.block=true) →
  DataW.TrodAll enc prog W' 0 sp true E vs ds ps
 | [],vs,ds,ps,_,h,_,_=>by
  obtain⟨rfl,rfl,rfl⟩:=trodAll_nil h;rfl
 | t::E,vs,ds,ps,ht,h,D,A=>by
  obtain⟨v,O,d,U,a,b,rfl,rfl,rfl,h1,h2⟩:=trodAll_cons h;refine⟨a,b,WideElems.Trod_stays vQi (ht t (by simp)).1 (ht t (by simp)).2 h1 (λp hp=>J.same (D p (by simp[hp]))) (λp hp=>A p (by simp[hp])),?_,rfl⟩;exact yUl J sp (λt h=>ht t (by simp[h])) h2 (λp hp=>D p (by simp[hp])) (λp hp=>A p (by simp[hp]))
theorem wW4 {H:Type}{enc:TypeId×Value->H}{f:Func}{s:ChangeSpec}{af:FuncId}{W:World}{args:Array Value}{ds gs:List (DataW H)}{E:List MemPlace}{ab:List IV}
  (A:s.vars=[]) (hW:DataW.Whole enc prog f.params.toList s.vars false W args.toList ds gs E) (aa:s.fn H (ds++gs)={ results:=[.lit (.bool true)],args:=ds })
  (J:f.resultTypes=#[4]) (O:∀t∈f.params.toList,prog.readableRec t=true/\t<prog.types.size) (hg:Go.Iv.Good ⟨prog,gl0,0⟩ (X0 W)) (hv:VL 0 (L0 W) W args.toList ab)
  (hc:ICall prog gl0 af ab (λ_=>none) (λr st'=>r=.raw (.bool true)/\st'=λ_=>none)) :
  Calls prog af args W λe W'=>∃v,e=.returned v/\s.post enc prog f false true false false W args v W':=by
 refine (hc 0 (X0 W) args.toList hg rfl hv).mono ?_;rintro e W' ⟨v,rfl,X',x,rfl,ao,he,hx,rfl,_⟩;obtain rfl:=V.raw_inv hx;have hb:=xZg he;refine⟨_,rfl,?_⟩;have ae:=hW;obtain⟨p,q,hA,hV,rfl,hz,_⟩:=hW;rw[A] at hV;have ai:gs=[]/\q=[]:=by
  cases gs with
  | nil=>exact⟨rfl,hV⟩
  | cons _ _=>exact absurd hV (by simp[DataW.TrodVars])
 obtain⟨rfl,rfl⟩:=ai;have U:∀x∈p,x.block<W.heap.size:=λx hx=>by simpa using ae.lt x (by simpa using hx)
 have D:∀sp:Nat->Bool,(∀x∈p,sp x.block=true)->DataW.TrodAll enc prog X'.w 0 sp true f.params.toList args.toList (s.fn H (ds++[])).args p:=λsp ah=>by
  rw[aa];exact yUl hb sp O hA U ah
 have hr:∀(b:Nat) (sp:Nat->Bool) (hd:Bool),DataW.TrodAll enc prog X'.w b sp hd f.resultTypes.toList ((Value.bool true).resultList f.resultTypes.size) (s.fn H (ds++[])).results []:=λ_ _ _=>by
  rw[aa,J];exact trodAll_cons_mk (shut_bool xYd _) trodAll_mk0
 have ac:∀sp:Nat->Bool,DataW.TrodVars enc prog X'.w sp s.vars (s.fn H (ds++[])).vars []:=λ_=>by
  rw[A,aa];rfl
 have ag:∀x∈p,(λb=>decide (b<W.heap.size)) x.block=true:=λx hx=>by simpa using U x hx
 refine⟨ds,[],p++[],[],p,[],ae,hr _ _ _,D _ ag,ac _,World.keptBut_mono (λx hx=>⟨hx,Or.inr (by simpa using hx)⟩) (hb.frame (·∈p++[])),λ_=>⟨ok_one J rfl (okWide_bool_mk xYd _),_,_,([]++p)++[],
  ⟨[]++p,[],trodAll_append (D _ (λ_ _=>rfl)) (hr _ _ _),ac _,rfl,?_,λh=>by cases h⟩,λx hx _=>by simpa using hx⟩⟩
 intro b off hp;rw[hb.frozen (p:=⟨b,off,none⟩) (U (.cell b off) (by simpa using hp))];exact hz b off (by simpa using hp)
theorem wUn {W:World}{base:Nat}{v:Value}{s:Sq}{x:IV}(h:Value.okWide prog W .any base 24 v)(hx:VL 0 (L0 W) W v.cells.toList x.cells)(A:IsSq s x):V 0 (L0 W) W v x:=by
 obtain⟨cs,rfl,_⟩:=WideShapes.okWide_struct uSeq h;obtain⟨_,_,_,_,rfl,_⟩:=A;cases cs;exact hx.agg
theorem wWz {W:World}{base:Nat}{v:Value}(h:Value.okWide prog W .any base 4 v):∃b:Bool,v=.bool b/\V 0 (L0 W) W (.bool b) (.raw (.bool b)):=by
 simp only[Value.okWide,xYd,Cell.okWide] at h;cases v<;>simp_all [Cell.ok];exact .raw _ trivial
def tab32:List Int:=[0,1,28,2,29,14,24,3,30,22,20,15,25,17,4,8,31,27,13,23,21,19,16,7,26,12,18,6,11,5,10,9]
def tab64:List Int:=[0,1,56,2,57,49,28,3,61,58,42,50,38,29,17,4,62,47,59,36,45,43,51,22,53,39,33,30,24,18,12,5,63,55,48,27,60,41,37,16,46,35,44,21,52,32,23,11,54,26,40,15,34,20,31,10,25,14,19,9,13,8,7,6]
def lay (cs:List Value):Obj->Obj
 | .cells _ t frozen=>.cells cs.toArray t frozen
 | o=>o
noncomputable def zK0 (os:Os):World :=
 { World.holding prog os ⟨#[],#[],[]⟩ with heap:=((((World.holding prog os ⟨#[],#[],[]⟩).heap.modify 0 (lay ((List.range 17).flatMap rowV))).modify 2 (lay (Lib.pow10Tab.map λz=>.int .u64 z))).modify 3 (lay (tab32.map λz=>.int .u8 z))).modify 4 (lay (tab64.map λz=>.int .u8 z)) }
theorem wW6 (os:Os)(args:Array Value):laidMet prog Rows.searchWrongUptoRow.laid ((zK0 os).forCall (λ_ _=>0) ⟨#[],args,[]⟩).memory :=
 laidMet_of_run' 8 (by kernel_rfl) (by kernel_rfl)
