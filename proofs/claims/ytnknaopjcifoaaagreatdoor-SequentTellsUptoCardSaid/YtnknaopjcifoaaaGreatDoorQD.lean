/- Walks: what Small of lyceumlaw19 reckons -/
import Derived.Test.YtnknaopjcifoaaaGreatDoorQC
set_option linter.all false
open Nat renaming reduceEqDiff → zE,reduceBEq → zB,reduceAdd → zA,reduceMul → zM,reduceLeDiff → zL
namespace Go.Proofs.Tryz
open Go Go.Iv
set_option maxRecDepth 4000
variable (gl:Nat->Option IV)
mutual
def wTm:Tm->Nat
 | .mk _ n us=>1+n.size / 20+wTms us
def wTms:List Tm->Nat
 | []=>0
 | a::l=>wTm a+wTms l
end
mutual
def wFm:Fm->Nat
 | .mk _ n us sub=>1+n.size / 20+wTms us+wFms sub
def wFms:List Fm->Nat
 | []=>0
 | a::l=>wFm a+wFms l
end
theorem yU5:∀l m:List Tm,wTms (l++m)=wTms l+wTms m
 | [],m=>by simp[wTms]
 | a::l,m=>by simp only[List.cons_append,wTms,yU5 l m];omega
theorem xGt {l:List Tm}{k:Nat}{a:Tm}(h:l[k]?=some a):wTms (l.take (k+1))=wTms (l.take k)+wTm a:=by
 rw[yQ5 h,yU5];simp[wTms]
theorem xGu (l:List Tm)(k:Nat):wTms (l.take k)<=wTms l:=by
 conv=>rhs;rw[<- List.take_append_drop k l]
 rw[yU5];omega
theorem yU6:∀l m:List Fm,wFms (l++m)=wFms l+wFms m
 | [],m=>by simp[wFms]
 | a::l,m=>by simp only[List.cons_append,wFms,yU6 l m];omega
theorem xGv {l:List Fm}{k:Nat}{a:Fm}(h:l[k]?=some a):wFms (l.take (k+1))=wFms (l.take k)+wFm a:=by
 rw[yQ5 h,yU6];simp[wFms]
theorem xGw (l:List Fm)(k:Nat):wFms (l.take k)<=wFms l:=by
 conv=>rhs;rw[<- List.take_append_drop k l]
 rw[yU6];omega
def Sum (w:Nat)(lim:Int)(r:IV):Prop:=∃n:Nat,r=.raw (.int .i64 n)/\n<=w/\((n:Int)<=lim->n=w)
def tC (us:List Tm):Prop:=∀(t:Tag) (xs:List IV) (_:okEs t 3) (_:IsTms us xs) (lim:Int) (_:-1<=lim/\lim<=1000) (_:wTms us<=1099511627776) (st:ISt),
 ICall prog gl 31 [.sl t xs,.raw (.int .i64 lim)] st (λr st'=>Sum (wTms us) lim r/\st'=st)
theorem xXe (us:List Tm)(IH:∀v n l,Tm.mk v n l∈us->tC gl l):tC gl us:=by
 intro t xs ht hx lim hlim hw st;refine iI func31 ?_;simp only[go_sem];refine LoopC.ctr us.length (λk fr st' ds=>(∃n:Nat,fr 5=.iv (.raw (.int .i64 n))/\n<=wTms (us.take k)/\((n:Int)<=lim->n=wTms (us.take k)))/\fr 0=.iv (.sl t xs)/\fr 1=.iv (.raw (.int .i64 lim))/\fr 6=.iv (.raw (.int .i64 k))/\st'=st/\ds=[]) ?_ ?_ ?_
 ·simp only[go_sem,zE,reduceCtorEq];exact⟨⟨0,rfl,Nat.le_refl _,λ_=>rfl⟩,rfl⟩
 ·rintro k fr st1 _ hlt ⟨⟨n,f5,hn1,hn2⟩,f0,f1,f6,rfl,rfl⟩;obtain⟨a,ha⟩:=yQ3 hlt;obtain⟨x,hkx,hxa⟩:=hx.get ha;obtain⟨v2,n2,l2⟩:=a;obtain⟨tx,cx,rfl,htx,hcx⟩:=hxa.mk;have hwt:=xGt ha;have hwl:=xGu us (k+1);have hwk:=xGu us k;simp only[wTm] at hwt;by_cases hle:(n:Int)<=lim
  ·have hnk:=hn2 hle;have hcall:=λst=>IH _ _ _ (lMg ha) tx cx htx hcx (lim-n-1) ⟨by omega,by omega⟩ (by omega) st;have hq:IntKind.i64.wrap (((n2.size:Nat):Int).tdiv 20)=((n2.size / 20:Nat):Int):=by
    have:((n2.size:Nat):Int).tdiv 20=((n2.size / 20:Nat):Int):=rfl;rw[this,w64 (by omega) (by omega)]
   have hz:¬ ((20:Int)=0):=by decide
   generalize n2.size / 20=q at hq hwt;have w1:IntKind.i64.wrap (1+((q:Nat):Int))=((1+q:Nat):Int):=by rw[w64]<;>omega
   have w2:IntKind.i64.wrap (IntKind.i64.wrap (lim-(n:Int))-1)=lim-n-1:=by rw[w64 (n:=lim-n) (by omega) (by omega),w64 (by omega) (by omega)]
   simp only[go_sem,zE,zA,reduceCtorEq,f0,f1,f5,f6,hx.len,lt_i hlt,dEt hle,yQ1 ht,iNn,hkx,fits,hq,hz,w1,w2];intro _;refine (hcall _).mono ?_;rintro _ st2 ⟨⟨m,rfl,hm1,hm2⟩,rfl⟩;have w3:IntKind.i64.wrap (((1+q:Nat):Int)+(m:Int))=((1+q+m:Nat):Int):=by rw[w64]<;>omega
   have w4:IntKind.i64.wrap ((n:Int)+((1+q+m:Nat):Int))=((n+(1+q+m):Nat):Int):=by rw[w64]<;>omega
   simp only[go_sem,zE,reduceCtorEq,f0,f1,f6,w3,w4,yQ9 hlt (show us.length<=281474976710656 by omega)];exact⟨n+(1+q+m),rfl,by omega,λh=>by have:=hm2 (by omega);omega⟩
  ·simp only[go_sem,zE,reduceCtorEq,f0,f1,f5,f6,hx.len,lt_i hlt,dEf hle];intro _;exact yQ0 ⟨⟨n,rfl,by omega,λh=>absurd h hle⟩,rfl⟩
 ·rintro fr st1 _ ⟨⟨n,f5,hn1,hn2⟩,f0,f1,f6,rfl,rfl⟩;rw[lTl] at hn1 hn2;simp only[go_sem,zE,reduceCtorEq,f0,f5,f6,hx.len,yQj (nLi _)];intro _;exact yQ0 ⟨⟨n,rfl,hn1,hn2⟩,rfl⟩
theorem zW2:∀(k:Nat)(us:List Tm),SizeOf.sizeOf us<k->tC gl us
 | 0,f,h=>by omega
 | k+1,us,h=>xXe gl us (λv n l ha=>zW2 k l (by
   have:=lSm ha;simp at this;omega))
theorem xKu (us:List Tm):tC gl us:=zW2 gl _ us (Nat.lt_succ_self _)
def zC (us:List Fm):Prop:=∀(t:Tag) (xs:List IV) (_:okEs t 4) (_:IsFms us xs) (lim:Int) (_:-1<=lim/\lim<=1000) (_:wFms us<=1099511627776) (st:ISt),
 ICall prog gl 30 [.sl t xs,.raw (.int .i64 lim)] st (λr st'=>Sum (wFms us) lim r/\st'=st)
theorem xYf (us:List Fm)(IH:∀o n l m,Fm.mk o n l m∈us->zC gl m):zC gl us:=by
 intro t xs ht hx lim hlim hw st;refine ICall.intro (c:=cf prog gl [] [(5,[0,1,2,3,4,5,6,7,8,9,10,11,12,13,14,15,16,19,20,21,22,23,24,25,26,27,17,18,28,29,30,31])]) func30 rfl (by show _<=50;simp) (by kernel_rfl) ?_;simp only[go_sem];refine LoopC.ctr us.length (λk fr st' ds=>(∃n:Nat,fr 5=.iv (.raw (.int .i64 n))/\n<=wFms (us.take k)/\((n:Int)<=lim->n=wFms (us.take k)))/\fr 0=.iv (.sl t xs)/\fr 1=.iv (.raw (.int .i64 lim))/\fr 6=.iv (.raw (.int .i64 k))/\st'=st/\ds=[]) ?_ ?_ ?_
 ·simp only[go_sem,zE,reduceCtorEq];exact⟨⟨0,rfl,Nat.le_refl _,λ_=>rfl⟩,rfl⟩
 ·rintro k fr st1 _ hlt ⟨⟨n,f5,hn1,hn2⟩,f0,f1,f6,rfl,rfl⟩;obtain⟨a,ha⟩:=yQ3 hlt;obtain⟨x,hkx,hxa⟩:=hx.get ha;obtain⟨o2,n2,l2,m2⟩:=a;obtain⟨tx,cx,ty,cy,rfl,_,htx,hcx,hty,hcy⟩:=hxa.mk;have hwt:=xGv ha;have hwl:=xGw us (k+1);have hwk:=xGw us k;simp only[wFm] at hwt;by_cases hle:(n:Int)<=lim
  ·have hnk:=hn2 hle;have hcall:=λst=>IH _ _ _ _ (lMg ha) ty cy hty hcy (lim-n-1) ⟨by omega,by omega⟩ (by omega) st;have hterm:=λst=>xKu gl l2 tx cx htx hcx (lim-n) ⟨by omega,by omega⟩ (by omega) st;have hq:IntKind.i64.wrap (((n2.size:Nat):Int).tdiv 20)=((n2.size / 20:Nat):Int):=by
    have:((n2.size:Nat):Int).tdiv 20=((n2.size / 20:Nat):Int):=rfl;rw[this,w64 (by omega) (by omega)]
   have hz:¬ ((20:Int)=0):=by decide
   generalize n2.size / 20=q at hq hwt;have w1:IntKind.i64.wrap (1+((q:Nat):Int))=((1+q:Nat):Int):=by rw[w64]<;>omega
   have w0:IntKind.i64.wrap (lim-(n:Int))=lim-n:=w64 (by omega) (by omega);have w2:IntKind.i64.wrap (lim-(n:Int)-1)=lim-n-1:=w64 (by omega) (by omega);simp only[go_sem,zE,zA,reduceCtorEq,f0,f1,f5,f6,hx.len,lt_i hlt,dEt hle,yQ1 ht,iNn,hkx,fits,hq,hz,w1,w0,w2];intro _;refine (hterm _).mono ?_;rintro _ st2 ⟨⟨m1,rfl,hm1,hm1'⟩,rfl⟩;have w3:IntKind.i64.wrap (((1+q:Nat):Int)+(m1:Int))=((1+q+m1:Nat):Int):=by rw[w64]<;>omega
   simp only[go_sem,zE,zA,w3];refine (hcall _).mono ?_;rintro _ st2 ⟨⟨m,rfl,hm,hm'⟩,rfl⟩;have w4:IntKind.i64.wrap (((1+q+m1:Nat):Int)+(m:Int))=((1+q+m1+m:Nat):Int):=by rw[w64]<;>omega
   have w5:IntKind.i64.wrap ((n:Int)+((1+q+m1+m:Nat):Int))=((n+(1+q+m1+m):Nat):Int):=by rw[w64]<;>omega
   simp only[go_sem,zE,reduceCtorEq,f0,f1,f6,w4,w5,yQ9 hlt (show us.length<=281474976710656 by omega)];exact⟨n+(1+q+m1+m),rfl,by omega,λh=>by have:=hm1' (by omega);have:=hm' (by omega);omega⟩
  ·simp only[go_sem,zE,reduceCtorEq,f0,f1,f5,f6,hx.len,lt_i hlt,dEf hle];intro _;exact yQ0 ⟨⟨n,rfl,by omega,λh=>absurd h hle⟩,rfl⟩
 ·rintro fr st1 _ ⟨⟨n,f5,hn1,hn2⟩,f0,f1,f6,rfl,rfl⟩;rw[lTl] at hn1 hn2;simp only[go_sem,zE,reduceCtorEq,f0,f5,f6,hx.len,yQj (nLi _)];intro _;exact yQ0 ⟨⟨n,rfl,hn1,hn2⟩,rfl⟩
theorem zUq:∀(k:Nat)(us:List Fm),SizeOf.sizeOf us<k->zC gl us
 | 0,f,h=>by omega
 | k+1,us,h=>xYf gl us (λo n l m ha=>zUq k m (by
   have:=lSm ha;simp at this;omega))
theorem xXf (us:List Fm):zC gl us:=zUq gl _ us (Nat.lt_succ_self _)
theorem uVd (s:Sq)(x:IV)(hx:IsSq s x)(hw:wFms s.l<=1099511627776/\wFms s.r<=1099511627776)(st:ISt):ICall prog gl 29 [x] st (λr st'=>(r=.raw (.bool (decide (wFms s.l+wFms s.r<=300))))/\st'=st):=by
 obtain⟨t1,x1,t2,x2,rfl,e1,i1,e2,i2⟩:=hx;have h1:=λst=>xXf gl s.l t1 x1 e1 i1 300 ⟨by omega,by omega⟩ hw.1 st;have h2:=λst=>xXf gl s.r t2 x2 e2 i2 300 ⟨by omega,by omega⟩ hw.2 st;refine ICall.intro (c:=cf prog gl [] [(1,[0,1,3,4,2,5,6,7,8])]) func29 rfl (by show _<=11;simp) (by kernel_rfl) ?_;simp only[go_sem,zE,zA];refine (h1 _).mono ?_;rintro _ st2 ⟨⟨n,rfl,hn1,hn2⟩,rfl⟩;simp only[go_sem,zE,zA];refine (h2 _).mono ?_;rintro _ st2 ⟨⟨m,rfl,hm1,hm2⟩,rfl⟩;have w:IntKind.i64.wrap ((n:Int)+(m:Int))=((n+m:Nat):Int):=by rw[w64]<;>omega
 have hd:decide (((n+m:Nat):Int)<=300)=decide (wFms s.l+wFms s.r<=300):=by
  rw[decide_eq_decide];constructor
  ·intro h;have:=hn2 (by omega);have:=hm2 (by omega);omega
  ·intro h;omega
 simp only[go_sem,zE,w,hd];exact yQ0 ⟨rfl,rfl⟩
def plI (p:List Nat):List IV:=p.map λ(i:Nat)=>.raw (.int .i64 (i:Int))
theorem yKj (p:List Nat):(plI p).length=p.length:=by simp[plI]
def emp:ISt:=λ_=>none
def PlV (p:List Nat)(a:IV)(e:ISt):Prop :=
 (∃t,a=.sl t []/\t.cap=.nil/\p=[]/\e=emp) \/
 ∃g cap cs,a=.raw (.slice (some ⟨g,0,none⟩) p.length cap)/\e=emp.put g (some (.box cs))/\p.length<=cap/\cap<=cs.length/\cs.take p.length=plI p
def lkT (l:List (List Nat×Tr))(k:Nat)(zs:List IV)(e:ISt):Prop:=∃p t a x,l[k]?=some (p,t)/\IsTr t x/\PlV p a e/\zs=[a,.cptr x]
def xJ9 (b2 b3 b4:Nat):IV:=.fn (.func 55) [] [.raw (.pointer (some ⟨b2,0,none⟩)),.raw (.pointer (some ⟨b3,0,none⟩)),.raw (.pointer (some ⟨b4,0,none⟩))]
def ownF (b2 b3 b4:Nat)(fy a:IV):ISt:=((emp.put b2 (some (.box [fy]))).put b3 (some (.box [a]))).put b4 (some (.box [xJ9 b2 b3 b4]))
section
variable {b2 b3 b4:Nat}{fy a:IV}
theorem wWe (h3:b2≠b3)(h4:b2≠b4):ownF b2 b3 b4 fy a b2=some (.box [fy]):=by simp only[ownF,ISt.put_apply,if_neg h3,if_neg h4,if_true]
theorem yGx (h4:b3≠b4):ownF b2 b3 b4 fy a b3=some (.box [a]):=by simp only[ownF,ISt.put_apply,if_neg h4,if_true]
theorem zUu:ownF b2 b3 b4 fy a b4=some (.box [xJ9 b2 b3 b4]):=by simp only[ownF,ISt.put_apply,if_true]
theorem xKz {c:Nat}(h2:c≠b2)(h3:c≠b3)(h4:c≠b4):ownF b2 b3 b4 fy a c=none:=by simp only[ownF,ISt.put_apply,if_neg h2,if_neg h3,if_neg h4,emp]
theorem zXd {c:Nat}(a':IV):ownF b2 b3 b4 fy a c=none↔ownF b2 b3 b4 fy a' c=none:=by
 simp only[ownF,ISt.put_apply];by_cases h4:c=b4
 ·simp[h4]
 ·by_cases h3:c=b3
  ·subst h3;simp only[if_neg h4,if_true,reduceCtorEq]
  ·simp[h4,h3]
end
def xZg (b2 b3 b4:Nat)(fy:IV)(p:List Nat)(s stt:ISt):Prop:=∃a e,PlV p a e/\disj s e/\disj (join s e) (ownF b2 b3 b4 fy a)/\stt=join (join s e) (ownF b2 b3 b4 fy a)
def FOkL (y:IV)(I:Nat->ISt->Prop)(S:ISt->Prop)(k0:Nat)(l:List (List Nat×Tr)):Prop :=
 ∀i p t x a e stu,l[i]?=some (p,t)->IsTr t x->PlV p a e->disj stu e->I (k0+i) stu →
  ICallV prog gl y [a,.cptr x] (join stu e) λr st'=>(r=.raw (.bool true)/\∃s1,I (k0+i+1) s1/\disj s1 e/\st'=join s1 e)\/(r=.raw (.bool false)/\S st')
section
variable {gl}{y:IV}{I:Nat->ISt->Prop}{S:ISt->Prop}{k0:Nat}
theorem FOkL.left {l m:List (List Nat×Tr)}(h:FOkL gl y I S k0 (l++m)):FOkL gl y I S k0 l:=λi p t x a e stu hi =>
 h i p t x a e stu (by rw[List.getElem?_append_left (lGs hi).1];exact hi)
theorem FOkL.right {l m:List (List Nat×Tr)}(h:FOkL gl y I S k0 (l++m)):FOkL gl y I S (k0+l.length) m:=λi p t x a e stu hi hx hp hd hI=>by
 have:=h (l.length+i) p t x a e stu (by rw[List.getElem?_append_right (by omega)];simpa using hi) hx hp hd (by rw[<- Nat.add_assoc];exact hI);simpa only[Nat.add_assoc] using this
theorem FOkL.tail {z:List Nat×Tr}{m:List (List Nat×Tr)}(h:FOkL gl y I S k0 (z::m)):FOkL gl y I S (k0+1) m:=FOkL.right (l:=[z]) h
end
section
variable {b2 b3 b4:Nat}{fy a a':IV}{p:List Nat}{s:ISt}{g:Nat}
theorem zYs {c:Nat}(h:c≠b3):ownF b2 b3 b4 fy a c=ownF b2 b3 b4 fy a' c:=by simp only[ownF,ISt.put_apply,if_neg h]
theorem wQ6 {cs:List IV}(h34:b3≠b4)(hs:disj s (ownF b2 b3 b4 fy a))(hg1:s g=none)(hg2:ownF b2 b3 b4 fy a g=none)(hp:PlV p a' (emp.put g (some (.box cs)))) :
  xZg b2 b3 b4 fy p s (((join s (ownF b2 b3 b4 fy a)).put g (some (.box cs))).put b3 (some (.box [a']))):=by
 have hg3:ownF b2 b3 b4 fy a' g=none:=(zXd a').1 hg2;refine⟨a',_,hp,λb hb=>?_,λb hb=>?_,?_⟩
 ·rw[ISt.put_apply] at hb;split at hb
  ·rename_i h;rw[h];exact hg1
  ·exact absurd rfl hb
 ·have hbg:b≠g:=by rintro rfl;exact hb hg3
  have he:(emp.put g (some (.box cs))) b=none:=by rw[ISt.put_apply,if_neg hbg];rfl
  rw[yZ4 he];exact hs b λh=>hb ((zXd a').1 h)
 ·funext c;by_cases h3:c=b3
  ·rw[ISt.put_apply,if_pos h3,h3,yZ1 (yGx h34)]
  ·rw[ISt.put_apply,if_neg h3,ISt.put_apply];by_cases hc:c=g
   ·rw[if_pos hc,hc,yZ4 hg3,yZ1 (ISt.put_same ..)]
   ·rw[if_neg hc];have he:(emp.put g (some (.box cs))) c=none:=by rw[ISt.put_apply,if_neg hc];rfl
    cases ho:ownF b2 b3 b4 fy a c with
    | some o=>rw[yZ1 ho,yZ1 ((zYs h3).symm.trans ho)]
    | none=>rw[yZ4 ho,yZ4 ((zYs h3).symm.trans ho),yZ4 he]
theorem wU4 {cs:List IV}(hd1:s g=none)(hd2:ownF b2 b3 b4 fy a g=none):(join (join s (emp.put g (some (.box cs)))) (ownF b2 b3 b4 fy a)).put g none=join s (ownF b2 b3 b4 fy a):=by
 funext c;rw[ISt.put_apply];split
 ·rename_i h;rw[h,yZ4 hd2,hd1]
 ·rename_i h;have he:(emp.put g (some (.box cs))) c=none:=by rw[ISt.put_apply,if_neg h];rfl
  cases ho:ownF b2 b3 b4 fy a c with
  | some o=>rw[yZ1 ho,yZ1 ho]
  | none=>rw[yZ4 ho,yZ4 ho,yZ4 he]
end
theorem PlV.cons {p:List Nat}{k:Nat}{a:IV}{e:ISt}(h:PlV (p++[k]) a e):∃g cap cs,a=.raw (.slice (some ⟨g,0,none⟩) (p.length+1) cap)/\e=emp.put g (some (.box cs))/\p.length+1<=cap/\cap<=cs.length/\cs.take p.length=plI p:=by
 rcases h with⟨t,_,_,h,_⟩|⟨g,cap,cs,rfl,rfl,h1,h2,h3⟩
 ·simp at h
 ·rw[lLa] at h1 h3 ⊢;refine⟨g,cap,cs,rfl,rfl,h1,h2,?_⟩;have:=congrArg (List.take p.length) h3;rw[List.take_take,show min p.length (p.length+[k].length)=p.length by omega] at this;rw[this];unfold plI;rw[List.map_append,List.take_left' (by simp)]
theorem wW9 {b2 b3 b4:Nat}{fy a a':IV}{X:ISt}(h34:b3≠b4):(join X (ownF b2 b3 b4 fy a)).put b3 (some (.box [a']))=join X (ownF b2 b3 b4 fy a'):=by
 funext c;rw[ISt.put_apply];split
 ·rename_i h;rw[h,yZ1 (yGx h34)]
 ·rename_i h;cases ho:ownF b2 b3 b4 fy a c with
  | some o=>rw[yZ1 ho,yZ1 ((zYs h).symm.trans ho)]
  | none=>rw[yZ4 ho,yZ4 ((zYs h).symm.trans ho)]
theorem zVv {n m:Nat}(h:n+1<=m):yXn none (some ((n:Nat):Int)) m=some (0,n):=by
 simp only[yXn,Option.getD_none,Option.getD_some];rw[if_pos ⟨Int.le_refl _,by omega,by omega⟩];simp
theorem zWi:∀ {l:List Tr}{t:Tr},t∈l->t.height<=yQx l
 | a::l,t,h=>by
  simp only[yQx];rcases List.mem_cons.1 h with rfl|h
  ·omega
  ·have:=zWi h;omega
theorem zK0 (x:Operand):yV6 1 [(0,x)]=true:=rfl
theorem yKq (p:List Nat):∀(i:Nat) (l m:List Tr),yZ0 p i (l++m)=yZ0 p i l++yZ0 p (i+l.length) m
 | i,[],m=>by simp[yZ0]
 | i,a::l,m=>by
  simp only[List.cons_append,yZ0,yKq p (i+1) l m,List.append_assoc,List.length_cons];rw[show i+1+l.length=i+(l.length+1) by omega]
def FF (t:Tr):Prop:=∀(x:IV) (_:IsTr t x) (b2 b3 b4:Nat) (_:b2≠b3) (_:b2≠b4) (_:b3≠b4) (g:Fn) (fi ca:List IV) (_:fnOk g=true) (_:∀i,g=.func i->entI prog i=true) (I:Nat->ISt->Prop) (S:ISt->Prop) (k0:Nat) (p:List Nat)
  (_:FOkL gl (.fn g fi ca) I S k0 (t.walk p)) (_:p.length+t.height<=1099511627776) (s stt:ISt) (_:I k0 s) (_:xZg b2 b3 b4 (.fn g fi ca) p s stt),
  ICall prog gl 55 [.cptr x,.raw (.pointer (some ⟨b2,0,none⟩)),.raw (.pointer (some ⟨b3,0,none⟩)),.raw (.pointer (some ⟨b4,0,none⟩))] stt
   (λr st'=>(r=.raw (.bool true)/\∃s1,I (k0+(t.walk p).length) s1/\xZg b2 b3 b4 (.fn g fi ca) p s1 st')\/(r=.raw (.bool false)/\∃s1,S s1/\subSt s1 st'))
theorem wZl (rule:Nat)(sq:Sq)(f:Fm)(u:Tm)(n:ByteArray)(sub:List Tr)(IH:∀a∈sub,FF gl a):FF gl (.mk rule sq f u n sub):=by
 intro x hx b2 b3 b4 h23 h24 h34 g fi ca hfn hent I S k0 p hy hdeep s stt hI hst;have hx0:=hx;obtain⟨tl,xl,tr,xr,op,fn,ta,xa,tb,xb,v,un,tu,xu,ts,xs,hxe,hru,_,_,_,_,_,_,e3,i3⟩:=hx.mk;obtain⟨a,e,hp,hd1,hd2,rfl⟩:=hst;simp only[Tr.walk] at hy ⊢;have hhead:=hy 0 p _ _ a e s rfl hx0 hp hd1 hI;have hy':=FOkL.tail hy;have r2:join (join s e) (ownF b2 b3 b4 (.fn g fi ca) a) b2=some (.box [.fn g fi ca]):=yZ1 (wWe h23 h24);have r3:join (join s e) (ownF b2 b3 b4 (.fn g fi ca) a) b3=some (.box [a]):=yZ1 (yGx h34);refine ICall.intro (c:=cf prog gl [23,24] []) func55 rfl (by show _<=39;simp) (by kernel_rfl) ?_;have hiv:ivOf (.iv a)=some a:=by rcases hp with⟨t,rfl,_⟩|⟨g,cap,cs,rfl,_⟩<;>rfl
 rw[hxe] at hhead;simp only[go_sem,zE,reduceCtorEq,r2,r3,hiv,hxe];refine yJj hent (hhead.frame hd2 |>.mono ?_);rintro r stt ⟨s2,hd3,rfl,(⟨rfl,s3,hI3,hd4,rfl⟩|⟨rfl,hS⟩)⟩
 ·simp only[go_sem,reduceCtorEq,i3.len];intro hlen;refine LoopC.ctr sub.length (λk fr st' ds=>(∃s,I (k0+1+(yZ0 p 0 (sub.take k)).length) s/\xZg b2 b3 b4 (.fn g fi ca) p s st')/\fr 0=.iv (.cptr x)/\fr 1=.iv (.raw (.pointer (some ⟨b2,0,none⟩)))/\fr 2=.iv (.raw (.pointer (some ⟨b3,0,none⟩)))/\fr 3=.iv (.raw (.pointer (some ⟨b4,0,none⟩)))/\fr 16=.iv (.raw (.int .i64 sub.length))/\fr 17=.iv (.raw (.int .i64 k))/\ds=[]) ?_ ?_ ?_
  ·simp only[go_sem,zE,reduceCtorEq,hxe];exact⟨⟨s3,by simpa[yZ0] using hI3,a,e,hp,hd4,hd3,rfl⟩,rfl⟩
  ·rintro k fr st1 _ hlt ⟨⟨s,hI,a,e,hp,hd1,hd2,rfl⟩,f0,f1,f2,f3,f16,f17,rfl⟩;rw[hxe] at f0;obtain⟨t,ht⟩:=yQ3 hlt;obtain⟨z,hkz,hz⟩:=i3.get ht;have r3:join (join s e) (ownF b2 b3 b4 (.fn g fi ca) a) b3=some (.box [a]):=yZ1 (yGx h34);have hth:=zWi (lMg ht);simp only[Tr.height] at hdeep;have hsplit:yZ0 p 0 sub=yZ0 p 0 (sub.take k)++(t.walk (p++[k])++yZ0 p (k+1) (sub.drop (k+1))):=by
    conv=>lhs;rw[<- List.take_append_drop k sub,List.drop_eq_getElem_cons hlt]
    rw[yKq,(lGs ht).2,show (sub.take k).length=k by rw[List.length_take];omega];simp only[yZ0,Nat.zero_add]
   have hya:=hy';rw[hsplit] at hya;have hcall:=λstt hF=>IH t (lMg ht) z hz b2 b3 b4 h23 h24 h34 g fi ca hfn hent I S _ (p++[k]) (FOkL.left (FOkL.right hya)) (by rw[lLa];simp only[List.length_singleton];omega) s stt hI hF;have wcut:IntKind.i64.wrap (((p.length+1:Nat):Int)-1)=(p.length:Nat):=by rw[w64 (by omega) (by omega)];omega
   have hz':∃c0 c1 c2 c3 c4 c5 c6 c7 c8 c9 c10 c11,z=.agg [c0,c1,c2,c3,c4,c5,c6,c7,c8,c9,c10,c11]:=by
    obtain⟨r',s',m',t',n',b'⟩:=t;obtain⟨tl',xl',tr',xr',op',fn',ta',xa',tb',xb',v',un',tu',xu',ts',xs',rfl,_⟩:=hz.mk;exact⟨_,_,_,_,_,_,_,_,_,_,_,_,rfl⟩
   obtain⟨c0,c1,c2,c3,c4,c5,c6,c7,c8,c9,c10,c11,rfl⟩:=hz';rcases hp with⟨t0,rfl,hta,hp0,rfl⟩|⟨g',cap,cs,rfl,rfl,hc1,hc2,hc3⟩
   ·obtain⟨fs,c,es⟩:=t0;obtain rfl:c=.nil:=hta;have hje:join s emp=s:=rfl;rw[hje] at r3 hd2 ⊢;simp only[go_sem,zE,zA,zM,zL,reduceCtorEq,f0,f2,f3,f16,f17,lt_i hlt,r3,hxe,zK0];intro g' cap;refine yQc λhg=>?_;obtain⟨hg,hcap⟩:=hg;change join s (ownF b2 b3 b4 (.fn g fi ca) (.sl ⟨fs,.nil,es⟩ [])) g'=none at hg;have hd2':disj s (ownF b2 b3 b4 (.fn g fi ca) (.sl ⟨fs,.nil,es⟩ [])):=hd2;have hg2:ownF b2 b3 b4 (.fn g fi ca) (.sl ⟨fs,.nil,es⟩ []) g'=none:=by
     cases ho:ownF b2 b3 b4 (.fn g fi ca) (.sl ⟨fs,.nil,es⟩ []) g' with
     | none=>rfl
     | some o=>rw[yZ1 ho] at hg;cases hg
    have hg1:s g'=none:=by rw[<- yZ4 (stu:=s) hg2];exact hg
    have hb3:b3≠g':=by rintro rfl;rw[yGx h34] at hg2;cases hg2
    have hF:=wQ6 (fy:=.fn g fi ca) (p:=p++[k]) (a':=.raw (.slice (some ⟨g',0,none⟩) 1 cap)) (cs:=.raw (.int .i64 k)::List.replicate (cap-1) .junk) h34 hd2' hg1 hg2 (.inr ⟨g',cap,_,by rw[hp0];rfl,rfl,by simpa[hp0] using hcap,by simp;omega,by simp[plI,hp0]⟩);have hb4:b4≠g':=by rintro rfl;rw[zUu] at hg2;cases hg2
    have r3':∀o,((join s (ownF b2 b3 b4 (.fn g fi ca) (.sl ⟨fs,.nil,es⟩ []))).put g' o) b3=some (.box [.sl ⟨fs,.nil,es⟩ []]):=λo=>by rw[ISt.put_apply,if_neg hb3];exact r3
    have r4':∀o o',(((join s (ownF b2 b3 b4 (.fn g fi ca) (.sl ⟨fs,.nil,es⟩ []))).put g' o).put b3 o') b4=some (.box [xJ9 b2 b3 b4]):=λo o'=>by rw[ISt.put_apply,if_neg h34.symm,ISt.put_apply,if_neg hb4];exact yZ1 zUu
    simp only[go_sem,zL,IV.one,List.flatMap_cons,List.flatMap_nil,IV.cells,Nat.mul_one,r3',r4',hkz,yQ1 e3,iNn,xJ9];refine (hcall _ hF).mono ?_;rintro _ st2 (⟨rfl,s1,hI1,hF1⟩|⟨rfl,s1,hS1,hsub1⟩)
    ·obtain⟨a2,e2,hp2,hd5,hd6,rfl⟩:=hF1;obtain⟨g3,cap3,cs3,rfl,rfl,hc4,hc5,hc6⟩:=hp2.cons;have r6:join (join s1 (emp.put g3 (some (.box cs3)))) (ownF b2 b3 b4 (.fn g fi ca) (.raw (.slice (some ⟨g3,0,none⟩) (p.length+1) cap3))) b3=some (.box [.raw (.slice (some ⟨g3,0,none⟩) (p.length+1) cap3)]):=yZ1 (yGx h34);simp only[go_sem,zE,zL,reduceCtorEq,IV.one,r6,f0,f1,f2,f3,f16,f17,wcut,zVv hc4,ite_self,Nat.zero_mul,hc4,yQ9 hlt (show sub.length<=281474976710656 by omega)];refine⟨s1,?_,?_⟩
     ·rw[yQ5 ht,yKq,lLa,show (sub.take k).length=k by rw[List.length_take];omega];simp only[yZ0,List.append_nil,Nat.zero_add];rw[<- Nat.add_assoc];exact hI1
     ·rw[wW9 h34];exact⟨_,_,.inr ⟨g3,cap3,cs3,rfl,rfl,by omega,hc5,hc6⟩,hd5,λb hb=>hd6 b λh=>hb ((zXd _).1 h),rfl⟩
    ·simp only[go_sem];exact yQ0 (.inr ⟨rfl,s1,hS1,hsub1⟩)
   ·have ho:ownF b2 b3 b4 (.fn g fi ca) (.raw (.slice (some ⟨g',0,none⟩) p.length cap)) g'=none:=by
     cases ho:ownF b2 b3 b4 (.fn g fi ca) (.raw (.slice (some ⟨g',0,none⟩) p.length cap)) g' with
     | none=>rfl
     | some o =>
      have:=hd2 g' (by rw[ho];simp);rw[yZ1 (ISt.put_same ..)] at this;cases this
    have hs1:s g'=none:=hd1 g' (by rw[ISt.put_same];simp);have r5:join (join s (emp.put g' (some (.box cs)))) (ownF b2 b3 b4 (.fn g fi ca) (.raw (.slice (some ⟨g',0,none⟩) p.length cap))) g'=some (.box cs):=by
     rw[yZ4 ho,yZ1 (ISt.put_same ..)]
    simp only[go_sem,zE,zA,zM,zL,f2,f16,f17,lt_i hlt,r3,hxe,zK0];refine zZi _ _ _ r5 (by simp[fits,IV.one]) ⟨by show (_+1)*8<=_;omega,by show _+1<=_;omega⟩ ⟨hc1,by show _*1<=_;omega⟩ (by simp[IV.cells]) ?_;intro g2 cap2 cs2 hg2 k1 k2 k3;rw[wU4 hs1 ho];have hgo:s g2=none/\ownF b2 b3 b4 (.fn g fi ca) (.raw (.slice (some ⟨g',0,none⟩) p.length cap)) g2=none:=by
     rcases hg2 with rfl|hg2
     ·exact⟨hs1,ho⟩
     ·cases hq:ownF b2 b3 b4 (.fn g fi ca) (.raw (.slice (some ⟨g',0,none⟩) p.length cap)) g2 with
      | some o=>rw[yZ1 hq] at hg2;cases hg2
      | none =>
       rw[yZ4 hq] at hg2;refine⟨?_,rfl⟩;cases hz:s g2 with
       | none=>rfl
       | some o=>rw[yJv hd1 g2 o hz] at hg2;cases hg2
    have hs2:disj s (ownF b2 b3 b4 (.fn g fi ca) (.raw (.slice (some ⟨g',0,none⟩) p.length cap))):=λb hb=>by
     have:=hd2 b hb;cases hz:s b with
     | none=>rfl
     | some o=>rw[yJv hd1 b o hz] at this;cases this
    have hF:=wQ6 (fy:=.fn g fi ca) (p:=p++[k]) (a':=.raw (.slice (some ⟨g2,0,none⟩) (p.length+1) cap2)) (cs:=cs2) h34 hs2 hgo.1 hgo.2 (.inr ⟨g2,cap2,cs2,by simp,rfl,by simpa using k1,by simpa using k2,by
     simp only[Nat.mul_one] at k3;rw[lLa];exact k3.trans (by rw[hc3];simp[plI,IV.cells])⟩)
    have hb3:b3≠g2:=by rintro rfl;have:=hgo.2;rw[yGx h34] at this;cases this
    have hb4:b4≠g2:=by rintro rfl;have:=hgo.2;rw[zUu] at this;cases this
    have r3':∀o,((join s (ownF b2 b3 b4 (.fn g fi ca) (.raw (.slice (some ⟨g',0,none⟩) p.length cap)))).put g2 o) b3=some (.box [.raw (.slice (some ⟨g',0,none⟩) p.length cap)]):=λo=>by rw[ISt.put_apply,if_neg hb3];exact yZ1 (yGx h34)
    have r4':∀o o',(((join s (ownF b2 b3 b4 (.fn g fi ca) (.raw (.slice (some ⟨g',0,none⟩) p.length cap)))).put g2 o).put b3 o') b4=some (.box [xJ9 b2 b3 b4]):=λo o'=>by rw[ISt.put_apply,if_neg h34.symm,ISt.put_apply,if_neg hb4];exact yZ1 zUu
    simp only[go_sem,zE,zL,reduceCtorEq,IV.one,IV.cells,r3',r4',f0,f2,f3,hkz,yQ1 e3,iNn,fits,xJ9];refine (hcall _ hF).mono ?_;rintro _ st2 (⟨rfl,s1,hI1,hF1⟩|⟨rfl,s1,hS1,hsub1⟩)
    ·obtain⟨a2,e2,hp2,hd5,hd6,rfl⟩:=hF1;obtain⟨g3,cap3,cs3,rfl,rfl,hc4,hc5,hc6⟩:=hp2.cons;have r6:join (join s1 (emp.put g3 (some (.box cs3)))) (ownF b2 b3 b4 (.fn g fi ca) (.raw (.slice (some ⟨g3,0,none⟩) (p.length+1) cap3))) b3=some (.box [.raw (.slice (some ⟨g3,0,none⟩) (p.length+1) cap3)]):=yZ1 (yGx h34);simp only[go_sem,zE,zL,reduceCtorEq,IV.one,r6,f0,f1,f2,f3,f16,f17,wcut,zVv hc4,ite_self,Nat.zero_mul,hc4,yQ9 hlt (show sub.length<=281474976710656 by omega)];refine⟨s1,?_,?_⟩
     ·rw[yQ5 ht,yKq,lLa,show (sub.take k).length=k by rw[List.length_take];omega];simp only[yZ0,List.append_nil,Nat.zero_add];rw[<- Nat.add_assoc];exact hI1
     ·rw[wW9 h34];exact⟨_,_,.inr ⟨g3,cap3,cs3,rfl,rfl,by omega,hc5,hc6⟩,hd5,λb hb=>hd6 b λh=>hb ((zXd _).1 h),rfl⟩
    ·simp only[go_sem];exact yQ0 (.inr ⟨rfl,s1,hS1,hsub1⟩)
  ·rintro fr st1 _ ⟨⟨s,hI,hF⟩,f0,f1,f2,f3,f16,f17,rfl⟩;rw[lTl] at hI;simp only[go_sem,f16,f17,yQj (nLi _)];refine yQ0 (.inl ⟨rfl,s,?_,hF⟩);rw[show k0+((yZ0 p 0 sub).length+1)=k0+1+(yZ0 p 0 sub).length by omega];exact hI
 ·simp only[go_sem];exact yQ0 (.inr ⟨rfl,s2,hS,yJv hd3⟩)
theorem xVq:∀(k:Nat)(t:Tr),SizeOf.sizeOf t<k->FF gl t
 | 0,t,h=>by omega
 | k+1,.mk r sq f u n sub,h=>wZl gl r sq f u n sub (λa ha=>xVq k a (by
   have:=lSm ha;simp at h;omega))
theorem vXr (t:Tr):FF gl t:=xVq gl _ t (Nat.lt_succ_self _)
theorem wJf (t:Tr)(x:IV)(hx:IsTr t x)(hd:t.height<=1099511627776)(I:Nat->ISt->Prop):wVt prog gl 54 [] [.cptr (.cptr x)] (lkT (t.walk [])) (t.walk []).length I:=by
 rintro y I' S' st ⟨g,fi,ca,rfl,hfn,hent⟩ _ hy h0;have hfrom:=vXr gl t x hx;have hok:FOkL gl (.fn g fi ca) I' S' 0 (t.walk []):=λi p t x a e stu hi ht hp hdj hI=>by
  rw[Nat.zero_add] at hI ⊢;exact hy i [a,.cptr x] e stu ⟨p,t,a,x,hi,ht,hp,rfl⟩ hdj hI
 have hz':∃c0 c1 c2 c3 c4 c5 c6 c7 c8 c9 c10 c11,x=.agg [c0,c1,c2,c3,c4,c5,c6,c7,c8,c9,c10,c11]:=by
  obtain⟨r',s',m',t',n',b'⟩:=t;obtain⟨tl',xl',tr',xr',op',fn',ta',xa',tb',xb',v',un',tu',xu',ts',xs',rfl,_⟩:=hx.mk;exact⟨_,_,_,_,_,_,_,_,_,_,_,_,rfl⟩
 obtain⟨c0,c1,c2,c3,c4,c5,c6,c7,c8,c9,c10,c11,rfl⟩:=hz';change ICall prog gl _ [.fn g fi ca,_] st _;refine ICall.intro (c:=cf prog gl [2,3,4] []) func54 rfl (by show _<=9;simp) (by kernel_rfl) ?_;simp only[go_sem,zE,zL,fits];intro b2;refine yQc λhb2=>?_;intro b3;refine yQc λhb3=>?_;intro b4;refine yQc λhb4=>?_;have h23:b2≠b3:=by rintro rfl;rw[ISt.put_same] at hb3;cases hb3
 have h34:b3≠b4:=by rintro rfl;rw[ISt.put_same] at hb4;cases hb4
 have h24:b2≠b4:=by rintro rfl;rw[ISt.put_apply,if_neg h23,ISt.put_same] at hb4;cases hb4
 rw[ISt.put_apply,if_neg h23.symm] at hb3;rw[ISt.put_apply,if_neg h34.symm,ISt.put_apply,if_neg h24.symm] at hb4;have hF:xZg b2 b3 b4 (.fn g fi ca) [] st ((((st.put b2 (some (.box [.fn g fi ca]))).put b3 (some (.box [.sl ⟨true,.nil,0⟩ []]))).put b4 (some (.box [.raw .nilFunc]))).put b4 (some (.box [xJ9 b2 b3 b4]))):=by
  refine⟨_,emp,.inl ⟨⟨true,.nil,0⟩,rfl,rfl,rfl,rfl⟩,λb hb=>absurd rfl hb,λb hb=>?_,?_⟩
  ·show st b=none;by_cases q4:b=b4
   ·rw[q4];exact hb4
   ·by_cases q3:b=b3
    ·rw[q3];exact hb3
    ·by_cases q2:b=b2
     ·rw[q2];exact hb2
     ·exact absurd (xKz q2 q3 q4) hb
  ·funext c;by_cases q4:c=b4
   ·rw[q4,ISt.put_same,yZ1 zUu]
   ·rw[ISt.put_apply,if_neg q4,ISt.put_apply,if_neg q4];by_cases q3:c=b3
    ·rw[q3,ISt.put_same,yZ1 (yGx h34)]
    ·rw[ISt.put_apply,if_neg q3];by_cases q2:c=b2
     ·rw[q2,ISt.put_same,yZ1 (wWe h23 h24)]
     ·rw[ISt.put_apply,if_neg q2,yZ4 (xKz q2 q3 q4)];rfl
 refine (hfrom b2 b3 b4 h23 h24 h34 g fi ca hfn hent I' S' 0 [] hok (by simpa using hd) st _ h0 hF).mono ?_;rintro r stt (⟨rfl,s1,hI1,a,e,_,hd1,hd2,rfl⟩|⟨rfl,s1,hS1,hsub⟩)
 ·simp only[go_sem];rw[Nat.zero_add] at hI1;exact yQa ((yJv hd1).trans (yJv hd2)) (.inl hI1)
 ·simp only[go_sem];exact yQa hsub (.inr hS1)
theorem wYk (x:IV)(st:ISt)(t:Tr)(hx:IsTr t x):ICall prog gl 36 [.cptr x] st (λr st'=>r=.fn (.func 54) [] [.cptr (.cptr x)]/\st'=st):=by
 have hz':∃c0 c1 c2 c3 c4 c5 c6 c7 c8 c9 c10 c11,x=.agg [c0,c1,c2,c3,c4,c5,c6,c7,c8,c9,c10,c11]:=by
  obtain⟨r',s',m',t',n',b'⟩:=t;obtain⟨tl',xl',tr',xr',op',fn',ta',xa',tb',xb',v',un',tu',xu',ts',xs',rfl,_⟩:=hx.mk;exact⟨_,_,_,_,_,_,_,_,_,_,_,_,rfl⟩
 obtain⟨c0,c1,c2,c3,c4,c5,c6,c7,c8,c9,c10,c11,rfl⟩:=hz';refine ICall.intro (c:=cf prog gl [] [] [1]) func36 rfl (by show _<=4;simp) (by kernel_rfl) ?_;simp only[go_sem,zE];exact yQ0 ⟨rfl,rfl⟩
theorem wJ5 (t:Tag)(ht:t.cap=.nil)(st:ISt):ICall prog gl 38 [.sl t []] st (λr st'=>(∃t',r=.sl t' (plI [])/\okEs t' 1)/\st'=st):=by
 obtain⟨fs,c,es⟩:=t;obtain rfl:c=.nil:=ht;refine iI func38 ?_;have hb:binV prog 42 .eql (.sl ⟨fs,.nil,es⟩ []) (.sl ⟨true,.nil,0⟩ [])=some (.raw (.bool true)):=by
  have:zQh prog 42=true:=by kernel_rfl
  simp[binV,zV9,this]
 simp only[go_sem,reduceCtorEq,hb];exact yQ0 ⟨⟨_,rfl,.inl rfl⟩,rfl⟩
theorem wJ6 (g:Nat)(p:List Nat)(hp:p≠[])(hl:p.length<=1099511627776)(st:ISt):ICall prog gl 38 [.sl ⟨false,.app g,1⟩ (plI p)] st (λr st'=>(∃t',r=.sl t' (plI p)/\okEs t' 1)/\st'=st):=by
 obtain⟨i,p,rfl⟩:∃i q,p=i::q:=by
  cases p with
  | nil=>exact absurd rfl hp
  | cons i q=>exact⟨i,q,rfl⟩
 refine iI func38 ?_;have hb:binV prog 42 .eql (.sl ⟨false,.app g,1⟩ (plI (i::p))) (.sl ⟨true,.nil,0⟩ [])=some (.raw (.bool false)):=by
  have:zQh prog 42=true:=by kernel_rfl
  simp[binV,zV9,this]
 have hf:(plI (i::p)).all (fits false 1)=true:=by simp[plI,fits,IV.one]
 simp only[List.length_cons] at hl;have he:plI (i::p)=.raw (.int .i64 (i:Int))::plI p:=rfl;have hpl:=yKj p;have hf':(plI p).all (fits false 1)=true:=by simp[plI,fits,IV.one]
 rw[he] at hb hf ⊢;simp only[go_sem,zE,zA,zM,zL,reduceCtorEq,fits,hb];exact yQv rfl (yQv hf' (yQv ⟨by omega,by omega⟩ λg'=>yQc λhg=>yQa (yQe hg) ⟨⟨_,rfl,.inr rfl⟩,rfl⟩))
theorem xGg {R:Rt}{st:ISt}{ds:List Dfd}(esc:List Nat)(dst:Option Nat)(e:TypeId×Bool×Nat×Nat)(fs:Bool)(es:Nat)(xs:List IV):appV esc dst e ⟨fs,.full,es⟩ xs [] R st ds =
 chk (([]:List IV).all (fits e.2.1 e.2.2.1)=true) (chk ((xs.length+0)*e.2.2.2<=140737488355328/\xs.length+0<=140737488355328) (chk (es=e.2.2.1) (R (.val (.sl ⟨fs,.full,es⟩ xs)) st ds))):=rfl
theorem xGq (g:Nat)(st:ISt):ICall prog gl 38 [.sl ⟨false,.app g,1⟩ (plI [])] st (λr st'=>(∃t',r=.sl t' (plI [])/\okEs t' 1)/\st'=st):=by
 have hb:binV prog 42 .eql (.sl ⟨false,.app g,1⟩ (plI [])) (.sl ⟨true,.nil,0⟩ [])=some (.raw (.bool false)):=by
  have:zQh prog 42=true:=by kernel_rfl
  simp[binV,zV9,this]
 rw[show plI []=[] from rfl] at hb ⊢;refine iI func38 ?_;simp only[go_sem,zE,zA,zM,zL,reduceCtorEq,hb,xGg];exact yQv rfl (yQ0 ⟨⟨_,rfl,.inr rfl⟩,rfl⟩)
theorem wZ9 {s e:ISt}(h:disj s e):join s e=join e s:=by
 funext b;cases he:e b with
 | none =>
  rw[yZ4 he];cases hs:s b with
  | none=>rw[yZ4 hs,he]
  | some o=>rw[yZ1 hs]
 | some o=>rw[yZ1 he,yZ4 (h b (by rw[he];simp)),he]
theorem xWa:∀p:List Nat,ages (plI p)=plI p
 | []=>by simp only[plI,List.map_nil,ages]
 | i::p=>by
  have:=xWa p;simp only[plI,List.map_cons,ages,age] at this ⊢;rw[this]
theorem xKw:∀p:List Nat,(plI p).flatMap IV.cells=plI p
 | []=>rfl
 | i::p=>by
  have:=xKw p;simp only[plI,List.map_cons,List.flatMap_cons,IV.cells,List.singleton_append] at this ⊢;rw[this]
theorem wUt (p:List Nat)(a:IV)(e s:ISt)(hp:PlV p a e)(hl:p.length<=1099511627776)(hd:disj s e):ICall prog gl 38 [a] (join s e) (λr st'=>(∃t',r=.sl t' (plI p)/\okEs t' 1)/\st'=s):=by
 have key:ICall prog gl 38 [a] e (λr st'=>(∃t',r=.sl t' (plI p)/\okEs t' 1)/\st'=emp):=by
  rcases hp with⟨t,rfl,ht,rfl,rfl⟩|⟨g,cap,cs,rfl,rfl,h1,h2,h3⟩
  ·exact wJ5 gl t ht emp
  ·have hnb:zVe (emp.put g (some (.box cs)))=emp:=by
    funext b;by_cases hb:b=g
    ·rw[hb,xQ1 (ISt.put_same ..)];rfl
    ·have:(emp.put g (some (.box cs))) b=none:=by rw[ISt.put_apply,if_neg hb];rfl
     rw[xYj (λcs' h=>by rw[this] at h;cases h),this];rfl
   refine ICall.freeze (args':=[.sl ⟨false,.app g,1⟩ (plI p)]) ⟨_,_,rfl,.inr ⟨.sl ⟨true,.app g,1⟩ (plI p),?_,?_⟩,rfl⟩ ?_
   ·rw[<- yKj p];refine .sl g cap ⟨true,.app g,1⟩ (plI p) cs rfl (by rw[yKj];omega) (by rw[yKj];exact h1) (λx hx=>?_) (ISt.put_same ..) (by simpa using h2) λi r c hr hc=>?_
    ·obtain⟨i,_,rfl⟩:=List.mem_map.1 hx;rfl
    ·rw[xKw p] at hc;have hi:i<p.length:=by
      have:=(lGs hc).1
      rwa [yKj] at this
     have:(cs.take p.length)[i]?=cs[i]?:=by rw[List.getElem?_take,if_pos hi]
     rw[h3,hc,hr] at this;cases this;exact .refl _
   ·simp only[age,xWa]
   ·rw[hnb];by_cases hpn:p=[]
    ·subst hpn;exact xGq gl g emp
    ·exact wJ6 gl g p hpn hl emp
 have h1:=key.frame (own:=s) (λb hb=>by
  cases he:e b with
  | none=>rfl
  | some o=>exact absurd (hd b (by rw[he];simp)) hb)
 rw[wZ9 hd];refine h1.mono ?_;rintro r st' ⟨stu,_,rfl,hr,rfl⟩;refine⟨hr,?_⟩;funext b;cases hs:s b with
 | none=>rw[yZ4 hs];rfl
 | some o=>rw[yZ1 hs]
def xQ0:Tr->Prop
 | .mk _ s m u _ sub=>yVz s/\m.size<=1000000/\u.size<=1000000/\∀a∈sub,yVz a.sq
def wZx (t:Tr):Prop:=(∀q∈t.walk [],xQ0 q.2)/\t.height<=1099511627776
theorem wVg (G:Gl gl)(T:Gt gl)(ca:Nat)(t:Tr)(x:IV)(hx:IsTr t x)(hn:xQ0 t)(st:ISt):ICall prog gl 37 [.raw (.int .u8 ca),.cptr x] st (λr st'=>r=.raw (.int .i64 (yZf ca t))/\st'=st):=by
 obtain⟨rule,s,m,u,n,sub⟩:=t;exact wUe gl G T ca rule s m u n sub x hx hn.1 hn.2.1 hn.2.2.1 hn.2.2.2 st
theorem yKc {t:Tr}{x:IV}(h:IsTr t x):∃(rule:Nat) (tl:Tag) (xl:List IV) (tr:Tag) (xr:List IV) (op:Int) (fn:ByteArray) (ta:Tag) (xa:List IV) (tb:Tag) (xb:List IV) (v:Bool) (un:ByteArray) (tu:Tag) (xu:List IV) (n:ByteArray) (ts:Tag) (xs:List IV),
  x=.agg [.raw (.int .u8 rule),.sl tl xl,.sl tr xr,.raw (.int .u8 op),.raw (.string fn),.sl ta xa,.sl tb xb,.raw (.bool v),.raw (.string un),.sl tu xu,.raw (.string n),.sl ts xs]:=by
 obtain⟨r',s',m',t',n',b'⟩:=t;obtain⟨tl',xl',tr',xr',op',fn',ta',xa',tb',xb',v',un',tu',xu',ts',xs',rfl,_⟩:=h.mk;exact⟨_,_,_,_,_,_,_,_,_,_,_,_,_,_,_,_,_,_,rfl⟩
mutual
theorem zY2:∀(p:List Nat)(t:Tr),(t.walk p).length=t.steps
 | p,.mk _ _ _ _ _ sub=>by simp only[Tr.walk,Tr.steps,List.length_cons,zXt p 0 sub];omega
theorem zXt:∀(p:List Nat)(i:Nat)(l:List Tr),(yZ0 p i l).length=yQl l
 | _,_,[]=>rfl
 | p,i,a::l=>by simp only[yZ0,yQl,lLa,zY2 (p++[i]) a,zXt p (i+1) l]
end
mutual
theorem zGp:∀(q:List Nat)(t:Tr)(x:List Nat×Tr),x∈t.walk q->x.1.length+1<=q.length+t.height
 | q,.mk _ _ _ _ _ sub,x,h=>by
  simp only[Tr.walk,List.mem_cons] at h;simp only[Tr.height];rcases h with rfl|h
  ·simp only;omega
  ·have:=zZn q 0 sub x h;omega
theorem zZn:∀(q:List Nat)(i:Nat)(l:List Tr)(x:List Nat×Tr),x∈yZ0 q i l->x.1.length<=q.length+yQx l
 | _,_,[],x,h=>by simp[yZ0] at h
 | q,i,a::l,x,h=>by
  simp only[yZ0,List.mem_append] at h;simp only[yQx];rcases h with h|h
  ·have:=zGp (q++[i]) a x h;rw[lLa] at this;simp only[List.length_singleton] at this;omega
  ·have:=zZn q (i+1) l x h;omega
end
def CkI (st:ISt)(b2 b4 b5 b6 ca c:Nat)(s:ISt):Prop:=s b2=some (.box [.raw (.int .u8 ca)])/\s b4=some (.box [.sl ⟨true,.nil,0⟩ []])/\s b5=some (.box [.raw (.int .i64 0)])/\s b6=some (.box [.raw (.int .i64 c)])/\subSt st s
def CkS (st:ISt)(b4 b5:Nat)(q:List Nat×Nat)(e:Exit)(s:ISt):Prop:=e=.ret/\(∃tg,s b4=some (.box [.sl tg (plI q.1)])/\okEs tg 1)/\s b5=some (.box [.raw (.int .i64 q.2)])/\subSt st s
theorem zV3 (G:Gl gl)(T:Gt gl)(ca:Nat)(t:Tr)(x:IV)(hx:IsTr t x)(hfit:wZx t)(st:ISt):ICall prog gl 10 [.raw (.int .u8 ca),x] st (λr st'=>(∃tg,r=.tup [.sl tg (plI (yXk ca t).1),.raw (.int .i64 (yXk ca t).2)]/\okEs tg 1)/\st'=st):=by
 have hst:=λst=>wYk gl x st t hx;have hit:=λI=>wJf gl t x hx hfit.2 I;have hkn:=λst=>xJ0 gl ca st;obtain⟨rule,tl,xl,tr,xr,op,fn,ta,xa,tb,xb,v,un,tu,xu,n,ts,xs,rfl⟩:=yKc hx;refine ICall.intro (c:=cf prog gl [2,4,5,6] [] [3]) func10 rfl (by show _<=31;simp) (by kernel_rfl) ?_;simp only[go_sem,zE,zA,IV.one];intro b2;refine yQc λhb2=>?_;intro b4;refine yQc λhb4=>?_;intro b5;refine yQc λhb5=>?_;have h24:b2≠b4:=by rintro rfl;rw[ISt.put_same] at hb4;cases hb4
 have h45:b4≠b5:=by rintro rfl;rw[ISt.put_same] at hb5;cases hb5
 have h25:b2≠b5:=by rintro rfl;rw[ISt.put_apply,if_neg h24,ISt.put_same] at hb5;cases hb5
 rw[ISt.put_apply,if_neg h24.symm] at hb4;rw[ISt.put_apply,if_neg h45.symm,ISt.put_apply,if_neg h25.symm] at hb5;obtain⟨s1,hs1,f2,f4,f5,hsub⟩:∃s1,s1=((st.put b2 (some (.box [.raw (.int .u8 ca)]))).put b4 (some (.box [.sl ⟨true,.nil,0⟩ []]))).put b5 (some (.box [.raw (.int .i64 0)]))/\s1 b2=some (.box [.raw (.int .u8 ca)])/\s1 b4=some (.box [.sl ⟨true,.nil,0⟩ []])/\s1 b5=some (.box [.raw (.int .i64 0)])/\subSt st s1 :=
  ⟨_,rfl,by simp only[ISt.put_apply,if_neg h24,if_neg h25,if_true],by simp only[ISt.put_apply,if_neg h45,if_true],by simp only[ISt.put_apply,if_true],yZa (yZa (yZa (subSt.refl st) hb2) hb4) hb5⟩
 rw[<- hs1];simp only[go_sem,f2];refine (hkn _).mono ?_;rintro _ s1' ⟨rfl,rfl⟩;have g5:∀(s:ISt) o,(s.put b4 o) b5=s b5:=λs o=>by rw[ISt.put_apply,if_neg h45.symm]
 have g4:∀(s:ISt) o o',((s.put b4 o).put b5 o') b4=o:=λs o o'=>by rw[ISt.put_apply,if_neg h45,ISt.put_same]
 have hsub':∀(s:ISt) o o',subSt st s->subSt st ((s.put b4 o).put b5 o'):=λs o o' h=>yZa (yZa h hb4) hb5;cases hk:yXo ca
 ·have hq:yXk ca t=([],2):=by unfold yXk;rw[hk];rfl
  simp only[go_sem,zE,zL,f4,f5,g5,g4,ISt.put_same];exact yQa (hsub' _ _ _ hsub) ⟨⟨_,by rw[hq];rfl,.inl rfl⟩,rfl⟩
 ·simp only[go_sem,zE,zA,zL];intro b6;refine yQc λhb6=>?_;rw[yQd];refine (hst _).mono ?_;rintro _ _ ⟨rfl,rfl⟩;have h26:b2≠b6:=by rintro rfl;rw[f2] at hb6;cases hb6
  have h46:b4≠b6:=by rintro rfl;rw[f4] at hb6;cases hb6
  have h56:b5≠b6:=by rintro rfl;rw[f5] at hb6;cases hb6
  have hb6':st b6=none:=by
   cases hq:st b6 with
   | none=>rfl
   | some o=>rw[hsub b6 o hq] at hb6;cases hb6
  have hI0:CkI st b2 b4 b5 b6 ca 0 (s1'.put b6 (some (.box [.raw (.int .i64 0)]))):=⟨by rw[ISt.put_apply,if_neg h26];exact f2,by rw[ISt.put_apply,if_neg h46];exact f4,by rw[ISt.put_apply,if_neg h56];exact f5,ISt.put_same ..,yZa hsub hb6'⟩
  generalize s1'.put b6 (some (.box [.raw (.int .i64 0)]))=s2 at hI0 ⊢;simp only[go_sem,reduceCtorEq];refine RangeL.intro (lkT (t.walk [])) (t.walk []).length (λk s=>CkI st b2 b4 b5 b6 ca k s/\k<=300) (λe s=>CkS st b4 b5 ([],5) e s/\300<t.steps) rfl ?_ ?_ ?_ (hit _) ?_ ?_
  ·rintro k a e ⟨p,u,a,y,_,_,_,rfl⟩;rfl
  ·exact⟨hI0,by omega⟩
  ·rintro k _ e s ⟨p,z,a,y,hkz,hz,hp,rfl⟩ hd ⟨⟨c2,c4,c5,c6,hss⟩,hk3⟩;have hd':disj s e:=hd;have r6:=yJv hd' _ _ c6;have r4:=yJv hd' _ _ c4;have r5:=yJv hd' _ _ c5;have e6:e b6=none:=ISt.disj.off hd c6;have hw:IntKind.i64.wrap ((k:Int)+1)=((k+1:Nat):Int):=by rw[w64]<;>omega
   have q4:∀o,((join s e).put b6 o) b4=some (.box [.sl ⟨true,.nil,0⟩ []]):=λo=>by rw[yZe h46];exact r4
   have q5:∀o o',(((join s e).put b6 o).put b4 o') b5=some (.box [.raw (.int .i64 0)]):=λo o'=>by rw[yZe h45.symm,yZe h56];exact r5
   by_cases hbig:300<k+1
   ·have hb:decide ((300:Int)<((k+1:Nat):Int))=true:=dEt (by omega);simp only[go_sem,zE,zL,r6,hw,ISt.put_same,hb,q4,q5];refine⟨⟨rfl,⟨⟨true,.nil,0⟩,?_,.inl rfl⟩,ISt.put_same ..,yZa (yZa (yZa (hss.trans (yJv hd')) hb6') hb4) hb5⟩,?_⟩
    ·rw[yZe h45,ISt.put_same];rfl
    ·have:=(lGs hkz).1;rw[zY2] at this;omega
   ·have hb:decide ((300:Int)<((k+1:Nat):Int))=false:=dEf (by omega);simp only[go_sem,zE,zL,r6,hw,ISt.put_same,hb];refine⟨s.put b6 (some (.box [.raw (.int .i64 ((k+1:Nat):Int))])),⟨⟨by rw[yZe h26];exact c2,by rw[yZe h46];exact c4,by rw[yZe h56];exact c5,ISt.put_same ..,yZa hss hb6'⟩,by omega⟩,ISt.disj.put hd e6,ISt.put_add e6⟩
  ·rintro s r ⟨⟨c2,c4,c5,c6,hss⟩,hk3⟩;rw[zY2] at hk3;have hq:yXk ca t=yQy (yZf ca) (t.walk []):=by
    unfold yXk;rw[hk];simp only[Bool.not_true,bFt,if_false];rw[if_neg (by omega)]
   simp only[go_sem,zE,zA];refine (hst _).mono ?_;rintro _ _ ⟨rfl,rfl⟩;simp only[go_sem,reduceCtorEq];refine RangeL.intro (lkT (t.walk [])) (t.walk []).length (λk s=>(s b2=some (.box [.raw (.int .u8 ca)])/\s b4=some (.box [.sl ⟨true,.nil,0⟩ []])/\s b5=some (.box [.raw (.int .i64 0)])/\subSt st s)/\yQy (yZf ca) ((t.walk []).take k)=([],0)) (λe s=>CkS st b4 b5 (yXk ca t) e s) rfl ?_ ?_ ?_ (hit _) ?_ ?_
   ·rintro k a e ⟨p,u,a,y,_,_,_,rfl⟩;rfl
   ·exact⟨⟨c2,c4,c5,hss⟩,by simp[yQy]⟩
   ·rintro k _ e s ⟨p,z,a,y,hkz,hz,hp,rfl⟩ hd ⟨⟨c2,c4,c5,hss⟩,hf⟩;have hd':disj s e:=hd;have r2:=yJv hd' _ _ c2;have hpl:=zGp [] t _ (lMg hkz);have hfd:=hfit.2;simp only[List.length_nil] at hpl;have hck:=λst=>wVg gl G T ca z y hz (hfit.1 _ (lMg hkz)) st;have hcl:=wUt gl p a e s hp (by omega) hd';have hiv:ivOf (.iv a)=some a:=by rcases hp with⟨t,rfl,_⟩|⟨g,cap,cs,rfl,_⟩<;>rfl
    obtain⟨rule',tl',xl',tr',xr',op',fn',ta',xa',tb',xb',v',un',tu',xu',n',ts',xs',rfl⟩:=yKc hz;simp only[go_sem,zE,zA,r2,hiv];refine (hck _).mono ?_;rintro _ _ ⟨rfl,rfl⟩;by_cases h0:yZf ca z=0
    ·have d0:decide (((yZf ca z:Nat):Int)=0)=true:=dEt (by omega);simp only[go_sem,d0];refine⟨s,⟨⟨c2,c4,c5,hss⟩,?_⟩,hd,rfl⟩;rw[yQ5 hkz,yXu,hf];simp[yQy,h0]
    ·have d0:decide (((yZf ca z:Nat):Int)=0)=false:=dEf (by omega);have hv:yXk ca t=(p,yZf ca z):=by
      rw[hq]
      conv=>lhs;rw[<- List.take_append_drop k (t.walk [])]
      rw[List.drop_eq_getElem_cons (lGs hkz).1,(lGs hkz).2,yXu,hf];simp[yQy,h0]
     simp only[go_sem,zE,zA,d0,hiv];refine hcl.mono ?_;rintro _ _ ⟨⟨t',rfl,ht'⟩,rfl⟩;simp only[go_sem,zE,zL,c4,c5,g5];refine⟨rfl,⟨t',?_,ht'⟩,?_,hsub' _ _ _ hss⟩
     ·rw[g4,hv]
     ·rw[ISt.put_same,hv]
   ·rintro s r ⟨⟨c2,c4,c5,hss⟩,hf⟩;rw[lTl,<- hq] at hf;simp only[go_sem,zE,zL,c4,c5,g5,g4,ISt.put_same];exact yQa (hsub' _ _ _ hss) ⟨⟨_,by rw[hf];rfl,.inl rfl⟩,rfl⟩
   ·rintro e s r ⟨rfl,⟨tg,c4,ht⟩,c5,hss⟩;simp only[go_sem,zE,c4,c5];exact yQa hss ⟨⟨_,rfl,ht⟩,rfl⟩
  ·rintro e s r ⟨⟨rfl,⟨tg,c4,ht⟩,c5,hss⟩,hb⟩;have hq:yXk ca t=([],5):=by unfold yXk;rw[hk,if_pos hb];rfl
   simp only[go_sem,zE,c4,c5];exact yQa hss ⟨⟨_,by rw[hq],ht⟩,rfl⟩
theorem xXj {p:List Nat}{k a:Nat}(h:p[k]?=some a):(plI p)[k]?=some (.raw (.int .i64 (a:Int))):=by simp[plI,List.getElem?_map,h]
theorem zW4 (p q:List Nat):plI (p++q)=plI p++plI q:=by simp[plI]
def sumN:List Nat->Nat
 | []=>0
 | a::l=>a+sumN l
theorem yU9:∀l m:List Nat,sumN (l++m)=sumN l+sumN m
 | [],m=>by simp[sumN]
 | a::l,m=>by simp only[List.cons_append,sumN,yU9 l m];omega
theorem xUa (l:List Nat)(k:Nat):sumN (l.take k)<=sumN l:=by
 conv=>rhs;rw[<- List.take_append_drop k l]
 rw[yU9];omega
def maxN:List Nat->Nat
 | []=>0
 | a::l=>max a (maxN l)
theorem yUf:∀l m:List Nat,maxN (l++m)=max (maxN l) (maxN m)
 | [],m=>by simp[maxN]
 | a::l,m=>by simp only[List.cons_append,maxN,yUf l m];omega
theorem vZg (tg:Tag)(l:List Nat)(htg:okEs tg 1)(hs:sumN l<=4611686018427387904)(st:ISt):ICall prog gl 42 [.sl tg (plI l)] st (λr st'=>r=.raw (.int .i64 (sumN l))/\st'=st):=by
 refine iI func42 ?_;simp only[go_sem,reduceCtorEq,yKj];intro _;refine LoopC.ctr l.length (λk fr st' ds=>fr 3=.iv (.raw (.int .i64 (sumN (l.take k))))/\fr 6=.iv (.sl tg (plI l))/\fr 7=.iv (.raw (.int .i64 l.length))/\fr 8=.iv (.raw (.int .i64 k))/\st'=st/\ds=[]) ?_ ?_ ?_
 ·simp only[go_sem,zE];simp[sumN]
 ·rintro k fr st1 _ hlt ⟨f3,f6,f7,f8,rfl,rfl⟩;obtain⟨a,ha⟩:=yQ3 hlt;have h1:=xUa l (k+1);have h2:sumN (l.take (k+1))=sumN (l.take k)+a:=by rw[yQ5 ha,yU9];rfl
  have h3:IntKind.i64.wrap (((sumN (l.take k):Nat):Int)+(a:Int))=((sumN (l.take (k+1)):Nat):Int):=by rw[w64]<;>omega
  simp only[go_sem,zE,f3,f6,f7,f8,lt_i hlt,yQ1 htg,iNn,xXj ha,fits,h3,yQ9 hlt (show l.length<=281474976710656 by omega)]
 ·rintro fr st1 _ ⟨f3,f6,f7,f8,rfl,rfl⟩;rw[lTl] at f3;simp only[go_sem,zE,f3,f7,f8,yQj (nLi _)];exact yQ0 ⟨rfl,rfl⟩
theorem uZa (a b:Nat):max (a:Int) (b:Int)=((max a b:Nat):Int):=by omega
theorem uVc (tg:Tag)(l:List Nat)(htg:okEs tg 1)(hl:0<l.length)(st:ISt):ICall prog gl 44 [.sl tg (plI l)] st (λr st'=>r=.raw (.int .i64 (maxN l))/\st'=st):=by
 obtain⟨a0,ha0⟩:=yQ3 hl;have d1:decide (((l.length:Nat):Int)<1)=false:=dEf (by omega);have t1:l.take 1=[a0]:=by
  have:=yQ5 ha0;simpa using this
 refine iI func44 ?_;simp only[go_sem,reduceCtorEq,yKj];intro hlen;simp only[go_sem,reduceCtorEq,d1,yQ1 htg,Int.le_refl,Int.toNat_zero,xXj ha0,fits];refine LoopC.ctr (l.length-1) (λk fr st' ds=>fr 3=.iv (.raw (.int .i64 (maxN (l.take (k+1)))))/\fr 0=.iv (.sl tg (plI l))/\fr 4=.iv (.raw (.int .i64 ((k+1:Nat):Int)))/\st'=st/\ds=[]) ?_ ?_ ?_
 ·simp only[go_sem,zE,reduceCtorEq,t1];simp[maxN]
 ·rintro k fr st1 _ hlt ⟨f3,f0,f4,rfl,rfl⟩;obtain⟨a,ha⟩:=yQ3 (l:=l) (k:=k+1) (by omega);have h2:maxN (l.take (k+1+1))=max (maxN (l.take (k+1))) a:=by rw[yQ5 ha,yUf];simp[maxN]
  simp only[go_sem,zE,reduceCtorEq,f3,f0,f4,yKj,lt_i (show k+1<l.length by omega),yQ1 htg,iNn,xXj ha,fits,uZa,yQ9 (show k+1<l.length by omega) (show l.length<=281474976710656 by omega)];intro _;rw[h2]
 ·rintro fr st1 _ ⟨f3,f0,f4,rfl,rfl⟩;rw[show l.length-1+1=l.length by omega] at f3 f4;rw[lTl] at f3;simp only[go_sem,zE,reduceCtorEq,f3,f0,f4,yKj,yQj (nLi _)];intro _;exact yQ0 ⟨rfl,rfl⟩
def subsT:Tr->List Tr
 | .mk _ _ _ _ _ sub=>sub
def zWy (g:Nat)(v:Tr->Nat):Prop:=∀(t:Tr) (l:List Nat) (x:IV) (tg:Tag) (st0 st:ISt),IsTr t x->t.steps<=1099511627776->l=(subsT t).map v->own st tg l.length 1 st0->subSt st0 st →
 ICall prog gl g [x,.sl tg (plI l)] st (λr st'=>r=.raw (.int .i64 (v t))/\subSt st0 st')
theorem zU3:∀ {l:List Tr}{t:Tr},t∈l->t.steps<=yQl l
 | a::l,t,h=>by
  simp only[yQl];rcases List.mem_cons.1 h with rfl|h
  ·omega
  ·have:=zU3 h;omega
theorem yZw:∀l:List Tr,l.length<=yQl l
 | []=>Nat.le_refl _
 | .mk _ _ _ _ _ s::l=>by
  have:=yZw l;simp only[List.length_cons,yQl,Tr.steps];omega
def wVu (v:Tr->Nat)(g:Nat)(t:Tr):Prop:=∀(x:IV) (_:IsTr t x) (_:t.steps<=1099511627776) (st:ISt),ICall prog gl 40 [x,.fn (.func g) [] []] st (λr st'=>r=.raw (.int .i64 (v t))/\st'=st)
theorem wZp (v:Tr->Nat)(g:Nat)(hent:entI prog g=true)(hg:zWy gl g v)(rule:Nat)(sq:Sq)(f:Fm)(u:Tm)(n:ByteArray)(sub:List Tr)(IH:∀a∈sub,wVu gl v g a):wVu gl v g (.mk rule sq f u n sub):=by
 intro x hx hs st;have hx0:=hx;obtain⟨tl,xl,tr,xr,op,fn,ta,xa,tb,xb,vb,un,tu,xu,ts,xs,rfl,hru,_,_,_,_,_,_,e3,i3⟩:=hx.mk;have hs0:=hs;simp only[Tr.steps] at hs;have hll:=yZw sub;refine iI func40 ?_;simp only[go_sem,zE,i3.len];intro _;refine LoopC.ctr sub.length (λk fr st' ds=>(∃tg',fr 5=.iv (.sl tg' (plI ((sub.take k).map v)))/\own st' tg' k 1 st/\subSt st st')/\fr 1=.iv (.fn (.func g) [] [])/\fr 2=.box [.raw (.int .u8 rule),.sl tl xl,.sl tr xr,.raw (.int .u8 op),.raw (.string fn),.sl ta xa,.sl tb xb,.raw (.bool vb),.raw (.string un),.sl tu xu,.raw (.string n),.sl ts xs] /\
  fr 9=.iv (.sl ts xs)/\fr 10=.iv (.raw (.int .i64 sub.length))/\fr 11=.iv (.raw (.int .i64 k))/\ds=[]) ?_ ?_ ?_
 ·simp only[go_sem,zE];exact⟨⟨_,rfl,.inl ⟨rfl,rfl⟩,subSt.refl _⟩,rfl⟩
 ·rintro k fr st1 _ hlt ⟨⟨tg',f5,hown,hsub⟩,f1,f2,f9,f10,f11,rfl⟩;obtain⟨a,ha⟩:=yQ3 hlt;obtain⟨z,hkz,hz⟩:=i3.get ha;have hst:=zU3 (lMg ha);have hcall:=IH a (lMg ha) z hz (by omega) st1;obtain⟨rule',tl',xl',tr',xr',op',fn',ta',xa',tb',xb',v',un',tu',xu',n',ts',xs',rfl⟩:=yKc hz;simp only[go_sem,zE,zB,zA,zL,f1,f5,f9,f10,f11,lt_i hlt,yQ1 e3,iNn,hkz,fits];refine hcall.mono ?_;rintro _ _ ⟨rfl,rfl⟩;simp only[go_sem,zE,zA,zM,zL,fits,zK0];refine yZz hown (by rw[yKj,List.length_map,List.length_take];omega) hsub rfl (by simp[fits,IV.one]) (by simp only;omega) (by omega) λtg2 st4 hown2 hsub4 _ _=>?_;simp only[go_sem,zE,f1,f2,f9,f10,f11,yQ9 hlt (show sub.length<=281474976710656 by omega)];exact⟨tg2,by rw[yQ5 ha,List.map_append,zW4];rfl,hown2,hsub4⟩
 ·rintro fr st1 _ ⟨⟨tg',f5,hown,hsub⟩,f1,f2,f9,f10,f11,rfl⟩;rw[lTl] at f5;have hcall:=hg _ (sub.map v) _ tg' st st1 hx0 hs0 rfl (by rw[List.length_map];exact hown) hsub;simp only[go_sem,zE,zA,zL,f1,f2,f5,f10,f11,yQj (nLi _),hent];refine hcall.mono ?_;rintro _ st2 ⟨rfl,hsub2⟩;simp only[go_sem];exact yQa hsub2 ⟨rfl,rfl⟩
theorem xVt (v:Tr->Nat)(g:Nat)(hent:entI prog g=true)(hg:zWy gl g v):∀(k:Nat) (t:Tr),SizeOf.sizeOf t<k->wVu gl v g t
 | 0,t,h=>by omega
 | k+1,.mk r sq f u n sub,h=>wZp gl v g hent hg r sq f u n sub (λa ha=>xVt v g hent hg k a (by
   have:=lSm ha;simp at h;omega))
theorem wZq (v:Tr->Nat)(g:Nat)(hent:entI prog g=true)(hg:zWy gl g v)(t:Tr):wVu gl v g t:=xVt gl v g hent hg _ t (Nat.lt_succ_self _)
theorem zJ1:∀l:List Tr,sumN (l.map Tr.steps)=yQl l
 | []=>rfl
 | a::l=>by simp only[List.map_cons,sumN,yQl,zJ1 l]
theorem zY8:∀l:List Tr,sumN (l.map Tr.cuts)=yZi l
 | []=>rfl
 | a::l=>by simp only[List.map_cons,sumN,yZi,zY8 l]
theorem zJq:∀l:List Tr,maxN (l.map Tr.height)=yQx l
 | []=>rfl
 | a::l=>by simp only[List.map_cons,maxN,yQx,zJq l]
mutual
theorem wX9:∀t:Tr,t.cuts<=t.steps
 | .mk _ _ _ _ _ sub=>by
  have:=zZf sub;simp only[Tr.cuts,Tr.steps];split<;>omega
theorem zZf:∀l:List Tr,yZi l<=yQl l
 | []=>Nat.le_refl _
 | a::l=>by
  have:=wX9 a;have:=zZf l;simp only[yZi,yQl];omega
end
mutual
theorem xQk:∀t:Tr,t.height<=t.steps
 | .mk _ _ _ _ _ sub=>by
  have:=yG2 sub;simp only[Tr.height,Tr.steps];omega
theorem yG2:∀l:List Tr,yQx l<=yQl l
 | []=>Nat.le_refl _
 | a::l=>by
  have:=xQk a;have:=yG2 l;simp only[yQx,yQl];omega
end
theorem wZr:zWy gl 41 Tr.steps:=by
 rintro⟨rule,s,m,u,n,sub⟩ l x tg st0 st hx hs rfl hown hsub;simp only[subsT] at hown ⊢;simp only[Tr.steps] at hs;have hsum:=λst=>vZg gl tg (sub.map Tr.steps) hown.es (by rw[zJ1];omega) st;have hw:IntKind.i64.wrap (1+((yQl sub:Nat):Int))=((1+yQl sub:Nat):Int):=by rw[w64]<;>omega
 rw[zJ1] at hsum;obtain⟨rule',tl',xl',tr',xr',op',fn',ta',xa',tb',xb',v',un',tu',xu',n',ts',xs',rfl⟩:=yKc hx;refine iI func41 ?_;simp only[go_sem,zE,zA];refine (hsum _).mono ?_;rintro _ _ ⟨rfl,rfl⟩;simp only[go_sem,hw];exact yQ0 ⟨by simp only[Tr.steps],hsub⟩
theorem wKu:zWy gl 45 Tr.cuts:=by
 rintro⟨rule,s,m,u,n,sub⟩ l x tg st0 st hx hs rfl hown hsub;simp only[subsT] at hown ⊢;simp only[Tr.steps] at hs;have hcs:=zZf sub;have hsum:=λst=>vZg gl tg (sub.map Tr.cuts) hown.es (by rw[zY8];omega) st;have hw:IntKind.i64.wrap (1+((yZi sub:Nat):Int))=((1+yZi sub:Nat):Int):=by rw[w64]<;>omega
 rw[zY8] at hsum;obtain⟨tl',xl',tr',xr',op',fn',ta',xa',tb',xb',v',un',tu',xu',ts',xs',rfl,_⟩:=hx.mk;refine iI func45 ?_;by_cases h:rule=17
 ·have d:decide ((rule:Int)=17)=true:=dEt (by omega);simp only[go_sem,zE,zA,d];refine (hsum _).mono ?_;rintro _ _ ⟨rfl,rfl⟩;simp only[go_sem,hw];exact yQ0 ⟨by simp only[Tr.cuts,if_pos h],hsub⟩
 ·have d:decide ((rule:Int)=17)=false:=dEf (by omega);simp only[go_sem,zE,zA,d];refine (hsum _).mono ?_;rintro _ _ ⟨rfl,rfl⟩;simp only[go_sem];exact yQ0 ⟨by simp only[Tr.cuts,if_neg h,Nat.zero_add],hsub⟩
theorem xG5:zWy gl 43 Tr.height:=by
 rintro⟨rule,s,m,u,n,sub⟩ l x tg st0 st hx hs rfl hown hsub;simp only[subsT] at hown ⊢;simp only[Tr.steps] at hs;have hcs:=yG2 sub;have hll:=yZw sub;have hw:IntKind.i64.wrap (1+((yQx sub:Nat):Int))=((1+yQx sub:Nat):Int):=by rw[w64]<;>omega
 have hm:maxN (sub.map Tr.height++[0])=yQx sub:=by rw[yUf,zJq];simp[maxN]
 obtain⟨rule',tl',xl',tr',xr',op',fn',ta',xa',tb',xb',v',un',tu',xu',n',ts',xs',rfl⟩:=yKc hx;refine iI func43 ?_;simp only[go_sem,zE,zA,zM,zL,fits,yQ2];refine yZz hown (by rw[yKj]) hsub rfl (by simp[fits,IV.one]) (by simp only[List.length_map];omega) (by simp only[List.length_map];omega) λtg2 st4 hown2 hsub4 _ _=>?_;have hmax:=λst=>uVc gl tg2 (sub.map Tr.height++[0]) hown2.es (by simp) st;rw[hm,zW4] at hmax;simp only[go_sem,zA];refine (hmax _).mono ?_;rintro _ _ ⟨rfl,rfl⟩;simp only[go_sem,hw];exact yQ0 ⟨by simp only[Tr.height],hsub4⟩
theorem wXy (t:Tr)(x:IV)(hx:IsTr t x)(hs:t.steps<=1099511627776)(st:ISt):ICall prog gl 13 [x] st (λr st'=>r=.raw (.int .i64 (t.steps))/\st'=st):=by
 have hf:=λst=>wZq gl Tr.steps 41 (by simp only[go_sem]) (wZr gl) t x hx hs st;obtain⟨rule',tl',xl',tr',xr',op',fn',ta',xa',tb',xb',v',un',tu',xu',n',ts',xs',rfl⟩:=yKc hx;refine iI func13 ?_;simp only[go_sem,zE,zA,zL];refine (hf _).mono ?_;rintro _ _ ⟨rfl,rfl⟩;simp only[go_sem];exact yQ0 ⟨rfl,rfl⟩
theorem xWh (t:Tr)(x:IV)(hx:IsTr t x)(hs:t.steps<=1099511627776)(st:ISt):ICall prog gl 15 [x] st (λr st'=>r=.raw (.int .i64 (t.height))/\st'=st):=by
 have hf:=λst=>wZq gl Tr.height 43 (by simp only[go_sem]) (xG5 gl) t x hx hs st;obtain⟨rule',tl',xl',tr',xr',op',fn',ta',xa',tb',xb',v',un',tu',xu',n',ts',xs',rfl⟩:=yKc hx;refine iI func15 ?_;simp only[go_sem,zE,zA,zL];refine (hf _).mono ?_;rintro _ _ ⟨rfl,rfl⟩;simp only[go_sem];exact yQ0 ⟨rfl,rfl⟩
theorem wY3 (t:Tr)(x:IV)(hx:IsTr t x)(hs:t.steps<=1099511627776)(st:ISt):ICall prog gl 17 [x] st (λr st'=>r=.raw (.int .i64 (t.cuts))/\st'=st):=by
 have hf:=λst=>wZq gl Tr.cuts 45 (by simp only[go_sem]) (wKu gl) t x hx hs st;obtain⟨rule',tl',xl',tr',xr',op',fn',ta',xa',tb',xb',v',un',tu',xu',n',ts',xs',rfl⟩:=yKc hx;refine iI func17 ?_;simp only[go_sem,zE,zA,zL];refine (hf _).mono ?_;rintro _ _ ⟨rfl,rfl⟩;simp only[go_sem];exact yQ0 ⟨rfl,rfl⟩
mutual
def wTr:Tr->Nat
 | .mk _ s f u n sub=>wFms s.l+wFms s.r+wFm f+wTm u+n.size+wTrs sub
def wTrs:List Tr->Nat
 | []=>0
 | a::l=>wTr a+wTrs l
end
def xXq (s:Sq)(f:Fm)(u:Tm)(n:ByteArray):Bool:=decide (wFms s.l+wFms s.r<=300)&&!decide (300<wFm f)&&!decide (300<wTm u)&&!decide (100<n.size)
mutual
def okT:Tr->Bool
 | .mk _ s f u n sub=>xXq s f u n&&okTs sub
def okTs:List Tr->Bool
 | []=>true
 | a::l=>okT a&&okTs l
end
theorem yUe:∀l m:List Tr,okTs (l++m)=(okTs l&&okTs m)
 | [],m=>by simp[okTs]
 | a::l,m=>by simp only[List.cons_append,okTs,yUe l m,Bool.and_assoc]
theorem wQf {l:List Tr}{k:Nat}{a:Tr}(h:l[k]?=some a):okTs (l.take (k+1))=(okTs (l.take k)&&okT a):=by
 rw[yQ5 h,yUe];simp[okTs]
theorem wGi (l:List Tr)(k:Nat)(h:okTs l=true):okTs (l.take k)=true:=by
 rw[<- List.take_append_drop k l,yUe,bAt] at h;exact h.1
theorem zJ3 {l:List Tr}{k:Nat}{a:Tr}(h:l[k]?=some a):yQl (l.take (k+1))=yQl (l.take k)+a.steps:=by
 rw[yQ5 h,yVn];simp[yQl]
theorem zU4 (l:List Tr)(k:Nat):yQl (l.take k)<=yQl l:=by
 conv=>rhs;rw[<- List.take_append_drop k l]
 rw[yVn];omega
theorem xK1:∀ {l:List Tr}{t:Tr},t∈l->wTr t<=wTrs l
 | a::l,t,h=>by
  simp only[wTrs];rcases List.mem_cons.1 h with rfl|h
  ·omega
  ·have:=xK1 h;omega
theorem Sum.gt {w:Nat}{r:IV}(h:Sum w 300 r):∃n:Nat,r=.raw (.int .i64 n)/\decide ((300:Int)<(n:Int))=decide (300<w):=by
 obtain⟨n,rfl,h1,h2⟩:=h;refine⟨n,rfl,?_⟩;rw[decide_eq_decide];constructor
 ·intro h;omega
 ·intro h;rcases Int.lt_or_le 300 (n:Int) with hn|hn
  ·exact hn
  ·have:=h2 hn;omega
def Left (t:Tr)(left:Int)(r:Int):Prop:=-1<=r/\r<=left/\(0<=r↔okT t=true/\(t.steps:Int)<=left)/\(0<=r->r=left-t.steps)
def sC (t:Tr):Prop:=∀(x:IV) (_:IsTr t x) (left:Int) (_:0<=left/\left<=1000) (_:wTr t<=1099511627776) (st:ISt),
 ICall prog gl 7 [x,.raw (.int .i64 left)] st (λr st'=>(∃n:Int,r=.raw (.int .i64 n)/\Left t left n)/\st'=st)
theorem xWz (rule:Nat)(s:Sq)(f:Fm)(u:Tm)(n:ByteArray)(sub:List Tr)(IH:∀a∈sub,sC gl a):sC gl (.mk rule s f u n sub):=by
 intro x hx left hl hw st;obtain⟨tl,xl,tr,xr,op,fn,ta,xa,tb,xb,v,un,tu,xu,ts,xs,rfl,hru,e1,i1,e2,i2,hy,hz,e3,i3⟩:=hx.mk;simp only[wTr] at hw;have hfew:=λst=>uVd gl s _ ⟨tl,xl,tr,xr,rfl,e1,i1,e2,i2⟩ ⟨by omega,by omega⟩ st;have hsz:=λst=>xXf gl [f] ⟨true,.full,4⟩ _ (.inr rfl) ⟨_,_,rfl,hy,rfl⟩ 300 ⟨by omega,by omega⟩ (by simp only[wFms];omega) st;have htm:=λst=>xKu gl [u] ⟨true,.full,3⟩ _ (.inr rfl) ⟨_,_,rfl,hz,rfl⟩ 300 ⟨by omega,by omega⟩ (by simp only[wTms];omega) st;have hbad:xXq s f u n=false->Left (.mk rule s f u n sub) left (-1):=λh=>by
  refine⟨by omega,by omega,⟨λh=>by omega,λh'=>?_⟩,λh=>by omega⟩;simp only[okT,h,Bool.false_and,bFt,false_and] at h'
 refine iI func7 ?_;simp only[go_sem,zE,zA,zL];refine (hfew _).mono ?_;rintro _ st ⟨rfl,rfl⟩;unfold xXq at hbad;cases q1:decide (wFms s.l+wFms s.r<=300)
 ·simp only[go_sem,zE];exact yQ0 ⟨⟨-1,rfl,hbad (by rw[q1];rfl)⟩,rfl⟩
 simp only[go_sem,zE,zA,zM,zL,fits,yQ2];refine (hsz _).mono ?_;rintro _ st ⟨hS,rfl⟩;obtain⟨m,rfl,hd⟩:=hS.gt;rw[show wFms [f]=wFm f from by simp[wFms]] at hd;cases q2:decide (300<wFm f)
 case true =>
  rw[q2] at hd;simp only[go_sem,zE,hd];exact yQ0 ⟨⟨-1,rfl,hbad (by rw[q1,q2];rfl)⟩,rfl⟩
 rw[q2] at hd;simp only[go_sem,zE,zA,zM,zL,fits,hd,yQ2];refine (htm _).mono ?_;rintro _ st ⟨hS2,rfl⟩;obtain⟨m2,rfl,hd2⟩:=hS2.gt;rw[show wTms [u]=wTm u from by simp[wTms]] at hd2;cases q3:decide (300<wTm u)
 case true =>
  rw[q3] at hd2;simp only[go_sem,zE,hd2];exact yQ0 ⟨⟨-1,rfl,hbad (by rw[q1,q2,q3];rfl)⟩,rfl⟩
 rw[q3] at hd2;have hdn:decide ((100:Int)<((n.size:Nat):Int))=decide (100<n.size):=by rw[decide_eq_decide];omega
 cases q4:decide (100<n.size)
 case true =>
  rw[q4] at hdn;simp only[go_sem,zE,hd2,hdn];intro _;exact yQ0 ⟨⟨-1,rfl,hbad (by rw[q1,q2,q3,q4];rfl)⟩,rfl⟩
 rw[q4] at hdn;have hnode:xXq s f u n=true:=by unfold xXq;rw[q1,q2,q3,q4];rfl
 have wl:IntKind.i64.wrap (left-1)=left-1:=w64 (by omega) (by omega);simp only[go_sem,zE,hd2,hdn,wl];intro _;refine LoopC.ctr sub.length (λk fr st' ds=>(∃l:Int,fr 1=.iv (.raw (.int .i64 l)) /\ -1<=l/\l<=left-1/\(0<=l↔okTs (sub.take k)=true/\((yQl (sub.take k):Nat):Int)+1<=left)/\(0<=l->l=left-1-(yQl (sub.take k):Nat))) /\
  fr 2=.box [.raw (.int .u8 rule),.sl tl xl,.sl tr xr,.raw (.int .u8 op),.raw (.string fn),.sl ta xa,.sl tb xb,.raw (.bool v),.raw (.string un),.sl tu xu,.raw (.string n),.sl ts xs]/\fr 5=.iv (.raw (.int .i64 k))/\st'=st/\ds=[]) ?_ ?_ ?_
 ·simp only[go_sem,zE];exact⟨⟨left-1,rfl,by omega,by omega,⟨λh=>⟨rfl,by simp only[yQl];omega⟩,λh=>by have:=h.2;simp only[yQl] at this;omega⟩,λ_=>by simp only[yQl];omega⟩,rfl⟩
 ·rintro k fr st1 _ hlt ⟨⟨l,f1,hl1,hl2,hl3,hl4⟩,f2,f5,rfl,rfl⟩;obtain⟨a,ha⟩:=yQ3 hlt;obtain⟨z,hkz,hzz⟩:=i3.get ha;have hoks:=wQf ha;have hst:=zJ3 ha;by_cases hle:(0:Int)<=l
  ·have hcall:=λst=>IH a (lMg ha) z hzz l ⟨hle,by omega⟩ (by have:=xK1 (lMg ha);omega) st;obtain⟨rule',tl',xl',tr',xr',op',fn',ta',xa',tb',xb',v',un',tu',xu',n',ts',xs',rfl⟩:=yKc hzz;simp only[go_sem,zE,zB,zA,f1,f2,f5,i3.len,lt_i hlt,dEt hle,yQ1 e3,iNn,hkz,fits];intro _;refine (hcall _).mono ?_;rintro _ st2 ⟨⟨r,rfl,hr1,hr2,hr3,hr4⟩,rfl⟩;simp only[go_sem,zE,f2,f5,yQ9 hlt (show sub.length<=281474976710656 by omega)];have g3:=hl3.1 hle;have g4:=hl4 hle;refine⟨r,rfl,hr1,by omega,?_,λh=>by have:=hr4 h;rw[hst];omega⟩;rw[hoks,hst,g3.1,Bool.true_and];constructor
   ·intro h;have:=hr3.1 h;exact⟨this.1,by omega⟩
   ·intro h;exact hr3.2 ⟨h.1,by have:=h.2;omega⟩
  ·simp only[go_sem,zE,f1,f2,f5,i3.len,lt_i hlt,dEf hle];intro _;refine yQ0 ⟨⟨l,rfl,hl1,by omega,⟨λh=>absurd h hle,λh=>?_⟩,λh=>absurd h hle⟩,rfl⟩;have h1:=h.1;have h2:=h.2;simp only[okT,hnode,Bool.true_and] at h1;simp only[Tr.steps] at h2;have h3:=zU4 sub k;exact absurd (hl3.2 ⟨wGi sub k h1,by omega⟩) hle
 ·rintro fr st1 _ ⟨⟨l,f1,hl1,hl2,hl3,hl4⟩,f2,f5,rfl,rfl⟩;rw[lTl] at hl3 hl4;simp only[go_sem,zE,f1,f2,f5,i3.len,yQj (nLi _)];intro _;refine yQ0 ⟨⟨l,rfl,hl1,by omega,?_,λh=>by have:=hl4 h;simp only[Tr.steps];omega⟩,rfl⟩;simp only[okT,hnode,Bool.true_and,Tr.steps];constructor
  ·intro h;have:=hl3.1 h;exact⟨this.1,by omega⟩
  ·intro h;exact hl3.2 ⟨h.1,by have:=h.2;omega⟩
theorem zUb:∀(k:Nat)(t:Tr),SizeOf.sizeOf t<k->sC gl t
 | 0,t,h=>by omega
 | k+1,.mk r sq f u n sub,h=>xWz gl r sq f u n sub (λa ha=>zUb k a (by
   have:=lSm ha;simp at h;omega))
theorem wK0 (t:Tr):sC gl t:=zUb gl _ t (Nat.lt_succ_self _)
theorem wVq (t:Tr)(x:IV)(hx:IsTr t x)(hw:wTr t<=1099511627776)(st:ISt):ICall prog gl 4 [x] st (λr st'=>r=.raw (.bool (okT t&&decide (t.steps<=60)))/\st'=st):=by
 have hs:=λst=>wK0 gl t x hx 60 ⟨by omega,by omega⟩ hw st;obtain⟨rule',tl',xl',tr',xr',op',fn',ta',xa',tb',xb',v',un',tu',xu',n',ts',xs',rfl⟩:=yKc hx;refine iI func4 ?_;simp only[go_sem,zE,zA,zL];refine (hs _).mono ?_;rintro _ st ⟨⟨r,rfl,h1,h2,h3,h4⟩,rfl⟩;have hd:decide ((0:Int)<=r)=(okT t&&decide (t.steps<=60)):=by
  rw[Bool.eq_iff_iff,dTe,h3,bAt,dTe];constructor<;>intro h<;>exact⟨h.1,by have:=h.2;omega⟩
 simp only[go_sem,hd];exact yQ0 ⟨rfl,rfl⟩
end Go.Proofs.Tryz
namespace Go.Proofs.Tryz
open Go Go.Iv
mutual
theorem yUz:∀t:Tm,t.size<=wTm t
 | .mk _ n us=>by have:=zJ9 us;simp only[wTm,Tm.size];omega
theorem zJ9:∀l:List Tm,yQ8 l<=wTms l
 | []=>Nat.le_refl _
 | a::l=>by have:=yUz a;have:=zJ9 l;simp only[wTms,yQ8];omega
end
mutual
theorem zXb:∀f:Fm,f.size<=wFm f
 | .mk _ n us sub=>by have:=zJ9 us;have:=yJs sub;simp only[wFm,Fm.size];omega
theorem yJs:∀l:List Fm,yQ7 l<=wFms l
 | []=>Nat.le_refl _
 | a::l=>by have:=zXb a;have:=yJs l;simp only[wFms,yQ7];omega
end
theorem yJ2 {s:Sq}{f:Fm}{u:Tm}{n:ByteArray}(h:xXq s f u n=true):wFms s.l+wFms s.r<=300/\wFm f<=300/\wTm u<=300/\n.size<=100:=by
 unfold xXq at h;grind
theorem xVx {s:Sq}(h:wFms s.l+wFms s.r<=300):yVz s:=by
 have:=yJs s.l;have:=yJs s.r;exact⟨λf hf=>by have:=yGd hf;omega,λf hf=>by have:=yGd hf;omega⟩
theorem yGf:∀ {l:List Tr}{a:Tr},okTs l=true->a∈l->okT a=true
 | b::l,a,h,ha=>by
  simp only[okTs,bAt] at h;rcases List.mem_cons.1 ha with rfl|ha
  ·exact h.1
  ·exact yGf h.2 ha
theorem wK8:∀ {t:Tr},okT t=true->xQ0 t
 | .mk rule s m u n sub,h=>by
  simp only[okT,bAt] at h;obtain⟨h1,h2,h3,_⟩:=yJ2 h.1;have:=zXb m;have:=yUz u;refine⟨xVx h1,by omega,by omega,λa ha=>?_⟩;have:=yGf h.2 ha;obtain⟨rule',s',m',u',n',sub'⟩:=a;simp only[okT,bAt] at this;exact xVx (yJ2 this.1).1
end Go.Proofs.Tryz
namespace Go.Proofs.Tryz
open Go Go.Iv
mutual
def NA:Tr->Prop
 | .mk _ s m u _ sub=>yVz s/\m.size<=1000000/\u.size<=1000000/\NAs sub
def NAs:List Tr->Prop
 | []=>True
 | a::l=>NA a/\NAs l
end
theorem vJz:∀ {t:Tr},NA t->yVz t.sq
 | .mk _ _ _ _ _ _,h=>by simp only[NA] at h;exact h.1
theorem xJx:∀ {l:List Tr}{a:Tr},NAs l->a∈l->NA a
 | b::l,a,h,ha=>by
  simp only[NAs] at h;rcases List.mem_cons.1 ha with rfl|ha
  ·exact h.1
  ·exact xJx h.2 ha
theorem wUp:∀ {t:Tr},NA t->xQ0 t
 | .mk _ _ _ _ _ _,h=>by
  simp only[NA] at h;exact⟨h.1,h.2.1,h.2.2.1,λa ha=>vJz (xJx h.2.2.2 ha)⟩
mutual
theorem wJ1:∀(p:List Nat)(t:Tr),NA t->∀q∈t.walk p,NA q.2
 | p,.mk rule s m u n sub,h,q,hq=>by
  simp only[Tr.walk,List.mem_cons] at hq;rcases hq with rfl|hq
  ·exact h
  ·simp only[NA] at h;exact xWg p 0 sub h.2.2.2 q hq
theorem xWg:∀(p:List Nat)(i:Nat)(l:List Tr),NAs l->∀q∈yZ0 p i l,NA q.2
 | _,_,[],_,q,hq=>by cases hq
 | p,i,a::l,h,q,hq=>by
  simp only[NAs] at h;simp only[yZ0,List.mem_append] at hq;rcases hq with hq|hq
  ·exact wJ1 _ a h.1 q hq
  ·exact xWg p (i+1) l h.2 q hq
end
theorem vK0 {t:Tr}(h:NA t)(hs:t.steps<=1099511627776):wZx t:=⟨λq hq=>wUp (wJ1 [] t h q hq),Nat.le_trans t.height_le_steps hs⟩
mutual
theorem wQg:∀ {t:Tr},okT t=true->NA t
 | .mk _ s m u n sub,h=>by
  have hn:=wK8 h;simp only[okT,bAt] at h;exact⟨hn.1,hn.2.1,hn.2.2.1,xV4 h.2⟩
theorem xV4:∀ {l:List Tr},okTs l=true->NAs l
 | [],_=>trivial
 | a::l,h=>by
  simp only[okTs,bAt] at h;exact⟨wQg h.1,xV4 h.2⟩
end
end Go.Proofs.Tryz
namespace Go.Proofs.Tryz
open Go Go.Iv
set_option maxRecDepth 4000
variable (gl:Nat->Option IV)
theorem zXq {ca rule:Nat}{r:Rw}(h:rowS ca rule=some r):r.asks=2↔rule=14\/rule=15:=by
 rcases zUj h with⟨rfl,rfl⟩|⟨rfl,rfl⟩|⟨rfl,rfl⟩|⟨rfl,rfl⟩|⟨rfl,rfl⟩|⟨rfl,rfl⟩|⟨rfl,rfl⟩|⟨rfl,rfl⟩|⟨rfl,rfl⟩|⟨rfl,rfl⟩|⟨rfl,rfl⟩|⟨rfl,rfl⟩|⟨rfl,rfl⟩|⟨rfl,rfl⟩|⟨rfl,rfl⟩|⟨rfl,rfl⟩|⟨rfl,rfl⟩|⟨rfl,rfl⟩<;>simp
def yX1 (q:List Sq×Nat)(bl br bf:Bool)(r:Rw):List Sq×Nat :=
 if decide (q.2=192) || (r.left&&!bl) || (r.right&&!br) then ([],192) else if q.2≠0 then ([],q.2) else if decide (r.asks=2)&&bf then ([],193) else (q.1,0)
theorem wYv {ca rule:Nat}{s:Sq}{m:Fm}{u:Tm}{n:ByteArray}{r:Rw}(hv:yXd ca s=true)(hr:rowS ca rule=some r) :
  yZo ca s rule m u n=yX1 (yZj ca rule r m u n) (hasF s.l m) (hasF s.r m) (yK7 s n) r:=by
 unfold yZo yX1;rw[hv,hr];rfl
set_option maxHeartbeats 4000000 in
theorem wQ5 (G:Gl gl)(ca:Nat)(t:Tr)(x:IV)(hx:IsTr t x)(hn:NA t)(hu:yU8 t=true)(st:ISt) :
  ICall prog gl 73 [.raw (.int .u8 ca),x] st (AdR st (match t with|.mk rule s m u n _=>yZo ca s rule m u n)):=by
 obtain⟨rule,s,m,u,n,sub⟩:=t;obtain⟨tl,xl,tr,xr,op,fn,ta,xa,tb,xb,v,un,tu,xu,ts,xs,rfl,hru,e1,i1,e2,i2,hy,hz,e3,i3⟩:=hx.mk;simp only[NA] at hn;simp only[yU8,bAt,dTe] at hu;have hV:=λst=>wJw gl ca s _ ⟨tl,xl,tr,xr,rfl,e1,i1,e2,i2⟩ hn.1 st;have hW:=λst=>xGs gl ca rule st;have hA:=λst=>wJz gl ca rule m _ hy hn.2.1 u _ hz hu.1 n st;refine iI func73 ?_;simp only[go_sem,zE,zA,zL,reduceCtorEq];refine (hV _).mono ?_;rintro _ st ⟨rfl,rfl⟩;cases hv:yXd ca s
 ·rw[show yZo ca s rule m u n=([],190) from by unfold yZo;rw[hv];rfl];simp only[go_sem,zE];exact yQ0 ⟨_,_,rfl,.inl rfl,rfl,rfl⟩
 obtain⟨hk,hl64,hr64,_⟩:=yGa.1 hv;have hHl:=λst=>xKr gl G s.l tl xl e1 i1 m _ hy hn.1.1 hn.2.1 (by omega) st;have hHr:=λst=>xKr gl G s.r tr xr e2 i2 m _ hy hn.1.2 hn.2.1 (by omega) st;have hfl:=λst=>xUz gl s.l tl xl e1 i1 n hn.1.1 (by omega) st;have hfr:=λst=>xUz gl s.r tr xr e2 i2 n hn.1.2 (by omega) st;simp only[go_sem,zE,zA,reduceCtorEq];refine (hW _).mono ?_;rintro w st ⟨hw,rfl⟩;unfold yKp at hw;cases hrow:rowS ca rule with
 | none =>
  rw[hrow] at hw;obtain⟨o9,a9,b9,rfl⟩:=hw;rw[show yZo ca s rule m u n=([],191) from by unfold yZo;rw[hv,hrow];rfl];simp only[go_sem,zE];exact yQ0 ⟨_,_,rfl,.inl rfl,rfl,rfl⟩
 | some r =>
  rw[hrow] at hw;simp only at hw;subst hw;rw[wYv hv hrow];have hAd:zQv ca rule m u n=yZj ca rule r m u n:=by unfold zQv;rw[hk,hrow];rfl
  rw[hAd] at hA;have herr:=wXl ca rule r m u n;generalize yZj ca rule r m u n=q at hA herr ⊢;have hbf:((s.l.any λf=>memB (frF f) n) || (s.r.any λf=>memB (frF f) n))=yK7 s n:=rfl;generalize yK7 s n=bf at hbf ⊢;generalize hasF s.l m=bl at hHl ⊢;generalize hasF s.r m=br at hHr ⊢;generalize hS:yX1 q bl br bf r=S;simp only[go_sem,zE,zA,zL,reduceCtorEq];refine (hA _).mono ?_;rintro _ st ⟨tga,za,rfl,hta,hza,rfl⟩;by_cases h192:q.2=192
  ·have k192:decide (((q.2:Nat):Int)=192)=true:=dEt (by omega);obtain rfl:S=([],192):=by rw[<- hS];unfold yX1;simp[h192]
   simp only[go_sem,zE,k192];intros;exact yQ0 ⟨_,_,rfl,.inl rfl,rfl,rfl⟩
  have k192:decide (((q.2:Nat):Int)=192)=false:=dEf (by omega);cases hl:r.left
  ·simp only[go_sem,zE,k192];intros;cases hr:r.right
   ·simp only[go_sem,zE];intros;by_cases h0:q.2=0
    case neg =>
     have k0:decide (((q.2:Nat):Int)=0)=false:=dEf (by omega);have h193:q.2=193:=by omega
     obtain rfl:S=([],193):=by rw[<- hS];unfold yX1;simp[h193,hr,hl]
     simp only[go_sem,zE,k0];intros;exact yQ0 ⟨_,_,rfl,.inl rfl,rfl,rfl⟩
    have k0:decide (((q.2:Nat):Int)=0)=true:=dEt (by omega);have haf:=zXq hrow;by_cases h14:rule=14
    ·have k14:decide (((rule:Nat):Int)=14)=true:=dEt (by omega);have has:r.asks=2:=haf.2 (.inl h14);simp only[go_sem,zE,zA,k0,k14];intros;refine (hfl _).mono ?_;rintro _ st ⟨rfl,rfl⟩;cases hb1:(s.l.any λf=>memB (frF f) n)
     ·rw[hb1,Bool.false_or] at hbf;simp only[go_sem,zE,zA];intros;refine (hfr _).mono ?_;rintro _ st ⟨rfl,rfl⟩;cases hb2:(s.r.any λf=>memB (frF f) n)
      ·rw[hb2] at hbf;obtain rfl:S=(q.1,0):=by rw[<- hS];unfold yX1;simp[h0,<- hbf,hr,hl]
       simp only[go_sem,zE];intros;exact yQ0 ⟨_,_,rfl,hta,hza,rfl⟩
      ·rw[hb2] at hbf;obtain rfl:S=([],193):=by rw[<- hS];unfold yX1;simp[has,h0,<- hbf,hr,hl]
       simp only[go_sem,zE];intros;exact yQ0 ⟨_,_,rfl,.inl rfl,rfl,rfl⟩
     ·rw[hb1,Bool.true_or] at hbf;obtain rfl:S=([],193):=by rw[<- hS];unfold yX1;simp[has,h0,<- hbf,hr,hl]
      simp only[go_sem,zE];intros;exact yQ0 ⟨_,_,rfl,.inl rfl,rfl,rfl⟩
    by_cases h15:rule=15
    ·have k14:decide (((rule:Nat):Int)=14)=false:=dEf (by omega);have k15:decide (((rule:Nat):Int)=15)=true:=dEt (by omega);have has:r.asks=2:=haf.2 (.inr h15);simp only[go_sem,zE,zA,k0,k14,k15];intros;refine (hfl _).mono ?_;rintro _ st ⟨rfl,rfl⟩;cases hb1:(s.l.any λf=>memB (frF f) n)
     ·rw[hb1,Bool.false_or] at hbf;simp only[go_sem,zE,zA];intros;refine (hfr _).mono ?_;rintro _ st ⟨rfl,rfl⟩;cases hb2:(s.r.any λf=>memB (frF f) n)
      ·rw[hb2] at hbf;obtain rfl:S=(q.1,0):=by rw[<- hS];unfold yX1;simp[h0,<- hbf,hr,hl]
       simp only[go_sem,zE];intros;exact yQ0 ⟨_,_,rfl,hta,hza,rfl⟩
      ·rw[hb2] at hbf;obtain rfl:S=([],193):=by rw[<- hS];unfold yX1;simp[has,h0,<- hbf,hr,hl]
       simp only[go_sem,zE];intros;exact yQ0 ⟨_,_,rfl,.inl rfl,rfl,rfl⟩
     ·rw[hb1,Bool.true_or] at hbf;obtain rfl:S=([],193):=by rw[<- hS];unfold yX1;simp[has,h0,<- hbf,hr,hl]
      simp only[go_sem,zE];intros;exact yQ0 ⟨_,_,rfl,.inl rfl,rfl,rfl⟩
    ·have k14:decide (((rule:Nat):Int)=14)=false:=dEf (by omega);have k15:decide (((rule:Nat):Int)=15)=false:=dEf (by omega);have has:¬ r.asks=2:=λh=>(haf.1 h).elim h14 h15;obtain rfl:S=(q.1,0):=by rw[<- hS];unfold yX1;simp[has,h0,hr,hl]
     simp only[go_sem,zE,zA,k0,k14,k15];intros;exact yQ0 ⟨_,_,rfl,hta,hza,rfl⟩
   ·simp only[go_sem,zE,zA,zL];intros;refine (hHr _).mono ?_;rintro _ st ⟨rfl,rfl⟩;cases hbr:br
    ·obtain rfl:S=([],192):=by rw[<- hS];unfold yX1;simp[hr,hbr]
     simp only[go_sem,zE];intros;exact yQ0 ⟨_,_,rfl,.inl rfl,rfl,rfl⟩
    ·simp only[go_sem,zE];intros;by_cases h0:q.2=0
     case neg =>
      have k0:decide (((q.2:Nat):Int)=0)=false:=dEf (by omega);have h193:q.2=193:=by omega
      obtain rfl:S=([],193):=by rw[<- hS];unfold yX1;simp[h193,hr,hbr,hl]
      simp only[go_sem,zE,k0];intros;exact yQ0 ⟨_,_,rfl,.inl rfl,rfl,rfl⟩
     have k0:decide (((q.2:Nat):Int)=0)=true:=dEt (by omega);have haf:=zXq hrow;by_cases h14:rule=14
     ·have k14:decide (((rule:Nat):Int)=14)=true:=dEt (by omega);have has:r.asks=2:=haf.2 (.inl h14);simp only[go_sem,zE,zA,k0,k14];intros;refine (hfl _).mono ?_;rintro _ st ⟨rfl,rfl⟩;cases hb1:(s.l.any λf=>memB (frF f) n)
      ·rw[hb1,Bool.false_or] at hbf;simp only[go_sem,zE,zA];intros;refine (hfr _).mono ?_;rintro _ st ⟨rfl,rfl⟩;cases hb2:(s.r.any λf=>memB (frF f) n)
       ·rw[hb2] at hbf;obtain rfl:S=(q.1,0):=by rw[<- hS];unfold yX1;simp[h0,<- hbf,hr,hbr,hl]
        simp only[go_sem,zE];intros;exact yQ0 ⟨_,_,rfl,hta,hza,rfl⟩
       ·rw[hb2] at hbf;obtain rfl:S=([],193):=by rw[<- hS];unfold yX1;simp[has,h0,<- hbf,hr,hbr,hl]
        simp only[go_sem,zE];intros;exact yQ0 ⟨_,_,rfl,.inl rfl,rfl,rfl⟩
      ·rw[hb1,Bool.true_or] at hbf;obtain rfl:S=([],193):=by rw[<- hS];unfold yX1;simp[has,h0,<- hbf,hr,hbr,hl]
       simp only[go_sem,zE];intros;exact yQ0 ⟨_,_,rfl,.inl rfl,rfl,rfl⟩
     by_cases h15:rule=15
     ·have k14:decide (((rule:Nat):Int)=14)=false:=dEf (by omega);have k15:decide (((rule:Nat):Int)=15)=true:=dEt (by omega);have has:r.asks=2:=haf.2 (.inr h15);simp only[go_sem,zE,zA,k0,k14,k15];intros;refine (hfl _).mono ?_;rintro _ st ⟨rfl,rfl⟩;cases hb1:(s.l.any λf=>memB (frF f) n)
      ·rw[hb1,Bool.false_or] at hbf;simp only[go_sem,zE,zA];intros;refine (hfr _).mono ?_;rintro _ st ⟨rfl,rfl⟩;cases hb2:(s.r.any λf=>memB (frF f) n)
       ·rw[hb2] at hbf;obtain rfl:S=(q.1,0):=by rw[<- hS];unfold yX1;simp[h0,<- hbf,hr,hbr,hl]
        simp only[go_sem,zE];intros;exact yQ0 ⟨_,_,rfl,hta,hza,rfl⟩
       ·rw[hb2] at hbf;obtain rfl:S=([],193):=by rw[<- hS];unfold yX1;simp[has,h0,<- hbf,hr,hbr,hl]
        simp only[go_sem,zE];intros;exact yQ0 ⟨_,_,rfl,.inl rfl,rfl,rfl⟩
      ·rw[hb1,Bool.true_or] at hbf;obtain rfl:S=([],193):=by rw[<- hS];unfold yX1;simp[has,h0,<- hbf,hr,hbr,hl]
       simp only[go_sem,zE];intros;exact yQ0 ⟨_,_,rfl,.inl rfl,rfl,rfl⟩
     ·have k14:decide (((rule:Nat):Int)=14)=false:=dEf (by omega);have k15:decide (((rule:Nat):Int)=15)=false:=dEf (by omega);have has:¬ r.asks=2:=λh=>(haf.1 h).elim h14 h15;obtain rfl:S=(q.1,0):=by rw[<- hS];unfold yX1;simp[has,h0,hr,hbr,hl]
      simp only[go_sem,zE,zA,k0,k14,k15];intros;exact yQ0 ⟨_,_,rfl,hta,hza,rfl⟩
  ·simp only[go_sem,zE,zA,zL,k192];intros;refine (hHl _).mono ?_;rintro _ st ⟨rfl,rfl⟩;cases hbl:bl
   ·obtain rfl:S=([],192):=by rw[<- hS];unfold yX1;simp[hl,hbl]
    simp only[go_sem,zE];intros;exact yQ0 ⟨_,_,rfl,.inl rfl,rfl,rfl⟩
   ·simp only[go_sem,zE];intros;cases hr:r.right
    ·simp only[go_sem,zE];intros;by_cases h0:q.2=0
     case neg =>
      have k0:decide (((q.2:Nat):Int)=0)=false:=dEf (by omega);have h193:q.2=193:=by omega
      obtain rfl:S=([],193):=by rw[<- hS];unfold yX1;simp[h193,hr,hl,hbl]
      simp only[go_sem,zE,k0];intros;exact yQ0 ⟨_,_,rfl,.inl rfl,rfl,rfl⟩
     have k0:decide (((q.2:Nat):Int)=0)=true:=dEt (by omega);have haf:=zXq hrow;by_cases h14:rule=14
     ·have k14:decide (((rule:Nat):Int)=14)=true:=dEt (by omega);have has:r.asks=2:=haf.2 (.inl h14);simp only[go_sem,zE,zA,k0,k14];intros;refine (hfl _).mono ?_;rintro _ st ⟨rfl,rfl⟩;cases hb1:(s.l.any λf=>memB (frF f) n)
      ·rw[hb1,Bool.false_or] at hbf;simp only[go_sem,zE,zA];intros;refine (hfr _).mono ?_;rintro _ st ⟨rfl,rfl⟩;cases hb2:(s.r.any λf=>memB (frF f) n)
       ·rw[hb2] at hbf;obtain rfl:S=(q.1,0):=by rw[<- hS];unfold yX1;simp[h0,<- hbf,hr,hl,hbl]
        simp only[go_sem,zE];intros;exact yQ0 ⟨_,_,rfl,hta,hza,rfl⟩
       ·rw[hb2] at hbf;obtain rfl:S=([],193):=by rw[<- hS];unfold yX1;simp[has,h0,<- hbf,hr,hl,hbl]
        simp only[go_sem,zE];intros;exact yQ0 ⟨_,_,rfl,.inl rfl,rfl,rfl⟩
      ·rw[hb1,Bool.true_or] at hbf;obtain rfl:S=([],193):=by rw[<- hS];unfold yX1;simp[has,h0,<- hbf,hr,hl,hbl]
       simp only[go_sem,zE];intros;exact yQ0 ⟨_,_,rfl,.inl rfl,rfl,rfl⟩
     by_cases h15:rule=15
     ·have k14:decide (((rule:Nat):Int)=14)=false:=dEf (by omega);have k15:decide (((rule:Nat):Int)=15)=true:=dEt (by omega);have has:r.asks=2:=haf.2 (.inr h15);simp only[go_sem,zE,zA,k0,k14,k15];intros;refine (hfl _).mono ?_;rintro _ st ⟨rfl,rfl⟩;cases hb1:(s.l.any λf=>memB (frF f) n)
      ·rw[hb1,Bool.false_or] at hbf;simp only[go_sem,zE,zA];intros;refine (hfr _).mono ?_;rintro _ st ⟨rfl,rfl⟩;cases hb2:(s.r.any λf=>memB (frF f) n)
       ·rw[hb2] at hbf;obtain rfl:S=(q.1,0):=by rw[<- hS];unfold yX1;simp[h0,<- hbf,hr,hl,hbl]
        simp only[go_sem,zE];intros;exact yQ0 ⟨_,_,rfl,hta,hza,rfl⟩
       ·rw[hb2] at hbf;obtain rfl:S=([],193):=by rw[<- hS];unfold yX1;simp[has,h0,<- hbf,hr,hl,hbl]
        simp only[go_sem,zE];intros;exact yQ0 ⟨_,_,rfl,.inl rfl,rfl,rfl⟩
      ·rw[hb1,Bool.true_or] at hbf;obtain rfl:S=([],193):=by rw[<- hS];unfold yX1;simp[has,h0,<- hbf,hr,hl,hbl]
       simp only[go_sem,zE];intros;exact yQ0 ⟨_,_,rfl,.inl rfl,rfl,rfl⟩
     ·have k14:decide (((rule:Nat):Int)=14)=false:=dEf (by omega);have k15:decide (((rule:Nat):Int)=15)=false:=dEf (by omega);have has:¬ r.asks=2:=λh=>(haf.1 h).elim h14 h15;obtain rfl:S=(q.1,0):=by rw[<- hS];unfold yX1;simp[has,h0,hr,hl,hbl]
      simp only[go_sem,zE,zA,k0,k14,k15];intros;exact yQ0 ⟨_,_,rfl,hta,hza,rfl⟩
    ·simp only[go_sem,zE,zA,zL];intros;refine (hHr _).mono ?_;rintro _ st ⟨rfl,rfl⟩;cases hbr:br
     ·obtain rfl:S=([],192):=by rw[<- hS];unfold yX1;simp[hr,hbr]
      simp only[go_sem,zE];intros;exact yQ0 ⟨_,_,rfl,.inl rfl,rfl,rfl⟩
     ·simp only[go_sem,zE];intros;by_cases h0:q.2=0
      case neg =>
       have k0:decide (((q.2:Nat):Int)=0)=false:=dEf (by omega);have h193:q.2=193:=by omega
       obtain rfl:S=([],193):=by rw[<- hS];unfold yX1;simp[h193,hr,hbr,hl,hbl]
       simp only[go_sem,zE,k0];intros;exact yQ0 ⟨_,_,rfl,.inl rfl,rfl,rfl⟩
      have k0:decide (((q.2:Nat):Int)=0)=true:=dEt (by omega);have haf:=zXq hrow;by_cases h14:rule=14
      ·have k14:decide (((rule:Nat):Int)=14)=true:=dEt (by omega);have has:r.asks=2:=haf.2 (.inl h14);simp only[go_sem,zE,zA,k0,k14];intros;refine (hfl _).mono ?_;rintro _ st ⟨rfl,rfl⟩;cases hb1:(s.l.any λf=>memB (frF f) n)
       ·rw[hb1,Bool.false_or] at hbf;simp only[go_sem,zE,zA];intros;refine (hfr _).mono ?_;rintro _ st ⟨rfl,rfl⟩;cases hb2:(s.r.any λf=>memB (frF f) n)
        ·rw[hb2] at hbf;obtain rfl:S=(q.1,0):=by rw[<- hS];unfold yX1;simp[h0,<- hbf,hr,hbr,hl,hbl]
         simp only[go_sem,zE];intros;exact yQ0 ⟨_,_,rfl,hta,hza,rfl⟩
        ·rw[hb2] at hbf;obtain rfl:S=([],193):=by rw[<- hS];unfold yX1;simp[has,h0,<- hbf,hr,hbr,hl,hbl]
         simp only[go_sem,zE];intros;exact yQ0 ⟨_,_,rfl,.inl rfl,rfl,rfl⟩
       ·rw[hb1,Bool.true_or] at hbf;obtain rfl:S=([],193):=by rw[<- hS];unfold yX1;simp[has,h0,<- hbf,hr,hbr,hl,hbl]
        simp only[go_sem,zE];intros;exact yQ0 ⟨_,_,rfl,.inl rfl,rfl,rfl⟩
      by_cases h15:rule=15
      ·have k14:decide (((rule:Nat):Int)=14)=false:=dEf (by omega);have k15:decide (((rule:Nat):Int)=15)=true:=dEt (by omega);have has:r.asks=2:=haf.2 (.inr h15);simp only[go_sem,zE,zA,k0,k14,k15];intros;refine (hfl _).mono ?_;rintro _ st ⟨rfl,rfl⟩;cases hb1:(s.l.any λf=>memB (frF f) n)
       ·rw[hb1,Bool.false_or] at hbf;simp only[go_sem,zE,zA];intros;refine (hfr _).mono ?_;rintro _ st ⟨rfl,rfl⟩;cases hb2:(s.r.any λf=>memB (frF f) n)
        ·rw[hb2] at hbf;obtain rfl:S=(q.1,0):=by rw[<- hS];unfold yX1;simp[h0,<- hbf,hr,hbr,hl,hbl]
         simp only[go_sem,zE];intros;exact yQ0 ⟨_,_,rfl,hta,hza,rfl⟩
        ·rw[hb2] at hbf;obtain rfl:S=([],193):=by rw[<- hS];unfold yX1;simp[has,h0,<- hbf,hr,hbr,hl,hbl]
         simp only[go_sem,zE];intros;exact yQ0 ⟨_,_,rfl,.inl rfl,rfl,rfl⟩
       ·rw[hb1,Bool.true_or] at hbf;obtain rfl:S=([],193):=by rw[<- hS];unfold yX1;simp[has,h0,<- hbf,hr,hbr,hl,hbl]
        simp only[go_sem,zE];intros;exact yQ0 ⟨_,_,rfl,.inl rfl,rfl,rfl⟩
      ·have k14:decide (((rule:Nat):Int)=14)=false:=dEf (by omega);have k15:decide (((rule:Nat):Int)=15)=false:=dEf (by omega);have has:¬ r.asks=2:=λh=>(haf.1 h).elim h14 h15;obtain rfl:S=(q.1,0):=by rw[<- hS];unfold yX1;simp[has,h0,hr,hbr,hl,hbl]
       simp only[go_sem,zE,zA,k0,k14,k15];intros;exact yQ0 ⟨_,_,rfl,hta,hza,rfl⟩
def Tr.subsT:Tr->List Tr
 | .mk _ _ _ _ _ sub=>sub
theorem xKv {s:Sq}:∀ {ad:List Sq} {ts:List Tr},(∀(i:Nat) (m:Sq) (t:Tr),ad[i]?=some m->ts[i]?=some t->yJo t.sq (s.plus m)=true)->yXt s ad ts=true
 | [],_,_=>rfl
 | _::_,[],_=>rfl
 | m::ad,t::ts,h=>by
  simp only[yXt,bAt];exact⟨h 0 m t rfl rfl,xKv λi a b h1 h2=>h (i+1) a b (by simpa using h1) (by simpa using h2)⟩
theorem xJf {ca rule:Nat}{s:Sq}{m:Fm}{u:Tm}{n:ByteArray}{ad:List Sq}(hu:u.size<=900000)(h:yZo ca s rule m u n=(ad,0)):∀q∈ad,yVz q/\q.l.length<=1099511627776/\q.r.length<=1099511627776:=by
 have h0:(yZo ca s rule m u n).2=0:=by rw[h]
 obtain⟨r,k1,k2,k3,_,_,_,k7⟩:=xWq h0;rw[h] at k7;have hA:yZj ca rule r m u n=(ad,0):=Prod.ext ((Prod.mk.inj k7).1.symm) k3;have hs:=zKy hA;intro q hq;exact⟨(hs q hq).1,by have:=(hs q hq).2.1;omega,by have:=(hs q hq).2.2;omega⟩
set_option maxHeartbeats 1000000 in
theorem wJv (G:Gl gl)(ca:Nat)(t:Tr)(x:IV)(hx:IsTr t x)(hn:NA t)(hu:yU8 t=true)(hlen:∀a∈(Tr.subsT t),a.sq.l.length<=1099511627776/\a.sq.r.length<=1099511627776)(hst:t.steps<=1099511627776)(st:ISt) :
  ICall prog gl 58 [.raw (.int .u8 ca),x] st (λr st'=>r=.raw (.int .i64 (yZf ca t))/\st'=st):=by
 have hB:=λst=>wQ5 gl G ca t x hx hn hu st;obtain⟨rule,s,m,u,n,sub⟩:=t;simp only[Tr.subsT] at hlen;obtain⟨tl,xl,tr,xr,op,fn,ta,xa,tb,xb,v,un,tu,xu,ts,xs,rfl,hru,e1,i1,e2,i2,hy,hz,e3,i3⟩:=hx.mk;simp only at hB;simp only[NA] at hn;simp only[yU8,bAt,dTe] at hu;simp only[Tr.steps] at hst;have hls:=yZw sub;have hck:yZf ca (.mk rule s m u n sub)=if (yZo ca s rule m u n).2≠0 then (yZo ca s rule m u n).2 else if sub.length≠(yZo ca s rule m u n).1.length then 194 else if yXt s (yZo ca s rule m u n).1 sub then 0 else 195:=by simp only[yZf]
 rw[hck];have hsh:=λad h=>xJf (ca:=ca) (rule:=rule) (s:=s) (m:=m) (n:=n) (ad:=ad) hu.1 h;have hval:=λh=>zJ4 (ca:=ca) (s:=s) (rule:=rule) (main:=m) (term:=u) (name:=n) h;generalize yZo ca s rule m u n=q at hB hsh hval ⊢;obtain⟨ad,e⟩:=q;simp only at hB hval ⊢;refine iI func58 ?_;simp only[go_sem,zE,zA,zL,reduceCtorEq];refine (hB _).mono ?_;rintro _ st ⟨tga,za,rfl,hta,hza,rfl⟩;by_cases he:e=0
 case neg =>
  have k0:decide (((e:Nat):Int)=0)=false:=dEf (by omega);rw[if_pos he];simp only[go_sem,zE,k0];exact yQ0 ⟨rfl,rfl⟩
 subst he;rw[if_neg (by simp)];have hsh:=hsh ad rfl;obtain⟨_,hl64,hr64,_⟩:=yGa.1 (hval rfl);by_cases hln:sub.length=ad.length
 case neg =>
  have k1:decide (((ad.length:Nat):Int)=((sub.length:Nat):Int))=false:=dEf (by omega);rw[if_pos hln];simp only[go_sem,zE,hza.len,i3.len,k1,show decide (((0:Nat):Int)=0)=true from rfl];intros;exact yQ0 ⟨rfl,rfl⟩
 rw[if_neg (by simp[hln])];have k1:decide (((ad.length:Nat):Int)=((sub.length:Nat):Int))=true:=dEt (by omega);simp only[go_sem,zE,hza.len,i3.len,k1,show decide (((0:Nat):Int)=0)=true from rfl];intros;refine LoopC.ctr ad.length (λk fr st' ds=>(∀(i:Nat) (m:Sq) (t:Tr),i<k->ad[i]?=some m->sub[i]?=some t->yJo t.sq (s.plus m)=true)/\fr 3=.box [.raw (.int .u8 rule),.sl tl xl,.sl tr xr,.raw (.int .u8 op),.raw (.string fn),.sl ta xa,.sl tb xb,.raw (.bool v),.raw (.string un),.sl tu xu,.raw (.string n),.sl ts xs] /\
  fr 5=.iv (.sl tga za)/\fr 7=.iv (.raw (.int .i64 k))/\st'=st/\ds=[]) ?_ ?_ ?_
 ·simp only[go_sem,zE];exact⟨λi m t h=>by omega,rfl⟩
 ·rintro k fr st1 _ hlt ⟨hk,f3,f5,f7,rfl,rfl⟩;obtain⟨q,hq⟩:=yQ3 hlt;have hqm:=lMg hq;obtain⟨aq,hka,haq⟩:=hza.get hq;obtain⟨b,hb⟩:=yQ3 (show k<sub.length by omega);have hbm:=lMg hb;obtain⟨zb,hkb,hzb⟩:=i3.get hb;have hbfit:=vJz (xJx hn.2.2.2 hbm);have hbl:=hlen b hbm;obtain⟨br,bs,bm,bu,bn,bsub⟩:=b;obtain⟨tl5,xl5,tr5,xr5,op5,fn5,ta5,xa5,tb5,xb5,v5,un5,tu5,xu5,ts5,xs5,rfl,_,e15,i15,e25,i25,_⟩:=hzb.mk;obtain⟨ta1,xa1,ta2,xa2,rfl,ea1,ia1,ea2,ia2⟩:=haq;simp only[Tr.sq] at hbfit hbl;obtain⟨⟨hf1,hf2⟩,hf3,hf4⟩:=hsh q hqm;have hI1:=λst=>vZu gl G bs.l s.l q.l _ _ _ _ _ _ e15 i15 e1 i1 ea1 ia1 hbfit.1 hn.1.1 hf1 ⟨by omega,by omega,by omega⟩ st;have hI2:=λst=>vZu gl G bs.r s.r q.r _ _ _ _ _ _ e25 i25 e2 i2 ea2 ia2 hbfit.2 hn.1.2 hf2 ⟨by omega,by omega,by omega⟩ st;have hw:yJo bs (s.plus q)=(allF bs.l (s.l++q.l)&&allF bs.r (s.r++q.r)):=rfl;have hno:yJo bs (s.plus q)=false->yXt s ad sub=false:=λh=>by
   cases hp:yXt s ad sub
   ·rfl
   ·have:=zUt s ad sub hp k q _ hq hb;simp only[Tr.sq] at this;rw[h] at this;cases this
  have hyes:yJo bs (s.plus q)=true->∀(i:Nat) (m:Sq) (t:Tr),i<k+1->ad[i]?=some m->sub[i]?=some t->yJo t.sq (s.plus m)=true:=λh i m t hi h1 h2=>by
   rcases Nat.lt_or_ge i k with hlt'|hge
   ·exact hk i m t hlt' h1 h2
   ·obtain rfl:i=k:=by omega
    rw[hq] at h1;rw[hb] at h2;cases h1;cases h2;exact h
  simp only[go_sem,zE,zB,zA,zL,f3,f5,f7,hza.len,lt_i hlt,yQ1 e3,yQ1 hta,iNn,hkb,hka,fits];intros;refine (hI1 _).mono ?_;rintro _ st2 ⟨rfl,rfl⟩;cases hb1:allF bs.l (s.l++q.l)
  ·rw[hb1] at hw;rw[hno (by rw[hw];rfl)];simp only[go_sem,zE,reduceCtorEq];exact yQ0 ⟨rfl,rfl⟩
  ·simp only[go_sem,zE,zA,f3,f5,f7,yQ1 hta,iNn,hka,fits];intros;refine (hI2 _).mono ?_;rintro _ st2 ⟨rfl,rfl⟩;cases hb2:allF bs.r (s.r++q.r)
   ·rw[hb2,Bool.and_false] at hw;rw[hno hw];simp only[go_sem,zE,reduceCtorEq];exact yQ0 ⟨rfl,rfl⟩
   ·rw[hb1,hb2] at hw;simp only[go_sem,zE,f3,f5,f7,yQ9 hlt (show ad.length<=281474976710656 by omega)];exact hyes hw
 ·rintro fr st1 _ ⟨hk,f3,f5,f7,rfl,rfl⟩;have hp:yXt s ad sub=true:=xKv λi m t h1 h2=>hk i m t (lGs h1).1 h1 h2;simp only[go_sem,zE,f5,f7,hza.len,yQj (nLi _)];intros;exact yQ0 ⟨by rw[hp];rfl,rfl⟩
mutual
theorem zW9:∀ {t:Tr},okT t=true->yU8 t=true
 | .mk rule s m u n sub,h=>by
  simp only[okT,bAt] at h;have:=(yJ2 h.1).2.2.1;have:=yUz u;simp only[yU8,bAt,dTe];exact⟨by omega,zJm h.2⟩
theorem zJm:∀ {l:List Tr},okTs l=true->zXa l=true
 | [],_=>rfl
 | a::l,h=>by
  simp only[okTs,bAt] at h;simp only[zXa,bAt];exact⟨zW9 h.1,zJm h.2⟩
end
theorem wK9 {t:Tr}(h:okT t=true):∀a∈Tr.subsT t,a.sq.l.length<=1099511627776/\a.sq.r.length<=1099511627776:=λa ha=>by
 obtain⟨rule,s,m,u,n,sub⟩:=t;simp only[okT,bAt] at h;have hb:=yGf h.2 ha;obtain⟨br,bs,bm,bu,bn,bsub⟩:=a;simp only[okT,bAt] at hb;have h1:=(yJ2 hb.1).1;have h2:=yJs bs.l;have h3:=yJs bs.r;have h4:=yZn bs.l;have h5:=yZn bs.r;simp only[Tr.sq];omega
def stC (t:Tr):Prop:=∀(x:IV) (_:IsTr t x) (_:t.steps<=1099511627776) (st:ISt),ICall prog gl 14 [x] st (λr st'=>r=.raw (.int .i64 t.steps)/\st'=st)
theorem xXc (rule:Nat)(s:Sq)(f:Fm)(u:Tm)(n:ByteArray)(sub:List Tr)(IH:∀a∈sub,stC gl a):stC gl (.mk rule s f u n sub):=by
 intro x hx hst st;obtain⟨tl,xl,tr,xr,op,fn,ta,xa,tb,xb,v,un,tu,xu,ts,xs,rfl,hru,e1,i1,e2,i2,hy,hz,e3,i3⟩:=hx.mk;simp only[Tr.steps] at hst ⊢;have hlsub:=yZw sub;refine iI func14 ?_;simp only[go_sem];refine LoopC.ctr sub.length (λk fr st' ds=>fr 1=.box [.raw (.int .u8 rule),.sl tl xl,.sl tr xr,.raw (.int .u8 op),.raw (.string fn),.sl ta xa,.sl tb xb,.raw (.bool v),.raw (.string un),.sl tu xu,.raw (.string n),.sl ts xs]/\fr 3=.iv (.raw (.int .i64 ((1+yQl (sub.take k):Nat):Int)))/\fr 4=.iv (.raw (.int .i64 k))/\st'=st/\ds=[]) ?_ ?_ ?_
 ·simp only[go_sem,zE];simp[yQl]
 ·rintro k fr st1 _ hlt ⟨f1,f3,f4,rfl,rfl⟩;obtain⟨a,ha⟩:=yQ3 hlt;have ham:=lMg ha;obtain⟨z,hkz,hzz⟩:=i3.get ha;have h1:=zJ3 ha;have h2:=zU4 sub (k+1);have hcall:=λst=>IH a ham z hzz (by have:=yZl ham;omega) st;have w7:IntKind.i64.wrap (((1+yQl (sub.take k):Nat):Int)+((a.steps:Nat):Int))=((1+yQl (sub.take (k+1)):Nat):Int):=by rw[w64]<;>omega
  obtain⟨rule',tl',xl',tr',xr',op',fn',ta',xa',tb',xb',v',un',tu',xu',n',ts',xs',rfl⟩:=yKc hzz;simp only[go_sem,zE,zB,zA,f1,f3,f4,i3.len,lt_i hlt,yQ1 e3,iNn,hkz,fits];intro _;refine (hcall _).mono ?_;rintro _ st2 ⟨rfl,rfl⟩;simp only[go_sem,zE,f1,f4,w7,yQ9 hlt (show sub.length<=281474976710656 by omega)]
 ·rintro fr st1 _ ⟨f1,f3,f4,rfl,rfl⟩;rw[lTl] at f3;simp only[go_sem,zE,f1,f3,f4,i3.len,yQj (nLi _)];intro _;exact yQ0 ⟨rfl,rfl⟩
theorem zW1:∀(k:Nat)(t:Tr),SizeOf.sizeOf t<k->stC gl t
 | 0,t,h=>by omega
 | k+1,.mk r sq f u n sub,h=>xXc gl r sq f u n sub (λa ha=>zW1 k a (by
   have:=lSm ha;simp at h;omega))
theorem xKo (t:Tr):stC gl t:=zW1 gl _ t (Nat.lt_succ_self _)
def heC (t:Tr):Prop:=∀(x:IV) (_:IsTr t x) (_:t.steps<=1099511627776) (st:ISt),ICall prog gl 16 [x] st (λr st'=>r=.raw (.int .i64 t.height)/\st'=st)
theorem vXk {l:List Tr}{k:Nat}{a:Tr}(h:l[k]?=some a):yQx (l.take (k+1))=max (yQx (l.take k)) a.height:=by
 rw[yQ5 h,yYe];simp[yQx]
theorem zUn (rule:Nat)(s:Sq)(f:Fm)(u:Tm)(n:ByteArray)(sub:List Tr)(IH:∀a∈sub,heC gl a):heC gl (.mk rule s f u n sub):=by
 intro x hx hst st;have hhs:=xQk (.mk rule s f u n sub);obtain⟨tl,xl,tr,xr,op,fn,ta,xa,tb,xb,v,un,tu,xu,ts,xs,rfl,hru,e1,i1,e2,i2,hy,hz,e3,i3⟩:=hx.mk;simp only[Tr.steps,Tr.height] at hst hhs ⊢;have hlsub:=yZw sub;refine iI func16 ?_;simp only[go_sem];refine LoopC.ctr sub.length (λk fr st' ds=>fr 1=.box [.raw (.int .u8 rule),.sl tl xl,.sl tr xr,.raw (.int .u8 op),.raw (.string fn),.sl ta xa,.sl tb xb,.raw (.bool v),.raw (.string un),.sl tu xu,.raw (.string n),.sl ts xs]/\fr 3=.iv (.raw (.int .i64 ((yQx (sub.take k):Nat):Int)))/\fr 4=.iv (.raw (.int .i64 k))/\st'=st/\ds=[]) ?_ ?_ ?_
 ·simp only[go_sem,zE];simp[yQx]
 ·rintro k fr st1 _ hlt ⟨f1,f3,f4,rfl,rfl⟩;obtain⟨a,ha⟩:=yQ3 hlt;have ham:=lMg ha;obtain⟨z,hkz,hzz⟩:=i3.get ha;have h1:=vXk ha;have hcall:=λst=>IH a ham z hzz (by have:=yZl ham;omega) st;obtain⟨rule',tl',xl',tr',xr',op',fn',ta',xa',tb',xb',v',un',tu',xu',n',ts',xs',rfl⟩:=yKc hzz;simp only[go_sem,zE,zB,zA,f1,f4,i3.len,lt_i hlt,yQ1 e3,iNn,hkz,fits];intro _;refine (hcall _).mono ?_;rintro _ st2 ⟨rfl,rfl⟩;by_cases hg:yQx (sub.take k)<a.height
  ·simp only[go_sem,zE,f1,f3,f4,lt_i hg,yQ9 hlt (show sub.length<=281474976710656 by omega)];rw[h1,Nat.max_eq_right (by omega)]
  ·simp only[go_sem,zE,f1,f3,f4,yQj hg,yQ9 hlt (show sub.length<=281474976710656 by omega)];rw[h1,Nat.max_eq_left (by omega)]
 ·rintro fr st1 _ ⟨f1,f3,f4,rfl,rfl⟩;rw[lTl] at f3;have wH:IntKind.i64.wrap (((yQx sub:Nat):Int)+1)=((1+yQx sub:Nat):Int):=by rw[w64]<;>omega
  simp only[go_sem,zE,f1,f3,f4,i3.len,yQj (nLi _),wH];intro _;exact yQ0 ⟨rfl,rfl⟩
theorem zJi:∀(k:Nat)(t:Tr),SizeOf.sizeOf t<k->heC gl t
 | 0,t,h=>by omega
 | k+1,.mk r sq f u n sub,h=>zUn gl r sq f u n sub (λa ha=>zJi k a (by
   have:=lSm ha;simp at h;omega))
theorem wQ2 (t:Tr):heC gl t:=zJi gl _ t (Nat.lt_succ_self _)
def cuC (t:Tr):Prop:=∀(x:IV) (_:IsTr t x) (_:t.steps<=1099511627776) (st:ISt),ICall prog gl 18 [x] st (λr st'=>r=.raw (.int .i64 t.cuts)/\st'=st)
theorem wWw {l:List Tr}{k:Nat}{a:Tr}(h:l[k]?=some a):yZi (l.take (k+1))=yZi (l.take k)+a.cuts:=by
 rw[yQ5 h,yWk];simp[yZi]
theorem cuLe (l:List Tr)(k:Nat):yZi (l.take k)<=yZi l:=by
 conv=>rhs;rw[<- List.take_append_drop k l]
 rw[yWk];omega
theorem xYe (rule:Nat)(s:Sq)(f:Fm)(u:Tm)(n:ByteArray)(sub:List Tr)(IH:∀a∈sub,cuC gl a):cuC gl (.mk rule s f u n sub):=by
 intro x hx hst st;have hhs:=wX9 (.mk rule s f u n sub);obtain⟨tl,xl,tr,xr,op,fn,ta,xa,tb,xb,v,un,tu,xu,ts,xs,rfl,hru,e1,i1,e2,i2,hy,hz,e3,i3⟩:=hx.mk;simp only[Tr.steps,Tr.cuts] at hst hhs ⊢;have hlsub:=yZw sub;refine iI func18 ?_;by_cases h17:rule=17
 ·have d17:decide (((rule:Nat):Int)=17)=true:=dEt (by omega);have hc:(if rule=17 then 1 else 0)=1:=if_pos h17;rw[hc] at hhs;simp only[go_sem,zE,d17];refine LoopC.ctr sub.length (λk fr st' ds=>fr 1=.box [.raw (.int .u8 rule),.sl tl xl,.sl tr xr,.raw (.int .u8 op),.raw (.string fn),.sl ta xa,.sl tb xb,.raw (.bool v),.raw (.string un),.sl tu xu,.raw (.string n),.sl ts xs]/\fr 3=.iv (.raw (.int .i64 ((1+yZi (sub.take k):Nat):Int)))/\fr 4=.iv (.raw (.int .i64 k))/\st'=st/\ds=[]) ?_ ?_ ?_
  ·simp only[go_sem,zE];simp[yZi]
  ·rintro k fr st1 _ hlt ⟨f1,f3,f4,rfl,rfl⟩;obtain⟨a,ha⟩:=yQ3 hlt;have ham:=lMg ha;obtain⟨z,hkz,hzz⟩:=i3.get ha;have h1:=wWw ha;have h2:=cuLe sub (k+1);have hcall:=λst=>IH a ham z hzz (by have:=yZl ham;omega) st;have w7:IntKind.i64.wrap (((1+yZi (sub.take k):Nat):Int)+((a.cuts:Nat):Int))=((1+yZi (sub.take (k+1)):Nat):Int):=by rw[w64]<;>omega
   have w8:IntKind.i64.wrap (((yZi (sub.take k):Nat):Int)+((a.cuts:Nat):Int))=((yZi (sub.take (k+1)):Nat):Int):=by rw[w64]<;>omega
   obtain⟨rule',tl',xl',tr',xr',op',fn',ta',xa',tb',xb',v',un',tu',xu',n',ts',xs',rfl⟩:=yKc hzz;simp only[go_sem,zE,zB,zA,f1,f3,f4,i3.len,lt_i hlt,yQ1 e3,iNn,hkz,fits];intro _;refine (hcall _).mono ?_;rintro _ st2 ⟨rfl,rfl⟩;simp only[go_sem,zE,f1,f4,w7,yQ9 hlt (show sub.length<=281474976710656 by omega)]
  ·rintro fr st1 _ ⟨f1,f3,f4,rfl,rfl⟩;rw[lTl] at f3;simp only[go_sem,zE,f1,f3,f4,i3.len,yQj (nLi _)];intro _;exact yQ0 ⟨by simp[h17],rfl⟩
 ·have d17:decide (((rule:Nat):Int)=17)=false:=dEf (by omega);have hc:(if rule=17 then 1 else 0)=0:=if_neg h17;rw[hc] at hhs;simp only[go_sem,zE,d17];refine LoopC.ctr sub.length (λk fr st' ds=>fr 1=.box [.raw (.int .u8 rule),.sl tl xl,.sl tr xr,.raw (.int .u8 op),.raw (.string fn),.sl ta xa,.sl tb xb,.raw (.bool v),.raw (.string un),.sl tu xu,.raw (.string n),.sl ts xs]/\fr 3=.iv (.raw (.int .i64 ((0+yZi (sub.take k):Nat):Int)))/\fr 4=.iv (.raw (.int .i64 k))/\st'=st/\ds=[]) ?_ ?_ ?_
  ·simp only[go_sem,zE];simp[yZi]
  ·rintro k fr st1 _ hlt ⟨f1,f3,f4,rfl,rfl⟩;obtain⟨a,ha⟩:=yQ3 hlt;have ham:=lMg ha;obtain⟨z,hkz,hzz⟩:=i3.get ha;have h1:=wWw ha;have h2:=cuLe sub (k+1);have hcall:=λst=>IH a ham z hzz (by have:=yZl ham;omega) st;have w7:IntKind.i64.wrap (((0+yZi (sub.take k):Nat):Int)+((a.cuts:Nat):Int))=((0+yZi (sub.take (k+1)):Nat):Int):=by rw[w64]<;>omega
   have w8:IntKind.i64.wrap (((yZi (sub.take k):Nat):Int)+((a.cuts:Nat):Int))=((yZi (sub.take (k+1)):Nat):Int):=by rw[w64]<;>omega
   obtain⟨rule',tl',xl',tr',xr',op',fn',ta',xa',tb',xb',v',un',tu',xu',n',ts',xs',rfl⟩:=yKc hzz;simp only[go_sem,zE,zB,zA,f1,f3,f4,i3.len,lt_i hlt,yQ1 e3,iNn,hkz,fits];intro _;refine (hcall _).mono ?_;rintro _ st2 ⟨rfl,rfl⟩;simp only[go_sem,zE,f1,f4,w8,yQ9 hlt (show sub.length<=281474976710656 by omega)]
  ·rintro fr st1 _ ⟨f1,f3,f4,rfl,rfl⟩;rw[lTl] at f3;simp only[go_sem,zE,f1,f3,f4,i3.len,yQj (nLi _)];intro _;exact yQ0 ⟨by simp[h17],rfl⟩
theorem zUp:∀(k:Nat)(t:Tr),SizeOf.sizeOf t<k->cuC gl t
 | 0,t,h=>by omega
 | k+1,.mk r sq f u n sub,h=>xYe gl r sq f u n sub (λa ha=>zUp k a (by
   have:=lSm ha;simp at h;omega))
theorem wGc (t:Tr):cuC gl t:=zUp gl _ t (Nat.lt_succ_self _)
theorem yU4 (p:List Nat):∀(i:Nat) (l m:List Tr),yZ0 p i (l++m)=yZ0 p i l++yZ0 p (i+l.length) m
 | i,[],m=>by simp[yZ0]
 | i,a::l,m=>by
  simp only[List.cons_append,yZ0,yU4 p (i+1) l m,List.append_assoc,List.length_cons];rw[show i+1+l.length=i+(l.length+1) by omega]
theorem xWj {p:List Nat}{l:List Tr}{k:Nat}{a:Tr}(h:l[k]?=some a):yZ0 p 0 (l.take (k+1))=yZ0 p 0 (l.take k)++a.walk (p++[k]):=by
 have hk:=(lGs h).1;rw[yQ5 h,yU4];simp only[yZ0,List.append_nil,List.length_take,Nat.zero_add];rw[Nat.min_eq_left (by omega)]
theorem zY3 (p:List Nat)(l:List Tr)(k:Nat):∃m,yZ0 p 0 l=yZ0 p 0 (l.take k)++m:=by
 refine⟨yZ0 p (0+(l.take k).length) (l.drop k),?_⟩;rw[<- yU4,List.take_append_drop]
def fiC (ca:Nat)(t:Tr):Prop:=∀(x:IV) (_:IsTr t x) (_:okT t=true) (_:t.steps<=1000) (p:List Nat) (tg:Tag) (_:okEs tg 1) (_:p.length+t.steps<=3000) (st:ISt),
 ICall prog gl 39 [.raw (.int .u8 ca),x,.sl tg (plI p)] st (λr st'=>(∃tg',r=.tup [.sl tg' (plI (yQy (yZf ca) (t.walk p)).1),.raw (.int .i64 (yQy (yZf ca) (t.walk p)).2)]/\okEs tg' 1)/\st'=st)
set_option maxHeartbeats 1000000 in
theorem wZz (G:Gl gl)(ca:Nat)(rule:Nat)(s:Sq)(f:Fm)(u:Tm)(n:ByteArray)(sub:List Tr)(IH:∀a∈sub,fiC gl ca a):fiC gl ca (.mk rule s f u n sub):=by
 intro x hx hok hst p tg htg hpl st;have hWr:=λst=>wJv gl G ca _ x hx (wQg hok) (zW9 hok) (wK9 hok) (by omega) st;obtain⟨tl,xl,tr,xr,op,fn,ta,xa,tb,xb,v,un,tu,xu,ts,xs,rfl,hru,e1,i1,e2,i2,hy,hz,e3,i3⟩:=hx.mk;have hok2:okTs sub=true:=by
  simp only[okT,bAt] at hok;exact hok.2
 have hwalk:(Tr.mk rule s f u n sub).walk p=(p,.mk rule s f u n sub)::yZ0 p 0 sub:=by simp only[Tr.walk]
 rw[hwalk];simp only[Tr.steps] at hst hpl;have hlsub:=yZw sub;refine ICall.intro (c:=cf prog gl [] [(7,[0,1,2,3,4,5,6,7,9,10,8,11,12,13,14,15,16,17])]) func39 rfl (by show _<=46;simp) (by kernel_rfl) ?_;simp only[go_sem,zE,zA,zL,reduceCtorEq];refine (hWr _).mono ?_;rintro _ st ⟨rfl,rfl⟩;by_cases h0:yZf ca (.mk rule s f u n sub)=0
 case neg =>
  have k0:decide (((yZf ca (.mk rule s f u n sub):Nat):Int)=0)=false:=dEf (by omega);have hq:yQy (yZf ca) ((p,.mk rule s f u n sub)::yZ0 p 0 sub)=(p,yZf ca (.mk rule s f u n sub)):=by simp only[yQy,if_neg h0]
  rw[hq];simp only[go_sem,zE,k0];exact yQ0 ⟨⟨_,rfl,htg⟩,rfl⟩
 have k0:decide (((yZf ca (.mk rule s f u n sub):Nat):Int)=0)=true:=dEt (by omega);have hq:yQy (yZf ca) ((p,.mk rule s f u n sub)::yZ0 p 0 sub)=yQy (yZf ca) (yZ0 p 0 sub):=by simp only[yQy,if_pos h0]
 rw[hq];simp only[go_sem,k0];refine LoopC.ctr sub.length (λk fr st' ds=>yQy (yZf ca) (yZ0 p 0 (sub.take k))=([],0)/\subSt st st'/\fr 0=.iv (.raw (.int .u8 ca))/\fr 2=.iv (.sl tg (plI p))/\fr 4=.box [.raw (.int .u8 rule),.sl tl xl,.sl tr xr,.raw (.int .u8 op),.raw (.string fn),.sl ta xa,.sl tb xb,.raw (.bool v),.raw (.string un),.sl tu xu,.raw (.string n),.sl ts xs]/\fr 9=.iv (.raw (.int .i64 k))/\ds=[]) ?_ ?_ ?_
 ·simp only[go_sem,zE,reduceCtorEq];exact⟨rfl,subSt.refl _,rfl⟩
 ·rintro k fr st1 _ hlt ⟨hk,hsub,f0,f2,f4,f9,rfl⟩;obtain⟨a,ha⟩:=yQ3 hlt;have ham:=lMg ha;obtain⟨z,hkz,hzz⟩:=i3.get ha;have hsa:=yZl ham;have hIH:=λtg ht st=>IH a ham z hzz (yGf hok2 ham) (by omega) (p++[k]) tg ht (by simp only[lLa,List.length_cons,List.length_nil];omega) st;have hat:=xWj (p:=p) ha;obtain⟨mm,hmm⟩:=zY3 p sub (k+1);have hpk:plI (p++[k])=plI p++[.raw (.int .i64 k)]:=by simp[plI]
  have hfit:(plI p).all (fits false 1)=true:=by
   rw[List.all_eq_true];intro y hy;obtain⟨i,_,rfl⟩:=List.mem_map.1 hy;rfl
  obtain⟨rule',tl',xl',tr',xr',op',fn',ta',xa',tb',xb',v',un',tu',xu',n',ts',xs',rfl⟩:=yKc hzz;rw[hpk] at hIH;simp only[go_sem,zE,zB,zA,zM,zL,reduceCtorEq,f0,f2,f4,f9,i3.len,lt_i hlt,yQ1 e3,iNn,hkz,fits,yQ2,show yV6 0 []=true from rfl];intros;refine yG7 (n:=0) (own.full st1 st 0 1) rfl (yKj p) hsub rfl hfit (by simp only;omega) (by omega) λtg2 st4 hown2 hsub4 _=>?_;simp only[go_sem,zE,zA];refine yZz hown2 (by simp[yKj]) hsub4 rfl (by simp[fits,IV.one]) (by simp only;omega) (by omega) λtg3 st5 hown3 hsub5 _ _=>?_;have hcall:=hIH tg3 hown3.es st5;simp only[go_sem,zE,zA];refine hcall.mono ?_;rintro _ _ ⟨⟨tg6,rfl,htg6⟩,rfl⟩;by_cases hz0:(yQy (yZf ca) (a.walk (p++[k]))).2=0
  ·have k2:decide ((((yQy (yZf ca) (a.walk (p++[k]))).2:Nat):Int)=0)=true:=dEt (by omega);simp only[go_sem,zE,reduceCtorEq,f0,f2,f4,f9,k2,yQ9 hlt (show sub.length<=281474976710656 by omega)];refine⟨?_,hsub5⟩;rw[hat,yXu,hk];simp only[if_true];exact zQm _ _ hz0
  ·have k2:decide ((((yQy (yZf ca) (a.walk (p++[k]))).2:Nat):Int)=0)=false:=dEf (by omega);have hres:yQy (yZf ca) (yZ0 p 0 sub)=yQy (yZf ca) (a.walk (p++[k])):=by
    rw[hmm,yXu,hat,yXu,hk];simp only[if_true,if_neg hz0]
   simp only[go_sem,zE,k2];exact yQa (st':=st) hsub5 ⟨⟨_,by rw[hres],htg6⟩,rfl⟩
 ·rintro fr st1 _ ⟨hk,hsub,f0,f2,f4,f9,rfl⟩;rw[lTl] at hk;rw[hk];simp only[go_sem,zE,f4,f9,i3.len,yQj (nLi _)];intros;exact yQa (st':=st) hsub ⟨⟨_,rfl,.inl rfl⟩,rfl⟩
theorem xW0 (G:Gl gl)(ca:Nat):∀(k:Nat) (t:Tr),SizeOf.sizeOf t<k->fiC gl ca t
 | 0,t,h=>by omega
 | k+1,.mk r sq f u n sub,h=>wZz gl G ca r sq f u n sub (λa ha=>xW0 G ca k a (by
   have:=lSm ha;simp at h;omega))
theorem wJy (G:Gl gl)(ca:Nat)(t:Tr)(x:IV)(hx:IsTr t x)(hok:okT t=true)(hst:t.steps<=1000)(st:ISt) :
  ICall prog gl 11 [.raw (.int .u8 ca),x] st (λr st'=>(∃tg,r=.tup [.sl tg (plI (yXk ca t).1),.raw (.int .i64 (yXk ca t).2)]/\okEs tg 1)/\st'=st):=by
 have hF:=λst=>xW0 gl G ca _ t (Nat.lt_succ_self _) x hx hok hst [] ⟨true,.nil,0⟩ (.inl rfl) (by simp only[List.length_nil];omega) st;have hS:=λst=>xKo gl t x hx (by omega) st;obtain⟨rule',tl',xl',tr',xr',op',fn',ta',xa',tb',xb',v',un',tu',xu',n',ts',xs',rfl⟩:=yKc hx;have k1:decide (((ca:Nat):Int)<1)=decide (ca<1):=by rw[decide_eq_decide];omega
 have k2:decide ((3:Int)<((ca:Nat):Int))=decide (3<ca):=by rw[decide_eq_decide];omega
 refine iI func11 ?_;cases hk:yXo ca
 ·rw[zX9 ca t hk];by_cases q1:ca<1
  ·have q1:=dEt q1;simp only[go_sem,zE,reduceCtorEq,k1,q1];intros;exact yQ0 ⟨⟨_,rfl,.inl rfl⟩,rfl⟩
  ·have q2:decide (3<ca)=true:=dEt (by simp only[yXo,Bool.and_eq_false_iff,decide_eq_false_iff_not] at hk;omega);have q1:=dEf q1;simp only[go_sem,zE,reduceCtorEq,k1,k2,q1,q2];intros;exact yQ0 ⟨⟨_,rfl,.inl rfl⟩,rfl⟩
 have hkk:=hk;simp only[yXo,bAt,dTe] at hkk;have q1:decide (ca<1)=false:=dEf (by omega);have q2:decide (3<ca)=false:=dEf (by omega);simp only[go_sem,zE,zA,zL,reduceCtorEq,k1,k2,q1,q2];intros;refine (hS _).mono ?_;rintro _ st ⟨rfl,rfl⟩;by_cases h3:300<t.steps
 ·have k3:decide ((300:Int)<((t.steps:Nat):Int))=true:=dEt (by omega);have hC:yXk ca t=([],5):=by unfold yXk;rw[hk,if_pos h3];rfl
  rw[hC];simp only[go_sem,zE,k3];exact yQ0 ⟨⟨_,rfl,.inl rfl⟩,rfl⟩
 ·have k3:decide ((300:Int)<((t.steps:Nat):Int))=false:=dEf (by omega);have hC:yXk ca t=yQy (yZf ca) (t.walk []):=by unfold yXk;rw[hk,if_neg h3];rfl
  rw[hC];simp only[go_sem,zE,zA,zL,reduceCtorEq,k3];refine (hF _).mono ?_;rintro _ st ⟨⟨tg,rfl,htg⟩,rfl⟩;simp only[go_sem,zE];exact yQ0 ⟨⟨_,rfl,htg⟩,rfl⟩
