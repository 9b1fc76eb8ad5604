/- Walks: the makers of lyceumlaw19, to the -/
import Derived.Test.YtabhgbojkjcfjaaGreatDoorQD
set_option linter.all false
open Nat renaming reduceEqDiff → zE,reduceBEq → zB,reduceAdd → zA,reduceMul → zM,reduceSub → zS,reduceLeDiff → zL
namespace Go.Proofs.Tryz
open Go Go.Iv
set_option maxRecDepth 4000
variable (gl:Nat->Option IV)
theorem q_p (n:ByteArray)(t:Tag)(xs:List IV)(st:ISt):ICall prog gl 18 [.raw (.string n),.sl t xs] st (λr st'=>r=.agg [.raw (.int .u8 1),.raw (.string n),.sl t xs,.sl ⟨true,.nil,0⟩ []]/\st'=st):=by
 refine iI func18 ?_;simp only[go_sem,zE,zA,zL,reduceCtorEq,fits];exact yQ0 ⟨rfl,rfl⟩
theorem q_no (o:Int)(n:ByteArray)(t:Tag)(x:List IV)(t':Tag)(x':List IV)(st:ISt):ICall prog gl 19 [.agg [.raw (.int .u8 o),.raw (.string n),.sl t x,.sl t' x']] st
  (λr st'=>r=.agg [.raw (.int .u8 3),.raw (.string ⟨#[]⟩),.sl ⟨true,.nil,0⟩ [],.sl ⟨true,.full,4⟩ [.agg [.raw (.int .u8 o),.raw (.string n),.sl t x,.sl t' x']]]/\st'=st):=by
 refine iI func19 ?_;simp only[go_sem,zE,zA,zM,zL,fits,yQ5];exact yQ0 ⟨rfl,rfl⟩
theorem xZg (op o:Int)(n:ByteArray)(t:Tag)(x:List IV)(t':Tag)(x':List IV)(o2:Int)(n2:ByteArray)(t2:Tag)(x2:List IV)(t2':Tag)(x2':List IV)(st:ISt) :
  ICall prog gl 20 [.raw (.int .u8 op),.agg [.raw (.int .u8 o),.raw (.string n),.sl t x,.sl t' x'],.agg [.raw (.int .u8 o2),.raw (.string n2),.sl t2 x2,.sl t2' x2']] st
  (λr st'=>r=.agg [.raw (.int .u8 op),.raw (.string ⟨#[]⟩),.sl ⟨true,.nil,0⟩ [],.sl ⟨true,.full,4⟩ [.agg [.raw (.int .u8 o),.raw (.string n),.sl t x,.sl t' x'],.agg [.raw (.int .u8 o2),.raw (.string n2),.sl t2 x2,.sl t2' x2']]]/\st'=st):=by
 refine iI func20 ?_;simp only[go_sem,zE,zA,zM,zL,reduceCtorEq,fits,yQn];exact yQ0 ⟨rfl,rfl⟩
theorem q_fs (t:Tag)(xs:List IV)(st:ISt):ICall prog gl 13 [.sl t xs] st (λr st'=>r=.sl t xs/\st'=st):=by
 refine iI func13 ?_;simp only[go_sem,reduceCtorEq];exact yQ0 ⟨rfl,rfl⟩
theorem q_sq (t:Tag)(xs:List IV)(t':Tag)(ys:List IV)(st:ISt):ICall prog gl 39 [.sl t xs,.sl t' ys] st (λr st'=>r=.agg [.sl t xs,.sl t' ys]/\st'=st):=by
 refine iI func39 ?_;simp only[go_sem,zE,zA,zL,reduceCtorEq,fits];exact yQ0 ⟨rfl,rfl⟩
theorem q_v (n:ByteArray)(st:ISt):ICall prog gl 40 [.raw (.string n)] st (λr st'=>r=.agg [.raw (.bool true),.raw (.string n),.sl ⟨true,.nil,0⟩ []]/\st'=st):=by
 refine iI func40 ?_;simp only[go_sem,zE,zA,zL,reduceCtorEq,fits];exact yQ0 ⟨rfl,rfl⟩
mutual
def wTm:Tm->Nat
 | .mk _ n us=>1+n.size / 20+wTms us
def wTms:List Tm->Nat
 | []=>0
 | a::l=>wTm a+wTms l
end
mutual
def wFm:Fm->Nat
 | .mk _ n us sub=>1+n.size / 20+wTms us+wFms sub
def wFms:List Fm->Nat
 | []=>0
 | a::l=>wFm a+wFms l
end
theorem yGq:∀l m:List Tm,wTms (l++m)=wTms l+wTms m
 | [],m=>by simp[wTms]
 | a::l,m=>by simp only[List.cons_append,wTms,yGq l m];omega
theorem xYx {l:List Tm}{k:Nat}{a:Tm}(h:l[k]?=some a):wTms (l.take (k+1))=wTms (l.take k)+wTm a:=by
 rw[yQ6 h,yGq];simp[wTms]
theorem xYy (l:List Tm)(k:Nat):wTms (l.take k)<=wTms l:=by
 conv=>rhs;rw[<- List.take_append_drop k l]
 rw[yGq];omega
theorem yGr:∀l m:List Fm,wFms (l++m)=wFms l+wFms m
 | [],m=>by simp[wFms]
 | a::l,m=>by simp only[List.cons_append,wFms,yGr l m];omega
theorem xYz {l:List Fm}{k:Nat}{a:Fm}(h:l[k]?=some a):wFms (l.take (k+1))=wFms (l.take k)+wFm a:=by
 rw[yQ6 h,yGr];simp[wFms]
theorem xG0 (l:List Fm)(k:Nat):wFms (l.take k)<=wFms l:=by
 conv=>rhs;rw[<- List.take_append_drop k l]
 rw[yGr];omega
def Sum (w:Nat)(lim:Int)(r:IV):Prop:=∃n:Nat,r=.raw (.int .i64 n)/\n<=w/\((n:Int)<=lim->n=w)
def tC (us:List Tm):Prop:=∀(t:Tag) (xs:List IV) (_:okEs t 3) (_:IsTms us xs) (lim:Int) (_:-1<=lim/\lim<=1000) (_:wTms us<=1099511627776) (st:ISt),
 ICall prog gl 44 [.sl t xs,.raw (.int .i64 lim)] st (λr st'=>Sum (wTms us) lim r/\st'=st)
theorem xZf (us:List Tm)(IH:∀v n l,Tm.mk v n l∈us->tC gl l):tC gl us:=by
 intro t xs ht hx lim hlim hw st;refine iI func44 ?_;simp only[go_sem];refine LoopC.ctr us.length (λk fr st' ds=>(∃n:Nat,fr 5=.iv (.raw (.int .i64 n))/\n<=wTms (us.take k)/\((n:Int)<=lim->n=wTms (us.take k)))/\fr 0=.iv (.sl t xs)/\fr 1=.iv (.raw (.int .i64 lim))/\fr 6=.iv (.raw (.int .i64 k))/\st'=st/\ds=[]) ?_ ?_ ?_
 ·simp only[go_sem,zE,reduceCtorEq];exact⟨⟨0,rfl,Nat.le_refl _,λ_=>rfl⟩,rfl⟩
 ·rintro k fr st1 _ hlt ⟨⟨n,f5,hn1,hn2⟩,f0,f1,f6,rfl,rfl⟩;obtain⟨a,ha⟩:=yQ4 hlt;obtain⟨x,hkx,hxa⟩:=hx.get ha;obtain⟨v2,n2,l2⟩:=a;obtain⟨tx,cx,rfl,htx,hcx⟩:=hxa.mk;have hwt:=xYx ha;have hwl:=xYy us (k+1);have hwk:=xYy us k;simp only[wTm] at hwt;by_cases hle:(n:Int)<=lim
  ·have hnk:=hn2 hle;have hcall:=λst=>IH _ _ _ (lMg ha) tx cx htx hcx (lim-n-1) ⟨by omega,by omega⟩ (by omega) st;have hq:IntKind.i64.wrap (((n2.size:Nat):Int).tdiv 20)=((n2.size / 20:Nat):Int):=by
    have:((n2.size:Nat):Int).tdiv 20=((n2.size / 20:Nat):Int):=rfl;rw[this,w64 (by omega) (by omega)]
   have hz:¬ ((20:Int)=0):=by decide
   generalize n2.size / 20=q at hq hwt;have w1:IntKind.i64.wrap (1+((q:Nat):Int))=((1+q:Nat):Int):=by rw[w64]<;>omega
   have w2:IntKind.i64.wrap (IntKind.i64.wrap (lim-(n:Int))-1)=lim-n-1:=by rw[w64 (n:=lim-n) (by omega) (by omega),w64 (by omega) (by omega)]
   simp only[go_sem,zE,zA,reduceCtorEq,f0,f1,f5,f6,hx.len,lt_i hlt,dEt hle,yQ1 ht,iNn,hkx,fits,hq,hz,w1,w2];intro _;refine (hcall _).mono ?_;rintro _ st2 ⟨⟨m,rfl,hm1,hm2⟩,rfl⟩;have w3:IntKind.i64.wrap (((1+q:Nat):Int)+(m:Int))=((1+q+m:Nat):Int):=by rw[w64]<;>omega
   have w4:IntKind.i64.wrap ((n:Int)+((1+q+m:Nat):Int))=((n+(1+q+m):Nat):Int):=by rw[w64]<;>omega
   simp only[go_sem,zE,reduceCtorEq,f0,f1,f6,w3,w4,yQf hlt (show us.length<=281474976710656 by omega)];exact⟨n+(1+q+m),rfl,by omega,λh=>by have:=hm2 (by omega);omega⟩
  ·simp only[go_sem,zE,reduceCtorEq,f0,f1,f5,f6,hx.len,lt_i hlt,dEf hle];intro _;exact yQ0 ⟨⟨n,rfl,by omega,λh=>absurd h hle⟩,rfl⟩
 ·rintro fr st1 _ ⟨⟨n,f5,hn1,hn2⟩,f0,f1,f6,rfl,rfl⟩;rw[lTl] at hn1 hn2;simp only[go_sem,zE,reduceCtorEq,f0,f5,f6,hx.len,yQs (nLi _)];intro _;exact yQ0 ⟨⟨n,rfl,hn1,hn2⟩,rfl⟩
theorem zV8:∀(k:Nat)(us:List Tm),SizeOf.sizeOf us<k->tC gl us
 | 0,f,h=>by omega
 | k+1,us,h=>xZf gl us (λv n l ha=>zV8 k l (by
   have:=lSm ha;simp at this;omega))
theorem xK0 (us:List Tm):tC gl us:=zV8 gl _ us (Nat.lt_succ_self _)
def zC (us:List Fm):Prop:=∀(t:Tag) (xs:List IV) (_:okEs t 4) (_:IsFms us xs) (lim:Int) (_:-1<=lim/\lim<=1000) (_:wFms us<=1099511627776) (st:ISt),
 ICall prog gl 12 [.sl t xs,.raw (.int .i64 lim)] st (λr st'=>Sum (wFms us) lim r/\st'=st)
theorem xWg (us:List Fm)(IH:∀o n l m,Fm.mk o n l m∈us->zC gl m):zC gl us:=by
 intro t xs ht hx lim hlim hw st;refine ICall.intro (c:=cf prog gl [] [(5,[0,1,2,3,4,5,6,7,8,9,10,11,12,13,14,15,16,19,20,21,22,23,24,25,26,27,17,18,28,29,30,31])]) func12 rfl (by show _<=50;simp) (by kernel_rfl) ?_;simp only[go_sem];refine LoopC.ctr us.length (λk fr st' ds=>(∃n:Nat,fr 5=.iv (.raw (.int .i64 n))/\n<=wFms (us.take k)/\((n:Int)<=lim->n=wFms (us.take k)))/\fr 0=.iv (.sl t xs)/\fr 1=.iv (.raw (.int .i64 lim))/\fr 6=.iv (.raw (.int .i64 k))/\st'=st/\ds=[]) ?_ ?_ ?_
 ·simp only[go_sem,zE,reduceCtorEq];exact⟨⟨0,rfl,Nat.le_refl _,λ_=>rfl⟩,rfl⟩
 ·rintro k fr st1 _ hlt ⟨⟨n,f5,hn1,hn2⟩,f0,f1,f6,rfl,rfl⟩;obtain⟨a,ha⟩:=yQ4 hlt;obtain⟨x,hkx,hxa⟩:=hx.get ha;obtain⟨o2,n2,l2,m2⟩:=a;obtain⟨tx,cx,ty,cy,rfl,_,htx,hcx,hty,hcy⟩:=hxa.mk;have hwt:=xYz ha;have hwl:=xG0 us (k+1);have hwk:=xG0 us k;simp only[wFm] at hwt;by_cases hle:(n:Int)<=lim
  ·have hnk:=hn2 hle;have hcall:=λst=>IH _ _ _ _ (lMg ha) ty cy hty hcy (lim-n-1) ⟨by omega,by omega⟩ (by omega) st;have hterm:=λst=>xK0 gl l2 tx cx htx hcx (lim-n) ⟨by omega,by omega⟩ (by omega) st;have hq:IntKind.i64.wrap (((n2.size:Nat):Int).tdiv 20)=((n2.size / 20:Nat):Int):=by
    have:((n2.size:Nat):Int).tdiv 20=((n2.size / 20:Nat):Int):=rfl;rw[this,w64 (by omega) (by omega)]
   have hz:¬ ((20:Int)=0):=by decide
   generalize n2.size / 20=q at hq hwt;have w1:IntKind.i64.wrap (1+((q:Nat):Int))=((1+q:Nat):Int):=by rw[w64]<;>omega
   have w0:IntKind.i64.wrap (lim-(n:Int))=lim-n:=w64 (by omega) (by omega);have w2:IntKind.i64.wrap (lim-(n:Int)-1)=lim-n-1:=w64 (by omega) (by omega);simp only[go_sem,zE,zA,reduceCtorEq,f0,f1,f5,f6,hx.len,lt_i hlt,dEt hle,yQ1 ht,iNn,hkx,fits,hq,hz,w1,w0,w2];intro _;refine (hterm _).mono ?_;rintro _ st2 ⟨⟨m1,rfl,hm1,hm1'⟩,rfl⟩;have w3:IntKind.i64.wrap (((1+q:Nat):Int)+(m1:Int))=((1+q+m1:Nat):Int):=by rw[w64]<;>omega
   simp only[go_sem,zE,zA,w3];refine (hcall _).mono ?_;rintro _ st2 ⟨⟨m,rfl,hm,hm'⟩,rfl⟩;have w4:IntKind.i64.wrap (((1+q+m1:Nat):Int)+(m:Int))=((1+q+m1+m:Nat):Int):=by rw[w64]<;>omega
   have w5:IntKind.i64.wrap ((n:Int)+((1+q+m1+m:Nat):Int))=((n+(1+q+m1+m):Nat):Int):=by rw[w64]<;>omega
   simp only[go_sem,zE,reduceCtorEq,f0,f1,f6,w4,w5,yQf hlt (show us.length<=281474976710656 by omega)];exact⟨n+(1+q+m1+m),rfl,by omega,λh=>by have:=hm1' (by omega);have:=hm' (by omega);omega⟩
  ·simp only[go_sem,zE,reduceCtorEq,f0,f1,f5,f6,hx.len,lt_i hlt,dEf hle];intro _;exact yQ0 ⟨⟨n,rfl,by omega,λh=>absurd h hle⟩,rfl⟩
 ·rintro fr st1 _ ⟨⟨n,f5,hn1,hn2⟩,f0,f1,f6,rfl,rfl⟩;rw[lTl] at hn1 hn2;simp only[go_sem,zE,reduceCtorEq,f0,f5,f6,hx.len,yQs (nLi _)];intro _;exact yQ0 ⟨⟨n,rfl,hn1,hn2⟩,rfl⟩
theorem zGq:∀(k:Nat)(us:List Fm),SizeOf.sizeOf us<k->zC gl us
 | 0,f,h=>by omega
 | k+1,us,h=>xWg gl us (λo n l m ha=>zGq k m (by
   have:=lSm ha;simp at this;omega))
theorem zXr (us:List Fm):zC gl us:=zGq gl _ us (Nat.lt_succ_self _)
theorem uWp (s:Sq)(x:IV)(hx:IsSq s x)(hw:wFms s.l<=1099511627776/\wFms s.r<=1099511627776)(st:ISt):ICall prog gl 11 [x] st (λr st'=>(r=.raw (.bool (decide (wFms s.l+wFms s.r<=300))))/\st'=st):=by
 obtain⟨t1,x1,t2,x2,rfl,e1,i1,e2,i2⟩:=hx;have h1:=λst=>zXr gl s.l t1 x1 e1 i1 300 ⟨by omega,by omega⟩ hw.1 st;have h2:=λst=>zXr gl s.r t2 x2 e2 i2 300 ⟨by omega,by omega⟩ hw.2 st;refine ICall.intro (c:=cf prog gl [] [(1,[0,1,3,4,2,5,6,7,8])]) func11 rfl (by show _<=11;simp) (by kernel_rfl) ?_;simp only[go_sem,zE,zA];refine (h1 _).mono ?_;rintro _ st2 ⟨⟨n,rfl,hn1,hn2⟩,rfl⟩;simp only[go_sem,zE,zA];refine (h2 _).mono ?_;rintro _ st2 ⟨⟨m,rfl,hm1,hm2⟩,rfl⟩;have w:IntKind.i64.wrap ((n:Int)+(m:Int))=((n+m:Nat):Int):=by rw[w64]<;>omega
 have hd:decide (((n+m:Nat):Int)<=300)=decide (wFms s.l+wFms s.r<=300):=by
  rw[decide_eq_decide];constructor
  ·intro h;have:=hn2 (by omega);have:=hm2 (by omega);omega
  ·intro h;omega
 simp only[go_sem,zE,w,hd];exact yQ0 ⟨rfl,rfl⟩
def plI (p:List Nat):List IV:=p.map λ(i:Nat)=>.raw (.int .i64 (i:Int))
theorem yV3 (p:List Nat):(plI p).length=p.length:=by simp[plI]
def emp:ISt:=λ_=>none
def PlV (p:List Nat)(a:IV)(e:ISt):Prop :=
 (∃t,a=.sl t []/\t.cap=.nil/\p=[]/\e=emp) \/
 ∃g cap cs,a=.raw (.slice (some ⟨g,0,none⟩) p.length cap)/\e=emp.put g (some (.box cs))/\p.length<=cap/\cap<=cs.length/\cs.take p.length=plI p
def lkT (l:List (List Nat×Tr))(k:Nat)(zs:List IV)(e:ISt):Prop:=∃p t a x,l[k]?=some (p,t)/\IsTr t x/\PlV p a e/\zs=[a,.cptr x]
def xXc (b2 b3 b4:Nat):IV:=.fn (.func 118) [] [.raw (.pointer (some ⟨b2,0,none⟩)),.raw (.pointer (some ⟨b3,0,none⟩)),.raw (.pointer (some ⟨b4,0,none⟩))]
def ownF (b2 b3 b4:Nat)(fy a:IV):ISt:=((emp.put b2 (some (.box [fy]))).put b3 (some (.box [a]))).put b4 (some (.box [xXc b2 b3 b4]))
section
variable {b2 b3 b4:Nat}{fy a:IV}
theorem wW3 (h3:b2≠b3)(h4:b2≠b4):ownF b2 b3 b4 fy a b2=some (.box [fy]):=by simp only[ownF,ISt.put_apply,if_neg h3,if_neg h4,if_true]
theorem yGl (h4:b3≠b4):ownF b2 b3 b4 fy a b3=some (.box [a]):=by simp only[ownF,ISt.put_apply,if_neg h4,if_true]
theorem zGx:ownF b2 b3 b4 fy a b4=some (.box [xXc b2 b3 b4]):=by simp only[ownF,ISt.put_apply,if_true]
theorem xK4 {c:Nat}(h2:c≠b2)(h3:c≠b3)(h4:c≠b4):ownF b2 b3 b4 fy a c=none:=by simp only[ownF,ISt.put_apply,if_neg h2,if_neg h3,if_neg h4,emp]
theorem zZl {c:Nat}(a':IV):ownF b2 b3 b4 fy a c=none↔ownF b2 b3 b4 fy a' c=none:=by
 simp only[ownF,ISt.put_apply];by_cases h4:c=b4
 ·simp[h4]
 ·by_cases h3:c=b3
  ·subst h3;simp only[if_neg h4,if_true,reduceCtorEq]
  ·simp[h4,h3]
end
def xQg (b2 b3 b4:Nat)(fy:IV)(p:List Nat)(s stt:ISt):Prop:=∃a e,PlV p a e/\disj s e/\disj (join s e) (ownF b2 b3 b4 fy a)/\stt=join (join s e) (ownF b2 b3 b4 fy a)
def FOkL (y:IV)(I:Nat->ISt->Prop)(S:ISt->Prop)(k0:Nat)(l:List (List Nat×Tr)):Prop :=
 ∀i p t x a e stu,l[i]?=some (p,t)->IsTr t x->PlV p a e->disj stu e->I (k0+i) stu →
  ICallV prog gl y [a,.cptr x] (join stu e) λr st'=>(r=.raw (.bool true)/\∃s1,I (k0+i+1) s1/\disj s1 e/\st'=join s1 e)\/(r=.raw (.bool false)/\S st')
section
variable {gl}{y:IV}{I:Nat->ISt->Prop}{S:ISt->Prop}{k0:Nat}
theorem FOkL.left {l m:List (List Nat×Tr)}(h:FOkL gl y I S k0 (l++m)):FOkL gl y I S k0 l:=λi p t x a e stu hi =>
 h i p t x a e stu (by rw[List.getElem?_append_left (lGs hi).1];exact hi)
theorem FOkL.right {l m:List (List Nat×Tr)}(h:FOkL gl y I S k0 (l++m)):FOkL gl y I S (k0+l.length) m:=λi p t x a e stu hi hx hp hd hI=>by
 have:=h (l.length+i) p t x a e stu (by rw[List.getElem?_append_right (by omega)];simpa using hi) hx hp hd (by rw[<- Nat.add_assoc];exact hI);simpa only[Nat.add_assoc] using this
theorem FOkL.tail {z:List Nat×Tr}{m:List (List Nat×Tr)}(h:FOkL gl y I S k0 (z::m)):FOkL gl y I S (k0+1) m:=FOkL.right (l:=[z]) h
end
section
variable {b2 b3 b4:Nat}{fy a a':IV}{p:List Nat}{s:ISt}{g:Nat}
theorem zY3 {c:Nat}(h:c≠b3):ownF b2 b3 b4 fy a c=ownF b2 b3 b4 fy a' c:=by simp only[ownF,ISt.put_apply,if_neg h]
theorem xU7 {cs:List IV}(h34:b3≠b4)(hs:disj s (ownF b2 b3 b4 fy a))(hg1:s g=none)(hg2:ownF b2 b3 b4 fy a g=none)(hp:PlV p a' (emp.put g (some (.box cs)))) :
  xQg b2 b3 b4 fy p s (((join s (ownF b2 b3 b4 fy a)).put g (some (.box cs))).put b3 (some (.box [a']))):=by
 have hg3:ownF b2 b3 b4 fy a' g=none:=(zZl a').1 hg2;refine⟨a',_,hp,λb hb=>?_,λb hb=>?_,?_⟩
 ·rw[ISt.put_apply] at hb;split at hb
  ·rename_i h;rw[h];exact hg1
  ·exact absurd rfl hb
 ·have hbg:b≠g:=by rintro rfl;exact hb hg3
  have he:(emp.put g (some (.box cs))) b=none:=by rw[ISt.put_apply,if_neg hbg];rfl
  rw[yQz he];exact hs b λh=>hb ((zZl a').1 h)
 ·funext c;by_cases h3:c=b3
  ·rw[ISt.put_apply,if_pos h3,h3,yQw (yGl h34)]
  ·rw[ISt.put_apply,if_neg h3,ISt.put_apply];by_cases hc:c=g
   ·rw[if_pos hc,hc,yQz hg3,yQw (ISt.put_same ..)]
   ·rw[if_neg hc];have he:(emp.put g (some (.box cs))) c=none:=by rw[ISt.put_apply,if_neg hc];rfl
    cases ho:ownF b2 b3 b4 fy a c with
    | some o=>rw[yQw ho,yQw ((zY3 h3).symm.trans ho)]
    | none=>rw[yQz ho,yQz ((zY3 h3).symm.trans ho),yQz he]
theorem wGv {cs:List IV}(hd1:s g=none)(hd2:ownF b2 b3 b4 fy a g=none):(join (join s (emp.put g (some (.box cs)))) (ownF b2 b3 b4 fy a)).put g none=join s (ownF b2 b3 b4 fy a):=by
 funext c;rw[ISt.put_apply];split
 ·rename_i h;rw[h,yQz hd2,hd1]
 ·rename_i h;have he:(emp.put g (some (.box cs))) c=none:=by rw[ISt.put_apply,if_neg h];rfl
  cases ho:ownF b2 b3 b4 fy a c with
  | some o=>rw[yQw ho,yQw ho]
  | none=>rw[yQz ho,yQz ho,yQz he]
end
theorem PlV.cons {p:List Nat}{k:Nat}{a:IV}{e:ISt}(h:PlV (p++[k]) a e):∃g cap cs,a=.raw (.slice (some ⟨g,0,none⟩) (p.length+1) cap)/\e=emp.put g (some (.box cs))/\p.length+1<=cap/\cap<=cs.length/\cs.take p.length=plI p:=by
 rcases h with⟨t,_,_,h,_⟩|⟨g,cap,cs,rfl,rfl,h1,h2,h3⟩
 ·simp at h
 ·rw[lLa] at h1 h3 ⊢;refine⟨g,cap,cs,rfl,rfl,h1,h2,?_⟩;have:=congrArg (List.take p.length) h3;rw[List.take_take,show min p.length (p.length+[k].length)=p.length by omega] at this;rw[this];unfold plI;rw[List.map_append,List.take_left' (by simp)]
theorem wVw {b2 b3 b4:Nat}{fy a a':IV}{X:ISt}(h34:b3≠b4):(join X (ownF b2 b3 b4 fy a)).put b3 (some (.box [a']))=join X (ownF b2 b3 b4 fy a'):=by
 funext c;rw[ISt.put_apply];split
 ·rename_i h;rw[h,yQw (yGl h34)]
 ·rename_i h;cases ho:ownF b2 b3 b4 fy a c with
  | some o=>rw[yQw ho,yQw ((zY3 h).symm.trans ho)]
  | none=>rw[yQz ho,yQz ((zY3 h).symm.trans ho)]
theorem zV3 {n m:Nat}(h:n+1<=m):yJ5 none (some ((n:Nat):Int)) m=some (0,n):=by
 simp only[yJ5,Option.getD_none,Option.getD_some];rw[if_pos ⟨Int.le_refl _,by omega,by omega⟩];simp
theorem zVu:∀ {l:List Tr}{t:Tr},t∈l->t.height<=yZm l
 | a::l,t,h=>by
  simp only[yZm];rcases List.mem_cons.1 h with rfl|h
  ·omega
  ·have:=zVu h;omega
theorem zJa (x:Operand):yQi 1 [(0,x)]=true:=rfl
theorem yK9 (p:List Nat):∀(i:Nat) (l m:List Tr),yZb p i (l++m)=yZb p i l++yZb p (i+l.length) m
 | i,[],m=>by simp[yZb]
 | i,a::l,m=>by
  simp only[List.cons_append,yZb,yK9 p (i+1) l m,List.append_assoc,List.length_cons];rw[show i+1+l.length=i+(l.length+1) by omega]
def FF (t:Tr):Prop:=∀(x:IV) (_:IsTr t x) (b2 b3 b4:Nat) (_:b2≠b3) (_:b2≠b4) (_:b3≠b4) (g:Fn) (fi ca:List IV) (_:fnOk g=true) (_:∀i,g=.func i->entI prog i=true) (I:Nat->ISt->Prop) (S:ISt->Prop) (k0:Nat) (p:List Nat)
  (_:FOkL gl (.fn g fi ca) I S k0 (t.walk p)) (_:p.length+t.height<=1099511627776) (s stt:ISt) (_:I k0 s) (_:xQg b2 b3 b4 (.fn g fi ca) p s stt),
  ICall prog gl 118 [.cptr x,.raw (.pointer (some ⟨b2,0,none⟩)),.raw (.pointer (some ⟨b3,0,none⟩)),.raw (.pointer (some ⟨b4,0,none⟩))] stt
   (λr st'=>(r=.raw (.bool true)/\∃s1,I (k0+(t.walk p).length) s1/\xQg b2 b3 b4 (.fn g fi ca) p s1 st')\/(r=.raw (.bool false)/\∃s1,S s1/\subSt s1 st'))
theorem wQy (rule:Nat)(sq:Sq)(f:Fm)(u:Tm)(n:ByteArray)(sub:List Tr)(IH:∀a∈sub,FF gl a):FF gl (.mk rule sq f u n sub):=by
 intro x hx b2 b3 b4 h23 h24 h34 g fi ca hfn hent I S k0 p hy hdeep s stt hI hst;have hx0:=hx;obtain⟨tl,xl,tr,xr,op,fn,ta,xa,tb,xb,v,un,tu,xu,ts,xs,hxe,hru,_,_,_,_,_,_,e3,i3⟩:=hx.mk;obtain⟨a,e,hp,hd1,hd2,rfl⟩:=hst;simp only[Tr.walk] at hy ⊢;have hhead:=hy 0 p _ _ a e s rfl hx0 hp hd1 hI;have hy':=FOkL.tail hy;have r2:join (join s e) (ownF b2 b3 b4 (.fn g fi ca) a) b2=some (.box [.fn g fi ca]):=yQw (wW3 h23 h24);have r3:join (join s e) (ownF b2 b3 b4 (.fn g fi ca) a) b3=some (.box [a]):=yQw (yGl h34);refine ICall.intro (c:=cf prog gl [23,24] []) func118 rfl (by show _<=39;simp) (by kernel_rfl) ?_;have hiv:ivOf (.iv a)=some a:=by rcases hp with⟨t,rfl,_⟩|⟨g,cap,cs,rfl,_⟩<;>rfl
 rw[hxe] at hhead;simp only[go_sem,zE,reduceCtorEq,r2,r3,hiv,hxe];refine yXd hent (hhead.frame hd2 |>.mono ?_);rintro r stt ⟨s2,hd3,rfl,(⟨rfl,s3,hI3,hd4,rfl⟩|⟨rfl,hS⟩)⟩
 ·simp only[go_sem,reduceCtorEq,i3.len];intro hlen;refine LoopC.ctr sub.length (λk fr st' ds=>(∃s,I (k0+1+(yZb p 0 (sub.take k)).length) s/\xQg b2 b3 b4 (.fn g fi ca) p s st')/\fr 0=.iv (.cptr x)/\fr 1=.iv (.raw (.pointer (some ⟨b2,0,none⟩)))/\fr 2=.iv (.raw (.pointer (some ⟨b3,0,none⟩)))/\fr 3=.iv (.raw (.pointer (some ⟨b4,0,none⟩)))/\fr 16=.iv (.raw (.int .i64 sub.length))/\fr 17=.iv (.raw (.int .i64 k))/\ds=[]) ?_ ?_ ?_
  ·simp only[go_sem,zE,reduceCtorEq,hxe];exact⟨⟨s3,by simpa[yZb] using hI3,a,e,hp,hd4,hd3,rfl⟩,rfl⟩
  ·rintro k fr st1 _ hlt ⟨⟨s,hI,a,e,hp,hd1,hd2,rfl⟩,f0,f1,f2,f3,f16,f17,rfl⟩;rw[hxe] at f0;obtain⟨t,ht⟩:=yQ4 hlt;obtain⟨z,hkz,hz⟩:=i3.get ht;have r3:join (join s e) (ownF b2 b3 b4 (.fn g fi ca) a) b3=some (.box [a]):=yQw (yGl h34);have hth:=zVu (lMg ht);simp only[Tr.height] at hdeep;have hsplit:yZb p 0 sub=yZb p 0 (sub.take k)++(t.walk (p++[k])++yZb p (k+1) (sub.drop (k+1))):=by
    conv=>lhs;rw[<- List.take_append_drop k sub,List.drop_eq_getElem_cons hlt]
    rw[yK9,(lGs ht).2,show (sub.take k).length=k by rw[List.length_take];omega];simp only[yZb,Nat.zero_add]
   have hya:=hy';rw[hsplit] at hya;have hcall:=λstt hF=>IH t (lMg ht) z hz b2 b3 b4 h23 h24 h34 g fi ca hfn hent I S _ (p++[k]) (FOkL.left (FOkL.right hya)) (by rw[lLa];simp only[List.length_singleton];omega) s stt hI hF;have wcut:IntKind.i64.wrap (((p.length+1:Nat):Int)-1)=(p.length:Nat):=by rw[w64 (by omega) (by omega)];omega
   have hz':∃c0 c1 c2 c3 c4 c5 c6 c7 c8 c9 c10 c11,z=.agg [c0,c1,c2,c3,c4,c5,c6,c7,c8,c9,c10,c11]:=by
    obtain⟨r',s',m',t',n',b'⟩:=t;obtain⟨tl',xl',tr',xr',op',fn',ta',xa',tb',xb',v',un',tu',xu',ts',xs',rfl,_⟩:=hz.mk;exact⟨_,_,_,_,_,_,_,_,_,_,_,_,rfl⟩
   obtain⟨c0,c1,c2,c3,c4,c5,c6,c7,c8,c9,c10,c11,rfl⟩:=hz';rcases hp with⟨t0,rfl,hta,hp0,rfl⟩|⟨g',cap,cs,rfl,rfl,hc1,hc2,hc3⟩
   ·obtain⟨fs,c,es⟩:=t0;obtain rfl:c=.nil:=hta;have hje:join s emp=s:=rfl;rw[hje] at r3 hd2 ⊢;simp only[go_sem,zE,zA,zM,zL,reduceCtorEq,f0,f2,f3,f16,f17,lt_i hlt,r3,hxe,zJa];intro g' cap;refine yQ9 λhg=>?_;obtain⟨hg,hcap⟩:=hg;change join s (ownF b2 b3 b4 (.fn g fi ca) (.sl ⟨fs,.nil,es⟩ [])) g'=none at hg;have hd2':disj s (ownF b2 b3 b4 (.fn g fi ca) (.sl ⟨fs,.nil,es⟩ [])):=hd2;have hg2:ownF b2 b3 b4 (.fn g fi ca) (.sl ⟨fs,.nil,es⟩ []) g'=none:=by
     cases ho:ownF b2 b3 b4 (.fn g fi ca) (.sl ⟨fs,.nil,es⟩ []) g' with
     | none=>rfl
     | some o=>rw[yQw ho] at hg;cases hg
    have hg1:s g'=none:=by rw[<- yQz (stu:=s) hg2];exact hg
    have hb3:b3≠g':=by rintro rfl;rw[yGl h34] at hg2;cases hg2
    have hF:=xU7 (fy:=.fn g fi ca) (p:=p++[k]) (a':=.raw (.slice (some ⟨g',0,none⟩) 1 cap)) (cs:=.raw (.int .i64 k)::List.replicate (cap-1) .junk) h34 hd2' hg1 hg2 (.inr ⟨g',cap,_,by rw[hp0];rfl,rfl,by simpa[hp0] using hcap,by simp;omega,by simp[plI,hp0]⟩);have hb4:b4≠g':=by rintro rfl;rw[zGx] at hg2;cases hg2
    have r3':∀o,((join s (ownF b2 b3 b4 (.fn g fi ca) (.sl ⟨fs,.nil,es⟩ []))).put g' o) b3=some (.box [.sl ⟨fs,.nil,es⟩ []]):=λo=>by rw[ISt.put_apply,if_neg hb3];exact r3
    have r4':∀o o',(((join s (ownF b2 b3 b4 (.fn g fi ca) (.sl ⟨fs,.nil,es⟩ []))).put g' o).put b3 o') b4=some (.box [xXc b2 b3 b4]):=λo o'=>by rw[ISt.put_apply,if_neg h34.symm,ISt.put_apply,if_neg hb4];exact yQw zGx
    simp only[go_sem,zL,IV.one,List.flatMap_cons,List.flatMap_nil,IV.cells,Nat.mul_one,r3',r4',hkz,yQ1 e3,iNn,xXc];refine (hcall _ hF).mono ?_;rintro _ st2 (⟨rfl,s1,hI1,hF1⟩|⟨rfl,s1,hS1,hsub1⟩)
    ·obtain⟨a2,e2,hp2,hd5,hd6,rfl⟩:=hF1;obtain⟨g3,cap3,cs3,rfl,rfl,hc4,hc5,hc6⟩:=hp2.cons;have r6:join (join s1 (emp.put g3 (some (.box cs3)))) (ownF b2 b3 b4 (.fn g fi ca) (.raw (.slice (some ⟨g3,0,none⟩) (p.length+1) cap3))) b3=some (.box [.raw (.slice (some ⟨g3,0,none⟩) (p.length+1) cap3)]):=yQw (yGl h34);simp only[go_sem,zE,zL,reduceCtorEq,IV.one,r6,f0,f1,f2,f3,f16,f17,wcut,zV3 hc4,ite_self,Nat.zero_mul,hc4,yQf hlt (show sub.length<=281474976710656 by omega)];refine⟨s1,?_,?_⟩
     ·rw[yQ6 ht,yK9,lLa,show (sub.take k).length=k by rw[List.length_take];omega];simp only[yZb,List.append_nil,Nat.zero_add];rw[<- Nat.add_assoc];exact hI1
     ·rw[wVw h34];exact⟨_,_,.inr ⟨g3,cap3,cs3,rfl,rfl,by omega,hc5,hc6⟩,hd5,λb hb=>hd6 b λh=>hb ((zZl _).1 h),rfl⟩
    ·simp only[go_sem];exact yQ0 (.inr ⟨rfl,s1,hS1,hsub1⟩)
   ·have ho:ownF b2 b3 b4 (.fn g fi ca) (.raw (.slice (some ⟨g',0,none⟩) p.length cap)) g'=none:=by
     cases ho:ownF b2 b3 b4 (.fn g fi ca) (.raw (.slice (some ⟨g',0,none⟩) p.length cap)) g' with
     | none=>rfl
     | some o =>
      have:=hd2 g' (by rw[ho];simp);rw[yQw (ISt.put_same ..)] at this;cases this
    have hs1:s g'=none:=hd1 g' (by rw[ISt.put_same];simp);have r5:join (join s (emp.put g' (some (.box cs)))) (ownF b2 b3 b4 (.fn g fi ca) (.raw (.slice (some ⟨g',0,none⟩) p.length cap))) g'=some (.box cs):=by
     rw[yQz ho,yQw (ISt.put_same ..)]
    simp only[go_sem,zE,zA,zM,zL,f2,f16,f17,lt_i hlt,r3,hxe,zJa];refine yGc _ _ _ r5 (by simp[fits,IV.one]) ⟨by show (_+1)*8<=_;omega,by show _+1<=_;omega⟩ ⟨hc1,by show _*1<=_;omega⟩ (by simp[IV.cells]) ?_;intro g2 cap2 cs2 hg2 k1 k2 k3;rw[wGv hs1 ho];have hgo:s g2=none/\ownF b2 b3 b4 (.fn g fi ca) (.raw (.slice (some ⟨g',0,none⟩) p.length cap)) g2=none:=by
     rcases hg2 with rfl|hg2
     ·exact⟨hs1,ho⟩
     ·cases hq:ownF b2 b3 b4 (.fn g fi ca) (.raw (.slice (some ⟨g',0,none⟩) p.length cap)) g2 with
      | some o=>rw[yQw hq] at hg2;cases hg2
      | none =>
       rw[yQz hq] at hg2;refine⟨?_,rfl⟩;cases hz:s g2 with
       | none=>rfl
       | some o=>rw[yJf hd1 g2 o hz] at hg2;cases hg2
    have hs2:disj s (ownF b2 b3 b4 (.fn g fi ca) (.raw (.slice (some ⟨g',0,none⟩) p.length cap))):=λb hb=>by
     have:=hd2 b hb;cases hz:s b with
     | none=>rfl
     | some o=>rw[yJf hd1 b o hz] at this;cases this
    have hF:=xU7 (fy:=.fn g fi ca) (p:=p++[k]) (a':=.raw (.slice (some ⟨g2,0,none⟩) (p.length+1) cap2)) (cs:=cs2) h34 hs2 hgo.1 hgo.2 (.inr ⟨g2,cap2,cs2,by simp,rfl,by simpa using k1,by simpa using k2,by
     simp only[Nat.mul_one] at k3;rw[lLa];exact k3.trans (by rw[hc3];simp[plI,IV.cells])⟩)
    have hb3:b3≠g2:=by rintro rfl;have:=hgo.2;rw[yGl h34] at this;cases this
    have hb4:b4≠g2:=by rintro rfl;have:=hgo.2;rw[zGx] at this;cases this
    have r3':∀o,((join s (ownF b2 b3 b4 (.fn g fi ca) (.raw (.slice (some ⟨g',0,none⟩) p.length cap)))).put g2 o) b3=some (.box [.raw (.slice (some ⟨g',0,none⟩) p.length cap)]):=λo=>by rw[ISt.put_apply,if_neg hb3];exact yQw (yGl h34)
    have r4':∀o o',(((join s (ownF b2 b3 b4 (.fn g fi ca) (.raw (.slice (some ⟨g',0,none⟩) p.length cap)))).put g2 o).put b3 o') b4=some (.box [xXc b2 b3 b4]):=λo o'=>by rw[ISt.put_apply,if_neg h34.symm,ISt.put_apply,if_neg hb4];exact yQw zGx
    simp only[go_sem,zE,zL,reduceCtorEq,IV.one,IV.cells,r3',r4',f0,f2,f3,hkz,yQ1 e3,iNn,fits,xXc];refine (hcall _ hF).mono ?_;rintro _ st2 (⟨rfl,s1,hI1,hF1⟩|⟨rfl,s1,hS1,hsub1⟩)
    ·obtain⟨a2,e2,hp2,hd5,hd6,rfl⟩:=hF1;obtain⟨g3,cap3,cs3,rfl,rfl,hc4,hc5,hc6⟩:=hp2.cons;have r6:join (join s1 (emp.put g3 (some (.box cs3)))) (ownF b2 b3 b4 (.fn g fi ca) (.raw (.slice (some ⟨g3,0,none⟩) (p.length+1) cap3))) b3=some (.box [.raw (.slice (some ⟨g3,0,none⟩) (p.length+1) cap3)]):=yQw (yGl h34);simp only[go_sem,zE,zL,reduceCtorEq,IV.one,r6,f0,f1,f2,f3,f16,f17,wcut,zV3 hc4,ite_self,Nat.zero_mul,hc4,yQf hlt (show sub.length<=281474976710656 by omega)];refine⟨s1,?_,?_⟩
     ·rw[yQ6 ht,yK9,lLa,show (sub.take k).length=k by rw[List.length_take];omega];simp only[yZb,List.append_nil,Nat.zero_add];rw[<- Nat.add_assoc];exact hI1
     ·rw[wVw h34];exact⟨_,_,.inr ⟨g3,cap3,cs3,rfl,rfl,by omega,hc5,hc6⟩,hd5,λb hb=>hd6 b λh=>hb ((zZl _).1 h),rfl⟩
    ·simp only[go_sem];exact yQ0 (.inr ⟨rfl,s1,hS1,hsub1⟩)
  ·rintro fr st1 _ ⟨⟨s,hI,hF⟩,f0,f1,f2,f3,f16,f17,rfl⟩;rw[lTl] at hI;simp only[go_sem,f16,f17,yQs (nLi _)];refine yQ0 (.inl ⟨rfl,s,?_,hF⟩);rw[show k0+((yZb p 0 sub).length+1)=k0+1+(yZb p 0 sub).length by omega];exact hI
 ·simp only[go_sem];exact yQ0 (.inr ⟨rfl,s2,hS,yJf hd3⟩)
theorem xKz:∀(k:Nat)(t:Tr),SizeOf.sizeOf t<k->FF gl t
 | 0,t,h=>by omega
 | k+1,.mk r sq f u n sub,h=>wQy gl r sq f u n sub (λa ha=>xKz k a (by
   have:=lSm ha;simp at h;omega))
theorem vXw (t:Tr):FF gl t:=xKz gl _ t (Nat.lt_succ_self _)
theorem wJ7 (t:Tr)(x:IV)(hx:IsTr t x)(hd:t.height<=1099511627776)(I:Nat->ISt->Prop):wVc prog gl 117 [] [.cptr (.cptr x)] (lkT (t.walk [])) (t.walk []).length I:=by
 rintro y I' S' st ⟨g,fi,ca,rfl,hfn,hent⟩ _ hy h0;have hfrom:=vXw gl t x hx;have hok:FOkL gl (.fn g fi ca) I' S' 0 (t.walk []):=λi p t x a e stu hi ht hp hdj hI=>by
  rw[Nat.zero_add] at hI ⊢;exact hy i [a,.cptr x] e stu ⟨p,t,a,x,hi,ht,hp,rfl⟩ hdj hI
 have hz':∃c0 c1 c2 c3 c4 c5 c6 c7 c8 c9 c10 c11,x=.agg [c0,c1,c2,c3,c4,c5,c6,c7,c8,c9,c10,c11]:=by
  obtain⟨r',s',m',t',n',b'⟩:=t;obtain⟨tl',xl',tr',xr',op',fn',ta',xa',tb',xb',v',un',tu',xu',ts',xs',rfl,_⟩:=hx.mk;exact⟨_,_,_,_,_,_,_,_,_,_,_,_,rfl⟩
 obtain⟨c0,c1,c2,c3,c4,c5,c6,c7,c8,c9,c10,c11,rfl⟩:=hz';change ICall prog gl _ [.fn g fi ca,_] st _;refine ICall.intro (c:=cf prog gl [2,3,4] []) func117 rfl (by show _<=9;simp) (by kernel_rfl) ?_;simp only[go_sem,zE,zL,fits];intro b2;refine yQ9 λhb2=>?_;intro b3;refine yQ9 λhb3=>?_;intro b4;refine yQ9 λhb4=>?_;have h23:b2≠b3:=by rintro rfl;rw[ISt.put_same] at hb3;cases hb3
 have h34:b3≠b4:=by rintro rfl;rw[ISt.put_same] at hb4;cases hb4
 have h24:b2≠b4:=by rintro rfl;rw[ISt.put_apply,if_neg h23,ISt.put_same] at hb4;cases hb4
 rw[ISt.put_apply,if_neg h23.symm] at hb3;rw[ISt.put_apply,if_neg h34.symm,ISt.put_apply,if_neg h24.symm] at hb4;have hF:xQg b2 b3 b4 (.fn g fi ca) [] st ((((st.put b2 (some (.box [.fn g fi ca]))).put b3 (some (.box [.sl ⟨true,.nil,0⟩ []]))).put b4 (some (.box [.raw .nilFunc]))).put b4 (some (.box [xXc b2 b3 b4]))):=by
  refine⟨_,emp,.inl ⟨⟨true,.nil,0⟩,rfl,rfl,rfl,rfl⟩,λb hb=>absurd rfl hb,λb hb=>?_,?_⟩
  ·show st b=none;by_cases q4:b=b4
   ·rw[q4];exact hb4
   ·by_cases q3:b=b3
    ·rw[q3];exact hb3
    ·by_cases q2:b=b2
     ·rw[q2];exact hb2
     ·exact absurd (xK4 q2 q3 q4) hb
  ·funext c;by_cases q4:c=b4
   ·rw[q4,ISt.put_same,yQw zGx]
   ·rw[ISt.put_apply,if_neg q4,ISt.put_apply,if_neg q4];by_cases q3:c=b3
    ·rw[q3,ISt.put_same,yQw (yGl h34)]
    ·rw[ISt.put_apply,if_neg q3];by_cases q2:c=b2
     ·rw[q2,ISt.put_same,yQw (wW3 h23 h24)]
     ·rw[ISt.put_apply,if_neg q2,yQz (xK4 q2 q3 q4)];rfl
 refine (hfrom b2 b3 b4 h23 h24 h34 g fi ca hfn hent I' S' 0 [] hok (by simpa using hd) st _ h0 hF).mono ?_;rintro r stt (⟨rfl,s1,hI1,a,e,_,hd1,hd2,rfl⟩|⟨rfl,s1,hS1,hsub⟩)
 ·simp only[go_sem];rw[Nat.zero_add] at hI1;exact yQa ((yJf hd1).trans (yJf hd2)) (.inl hI1)
 ·simp only[go_sem];exact yQa hsub (.inr hS1)
theorem wYd (x:IV)(st:ISt)(t:Tr)(hx:IsTr t x):ICall prog gl 72 [.cptr x] st (λr st'=>r=.fn (.func 117) [] [.cptr (.cptr x)]/\st'=st):=by
 have hz':∃c0 c1 c2 c3 c4 c5 c6 c7 c8 c9 c10 c11,x=.agg [c0,c1,c2,c3,c4,c5,c6,c7,c8,c9,c10,c11]:=by
  obtain⟨r',s',m',t',n',b'⟩:=t;obtain⟨tl',xl',tr',xr',op',fn',ta',xa',tb',xb',v',un',tu',xu',ts',xs',rfl,_⟩:=hx.mk;exact⟨_,_,_,_,_,_,_,_,_,_,_,_,rfl⟩
 obtain⟨c0,c1,c2,c3,c4,c5,c6,c7,c8,c9,c10,c11,rfl⟩:=hz';refine ICall.intro (c:=cf prog gl [] [] [1]) func72 rfl (by show _<=4;simp) (by kernel_rfl) ?_;simp only[go_sem,zE];exact yQ0 ⟨rfl,rfl⟩
theorem wXp (t:Tag)(ht:t.cap=.nil)(st:ISt):ICall prog gl 74 [.sl t []] st (λr st'=>(∃t',r=.sl t' (plI [])/\okEs t' 1)/\st'=st):=by
 obtain⟨fs,c,es⟩:=t;obtain rfl:c=.nil:=ht;refine iI func74 ?_;have hb:binV prog 50 .eql (.sl ⟨fs,.nil,es⟩ []) (.sl ⟨true,.nil,0⟩ [])=some (.raw (.bool true)):=by
  have:yUr prog 50=true:=by kernel_rfl
  simp[binV,zKh,this]
 simp only[go_sem,reduceCtorEq,hb];exact yQ0 ⟨⟨_,rfl,.inl rfl⟩,rfl⟩
theorem wXq (g:Nat)(p:List Nat)(hp:p≠[])(hl:p.length<=1099511627776)(st:ISt):ICall prog gl 74 [.sl ⟨false,.app g,1⟩ (plI p)] st (λr st'=>(∃t',r=.sl t' (plI p)/\okEs t' 1)/\st'=st):=by
 obtain⟨i,p,rfl⟩:∃i q,p=i::q:=by
  cases p with
  | nil=>exact absurd rfl hp
  | cons i q=>exact⟨i,q,rfl⟩
 refine iI func74 ?_;have hb:binV prog 50 .eql (.sl ⟨false,.app g,1⟩ (plI (i::p))) (.sl ⟨true,.nil,0⟩ [])=some (.raw (.bool false)):=by
  have:yUr prog 50=true:=by kernel_rfl
  simp[binV,zKh,this]
 have hf:(plI (i::p)).all (fits false 1)=true:=by simp[plI,fits,IV.one]
 simp only[List.length_cons] at hl;have he:plI (i::p)=.raw (.int .i64 (i:Int))::plI p:=rfl;have hpl:=yV3 p;have hf':(plI p).all (fits false 1)=true:=by simp[plI,fits,IV.one]
 rw[he] at hb hf ⊢;simp only[go_sem,zE,zA,zM,zL,reduceCtorEq,fits,hb];exact yQq rfl (yQq hf' (yQq ⟨by omega,by omega⟩ λg'=>yQ9 λhg=>yQa (yQb hg) ⟨⟨_,rfl,.inr rfl⟩,rfl⟩))
theorem xYj {R:Rt}{st:ISt}{ds:List Dfd}(esc:List Nat)(dst:Option Nat)(e:TypeId×Bool×Nat×Nat)(fs:Bool)(es:Nat)(xs:List IV):appV esc dst e ⟨fs,.full,es⟩ xs [] R st ds =
 chk (([]:List IV).all (fits e.2.1 e.2.2.1)=true) (chk ((xs.length+0)*e.2.2.2<=140737488355328/\xs.length+0<=140737488355328) (chk (es=e.2.2.1) (R (.val (.sl ⟨fs,.full,es⟩ xs)) st ds))):=rfl
theorem xYt (g:Nat)(st:ISt):ICall prog gl 74 [.sl ⟨false,.app g,1⟩ (plI [])] st (λr st'=>(∃t',r=.sl t' (plI [])/\okEs t' 1)/\st'=st):=by
 have hb:binV prog 50 .eql (.sl ⟨false,.app g,1⟩ (plI [])) (.sl ⟨true,.nil,0⟩ [])=some (.raw (.bool false)):=by
  have:yUr prog 50=true:=by kernel_rfl
  simp[binV,zKh,this]
 rw[show plI []=[] from rfl] at hb ⊢;refine iI func74 ?_;simp only[go_sem,zE,zA,zM,zL,reduceCtorEq,hb,xYj];exact yQq rfl (yQ0 ⟨⟨_,rfl,.inr rfl⟩,rfl⟩)
theorem wQf {s e:ISt}(h:disj s e):join s e=join e s:=by
 funext b;cases he:e b with
 | none =>
  rw[yQz he];cases hs:s b with
  | none=>rw[yQz hs,he]
  | some o=>rw[yQw hs]
 | some o=>rw[yQw he,yQz (h b (by rw[he];simp)),he]
theorem xVj:∀p:List Nat,ages (plI p)=plI p
 | []=>by simp only[plI,List.map_nil,ages]
 | i::p=>by
  have:=xVj p;simp only[plI,List.map_cons,ages,age] at this ⊢;rw[this]
theorem xK1:∀p:List Nat,(plI p).flatMap IV.cells=plI p
 | []=>rfl
 | i::p=>by
  have:=xK1 p;simp only[plI,List.map_cons,List.flatMap_cons,IV.cells,List.singleton_append] at this ⊢;rw[this]
theorem wUj (p:List Nat)(a:IV)(e s:ISt)(hp:PlV p a e)(hl:p.length<=1099511627776)(hd:disj s e):ICall prog gl 74 [a] (join s e) (λr st'=>(∃t',r=.sl t' (plI p)/\okEs t' 1)/\st'=s):=by
 have key:ICall prog gl 74 [a] e (λr st'=>(∃t',r=.sl t' (plI p)/\okEs t' 1)/\st'=emp):=by
  rcases hp with⟨t,rfl,ht,rfl,rfl⟩|⟨g,cap,cs,rfl,rfl,h1,h2,h3⟩
  ·exact wXp gl t ht emp
  ·have hnb:yUk (emp.put g (some (.box cs)))=emp:=by
    funext b;by_cases hb:b=g
    ·rw[hb,zXz (ISt.put_same ..)];rfl
    ·have:(emp.put g (some (.box cs))) b=none:=by rw[ISt.put_apply,if_neg hb];rfl
     rw[zQc (λcs' h=>by rw[this] at h;cases h),this];rfl
   refine ICall.freeze (args':=[.sl ⟨false,.app g,1⟩ (plI p)]) ⟨_,_,rfl,.inr ⟨.sl ⟨true,.app g,1⟩ (plI p),?_,?_⟩,rfl⟩ ?_
   ·rw[<- yV3 p];refine .sl g cap ⟨true,.app g,1⟩ (plI p) cs rfl (by rw[yV3];omega) (by rw[yV3];exact h1) (λx hx=>?_) (ISt.put_same ..) (by simpa using h2) λi r c hr hc=>?_
    ·obtain⟨i,_,rfl⟩:=List.mem_map.1 hx;rfl
    ·rw[xK1 p] at hc;have hi:i<p.length:=by
      have:=(lGs hc).1
      rwa [yV3] at this
     have:(cs.take p.length)[i]?=cs[i]?:=by rw[List.getElem?_take,if_pos hi]
     rw[h3,hc,hr] at this;cases this;exact .refl _
   ·simp only[age,xVj]
   ·rw[hnb];by_cases hpn:p=[]
    ·subst hpn;exact xYt gl g emp
    ·exact wXq gl g p hpn hl emp
 have h1:=key.frame (own:=s) (λb hb=>by
  cases he:e b with
  | none=>rfl
  | some o=>exact absurd (hd b (by rw[he];simp)) hb)
 rw[wQf hd];refine h1.mono ?_;rintro r st' ⟨stu,_,rfl,hr,rfl⟩;refine⟨hr,?_⟩;funext b;cases hs:s b with
 | none=>rw[yQz hs];rfl
 | some o=>rw[yQw hs]
def xKa:Tr->Prop
 | .mk _ s m u _ sub=>yYm s/\m.size<=1000000/\u.size<=1000000/\∀a∈sub,yYm a.sq
def wZg (t:Tr):Prop:=(∀q∈t.walk [],xKa q.2)/\t.height<=1099511627776
theorem wKx (G:Gl gl)(T:Gt gl)(ca:Nat)(t:Tr)(x:IV)(hx:IsTr t x)(hn:xKa t)(st:ISt):ICall prog gl 73 [.raw (.int .u8 ca),.cptr x] st (λr st'=>r=.raw (.int .i64 (yZn ca t))/\st'=st):=by
 obtain⟨rule,s,m,u,n,sub⟩:=t;exact wU4 gl G T ca rule s m u n sub x hx hn.1 hn.2.1 hn.2.2.1 hn.2.2.2 st
theorem zZc {t:Tr}{x:IV}(h:IsTr t x):∃(rule:Nat) (tl:Tag) (xl:List IV) (tr:Tag) (xr:List IV) (op:Int) (fn:ByteArray) (ta:Tag) (xa:List IV) (tb:Tag) (xb:List IV) (v:Bool) (un:ByteArray) (tu:Tag) (xu:List IV) (n:ByteArray) (ts:Tag) (xs:List IV),
  x=.agg [.raw (.int .u8 rule),.sl tl xl,.sl tr xr,.raw (.int .u8 op),.raw (.string fn),.sl ta xa,.sl tb xb,.raw (.bool v),.raw (.string un),.sl tu xu,.raw (.string n),.sl ts xs]:=by
 obtain⟨r',s',m',t',n',b'⟩:=t;obtain⟨tl',xl',tr',xr',op',fn',ta',xa',tb',xb',v',un',tu',xu',ts',xs',rfl,_⟩:=h.mk;exact⟨_,_,_,_,_,_,_,_,_,_,_,_,_,_,_,_,_,_,rfl⟩
mutual
theorem zWd:∀(p:List Nat)(t:Tr),(t.walk p).length=t.steps
 | p,.mk _ _ _ _ _ sub=>by simp only[Tr.walk,Tr.steps,List.length_cons,zX0 p 0 sub];omega
theorem zX0:∀(p:List Nat)(i:Nat)(l:List Tr),(yZb p i l).length=yQo l
 | _,_,[]=>rfl
 | p,i,a::l=>by simp only[yZb,yQo,lLa,zWd (p++[i]) a,zX0 p (i+1) l]
end
mutual
theorem zG2:∀(q:List Nat)(t:Tr)(x:List Nat×Tr),x∈t.walk q->x.1.length+1<=q.length+t.height
 | q,.mk _ _ _ _ _ sub,x,h=>by
  simp only[Tr.walk,List.mem_cons] at h;simp only[Tr.height];rcases h with rfl|h
  ·simp only;omega
  ·have:=zQz q 0 sub x h;omega
theorem zQz:∀(q:List Nat)(i:Nat)(l:List Tr)(x:List Nat×Tr),x∈yZb q i l->x.1.length<=q.length+yZm l
 | _,_,[],x,h=>by simp[yZb] at h
 | q,i,a::l,x,h=>by
  simp only[yZb,List.mem_append] at h;simp only[yZm];rcases h with h|h
  ·have:=zG2 (q++[i]) a x h;rw[lLa] at this;simp only[List.length_singleton] at this;omega
  ·have:=zQz q (i+1) l x h;omega
end
def CkI (st:ISt)(b2 b4 b5 b6 ca c:Nat)(s:ISt):Prop:=s b2=some (.box [.raw (.int .u8 ca)])/\s b4=some (.box [.sl ⟨true,.nil,0⟩ []])/\s b5=some (.box [.raw (.int .i64 0)])/\s b6=some (.box [.raw (.int .i64 c)])/\subSt st s
def CkS (st:ISt)(b4 b5:Nat)(q:List Nat×Nat)(e:Exit)(s:ISt):Prop:=e=.ret/\(∃tg,s b4=some (.box [.sl tg (plI q.1)])/\okEs tg 1)/\s b5=some (.box [.raw (.int .i64 q.2)])/\subSt st s
theorem zKb (G:Gl gl)(T:Gt gl)(ca:Nat)(t:Tr)(x:IV)(hx:IsTr t x)(hfit:wZg t)(st:ISt):ICall prog gl 25 [.raw (.int .u8 ca),x] st (λr st'=>(∃tg,r=.tup [.sl tg (plI (yXx ca t).1),.raw (.int .i64 (yXx ca t).2)]/\okEs tg 1)/\st'=st):=by
 have hst:=λst=>wYd gl x st t hx;have hit:=λI=>wJ7 gl t x hx hfit.2 I;have hkn:=λst=>xX3 gl ca st;obtain⟨rule,tl,xl,tr,xr,op,fn,ta,xa,tb,xb,v,un,tu,xu,n,ts,xs,rfl⟩:=zZc hx;refine ICall.intro (c:=cf prog gl [2,4,5,6] [] [3]) func25 rfl (by show _<=31;simp) (by kernel_rfl) ?_;simp only[go_sem,zE,zA,IV.one];intro b2;refine yQ9 λhb2=>?_;intro b4;refine yQ9 λhb4=>?_;intro b5;refine yQ9 λhb5=>?_;have h24:b2≠b4:=by rintro rfl;rw[ISt.put_same] at hb4;cases hb4
 have h45:b4≠b5:=by rintro rfl;rw[ISt.put_same] at hb5;cases hb5
 have h25:b2≠b5:=by rintro rfl;rw[ISt.put_apply,if_neg h24,ISt.put_same] at hb5;cases hb5
 rw[ISt.put_apply,if_neg h24.symm] at hb4;rw[ISt.put_apply,if_neg h45.symm,ISt.put_apply,if_neg h25.symm] at hb5;obtain⟨s1,hs1,f2,f4,f5,hsub⟩:∃s1,s1=((st.put b2 (some (.box [.raw (.int .u8 ca)]))).put b4 (some (.box [.sl ⟨true,.nil,0⟩ []]))).put b5 (some (.box [.raw (.int .i64 0)]))/\s1 b2=some (.box [.raw (.int .u8 ca)])/\s1 b4=some (.box [.sl ⟨true,.nil,0⟩ []])/\s1 b5=some (.box [.raw (.int .i64 0)])/\subSt st s1 :=
  ⟨_,rfl,by simp only[ISt.put_apply,if_neg h24,if_neg h25,if_true],by simp only[ISt.put_apply,if_neg h45,if_true],by simp only[ISt.put_apply,if_true],yZ3 (yZ3 (yZ3 (subSt.refl st) hb2) hb4) hb5⟩
 rw[<- hs1];simp only[go_sem,f2];refine (hkn _).mono ?_;rintro _ s1' ⟨rfl,rfl⟩;have g5:∀(s:ISt) o,(s.put b4 o) b5=s b5:=λs o=>by rw[ISt.put_apply,if_neg h45.symm]
 have g4:∀(s:ISt) o o',((s.put b4 o).put b5 o') b4=o:=λs o o'=>by rw[ISt.put_apply,if_neg h45,ISt.put_same]
 have hsub':∀(s:ISt) o o',subSt st s->subSt st ((s.put b4 o).put b5 o'):=λs o o' h=>yZ3 (yZ3 h hb4) hb5;cases hk:yKf ca
 ·have hq:yXx ca t=([],2):=by unfold yXx;rw[hk];rfl
  simp only[go_sem,zE,zL,f4,f5,g5,g4,ISt.put_same];exact yQa (hsub' _ _ _ hsub) ⟨⟨_,by rw[hq];rfl,.inl rfl⟩,rfl⟩
 ·simp only[go_sem,zE,zA,zL];intro b6;refine yQ9 λhb6=>?_;rw[yQ8];refine (hst _).mono ?_;rintro _ _ ⟨rfl,rfl⟩;have h26:b2≠b6:=by rintro rfl;rw[f2] at hb6;cases hb6
  have h46:b4≠b6:=by rintro rfl;rw[f4] at hb6;cases hb6
  have h56:b5≠b6:=by rintro rfl;rw[f5] at hb6;cases hb6
  have hb6':st b6=none:=by
   cases hq:st b6 with
   | none=>rfl
   | some o=>rw[hsub b6 o hq] at hb6;cases hb6
  have hI0:CkI st b2 b4 b5 b6 ca 0 (s1'.put b6 (some (.box [.raw (.int .i64 0)]))):=⟨by rw[ISt.put_apply,if_neg h26];exact f2,by rw[ISt.put_apply,if_neg h46];exact f4,by rw[ISt.put_apply,if_neg h56];exact f5,ISt.put_same ..,yZ3 hsub hb6'⟩
  generalize s1'.put b6 (some (.box [.raw (.int .i64 0)]))=s2 at hI0 ⊢;simp only[go_sem,reduceCtorEq];refine RangeL.intro (lkT (t.walk [])) (t.walk []).length (λk s=>CkI st b2 b4 b5 b6 ca k s/\k<=300) (λe s=>CkS st b4 b5 ([],5) e s/\300<t.steps) rfl ?_ ?_ ?_ (hit _) ?_ ?_
  ·rintro k a e ⟨p,u,a,y,_,_,_,rfl⟩;rfl
  ·exact⟨hI0,by omega⟩
  ·rintro k _ e s ⟨p,z,a,y,hkz,hz,hp,rfl⟩ hd ⟨⟨c2,c4,c5,c6,hss⟩,hk3⟩;have hd':disj s e:=hd;have r6:=yJf hd' _ _ c6;have r4:=yJf hd' _ _ c4;have r5:=yJf hd' _ _ c5;have e6:e b6=none:=ISt.disj.off hd c6;have hw:IntKind.i64.wrap ((k:Int)+1)=((k+1:Nat):Int):=by rw[w64]<;>omega
   have q4:∀o,((join s e).put b6 o) b4=some (.box [.sl ⟨true,.nil,0⟩ []]):=λo=>by rw[yQh h46];exact r4
   have q5:∀o o',(((join s e).put b6 o).put b4 o') b5=some (.box [.raw (.int .i64 0)]):=λo o'=>by rw[yQh h45.symm,yQh h56];exact r5
   by_cases hbig:300<k+1
   ·have hb:decide ((300:Int)<((k+1:Nat):Int))=true:=dEt (by omega);simp only[go_sem,zE,zL,r6,hw,ISt.put_same,hb,q4,q5];refine⟨⟨rfl,⟨⟨true,.nil,0⟩,?_,.inl rfl⟩,ISt.put_same ..,yZ3 (yZ3 (yZ3 (hss.trans (yJf hd')) hb6') hb4) hb5⟩,?_⟩
    ·rw[yQh h45,ISt.put_same];rfl
    ·have:=(lGs hkz).1;rw[zWd] at this;omega
   ·have hb:decide ((300:Int)<((k+1:Nat):Int))=false:=dEf (by omega);simp only[go_sem,zE,zL,r6,hw,ISt.put_same,hb];refine⟨s.put b6 (some (.box [.raw (.int .i64 ((k+1:Nat):Int))])),⟨⟨by rw[yQh h26];exact c2,by rw[yQh h46];exact c4,by rw[yQh h56];exact c5,ISt.put_same ..,yZ3 hss hb6'⟩,by omega⟩,ISt.disj.put hd e6,ISt.put_add e6⟩
  ·rintro s r ⟨⟨c2,c4,c5,c6,hss⟩,hk3⟩;rw[zWd] at hk3;have hq:yXx ca t=yZa (yZn ca) (t.walk []):=by
    unfold yXx;rw[hk];simp only[Bool.not_true,bFt,if_false];rw[if_neg (by omega)]
   simp only[go_sem,zE,zA];refine (hst _).mono ?_;rintro _ _ ⟨rfl,rfl⟩;simp only[go_sem,reduceCtorEq];refine RangeL.intro (lkT (t.walk [])) (t.walk []).length (λk s=>(s b2=some (.box [.raw (.int .u8 ca)])/\s b4=some (.box [.sl ⟨true,.nil,0⟩ []])/\s b5=some (.box [.raw (.int .i64 0)])/\subSt st s)/\yZa (yZn ca) ((t.walk []).take k)=([],0)) (λe s=>CkS st b4 b5 (yXx ca t) e s) rfl ?_ ?_ ?_ (hit _) ?_ ?_
   ·rintro k a e ⟨p,u,a,y,_,_,_,rfl⟩;rfl
   ·exact⟨⟨c2,c4,c5,hss⟩,by simp[yZa]⟩
   ·rintro k _ e s ⟨p,z,a,y,hkz,hz,hp,rfl⟩ hd ⟨⟨c2,c4,c5,hss⟩,hf⟩;have hd':disj s e:=hd;have r2:=yJf hd' _ _ c2;have hpl:=zG2 [] t _ (lMg hkz);have hfd:=hfit.2;simp only[List.length_nil] at hpl;have hck:=λst=>wKx gl G T ca z y hz (hfit.1 _ (lMg hkz)) st;have hcl:=wUj gl p a e s hp (by omega) hd';have hiv:ivOf (.iv a)=some a:=by rcases hp with⟨t,rfl,_⟩|⟨g,cap,cs,rfl,_⟩<;>rfl
    obtain⟨rule',tl',xl',tr',xr',op',fn',ta',xa',tb',xb',v',un',tu',xu',n',ts',xs',rfl⟩:=zZc hz;simp only[go_sem,zE,zA,r2,hiv];refine (hck _).mono ?_;rintro _ _ ⟨rfl,rfl⟩;by_cases h0:yZn ca z=0
    ·have d0:decide (((yZn ca z:Nat):Int)=0)=true:=dEt (by omega);simp only[go_sem,d0];refine⟨s,⟨⟨c2,c4,c5,hss⟩,?_⟩,hd,rfl⟩;rw[yQ6 hkz,yJx,hf];simp[yZa,h0]
    ·have d0:decide (((yZn ca z:Nat):Int)=0)=false:=dEf (by omega);have hv:yXx ca t=(p,yZn ca z):=by
      rw[hq]
      conv=>lhs;rw[<- List.take_append_drop k (t.walk [])]
      rw[List.drop_eq_getElem_cons (lGs hkz).1,(lGs hkz).2,yJx,hf];simp[yZa,h0]
     simp only[go_sem,zE,zA,d0,hiv];refine hcl.mono ?_;rintro _ _ ⟨⟨t',rfl,ht'⟩,rfl⟩;simp only[go_sem,zE,zL,c4,c5,g5];refine⟨rfl,⟨t',?_,ht'⟩,?_,hsub' _ _ _ hss⟩
     ·rw[g4,hv]
     ·rw[ISt.put_same,hv]
   ·rintro s r ⟨⟨c2,c4,c5,hss⟩,hf⟩;rw[lTl,<- hq] at hf;simp only[go_sem,zE,zL,c4,c5,g5,g4,ISt.put_same];exact yQa (hsub' _ _ _ hss) ⟨⟨_,by rw[hf];rfl,.inl rfl⟩,rfl⟩
   ·rintro e s r ⟨rfl,⟨tg,c4,ht⟩,c5,hss⟩;simp only[go_sem,zE,c4,c5];exact yQa hss ⟨⟨_,rfl,ht⟩,rfl⟩
  ·rintro e s r ⟨⟨rfl,⟨tg,c4,ht⟩,c5,hss⟩,hb⟩;have hq:yXx ca t=([],5):=by unfold yXx;rw[hk,if_pos hb];rfl
   simp only[go_sem,zE,c4,c5];exact yQa hss ⟨⟨_,by rw[hq],ht⟩,rfl⟩
theorem xZi {p:List Nat}{k a:Nat}(h:p[k]?=some a):(plI p)[k]?=some (.raw (.int .i64 (a:Int))):=by simp[plI,List.getElem?_map,h]
theorem zVa (p q:List Nat):plI (p++q)=plI p++plI q:=by simp[plI]
def sumN:List Nat->Nat
 | []=>0
 | a::l=>a+sumN l
theorem yGs:∀l m:List Nat,sumN (l++m)=sumN l+sumN m
 | [],m=>by simp[sumN]
 | a::l,m=>by simp only[List.cons_append,sumN,yGs l m];omega
theorem xGf (l:List Nat)(k:Nat):sumN (l.take k)<=sumN l:=by
 conv=>rhs;rw[<- List.take_append_drop k l]
 rw[yGs];omega
def maxN:List Nat->Nat
 | []=>0
 | a::l=>max a (maxN l)
theorem yGv:∀l m:List Nat,maxN (l++m)=max (maxN l) (maxN m)
 | [],m=>by simp[maxN]
 | a::l,m=>by simp only[List.cons_append,maxN,yGv l m];omega
theorem vZc (tg:Tag)(l:List Nat)(htg:okEs tg 1)(hs:sumN l<=4611686018427387904)(st:ISt):ICall prog gl 84 [.sl tg (plI l)] st (λr st'=>r=.raw (.int .i64 (sumN l))/\st'=st):=by
 refine iI func84 ?_;simp only[go_sem,reduceCtorEq,yV3];intro _;refine LoopC.ctr l.length (λk fr st' ds=>fr 3=.iv (.raw (.int .i64 (sumN (l.take k))))/\fr 6=.iv (.sl tg (plI l))/\fr 7=.iv (.raw (.int .i64 l.length))/\fr 8=.iv (.raw (.int .i64 k))/\st'=st/\ds=[]) ?_ ?_ ?_
 ·simp only[go_sem,zE];simp[sumN]
 ·rintro k fr st1 _ hlt ⟨f3,f6,f7,f8,rfl,rfl⟩;obtain⟨a,ha⟩:=yQ4 hlt;have h1:=xGf l (k+1);have h2:sumN (l.take (k+1))=sumN (l.take k)+a:=by rw[yQ6 ha,yGs];rfl
  have h3:IntKind.i64.wrap (((sumN (l.take k):Nat):Int)+(a:Int))=((sumN (l.take (k+1)):Nat):Int):=by rw[w64]<;>omega
  simp only[go_sem,zE,f3,f6,f7,f8,lt_i hlt,yQ1 htg,iNn,xZi ha,fits,h3,yQf hlt (show l.length<=281474976710656 by omega)]
 ·rintro fr st1 _ ⟨f3,f6,f7,f8,rfl,rfl⟩;rw[lTl] at f3;simp only[go_sem,zE,f3,f7,f8,yQs (nLi _)];exact yQ0 ⟨rfl,rfl⟩
theorem uXa (a b:Nat):max (a:Int) (b:Int)=((max a b:Nat):Int):=by omega
theorem uWo (tg:Tag)(l:List Nat)(htg:okEs tg 1)(hl:0<l.length)(st:ISt):ICall prog gl 86 [.sl tg (plI l)] st (λr st'=>r=.raw (.int .i64 (maxN l))/\st'=st):=by
 obtain⟨a0,ha0⟩:=yQ4 hl;have d1:decide (((l.length:Nat):Int)<1)=false:=dEf (by omega);have t1:l.take 1=[a0]:=by
  have:=yQ6 ha0;simpa using this
 refine iI func86 ?_;simp only[go_sem,reduceCtorEq,yV3];intro hlen;simp only[go_sem,reduceCtorEq,d1,yQ1 htg,Int.le_refl,Int.toNat_zero,xZi ha0,fits];refine LoopC.ctr (l.length-1) (λk fr st' ds=>fr 3=.iv (.raw (.int .i64 (maxN (l.take (k+1)))))/\fr 0=.iv (.sl tg (plI l))/\fr 4=.iv (.raw (.int .i64 ((k+1:Nat):Int)))/\st'=st/\ds=[]) ?_ ?_ ?_
 ·simp only[go_sem,zE,reduceCtorEq,t1];simp[maxN]
 ·rintro k fr st1 _ hlt ⟨f3,f0,f4,rfl,rfl⟩;obtain⟨a,ha⟩:=yQ4 (l:=l) (k:=k+1) (by omega);have h2:maxN (l.take (k+1+1))=max (maxN (l.take (k+1))) a:=by rw[yQ6 ha,yGv];simp[maxN]
  simp only[go_sem,zE,reduceCtorEq,f3,f0,f4,yV3,lt_i (show k+1<l.length by omega),yQ1 htg,iNn,xZi ha,fits,uXa,yQf (show k+1<l.length by omega) (show l.length<=281474976710656 by omega)];intro _;rw[h2]
 ·rintro fr st1 _ ⟨f3,f0,f4,rfl,rfl⟩;rw[show l.length-1+1=l.length by omega] at f3 f4;rw[lTl] at f3;simp only[go_sem,zE,reduceCtorEq,f3,f0,f4,yV3,yQs (nLi _)];intro _;exact yQ0 ⟨rfl,rfl⟩
def wJ6:Tr->List Tr
 | .mk _ _ _ _ _ sub=>sub
def zW9 (g:Nat)(v:Tr->Nat):Prop:=∀(t:Tr) (l:List Nat) (x:IV) (tg:Tag) (st0 st:ISt),IsTr t x->t.steps<=1099511627776->l=(wJ6 t).map v->own st tg l.length 1 st0->subSt st0 st →
 ICall prog gl g [x,.sl tg (plI l)] st (λr st'=>r=.raw (.int .i64 (v t))/\subSt st0 st')
theorem zGc:∀ {l:List Tr}{t:Tr},t∈l->t.steps<=yQo l
 | a::l,t,h=>by
  simp only[yQo];rcases List.mem_cons.1 h with rfl|h
  ·omega
  ·have:=zGc h;omega
theorem yYf:∀l:List Tr,l.length<=yQo l
 | []=>Nat.le_refl _
 | .mk _ _ _ _ _ s::l=>by
  have:=yYf l;simp only[List.length_cons,yQo,Tr.steps];omega
def wVe (v:Tr->Nat)(g:Nat)(t:Tr):Prop:=∀(x:IV) (_:IsTr t x) (_:t.steps<=1099511627776) (st:ISt),ICall prog gl 82 [x,.fn (.func g) [] []] st (λr st'=>r=.raw (.int .i64 (v t))/\st'=st)
theorem wZ5 (v:Tr->Nat)(g:Nat)(hent:entI prog g=true)(hg:zW9 gl g v)(rule:Nat)(sq:Sq)(f:Fm)(u:Tm)(n:ByteArray)(sub:List Tr)(IH:∀a∈sub,wVe gl v g a):wVe gl v g (.mk rule sq f u n sub):=by
 intro x hx hs st;have hx0:=hx;obtain⟨tl,xl,tr,xr,op,fn,ta,xa,tb,xb,vb,un,tu,xu,ts,xs,rfl,hru,_,_,_,_,_,_,e3,i3⟩:=hx.mk;have hs0:=hs;simp only[Tr.steps] at hs;have hll:=yYf sub;refine iI func82 ?_;simp only[go_sem,zE,i3.len];intro _;refine LoopC.ctr sub.length (λk fr st' ds=>(∃tg',fr 5=.iv (.sl tg' (plI ((sub.take k).map v)))/\own st' tg' k 1 st/\subSt st st')/\fr 1=.iv (.fn (.func g) [] [])/\fr 2=.box [.raw (.int .u8 rule),.sl tl xl,.sl tr xr,.raw (.int .u8 op),.raw (.string fn),.sl ta xa,.sl tb xb,.raw (.bool vb),.raw (.string un),.sl tu xu,.raw (.string n),.sl ts xs] /\
  fr 9=.iv (.sl ts xs)/\fr 10=.iv (.raw (.int .i64 sub.length))/\fr 11=.iv (.raw (.int .i64 k))/\ds=[]) ?_ ?_ ?_
 ·simp only[go_sem,zE];exact⟨⟨_,rfl,.inl ⟨rfl,rfl⟩,subSt.refl _⟩,rfl⟩
 ·rintro k fr st1 _ hlt ⟨⟨tg',f5,hown,hsub⟩,f1,f2,f9,f10,f11,rfl⟩;obtain⟨a,ha⟩:=yQ4 hlt;obtain⟨z,hkz,hz⟩:=i3.get ha;have hst:=zGc (lMg ha);have hcall:=IH a (lMg ha) z hz (by omega) st1;obtain⟨rule',tl',xl',tr',xr',op',fn',ta',xa',tb',xb',v',un',tu',xu',n',ts',xs',rfl⟩:=zZc hz;simp only[go_sem,zE,zB,zA,zL,f1,f5,f9,f10,f11,lt_i hlt,yQ1 e3,iNn,hkz,fits];refine hcall.mono ?_;rintro _ _ ⟨rfl,rfl⟩;simp only[go_sem,zE,zA,zM,zL,fits,zJa];refine yXl hown (by rw[yV3,List.length_map,List.length_take];omega) hsub rfl (by simp[fits,IV.one]) (by simp only;omega) (by omega) λtg2 st4 hown2 hsub4 _ _=>?_;simp only[go_sem,zE,f1,f2,f9,f10,f11,yQf hlt (show sub.length<=281474976710656 by omega)];exact⟨tg2,by rw[yQ6 ha,List.map_append,zVa];rfl,hown2,hsub4⟩
 ·rintro fr st1 _ ⟨⟨tg',f5,hown,hsub⟩,f1,f2,f9,f10,f11,rfl⟩;rw[lTl] at f5;have hcall:=hg _ (sub.map v) _ tg' st st1 hx0 hs0 rfl (by rw[List.length_map];exact hown) hsub;simp only[go_sem,zE,zA,zL,f1,f2,f5,f10,f11,yQs (nLi _),hent];refine hcall.mono ?_;rintro _ st2 ⟨rfl,hsub2⟩;simp only[go_sem];exact yQa hsub2 ⟨rfl,rfl⟩
theorem xV2 (v:Tr->Nat)(g:Nat)(hent:entI prog g=true)(hg:zW9 gl g v):∀(k:Nat) (t:Tr),SizeOf.sizeOf t<k->wVe gl v g t
 | 0,t,h=>by omega
 | k+1,.mk r sq f u n sub,h=>wZ5 gl v g hent hg r sq f u n sub (λa ha=>xV2 v g hent hg k a (by
   have:=lSm ha;simp at h;omega))
theorem wZ6 (v:Tr->Nat)(g:Nat)(hent:entI prog g=true)(hg:zW9 gl g v)(t:Tr):wVe gl v g t:=xV2 gl v g hent hg _ t (Nat.lt_succ_self _)
theorem zXc:∀l:List Tr,sumN (l.map Tr.steps)=yQo l
 | []=>rfl
 | a::l=>by simp only[List.map_cons,sumN,yQo,zXc l]
theorem zWk:∀l:List Tr,sumN (l.map Tr.cuts)=yYn l
 | []=>rfl
 | a::l=>by simp only[List.map_cons,sumN,yYn,zWk l]
theorem zJ2:∀l:List Tr,maxN (l.map Tr.height)=yZm l
 | []=>rfl
 | a::l=>by simp only[List.map_cons,maxN,yZm,zJ2 l]
mutual
theorem wGy:∀t:Tr,t.cuts<=t.steps
 | .mk _ _ _ _ _ sub=>by
  have:=zQs sub;simp only[Tr.cuts,Tr.steps];split<;>omega
theorem zQs:∀l:List Tr,yYn l<=yQo l
 | []=>Nat.le_refl _
 | a::l=>by
  have:=wGy a;have:=zQs l;simp only[yYn,yQo];omega
end
mutual
theorem wQx:∀t:Tr,t.height<=t.steps
 | .mk _ _ _ _ _ sub=>by
  have:=yYk sub;simp only[Tr.height,Tr.steps];omega
theorem yYk:∀l:List Tr,yZm l<=yQo l
 | []=>Nat.le_refl _
 | a::l=>by
  have:=wQx a;have:=yYk l;simp only[yZm,yQo];omega
end
theorem wZ7:zW9 gl 83 Tr.steps:=by
 rintro⟨rule,s,m,u,n,sub⟩ l x tg st0 st hx hs rfl hown hsub;simp only[wJ6] at hown ⊢;simp only[Tr.steps] at hs;have hsum:=λst=>vZc gl tg (sub.map Tr.steps) hown.es (by rw[zXc];omega) st;have hw:IntKind.i64.wrap (1+((yQo sub:Nat):Int))=((1+yQo sub:Nat):Int):=by rw[w64]<;>omega
 rw[zXc] at hsum;obtain⟨rule',tl',xl',tr',xr',op',fn',ta',xa',tb',xb',v',un',tu',xu',n',ts',xs',rfl⟩:=zZc hx;refine iI func83 ?_;simp only[go_sem,zE,zA];refine (hsum _).mono ?_;rintro _ _ ⟨rfl,rfl⟩;simp only[go_sem,hw];exact yQ0 ⟨by simp only[Tr.steps],hsub⟩
theorem wKc:zW9 gl 87 Tr.cuts:=by
 rintro⟨rule,s,m,u,n,sub⟩ l x tg st0 st hx hs rfl hown hsub;simp only[wJ6] at hown ⊢;simp only[Tr.steps] at hs;have hcs:=zQs sub;have hsum:=λst=>vZc gl tg (sub.map Tr.cuts) hown.es (by rw[zWk];omega) st;have hw:IntKind.i64.wrap (1+((yYn sub:Nat):Int))=((1+yYn sub:Nat):Int):=by rw[w64]<;>omega
 rw[zWk] at hsum;obtain⟨tl',xl',tr',xr',op',fn',ta',xa',tb',xb',v',un',tu',xu',ts',xs',rfl,_⟩:=hx.mk;refine iI func87 ?_;by_cases h:rule=17
 ·have d:decide ((rule:Int)=17)=true:=dEt (by omega);simp only[go_sem,zE,zA,d];refine (hsum _).mono ?_;rintro _ _ ⟨rfl,rfl⟩;simp only[go_sem,hw];exact yQ0 ⟨by simp only[Tr.cuts,if_pos h],hsub⟩
 ·have d:decide ((rule:Int)=17)=false:=dEf (by omega);simp only[go_sem,zE,zA,d];refine (hsum _).mono ?_;rintro _ _ ⟨rfl,rfl⟩;simp only[go_sem];exact yQ0 ⟨by simp only[Tr.cuts,if_neg h,Nat.zero_add],hsub⟩
theorem xY8:zW9 gl 85 Tr.height:=by
 rintro⟨rule,s,m,u,n,sub⟩ l x tg st0 st hx hs rfl hown hsub;simp only[wJ6] at hown ⊢;simp only[Tr.steps] at hs;have hcs:=yYk sub;have hll:=yYf sub;have hw:IntKind.i64.wrap (1+((yZm sub:Nat):Int))=((1+yZm sub:Nat):Int):=by rw[w64]<;>omega
 have hm:maxN (sub.map Tr.height++[0])=yZm sub:=by rw[yGv,zJ2];simp[maxN]
 obtain⟨rule',tl',xl',tr',xr',op',fn',ta',xa',tb',xb',v',un',tu',xu',n',ts',xs',rfl⟩:=zZc hx;refine iI func85 ?_;simp only[go_sem,zE,zA,zM,zL,fits,yQ5];refine yXl hown (by rw[yV3]) hsub rfl (by simp[fits,IV.one]) (by simp only[List.length_map];omega) (by simp only[List.length_map];omega) λtg2 st4 hown2 hsub4 _ _=>?_;have hmax:=λst=>uWo gl tg2 (sub.map Tr.height++[0]) hown2.es (by simp) st;rw[hm,zVa] at hmax;simp only[go_sem,zA];refine (hmax _).mono ?_;rintro _ _ ⟨rfl,rfl⟩;simp only[go_sem,hw];exact yQ0 ⟨by simp only[Tr.height],hsub4⟩
theorem wUe (t:Tr)(x:IV)(hx:IsTr t x)(hs:t.steps<=1099511627776)(st:ISt):ICall prog gl 32 [x] st (λr st'=>r=.raw (.int .i64 (t.steps))/\st'=st):=by
 have hf:=λst=>wZ6 gl Tr.steps 83 (by simp only[go_sem]) (wZ7 gl) t x hx hs st;obtain⟨rule',tl',xl',tr',xr',op',fn',ta',xa',tb',xb',v',un',tu',xu',n',ts',xs',rfl⟩:=zZc hx;refine iI func32 ?_;simp only[go_sem,zE,zA,zL];refine (hf _).mono ?_;rintro _ _ ⟨rfl,rfl⟩;simp only[go_sem];exact yQ0 ⟨rfl,rfl⟩
theorem wVd (t:Tr)(x:IV)(hx:IsTr t x)(hs:t.steps<=1099511627776)(st:ISt):ICall prog gl 34 [x] st (λr st'=>r=.raw (.int .i64 (t.height))/\st'=st):=by
 have hf:=λst=>wZ6 gl Tr.height 85 (by simp only[go_sem]) (xY8 gl) t x hx hs st;obtain⟨rule',tl',xl',tr',xr',op',fn',ta',xa',tb',xb',v',un',tu',xu',n',ts',xs',rfl⟩:=zZc hx;refine iI func34 ?_;simp only[go_sem,zE,zA,zL];refine (hf _).mono ?_;rintro _ _ ⟨rfl,rfl⟩;simp only[go_sem];exact yQ0 ⟨rfl,rfl⟩
theorem vKp (t:Tr)(x:IV)(hx:IsTr t x)(hs:t.steps<=1099511627776)(st:ISt):ICall prog gl 36 [x] st (λr st'=>r=.raw (.int .i64 (t.cuts))/\st'=st):=by
 have hf:=λst=>wZ6 gl Tr.cuts 87 (by simp only[go_sem]) (wKc gl) t x hx hs st;obtain⟨rule',tl',xl',tr',xr',op',fn',ta',xa',tb',xb',v',un',tu',xu',n',ts',xs',rfl⟩:=zZc hx;refine iI func36 ?_;simp only[go_sem,zE,zA,zL];refine (hf _).mono ?_;rintro _ _ ⟨rfl,rfl⟩;simp only[go_sem];exact yQ0 ⟨rfl,rfl⟩
mutual
def wTr:Tr->Nat
 | .mk _ s f u n sub=>wFms s.l+wFms s.r+wFm f+wTm u+n.size+wTrs sub
def wTrs:List Tr->Nat
 | []=>0
 | a::l=>wTr a+wTrs l
end
def xZr (s:Sq)(f:Fm)(u:Tm)(n:ByteArray):Bool:=decide (wFms s.l+wFms s.r<=300)&&!decide (300<wFm f)&&!decide (300<wTm u)&&!decide (100<n.size)
mutual
def okT:Tr->Bool
 | .mk _ s f u n sub=>xZr s f u n&&okTs sub
def okTs:List Tr->Bool
 | []=>true
 | a::l=>okT a&&okTs l
end
theorem yGu:∀l m:List Tr,okTs (l++m)=(okTs l&&okTs m)
 | [],m=>by simp[okTs]
 | a::l,m=>by simp only[List.cons_append,okTs,yGu l m,Bool.and_assoc]
theorem xUg {l:List Tr}{k:Nat}{a:Tr}(h:l[k]?=some a):okTs (l.take (k+1))=(okTs (l.take k)&&okT a):=by
 rw[yQ6 h,yGu];simp[okTs]
theorem wG2 (l:List Tr)(k:Nat)(h:okTs l=true):okTs (l.take k)=true:=by
 rw[<- List.take_append_drop k l,yGu,bAt] at h;exact h.1
theorem xQz {l:List Tr}{k:Nat}{a:Tr}(h:l[k]?=some a):yQo (l.take (k+1))=yQo (l.take k)+a.steps:=by
 rw[yQ6 h,yV0];simp[yQo]
theorem xGh (l:List Tr)(k:Nat):yQo (l.take k)<=yQo l:=by
 conv=>rhs;rw[<- List.take_append_drop k l]
 rw[yV0];omega
theorem xJ6:∀ {l:List Tr}{t:Tr},t∈l->wTr t<=wTrs l
 | a::l,t,h=>by
  simp only[wTrs];rcases List.mem_cons.1 h with rfl|h
  ·omega
  ·have:=xJ6 h;omega
theorem Sum.gt {w:Nat}{r:IV}(h:Sum w 300 r):∃n:Nat,r=.raw (.int .i64 n)/\decide ((300:Int)<(n:Int))=decide (300<w):=by
 obtain⟨n,rfl,h1,h2⟩:=h;refine⟨n,rfl,?_⟩;rw[decide_eq_decide];constructor
 ·intro h;omega
 ·intro h;rcases Int.lt_or_le 300 (n:Int) with hn|hn
  ·exact hn
  ·have:=h2 hn;omega
def Left (t:Tr)(left:Int)(r:Int):Prop:=-1<=r/\r<=left/\(0<=r↔okT t=true/\(t.steps:Int)<=left)/\(0<=r->r=left-t.steps)
def sC (t:Tr):Prop:=∀(x:IV) (_:IsTr t x) (left:Int) (_:0<=left/\left<=1000) (_:wTr t<=1099511627776) (st:ISt),
 ICall prog gl 27 [x,.raw (.int .i64 left)] st (λr st'=>(∃n:Int,r=.raw (.int .i64 n)/\Left t left n)/\st'=st)
theorem xW8 (rule:Nat)(s:Sq)(f:Fm)(u:Tm)(n:ByteArray)(sub:List Tr)(IH:∀a∈sub,sC gl a):sC gl (.mk rule s f u n sub):=by
 intro x hx left hl hw st;obtain⟨tl,xl,tr,xr,op,fn,ta,xa,tb,xb,v,un,tu,xu,ts,xs,rfl,hru,e1,i1,e2,i2,hy,hz,e3,i3⟩:=hx.mk;simp only[wTr] at hw;have hfew:=λst=>uWp gl s _ ⟨tl,xl,tr,xr,rfl,e1,i1,e2,i2⟩ ⟨by omega,by omega⟩ st;have hsz:=λst=>zXr gl [f] ⟨true,.full,4⟩ _ (.inr rfl) ⟨_,_,rfl,hy,rfl⟩ 300 ⟨by omega,by omega⟩ (by simp only[wFms];omega) st;have htm:=λst=>xK0 gl [u] ⟨true,.full,3⟩ _ (.inr rfl) ⟨_,_,rfl,hz,rfl⟩ 300 ⟨by omega,by omega⟩ (by simp only[wTms];omega) st;have hbad:xZr s f u n=false->Left (.mk rule s f u n sub) left (-1):=λh=>by
  refine⟨by omega,by omega,⟨λh=>by omega,λh'=>?_⟩,λh=>by omega⟩;simp only[okT,h,Bool.false_and,bFt,false_and] at h'
 refine iI func27 ?_;simp only[go_sem,zE,zA,zL];refine (hfew _).mono ?_;rintro _ st ⟨rfl,rfl⟩;unfold xZr at hbad;cases q1:decide (wFms s.l+wFms s.r<=300)
 ·simp only[go_sem,zE];exact yQ0 ⟨⟨-1,rfl,hbad (by rw[q1];rfl)⟩,rfl⟩
 simp only[go_sem,zE,zA,zM,zL,fits,yQ5];refine (hsz _).mono ?_;rintro _ st ⟨hS,rfl⟩;obtain⟨m,rfl,hd⟩:=hS.gt;rw[show wFms [f]=wFm f from by simp[wFms]] at hd;cases q2:decide (300<wFm f)
 case true =>
  rw[q2] at hd;simp only[go_sem,zE,hd];exact yQ0 ⟨⟨-1,rfl,hbad (by rw[q1,q2];rfl)⟩,rfl⟩
 rw[q2] at hd;simp only[go_sem,zE,zA,zM,zL,fits,hd,yQ5];refine (htm _).mono ?_;rintro _ st ⟨hS2,rfl⟩;obtain⟨m2,rfl,hd2⟩:=hS2.gt;rw[show wTms [u]=wTm u from by simp[wTms]] at hd2;cases q3:decide (300<wTm u)
 case true =>
  rw[q3] at hd2;simp only[go_sem,zE,hd2];exact yQ0 ⟨⟨-1,rfl,hbad (by rw[q1,q2,q3];rfl)⟩,rfl⟩
 rw[q3] at hd2;have hdn:decide ((100:Int)<((n.size:Nat):Int))=decide (100<n.size):=by rw[decide_eq_decide];omega
 cases q4:decide (100<n.size)
 case true =>
  rw[q4] at hdn;simp only[go_sem,zE,hd2,hdn];intro _;exact yQ0 ⟨⟨-1,rfl,hbad (by rw[q1,q2,q3,q4];rfl)⟩,rfl⟩
 rw[q4] at hdn;have hnode:xZr s f u n=true:=by unfold xZr;rw[q1,q2,q3,q4];rfl
 have wl:IntKind.i64.wrap (left-1)=left-1:=w64 (by omega) (by omega);simp only[go_sem,zE,hd2,hdn,wl];intro _;refine LoopC.ctr sub.length (λk fr st' ds=>(∃l:Int,fr 1=.iv (.raw (.int .i64 l)) /\ -1<=l/\l<=left-1/\(0<=l↔okTs (sub.take k)=true/\((yQo (sub.take k):Nat):Int)+1<=left)/\(0<=l->l=left-1-(yQo (sub.take k):Nat))) /\
  fr 2=.box [.raw (.int .u8 rule),.sl tl xl,.sl tr xr,.raw (.int .u8 op),.raw (.string fn),.sl ta xa,.sl tb xb,.raw (.bool v),.raw (.string un),.sl tu xu,.raw (.string n),.sl ts xs]/\fr 5=.iv (.raw (.int .i64 k))/\st'=st/\ds=[]) ?_ ?_ ?_
 ·simp only[go_sem,zE];exact⟨⟨left-1,rfl,by omega,by omega,⟨λh=>⟨rfl,by simp only[yQo];omega⟩,λh=>by have:=h.2;simp only[yQo] at this;omega⟩,λ_=>by simp only[yQo];omega⟩,rfl⟩
 ·rintro k fr st1 _ hlt ⟨⟨l,f1,hl1,hl2,hl3,hl4⟩,f2,f5,rfl,rfl⟩;obtain⟨a,ha⟩:=yQ4 hlt;obtain⟨z,hkz,hzz⟩:=i3.get ha;have hoks:=xUg ha;have hst:=xQz ha;by_cases hle:(0:Int)<=l
  ·have hcall:=λst=>IH a (lMg ha) z hzz l ⟨hle,by omega⟩ (by have:=xJ6 (lMg ha);omega) st;obtain⟨rule',tl',xl',tr',xr',op',fn',ta',xa',tb',xb',v',un',tu',xu',n',ts',xs',rfl⟩:=zZc hzz;simp only[go_sem,zE,zB,zA,f1,f2,f5,i3.len,lt_i hlt,dEt hle,yQ1 e3,iNn,hkz,fits];intro _;refine (hcall _).mono ?_;rintro _ st2 ⟨⟨r,rfl,hr1,hr2,hr3,hr4⟩,rfl⟩;simp only[go_sem,zE,f2,f5,yQf hlt (show sub.length<=281474976710656 by omega)];have g3:=hl3.1 hle;have g4:=hl4 hle;refine⟨r,rfl,hr1,by omega,?_,λh=>by have:=hr4 h;rw[hst];omega⟩;rw[hoks,hst,g3.1,Bool.true_and];constructor
   ·intro h;have:=hr3.1 h;exact⟨this.1,by omega⟩
   ·intro h;exact hr3.2 ⟨h.1,by have:=h.2;omega⟩
  ·simp only[go_sem,zE,f1,f2,f5,i3.len,lt_i hlt,dEf hle];intro _;refine yQ0 ⟨⟨l,rfl,hl1,by omega,⟨λh=>absurd h hle,λh=>?_⟩,λh=>absurd h hle⟩,rfl⟩;have h1:=h.1;have h2:=h.2;simp only[okT,hnode,Bool.true_and] at h1;simp only[Tr.steps] at h2;have h3:=xGh sub k;exact absurd (hl3.2 ⟨wG2 sub k h1,by omega⟩) hle
 ·rintro fr st1 _ ⟨⟨l,f1,hl1,hl2,hl3,hl4⟩,f2,f5,rfl,rfl⟩;rw[lTl] at hl3 hl4;simp only[go_sem,zE,f1,f2,f5,i3.len,yQs (nLi _)];intro _;refine yQ0 ⟨⟨l,rfl,hl1,by omega,?_,λh=>by have:=hl4 h;simp only[Tr.steps];omega⟩,rfl⟩;simp only[okT,hnode,Bool.true_and,Tr.steps];constructor
  ·intro h;have:=hl3.1 h;exact⟨this.1,by omega⟩
  ·intro h;exact hl3.2 ⟨h.1,by have:=h.2;omega⟩
theorem zGk:∀(k:Nat)(t:Tr),SizeOf.sizeOf t<k->sC gl t
 | 0,t,h=>by omega
 | k+1,.mk r sq f u n sub,h=>xW8 gl r sq f u n sub (λa ha=>zGk k a (by
   have:=lSm ha;simp at h;omega))
theorem wJn (t:Tr):sC gl t:=zGk gl _ t (Nat.lt_succ_self _)
theorem wV8 (t:Tr)(x:IV)(hx:IsTr t x)(hw:wTr t<=1099511627776)(st:ISt):ICall prog gl 8 [x] st (λr st'=>r=.raw (.bool (okT t&&decide (t.steps<=60)))/\st'=st):=by
 have hs:=λst=>wJn gl t x hx 60 ⟨by omega,by omega⟩ hw st;obtain⟨rule',tl',xl',tr',xr',op',fn',ta',xa',tb',xb',v',un',tu',xu',n',ts',xs',rfl⟩:=zZc hx;refine iI func8 ?_;simp only[go_sem,zE,zA,zL];refine (hs _).mono ?_;rintro _ st ⟨⟨r,rfl,h1,h2,h3,h4⟩,rfl⟩;have hd:decide ((0:Int)<=r)=(okT t&&decide (t.steps<=60)):=by
  rw[Bool.eq_iff_iff,dTe,h3,bAt,dTe];constructor<;>intro h<;>exact⟨h.1,by have:=h.2;omega⟩
 simp only[go_sem,hd];exact yQ0 ⟨rfl,rfl⟩
end Go.Proofs.Tryz
namespace Go.Proofs.Tryz
open Go Go.Iv
set_option maxRecDepth 8000
theorem yKa {ca:Nat}{s:Sq}{rule:Nat}{main:Fm}{term:Tm}{name:ByteArray}{r:Rw}{ad:List Sq}(h1:yXe ca s=true)(h2:rowS ca rule=some r)(h3:yXw ca rule r main term name=(ad,0))
  (h4:r.left=true->hasF s.l main=true) (h5:r.right=true->hasF s.r main=true) (h6:r.asks≠2):yZv ca s rule main term name=(ad,0):=by
 unfold yZv;rw[h1,h2];simp only[Bool.not_true,bFt,if_false,h3];obtain⟨rl,rr,op,asks⟩:=r;simp only at h4 h5 h6 ⊢;have e1:(rl&&!hasF s.l main)=false:=by
  cases rl
  ·rfl
  ·rw[h4 rfl];rfl
 have e2:(rr&&!hasF s.r main)=false:=by
  cases rr
  ·rfl
  ·rw[h5 rfl];rfl
 rw[e1,e2,dEf h6];rfl
theorem yXm {l:List Fm}{f:Fm}(h:f∈l)(hr:f.right=true):hasF l f=true:=yKg.2 ⟨f,h,xV9 hr⟩
def zP:Fm:=.mk 1 ⟨#[80]⟩ [] []
def zQ:Fm:=.mk 1 ⟨#[81]⟩ [] []
def zI:Fm:=.mk 6 ⟨#[]⟩ [] [zP,zQ]
def tm0:Tm:=.mk false ⟨#[]⟩ []
def trP:Tr:=.mk 1 ⟨[zP,zI],[zP]⟩ zP tm0 ⟨#[]⟩ []
def trQ:Tr:=.mk 1 ⟨[zP,zQ],[zQ]⟩ zQ tm0 ⟨#[]⟩ []
def trA:Tr:=.mk 9 ⟨[zP,zI],[zQ]⟩ zI tm0 ⟨#[]⟩ [trP,trQ]
def row1:Rw:=⟨true,true,0,0⟩
def row9:Rw:=⟨true,false,6,0⟩
theorem yG3 {f:Fm}(h:f.right=true):yWn [f]=true:=by simp[yWn,xV9 h]
theorem zQ5 {s:Sq}(h:(decide (s.l.length<=64)&&decide (s.r.length<=64)&&s.l.all (fmB 1)&&s.r.all (fmB 1))=true):yXe 1 s=true:=by
 unfold yXe;rw[show yKf 1=true from rfl,Bool.true_and,h];rfl
theorem zWf {s:Sq}(h:(decide (s.l.length<=64)&&decide (s.r.length<=64)&&s.l.all (fmB 2)&&s.r.all (fmB 2))=true)(h2:yWn s.r=true):yXe 2 s=true:=by
 unfold yXe;rw[show yKf 2=true from rfl,Bool.true_and,h,h2];rfl
theorem wYi:yZv 1 ⟨[zP,zI],[zP]⟩ 1 zP tm0 ⟨#[]⟩=([],0):=yKa (r:=row1) (zQ5 (by decide)) rfl (by rfl) (λ_=>yXm (by simp) (by decide)) (λ_=>yXm (by simp) (by decide)) (by decide)
theorem wYh:yZv 2 ⟨[zP,zI],[zP]⟩ 1 zP tm0 ⟨#[]⟩=([],0):=yKa (r:=row1) (zWf (by decide) (yG3 (by decide))) rfl (by rfl) (λ_=>yXm (by simp) (by decide)) (λ_=>yXm (by simp) (by decide)) (by decide)
theorem wYg:yZv 1 ⟨[zP,zQ],[zQ]⟩ 1 zQ tm0 ⟨#[]⟩=([],0):=yKa (r:=row1) (zQ5 (by decide)) rfl (by rfl) (λ_=>yXm (by simp) (by decide)) (λ_=>yXm (by simp) (by decide)) (by decide)
theorem wYf:yZv 2 ⟨[zP,zQ],[zQ]⟩ 1 zQ tm0 ⟨#[]⟩=([],0):=yKa (r:=row1) (zWf (by decide) (yG3 (by decide))) rfl (by rfl) (λ_=>yXm (by simp) (by decide)) (λ_=>yXm (by simp) (by decide)) (by decide)
theorem wYn:yZv 1 ⟨[zP,zI],[zQ]⟩ 9 zI tm0 ⟨#[]⟩=([⟨[],[zP]⟩,⟨[zQ],[]⟩],0):=yKa (r:=row9) (zQ5 (by decide)) rfl (by rfl) (λ_=>yXm (by simp) (by decide)) (λh=>by cases h) (by decide)
theorem wYm:yZv 2 ⟨[zP,zI],[zQ]⟩ 9 zI tm0 ⟨#[]⟩=([⟨[],[zP]⟩,⟨[zQ],[]⟩],0):=yKa (r:=row9) (zWf (by decide) (yG3 (by decide))) rfl (by rfl) (λ_=>yXm (by simp) (by decide)) (λh=>by cases h) (by decide)
theorem yU8 {l m:List Fm}(h:∀f∈l,f∈m/\f.right=true):allF l m=true:=List.all_eq_true.2 λf hf=>yXm (h f hf).1 (h f hf).2
theorem yJy {ca rule:Nat}{s:Sq}{main:Fm}{term:Tm}{name:ByteArray}{sub:List Tr}{ad:List Sq}(h:yZv ca s rule main term name=(ad,0))(hl:sub.length=ad.length)(hp:yJ6 s ad sub=true):yZn ca (.mk rule s main term name sub)=0:=by
 simp only[yZn];rw[h];simp only[ne_eq,nTf,if_false,hl,hp,if_true]
theorem zQa:zP.right=true:=by decide
theorem xU2:zQ.right=true:=by decide
theorem wYv:zI.right=true:=by decide
theorem xU9:yJ6 ⟨[zP,zI],[zQ]⟩ [⟨[],[zP]⟩,⟨[zQ],[]⟩] [trP,trQ]=true:=by
 have a1:allF [zP,zI] [zP,zI]=true:=yU8 λf hf=>by
  simp only[List.mem_cons,List.not_mem_nil,or_false] at hf;rcases hf with rfl|rfl
  ·exact⟨by simp,zQa⟩
  ·exact⟨by simp,wYv⟩
 have a2:allF [zP] [zQ,zP]=true:=yU8 λf hf=>by
  simp only[List.mem_cons,List.not_mem_nil,or_false] at hf;subst hf;exact⟨by simp,zQa⟩
 have a3:allF [zP,zQ] [zP,zI,zQ]=true:=yU8 λf hf=>by
  simp only[List.mem_cons,List.not_mem_nil,or_false] at hf;rcases hf with rfl|rfl
  ·exact⟨by simp,zQa⟩
  ·exact⟨by simp,xU2⟩
 have a4:allF [zQ] [zQ]=true:=yU8 λf hf=>by
  simp only[List.mem_cons,List.not_mem_nil,or_false] at hf;subst hf;exact⟨by simp,xU2⟩
 simp only[yJ6,trP,trQ,Tr.sq,Sq.plus,yKm,List.append_nil,List.cons_append,List.nil_append,a1,a2,a3,a4,Bool.and_self]
theorem wKw:yZn 1 trA=0:=yJy wYn rfl xU9
theorem wKv:yZn 2 trA=0:=yJy wYm rfl xU9
theorem wKr:yZn 1 trP=0:=yJy wYi rfl rfl
theorem wKq:yZn 2 trP=0:=yJy wYh rfl rfl
theorem wKp:yZn 1 trQ=0:=yJy wYg rfl rfl
theorem wKo:yZn 2 trQ=0:=yJy wYf rfl rfl
theorem wVl:trA.walk []=[([],trA),([0],trP),([1],trQ)]:=rfl
theorem wVj:yXx 1 trA=([],0):=by
 unfold yXx;rw[wVl];simp only[yZa,wKw,wKr,wKp,if_true];rfl
theorem wVi:yXx 2 trA=([],0):=by
 unfold yXx;rw[wVl];simp only[yZa,wKv,wKq,wKo,if_true];rfl
theorem wYe:trA.steps=3:=rfl
theorem wK6:trA.height=2:=rfl
theorem vK1:trA.cuts=0:=rfl
def zN:Fm:=.mk 3 ⟨#[]⟩ [] [zP]
def zO:Fm:=.mk 5 ⟨#[]⟩ [] [zP,zN]
def trE1:Tr:=.mk 1 ⟨[zP],[zP]⟩ zP tm0 ⟨#[]⟩ []
def trE2:Tr:=.mk 4 ⟨[],[zP,zN]⟩ zN tm0 ⟨#[]⟩ [trE1]
def trE:Tr:=.mk 8 ⟨[],[zO]⟩ zO tm0 ⟨#[]⟩ [trE2]
theorem wYl:yZv 1 ⟨[zP],[zP]⟩ 1 zP tm0 ⟨#[]⟩=([],0):=yKa (r:=row1) (zQ5 (by decide)) rfl (by rfl) (λ_=>yXm (by simp) (by decide)) (λ_=>yXm (by simp) (by decide)) (by decide)
theorem wYk:yZv 1 ⟨[],[zP,zN]⟩ 4 zN tm0 ⟨#[]⟩=([⟨[zP],[]⟩],0):=yKa (r:=⟨false,true,3,0⟩) (zQ5 (by decide)) rfl (by rfl) (λh=>by cases h) (λ_=>yXm (by simp) (by decide)) (by decide)
theorem vZf:yZv 1 ⟨[],[zO]⟩ 8 zO tm0 ⟨#[]⟩=([⟨[],[zP,zN]⟩],0):=yKa (r:=⟨false,true,5,0⟩) (zQ5 (by decide)) rfl (by rfl) (λh=>by cases h) (λ_=>yXm (by simp) (by decide)) (by decide)
theorem wYj:yZv 2 ⟨[],[zO]⟩ 8 zO tm0 ⟨#[]⟩=([⟨[],[zP]⟩],0):=yKa (r:=⟨false,true,5,0⟩) (zWf (by decide) (yG3 (by decide))) rfl (by rfl) (λh=>by cases h) (λ_=>yXm (by simp) (by decide)) (by decide)
theorem wYu:zN.right=true:=by decide
theorem vKe (l:List Fm):allF [zP,zN] (l++[zP,zN])=true:=yU8 λf hf=>by
 simp only[List.mem_cons,List.not_mem_nil,or_false] at hf;rcases hf with rfl|rfl
 ·exact⟨by simp,zQa⟩
 ·exact⟨by simp,wYu⟩
theorem wKu:yZn 1 trE1=0:=yJy wYl rfl rfl
theorem wKt:yZn 1 trE2=0:=yJy wYk rfl (by
 have a1:allF [zP] [zP]=true:=yU8 λf hf=>by
  simp only[List.mem_cons,List.not_mem_nil,or_false] at hf;subst hf;exact⟨by simp,zQa⟩
 have a2:allF [zP] [zP,zN]=true:=yU8 λf hf=>by
  simp only[List.mem_cons,List.not_mem_nil,or_false] at hf;subst hf;exact⟨by simp,zQa⟩
 simp only[yJ6,trE1,Tr.sq,Sq.plus,yKm,List.append_nil,List.nil_append,a1,a2,Bool.and_self])
theorem wU5:yZn 1 trE=0:=yJy vZf rfl (by
 have a1:allF [] []=true:=rfl;simp only[yJ6,trE2,Tr.sq,Sq.plus,yKm,List.nil_append,a1,vKe [zO],Bool.and_self])
theorem wVk:trE.walk []=[([],trE),([0],trE2),([0,0],trE1)]:=rfl
theorem wVh:yXx 1 trE=([],0):=by
 unfold yXx;rw[wVk];simp only[yZa,wU5,wKu,wKt,if_true];rfl
theorem wKs:yZn 2 trE=195:=by
 have h1:hasF [zO,zP] zN=false:=by
  simp[hasF,eqF,zN,zO,zP,Fm.op]
 have h2:yJ6 ⟨[],[zO]⟩ [⟨[],[zP]⟩] [trE2]=false:=by
  have h3:allF [zP,zN] [zO,zP]=false:=List.all_eq_false.2 ⟨zN,by simp,by rw[h1];simp⟩;simp only[yJ6,trE2,Tr.sq,Sq.plus,yKm,List.cons_append,List.nil_append,h3,Bool.and_false,Bool.false_and]
 unfold trE;simp only[yZn];rw[wYj];simp only[h2];rfl
theorem wVg:yXx 2 trE=([],195):=by
 unfold yXx;rw[wVk];simp only[yZa,wKs];rfl
theorem xJp {ca:Nat}{s:Sq}{rule:Nat}{main:Fm}{term:Tm}{name:ByteArray}{r:Rw}{ad:List Sq}(h1:yXe ca s=true)(h2:rowS ca rule=some r)(h3:yXw ca rule r main term name=(ad,0))
  (h4:r.left=true->hasF s.l main=true) (h5:r.right=true->hasF s.r main=true) (h6:r.asks=2):yZv ca s rule main term name=if yJu s name then ([],193) else (ad,0):=by
 unfold yZv;rw[h1,h2];simp only[Bool.not_true,bFt,if_false,h3];obtain⟨rl,rr,op,asks⟩:=r;simp only at h4 h5 h6 ⊢;have e1:(rl&&!hasF s.l main)=false:=by
  cases rl
  ·rfl
  ·rw[h4 rfl];rfl
 have e2:(rr&&!hasF s.r main)=false:=by
  cases rr
  ·rfl
  ·rw[h5 rfl];rfl
 rw[e1,e2,dEt h6,Bool.true_and];rfl
def qx:ByteArray:=⟨#[120]⟩
def qy:ByteArray:=⟨#[121]⟩
def qu:ByteArray:=⟨#[117]⟩
def zX:Fm:=.mk 8 qx [] [.mk 1 ⟨#[81]⟩ [.mk true qx []] []]
def zY:Fm:=.mk 9 qy [] [.mk 1 ⟨#[82]⟩ [.mk true qy [],.mk true qu []] []]
def zU:Fm:=.mk 1 ⟨#[81]⟩ [.mk true qu []] []
theorem wWs:yXw 3 14 ⟨false,true,8,2⟩ zX tm0 qu=([⟨[],[zU]⟩],0):=rfl
theorem xG2 {s:Sq}(h:(decide (s.l.length<=64)&&decide (s.r.length<=64)&&s.l.all (fmB 3)&&s.r.all (fmB 3))=true):yXe 3 s=true:=by
 unfold yXe;rw[show yKf 3=true from rfl,Bool.true_and,h];rfl
theorem vKs:xJ2 3 ⟨[zP],[zX]⟩ 14 zX tm0 qu=([⟨[zP],[zX,zU]⟩],0):=by
 have h:=xJp (ca:=3) (s:=⟨[zP],[zX]⟩) (rule:=14) (main:=zX) (term:=tm0) (name:=qu) (xG2 (by decide)) rfl wWs (λh=>by cases h) (λ_=>yXm (by simp) (by decide)) rfl;have hf:yJu ⟨[zP],[zX]⟩ qu=false:=by decide
 rw[hf] at h;unfold xJ2;rw[h];rfl
theorem vKr:xJ2 3 ⟨[zY],[zX]⟩ 14 zX tm0 qu=([],193):=by
 have h:=xJp (ca:=3) (s:=⟨[zY],[zX]⟩) (rule:=14) (main:=zX) (term:=tm0) (name:=qu) (xG2 (by decide)) rfl wWs (λh=>by cases h) (λ_=>yXm (by simp) (by decide)) rfl;have hf:yJu ⟨[zY],[zX]⟩ qu=true:=by decide
 rw[hf] at h;unfold xJ2;rw[h];rfl
def zD:Fm:=.mk 4 ⟨#[]⟩ [] [zP,zQ]
theorem vX5:zZe zP=zP:=rfl
theorem vX6:zZe zD=zD:=rfl
theorem uWm:SetS ⟨[zD,zD,zP],[]⟩=(⟨[zP,zD],[]⟩,0):=by
 have hs:SetF [zD,zD,zP] [zP,zD]:=by
  refine⟨?_,λf=>?_⟩
  ·refine List.pairwise_cons.2 ⟨λf hf=>?_,List.pairwise_singleton ..⟩;obtain rfl:=List.mem_singleton.1 hf;simp[zP,zD,yXa,cmpN,lexI]
  ·simp only[List.mem_cons,List.not_mem_nil,or_false];constructor
   ·rintro (h|h)
    ·exact .inr (.inr h)
    ·exact .inl h
   ·rintro (h|h|h)
    ·exact .inr h
    ·exact .inr h
    ·exact .inl h
 have h1:yZt [zD,zD,zP]=([zP,zD],0):=by
  unfold yZt;rw[show[zD,zD,zP].all Fm.right=true by decide];simp only[if_true,List.map_cons,List.map_nil,vX5,vX6,zXk hs]
 have h2:yZt []=([],0):=by
  unfold yZt;simp only[List.all_nil,if_true,List.map_nil,xJu]
 unfold SetS;simp only[h1,h2,ne_eq,nTf,if_false]
end Go.Proofs.Tryz
namespace Go.Proofs.Tryz
open Go Go.Iv
set_option maxRecDepth 4000
def tagR:List Tr->Tag
 | []=>⟨true,.nil,0⟩
 | _::_=>⟨true,.full,12⟩
theorem wYa (l:List Tr):okEs (tagR l) 12:=by cases l<;>simp[tagR,okEs]
mutual
def trI:Tr->IV
 | .mk rule s (.mk o fn us fs) (.mk v un ts) n sub=>.agg [.raw (.int .u8 rule),.sl (tagF s.l) (fmsI s.l),.sl (tagF s.r) (fmsI s.r),.raw (.int .u8 o),.raw (.string fn),.sl (tagT us) (tmsI us),.sl (tagF fs) (fmsI fs),.raw (.bool v),.raw (.string un),.sl (tagT ts) (tmsI ts),.raw (.string n),.sl (tagR sub) (trsI sub)]
def trsI:List Tr->List IV
 | []=>[]
 | a::l=>trI a::trsI l
end
mutual
def bytT:Tr->Bool
 | .mk rule s f _ _ sub=>decide (rule<256)&&zVf s.l&&zVf s.r&&wJq f&&wKz sub
def wKz:List Tr->Bool
 | []=>true
 | a::l=>bytT a&&wKz l
end
mutual
theorem xG8:∀t:Tr,bytT t=true->IsTr t (trI t)
 | .mk rule s (.mk o fn us fs) (.mk v un ts) n sub,h=>by
  simp only[bytT,bAt,dTe] at h;obtain⟨⟨⟨⟨h1,h2⟩,h3⟩,h4⟩,h5⟩:=h;have hf:=xV4 (.mk o fn us fs) h4;have ht:=xJj (.mk v un ts);simp only[fmI] at hf;simp only[tmI] at ht;simp only[IsTr];exact⟨tagF s.l,fmsI s.l,tagF s.r,fmsI s.r,o,fn,tagT us,tmsI us,tagF fs,fmsI fs,v,un,tagT ts,tmsI ts,tagR sub,trsI sub,by simp only[trI],h1,yK2 _,yJw _ h2,yK2 _,yJw _ h3,hf,ht,wYa _,xG7 sub h5⟩
theorem xG7:∀l:List Tr,wKz l=true->IsTrs l (trsI l)
 | [],_=>rfl
 | a::l,h=>by
  simp only[wKz,bAt] at h;exact⟨_,_,by simp only[trsI],xG8 a h.1,xG7 l h.2⟩
end
def fitB (l:List Fm):Bool:=l.all λf=>decide (f.size<=1000000)
theorem zKo {l:List Fm}(h:fitB l=true):fitL l:=λg hg=>of_decide_eq_true (List.all_eq_true.1 h g hg)
def xUj:Tr->Bool
 | .mk _ s m u _ sub=>fitB s.l&&fitB s.r&&decide (m.size<=1000000)&&decide (u.size<=1000000)&&sub.all λa=>fitB a.sq.l&&fitB a.sq.r
theorem vX7 {t:Tr}(h:xUj t=true):xKa t:=by
 obtain⟨rule,s,m,u,n,sub⟩:=t;simp only[xUj,bAt,dTe,List.all_eq_true] at h;obtain⟨⟨⟨⟨h1,h2⟩,h3⟩,h4⟩,h5⟩:=h;exact⟨⟨zKo h1,zKo h2⟩,h3,h4,λa ha=>⟨zKo (h5 a ha).1,zKo (h5 a ha).2⟩⟩
theorem wZf {t:Tr}(h:(t.walk []).all (λq=>xUj q.2)=true)(hh:t.height<=1099511627776):wZg t:=⟨λq hq=>vX7 (List.all_eq_true.1 h q hq),hh⟩
theorem vJx:wZg trA:=wZf (by decide) (by decide)
theorem vJw:wZg trE:=wZf (by decide) (by decide)
theorem is_A:IsTr trA (trI trA):=xG8 trA (by decide)
theorem is_E:IsTr trE (trI trE):=xG8 trE (by decide)
end Go.Proofs.Tryz
namespace Go.Proofs.Tryz
open Go Go.Iv
set_option maxRecDepth 4000
variable (gl:Nat->Option IV)
theorem yZi (x y z:Operand):yQi 3 [(0,x),(1,y),(2,z)]=true:=rfl
theorem wJo (G:Gl gl)(T:Gt gl)(st:ISt):ICall prog gl 10 [] st (λr st'=>r=.raw (.bool true)/\st'=st):=by
 have hA1:=λst=>zKb gl G T 1 trA (trI trA) is_A vJx st;have hA2:=λst=>zKb gl G T 2 trA (trI trA) is_A vJx st;have hE1:=λst=>zKb gl G T 1 trE (trI trE) is_E vJw st;have hE2:=λst=>zKb gl G T 2 trE (trI trE) is_E vJw st;simp only[wVj] at hA1;simp only[wVi] at hA2;simp only[wVh] at hE1;simp only[wVg] at hE2;refine ICall.intro (c:=cf prog gl [] [(2,[2,10,0,1,3,4,5,6,7,8,9,11]),(4,[0,2,9,10,11,13,1,3,4,5,6,7,8,12,14]),(9,[8,9,11,0,1,2,3,4,5,6,7,10,12]),(10,[0,1,2,5,6,8,3,4,7,9]),(18,[3,4,7,8,0,1,2,5,6,9,10,11,12,13,14]),(19,[0,1,3,4,7,8,2,5,6,9,10,11,12,13,14]),(21,[0,1,10,2,3,4,5,6,7,8,9,11,12]),(22,[0,1,2,3,4,5,6,7,8,9,10,14,15,11,12,13,16,17,18,19,20,21,22,23,24,25,26,27,28,29,30,31,32,33,35,34,36,37,38,39,40,41])]) func10 rfl (by show _<=241;simp) (by kernel_rfl) ?_;simp only[go_sem,zA,zL,yQj]
 repeat (first
  | (refine (q_p gl _ _ _ _).mono ?_;rintro _ st ⟨rfl,rfl⟩;simp only[go_sem,zE,zA,zM,zL,fits,yQ5,yQn,yQj,fits])
  | (refine (q_no gl _ _ _ _ _ _ _).mono ?_;rintro _ st ⟨rfl,rfl⟩;simp only[go_sem,zE,zB,zA,zM,zS,zL,reduceCtorEq,fits,yQ5,yQn,yZi,yQj,decide_true,fits])
  | (refine (xZg gl _ _ _ _ _ _ _ _ _ _ _ _ _ _).mono ?_;rintro _ st ⟨rfl,rfl⟩;simp only[go_sem,zE,zA,zL,yQj])
  | (refine (q_fs gl _ _ _).mono ?_;rintro _ st ⟨rfl,rfl⟩;simp only[go_sem,zE,zA,zL,yQj])
  | (refine (q_sq gl _ _ _ _ _).mono ?_;rintro _ st ⟨rfl,rfl⟩;simp only[go_sem,zE,zA,zM,zL,fits,yQn,yQj,fits])
  | (refine (q_v gl _ _).mono ?_;rintro _ st ⟨rfl,rfl⟩;simp only[go_sem,zE,zB,zA,zM,zS,zL,reduceCtorEq,fits,yQ5,yQn,yZi,yQj,decide_true,fits]))
 refine (hA1 _).mono ?_;rintro _ st ⟨⟨tg1,rfl,ht1⟩,rfl⟩;simp only[go_sem,zE,zA,zL];refine (hA2 _).mono ?_;rintro _ st ⟨⟨tg2,rfl,ht2⟩,rfl⟩;simp only[go_sem,zE,zA,zL,yQj]
 repeat (first
  | (refine (q_p gl _ _ _ _).mono ?_;rintro _ st ⟨rfl,rfl⟩;simp only[go_sem,zA,zM,zL,fits,yQ5,yQj,fits])
  | (refine (q_no gl _ _ _ _ _ _ _).mono ?_;rintro _ st ⟨rfl,rfl⟩;simp only[go_sem,zE,zA,zM,zL,fits,yQn,yQj,fits])
  | (refine (xZg gl _ _ _ _ _ _ _ _ _ _ _ _ _ _).mono ?_;rintro _ st ⟨rfl,rfl⟩;simp only[go_sem,zE,zA,zL,yQj])
  | (refine (q_fs gl _ _ _).mono ?_;rintro _ st ⟨rfl,rfl⟩;simp only[go_sem,zE,zA,zL,yQj])
  | (refine (q_sq gl _ _ _ _ _).mono ?_;rintro _ st ⟨rfl,rfl⟩;simp only[go_sem,zE,zA,zM,zL,fits,yQ5,yQj,fits])
  | (refine (q_v gl _ _).mono ?_;rintro _ st ⟨rfl,rfl⟩;simp only[go_sem,zE,zB,zA,zM,zS,zL,reduceCtorEq,fits,yQ5,yQn,yZi,yQj,decide_true,fits]))
 refine (hE1 _).mono ?_;rintro _ st ⟨⟨tg3,rfl,ht3⟩,rfl⟩;simp only[go_sem,zE,zA,zL];refine (hE2 _).mono ?_;rintro _ st ⟨⟨tg4,rfl,ht4⟩,rfl⟩;have hz1:IntKind.i64.wrap (((0:Nat):Int)+((0:Nat):Int))=0:=rfl;have hz2:IntKind.i64.wrap ((0:Int)+((0:Nat):Int))=0:=rfl;have hz3:decide ((0:Int)=0)=true:=rfl;have hz4:decide (((195:Nat):Int)=195)=true:=rfl;have hz5:plI []=[]:=rfl;have hS:=λst=>wUe gl trA (trI trA) is_A (by decide) st;have hH:=λst=>wVd gl trA (trI trA) is_A (by decide) st;have hC:=λst=>vKp gl trA (trI trA) is_A (by decide) st;simp only[wYe] at hS;simp only[wK6] at hH;simp only[vK1] at hC;simp only[go_sem,zE,zA,zL,hz1,hz2,hz4,hz5,decide_true,show decide (((0:Nat):Int)=0)=true from rfl];intros;refine (hS _).mono ?_;rintro _ st ⟨rfl,rfl⟩;simp only[go_sem,zE,zA,zL,show decide (((3:Nat):Int)=3)=true from rfl];refine (hH _).mono ?_;rintro _ st ⟨rfl,rfl⟩;simp only[go_sem,zE,zA,zL,show decide (((2:Nat):Int)=2)=true from rfl];refine (hC _).mono ?_;rintro _ st ⟨rfl,rfl⟩;simp only[go_sem,zE,zL,yQj,show decide (((0:Nat):Int)=0)=true from rfl]
 repeat (first
  | (refine (q_p gl _ _ _ _).mono ?_;rintro _ st ⟨rfl,rfl⟩;simp only[go_sem,zA,zM,zL,fits,yQ5,fits])
  | (refine (q_no gl _ _ _ _ _ _ _).mono ?_;rintro _ st ⟨rfl,rfl⟩;simp only[go_sem,zE,zB,zA,zM,zS,zL,reduceCtorEq,fits,yQ5,yQn,yZi,yQj,decide_true,fits])
  | (refine (xZg gl _ _ _ _ _ _ _ _ _ _ _ _ _ _).mono ?_;rintro _ st ⟨rfl,rfl⟩;simp only[go_sem,zE,zB,zA,zM,zS,zL,reduceCtorEq,fits,yQ5,yQn,yZi,yQj,decide_true,fits])
  | (refine (q_fs gl _ _ _).mono ?_;rintro _ st ⟨rfl,rfl⟩;simp only[go_sem,zE,zA,zM,zL,fits,yQ5,yQj,fits])
  | (refine (q_sq gl _ _ _ _ _).mono ?_;rintro _ st ⟨rfl,rfl⟩;simp only[go_sem,zE,zA,zL,yQj])
  | (refine (q_v gl _ _).mono ?_;rintro _ st ⟨rfl,rfl⟩;simp only[go_sem,zE,zA,zM,zL,fits,yQ5,yQn,yQj,fits]))
 have hB1:=λst=>wWw gl G T 3 ⟨[zP],[zX]⟩ (.agg [.sl (tagF [zP]) (fmsI [zP]),.sl (tagF [zX]) (fmsI [zX])]) ⟨_,_,_,_,rfl,yK2 _,yJw _ (by decide),yK2 _,yJw _ (by decide)⟩ ⟨zKo (by decide),zKo (by decide)⟩ 14 zX (fmI zX) (xV4 zX (by decide)) (by decide) tm0 (tmI tm0) (xJj tm0) (by decide) qu st;simp only[vKs] at hB1;refine (hB1 _).mono ?_;rintro _ st ⟨tg5,xs5,rfl,ht5,hx5,rfl⟩;obtain⟨w5,_,rfl,hw5,rfl⟩:=hx5;simp only[go_sem,zE,zA,zM,zL,fits,yQ5]
 repeat (first
  | (refine (q_p gl _ _ _ _).mono ?_;rintro _ st ⟨rfl,rfl⟩;simp only[go_sem,zE,zB,zA,zM,zS,zL,reduceCtorEq,fits,yQ5,yQn,yZi,yQj,decide_true,fits])
  | (refine (q_no gl _ _ _ _ _ _ _).mono ?_;rintro _ st ⟨rfl,rfl⟩;simp only[go_sem,zE,zB,zA,zM,zS,zL,reduceCtorEq,fits,yQ5,yQn,yZi,yQj,decide_true,fits])
  | (refine (xZg gl _ _ _ _ _ _ _ _ _ _ _ _ _ _).mono ?_;rintro _ st ⟨rfl,rfl⟩;simp only[go_sem,zE,zB,zA,zM,zS,zL,reduceCtorEq,fits,yQ5,yQn,yZi,yQj,decide_true,fits])
  | (refine (q_fs gl _ _ _).mono ?_;rintro _ st ⟨rfl,rfl⟩;simp only[go_sem,zE,zA])
  | (refine (q_sq gl _ _ _ _ _).mono ?_;rintro _ st ⟨rfl,rfl⟩;simp only[go_sem,zE,zA,zL,yQj])
  | (refine (q_v gl _ _).mono ?_;rintro _ st ⟨rfl,rfl⟩;simp only[go_sem,zE,zB,zA,zM,zS,zL,reduceCtorEq,fits,yQ5,yQn,yZi,yQj,decide_true,fits]))
 have hB2:=λst=>wWw gl G T 3 ⟨[zY],[zX]⟩ (.agg [.sl (tagF [zY]) (fmsI [zY]),.sl (tagF [zX]) (fmsI [zX])]) ⟨_,_,_,_,rfl,yK2 _,yJw _ (by decide),yK2 _,yJw _ (by decide)⟩ ⟨zKo (by decide),zKo (by decide)⟩ 14 zX (fmI zX) (xV4 zX (by decide)) (by decide) tm0 (tmI tm0) (xJj tm0) (by decide) qu st;simp only[vKr] at hB2;refine (hB2 _).mono ?_;rintro _ st ⟨tg6,xs6,rfl,ht6,hx6,rfl⟩;simp only[go_sem,zE,zA,zL,yQj]
 repeat (first
  | (refine (q_p gl _ _ _ _).mono ?_;rintro _ st ⟨rfl,rfl⟩;simp only[go_sem,zE,zA,zM,zL,fits,yZi,yQj,fits])
  | (refine (q_no gl _ _ _ _ _ _ _).mono ?_;rintro _ st ⟨rfl,rfl⟩;simp only[go_sem,zE,zB,zA,zM,zS,zL,reduceCtorEq,fits,yQ5,yQn,yZi,yQj,decide_true,fits])
  | (refine (xZg gl _ _ _ _ _ _ _ _ _ _ _ _ _ _).mono ?_;rintro _ st ⟨rfl,rfl⟩;simp only[go_sem,zE,zA,zL,yQj])
  | (refine (q_fs gl _ _ _).mono ?_;rintro _ st ⟨rfl,rfl⟩;simp only[go_sem,zA])
  | (refine (q_sq gl _ _ _ _ _).mono ?_;rintro _ st ⟨rfl,rfl⟩;simp only[go_sem,zA])
  | (refine (q_v gl _ _).mono ?_;rintro _ st ⟨rfl,rfl⟩;simp only[go_sem,zE,zB,zA,zM,zS,zL,reduceCtorEq,fits,yQ5,yQn,yZi,yQj,decide_true,fits]))
 have hD:=λst=>uWl gl G T ⟨[zD,zD,zP],[]⟩ (.agg [.sl (tagF [zD,zD,zP]) (fmsI [zD,zD,zP]),.sl (tagF []) (fmsI [])]) ⟨_,_,_,_,rfl,yK2 _,yJw _ (by decide),yK2 _,yJw _ (by decide)⟩ ⟨zKo (by decide),zKo (by decide)⟩ (by decide) st;simp only[uWm] at hD;refine (hD _).mono ?_;rintro _ st ⟨⟨y,rfl,hy⟩,rfl⟩;obtain⟨ty1,xy1,ty2,xy2,rfl,ey1,iy1,ey2,iy2⟩:=hy;obtain⟨tw1,xw1,tw2,xw2,rfl,ew1,iw1,ew2,iw2⟩:=hw5;have z1:decide (((1:Nat):Int)=1)=true:=rfl;have z2:decide (((193:Nat):Int)=193)=true:=rfl;have z3:decide (((0:Nat):Int)=0)=true:=rfl;simp only[go_sem,zE,zB,zA,zL,fits,yQj,yQ1 ht5,Int.le_refl,Int.toNat_zero,z1,z3]
 repeat (first
  | (refine (q_p gl _ _ _ _).mono ?_;rintro _ st ⟨rfl,rfl⟩;simp only[go_sem,zE,zA,zM,zL,fits,yQ5,yQn,fits])
  | (refine (q_no gl _ _ _ _ _ _ _).mono ?_;rintro _ st ⟨rfl,rfl⟩;simp only[go_sem,zE,zB,zA,zM,zS,zL,reduceCtorEq,fits,yQ5,yQn,yZi,yQj,decide_true,fits])
  | (refine (xZg gl _ _ _ _ _ _ _ _ _ _ _ _ _ _).mono ?_;rintro _ st ⟨rfl,rfl⟩;simp only[go_sem,zE,zB,zA,zM,zS,zL,reduceCtorEq,fits,yQ5,yQn,yZi,yQj,decide_true,fits])
  | (refine (q_fs gl _ _ _).mono ?_;rintro _ st ⟨rfl,rfl⟩;simp only[go_sem,zE,zA,zL,yQj])
  | (refine (q_sq gl _ _ _ _ _).mono ?_;rintro _ st ⟨rfl,rfl⟩;simp only[go_sem,zE,zA])
  | (refine (q_v gl _ _).mono ?_;rintro _ st ⟨rfl,rfl⟩;simp only[go_sem,zE,zA,zM,zL,fits,yQ5,yQj,fits]))
 have hS1:=λst=>zVq gl ⟨[zP],[zX,zU]⟩ ⟨[zP],[zX,zU]⟩ (.agg [.sl tw1 xw1,.sl tw2 xw2]) (.agg [.sl (tagF [zP]) (fmsI [zP]),.sl (tagF [zX,zU]) (fmsI [zX,zU])]) ⟨_,_,_,_,rfl,ew1,iw1,ew2,iw2⟩ ⟨_,_,_,_,rfl,yK2 _,yJw _ (by decide),yK2 _,yJw _ (by decide)⟩ st;have hS2:=λst=>zVq gl ⟨[zP,zD],[]⟩ ⟨[zP,zD],[]⟩ (.agg [.sl ty1 xy1,.sl ty2 xy2]) (.agg [.sl (tagF [zP,zD]) (fmsI [zP,zD]),.sl (tagF []) (fmsI [])]) ⟨_,_,_,_,rfl,ey1,iy1,ey2,iy2⟩ ⟨_,_,_,_,rfl,yK2 _,yJw _ (by decide),yK2 _,yJw _ (by decide)⟩ st;refine (hS1 _).mono ?_;rintro _ st ⟨rfl,rfl⟩;simp only[go_sem,zE,zA,zL,yQj,show ∀s:Sq,eqB s s=true from λs=>yZ6.2 rfl,z2,z3]
 repeat (first
  | (refine (q_p gl _ _ _ _).mono ?_;rintro _ st ⟨rfl,rfl⟩;simp only[go_sem,zE,zA,zM,zL,fits,yQn,fits])
  | (refine (q_no gl _ _ _ _ _ _ _).mono ?_;rintro _ st ⟨rfl,rfl⟩;simp only[go_sem,zE,zB,zA,zM,zS,zL,reduceCtorEq,fits,yQ5,yQn,yZi,yQj,decide_true,fits])
  | (refine (xZg gl _ _ _ _ _ _ _ _ _ _ _ _ _ _).mono ?_;rintro _ st ⟨rfl,rfl⟩;simp only[go_sem,zE,zB,zA,zM,zS,zL,reduceCtorEq,fits,yQ5,yQn,yZi,yQj,decide_true,fits])
  | (refine (q_fs gl _ _ _).mono ?_;rintro _ st ⟨rfl,rfl⟩;simp only[go_sem,zE,zA])
  | (refine (q_sq gl _ _ _ _ _).mono ?_;rintro _ st ⟨rfl,rfl⟩;simp only[go_sem,zE,zA])
  | (refine (q_v gl _ _).mono ?_;rintro _ st ⟨rfl,rfl⟩;simp only[go_sem,zE,zB,zA,zM,zS,zL,reduceCtorEq,fits,yQ5,yQn,yZi,yQj,decide_true,fits]))
 refine (hS2 _).mono ?_;rintro _ st ⟨rfl,rfl⟩;simp only[go_sem,zE,show ∀s:Sq,eqB s s=true from λs=>yZ6.2 rfl];exact yQ0 ⟨rfl,rfl⟩
end Go.Proofs.Tryz
namespace Go.Proofs.Tryz
open Go Go.Iv
mutual
theorem zWs:∀t:Tm,t.size<=wTm t
 | .mk _ n us=>by have:=zXj us;simp only[wTm,Tm.size];omega
theorem zXj:∀l:List Tm,yQd l<=wTms l
 | []=>Nat.le_refl _
 | a::l=>by have:=zWs a;have:=zXj l;simp only[wTms,yQd];omega
end
mutual
theorem xJs:∀f:Fm,f.size<=wFm f
 | .mk _ n us sub=>by have:=zXj us;have:=yW0 sub;simp only[wFm,Fm.size];omega
theorem yW0:∀l:List Fm,yQ7 l<=wFms l
 | []=>Nat.le_refl _
 | a::l=>by have:=xJs a;have:=yW0 l;simp only[wFms,yQ7];omega
end
theorem yG0 {s:Sq}{f:Fm}{u:Tm}{n:ByteArray}(h:xZr s f u n=true):wFms s.l+wFms s.r<=300/\wFm f<=300/\wTm u<=300/\n.size<=100:=by
 unfold xZr at h;simp only[bAt,dTe,Bool.not_eq_true',decide_eq_false_iff_not] at h;omega
theorem xV5 {s:Sq}(h:wFms s.l+wFms s.r<=300):yYm s:=by
 have:=yW0 s.l;have:=yW0 s.r;exact⟨λf hf=>by have:=yYx hf;omega,λf hf=>by have:=yYx hf;omega⟩
theorem xK6:∀ {l:List Tr}{a:Tr},okTs l=true->a∈l->okT a=true
 | b::l,a,h,ha=>by
  simp only[okTs,bAt] at h;rcases List.mem_cons.1 ha with rfl|ha
  ·exact h.1
  ·exact xK6 h.2 ha
theorem wJr:∀ {t:Tr},okT t=true->xKa t
 | .mk rule s m u n sub,h=>by
  simp only[okT,bAt] at h;obtain⟨h1,h2,h3,_⟩:=yG0 h.1;have:=xJs m;have:=zWs u;refine⟨xV5 h1,by omega,by omega,λa ha=>?_⟩;have:=xK6 h.2 ha;obtain⟨rule',s',m',u',n',sub'⟩:=a;simp only[okT,bAt] at this;exact xV5 (yG0 this.1).1
mutual
theorem xK7:∀(p:List Nat)(t:Tr),okT t=true->∀q∈t.walk p,okT q.2=true
 | p,.mk rule s m u n sub,h,q,hq=>by
  simp only[Tr.walk,List.mem_cons] at hq;rcases hq with rfl|hq
  ·exact h
  ·simp only[okT,bAt] at h;exact zU2 p 0 sub h.2 q hq
theorem zU2:∀(p:List Nat)(i:Nat)(l:List Tr),okTs l=true->∀q∈yZb p i l,okT q.2=true
 | _,_,[],_,q,hq=>by cases hq
 | p,i,a::l,h,q,hq=>by
  simp only[okTs,bAt] at h;simp only[yZb,List.mem_append] at hq;rcases hq with hq|hq
  ·exact xK7 _ a h.1 q hq
  ·exact zU2 p (i+1) l h.2 q hq
end
theorem wG3 {t:Tr}(h:okT t=true)(hs:t.steps<=1099511627776):wZg t:=⟨λq hq=>wJr (xK7 [] t h q hq),Nat.le_trans t.height_le_steps hs⟩
end Go.Proofs.Tryz
namespace Go.Proofs.Tryz
open Go Go.Iv
set_option maxRecDepth 4000
variable (gl:Nat->Option IV)
theorem zQ4:∀l:List IV,(∀x∈l,∃v,x=.raw v)->ages l=l
 | [],_=>rfl
 | x::l,h=>by
  obtain⟨v,rfl⟩:=h x (by simp);simp only[ages,age,zQ4 l λy hy=>h y (by simp[hy])]
theorem IsSees.age:∀ {l:List (List Nat)}{xs:List IV},IsSees l xs->IsSees l (ages xs)
 | [],xs,h=>by simp only[IsSees] at h;subst h;rfl
 | a::l,xs,h=>by
  obtain⟨t,ys,rfl,ht,h⟩:=h;refine⟨⟨false,t.cap,t.es⟩,ages ys,?_,ht,h.age⟩;simp only[ages,Go.Iv.age];rw[zQ4 (yXk a) λx hx=>by obtain⟨n,_,rfl⟩:=List.mem_map.1 hx;exact⟨_,rfl⟩]
theorem BoxMo.isMo {b:Nat}{M:Mo}{st:ISt}(h:BoxMo b M st):∃cs,st b=some (.box cs)/\IsMo M (ages cs):=by
 obtain⟨t1,xs,t2,t3,o2,o3,hst,e1,hse,h2,h3,hne⟩:=h.ex;refine⟨_,hst,⟨false,t1.cap,t1.es⟩,ages xs,⟨false,t2.cap,t2.es⟩,⟨false,t3.cap,t3.es⟩,?_,e1,hse.age,h2.es,h3.es⟩;unfold yJ9;simp only[ages,age];rw[zQ4 (M.syms.map λp=>IV.raw (.string p.1)) λx hx=>by obtain⟨n,_,rfl⟩:=List.mem_map.1 hx;exact⟨_,rfl⟩];rw[zQ4 (M.syms.map λp=>IV.raw (.int .i64 (p.2:Int))) λx hx=>by obtain⟨n,_,rfl⟩:=List.mem_map.1 hx;exact⟨_,rfl⟩]
theorem BoxMo.lentOk {b:Nat}{M:Mo}{st:ISt}(h:BoxMo b M st):∀c o,st c=some o->(∃cs,o=.box cs)\/wGq o:=λc o hc=>by
 by_cases hcb:c=b
 ·subst hcb;obtain⟨cs,hst,_⟩:=h.isMo;rw[hst] at hc;cases hc;exact .inl ⟨_,rfl⟩
 ·rcases h.rest c hcb with h0|⟨n,s,h0⟩
  ·rw[h0] at hc;cases hc
  ·rw[h0] at hc;cases hc;exact .inr trivial
theorem xKk {b:Nat}{st:ISt}{cs:List IV}(hb:st b=some (.box cs)):Lent st (.raw (.pointer (some ⟨b,0,none⟩))) (.cptr (.agg (ages cs))) :=
 .inr ⟨.cptr (.agg cs),.ptr b (.agg cs) cs hb rfl λi r c hr hc=>by
  rw[show (IV.agg cs).cells=cs from rfl,hr] at hc;cases hc;exact .refl _,rfl⟩
theorem xWh (b:Nat)(M:Mo)(hO:MoOk M)(hS:SeesOk M)(st:ISt)(h:BoxMo b M st) :
  ICall prog gl 77 [.raw (.pointer (some ⟨b,0,none⟩))] st (λr st'=>st'=st/\∃q:Bool,r=.raw (.bool q)/\(q=true->M.sees.length=1\/M.pers)):=by
 obtain⟨cs,hb,hM⟩:=h.isMo;refine ICall.lent (K:=λr=>∃q:Bool,r=.raw (.bool q)/\(q=true->M.sees.length=1\/M.pers)) h.lentOk (args':=[.cptr (.agg (ages cs))]) ⟨_,[],rfl,xKk hb,rfl⟩ ?_;refine (xWi gl M (ages cs) hM hO hS (yUk st)).mono ?_;rintro _ _ ⟨⟨q,rfl,h⟩,rfl⟩;exact⟨rfl,trivial,q,rfl,h⟩
theorem wQs (b:Nat)(M:Mo)(hO:MoOk M)(hS:SeesOk M)(f:Fm)(x:IV)(hx:IsFm f x)(hsh:shF f)(hsz:f.size<=1000)(w:Nat)(hw:w<M.sees.length)(st:ISt)(h:BoxMo b M st) :
  ICall prog gl 78 [.raw (.pointer (some ⟨b,0,none⟩)),x,.raw (.int .i64 (w:Int)),.sl ⟨true,.nil,0⟩ [],.sl ⟨true,.nil,0⟩ []] st (λr st'=>st'=st/\r=.raw (.bool (hold (toMd M) f [] w))):=by
 obtain⟨cs,hb,hM⟩:=h.isMo;refine ICall.lent (K:=λr=>r=.raw (.bool (hold (toMd M) f [] w))) h.lentOk (args':=[.cptr (.agg (ages cs)),x,.raw (.int .i64 (w:Int)),.sl ⟨true,.nil,0⟩ [],.sl ⟨true,.nil,0⟩ []]) ⟨_,_,rfl,xKk hb,_,_,rfl,.inl rfl,_,_,rfl,.inl rfl,_,_,rfl,.inl rfl,_,_,rfl,.inl rfl,rfl⟩ ?_;refine (wGj gl M hO hS f (ages cs) hM x hx hsh w hw [] _ _ ⟨⟨_,rfl,.inl rfl⟩,⟨_,rfl,.inl rfl⟩,(λp hp=>by cases hp),by simp⟩ (by simp only[List.length_nil];omega) (yUk st)).mono ?_;rintro _ _ ⟨rfl,rfl⟩;exact⟨rfl,trivial,rfl⟩
theorem Ft.put {st:ISt}{n:Nat}{t:Tag}{o:Option Nat}(h:Ft st n t o){b:Nat}{cs:List IV}(hb:st b=some (.box cs))(x:Option IObj):Ft (st.put b x) n t o:=by
 rcases h with h|⟨g,rfl,rfl,h⟩
 ·exact .inl h
 ·refine .inr ⟨g,rfl,rfl,?_⟩;rw[yQh]
  ·exact h
  ·rintro rfl;rw[hb] at h;cases h
theorem BoxMo.tab {b:Nat}{M:Mo}{st:ISt}(h:BoxMo b M st)(k:Nat){t1:Tag}{xs:List IV}{t2 t3:Tag}(hst:st b=some (.box (yJ9 t1 xs t2 t3 M))):BoxMo b { M with table:=k } (st.put b (some (.box (yJ9 t1 xs t2 t3 { M with table:=k })))):=by
 obtain⟨t1',xs',t2',t3',o2,o3,hst',e1,hse,h2,h3,hne⟩:=h.ex;rw[hst'] at hst;unfold yJ9 at hst;simp only[Option.some.injEq,IObj.box.injEq,List.cons.injEq,IV.sl.injEq,and_true,true_and] at hst;obtain⟨⟨rfl,rfl⟩,rfl,rfl⟩:=hst;refine⟨⟨t1',xs',t2',t3',o2,o3,ISt.put_same ..,e1,hse,h2.put hst' _,h3.put hst' _,hne⟩,λc hc=>?_⟩;rw[yQh hc];exact h.rest c hc
theorem shl1 (n:Nat)(h:n<=10):IntKind.i64.wrap (1*2 ^ (min n 64))=((2 ^ n:Nat):Int):=by
 have:n=0\/n=1\/n=2\/n=3\/n=4\/n=5\/n=6\/n=7\/n=8\/n=9\/n=10:=by omega
 rcases this with rfl|rfl|rfl|rfl|rfl|rfl|rfl|rfl|rfl|rfl|rfl<;>rfl
theorem wZ4 (T:Gt gl)(s:Sq)(tl tr:Tag)(xl xr:List IV)(htl:okEs tl 4)(htr:okEs tr 4)(hxl:IsFms s.l xl)(hxr:IsFms s.r xr)(hw:wFms s.l+wFms s.r<=300)(hshl:shFs s.l)(hshr:shFs s.r)(hokl:yJz s.l=true)(hokr:yJz s.r=true)
  (sees:List (List Nat)) (elems ca:Nat) (hF:FrOk sees elems ca) (ts:Tag) (ys:List IV) (hts:okEs ts 1) (hys:IsSees sees ys) (hsd:∀M:Md,MdOk M ca sees.length->∀w<sees.length,tS M w s) :
  ICall prog gl 26 [.agg [.sl tl xl,.sl tr xr],.sl ts ys,.raw (.int .i64 (elems:Int))] (λ_=>none) (λr st'=>r=.raw (.bool true)/\st'=λ_=>none):=by
 have hzl:=yW0 s.l;have hzr:=yW0 s.r;have hll:=yZj s.l;have hlr:=yZj s.r;have hz1:=λst=>zXr gl s.l tl xl htl hxl 80 (by omega) (by omega) st;have hz2:=λst=>zXr gl s.r tr xr htr hxr 80 (by omega) (by omega) st;have hk1:=λst=>wW1 gl s.l tl xl htl hxl (by omega) st;have hk2:=λst=>wW1 gl s.r tr xr htr hxr (by omega) st;have hFn:=hF.n;have hFe:=hF.el;refine ICall.intro (c:=cf prog gl [36,56,60] [(1,[0,1,3,4,2,5,6,7,8,9,10,11,12,13,14,15,16,17,18,19])]) func26 rfl (by show _<=120;simp) (by kernel_rfl) ?_;simp only[go_sem,zE,zB,zA,zM,zS,zL,reduceCtorEq,fits];refine (hz1 _).mono ?_;rintro _ _ ⟨⟨n1,rfl,hn1,_⟩,rfl⟩;simp only[go_sem,zE,zB,zA,zM,zS,zL,reduceCtorEq,fits];refine (hz2 _).mono ?_;rintro _ _ ⟨⟨n2,rfl,hn2,_⟩,rfl⟩;have hadd:IntKind.i64.wrap ((n1:Int)+(n2:Int))=((n1+n2:Nat):Int):=by rw[w64]<;>omega
 by_cases h80:80<n1+n2
 ·simp only[go_sem,zE,zB,zA,zM,zS,zL,reduceCtorEq,fits,hadd,show decide ((80:Int)<((n1+n2:Nat):Int))=true from dEt (by omega)];exact yQa (st':=λ_=>none) (λ_ _ h=>by cases h) ⟨rfl,rfl⟩
 simp only[go_sem,zE,zB,zA,zM,zS,zL,reduceCtorEq,fits,hadd,show decide ((80:Int)<((n1+n2:Nat):Int))=false from dEf (by omega)];refine (hk1 _).mono ?_;rintro _ _ ⟨⟨m1,rfl,_⟩,rfl⟩;by_cases h4:4<m1
 ·simp only[go_sem,zE,zB,zA,zM,zS,zL,reduceCtorEq,fits,hadd,show decide ((4:Int)<(m1:Int))=true from dEt (by omega)];exact yQa (st':=λ_=>none) (λ_ _ h=>by cases h) ⟨rfl,rfl⟩
 simp only[go_sem,zE,zB,zA,zM,zS,zL,reduceCtorEq,fits,hadd,show decide ((4:Int)<(m1:Int))=false from dEf (by omega)];refine (hk2 _).mono ?_;rintro _ _ ⟨⟨m2,rfl,_⟩,rfl⟩;by_cases h4:4<m2
 ·simp only[go_sem,zE,zB,zA,zM,zS,zL,reduceCtorEq,fits,hadd,show decide ((4:Int)<(m2:Int))=true from dEt (by omega)];exact yQa (st':=λ_=>none) (λ_ _ h=>by cases h) ⟨rfl,rfl⟩
 simp only[go_sem,zE,zB,zA,zM,zS,zL,reduceCtorEq,fits,hadd,show decide ((4:Int)<(m2:Int))=false from dEf (by omega)];refine λb=>?_;have hB0:BoxMo b ⟨sees,elems,[],0,0⟩ (ISt.put (λ_=>none) b (some (.box [.sl ts ys,.raw (.int .i64 (elems:Int)),.sl ⟨true,.nil,0⟩ [],.sl ⟨true,.nil,0⟩ [],.raw (.int .i64 0),.raw (.int .i64 0)]))) :=
  ⟨⟨ts,ys,⟨true,.nil,0⟩,⟨true,.nil,0⟩,none,none,ISt.put_same _ _ _,hts,hys,.inl ⟨rfl,rfl,rfl⟩,.inl ⟨rfl,rfl,rfl⟩,λg h=>by cases h⟩,λc hc=>.inl (yQh hc)⟩
 have hbd:=wWr;have hP1:=zGt gl T b _ ⟨hFe.2,hFn,by simp,by simp⟩ (λp hp=>by cases hp) s.l tl xl htl hxl hshl hokl (by omega) _ hB0;refine hP1.mono ?_;rintro _ st1 ⟨M1,hB1,hL1⟩;have hb1:=hL1.bits;have hb2:3*yQ7 s.l*bdB<=900*bdB:=Nat.mul_le_mul_right _ (by omega);have hn1':=hL1.n;simp only[List.length_nil] at hb1 hn1';have hP2:=zGt gl T b M1 ⟨by rw[hL1.elems];exact hFe.2,by rw[hL1.sees];exact hFn,by omega,by omega⟩ hL1.first s.r tr xr htr hxr hshr hokr (by omega) _ hB1;simp only[go_sem,zE,zB,zA,zM,zS,zL,reduceCtorEq,fits];refine hP2.mono ?_;rintro _ st2 ⟨M2,hB2,hL2⟩;have hse2:M2.sees=sees:=hL2.sees.trans hL1.sees;have hel2:M2.elems=elems:=hL2.elems.trans hL1.elems;have hn2':=hL2.n;have hf2:=hL2.first;obtain⟨t1,x1,t2,t3,o2,o3,hst2,_⟩:=hB2.ex;have hst2':=hst2;unfold yJ9 at hst2';by_cases h10:10<M2.bits
 ·simp only[go_sem,zE,zB,zA,zM,zS,zL,reduceCtorEq,fits,hst2',show decide ((10:Int)<(M2.bits:Int))=true from dEt (by omega)];exact yQa (st':=λ_=>none) (λ_ _ h=>by cases h) ⟨rfl,rfl⟩
 simp only[go_sem,zE,zB,zA,zM,zS,zL,reduceCtorEq,fits,hst2',show decide ((10:Int)<(M2.bits:Int))=false from dEf (by omega)];have hpw:2 ^ M2.bits<=1024:=Nat.pow_le_pow_right (show 0<2 by omega) (show M2.bits<=10 by omega);refine LoopC.ctr (2 ^ M2.bits) (λk fr st' ds=>BoxMo b { M2 with table:=k } st'/\fr 1=.iv (.sl ts ys)/\fr 3=.box [.sl tl xl,.sl tr xr]/\fr 7=.iv (.raw (.pointer (some ⟨b,0,none⟩)))/\ds=[]) ?_ ?_ ?_
 ·simp only[go_sem,zE,zB,zA,zM,zS,zL,reduceCtorEq];exact hB2.tab 0 hst2
 ·rintro k fr st3 _ hlt ⟨hB3,f1,f3,f7,rfl⟩;obtain⟨M3,hM3⟩:∃M3:Mo,M3={ M2 with table:=k }:=⟨_,rfl⟩
  rw[<- hM3] at hB3;have hs3:M3.sees=sees:=by rw[hM3];exact hse2
  have he3:M3.elems=elems:=by rw[hM3];exact hel2
  have hb3:M3.bits=M2.bits:=by rw[hM3]
  have ht3:M3.table=k:=by rw[hM3]
  have hO:MoOk M3:=⟨by rw[he3];exact hFe,by rw[hM3];simp only;omega,λp hp=>by
   have:p.2<=M2.bits:=hf2 p (by rw[hM3] at hp;exact hp);omega,by rw[ht3];omega⟩
  have hS:SeesOk M3:=⟨by rw[hs3];omega,λl hl=>by
   rw[hs3] at hl ⊢;have:=hF.rows l hl;exact⟨by omega,this.2⟩⟩
  obtain⟨t1,x1,t2,t3,o2,o3,hst3,_⟩:=hB3.ex;have hst3':=hst3;unfold yJ9 at hst3';rw[ht3] at hst3';have hsh:=shl1 M3.bits (by omega);have hlt':k<2 ^ M3.bits:=by rw[hb3];exact hlt
  have hPe:=xWh gl b M3 hO hS st3 hB3;have hnext:=hB3.tab (k+1) hst3;have hM3':({ M2 with table:=k+1 }:Mo)={ M3 with table:=k+1 }:=by rw[hM3]
  unfold yJ9 at hnext;dsimp only at hnext;simp only[go_sem,zE,zB,zA,zM,zS,zL,reduceCtorEq,f1,f3,f7,fits,hst3',hsh,lt_i hlt',Int.toNat_natCast,iNn];refine hPe.mono ?_;rintro _ st3 ⟨rfl,q,rfl,hq⟩;cases q
  ·simp only[go_sem,zE,zB,zA,zM,zS,zL,reduceCtorEq,f1,f3,f7,fits,hst3',ISt.put_same,yQ8,yQf hlt (show 2 ^ M2.bits<=281474976710656 by omega)];rw[hM3'];exact hnext
  have hMd:=wY9 (M:=M3) (ca:=ca) (by rw[hs3,he3];exact hF) (hq rfl);rw[hs3] at hMd;have hT:=hsd (toMd M3) hMd;simp only[go_sem,zE,zB,zA,zM,zS,zL,reduceCtorEq,f1,f3,f7,fits];refine LoopC.ctr sees.length (λw fr st' ds=>fr 1=.iv (.sl ts ys)/\fr 3=.box [.sl tl xl,.sl tr xr]/\fr 7=.iv (.raw (.pointer (some ⟨b,0,none⟩)))/\fr 8=.iv (.raw (.int .i64 (w:Int)))/\st'=st3/\ds=[]) ?_ ?_ ?_
  ·simp only[go_sem,zE,zB,zA,zM,zS,zL,reduceCtorEq,f1,f3,f7]
   first|done|exact rfl|exact⟨rfl,rfl⟩
  ·rintro w fr st4 _ hltw ⟨f1,f3,f7,f8,rfl,rfl⟩;simp only[go_sem,zE,zB,zA,zM,zS,zL,reduceCtorEq,f1,f3,f7,f8,fits,hys.len,lt_i hltw];intros;refine LoopC.ctr s.l.length (λi fr st' ds=>fr 1=.iv (.sl ts ys)/\fr 3=.box [.sl tl xl,.sl tr xr]/\fr 7=.iv (.raw (.pointer (some ⟨b,0,none⟩)))/\fr 8=.iv (.raw (.int .i64 (w:Int)))/\fr 9=.iv (.raw (.bool ((s.l.take i).all λf=>hold (toMd M3) f [] w)))/\fr 10=.iv (.raw (.bool false))/\fr 11=.iv (.raw (.int .i64 (i:Int)))/\st'=st4/\ds=[]) ?_ ?_ ?_
   ·simp only[go_sem,zE,zB,zA,zM,zS,zL,reduceCtorEq,f1,f3,f7,f8]
    try simp
   ·rintro i fr st5 _ hlti ⟨f1,f3,f7,f8,f9,f10,f11,rfl,rfl⟩;obtain⟨f,hf⟩:=yQ4 hlti;obtain⟨x,hkx,hx⟩:=hxl.get hf;have hfm:=lMg hf;have hfz:=yJh hfm;have hcall:=wQs gl b M3 hO hS f x hx (yJe hshl hfm) (by omega) w (by rw[hs3];exact hltw) st5 hB3;obtain⟨_,_,_,_,_,_,rfl⟩:=hx.agg;have htk:(s.l.take (i+1)).all (λf=>hold (toMd M3) f [] w)=((s.l.take i).all (λf=>hold (toMd M3) f [] w)&&hold (toMd M3) f [] w):=by
     rw[yQ6 hf,List.all_append];simp
    cases hL:(s.l.take i).all (λf=>hold (toMd M3) f [] w)<;>rw[hL] at f9 htk
    ·simp only[go_sem,zE,zB,zA,zM,zS,zL,reduceCtorEq,f1,f3,f7,f8,f9,f10,f11,fits,hxl.len,lt_i hlti,yQ1 htl,iNn,hkx,yQf hlti (show s.l.length<=281474976710656 by omega),htk]
     try intros
     try simp
    ·simp only[go_sem,zE,zB,zA,zM,zS,zL,reduceCtorEq,f1,f3,f7,f8,f9,f10,f11,fits,hxl.len,lt_i hlti,yQ1 htl,iNn,hkx];intros;refine hcall.mono ?_;rintro _ _ ⟨rfl,rfl⟩;simp only[go_sem,zE,zB,zA,zM,zS,zL,reduceCtorEq,f1,f3,f7,f8,f9,f10,f11,fits,yQf hlti (show s.l.length<=281474976710656 by omega),htk]
   rintro fr st5 _ ⟨f1,f3,f7,f8,f9,f10,f11,rfl,rfl⟩;rw[lTl] at f9;simp only[go_sem,zE,zB,zA,zM,zS,zL,reduceCtorEq,f1,f3,f7,f8,f9,f10,f11,fits,hxl.len,yQs (nLi _)];intros;refine LoopC.ctr s.r.length (λi fr st' ds=>fr 1=.iv (.sl ts ys)/\fr 3=.box [.sl tl xl,.sl tr xr]/\fr 7=.iv (.raw (.pointer (some ⟨b,0,none⟩)))/\fr 8=.iv (.raw (.int .i64 (w:Int)))/\fr 9=.iv (.raw (.bool (s.l.all λf=>hold (toMd M3) f [] w)))/\fr 10=.iv (.raw (.bool ((s.r.take i).any λf=>hold (toMd M3) f [] w)))/\fr 12=.iv (.raw (.int .i64 (i:Int)))/\st'=st5/\ds=[]) ?_ ?_ ?_
   ·simp only[go_sem,zE,zB,zA,zM,zS,zL,reduceCtorEq,f1,f3,f7,f8,f9,f10]
    try simp
   ·rintro i fr st6 _ hlti ⟨f1,f3,f7,f8,f9,f10,f12,rfl,rfl⟩;obtain⟨f,hf⟩:=yQ4 hlti;obtain⟨x,hkx,hx⟩:=hxr.get hf;have hfm:=lMg hf;have hfz:=yJh hfm;have hcall:=wQs gl b M3 hO hS f x hx (yJe hshr hfm) (by omega) w (by rw[hs3];exact hltw) st6 hB3;obtain⟨_,_,_,_,_,_,rfl⟩:=hx.agg;have htk:(s.r.take (i+1)).any (λf=>hold (toMd M3) f [] w)=((s.r.take i).any (λf=>hold (toMd M3) f [] w) || hold (toMd M3) f [] w):=by
     rw[yQ6 hf,List.any_append];simp
    cases hL:(s.r.take i).any (λf=>hold (toMd M3) f [] w)<;>rw[hL] at f10 htk
    ·simp only[go_sem,zE,zB,zA,zM,zS,zL,reduceCtorEq,f1,f3,f7,f8,f9,f10,f12,fits,hxr.len,lt_i hlti,yQ1 htr,iNn,hkx];intros;refine hcall.mono ?_;rintro _ _ ⟨rfl,rfl⟩;simp only[go_sem,zE,zB,zA,zM,zS,zL,reduceCtorEq,f1,f3,f7,f8,f9,f10,f12,fits,yQf hlti (show s.r.length<=281474976710656 by omega),htk]
     try rw[Bool.false_or]
    ·simp only[go_sem,zE,zB,zA,zM,zS,zL,reduceCtorEq,f1,f3,f7,f8,f9,f10,f12,fits,hxr.len,lt_i hlti,yQ1 htr,iNn,hkx,yQf hlti (show s.r.length<=281474976710656 by omega),htk]
     try intros
     try simp
   rintro fr st6 _ ⟨f1,f3,f7,f8,f9,f10,f12,rfl,rfl⟩;rw[lTl] at f10;cases hA:s.l.all (λf=>hold (toMd M3) f [] w)<;>rw[hA] at f9
   ·simp only[go_sem,zE,zB,zA,zM,zS,zL,reduceCtorEq,f1,f3,f7,f8,f9,f10,f12,fits,hxr.len,yQs (nLi _),yQf hltw (show sees.length<=281474976710656 by omega)]
    try intros
    try trivial
   ·have hB:s.r.any (λf=>hold (toMd M3) f [] w)=true:=by
     obtain⟨g,hg,hg2⟩:=hT w hltw λf hf=>List.all_eq_true.1 hA f hf;exact List.any_eq_true.2 ⟨g,hg,hg2⟩
    rw[hB] at f10;simp only[go_sem,zE,zB,zA,zM,zS,zL,reduceCtorEq,f1,f3,f7,f8,f9,f10,f12,fits,hxr.len,yQs (nLi _),yQf hltw (show sees.length<=281474976710656 by omega)]
    try intros
    try trivial
  ·rintro fr st4 _ ⟨f1,f3,f7,f8,rfl,rfl⟩;simp only[go_sem,zE,zB,zA,zM,zS,zL,reduceCtorEq,f1,f3,f7,f8,fits,hys.len,yQs (nLi _),hst3',ISt.put_same,yQ8,yQf hlt (show 2 ^ M2.bits<=281474976710656 by omega)]
   try intros
   rw[hM3'];exact hnext
 ·rintro fr st3 _ ⟨hB3,f1,f3,f7,rfl⟩;obtain⟨t1,x1,t2,t3,o2,o3,hst3,_⟩:=hB3.ex;unfold yJ9 at hst3;dsimp only at hst3;have hsh:=shl1 M2.bits (by omega);simp only[go_sem,zE,zB,zA,zM,zS,zL,reduceCtorEq,f1,f3,f7,fits,hst3,hsh,yQs (nLi _),Int.toNat_natCast,iNn];exact yQa (st':=λ_=>none) (λ_ _ h=>by cases h) ⟨rfl,rfl⟩
