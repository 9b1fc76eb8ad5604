/- Walks: depths. -/
import Derived.Test.YtabhgbojkjcfjaaGreatDoorJO
set_option linter.all false
open Nat renaming reduceEqDiff → zE,reduceAdd → zA,reduceLeDiff → zL
namespace Go.Proofs.Tryz
open Go Go.Iv
set_option maxRecDepth 4000
variable (gl:Nat->Option IV)
theorem xJq {l:List Tm}{k:Nat}{a:Tm}(h:l[k]?=some a):yQl (l.take (k+1))=max (yQl (l.take k)) a.deep/\a.deep<=yQl l:=by
 have h1:yQl (l.take (k+1))=max (yQl (l.take k)) a.deep:=by rw[yQ4 h,yY5];simp[yQl]
 refine⟨h1,?_⟩;have:yQl l=max (yQl (l.take (k+1))) (yQl (l.drop (k+1))):=by conv=>lhs;rw[<- List.take_append_drop (k+1) l,yY5]
 omega
theorem xJr {l:List Fm}{k:Nat}{a:Fm}(h:l[k]?=some a):yQu (l.take (k+1))=max (yQu (l.take k)) a.deep/\a.deep<=yQu l:=by
 have h1:yQu (l.take (k+1))=max (yQu (l.take k)) a.deep:=by rw[yQ4 h,yY6];simp[yQu]
 refine⟨h1,?_⟩;have:yQu l=max (yQu (l.take (k+1))) (yQu (l.drop (k+1))):=by conv=>lhs;rw[<- List.take_append_drop (k+1) l,yY6]
 omega
def TD (us:List Tm):Prop:=∀(t:Tag) (A:List IV) (_:okEs t 3) (_:IsTms us A) (_:yQl us<=4611686018427387904) (st:ISt),
 ICall prog gl 320 [.sl t A] st (λr st'=>r=.raw (.int .i64 (yQl us))/\st'=st)
theorem zKn (us:List Tm)(IH:∀v n m,Tm.mk v n m∈us->TD gl m):TD gl us:=by
 intro tg W F D hd st;refine iI func320 ?_;simp only[go_sem,reduceCtorEq,D.len];intro U;refine LoopC.ctr us.length (λk fr st' ds=>fr 3=.iv (.raw (.int .i64 (yQl (us.take k))))/\fr 6=.iv (.sl tg W)/\fr 7=.iv (.raw (.int .i64 us.length))/\fr 8=.iv (.raw (.int .i64 k))/\st'=st/\ds=[]) ?_ ?_ ?_
 ·simp only[go_sem,zE];simp[yQl]
 ·rintro k fr _ _ A ⟨f3,f6,f7,f8,rfl,rfl⟩;obtain⟨a,O⟩:=yQ3 A;obtain⟨x,G,hx⟩:=D.get O;obtain⟨h1,h2⟩:=xJq O;obtain⟨v2,n2,m⟩:=a;obtain⟨tx,cx,rfl,E,J⟩:=hx.mk;simp only[Tm.deep] at h1 h2;simp only[go_sem,zE,zA,zL,f3,f6,f7,f8,lt_i A,yQ2 F,iNn,G];refine (IH _ _ _ (lMg O) tx cx E J (by omega) _).mono ?_;rintro _ _ ⟨rfl,rfl⟩;have hw:IntKind.i64.wrap (((yQl m:Nat):Int)+1)=((yQl m+1:Nat):Int):=by rw[w64]<;>omega
  have hm:max ((yQl (us.take k):Nat):Int) ((yQl m+1:Nat):Int)=((yQl (us.take (k+1)):Nat):Int):=by rw[h1];omega
  simp only[go_sem,zE,f6,f7,f8,yQb A (show us.length<=281474976710656 by omega),hw,hm]
 ·rintro fr _ _ ⟨f3,f6,f7,f8,rfl,rfl⟩;simp only[go_sem,zE,f3,f7,f8,yQj (nLi _)];rw[lTl];exact yQ0 ⟨rfl,rfl⟩
theorem yUz:∀(k:Nat)(us:List Tm),SizeOf.sizeOf us<k->TD gl us
 | 0,f,h=>by omega
 | k+1,us,h=>zKn gl us (λv n m A=>yUz k m (by
   have:=lSm A;simp at this;omega))
theorem xZi (us:List Tm):TD gl us:=yUz gl _ us (Nat.lt_succ_self _)
def DF (f:Fm):Prop:=∀(x:IV) (_:IsFm f x) (_:f.deep<=4611686018427387904) (st:ISt),
 ICall prog gl 294 [x] st (λr st'=>r=.raw (.int .i64 f.deep)/\st'=st)
theorem wZ5 (op:Nat)(n:ByteArray)(us:List Tm)(sub:List Fm)(IH:∀a∈sub,DF gl a):DF gl (.mk op n us sub):=by
 intro x F hd st;obtain⟨tg,xs,G,ys,rfl,af,O,J,E,hys⟩:=F.mk;simp only[Fm.deep] at hd ⊢;refine iI func294 ?_;simp only[go_sem,zE,zA];refine (xZi gl us tg xs O J (by omega) _).mono ?_;rintro _ st ⟨rfl,rfl⟩;simp only[go_sem,zE,hys.len];intro aa;refine LoopC.ctr sub.length (λk fr st' ds=>fr 3=.iv (.raw (.int .i64 (max (yQl us) (yQu (sub.take k)):Nat)))/\fr 10=.iv (.sl G ys)/\fr 11=.iv (.raw (.int .i64 sub.length))/\fr 12=.iv (.raw (.int .i64 k))/\st'=st/\ds=[]) ?_ ?_ ?_
 ·simp only[go_sem,zE];simp[yQu]
 ·rintro k fr st _ A ⟨f3,f10,f11,f12,rfl,rfl⟩;obtain⟨a,W⟩:=yQ3 A;obtain⟨x,U,F⟩:=hys.get W;obtain⟨h1,h2⟩:=xJr W;have D:=IH a (lMg W) x F (by omega) st;have hm:max ((max (yQl us) (yQu (sub.take k)):Nat):Int) ((a.deep:Nat):Int)=((max (yQl us) (yQu (sub.take (k+1))):Nat):Int):=by rw[h1];omega
  obtain⟨o2,n2,u2,s2⟩:=a;obtain⟨t3,x3,t4,x4,rfl,_⟩:=F.mk;simp only[go_sem,zE,zA,zL,f3,f10,f11,f12,lt_i A,yQ2 E,iNn,U];refine D.mono ?_;rintro _ _ ⟨rfl,rfl⟩;simp only[go_sem,zE,f10,f11,f12,yQb A (show sub.length<=281474976710656 by omega),hm]
 ·rintro fr _ _ ⟨f3,f10,f11,f12,rfl,rfl⟩;have hw:IntKind.i64.wrap (((max (yQl us) (yQu sub):Nat):Int)+1)=((max (yQl us) (yQu sub)+1:Nat):Int):=by rw[w64]<;>omega
  rw[lTl] at f3;simp only[go_sem,zE,f3,f11,f12,yQj (nLi _),hw];exact yQ0 ⟨rfl,rfl⟩
theorem xK6:∀(k:Nat)(t:Fm),SizeOf.sizeOf t<k->DF gl t
 | 0,f,h=>by omega
 | k+1,.mk o n us sub,h=>wZ5 gl o n us sub (λa A=>xK6 k a (by
   have:=lSm A;simp at h;omega))
theorem vXr (t:Fm):DF gl t:=xK6 gl _ t (Nat.lt_succ_self _)
def cBox (n:Int):Option IObj:=some (.box [.raw (.int .i64 n)])
def bigI:IV:=.raw (.int .i64 9223372036854775807)
def wQt (b:Nat):IV:=.fn (.func 334) [] [.raw (.pointer (some ⟨b,0,none⟩)),.cptr bigI]
theorem wYq (v:Bool)(n:ByteArray)(us:List Tm)(x:IV)(D:IsTm (.mk v n us) x)(b:Nat)(st:ISt)(c:Nat)(F:st b=cBox c)(hc:c+1<=4611686018427387904) :
  ICall prog gl 334 [x,.raw (.pointer (some ⟨b,0,none⟩)),.cptr bigI] st (λr st'=>r=.raw (.bool true)/\st'=st.put b (cBox ((c+1:Nat):Int))):=by
 obtain⟨G,cx,rfl,_⟩:=D.mk;refine iI func334 ?_;have E:IntKind.i64.wrap (((c:Nat):Int)+1)=((c+1:Nat):Int):=by rw[w64]<;>omega
 have A:decide (((c+1:Nat):Int)<=9223372036854775807)=true:=by simp;omega
 simp only[go_sem,zE,zL,F,cBox,bigI,E,ISt.put_same,A];exact yQ0 ⟨rfl,rfl⟩
def CN (us:List Tm):Prop:=∀(t:Tag) (A:List IV) (_:okEs t 3) (_:IsTms us A) (b:Nat) (st:ISt) (c:Nat) (_:st b=cBox c) (_:c+yQa us<=4611686018427387904),
 ICall prog gl 167 [.sl t A,wQt b] st (λr st'=>r=.raw (.bool true)/\st'=st.put b (cBox ((c+yQa us:Nat):Int)))
theorem zKi (us:List Tm)(IH:∀v n m,Tm.mk v n m∈us->CN gl m):CN gl us:=by
 intro tg xs G E b st c hb hc;refine iI func167 ?_;simp only[go_sem,reduceCtorEq,E.len,wQt];intro aa;refine LoopC.ctr us.length (λk fr st' ds=>st'=st.put b (cBox ((c+yQa (us.take k):Nat):Int))/\fr 1=.iv (wQt b)/\fr 7=.iv (.sl tg xs)/\fr 8=.iv (.raw (.int .i64 us.length))/\fr 9=.iv (.raw (.int .i64 k))/\ds=[]) ?_ ?_ ?_
 ·simp only[go_sem,zE,wQt];simp only[yQa,Nat.add_zero];exact⟨(yJ8 hb).symm,rfl⟩
 ·rintro k fr _ _ A ⟨rfl,f1,f7,f8,f9,rfl⟩;obtain⟨a,U⟩:=yQ3 A;obtain⟨x,J,W⟩:=E.get U;obtain⟨h1,h2⟩:=yZg U;obtain⟨v2,n2,m⟩:=a;have D:=λst c=>wYq gl v2 n2 m x W b st c;obtain⟨tx,cx,rfl,F,O⟩:=W.mk;simp only[Tm.size] at h1 h2;simp only[go_sem,zE,zA,zL,f1,f7,f8,f9,lt_i A,yQ2 G,iNn,J,wQt];refine (D _ _ (ISt.put_same _ _ _) (by omega)).mono ?_;rintro _ _ ⟨rfl,rfl⟩;simp only[go_sem,zE,zA,f1,wQt];refine (IH _ _ _ (lMg U) tx cx F O b _ (c+yQa (us.take k)+1) (ISt.put_same _ _ _) (by omega)).mono ?_;rintro _ _ ⟨rfl,rfl⟩;simp only[go_sem,zE,f1,f7,f8,f9,yQb A (show us.length<=281474976710656 by omega)];simp only[yQg];rw[h1,show c+yQa (us.take k)+1+yQa m=c+(yQa (us.take k)+(yQa m+1)) by omega];exact⟨rfl,rfl⟩
 ·rintro fr _ _ ⟨rfl,f1,f7,f8,f9,rfl⟩;simp only[go_sem,f8,f9,yQj (nLi _)];rw[lTl];exact yQ0 ⟨rfl,rfl⟩
theorem yUy:∀(k:Nat)(us:List Tm),SizeOf.sizeOf us<k->CN gl us
 | 0,f,h=>by omega
 | k+1,us,h=>zKi gl us (λv n m A=>yUy k m (by
   have:=lSm A;simp at this;omega))
theorem xZb (us:List Tm):CN gl us:=yUy gl _ us (Nat.lt_succ_self _)
mutual
def yY0:Fm->List Fm
 | .mk o n us sub=>.mk o n us sub::yXq sub
def yXq:List Fm->List Fm
 | []=>[]
 | a::l=>yY0 a++yXq l
end
theorem yW9:∀(l m:List Fm),yXq (l++m)=yXq l++yXq m
 | [],m=>by simp[yXq]
 | a::l,m=>by simp only[List.cons_append,yXq,yW9 l m,List.append_assoc]
def FOk (y:IV)(I:Nat->ISt->Prop)(S:ISt->Prop)(k0:Nat)(l:List Fm):Prop :=
 ∀i z x stu,l[i]?=some z->IsFm z x->I (k0+i) stu->ICallV prog gl y [x] stu (xK9 I S (k0+i+1))
theorem FOk.left {y:IV}{I:Nat->ISt->Prop}{S:ISt->Prop}{k0:Nat}{l m:List Fm}(h:FOk gl y I S k0 (l++m)):FOk gl y I S k0 l:=λi z x stu A D E =>
 h i z x stu (by rw[List.getElem?_append_left (lGs A).1];exact A) D E
theorem FOk.right {y:IV}{I:Nat->ISt->Prop}{S:ISt->Prop}{k0:Nat}{l m:List Fm}(h:FOk gl y I S k0 (l++m)):FOk gl y I S (k0+l.length) m:=λi z x stu D A E=>by
 have:=h (l.length+i) z x stu (by rw[List.getElem?_append_right (by omega)];simpa using D) A (by rw[<- Nat.add_assoc];exact E);simpa only[Nat.add_assoc] using this
theorem FOk.head {y:IV}{I:Nat->ISt->Prop}{S:ISt->Prop}{k0:Nat}{z:Fm}{m:List Fm}(h:FOk gl y I S k0 (z::m)){x:IV}(A:IsFm z x){st:ISt}(D:I k0 st):ICallV prog gl y [x] st (xK9 I S (k0+1)):=h 0 z x st rfl A D
theorem FOk.tail {y:IV}{I:Nat->ISt->Prop}{S:ISt->Prop}{k0:Nat}{z:Fm}{m:List Fm}(h:FOk gl y I S k0 (z::m)):FOk gl y I S (k0+1) m:=FOk.right gl (l:=[z]) h
def VV (f:Fm):Prop:=∀(x:IV) (_:IsFm f x) (g:Fn) (A ca:List IV) (_:fnOk g=true) (_:∀i,g=.func i->entI prog i=true) (I:Nat->ISt->Prop) (S:ISt->Prop) (k0:Nat) (_:FOk gl (.fn g A ca) I S k0 (yY0 f)) (st:ISt) (_:I k0 st),
  ICall prog gl 223 [x,.fn g A ca] st (xK9 I S (k0+(yY0 f).length))
theorem xU4 (op:Nat)(n:ByteArray)(us:List Tm)(sub:List Fm)(IH:∀a∈sub,VV gl a):VV gl (.mk op n us sub):=by
 intro x U g fi ca ah F I S k0 hy st hI;have af:=U;obtain⟨tg,xs,ab,ys,rfl,am,al,ak,W,hys⟩:=U.mk;simp only[yY0] at hy ⊢;have G:=FOk.head gl hy af hI;have ac:=FOk.tail gl hy;refine iI func223 ?_;simp only[go_sem,zE,zA,zL];refine yJz F (G.mono ?_);rintro _ st (⟨rfl,h⟩|⟨rfl,h⟩)
 ·simp only[go_sem,zE,hys.len];intro ai;refine LoopC.ctr sub.length (λk fr st ds=>I (k0+1+(yXq (sub.take k)).length) st/\fr 1=.iv (.fn g fi ca)/\fr 12=.iv (.sl ab ys)/\fr 13=.iv (.raw (.int .i64 sub.length))/\fr 14=.iv (.raw (.int .i64 k))/\ds=[]) ?_ ?_ ?_
  ·simp only[go_sem,zE];exact⟨by simpa[yXq] using h,rfl⟩
  ·rintro k fr st _ E ⟨A,f1,f12,f13,f14,rfl⟩;obtain⟨a,ha⟩:=yQ3 E;obtain⟨x,ag,U⟩:=hys.get ha;have D:yXq sub=yXq (sub.take k)++(yY0 a++yXq (sub.drop (k+1))):=by
    conv=>lhs;rw[<- List.take_append_drop k sub,List.drop_eq_getElem_cons E]
    rw[yW9,(lGs ha).2];rfl
   have O:=ac;rw[D] at O;have J:=IH a (lMg ha) x U g fi ca ah F I S _ (FOk.left gl (FOk.right gl O)) st A;obtain⟨o2,n2,u2,s2⟩:=a;obtain⟨t3,x3,t4,x4,rfl,_⟩:=U.mk;simp only[go_sem,zE,zA,zL,f1,f12,f13,f14,lt_i E,yQ2 W,iNn,ag];refine J.mono ?_;rintro _ st (⟨rfl,h⟩|⟨rfl,h⟩)
   ·simp only[go_sem,zE,f1,f12,f13,f14,yQb E (show sub.length<=281474976710656 by omega)];rw[yQ4 ha,yW9,lLa,<- Nat.add_assoc];simpa[yXq] using h
   ·simp only[go_sem];exact yQ0 (.inr ⟨rfl,h⟩)
  ·rintro fr st _ ⟨A,f1,f12,f13,f14,rfl⟩;simp only[go_sem,f13,f14,yQj (nLi _)];rw[lTl] at A;refine yQ0 (.inl ⟨rfl,?_⟩);rw[show k0+((yXq sub).length+1)=k0+1+(yXq sub).length by omega];exact A
 ·simp only[go_sem];exact yQ0 (.inr ⟨rfl,h⟩)
theorem xZa:∀(k:Nat)(t:Fm),SizeOf.sizeOf t<k->VV gl t
 | 0,f,h=>by omega
 | k+1,.mk o n us sub,h=>xU4 gl o n us sub (λa A=>xZa k a (by
   have:=lSm A;simp at h;omega))
theorem vQ4 (t:Fm):VV gl t:=xZa gl _ t (Nat.lt_succ_self _)
def vZb (f:Fm)(k:Nat)(a:List IV):Prop:=∃z x,(yY0 f)[k]?=some z/\IsFm z x/\a=[x]
theorem vQ2 (f:Fm)(x:IV)(F:IsFm f x)(I:Nat->ISt->Prop):IterC prog gl 222 [] [.cptr x] (vZb f) (yY0 f).length I:=by
 have D:=F;obtain⟨o,n,us,sub⟩:=f;obtain⟨t1,x1,t2,x2,rfl,_⟩:=F.mk;rintro y I' S' st ⟨g,J,ca,rfl,E,A⟩ _ U h0;change ICall prog gl _ [.fn g J ca,_] st _;refine iI func222 ?_;simp only[go_sem,zE,zA,reduceCtorEq,fits];refine (vQ4 gl _ _ D g J ca E A I' S' 0 ?_ st h0).mono ?_
 ·intro i z x stu W O G;rw[Nat.zero_add] at G ⊢;exact U i [x] stu ⟨z,x,W,O,rfl⟩ G
 ·rintro _ st' h;simp only[go_sem];refine yQ0 ?_;rw[Nat.zero_add] at h;exact h.imp And.right And.right
theorem vK0 (x:IV)(st:ISt)(f:Fm)(A:IsFm f x):ICall prog gl 165 [x] st (λr st'=>r=.fn (.func 222) [] [.cptr x]/\st'=st):=by
 obtain⟨o,n,us,sub⟩:=f;obtain⟨t1,E,t2,D,rfl,_⟩:=A.mk;refine ICall.intro (c:=cf prog gl [] [] [1]) func165 rfl (by show _<=4;simp) (by kernel_rfl) ?_;simp only[go_sem,zE];exact yQ0 ⟨rfl,rfl⟩
def xUz:Fm->Nat
 | .mk _ _ us _=>yQa us+1
def sumW:List Fm->Nat
 | []=>0
 | a::l=>xUz a+sumW l
theorem yYn:∀(l m:List Fm),sumW (l++m)=sumW l+sumW m
 | [],m=>by simp[sumW]
 | a::l,m=>by simp only[List.cons_append,sumW,yYn l m];omega
mutual
theorem zYo:∀f:Fm,sumW (yY0 f)=f.size
 | .mk o n us sub=>by simp only[yY0,sumW,xUz,Fm.size,zKp sub];omega
theorem zKp:∀l:List Fm,sumW (yXq l)=yQ9 l
 | []=>rfl
 | a::l=>by simp only[yXq,yYn,yQ9,zYo a,zKp l]
end
theorem wZl {l:List Fm}{k:Nat}{a:Fm}(h:l[k]?=some a):sumW (l.take (k+1))=sumW (l.take k)+xUz a/\sumW (l.take k)+xUz a<=sumW l:=by
 have h1:sumW (l.take (k+1))=sumW (l.take k)+xUz a:=by rw[yQ4 h,yYn];simp[sumW]
 refine⟨h1,?_⟩;rw[<- h1]
 conv=>rhs;rw[<- List.take_append_drop (k+1) l,yYn]
 omega
theorem vXc (f:Fm)(x:IV)(hx:IsFm f x)(hs:f.size<=4611686018427387904)(st:ISt) :
  ICall prog gl 319 [x,bigI] st (λr st'=>r=.raw (.int .i64 f.size)/\st'=st):=by
 have E:=hx;rw[<- zYo f] at hs ⊢;have D:=λst=>vK0 gl x st f E;have A:=vQ2 gl f x E;generalize W:yY0 f=l at hs A ⊢;have hX:∀k a,vZb f k a->∃z x,l[k]?=some z/\IsFm z x/\a=[x]:=λk a h=>by rw[<- W];exact h
 generalize vZb f=X at A hX;obtain⟨o,n,us,sub⟩:=f;obtain⟨t1,x1,t2,x2,rfl,_⟩:=hx.mk;refine ICall.intro (c:=cf prog gl [5] [] [3]) func319 rfl (by show _<=20;simp) (by kernel_rfl) ?_;simp only[go_sem,zE,zA,zL,bigI];refine λb=>yQd λhb=>?_;refine (D _).mono ?_;rintro _ _ ⟨rfl,rfl⟩;simp only[go_sem,reduceCtorEq];refine RangeC.intro X l.length (λk st'=>st'=st.put b (cBox ((sumW (l.take k):Nat):Int))) (λ_ _=>False) rfl ?_ ?_ ?_ (A _) ?_ (λ_ _ _ h=>h.elim)
 ·intro k a ha;obtain⟨z,x,_,_,rfl⟩:=hX k a ha;rfl
 ·rw[yQg];rfl
 ·rintro k a _ hk rfl;obtain⟨z,x,hz,G,rfl⟩:=hX k a hk;obtain⟨h1,h2⟩:=wZl hz;obtain⟨o2,n2,F,s2⟩:=z;obtain⟨t3,x3,t4,x4,rfl,_,O,J,_⟩:=G.mk;simp only[xUz] at h1 h2;have hw:IntKind.i64.wrap (((sumW (l.take k):Nat):Int)+1)=((sumW (l.take k)+1:Nat):Int):=by rw[w64]<;>omega
  simp only[go_sem,zE,zA,zL,ISt.put_same,cBox,hw];refine (xZb gl F t3 x3 O J b _ (sumW (l.take k)+1) (ISt.put_same _ _ _) (by omega)).mono ?_;rintro _ _ ⟨rfl,rfl⟩;have U:decide ((9223372036854775807:Int)<((sumW (l.take k)+1+yQa F:Nat):Int))=false:=by simp;omega
  simp only[go_sem,zE,ISt.put_same,cBox,fits,U];rw[yQg,yQg,h1,show sumW (l.take k)+(yQa F+1)=sumW (l.take k)+1+yQa F by omega]
 ·rintro _ r rfl;simp only[go_sem,zE,ISt.put_same,cBox];rw[lTl];exact yQc (yQe hb) ⟨rfl,rfl⟩
theorem vXn (f:Fm)(x:IV)(D:IsFm f x)(E:f.size<=4611686018427387904)(st:ISt) :
  ICall prog gl 293 [x] st (λr st'=>r=.raw (.int .i64 f.size)/\st'=st):=by
 have A:=λst=>vXc gl f x D E st;generalize f.size=z at A ⊢;obtain⟨o,n,us,sub⟩:=f;obtain⟨t1,G,t2,F,rfl,_⟩:=D.mk;refine iI func293 ?_;simp only[go_sem,zE,zA,zL];refine (A _).mono ?_;rintro _ _ ⟨rfl,rfl⟩;simp only[go_sem];exact yQ0 ⟨rfl,rfl⟩
