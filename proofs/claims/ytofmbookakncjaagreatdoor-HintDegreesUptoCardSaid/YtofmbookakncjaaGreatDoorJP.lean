/- Walks: depths. -/
import Derived.Test.YtofmbookakncjaaGreatDoorJO
set_option linter.all false
open Nat renaming reduceEqDiff → zE,reduceAdd → zA,reduceLeDiff → zL
namespace Go.Proofs.Tryz
open Go Go.Iv
set_option maxRecDepth 4000
variable (gl:Nat->Option IV)
theorem xZt {l:List Tm}{k:Nat}{a:Tm}(h:l[k]?=some a):yQv (l.take (k+1))=max (yQv (l.take k)) a.deep/\a.deep<=yQv l:=by
 have h1:yQv (l.take (k+1))=max (yQv (l.take k)) a.deep:=by rw[yQ6 h,yVv];simp[yQv]
 refine⟨h1,?_⟩;have:yQv l=max (yQv (l.take (k+1))) (yQv (l.drop (k+1))):=by conv=>lhs;rw[<- List.take_append_drop (k+1) l,yVv]
 omega
theorem xZu {l:List Fm}{k:Nat}{a:Fm}(h:l[k]?=some a):yZ6 (l.take (k+1))=max (yZ6 (l.take k)) a.deep/\a.deep<=yZ6 l:=by
 have h1:yZ6 (l.take (k+1))=max (yZ6 (l.take k)) a.deep:=by rw[yQ6 h,yVw];simp[yZ6]
 refine⟨h1,?_⟩;have:yZ6 l=max (yZ6 (l.take (k+1))) (yZ6 (l.drop (k+1))):=by conv=>lhs;rw[<- List.take_append_drop (k+1) l,yVw]
 omega
def TD (us:List Tm):Prop:=∀(t:Tag) (A:List IV) (_:okEs t 3) (_:IsTms us A) (_:yQv us<=4611686018427387904) (st:ISt),
 ICall prog gl 259 [.sl t A] st (λr st'=>r=.raw (.int .i64 (yQv us))/\st'=st)
theorem zJk (us:List Tm)(IH:∀v n m,Tm.mk v n m∈us->TD gl m):TD gl us:=by
 intro tg xs G D hd st;refine iI func259 ?_;simp only[go_sem,reduceCtorEq,D.len];intro aa;refine LoopC.ctr us.length (λk fr st' ds=>fr 3=.iv (.raw (.int .i64 (yQv (us.take k))))/\fr 6=.iv (.sl tg xs)/\fr 7=.iv (.raw (.int .i64 us.length))/\fr 8=.iv (.raw (.int .i64 k))/\st'=st/\ds=[]) ?_ ?_ ?_
 ·simp only[go_sem,zE];simp[yQv]
 ·rintro k fr _ _ A ⟨f3,f6,f7,f8,rfl,rfl⟩;obtain⟨a,U⟩:=yQ1 A;obtain⟨x,J,hx⟩:=D.get U;obtain⟨h1,h2⟩:=xZt U;obtain⟨v2,n2,m⟩:=a;obtain⟨tx,cx,rfl,E,O⟩:=hx.mk;simp only[Tm.deep] at h1 h2;simp only[go_sem,zE,zA,zL,f3,f6,f7,f8,lt_i A,yQ3 G,iNn,J];refine (IH _ _ _ (lMg U) tx cx E O (by omega) _).mono ?_;rintro _ _ ⟨rfl,rfl⟩;have hw:IntKind.i64.wrap (((yQv m:Nat):Int)+1)=((yQv m+1:Nat):Int):=by rw[w64]<;>omega
  have hm:max ((yQv (us.take k):Nat):Int) ((yQv m+1:Nat):Int)=((yQv (us.take (k+1)):Nat):Int):=by rw[h1];omega
  simp only[go_sem,zE,f6,f7,f8,yQc A (show us.length<=281474976710656 by omega),hw,hm]
 ·rintro fr _ _ ⟨f3,f6,f7,f8,rfl,rfl⟩;simp only[go_sem,zE,f3,f7,f8,yQl (nLi _)];rw[lTl];exact yQ0 ⟨rfl,rfl⟩
theorem yGu:∀(k:Nat)(us:List Tm),SizeOf.sizeOf us<k->TD gl us
 | 0,f,h=>by omega
 | k+1,us,h=>zJk gl us (λv n m A=>yGu k m (by
   have:=lSm A;simp at this;omega))
theorem xQ3 (us:List Tm):TD gl us:=yGu gl _ us (Nat.lt_succ_self _)
def DF (f:Fm):Prop:=∀(x:IV) (_:IsFm f x) (_:f.deep<=4611686018427387904) (st:ISt),
 ICall prog gl 238 [x] st (λr st'=>r=.raw (.int .i64 f.deep)/\st'=st)
theorem wQm (op:Nat)(n:ByteArray)(us:List Tm)(sub:List Fm)(IH:∀a∈sub,DF gl a):DF gl (.mk op n us sub):=by
 intro x G hd st;obtain⟨tg,xs,J,ys,rfl,ah,U,O,E,hys⟩:=G.mk;simp only[Fm.deep] at hd ⊢;refine iI func238 ?_;simp only[go_sem,zE,zA];refine (xQ3 gl us tg xs U O (by omega) _).mono ?_;rintro _ st ⟨rfl,rfl⟩;simp only[go_sem,zE,hys.len];intro ac;refine LoopC.ctr sub.length (λk fr st' ds=>fr 3=.iv (.raw (.int .i64 (max (yQv us) (yZ6 (sub.take k)):Nat)))/\fr 10=.iv (.sl J ys)/\fr 11=.iv (.raw (.int .i64 sub.length))/\fr 12=.iv (.raw (.int .i64 k))/\st'=st/\ds=[]) ?_ ?_ ?_
 ·simp only[go_sem,zE];simp[yZ6]
 ·rintro k fr st _ A ⟨f3,f10,f11,f12,rfl,rfl⟩;obtain⟨a,ha⟩:=yQ1 A;obtain⟨x,aa,G⟩:=hys.get ha;obtain⟨h1,h2⟩:=xZu ha;have D:=IH a (lMg ha) x G (by omega) st;have hm:max ((max (yQv us) (yZ6 (sub.take k)):Nat):Int) ((a.deep:Nat):Int)=((max (yQv us) (yZ6 (sub.take (k+1))):Nat):Int):=by rw[h1];omega
  obtain⟨o2,n2,u2,s2⟩:=a;obtain⟨t3,x3,t4,x4,rfl,_⟩:=G.mk;simp only[go_sem,zE,zA,zL,f3,f10,f11,f12,lt_i A,yQ3 E,iNn,aa];refine D.mono ?_;rintro _ _ ⟨rfl,rfl⟩;simp only[go_sem,zE,f10,f11,f12,yQc A (show sub.length<=281474976710656 by omega),hm]
 ·rintro fr _ _ ⟨f3,f10,f11,f12,rfl,rfl⟩;have hw:IntKind.i64.wrap (((max (yQv us) (yZ6 sub):Nat):Int)+1)=((max (yQv us) (yZ6 sub)+1:Nat):Int):=by rw[w64]<;>omega
  rw[lTl] at f3;simp only[go_sem,zE,f3,f11,f12,yQl (nLi _),hw];exact yQ0 ⟨rfl,rfl⟩
theorem xXf:∀(k:Nat)(t:Fm),SizeOf.sizeOf t<k->DF gl t
 | 0,f,h=>by omega
 | k+1,.mk o n us sub,h=>wQm gl o n us sub (λa A=>xXf k a (by
   have:=lSm A;simp at h;omega))
theorem vJ5 (t:Fm):DF gl t:=xXf gl _ t (Nat.lt_succ_self _)
def cBox (n:Int):Option IObj:=some (.box [.raw (.int .i64 n)])
def bigI:IV:=.raw (.int .i64 9223372036854775807)
def wQ8 (b:Nat):IV:=.fn (.func 273) [] [.raw (.pointer (some ⟨b,0,none⟩)),.cptr bigI]
theorem wG3 (v:Bool)(n:ByteArray)(us:List Tm)(x:IV)(D:IsTm (.mk v n us) x)(b:Nat)(st:ISt)(c:Nat)(G:st b=cBox c)(hc:c+1<=4611686018427387904) :
  ICall prog gl 273 [x,.raw (.pointer (some ⟨b,0,none⟩)),.cptr bigI] st (λr st'=>r=.raw (.bool true)/\st'=st.put b (cBox ((c+1:Nat):Int))):=by
 obtain⟨J,cx,rfl,_⟩:=D.mk;refine iI func273 ?_;have E:IntKind.i64.wrap (((c:Nat):Int)+1)=((c+1:Nat):Int):=by rw[w64]<;>omega
 have A:decide (((c+1:Nat):Int)<=9223372036854775807)=true:=by simp;omega
 simp only[go_sem,zE,zL,G,cBox,bigI,E,ISt.put_same,A];exact yQ0 ⟨rfl,rfl⟩
def CN (us:List Tm):Prop:=∀(t:Tag) (A:List IV) (_:okEs t 3) (_:IsTms us A) (b:Nat) (st:ISt) (c:Nat) (_:st b=cBox c) (_:c+yQf us<=4611686018427387904),
 ICall prog gl 272 [.sl t A,wQ8 b] st (λr st'=>r=.raw (.bool true)/\st'=st.put b (cBox ((c+yQf us:Nat):Int)))
theorem zJf (us:List Tm)(IH:∀v n m,Tm.mk v n m∈us->CN gl m):CN gl us:=by
 intro tg xs J E b st c hb hc;refine iI func272 ?_;simp only[go_sem,reduceCtorEq,E.len,wQ8];intro ac;refine LoopC.ctr us.length (λk fr st' ds=>st'=st.put b (cBox ((c+yQf (us.take k):Nat):Int))/\fr 1=.iv (wQ8 b)/\fr 7=.iv (.sl tg xs)/\fr 8=.iv (.raw (.int .i64 us.length))/\fr 9=.iv (.raw (.int .i64 k))/\ds=[]) ?_ ?_ ?_
 ·simp only[go_sem,zE,wQ8];simp only[yQf,Nat.add_zero];exact⟨(yXc hb).symm,rfl⟩
 ·rintro k fr _ _ A ⟨rfl,f1,f7,f8,f9,rfl⟩;obtain⟨a,ha⟩:=yQ1 A;obtain⟨x,O,hx⟩:=E.get ha;obtain⟨h1,h2⟩:=yZz ha;obtain⟨v2,n2,m⟩:=a;have D:=λst c=>wG3 gl v2 n2 m x hx b st c;obtain⟨tx,cx,rfl,G,U⟩:=hx.mk;simp only[Tm.size] at h1 h2;simp only[go_sem,zE,zA,zL,f1,f7,f8,f9,lt_i A,yQ3 J,iNn,O,wQ8];refine (D _ _ (ISt.put_same _ _ _) (by omega)).mono ?_;rintro _ _ ⟨rfl,rfl⟩;simp only[go_sem,zE,zA,f1,wQ8];refine (IH _ _ _ (lMg ha) tx cx G U b _ (c+yQf (us.take k)+1) (ISt.put_same _ _ _) (by omega)).mono ?_;rintro _ _ ⟨rfl,rfl⟩;simp only[go_sem,zE,f1,f7,f8,f9,yQc A (show us.length<=281474976710656 by omega)];simp only[yQ9];rw[h1,show c+yQf (us.take k)+1+yQf m=c+(yQf (us.take k)+(yQf m+1)) by omega];exact⟨rfl,rfl⟩
 ·rintro fr _ _ ⟨rfl,f1,f7,f8,f9,rfl⟩;simp only[go_sem,f8,f9,yQl (nLi _)];rw[lTl];exact yQ0 ⟨rfl,rfl⟩
theorem yGt:∀(k:Nat)(us:List Tm),SizeOf.sizeOf us<k->CN gl us
 | 0,f,h=>by omega
 | k+1,us,h=>zJf gl us (λv n m A=>yGt k m (by
   have:=lSm A;simp at this;omega))
theorem zUw (us:List Tm):CN gl us:=yGt gl _ us (Nat.lt_succ_self _)
mutual
def yVt:Fm->List Fm
 | .mk o n us sub=>.mk o n us sub::yX1 sub
def yX1:List Fm->List Fm
 | []=>[]
 | a::l=>yVt a++yX1 l
end
theorem yKv:∀(l m:List Fm),yX1 (l++m)=yX1 l++yX1 m
 | [],m=>by simp[yX1]
 | a::l,m=>by simp only[List.cons_append,yX1,yKv l m,List.append_assoc]
def FOk (y:IV)(I:Nat->ISt->Prop)(S:ISt->Prop)(k0:Nat)(l:List Fm):Prop :=
 ∀i z x stu,l[i]?=some z->IsFm z x->I (k0+i) stu->ICallV prog gl y [x] stu (xXi I S (k0+i+1))
theorem FOk.left {y:IV}{I:Nat->ISt->Prop}{S:ISt->Prop}{k0:Nat}{l m:List Fm}(h:FOk gl y I S k0 (l++m)):FOk gl y I S k0 l:=λi z x stu A D E =>
 h i z x stu (by rw[List.getElem?_append_left (lGs A).1];exact A) D E
theorem FOk.right {y:IV}{I:Nat->ISt->Prop}{S:ISt->Prop}{k0:Nat}{l m:List Fm}(h:FOk gl y I S k0 (l++m)):FOk gl y I S (k0+l.length) m:=λi z x stu D A E=>by
 have:=h (l.length+i) z x stu (by rw[List.getElem?_append_right (by omega)];simpa using D) A (by rw[<- Nat.add_assoc];exact E);simpa only[Nat.add_assoc] using this
theorem FOk.head {y:IV}{I:Nat->ISt->Prop}{S:ISt->Prop}{k0:Nat}{z:Fm}{m:List Fm}(h:FOk gl y I S k0 (z::m)){x:IV}(A:IsFm z x){st:ISt}(D:I k0 st):ICallV prog gl y [x] st (xXi I S (k0+1)):=h 0 z x st rfl A D
theorem FOk.tail {y:IV}{I:Nat->ISt->Prop}{S:ISt->Prop}{k0:Nat}{z:Fm}{m:List Fm}(h:FOk gl y I S k0 (z::m)):FOk gl y I S (k0+1) m:=FOk.right gl (l:=[z]) h
def VV (f:Fm):Prop:=∀(x:IV) (_:IsFm f x) (g:Fn) (A ca:List IV) (_:fnOk g=true) (_:∀i,g=.func i->entI prog i=true) (I:Nat->ISt->Prop) (S:ISt->Prop) (k0:Nat) (_:FOk gl (.fn g A ca) I S k0 (yVt f)) (st:ISt) (_:I k0 st),
  ICall prog gl 281 [x,.fn g A ca] st (xXi I S (k0+(yVt f).length))
theorem xGm (op:Nat)(n:ByteArray)(us:List Tm)(sub:List Fm)(IH:∀a∈sub,VV gl a):VV gl (.mk op n us sub):=by
 intro x U g fi ca ai E I S k0 hy st hI;have ag:=U;obtain⟨tg,xs,ac,ys,rfl,an,am,al,aa,hys⟩:=U.mk;simp only[yVt] at hy ⊢;have G:=FOk.head gl hy ag hI;have ae:=FOk.tail gl hy;refine iI func281 ?_;simp only[go_sem,zE,zA,zL];refine yZ3 E (G.mono ?_);rintro _ st (⟨rfl,h⟩|⟨rfl,h⟩)
 ·simp only[go_sem,zE,hys.len];intro aj;refine LoopC.ctr sub.length (λk fr st ds=>I (k0+1+(yX1 (sub.take k)).length) st/\fr 1=.iv (.fn g fi ca)/\fr 12=.iv (.sl ac ys)/\fr 13=.iv (.raw (.int .i64 sub.length))/\fr 14=.iv (.raw (.int .i64 k))/\ds=[]) ?_ ?_ ?_
  ·simp only[go_sem,zE];exact⟨by simpa[yX1] using h,rfl⟩
  ·rintro k fr st _ D ⟨hst,f1,f12,f13,f14,rfl⟩;obtain⟨a,ha⟩:=yQ1 D;obtain⟨x,ah,U⟩:=hys.get ha;have A:yX1 sub=yX1 (sub.take k)++(yVt a++yX1 (sub.drop (k+1))):=by
    conv=>lhs;rw[<- List.take_append_drop k sub,List.drop_eq_getElem_cons D]
    rw[yKv,(lGs ha).2];rfl
   have O:=ae;rw[A] at O;have J:=IH a (lMg ha) x U g fi ca ai E I S _ (FOk.left gl (FOk.right gl O)) st hst;obtain⟨o2,n2,u2,s2⟩:=a;obtain⟨t3,x3,t4,x4,rfl,_⟩:=U.mk;simp only[go_sem,zE,zA,zL,f1,f12,f13,f14,lt_i D,yQ3 aa,iNn,ah];refine J.mono ?_;rintro _ st (⟨rfl,h⟩|⟨rfl,h⟩)
   ·simp only[go_sem,zE,f1,f12,f13,f14,yQc D (show sub.length<=281474976710656 by omega)];rw[yQ6 ha,yKv,lLa,<- Nat.add_assoc];simpa[yX1] using h
   ·simp only[go_sem];exact yQ0 (.inr ⟨rfl,h⟩)
  ·rintro fr st _ ⟨hst,f1,f12,f13,f14,rfl⟩;simp only[go_sem,f13,f14,yQl (nLi _)];rw[lTl] at hst;refine yQ0 (.inl ⟨rfl,?_⟩);rw[show k0+((yX1 sub).length+1)=k0+1+(yX1 sub).length by omega];exact hst
 ·simp only[go_sem];exact yQ0 (.inr ⟨rfl,h⟩)
theorem zUv:∀(k:Nat)(t:Fm),SizeOf.sizeOf t<k->VV gl t
 | 0,f,h=>by omega
 | k+1,.mk o n us sub,h=>xGm gl o n us sub (λa A=>zUv k a (by
   have:=lSm A;simp at h;omega))
theorem vQc (t:Fm):VV gl t:=zUv gl _ t (Nat.lt_succ_self _)
def vZ9 (f:Fm)(k:Nat)(a:List IV):Prop:=∃z x,(yVt f)[k]?=some z/\IsFm z x/\a=[x]
theorem vQ9 (f:Fm)(x:IV)(G:IsFm f x)(I:Nat->ISt->Prop):IterC prog gl 280 [] [.cptr x] (vZ9 f) (yVt f).length I:=by
 have D:=G;obtain⟨o,n,us,sub⟩:=f;obtain⟨t1,x1,t2,x2,rfl,_⟩:=G.mk;rintro y I' S' st ⟨g,O,ca,rfl,E,A⟩ _ hy h0;change ICall prog gl _ [.fn g O ca,_] st _;refine iI func280 ?_;simp only[go_sem,zE,zA,reduceCtorEq,fits];refine (vQc gl _ _ D g O ca E A I' S' 0 ?_ st h0).mono ?_
 ·intro i z x stu hi U J;rw[Nat.zero_add] at J ⊢;exact hy i [x] stu ⟨z,x,hi,U,rfl⟩ J
 ·rintro _ st' h;simp only[go_sem];refine yQ0 ?_;rw[Nat.zero_add] at h;exact h.imp And.right And.right
theorem vKg (x:IV)(st:ISt)(f:Fm)(A:IsFm f x):ICall prog gl 271 [x] st (λr st'=>r=.fn (.func 280) [] [.cptr x]/\st'=st):=by
 obtain⟨o,n,us,sub⟩:=f;obtain⟨t1,E,t2,D,rfl,_⟩:=A.mk;refine ICall.intro (c:=cf prog gl [] [] [1]) func271 rfl (by show _<=4;simp) (by kernel_rfl) ?_;simp only[go_sem,zE];exact yQ0 ⟨rfl,rfl⟩
def xUb:Fm->Nat
 | .mk _ _ us _=>yQf us+1
def sumW:List Fm->Nat
 | []=>0
 | a::l=>xUb a+sumW l
theorem yWj:∀(l m:List Fm),sumW (l++m)=sumW l+sumW m
 | [],m=>by simp[sumW]
 | a::l,m=>by simp only[List.cons_append,sumW,yWj l m];omega
mutual
theorem zWd:∀f:Fm,sumW (yVt f)=f.size
 | .mk o n us sub=>by simp only[yVt,sumW,xUb,Fm.size,zJm sub];omega
theorem zJm:∀l:List Fm,sumW (yX1 l)=yQb l
 | []=>rfl
 | a::l=>by simp only[yX1,yWj,yQb,zWd a,zJm l]
end
theorem wZa {l:List Fm}{k:Nat}{a:Fm}(h:l[k]?=some a):sumW (l.take (k+1))=sumW (l.take k)+xUb a/\sumW (l.take k)+xUb a<=sumW l:=by
 have h1:sumW (l.take (k+1))=sumW (l.take k)+xUb a:=by rw[yQ6 h,yWj];simp[sumW]
 refine⟨h1,?_⟩;rw[<- h1]
 conv=>rhs;rw[<- List.take_append_drop (k+1) l,yWj]
 omega
theorem vXk (f:Fm)(x:IV)(hx:IsFm f x)(hs:f.size<=4611686018427387904)(st:ISt) :
  ICall prog gl 258 [x,bigI] st (λr st'=>r=.raw (.int .i64 f.size)/\st'=st):=by
 have E:=hx;rw[<- zWd f] at hs ⊢;have D:=λst=>vKg gl x st f E;have A:=vQ9 gl f x E;generalize ab:yVt f=l at hs A ⊢;have hX:∀k a,vZ9 f k a->∃z x,l[k]?=some z/\IsFm z x/\a=[x]:=λk a h=>by rw[<- ab];exact h
 generalize vZ9 f=X at A hX;obtain⟨o,n,us,sub⟩:=f;obtain⟨t1,x1,t2,x2,rfl,_⟩:=hx.mk;refine ICall.intro (c:=cf prog gl [5] [] [3]) func258 rfl (by show _<=20;simp) (by kernel_rfl) ?_;simp only[go_sem,zE,zA,zL,bigI];refine λb=>yQ8 λhb=>?_;refine (D _).mono ?_;rintro _ _ ⟨rfl,rfl⟩;simp only[go_sem,reduceCtorEq];refine RangeC.intro X l.length (λk st'=>st'=st.put b (cBox ((sumW (l.take k):Nat):Int))) (λ_ _=>False) rfl ?_ ?_ ?_ (A _) ?_ (λ_ _ _ h=>h.elim)
 ·intro k a ha;obtain⟨z,x,_,_,rfl⟩:=hX k a ha;rfl
 ·rw[yQ9];rfl
 ·rintro k a _ hk rfl;obtain⟨z,x,hz,J,rfl⟩:=hX k a hk;obtain⟨h1,h2⟩:=wZa hz;obtain⟨o2,n2,G,s2⟩:=z;obtain⟨t3,x3,t4,x4,rfl,_,U,O,_⟩:=J.mk;simp only[xUb] at h1 h2;have hw:IntKind.i64.wrap (((sumW (l.take k):Nat):Int)+1)=((sumW (l.take k)+1:Nat):Int):=by rw[w64]<;>omega
  simp only[go_sem,zE,zA,zL,ISt.put_same,cBox,hw];refine (zUw gl G t3 x3 U O b _ (sumW (l.take k)+1) (ISt.put_same _ _ _) (by omega)).mono ?_;rintro _ _ ⟨rfl,rfl⟩;have aa:decide ((9223372036854775807:Int)<((sumW (l.take k)+1+yQf G:Nat):Int))=false:=by simp;omega
  simp only[go_sem,zE,ISt.put_same,cBox,fits,aa];rw[yQ9,yQ9,h1,show sumW (l.take k)+(yQf G+1)=sumW (l.take k)+1+yQf G by omega]
 ·rintro _ r rfl;simp only[go_sem,zE,ISt.put_same,cBox];rw[lTl];exact yQg (yQh hb) ⟨rfl,rfl⟩
theorem vJ1 (f:Fm)(x:IV)(D:IsFm f x)(hs:f.size<=4611686018427387904)(st:ISt) :
  ICall prog gl 237 [x] st (λr st'=>r=.raw (.int .i64 f.size)/\st'=st):=by
 have A:=λst=>vXk gl f x D hs st;generalize f.size=z at A ⊢;obtain⟨o,n,us,sub⟩:=f;obtain⟨t1,G,t2,E,rfl,_⟩:=D.mk;refine iI func237 ?_;simp only[go_sem,zE,zA,zL];refine (A _).mono ?_;rintro _ _ ⟨rfl,rfl⟩;simp only[go_sem];exact yQ0 ⟨rfl,rfl⟩
