/- Walks: depths. -/
import Derived.Test.YtclkffdkahljeaaGreatDoorJO
set_option linter.all false
open Nat renaming reduceEqDiff → zE,reduceAdd → zA,reduceLeDiff → zL
namespace Go.Proofs.Tryz
open Go Go.Iv
set_option maxRecDepth 4000
variable (gl:Nat->Option IV)
theorem xZ3 {l:List Tm}{k:Nat}{a:Tm}(h:l[k]?=some a):yQr (l.take (k+1))=max (yQr (l.take k)) a.deep/\a.deep<=yQr l:=by
 have h1:yQr (l.take (k+1))=max (yQr (l.take k)) a.deep:=by rw[yQ7 h,yVu];simp[yQr]
 refine⟨h1,?_⟩;have:yQr l=max (yQr (l.take (k+1))) (yQr (l.drop (k+1))):=by conv=>lhs;rw[<- List.take_append_drop (k+1) l,yVu]
 omega
theorem xZ4 {l:List Fm}{k:Nat}{a:Fm}(h:l[k]?=some a):yZ2 (l.take (k+1))=max (yZ2 (l.take k)) a.deep/\a.deep<=yZ2 l:=by
 have h1:yZ2 (l.take (k+1))=max (yZ2 (l.take k)) a.deep:=by rw[yQ7 h,yVv];simp[yZ2]
 refine⟨h1,?_⟩;have:yZ2 l=max (yZ2 (l.take (k+1))) (yZ2 (l.drop (k+1))):=by conv=>lhs;rw[<- List.take_append_drop (k+1) l,yVv]
 omega
def TD (us:List Tm):Prop:=∀(t:Tag) (A:List IV) (_:okEs t 3) (_:IsTms us A) (_:yQr us<=4611686018427387904) (st:ISt),
 ICall prog gl 282 [.sl t A] st (λr st'=>r=.raw (.int .i64 (yQr us))/\st'=st)
theorem zJ7 (us:List Tm)(IH:∀v n m,Tm.mk v n m∈us->TD gl m):TD gl us:=by
 intro tg xs J D hd st;refine iI func282 ?_;simp only[go_sem,reduceCtorEq,D.len];intro ab;refine LoopC.ctr us.length (λk fr st' ds=>fr 3=.iv (.raw (.int .i64 (yQr (us.take k))))/\fr 6=.iv (.sl tg xs)/\fr 7=.iv (.raw (.int .i64 us.length))/\fr 8=.iv (.raw (.int .i64 k))/\st'=st/\ds=[]) ?_ ?_ ?_
 ·simp only[go_sem,zE];simp[yQr]
 ·rintro k fr _ _ A ⟨f3,f6,f7,f8,rfl,rfl⟩;obtain⟨a,ha⟩:=yQ1 A;obtain⟨x,O,hx⟩:=D.get ha;obtain⟨h1,h2⟩:=xZ3 ha;obtain⟨v2,n2,m⟩:=a;obtain⟨tx,cx,rfl,E,U⟩:=hx.mk;simp only[Tm.deep] at h1 h2;simp only[go_sem,zE,zA,zL,f3,f6,f7,f8,lt_i A,yQ3 J,iNn,O];refine (IH _ _ _ (lMg ha) tx cx E U (by omega) _).mono ?_;rintro _ _ ⟨rfl,rfl⟩;have hw:IntKind.i64.wrap (((yQr m:Nat):Int)+1)=((yQr m+1:Nat):Int):=by rw[w64]<;>omega
  have hm:max ((yQr (us.take k):Nat):Int) ((yQr m+1:Nat):Int)=((yQr (us.take (k+1)):Nat):Int):=by rw[h1];omega
  simp only[go_sem,zE,f6,f7,f8,yQc A (show us.length<=281474976710656 by omega),hw,hm]
 ·rintro fr _ _ ⟨f3,f6,f7,f8,rfl,rfl⟩;simp only[go_sem,zE,f3,f7,f8,yQi (nLi _)];rw[lTl];exact yQ0 ⟨rfl,rfl⟩
theorem yGs:∀(k:Nat)(us:List Tm),SizeOf.sizeOf us<k->TD gl us
 | 0,f,h=>by omega
 | k+1,us,h=>zJ7 gl us (λv n m A=>yGs k m (by
   have:=lSm A;simp at this;omega))
theorem zUk (us:List Tm):TD gl us:=yGs gl _ us (Nat.lt_succ_self _)
def DF (f:Fm):Prop:=∀(x:IV) (_:IsFm f x) (_:f.deep<=4611686018427387904) (st:ISt),
 ICall prog gl 266 [x] st (λr st'=>r=.raw (.int .i64 f.deep)/\st'=st)
theorem xU8 (op:Nat)(n:ByteArray)(us:List Tm)(sub:List Fm)(IH:∀a∈sub,DF gl a):DF gl (.mk op n us sub):=by
 intro x hx hd st;obtain⟨tg,xs,J,ys,rfl,ah,U,O,E,hys⟩:=hx.mk;simp only[Fm.deep] at hd ⊢;refine iI func266 ?_;simp only[go_sem,zE,zA];refine (zUk gl us tg xs U O (by omega) _).mono ?_;rintro _ st ⟨rfl,rfl⟩;simp only[go_sem,zE,hys.len];intro ac;refine LoopC.ctr sub.length (λk fr st' ds=>fr 3=.iv (.raw (.int .i64 (max (yQr us) (yZ2 (sub.take k)):Nat)))/\fr 10=.iv (.sl J ys)/\fr 11=.iv (.raw (.int .i64 sub.length))/\fr 12=.iv (.raw (.int .i64 k))/\st'=st/\ds=[]) ?_ ?_ ?_
 ·simp only[go_sem,zE];simp[yZ2]
 ·rintro k fr st _ A ⟨f3,f10,f11,f12,rfl,rfl⟩;obtain⟨a,ha⟩:=yQ1 A;obtain⟨x,aa,hx⟩:=hys.get ha;obtain⟨h1,h2⟩:=xZ4 ha;have D:=IH a (lMg ha) x hx (by omega) st;have hm:max ((max (yQr us) (yZ2 (sub.take k)):Nat):Int) ((a.deep:Nat):Int)=((max (yQr us) (yZ2 (sub.take (k+1))):Nat):Int):=by rw[h1];omega
  obtain⟨o2,n2,u2,s2⟩:=a;obtain⟨t3,x3,t4,x4,rfl,_⟩:=hx.mk;simp only[go_sem,zE,zA,zL,f3,f10,f11,f12,lt_i A,yQ3 E,iNn,aa];refine D.mono ?_;rintro _ _ ⟨rfl,rfl⟩;simp only[go_sem,zE,f10,f11,f12,yQc A (show sub.length<=281474976710656 by omega),hm]
 ·rintro fr _ _ ⟨f3,f10,f11,f12,rfl,rfl⟩;have hw:IntKind.i64.wrap (((max (yQr us) (yZ2 sub):Nat):Int)+1)=((max (yQr us) (yZ2 sub)+1:Nat):Int):=by rw[w64]<;>omega
  rw[lTl] at f3;simp only[go_sem,zE,f3,f11,f12,yQi (nLi _),hw];exact yQ0 ⟨rfl,rfl⟩
theorem xZp:∀(k:Nat)(t:Fm),SizeOf.sizeOf t<k->DF gl t
 | 0,f,h=>by omega
 | k+1,.mk o n us sub,h=>xU8 gl o n us sub (λa A=>xZp k a (by
   have:=lSm A;simp at h;omega))
theorem vZs (t:Fm):DF gl t:=xZp gl _ t (Nat.lt_succ_self _)
def cBox (n:Int):Option IObj:=some (.box [.raw (.int .i64 n)])
def bigI:IV:=.raw (.int .i64 9223372036854775807)
def xGv (b:Nat):IV:=.fn (.func 298) [] [.raw (.pointer (some ⟨b,0,none⟩)),.cptr bigI]
theorem wWq (v:Bool)(n:ByteArray)(us:List Tm)(x:IV)(hx:IsTm (.mk v n us) x)(b:Nat)(st:ISt)(c:Nat)(E:st b=cBox c)(hc:c+1<=4611686018427387904) :
  ICall prog gl 298 [x,.raw (.pointer (some ⟨b,0,none⟩)),.cptr bigI] st (λr st'=>r=.raw (.bool true)/\st'=st.put b (cBox ((c+1:Nat):Int))):=by
 obtain⟨J,cx,rfl,_⟩:=hx.mk;refine iI func298 ?_;have D:IntKind.i64.wrap (((c:Nat):Int)+1)=((c+1:Nat):Int):=by rw[w64]<;>omega
 have A:decide (((c+1:Nat):Int)<=9223372036854775807)=true:=by simp;omega
 simp only[go_sem,zE,zL,E,cBox,bigI,D,ISt.put_same,A];exact yQ0 ⟨rfl,rfl⟩
def CN (us:List Tm):Prop:=∀(t:Tag) (A:List IV) (_:okEs t 3) (_:IsTms us A) (b:Nat) (st:ISt) (c:Nat) (_:st b=cBox c) (_:c+yQh us<=4611686018427387904),
 ICall prog gl 297 [.sl t A,xGv b] st (λr st'=>r=.raw (.bool true)/\st'=st.put b (cBox ((c+yQh us:Nat):Int)))
theorem zJ3 (us:List Tm)(IH:∀v n m,Tm.mk v n m∈us->CN gl m):CN gl us:=by
 intro tg xs O E b st c hb hc;refine iI func297 ?_;simp only[go_sem,reduceCtorEq,E.len,xGv];intro ac;refine LoopC.ctr us.length (λk fr st' ds=>st'=st.put b (cBox ((c+yQh (us.take k):Nat):Int))/\fr 1=.iv (xGv b)/\fr 7=.iv (.sl tg xs)/\fr 8=.iv (.raw (.int .i64 us.length))/\fr 9=.iv (.raw (.int .i64 k))/\ds=[]) ?_ ?_ ?_
 ·simp only[go_sem,zE,xGv];simp only[yQh,Nat.add_zero];exact⟨(yZm hb).symm,rfl⟩
 ·rintro k fr _ _ A ⟨rfl,f1,f7,f8,f9,rfl⟩;obtain⟨a,ha⟩:=yQ1 A;obtain⟨x,U,hx⟩:=E.get ha;obtain⟨h1,h2⟩:=yXf ha;obtain⟨v2,n2,m⟩:=a;have D:=λst c=>wWq gl v2 n2 m x hx b st c;obtain⟨tx,cx,rfl,J,aa⟩:=hx.mk;simp only[Tm.size] at h1 h2;simp only[go_sem,zE,zA,zL,f1,f7,f8,f9,lt_i A,yQ3 O,iNn,U,xGv];refine (D _ _ (ISt.put_same _ _ _) (by omega)).mono ?_;rintro _ _ ⟨rfl,rfl⟩;simp only[go_sem,zE,zA,f1,xGv];refine (IH _ _ _ (lMg ha) tx cx J aa b _ (c+yQh (us.take k)+1) (ISt.put_same _ _ _) (by omega)).mono ?_;rintro _ _ ⟨rfl,rfl⟩;simp only[go_sem,zE,f1,f7,f8,f9,yQc A (show us.length<=281474976710656 by omega)];simp only[yQ9];rw[h1,show c+yQh (us.take k)+1+yQh m=c+(yQh (us.take k)+(yQh m+1)) by omega];exact⟨rfl,rfl⟩
 ·rintro fr _ _ ⟨rfl,f1,f7,f8,f9,rfl⟩;simp only[go_sem,f8,f9,yQi (nLi _)];rw[lTl];exact yQ0 ⟨rfl,rfl⟩
theorem yGr:∀(k:Nat)(us:List Tm),SizeOf.sizeOf us<k->CN gl us
 | 0,f,h=>by omega
 | k+1,us,h=>zJ3 gl us (λv n m A=>yGr k m (by
   have:=lSm A;simp at this;omega))
theorem zUe (us:List Tm):CN gl us:=yGr gl _ us (Nat.lt_succ_self _)
mutual
def yZf:Fm->List Fm
 | .mk o n us sub=>.mk o n us sub::yQz sub
def yQz:List Fm->List Fm
 | []=>[]
 | a::l=>yZf a++yQz l
end
theorem yKw:∀(l m:List Fm),yQz (l++m)=yQz l++yQz m
 | [],m=>by simp[yQz]
 | a::l,m=>by simp only[List.cons_append,yQz,yKw l m,List.append_assoc]
def FOk (y:IV)(I:Nat->ISt->Prop)(S:ISt->Prop)(k0:Nat)(l:List Fm):Prop :=
 ∀i z x stu,l[i]?=some z->IsFm z x->I (k0+i) stu->ICallV prog gl y [x] stu (xZs I S (k0+i+1))
theorem FOk.left {y:IV}{I:Nat->ISt->Prop}{S:ISt->Prop}{k0:Nat}{l m:List Fm}(h:FOk gl y I S k0 (l++m)):FOk gl y I S k0 l:=λi z x stu A hx D =>
 h i z x stu (by rw[List.getElem?_append_left (lGs A).1];exact A) hx D
theorem FOk.right {y:IV}{I:Nat->ISt->Prop}{S:ISt->Prop}{k0:Nat}{l m:List Fm}(h:FOk gl y I S k0 (l++m)):FOk gl y I S (k0+l.length) m:=λi z x stu A hx D=>by
 have:=h (l.length+i) z x stu (by rw[List.getElem?_append_right (by omega)];simpa using A) hx (by rw[<- Nat.add_assoc];exact D);simpa only[Nat.add_assoc] using this
theorem FOk.head {y:IV}{I:Nat->ISt->Prop}{S:ISt->Prop}{k0:Nat}{z:Fm}{m:List Fm}(h:FOk gl y I S k0 (z::m)){x:IV}(hx:IsFm z x){st:ISt}(A:I k0 st):ICallV prog gl y [x] st (xZs I S (k0+1)):=h 0 z x st rfl hx A
theorem FOk.tail {y:IV}{I:Nat->ISt->Prop}{S:ISt->Prop}{k0:Nat}{z:Fm}{m:List Fm}(h:FOk gl y I S k0 (z::m)):FOk gl y I S (k0+1) m:=FOk.right gl (l:=[z]) h
def VV (f:Fm):Prop:=∀(x:IV) (_:IsFm f x) (g:Fn) (A ca:List IV) (_:fnOk g=true) (_:∀i,g=.func i->entI prog i=true) (I:Nat->ISt->Prop) (S:ISt->Prop) (k0:Nat) (_:FOk gl (.fn g A ca) I S k0 (yZf f)) (st:ISt) (_:I k0 st),
  ICall prog gl 138 [x,.fn g A ca] st (xZs I S (k0+(yZf f).length))
theorem xYa (op:Nat)(n:ByteArray)(us:List Tm)(sub:List Fm)(IH:∀a∈sub,VV gl a):VV gl (.mk op n us sub):=by
 intro x hx g fi ca aj J I S k0 hy st hI;have ah:=hx;obtain⟨tg,xs,ae,ys,rfl,ao,an,am,ab,hys⟩:=hx.mk;simp only[yZf] at hy ⊢;have O:=FOk.head gl hy ah hI;have af:=FOk.tail gl hy;refine iI func138 ?_;simp only[go_sem,zE,zA,zL];refine yZ4 J (O.mono ?_);rintro _ st (⟨rfl,h⟩|⟨rfl,h⟩)
 ·simp only[go_sem,zE,hys.len];intro ak;refine LoopC.ctr sub.length (λk fr st ds=>I (k0+1+(yQz (sub.take k)).length) st/\fr 1=.iv (.fn g fi ca)/\fr 12=.iv (.sl ae ys)/\fr 13=.iv (.raw (.int .i64 sub.length))/\fr 14=.iv (.raw (.int .i64 k))/\ds=[]) ?_ ?_ ?_
  ·simp only[go_sem,zE];exact⟨by simpa[yQz] using h,rfl⟩
  ·rintro k fr st _ E ⟨A,f1,f12,f13,f14,rfl⟩;obtain⟨a,ha⟩:=yQ1 E;obtain⟨x,ai,hx⟩:=hys.get ha;have D:yQz sub=yQz (sub.take k)++(yZf a++yQz (sub.drop (k+1))):=by
    conv=>lhs;rw[<- List.take_append_drop k sub,List.drop_eq_getElem_cons E]
    rw[yKw,(lGs ha).2];rfl
   have aa:=af;rw[D] at aa;have U:=IH a (lMg ha) x hx g fi ca aj J I S _ (FOk.left gl (FOk.right gl aa)) st A;obtain⟨o2,n2,u2,s2⟩:=a;obtain⟨t3,x3,t4,x4,rfl,_⟩:=hx.mk;simp only[go_sem,zE,zA,zL,f1,f12,f13,f14,lt_i E,yQ3 ab,iNn,ai];refine U.mono ?_;rintro _ st (⟨rfl,h⟩|⟨rfl,h⟩)
   ·simp only[go_sem,zE,f1,f12,f13,f14,yQc E (show sub.length<=281474976710656 by omega)];rw[yQ7 ha,yKw,lLa,<- Nat.add_assoc];simpa[yQz] using h
   ·simp only[go_sem];exact yQ0 (.inr ⟨rfl,h⟩)
  ·rintro fr st _ ⟨A,f1,f12,f13,f14,rfl⟩;simp only[go_sem,f13,f14,yQi (nLi _)];rw[lTl] at A;refine yQ0 (.inl ⟨rfl,?_⟩);rw[show k0+((yQz sub).length+1)=k0+1+(yQz sub).length by omega];exact A
 ·simp only[go_sem];exact yQ0 (.inr ⟨rfl,h⟩)
theorem zUd:∀(k:Nat)(t:Fm),SizeOf.sizeOf t<k->VV gl t
 | 0,f,h=>by omega
 | k+1,.mk o n us sub,h=>xYa gl o n us sub (λa A=>zUd k a (by
   have:=lSm A;simp at h;omega))
theorem wU2 (t:Fm):VV gl t:=zUd gl _ t (Nat.lt_succ_self _)
def wVm (f:Fm)(k:Nat)(a:List IV):Prop:=∃z x,(yZf f)[k]?=some z/\IsFm z x/\a=[x]
theorem xUg (f:Fm)(x:IV)(hx:IsFm f x)(I:Nat->ISt->Prop):IterC prog gl 137 [] [.cptr x] (wVm f) (yZf f).length I:=by
 have D:=hx;obtain⟨o,n,us,sub⟩:=f;obtain⟨t1,x1,t2,x2,rfl,_⟩:=hx.mk;rintro y I' S' st ⟨g,O,ca,rfl,E,A⟩ _ hy h0;change ICall prog gl _ [.fn g O ca,_] st _;refine iI func137 ?_;simp only[go_sem,zE,zA,reduceCtorEq,fits];refine (wU2 gl _ _ D g O ca E A I' S' 0 ?_ st h0).mono ?_
 ·intro i z x stu hi U J;rw[Nat.zero_add] at J ⊢;exact hy i [x] stu ⟨z,x,hi,U,rfl⟩ J
 ·rintro _ st' h;simp only[go_sem];refine yQ0 ?_;rw[Nat.zero_add] at h;exact h.imp And.right And.right
theorem wYg (x:IV)(st:ISt)(f:Fm)(hx:IsFm f x):ICall prog gl 113 [x] st (λr st'=>r=.fn (.func 137) [] [.cptr x]/\st'=st):=by
 obtain⟨o,n,us,sub⟩:=f;obtain⟨t1,D,t2,A,rfl,_⟩:=hx.mk;refine ICall.intro (c:=cf prog gl [] [] [1]) func113 rfl (by show _<=4;simp) (by kernel_rfl) ?_;simp only[go_sem,zE];exact yQ0 ⟨rfl,rfl⟩
def xYy:Fm->Nat
 | .mk _ _ us _=>yQh us+1
def sumW:List Fm->Nat
 | []=>0
 | a::l=>xYy a+sumW l
theorem yWh:∀(l m:List Fm),sumW (l++m)=sumW l+sumW m
 | [],m=>by simp[sumW]
 | a::l,m=>by simp only[List.cons_append,sumW,yWh l m];omega
mutual
theorem zVq:∀f:Fm,sumW (yZf f)=f.size
 | .mk o n us sub=>by simp only[yZf,sumW,xYy,Fm.size,zJ9 sub];omega
theorem zJ9:∀l:List Fm,sumW (yQz l)=yQe l
 | []=>rfl
 | a::l=>by simp only[yQz,yWh,yQe,zVq a,zJ9 l]
end
theorem xUy {l:List Fm}{k:Nat}{a:Fm}(h:l[k]?=some a):sumW (l.take (k+1))=sumW (l.take k)+xYy a/\sumW (l.take k)+xYy a<=sumW l:=by
 have h1:sumW (l.take (k+1))=sumW (l.take k)+xYy a:=by rw[yQ7 h,yWh];simp[sumW]
 refine⟨h1,?_⟩;rw[<- h1]
 conv=>rhs;rw[<- List.take_append_drop (k+1) l,yWh]
 omega
theorem vZ6 (f:Fm)(x:IV)(hx:IsFm f x)(hs:f.size<=4611686018427387904)(st:ISt) :
  ICall prog gl 281 [x,bigI] st (λr st'=>r=.raw (.int .i64 f.size)/\st'=st):=by
 have E:=hx;rw[<- zVq f] at hs ⊢;have D:=λst=>wYg gl x st f E;have A:=xUg gl f x E;generalize ac:yZf f=l at hs A ⊢;have hX:∀k a,wVm f k a->∃z x,l[k]?=some z/\IsFm z x/\a=[x]:=λk a h=>by rw[<- ac];exact h
 generalize wVm f=X at A hX;obtain⟨o,n,us,sub⟩:=f;obtain⟨t1,x1,t2,x2,rfl,_⟩:=hx.mk;refine ICall.intro (c:=cf prog gl [5] [] [3]) func281 rfl (by show _<=20;simp) (by kernel_rfl) ?_;simp only[go_sem,zE,zA,zL,bigI];refine λb=>yQ8 λhb=>?_;refine (D _).mono ?_;rintro _ _ ⟨rfl,rfl⟩;simp only[go_sem,reduceCtorEq];refine RangeC.intro X l.length (λk st'=>st'=st.put b (cBox ((sumW (l.take k):Nat):Int))) (λ_ _=>False) rfl ?_ ?_ ?_ (A _) ?_ (λ_ _ _ h=>h.elim)
 ·intro k a ha;obtain⟨z,x,_,_,rfl⟩:=hX k a ha;rfl
 ·rw[yQ9];rfl
 ·rintro k a _ hk rfl;obtain⟨z,x,hz,O,rfl⟩:=hX k a hk;obtain⟨h1,h2⟩:=xUy hz;obtain⟨o2,n2,J,s2⟩:=z;obtain⟨t3,x3,t4,x4,rfl,_,aa,U,_⟩:=O.mk;simp only[xYy] at h1 h2;have hw:IntKind.i64.wrap (((sumW (l.take k):Nat):Int)+1)=((sumW (l.take k)+1:Nat):Int):=by rw[w64]<;>omega
  simp only[go_sem,zE,zA,zL,ISt.put_same,cBox,hw];refine (zUe gl J t3 x3 aa U b _ (sumW (l.take k)+1) (ISt.put_same _ _ _) (by omega)).mono ?_;rintro _ _ ⟨rfl,rfl⟩;have ab:decide ((9223372036854775807:Int)<((sumW (l.take k)+1+yQh J:Nat):Int))=false:=by simp;omega
  simp only[go_sem,zE,ISt.put_same,cBox,fits,ab];rw[yQ9,yQ9,h1,show sumW (l.take k)+(yQh J+1)=sumW (l.take k)+1+yQh J by omega]
 ·rintro _ r rfl;simp only[go_sem,zE,ISt.put_same,cBox];rw[lTl];exact yQf (yQa hb) ⟨rfl,rfl⟩
theorem vZl (f:Fm)(x:IV)(hx:IsFm f x)(hs:f.size<=4611686018427387904)(st:ISt) :
  ICall prog gl 265 [x] st (λr st'=>r=.raw (.int .i64 f.size)/\st'=st):=by
 have A:=λst=>vZ6 gl f x hx hs st;generalize f.size=z at A ⊢;obtain⟨o,n,us,sub⟩:=f;obtain⟨t1,E,t2,D,rfl,_⟩:=hx.mk;refine iI func265 ?_;simp only[go_sem,zE,zA,zL];refine (A _).mono ?_;rintro _ _ ⟨rfl,rfl⟩;simp only[go_sem];exact yQ0 ⟨rfl,rfl⟩
