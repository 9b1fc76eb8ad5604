/- Walks: depths. -/
import Derived.Test.YtclkffdkahljeaaGreatDoorJO
set_option linter.all false
open Nat renaming reduceEqDiff → zE,reduceAdd → zA,reduceLeDiff → zL
namespace Go.Proofs.Tryz
open Go Go.Iv
set_option maxRecDepth 4000
variable (gl:Nat->Option IV)
theorem zGg {l:List Tm}{k:Nat}{a:Tm}(h:l[k]?=some a):yQt (l.take (k+1))=max (yQt (l.take k)) a.deep/\a.deep<=yQt l:=by
 have h1:yQt (l.take (k+1))=max (yQt (l.take k)) a.deep:=by rw[yQ7 h,yKu];simp[yQt]
 refine⟨h1,?_⟩;have:yQt l=max (yQt (l.take (k+1))) (yQt (l.drop (k+1))):=by conv=>lhs;rw[<- List.take_append_drop (k+1) l,yKu]
 omega
theorem zGh {l:List Fm}{k:Nat}{a:Fm}(h:l[k]?=some a):yZ3 (l.take (k+1))=max (yZ3 (l.take k)) a.deep/\a.deep<=yZ3 l:=by
 have h1:yZ3 (l.take (k+1))=max (yZ3 (l.take k)) a.deep:=by rw[yQ7 h,yKv];simp[yZ3]
 refine⟨h1,?_⟩;have:yZ3 l=max (yZ3 (l.take (k+1))) (yZ3 (l.drop (k+1))):=by conv=>lhs;rw[<- List.take_append_drop (k+1) l,yKv]
 omega
def TD (us:List Tm):Prop:=∀(t:Tag) (xs:List IV) (_:okEs t 3) (_:IsTms us xs) (_:yQt us<=4611686018427387904) (st:ISt),
 ICall prog gl 282 [.sl t xs] st (λr st'=>r=.raw (.int .i64 (yQt us))/\st'=st)
theorem zZg (us:List Tm)(IH:∀v n m,Tm.mk v n m∈us->TD gl m):TD gl us:=by
 intro tg xs htg hxs hd st;refine iI func282 ?_;simp only[go_sem,reduceCtorEq,hxs.len];intro hlen;refine LoopC.ctr us.length (λk fr st' ds=>fr 3=.iv (.raw (.int .i64 (yQt (us.take k))))/\fr 6=.iv (.sl tg xs)/\fr 7=.iv (.raw (.int .i64 us.length))/\fr 8=.iv (.raw (.int .i64 k))/\st'=st/\ds=[]) ?_ ?_ ?_
 ·simp only[go_sem,zE];simp[yQt]
 ·rintro k fr _ _ hlt ⟨f3,f6,f7,f8,rfl,rfl⟩;obtain⟨a,ha⟩:=yQ2 hlt;obtain⟨x,hkx,hx⟩:=hxs.get ha;obtain⟨h1,h2⟩:=zGg ha;obtain⟨v2,n2,m⟩:=a;obtain⟨tx,cx,rfl,htx,hcx⟩:=hx.mk;simp only[Tm.deep] at h1 h2;simp only[go_sem,zE,zA,zL,f3,f6,f7,f8,lt_i hlt,yQ3 htg,iNn,hkx];refine (IH _ _ _ (lMg ha) tx cx htx hcx (by omega) _).mono ?_;rintro _ _ ⟨rfl,rfl⟩;have hw:IntKind.i64.wrap (((yQt m:Nat):Int)+1)=((yQt m+1:Nat):Int):=by rw[w64]<;>omega
  have hm:max ((yQt (us.take k):Nat):Int) ((yQt m+1:Nat):Int)=((yQt (us.take (k+1)):Nat):Int):=by rw[h1];omega
  simp only[go_sem,zE,f6,f7,f8,yQd hlt (show us.length<=281474976710656 by omega),hw,hm]
 ·rintro fr _ _ ⟨f3,f6,f7,f8,rfl,rfl⟩;simp only[go_sem,zE,f3,f7,f8,yQm (nLi _)];rw[lTl];exact yQ0 ⟨rfl,rfl⟩
theorem yYl:∀(k:Nat)(us:List Tm),SizeOf.sizeOf us<k->TD gl us
 | 0,f,h=>by omega
 | k+1,us,h=>zZg gl us (λv n m ha=>yYl k m (by
   have:=lSm ha;simp at this;omega))
theorem zY2 (us:List Tm):TD gl us:=yYl gl _ us (Nat.lt_succ_self _)
def DF (f:Fm):Prop:=∀(x:IV) (_:IsFm f x) (_:f.deep<=4611686018427387904) (st:ISt),
 ICall prog gl 266 [x] st (λr st'=>r=.raw (.int .i64 f.deep)/\st'=st)
theorem xVu (op:Nat)(n:ByteArray)(us:List Tm)(sub:List Fm)(IH:∀a∈sub,DF gl a):DF gl (.mk op n us sub):=by
 intro x hx hd st;obtain⟨tg,xs,tg',ys,rfl,hop,htg,hxs,htg',hys⟩:=hx.mk;simp only[Fm.deep] at hd ⊢;refine iI func266 ?_;simp only[go_sem,zE,zA];refine (zY2 gl us tg xs htg hxs (by omega) _).mono ?_;rintro _ st ⟨rfl,rfl⟩;simp only[go_sem,zE,hys.len];intro hlen;refine LoopC.ctr sub.length (λk fr st' ds=>fr 3=.iv (.raw (.int .i64 (max (yQt us) (yZ3 (sub.take k)):Nat)))/\fr 10=.iv (.sl tg' ys)/\fr 11=.iv (.raw (.int .i64 sub.length))/\fr 12=.iv (.raw (.int .i64 k))/\st'=st/\ds=[]) ?_ ?_ ?_
 ·simp only[go_sem,zE];simp[yZ3]
 ·rintro k fr st _ hlt ⟨f3,f10,f11,f12,rfl,rfl⟩;obtain⟨a,ha⟩:=yQ2 hlt;obtain⟨x,hkx,hx⟩:=hys.get ha;obtain⟨h1,h2⟩:=zGh ha;have hcall:=IH a (lMg ha) x hx (by omega) st;have hm:max ((max (yQt us) (yZ3 (sub.take k)):Nat):Int) ((a.deep:Nat):Int)=((max (yQt us) (yZ3 (sub.take (k+1))):Nat):Int):=by rw[h1];omega
  obtain⟨o2,n2,u2,s2⟩:=a;obtain⟨t3,x3,t4,x4,rfl,_⟩:=hx.mk;simp only[go_sem,zE,zA,zL,f3,f10,f11,f12,lt_i hlt,yQ3 htg',iNn,hkx];refine hcall.mono ?_;rintro _ _ ⟨rfl,rfl⟩;simp only[go_sem,zE,f10,f11,f12,yQd hlt (show sub.length<=281474976710656 by omega),hm]
 ·rintro fr _ _ ⟨f3,f10,f11,f12,rfl,rfl⟩;have hw:IntKind.i64.wrap (((max (yQt us) (yZ3 sub):Nat):Int)+1)=((max (yQt us) (yZ3 sub)+1:Nat):Int):=by rw[w64]<;>omega
  rw[lTl] at f3;simp only[go_sem,zE,f3,f11,f12,yQm (nLi _),hw];exact yQ0 ⟨rfl,rfl⟩
theorem zU0:∀(k:Nat)(t:Fm),SizeOf.sizeOf t<k->DF gl t
 | 0,f,h=>by omega
 | k+1,.mk o n us sub,h=>xVu gl o n us sub (λa ha=>zU0 k a (by
   have:=lSm ha;simp at h;omega))
theorem wYk (t:Fm):DF gl t:=zU0 gl _ t (Nat.lt_succ_self _)
def cBox (n:Int):Option IObj:=some (.box [.raw (.int .i64 n)])
def bigI:IV:=.raw (.int .i64 9223372036854775807)
def xVg (b:Nat):IV:=.fn (.func 298) [] [.raw (.pointer (some ⟨b,0,none⟩)),.cptr bigI]
theorem wXo (v:Bool)(n:ByteArray)(us:List Tm)(x:IV)(hx:IsTm (.mk v n us) x)(b:Nat)(st:ISt)(c:Nat)(hb:st b=cBox c)(hc:c+1<=4611686018427387904) :
  ICall prog gl 298 [x,.raw (.pointer (some ⟨b,0,none⟩)),.cptr bigI] st (λr st'=>r=.raw (.bool true)/\st'=st.put b (cBox ((c+1:Nat):Int))):=by
 obtain⟨tx,cx,rfl,_⟩:=hx.mk;refine iI func298 ?_;have hw:IntKind.i64.wrap (((c:Nat):Int)+1)=((c+1:Nat):Int):=by rw[w64]<;>omega
 have hle:decide (((c+1:Nat):Int)<=9223372036854775807)=true:=by simp;omega
 simp only[go_sem,zE,zL,hb,cBox,bigI,hw,ISt.put_same,hle];exact yQ0 ⟨rfl,rfl⟩
def CN (us:List Tm):Prop:=∀(t:Tag) (xs:List IV) (_:okEs t 3) (_:IsTms us xs) (b:Nat) (st:ISt) (c:Nat) (_:st b=cBox c) (_:c+yQg us<=4611686018427387904),
 ICall prog gl 297 [.sl t xs,xVg b] st (λr st'=>r=.raw (.bool true)/\st'=st.put b (cBox ((c+yQg us:Nat):Int)))
theorem zZc (us:List Tm)(IH:∀v n m,Tm.mk v n m∈us->CN gl m):CN gl us:=by
 intro tg xs htg hxs b st c hb hc;refine iI func297 ?_;simp only[go_sem,reduceCtorEq,hxs.len,xVg];intro hlen;refine LoopC.ctr us.length (λk fr st' ds=>st'=st.put b (cBox ((c+yQg (us.take k):Nat):Int))/\fr 1=.iv (xVg b)/\fr 7=.iv (.sl tg xs)/\fr 8=.iv (.raw (.int .i64 us.length))/\fr 9=.iv (.raw (.int .i64 k))/\ds=[]) ?_ ?_ ?_
 ·simp only[go_sem,zE,xVg];simp only[yQg,Nat.add_zero];exact⟨(yXg hb).symm,rfl⟩
 ·rintro k fr _ _ hlt ⟨rfl,f1,f7,f8,f9,rfl⟩;obtain⟨a,ha⟩:=yQ2 hlt;obtain⟨x,hkx,hx⟩:=hxs.get ha;obtain⟨h1,h2⟩:=yXj ha;obtain⟨v2,n2,m⟩:=a;have hcall:=λst c=>wXo gl v2 n2 m x hx b st c;obtain⟨tx,cx,rfl,htx,hcx⟩:=hx.mk;simp only[Tm.size] at h1 h2;simp only[go_sem,zE,zA,zL,f1,f7,f8,f9,lt_i hlt,yQ3 htg,iNn,hkx,xVg];refine (hcall _ _ (ISt.put_same _ _ _) (by omega)).mono ?_;rintro _ _ ⟨rfl,rfl⟩;simp only[go_sem,zE,zA,f1,xVg];refine (IH _ _ _ (lMg ha) tx cx htx hcx b _ (c+yQg (us.take k)+1) (ISt.put_same _ _ _) (by omega)).mono ?_;rintro _ _ ⟨rfl,rfl⟩;simp only[go_sem,zE,f1,f7,f8,f9,yQd hlt (show us.length<=281474976710656 by omega)];simp only[yQ8];rw[h1,show c+yQg (us.take k)+1+yQg m=c+(yQg (us.take k)+(yQg m+1)) by omega];exact⟨rfl,rfl⟩
 ·rintro fr _ _ ⟨rfl,f1,f7,f8,f9,rfl⟩;simp only[go_sem,f8,f9,yQm (nLi _)];rw[lTl];exact yQ0 ⟨rfl,rfl⟩
theorem yYk:∀(k:Nat)(us:List Tm),SizeOf.sizeOf us<k->CN gl us
 | 0,f,h=>by omega
 | k+1,us,h=>zZc gl us (λv n m ha=>yYk k m (by
   have:=lSm ha;simp at this;omega))
theorem zWy (us:List Tm):CN gl us:=yYk gl _ us (Nat.lt_succ_self _)
mutual
def yZg:Fm->List Fm
 | .mk o n us sub=>.mk o n us sub::yQy sub
def yQy:List Fm->List Fm
 | []=>[]
 | a::l=>yZg a++yQy l
end
theorem yK1:∀(l m:List Fm),yQy (l++m)=yQy l++yQy m
 | [],m=>by simp[yQy]
 | a::l,m=>by simp only[List.cons_append,yQy,yK1 l m,List.append_assoc]
def FOk (y:IV)(I:Nat->ISt->Prop)(S:ISt->Prop)(k0:Nat)(l:List Fm):Prop :=
 ∀i z x stu,l[i]?=some z->IsFm z x->I (k0+i) stu->ICallV prog gl y [x] stu (zU3 I S (k0+i+1))
theorem FOk.left {y:IV}{I:Nat->ISt->Prop}{S:ISt->Prop}{k0:Nat}{l m:List Fm}(h:FOk gl y I S k0 (l++m)):FOk gl y I S k0 l:=λi z x stu hi hx hI =>
 h i z x stu (by rw[List.getElem?_append_left (lGs hi).1];exact hi) hx hI
theorem FOk.right {y:IV}{I:Nat->ISt->Prop}{S:ISt->Prop}{k0:Nat}{l m:List Fm}(h:FOk gl y I S k0 (l++m)):FOk gl y I S (k0+l.length) m:=λi z x stu hi hx hI=>by
 have:=h (l.length+i) z x stu (by rw[List.getElem?_append_right (by omega)];simpa using hi) hx (by rw[<- Nat.add_assoc];exact hI);simpa only[Nat.add_assoc] using this
theorem FOk.head {y:IV}{I:Nat->ISt->Prop}{S:ISt->Prop}{k0:Nat}{z:Fm}{m:List Fm}(h:FOk gl y I S k0 (z::m)){x:IV}(hx:IsFm z x){st:ISt}(hI:I k0 st):ICallV prog gl y [x] st (zU3 I S (k0+1)):=h 0 z x st rfl hx hI
theorem FOk.tail {y:IV}{I:Nat->ISt->Prop}{S:ISt->Prop}{k0:Nat}{z:Fm}{m:List Fm}(h:FOk gl y I S k0 (z::m)):FOk gl y I S (k0+1) m:=FOk.right gl (l:=[z]) h
def VV (f:Fm):Prop:=∀(x:IV) (_:IsFm f x) (g:Fn) (fi ca:List IV) (_:fnOk g=true) (_:∀i,g=.func i->entI prog i=true) (I:Nat->ISt->Prop) (S:ISt->Prop) (k0:Nat) (_:FOk gl (.fn g fi ca) I S k0 (yZg f)) (st:ISt) (_:I k0 st),
  ICall prog gl 138 [x,.fn g fi ca] st (zU3 I S (k0+(yZg f).length))
theorem xJt (op:Nat)(n:ByteArray)(us:List Tm)(sub:List Fm)(IH:∀a∈sub,VV gl a):VV gl (.mk op n us sub):=by
 intro x hx g fi ca hfn hent I S k0 hy st hI;have hx0:=hx;obtain⟨tg,xs,tg',ys,rfl,hop,htg,hxs,htg',hys⟩:=hx.mk;simp only[yZg] at hy ⊢;have hhead:=FOk.head gl hy hx0 hI;have hy':=FOk.tail gl hy;refine iI func138 ?_;simp only[go_sem,zE,zA,zL];refine yZd hent (hhead.mono ?_);rintro _ st (⟨rfl,h⟩|⟨rfl,h⟩)
 ·simp only[go_sem,zE,hys.len];intro hlen;refine LoopC.ctr sub.length (λk fr st ds=>I (k0+1+(yQy (sub.take k)).length) st/\fr 1=.iv (.fn g fi ca)/\fr 12=.iv (.sl tg' ys)/\fr 13=.iv (.raw (.int .i64 sub.length))/\fr 14=.iv (.raw (.int .i64 k))/\ds=[]) ?_ ?_ ?_
  ·simp only[go_sem,zE];exact⟨by simpa[yQy] using h,rfl⟩
  ·rintro k fr st _ hlt ⟨hst,f1,f12,f13,f14,rfl⟩;obtain⟨a,ha⟩:=yQ2 hlt;obtain⟨x,hkx,hx⟩:=hys.get ha;have hsplit:yQy sub=yQy (sub.take k)++(yZg a++yQy (sub.drop (k+1))):=by
    conv=>lhs;rw[<- List.take_append_drop k sub,List.drop_eq_getElem_cons hlt]
    rw[yK1,(lGs ha).2];rfl
   have hya:=hy';rw[hsplit] at hya;have hcall:=IH a (lMg ha) x hx g fi ca hfn hent I S _ (FOk.left gl (FOk.right gl hya)) st hst;obtain⟨o2,n2,u2,s2⟩:=a;obtain⟨t3,x3,t4,x4,rfl,_⟩:=hx.mk;simp only[go_sem,zE,zA,zL,f1,f12,f13,f14,lt_i hlt,yQ3 htg',iNn,hkx];refine hcall.mono ?_;rintro _ st (⟨rfl,h⟩|⟨rfl,h⟩)
   ·simp only[go_sem,zE,f1,f12,f13,f14,yQd hlt (show sub.length<=281474976710656 by omega)];rw[yQ7 ha,yK1,lLa,<- Nat.add_assoc];simpa[yQy] using h
   ·simp only[go_sem];exact yQ0 (.inr ⟨rfl,h⟩)
  ·rintro fr st _ ⟨hst,f1,f12,f13,f14,rfl⟩;simp only[go_sem,f13,f14,yQm (nLi _)];rw[lTl] at hst;refine yQ0 (.inl ⟨rfl,?_⟩);rw[show k0+((yQy sub).length+1)=k0+1+(yQy sub).length by omega];exact hst
 ·simp only[go_sem];exact yQ0 (.inr ⟨rfl,h⟩)
theorem zWx:∀(k:Nat)(t:Fm),SizeOf.sizeOf t<k->VV gl t
 | 0,f,h=>by omega
 | k+1,.mk o n us sub,h=>xJt gl o n us sub (λa ha=>zWx k a (by
   have:=lSm ha;simp at h;omega))
theorem wKv (t:Fm):VV gl t:=zWx gl _ t (Nat.lt_succ_self _)
def wZo (f:Fm)(k:Nat)(a:List IV):Prop:=∃z x,(yZg f)[k]?=some z/\IsFm z x/\a=[x]
theorem xW0 (f:Fm)(x:IV)(hx:IsFm f x)(I:Nat->ISt->Prop):IterC prog gl 137 [] [.cptr x] (wZo f) (yZg f).length I:=by
 have hx0:=hx;obtain⟨o,n,us,sub⟩:=f;obtain⟨t1,x1,t2,x2,rfl,_⟩:=hx.mk;rintro y I' S' st ⟨g,fi,ca,rfl,hfn,hent⟩ _ hy h0;change ICall prog gl _ [.fn g fi ca,_] st _;refine iI func137 ?_;simp only[go_sem,zE,zA,reduceCtorEq,fits];refine (wKv gl _ _ hx0 g fi ca hfn hent I' S' 0 ?_ st h0).mono ?_
 ·intro i z x stu hi hz hI;rw[Nat.zero_add] at hI ⊢;exact hy i [x] stu ⟨z,x,hi,hz,rfl⟩ hI
 ·rintro _ st' h;simp only[go_sem];refine yQ0 ?_;rw[Nat.zero_add] at h;exact h.imp And.right And.right
theorem wJb (x:IV)(st:ISt)(f:Fm)(hx:IsFm f x):ICall prog gl 113 [x] st (λr st'=>r=.fn (.func 137) [] [.cptr x]/\st'=st):=by
 obtain⟨o,n,us,sub⟩:=f;obtain⟨t1,x1,t2,x2,rfl,_⟩:=hx.mk;refine ICall.intro (c:=cf prog gl [] [] [1]) func113 rfl (by show _<=4;simp) (by kernel_rfl) ?_;simp only[go_sem,zE];exact yQ0 ⟨rfl,rfl⟩
def xKh:Fm->Nat
 | .mk _ _ us _=>yQg us+1
def sumW:List Fm->Nat
 | []=>0
 | a::l=>xKh a+sumW l
theorem yVe:∀(l m:List Fm),sumW (l++m)=sumW l+sumW m
 | [],m=>by simp[sumW]
 | a::l,m=>by simp only[List.cons_append,sumW,yVe l m];omega
mutual
theorem zJs:∀f:Fm,sumW (yZg f)=f.size
 | .mk o n us sub=>by simp only[yZg,sumW,xKh,Fm.size,zZh sub];omega
theorem zZh:∀l:List Fm,sumW (yQy l)=yQb l
 | []=>rfl
 | a::l=>by simp only[yQy,yVe,yQb,zJs a,zZh l]
end
theorem xWf {l:List Fm}{k:Nat}{a:Fm}(h:l[k]?=some a):sumW (l.take (k+1))=sumW (l.take k)+xKh a/\sumW (l.take k)+xKh a<=sumW l:=by
 have h1:sumW (l.take (k+1))=sumW (l.take k)+xKh a:=by rw[yQ7 h,yVe];simp[sumW]
 refine⟨h1,?_⟩;rw[<- h1]
 conv=>rhs;rw[<- List.take_append_drop (k+1) l,yVe]
 omega
theorem wY0 (f:Fm)(x:IV)(hx:IsFm f x)(hs:f.size<=4611686018427387904)(st:ISt) :
  ICall prog gl 281 [x,bigI] st (λr st'=>r=.raw (.int .i64 f.size)/\st'=st):=by
 have hx0:=hx;rw[<- zJs f] at hs ⊢;have hwalk:=λst=>wJb gl x st f hx0;have hiter:=xW0 gl f x hx0;generalize hfw:yZg f=l at hs hiter ⊢;have hX:∀k a,wZo f k a->∃z x,l[k]?=some z/\IsFm z x/\a=[x]:=λk a h=>by rw[<- hfw];exact h
 generalize wZo f=X at hiter hX;obtain⟨o,n,us,sub⟩:=f;obtain⟨t1,x1,t2,x2,rfl,_⟩:=hx.mk;refine ICall.intro (c:=cf prog gl [5] [] [3]) func281 rfl (by show _<=20;simp) (by kernel_rfl) ?_;simp only[go_sem,zE,zA,zL,bigI];refine λb=>yQ9 λhb=>?_;refine (hwalk _).mono ?_;rintro _ _ ⟨rfl,rfl⟩;simp only[go_sem,reduceCtorEq];refine RangeC.intro X l.length (λk st'=>st'=st.put b (cBox ((sumW (l.take k):Nat):Int))) (λ_ _=>False) rfl ?_ ?_ ?_ (hiter _) ?_ (λ_ _ _ h=>h.elim)
 ·intro k a ha;obtain⟨z,x,_,_,rfl⟩:=hX k a ha;rfl
 ·rw[yQ8];rfl
 ·rintro k a _ hk rfl;obtain⟨z,x,hz,hzx,rfl⟩:=hX k a hk;obtain⟨h1,h2⟩:=xWf hz;obtain⟨o2,n2,u2,s2⟩:=z;obtain⟨t3,x3,t4,x4,rfl,_,ht3,hx3,_⟩:=hzx.mk;simp only[xKh] at h1 h2;have hw:IntKind.i64.wrap (((sumW (l.take k):Nat):Int)+1)=((sumW (l.take k)+1:Nat):Int):=by rw[w64]<;>omega
  simp only[go_sem,zE,zA,zL,ISt.put_same,cBox,hw];refine (zWy gl u2 t3 x3 ht3 hx3 b _ (sumW (l.take k)+1) (ISt.put_same _ _ _) (by omega)).mono ?_;rintro _ _ ⟨rfl,rfl⟩;have hgt:decide ((9223372036854775807:Int)<((sumW (l.take k)+1+yQg u2:Nat):Int))=false:=by simp;omega
  simp only[go_sem,zE,ISt.put_same,cBox,fits,hgt];rw[yQ8,yQ8,h1,show sumW (l.take k)+(yQg u2+1)=sumW (l.take k)+1+yQg u2 by omega]
 ·rintro _ r rfl;simp only[go_sem,zE,ISt.put_same,cBox];rw[lTl];exact yQs (yQp hb) ⟨rfl,rfl⟩
theorem wYd (f:Fm)(x:IV)(hx:IsFm f x)(hs:f.size<=4611686018427387904)(st:ISt) :
  ICall prog gl 265 [x] st (λr st'=>r=.raw (.int .i64 f.size)/\st'=st):=by
 have hcall:=λst=>wY0 gl f x hx hs st;generalize f.size=z at hcall ⊢;obtain⟨o,n,us,sub⟩:=f;obtain⟨t1,x1,t2,x2,rfl,_⟩:=hx.mk;refine iI func265 ?_;simp only[go_sem,zE,zA,zL];refine (hcall _).mono ?_;rintro _ _ ⟨rfl,rfl⟩;simp only[go_sem];exact yQ0 ⟨rfl,rfl⟩
