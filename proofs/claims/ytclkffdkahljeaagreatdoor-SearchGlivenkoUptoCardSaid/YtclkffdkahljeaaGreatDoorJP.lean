/- Walks: depths. -/
import Derived.Test.YtclkffdkahljeaaGreatDoorJO
set_option linter.all false
open Nat renaming reduceEqDiff → zE,reduceAdd → zA,reduceLeDiff → zL
namespace Go.Proofs.Tryz
open Go Go.Iv
set_option maxRecDepth 4000
variable (gl:Nat->Option IV)
theorem zG4 {l:List Tm}{k:Nat}{a:Tm}(h:l[k]?=some a):yQs (l.take (k+1))=max (yQs (l.take k)) a.deep/\a.deep<=yQs l:=by
 have h1:yQs (l.take (k+1))=max (yQs (l.take k)) a.deep:=by rw[yQ7 h,yKs];simp[yQs]
 refine⟨h1,?_⟩;have:yQs l=max (yQs (l.take (k+1))) (yQs (l.drop (k+1))):=by conv=>lhs;rw[<- List.take_append_drop (k+1) l,yKs]
 omega
theorem zG5 {l:List Fm}{k:Nat}{a:Fm}(h:l[k]?=some a):yZ2 (l.take (k+1))=max (yZ2 (l.take k)) a.deep/\a.deep<=yZ2 l:=by
 have h1:yZ2 (l.take (k+1))=max (yZ2 (l.take k)) a.deep:=by rw[yQ7 h,yKt];simp[yZ2]
 refine⟨h1,?_⟩;have:yZ2 l=max (yZ2 (l.take (k+1))) (yZ2 (l.drop (k+1))):=by conv=>lhs;rw[<- List.take_append_drop (k+1) l,yKt]
 omega
def TD (us:List Tm):Prop:=∀(t:Tag) (xs:List IV) (_:okEs t 3) (_:IsTms us xs) (_:yQs us<=4611686018427387904) (st:ISt),
 ICall prog gl 282 [.sl t xs] st (λr st'=>r=.raw (.int .i64 (yQs us))/\st'=st)
theorem zZd (us:List Tm)(IH:∀v n m,Tm.mk v n m∈us->TD gl m):TD gl us:=by
 intro tg xs htg hxs hd st;refine iI func282 ?_;simp only[go_sem,reduceCtorEq,hxs.len];intro hlen;refine LoopC.ctr us.length (λk fr st' ds=>fr 3=.iv (.raw (.int .i64 (yQs (us.take k))))/\fr 6=.iv (.sl tg xs)/\fr 7=.iv (.raw (.int .i64 us.length))/\fr 8=.iv (.raw (.int .i64 k))/\st'=st/\ds=[]) ?_ ?_ ?_
 ·simp only[go_sem,zE];simp[yQs]
 ·rintro k fr _ _ hlt ⟨f3,f6,f7,f8,rfl,rfl⟩;obtain⟨a,ha⟩:=yQ3 hlt;obtain⟨x,hkx,hx⟩:=hxs.get ha;obtain⟨h1,h2⟩:=zG4 ha;obtain⟨v2,n2,m⟩:=a;obtain⟨tx,cx,rfl,htx,hcx⟩:=hx.mk;simp only[Tm.deep] at h1 h2;simp only[go_sem,zE,zA,zL,f3,f6,f7,f8,lt_i hlt,yQ4 htg,iNn,hkx];refine (IH _ _ _ (lMg ha) tx cx htx hcx (by omega) _).mono ?_;rintro _ _ ⟨rfl,rfl⟩;have hw:IntKind.i64.wrap (((yQs m:Nat):Int)+1)=((yQs m+1:Nat):Int):=by rw[w64]<;>omega
  have hm:max ((yQs (us.take k):Nat):Int) ((yQs m+1:Nat):Int)=((yQs (us.take (k+1)):Nat):Int):=by rw[h1];omega
  simp only[go_sem,zE,f6,f7,f8,yQf hlt (show us.length<=281474976710656 by omega),hw,hm]
 ·rintro fr _ _ ⟨f3,f6,f7,f8,rfl,rfl⟩;simp only[go_sem,zE,f3,f7,f8,yQo (nLi _)];rw[lTl];exact yQ0 ⟨rfl,rfl⟩
theorem yYk:∀(k:Nat)(us:List Tm),SizeOf.sizeOf us<k->TD gl us
 | 0,f,h=>by omega
 | k+1,us,h=>zZd gl us (λv n m ha=>yYk k m (by
   have:=lSm ha;simp at this;omega))
theorem zWv (us:List Tm):TD gl us:=yYk gl _ us (Nat.lt_succ_self _)
def DF (f:Fm):Prop:=∀(x:IV) (_:IsFm f x) (_:f.deep<=4611686018427387904) (st:ISt),
 ICall prog gl 266 [x] st (λr st'=>r=.raw (.int .i64 f.deep)/\st'=st)
theorem xVp (op:Nat)(n:ByteArray)(us:List Tm)(sub:List Fm)(IH:∀a∈sub,DF gl a):DF gl (.mk op n us sub):=by
 intro x hx hd st;obtain⟨tg,xs,tg',ys,rfl,hop,htg,hxs,htg',hys⟩:=hx.mk;simp only[Fm.deep] at hd ⊢;refine iI func266 ?_;simp only[go_sem,zE,zA];refine (zWv gl us tg xs htg hxs (by omega) _).mono ?_;rintro _ st ⟨rfl,rfl⟩;simp only[go_sem,zE,hys.len];intro hlen;refine LoopC.ctr sub.length (λk fr st' ds=>fr 3=.iv (.raw (.int .i64 (max (yQs us) (yZ2 (sub.take k)):Nat)))/\fr 10=.iv (.sl tg' ys)/\fr 11=.iv (.raw (.int .i64 sub.length))/\fr 12=.iv (.raw (.int .i64 k))/\st'=st/\ds=[]) ?_ ?_ ?_
 ·simp only[go_sem,zE];simp[yZ2]
 ·rintro k fr st _ hlt ⟨f3,f10,f11,f12,rfl,rfl⟩;obtain⟨a,ha⟩:=yQ3 hlt;obtain⟨x,hkx,hx⟩:=hys.get ha;obtain⟨h1,h2⟩:=zG5 ha;have hcall:=IH a (lMg ha) x hx (by omega) st;have hm:max ((max (yQs us) (yZ2 (sub.take k)):Nat):Int) ((a.deep:Nat):Int)=((max (yQs us) (yZ2 (sub.take (k+1))):Nat):Int):=by rw[h1];omega
  obtain⟨o2,n2,u2,s2⟩:=a;obtain⟨t3,x3,t4,x4,rfl,_⟩:=hx.mk;simp only[go_sem,zE,zA,zL,f3,f10,f11,f12,lt_i hlt,yQ4 htg',iNn,hkx];refine hcall.mono ?_;rintro _ _ ⟨rfl,rfl⟩;simp only[go_sem,zE,f10,f11,f12,yQf hlt (show sub.length<=281474976710656 by omega),hm]
 ·rintro fr _ _ ⟨f3,f10,f11,f12,rfl,rfl⟩;have hw:IntKind.i64.wrap (((max (yQs us) (yZ2 sub):Nat):Int)+1)=((max (yQs us) (yZ2 sub)+1:Nat):Int):=by rw[w64]<;>omega
  rw[lTl] at f3;simp only[go_sem,zE,f3,f11,f12,yQo (nLi _),hw];exact yQ0 ⟨rfl,rfl⟩
theorem zGo:∀(k:Nat)(t:Fm),SizeOf.sizeOf t<k->DF gl t
 | 0,f,h=>by omega
 | k+1,.mk o n us sub,h=>xVp gl o n us sub (λa ha=>zGo k a (by
   have:=lSm ha;simp at h;omega))
theorem wWm (t:Fm):DF gl t:=zGo gl _ t (Nat.lt_succ_self _)
def cBox (n:Int):Option IObj:=some (.box [.raw (.int .i64 n)])
def bigI:IV:=.raw (.int .i64 9223372036854775807)
def xVe (b:Nat):IV:=.fn (.func 298) [] [.raw (.pointer (some ⟨b,0,none⟩)),.cptr bigI]
theorem wZw (v:Bool)(n:ByteArray)(us:List Tm)(x:IV)(hx:IsTm (.mk v n us) x)(b:Nat)(st:ISt)(c:Nat)(hb:st b=cBox c)(hc:c+1<=4611686018427387904) :
  ICall prog gl 298 [x,.raw (.pointer (some ⟨b,0,none⟩)),.cptr bigI] st (λr st'=>r=.raw (.bool true)/\st'=st.put b (cBox ((c+1:Nat):Int))):=by
 obtain⟨tx,cx,rfl,_⟩:=hx.mk;refine iI func298 ?_;have hw:IntKind.i64.wrap (((c:Nat):Int)+1)=((c+1:Nat):Int):=by rw[w64]<;>omega
 have hle:decide (((c+1:Nat):Int)<=9223372036854775807)=true:=by simp;omega
 simp only[go_sem,zE,zL,hb,cBox,bigI,hw,ISt.put_same,hle];exact yQ0 ⟨rfl,rfl⟩
def CN (us:List Tm):Prop:=∀(t:Tag) (xs:List IV) (_:okEs t 3) (_:IsTms us xs) (b:Nat) (st:ISt) (c:Nat) (_:st b=cBox c) (_:c+yQe us<=4611686018427387904),
 ICall prog gl 297 [.sl t xs,xVe b] st (λr st'=>r=.raw (.bool true)/\st'=st.put b (cBox ((c+yQe us:Nat):Int)))
theorem zZ8 (us:List Tm)(IH:∀v n m,Tm.mk v n m∈us->CN gl m):CN gl us:=by
 intro tg xs htg hxs b st c hb hc;refine iI func297 ?_;simp only[go_sem,reduceCtorEq,hxs.len,xVe];intro hlen;refine LoopC.ctr us.length (λk fr st' ds=>st'=st.put b (cBox ((c+yQe (us.take k):Nat):Int))/\fr 1=.iv (xVe b)/\fr 7=.iv (.sl tg xs)/\fr 8=.iv (.raw (.int .i64 us.length))/\fr 9=.iv (.raw (.int .i64 k))/\ds=[]) ?_ ?_ ?_
 ·simp only[go_sem,zE,xVe];simp only[yQe,Nat.add_zero];exact⟨(yXg hb).symm,rfl⟩
 ·rintro k fr _ _ hlt ⟨rfl,f1,f7,f8,f9,rfl⟩;obtain⟨a,ha⟩:=yQ3 hlt;obtain⟨x,hkx,hx⟩:=hxs.get ha;obtain⟨h1,h2⟩:=yXj ha;obtain⟨v2,n2,m⟩:=a;have hcall:=λst c=>wZw gl v2 n2 m x hx b st c;obtain⟨tx,cx,rfl,htx,hcx⟩:=hx.mk;simp only[Tm.size] at h1 h2;simp only[go_sem,zE,zA,zL,f1,f7,f8,f9,lt_i hlt,yQ4 htg,iNn,hkx,xVe];refine (hcall _ _ (ISt.put_same _ _ _) (by omega)).mono ?_;rintro _ _ ⟨rfl,rfl⟩;simp only[go_sem,zE,zA,f1,xVe];refine (IH _ _ _ (lMg ha) tx cx htx hcx b _ (c+yQe (us.take k)+1) (ISt.put_same _ _ _) (by omega)).mono ?_;rintro _ _ ⟨rfl,rfl⟩;simp only[go_sem,zE,f1,f7,f8,f9,yQf hlt (show us.length<=281474976710656 by omega)];simp only[yQ8];rw[h1,show c+yQe (us.take k)+1+yQe m=c+(yQe (us.take k)+(yQe m+1)) by omega];exact⟨rfl,rfl⟩
 ·rintro fr _ _ ⟨rfl,f1,f7,f8,f9,rfl⟩;simp only[go_sem,f8,f9,yQo (nLi _)];rw[lTl];exact yQ0 ⟨rfl,rfl⟩
theorem yYj:∀(k:Nat)(us:List Tm),SizeOf.sizeOf us<k->CN gl us
 | 0,f,h=>by omega
 | k+1,us,h=>zZ8 gl us (λv n m ha=>yYj k m (by
   have:=lSm ha;simp at this;omega))
theorem zWr (us:List Tm):CN gl us:=yYj gl _ us (Nat.lt_succ_self _)
mutual
def yZg:Fm->List Fm
 | .mk o n us sub=>.mk o n us sub::yQx sub
def yQx:List Fm->List Fm
 | []=>[]
 | a::l=>yZg a++yQx l
end
theorem yJz:∀(l m:List Fm),yQx (l++m)=yQx l++yQx m
 | [],m=>by simp[yQx]
 | a::l,m=>by simp only[List.cons_append,yQx,yJz l m,List.append_assoc]
def FOk (y:IV)(I:Nat->ISt->Prop)(S:ISt->Prop)(k0:Nat)(l:List Fm):Prop :=
 ∀i z x stu,l[i]?=some z->IsFm z x->I (k0+i) stu->ICallV prog gl y [x] stu (zGr I S (k0+i+1))
theorem FOk.left {y:IV}{I:Nat->ISt->Prop}{S:ISt->Prop}{k0:Nat}{l m:List Fm}(h:FOk gl y I S k0 (l++m)):FOk gl y I S k0 l:=λi z x stu hi hx hI =>
 h i z x stu (by rw[List.getElem?_append_left (lGs hi).1];exact hi) hx hI
theorem FOk.right {y:IV}{I:Nat->ISt->Prop}{S:ISt->Prop}{k0:Nat}{l m:List Fm}(h:FOk gl y I S k0 (l++m)):FOk gl y I S (k0+l.length) m:=λi z x stu hi hx hI=>by
 have:=h (l.length+i) z x stu (by rw[List.getElem?_append_right (by omega)];simpa using hi) hx (by rw[<- Nat.add_assoc];exact hI);simpa only[Nat.add_assoc] using this
theorem FOk.head {y:IV}{I:Nat->ISt->Prop}{S:ISt->Prop}{k0:Nat}{z:Fm}{m:List Fm}(h:FOk gl y I S k0 (z::m)){x:IV}(hx:IsFm z x){st:ISt}(hI:I k0 st):ICallV prog gl y [x] st (zGr I S (k0+1)):=h 0 z x st rfl hx hI
theorem FOk.tail {y:IV}{I:Nat->ISt->Prop}{S:ISt->Prop}{k0:Nat}{z:Fm}{m:List Fm}(h:FOk gl y I S k0 (z::m)):FOk gl y I S (k0+1) m:=FOk.right gl (l:=[z]) h
def VV (f:Fm):Prop:=∀(x:IV) (_:IsFm f x) (g:Fn) (fi ca:List IV) (_:fnOk g=true) (_:∀i,g=.func i->entI prog i=true) (I:Nat->ISt->Prop) (S:ISt->Prop) (k0:Nat) (_:FOk gl (.fn g fi ca) I S k0 (yZg f)) (st:ISt) (_:I k0 st),
  ICall prog gl 138 [x,.fn g fi ca] st (zGr I S (k0+(yZg f).length))
theorem xJt (op:Nat)(n:ByteArray)(us:List Tm)(sub:List Fm)(IH:∀a∈sub,VV gl a):VV gl (.mk op n us sub):=by
 intro x hx g fi ca hfn hent I S k0 hy st hI;have hx0:=hx;obtain⟨tg,xs,tg',ys,rfl,hop,htg,hxs,htg',hys⟩:=hx.mk;simp only[yZg] at hy ⊢;have hhead:=FOk.head gl hy hx0 hI;have hy':=FOk.tail gl hy;refine iI func138 ?_;simp only[go_sem,zE,zA,zL];refine yZd hent (hhead.mono ?_);rintro _ st (⟨rfl,h⟩|⟨rfl,h⟩)
 ·simp only[go_sem,zE,hys.len];intro hlen;refine LoopC.ctr sub.length (λk fr st ds=>I (k0+1+(yQx (sub.take k)).length) st/\fr 1=.iv (.fn g fi ca)/\fr 12=.iv (.sl tg' ys)/\fr 13=.iv (.raw (.int .i64 sub.length))/\fr 14=.iv (.raw (.int .i64 k))/\ds=[]) ?_ ?_ ?_
  ·simp only[go_sem,zE];exact⟨by simpa[yQx] using h,rfl⟩
  ·rintro k fr st _ hlt ⟨hst,f1,f12,f13,f14,rfl⟩;obtain⟨a,ha⟩:=yQ3 hlt;obtain⟨x,hkx,hx⟩:=hys.get ha;have hsplit:yQx sub=yQx (sub.take k)++(yZg a++yQx (sub.drop (k+1))):=by
    conv=>lhs;rw[<- List.take_append_drop k sub,List.drop_eq_getElem_cons hlt]
    rw[yJz,(lGs ha).2];rfl
   have hya:=hy';rw[hsplit] at hya;have hcall:=IH a (lMg ha) x hx g fi ca hfn hent I S _ (FOk.left gl (FOk.right gl hya)) st hst;obtain⟨o2,n2,u2,s2⟩:=a;obtain⟨t3,x3,t4,x4,rfl,_⟩:=hx.mk;simp only[go_sem,zE,zA,zL,f1,f12,f13,f14,lt_i hlt,yQ4 htg',iNn,hkx];refine hcall.mono ?_;rintro _ st (⟨rfl,h⟩|⟨rfl,h⟩)
   ·simp only[go_sem,zE,f1,f12,f13,f14,yQf hlt (show sub.length<=281474976710656 by omega)];rw[yQ7 ha,yJz,lLa,<- Nat.add_assoc];simpa[yQx] using h
   ·simp only[go_sem];exact yQ0 (.inr ⟨rfl,h⟩)
  ·rintro fr st _ ⟨hst,f1,f12,f13,f14,rfl⟩;simp only[go_sem,f13,f14,yQo (nLi _)];rw[lTl] at hst;refine yQ0 (.inl ⟨rfl,?_⟩);rw[show k0+((yQx sub).length+1)=k0+1+(yQx sub).length by omega];exact hst
 ·simp only[go_sem];exact yQ0 (.inr ⟨rfl,h⟩)
theorem zWq:∀(k:Nat)(t:Fm),SizeOf.sizeOf t<k->VV gl t
 | 0,f,h=>by omega
 | k+1,.mk o n us sub,h=>xJt gl o n us sub (λa ha=>zWq k a (by
   have:=lSm ha;simp at h;omega))
theorem wK3 (t:Fm):VV gl t:=zWq gl _ t (Nat.lt_succ_self _)
def wQy (f:Fm)(k:Nat)(a:List IV):Prop:=∃z x,(yZg f)[k]?=some z/\IsFm z x/\a=[x]
theorem xVv (f:Fm)(x:IV)(hx:IsFm f x)(I:Nat->ISt->Prop):IterC prog gl 137 [] [.cptr x] (wQy f) (yZg f).length I:=by
 have hx0:=hx;obtain⟨o,n,us,sub⟩:=f;obtain⟨t1,x1,t2,x2,rfl,_⟩:=hx.mk;rintro y I' S' st ⟨g,fi,ca,rfl,hfn,hent⟩ _ hy h0;change ICall prog gl _ [.fn g fi ca,_] st _;refine iI func137 ?_;simp only[go_sem,zE,zA,reduceCtorEq,fits];refine (wK3 gl _ _ hx0 g fi ca hfn hent I' S' 0 ?_ st h0).mono ?_
 ·intro i z x stu hi hz hI;rw[Nat.zero_add] at hI ⊢;exact hy i [x] stu ⟨z,x,hi,hz,rfl⟩ hI
 ·rintro _ st' h;simp only[go_sem];refine yQ0 ?_;rw[Nat.zero_add] at h;exact h.imp And.right And.right
theorem wXk (x:IV)(st:ISt)(f:Fm)(hx:IsFm f x):ICall prog gl 113 [x] st (λr st'=>r=.fn (.func 137) [] [.cptr x]/\st'=st):=by
 obtain⟨o,n,us,sub⟩:=f;obtain⟨t1,x1,t2,x2,rfl,_⟩:=hx.mk;refine ICall.intro (c:=cf prog gl [] [] [1]) func113 rfl (by show _<=4;simp) (by kernel_rfl) ?_;simp only[go_sem,zE];exact yQ0 ⟨rfl,rfl⟩
def xKf:Fm->Nat
 | .mk _ _ us _=>yQe us+1
def sumW:List Fm->Nat
 | []=>0
 | a::l=>xKf a+sumW l
theorem yVc:∀(l m:List Fm),sumW (l++m)=sumW l+sumW m
 | [],m=>by simp[sumW]
 | a::l,m=>by simp only[List.cons_append,sumW,yVc l m];omega
mutual
theorem zJn:∀f:Fm,sumW (yZg f)=f.size
 | .mk o n us sub=>by simp only[yZg,sumW,xKf,Fm.size,zZe sub];omega
theorem zZe:∀l:List Fm,sumW (yQx l)=yQb l
 | []=>rfl
 | a::l=>by simp only[yQx,yVc,yQb,zJn a,zZe l]
end
theorem xWa {l:List Fm}{k:Nat}{a:Fm}(h:l[k]?=some a):sumW (l.take (k+1))=sumW (l.take k)+xKf a/\sumW (l.take k)+xKf a<=sumW l:=by
 have h1:sumW (l.take (k+1))=sumW (l.take k)+xKf a:=by rw[yQ7 h,yVc];simp[sumW]
 refine⟨h1,?_⟩;rw[<- h1]
 conv=>rhs;rw[<- List.take_append_drop (k+1) l,yVc]
 omega
theorem wW3 (f:Fm)(x:IV)(hx:IsFm f x)(hs:f.size<=4611686018427387904)(st:ISt) :
  ICall prog gl 281 [x,bigI] st (λr st'=>r=.raw (.int .i64 f.size)/\st'=st):=by
 have hx0:=hx;rw[<- zJn f] at hs ⊢;have hwalk:=λst=>wXk gl x st f hx0;have hiter:=xVv gl f x hx0;generalize hfw:yZg f=l at hs hiter ⊢;have hX:∀k a,wQy f k a->∃z x,l[k]?=some z/\IsFm z x/\a=[x]:=λk a h=>by rw[<- hfw];exact h
 generalize wQy f=X at hiter hX;obtain⟨o,n,us,sub⟩:=f;obtain⟨t1,x1,t2,x2,rfl,_⟩:=hx.mk;refine ICall.intro (c:=cf prog gl [5] [] [3]) func281 rfl (by show _<=20;simp) (by kernel_rfl) ?_;simp only[go_sem,zE,zA,zL,bigI];refine λb=>yQ9 λhb=>?_;refine (hwalk _).mono ?_;rintro _ _ ⟨rfl,rfl⟩;simp only[go_sem,reduceCtorEq];refine RangeC.intro X l.length (λk st'=>st'=st.put b (cBox ((sumW (l.take k):Nat):Int))) (λ_ _=>False) rfl ?_ ?_ ?_ (hiter _) ?_ (λ_ _ _ h=>h.elim)
 ·intro k a ha;obtain⟨z,x,_,_,rfl⟩:=hX k a ha;rfl
 ·rw[yQ8];rfl
 ·rintro k a _ hk rfl;obtain⟨z,x,hz,hzx,rfl⟩:=hX k a hk;obtain⟨h1,h2⟩:=xWa hz;obtain⟨o2,n2,u2,s2⟩:=z;obtain⟨t3,x3,t4,x4,rfl,_,ht3,hx3,_⟩:=hzx.mk;simp only[xKf] at h1 h2;have hw:IntKind.i64.wrap (((sumW (l.take k):Nat):Int)+1)=((sumW (l.take k)+1:Nat):Int):=by rw[w64]<;>omega
  simp only[go_sem,zE,zA,zL,ISt.put_same,cBox,hw];refine (zWr gl u2 t3 x3 ht3 hx3 b _ (sumW (l.take k)+1) (ISt.put_same _ _ _) (by omega)).mono ?_;rintro _ _ ⟨rfl,rfl⟩;have hgt:decide ((9223372036854775807:Int)<((sumW (l.take k)+1+yQe u2:Nat):Int))=false:=by simp;omega
  simp only[go_sem,zE,ISt.put_same,cBox,fits,hgt];rw[yQ8,yQ8,h1,show sumW (l.take k)+(yQe u2+1)=sumW (l.take k)+1+yQe u2 by omega]
 ·rintro _ r rfl;simp only[go_sem,zE,ISt.put_same,cBox];rw[lTl];exact yQt (yQn hb) ⟨rfl,rfl⟩
theorem wWf (f:Fm)(x:IV)(hx:IsFm f x)(hs:f.size<=4611686018427387904)(st:ISt) :
  ICall prog gl 265 [x] st (λr st'=>r=.raw (.int .i64 f.size)/\st'=st):=by
 have hcall:=λst=>wW3 gl f x hx hs st;generalize f.size=z at hcall ⊢;obtain⟨o,n,us,sub⟩:=f;obtain⟨t1,x1,t2,x2,rfl,_⟩:=hx.mk;refine iI func265 ?_;simp only[go_sem,zE,zA,zL];refine (hcall _).mono ?_;rintro _ _ ⟨rfl,rfl⟩;simp only[go_sem];exact yQ0 ⟨rfl,rfl⟩
