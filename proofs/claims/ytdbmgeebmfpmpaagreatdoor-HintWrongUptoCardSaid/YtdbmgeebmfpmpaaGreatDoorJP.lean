/- Walks: depths. -/
import Derived.Test.YtdbmgeebmfpmpaaGreatDoorJO
set_option linter.all false
open Nat renaming reduceEqDiff → zE,reduceAdd → zA,reduceLeDiff → zL
namespace Go.Proofs.Tryz
open Go Go.Iv
set_option maxRecDepth 4000
variable (gl:Nat->Option IV)
theorem xZ2 {l:List Tm}{k:Nat}{a:Tm}(h:l[k]?=some a):yQu (l.take (k+1))=max (yQu (l.take k)) a.deep/\a.deep<=yQu l:=by
 have h1:yQu (l.take (k+1))=max (yQu (l.take k)) a.deep:=by rw[yQ8 h,yVp];simp[yQu]
 refine⟨h1,?_⟩;have:yQu l=max (yQu (l.take (k+1))) (yQu (l.drop (k+1))):=by conv=>lhs;rw[<- List.take_append_drop (k+1) l,yVp]
 omega
theorem xZ3 {l:List Fm}{k:Nat}{a:Fm}(h:l[k]?=some a):yZ5 (l.take (k+1))=max (yZ5 (l.take k)) a.deep/\a.deep<=yZ5 l:=by
 have h1:yZ5 (l.take (k+1))=max (yZ5 (l.take k)) a.deep:=by rw[yQ8 h,yVq];simp[yZ5]
 refine⟨h1,?_⟩;have:yZ5 l=max (yZ5 (l.take (k+1))) (yZ5 (l.drop (k+1))):=by conv=>lhs;rw[<- List.take_append_drop (k+1) l,yVq]
 omega
def TD (us:List Tm):Prop:=∀(t:Tag) (xs:List IV) (_:okEs t 3) (_:IsTms us xs) (_:yQu us<=4611686018427387904) (st:ISt),
 ICall prog gl 252 [.sl t xs] st (λr st'=>r=.raw (.int .i64 (yQu us))/\st'=st)
theorem zJ4 (us:List Tm)(IH:∀v n m,Tm.mk v n m∈us->TD gl m):TD gl us:=by
 intro tg xs htg hxs hd st;refine iI func252 ?_;simp only[go_sem,reduceCtorEq,hxs.len];intro hlen;refine LoopC.ctr us.length (λk fr st' ds=>fr 3=.iv (.raw (.int .i64 (yQu (us.take k))))/\fr 6=.iv (.sl tg xs)/\fr 7=.iv (.raw (.int .i64 us.length))/\fr 8=.iv (.raw (.int .i64 k))/\st'=st/\ds=[]) ?_ ?_ ?_
 ·simp only[go_sem,zE];simp[yQu]
 ·rintro k fr _ _ hlt ⟨f3,f6,f7,f8,rfl,rfl⟩;obtain⟨a,ha⟩:=yQ1 hlt;obtain⟨x,hkx,hx⟩:=hxs.get ha;obtain⟨h1,h2⟩:=xZ2 ha;obtain⟨v2,n2,m⟩:=a;obtain⟨tx,cx,rfl,htx,hcx⟩:=hx.mk;simp only[Tm.deep] at h1 h2;simp only[go_sem,zE,zA,zL,f3,f6,f7,f8,lt_i hlt,yQ4 htg,iNn,hkx];refine (IH _ _ _ (lMg ha) tx cx htx hcx (by omega) _).mono ?_;rintro _ _ ⟨rfl,rfl⟩;have hw:IntKind.i64.wrap (((yQu m:Nat):Int)+1)=((yQu m+1:Nat):Int):=by rw[w64]<;>omega
  have hm:max ((yQu (us.take k):Nat):Int) ((yQu m+1:Nat):Int)=((yQu (us.take (k+1)):Nat):Int):=by rw[h1];omega
  simp only[go_sem,zE,f6,f7,f8,yQd hlt (show us.length<=281474976710656 by omega),hw,hm]
 ·rintro fr _ _ ⟨f3,f6,f7,f8,rfl,rfl⟩;simp only[go_sem,zE,f3,f7,f8,yQl (nLi _)];rw[lTl];exact yQ0 ⟨rfl,rfl⟩
theorem yGp:∀(k:Nat)(us:List Tm),SizeOf.sizeOf us<k->TD gl us
 | 0,f,h=>by omega
 | k+1,us,h=>zJ4 gl us (λv n m ha=>yGp k m (by
   have:=lSm ha;simp at this;omega))
theorem zUe (us:List Tm):TD gl us:=yGp gl _ us (Nat.lt_succ_self _)
def DF (f:Fm):Prop:=∀(x:IV) (_:IsFm f x) (_:f.deep<=4611686018427387904) (st:ISt),
 ICall prog gl 223 [x] st (λr st'=>r=.raw (.int .i64 f.deep)/\st'=st)
theorem xUj (op:Nat)(n:ByteArray)(us:List Tm)(sub:List Fm)(IH:∀a∈sub,DF gl a):DF gl (.mk op n us sub):=by
 intro x hx hd st;obtain⟨tg,xs,tg',ys,rfl,hop,htg,hxs,htg',hys⟩:=hx.mk;simp only[Fm.deep] at hd ⊢;refine iI func223 ?_;simp only[go_sem,zE,zA];refine (zUe gl us tg xs htg hxs (by omega) _).mono ?_;rintro _ st ⟨rfl,rfl⟩;simp only[go_sem,zE,hys.len];intro hlen;refine LoopC.ctr sub.length (λk fr st' ds=>fr 3=.iv (.raw (.int .i64 (max (yQu us) (yZ5 (sub.take k)):Nat)))/\fr 10=.iv (.sl tg' ys)/\fr 11=.iv (.raw (.int .i64 sub.length))/\fr 12=.iv (.raw (.int .i64 k))/\st'=st/\ds=[]) ?_ ?_ ?_
 ·simp only[go_sem,zE];simp[yZ5]
 ·rintro k fr st _ hlt ⟨f3,f10,f11,f12,rfl,rfl⟩;obtain⟨a,ha⟩:=yQ1 hlt;obtain⟨x,hkx,hx⟩:=hys.get ha;obtain⟨h1,h2⟩:=xZ3 ha;have hcall:=IH a (lMg ha) x hx (by omega) st;have hm:max ((max (yQu us) (yZ5 (sub.take k)):Nat):Int) ((a.deep:Nat):Int)=((max (yQu us) (yZ5 (sub.take (k+1))):Nat):Int):=by rw[h1];omega
  obtain⟨o2,n2,u2,s2⟩:=a;obtain⟨t3,x3,t4,x4,rfl,_⟩:=hx.mk;simp only[go_sem,zE,zA,zL,f3,f10,f11,f12,lt_i hlt,yQ4 htg',iNn,hkx];refine hcall.mono ?_;rintro _ _ ⟨rfl,rfl⟩;simp only[go_sem,zE,f10,f11,f12,yQd hlt (show sub.length<=281474976710656 by omega),hm]
 ·rintro fr _ _ ⟨f3,f10,f11,f12,rfl,rfl⟩;have hw:IntKind.i64.wrap (((max (yQu us) (yZ5 sub):Nat):Int)+1)=((max (yQu us) (yZ5 sub)+1:Nat):Int):=by rw[w64]<;>omega
  rw[lTl] at f3;simp only[go_sem,zE,f3,f11,f12,yQl (nLi _),hw];exact yQ0 ⟨rfl,rfl⟩
theorem xZl:∀(k:Nat)(t:Fm),SizeOf.sizeOf t<k->DF gl t
 | 0,f,h=>by omega
 | k+1,.mk o n us sub,h=>xUj gl o n us sub (λa ha=>xZl k a (by
   have:=lSm ha;simp at h;omega))
theorem vZi (t:Fm):DF gl t:=xZl gl _ t (Nat.lt_succ_self _)
def cBox (n:Int):Option IObj:=some (.box [.raw (.int .i64 n)])
def bigI:IV:=.raw (.int .i64 9223372036854775807)
def xU5 (b:Nat):IV:=.fn (.func 268) [] [.raw (.pointer (some ⟨b,0,none⟩)),.cptr bigI]
theorem wWp (v:Bool)(n:ByteArray)(us:List Tm)(x:IV)(hx:IsTm (.mk v n us) x)(b:Nat)(st:ISt)(c:Nat)(hb:st b=cBox c)(hc:c+1<=4611686018427387904) :
  ICall prog gl 268 [x,.raw (.pointer (some ⟨b,0,none⟩)),.cptr bigI] st (λr st'=>r=.raw (.bool true)/\st'=st.put b (cBox ((c+1:Nat):Int))):=by
 obtain⟨tx,cx,rfl,_⟩:=hx.mk;refine iI func268 ?_;have hw:IntKind.i64.wrap (((c:Nat):Int)+1)=((c+1:Nat):Int):=by rw[w64]<;>omega
 have hle:decide (((c+1:Nat):Int)<=9223372036854775807)=true:=by simp;omega
 simp only[go_sem,zE,zL,hb,cBox,bigI,hw,ISt.put_same,hle];exact yQ0 ⟨rfl,rfl⟩
def CN (us:List Tm):Prop:=∀(t:Tag) (xs:List IV) (_:okEs t 3) (_:IsTms us xs) (b:Nat) (st:ISt) (c:Nat) (_:st b=cBox c) (_:c+yQf us<=4611686018427387904),
 ICall prog gl 267 [.sl t xs,xU5 b] st (λr st'=>r=.raw (.bool true)/\st'=st.put b (cBox ((c+yQf us:Nat):Int)))
theorem zXz (us:List Tm)(IH:∀v n m,Tm.mk v n m∈us->CN gl m):CN gl us:=by
 intro tg xs htg hxs b st c hb hc;refine iI func267 ?_;simp only[go_sem,reduceCtorEq,hxs.len,xU5];intro hlen;refine LoopC.ctr us.length (λk fr st' ds=>st'=st.put b (cBox ((c+yQf (us.take k):Nat):Int))/\fr 1=.iv (xU5 b)/\fr 7=.iv (.sl tg xs)/\fr 8=.iv (.raw (.int .i64 us.length))/\fr 9=.iv (.raw (.int .i64 k))/\ds=[]) ?_ ?_ ?_
 ·simp only[go_sem,zE,xU5];simp only[yQf,Nat.add_zero];exact⟨(yX7 hb).symm,rfl⟩
 ·rintro k fr _ _ hlt ⟨rfl,f1,f7,f8,f9,rfl⟩;obtain⟨a,ha⟩:=yQ1 hlt;obtain⟨x,hkx,hx⟩:=hxs.get ha;obtain⟨h1,h2⟩:=yXd ha;obtain⟨v2,n2,m⟩:=a;have hcall:=λst c=>wWp gl v2 n2 m x hx b st c;obtain⟨tx,cx,rfl,htx,hcx⟩:=hx.mk;simp only[Tm.size] at h1 h2;simp only[go_sem,zE,zA,zL,f1,f7,f8,f9,lt_i hlt,yQ4 htg,iNn,hkx,xU5];refine (hcall _ _ (ISt.put_same _ _ _) (by omega)).mono ?_;rintro _ _ ⟨rfl,rfl⟩;simp only[go_sem,zE,zA,f1,xU5];refine (IH _ _ _ (lMg ha) tx cx htx hcx b _ (c+yQf (us.take k)+1) (ISt.put_same _ _ _) (by omega)).mono ?_;rintro _ _ ⟨rfl,rfl⟩;simp only[go_sem,zE,f1,f7,f8,f9,yQd hlt (show us.length<=281474976710656 by omega)];simp only[yQ6];rw[h1,show c+yQf (us.take k)+1+yQf m=c+(yQf (us.take k)+(yQf m+1)) by omega];exact⟨rfl,rfl⟩
 ·rintro fr _ _ ⟨rfl,f1,f7,f8,f9,rfl⟩;simp only[go_sem,f8,f9,yQl (nLi _)];rw[lTl];exact yQ0 ⟨rfl,rfl⟩
theorem yGo:∀(k:Nat)(us:List Tm),SizeOf.sizeOf us<k->CN gl us
 | 0,f,h=>by omega
 | k+1,us,h=>zXz gl us (λv n m ha=>yGo k m (by
   have:=lSm ha;simp at this;omega))
theorem zU7 (us:List Tm):CN gl us:=yGo gl _ us (Nat.lt_succ_self _)
mutual
def yVn:Fm->List Fm
 | .mk o n us sub=>.mk o n us sub::yZx sub
def yZx:List Fm->List Fm
 | []=>[]
 | a::l=>yVn a++yZx l
end
theorem yKq:∀(l m:List Fm),yZx (l++m)=yZx l++yZx m
 | [],m=>by simp[yZx]
 | a::l,m=>by simp only[List.cons_append,yZx,yKq l m,List.append_assoc]
def FOk (y:IV)(I:Nat->ISt->Prop)(S:ISt->Prop)(k0:Nat)(l:List Fm):Prop :=
 ∀i z x stu,l[i]?=some z->IsFm z x->I (k0+i) stu->ICallV prog gl y [x] stu (xZo I S (k0+i+1))
theorem FOk.left {y:IV}{I:Nat->ISt->Prop}{S:ISt->Prop}{k0:Nat}{l m:List Fm}(h:FOk gl y I S k0 (l++m)):FOk gl y I S k0 l:=λi z x stu hi hx hI =>
 h i z x stu (by rw[List.getElem?_append_left (lGs hi).1];exact hi) hx hI
theorem FOk.right {y:IV}{I:Nat->ISt->Prop}{S:ISt->Prop}{k0:Nat}{l m:List Fm}(h:FOk gl y I S k0 (l++m)):FOk gl y I S (k0+l.length) m:=λi z x stu hi hx hI=>by
 have:=h (l.length+i) z x stu (by rw[List.getElem?_append_right (by omega)];simpa using hi) hx (by rw[<- Nat.add_assoc];exact hI);simpa only[Nat.add_assoc] using this
theorem FOk.head {y:IV}{I:Nat->ISt->Prop}{S:ISt->Prop}{k0:Nat}{z:Fm}{m:List Fm}(h:FOk gl y I S k0 (z::m)){x:IV}(hx:IsFm z x){st:ISt}(hI:I k0 st):ICallV prog gl y [x] st (xZo I S (k0+1)):=h 0 z x st rfl hx hI
theorem FOk.tail {y:IV}{I:Nat->ISt->Prop}{S:ISt->Prop}{k0:Nat}{z:Fm}{m:List Fm}(h:FOk gl y I S k0 (z::m)):FOk gl y I S (k0+1) m:=FOk.right gl (l:=[z]) h
def VV (f:Fm):Prop:=∀(x:IV) (_:IsFm f x) (g:Fn) (fi ca:List IV) (_:fnOk g=true) (_:∀i,g=.func i->entI prog i=true) (I:Nat->ISt->Prop) (S:ISt->Prop) (k0:Nat) (_:FOk gl (.fn g fi ca) I S k0 (yVn f)) (st:ISt) (_:I k0 st),
  ICall prog gl 276 [x,.fn g fi ca] st (xZo I S (k0+(yVn f).length))
theorem xYl (op:Nat)(n:ByteArray)(us:List Tm)(sub:List Fm)(IH:∀a∈sub,VV gl a):VV gl (.mk op n us sub):=by
 intro x hx g fi ca hfn hent I S k0 hy st hI;have hx0:=hx;obtain⟨tg,xs,tg',ys,rfl,hop,htg,hxs,htg',hys⟩:=hx.mk;simp only[yVn] at hy ⊢;have hhead:=FOk.head gl hy hx0 hI;have hy':=FOk.tail gl hy;refine iI func276 ?_;simp only[go_sem,zE,zA,zL];refine yZ2 hent (hhead.mono ?_);rintro _ st (⟨rfl,h⟩|⟨rfl,h⟩)
 ·simp only[go_sem,zE,hys.len];intro hlen;refine LoopC.ctr sub.length (λk fr st ds=>I (k0+1+(yZx (sub.take k)).length) st/\fr 1=.iv (.fn g fi ca)/\fr 12=.iv (.sl tg' ys)/\fr 13=.iv (.raw (.int .i64 sub.length))/\fr 14=.iv (.raw (.int .i64 k))/\ds=[]) ?_ ?_ ?_
  ·simp only[go_sem,zE];exact⟨by simpa[yZx] using h,rfl⟩
  ·rintro k fr st _ hlt ⟨hst,f1,f12,f13,f14,rfl⟩;obtain⟨a,ha⟩:=yQ1 hlt;obtain⟨x,hkx,hx⟩:=hys.get ha;have hsplit:yZx sub=yZx (sub.take k)++(yVn a++yZx (sub.drop (k+1))):=by
    conv=>lhs;rw[<- List.take_append_drop k sub,List.drop_eq_getElem_cons hlt]
    rw[yKq,(lGs ha).2];rfl
   have hya:=hy';rw[hsplit] at hya;have hcall:=IH a (lMg ha) x hx g fi ca hfn hent I S _ (FOk.left gl (FOk.right gl hya)) st hst;obtain⟨o2,n2,u2,s2⟩:=a;obtain⟨t3,x3,t4,x4,rfl,_⟩:=hx.mk;simp only[go_sem,zE,zA,zL,f1,f12,f13,f14,lt_i hlt,yQ4 htg',iNn,hkx];refine hcall.mono ?_;rintro _ st (⟨rfl,h⟩|⟨rfl,h⟩)
   ·simp only[go_sem,zE,f1,f12,f13,f14,yQd hlt (show sub.length<=281474976710656 by omega)];rw[yQ8 ha,yKq,lLa,<- Nat.add_assoc];simpa[yZx] using h
   ·simp only[go_sem];exact yQ0 (.inr ⟨rfl,h⟩)
  ·rintro fr st _ ⟨hst,f1,f12,f13,f14,rfl⟩;simp only[go_sem,f13,f14,yQl (nLi _)];rw[lTl] at hst;refine yQ0 (.inl ⟨rfl,?_⟩);rw[show k0+((yZx sub).length+1)=k0+1+(yZx sub).length by omega];exact hst
 ·simp only[go_sem];exact yQ0 (.inr ⟨rfl,h⟩)
theorem zU6:∀(k:Nat)(t:Fm),SizeOf.sizeOf t<k->VV gl t
 | 0,f,h=>by omega
 | k+1,.mk o n us sub,h=>xYl gl o n us sub (λa ha=>zU6 k a (by
   have:=lSm ha;simp at h;omega))
theorem wGr (t:Fm):VV gl t:=zU6 gl _ t (Nat.lt_succ_self _)
def wUp (f:Fm)(k:Nat)(a:List IV):Prop:=∃z x,(yVn f)[k]?=some z/\IsFm z x/\a=[x]
theorem wGo (f:Fm)(x:IV)(hx:IsFm f x)(I:Nat->ISt->Prop):IterC prog gl 275 [] [.cptr x] (wUp f) (yVn f).length I:=by
 have hx0:=hx;obtain⟨o,n,us,sub⟩:=f;obtain⟨t1,x1,t2,x2,rfl,_⟩:=hx.mk;rintro y I' S' st ⟨g,fi,ca,rfl,hfn,hent⟩ _ hy h0;change ICall prog gl _ [.fn g fi ca,_] st _;refine iI func275 ?_;simp only[go_sem,zE,zA,reduceCtorEq,fits];refine (wGr gl _ _ hx0 g fi ca hfn hent I' S' 0 ?_ st h0).mono ?_
 ·intro i z x stu hi hz hI;rw[Nat.zero_add] at hI ⊢;exact hy i [x] stu ⟨z,x,hi,hz,rfl⟩ hI
 ·rintro _ st' h;simp only[go_sem];refine yQ0 ?_;rw[Nat.zero_add] at h;exact h.imp And.right And.right
theorem vXt (x:IV)(st:ISt)(f:Fm)(hx:IsFm f x):ICall prog gl 266 [x] st (λr st'=>r=.fn (.func 275) [] [.cptr x]/\st'=st):=by
 obtain⟨o,n,us,sub⟩:=f;obtain⟨t1,x1,t2,x2,rfl,_⟩:=hx.mk;refine ICall.intro (c:=cf prog gl [] [] [1]) func266 rfl (by show _<=4;simp) (by kernel_rfl) ?_;simp only[go_sem,zE];exact yQ0 ⟨rfl,rfl⟩
def xGa:Fm->Nat
 | .mk _ _ us _=>yQf us+1
def sumW:List Fm->Nat
 | []=>0
 | a::l=>xGa a+sumW l
theorem yWd:∀(l m:List Fm),sumW (l++m)=sumW l+sumW m
 | [],m=>by simp[sumW]
 | a::l,m=>by simp only[List.cons_append,sumW,yWd l m];omega
mutual
theorem zVt:∀f:Fm,sumW (yVn f)=f.size
 | .mk o n us sub=>by simp only[yVn,sumW,xGa,Fm.size,zJ6 sub];omega
theorem zJ6:∀l:List Fm,sumW (yZx l)=yQb l
 | []=>rfl
 | a::l=>by simp only[yZx,yWd,yQb,zVt a,zJ6 l]
end
theorem wQ7 {l:List Fm}{k:Nat}{a:Fm}(h:l[k]?=some a):sumW (l.take (k+1))=sumW (l.take k)+xGa a/\sumW (l.take k)+xGa a<=sumW l:=by
 have h1:sumW (l.take (k+1))=sumW (l.take k)+xGa a:=by rw[yQ8 h,yWd];simp[sumW]
 refine⟨h1,?_⟩;rw[<- h1]
 conv=>rhs;rw[<- List.take_append_drop (k+1) l,yWd]
 omega
theorem vQz (f:Fm)(x:IV)(hx:IsFm f x)(hs:f.size<=4611686018427387904)(st:ISt) :
  ICall prog gl 251 [x,bigI] st (λr st'=>r=.raw (.int .i64 f.size)/\st'=st):=by
 have hx0:=hx;rw[<- zVt f] at hs ⊢;have hwalk:=λst=>vXt gl x st f hx0;have hiter:=wGo gl f x hx0;generalize hfw:yVn f=l at hs hiter ⊢;have hX:∀k a,wUp f k a->∃z x,l[k]?=some z/\IsFm z x/\a=[x]:=λk a h=>by rw[<- hfw];exact h
 generalize wUp f=X at hiter hX;obtain⟨o,n,us,sub⟩:=f;obtain⟨t1,x1,t2,x2,rfl,_⟩:=hx.mk;refine ICall.intro (c:=cf prog gl [5] [] [3]) func251 rfl (by show _<=20;simp) (by kernel_rfl) ?_;simp only[go_sem,zE,zA,zL,bigI];refine λb=>yQ9 λhb=>?_;refine (hwalk _).mono ?_;rintro _ _ ⟨rfl,rfl⟩;simp only[go_sem,reduceCtorEq];refine RangeC.intro X l.length (λk st'=>st'=st.put b (cBox ((sumW (l.take k):Nat):Int))) (λ_ _=>False) rfl ?_ ?_ ?_ (hiter _) ?_ (λ_ _ _ h=>h.elim)
 ·intro k a ha;obtain⟨z,x,_,_,rfl⟩:=hX k a ha;rfl
 ·rw[yQ6];rfl
 ·rintro k a _ hk rfl;obtain⟨z,x,hz,hzx,rfl⟩:=hX k a hk;obtain⟨h1,h2⟩:=wQ7 hz;obtain⟨o2,n2,u2,s2⟩:=z;obtain⟨t3,x3,t4,x4,rfl,_,ht3,hx3,_⟩:=hzx.mk;simp only[xGa] at h1 h2;have hw:IntKind.i64.wrap (((sumW (l.take k):Nat):Int)+1)=((sumW (l.take k)+1:Nat):Int):=by rw[w64]<;>omega
  simp only[go_sem,zE,zA,zL,ISt.put_same,cBox,hw];refine (zU7 gl u2 t3 x3 ht3 hx3 b _ (sumW (l.take k)+1) (ISt.put_same _ _ _) (by omega)).mono ?_;rintro _ _ ⟨rfl,rfl⟩;have hgt:decide ((9223372036854775807:Int)<((sumW (l.take k)+1+yQf u2:Nat):Int))=false:=by simp;omega
  simp only[go_sem,zE,ISt.put_same,cBox,fits,hgt];rw[yQ6,yQ6,h1,show sumW (l.take k)+(yQf u2+1)=sumW (l.take k)+1+yQf u2 by omega]
 ·rintro _ r rfl;simp only[go_sem,zE,ISt.put_same,cBox];rw[lTl];exact yQg (yQh hb) ⟨rfl,rfl⟩
theorem vZf (f:Fm)(x:IV)(hx:IsFm f x)(hs:f.size<=4611686018427387904)(st:ISt) :
  ICall prog gl 222 [x] st (λr st'=>r=.raw (.int .i64 f.size)/\st'=st):=by
 have hcall:=λst=>vQz gl f x hx hs st;generalize f.size=z at hcall ⊢;obtain⟨o,n,us,sub⟩:=f;obtain⟨t1,x1,t2,x2,rfl,_⟩:=hx.mk;refine iI func222 ?_;simp only[go_sem,zE,zA,zL];refine (hcall _).mono ?_;rintro _ _ ⟨rfl,rfl⟩;simp only[go_sem];exact yQ0 ⟨rfl,rfl⟩
