/- Walks: depths. -/
import Derived.Test.YtddfdpbibloljaaGreatDoorJO
set_option linter.all false
open Nat renaming reduceEqDiff → zE,reduceAdd → zA,reduceLeDiff → zL
namespace Go.Proofs.Tryz
open Go Go.Iv
set_option maxRecDepth 4000
variable (gl:Nat->Option IV)
theorem xZy {l:List Tm}{k:Nat}{a:Tm}(h:l[k]?=some a):yQu (l.take (k+1))=max (yQu (l.take k)) a.deep/\a.deep<=yQu l:=by
 have h1:yQu (l.take (k+1))=max (yQu (l.take k)) a.deep:=by rw[yQ7 h,yW5];simp[yQu]
 refine⟨h1,?_⟩;have:yQu l=max (yQu (l.take (k+1))) (yQu (l.drop (k+1))):=by conv=>lhs;rw[<- List.take_append_drop (k+1) l,yW5]
 omega
theorem xZz {l:List Fm}{k:Nat}{a:Fm}(h:l[k]?=some a):yZ7 (l.take (k+1))=max (yZ7 (l.take k)) a.deep/\a.deep<=yZ7 l:=by
 have h1:yZ7 (l.take (k+1))=max (yZ7 (l.take k)) a.deep:=by rw[yQ7 h,yW6];simp[yZ7]
 refine⟨h1,?_⟩;have:yZ7 l=max (yZ7 (l.take (k+1))) (yZ7 (l.drop (k+1))):=by conv=>lhs;rw[<- List.take_append_drop (k+1) l,yW6]
 omega
def TD (us:List Tm):Prop:=∀(t:Tag) (xs:List IV) (_:okEs t 3) (_:IsTms us xs) (_:yQu us<=4611686018427387904) (st:ISt),
 ICall prog gl 252 [.sl t xs] st (λr st'=>r=.raw (.int .i64 (yQu us))/\st'=st)
theorem zJt (us:List Tm)(IH:∀v n m,Tm.mk v n m∈us->TD gl m):TD gl us:=by
 intro tg xs htg hxs hd st;refine iI func252 ?_;simp only[go_sem,reduceCtorEq,hxs.len];intro hlen;refine LoopC.ctr us.length (λk fr st' ds=>fr 3=.iv (.raw (.int .i64 (yQu (us.take k))))/\fr 6=.iv (.sl tg xs)/\fr 7=.iv (.raw (.int .i64 us.length))/\fr 8=.iv (.raw (.int .i64 k))/\st'=st/\ds=[]) ?_ ?_ ?_
 ·simp only[go_sem,zE];simp[yQu]
 ·rintro k fr _ _ hlt ⟨f3,f6,f7,f8,rfl,rfl⟩;obtain⟨a,ha⟩:=yQ4 hlt;obtain⟨x,hkx,hx⟩:=hxs.get ha;obtain⟨h1,h2⟩:=xZy ha;obtain⟨v2,n2,m⟩:=a;obtain⟨tx,cx,rfl,htx,hcx⟩:=hx.mk;simp only[Tm.deep] at h1 h2;simp only[go_sem,zE,zA,zL,f3,f6,f7,f8,lt_i hlt,yQ3 htg,iNn,hkx];refine (IH _ _ _ (lMg ha) tx cx htx hcx (by omega) _).mono ?_;rintro _ _ ⟨rfl,rfl⟩;have hw:IntKind.i64.wrap (((yQu m:Nat):Int)+1)=((yQu m+1:Nat):Int):=by rw[w64]<;>omega
  have hm:max ((yQu (us.take k):Nat):Int) ((yQu m+1:Nat):Int)=((yQu (us.take (k+1)):Nat):Int):=by rw[h1];omega
  simp only[go_sem,zE,f6,f7,f8,yQf hlt (show us.length<=281474976710656 by omega),hw,hm]
 ·rintro fr _ _ ⟨f3,f6,f7,f8,rfl,rfl⟩;simp only[go_sem,zE,f3,f7,f8,yQo (nLi _)];rw[lTl];exact yQ0 ⟨rfl,rfl⟩
theorem yU8:∀(k:Nat)(us:List Tm),SizeOf.sizeOf us<k->TD gl us
 | 0,f,h=>by omega
 | k+1,us,h=>zJt gl us (λv n m ha=>yU8 k m (by
   have:=lSm ha;simp at this;omega))
theorem xQ7 (us:List Tm):TD gl us:=yU8 gl _ us (Nat.lt_succ_self _)
def DF (f:Fm):Prop:=∀(x:IV) (_:IsFm f x) (_:f.deep<=4611686018427387904) (st:ISt),
 ICall prog gl 238 [x] st (λr st'=>r=.raw (.int .i64 f.deep)/\st'=st)
theorem wQ5 (op:Nat)(n:ByteArray)(us:List Tm)(sub:List Fm)(IH:∀a∈sub,DF gl a):DF gl (.mk op n us sub):=by
 intro x hx hd st;obtain⟨tg,xs,tg',ys,rfl,hop,htg,hxs,htg',hys⟩:=hx.mk;simp only[Fm.deep] at hd ⊢;refine iI func238 ?_;simp only[go_sem,zE,zA];refine (xQ7 gl us tg xs htg hxs (by omega) _).mono ?_;rintro _ st ⟨rfl,rfl⟩;simp only[go_sem,zE,hys.len];intro hlen;refine LoopC.ctr sub.length (λk fr st' ds=>fr 3=.iv (.raw (.int .i64 (max (yQu us) (yZ7 (sub.take k)):Nat)))/\fr 10=.iv (.sl tg' ys)/\fr 11=.iv (.raw (.int .i64 sub.length))/\fr 12=.iv (.raw (.int .i64 k))/\st'=st/\ds=[]) ?_ ?_ ?_
 ·simp only[go_sem,zE];simp[yZ7]
 ·rintro k fr st _ hlt ⟨f3,f10,f11,f12,rfl,rfl⟩;obtain⟨a,ha⟩:=yQ4 hlt;obtain⟨x,hkx,hx⟩:=hys.get ha;obtain⟨h1,h2⟩:=xZz ha;have hcall:=IH a (lMg ha) x hx (by omega) st;have hm:max ((max (yQu us) (yZ7 (sub.take k)):Nat):Int) ((a.deep:Nat):Int)=((max (yQu us) (yZ7 (sub.take (k+1))):Nat):Int):=by rw[h1];omega
  obtain⟨o2,n2,u2,s2⟩:=a;obtain⟨t3,x3,t4,x4,rfl,_⟩:=hx.mk;simp only[go_sem,zE,zA,zL,f3,f10,f11,f12,lt_i hlt,yQ3 htg',iNn,hkx];refine hcall.mono ?_;rintro _ _ ⟨rfl,rfl⟩;simp only[go_sem,zE,f10,f11,f12,yQf hlt (show sub.length<=281474976710656 by omega),hm]
 ·rintro fr _ _ ⟨f3,f10,f11,f12,rfl,rfl⟩;have hw:IntKind.i64.wrap (((max (yQu us) (yZ7 sub):Nat):Int)+1)=((max (yQu us) (yZ7 sub)+1:Nat):Int):=by rw[w64]<;>omega
  rw[lTl] at f3;simp only[go_sem,zE,f3,f11,f12,yQo (nLi _),hw];exact yQ0 ⟨rfl,rfl⟩
theorem xXj:∀(k:Nat)(t:Fm),SizeOf.sizeOf t<k->DF gl t
 | 0,f,h=>by omega
 | k+1,.mk o n us sub,h=>wQ5 gl o n us sub (λa ha=>xXj k a (by
   have:=lSm ha;simp at h;omega))
theorem vXl (t:Fm):DF gl t:=xXj gl _ t (Nat.lt_succ_self _)
def cBox (n:Int):Option IObj:=some (.box [.raw (.int .i64 n)])
def bigI:IV:=.raw (.int .i64 9223372036854775807)
def xUu (b:Nat):IV:=.fn (.func 268) [] [.raw (.pointer (some ⟨b,0,none⟩)),.cptr bigI]
theorem wY9 (v:Bool)(n:ByteArray)(us:List Tm)(x:IV)(hx:IsTm (.mk v n us) x)(b:Nat)(st:ISt)(c:Nat)(hb:st b=cBox c)(hc:c+1<=4611686018427387904) :
  ICall prog gl 268 [x,.raw (.pointer (some ⟨b,0,none⟩)),.cptr bigI] st (λr st'=>r=.raw (.bool true)/\st'=st.put b (cBox ((c+1:Nat):Int))):=by
 obtain⟨tx,cx,rfl,_⟩:=hx.mk;refine iI func268 ?_;have hw:IntKind.i64.wrap (((c:Nat):Int)+1)=((c+1:Nat):Int):=by rw[w64]<;>omega
 have hle:decide (((c+1:Nat):Int)<=9223372036854775807)=true:=by simp;omega
 simp only[go_sem,zE,zL,hb,cBox,bigI,hw,ISt.put_same,hle];exact yQ0 ⟨rfl,rfl⟩
def CN (us:List Tm):Prop:=∀(t:Tag) (xs:List IV) (_:okEs t 3) (_:IsTms us xs) (b:Nat) (st:ISt) (c:Nat) (_:st b=cBox c) (_:c+yQh us<=4611686018427387904),
 ICall prog gl 267 [.sl t xs,xUu b] st (λr st'=>r=.raw (.bool true)/\st'=st.put b (cBox ((c+yQh us:Nat):Int)))
theorem zJi (us:List Tm)(IH:∀v n m,Tm.mk v n m∈us->CN gl m):CN gl us:=by
 intro tg xs htg hxs b st c hb hc;refine iI func267 ?_;simp only[go_sem,reduceCtorEq,hxs.len,xUu];intro hlen;refine LoopC.ctr us.length (λk fr st' ds=>st'=st.put b (cBox ((c+yQh (us.take k):Nat):Int))/\fr 1=.iv (xUu b)/\fr 7=.iv (.sl tg xs)/\fr 8=.iv (.raw (.int .i64 us.length))/\fr 9=.iv (.raw (.int .i64 k))/\ds=[]) ?_ ?_ ?_
 ·simp only[go_sem,zE,xUu];simp only[yQh,Nat.add_zero];exact⟨(yJe hb).symm,rfl⟩
 ·rintro k fr _ _ hlt ⟨rfl,f1,f7,f8,f9,rfl⟩;obtain⟨a,ha⟩:=yQ4 hlt;obtain⟨x,hkx,hx⟩:=hxs.get ha;obtain⟨h1,h2⟩:=yXm ha;obtain⟨v2,n2,m⟩:=a;have hcall:=λst c=>wY9 gl v2 n2 m x hx b st c;obtain⟨tx,cx,rfl,htx,hcx⟩:=hx.mk;simp only[Tm.size] at h1 h2;simp only[go_sem,zE,zA,zL,f1,f7,f8,f9,lt_i hlt,yQ3 htg,iNn,hkx,xUu];refine (hcall _ _ (ISt.put_same _ _ _) (by omega)).mono ?_;rintro _ _ ⟨rfl,rfl⟩;simp only[go_sem,zE,zA,f1,xUu];refine (IH _ _ _ (lMg ha) tx cx htx hcx b _ (c+yQh (us.take k)+1) (ISt.put_same _ _ _) (by omega)).mono ?_;rintro _ _ ⟨rfl,rfl⟩;simp only[go_sem,zE,f1,f7,f8,f9,yQf hlt (show us.length<=281474976710656 by omega)];simp only[yQ8];rw[h1,show c+yQh (us.take k)+1+yQh m=c+(yQh (us.take k)+(yQh m+1)) by omega];exact⟨rfl,rfl⟩
 ·rintro fr _ _ ⟨rfl,f1,f7,f8,f9,rfl⟩;simp only[go_sem,f8,f9,yQo (nLi _)];rw[lTl];exact yQ0 ⟨rfl,rfl⟩
theorem yU7:∀(k:Nat)(us:List Tm),SizeOf.sizeOf us<k->CN gl us
 | 0,f,h=>by omega
 | k+1,us,h=>zJi gl us (λv n m ha=>yU7 k m (by
   have:=lSm ha;simp at this;omega))
theorem xQ1 (us:List Tm):CN gl us:=yU7 gl _ us (Nat.lt_succ_self _)
mutual
def yW3:Fm->List Fm
 | .mk o n us sub=>.mk o n us sub::yX6 sub
def yX6:List Fm->List Fm
 | []=>[]
 | a::l=>yW3 a++yX6 l
end
theorem yVi:∀(l m:List Fm),yX6 (l++m)=yX6 l++yX6 m
 | [],m=>by simp[yX6]
 | a::l,m=>by simp only[List.cons_append,yX6,yVi l m,List.append_assoc]
def FOk (y:IV)(I:Nat->ISt->Prop)(S:ISt->Prop)(k0:Nat)(l:List Fm):Prop :=
 ∀i z x stu,l[i]?=some z->IsFm z x->I (k0+i) stu->ICallV prog gl y [x] stu (xXm I S (k0+i+1))
theorem FOk.left {y:IV}{I:Nat->ISt->Prop}{S:ISt->Prop}{k0:Nat}{l m:List Fm}(h:FOk gl y I S k0 (l++m)):FOk gl y I S k0 l:=λi z x stu hi hx hI =>
 h i z x stu (by rw[List.getElem?_append_left (lGs hi).1];exact hi) hx hI
theorem FOk.right {y:IV}{I:Nat->ISt->Prop}{S:ISt->Prop}{k0:Nat}{l m:List Fm}(h:FOk gl y I S k0 (l++m)):FOk gl y I S (k0+l.length) m:=λi z x stu hi hx hI=>by
 have:=h (l.length+i) z x stu (by rw[List.getElem?_append_right (by omega)];simpa using hi) hx (by rw[<- Nat.add_assoc];exact hI);simpa only[Nat.add_assoc] using this
theorem FOk.head {y:IV}{I:Nat->ISt->Prop}{S:ISt->Prop}{k0:Nat}{z:Fm}{m:List Fm}(h:FOk gl y I S k0 (z::m)){x:IV}(hx:IsFm z x){st:ISt}(hI:I k0 st):ICallV prog gl y [x] st (xXm I S (k0+1)):=h 0 z x st rfl hx hI
theorem FOk.tail {y:IV}{I:Nat->ISt->Prop}{S:ISt->Prop}{k0:Nat}{z:Fm}{m:List Fm}(h:FOk gl y I S k0 (z::m)):FOk gl y I S (k0+1) m:=FOk.right gl (l:=[z]) h
def VV (f:Fm):Prop:=∀(x:IV) (_:IsFm f x) (g:Fn) (fi ca:List IV) (_:fnOk g=true) (_:∀i,g=.func i->entI prog i=true) (I:Nat->ISt->Prop) (S:ISt->Prop) (k0:Nat) (_:FOk gl (.fn g fi ca) I S k0 (yW3 f)) (st:ISt) (_:I k0 st),
  ICall prog gl 278 [x,.fn g fi ca] st (xXm I S (k0+(yW3 f).length))
theorem xG7 (op:Nat)(n:ByteArray)(us:List Tm)(sub:List Fm)(IH:∀a∈sub,VV gl a):VV gl (.mk op n us sub):=by
 intro x hx g fi ca hfn hent I S k0 hy st hI;have hx0:=hx;obtain⟨tg,xs,tg',ys,rfl,hop,htg,hxs,htg',hys⟩:=hx.mk;simp only[yW3] at hy ⊢;have hhead:=FOk.head gl hy hx0 hI;have hy':=FOk.tail gl hy;refine iI func278 ?_;simp only[go_sem,zE,zA,zL];refine yXk hent (hhead.mono ?_);rintro _ st (⟨rfl,h⟩|⟨rfl,h⟩)
 ·simp only[go_sem,zE,hys.len];intro hlen;refine LoopC.ctr sub.length (λk fr st ds=>I (k0+1+(yX6 (sub.take k)).length) st/\fr 1=.iv (.fn g fi ca)/\fr 12=.iv (.sl tg' ys)/\fr 13=.iv (.raw (.int .i64 sub.length))/\fr 14=.iv (.raw (.int .i64 k))/\ds=[]) ?_ ?_ ?_
  ·simp only[go_sem,zE];exact⟨by simpa[yX6] using h,rfl⟩
  ·rintro k fr st _ hlt ⟨hst,f1,f12,f13,f14,rfl⟩;obtain⟨a,ha⟩:=yQ4 hlt;obtain⟨x,hkx,hx⟩:=hys.get ha;have hsplit:yX6 sub=yX6 (sub.take k)++(yW3 a++yX6 (sub.drop (k+1))):=by
    conv=>lhs;rw[<- List.take_append_drop k sub,List.drop_eq_getElem_cons hlt]
    rw[yVi,(lGs ha).2];rfl
   have hya:=hy';rw[hsplit] at hya;have hcall:=IH a (lMg ha) x hx g fi ca hfn hent I S _ (FOk.left gl (FOk.right gl hya)) st hst;obtain⟨o2,n2,u2,s2⟩:=a;obtain⟨t3,x3,t4,x4,rfl,_⟩:=hx.mk;simp only[go_sem,zE,zA,zL,f1,f12,f13,f14,lt_i hlt,yQ3 htg',iNn,hkx];refine hcall.mono ?_;rintro _ st (⟨rfl,h⟩|⟨rfl,h⟩)
   ·simp only[go_sem,zE,f1,f12,f13,f14,yQf hlt (show sub.length<=281474976710656 by omega)];rw[yQ7 ha,yVi,lLa,<- Nat.add_assoc];simpa[yX6] using h
   ·simp only[go_sem];exact yQ0 (.inr ⟨rfl,h⟩)
  ·rintro fr st _ ⟨hst,f1,f12,f13,f14,rfl⟩;simp only[go_sem,f13,f14,yQo (nLi _)];rw[lTl] at hst;refine yQ0 (.inl ⟨rfl,?_⟩);rw[show k0+((yX6 sub).length+1)=k0+1+(yX6 sub).length by omega];exact hst
 ·simp only[go_sem];exact yQ0 (.inr ⟨rfl,h⟩)
theorem xQ0:∀(k:Nat)(t:Fm),SizeOf.sizeOf t<k->VV gl t
 | 0,f,h=>by omega
 | k+1,.mk o n us sub,h=>xG7 gl o n us sub (λa ha=>xQ0 k a (by
   have:=lSm ha;simp at h;omega))
theorem wUt (t:Fm):VV gl t:=xQ0 gl _ t (Nat.lt_succ_self _)
def vQn (f:Fm)(k:Nat)(a:List IV):Prop:=∃z x,(yW3 f)[k]?=some z/\IsFm z x/\a=[x]
theorem wUq (f:Fm)(x:IV)(hx:IsFm f x)(I:Nat->ISt->Prop):IterC prog gl 277 [] [.cptr x] (vQn f) (yW3 f).length I:=by
 have hx0:=hx;obtain⟨o,n,us,sub⟩:=f;obtain⟨t1,x1,t2,x2,rfl,_⟩:=hx.mk;rintro y I' S' st ⟨g,fi,ca,rfl,hfn,hent⟩ _ hy h0;change ICall prog gl _ [.fn g fi ca,_] st _;refine iI func277 ?_;simp only[go_sem,zE,zA,reduceCtorEq,fits];refine (wUt gl _ _ hx0 g fi ca hfn hent I' S' 0 ?_ st h0).mono ?_
 ·intro i z x stu hi hz hI;rw[Nat.zero_add] at hI ⊢;exact hy i [x] stu ⟨z,x,hi,hz,rfl⟩ hI
 ·rintro _ st' h;simp only[go_sem];refine yQ0 ?_;rw[Nat.zero_add] at h;exact h.imp And.right And.right
theorem vJv (x:IV)(st:ISt)(f:Fm)(hx:IsFm f x):ICall prog gl 266 [x] st (λr st'=>r=.fn (.func 277) [] [.cptr x]/\st'=st):=by
 obtain⟨o,n,us,sub⟩:=f;obtain⟨t1,x1,t2,x2,rfl,_⟩:=hx.mk;refine ICall.intro (c:=cf prog gl [] [] [1]) func266 rfl (by show _<=4;simp) (by kernel_rfl) ?_;simp only[go_sem,zE];exact yQ0 ⟨rfl,rfl⟩
def xGv:Fm->Nat
 | .mk _ _ us _=>yQh us+1
def sumW:List Fm->Nat
 | []=>0
 | a::l=>xGv a+sumW l
theorem yWx:∀(l m:List Fm),sumW (l++m)=sumW l+sumW m
 | [],m=>by simp[sumW]
 | a::l,m=>by simp only[List.cons_append,sumW,yWx l m];omega
mutual
theorem zWm:∀f:Fm,sumW (yW3 f)=f.size
 | .mk o n us sub=>by simp only[yW3,sumW,xGv,Fm.size,zJw sub];omega
theorem zJw:∀l:List Fm,sumW (yX6 l)=yQ9 l
 | []=>rfl
 | a::l=>by simp only[yX6,yWx,yQ9,zWm a,zJw l]
end
theorem wQz {l:List Fm}{k:Nat}{a:Fm}(h:l[k]?=some a):sumW (l.take (k+1))=sumW (l.take k)+xGv a/\sumW (l.take k)+xGv a<=sumW l:=by
 have h1:sumW (l.take (k+1))=sumW (l.take k)+xGv a:=by rw[yQ7 h,yWx];simp[sumW]
 refine⟨h1,?_⟩;rw[<- h1]
 conv=>rhs;rw[<- List.take_append_drop (k+1) l,yWx]
 omega
theorem vX0 (f:Fm)(x:IV)(hx:IsFm f x)(hs:f.size<=4611686018427387904)(st:ISt) :
  ICall prog gl 251 [x,bigI] st (λr st'=>r=.raw (.int .i64 f.size)/\st'=st):=by
 have hx0:=hx;rw[<- zWm f] at hs ⊢;have hwalk:=λst=>vJv gl x st f hx0;have hiter:=wUq gl f x hx0;generalize hfw:yW3 f=l at hs hiter ⊢;have hX:∀k a,vQn f k a->∃z x,l[k]?=some z/\IsFm z x/\a=[x]:=λk a h=>by rw[<- hfw];exact h
 generalize vQn f=X at hiter hX;obtain⟨o,n,us,sub⟩:=f;obtain⟨t1,x1,t2,x2,rfl,_⟩:=hx.mk;refine ICall.intro (c:=cf prog gl [5] [] [3]) func251 rfl (by show _<=20;simp) (by kernel_rfl) ?_;simp only[go_sem,zE,zA,zL,bigI];refine λb=>yQc λhb=>?_;refine (hwalk _).mono ?_;rintro _ _ ⟨rfl,rfl⟩;simp only[go_sem,reduceCtorEq];refine RangeC.intro X l.length (λk st'=>st'=st.put b (cBox ((sumW (l.take k):Nat):Int))) (λ_ _=>False) rfl ?_ ?_ ?_ (hiter _) ?_ (λ_ _ _ h=>h.elim)
 ·intro k a ha;obtain⟨z,x,_,_,rfl⟩:=hX k a ha;rfl
 ·rw[yQ8];rfl
 ·rintro k a _ hk rfl;obtain⟨z,x,hz,hzx,rfl⟩:=hX k a hk;obtain⟨h1,h2⟩:=wQz hz;obtain⟨o2,n2,u2,s2⟩:=z;obtain⟨t3,x3,t4,x4,rfl,_,ht3,hx3,_⟩:=hzx.mk;simp only[xGv] at h1 h2;have hw:IntKind.i64.wrap (((sumW (l.take k):Nat):Int)+1)=((sumW (l.take k)+1:Nat):Int):=by rw[w64]<;>omega
  simp only[go_sem,zE,zA,zL,ISt.put_same,cBox,hw];refine (xQ1 gl u2 t3 x3 ht3 hx3 b _ (sumW (l.take k)+1) (ISt.put_same _ _ _) (by omega)).mono ?_;rintro _ _ ⟨rfl,rfl⟩;have hgt:decide ((9223372036854775807:Int)<((sumW (l.take k)+1+yQh u2:Nat):Int))=false:=by simp;omega
  simp only[go_sem,zE,ISt.put_same,cBox,fits,hgt];rw[yQ8,yQ8,h1,show sumW (l.take k)+(yQh u2+1)=sumW (l.take k)+1+yQh u2 by omega]
 ·rintro _ r rfl;simp only[go_sem,zE,ISt.put_same,cBox];rw[lTl];exact yQa (yQg hb) ⟨rfl,rfl⟩
theorem vXg (f:Fm)(x:IV)(hx:IsFm f x)(hs:f.size<=4611686018427387904)(st:ISt) :
  ICall prog gl 237 [x] st (λr st'=>r=.raw (.int .i64 f.size)/\st'=st):=by
 have hcall:=λst=>vX0 gl f x hx hs st;generalize f.size=z at hcall ⊢;obtain⟨o,n,us,sub⟩:=f;obtain⟨t1,x1,t2,x2,rfl,_⟩:=hx.mk;refine iI func237 ?_;simp only[go_sem,zE,zA,zL];refine (hcall _).mono ?_;rintro _ _ ⟨rfl,rfl⟩;simp only[go_sem];exact yQ0 ⟨rfl,rfl⟩
