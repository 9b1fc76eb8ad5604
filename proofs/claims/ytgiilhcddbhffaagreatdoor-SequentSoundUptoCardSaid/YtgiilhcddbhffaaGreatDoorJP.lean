/- Walks: depths. -/
import Derived.Test.YtgiilhcddbhffaaGreatDoorJO
set_option linter.all false
namespace Go.Proofs.Tryz
open Go Go.Iv
set_option maxRecDepth 4000
variable (gl:Nat→Option IV)
theorem zUu {l:List Tm}{k:Nat}{a:Tm}(h:l[k]?=some a):yQv (l.take (k+1))=max (yQv (l.take k)) a.deep∧a.deep≤yQv l:=by
 have h1:yQv (l.take (k+1))=max (yQv (l.take k)) a.deep:=by rw[yQ6 h,yVs]; simp[yQv]
 refine⟨h1,?_⟩
 have:yQv l=max (yQv (l.take (k+1))) (yQv (l.drop (k+1))):=by conv=>lhs; rw[← List.take_append_drop (k+1) l,yVs]
 omega
theorem zUv {l:List Fm}{k:Nat}{a:Fm}(h:l[k]?=some a):yZ1 (l.take (k+1))=max (yZ1 (l.take k)) a.deep∧a.deep≤yZ1 l:=by
 have h1:yZ1 (l.take (k+1))=max (yZ1 (l.take k)) a.deep:=by rw[yQ6 h,yVt]; simp[yZ1]
 refine⟨h1,?_⟩
 have:yZ1 l=max (yZ1 (l.take (k+1))) (yZ1 (l.drop (k+1))):=by conv=>lhs; rw[← List.take_append_drop (k+1) l,yVt]
 omega
def TD (us:List Tm):Prop:=∀ (t:Tag) (xs:List IV) (_:okEs t 3) (_:IsTms us xs) (_:yQv us≤4611686018427387904) (st:ISt),
 ICall prog gl 319 [.sl t xs] st (fun r st'=>r=.raw (.int .i64 (yQv us))∧st'=st)
theorem zX8 (us:List Tm)(IH:∀ v n m,Tm.mk v n m∈us→TD gl m):TD gl us:=by
 intro tg xs htg hxs hd st
 refine iI func319 rfl rfl (by kernel_rfl) ?_
 simp(config:=zzC)only[go_sem,hxs.len]
 intro hlen
 refine LoopC.ctr us.length (fun k fr st' ds=>fr 3=.iv (.raw (.int .i64 (yQv (us.take k))))∧fr 6=.iv (.sl tg xs)∧fr 7=.iv (.raw (.int .i64 us.length))∧fr 8=.iv (.raw (.int .i64 k))∧st'=st∧ds=[]) ?_ ?_ ?_
 ·simp(config:=zzC)only[go_sem]
  simp[yQv]
 ·rintro k fr _ _ hlt ⟨f3,f6,f7,f8,rfl,rfl⟩
  obtain⟨a,ha⟩:=yQ5 hlt
  obtain⟨x,hkx,hx⟩:=hxs.get ha
  obtain⟨h1,h2⟩:=zUu ha
  obtain⟨v2,n2,m⟩:=a
  obtain⟨tx,cx,rfl,htx,hcx⟩:=hx.mk
  simp only[Tm.deep] at h1 h2
  simp(config:=zzC)only[go_sem,f3,f6,f7,f8,lt_i hlt,yQ1 htg,iNn,hkx]
  refine (IH _ _ _ (lMg ha) tx cx htx hcx (by omega) _).mono ?_
  rintro _ _ ⟨rfl,rfl⟩
  have hw:IntKind.i64.wrap (((yQv m:Nat):Int)+1)=((yQv m+1:Nat):Int):=by rw[w64]<;>omega
  have hm:max ((yQv (us.take k):Nat):Int) ((yQv m+1:Nat):Int)=((yQv (us.take (k+1)):Nat):Int):=by rw[h1]; omega
  simp(config:=zzC)only[go_sem,f3,f6,f7,f8,yQf hlt (show us.length≤281474976710656 by omega),hw,hm]
 ·rintro fr _ _ ⟨f3,f6,f7,f8,rfl,rfl⟩
  simp(config:=zzC)only[go_sem,f3,f7,f8,yQt (nLi _)]
  rw[lTl]
  exact yQ0 ⟨rfl,rfl⟩
theorem yGg:∀ (k:Nat)(us:List Tm),SizeOf.sizeOf us<k→TD gl us
 | 0,f,h=>by omega
 | k+1,us,h=>zX8 gl us (fun v n m ha=>yGg k m (by
   have:=lSm ha
   simp at this; omega))
theorem zG8 (us:List Tm):TD gl us:=yGg gl _ us (Nat.lt_succ_self _)
def DF (f:Fm):Prop:=∀ (x:IV) (_:IsFm f x) (_:f.deep≤4611686018427387904) (st:ISt),
 ICall prog gl 293 [x] st (fun r st'=>r=.raw (.int .i64 f.deep)∧st'=st)
theorem xYo (op:Nat)(n:ByteArray)(us:List Tm)(sub:List Fm)(IH:∀ a∈sub,DF gl a):DF gl (.mk op n us sub):=by
 intro x hx hd st
 obtain⟨tg,xs,tg',ys,rfl,hop,htg,hxs,htg',hys⟩:=hx.mk
 simp only[Fm.deep] at hd ⊢
 refine iI func293 rfl rfl (by kernel_rfl) ?_
 simp(config:=zzC)only[go_sem]
 refine (zG8 gl us tg xs htg hxs (by omega) _).mono ?_
 rintro _ st ⟨rfl,rfl⟩
 simp(config:=zzC)only[go_sem,hys.len]
 intro hlen
 refine LoopC.ctr sub.length (fun k fr st' ds=>fr 3=.iv (.raw (.int .i64 (max (yQv us) (yZ1 (sub.take k)):Nat)))∧fr 10=.iv (.sl tg' ys)∧fr 11=.iv (.raw (.int .i64 sub.length))∧fr 12=.iv (.raw (.int .i64 k))∧st'=st∧ds=[]) ?_ ?_ ?_
 ·simp(config:=zzC)only[go_sem]
  simp[yZ1]
 ·rintro k fr st _ hlt ⟨f3,f10,f11,f12,rfl,rfl⟩
  obtain⟨a,ha⟩:=yQ5 hlt
  obtain⟨x,hkx,hx⟩:=hys.get ha
  obtain⟨h1,h2⟩:=zUv ha
  have hcall:=IH a (lMg ha) x hx (by omega) st
  have hm:max ((max (yQv us) (yZ1 (sub.take k)):Nat):Int) ((a.deep:Nat):Int)=((max (yQv us) (yZ1 (sub.take (k+1))):Nat):Int):=by rw[h1]; omega
  obtain⟨o2,n2,u2,s2⟩:=a
  obtain⟨t3,x3,t4,x4,rfl,_⟩:=hx.mk
  simp(config:=zzC)only[go_sem,f3,f10,f11,f12,lt_i hlt,yQ1 htg',iNn,hkx]
  refine hcall.mono ?_
  rintro _ _ ⟨rfl,rfl⟩
  simp(config:=zzC)only[go_sem,f3,f10,f11,f12,yQf hlt (show sub.length≤281474976710656 by omega),hm]
 ·rintro fr _ _ ⟨f3,f10,f11,f12,rfl,rfl⟩
  have hw:IntKind.i64.wrap (((max (yQv us) (yZ1 sub):Nat):Int)+1)=((max (yQv us) (yZ1 sub)+1:Nat):Int):=by rw[w64]<;>omega
  rw[lTl] at f3
  simp(config:=zzC)only[go_sem,f3,f11,f12,yQt (nLi _),hw]
  exact yQ0 ⟨rfl,rfl⟩
theorem xQg:∀ (k:Nat)(t:Fm),SizeOf.sizeOf t<k→DF gl t
 | 0,f,h=>by omega
 | k+1,.mk o n us sub,h=>xYo gl o n us sub (fun a ha=>xQg k a (by
   have:=lSm ha
   simp at h; omega))
theorem wUi (t:Fm):DF gl t:=xQg gl _ t (Nat.lt_succ_self _)
def cBox (n:Int):Option IObj:=some (.box [.raw (.int .i64 n)])
def bigI:IV:=.raw (.int .i64 9223372036854775807)
def xYd (b:Nat):IV:=.fn (.func 333) [] [.raw (.pointer (some ⟨b,0,none⟩)),.cptr bigI]
theorem wKg (v:Bool)(n:ByteArray)(us:List Tm)(x:IV)(hx:IsTm (.mk v n us) x)(b:Nat)(st:ISt)(c:Nat)(hb:st b=cBox c)(hc:c+1≤4611686018427387904) :
  ICall prog gl 333 [x,.raw (.pointer (some ⟨b,0,none⟩)),.cptr bigI] st (fun r st'=>r=.raw (.bool true)∧st'=st.put b (cBox ((c+1:Nat):Int))):=by
 obtain⟨tx,cx,rfl,_⟩:=hx.mk
 refine iI func333 rfl rfl (by kernel_rfl) ?_
 have hw:IntKind.i64.wrap (((c:Nat):Int)+1)=((c+1:Nat):Int):=by rw[w64]<;>omega
 have hle:decide (((c+1:Nat):Int)≤9223372036854775807)=true:=by simp; omega
 simp(config:=zzC)only[go_sem,hb,cBox,bigI,hw,ISt.put_same,hle]
 exact yQ0 ⟨rfl,rfl⟩
def CN (us:List Tm):Prop:=∀ (t:Tag) (xs:List IV) (_:okEs t 3) (_:IsTms us xs) (b:Nat) (st:ISt) (c:Nat) (_:st b=cBox c) (_:c+yQe us≤4611686018427387904),
 ICall prog gl 166 [.sl t xs,xYd b] st (fun r st'=>r=.raw (.bool true)∧st'=st.put b (cBox ((c+yQe us:Nat):Int)))
theorem zZz (us:List Tm)(IH:∀ v n m,Tm.mk v n m∈us→CN gl m):CN gl us:=by
 intro tg xs htg hxs b st c hb hc
 refine iI func166 rfl rfl (by kernel_rfl) ?_
 simp(config:=zzC)only[go_sem,hxs.len,xYd]
 intro hlen
 refine LoopC.ctr us.length (fun k fr st' ds=>st'=st.put b (cBox ((c+yQe (us.take k):Nat):Int))∧fr 1=.iv (xYd b)∧fr 7=.iv (.sl tg xs)∧fr 8=.iv (.raw (.int .i64 us.length))∧fr 9=.iv (.raw (.int .i64 k))∧ds=[]) ?_ ?_ ?_
 ·simp(config:=zzC)only[go_sem,xYd]
  simp only[List.take_zero,yQe,Nat.add_zero]
  exact⟨(yX2 hb).symm,rfl⟩
 ·rintro k fr _ _ hlt ⟨rfl,f1,f7,f8,f9,rfl⟩
  obtain⟨a,ha⟩:=yQ5 hlt
  obtain⟨x,hkx,hx⟩:=hxs.get ha
  obtain⟨h1,h2⟩:=yX1 ha
  obtain⟨v2,n2,m⟩:=a
  have hcall:=fun st c=>wKg gl v2 n2 m x hx b st c
  obtain⟨tx,cx,rfl,htx,hcx⟩:=hx.mk
  simp only[Tm.size] at h1 h2
  simp(config:=zzC)only[go_sem,f1,f7,f8,f9,lt_i hlt,yQ1 htg,iNn,hkx,xYd]
  refine (hcall _ _ (ISt.put_same _ _ _) (by omega)).mono ?_
  rintro _ _ ⟨rfl,rfl⟩
  simp(config:=zzC)only[go_sem,f1,f7,f8,f9,xYd]
  refine (IH _ _ _ (lMg ha) tx cx htx hcx b _ (c+yQe (us.take k)+1) (ISt.put_same _ _ _) (by omega)).mono ?_
  rintro _ _ ⟨rfl,rfl⟩
  simp(config:=zzC)only[go_sem,f1,f7,f8,f9,yQf hlt (show us.length≤281474976710656 by omega)]
  simp only[yQ8]
  rw[h1,show c+yQe (us.take k)+1+yQe m=c+(yQe (us.take k)+(yQe m+1)) by omega]
  exact⟨rfl,rfl⟩
 ·rintro fr _ _ ⟨rfl,f1,f7,f8,f9,rfl⟩
  simp(config:=zzC)only[go_sem,f7,f8,f9,yQt (nLi _)]
  rw[lTl]
  exact yQ0 ⟨rfl,rfl⟩
theorem yGf:∀ (k:Nat)(us:List Tm),SizeOf.sizeOf us<k→CN gl us
 | 0,f,h=>by omega
 | k+1,us,h=>zZz gl us (fun v n m ha=>yGf k m (by
   have:=lSm ha
   simp at this; omega))
theorem zG2 (us:List Tm):CN gl us:=yGf gl _ us (Nat.lt_succ_self _)
mutual
def yZe:Fm→List Fm
 | .mk o n us sub=>.mk o n us sub::yZa sub
def yZa:List Fm→List Fm
 | []=>[]
 | a::l=>yZe a++yZa l
end
theorem yV2:∀ (l m:List Fm),yZa (l++m)=yZa l++yZa m
 | [],m=>by simp[yZa]
 | a::l,m=>by simp only[List.cons_append,yZa,yV2 l m,List.append_assoc]
def FOk (y:IV)(I:Nat→ISt→Prop)(S:ISt→Prop)(k0:Nat)(l:List Fm):Prop :=
 ∀ i z x stu,l[i]?=some z→IsFm z x→I (k0+i) stu→ICallV prog gl y [x] stu (xQj I S (k0+i+1))
theorem FOk.left {y:IV}{I:Nat→ISt→Prop}{S:ISt→Prop}{k0:Nat}{l m:List Fm}(h:FOk gl y I S k0 (l++m)):FOk gl y I S k0 l:=fun i z x stu hi hx hI =>
 h i z x stu (by rw[List.getElem?_append_left (lGs hi).1]; exact hi) hx hI
theorem FOk.right {y:IV}{I:Nat→ISt→Prop}{S:ISt→Prop}{k0:Nat}{l m:List Fm}(h:FOk gl y I S k0 (l++m)):FOk gl y I S (k0+l.length) m:=fun i z x stu hi hx hI=>by
 have:=h (l.length+i) z x stu (by rw[List.getElem?_append_right (by omega)]; simpa using hi) hx (by rw[← Nat.add_assoc]; exact hI)
 simpa only[Nat.add_assoc] using this
theorem FOk.head {y:IV}{I:Nat→ISt→Prop}{S:ISt→Prop}{k0:Nat}{z:Fm}{m:List Fm}(h:FOk gl y I S k0 (z::m)){x:IV}(hx:IsFm z x){st:ISt}(hI:I k0 st):ICallV prog gl y [x] st (xQj I S (k0+1)):=h 0 z x st rfl hx hI
theorem FOk.tail {y:IV}{I:Nat→ISt→Prop}{S:ISt→Prop}{k0:Nat}{z:Fm}{m:List Fm}(h:FOk gl y I S k0 (z::m)):FOk gl y I S (k0+1) m:=FOk.right gl (l:=[z]) h
def VV (f:Fm):Prop:=∀ (x:IV) (_:IsFm f x) (g:Fn) (fi ca:List IV) (_:fnOk g=true) (_:∀ i,g=.func i→entI prog i=true) (I:Nat→ISt→Prop) (S:ISt→Prop) (k0:Nat) (_:FOk gl (.fn g fi ca) I S k0 (yZe f)) (st:ISt) (_:I k0 st),
  ICall prog gl 222 [x,.fn g fi ca] st (xQj I S (k0+(yZe f).length))
theorem xVs (op:Nat)(n:ByteArray)(us:List Tm)(sub:List Fm)(IH:∀ a∈sub,VV gl a):VV gl (.mk op n us sub):=by
 intro x hx g fi ca hfn hent I S k0 hy st hI
 have hx0:=hx
 obtain⟨tg,xs,tg',ys,rfl,hop,htg,hxs,htg',hys⟩:=hx.mk
 simp only[yZe] at hy ⊢
 have hhead:=FOk.head gl hy hx0 hI
 have hy':=FOk.tail gl hy
 refine iI func222 rfl rfl (by kernel_rfl) ?_
 simp(config:=zzC)only[go_sem]
 refine yXd hent (hhead.mono ?_)
 rintro _ st (⟨rfl,h⟩ | ⟨rfl,h⟩)
 ·simp(config:=zzC)only[go_sem,hys.len]
  intro hlen
  refine LoopC.ctr sub.length (fun k fr st ds=>I (k0+1+(yZa (sub.take k)).length) st∧fr 1=.iv (.fn g fi ca)∧fr 12=.iv (.sl tg' ys)∧fr 13=.iv (.raw (.int .i64 sub.length))∧fr 14=.iv (.raw (.int .i64 k))∧ds=[]) ?_ ?_ ?_
  ·simp(config:=zzC)only[go_sem]
   exact⟨by simpa[yZa] using h,rfl⟩
  ·rintro k fr st _ hlt ⟨hst,f1,f12,f13,f14,rfl⟩
   obtain⟨a,ha⟩:=yQ5 hlt
   obtain⟨x,hkx,hx⟩:=hys.get ha
   have hsplit:yZa sub=yZa (sub.take k)++(yZe a++yZa (sub.drop (k+1))):=by
    conv=>lhs; rw[← List.take_append_drop k sub,List.drop_eq_getElem_cons hlt]
    rw[yV2,(lGs ha).2]; rfl
   have hya:=hy'
   rw[hsplit] at hya
   have hcall:=IH a (lMg ha) x hx g fi ca hfn hent I S _ (FOk.left gl (FOk.right gl hya)) st hst
   obtain⟨o2,n2,u2,s2⟩:=a
   obtain⟨t3,x3,t4,x4,rfl,_⟩:=hx.mk
   simp(config:=zzC)only[go_sem,f1,f12,f13,f14,lt_i hlt,yQ1 htg',iNn,hkx]
   refine hcall.mono ?_
   rintro _ st (⟨rfl,h⟩ | ⟨rfl,h⟩)
   ·simp(config:=zzC)only[go_sem,f1,f12,f13,f14,yQf hlt (show sub.length≤281474976710656 by omega)]
    rw[yQ6 ha,yV2,lLa,← Nat.add_assoc]
    simpa[yZa] using h
   ·simp(config:=zzC)only[go_sem]
    exact yQ0 (.inr ⟨rfl,h⟩)
  ·rintro fr st _ ⟨hst,f1,f12,f13,f14,rfl⟩
   simp(config:=zzC)only[go_sem,f13,f14,yQt (nLi _)]
   rw[lTl] at hst
   refine yQ0 (.inl ⟨rfl,?_⟩)
   rw[show k0+((yZa sub).length+1)=k0+1+(yZa sub).length by omega]; exact hst
 ·simp(config:=zzC)only[go_sem]
  exact yQ0 (.inr ⟨rfl,h⟩)
theorem zG1:∀ (k:Nat)(t:Fm),SizeOf.sizeOf t<k→VV gl t
 | 0,f,h=>by omega
 | k+1,.mk o n us sub,h=>xVs gl o n us sub (fun a ha=>zG1 k a (by
   have:=lSm ha
   simp at h; omega))
theorem wWv (t:Fm):VV gl t:=zG1 gl _ t (Nat.lt_succ_self _)
def xU7 (f:Fm)(k:Nat)(a:List IV):Prop:=∃ z x,(yZe f)[k]?=some z∧IsFm z x∧a=[x]
theorem xQk (f:Fm)(x:IV)(hx:IsFm f x)(I:Nat→ISt→Prop):IterC prog gl 221 [] [.cptr x] (xU7 f) (yZe f).length I:=by
 have hx0:=hx
 obtain⟨o,n,us,sub⟩:=f
 obtain⟨t1,x1,t2,x2,rfl,_⟩:=hx.mk
 rintro y I' S' st ⟨g,fi,ca,rfl,hfn,hent⟩ _ hy h0
 change ICall prog gl _ [.fn g fi ca,_] st _
 refine iI func221 rfl rfl (by kernel_rfl) ?_
 simp(config:=zzC)only[go_sem,fits]
 refine (wWv gl _ _ hx0 g fi ca hfn hent I' S' 0 ?_ st h0).mono ?_
 ·intro i z x stu hi hz hI
  rw[Nat.zero_add] at hI ⊢
  exact hy i [x] stu ⟨z,x,hi,hz,rfl⟩ hI
 ·rintro _ st' h
  simp(config:=zzC)only[go_sem]
  refine yQ0 ?_
  rw[Nat.zero_add] at h
  exact h.imp And.right And.right
theorem xYu (x:IV)(st:ISt)(f:Fm)(hx:IsFm f x):ICall prog gl 164 [x] st (fun r st'=>r=.fn (.func 221) [] [.cptr x]∧st'=st):=by
 obtain⟨o,n,us,sub⟩:=f
 obtain⟨t1,x1,t2,x2,rfl,_⟩:=hx.mk
 refine ICall.intro (c:=cf prog gl [] [] [1]) func164 rfl (by show _≤4; simp) (by kernel_rfl) ?_
 simp(config:=zzC)only[go_sem,fits]
 exact yQ0 ⟨rfl,rfl⟩
def xWi:Fm→Nat
 | .mk _ _ us _=>yQe us+1
def sumW:List Fm→Nat
 | []=>0
 | a::l=>xWi a+sumW l
theorem yW7:∀ (l m:List Fm),sumW (l++m)=sumW l+sumW m
 | [],m=>by simp[sumW]
 | a::l,m=>by simp only[List.cons_append,sumW,yW7 l m]; omega
mutual
theorem zKw:∀ f:Fm,sumW (yZe f)=f.size
 | .mk o n us sub=>by simp only[yZe,sumW,xWi,Fm.size,zXa sub]; omega
theorem zXa:∀ l:List Fm,sumW (yZa l)=yQ7 l
 | []=>rfl
 | a::l=>by simp only[yZa,yW7,yQ7,zKw a,zXa l]
end
theorem xGc {l:List Fm}{k:Nat}{a:Fm}(h:l[k]?=some a):sumW (l.take (k+1))=sumW (l.take k)+xWi a∧sumW (l.take k)+xWi a≤sumW l:=by
 have h1:sumW (l.take (k+1))=sumW (l.take k)+xWi a:=by rw[yQ6 h,yW7]; simp[sumW]
 refine⟨h1,?_⟩
 rw[← h1]
 conv=>rhs; rw[← List.take_append_drop (k+1) l,yW7]
 omega
theorem wU0 (f:Fm)(x:IV)(hx:IsFm f x)(hs:f.size≤4611686018427387904)(st:ISt) :
  ICall prog gl 318 [x,bigI] st (fun r st'=>r=.raw (.int .i64 f.size)∧st'=st):=by
 have hx0:=hx
 rw[← zKw f] at hs ⊢
 have hwalk:=fun st=>xYu gl x st f hx0
 have hiter:=xQk gl f x hx0
 generalize hfw:yZe f=l at hs hiter ⊢
 have hX:∀ k a,xU7 f k a→∃ z x,l[k]?=some z∧IsFm z x∧a=[x]:=fun k a h=>by rw[← hfw]; exact h
 generalize xU7 f=X at hiter hX
 obtain⟨o,n,us,sub⟩:=f
 obtain⟨t1,x1,t2,x2,rfl,_⟩:=hx.mk
 refine ICall.intro (c:=cf prog gl [5] [] [3]) func318 rfl (by show _≤20; simp) (by kernel_rfl) ?_
 simp(config:=zzC)only[go_sem,bigI,fits]
 refine fun b=>yQa fun hb=>?_
 refine (hwalk _).mono ?_
 rintro _ _ ⟨rfl,rfl⟩
 simp(config:=zzC)only[go_sem,fits]
 refine RangeC.intro X l.length (fun k st'=>st'=st.put b (cBox ((sumW (l.take k):Nat):Int))) (fun _ _=>False) rfl ?_ ?_ ?_ (hiter _) ?_ (fun _ _ _ h=>h.elim)
 ·intro k a ha
  obtain⟨z,x,_,_,rfl⟩:=hX k a ha
  rfl
 ·rw[yQ8]; rfl
 ·rintro k a _ hk rfl
  obtain⟨z,x,hz,hzx,rfl⟩:=hX k a hk
  obtain⟨h1,h2⟩:=xGc hz
  obtain⟨o2,n2,u2,s2⟩:=z
  obtain⟨t3,x3,t4,x4,rfl,_,ht3,hx3,_⟩:=hzx.mk
  simp only[xWi] at h1 h2
  have hw:IntKind.i64.wrap (((sumW (l.take k):Nat):Int)+1)=((sumW (l.take k)+1:Nat):Int):=by rw[w64]<;>omega
  simp(config:=zzC)only[go_sem,ISt.put_same,cBox,fits,hw]
  refine (zG2 gl u2 t3 x3 ht3 hx3 b _ (sumW (l.take k)+1) (ISt.put_same _ _ _) (by omega)).mono ?_
  rintro _ _ ⟨rfl,rfl⟩
  have hgt:decide ((9223372036854775807:Int)<((sumW (l.take k)+1+yQe u2:Nat):Int))=false:=by simp; omega
  simp(config:=zzC)only[go_sem,ISt.put_same,cBox,fits,hgt]
  rw[yQ8,yQ8,h1,show sumW (l.take k)+(yQe u2+1)=sumW (l.take k)+1+yQe u2 by omega]
 ·rintro _ r rfl
  simp(config:=zzC)only[go_sem,ISt.put_same,fits,cBox]
  rw[lTl]
  exact yQb (yQc hb) ⟨rfl,rfl⟩
theorem wUf (f:Fm)(x:IV)(hx:IsFm f x)(hs:f.size≤4611686018427387904)(st:ISt) :
  ICall prog gl 292 [x] st (fun r st'=>r=.raw (.int .i64 f.size)∧st'=st):=by
 have hcall:=fun st=>wU0 gl f x hx hs st
 generalize f.size=z at hcall ⊢
 obtain⟨o,n,us,sub⟩:=f
 obtain⟨t1,x1,t2,x2,rfl,_⟩:=hx.mk
 refine iI func292 rfl rfl (by kernel_rfl) ?_
 simp(config:=zzC)only[go_sem,fits]
 refine (hcall _).mono ?_
 rintro _ _ ⟨rfl,rfl⟩
 simp(config:=zzC)only[go_sem,fits]
 exact yQ0 ⟨rfl,rfl⟩
end Go.Proofs.Tryz
