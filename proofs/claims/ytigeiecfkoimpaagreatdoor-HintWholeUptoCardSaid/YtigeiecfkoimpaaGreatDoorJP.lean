/- Walks: depths. -/
import Derived.Test.YtigeiecfkoimpaaGreatDoorJO
set_option linter.all false
open Nat renaming reduceEqDiff → zE,reduceAdd → zA,reduceLeDiff → zL
namespace Go.Proofs.Tryz
open Go Go.Iv
set_option maxRecDepth 4000
variable (gl:Nat->Option IV)
def Kx {l:List Tm}{k:Nat}{a:Tm}(h:l[k]?=some a):fB (l.take (k+1))=max (fB (l.take k)) a.deep/\a.deep<=fB l:=by
 have h1:fB (l.take (k+1))=max (fB (l.take k)) a.deep:=by rw[dM h,xB];simp[fB]
 refine⟨h1,?_⟩;have:fB l=max (fB (l.take (k+1))) (fB (l.drop (k+1))):=by conv=>lhs;rw[<- eA (k+1) l,xB]
 omega
def Ky {l:List Fm}{k:Nat}{a:Fm}(h:l[k]?=some a):fX (l.take (k+1))=max (fX (l.take k)) a.deep/\a.deep<=fX l:=by
 have h1:fX (l.take (k+1))=max (fX (l.take k)) a.deep:=by rw[dM h,xC];simp[fX]
 refine⟨h1,?_⟩;have:fX l=max (fX (l.take (k+1))) (fX (l.drop (k+1))):=by conv=>lhs;rw[<- eA (k+1) l,xC]
 omega
def TD (us:List Tm):Prop:=∀(t:Tag) (xs:List IV) (_:okEs t 3) (_:IsTms us xs) (_:fB us<=4611686018427387904) (st:ISt),
 ICall prog gl 246 [.sl t xs] st (λr st'=>r=(fB us:Int)/\st'=st)
def Kz (us:List Tm)(IH:∀v n m,Tm.mk v n m∈us->TD gl m):TD gl us:=by
 intro tg xs J E hd st;refine iI func246 ?_;simp only[go_sem,reduceCtorEq,E.len];intro ac;refine dt us.length (λk fr st' ds=>fr 3=(fB (us.take k):Int)/\fr 6=.iv (.sl tg xs)/\fr 7=us.length/\fr 8=.iv (.raw (.int .i64 k))/\st'=st/\ds=[]) ?_ ?_ ?_
 ·simp only[go_sem,zE];simp[fB]
 ·rintro k fr _ _ D ⟨f3,f6,f7,f8,rfl,rfl⟩;obtain⟨a,ha⟩:=dD D;obtain⟨x,O,hx⟩:=E.get ha;obtain⟨h1,h2⟩:=Kx ha;obtain⟨v2,n2,m⟩:=a;obtain⟨tx,cx,rfl,G,aa⟩:=hx.mk;simp only[Tm.deep] at h1 h2;simp only[go_sem,zE,zA,zL,f3,f6,f7,f8,lt_i D,dB J,iNn,O];refine (IH _ _ _ (lMg ha) tx cx G aa (by omega) _).q ?_;have hw:IntKind.i64.wrap (((fB m:Nat):Int)+1)=((fB m+1:Nat):Int):=by rw[w64]<;>omega
  have hm:max ((fB (us.take k):Nat):Int) ((fB m+1:Nat):Int)=((fB (us.take (k+1)):Nat):Int):=by rw[h1];omega
  simp only[go_sem,zE,f6,f7,f8,dL D (by omega),hw,hm]
 ·rintro fr _ _ ⟨f3,f6,f7,f8,rfl,rfl⟩;simp only[go_sem,zE,f3,f7,f8,dS (nLi _)];rw[lTl];exact c_ ⟨rfl,rfl⟩
def CI:∀(k:Nat)(us:List Tm),SizeOf.sizeOf us<k->TD gl us
 | 0,f,h=>by omega
 | k+1,us,h=>Kz gl us (λv n m D=>CI k m (by
   have:=lSm D;simp at this;omega))
def KA (us:List Tm):TD gl us:=CI gl _ us (eS _)
def DF (f:Fm):Prop:=∀(x:IV) (_:IsFm f x) (_:f.deep<=4611686018427387904) (st:ISt),
 ICall prog gl 213 [x] st (λr st'=>r=f.deep/\st'=st)
def KB (op:Nat)(n:ByteArray)(us:List Tm)(sub:List Fm)(IH:∀a∈sub,DF gl a):DF gl (.mk op n us sub):=by
 intro x J hd st;obtain⟨tg,xs,O,ys,rfl,ai,ab,aa,G,hys⟩:=J.mk;simp only[Fm.deep] at hd ⊢;refine iI func213 ?_;simp only[go_sem,zE,zA];refine (KA gl us tg xs ab aa (by omega) _).q ?_;simp only[go_sem,zE,hys.len];intro af;refine dt sub.length (λk fr st' ds=>fr 3=(max (fB us) (fX (sub.take k)):Nat)/\fr 10=.iv (.sl O ys)/\fr 11=.iv (.raw (.int .i64 sub.length))/\fr 12=.iv (.raw (.int .i64 k))/\st'=st/\ds=[]) ?_ ?_ ?_
 ·simp only[go_sem,zE];simp[fX]
 ·rintro k fr st _ D ⟨f3,f10,f11,f12,rfl,rfl⟩;obtain⟨a,ha⟩:=dD D;obtain⟨x,ac,J⟩:=hys.get ha;obtain⟨h1,h2⟩:=Ky ha;have E:=IH a (lMg ha) x J (by omega) st;have hm:max ((max (fB us) (fX (sub.take k)):Nat):Int) ((a.deep:Nat):Int)=((max (fB us) (fX (sub.take (k+1))):Nat):Int):=by rw[h1];omega
  obtain⟨o2,n2,u2,s2⟩:=a;obtain⟨t3,x3,t4,x4,rfl,_⟩:=J.mk;simp only[go_sem,zE,zA,zL,f3,f10,f11,f12,lt_i D,dB G,iNn,ac];refine E.mono ?_;rintro _ _ ⟨rfl,rfl⟩;simp only[go_sem,zE,f10,f11,f12,dL D (by omega),hm]
 ·rintro fr _ _ ⟨f3,f10,f11,f12,rfl,rfl⟩;have hw:IntKind.i64.wrap (((max (fB us) (fX sub):Nat):Int)+1)=((max (fB us) (fX sub)+1:Nat):Int):=by rw[w64]<;>omega
  rw[lTl] at f3;simp only[go_sem,zE,f3,f11,f12,dS (nLi _),hw];exact c_ ⟨rfl,rfl⟩
def CJ:∀(k:Nat)(t:Fm),SizeOf.sizeOf t<k->DF gl t
 | 0,f,h=>by omega
 | k+1,.mk o n us sub,h=>KB gl o n us sub (λa D=>CJ k a (by
   have:=lSm D;simp at h;omega))
def KC (t:Fm):DF gl t:=CJ gl _ t (eS _)
def cBox (n:Int):Option IObj:=some (.box [n])
def bigI:IV:=(9223372036854775807:Int)
def pP (b:Nat):IV:=.fn (.func 270) [] [.raw (.pointer (some ⟨b,0,none⟩)),.cptr bigI]
def KD (v:Bool)(n:ByteArray)(us:List Tm)(x:IV)(E:IsTm (.mk v n us) x)(b:Nat)(st:ISt)(c:Nat)(J:st b=cBox c)(hc:c+1<=4611686018427387904) :
  ICall prog gl 270 [x,.raw (.pointer (some ⟨b,0,none⟩)),.cptr bigI] st (λr st'=>r=true/\st'=st.put b (cBox ((c+1:Nat):Int))):=by
 obtain⟨O,cx,rfl,_⟩:=E.mk;refine iI func270 ?_;have G:IntKind.i64.wrap (((c:Nat):Int)+1)=((c+1:Nat):Int):=by rw[w64]<;>omega
 have D:decide (((c+1:Nat):Int)<=9223372036854775807)=true:=by simp;omega
 simp only[go_sem,zE,zL,J,cBox,bigI,G,b_,D];exact c_ ⟨rfl,rfl⟩
def CN (us:List Tm):Prop:=∀(t:Tag) (xs:List IV) (_:okEs t 3) (_:IsTms us xs) (b:Nat) (st:ISt) (c:Nat) (_:st b=cBox c) (_:c+el us<=4611686018427387904),
 ICall prog gl 269 [.sl t xs,pP b] st (λr st'=>r=true/\st'=st.put b (cBox ((c+el us:Nat):Int)))
def KE (us:List Tm)(IH:∀v n m,Tm.mk v n m∈us->CN gl m):CN gl us:=by
 intro tg xs O G b st c hb hc;refine iI func269 ?_;simp only[go_sem,reduceCtorEq,G.len,pP];intro af;refine dt us.length (λk fr st' ds=>st'=st.put b (cBox ((c+el (us.take k):Nat):Int))/\fr 1=(pP b)/\fr 7=.iv (.sl tg xs)/\fr 8=us.length/\fr 9=.iv (.raw (.int .i64 k))/\ds=[]) ?_ ?_ ?_
 ·simp only[go_sem,zE,pP];simp only[el,iO];exact⟨(jy hb).symm,rfl⟩
 ·rintro k fr _ _ D ⟨rfl,f1,f7,f8,f9,rfl⟩;obtain⟨a,ha⟩:=dD D;obtain⟨x,aa,hx⟩:=G.get ha;obtain⟨h1,h2⟩:=mP ha;obtain⟨v2,n2,m⟩:=a;have E:=λst c=>KD gl v2 n2 m x hx b st c;obtain⟨tx,cx,rfl,J,ab⟩:=hx.mk;simp only[Tm.size] at h1 h2;simp only[go_sem,zE,zA,zL,f1,f7,f8,f9,lt_i D,dB O,iNn,aa,pP];refine (E _ _ (b_ _ _ _) (by omega)).q ?_;simp only[go_sem,zE,zA,f1,pP];refine (IH _ _ _ (lMg ha) tx cx J ab b _ (c+el (us.take k)+1) (b_ _ _ _) (by omega)).q ?_;simp only[go_sem,zE,f1,f7,f8,f9,dL D (by omega)];simp only[eN];rw[h1,show c+el (us.take k)+1+el m=c+(el (us.take k)+(el m+1)) by omega];exact⟨rfl,rfl⟩
 ·rintro fr _ _ ⟨rfl,f1,f7,f8,f9,rfl⟩;simp only[go_sem,f8,f9,dS (nLi _)];rw[lTl];exact c_ ⟨rfl,rfl⟩
def CK:∀(k:Nat)(us:List Tm),SizeOf.sizeOf us<k->CN gl us
 | 0,f,h=>by omega
 | k+1,us,h=>KE gl us (λv n m D=>CK k m (by
   have:=lSm D;simp at this;omega))
def KF (us:List Tm):CN gl us:=CK gl _ us (eS _)
mutual
def mi:Fm->List Fm
 | .mk o n us sub=>.mk o n us sub::js sub
def js:List Fm->List Fm
 | []=>[]
 | a::l=>mi a++js l
end
def xG:∀(l m:List Fm),js (l++m)=js l++js m
 | [],m=>by simp[js]
 | a::l,m=>by simp only[eu,js,xG l m,et]
def FOk (y:IV)(I:Nat->ISt->Prop)(S:ISt->Prop)(k0:Nat)(l:List Fm):Prop :=
 ∀i z x stu,l[i]?=some z->IsFm z x->I (k0+i) stu->ICallV prog gl y [x] stu (oH I S (k0+i+1))
def FOk.left {y:IV}{I:Nat->ISt->Prop}{S:ISt->Prop}{k0:Nat}{l m:List Fm}(h:FOk gl y I S k0 (l++m)):FOk gl y I S k0 l:=λi z x stu D E G =>
 h i z x stu (by rw[fg (lGs D).1];exact D) E G
def FOk.right {y:IV}{I:Nat->ISt->Prop}{S:ISt->Prop}{k0:Nat}{l m:List Fm}(h:FOk gl y I S k0 (l++m)):FOk gl y I S (k0+l.length) m:=λi z x stu E D G=>by
 have:=h (l.length+i) z x stu (by rw[fD (by omega)];simpa using E) D (by rw[<- gO];exact G);simpa only[gO] using this
def FOk.head {y:IV}{I:Nat->ISt->Prop}{S:ISt->Prop}{k0:Nat}{z:Fm}{m:List Fm}(h:FOk gl y I S k0 (z::m)){x:IV}(D:IsFm z x){st:ISt}(E:I k0 st):ICallV prog gl y [x] st (oH I S (k0+1)):=h 0 z x st rfl D E
def FOk.tail {y:IV}{I:Nat->ISt->Prop}{S:ISt->Prop}{k0:Nat}{z:Fm}{m:List Fm}(h:FOk gl y I S k0 (z::m)):FOk gl y I S (k0+1) m:=FOk.right gl (l:=[z]) h
def VV (f:Fm):Prop:=∀(x:IV) (_:IsFm f x) (g:Fn) (D ca:List IV) (_:fnOk g=true) (_:∀i,g=.func i->entI prog i=true) (I:Nat->ISt->Prop) (S:ISt->Prop) (k0:Nat) (_:FOk gl (.fn g D ca) I S k0 (mi f)) (st:ISt) (_:I k0 st),
  ICall prog gl 280 [x,.fn g D ca] st (oH I S (k0+(mi f).length))
def KG (op:Nat)(n:ByteArray)(us:List Tm)(sub:List Fm)(IH:∀a∈sub,VV gl a):VV gl (.mk op n us sub):=by
 intro x hx g fi ca ak G I S k0 hy st hI;have ai:=hx;obtain⟨tg,xs,af,ys,rfl,aq,ao,an,ac,hys⟩:=hx.mk;simp only[mi] at hy ⊢;have J:=FOk.head gl hy ai hI;have ag:=FOk.tail gl hy;refine iI func280 ?_;simp only[go_sem,zE,zA,zL];refine lO G (J.mono ?_);rintro _ st (⟨rfl,h⟩|⟨rfl,h⟩)
 ·simp only[go_sem,zE,hys.len];intro al;refine dt sub.length (λk fr st ds=>I (k0+1+(js (sub.take k)).length) st/\fr 1=.iv (.fn g fi ca)/\fr 12=.iv (.sl af ys)/\fr 13=sub.length/\fr 14=.iv (.raw (.int .i64 k))/\ds=[]) ?_ ?_ ?_
  ·simp only[go_sem,zE];exact⟨by simpa[js] using h,rfl⟩
  ·rintro k fr st _ E ⟨hst,f1,f12,f13,f14,rfl⟩;obtain⟨a,ha⟩:=dD E;obtain⟨x,aj,hx⟩:=hys.get ha;have D:js sub=js (sub.take k)++(mi a++js (sub.drop (k+1))):=by
    conv=>lhs;rw[<- eA k sub,fC E]
    rw[xG,(lGs ha).2];rfl
   have aa:=ag;rw[D] at aa;have O:=IH a (lMg ha) x hx g fi ca ak G I S _ (FOk.left gl (FOk.right gl aa)) st hst;obtain⟨o2,n2,u2,s2⟩:=a;obtain⟨t3,x3,t4,x4,rfl,_⟩:=hx.mk;simp only[go_sem,zE,zA,zL,f1,f12,f13,f14,lt_i E,dB ac,iNn,aj];refine O.mono ?_;rintro _ st (⟨rfl,h⟩|⟨rfl,h⟩)
   ·simp only[go_sem,zE,f1,f12,f13,f14,dL E (by omega)];rw[dM ha,xG,lLa,<- gO];simpa[js] using h
   ·simp only[go_sem];exact c_ (.inr ⟨rfl,h⟩)
  ·rintro fr st _ ⟨hst,f1,f12,f13,f14,rfl⟩;simp only[go_sem,f13,f14,dS (nLi _)];rw[lTl] at hst;refine c_ (.inl ⟨rfl,?_⟩);rw[show k0+((js sub).length+1)=k0+1+(js sub).length by omega];exact hst
 ·simp only[go_sem];exact c_ (.inr ⟨rfl,h⟩)
def CL:∀(k:Nat)(t:Fm),SizeOf.sizeOf t<k->VV gl t
 | 0,f,h=>by omega
 | k+1,.mk o n us sub,h=>KG gl o n us sub (λa D=>CL k a (by
   have:=lSm D;simp at h;omega))
def KH (t:Fm):VV gl t:=CL gl _ t (eS _)
def xH (f:Fm)(k:Nat)(a:List IV):Prop:=∃z x,(mi f)[k]?=some z/\IsFm z x/\a=[x]
def KI (f:Fm)(x:IV)(J:IsFm f x)(I:Nat->ISt->Prop):IterC prog gl 279 [] [.cptr x] (xH f) (mi f).length I:=by
 have E:=J;obtain⟨o,n,us,sub⟩:=f;obtain⟨t1,x1,t2,x2,rfl,_⟩:=J.mk;rintro y I' S' st ⟨g,fi,ca,rfl,G,D⟩ _ hy h0;change ICall prog gl _ [.fn g fi ca,_] st _;refine iI func279 ?_;simp only[go_sem,zE,zA,reduceCtorEq,fits];refine (KH gl _ _ E g fi ca G D I' S' 0 ?_ st h0).mono ?_
 ·intro i z x stu hi hz O;rw[dY] at O ⊢;exact hy i [x] stu ⟨z,x,hi,hz,rfl⟩ O
 ·rintro _ st' h;simp only[go_sem];refine c_ ?_;rw[dY] at h;exact h.imp And.right And.right
def KJ (x:IV)(st:ISt)(f:Fm)(D:IsFm f x):ICall prog gl 268 [x] st (λr st'=>r=.fn (.func 279) [] [.cptr x]/\st'=st):=by
 obtain⟨o,n,us,sub⟩:=f;obtain⟨t1,G,t2,E,rfl,_⟩:=D.mk;refine ICall.intro (c:=cf prog gl [] [] [1]) func268 rfl (by show _<=4;simp) (by kernel_rfl) ?_;simp only[go_sem,zE];exact c_ ⟨rfl,rfl⟩
def pQ:Fm->Nat
 | .mk _ _ us _=>el us+1
def sumW:List Fm->Nat
 | []=>0
 | a::l=>pQ a+sumW l
def ur:∀(l m:List Fm),sumW (l++m)=sumW l+sumW m
 | [],m=>by simp[sumW]
 | a::l,m=>by simp only[eu,sumW,ur l m];omega
mutual
def CM:∀f:Fm,sumW (mi f)=f.size
 | .mk o n us sub=>by simp only[mi,sumW,pQ,Fm.size,CO sub];omega
def CO:∀l:List Fm,sumW (js l)=dV l
 | []=>rfl
 | a::l=>by simp only[js,ur,dV,CM a,CO l]
end
def KK {l:List Fm}{k:Nat}{a:Fm}(h:l[k]?=some a):sumW (l.take (k+1))=sumW (l.take k)+pQ a/\sumW (l.take k)+pQ a<=sumW l:=by
 have h1:sumW (l.take (k+1))=sumW (l.take k)+pQ a:=by rw[dM h,ur];simp[sumW]
 refine⟨h1,?_⟩;rw[<- h1]
 conv=>rhs;rw[<- eA (k+1) l,ur]
 omega
def KL (f:Fm)(x:IV)(hx:IsFm f x)(hs:f.size<=4611686018427387904)(st:ISt) :
  ICall prog gl 245 [x,bigI] st (λr st'=>r=f.size/\st'=st):=by
 have G:=hx;rw[<- CM f] at hs ⊢;have E:=λst=>KJ gl x st f G;have D:=KI gl f x G;generalize ae:mi f=l at hs D ⊢;have hX:∀k a,xH f k a->∃z x,l[k]?=some z/\IsFm z x/\a=[x]:=λk a h=>by rw[<- ae];exact h
 generalize xH f=X at D hX;obtain⟨o,n,us,sub⟩:=f;obtain⟨t1,x1,t2,x2,rfl,_⟩:=hx.mk;refine ICall.intro (c:=cf prog gl [5] [] [3]) func245 rfl (by show _<=20;simp) (by kernel_rfl) ?_;simp only[go_sem,zE,zA,zL,bigI];refine λb=>d_ λhb=>?_;refine (E _).q ?_;simp only[go_sem,reduceCtorEq];refine RangeC.intro X l.length (λk st'=>st'=st.put b (cBox ((sumW (l.take k):Nat):Int))) (λ_ _=>False) rfl ?_ ?_ ?_ (D _) ?_ (λ_ _ _ h=>h.elim)
 ·intro k a ha;obtain⟨z,x,_,_,rfl⟩:=hX k a ha;rfl
 ·rw[eN];rfl
 ·rintro k a _ hk rfl;obtain⟨z,x,hz,O,rfl⟩:=hX k a hk;obtain⟨h1,h2⟩:=KK hz;obtain⟨o2,n2,J,s2⟩:=z;obtain⟨t3,x3,t4,x4,rfl,_,ab,aa,_⟩:=O.mk;simp only[pQ] at h1 h2;have hw:IntKind.i64.wrap (((sumW (l.take k):Nat):Int)+1)=((sumW (l.take k)+1:Nat):Int):=by rw[w64]<;>omega
  simp only[go_sem,zE,zA,zL,b_,cBox,hw];refine (KF gl J t3 x3 ab aa b _ (sumW (l.take k)+1) (b_ _ _ _) (by omega)).q ?_;have ac:decide ((9223372036854775807:Int)<((sumW (l.take k)+1+el J:Nat):Int))=false:=by simp;omega
  simp only[go_sem,zE,b_,cBox,fits,ac];rw[eN,eN,h1,show sumW (l.take k)+(el J+1)=sumW (l.take k)+1+el J by omega]
 ·rintro _ r rfl;simp only[go_sem,zE,b_,cBox];rw[lTl];exact eI (fb hb) ⟨rfl,rfl⟩
def KM (f:Fm)(x:IV)(E:IsFm f x)(hs:f.size<=4611686018427387904)(st:ISt) :
  ICall prog gl 212 [x] st (λr st'=>r=f.size/\st'=st):=by
 have D:=λst=>KL gl f x E hs st;generalize f.size=z at D ⊢;obtain⟨o,n,us,sub⟩:=f;obtain⟨t1,J,t2,G,rfl,_⟩:=E.mk;refine iI func212 ?_;simp only[go_sem,zE,zA,zL];refine (D _).q ?_;simp only[go_sem];exact c_ ⟨rfl,rfl⟩
