/- Walks: depths. -/
import Derived.Test.YtakbihknkdpmgaaGreatDoorJO
set_option linter.all false
open Nat renaming reduceEqDiff → zE,reduceAdd → zA,reduceLeDiff → zL
namespace Go.Proofs.Tryz
open Go Go.Iv
set_option maxRecDepth 4000
variable (gl:Nat->Option IV)
def Km {l:List Tm}{k:Nat}{a:Tm}(h:l[k]?=some a):eu (l.take (k+1))=max (eu (l.take k)) a.deep/\a.deep<=eu l:=by
 have h1:eu (l.take (k+1))=max (eu (l.take k)) a.deep:=by rw[dE h,w9];simp[eu]
 refine⟨h1,?_⟩;have:eu l=max (eu (l.take (k+1))) (eu (l.drop (k+1))):=by conv=>lhs;rw[<- el (k+1) l,w9]
 omega
def Kn {l:List Fm}{k:Nat}{a:Fm}(h:l[k]?=some a):eU (l.take (k+1))=max (eU (l.take k)) a.deep/\a.deep<=eU l:=by
 have h1:eU (l.take (k+1))=max (eU (l.take k)) a.deep:=by rw[dE h,w_];simp[eU]
 refine⟨h1,?_⟩;have:eU l=max (eU (l.take (k+1))) (eU (l.drop (k+1))):=by conv=>lhs;rw[<- el (k+1) l,w_]
 omega
def TD (us:List Tm):Prop:=∀(t:Tag) (A:List IV) (_:okEs t 3) (_:IsTms us A) (_:eu us<=4611686018427387904) (st:ISt),
 ICall prog gl 307 [.sl t A] st (λr st'=>r=(eu us:Int)/\st'=st)
def Ko (us:List Tm)(IH:∀v n m,Tm.mk v n m∈us->TD gl m):TD gl us:=by
 intro tg xs G D hd st;refine iI func307 ?_;simp only[go_sem,reduceCtorEq,D.len];intro aa;refine dj us.length (λk fr st' ds=>fr 3=(eu (us.take k):Int)/\fr 6=.iv (.sl tg xs)/\fr 7=us.length/\fr 8=.iv (.raw (.int .i64 k))/\st'=st/\ds=[]) ?_ ?_ ?_
 ·simp only[go_sem,zE];simp[eu]
 ·rintro k fr _ _ A ⟨f3,f6,f7,f8,rfl,rfl⟩;obtain⟨a,U⟩:=dB A;obtain⟨x,J,hx⟩:=D.get U;obtain⟨h1,h2⟩:=Km U;obtain⟨v2,n2,m⟩:=a;obtain⟨tx,cx,rfl,E,O⟩:=hx.mk;simp only[Tm.deep] at h1 h2;simp only[go_sem,zE,zA,zL,f3,f6,f7,f8,lt_i A,dz G,iNn,J];refine (IH _ _ _ (lMg U) tx cx E O (by omega) _).q ?_;have hw:IntKind.i64.wrap (((eu m:Nat):Int)+1)=((eu m+1:Nat):Int):=by rw[w64]<;>omega
  have hm:max ((eu (us.take k):Nat):Int) ((eu m+1:Nat):Int)=((eu (us.take (k+1)):Nat):Int):=by rw[h1];omega
  simp only[go_sem,zE,f6,f7,f8,dC A (by omega),hw,hm]
 ·rintro fr _ _ ⟨f3,f6,f7,f8,rfl,rfl⟩;simp only[go_sem,zE,f3,f7,f8,dF (nLi _)];rw[lTl];exact c_ ⟨rfl,rfl⟩
def Cu:∀(k:Nat)(us:List Tm),SizeOf.sizeOf us<k->TD gl us
 | 0,f,h=>by omega
 | k+1,us,h=>Ko gl us (λv n m A=>Cu k m (by
   have:=lSm A;simp at this;omega))
def Kp (us:List Tm):TD gl us:=Cu gl _ us (ew _)
def DF (f:Fm):Prop:=∀(x:IV) (_:IsFm f x) (_:f.deep<=4611686018427387904) (st:ISt),
 ICall prog gl 273 [x] st (λr st'=>r=f.deep/\st'=st)
def Kq (op:Nat)(n:ByteArray)(us:List Tm)(sub:List Fm)(IH:∀a∈sub,DF gl a):DF gl (.mk op n us sub):=by
 intro x G hd st;obtain⟨tg,xs,J,ys,rfl,ah,U,O,E,hys⟩:=G.mk;simp only[Fm.deep] at hd ⊢;refine iI func273 ?_;simp only[go_sem,zE,zA];refine (Kp gl us tg xs U O (by omega) _).q ?_;simp only[go_sem,zE,hys.len];intro ac;refine dj sub.length (λk fr st' ds=>fr 3=(max (eu us) (eU (sub.take k)):Nat)/\fr 10=.iv (.sl J ys)/\fr 11=.iv (.raw (.int .i64 sub.length))/\fr 12=.iv (.raw (.int .i64 k))/\st'=st/\ds=[]) ?_ ?_ ?_
 ·simp only[go_sem,zE];simp[eU]
 ·rintro k fr st _ A ⟨f3,f10,f11,f12,rfl,rfl⟩;obtain⟨a,ha⟩:=dB A;obtain⟨x,aa,G⟩:=hys.get ha;obtain⟨h1,h2⟩:=Kn ha;have D:=IH a (lMg ha) x G (by omega) st;have hm:max ((max (eu us) (eU (sub.take k)):Nat):Int) ((a.deep:Nat):Int)=((max (eu us) (eU (sub.take (k+1))):Nat):Int):=by rw[h1];omega
  obtain⟨o2,n2,u2,s2⟩:=a;obtain⟨t3,x3,t4,x4,rfl,_⟩:=G.mk;simp only[go_sem,zE,zA,zL,f3,f10,f11,f12,lt_i A,dz E,iNn,aa];refine D.mono ?_;rintro _ _ ⟨rfl,rfl⟩;simp only[go_sem,zE,f10,f11,f12,dC A (by omega),hm]
 ·rintro fr _ _ ⟨f3,f10,f11,f12,rfl,rfl⟩;have hw:IntKind.i64.wrap (((max (eu us) (eU sub):Nat):Int)+1)=((max (eu us) (eU sub)+1:Nat):Int):=by rw[w64]<;>omega
  rw[lTl] at f3;simp only[go_sem,zE,f3,f11,f12,dF (nLi _),hw];exact c_ ⟨rfl,rfl⟩
def Cv:∀(k:Nat)(t:Fm),SizeOf.sizeOf t<k->DF gl t
 | 0,f,h=>by omega
 | k+1,.mk o n us sub,h=>Kq gl o n us sub (λa A=>Cv k a (by
   have:=lSm A;simp at h;omega))
def Kr (t:Fm):DF gl t:=Cv gl _ t (ew _)
def cBox (n:Int):Option IObj:=some (.box [n])
def bigI:IV:=(9223372036854775807:Int)
def pI (b:Nat):IV:=.fn (.func 325) [] [.raw (.pointer (some ⟨b,0,none⟩)),.cptr bigI]
def Ks (v:Bool)(n:ByteArray)(us:List Tm)(x:IV)(D:IsTm (.mk v n us) x)(b:Nat)(st:ISt)(c:Nat)(G:st b=cBox c)(hc:c+1<=4611686018427387904) :
  ICall prog gl 325 [x,.raw (.pointer (some ⟨b,0,none⟩)),.cptr bigI] st (λr st'=>r=true/\st'=st.put b (cBox ((c+1:Nat):Int))):=by
 obtain⟨J,cx,rfl,_⟩:=D.mk;refine iI func325 ?_;have E:IntKind.i64.wrap (((c:Nat):Int)+1)=((c+1:Nat):Int):=by rw[w64]<;>omega
 have A:decide (((c+1:Nat):Int)<=9223372036854775807)=true:=by simp;omega
 simp only[go_sem,zE,zL,G,cBox,bigI,E,b_,A];exact c_ ⟨rfl,rfl⟩
def CN (us:List Tm):Prop:=∀(t:Tag) (A:List IV) (_:okEs t 3) (_:IsTms us A) (b:Nat) (st:ISt) (c:Nat) (_:st b=cBox c) (_:c+dP us<=4611686018427387904),
 ICall prog gl 324 [.sl t A,pI b] st (λr st'=>r=true/\st'=st.put b (cBox ((c+dP us:Nat):Int)))
def Ku (us:List Tm)(IH:∀v n m,Tm.mk v n m∈us->CN gl m):CN gl us:=by
 intro tg xs J E b st c hb hc;refine iI func324 ?_;simp only[go_sem,reduceCtorEq,E.len,pI];intro ac;refine dj us.length (λk fr st' ds=>st'=st.put b (cBox ((c+dP (us.take k):Nat):Int))/\fr 1=(pI b)/\fr 7=.iv (.sl tg xs)/\fr 8=us.length/\fr 9=.iv (.raw (.int .i64 k))/\ds=[]) ?_ ?_ ?_
 ·simp only[go_sem,zE,pI];simp only[dP,iH];exact⟨(jo hb).symm,rfl⟩
 ·rintro k fr _ _ A ⟨rfl,f1,f7,f8,f9,rfl⟩;obtain⟨a,ha⟩:=dB A;obtain⟨x,O,hx⟩:=E.get ha;obtain⟨h1,h2⟩:=mc ha;obtain⟨v2,n2,m⟩:=a;have D:=λst c=>Ks gl v2 n2 m x hx b st c;obtain⟨tx,cx,rfl,G,U⟩:=hx.mk;simp only[Tm.size] at h1 h2;simp only[go_sem,zE,zA,zL,f1,f7,f8,f9,lt_i A,dz J,iNn,O,pI];refine (D _ _ (b_ _ _ _) (by omega)).q ?_;simp only[go_sem,zE,zA,f1,pI];refine (IH _ _ _ (lMg ha) tx cx G U b _ (c+dP (us.take k)+1) (b_ _ _ _) (by omega)).q ?_;simp only[go_sem,zE,f1,f7,f8,f9,dC A (by omega)];simp only[eN];rw[h1,show c+dP (us.take k)+1+dP m=c+(dP (us.take k)+(dP m+1)) by omega];exact⟨rfl,rfl⟩
 ·rintro fr _ _ ⟨rfl,f1,f7,f8,f9,rfl⟩;simp only[go_sem,f8,f9,dF (nLi _)];rw[lTl];exact c_ ⟨rfl,rfl⟩
def Cw:∀(k:Nat)(us:List Tm),SizeOf.sizeOf us<k->CN gl us
 | 0,f,h=>by omega
 | k+1,us,h=>Ku gl us (λv n m A=>Cw k m (by
   have:=lSm A;simp at this;omega))
def Kv (us:List Tm):CN gl us:=Cw gl _ us (ew _)
mutual
def me:Fm->List Fm
 | .mk o n us sub=>.mk o n us sub::jh sub
def jh:List Fm->List Fm
 | []=>[]
 | a::l=>me a++jh l
end
def xm:∀(l m:List Fm),jh (l++m)=jh l++jh m
 | [],m=>by simp[jh]
 | a::l,m=>by simp only[ed,jh,xm l m,en]
def FOk (y:IV)(I:Nat->ISt->Prop)(S:ISt->Prop)(k0:Nat)(l:List Fm):Prop :=
 ∀i z x stu,l[i]?=some z->IsFm z x->I (k0+i) stu->ICallV prog gl y [x] stu (oB I S (k0+i+1))
def FOk.left {y:IV}{I:Nat->ISt->Prop}{S:ISt->Prop}{k0:Nat}{l m:List Fm}(h:FOk gl y I S k0 (l++m)):FOk gl y I S k0 l:=λi z x stu A D E =>
 h i z x stu (by rw[fw (lGs A).1];exact A) D E
def FOk.right {y:IV}{I:Nat->ISt->Prop}{S:ISt->Prop}{k0:Nat}{l m:List Fm}(h:FOk gl y I S k0 (l++m)):FOk gl y I S (k0+l.length) m:=λi z x stu D A E=>by
 have:=h (l.length+i) z x stu (by rw[fD (by omega)];simpa using D) A (by rw[<- fE];exact E);simpa only[fE] using this
def FOk.head {y:IV}{I:Nat->ISt->Prop}{S:ISt->Prop}{k0:Nat}{z:Fm}{m:List Fm}(h:FOk gl y I S k0 (z::m)){x:IV}(A:IsFm z x){st:ISt}(D:I k0 st):ICallV prog gl y [x] st (oB I S (k0+1)):=h 0 z x st rfl A D
def FOk.tail {y:IV}{I:Nat->ISt->Prop}{S:ISt->Prop}{k0:Nat}{z:Fm}{m:List Fm}(h:FOk gl y I S k0 (z::m)):FOk gl y I S (k0+1) m:=FOk.right gl (l:=[z]) h
def VV (f:Fm):Prop:=∀(x:IV) (_:IsFm f x) (g:Fn) (A ca:List IV) (_:fnOk g=true) (_:∀i,g=.func i->entI prog i=true) (I:Nat->ISt->Prop) (S:ISt->Prop) (k0:Nat) (_:FOk gl (.fn g A ca) I S k0 (me f)) (st:ISt) (_:I k0 st),
  ICall prog gl 334 [x,.fn g A ca] st (oB I S (k0+(me f).length))
def Kw (op:Nat)(n:ByteArray)(us:List Tm)(sub:List Fm)(IH:∀a∈sub,VV gl a):VV gl (.mk op n us sub):=by
 intro x U g fi ca ai E I S k0 hy st hI;have ag:=U;obtain⟨tg,xs,ac,ys,rfl,an,am,al,aa,hys⟩:=U.mk;simp only[me] at hy ⊢;have G:=FOk.head gl hy ag hI;have ae:=FOk.tail gl hy;refine iI func334 ?_;simp only[go_sem,zE,zA,zL];refine lF E (G.mono ?_);rintro _ st (⟨rfl,h⟩|⟨rfl,h⟩)
 ·simp only[go_sem,zE,hys.len];intro aj;refine dj sub.length (λk fr st ds=>I (k0+1+(jh (sub.take k)).length) st/\fr 1=.iv (.fn g fi ca)/\fr 12=.iv (.sl ac ys)/\fr 13=sub.length/\fr 14=.iv (.raw (.int .i64 k))/\ds=[]) ?_ ?_ ?_
  ·simp only[go_sem,zE];exact⟨by simpa[jh] using h,rfl⟩
  ·rintro k fr st _ D ⟨hst,f1,f12,f13,f14,rfl⟩;obtain⟨a,ha⟩:=dB D;obtain⟨x,ah,U⟩:=hys.get ha;have A:jh sub=jh (sub.take k)++(me a++jh (sub.drop (k+1))):=by
    conv=>lhs;rw[<- el k sub,fa D]
    rw[xm,(lGs ha).2];rfl
   have O:=ae;rw[A] at O;have J:=IH a (lMg ha) x U g fi ca ai E I S _ (FOk.left gl (FOk.right gl O)) st hst;obtain⟨o2,n2,u2,s2⟩:=a;obtain⟨t3,x3,t4,x4,rfl,_⟩:=U.mk;simp only[go_sem,zE,zA,zL,f1,f12,f13,f14,lt_i D,dz aa,iNn,ah];refine J.mono ?_;rintro _ st (⟨rfl,h⟩|⟨rfl,h⟩)
   ·simp only[go_sem,zE,f1,f12,f13,f14,dC D (by omega)];rw[dE ha,xm,lLa,<- fE];simpa[jh] using h
   ·simp only[go_sem];exact c_ (.inr ⟨rfl,h⟩)
  ·rintro fr st _ ⟨hst,f1,f12,f13,f14,rfl⟩;simp only[go_sem,f13,f14,dF (nLi _)];rw[lTl] at hst;refine c_ (.inl ⟨rfl,?_⟩);rw[show k0+((jh sub).length+1)=k0+1+(jh sub).length by omega];exact hst
 ·simp only[go_sem];exact c_ (.inr ⟨rfl,h⟩)
def Cy:∀(k:Nat)(t:Fm),SizeOf.sizeOf t<k->VV gl t
 | 0,f,h=>by omega
 | k+1,.mk o n us sub,h=>Kw gl o n us sub (λa A=>Cy k a (by
   have:=lSm A;simp at h;omega))
def Kx (t:Fm):VV gl t:=Cy gl _ t (ew _)
def xn (f:Fm)(k:Nat)(a:List IV):Prop:=∃z x,(me f)[k]?=some z/\IsFm z x/\a=[x]
def Ky (f:Fm)(x:IV)(G:IsFm f x)(I:Nat->ISt->Prop):IterC prog gl 333 [] [.cptr x] (xn f) (me f).length I:=by
 have D:=G;obtain⟨o,n,us,sub⟩:=f;obtain⟨t1,x1,t2,x2,rfl,_⟩:=G.mk;rintro y I' S' st ⟨g,O,ca,rfl,E,A⟩ _ hy h0;change ICall prog gl _ [.fn g O ca,_] st _;refine iI func333 ?_;simp only[go_sem,zE,zA,reduceCtorEq,fits];refine (Kx gl _ _ D g O ca E A I' S' 0 ?_ st h0).mono ?_
 ·intro i z x stu hi U J;rw[ee] at J ⊢;exact hy i [x] stu ⟨z,x,hi,U,rfl⟩ J
 ·rintro _ st' h;simp only[go_sem];refine c_ ?_;rw[ee] at h;exact h.imp And.right And.right
def Kz (x:IV)(st:ISt)(f:Fm)(A:IsFm f x):ICall prog gl 323 [x] st (λr st'=>r=.fn (.func 333) [] [.cptr x]/\st'=st):=by
 obtain⟨o,n,us,sub⟩:=f;obtain⟨t1,E,t2,D,rfl,_⟩:=A.mk;refine ICall.intro (c:=cf prog gl [] [] [1]) func323 rfl (by show _<=4;simp) (by kernel_rfl) ?_;simp only[go_sem,zE];exact c_ ⟨rfl,rfl⟩
def pJ:Fm->Nat
 | .mk _ _ us _=>dP us+1
def sumW:List Fm->Nat
 | []=>0
 | a::l=>pJ a+sumW l
def ud:∀(l m:List Fm),sumW (l++m)=sumW l+sumW m
 | [],m=>by simp[sumW]
 | a::l,m=>by simp only[ed,sumW,ud l m];omega
mutual
def Cz:∀f:Fm,sumW (me f)=f.size
 | .mk o n us sub=>by simp only[me,sumW,pJ,Fm.size,CA sub];omega
def CA:∀l:List Fm,sumW (jh l)=dL l
 | []=>rfl
 | a::l=>by simp only[jh,ud,dL,Cz a,CA l]
end
def KA {l:List Fm}{k:Nat}{a:Fm}(h:l[k]?=some a):sumW (l.take (k+1))=sumW (l.take k)+pJ a/\sumW (l.take k)+pJ a<=sumW l:=by
 have h1:sumW (l.take (k+1))=sumW (l.take k)+pJ a:=by rw[dE h,ud];simp[sumW]
 refine⟨h1,?_⟩;rw[<- h1]
 conv=>rhs;rw[<- el (k+1) l,ud]
 omega
def KB (f:Fm)(x:IV)(hx:IsFm f x)(hs:f.size<=4611686018427387904)(st:ISt) :
  ICall prog gl 306 [x,bigI] st (λr st'=>r=f.size/\st'=st):=by
 have E:=hx;rw[<- Cz f] at hs ⊢;have D:=λst=>Kz gl x st f E;have A:=Ky gl f x E;generalize ab:me f=l at hs A ⊢;have hX:∀k a,xn f k a->∃z x,l[k]?=some z/\IsFm z x/\a=[x]:=λk a h=>by rw[<- ab];exact h
 generalize xn f=X at A hX;obtain⟨o,n,us,sub⟩:=f;obtain⟨t1,x1,t2,x2,rfl,_⟩:=hx.mk;refine ICall.intro (c:=cf prog gl [5] [] [3]) func306 rfl (by show _<=20;simp) (by kernel_rfl) ?_;simp only[go_sem,zE,zA,zL,bigI];refine λb=>d_ λhb=>?_;refine (D _).q ?_;simp only[go_sem,reduceCtorEq];refine RangeC.intro X l.length (λk st'=>st'=st.put b (cBox ((sumW (l.take k):Nat):Int))) (λ_ _=>False) rfl ?_ ?_ ?_ (A _) ?_ (λ_ _ _ h=>h.elim)
 ·intro k a ha;obtain⟨z,x,_,_,rfl⟩:=hX k a ha;rfl
 ·rw[eN];rfl
 ·rintro k a _ hk rfl;obtain⟨z,x,hz,J,rfl⟩:=hX k a hk;obtain⟨h1,h2⟩:=KA hz;obtain⟨o2,n2,G,s2⟩:=z;obtain⟨t3,x3,t4,x4,rfl,_,U,O,_⟩:=J.mk;simp only[pJ] at h1 h2;have hw:IntKind.i64.wrap (((sumW (l.take k):Nat):Int)+1)=((sumW (l.take k)+1:Nat):Int):=by rw[w64]<;>omega
  simp only[go_sem,zE,zA,zL,b_,cBox,hw];refine (Kv gl G t3 x3 U O b _ (sumW (l.take k)+1) (b_ _ _ _) (by omega)).q ?_;have aa:decide ((9223372036854775807:Int)<((sumW (l.take k)+1+dP G:Nat):Int))=false:=by simp;omega
  simp only[go_sem,zE,b_,cBox,fits,aa];rw[eN,eN,h1,show sumW (l.take k)+(dP G+1)=sumW (l.take k)+1+dP G by omega]
 ·rintro _ r rfl;simp only[go_sem,zE,b_,cBox];rw[lTl];exact ez (ff hb) ⟨rfl,rfl⟩
def KC (f:Fm)(x:IV)(D:IsFm f x)(hs:f.size<=4611686018427387904)(st:ISt) :
  ICall prog gl 272 [x] st (λr st'=>r=f.size/\st'=st):=by
 have A:=λst=>KB gl f x D hs st;generalize f.size=z at A ⊢;obtain⟨o,n,us,sub⟩:=f;obtain⟨t1,G,t2,E,rfl,_⟩:=D.mk;refine iI func272 ?_;simp only[go_sem,zE,zA,zL];refine (A _).q ?_;simp only[go_sem];exact c_ ⟨rfl,rfl⟩
