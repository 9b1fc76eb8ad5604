/- Walks: depths. -/
import Derived.Test.YtofmbookakncjabGreatDoorJO
set_option linter.all false
open Nat renaming reduceEqDiff → zE,reduceAdd → zA,reduceLeDiff → zL
namespace Go.Proofs.Tryz
open Go Go.Iv
set_option maxRecDepth 4000
variable (gl:Nat->Option IV)
def LV {l:List Tm}{k:Nat}{a:Tm}(h:l[k]?=some a):gA (l.take (k+1))=max (gA (l.take k)) a.deep/\a.deep<=gA l:=by
 have h1:gA (l.take (k+1))=max (gA (l.take k)) a.deep:=by rw[en h,zU];simp[gA]
 refine⟨h1,?_⟩;have:gA l=max (gA (l.take (k+1))) (gA (l.drop (k+1))):=by conv=>lhs;rw[<- fh (k+1) l,zU]
 omega
def LW {l:List Fm}{k:Nat}{a:Fm}(h:l[k]?=some a):gZ (l.take (k+1))=max (gZ (l.take k)) a.deep/\a.deep<=gZ l:=by
 have h1:gZ (l.take (k+1))=max (gZ (l.take k)) a.deep:=by rw[en h,zV];simp[gZ]
 refine⟨h1,?_⟩;have:gZ l=max (gZ (l.take (k+1))) (gZ (l.drop (k+1))):=by conv=>lhs;rw[<- fh (k+1) l,zV]
 omega
def TD (us:List Tm):Prop:=∀(t:Tag) (A:List IV) (_:okEs t 3) (_:IsTms us A) (_:gA us<=4611686018427387904) (st:ISt),
 ICall prog gl 261 [.sl t A] st (λr st'=>r=(gA us:Int)/\st'=st)
def LX (us:List Tm)(IH:∀v n m,Tm.mk v n m∈us->TD gl m):TD gl us:=by
 intro tg xs G D hd st;refine iI func261 ?_;simp only[go_sem,reduceCtorEq,D.len];intro aa;refine dC us.length (λk fr st' ds=>fr 3=(gA (us.take k):Int)/\fr 6=.iv (.sl tg xs)/\fr 7=us.length/\fr 8=.iv (.raw (.int .i64 k))/\st'=st/\ds=[]) ?_ ?_ ?_
 ·simp only[go_sem,zE];simp[gA]
 ·rintro k fr _ _ A ⟨f3,f6,f7,f8,rfl,rfl⟩;obtain⟨a,U⟩:=ed A;obtain⟨x,J,hx⟩:=D.get U;obtain⟨h1,h2⟩:=LV U;obtain⟨v2,n2,m⟩:=a;obtain⟨tx,cx,rfl,E,O⟩:=hx.mk;simp only[Tm.deep] at h1 h2;simp only[go_sem,zE,zA,zL,f3,f6,f7,f8,lt_i A,ec G,iNn,J];refine (IH _ _ _ (lMg U) tx cx E O (by omega) _).q ?_;have hw:IntKind.i64.wrap (((gA m:Nat):Int)+1)=((gA m+1:Nat):Int):=by rw[w64]<;>omega
  have hm:max ((gA (us.take k):Nat):Int) ((gA m+1:Nat):Int)=((gA (us.take (k+1)):Nat):Int):=by rw[h1];omega
  simp only[go_sem,zE,f6,f7,f8,ek A (by omega),hw,hm]
 ·rintro fr _ _ ⟨f3,f6,f7,f8,rfl,rfl⟩;simp only[go_sem,zE,f3,f7,f8,eI (nLi _)];rw[lTl];exact dw ⟨rfl,rfl⟩
def Et:∀(k:Nat)(us:List Tm),SizeOf.sizeOf us<k->TD gl us
 | 0,f,h=>by omega
 | k+1,us,h=>LX gl us (λv n m A=>Et k m (by
   have:=lSm A;simp at this;omega))
def LY (us:List Tm):TD gl us:=Et gl _ us (fP _)
def DF (f:Fm):Prop:=∀(x:IV) (_:IsFm f x) (_:f.deep<=4611686018427387904) (st:ISt),
 ICall prog gl 239 [x] st (λr st'=>r=f.deep/\st'=st)
def LZ (op:Nat)(n:ByteArray)(us:List Tm)(sub:List Fm)(IH:∀a∈sub,DF gl a):DF gl (.mk op n us sub):=by
 intro x G hd st;obtain⟨tg,xs,J,ys,rfl,ah,U,O,E,hys⟩:=G.mk;simp only[Fm.deep] at hd ⊢;refine iI func239 ?_;simp only[go_sem,zE,zA];refine (LY gl us tg xs U O (by omega) _).q ?_;simp only[go_sem,zE,hys.len];intro ac;refine dC sub.length (λk fr st' ds=>fr 3=(max (gA us) (gZ (sub.take k)):Nat)/\fr 10=.iv (.sl J ys)/\fr 11=.iv (.raw (.int .i64 sub.length))/\fr 12=.iv (.raw (.int .i64 k))/\st'=st/\ds=[]) ?_ ?_ ?_
 ·simp only[go_sem,zE];simp[gZ]
 ·rintro k fr st _ A ⟨f3,f10,f11,f12,rfl,rfl⟩;obtain⟨a,ha⟩:=ed A;obtain⟨x,aa,G⟩:=hys.get ha;obtain⟨h1,h2⟩:=LW ha;have D:=IH a (lMg ha) x G (by omega) st;have hm:max ((max (gA us) (gZ (sub.take k)):Nat):Int) ((a.deep:Nat):Int)=((max (gA us) (gZ (sub.take (k+1))):Nat):Int):=by rw[h1];omega
  obtain⟨o2,n2,u2,s2⟩:=a;obtain⟨t3,x3,t4,x4,rfl,_⟩:=G.mk;simp only[go_sem,zE,zA,zL,f3,f10,f11,f12,lt_i A,ec E,iNn,aa];refine D.mono ?_;rintro _ _ ⟨rfl,rfl⟩;simp only[go_sem,zE,f10,f11,f12,ek A (by omega),hm]
 ·rintro fr _ _ ⟨f3,f10,f11,f12,rfl,rfl⟩;have hw:IntKind.i64.wrap (((max (gA us) (gZ sub):Nat):Int)+1)=((max (gA us) (gZ sub)+1:Nat):Int):=by rw[w64]<;>omega
  rw[lTl] at f3;simp only[go_sem,zE,f3,f11,f12,eI (nLi _),hw];exact dw ⟨rfl,rfl⟩
def Eu:∀(k:Nat)(t:Fm),SizeOf.sizeOf t<k->DF gl t
 | 0,f,h=>by omega
 | k+1,.mk o n us sub,h=>LZ gl o n us sub (λa A=>Eu k a (by
   have:=lSm A;simp at h;omega))
def L1 (t:Fm):DF gl t:=Eu gl _ t (fP _)
def cBox (n:Int):Option IObj:=some (.box [n])
def bigI:IV:=(9223372036854775807:Int)
def q_ (b:Nat):IV:=.fn (.func 275) [] [.raw (.pointer (some ⟨b,0,none⟩)),.cptr bigI]
def L3 (v:Bool)(n:ByteArray)(us:List Tm)(x:IV)(D:IsTm (.mk v n us) x)(b:Nat)(st:ISt)(c:Nat)(G:st b=cBox c)(hc:c+1<=4611686018427387904) :
  ICall prog gl 275 [x,.raw (.pointer (some ⟨b,0,none⟩)),.cptr bigI] st (λr st'=>r=true/\st'=st.put b (cBox ((c+1:Nat):Int))):=by
 obtain⟨J,cx,rfl,_⟩:=D.mk;refine iI func275 ?_;have E:IntKind.i64.wrap (((c:Nat):Int)+1)=((c+1:Nat):Int):=by rw[w64]<;>omega
 have A:decide (((c+1:Nat):Int)<=9223372036854775807)=true:=by simp;omega
 simp only[go_sem,zE,zL,G,cBox,bigI,E,b_,A];exact dw ⟨rfl,rfl⟩
def CN (us:List Tm):Prop:=∀(t:Tag) (A:List IV) (_:okEs t 3) (_:IsTms us A) (b:Nat) (st:ISt) (c:Nat) (_:st b=cBox c) (_:c+fp us<=4611686018427387904),
 ICall prog gl 274 [.sl t A,q_ b] st (λr st'=>r=true/\st'=st.put b (cBox ((c+fp us:Nat):Int)))
def L4 (us:List Tm)(IH:∀v n m,Tm.mk v n m∈us->CN gl m):CN gl us:=by
 intro tg xs J E b st c hb hc;refine iI func274 ?_;simp only[go_sem,reduceCtorEq,E.len,q_];intro ac;refine dC us.length (λk fr st' ds=>st'=st.put b (cBox ((c+fp (us.take k):Nat):Int))/\fr 1=(q_ b)/\fr 7=.iv (.sl tg xs)/\fr 8=us.length/\fr 9=.iv (.raw (.int .i64 k))/\ds=[]) ?_ ?_ ?_
 ·simp only[go_sem,zE,q_];simp only[fp,jJ];exact⟨(ki hb).symm,rfl⟩
 ·rintro k fr _ _ A ⟨rfl,f1,f7,f8,f9,rfl⟩;obtain⟨a,ha⟩:=ed A;obtain⟨x,O,hx⟩:=E.get ha;obtain⟨h1,h2⟩:=oe ha;obtain⟨v2,n2,m⟩:=a;have D:=λst c=>L3 gl v2 n2 m x hx b st c;obtain⟨tx,cx,rfl,G,U⟩:=hx.mk;simp only[Tm.size] at h1 h2;simp only[go_sem,zE,zA,zL,f1,f7,f8,f9,lt_i A,ec J,iNn,O,q_];refine (D _ _ (b_ _ _ _) (by omega)).q ?_;simp only[go_sem,zE,zA,f1,q_];refine (IH _ _ _ (lMg ha) tx cx G U b _ (c+fp (us.take k)+1) (b_ _ _ _) (by omega)).q ?_;simp only[go_sem,zE,f1,f7,f8,f9,ek A (by omega)];simp only[fW];rw[h1,show c+fp (us.take k)+1+fp m=c+(fp (us.take k)+(fp m+1)) by omega];exact⟨rfl,rfl⟩
 ·rintro fr _ _ ⟨rfl,f1,f7,f8,f9,rfl⟩;simp only[go_sem,f8,f9,eI (nLi _)];rw[lTl];exact dw ⟨rfl,rfl⟩
def Ev:∀(k:Nat)(us:List Tm),SizeOf.sizeOf us<k->CN gl us
 | 0,f,h=>by omega
 | k+1,us,h=>L4 gl us (λv n m A=>Ev k m (by
   have:=lSm A;simp at this;omega))
def L5 (us:List Tm):CN gl us:=Ev gl _ us (fP _)
mutual
def nq:Fm->List Fm
 | .mk o n us sub=>.mk o n us sub::kc sub
def kc:List Fm->List Fm
 | []=>[]
 | a::l=>nq a++kc l
end
def zZ:∀(l m:List Fm),kc (l++m)=kc l++kc m
 | [],m=>by simp[kc]
 | a::l,m=>by simp only[fq,kc,zZ l m,fD]
def FOk (y:IV)(I:Nat->ISt->Prop)(S:ISt->Prop)(k0:Nat)(l:List Fm):Prop :=
 ∀i z x stu,l[i]?=some z->IsFm z x->I (k0+i) stu->ICallV prog gl y [x] stu (pW I S (k0+i+1))
def FOk.left {y:IV}{I:Nat->ISt->Prop}{S:ISt->Prop}{k0:Nat}{l m:List Fm}(h:FOk gl y I S k0 (l++m)):FOk gl y I S k0 l:=λi z x stu A D E =>
 h i z x stu (by rw[gw (lGs A).1];exact A) D E
def FOk.right {y:IV}{I:Nat->ISt->Prop}{S:ISt->Prop}{k0:Nat}{l m:List Fm}(h:FOk gl y I S k0 (l++m)):FOk gl y I S (k0+l.length) m:=λi z x stu D A E=>by
 have:=h (l.length+i) z x stu (by rw[gD (by omega)];simpa using D) A (by rw[<- iQ];exact E);simpa only[iQ] using this
def FOk.head {y:IV}{I:Nat->ISt->Prop}{S:ISt->Prop}{k0:Nat}{z:Fm}{m:List Fm}(h:FOk gl y I S k0 (z::m)){x:IV}(A:IsFm z x){st:ISt}(D:I k0 st):ICallV prog gl y [x] st (pW I S (k0+1)):=h 0 z x st rfl A D
def FOk.tail {y:IV}{I:Nat->ISt->Prop}{S:ISt->Prop}{k0:Nat}{z:Fm}{m:List Fm}(h:FOk gl y I S k0 (z::m)):FOk gl y I S (k0+1) m:=FOk.right gl (l:=[z]) h
def VV (f:Fm):Prop:=∀(x:IV) (_:IsFm f x) (g:Fn) (A ca:List IV) (_:fnOk g=true) (_:∀i,g=.func i->entI prog i=true) (I:Nat->ISt->Prop) (S:ISt->Prop) (k0:Nat) (_:FOk gl (.fn g A ca) I S k0 (nq f)) (st:ISt) (_:I k0 st),
  ICall prog gl 283 [x,.fn g A ca] st (pW I S (k0+(nq f).length))
def L6 (op:Nat)(n:ByteArray)(us:List Tm)(sub:List Fm)(IH:∀a∈sub,VV gl a):VV gl (.mk op n us sub):=by
 intro x U g fi ca ai E I S k0 hy st hI;have ag:=U;obtain⟨tg,xs,ac,ys,rfl,an,am,al,aa,hys⟩:=U.mk;simp only[nq] at hy ⊢;have G:=FOk.head gl hy ag hI;have ae:=FOk.tail gl hy;refine iI func283 ?_;simp only[go_sem,zE,zA,zL];refine mI E (G.mono ?_);rintro _ st (⟨rfl,h⟩|⟨rfl,h⟩)
 ·simp only[go_sem,zE,hys.len];intro aj;refine dC sub.length (λk fr st ds=>I (k0+1+(kc (sub.take k)).length) st/\fr 1=.iv (.fn g fi ca)/\fr 12=.iv (.sl ac ys)/\fr 13=sub.length/\fr 14=.iv (.raw (.int .i64 k))/\ds=[]) ?_ ?_ ?_
  ·simp only[go_sem,zE];exact⟨by simpa[kc] using h,rfl⟩
  ·rintro k fr st _ D ⟨hst,f1,f12,f13,f14,rfl⟩;obtain⟨a,ha⟩:=ed D;obtain⟨x,ah,U⟩:=hys.get ha;have A:kc sub=kc (sub.take k)++(nq a++kc (sub.drop (k+1))):=by
    conv=>lhs;rw[<- fh k sub,gB D]
    rw[zZ,(lGs ha).2];rfl
   have O:=ae;rw[A] at O;have J:=IH a (lMg ha) x U g fi ca ai E I S _ (FOk.left gl (FOk.right gl O)) st hst;obtain⟨o2,n2,u2,s2⟩:=a;obtain⟨t3,x3,t4,x4,rfl,_⟩:=U.mk;simp only[go_sem,zE,zA,zL,f1,f12,f13,f14,lt_i D,ec aa,iNn,ah];refine J.mono ?_;rintro _ st (⟨rfl,h⟩|⟨rfl,h⟩)
   ·simp only[go_sem,zE,f1,f12,f13,f14,ek D (by omega)];rw[en ha,zZ,lLa,<- iQ];simpa[kc] using h
   ·simp only[go_sem];exact dw (.inr ⟨rfl,h⟩)
  ·rintro fr st _ ⟨hst,f1,f12,f13,f14,rfl⟩;simp only[go_sem,f13,f14,eI (nLi _)];rw[lTl] at hst;refine dw (.inl ⟨rfl,?_⟩);rw[show k0+((kc sub).length+1)=k0+1+(kc sub).length by omega];exact hst
 ·simp only[go_sem];exact dw (.inr ⟨rfl,h⟩)
def Ew:∀(k:Nat)(t:Fm),SizeOf.sizeOf t<k->VV gl t
 | 0,f,h=>by omega
 | k+1,.mk o n us sub,h=>L6 gl o n us sub (λa A=>Ew k a (by
   have:=lSm A;simp at h;omega))
def L7 (t:Fm):VV gl t:=Ew gl _ t (fP _)
def z7 (f:Fm)(k:Nat)(a:List IV):Prop:=∃z x,(nq f)[k]?=some z/\IsFm z x/\a=[x]
def L8 (f:Fm)(x:IV)(G:IsFm f x)(I:Nat->ISt->Prop):IterC prog gl 282 [] [.cptr x] (z7 f) (nq f).length I:=by
 have D:=G;obtain⟨o,n,us,sub⟩:=f;obtain⟨t1,x1,t2,x2,rfl,_⟩:=G.mk;rintro y I' S' st ⟨g,O,ca,rfl,E,A⟩ _ hy h0;change ICall prog gl _ [.fn g O ca,_] st _;refine iI func282 ?_;simp only[go_sem,zE,zA,reduceCtorEq,fits];refine (L7 gl _ _ D g O ca E A I' S' 0 ?_ st h0).mono ?_
 ·intro i z x stu hi U J;rw[eT] at J ⊢;exact hy i [x] stu ⟨z,x,hi,U,rfl⟩ J
 ·rintro _ st' h;simp only[go_sem];refine dw ?_;rw[eT] at h;exact h.imp And.right And.right
def L9 (x:IV)(st:ISt)(f:Fm)(A:IsFm f x):ICall prog gl 273 [x] st (λr st'=>r=.fn (.func 282) [] [.cptr x]/\st'=st):=by
 obtain⟨o,n,us,sub⟩:=f;obtain⟨t1,E,t2,D,rfl,_⟩:=A.mk;refine ICall.intro (c:=cf prog gl [] [] [1]) func273 rfl (by show _<=4;simp) (by kernel_rfl) ?_;simp only[go_sem,zE];exact dw ⟨rfl,rfl⟩
def ra:Fm->Nat
 | .mk _ _ us _=>fp us+1
def sumW:List Fm->Nat
 | []=>0
 | a::l=>ra a+sumW l
def wb:∀(l m:List Fm),sumW (l++m)=sumW l+sumW m
 | [],m=>by simp[sumW]
 | a::l,m=>by simp only[fq,sumW,wb l m];omega
mutual
def Ey:∀f:Fm,sumW (nq f)=f.size
 | .mk o n us sub=>by simp only[nq,sumW,ra,Fm.size,Ez sub];omega
def Ez:∀l:List Fm,sumW (kc l)=eS l
 | []=>rfl
 | a::l=>by simp only[kc,wb,eS,Ey a,Ez l]
end
def L_ {l:List Fm}{k:Nat}{a:Fm}(h:l[k]?=some a):sumW (l.take (k+1))=sumW (l.take k)+ra a/\sumW (l.take k)+ra a<=sumW l:=by
 have h1:sumW (l.take (k+1))=sumW (l.take k)+ra a:=by rw[en h,wb];simp[sumW]
 refine⟨h1,?_⟩;rw[<- h1]
 conv=>rhs;rw[<- fh (k+1) l,wb]
 omega
def Ma (f:Fm)(x:IV)(hx:IsFm f x)(hs:f.size<=4611686018427387904)(st:ISt) :
  ICall prog gl 260 [x,bigI] st (λr st'=>r=f.size/\st'=st):=by
 have E:=hx;rw[<- Ey f] at hs ⊢;have D:=λst=>L9 gl x st f E;have A:=L8 gl f x E;generalize ab:nq f=l at hs A ⊢;have hX:∀k a,z7 f k a->∃z x,l[k]?=some z/\IsFm z x/\a=[x]:=λk a h=>by rw[<- ab];exact h
 generalize z7 f=X at A hX;obtain⟨o,n,us,sub⟩:=f;obtain⟨t1,x1,t2,x2,rfl,_⟩:=hx.mk;refine ICall.intro (c:=cf prog gl [5] [] [3]) func260 rfl (by show _<=20;simp) (by kernel_rfl) ?_;simp only[go_sem,zE,zA,zL,bigI];refine λb=>fc λhb=>?_;refine (D _).q ?_;simp only[go_sem,reduceCtorEq];refine RangeC.intro X l.length (λk st'=>st'=st.put b (cBox ((sumW (l.take k):Nat):Int))) (λ_ _=>False) rfl ?_ ?_ ?_ (A _) ?_ (λ_ _ _ h=>h.elim)
 ·intro k a ha;obtain⟨z,x,_,_,rfl⟩:=hX k a ha;rfl
 ·rw[fW];rfl
 ·rintro k a _ hk rfl;obtain⟨z,x,hz,J,rfl⟩:=hX k a hk;obtain⟨h1,h2⟩:=L_ hz;obtain⟨o2,n2,G,s2⟩:=z;obtain⟨t3,x3,t4,x4,rfl,_,U,O,_⟩:=J.mk;simp only[ra] at h1 h2;have hw:IntKind.i64.wrap (((sumW (l.take k):Nat):Int)+1)=((sumW (l.take k)+1:Nat):Int):=by rw[w64]<;>omega
  simp only[go_sem,zE,zA,zL,b_,cBox,hw];refine (L5 gl G t3 x3 U O b _ (sumW (l.take k)+1) (b_ _ _ _) (by omega)).q ?_;have aa:decide ((9223372036854775807:Int)<((sumW (l.take k)+1+fp G:Nat):Int))=false:=by simp;omega
  simp only[go_sem,zE,b_,cBox,fits,aa];rw[fW,fW,h1,show sumW (l.take k)+(fp G+1)=sumW (l.take k)+1+fp G by omega]
 ·rintro _ r rfl;simp only[go_sem,zE,b_,cBox];rw[lTl];exact fN (gj hb) ⟨rfl,rfl⟩
def Mb (f:Fm)(x:IV)(D:IsFm f x)(hs:f.size<=4611686018427387904)(st:ISt) :
  ICall prog gl 238 [x] st (λr st'=>r=f.size/\st'=st):=by
 have A:=λst=>Ma gl f x D hs st;generalize f.size=z at A ⊢;obtain⟨o,n,us,sub⟩:=f;obtain⟨t1,G,t2,E,rfl,_⟩:=D.mk;refine iI func238 ?_;simp only[go_sem,zE,zA,zL];refine (A _).q ?_;simp only[go_sem];exact dw ⟨rfl,rfl⟩
