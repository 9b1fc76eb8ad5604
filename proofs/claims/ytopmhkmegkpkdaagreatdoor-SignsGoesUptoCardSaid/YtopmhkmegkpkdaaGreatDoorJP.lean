/- Walks: depths. -/
import Derived.Test.YtopmhkmegkpkdaaGreatDoorJO
set_option linter.all false
open Nat renaming reduceEqDiff → zE,reduceAdd → zA,reduceLeDiff → zL
namespace Go.Proofs.Tryz
open Go Go.Iv
set_option maxRecDepth 4000
variable (gl:Nat->Option IV)
def JZ {l:List Tm}{k:Nat}{a:Tm}(h:l[k]?=some a):eE (l.take (k+1))=max (eE (l.take k)) a.deep/\a.deep<=eE l:=by
 have h1:eE (l.take (k+1))=max (eE (l.take k)) a.deep:=by rw[dK h,wg];simp[eE]
 refine⟨h1,?_⟩;have:eE l=max (eE (l.take (k+1))) (eE (l.drop (k+1))):=by conv=>lhs;rw[<- eF (k+1) l,wg]
 omega
def J0 {l:List Fm}{k:Nat}{a:Fm}(h:l[k]?=some a):eU (l.take (k+1))=max (eU (l.take k)) a.deep/\a.deep<=eU l:=by
 have h1:eU (l.take (k+1))=max (eU (l.take k)) a.deep:=by rw[dK h,wh];simp[eU]
 refine⟨h1,?_⟩;have:eU l=max (eU (l.take (k+1))) (eU (l.drop (k+1))):=by conv=>lhs;rw[<- eF (k+1) l,wh]
 omega
def TD (us:List Tm):Prop:=∀(t:Tag) (A:List IV) (_:okEs t 3) (_:IsTms us A) (_:eE us<=4611686018427387904) (st:ISt),
 ICall prog gl 299 [.sl t A] st (λr st'=>r=(eE us:Int)/\st'=st)
def J1 (us:List Tm)(IH:∀v n m,Tm.mk v n m∈us->TD gl m):TD gl us:=by
 intro tg xs O D hd st;refine iI func299 ?_;simp only[go_sem,reduceCtorEq,D.len];intro ab;refine cV us.length (λk fr st' ds=>fr 3=(eE (us.take k):Int)/\fr 6=.iv (.sl tg xs)/\fr 7=us.length/\fr 8=.iv (.raw (.int .i64 k))/\st'=st/\ds=[]) ?_ ?_ ?_
 ·simp only[go_sem,zE];simp[eE]
 ·rintro k fr _ _ A ⟨f3,f6,f7,f8,rfl,rfl⟩;obtain⟨a,ha⟩:=dd A;obtain⟨x,U,hx⟩:=D.get ha;obtain⟨h1,h2⟩:=JZ ha;obtain⟨v2,n2,m⟩:=a;obtain⟨tx,cx,rfl,E,W⟩:=hx.mk;simp only[Tm.deep] at h1 h2;simp only[go_sem,zE,zA,zL,f3,f6,f7,f8,lt_i A,dc O,iNn,U];refine (IH _ _ _ (lMg ha) tx cx E W (by omega) _).q ?_;have hw:IntKind.i64.wrap (((eE m:Nat):Int)+1)=((eE m+1:Nat):Int):=by rw[w64]<;>omega
  have hm:max ((eE (us.take k):Nat):Int) ((eE m+1:Nat):Int)=((eE (us.take (k+1)):Nat):Int):=by rw[h1];omega
  simp only[go_sem,zE,f6,f7,f8,df A (by omega),hw,hm]
 ·rintro fr _ _ ⟨f3,f6,f7,f8,rfl,rfl⟩;simp only[go_sem,zE,f3,f7,f8,dD (nLi _)];rw[lTl];exact cO ⟨rfl,rfl⟩
def B2:∀(k:Nat)(us:List Tm),SizeOf.sizeOf us<k->TD gl us
 | 0,f,h=>by omega
 | k+1,us,h=>J1 gl us (λv n m A=>B2 k m (by
   have:=lSm A;simp at this;omega))
def J2 (us:List Tm):TD gl us:=B2 gl _ us (dM _)
def DF (f:Fm):Prop:=∀(x:IV) (_:IsFm f x) (_:f.deep<=4611686018427387904) (st:ISt),
 ICall prog gl 281 [x] st (λr st'=>r=f.deep/\st'=st)
def J3 (op:Nat)(n:ByteArray)(us:List Tm)(sub:List Fm)(IH:∀a∈sub,DF gl a):DF gl (.mk op n us sub):=by
 intro x hx hd st;obtain⟨tg,xs,O,ys,rfl,ah,W,U,E,hys⟩:=hx.mk;simp only[Fm.deep] at hd ⊢;refine iI func281 ?_;simp only[go_sem,zE,zA];refine (J2 gl us tg xs W U (by omega) _).q ?_;simp only[go_sem,zE,hys.len];intro ac;refine cV sub.length (λk fr st' ds=>fr 3=(max (eE us) (eU (sub.take k)):Nat)/\fr 10=.iv (.sl O ys)/\fr 11=.iv (.raw (.int .i64 sub.length))/\fr 12=.iv (.raw (.int .i64 k))/\st'=st/\ds=[]) ?_ ?_ ?_
 ·simp only[go_sem,zE];simp[eU]
 ·rintro k fr st _ A ⟨f3,f10,f11,f12,rfl,rfl⟩;obtain⟨a,ha⟩:=dd A;obtain⟨x,aa,hx⟩:=hys.get ha;obtain⟨h1,h2⟩:=J0 ha;have D:=IH a (lMg ha) x hx (by omega) st;have hm:max ((max (eE us) (eU (sub.take k)):Nat):Int) ((a.deep:Nat):Int)=((max (eE us) (eU (sub.take (k+1))):Nat):Int):=by rw[h1];omega
  obtain⟨o2,n2,u2,s2⟩:=a;obtain⟨t3,x3,t4,x4,rfl,_⟩:=hx.mk;simp only[go_sem,zE,zA,zL,f3,f10,f11,f12,lt_i A,dc E,iNn,aa];refine D.mono ?_;rintro _ _ ⟨rfl,rfl⟩;simp only[go_sem,zE,f10,f11,f12,df A (by omega),hm]
 ·rintro fr _ _ ⟨f3,f10,f11,f12,rfl,rfl⟩;have hw:IntKind.i64.wrap (((max (eE us) (eU sub):Nat):Int)+1)=((max (eE us) (eU sub)+1:Nat):Int):=by rw[w64]<;>omega
  rw[lTl] at f3;simp only[go_sem,zE,f3,f11,f12,dD (nLi _),hw];exact cO ⟨rfl,rfl⟩
def B3:∀(k:Nat)(t:Fm),SizeOf.sizeOf t<k->DF gl t
 | 0,f,h=>by omega
 | k+1,.mk o n us sub,h=>J3 gl o n us sub (λa A=>B3 k a (by
   have:=lSm A;simp at h;omega))
def J4 (t:Fm):DF gl t:=B3 gl _ t (dM _)
def cBox (n:Int):Option IObj:=some (.box [n])
def bigI:IV:=(9223372036854775807:Int)
def pZ (b:Nat):IV:=.fn (.func 315) [] [.raw (.pointer (some ⟨b,0,none⟩)),.cptr bigI]
def J5 (v:Bool)(n:ByteArray)(us:List Tm)(x:IV)(hx:IsTm (.mk v n us) x)(b:Nat)(st:ISt)(c:Nat)(E:st b=cBox c)(hc:c+1<=4611686018427387904) :
  ICall prog gl 315 [x,.raw (.pointer (some ⟨b,0,none⟩)),.cptr bigI] st (λr st'=>r=true/\st'=st.put b (cBox ((c+1:Nat):Int))):=by
 obtain⟨O,cx,rfl,_⟩:=hx.mk;refine iI func315 ?_;have D:IntKind.i64.wrap (((c:Nat):Int)+1)=((c+1:Nat):Int):=by rw[w64]<;>omega
 have A:decide (((c+1:Nat):Int)<=9223372036854775807)=true:=by simp;omega
 simp only[go_sem,zE,zL,E,cBox,bigI,D,cT,A];exact cO ⟨rfl,rfl⟩
def CN (us:List Tm):Prop:=∀(t:Tag) (A:List IV) (_:okEs t 3) (_:IsTms us A) (b:Nat) (st:ISt) (c:Nat) (_:st b=cBox c) (_:c+dN us<=4611686018427387904),
 ICall prog gl 314 [.sl t A,pZ b] st (λr st'=>r=true/\st'=st.put b (cBox ((c+dN us:Nat):Int)))
def J6 (us:List Tm)(IH:∀v n m,Tm.mk v n m∈us->CN gl m):CN gl us:=by
 intro tg xs U E b st c hb hc;refine iI func314 ?_;simp only[go_sem,reduceCtorEq,E.len,pZ];intro ac;refine cV us.length (λk fr st' ds=>st'=st.put b (cBox ((c+dN (us.take k):Nat):Int))/\fr 1=(pZ b)/\fr 7=.iv (.sl tg xs)/\fr 8=us.length/\fr 9=.iv (.raw (.int .i64 k))/\ds=[]) ?_ ?_ ?_
 ·simp only[go_sem,zE,pZ];simp only[dN,jr];exact⟨(lj hb).symm,rfl⟩
 ·rintro k fr _ _ A ⟨rfl,f1,f7,f8,f9,rfl⟩;obtain⟨a,ha⟩:=dd A;obtain⟨x,W,hx⟩:=E.get ha;obtain⟨h1,h2⟩:=mr ha;obtain⟨v2,n2,m⟩:=a;have D:=λst c=>J5 gl v2 n2 m x hx b st c;obtain⟨tx,cx,rfl,O,aa⟩:=hx.mk;simp only[Tm.size] at h1 h2;simp only[go_sem,zE,zA,zL,f1,f7,f8,f9,lt_i A,dc U,iNn,W,pZ];refine (D _ _ (cT _ _ _) (by omega)).q ?_;simp only[go_sem,zE,zA,f1,pZ];refine (IH _ _ _ (lMg ha) tx cx O aa b _ (c+dN (us.take k)+1) (cT _ _ _) (by omega)).q ?_;simp only[go_sem,zE,f1,f7,f8,f9,df A (by omega)];simp only[eZ];rw[h1,show c+dN (us.take k)+1+dN m=c+(dN (us.take k)+(dN m+1)) by omega];exact⟨rfl,rfl⟩
 ·rintro fr _ _ ⟨rfl,f1,f7,f8,f9,rfl⟩;simp only[go_sem,f8,f9,dD (nLi _)];rw[lTl];exact cO ⟨rfl,rfl⟩
def B4:∀(k:Nat)(us:List Tm),SizeOf.sizeOf us<k->CN gl us
 | 0,f,h=>by omega
 | k+1,us,h=>J6 gl us (λv n m A=>B4 k m (by
   have:=lSm A;simp at this;omega))
def J7 (us:List Tm):CN gl us:=B4 gl _ us (dM _)
mutual
def mu:Fm->List Fm
 | .mk o n us sub=>.mk o n us sub::jA sub
def jA:List Fm->List Fm
 | []=>[]
 | a::l=>mu a++jA l
end
def wv:∀(l m:List Fm),jA (l++m)=jA l++jA m
 | [],m=>by simp[jA]
 | a::l,m=>by simp only[dX,jA,wv l m,fA]
def FOk (y:IV)(I:Nat->ISt->Prop)(S:ISt->Prop)(k0:Nat)(l:List Fm):Prop :=
 ∀i z x stu,l[i]?=some z->IsFm z x->I (k0+i) stu->ICallV prog gl y [x] stu (oS I S (k0+i+1))
def FOk.left {y:IV}{I:Nat->ISt->Prop}{S:ISt->Prop}{k0:Nat}{l m:List Fm}(h:FOk gl y I S k0 (l++m)):FOk gl y I S k0 l:=λi z x stu A hx D =>
 h i z x stu (by rw[fP (lGs A).1];exact A) hx D
def FOk.right {y:IV}{I:Nat->ISt->Prop}{S:ISt->Prop}{k0:Nat}{l m:List Fm}(h:FOk gl y I S k0 (l++m)):FOk gl y I S (k0+l.length) m:=λi z x stu A hx D=>by
 have:=h (l.length+i) z x stu (by rw[gh (by omega)];simpa using A) hx (by rw[<- fa];exact D);simpa only[fa] using this
def FOk.head {y:IV}{I:Nat->ISt->Prop}{S:ISt->Prop}{k0:Nat}{z:Fm}{m:List Fm}(h:FOk gl y I S k0 (z::m)){x:IV}(hx:IsFm z x){st:ISt}(A:I k0 st):ICallV prog gl y [x] st (oS I S (k0+1)):=h 0 z x st rfl hx A
def FOk.tail {y:IV}{I:Nat->ISt->Prop}{S:ISt->Prop}{k0:Nat}{z:Fm}{m:List Fm}(h:FOk gl y I S k0 (z::m)):FOk gl y I S (k0+1) m:=FOk.right gl (l:=[z]) h
def VV (f:Fm):Prop:=∀(x:IV) (_:IsFm f x) (g:Fn) (A ca:List IV) (_:fnOk g=true) (_:∀i,g=.func i->entI prog i=true) (I:Nat->ISt->Prop) (S:ISt->Prop) (k0:Nat) (_:FOk gl (.fn g A ca) I S k0 (mu f)) (st:ISt) (_:I k0 st),
  ICall prog gl 325 [x,.fn g A ca] st (oS I S (k0+(mu f).length))
def J8 (op:Nat)(n:ByteArray)(us:List Tm)(sub:List Fm)(IH:∀a∈sub,VV gl a):VV gl (.mk op n us sub):=by
 intro x hx g fi ca aj O I S k0 hy st hI;have ah:=hx;obtain⟨tg,xs,ae,ys,rfl,aq,ao,an,ab,hys⟩:=hx.mk;simp only[mu] at hy ⊢;have U:=FOk.head gl hy ah hI;have af:=FOk.tail gl hy;refine iI func325 ?_;simp only[go_sem,zE,zA,zL];refine pQ O (U.mono ?_);rintro _ st (⟨rfl,h⟩|⟨rfl,h⟩)
 ·simp only[go_sem,zE,hys.len];intro ak;refine cV sub.length (λk fr st ds=>I (k0+1+(jA (sub.take k)).length) st/\fr 1=.iv (.fn g fi ca)/\fr 12=.iv (.sl ae ys)/\fr 13=sub.length/\fr 14=.iv (.raw (.int .i64 k))/\ds=[]) ?_ ?_ ?_
  ·simp only[go_sem,zE];exact⟨by simpa[jA] using h,rfl⟩
  ·rintro k fr st _ E ⟨A,f1,f12,f13,f14,rfl⟩;obtain⟨a,ha⟩:=dd E;obtain⟨x,ai,hx⟩:=hys.get ha;have D:jA sub=jA (sub.take k)++(mu a++jA (sub.drop (k+1))):=by
    conv=>lhs;rw[<- eF k sub,fM E]
    rw[wv,(lGs ha).2];rfl
   have aa:=af;rw[D] at aa;have W:=IH a (lMg ha) x hx g fi ca aj O I S _ (FOk.left gl (FOk.right gl aa)) st A;obtain⟨o2,n2,u2,s2⟩:=a;obtain⟨t3,x3,t4,x4,rfl,_⟩:=hx.mk;simp only[go_sem,zE,zA,zL,f1,f12,f13,f14,lt_i E,dc ab,iNn,ai];refine W.mono ?_;rintro _ st (⟨rfl,h⟩|⟨rfl,h⟩)
   ·simp only[go_sem,zE,f1,f12,f13,f14,df E (by omega)];rw[dK ha,wv,lLa,<- fa];simpa[jA] using h
   ·simp only[go_sem];exact cO (.inr ⟨rfl,h⟩)
  ·rintro fr st _ ⟨A,f1,f12,f13,f14,rfl⟩;simp only[go_sem,f13,f14,dD (nLi _)];rw[lTl] at A;refine cO (.inl ⟨rfl,?_⟩);rw[show k0+((jA sub).length+1)=k0+1+(jA sub).length by omega];exact A
 ·simp only[go_sem];exact cO (.inr ⟨rfl,h⟩)
def B5:∀(k:Nat)(t:Fm),SizeOf.sizeOf t<k->VV gl t
 | 0,f,h=>by omega
 | k+1,.mk o n us sub,h=>J8 gl o n us sub (λa A=>B5 k a (by
   have:=lSm A;simp at h;omega))
def J9 (t:Fm):VV gl t:=B5 gl _ t (dM _)
def wx (f:Fm)(k:Nat)(a:List IV):Prop:=∃z x,(mu f)[k]?=some z/\IsFm z x/\a=[x]
def J_ (f:Fm)(x:IV)(hx:IsFm f x)(I:Nat->ISt->Prop):IterC prog gl 324 [] [.cptr x] (wx f) (mu f).length I:=by
 have D:=hx;obtain⟨o,n,us,sub⟩:=f;obtain⟨t1,x1,t2,x2,rfl,_⟩:=hx.mk;rintro y I' S' st ⟨g,U,ca,rfl,E,A⟩ _ hy h0;change ICall prog gl _ [.fn g U ca,_] st _;refine iI func324 ?_;simp only[go_sem,zE,zA,reduceCtorEq,fits];refine (J9 gl _ _ D g U ca E A I' S' 0 ?_ st h0).mono ?_
 ·intro i z x stu hi W O;rw[eQ] at O ⊢;exact hy i [x] stu ⟨z,x,hi,W,rfl⟩ O
 ·rintro _ st' h;simp only[go_sem];refine cO ?_;rw[eQ] at h;exact h.imp And.right And.right
def Ka (x:IV)(st:ISt)(f:Fm)(hx:IsFm f x):ICall prog gl 313 [x] st (λr st'=>r=.fn (.func 324) [] [.cptr x]/\st'=st):=by
 obtain⟨o,n,us,sub⟩:=f;obtain⟨t1,D,t2,A,rfl,_⟩:=hx.mk;refine ICall.intro (c:=cf prog gl [] [] [1]) func313 rfl (by show _<=4;simp) (by kernel_rfl) ?_;simp only[go_sem,zE];exact cO ⟨rfl,rfl⟩
def p4:Fm->Nat
 | .mk _ _ us _=>dN us+1
def sumW:List Fm->Nat
 | []=>0
 | a::l=>p4 a+sumW l
def s9:∀(l m:List Fm),sumW (l++m)=sumW l+sumW m
 | [],m=>by simp[sumW]
 | a::l,m=>by simp only[dX,sumW,s9 l m];omega
mutual
def B6:∀f:Fm,sumW (mu f)=f.size
 | .mk o n us sub=>by simp only[mu,sumW,p4,Fm.size,B7 sub];omega
def B7:∀l:List Fm,sumW (jA l)=dt l
 | []=>rfl
 | a::l=>by simp only[jA,s9,dt,B6 a,B7 l]
end
def Kb {l:List Fm}{k:Nat}{a:Fm}(h:l[k]?=some a):sumW (l.take (k+1))=sumW (l.take k)+p4 a/\sumW (l.take k)+p4 a<=sumW l:=by
 have h1:sumW (l.take (k+1))=sumW (l.take k)+p4 a:=by rw[dK h,s9];simp[sumW]
 refine⟨h1,?_⟩;rw[<- h1]
 conv=>rhs;rw[<- eF (k+1) l,s9]
 omega
def Kd (f:Fm)(x:IV)(hx:IsFm f x)(hs:f.size<=4611686018427387904)(st:ISt) :
  ICall prog gl 298 [x,bigI] st (λr st'=>r=f.size/\st'=st):=by
 have E:=hx;rw[<- B6 f] at hs ⊢;have D:=λst=>Ka gl x st f E;have A:=J_ gl f x E;generalize ac:mu f=l at hs A ⊢;have hX:∀k a,wx f k a->∃z x,l[k]?=some z/\IsFm z x/\a=[x]:=λk a h=>by rw[<- ac];exact h
 generalize wx f=X at A hX;obtain⟨o,n,us,sub⟩:=f;obtain⟨t1,x1,t2,x2,rfl,_⟩:=hx.mk;refine ICall.intro (c:=cf prog gl [5] [] [3]) func298 rfl (by show _<=20;simp) (by kernel_rfl) ?_;simp only[go_sem,zE,zA,zL,bigI];refine λb=>eB λhb=>?_;refine (D _).q ?_;simp only[go_sem,reduceCtorEq];refine RangeC.intro X l.length (λk st'=>st'=st.put b (cBox ((sumW (l.take k):Nat):Int))) (λ_ _=>False) rfl ?_ ?_ ?_ (A _) ?_ (λ_ _ _ h=>h.elim)
 ·intro k a ha;obtain⟨z,x,_,_,rfl⟩:=hX k a ha;rfl
 ·rw[eZ];rfl
 ·rintro k a _ hk rfl;obtain⟨z,x,hz,U,rfl⟩:=hX k a hk;obtain⟨h1,h2⟩:=Kb hz;obtain⟨o2,n2,O,s2⟩:=z;obtain⟨t3,x3,t4,x4,rfl,_,aa,W,_⟩:=U.mk;simp only[p4] at h1 h2;have hw:IntKind.i64.wrap (((sumW (l.take k):Nat):Int)+1)=((sumW (l.take k)+1:Nat):Int):=by rw[w64]<;>omega
  simp only[go_sem,zE,zA,zL,cT,cBox,hw];refine (J7 gl O t3 x3 aa W b _ (sumW (l.take k)+1) (cT _ _ _) (by omega)).q ?_;have ab:decide ((9223372036854775807:Int)<((sumW (l.take k)+1+dN O:Nat):Int))=false:=by simp;omega
  simp only[go_sem,zE,cT,cBox,fits,ab];rw[eZ,eZ,h1,show sumW (l.take k)+(dN O+1)=sumW (l.take k)+1+dN O by omega]
 ·rintro _ r rfl;simp only[go_sem,zE,cT,cBox];rw[lTl];exact dZ (fj hb) ⟨rfl,rfl⟩
def Ke (f:Fm)(x:IV)(hx:IsFm f x)(D:f.size<=4611686018427387904)(st:ISt) :
  ICall prog gl 280 [x] st (λr st'=>r=f.size/\st'=st):=by
 have A:=λst=>Kd gl f x hx D st;generalize f.size=z at A ⊢;obtain⟨o,n,us,sub⟩:=f;obtain⟨t1,O,t2,E,rfl,_⟩:=hx.mk;refine iI func280 ?_;simp only[go_sem,zE,zA,zL];refine (A _).q ?_;simp only[go_sem];exact cO ⟨rfl,rfl⟩
