/- Walks: equality of formulas and of lists -/
import Derived.Test.YtigeiecfkoimpaaGreatDoorJM
set_option linter.all false
open Nat renaming reduceEqDiff → zE,reduceAdd → zA,reduceLeDiff → zL
namespace Go.Proofs.Tryz
open Go Go.Iv
set_option maxRecDepth 4000
variable (gl:Nat->Option IV)
end Go.Proofs.Tryz
namespace Go.Proofs.Tryz
open Go Go.Iv
set_option maxRecDepth 4000
mutual
def fP:Tm->List ByteArray
 | .mk true n l=>n::fI l
 | .mk false _ l=>fI l
def fI:List Tm->List ByteArray
 | []=>[]
 | a::l=>fP a++fI l
end
def rI:∀(l m:List Tm),fI (l++m)=fI l++fI m
 | [],m=>by simp[fI]
 | a::l,m=>by simp only[eu,fI,rI l m,et]
variable (gl:Nat->Option IV)
def oH (I:Nat->ISt->Prop)(S:ISt->Prop)(k:Nat)(r:IV)(st':ISt):Prop:=(r=true/\I k st')\/(r=false/\S st')
def YOk (y:IV)(I:Nat->ISt->Prop)(S:ISt->Prop)(k0:Nat)(l:List ByteArray):Prop :=
 ∀i nm stu,l[i]?=some nm->I (k0+i) stu->ICallV prog gl y [.raw (.string nm)] stu (oH I S (k0+i+1))
def YOk.left {y:IV}{I:Nat->ISt->Prop}{S:ISt->Prop}{k0:Nat}{l m:List ByteArray}(h:YOk gl y I S k0 (l++m)):YOk gl y I S k0 l:=λi nm stu D E =>
 h i nm stu (by rw[fg (lGs D).1];exact D) E
def YOk.right {y:IV}{I:Nat->ISt->Prop}{S:ISt->Prop}{k0:Nat}{l m:List ByteArray}(h:YOk gl y I S k0 (l++m)):YOk gl y I S (k0+l.length) m:=λi nm stu D E=>by
 have:=h (l.length+i) nm stu (by rw[fD (by omega)];simpa using D) (by rw[<- gO];exact E);simpa only[gO] using this
def YOk.head {y:IV}{I:Nat->ISt->Prop}{S:ISt->Prop}{k0:Nat}{n:ByteArray}{m:List ByteArray}(h:YOk gl y I S k0 (n::m)){st:ISt}(D:I k0 st):ICallV prog gl y [n] st (oH I S (k0+1)):=h 0 n st rfl D
def YOk.tail {y:IV}{I:Nat->ISt->Prop}{S:ISt->Prop}{k0:Nat}{n:ByteArray}{m:List ByteArray}(h:YOk gl y I S k0 (n::m)):YOk gl y I S (k0+1) m:=YOk.right gl (l:=[n]) h
def VT (t:Tm):Prop:=∀(x:IV) (_:IsTm t x) (f:Fn) (D ca:List IV) (_:fnOk f=true) (_:∀g,f=.func g->entI prog g=true) (I:Nat->ISt->Prop) (S:ISt->Prop) (k0:Nat) (_:YOk gl (.fn f D ca) I S k0 (fP t)) (st:ISt) (_:I k0 st),
  ICall prog gl 222 [x,.fn f D ca] st (oH I S (k0+(fP t).length))
def Kn (v:Bool)(n:ByteArray)(us:List Tm)(IH:∀a∈us,VT gl a):VT gl (.mk v n us):=by
 intro x hx f fi ca ak ab I S k0 hy st hI;obtain⟨tg,xs,rfl,ai,G⟩:=hx.mk;refine iI func222 ?_;have go:∀(k1:Nat),YOk gl (.fn f fi ca) I S k1 (fI us)->k1+(fI us).length=k0+(fP (.mk v n us)).length->∀(k:Nat) (fr:Fr) (st:ISt),k<us.length->us.length<=140737488355328->I (k1+(fI (us.take k)).length) st →
   ICall prog gl 222 [(xs[k]?).getD .junk,.fn f fi ca] st (oH I S (k1+(fI (us.take (k+1))).length)):=by
  intro k1 ag _ k _ st D _ al;obtain⟨a,ha⟩:=dD D;obtain⟨x,E,hx⟩:=G.get ha;rw[E,ez];have aa:fI us=fI (us.take k)++(fP a++fI (us.drop (k+1))):=by
   conv=>lhs;rw[<- eA k us,fC D]
   rw[rI,(lGs ha).2];rfl
  rw[aa] at ag;have:=IH a (lMg ha) x hx f fi ca ak ab I S _ (YOk.left gl (YOk.right gl ag)) st al;rw[dM ha,rI];simpa only[fI,ek,lLa,gO] using this
 cases v
 ·simp only[fP] at hy ⊢;simp only[go_sem,zE,zA,G.len];intro J;refine dt us.length (λk fr st ds=>I (k0+(fI (us.take k)).length) st/\fr 1=.iv (.fn f fi ca)/\fr 17=.iv (.sl tg xs)/\fr 18=us.length/\fr 19=.iv (.raw (.int .i64 k))/\ds=[]) ?_ ?_ ?_
  ·simp only[go_sem,zE];exact⟨by simpa[fI] using hI,rfl⟩
  ·rintro k fr st _ D ⟨h1,f1,f17,f18,f19,rfl⟩;obtain⟨a,ha⟩:=dD D;obtain⟨x,E,hx⟩:=G.get ha;have O:=go k0 hy rfl k fr st D J h1;rw[E,ez] at O;obtain⟨v2,n2,m⟩:=a;obtain⟨tx,cx,rfl,_⟩:=hx.mk;simp only[go_sem,zE,zA,zL,f1,f17,f18,f19,lt_i D,dB ai,iNn,E];refine O.mono ?_;rintro _ st (⟨rfl,h⟩|⟨rfl,h⟩)
   ·simp only[go_sem,zE,f1,f17,f18,f19,dL D (by omega)];exact h
   ·simp only[go_sem];exact c_ (.inr ⟨rfl,h⟩)
  ·rintro fr st _ ⟨h1,f1,f17,f18,f19,rfl⟩;simp only[go_sem,f18,f19,dS (nLi _)];rw[lTl] at h1;exact c_ (.inl ⟨rfl,h1⟩)
 ·simp only[fP] at hy ⊢;simp only[go_sem,zE];refine lO ab ((YOk.head gl hy hI).mono ?_);rintro _ st (⟨rfl,h⟩|⟨rfl,h⟩)
  ·simp only[go_sem,zE,G.len];intro J;refine dt us.length (λk fr st ds=>I (k0+1+(fI (us.take k)).length) st/\fr 1=.iv (.fn f fi ca)/\fr 17=.iv (.sl tg xs)/\fr 18=us.length/\fr 19=.iv (.raw (.int .i64 k))/\ds=[]) ?_ ?_ ?_
   ·simp only[go_sem,zE];exact⟨by simpa[fI] using h,rfl⟩
   ·rintro k fr st _ D ⟨h1,f1,f17,f18,f19,rfl⟩;obtain⟨a,ha⟩:=dD D;obtain⟨x,E,hx⟩:=G.get ha;have O:=go (k0+1) (YOk.tail gl hy) (by simp[fP];omega) k fr st D J h1;rw[E,ez] at O;obtain⟨v2,n2,m⟩:=a;obtain⟨tx,cx,rfl,_⟩:=hx.mk;simp only[go_sem,zE,zA,zL,f1,f17,f18,f19,lt_i D,dB ai,iNn,E];refine O.mono ?_;rintro _ st (⟨rfl,h⟩|⟨rfl,h⟩)
    ·simp only[go_sem,zE,f1,f17,f18,f19,dL D (by omega)];exact h
    ·simp only[go_sem];exact c_ (.inr ⟨rfl,h⟩)
   ·rintro fr st _ ⟨h1,f1,f17,f18,f19,rfl⟩;simp only[go_sem,f18,f19,dS (nLi _)];rw[lTl] at h1;refine c_ (.inl ⟨rfl,?_⟩);rw[show k0+((fI us).length+1)=k0+1+(fI us).length by omega];exact h1
  ·simp only[go_sem,zE];exact c_ (.inr ⟨rfl,h⟩)
def CE:∀(k:Nat)(t:Tm),SizeOf.sizeOf t<k->VT gl t
 | 0,f,h=>by omega
 | k+1,.mk v n us,h=>Kn gl v n us (λa D=>CE k a (by
   have:=lSm D;simp at h;omega))
def CF (t:Tm):VT gl t:=CE gl _ t (eS _)
