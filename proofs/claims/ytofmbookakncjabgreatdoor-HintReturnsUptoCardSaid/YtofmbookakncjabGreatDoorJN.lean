/- Walks: equality of formulas and of lists -/
import Derived.Test.YtofmbookakncjabGreatDoorJM
set_option linter.all false
open Nat renaming reduceEqDiff → zE,reduceAdd → zA,reduceLeDiff → zL
namespace Go.Proofs.Tryz
open Go Go.Iv
set_option maxRecDepth 4000
variable (gl:Nat->Option IV)
end Go.Proofs.Tryz
namespace Go.Proofs.Tryz
open Go Go.Iv
set_option maxRecDepth 4000
mutual
def gQ:Tm->List ByteArray
 | .mk true n l=>n::gG l
 | .mk false _ l=>gG l
def gG:List Tm->List ByteArray
 | []=>[]
 | a::l=>gQ a++gG l
end
def ui:∀(l m:List Tm),gG (l++m)=gG l++gG m
 | [],m=>by simp[gG]
 | a::l,m=>by simp only[fq,gG,ui l m,fD]
variable (gl:Nat->Option IV)
def pW (I:Nat->ISt->Prop)(S:ISt->Prop)(k:Nat)(r:IV)(st':ISt):Prop:=(r=true/\I k st')\/(r=false/\S st')
def YOk (y:IV)(I:Nat->ISt->Prop)(S:ISt->Prop)(k0:Nat)(l:List ByteArray):Prop :=
 ∀i nm stu,l[i]?=some nm->I (k0+i) stu->ICallV prog gl y [.raw (.string nm)] stu (pW I S (k0+i+1))
def YOk.left {y:IV}{I:Nat->ISt->Prop}{S:ISt->Prop}{k0:Nat}{l m:List ByteArray}(h:YOk gl y I S k0 (l++m)):YOk gl y I S k0 l:=λi nm stu A D =>
 h i nm stu (by rw[gw (lGs A).1];exact A) D
def YOk.right {y:IV}{I:Nat->ISt->Prop}{S:ISt->Prop}{k0:Nat}{l m:List ByteArray}(h:YOk gl y I S k0 (l++m)):YOk gl y I S (k0+l.length) m:=λi nm stu A D=>by
 have:=h (l.length+i) nm stu (by rw[gD (by omega)];simpa using A) (by rw[<- iQ];exact D);simpa only[iQ] using this
def YOk.head {y:IV}{I:Nat->ISt->Prop}{S:ISt->Prop}{k0:Nat}{n:ByteArray}{m:List ByteArray}(h:YOk gl y I S k0 (n::m)){st:ISt}(A:I k0 st):ICallV prog gl y [n] st (pW I S (k0+1)):=h 0 n st rfl A
def YOk.tail {y:IV}{I:Nat->ISt->Prop}{S:ISt->Prop}{k0:Nat}{n:ByteArray}{m:List ByteArray}(h:YOk gl y I S k0 (n::m)):YOk gl y I S (k0+1) m:=YOk.right gl (l:=[n]) h
def VT (t:Tm):Prop:=∀(x:IV) (_:IsTm t x) (f:Fn) (A ca:List IV) (_:fnOk f=true) (_:∀g,f=.func g->entI prog g=true) (I:Nat->ISt->Prop) (S:ISt->Prop) (k0:Nat) (_:YOk gl (.fn f A ca) I S k0 (gQ t)) (st:ISt) (_:I k0 st),
  ICall prog gl 248 [x,.fn f A ca] st (pW I S (k0+(gQ t).length))
def LL (v:Bool)(n:ByteArray)(us:List Tm)(IH:∀a∈us,VT gl a):VT gl (.mk v n us):=by
 intro x hx f fi ca aj U I S k0 hy st hI;obtain⟨tg,xs,rfl,ag,E⟩:=hx.mk;refine iI func248 ?_;have go:∀(k1:Nat),YOk gl (.fn f fi ca) I S k1 (gG us)->k1+(gG us).length=k0+(gQ (.mk v n us)).length->∀(k:Nat) (fr:Fr) (st:ISt),k<us.length->us.length<=140737488355328->I (k1+(gG (us.take k)).length) st →
   ICall prog gl 248 [(xs[k]?).getD .junk,.fn f fi ca] st (pW I S (k1+(gG (us.take (k+1))).length)):=by
  intro k1 ae _ k _ st A _ ak;obtain⟨a,ha⟩:=ed A;obtain⟨x,D,hx⟩:=E.get ha;rw[D,fz];have O:gG us=gG (us.take k)++(gQ a++gG (us.drop (k+1))):=by
   conv=>lhs;rw[<- fh k us,gB A]
   rw[ui,(lGs ha).2];rfl
  rw[O] at ae;have:=IH a (lMg ha) x hx f fi ca aj U I S _ (YOk.left gl (YOk.right gl ae)) st ak;rw[en ha,ui];simpa only[gG,fL,lLa,iQ] using this
 cases v
 ·simp only[gQ] at hy ⊢;simp only[go_sem,zE,zA,E.len];intro G;refine dC us.length (λk fr st ds=>I (k0+(gG (us.take k)).length) st/\fr 1=.iv (.fn f fi ca)/\fr 17=.iv (.sl tg xs)/\fr 18=us.length/\fr 19=.iv (.raw (.int .i64 k))/\ds=[]) ?_ ?_ ?_
  ·simp only[go_sem,zE];exact⟨by simpa[gG] using hI,rfl⟩
  ·rintro k fr st _ A ⟨h1,f1,f17,f18,f19,rfl⟩;obtain⟨a,ha⟩:=ed A;obtain⟨x,D,hx⟩:=E.get ha;have J:=go k0 hy rfl k fr st A G h1;rw[D,fz] at J;obtain⟨v2,n2,m⟩:=a;obtain⟨tx,cx,rfl,_⟩:=hx.mk;simp only[go_sem,zE,zA,zL,f1,f17,f18,f19,lt_i A,ec ag,iNn,D];refine J.mono ?_;rintro _ st (⟨rfl,h⟩|⟨rfl,h⟩)
   ·simp only[go_sem,zE,f1,f17,f18,f19,ek A (by omega)];exact h
   ·simp only[go_sem];exact dw (.inr ⟨rfl,h⟩)
  ·rintro fr st _ ⟨h1,f1,f17,f18,f19,rfl⟩;simp only[go_sem,f18,f19,eI (nLi _)];rw[lTl] at h1;exact dw (.inl ⟨rfl,h1⟩)
 ·simp only[gQ] at hy ⊢;simp only[go_sem,zE];refine mI U ((YOk.head gl hy hI).mono ?_);rintro _ st (⟨rfl,h⟩|⟨rfl,h⟩)
  ·simp only[go_sem,zE,E.len];intro G;refine dC us.length (λk fr st ds=>I (k0+1+(gG (us.take k)).length) st/\fr 1=.iv (.fn f fi ca)/\fr 17=.iv (.sl tg xs)/\fr 18=us.length/\fr 19=.iv (.raw (.int .i64 k))/\ds=[]) ?_ ?_ ?_
   ·simp only[go_sem,zE];exact⟨by simpa[gG] using h,rfl⟩
   ·rintro k fr st _ A ⟨h1,f1,f17,f18,f19,rfl⟩;obtain⟨a,ha⟩:=ed A;obtain⟨x,D,hx⟩:=E.get ha;have J:=go (k0+1) (YOk.tail gl hy) (by simp[gQ];omega) k fr st A G h1;rw[D,fz] at J;obtain⟨v2,n2,m⟩:=a;obtain⟨tx,cx,rfl,_⟩:=hx.mk;simp only[go_sem,zE,zA,zL,f1,f17,f18,f19,lt_i A,ec ag,iNn,D];refine J.mono ?_;rintro _ st (⟨rfl,h⟩|⟨rfl,h⟩)
    ·simp only[go_sem,zE,f1,f17,f18,f19,ek A (by omega)];exact h
    ·simp only[go_sem];exact dw (.inr ⟨rfl,h⟩)
   ·rintro fr st _ ⟨h1,f1,f17,f18,f19,rfl⟩;simp only[go_sem,f18,f19,eI (nLi _)];rw[lTl] at h1;refine dw (.inl ⟨rfl,?_⟩);rw[show k0+((gG us).length+1)=k0+1+(gG us).length by omega];exact h1
  ·simp only[go_sem,zE];exact dw (.inr ⟨rfl,h⟩)
def Eo:∀(k:Nat)(t:Tm),SizeOf.sizeOf t<k->VT gl t
 | 0,f,h=>by omega
 | k+1,.mk v n us,h=>LL gl v n us (λa A=>Eo k a (by
   have:=lSm A;simp at h;omega))
def Ep (t:Tm):VT gl t:=Eo gl _ t (fP _)
