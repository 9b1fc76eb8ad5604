/- Walks: equality of formulas and of lists -/
import Derived.Test.YtakbihknkdpmgaaGreatDoorJM
set_option linter.all false
open Nat renaming reduceEqDiff → zE,reduceAdd → zA,reduceLeDiff → zL
namespace Go.Proofs.Tryz
open Go Go.Iv
set_option maxRecDepth 4000
variable (gl:Nat->Option IV)
end Go.Proofs.Tryz
namespace Go.Proofs.Tryz
open Go Go.Iv
set_option maxRecDepth 4000
mutual
def fK:Tm->List ByteArray
 | .mk true n l=>n::fC l
 | .mk false _ l=>fC l
def fC:List Tm->List ByteArray
 | []=>[]
 | a::l=>fK a++fC l
end
def rz:∀(l m:List Tm),fC (l++m)=fC l++fC m
 | [],m=>by simp[fC]
 | a::l,m=>by simp only[ed,fC,rz l m,en]
variable (gl:Nat->Option IV)
def oB (I:Nat->ISt->Prop)(S:ISt->Prop)(k:Nat)(r:IV)(st':ISt):Prop:=(r=true/\I k st')\/(r=false/\S st')
def YOk (y:IV)(I:Nat->ISt->Prop)(S:ISt->Prop)(k0:Nat)(l:List ByteArray):Prop :=
 ∀i nm stu,l[i]?=some nm->I (k0+i) stu->ICallV prog gl y [.raw (.string nm)] stu (oB I S (k0+i+1))
def YOk.left {y:IV}{I:Nat->ISt->Prop}{S:ISt->Prop}{k0:Nat}{l m:List ByteArray}(h:YOk gl y I S k0 (l++m)):YOk gl y I S k0 l:=λi nm stu A D =>
 h i nm stu (by rw[fw (lGs A).1];exact A) D
def YOk.right {y:IV}{I:Nat->ISt->Prop}{S:ISt->Prop}{k0:Nat}{l m:List ByteArray}(h:YOk gl y I S k0 (l++m)):YOk gl y I S (k0+l.length) m:=λi nm stu A D=>by
 have:=h (l.length+i) nm stu (by rw[fD (by omega)];simpa using A) (by rw[<- fE];exact D);simpa only[fE] using this
def YOk.head {y:IV}{I:Nat->ISt->Prop}{S:ISt->Prop}{k0:Nat}{n:ByteArray}{m:List ByteArray}(h:YOk gl y I S k0 (n::m)){st:ISt}(A:I k0 st):ICallV prog gl y [n] st (oB I S (k0+1)):=h 0 n st rfl A
def YOk.tail {y:IV}{I:Nat->ISt->Prop}{S:ISt->Prop}{k0:Nat}{n:ByteArray}{m:List ByteArray}(h:YOk gl y I S k0 (n::m)):YOk gl y I S (k0+1) m:=YOk.right gl (l:=[n]) h
def VT (t:Tm):Prop:=∀(x:IV) (_:IsTm t x) (f:Fn) (A ca:List IV) (_:fnOk f=true) (_:∀g,f=.func g->entI prog g=true) (I:Nat->ISt->Prop) (S:ISt->Prop) (k0:Nat) (_:YOk gl (.fn f A ca) I S k0 (fK t)) (st:ISt) (_:I k0 st),
  ICall prog gl 282 [x,.fn f A ca] st (oB I S (k0+(fK t).length))
def Kd (v:Bool)(n:ByteArray)(us:List Tm)(IH:∀a∈us,VT gl a):VT gl (.mk v n us):=by
 intro x hx f fi ca aj U I S k0 hy st hI;obtain⟨tg,xs,rfl,ag,E⟩:=hx.mk;refine iI func282 ?_;have go:∀(k1:Nat),YOk gl (.fn f fi ca) I S k1 (fC us)->k1+(fC us).length=k0+(fK (.mk v n us)).length->∀(k:Nat) (fr:Fr) (st:ISt),k<us.length->us.length<=140737488355328->I (k1+(fC (us.take k)).length) st →
   ICall prog gl 282 [(xs[k]?).getD .junk,.fn f fi ca] st (oB I S (k1+(fC (us.take (k+1))).length)):=by
  intro k1 ae _ k _ st A _ ak;obtain⟨a,ha⟩:=dB A;obtain⟨x,D,hx⟩:=E.get ha;rw[D,eh];have O:fC us=fC (us.take k)++(fK a++fC (us.drop (k+1))):=by
   conv=>lhs;rw[<- el k us,fa A]
   rw[rz,(lGs ha).2];rfl
  rw[O] at ae;have:=IH a (lMg ha) x hx f fi ca aj U I S _ (YOk.left gl (YOk.right gl ae)) st ak;rw[dE ha,rz];simpa only[fC,eo,lLa,fE] using this
 cases v
 ·simp only[fK] at hy ⊢;simp only[go_sem,zE,zA,E.len];intro G;refine dj us.length (λk fr st ds=>I (k0+(fC (us.take k)).length) st/\fr 1=.iv (.fn f fi ca)/\fr 17=.iv (.sl tg xs)/\fr 18=us.length/\fr 19=.iv (.raw (.int .i64 k))/\ds=[]) ?_ ?_ ?_
  ·simp only[go_sem,zE];exact⟨by simpa[fC] using hI,rfl⟩
  ·rintro k fr st _ A ⟨h1,f1,f17,f18,f19,rfl⟩;obtain⟨a,ha⟩:=dB A;obtain⟨x,D,hx⟩:=E.get ha;have J:=go k0 hy rfl k fr st A G h1;rw[D,eh] at J;obtain⟨v2,n2,m⟩:=a;obtain⟨tx,cx,rfl,_⟩:=hx.mk;simp only[go_sem,zE,zA,zL,f1,f17,f18,f19,lt_i A,dz ag,iNn,D];refine J.mono ?_;rintro _ st (⟨rfl,h⟩|⟨rfl,h⟩)
   ·simp only[go_sem,zE,f1,f17,f18,f19,dC A (by omega)];exact h
   ·simp only[go_sem];exact c_ (.inr ⟨rfl,h⟩)
  ·rintro fr st _ ⟨h1,f1,f17,f18,f19,rfl⟩;simp only[go_sem,f18,f19,dF (nLi _)];rw[lTl] at h1;exact c_ (.inl ⟨rfl,h1⟩)
 ·simp only[fK] at hy ⊢;simp only[go_sem,zE];refine lF U ((YOk.head gl hy hI).mono ?_);rintro _ st (⟨rfl,h⟩|⟨rfl,h⟩)
  ·simp only[go_sem,zE,E.len];intro G;refine dj us.length (λk fr st ds=>I (k0+1+(fC (us.take k)).length) st/\fr 1=.iv (.fn f fi ca)/\fr 17=.iv (.sl tg xs)/\fr 18=us.length/\fr 19=.iv (.raw (.int .i64 k))/\ds=[]) ?_ ?_ ?_
   ·simp only[go_sem,zE];exact⟨by simpa[fC] using h,rfl⟩
   ·rintro k fr st _ A ⟨h1,f1,f17,f18,f19,rfl⟩;obtain⟨a,ha⟩:=dB A;obtain⟨x,D,hx⟩:=E.get ha;have J:=go (k0+1) (YOk.tail gl hy) (by simp[fK];omega) k fr st A G h1;rw[D,eh] at J;obtain⟨v2,n2,m⟩:=a;obtain⟨tx,cx,rfl,_⟩:=hx.mk;simp only[go_sem,zE,zA,zL,f1,f17,f18,f19,lt_i A,dz ag,iNn,D];refine J.mono ?_;rintro _ st (⟨rfl,h⟩|⟨rfl,h⟩)
    ·simp only[go_sem,zE,f1,f17,f18,f19,dC A (by omega)];exact h
    ·simp only[go_sem];exact c_ (.inr ⟨rfl,h⟩)
   ·rintro fr st _ ⟨h1,f1,f17,f18,f19,rfl⟩;simp only[go_sem,f18,f19,dF (nLi _)];rw[lTl] at h1;refine c_ (.inl ⟨rfl,?_⟩);rw[show k0+((fC us).length+1)=k0+1+(fC us).length by omega];exact h1
  ·simp only[go_sem,zE];exact c_ (.inr ⟨rfl,h⟩)
def Cq:∀(k:Nat)(t:Tm),SizeOf.sizeOf t<k->VT gl t
 | 0,f,h=>by omega
 | k+1,.mk v n us,h=>Kd gl v n us (λa A=>Cq k a (by
   have:=lSm A;simp at h;omega))
def Cr (t:Tm):VT gl t:=Cq gl _ t (ew _)
