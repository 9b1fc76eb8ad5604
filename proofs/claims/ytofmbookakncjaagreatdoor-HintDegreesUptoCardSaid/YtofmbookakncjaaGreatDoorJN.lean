/- Walks: equality of formulas and of lists -/
import Derived.Test.YtofmbookakncjaaGreatDoorJM
set_option linter.all false
open Nat renaming reduceEqDiff → zE,reduceAdd → zA,reduceLeDiff → zL
namespace Go.Proofs.Tryz
open Go Go.Iv
set_option maxRecDepth 4000
variable (gl:Nat->Option IV)
end Go.Proofs.Tryz
namespace Go.Proofs.Tryz
open Go Go.Iv
set_option maxRecDepth 4000
mutual
def yZ2:Tm->List ByteArray
 | .mk true n l=>n::yQs l
 | .mk false _ l=>yQs l
def yQs:List Tm->List ByteArray
 | []=>[]
 | a::l=>yZ2 a++yQs l
end
theorem yXs:∀(l m:List Tm),yQs (l++m)=yQs l++yQs m
 | [],m=>by simp[yQs]
 | a::l,m=>by simp only[List.cons_append,yQs,yXs l m,List.append_assoc]
variable (gl:Nat->Option IV)
def xXi (I:Nat->ISt->Prop)(S:ISt->Prop)(k:Nat)(r:IV)(st':ISt):Prop:=(r=.raw (.bool true)/\I k st')\/(r=.raw (.bool false)/\S st')
def YOk (y:IV)(I:Nat->ISt->Prop)(S:ISt->Prop)(k0:Nat)(l:List ByteArray):Prop :=
 ∀i nm stu,l[i]?=some nm->I (k0+i) stu->ICallV prog gl y [.raw (.string nm)] stu (xXi I S (k0+i+1))
theorem YOk.left {y:IV}{I:Nat->ISt->Prop}{S:ISt->Prop}{k0:Nat}{l m:List ByteArray}(h:YOk gl y I S k0 (l++m)):YOk gl y I S k0 l:=λi nm stu A D =>
 h i nm stu (by rw[List.getElem?_append_left (lGs A).1];exact A) D
theorem YOk.right {y:IV}{I:Nat->ISt->Prop}{S:ISt->Prop}{k0:Nat}{l m:List ByteArray}(h:YOk gl y I S k0 (l++m)):YOk gl y I S (k0+l.length) m:=λi nm stu A D=>by
 have:=h (l.length+i) nm stu (by rw[List.getElem?_append_right (by omega)];simpa using A) (by rw[<- Nat.add_assoc];exact D);simpa only[Nat.add_assoc] using this
theorem YOk.head {y:IV}{I:Nat->ISt->Prop}{S:ISt->Prop}{k0:Nat}{n:ByteArray}{m:List ByteArray}(h:YOk gl y I S k0 (n::m)){st:ISt}(A:I k0 st):ICallV prog gl y [.raw (.string n)] st (xXi I S (k0+1)):=h 0 n st rfl A
theorem YOk.tail {y:IV}{I:Nat->ISt->Prop}{S:ISt->Prop}{k0:Nat}{n:ByteArray}{m:List ByteArray}(h:YOk gl y I S k0 (n::m)):YOk gl y I S (k0+1) m:=YOk.right gl (l:=[n]) h
def VT (t:Tm):Prop:=∀(x:IV) (_:IsTm t x) (f:Fn) (A ca:List IV) (_:fnOk f=true) (_:∀g,f=.func g->entI prog g=true) (I:Nat->ISt->Prop) (S:ISt->Prop) (k0:Nat) (_:YOk gl (.fn f A ca) I S k0 (yZ2 t)) (st:ISt) (_:I k0 st),
  ICall prog gl 247 [x,.fn f A ca] st (xXi I S (k0+(yZ2 t).length))
theorem zVs (v:Bool)(n:ByteArray)(us:List Tm)(IH:∀a∈us,VT gl a):VT gl (.mk v n us):=by
 intro x hx f fi ca aj U I S k0 hy st hI;obtain⟨tg,xs,rfl,ag,E⟩:=hx.mk;refine iI func247 ?_;have go:∀(k1:Nat),YOk gl (.fn f fi ca) I S k1 (yQs us)->k1+(yQs us).length=k0+(yZ2 (.mk v n us)).length->∀(k:Nat) (fr:Fr) (st:ISt),k<us.length->us.length<=140737488355328->I (k1+(yQs (us.take k)).length) st →
   ICall prog gl 247 [(xs[k]?).getD .junk,.fn f fi ca] st (xXi I S (k1+(yQs (us.take (k+1))).length)):=by
  intro k1 ae _ k _ st A _ ak;obtain⟨a,ha⟩:=yQ1 A;obtain⟨x,D,hx⟩:=E.get ha;rw[D,Option.getD_some];have O:yQs us=yQs (us.take k)++(yZ2 a++yQs (us.drop (k+1))):=by
   conv=>lhs;rw[<- List.take_append_drop k us,List.drop_eq_getElem_cons A]
   rw[yXs,(lGs ha).2];rfl
  rw[O] at ae;have:=IH a (lMg ha) x hx f fi ca aj U I S _ (YOk.left gl (YOk.right gl ae)) st ak;rw[yQ6 ha,yXs];simpa only[yQs,List.append_nil,lLa,Nat.add_assoc] using this
 cases v
 ·simp only[yZ2] at hy ⊢;simp only[go_sem,zE,zA,E.len];intro G;refine LoopC.ctr us.length (λk fr st ds=>I (k0+(yQs (us.take k)).length) st/\fr 1=.iv (.fn f fi ca)/\fr 17=.iv (.sl tg xs)/\fr 18=.iv (.raw (.int .i64 us.length))/\fr 19=.iv (.raw (.int .i64 k))/\ds=[]) ?_ ?_ ?_
  ·simp only[go_sem,zE];exact⟨by simpa[yQs] using hI,rfl⟩
  ·rintro k fr st _ A ⟨h1,f1,f17,f18,f19,rfl⟩;obtain⟨a,ha⟩:=yQ1 A;obtain⟨x,D,hx⟩:=E.get ha;have J:=go k0 hy rfl k fr st A G h1;rw[D,Option.getD_some] at J;obtain⟨v2,n2,m⟩:=a;obtain⟨tx,cx,rfl,_⟩:=hx.mk;simp only[go_sem,zE,zA,zL,f1,f17,f18,f19,lt_i A,yQ3 ag,iNn,D];refine J.mono ?_;rintro _ st (⟨rfl,h⟩|⟨rfl,h⟩)
   ·simp only[go_sem,zE,f1,f17,f18,f19,yQc A (show us.length<=281474976710656 by omega)];exact h
   ·simp only[go_sem];exact yQ0 (.inr ⟨rfl,h⟩)
  ·rintro fr st _ ⟨h1,f1,f17,f18,f19,rfl⟩;simp only[go_sem,f18,f19,yQl (nLi _)];rw[lTl] at h1;exact yQ0 (.inl ⟨rfl,h1⟩)
 ·simp only[yZ2] at hy ⊢;simp only[go_sem,zE];refine yZ3 U ((YOk.head gl hy hI).mono ?_);rintro _ st (⟨rfl,h⟩|⟨rfl,h⟩)
  ·simp only[go_sem,zE,E.len];intro G;refine LoopC.ctr us.length (λk fr st ds=>I (k0+1+(yQs (us.take k)).length) st/\fr 1=.iv (.fn f fi ca)/\fr 17=.iv (.sl tg xs)/\fr 18=.iv (.raw (.int .i64 us.length))/\fr 19=.iv (.raw (.int .i64 k))/\ds=[]) ?_ ?_ ?_
   ·simp only[go_sem,zE];exact⟨by simpa[yQs] using h,rfl⟩
   ·rintro k fr st _ A ⟨h1,f1,f17,f18,f19,rfl⟩;obtain⟨a,ha⟩:=yQ1 A;obtain⟨x,D,hx⟩:=E.get ha;have J:=go (k0+1) (YOk.tail gl hy) (by simp[yZ2];omega) k fr st A G h1;rw[D,Option.getD_some] at J;obtain⟨v2,n2,m⟩:=a;obtain⟨tx,cx,rfl,_⟩:=hx.mk;simp only[go_sem,zE,zA,zL,f1,f17,f18,f19,lt_i A,yQ3 ag,iNn,D];refine J.mono ?_;rintro _ st (⟨rfl,h⟩|⟨rfl,h⟩)
    ·simp only[go_sem,zE,f1,f17,f18,f19,yQc A (show us.length<=281474976710656 by omega)];exact h
    ·simp only[go_sem];exact yQ0 (.inr ⟨rfl,h⟩)
   ·rintro fr st _ ⟨h1,f1,f17,f18,f19,rfl⟩;simp only[go_sem,f18,f19,yQl (nLi _)];rw[lTl] at h1;refine yQ0 (.inl ⟨rfl,?_⟩);rw[show k0+((yQs us).length+1)=k0+1+(yQs us).length by omega];exact h1
  ·simp only[go_sem,zE];exact yQ0 (.inr ⟨rfl,h⟩)
theorem yUr:∀(k:Nat)(t:Tm),SizeOf.sizeOf t<k->VT gl t
 | 0,f,h=>by omega
 | k+1,.mk v n us,h=>zVs gl v n us (λa A=>yUr k a (by
   have:=lSm A;simp at h;omega))
theorem zJg (t:Tm):VT gl t:=yUr gl _ t (Nat.lt_succ_self _)
