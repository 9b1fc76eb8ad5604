/- Walks: equality of formulas and of lists -/
import Derived.Test.YtabhgbojkjcfjaaGreatDoorJM
set_option linter.all false
open Nat renaming reduceEqDiff → zE,reduceAdd → zA,reduceLeDiff → zL
namespace Go.Proofs.Tryz
open Go Go.Iv
set_option maxRecDepth 4000
variable (gl:Nat->Option IV)
end Go.Proofs.Tryz
namespace Go.Proofs.Tryz
open Go Go.Iv
set_option maxRecDepth 4000
mutual
def yQo:Tm->List ByteArray
 | .mk true n l=>n::yQk l
 | .mk false _ l=>yQk l
def yQk:List Tm->List ByteArray
 | []=>[]
 | a::l=>yQo a++yQk l
end
theorem yX5:∀(l m:List Tm),yQk (l++m)=yQk l++yQk m
 | [],m=>by simp[yQk]
 | a::l,m=>by simp only[List.cons_append,yQk,yX5 l m,List.append_assoc]
variable (gl:Nat->Option IV)
def xK9 (I:Nat->ISt->Prop)(S:ISt->Prop)(k:Nat)(r:IV)(st':ISt):Prop:=(r=.raw (.bool true)/\I k st')\/(r=.raw (.bool false)/\S st')
def YOk (y:IV)(I:Nat->ISt->Prop)(S:ISt->Prop)(k0:Nat)(l:List ByteArray):Prop :=
 ∀i nm stu,l[i]?=some nm->I (k0+i) stu->ICallV prog gl y [.raw (.string nm)] stu (xK9 I S (k0+i+1))
theorem YOk.left {y:IV}{I:Nat->ISt->Prop}{S:ISt->Prop}{k0:Nat}{l m:List ByteArray}(h:YOk gl y I S k0 (l++m)):YOk gl y I S k0 l:=λi nm stu A D =>
 h i nm stu (by rw[List.getElem?_append_left (lGs A).1];exact A) D
theorem YOk.right {y:IV}{I:Nat->ISt->Prop}{S:ISt->Prop}{k0:Nat}{l m:List ByteArray}(h:YOk gl y I S k0 (l++m)):YOk gl y I S (k0+l.length) m:=λi nm stu A D=>by
 have:=h (l.length+i) nm stu (by rw[List.getElem?_append_right (by omega)];simpa using A) (by rw[<- Nat.add_assoc];exact D);simpa only[Nat.add_assoc] using this
theorem YOk.head {y:IV}{I:Nat->ISt->Prop}{S:ISt->Prop}{k0:Nat}{n:ByteArray}{m:List ByteArray}(h:YOk gl y I S k0 (n::m)){st:ISt}(A:I k0 st):ICallV prog gl y [.raw (.string n)] st (xK9 I S (k0+1)):=h 0 n st rfl A
theorem YOk.tail {y:IV}{I:Nat->ISt->Prop}{S:ISt->Prop}{k0:Nat}{n:ByteArray}{m:List ByteArray}(h:YOk gl y I S k0 (n::m)):YOk gl y I S (k0+1) m:=YOk.right gl (l:=[n]) h
def VT (t:Tm):Prop:=∀(x:IV) (_:IsTm t x) (f:Fn) (A ca:List IV) (_:fnOk f=true) (_:∀g,f=.func g->entI prog g=true) (I:Nat->ISt->Prop) (S:ISt->Prop) (k0:Nat) (_:YOk gl (.fn f A ca) I S k0 (yQo t)) (st:ISt) (_:I k0 st),
  ICall prog gl 274 [x,.fn f A ca] st (xK9 I S (k0+(yQo t).length))
theorem zWz (v:Bool)(n:ByteArray)(us:List Tm)(IH:∀a∈us,VT gl a):VT gl (.mk v n us):=by
 intro x W f fi ca ah O I S k0 hy st hI;obtain⟨tg,xs,rfl,ae,E⟩:=W.mk;refine iI func274 ?_;have go:∀(k1:Nat),YOk gl (.fn f fi ca) I S k1 (yQk us)->k1+(yQk us).length=k0+(yQo (.mk v n us)).length->∀(k:Nat) (fr:Fr) (st:ISt),k<us.length->us.length<=140737488355328->I (k1+(yQk (us.take k)).length) st →
   ICall prog gl 274 [(xs[k]?).getD .junk,.fn f fi ca] st (xK9 I S (k1+(yQk (us.take (k+1))).length)):=by
  intro k1 ab _ k _ st A _ ai;obtain⟨a,U⟩:=yQ3 A;obtain⟨x,D,W⟩:=E.get U;rw[D,Option.getD_some];have J:yQk us=yQk (us.take k)++(yQo a++yQk (us.drop (k+1))):=by
   conv=>lhs;rw[<- List.take_append_drop k us,List.drop_eq_getElem_cons A]
   rw[yX5,(lGs U).2];rfl
  rw[J] at ab;have:=IH a (lMg U) x W f fi ca ah O I S _ (YOk.left gl (YOk.right gl ab)) st ai;rw[yQ4 U,yX5];simpa only[yQk,List.append_nil,lLa,Nat.add_assoc] using this
 cases v
 ·simp only[yQo] at hy ⊢;simp only[go_sem,zE,zA,E.len];intro F;refine LoopC.ctr us.length (λk fr st ds=>I (k0+(yQk (us.take k)).length) st/\fr 1=.iv (.fn f fi ca)/\fr 17=.iv (.sl tg xs)/\fr 18=.iv (.raw (.int .i64 us.length))/\fr 19=.iv (.raw (.int .i64 k))/\ds=[]) ?_ ?_ ?_
  ·simp only[go_sem,zE];exact⟨by simpa[yQk] using hI,rfl⟩
  ·rintro k fr st _ A ⟨h1,f1,f17,f18,f19,rfl⟩;obtain⟨a,U⟩:=yQ3 A;obtain⟨x,D,W⟩:=E.get U;have G:=go k0 hy rfl k fr st A F h1;rw[D,Option.getD_some] at G;obtain⟨v2,n2,m⟩:=a;obtain⟨tx,cx,rfl,_⟩:=W.mk;simp only[go_sem,zE,zA,zL,f1,f17,f18,f19,lt_i A,yQ2 ae,iNn,D];refine G.mono ?_;rintro _ st (⟨rfl,h⟩|⟨rfl,h⟩)
   ·simp only[go_sem,zE,f1,f17,f18,f19,yQb A (show us.length<=281474976710656 by omega)];exact h
   ·simp only[go_sem];exact yQ0 (.inr ⟨rfl,h⟩)
  ·rintro fr st _ ⟨h1,f1,f17,f18,f19,rfl⟩;simp only[go_sem,f18,f19,yQj (nLi _)];rw[lTl] at h1;exact yQ0 (.inl ⟨rfl,h1⟩)
 ·simp only[yQo] at hy ⊢;simp only[go_sem,zE];refine yJz O ((YOk.head gl hy hI).mono ?_);rintro _ st (⟨rfl,h⟩|⟨rfl,h⟩)
  ·simp only[go_sem,zE,E.len];intro F;refine LoopC.ctr us.length (λk fr st ds=>I (k0+1+(yQk (us.take k)).length) st/\fr 1=.iv (.fn f fi ca)/\fr 17=.iv (.sl tg xs)/\fr 18=.iv (.raw (.int .i64 us.length))/\fr 19=.iv (.raw (.int .i64 k))/\ds=[]) ?_ ?_ ?_
   ·simp only[go_sem,zE];exact⟨by simpa[yQk] using h,rfl⟩
   ·rintro k fr st _ A ⟨h1,f1,f17,f18,f19,rfl⟩;obtain⟨a,U⟩:=yQ3 A;obtain⟨x,D,W⟩:=E.get U;have G:=go (k0+1) (YOk.tail gl hy) (by simp[yQo];omega) k fr st A F h1;rw[D,Option.getD_some] at G;obtain⟨v2,n2,m⟩:=a;obtain⟨tx,cx,rfl,_⟩:=W.mk;simp only[go_sem,zE,zA,zL,f1,f17,f18,f19,lt_i A,yQ2 ae,iNn,D];refine G.mono ?_;rintro _ st (⟨rfl,h⟩|⟨rfl,h⟩)
    ·simp only[go_sem,zE,f1,f17,f18,f19,yQb A (show us.length<=281474976710656 by omega)];exact h
    ·simp only[go_sem];exact yQ0 (.inr ⟨rfl,h⟩)
   ·rintro fr st _ ⟨h1,f1,f17,f18,f19,rfl⟩;simp only[go_sem,f18,f19,yQj (nLi _)];rw[lTl] at h1;refine yQ0 (.inl ⟨rfl,?_⟩);rw[show k0+((yQk us).length+1)=k0+1+(yQk us).length by omega];exact h1
  ·simp only[go_sem,zE];exact yQ0 (.inr ⟨rfl,h⟩)
theorem zQv:∀(k:Nat)(t:Tm),SizeOf.sizeOf t<k->VT gl t
 | 0,f,h=>by omega
 | k+1,.mk v n us,h=>zWz gl v n us (λa A=>zQv k a (by
   have:=lSm A;simp at h;omega))
theorem zKj (t:Tm):VT gl t:=zQv gl _ t (Nat.lt_succ_self _)
