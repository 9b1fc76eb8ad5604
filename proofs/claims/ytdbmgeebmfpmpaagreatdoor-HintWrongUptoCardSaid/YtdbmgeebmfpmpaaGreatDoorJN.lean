/- Walks: equality of formulas and of lists -/
import Derived.Test.YtdbmgeebmfpmpaaGreatDoorJM
set_option linter.all false
open Nat renaming reduceEqDiff → zE,reduceAdd → zA,reduceLeDiff → zL
namespace Go.Proofs.Tryz
open Go Go.Iv
set_option maxRecDepth 4000
variable (gl:Nat->Option IV)
end Go.Proofs.Tryz
namespace Go.Proofs.Tryz
open Go Go.Iv
set_option maxRecDepth 4000
mutual
def yZ1:Tm->List ByteArray
 | .mk true n l=>n::yQr l
 | .mk false _ l=>yQr l
def yQr:List Tm->List ByteArray
 | []=>[]
 | a::l=>yZ1 a++yQr l
end
theorem yXo:∀(l m:List Tm),yQr (l++m)=yQr l++yQr m
 | [],m=>by simp[yQr]
 | a::l,m=>by simp only[List.cons_append,yQr,yXo l m,List.append_assoc]
variable (gl:Nat->Option IV)
def xZo (I:Nat->ISt->Prop)(S:ISt->Prop)(k:Nat)(r:IV)(st':ISt):Prop:=(r=.raw (.bool true)/\I k st')\/(r=.raw (.bool false)/\S st')
def YOk (y:IV)(I:Nat->ISt->Prop)(S:ISt->Prop)(k0:Nat)(l:List ByteArray):Prop :=
 ∀i nm stu,l[i]?=some nm->I (k0+i) stu->ICallV prog gl y [.raw (.string nm)] stu (xZo I S (k0+i+1))
theorem YOk.left {y:IV}{I:Nat->ISt->Prop}{S:ISt->Prop}{k0:Nat}{l m:List ByteArray}(h:YOk gl y I S k0 (l++m)):YOk gl y I S k0 l:=λi nm stu hi hI =>
 h i nm stu (by rw[List.getElem?_append_left (lGs hi).1];exact hi) hI
theorem YOk.right {y:IV}{I:Nat->ISt->Prop}{S:ISt->Prop}{k0:Nat}{l m:List ByteArray}(h:YOk gl y I S k0 (l++m)):YOk gl y I S (k0+l.length) m:=λi nm stu hi hI=>by
 have:=h (l.length+i) nm stu (by rw[List.getElem?_append_right (by omega)];simpa using hi) (by rw[<- Nat.add_assoc];exact hI);simpa only[Nat.add_assoc] using this
theorem YOk.head {y:IV}{I:Nat->ISt->Prop}{S:ISt->Prop}{k0:Nat}{n:ByteArray}{m:List ByteArray}(h:YOk gl y I S k0 (n::m)){st:ISt}(hI:I k0 st):ICallV prog gl y [.raw (.string n)] st (xZo I S (k0+1)):=h 0 n st rfl hI
theorem YOk.tail {y:IV}{I:Nat->ISt->Prop}{S:ISt->Prop}{k0:Nat}{n:ByteArray}{m:List ByteArray}(h:YOk gl y I S k0 (n::m)):YOk gl y I S (k0+1) m:=YOk.right gl (l:=[n]) h
def VT (t:Tm):Prop:=∀(x:IV) (_:IsTm t x) (f:Fn) (fi ca:List IV) (_:fnOk f=true) (_:∀g,f=.func g->entI prog g=true) (I:Nat->ISt->Prop) (S:ISt->Prop) (k0:Nat) (_:YOk gl (.fn f fi ca) I S k0 (yZ1 t)) (st:ISt) (_:I k0 st),
  ICall prog gl 232 [x,.fn f fi ca] st (xZo I S (k0+(yZ1 t).length))
theorem zV9 (v:Bool)(n:ByteArray)(us:List Tm)(IH:∀a∈us,VT gl a):VT gl (.mk v n us):=by
 intro x hx f fi ca hfn hent I S k0 hy st hI;obtain⟨tg,xs,rfl,htg,hxs⟩:=hx.mk;refine iI func232 ?_;have go:∀(k1:Nat),YOk gl (.fn f fi ca) I S k1 (yQr us)->k1+(yQr us).length=k0+(yZ1 (.mk v n us)).length->∀(k:Nat) (fr:Fr) (st:ISt),k<us.length->us.length<=140737488355328->I (k1+(yQr (us.take k)).length) st →
   ICall prog gl 232 [(xs[k]?).getD .junk,.fn f fi ca] st (xZo I S (k1+(yQr (us.take (k+1))).length)):=by
  intro k1 hy' _ k _ st hlt _ hIk;obtain⟨a,ha⟩:=yQ1 hlt;obtain⟨x,hkx,hx⟩:=hxs.get ha;rw[hkx,Option.getD_some];have hsplit:yQr us=yQr (us.take k)++(yZ1 a++yQr (us.drop (k+1))):=by
   conv=>lhs;rw[<- List.take_append_drop k us,List.drop_eq_getElem_cons hlt]
   rw[yXo,(lGs ha).2];rfl
  rw[hsplit] at hy';have:=IH a (lMg ha) x hx f fi ca hfn hent I S _ (YOk.left gl (YOk.right gl hy')) st hIk;rw[yQ8 ha,yXo];simpa only[yQr,List.append_nil,lLa,Nat.add_assoc] using this
 cases v
 ·simp only[yZ1] at hy ⊢;simp only[go_sem,zE,zA,hxs.len];intro hlen;refine LoopC.ctr us.length (λk fr st ds=>I (k0+(yQr (us.take k)).length) st/\fr 1=.iv (.fn f fi ca)/\fr 17=.iv (.sl tg xs)/\fr 18=.iv (.raw (.int .i64 us.length))/\fr 19=.iv (.raw (.int .i64 k))/\ds=[]) ?_ ?_ ?_
  ·simp only[go_sem,zE];exact⟨by simpa[yQr] using hI,rfl⟩
  ·rintro k fr st _ hlt ⟨h1,f1,f17,f18,f19,rfl⟩;obtain⟨a,ha⟩:=yQ1 hlt;obtain⟨x,hkx,hx⟩:=hxs.get ha;have hgo:=go k0 hy rfl k fr st hlt hlen h1;rw[hkx,Option.getD_some] at hgo;obtain⟨v2,n2,m⟩:=a;obtain⟨tx,cx,rfl,_⟩:=hx.mk;simp only[go_sem,zE,zA,zL,f1,f17,f18,f19,lt_i hlt,yQ4 htg,iNn,hkx];refine hgo.mono ?_;rintro _ st (⟨rfl,h⟩|⟨rfl,h⟩)
   ·simp only[go_sem,zE,f1,f17,f18,f19,yQd hlt (show us.length<=281474976710656 by omega)];exact h
   ·simp only[go_sem];exact yQ0 (.inr ⟨rfl,h⟩)
  ·rintro fr st _ ⟨h1,f1,f17,f18,f19,rfl⟩;simp only[go_sem,f18,f19,yQl (nLi _)];rw[lTl] at h1;exact yQ0 (.inl ⟨rfl,h1⟩)
 ·simp only[yZ1] at hy ⊢;simp only[go_sem,zE];refine yZ2 hent ((YOk.head gl hy hI).mono ?_);rintro _ st (⟨rfl,h⟩|⟨rfl,h⟩)
  ·simp only[go_sem,zE,hxs.len];intro hlen;refine LoopC.ctr us.length (λk fr st ds=>I (k0+1+(yQr (us.take k)).length) st/\fr 1=.iv (.fn f fi ca)/\fr 17=.iv (.sl tg xs)/\fr 18=.iv (.raw (.int .i64 us.length))/\fr 19=.iv (.raw (.int .i64 k))/\ds=[]) ?_ ?_ ?_
   ·simp only[go_sem,zE];exact⟨by simpa[yQr] using h,rfl⟩
   ·rintro k fr st _ hlt ⟨h1,f1,f17,f18,f19,rfl⟩;obtain⟨a,ha⟩:=yQ1 hlt;obtain⟨x,hkx,hx⟩:=hxs.get ha;have hgo:=go (k0+1) (YOk.tail gl hy) (by simp[yZ1];omega) k fr st hlt hlen h1;rw[hkx,Option.getD_some] at hgo;obtain⟨v2,n2,m⟩:=a;obtain⟨tx,cx,rfl,_⟩:=hx.mk;simp only[go_sem,zE,zA,zL,f1,f17,f18,f19,lt_i hlt,yQ4 htg,iNn,hkx];refine hgo.mono ?_;rintro _ st (⟨rfl,h⟩|⟨rfl,h⟩)
    ·simp only[go_sem,zE,f1,f17,f18,f19,yQd hlt (show us.length<=281474976710656 by omega)];exact h
    ·simp only[go_sem];exact yQ0 (.inr ⟨rfl,h⟩)
   ·rintro fr st _ ⟨h1,f1,f17,f18,f19,rfl⟩;simp only[go_sem,f18,f19,yQl (nLi _)];rw[lTl] at h1;refine yQ0 (.inl ⟨rfl,?_⟩);rw[show k0+((yQr us).length+1)=k0+1+(yQr us).length by omega];exact h1
  ·simp only[go_sem,zE];exact yQ0 (.inr ⟨rfl,h⟩)
theorem yUj:∀(k:Nat)(t:Tm),SizeOf.sizeOf t<k->VT gl t
 | 0,f,h=>by omega
 | k+1,.mk v n us,h=>zV9 gl v n us (λa ha=>yUj k a (by
   have:=lSm ha;simp at h;omega))
theorem zJ0 (t:Tm):VT gl t:=yUj gl _ t (Nat.lt_succ_self _)
