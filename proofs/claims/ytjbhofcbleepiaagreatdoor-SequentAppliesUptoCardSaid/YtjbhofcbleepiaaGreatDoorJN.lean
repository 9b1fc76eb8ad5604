/- Walks: equality of formulas and of lists -/
import Derived.Test.YtjbhofcbleepiaaGreatDoorJM
set_option linter.all false
namespace Go.Proofs.Tryz
open Go Go.Iv
set_option maxRecDepth 4000
variable (gl:Nat→Option IV)
end Go.Proofs.Tryz
namespace Go.Proofs.Tryz
open Go Go.Iv
set_option maxRecDepth 4000
mutual
def yQo:Tm→List ByteArray
 | .mk true n l=>n::yQi l
 | .mk false _ l=>yQi l
def yQi:List Tm→List ByteArray
 | []=>[]
 | a::l=>yQo a++yQi l
end
theorem yZq:∀ (l m:List Tm),yQi (l++m)=yQi l++yQi m
 | [],m=>by simp[yQi]
 | a::l,m=>by simp only[List.cons_append,yQi,yZq l m,List.append_assoc]
variable (gl:Nat→Option IV)
def xXl (I:Nat→ISt→Prop)(S:ISt→Prop)(k:Nat)(r:IV)(st':ISt):Prop:=(r=.raw (.bool true)∧I k st')∨(r=.raw (.bool false)∧S st')
def YOk (y:IV)(I:Nat→ISt→Prop)(S:ISt→Prop)(k0:Nat)(l:List ByteArray):Prop :=
 ∀ i nm stu,l[i]?=some nm→I (k0+i) stu→ICallV prog gl y [.raw (.string nm)] stu (xXl I S (k0+i+1))
theorem YOk.left {y:IV}{I:Nat→ISt→Prop}{S:ISt→Prop}{k0:Nat}{l m:List ByteArray}(h:YOk gl y I S k0 (l++m)):YOk gl y I S k0 l:=fun i nm stu hi hI =>
 h i nm stu (by rw[List.getElem?_append_left (lGs hi).1]; exact hi) hI
theorem YOk.right {y:IV}{I:Nat→ISt→Prop}{S:ISt→Prop}{k0:Nat}{l m:List ByteArray}(h:YOk gl y I S k0 (l++m)):YOk gl y I S (k0+l.length) m:=fun i nm stu hi hI=>by
 have:=h (l.length+i) nm stu (by rw[List.getElem?_append_right (by omega)]; simpa using hi) (by rw[← Nat.add_assoc]; exact hI)
 simpa only[Nat.add_assoc] using this
theorem YOk.head {y:IV}{I:Nat→ISt→Prop}{S:ISt→Prop}{k0:Nat}{n:ByteArray}{m:List ByteArray}(h:YOk gl y I S k0 (n::m)){st:ISt}(hI:I k0 st):ICallV prog gl y [.raw (.string n)] st (xXl I S (k0+1)):=h 0 n st rfl hI
theorem YOk.tail {y:IV}{I:Nat→ISt→Prop}{S:ISt→Prop}{k0:Nat}{n:ByteArray}{m:List ByteArray}(h:YOk gl y I S k0 (n::m)):YOk gl y I S (k0+1) m:=YOk.right gl (l:=[n]) h
def VT (t:Tm):Prop:=∀ (x:IV) (_:IsTm t x) (f:Fn) (fi ca:List IV) (_:fnOk f=true) (_:∀ g,f=.func g→entI prog g=true) (I:Nat→ISt→Prop) (S:ISt→Prop) (k0:Nat) (_:YOk gl (.fn f fi ca) I S k0 (yQo t)) (st:ISt) (_:I k0 st),
  ICall prog gl 273 [x,.fn f fi ca] st (xXl I S (k0+(yQo t).length))
theorem zVw (v:Bool)(n:ByteArray)(us:List Tm)(IH:∀ a∈us,VT gl a):VT gl (.mk v n us):=by
 intro x hx f fi ca hfn hent I S k0 hy st hI
 obtain⟨tg,xs,rfl,htg,hxs⟩:=hx.mk
 refine iI func273 rfl rfl (by kernel_rfl) ?_
 have go:∀ (k1:Nat),YOk gl (.fn f fi ca) I S k1 (yQi us)→k1+(yQi us).length=k0+(yQo (.mk v n us)).length→∀ (k:Nat) (fr:Fr) (st:ISt),k<us.length→us.length≤140737488355328→I (k1+(yQi (us.take k)).length) st →
   ICall prog gl 273 [(xs[k]?).getD .junk,.fn f fi ca] st (xXl I S (k1+(yQi (us.take (k+1))).length)):=by
  intro k1 hy' _ k _ st hlt _ hIk
  obtain⟨a,ha⟩:=yQ3 hlt
  obtain⟨x,hkx,hx⟩:=hxs.get ha
  rw[hkx,Option.getD_some]
  have hsplit:yQi us=yQi (us.take k)++(yQo a++yQi (us.drop (k+1))):=by
   conv=>lhs; rw[← List.take_append_drop k us,List.drop_eq_getElem_cons hlt]
   rw[yZq,(lGs ha).2]; rfl
  rw[hsplit] at hy'
  have:=IH a (lMg ha) x hx f fi ca hfn hent I S _ (YOk.left gl (YOk.right gl hy')) st hIk
  rw[yQ4 ha,yZq]
  simpa only[yQi,List.append_nil,lLa,Nat.add_assoc] using this
 cases v
 ·simp only[yQo] at hy ⊢
  simp(config:=zzC)only[go_sem,hxs.len]
  intro hlen
  refine LoopC.ctr us.length (fun k fr st ds=>I (k0+(yQi (us.take k)).length) st∧fr 1=.iv (.fn f fi ca)∧fr 17=.iv (.sl tg xs)∧fr 18=.iv (.raw (.int .i64 us.length))∧fr 19=.iv (.raw (.int .i64 k))∧ds=[]) ?_ ?_ ?_
  ·simp(config:=zzC)only[go_sem]
   exact⟨by simpa[yQi] using hI,rfl⟩
  ·rintro k fr st _ hlt ⟨h1,f1,f17,f18,f19,rfl⟩
   obtain⟨a,ha⟩:=yQ3 hlt
   obtain⟨x,hkx,hx⟩:=hxs.get ha
   have hgo:=go k0 hy rfl k fr st hlt hlen h1
   rw[hkx,Option.getD_some] at hgo
   obtain⟨v2,n2,m⟩:=a
   obtain⟨tx,cx,rfl,_⟩:=hx.mk
   simp(config:=zzC)only[go_sem,f1,f17,f18,f19,lt_i hlt,yQ2 htg,iNn,hkx]
   refine hgo.mono ?_
   rintro _ st (⟨rfl,h⟩ | ⟨rfl,h⟩)
   ·simp(config:=zzC)only[go_sem,f1,f17,f18,f19,yQa hlt (show us.length≤281474976710656 by omega)]
    exact h
   ·simp(config:=zzC)only[go_sem]
    exact yQ0 (.inr ⟨rfl,h⟩)
  ·rintro fr st _ ⟨h1,f1,f17,f18,f19,rfl⟩
   simp(config:=zzC)only[go_sem,f18,f19,yQm (nLi _)]
   rw[lTl] at h1
   exact yQ0 (.inl ⟨rfl,h1⟩)
 ·simp only[yQo] at hy ⊢
  simp(config:=zzC)only[go_sem]
  refine yJg hent ((YOk.head gl hy hI).mono ?_)
  rintro _ st (⟨rfl,h⟩ | ⟨rfl,h⟩)
  ·simp(config:=zzC)only[go_sem,hxs.len]
   intro hlen
   refine LoopC.ctr us.length (fun k fr st ds=>I (k0+1+(yQi (us.take k)).length) st∧fr 1=.iv (.fn f fi ca)∧fr 17=.iv (.sl tg xs)∧fr 18=.iv (.raw (.int .i64 us.length))∧fr 19=.iv (.raw (.int .i64 k))∧ds=[]) ?_ ?_ ?_
   ·simp(config:=zzC)only[go_sem]
    exact⟨by simpa[yQi] using h,rfl⟩
   ·rintro k fr st _ hlt ⟨h1,f1,f17,f18,f19,rfl⟩
    obtain⟨a,ha⟩:=yQ3 hlt
    obtain⟨x,hkx,hx⟩:=hxs.get ha
    have hgo:=go (k0+1) (YOk.tail gl hy) (by simp[yQo]; omega) k fr st hlt hlen h1
    rw[hkx,Option.getD_some] at hgo
    obtain⟨v2,n2,m⟩:=a
    obtain⟨tx,cx,rfl,_⟩:=hx.mk
    simp(config:=zzC)only[go_sem,f1,f17,f18,f19,lt_i hlt,yQ2 htg,iNn,hkx]
    refine hgo.mono ?_
    rintro _ st (⟨rfl,h⟩ | ⟨rfl,h⟩)
    ·simp(config:=zzC)only[go_sem,f1,f17,f18,f19,yQa hlt (show us.length≤281474976710656 by omega)]
     exact h
    ·simp(config:=zzC)only[go_sem]
     exact yQ0 (.inr ⟨rfl,h⟩)
   ·rintro fr st _ ⟨h1,f1,f17,f18,f19,rfl⟩
    simp(config:=zzC)only[go_sem,f18,f19,yQm (nLi _)]
    rw[lTl] at h1
    refine yQ0 (.inl ⟨rfl,?_⟩)
    rw[show k0+((yQi us).length+1)=k0+1+(yQi us).length by omega]; exact h1
  ·simp(config:=zzC)only[go_sem]
   exact yQ0 (.inr ⟨rfl,h⟩)
theorem zQ8:∀ (k:Nat)(t:Tm),SizeOf.sizeOf t<k→VT gl t
 | 0,f,h=>by omega
 | k+1,.mk v n us,h=>zVw gl v n us (fun a ha=>zQ8 k a (by
   have:=lSm ha
   simp at h; omega))
theorem zJo (t:Tm):VT gl t:=zQ8 gl _ t (Nat.lt_succ_self _)
end Go.Proofs.Tryz
