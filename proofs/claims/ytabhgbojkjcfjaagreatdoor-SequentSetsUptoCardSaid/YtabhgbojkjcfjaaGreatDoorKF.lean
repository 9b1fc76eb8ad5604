/- Walks: lists of names; equality of terms -/
import Derived.Test.YtabhgbojkjcfjaaGreatDoorJJ
import Derived.Test.YtabhgbojkjcfjaaGreatDoorJK
set_option linter.all false
open Nat renaming reduceEqDiff → zE,reduceAdd → zA
namespace Go.Proofs.Tryz
open Go Go.Iv
set_option maxRecDepth 4000
open Classical in
noncomputable def hasB (l:List ByteArray)(s:ByteArray):Bool:=decide (s∈l)
theorem wU8 (gl:Nat->Option IV)(t:Tag)(l:List ByteArray)(s:ByteArray)(ht:okEs t 1)(hl:l.length<=140737488355328)(st:ISt) :
  ICall prog gl 213 [.sl t (strI l),.raw (.string s)] st (λx st'=>x=.raw (.bool (hasB l s))/\st'=st):=by
 refine iI func213 ?_;simp only[go_sem];refine LoopC.ctr l.length (λk fr st' ds=>s ∉ l.take k/\fr 0=.iv (.sl t (strI l))/\fr 1=.iv (.raw (.string s))/\fr 5=.iv (.raw (.int .i64 k))/\st'=st/\ds=[]) ?_ ?_ ?_
 ·simp only[go_sem,zE,reduceCtorEq,List.take_zero,List.not_mem_nil,nFt];rfl
 ·rintro k fr st' ds hlt ⟨hn,h0,h1,h5,rfl,rfl⟩;obtain⟨x,hx⟩:=yQ2 hlt;simp only[go_sem,zE,reduceCtorEq,h0,h1,h5,yQj,lt_i hlt,yQ1 ht,iNn,yJ6 hx];intro _;refine yZ5 (λh=>?_) (λh=>?_)
  ·have hm:s∈l:=by rw[<- of_decide_eq_true h];exact lMg hx
   simp only[go_sem];exact yQ0 ⟨by simp[hasB,hm],rfl⟩
  ·simp only[go_sem,zE,reduceCtorEq,h0,h1,h5,yQa hlt (by omega)];rw[yQ5 hx];simp only[List.mem_append,List.mem_singleton,not_or];exact⟨hn,λhe=>of_decide_eq_false h he.symm⟩
 ·rintro fr st' ds ⟨hn,h0,h1,h5,rfl,rfl⟩;simp only[go_sem,zE,reduceCtorEq,h0,h5,yQj,yQk (nLi _)];intro _;have hm:s ∉ l:=by rw[lTl] at hn;exact hn
  exact yQ0 ⟨by simp[hasB,hm],rfl⟩
end Go.Proofs.Tryz
namespace Go.Proofs.Tryz
open Go Go.Iv
set_option maxRecDepth 4000
open Classical in
noncomputable def eqB {α:Type}(a b:α):Bool:=decide (a=b)
theorem yQl {α:Type}{a b:α}:eqB a b=true↔a=b:=by simp[eqB]
theorem yQi {α:Type}{a b:α}:eqB a b=false↔a≠b:=by simp[eqB]
theorem xWo {v:Bool}{n:ByteArray}{us:List Tm}{l:List Tm}(h:Tm.mk v n us∈l):SizeOf.sizeOf us<SizeOf.sizeOf l:=by
 have:=lSm h;simp at this;omega
end Go.Proofs.Tryz
namespace Go.Proofs.Tryz
open Go Go.Iv
set_option maxRecDepth 4000
variable (gl:Nat->Option IV)
theorem wZl (c:UInt8)(st:ISt):ICall prog gl 288 [.raw (.int .u8 c.toNat)] st (λx st'=>x=.raw (.bool (yKr c))/\st'=st):=by
 refine iI func288 ?_;simp only[go_sem,reduceCtorEq];refine yJn (λh=>?_) (λh=>?_)
 ·have h':(48:Nat)<=c.toNat:=by simp at h;omega
  simp only[go_sem,zE,reduceCtorEq];exact yQ0 ⟨by congr 3;simp[yKr,inB,h'];omega,rfl⟩
 ·have h':¬ (48:Nat)<=c.toNat:=by simp at h;omega
  simp only[go_sem,zE];exact yQ0 ⟨by simp[yKr,inB,h'],rfl⟩
theorem wYe (c:UInt8)(st:ISt):ICall prog gl 317 [.raw (.int .u8 c.toNat)] st (λx st'=>x=.raw (.bool (yWy c))/\st'=st):=by
 refine iI func317 ?_;simp only[go_sem,reduceCtorEq];refine yJn (λh=>?_) (λh=>?_)
 ·have h':(97:Nat)<=c.toNat:=by simp at h;omega
  simp only[go_sem,zE,reduceCtorEq];exact yQ0 ⟨by congr 3;simp[yWy,inB,h'];omega,rfl⟩
 ·have h':¬ (97:Nat)<=c.toNat:=by simp at h;omega
  simp only[go_sem,zE];exact yQ0 ⟨by simp[yWy,inB,h'],rfl⟩
theorem xZd (c:UInt8)(st:ISt):ICall prog gl 313 [.raw (.int .u8 c.toNat)] st (λx st'=>x=.raw (.bool (yJ2 c))/\st'=st):=by
 refine iI func313 ?_;simp only[go_sem,reduceCtorEq];refine yJn (λh=>?_) (λh=>?_)
 ·have h':(65:Nat)<=c.toNat:=by simp at h;omega
  simp only[go_sem,zE,reduceCtorEq];exact yQ0 ⟨by congr 3;simp[yJ2,inB,h'];omega,rfl⟩
 ·have h':¬ (65:Nat)<=c.toNat:=by simp at h;omega
  simp only[go_sem,zE];exact yQ0 ⟨by simp[yJ2,inB,h'],rfl⟩
theorem vQp (c:UInt8)(st:ISt):ICall prog gl 287 [.raw (.int .u8 c.toNat)] st (λx st'=>x=.raw (.bool (inB 117 122 c))/\st'=st):=by
 refine iI func287 ?_;simp only[go_sem,reduceCtorEq];refine yJn (λh=>?_) (λh=>?_)
 ·have h':(117:Nat)<=c.toNat:=by simp at h;omega
  simp only[go_sem,zE,reduceCtorEq];exact yQ0 ⟨by congr 3;simp[inB,h'];omega,rfl⟩
 ·have h':¬ (117:Nat)<=c.toNat:=by simp at h;omega
  simp only[go_sem,zE];exact yQ0 ⟨by simp[inB,h'],rfl⟩
theorem vXa (c:UInt8)(st:ISt):ICall prog gl 290 [.raw (.int .u8 c.toNat)] st (λx st'=>x=.raw (.bool (inB 97 116 c))/\st'=st):=by
 refine iI func290 ?_;simp only[go_sem,reduceCtorEq];refine yJn (λh=>?_) (λh=>?_)
 ·have h':(97:Nat)<=c.toNat:=by simp at h;omega
  simp only[go_sem,zE,reduceCtorEq];exact yQ0 ⟨by congr 3;simp[inB,h'];omega,rfl⟩
 ·have h':¬ (97:Nat)<=c.toNat:=by simp at h;omega
  simp only[go_sem,zE];exact yQ0 ⟨by simp[inB,h'],rfl⟩
theorem wZv (c:UInt8)(st:ISt):ICall prog gl 291 [.raw (.int .u8 c.toNat)] st (λx st'=>x=.raw (.bool (yW4 c))/\st'=st):=by
 refine iI func291 ?_;simp only[go_sem,zA,reduceCtorEq];refine (wYe gl c _).mono ?_;rintro _ _ ⟨rfl,rfl⟩;cases h1:yWy c
 ·simp only[go_sem,zE,zA,reduceCtorEq];refine (xZd gl c _).mono ?_;rintro _ _ ⟨rfl,rfl⟩;cases h2:yJ2 c
  ·simp only[go_sem,zE,zA,reduceCtorEq];refine (wZl gl c _).mono ?_;rintro _ _ ⟨rfl,rfl⟩;simp only[go_sem,zE];exact yQ0 ⟨by simp[yW4,h1,h2],rfl⟩
  ·simp only[go_sem,zE];exact yQ0 ⟨by simp[yW4,h1,h2],rfl⟩
 ·simp only[go_sem,zE];exact yQ0 ⟨by simp[yW4,h1],rfl⟩
