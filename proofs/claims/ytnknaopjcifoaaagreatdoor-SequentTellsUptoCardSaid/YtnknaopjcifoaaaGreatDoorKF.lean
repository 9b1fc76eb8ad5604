/- Walks: lists of names; equality of terms -/
import Derived.Test.YtnknaopjcifoaaaGreatDoorJJ
import Derived.Test.YtnknaopjcifoaaaGreatDoorJK
set_option linter.all false
open Nat renaming reduceEqDiff → zE,reduceAdd → zA
namespace Go.Proofs.Tryz
open Go Go.Iv
set_option maxRecDepth 4000
open Classical in
noncomputable def hasB (l:List ByteArray)(s:ByteArray):Bool:=decide (s∈l)
theorem xGm (gl:Nat->Option IV)(t:Tag)(l:List ByteArray)(s:ByteArray)(ht:okEs t 1)(hl:l.length<=140737488355328)(st:ISt) :
  ICall prog gl 158 [.sl t (strI l),.raw (.string s)] st (λx st'=>x=.raw (.bool (hasB l s))/\st'=st):=by
 refine iI func158 ?_;simp only[go_sem];refine LoopC.ctr l.length (λk fr st' ds=>s ∉ l.take k/\fr 0=.iv (.sl t (strI l))/\fr 1=.iv (.raw (.string s))/\fr 5=.iv (.raw (.int .i64 k))/\st'=st/\ds=[]) ?_ ?_ ?_
 ·simp only[go_sem,zE,reduceCtorEq,List.take_zero,List.not_mem_nil,nFt];rfl
 ·rintro k fr st' ds hlt ⟨hn,h0,h1,h5,rfl,rfl⟩;obtain⟨x,hx⟩:=yQ3 hlt;simp only[go_sem,zE,reduceCtorEq,h0,h1,h5,yQs,lt_i hlt,yQ1 ht,iNn,yK1 hx];intro _;refine yZ7 (λh=>?_) (λh=>?_)
  ·have hm:s∈l:=by rw[<- of_decide_eq_true h];exact lMg hx
   simp only[go_sem];exact yQ0 ⟨by simp[hasB,hm],rfl⟩
  ·simp only[go_sem,zE,reduceCtorEq,h0,h1,h5,yQ9 hlt (by omega)];rw[yQ5 hx];simp only[List.mem_append,List.mem_singleton,not_or];exact⟨hn,λhe=>of_decide_eq_false h he.symm⟩
 ·rintro fr st' ds ⟨hn,h0,h1,h5,rfl,rfl⟩;simp only[go_sem,zE,reduceCtorEq,h0,h5,yQs,yQj (nLi _)];intro _;have hm:s ∉ l:=by rw[lTl] at hn;exact hn
  exact yQ0 ⟨by simp[hasB,hm],rfl⟩
end Go.Proofs.Tryz
namespace Go.Proofs.Tryz
open Go Go.Iv
set_option maxRecDepth 4000
open Classical in
noncomputable def eqB {α:Type}(a b:α):Bool:=decide (a=b)
theorem yQm {α:Type}{a b:α}:eqB a b=true↔a=b:=by simp[eqB]
theorem yQh {α:Type}{a b:α}:eqB a b=false↔a≠b:=by simp[eqB]
theorem xY0 {v:Bool}{n:ByteArray}{us:List Tm}{l:List Tm}(h:Tm.mk v n us∈l):SizeOf.sizeOf us<SizeOf.sizeOf l:=by
 have:=lSm h;simp at this;omega
end Go.Proofs.Tryz
namespace Go.Proofs.Tryz
open Go Go.Iv
set_option maxRecDepth 4000
variable (gl:Nat->Option IV)
theorem wX5 (c:UInt8)(st:ISt):ICall prog gl 200 [.raw (.int .u8 c.toNat)] st (λx st'=>x=.raw (.bool (yV5 c))/\st'=st):=by
 refine iI func200 ?_;simp only[go_sem,reduceCtorEq];refine yJy (λh=>?_) (λh=>?_)
 ·have h':(48:Nat)<=c.toNat:=by simp at h;omega
  simp only[go_sem,zE,reduceCtorEq];exact yQ0 ⟨by congr 3;simp[yV5,inB,h'];omega,rfl⟩
 ·have h':¬ (48:Nat)<=c.toNat:=by simp at h;omega
  simp only[go_sem,zE];exact yQ0 ⟨by simp[yV5,inB,h'],rfl⟩
theorem wYw (c:UInt8)(st:ISt):ICall prog gl 228 [.raw (.int .u8 c.toNat)] st (λx st'=>x=.raw (.bool (yY8 c))/\st'=st):=by
 refine iI func228 ?_;simp only[go_sem,reduceCtorEq];refine yJy (λh=>?_) (λh=>?_)
 ·have h':(97:Nat)<=c.toNat:=by simp at h;omega
  simp only[go_sem,zE,reduceCtorEq];exact yQ0 ⟨by congr 3;simp[yY8,inB,h'];omega,rfl⟩
 ·have h':¬ (97:Nat)<=c.toNat:=by simp at h;omega
  simp only[go_sem,zE];exact yQ0 ⟨by simp[yY8,inB,h'],rfl⟩
theorem xZb (c:UInt8)(st:ISt):ICall prog gl 229 [.raw (.int .u8 c.toNat)] st (λx st'=>x=.raw (.bool (yJg c))/\st'=st):=by
 refine iI func229 ?_;simp only[go_sem,reduceCtorEq];refine yJy (λh=>?_) (λh=>?_)
 ·have h':(65:Nat)<=c.toNat:=by simp at h;omega
  simp only[go_sem,zE,reduceCtorEq];exact yQ0 ⟨by congr 3;simp[yJg,inB,h'];omega,rfl⟩
 ·have h':¬ (65:Nat)<=c.toNat:=by simp at h;omega
  simp only[go_sem,zE];exact yQ0 ⟨by simp[yJg,inB,h'],rfl⟩
theorem vZ8 (c:UInt8)(st:ISt):ICall prog gl 199 [.raw (.int .u8 c.toNat)] st (λx st'=>x=.raw (.bool (inB 117 122 c))/\st'=st):=by
 refine iI func199 ?_;simp only[go_sem,reduceCtorEq];refine yJy (λh=>?_) (λh=>?_)
 ·have h':(117:Nat)<=c.toNat:=by simp at h;omega
  simp only[go_sem,zE,reduceCtorEq];exact yQ0 ⟨by congr 3;simp[inB,h'];omega,rfl⟩
 ·have h':¬ (117:Nat)<=c.toNat:=by simp at h;omega
  simp only[go_sem,zE];exact yQ0 ⟨by simp[inB,h'],rfl⟩
theorem vXp (c:UInt8)(st:ISt):ICall prog gl 202 [.raw (.int .u8 c.toNat)] st (λx st'=>x=.raw (.bool (inB 97 116 c))/\st'=st):=by
 refine iI func202 ?_;simp only[go_sem,reduceCtorEq];refine yJy (λh=>?_) (λh=>?_)
 ·have h':(97:Nat)<=c.toNat:=by simp at h;omega
  simp only[go_sem,zE,reduceCtorEq];exact yQ0 ⟨by congr 3;simp[inB,h'];omega,rfl⟩
 ·have h':¬ (97:Nat)<=c.toNat:=by simp at h;omega
  simp only[go_sem,zE];exact yQ0 ⟨by simp[inB,h'],rfl⟩
theorem wXg (c:UInt8)(st:ISt):ICall prog gl 203 [.raw (.int .u8 c.toNat)] st (λx st'=>x=.raw (.bool (yWg c))/\st'=st):=by
 refine iI func203 ?_;simp only[go_sem,zA,reduceCtorEq];refine (wYw gl c _).mono ?_;rintro _ _ ⟨rfl,rfl⟩;cases h1:yY8 c
 ·simp only[go_sem,zE,zA,reduceCtorEq];refine (xZb gl c _).mono ?_;rintro _ _ ⟨rfl,rfl⟩;cases h2:yJg c
  ·simp only[go_sem,zE,zA,reduceCtorEq];refine (wX5 gl c _).mono ?_;rintro _ _ ⟨rfl,rfl⟩;simp only[go_sem,zE];exact yQ0 ⟨by simp[yWg,h1,h2],rfl⟩
  ·simp only[go_sem,zE];exact yQ0 ⟨by simp[yWg,h1,h2],rfl⟩
 ·simp only[go_sem,zE];exact yQ0 ⟨by simp[yWg,h1],rfl⟩
