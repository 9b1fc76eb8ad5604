/- Walks: lists of names; equality of terms -/
import Derived.Test.YtabhgbojkjcfjaaGreatDoorJJ
import Derived.Test.YtabhgbojkjcfjaaGreatDoorJK
set_option linter.all false
open Nat renaming reduceEqDiff → zE,reduceAdd → zA
namespace Go.Proofs.Tryz
open Go Go.Iv
set_option maxRecDepth 4000
open Classical in
noncomputable def hasB (l:List ByteArray)(s:ByteArray):Bool:=decide (s∈l)
theorem wZ3 (gl:Nat->Option IV)(t:Tag)(l:List ByteArray)(s:ByteArray)(O:okEs t 1)(W:l.length<=140737488355328)(st:ISt) :
  ICall prog gl 213 [.sl t (strI l),.raw (.string s)] st (λx st'=>x=.raw (.bool (hasB l s))/\st'=st):=by
 refine iI func213 ?_;simp only[go_sem];refine LoopC.ctr l.length (λk fr st' ds=>s ∉ l.take k/\fr 0=.iv (.sl t (strI l))/\fr 1=.iv (.raw (.string s))/\fr 5=.iv (.raw (.int .i64 k))/\st'=st/\ds=[]) ?_ ?_ ?_
 ·simp only[go_sem,zE,reduceCtorEq,List.take_zero,List.not_mem_nil,nFt];rfl
 ·rintro k fr st' ds A ⟨D,F,h1,E,rfl,rfl⟩;obtain⟨x,G⟩:=yQ3 A;simp only[go_sem,zE,reduceCtorEq,F,h1,E,yQn,lt_i A,yQ2 O,iNn,yK0 G];intro _;refine yZb (λh=>?_) (λh=>?_)
  ·have J:s∈l:=by rw[<- of_decide_eq_true h];exact lMg G
   simp only[go_sem];exact yQ0 ⟨by simp[hasB,J],rfl⟩
  ·simp only[go_sem,zE,reduceCtorEq,F,h1,E,yQb A (by omega)];rw[yQ4 G];simp only[List.mem_append,List.mem_singleton,not_or];exact⟨D,λU=>of_decide_eq_false h U.symm⟩
 ·rintro fr st' ds ⟨D,F,h1,E,rfl,rfl⟩;simp only[go_sem,zE,reduceCtorEq,F,E,yQn,yQj (nLi _)];intro _;have J:s ∉ l:=by rw[lTl] at D;exact D
  exact yQ0 ⟨by simp[hasB,J],rfl⟩
end Go.Proofs.Tryz
namespace Go.Proofs.Tryz
open Go Go.Iv
set_option maxRecDepth 4000
open Classical in
noncomputable def eqB {α:Type}(a b:α):Bool:=decide (a=b)
theorem yQm {α:Type}{a b:α}:eqB a b=true↔a=b:=by simp[eqB]
theorem yQi {α:Type}{a b:α}:eqB a b=false↔a≠b:=by simp[eqB]
theorem xUj {v:Bool}{n:ByteArray}{us:List Tm}{l:List Tm}(h:Tm.mk v n us∈l):SizeOf.sizeOf us<SizeOf.sizeOf l:=by
 have:=lSm h;simp at this;omega
end Go.Proofs.Tryz
namespace Go.Proofs.Tryz
open Go Go.Iv
set_option maxRecDepth 4000
variable (gl:Nat->Option IV)
theorem wKm (c:UInt8)(st:ISt):ICall prog gl 288 [.raw (.int .u8 c.toNat)] st (λx st'=>x=.raw (.bool (yVo c))/\st'=st):=by
 refine iI func288 ?_;simp only[go_sem,reduceCtorEq];refine yKi (λh=>?_) (λh=>?_)
 ·have A:(48:Nat)<=c.toNat:=by simp at h;omega
  simp only[go_sem,zE,reduceCtorEq];exact yQ0 ⟨by congr 3;simp[yVo,inB,A];omega,rfl⟩
 ·have A:¬ (48:Nat)<=c.toNat:=by simp at h;omega
  simp only[go_sem,zE];exact yQ0 ⟨by simp[yVo,inB,A],rfl⟩
theorem vQs (c:UInt8)(st:ISt):ICall prog gl 317 [.raw (.int .u8 c.toNat)] st (λx st'=>x=.raw (.bool (yG0 c))/\st'=st):=by
 refine iI func317 ?_;simp only[go_sem,reduceCtorEq];refine yKi (λh=>?_) (λh=>?_)
 ·have A:(97:Nat)<=c.toNat:=by simp at h;omega
  simp only[go_sem,zE,reduceCtorEq];exact yQ0 ⟨by congr 3;simp[yG0,inB,A];omega,rfl⟩
 ·have A:¬ (97:Nat)<=c.toNat:=by simp at h;omega
  simp only[go_sem,zE];exact yQ0 ⟨by simp[yG0,inB,A],rfl⟩
theorem xJz (c:UInt8)(st:ISt):ICall prog gl 313 [.raw (.int .u8 c.toNat)] st (λx st'=>x=.raw (.bool (yJw c))/\st'=st):=by
 refine iI func313 ?_;simp only[go_sem,reduceCtorEq];refine yKi (λh=>?_) (λh=>?_)
 ·have A:(65:Nat)<=c.toNat:=by simp at h;omega
  simp only[go_sem,zE,reduceCtorEq];exact yQ0 ⟨by congr 3;simp[yJw,inB,A];omega,rfl⟩
 ·have A:¬ (65:Nat)<=c.toNat:=by simp at h;omega
  simp only[go_sem,zE];exact yQ0 ⟨by simp[yJw,inB,A],rfl⟩
theorem vK9 (c:UInt8)(st:ISt):ICall prog gl 287 [.raw (.int .u8 c.toNat)] st (λx st'=>x=.raw (.bool (inB 117 122 c))/\st'=st):=by
 refine iI func287 ?_;simp only[go_sem,reduceCtorEq];refine yKi (λh=>?_) (λh=>?_)
 ·have A:(117:Nat)<=c.toNat:=by simp at h;omega
  simp only[go_sem,zE,reduceCtorEq];exact yQ0 ⟨by congr 3;simp[inB,A];omega,rfl⟩
 ·have A:¬ (117:Nat)<=c.toNat:=by simp at h;omega
  simp only[go_sem,zE];exact yQ0 ⟨by simp[inB,A],rfl⟩
theorem vVu (c:UInt8)(st:ISt):ICall prog gl 290 [.raw (.int .u8 c.toNat)] st (λx st'=>x=.raw (.bool (inB 97 116 c))/\st'=st):=by
 refine iI func290 ?_;simp only[go_sem,reduceCtorEq];refine yKi (λh=>?_) (λh=>?_)
 ·have A:(97:Nat)<=c.toNat:=by simp at h;omega
  simp only[go_sem,zE,reduceCtorEq];exact yQ0 ⟨by congr 3;simp[inB,A];omega,rfl⟩
 ·have A:¬ (97:Nat)<=c.toNat:=by simp at h;omega
  simp only[go_sem,zE];exact yQ0 ⟨by simp[inB,A],rfl⟩
theorem wKz (c:UInt8)(st:ISt):ICall prog gl 291 [.raw (.int .u8 c.toNat)] st (λx st'=>x=.raw (.bool (yY4 c))/\st'=st):=by
 refine iI func291 ?_;simp only[go_sem,zA,reduceCtorEq];refine (vQs gl c _).mono ?_;rintro _ _ ⟨rfl,rfl⟩;cases h1:yG0 c
 ·simp only[go_sem,zE,zA,reduceCtorEq];refine (xJz gl c _).mono ?_;rintro _ _ ⟨rfl,rfl⟩;cases h2:yJw c
  ·simp only[go_sem,zE,zA,reduceCtorEq];refine (wKm gl c _).mono ?_;rintro _ _ ⟨rfl,rfl⟩;simp only[go_sem,zE];exact yQ0 ⟨by simp[yY4,h1,h2],rfl⟩
  ·simp only[go_sem,zE];exact yQ0 ⟨by simp[yY4,h1,h2],rfl⟩
 ·simp only[go_sem,zE];exact yQ0 ⟨by simp[yY4,h1],rfl⟩
